/- Valid lists of groups, and where a group is: the reference's. -/
import Derived.Test.YtmblofcaiaeiaaaGreatDoorKWGs5
import Derived.Test.YtmblofcaiaeiaaaGreatDoorJ17
namespace Go.Proofs.YtmblofcaiaeiaaaGreatDoor
open Go.RowKit
set_option maxHeartbeats 400000
set_option maxRecDepth 100000
theorem spec_l21Good' (gs : List Grp) (cs : List Gc) (v : Value) (w : World) (h : GRd w v gs cs) (h2 : gs.length ≤ 1048576) (h3 : ∀ k, k < gs.length → (gs.getD k .z).s.size ≤ 1048576 ∧ (gs.getD k .z).xs.length ≤ 1048576) :
    Calls Tryz.prog 34 #[v] w fun e w' => e = .returned (.bool (goodG gs)) ∧ Ext w w' := by
  have Hv := hid h
  obtain ⟨p, cap, rfl, h4⟩ := h.form
  have H4 := hid h4
  clear h4 h
  go_enter Tryz.func34, Tryz.ntmps34
  go_wp2
  go_loopw [3] (fun v3 wr => ∃ k : Nat, k ≤ gs.length ∧ v3 = .int .i64 k ∧ (∀ i, i < k → okAt gs i = true) ∧ Ext w wr) (fun v3 _ => gs.length - (intOf v3).toNat)
  case atStart => exact ⟨0, Nat.zero_le _, rfl, fun _ h => absurd h (Nat.not_lt_zero _), Ext.refl _⟩
  case round =>
    obtain ⟨k, hk, rfl, hall, z, rfl⟩ := hrel
    by_cases hlt : k < gs.length
    · obtain ⟨b, off, rfl⟩ := H4.out.resolve_left (by omega)
      obtain ⟨c0, c1⟩ := Hv.out.at k hlt
      have hcr := hid ((Hv.out.2.2 k hlt).2)
      have next : okAt gs k = true → ∀ i, i < k + 1 → okAt gs i = true := fun h => upTo_succ hall h
      have bad : okAt gs k = false → goodG gs = false := fun h => by rw [goodG, allUpto hlt h]; rfl
      have hdef : okAt gs k = (okG (gs.getD k .z).s (gs.getD k .z).xs && (k == 0 || bl (gs.getD (k - 1) .z).s (gs.getD k .z).s)) := rfl
      have hsz := h3 k hlt
      have hprev : ∀ j, k = j + 1 → w.cell? ⟨b, off + j * 2, none⟩ = some (.string (gs.getD j .z).s) := fun j hj => (Hv.out.at j (by omega)).1
      generalize gs.getD k .z = G at *
      generalize (cs.getD k .z).u = x at *
      obtain ⟨s, xs⟩ := G
      dsimp only at c0 hcr hdef hsz
      have hig := hid (fun w h => spec_l21One s xs x w hsz.1 h hsz.2)
      have Next := hid next
      have Bad := hid bad
      have n1 : (k : Int) < (gs.length : Int) := by omega
      have n0 : (0 : Int) ≤ (k : Int) := by omega
      clear next bad hall
      cases e1 : okG s xs
      · rw [e1, Bool.false_and] at hdef
        rw [e1] at hig
        have Hdef := hid hdef
        clear hdef e1 hprev
        go_wp2
        refine wp_region_ext (by kernel_rfl) (by kernel_rfl) ?_
        repeat (go_big_quiet_step ((first | (go_at_call 67; exact Calls.quiet_ext (hig.out _ (hcr.out.ext (by repeat' (first | exact Ext.refl _ | assumption | refine Ext.alloc ?_ _ | refine Ext.ext ?_ _ | refine Ext.drew ?_ | refine Ext.drewN ?_ _))))))))
        refine wpQuiet_nil ?_
        rintro _ ⟨zq, rfl⟩
        go_wp2
        go_ret
        exact ⟨by rw [Bad.out Hdef.out]; rfl, (by repeat' (first | exact Ext.refl _ | assumption | refine Ext.alloc ?_ _ | refine Ext.ext ?_ _ | refine Ext.drew ?_ | refine Ext.drewN ?_ _))⟩
      · rw [e1, Bool.true_and] at hdef
        rw [e1] at hig
        clear e1
        by_cases hk0 : k = 0
        · have hnx := hid (Next.out (by rw [hdef]; simp [hk0]))
          have hgt : decide (0 < (k : Int)) = false := by simp; omega
          have hgn : decide (0 < k) = false := by simp; omega
          clear hdef hprev hk0
          go_wp2
          refine wp_region_ext (by kernel_rfl) (by kernel_rfl) ?_
          repeat (go_big_quiet_step ((first | (go_at_call 67; exact Calls.quiet_ext (hig.out _ (hcr.out.ext (by repeat' (first | exact Ext.refl _ | assumption | refine Ext.alloc ?_ _ | refine Ext.ext ?_ _ | refine Ext.drew ?_ | refine Ext.drewN ?_ _))))))))
          refine wpQuiet_nil ?_
          rintro _ ⟨zq, rfl⟩
          go_wp2
          go_roundw
          case rel => exact ⟨k + 1, by omega, by go_num, hnx.out, (by repeat' (first | exact Ext.refl _ | assumption | refine Ext.alloc ?_ _ | refine Ext.ext ?_ _ | refine Ext.drew ?_ | refine Ext.drewN ?_ _))⟩
          case measure => simp [intOf]; omega
        · obtain ⟨j, rfl⟩ : ∃ j, k = j + 1 := ⟨k - 1, by omega⟩
          have d0 := hprev j rfl
          have t0 : decide ((0 : Int) < (j : Int) + 1) = true := by apply decide_eq_true; omega
          have t00 : decide (0 < j + 1) = true := by simp
          simp only [Nat.add_sub_cancel] at hdef
          have e0 : ((j + 1 == 0) = false) := by simp
          rw [e0, Bool.false_or] at hdef
          generalize (gs.getD j .z).s = s' at d0 hdef
          have n2 : IntKind.i64.wrap ((j : Int) + 1 - 1) = j := by rw [IntWalk.i64_in _ (by omega)]; omega
          have hbl : bl s' s = Op.bytesLess s'.toList s.toList := rfl
          clear hprev e0 hk0
          cases hd : bl s' s
          · rw [hd] at hdef
            rw [hbl] at hd
            have Hdef := hid hdef
            clear hdef hbl
            go_wp2
            refine wp_region_ext (by kernel_rfl) (by kernel_rfl) ?_
            repeat (go_big_quiet_step ((first | (go_at_call 67; exact Calls.quiet_ext (hig.out _ (hcr.out.ext (by repeat' (first | exact Ext.refl _ | assumption | refine Ext.alloc ?_ _ | refine Ext.ext ?_ _ | refine Ext.drew ?_ | refine Ext.drewN ?_ _))))))))
            refine wpQuiet_nil ?_
            rintro _ ⟨zq, rfl⟩
            go_wp2
            go_ret
            exact ⟨by rw [Bad.out Hdef.out]; rfl, (by repeat' (first | exact Ext.refl _ | assumption | refine Ext.alloc ?_ _ | refine Ext.ext ?_ _ | refine Ext.drew ?_ | refine Ext.drewN ?_ _))⟩
          · rw [hd] at hdef
            rw [hbl] at hd
            have Hdef := hid hdef
            clear hdef hbl
            go_wp2
            refine wp_region_ext (by kernel_rfl) (by kernel_rfl) ?_
            repeat (go_big_quiet_step ((first | (go_at_call 67; exact Calls.quiet_ext (hig.out _ (hcr.out.ext (by repeat' (first | exact Ext.refl _ | assumption | refine Ext.alloc ?_ _ | refine Ext.ext ?_ _ | refine Ext.drew ?_ | refine Ext.drewN ?_ _))))))))
            refine wpQuiet_nil ?_
            rintro _ ⟨zq, rfl⟩
            go_wp2
            go_roundw
            case rel => exact ⟨j + 1 + 1, by omega, by go_num, Next.out Hdef.out, (by repeat' (first | exact Ext.refl _ | assumption | refine Ext.alloc ?_ _ | refine Ext.ext ?_ _ | refine Ext.drew ?_ | refine Ext.drewN ?_ _))⟩
            case measure => simp [intOf]; omega
    · have hf : goodG gs = decide (gs.length ≤ 8) := by rw [goodG, allTo (fun i hi => hall i (by omega)), Bool.true_and]
      have Hf := hid hf
      clear hf hall
      go_wp2
      go_ret
      exact ⟨by rw [Hf.out]; congr 2; simp; omega, (by repeat' (first | exact Ext.refl _ | assumption | refine Ext.alloc ?_ _ | refine Ext.ext ?_ _ | refine Ext.drew ?_ | refine Ext.drewN ?_ _))⟩
theorem spec_l21Good (gs : List Grp) (cs : List Gc) (v : Value) (w : World) (h : GRd w v gs cs) (h2 : gs.length ≤ 1048576) (h3 : Grp.sum gs ≤ 1048576) :
    Calls Tryz.prog 34 #[v] w fun e w' => e = .returned (.bool (goodG gs)) ∧ Ext w w' := spec_l21Good' gs cs v w h h2 (fun _ hk => Grp.sum_at h3 hk)
/-- Where the reference finds a group. -/
def fndI (gs : List Grp) (name : ByteArray) : Int := if fhas gs name then (fidx gs name : Int) else -1
theorem spec_l21Find (gs : List Grp) (cs : List Gc) (v : Value) (name : ByteArray) (w : World) (h : GRd w v gs cs) (h2 : gs.length ≤ 1048576) :
    Calls Tryz.prog 48 #[v, .string name] w fun e w' => e = .returned (.int .i64 (fndI gs name)) ∧ Ext w w' := by
  have Hv := hid h
  obtain ⟨p, cap, rfl, h4⟩ := h.form
  have H4 := hid h4
  clear h4 h
  go_enter Tryz.func48, Tryz.ntmps48
  go_wp2
  go_loopw [5] (fun v5 wr => ∃ k : Nat, k ≤ gs.length ∧ v5 = .int .i64 k ∧ Hid (∀ i, i < k → ¬ (gs.getD i .z).s = name) ∧ Ext w wr) (fun v5 _ => gs.length - (intOf v5).toNat)
  case atStart => exact ⟨0, Nat.zero_le _, rfl, fun _ h => absurd h (Nat.not_lt_zero _), Ext.refl _⟩
  case round =>
    obtain ⟨k, hk, rfl, hall, z, rfl⟩ := hrel
    by_cases hlt : k < gs.length
    · obtain ⟨b, off, rfl⟩ := H4.out.resolve_left (by omega)
      obtain ⟨c0, -⟩ := Hv.out.at k hlt
      have next : ¬ (gs.getD k .z).s = name → ∀ i, i < k + 1 → ¬ (gs.getD i .z).s = name := fun h => upTo_succ hall.out h
      have yes : (gs.getD k .z).s = name → fndI gs name = k := fun h => by rw [fndI, fhas_at hlt h, fidx_at hlt hall.out h]; rfl
      generalize (gs.getD k .z).s = s at *
      have Next := hid next
      have Yes := hid yes
      clear next yes hall
      by_cases e : s = name
      · have t0 : (s.toList == name.toList) = true := by rw [e]; simp
        have Y := hid (Yes.out e)
        subst e
        go_wp2
        go_ret
        exact ⟨by rw [Y.out]; rfl, (by repeat' (first | exact Ext.refl _ | assumption | refine Ext.alloc ?_ _ | refine Ext.ext ?_ _ | refine Ext.drew ?_ | refine Ext.drewN ?_ _))⟩
      · have t0 : (s.toList == name.toList) = false := by
          rw [beq_eq_false_iff_ne]
          intro h
          rw [ByteArray.toList_eq, ByteArray.toList_eq] at h
          exact e (toList_inj h)
        have Nx := hid (Next.out e)
        clear e
        go_wp2
        go_roundw
        case rel => exact ⟨k + 1, by omega, by go_num, Nx, (by repeat' (first | exact Ext.refl _ | assumption | refine Ext.alloc ?_ _ | refine Ext.ext ?_ _ | refine Ext.drew ?_ | refine Ext.drewN ?_ _))⟩
        case measure => simp [intOf]; omega
    · have hf : fndI gs name = -1 := by rw [fndI, fhas_no (fun i hi => hall.out i (by omega))]; rfl
      have Hf := hid hf
      clear hf hall
      go_wp2
      go_ret
      exact ⟨by rw [Hf.out]; rfl, (by repeat' (first | exact Ext.refl _ | assumption | refine Ext.alloc ?_ _ | refine Ext.ext ?_ _ | refine Ext.drew ?_ | refine Ext.drewN ?_ _))⟩
/-- The members of a group, or none. -/
def memL (gs : List Grp) (name : ByteArray) : List Int := if fhas gs name then (gs.getD (fidx gs name) .z).xs else []
theorem spec_l21Members (gs : List Grp) (cs : List Gc) (v : Value) (name : ByteArray) (w : World) (h : GRd w v gs cs) (h2 : gs.length ≤ 1048576) (h3 : Grp.sum gs ≤ 1048576) :
    Calls Tryz.prog 33 #[v, .string name] w fun e w' => ∃ r, e = .returned r ∧ w'.ownsRow w.heap.size 3 1 r (memL gs name).length (vInts (memL gs name)) ∧ Ext w w' := by
  have Hv := hid h
  have hf := hid (fun w h => spec_l21Find gs cs v name w h h2)
  cases e1 : fhas gs name
  · have e2 : fndI gs name = -1 := by rw [fndI, e1]; rfl
    have e3 : memL gs name = [] := by rw [memL, e1]; rfl
    rw [e2] at hf
    rw [e3]
    clear e1 e2 e3 h
    go_enter Tryz.func33, Tryz.ntmps33
    go_wp2_with (go_at_call 48; refine (hf.out _ Hv.out).mono ?_; rintro e w' ⟨rfl, z1, rfl⟩)
    go_ret
    exact ⟨_, rfl, by simpa [vInts] using World.ownsRow_lit (base := w.heap.size) (e := 3) (size := 1) (w.ext z1) #[] 0 (by simp [World.size_ext]) (Nat.zero_le _) rfl, (by repeat' (first | exact Ext.refl _ | assumption | refine Ext.alloc ?_ _ | refine Ext.ext ?_ _ | refine Ext.drew ?_ | refine Ext.drewN ?_ _))⟩
  · obtain ⟨g1, g2⟩ := fhas_get e1
    have e2 : fndI gs name = (fidx gs name : Int) := by rw [fndI, e1]; rfl
    have e3 : memL gs name = (gs.getD (fidx gs name) .z).xs := by rw [memL, e1]; rfl
    rw [e2] at hf
    rw [e3]
    obtain ⟨p, cap, rfl, h4⟩ := h.form
    obtain ⟨b, off, rfl⟩ := h4.resolve_left (by omega)
    obtain ⟨c0, c1⟩ := h.at _ g1
    have hcr := hid ((h.2.2 _ g1).2)
    have hsz := Grp.sum_at h3 g1
    clear e1 e2 e3 h4 g2
    generalize fidx gs name = k at *
    generalize gs.getD k .z = G at *
    generalize (cs.getD k .z).u = x at *
    obtain ⟨s, xs⟩ := G
    dsimp only at c0 hcr hsz ⊢
    have hown := hid (fun w h => spec_l1Own xs x w h hsz.2)
    clear h
    go_enter Tryz.func33, Tryz.ntmps33
    go_wp2_with (first | (go_at_call 48; refine (hf.out _ Hv.out).mono ?_; rintro e w' ⟨rfl, z1, rfl⟩) | (go_at_call 66; refine (hown.out _ (hcr.out.ext (by repeat' (first | exact Ext.refl _ | assumption | refine Ext.alloc ?_ _ | refine Ext.ext ?_ _ | refine Ext.drew ?_ | refine Ext.drewN ?_ _)))).mono ?_; rintro e w2 ⟨r, rfl, ho, hx2⟩))
    go_ret
    exact ⟨_, rfl, own_mono ho (show Ext w _ from (by repeat' (first | exact Ext.refl _ | assumption | refine Ext.alloc ?_ _ | refine Ext.ext ?_ _ | refine Ext.drew ?_ | refine Ext.drewN ?_ _))).size, (show Ext w _ from (by repeat' (first | exact Ext.refl _ | assumption | refine Ext.alloc ?_ _ | refine Ext.ext ?_ _ | refine Ext.drew ?_ | refine Ext.drewN ?_ _))).trans hx2⟩
end Go.Proofs.YtmblofcaiaeiaaaGreatDoor
