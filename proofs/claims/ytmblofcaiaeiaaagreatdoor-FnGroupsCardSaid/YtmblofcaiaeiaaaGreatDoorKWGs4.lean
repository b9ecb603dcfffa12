/- Valid lists of groups, and where a group is: both sides. -/
import Derived.Test.YtmblofcaiaeiaaaGreatDoorJ13
import Derived.Laws.Cover1
namespace Go.Proofs.YtmblofcaiaeiaaaGreatDoor
open Go.RowKit
set_option maxHeartbeats 400000
set_option maxRecDepth 100000
def okAt (gs : List Grp) (i : Nat) : Bool := okG (gs.getD i .z).s (gs.getD i .z).xs && (i == 0 || bl (gs.getD (i - 1) .z).s (gs.getD i .z).s)
def goodG (gs : List Grp) : Bool := (List.range gs.length).all (okAt gs) && decide (gs.length ≤ 8)
theorem goodG_at {gs : List Grp} (h : goodG gs = true) (i : Nat) (hi : i < gs.length) : okAt gs i = true := by
  rw [goodG, Bool.and_eq_true] at h
  exact (List.all_eq_true.1 h.1) i (List.mem_range.2 hi)
theorem goodG_len {gs : List Grp} (h : goodG gs = true) : gs.length ≤ 8 := by
  rw [goodG, Bool.and_eq_true, decide_eq_true_eq] at h
  exact h.2
theorem goodG_ok {gs : List Grp} (h : goodG gs = true) (i : Nat) (hi : i < gs.length) : okG (gs.getD i .z).s (gs.getD i .z).xs = true := by
  have := goodG_at h i hi
  rw [okAt, Bool.and_eq_true] at this
  exact this.1
theorem goodG_lt {gs : List Grp} (h : goodG gs = true) : ∀ d i, i + d + 1 < gs.length → bl (gs.getD i .z).s (gs.getD (i + d + 1) .z).s = true := by
  intro d
  induction d with
  | zero =>
    intro i hi
    have := goodG_at h (i + 1) hi
    rw [okAt, Bool.and_eq_true] at this
    simpa using this.2
  | succ d ih =>
    intro i hi
    have h1 := ih i (by omega)
    have h2 := goodG_at h (i + (d + 1) + 1) hi
    rw [okAt, Bool.and_eq_true] at h2
    have h3 : bl (gs.getD (i + d + 1) .z).s (gs.getD (i + (d + 1) + 1) .z).s = true := by simpa [Nat.add_assoc] using h2.2
    exact bl_trans h1 h3
theorem goodG_bl {gs : List Grp} (h : goodG gs = true) {i j : Nat} (hij : i < j) (hj : j < gs.length) : bl (gs.getD i .z).s (gs.getD j .z).s = true := by
  have := goodG_lt h (j - i - 1) i (by omega)
  rwa [show i + (j - i - 1) + 1 = j by omega] at this
theorem goodG_mem {gs : List Grp} (h : goodG gs = true) (i : Nat) (hi : i < gs.length) : (gs.getD i .z).s.size ≤ 8 ∧ 0 < (gs.getD i .z).xs.length ∧ (gs.getD i .z).xs.length ≤ 7 ∧ asc (gs.getD i .z).xs ∧ ∀ y ∈ (gs.getD i .z).xs, 1 ≤ y ∧ y ≤ 7 := by
  obtain ⟨a, b, c⟩ := okG_all (goodG_ok h i hi)
  have hm := risB_mem c
  have hl : ∀ (L : List Int) (a : Nat), asc L → (∀ y ∈ L, (a : Int) ≤ y ∧ y < 8) → L.length ≤ 8 - a := by
    intro L
    induction L with
    | nil => intro a _ _; simp
    | cons x L ih =>
      intro a h1 h2
      obtain ⟨h3, h4⟩ := List.pairwise_cons.1 h1
      have h5 := h2 x (by simp)
      have := ih (a + 1) h4 (fun y hy => ⟨by have := h3 y hy; omega, (h2 y (by simp [hy])).2⟩)
      rw [List.length_cons]; omega
  have := hl _ 1 (risB_asc c) (fun y hy => by have := hm y hy; omega)
  exact ⟨(gnm_size a).2, b, by omega, risB_asc c, hm⟩
theorem impl_IsGroupList (gs : List Grp) (cs : List Gc) (v : Value) (w : World) (h : GRd w v gs cs) (h2 : gs.length ≤ 1048576) (h3 : Grp.sum gs ≤ 1048576) :
    Calls Tryz.prog 11 #[v] w fun e w' => e = .returned (.bool (goodG gs)) ∧ Ext w w' := by
  have Hv := hid h
  obtain ⟨p, cap, rfl, h4⟩ := h.form
  have H4 := hid h4
  clear h4 h
  go_enter Tryz.func11, Tryz.ntmps11
  go_wp2
  go_loopw [7] (fun v7 wr => ∃ k : Nat, k ≤ gs.length ∧ v7 = .int .i64 k ∧ (∀ i, i < k → okAt gs i = true) ∧ Ext w wr) (fun v7 _ => gs.length - (intOf v7).toNat)
  case atStart => exact ⟨0, Nat.zero_le _, rfl, fun _ h => absurd h (Nat.not_lt_zero _), Ext.refl _⟩
  case round =>
    obtain ⟨k, hk, rfl, hall, z, rfl⟩ := hrel
    by_cases hlt : k < gs.length
    · obtain ⟨b, off, rfl⟩ := H4.out.resolve_left (by omega)
      obtain ⟨c0, c1⟩ := Hv.out.at k hlt
      have hcr := hid ((Hv.out.2.2 k hlt).2)
      have next : okAt gs k = true → ∀ i, i < k + 1 → okAt gs i = true := fun h => upTo_succ hall h
      have bad : okAt gs k = false → goodG gs = false := fun h => by rw [goodG, allUpto hlt h]; rfl
      have hdef : okAt gs k = (okG (gs.getD k .z).s (gs.getD k .z).xs && (k == 0 || bl (gs.getD (k - 1) .z).s (gs.getD k .z).s)) := rfl
      have hsz := Grp.sum_at h3 hlt
      have hprev : ∀ j, k = j + 1 → w.cell? ⟨b, off + j * 2, none⟩ = some (.string (gs.getD j .z).s) := fun j hj => (Hv.out.at j (by omega)).1
      generalize gs.getD k .z = G at *
      generalize (cs.getD k .z).u = x at *
      obtain ⟨s, xs⟩ := G
      dsimp only at c0 hcr hdef hsz
      obtain ⟨xp, xc, hx⟩ : ∃ xp xc, x = .slice xp xs.length xc := by obtain ⟨-, xp, xc, hx, -⟩ := hcr.out; exact ⟨xp, xc, hx⟩
      subst hx
      have hig := hid (fun (w : World) (h : Rd w 1 (.slice xp xs.length xc) xs.length (vInts xs)) => impl_isGroup s xs _ w hsz.1 h hsz.2)
      have Next := hid next
      have Bad := hid bad
      have n1 : (k : Int) < (gs.length : Int) := by omega
      have n0 : (0 : Int) ≤ (k : Int) := by omega
      clear next bad hall
      cases e1 : okG s xs
      · rw [e1, Bool.false_and] at hdef
        rw [e1] at hig
        have Hdef := hid hdef
        clear hdef e1 hprev
        go_wp2
        refine wp_region_ext (by kernel_rfl) (by kernel_rfl) ?_
        repeat (go_big_quiet_step ((first | (go_at_call 43; exact Calls.quiet_ext (hig.out _ (hcr.out.ext (by repeat' (first | exact Ext.refl _ | assumption | refine Ext.alloc ?_ _ | refine Ext.ext ?_ _ | refine Ext.drew ?_ | refine Ext.drewN ?_ _))))))))
        refine wpQuiet_nil ?_
        rintro _ ⟨zq, rfl⟩
        go_wp2
        go_ret
        exact ⟨by rw [Bad.out Hdef.out]; rfl, (by repeat' (first | exact Ext.refl _ | assumption | refine Ext.alloc ?_ _ | refine Ext.ext ?_ _ | refine Ext.drew ?_ | refine Ext.drewN ?_ _))⟩
      · rw [e1, Bool.true_and] at hdef
        rw [e1] at hig
        clear e1
        by_cases hk0 : k = 0
        · have hnx := hid (Next.out (by rw [hdef]; simp [hk0]))
          have hgt : decide (0 < (k : Int)) = false := by simp; omega
          have hgn : decide (0 < k) = false := by simp; omega
          clear hdef hprev hk0
          go_wp2
          refine wp_region_ext (by kernel_rfl) (by kernel_rfl) ?_
          repeat (go_big_quiet_step ((first | (go_at_call 43; exact Calls.quiet_ext (hig.out _ (hcr.out.ext (by repeat' (first | exact Ext.refl _ | assumption | refine Ext.alloc ?_ _ | refine Ext.ext ?_ _ | refine Ext.drew ?_ | refine Ext.drewN ?_ _))))))))
          refine wpQuiet_nil ?_
          rintro _ ⟨zq, rfl⟩
          go_wp2
          go_roundw
          case rel => exact ⟨k + 1, by omega, by go_num, hnx.out, (by repeat' (first | exact Ext.refl _ | assumption | refine Ext.alloc ?_ _ | refine Ext.ext ?_ _ | refine Ext.drew ?_ | refine Ext.drewN ?_ _))⟩
          case measure => simp [intOf]; omega
        · obtain ⟨j, rfl⟩ : ∃ j, k = j + 1 := ⟨k - 1, by omega⟩
          have d0 := hprev j rfl
          have t0 : decide ((0 : Int) < (j : Int) + 1) = true := by apply decide_eq_true; omega
          have t00 : decide (0 < j + 1) = true := by simp
          simp only [Nat.add_sub_cancel] at hdef
          have e0 : ((j + 1 == 0) = false) := by simp
          rw [e0, Bool.false_or] at hdef
          generalize (gs.getD j .z).s = s' at d0 hdef
          have n2 : IntKind.i64.wrap ((j : Int) + 1 - 1) = j := by rw [IntWalk.i64_in _ (by omega)]; omega
          have hbl : bl s' s = Op.bytesLess s'.toList s.toList := rfl
          clear hprev e0 hk0
          cases hd : bl s' s
          · rw [hd] at hdef
            rw [hbl] at hd
            have Hdef := hid hdef
            clear hdef hbl
            go_wp2
            refine wp_region_ext (by kernel_rfl) (by kernel_rfl) ?_
            repeat (go_big_quiet_step ((first | (go_at_call 43; exact Calls.quiet_ext (hig.out _ (hcr.out.ext (by repeat' (first | exact Ext.refl _ | assumption | refine Ext.alloc ?_ _ | refine Ext.ext ?_ _ | refine Ext.drew ?_ | refine Ext.drewN ?_ _))))))))
            refine wpQuiet_nil ?_
            rintro _ ⟨zq, rfl⟩
            go_wp2
            go_ret
            exact ⟨by rw [Bad.out Hdef.out]; rfl, (by repeat' (first | exact Ext.refl _ | assumption | refine Ext.alloc ?_ _ | refine Ext.ext ?_ _ | refine Ext.drew ?_ | refine Ext.drewN ?_ _))⟩
          · rw [hd] at hdef
            rw [hbl] at hd
            have Hdef := hid hdef
            clear hdef hbl
            go_wp2
            refine wp_region_ext (by kernel_rfl) (by kernel_rfl) ?_
            repeat (go_big_quiet_step ((first | (go_at_call 43; exact Calls.quiet_ext (hig.out _ (hcr.out.ext (by repeat' (first | exact Ext.refl _ | assumption | refine Ext.alloc ?_ _ | refine Ext.ext ?_ _ | refine Ext.drew ?_ | refine Ext.drewN ?_ _))))))))
            refine wpQuiet_nil ?_
            rintro _ ⟨zq, rfl⟩
            go_wp2
            go_roundw
            case rel => exact ⟨j + 1 + 1, by omega, by go_num, Next.out Hdef.out, (by repeat' (first | exact Ext.refl _ | assumption | refine Ext.alloc ?_ _ | refine Ext.ext ?_ _ | refine Ext.drew ?_ | refine Ext.drewN ?_ _))⟩
            case measure => simp [intOf]; omega
    · have hf : goodG gs = decide (gs.length ≤ 8) := by rw [goodG, allTo (fun i hi => hall i (by omega)), Bool.true_and]
      have Hf := hid hf
      clear hf hall
      go_wp2
      go_ret
      exact ⟨by rw [Hf.out]; congr 2; simp; omega, (by repeat' (first | exact Ext.refl _ | assumption | refine Ext.alloc ?_ _ | refine Ext.ext ?_ _ | refine Ext.drew ?_ | refine Ext.drewN ?_ _))⟩
end Go.Proofs.YtmblofcaiaeiaaaGreatDoor
