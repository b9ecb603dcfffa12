/- Lists of groups in the laws' own words: comparisons, sizes, marks. -/
import Derived.Test.YthjklcodgcojbaaDoorWGs2
namespace Go.Proofs.YthjklcodgcojbaaDoor
open Go.RowKit
set_option maxHeartbeats 400000
set_option maxRecDepth 100000
theorem laws_eqGroupS (gs : List Grp) (cs ds : List Gc) (v u : Value) (w : World) (hv : GRd w v gs cs) (hu : GRd w u gs ds) (hn : gs.length ≤ 1048576) (hm : ∀ i, i < gs.length → (gs.getD i .z).xs.length ≤ 1048576) :
    Calls Tryd.prog 16 #[v, u] w fun e w' => e = .returned (.bool true) ∧ Ext w w' := by
  have Hv := hid hv
  have Hu := hid hu
  have Hm := hid hm
  obtain ⟨p, cap, rfl, h4⟩ := hv.form
  obtain ⟨p', cap', rfl, h4'⟩ := hu.form
  have H4 := hid h4
  have H4' := hid h4'
  clear h4 h4' hv hu hm
  go_enter Tryd.func16, Tryd.ntmps16
  go_wp2
  go_loopw [5] (fun v5 wr => ∃ (k : Nat), k ≤ gs.length ∧ v5 = .int .i64 k ∧ Ext w wr) (fun v5 _ => gs.length - (intOf v5).toNat)
  case atStart => exact ⟨0, Nat.zero_le _, rfl, Ext.refl _⟩
  case round =>
    obtain ⟨k, hk, rfl, z, rfl⟩ := hrel
    by_cases hlt : k < gs.length
    · obtain ⟨b, off, rfl⟩ := H4.out.resolve_left (by omega)
      obtain ⟨b', off', rfl⟩ := H4'.out.resolve_left (by omega)
      obtain ⟨c0, c1⟩ := Hv.out.at k hlt
      obtain ⟨d0, d1⟩ := Hu.out.at k hlt
      have hc := hid (fun w h h' => laws_eqGroup (s := (gs.getD k .z).s) (gs.getD k .z).xs (cs.getD k .z).u (ds.getD k .z).u w h h' (Hm.out k hlt))
      have hcr := hid ((Hv.out.2.2 k hlt).2)
      have hdr := hid ((Hu.out.2.2 k hlt).2)
      generalize gs.getD k .z = G at *
      generalize (cs.getD k .z).u = x at *
      generalize (ds.getD k .z).u = y at *
      obtain ⟨s, xs⟩ := G
      dsimp only at c0 d0 hc hcr hdr
      go_wp2
      refine wp_region_ext (by kernel_rfl) (by kernel_rfl) ?_
      repeat (go_big_quiet_step ((first | (go_at_call 30; exact Calls.quiet_ext (hc.out _ (hcr.out.ext (by repeat' (first | exact Ext.refl _ | assumption | refine Ext.alloc ?_ _ | refine Ext.ext ?_ _ | refine Ext.drew ?_ | refine Ext.drewN ?_ _))) (hdr.out.ext (by repeat' (first | exact Ext.refl _ | assumption | refine Ext.alloc ?_ _ | refine Ext.ext ?_ _ | refine Ext.drew ?_ | refine Ext.drewN ?_ _))))))))
      refine wpQuiet_nil ?_
      rintro _ ⟨zq, rfl⟩
      go_wp2
      go_roundw
      case rel => exact ⟨k + 1, by omega, by go_num, ((Ext.refl _).ext _).ext _⟩
      case measure => simp [intOf]; omega
    · go_wp2
      go_ret
      exact ⟨rfl, (Ext.refl _).ext _⟩
/-- Bytes and members of all groups. -/
def Grp.sum (gs : List Grp) : Nat := (gs.map (fun g => g.s.size + g.xs.length)).sum
theorem Grp.sum_take (gs : List Grp) (k : Nat) (h : k < gs.length) : Grp.sum (gs.take (k + 1)) = Grp.sum (gs.take k) + ((gs.getD k .z).s.size + (gs.getD k .z).xs.length) := by
  rw [take_snoc gs .z k h]
  simp [Grp.sum]
theorem Grp.sum_le (gs : List Grp) (k : Nat) : Grp.sum (gs.take k) ≤ Grp.sum gs := by
  have : Grp.sum gs = Grp.sum (gs.take k) + Grp.sum (gs.drop k) := by
    unfold Grp.sum
    rw [← List.sum_append, ← List.map_append, List.take_append_drop]
  omega
theorem Grp.sum_at {gs : List Grp} {n : Nat} (h2 : Grp.sum gs ≤ n) {k : Nat} (hk : k < gs.length) : (gs.getD k .z).s.size ≤ n ∧ (gs.getD k .z).xs.length ≤ n := by
  have h1 := Grp.sum_take gs k hk
  have h3 := Grp.sum_le gs (k + 1)
  omega
theorem laws_szGroupS (gs : List Grp) (cs : List Gc) (v : Value) (left : Int) (w : World) (hv : GRd w v gs cs) (hn : (gs.length : Int) + Grp.sum gs ≤ left) (hl : left ≤ 1048576) :
    Calls Tryd.prog 11 #[v, .int .i64 left] w fun e w' => e = .returned (.int .i64 (left - gs.length - Grp.sum gs)) ∧ Ext w w' := by
  have Hv := hid hv
  obtain ⟨p, cap, rfl, h4⟩ := hv.form
  have H4 := hid h4
  clear h4 hv
  have t0 : decide (left - (gs.length : Int) < 0) = false := by simp; omega
  have w0 : IntKind.i64.wrap (left - (gs.length : Int)) = left - gs.length := IntWalk.i64_in _ (by omega)
  go_enter Tryd.func11, Tryd.ntmps11
  go_wp2
  go_loopw [5, 1] (fun v5 v1 wr => ∃ (k : Nat), k ≤ gs.length ∧ v5 = .int .i64 k ∧ v1 = .int .i64 (left - gs.length - Grp.sum (gs.take k)) ∧ Ext w wr) (fun v5 _ _ => gs.length - (intOf v5).toNat)
  case atStart => exact ⟨0, Nat.zero_le _, rfl, by simp [Grp.sum], Ext.refl _⟩
  case round =>
    obtain ⟨k, hk, rfl, rfl, z, rfl⟩ := hrel
    by_cases hlt : k < gs.length
    · obtain ⟨b, off, rfl⟩ := H4.out.resolve_left (by omega)
      obtain ⟨c0, c1⟩ := Hv.out.at k hlt
      have hcr := hid ((Hv.out.2.2 k hlt).2)
      have ht := Grp.sum_take gs k hlt
      have hl1 := Grp.sum_le gs (k + 1)
      generalize gs.getD k .z = G at *
      generalize (cs.getD k .z).u = x at *
      obtain ⟨s, xs⟩ := G
      dsimp only at c0 hcr ht
      generalize hT : Grp.sum (gs.take k) = T at *
      have hc := hid (fun w h => laws_szGroup s (vInts xs) x (left - (gs.length : Int) - T) xs.length 1 w h (by omega) (by omega))
      have t1 : decide (left - (gs.length : Int) - T - s.size - xs.length < 0) = false := by simp; omega
      have Ht := hid ht; clear ht hT
      go_wp2_with (go_at_call 24; refine (hc.out _ (hcr.out.ext (by repeat' (first | exact Ext.refl _ | assumption | refine Ext.alloc ?_ _ | refine Ext.ext ?_ _ | refine Ext.drew ?_ | refine Ext.drewN ?_ _)))).mono ?_; rintro e w' ⟨rfl, z1, rfl⟩)
      go_roundw
      case rel => exact ⟨k + 1, by omega, by go_num, by rw [Ht.out]; congr 1; omega, (by repeat' (first | exact Ext.refl _ | assumption | refine Ext.alloc ?_ _ | refine Ext.ext ?_ _ | refine Ext.drew ?_ | refine Ext.drewN ?_ _))⟩
      case measure => simp [intOf]; omega
    · obtain rfl : k = gs.length := by omega
      go_wp2
      go_ret
      exact ⟨by rw [List.take_length]; rfl, (by repeat' (first | exact Ext.refl _ | assumption | refine Ext.alloc ?_ _ | refine Ext.ext ?_ _ | refine Ext.drew ?_ | refine Ext.drewN ?_ _))⟩
theorem laws_szGroupS_big (gs : List Grp) (cs : List Gc) (v : Value) (left : Int) (w : World) (hv : GRd w v gs cs) (hn : left < (gs.length : Int) + Grp.sum gs) (hl0 : 0 ≤ left) (hl : left ≤ 1048576) (hm : gs.length ≤ maxLen) (hsz : ∀ i, i < gs.length → (gs.getD i .z).s.size ≤ maxLen ∧ (gs.getD i .z).xs.length ≤ maxLen) :
    Calls Tryd.prog 11 #[v, .int .i64 left] w fun e w' => e = .returned (.int .i64 (-1)) ∧ Ext w w' := by
  have Hv := hid hv
  obtain ⟨p, cap, rfl, h4⟩ := hv.form
  have H4 := hid h4
  clear h4 hv
  have Hsz := hid hsz; clear hsz
  have hml : maxLen = 9223372036854775807 := rfl
  have w0 : IntKind.i64.wrap (left - (gs.length : Int)) = left - gs.length := IntWalk.i64_in _ (by omega)
  by_cases hc : left - (gs.length : Int) < 0
  · have t0 : decide (left - (gs.length : Int) < 0) = true := by simp; omega
    go_enter Tryd.func11, Tryd.ntmps11
    go_wp2
    go_returns
    exact ⟨rfl, (by repeat' (first | exact Ext.refl _ | assumption | refine Ext.alloc ?_ _ | refine Ext.ext ?_ _ | refine Ext.drew ?_ | refine Ext.drewN ?_ _))⟩
  · have t0 : decide (left - (gs.length : Int) < 0) = false := by simp; omega
    go_enter Tryd.func11, Tryd.ntmps11
    go_wp2
    go_loopw [5, 1] (fun v5 v1 wr => ∃ (k : Nat), k ≤ gs.length ∧ v5 = .int .i64 k ∧ v1 = .int .i64 (left - gs.length - Grp.sum (gs.take k)) ∧ (gs.length : Int) + Grp.sum (gs.take k) ≤ left ∧ Ext w wr) (fun v5 _ _ => gs.length - (intOf v5).toNat)
    case atStart => exact ⟨0, Nat.zero_le _, rfl, by simp [Grp.sum], by simp [Grp.sum]; omega, Ext.refl _⟩
    case round =>
      obtain ⟨k, hk, rfl, rfl, hk2, z, rfl⟩ := hrel
      by_cases hlt : k < gs.length
      · obtain ⟨b, off, rfl⟩ := H4.out.resolve_left (by omega)
        obtain ⟨c0, c1⟩ := Hv.out.at k hlt
        have hcr := hid ((Hv.out.2.2 k hlt).2)
        have ht := Grp.sum_take gs k hlt
        have hx := Hsz.out k hlt
        generalize gs.getD k .z = G at *
        generalize (cs.getD k .z).u = x at *
        obtain ⟨s, xs⟩ := G
        dsimp only at c0 hcr ht hx
        generalize hT : Grp.sum (gs.take k) = T at *
        by_cases hc1 : left - (gs.length : Int) - T - s.size - xs.length < 0
        · have hcc := hid (fun w h => laws_szGroup_big s (vInts xs) x (left - (gs.length : Int) - T) xs.length 1 w h (by omega) hx.1 (by omega) (by omega) hx.2)
          clear ht hT hx hml
          go_wp2_with (go_at_call 24; refine (hcc.out _ (hcr.out.ext (by repeat' (first | exact Ext.refl _ | assumption | refine Ext.alloc ?_ _ | refine Ext.ext ?_ _ | refine Ext.drew ?_ | refine Ext.drewN ?_ _)))).mono ?_; rintro e w' ⟨rfl, z1, rfl⟩)
          go_ret
          exact ⟨rfl, (by repeat' (first | exact Ext.refl _ | assumption | refine Ext.alloc ?_ _ | refine Ext.ext ?_ _ | refine Ext.drew ?_ | refine Ext.drewN ?_ _))⟩
        · have hcc := hid (fun w h => laws_szGroup s (vInts xs) x (left - (gs.length : Int) - T) xs.length 1 w h (by omega) (by omega))
          have t1 : decide (left - (gs.length : Int) - T - s.size - xs.length < 0) = false := by simp; omega
          have Ht := hid ht; clear ht hT hx hml
          go_wp2_with (go_at_call 24; refine (hcc.out _ (hcr.out.ext (by repeat' (first | exact Ext.refl _ | assumption | refine Ext.alloc ?_ _ | refine Ext.ext ?_ _ | refine Ext.drew ?_ | refine Ext.drewN ?_ _)))).mono ?_; rintro e w' ⟨rfl, z1, rfl⟩)
          go_roundw
          case rel => exact ⟨k + 1, by omega, by go_num, by rw [Ht.out]; congr 1; omega, by rw [Ht.out]; omega, (by repeat' (first | exact Ext.refl _ | assumption | refine Ext.alloc ?_ _ | refine Ext.ext ?_ _ | refine Ext.drew ?_ | refine Ext.drewN ?_ _))⟩
          case measure => simp [intOf]; omega
      · obtain rfl : k = gs.length := by omega
        rw [List.take_length] at hk2
        omega
/-- How many marks a list of groups takes. -/
def gtot (gs : List Grp) : Nat := (gs.map (fun g => 1 + g.xs.length)).sum
theorem gtot_take (gs : List Grp) (k : Nat) (h : k < gs.length) : gtot (gs.take (k + 1)) = gtot (gs.take k) + (1 + (gs.getD k .z).xs.length) := by
  rw [take_snoc gs .z k h]
  simp [gtot]
theorem gtot_le (gs : List Grp) (k : Nat) : gtot (gs.take k) ≤ gtot gs := by
  have : gtot gs = gtot (gs.take k) + gtot (gs.drop k) := by
    unfold gtot
    rw [← List.sum_append, ← List.map_append, List.take_append_drop]
  omega
theorem gtot_sum (gs : List Grp) : gtot gs ≤ gs.length + Grp.sum gs := by
  induction gs with
  | nil => simp [gtot, Grp.sum]
  | cons g gs ih =>
    simp only [gtot, Grp.sum, List.map_cons, List.sum_cons, List.length_cons] at *
    omega
def mkG (k0 : Int) : List Grp → List Grp
  | [] => []
  | g :: gs => ⟨mtext k0, marks g.xs.length (k0 + 1)⟩ :: mkG (k0 + (1 + g.xs.length : Nat)) gs
theorem mkG_len (k0 : Int) (gs : List Grp) : (mkG k0 gs).length = gs.length := by
  induction gs generalizing k0 with
  | nil => rfl
  | cons g gs ih => simp [mkG, ih]
theorem mkG_at (gs : List Grp) : ∀ (k0 : Int) (i : Nat), i < gs.length → (mkG k0 gs).getD i .z = ⟨mtext (k0 + gtot (gs.take i)), marks (gs.getD i .z).xs.length (k0 + gtot (gs.take i) + 1)⟩ := by
  induction gs with
  | nil => intro k0 i h; simp at h
  | cons g gs ih =>
    intro k0 i h
    cases i with
    | zero => simp [mkG, gtot]
    | succ i =>
      have e : k0 + (1 + g.xs.length : Nat) + (gtot (gs.take i) : Int) = k0 + (gtot ((g :: gs).take (i + 1)) : Int) := by
        simp only [List.take_succ_cons, gtot, List.map_cons, List.sum_cons]
        omega
      rw [mkG, List.getD_cons_succ, ih _ i (by simpa using h), List.getD_cons_succ, e]
/-- The first k groups marked. -/
def mkTo (k0 : Int) (gs : List Grp) (k : Nat) : List Grp := (mkG k0 gs).take k ++ gs.drop k
theorem mkTo_len (k0 : Int) (gs : List Grp) (k : Nat) (h : k ≤ gs.length) : (mkTo k0 gs k).length = gs.length := by
  rw [mkTo, List.length_append, List.length_take, List.length_drop, mkG_len]
  omega
theorem mkTo_zero (k0 : Int) (gs : List Grp) : mkTo k0 gs 0 = gs := by simp [mkTo]
theorem mkTo_all (k0 : Int) (gs : List Grp) : mkTo k0 gs gs.length = mkG k0 gs := by
  rw [mkTo, List.drop_length, List.append_nil, List.take_of_length_le (by rw [mkG_len]; omega)]
theorem mkTo_at (k0 : Int) (gs : List Grp) (k : Nat) (h : k < gs.length) : (mkTo k0 gs k).getD k .z = gs.getD k .z := by
  rw [mkTo, List.getD_eq_getElem?_getD, List.getElem?_append_right (by rw [List.length_take, mkG_len]; omega), List.length_take, mkG_len, Nat.min_eq_left (by omega), Nat.sub_self, List.getElem?_drop, Nat.add_zero, List.getD_eq_getElem?_getD]
theorem mkTo_set (k0 : Int) (gs : List Grp) (k : Nat) (h : k < gs.length) : (mkTo k0 gs k).set k ((mkG k0 gs).getD k .z) = mkTo k0 gs (k + 1) := by
  unfold mkTo
  have hl : ((mkG k0 gs).take k).length = k := by rw [List.length_take, mkG_len]; omega
  rw [List.set_append_right _ _ (by omega), hl, Nat.sub_self, take_snoc (mkG k0 gs) .z k (by rw [mkG_len]; exact h), List.append_assoc]
  rw [List.drop_eq_getElem_cons h]
  rfl
theorem laws_markGroupS (gs : List Grp) (cs : List Gc) (v : Value) (k0 : Int) (w : World) (lo hi : Nat) (ho : GOw w lo hi v gs cs) (hn : gs.length ≤ 1048576) (ht : gtot gs ≤ 2097152) (hk0 : 0 < k0) (hk1 : k0 ≤ 1073741824) :
    Calls Tryd.prog 17 #[v, .int .i64 k0] w fun e w' => ∃ ds, e = .returned (.int .i64 (k0 + gtot gs)) ∧ GOw w' lo hi v (mkG k0 gs) ds ∧ Turn lo hi w w' := by
  have hsh := ho.2.1
  obtain ⟨-, ⟨rfl, h0⟩ | ⟨g, cap, cur, rfl, -⟩⟩ := hsh
  · have e : gs = [] := List.eq_nil_of_length_eq_zero h0
    subst e
    have Ho := hid ho; clear ho
    go_enter Tryd.func17, Tryd.ntmps17
    go_wp2
    refine wp_loop_rounds 1 ?_
    rw [rounds_succ]
    go_wp2
    go_ret
    exact ⟨_, by simp [gtot], Ho.out, Turn.refl _ _ _⟩
  · have hgl := hid (And.intro (own_size ho.2.1).1 (ho.2.2.1 g rfl))
    have Ho := hid ho; clear ho
    go_enter Tryd.func17, Tryd.ntmps17
    go_wp2
    go_loopw [5, 1] (fun v5 v1 wr => ∃ (k : Nat) (ds : List Gc), k ≤ gs.length ∧ v5 = .int .i64 k ∧ v1 = .int .i64 (k0 + gtot (gs.take k)) ∧ GOw wr lo hi (.slice (some ⟨g, 0, none⟩) gs.length cap) (mkTo k0 gs k) ds ∧ Turn lo hi w wr) (fun v5 _ _ => gs.length - (intOf v5).toNat)
    case atStart => exact ⟨0, cs, Nat.zero_le _, rfl, by simp [gtot], by rw [mkTo_zero]; exact Ho.out, Turn.refl _ _ _⟩
    case round =>
      obtain ⟨k, ds, hk, rfl, rfl, hown, hT⟩ := hrel
      have Hown := hid hown
      have HT := hid hT
      clear hown hT
      by_cases hlt : k < gs.length
      · have hml := mkTo_len k0 gs k hk
        have hle := gtot_take gs k hlt
        have hl2 := gtot_le gs (k + 1)
        have hst0 := mkTo_set k0 gs k hlt
        rw [mkG_at gs k0 k hlt] at hst0
        have hmat := mkTo_at k0 gs k hlt
        have o1 := Hown.out.2.1
        rw [hml] at o1
        obtain ⟨⟨u0, e0⟩, f0⟩ := own_cell o1 (k * 2) (by omega)
        obtain ⟨⟨u1, e1⟩, f1⟩ := own_cell o1 (k * 2 + 1) (by omega)
        have hu1 : u1 = (ds.getD k .z).u := by
          have h1 := o1.cellAt (k * 2 + 1) (by omega)
          rw [(gcs_get ds k (by rw [Hown.out.1, hml]; exact hlt)).2, e1] at h1
          exact Option.some.inj h1
        have hgb := (own_size o1).2
        have hmt := hid (fun w => laws_mtext (k0 + gtot (gs.take k)) w (by omega) (by omega))
        generalize hG : gs.getD k .z = G at *
        obtain ⟨s, xs⟩ := G
        dsimp only at hle hst0
        generalize hTk : gtot (gs.take k) = T at *
        have Hst0 := hid hst0
        have Hmat := hid hmat
        have Hml := hid hml
        have Hle := hid hle
        have hTb : T + (1 + xs.length) ≤ 2097152 := by omega
        clear hst0 hmat hml o1 hG hTk
        subst hu1
        go_wp2_with fail
        go_at_call 53
        refine (hmt.out _).mono ?_
        rintro e w2 ⟨rfl, hx2⟩
        have e0 := hx2.cell e0
        have e1 := hx2.cell e1
        have h1 := (Hown.out.ext hx2)
        have h2 := h1.setName Hml.out.symm k (by rw [Hml.out]; exact hlt) (mtext (k0 + T))
        have f0 : w2.frozen? ⟨g, k * 2, none⟩ = false := by rw [World.frozen?_of_block (hx2.heap hgb)]; exact f0
        have f1 : w2.frozen? ⟨g, k * 2 + 1, none⟩ = false := by rw [World.frozen?_of_block (hx2.heap hgb)]; exact f1
        have hgb2 : g < w2.heap.size := Nat.lt_of_lt_of_le hgb hx2.size
        rw [Hmat.out] at h2
        obtain ⟨ds', hds, hdk⟩ : ∃ ds', ds' = ds.set k ⟨mtext (k0 + T), (ds.getD k .z).u⟩ ∧ ds'.getD k .z = ⟨mtext (k0 + T), (ds.getD k .z).u⟩ := ⟨_, rfl, by rw [getD_set _ _ _ _ _ (by rw [Hown.out.1, Hml.out]; exact hlt), if_pos rfl]⟩
        obtain ⟨gs', hgs, hgk⟩ : ∃ gs', gs' = (mkTo k0 gs k).set k ⟨mtext (k0 + T), xs⟩ ∧ gs'.getD k .z = ⟨mtext (k0 + T), xs⟩ := ⟨_, rfl, by rw [getD_set _ _ _ _ _ (by rw [Hml.out]; exact hlt), if_pos rfl]⟩
        have hgl2 : gs'.length = gs.length := by rw [hgs, List.length_set, Hml.out]
        dsimp only at h2
        rw [← hds, ← hgs] at h2
        have hm2 := (h2.2.2.2 k (by rw [hgl2]; exact hlt)).2.1
        have hb2 := (h2.2.2.2 k (by rw [hgl2]; exact hlt)).2.2
        rw [hdk, hgk] at hm2
        rw [hdk] at hb2
        dsimp only at hm2 hb2
        have hT2 := (HT.out.ext hx2).grown (grownBy_set w2 ⟨g, k * 2, none⟩ (.string (mtext (k0 + T)))) (fun j hj => by cases hj; exact hgl.out)
        have K2 := hid (And.intro h2 (And.intro hm2 (And.intro hb2 (And.intro hT2 hds))))
        have Kg := hid (And.intro hgs (And.intro hgk hgl2))
        have Kd := hid hdk
        clear h1 h2 hx2 hm2 hb2 hT2 hds hdk hgs hgk hgl2 hle
        generalize (ds.getD k .z).u = u at *
        go_wp2_with fail
        go_at_call 18
        refine (laws_markIntS xs.length (vInts xs) u (k0 + T + 1) _ lo K2.out.2.1 (by omega) (by omega) (by omega)).mono ?_
        rintro e w3 ⟨rfl, hm3, hg3⟩
        have h4 := K2.out.1.turnMembers k (by rw [Kg.out.2.2]; exact hlt) (marks xs.length (k0 + T + 1)) (by rw [Kd.out]; exact hg3) (by rw [Kd.out, marks_len]; exact hm3)
        rw [Kg.out.2.1, Kg.out.1, List.set_set, Hst0.out] at h4
        have hT4 := K2.out.2.2.2.1.grown hg3 (fun j hj => ⟨(own_row K2.out.2.1 j hj).1, (K2.out.2.2.1 j hj).1⟩)
        have K4 := hid (And.intro h4 hT4)
        clear hm3 hg3 h4 hT4
        go_wp2
        go_roundw
        case rel => exact ⟨k + 1, _, by omega, by go_num, by rw [Hle.out]; congr 1; omega, K4.out.1, K4.out.2⟩
        case measure => simp [intOf]; omega
      · obtain rfl : k = gs.length := by omega
        rw [mkTo_all] at Hown
        rw [List.take_length]
        go_wp2
        go_ret
        exact ⟨_, rfl, Hown.out, HT.out⟩
theorem laws_heldGroupS (gs : List Grp) (cs : List Gc) (v : Value) (k0 : Int) (w : World) (hv : GRd w v (mkG k0 gs) cs) (hn : gs.length ≤ 1048576) (ht : gtot gs ≤ 2097152) (hk0 : 0 < k0) (hk1 : k0 ≤ 1073741824) :
    Calls Tryd.prog 22 #[v, .int .i64 k0] w fun e w' => e = .returned (.int .i64 (k0 + gtot gs)) ∧ Ext w w' := by
  have Hv := hid hv
  obtain ⟨p, cap, rfl, h4⟩ := hv.form
  rw [mkG_len] at h4 Hv ⊢
  have H4 := hid h4
  clear h4 hv
  go_enter Tryd.func22, Tryd.ntmps22
  go_wp2
  go_loopw [5, 1] (fun v5 v1 wr => ∃ (k : Nat), k ≤ gs.length ∧ v5 = .int .i64 k ∧ v1 = .int .i64 (k0 + gtot (gs.take k)) ∧ Ext w wr) (fun v5 _ _ => gs.length - (intOf v5).toNat)
  case atStart => exact ⟨0, Nat.zero_le _, rfl, by simp [gtot], Ext.refl _⟩
  case round =>
    obtain ⟨k, hk, rfl, rfl, z, rfl⟩ := hrel
    by_cases hlt : k < gs.length
    · obtain ⟨b, off, rfl⟩ := H4.out.resolve_left (by omega)
      have hlm : k < (mkG k0 gs).length := by rw [mkG_len]; exact hlt
      have hat := GRd.at (gs := mkG k0 gs) (by rw [mkG_len]; exact Hv.out) k hlm
      have hcr := (Hv.out.2.2 k hlm).2
      have hle := gtot_take gs k hlt
      have hl2 := gtot_le gs (k + 1)
      rw [mkG_at gs k0 k hlt] at hat hcr
      obtain ⟨c0, c1⟩ := hat
      dsimp only at c0 hcr
      generalize (cs.getD k .z).u = u at *
      generalize (gs.getD k .z).xs.length = n at *
      rw [marks_len] at hcr
      have Hcr := hid hcr
      have hmt := hid (fun w => laws_mtext (k0 + gtot (gs.take k)) w (by omega) (by omega))
      generalize gtot (gs.take k) = T at *
      have Hle := hid hle
      have hTb : T + (1 + n) ≤ 2097152 := by omega
      have hh := hid (fun w h => laws_heldIntS n u (k0 + T + 1) w h (by omega) (by omega) (by omega))
      have t0 : decide (k0 + (T : Int) + 1 + n < 0) = false := by simp; omega
      have n0 : (0 : Int) ≤ (k : Int) := by omega
      have n1 : (k : Int) < (gs.length : Int) := by omega
      clear hcr hle
      go_wp2
      refine wp_region_ext (by kernel_rfl) (by kernel_rfl) ?_
      repeat (go_big_quiet_step ((first | (go_at_call 53; exact Calls.quiet_ext (hmt.out _)))))
      refine wpQuiet_nil ?_
      rintro _ ⟨zq, rfl⟩
      go_wp2_with (go_at_call 19; refine (hh.out _ (Hcr.out.ext (by repeat' (first | exact Ext.refl _ | assumption | refine Ext.alloc ?_ _ | refine Ext.ext ?_ _ | refine Ext.drew ?_ | refine Ext.drewN ?_ _)))).mono ?_; rintro e w' ⟨rfl, z1, rfl⟩)
      go_roundw
      case rel => exact ⟨k + 1, by omega, by go_num, by rw [Hle.out]; congr 1; omega, (by repeat' (first | exact Ext.refl _ | assumption | refine Ext.alloc ?_ _ | refine Ext.ext ?_ _ | refine Ext.drew ?_ | refine Ext.drewN ?_ _))⟩
      case measure => simp [intOf]; omega
    · obtain rfl : k = gs.length := by omega
      go_wp2
      go_ret
      exact ⟨by rw [List.take_length]; rfl, (by repeat' (first | exact Ext.refl _ | assumption | refine Ext.alloc ?_ _ | refine Ext.ext ?_ _ | refine Ext.drew ?_ | refine Ext.drewN ?_ _))⟩
/-- Members for cells that can be read. -/
theorem grps_of {W : World} : ∀ cs : List Gc, (∀ c ∈ cs, c.s.size ≤ maxLen ∧ ∃ xs : List Int, Rd W 1 c.u xs.length (vInts xs) ∧ xs.length ≤ maxLen) →
    ∃ gs : List Grp, cs.length = gs.length ∧ ∀ i, i < gs.length → ((cs.getD i .z).s = (gs.getD i .z).s ∧ Rd W 1 (cs.getD i .z).u (gs.getD i .z).xs.length (vInts (gs.getD i .z).xs)) ∧ (gs.getD i .z).s.size ≤ maxLen ∧ (gs.getD i .z).xs.length ≤ maxLen
  | [], _ => ⟨[], rfl, fun i h => by simp at h⟩
  | c :: cs, h => by
    obtain ⟨gs, hl, hg⟩ := grps_of cs (fun d hd => h d (by simp [hd]))
    obtain ⟨hs, xs, hr, hx⟩ := h c (by simp)
    refine ⟨⟨c.s, xs⟩ :: gs, by simp [hl], fun i hi => ?_⟩
    cases i with
    | zero => exact ⟨⟨rfl, hr⟩, hs, hx⟩
    | succ i => exact hg i (by simpa using hi)
theorem opened_groups {H : Type} {enc : TypeId × Value → H} {W : World} {v : Value} {d : DataW H} {ps : List MemPlace} {r : Reach} {b : Nat} (hval : Value.okWide Tryd.prog W r b 22 v)
    (h : DataW.Trod enc Tryd.prog W 0 (fun _ => true) true 22 v d ps) : ∃ (gs : List Grp) (cs : List Gc), GRd W v gs cs ∧ gs.length ≤ maxLen ∧ ∀ i, i < gs.length → (gs.getD i .z).s.size ≤ maxLen ∧ (gs.getD i .z).xs.length ≤ maxLen := by
  obtain ⟨fuel, h⟩ := h
  obtain ⟨a, len, cap, rfl⟩ := Go.WideShapes.okWide_slice Tryd.underlying22 hval
  obtain ⟨css, h1, h2, h3⟩ := rd_of_trod (d := 4) Tryd.underlying22 (ks := [.s, .sl 24]) (by kernel_rfl) (by kernel_rfl) (by decide) h
  obtain ⟨cs, rfl, hx⟩ := exists_map (f := Gc.cs) (ok := fun c => c.s.size ≤ maxLen ∧ ∃ xs : List Int, Rd W 1 c.u xs.length (vInts xs) ∧ xs.length ≤ maxLen) (l := css) (fun x hcs => by
    obtain ⟨a, a', rfl, ⟨s, rfl, hs⟩, ⟨f, y, hy⟩⟩ := (h1 x hcs).two
    obtain ⟨xs, hr, hl⟩ := ints_of_trod hy
    exact ⟨⟨s, a'⟩, rfl, hs, xs, hr, hl⟩)
  obtain ⟨gs, hl, hg⟩ := grps_of cs hx
  have h2' := h2.map
  rw [hl] at h2'
  exact ⟨gs, cs, ⟨hl, h2', fun i hi => (hg i hi).1⟩, by rw [← hl]; simpa using h3, fun i hi => (hg i hi).2⟩
end Go.Proofs.YthjklcodgcojbaaDoor
