/- A group left: the reference's side. -/
import Derived.Test.YtmblofcaiaeiaaaGreatDoorKWLv
import Derived.Test.YtmblofcaiaeiaaaGreatDoorKWPutG2
namespace Go.Proofs.YtmblofcaiaeiaaaGreatDoor
open Go.RowKit
set_option maxHeartbeats 400000
set_option maxRecDepth 100000
theorem take_getD_snoc (gs : List Grp) (k : Nat) (h : k < gs.length) : gs.take (k + 1) = gs.take k ++ [gs.getD k .z] := take_snoc gs .z k h
theorem putSt_lo {gs : List Grp} {g : Grp} {p : Nat} (hp : p ≤ gs.length) (hlo : ∀ i, i < p → bl (gs.getD i .z).s g.s = true) : ∀ k, k ≤ p → putSt gs g k = (gs.take k, g.xs.length == 0)
  | 0, _ => rfl
  | k + 1, hk => by
    have ih := putSt_lo hp hlo k (by omega)
    have hb := hlo k (by omega)
    have hne : ¬ (gs.getD k .z).s = g.s := fun e => by rw [e, bl_irrefl] at hb; cases hb
    rw [putSt, ih]
    dsimp only
    rw [hb, if_neg hne, take_getD_snoc gs k (by omega)]
    simp
/-- Where the name is in the list. -/
theorem putG_in {gs : List Grp} (hs : srt gs) {name : ByteArray} (h : fhas gs name = true) (ms : List Int) : putG gs ⟨name, ms⟩ = gs.take (fidx gs name) ++ (if ms.length = 0 then [] else [⟨name, ms⟩]) ++ gs.drop (fidx gs name + 1) := by
  obtain ⟨hp, hn⟩ := fhas_get h
  generalize fidx gs name = p at *
  have hlo : ∀ i, i < p → bl (gs.getD i .z).s name = true := fun i hi => by have := hs i p hi hp; rwa [hn] at this
  have hhi : ∀ i, p < i → i < gs.length → ¬ (gs.getD i .z).s = name := fun i hi hi2 e => by
    have := hs p i hi hi2
    rw [hn, e, bl_irrefl] at this
    cases this
  have h0 := putSt_lo (gs := gs) (g := ⟨name, ms⟩) (Nat.le_of_lt hp) hlo p (Nat.le_refl _)
  have key : ∀ d, p + d + 1 ≤ gs.length → putSt gs ⟨name, ms⟩ (p + d + 1) = (gs.take p ++ (if ms.length = 0 then [] else [⟨name, ms⟩]) ++ (gs.drop (p + 1)).take d, true) := by
    intro d
    induction d with
    | zero =>
      intro _
      rw [putSt, Nat.add_zero, h0]
      dsimp only
      rw [hn, bl_irrefl, if_pos rfl]
      by_cases e : ms.length = 0
      · simp [e]
      · have : (ms.length == 0) = false := by simp [e]
        rw [this, if_neg e]; simp
    | succ d ih =>
      intro hd
      have ih' := ih (by omega)
      rw [show p + (d + 1) + 1 = (p + d + 1) + 1 by omega, putSt, ih']
      dsimp only
      rw [if_neg (hhi (p + d + 1) (by omega) (by omega))]
      have ht : (gs.drop (p + 1)).take (d + 1) = (gs.drop (p + 1)).take d ++ [gs.getD (p + d + 1) .z] := by
        rw [take_snoc _ Grp.z d (by rw [List.length_drop]; omega)]
        congr 2
        rw [List.getD_eq_getElem?_getD, List.getElem?_drop, List.getD_eq_getElem?_getD, show p + 1 + d = p + d + 1 by omega]
      rw [ht]
      simp
  have hf := key (gs.length - p - 1) (by omega)
  rw [show p + (gs.length - p - 1) + 1 = gs.length by omega] at hf
  have ht : (gs.drop (p + 1)).take (gs.length - p - 1) = gs.drop (p + 1) := List.take_of_length_le (by rw [List.length_drop]; omega)
  rw [putG, hf, ht]
  simp
/-- Where it is not. -/
theorem putG_out {gs : List Grp} (hs : srt gs) {name : ByteArray} (h : fhas gs name = false) (ms : List Int) (hm : ¬ ms.length = 0) : putG gs ⟨name, ms⟩ = gs.take (gpos gs name) ++ ⟨name, ms⟩ :: gs.drop (gpos gs name) := by
  have hne : ∀ i, i < gs.length → ¬ (gs.getD i .z).s = name := fun i hi e => by rw [fhas_at hi e] at h; cases h
  -- the place
  have hex : ∃ p, p ≤ gs.length ∧ (∀ i, i < p → bl (gs.getD i .z).s name = true) ∧ (p < gs.length → bl (gs.getD p .z).s name = false) := by
    have : ∀ d, d ≤ gs.length → (∃ p, p ≤ gs.length ∧ (∀ i, i < p → bl (gs.getD i .z).s name = true) ∧ (p < gs.length → bl (gs.getD p .z).s name = false)) ∨ ∀ i, i < d → bl (gs.getD i .z).s name = true := by
      intro d
      induction d with
      | zero => exact fun _ => .inr (fun i hi => absurd hi (Nat.not_lt_zero _))
      | succ d ih =>
        intro hd
        rcases ih (by omega) with h1 | h1
        · exact .inl h1
        · cases hb : bl (gs.getD d .z).s name
          · exact .inl ⟨d, by omega, h1, fun _ => hb⟩
          · exact .inr (fun i hi => by
              by_cases e : i = d
              · subst e; exact hb
              · exact h1 i (by omega))
    rcases this gs.length (Nat.le_refl _) with h1 | h1
    · exact h1
    · exact ⟨gs.length, Nat.le_refl _, h1, fun h => absurd h (Nat.lt_irrefl _)⟩
  obtain ⟨p, hp, hlo, hat⟩ := hex
  have hhi : ∀ i, p ≤ i → i < gs.length → bl (gs.getD i .z).s name = false := fun i hi hi2 => by
    by_cases e : i = p
    · subst e; exact hat hi2
    · rw [← Bool.not_eq_true]
      intro h3
      have := hat (by omega)
      rw [bl_trans (hs p i (by omega) hi2) h3] at this
      cases this
  rw [gpos_at hp hlo hhi]
  have h0 := putSt_lo (gs := gs) (g := ⟨name, ms⟩) hp hlo p (Nat.le_refl _)
  have hd0 : (ms.length == 0) = false := by simp [hm]
  rw [hd0] at h0
  by_cases hpn : p < gs.length
  · have key : ∀ d, p + d + 1 ≤ gs.length → putSt gs ⟨name, ms⟩ (p + d + 1) = (gs.take p ++ [⟨name, ms⟩] ++ (gs.drop p).take (d + 1), true) := by
      intro d
      induction d with
      | zero =>
        intro _
        rw [putSt, Nat.add_zero, h0]
        dsimp only
        rw [hat hpn, if_neg (hne p hpn)]
        have ht : (gs.drop p).take (0 + 1) = [gs.getD p .z] := by
          rw [take_snoc _ Grp.z 0 (by rw [List.length_drop]; omega)]
          simp [List.getD_eq_getElem?_getD]
        rw [ht]
        simp
      | succ d ih =>
        intro hd
        have ih' := ih (by omega)
        rw [show p + (d + 1) + 1 = (p + d + 1) + 1 by omega, putSt, ih']
        dsimp only
        rw [if_neg (hne (p + d + 1) (by omega))]
        have ht : (gs.drop p).take (d + 1 + 1) = (gs.drop p).take (d + 1) ++ [gs.getD (p + d + 1) .z] := by
          rw [take_snoc _ Grp.z (d + 1) (by rw [List.length_drop]; omega)]
          congr 2
          rw [List.getD_eq_getElem?_getD, List.getElem?_drop, List.getD_eq_getElem?_getD, show p + (d + 1) = p + d + 1 by omega]
        rw [ht]
        simp
    have hf := key (gs.length - p - 1) (by omega)
    rw [show p + (gs.length - p - 1) + 1 = gs.length by omega] at hf
    have ht : (gs.drop p).take (gs.length - p - 1 + 1) = gs.drop p := List.take_of_length_le (by rw [List.length_drop]; omega)
    rw [putG, hf, ht]
    simp
  · obtain rfl : p = gs.length := by omega
    rw [putG, h0]
    simp
theorem set_cut {α : Type} (l : List α) (i : Nat) (x : α) (h : i < l.length) : l.set i x = l.take i ++ [x] ++ l.drop (i + 1) := by
  rw [List.set_eq_take_append_cons_drop, if_pos h]
  simp
theorem lvB_eq (gs : List Grp) (name : ByteArray) (x : Int) : lvB gs name x = (goodG gs && (memL gs name).contains x) := by
  unfold lvB hgB
  cases h : fhas gs name
  · have : memL gs name = [] := by rw [memL, h]; rfl
    rw [this]; simp
  · simp
theorem lv_put {gs : List Grp} {name : ByteArray} {x : Int} (h : lvB gs name x = true) : lvI gs name x = putG gs ⟨name, lvM gs name x⟩ := by
  obtain ⟨hg, ha, -⟩ := lvB_all h
  rw [lvI_yes h, putG_in (goodG_srt hg) ha]
  by_cases e : (lvM gs name x).length = 0
  · rw [if_pos e, if_pos e, ers]; simp
  · rw [if_neg e, if_neg e, set_cut _ _ _ (fhas_get ha).1]
theorem spec_l21Without (K : List Int) (v : Value) (x : Int) (w : World) (h : Rd w 1 v K.length (vInts K)) (h2 : K.length ≤ 8) :
    Calls Tryz.prog 46 #[v, .int .i64 x] w fun e w' => ∃ r, e = .returned r ∧ w'.ownsRow w.heap.size 3 1 r (K.filter (fun y => !(y == x))).length (vInts (K.filter (fun y => !(y == x)))) ∧ Ext w w' := by
  obtain ⟨h1, p, cap, rfl, h4⟩ := h
  have H4 := hid h4
  have Hts := hid (fun k hk => take_filter_snoc' (p := fun y => !(y == x)) (xs := K) (k := k) hk)
  have hkf : ∀ k, ((K.take k).filter (fun y => !(y == x))).length ≤ 8 := fun k => by
    have h1 := List.length_filter_le (fun y => !(y == x)) (K.take k)
    have h2 : (K.take k).length ≤ K.length := by rw [List.length_take]; omega
    omega
  have Hkf := hid hkf
  have hl0 : (w.alloc (.cells #[] 3)).ownsRow w.heap.size 3 1 (.slice (some ⟨w.heap.size, 0, none⟩) 0 0) 0 [] := World.ownsRow_lit w #[] 0 (Nat.le_refl _) (Nat.zero_le _) rfl
  have Hl0 := hid hl0
  clear h1 h4 hkf hl0
  obtain ⟨i0, hi, hz0, hz1, hz2⟩ := info_parts infoInt
  go_enter Tryz.func46, Tryz.ntmps46
  go_wp2
  go_loopw [6, 5] (fun v6 v5 wr => ∃ k : Nat, k ≤ K.length ∧ v6 = .int .i64 k ∧ wr.ownsRow w.heap.size 3 1 v5 ((K.take k).filter (fun y => !(y == x))).length (vInts ((K.take k).filter (fun y => !(y == x)))) ∧ Ext w wr) (fun v6 _ _ => K.length - (intOf v6).toNat)
  case atStart => exact ⟨0, Nat.zero_le _, rfl, Hl0.out, (by repeat' (first | exact Ext.refl _ | assumption | refine Ext.alloc ?_ _ | refine Ext.ext ?_ _ | refine Ext.drew ?_ | refine Ext.drewN ?_ _))⟩
  case round =>
    obtain ⟨k, hk, rfl, hown, hx⟩ := hrel
    by_cases hlt : k < K.length
    · obtain ⟨b, off, rfl, q6⟩ := H4.out.resolve_left (by omega)
      have a1 := hx.cell (elem1 (Value.int .i64) 0 K q6 k hlt)
      have hsn := Hts.out k hlt
      have hfl := Hkf.out k
      generalize K.getD k 0 = y at a1 hsn
      generalize (K.take k).filter (fun y => !(y == x)) = M at *
      have P := hid (And.intro hown hx)
      clear q6
      cases hc : (y == x)
      · rw [hc] at hsn
        have Hsn := hid hsn
        have hc' : (y != x) = true := by simp [bne, hc]
        have Hx := hid hx
        clear hsn hx
        go_wp2_with (at_builtin; refine wpList_append_own _ rfl _ _ 37 rfl w.heap.size 3 i0 (.int .i64 0) 1 8 Tryz.underlying37 hi hz0 hz1 hz2 rfl (by decide) _ _ _ rfl (hown.alloc _) ⟨_, 0, none⟩ 1 1 [.int .i64 y] rfl rfl ?c1 ?c2 ?c3 ?c4 ?c5 ?_)
        case c1 =>
          intro j u hj
          cases j with
          | zero => simp at hj; subst hj; simp [Addr.add]
          | succ j => simp at hj
        case c2 => simp [Value.oneCell']
        case c3 => unfold maxLen; simp; omega
        case c4 => omega
        case c5 => have := Hx.out.size; simp; omega
        intro v' w1 hown' hgrow _
        have hx2 : Ext w w1 := (Hx.out.alloc _).grown hgrow (fun j hj => (hown.lt j hj).1)
        have Hx2 := hid hx2; clear hx2 hgrow
        have K5 := hid (And.intro hown' Hx2.out)
        clear hown'
        go_wp2
        go_roundw
        case rel => exact ⟨k + 1, by omega, by go_num, by rw [Hsn.out]; simpa [vInts] using K5.out.1, K5.out.2⟩
        case measure => simp [intOf]; omega
      · rw [hc] at hsn
        have Hsn := hid hsn
        have hc' : (y != x) = false := by simp [bne, hc]
        clear hsn hown hx
        go_wp2
        go_roundw
        case rel => exact ⟨k + 1, by omega, by go_num, by rw [Hsn.out]; exact P.out.1, P.out.2⟩
        case measure => simp [intOf]; omega
    · obtain rfl : k = K.length := by omega
      rw [List.take_length] at hown
      have P := hid (And.intro hown hx)
      clear hown hx
      go_wp2
      go_ret
      exact ⟨_, rfl, P.out.1, P.out.2⟩
theorem spec_LeaveGroup (gs : List Grp) (cs : List Gc) (v : Value) (name : ByteArray) (x : Int) (w : World) (h : GRd w v gs cs) (h2 : gs.length ≤ 1048576) (h3 : Grp.sum gs ≤ 1048576) :
    Calls Tryz.prog 13 #[v, .string name, .int .i64 x] w fun e w' => ∃ r ds, e = .returned (.tuple #[r, .bool (lvB gs name x)]) ∧ GRd w' r (lvI gs name x) ds ∧ Ext w w' := by
  have Hv := hid h
  have hg := hid (fun w h => spec_l21Good gs cs v w h h2 h3)
  have hmem := hid (fun w h => spec_l21Members gs cs v name w h h2 h3)
  have hml : (memL gs name).length ≤ 1048576 := by
    unfold memL
    split
    · rename_i e
      exact (Grp.sum_at h3 (fhas_get e).1).2
    · simp
  have hhas : Hid (∀ (r : Value) (w : World), Rd w 1 r (memL gs name).length (vInts (memL gs name)) → Calls Tryz.prog 36 #[r, .int .i64 x] w fun e w' => e = .returned (.bool ((memL gs name).contains x)) ∧ Ext w w') := fun r w h => spec_l1Has (memL gs name) r x w h hml
  have hgl : ∀ W : World, GRd (W.alloc (.cells #[] 42)) (.slice (some ⟨W.heap.size, 0, none⟩) 0 0) [] [] := fun W => ⟨rfl, Rd.nil _ _ _ _, fun i hi => absurd hi (Nat.not_lt_zero _)⟩
  have Hgl := hid hgl
  clear h hgl
  cases e0 : goodG gs
  · have hno : lvB gs name x = false := by rw [lvB_eq, e0]; rfl
    rw [lvI_no hno, hno]
    rw [e0] at hg
    clear hno e0 hhas
    generalize memL gs name = K at *
    go_enter Tryz.func13, Tryz.ntmps13
    go_wp2_with fail
    go_at_call 33
    refine (hmem.out _ Hv.out).mono ?_
    rintro e w1 ⟨r1, rfl, ho1, hx1⟩
    have J := hid hx1
    clear ho1 hx1
    go_wp2_with (go_at_call 34; (refine (hg.out _ (Hv.out.ext J.out)).mono ?_); rintro e w' ⟨rfl, z1, rfl⟩)
    go_ret2
    exact ⟨_, _, rfl, Hgl.out _, J.out.trans (by repeat' (first | exact Ext.refl _ | assumption | refine Ext.alloc ?_ _ | refine Ext.ext ?_ _ | refine Ext.drew ?_ | refine Ext.drewN ?_ _))⟩
  rw [e0] at hg
  cases e1 : (memL gs name).contains x
  · have hno : lvB gs name x = false := by rw [lvB_eq, e0, e1]; rfl
    rw [lvI_no hno, hno]
    rw [e1] at hhas
    clear hno e0 e1
    generalize memL gs name = K at *
    go_enter Tryz.func13, Tryz.ntmps13
    go_wp2_with fail
    go_at_call 33
    refine (hmem.out _ Hv.out).mono ?_
    rintro e w1 ⟨r1, rfl, ho1, hx1⟩
    have J := hid (And.intro (Rd.own ho1) hx1)
    clear ho1 hx1
    go_wp2_with (first | (go_at_call 34; (refine (hg.out _ (Hv.out.ext J.out.2)).mono ?_); rintro e w' ⟨rfl, z1, rfl⟩) | (go_at_call 36; (refine (hhas.out _ _ (J.out.1.ext ⟨z1, rfl⟩)).mono ?_); rintro e w' ⟨rfl, z2, rfl⟩))
    go_ret2
    exact ⟨_, _, rfl, Hgl.out _, J.out.2.trans (by repeat' (first | exact Ext.refl _ | assumption | refine Ext.alloc ?_ _ | refine Ext.ext ?_ _ | refine Ext.drew ?_ | refine Ext.drewN ?_ _))⟩
  have hyes : lvB gs name x = true := by rw [lvB_eq, e0, e1]; rfl
  rw [lv_put hyes, hyes]
  rw [e1] at hhas
  have hms : lvM gs name x = (memL gs name).filter (fun y => !(y == x)) := rfl
  rw [hms]
  have h8 := memL_small e0 name
  have hwo := hid (fun r w h => spec_l21Without (memL gs name) r x w h (by omega))
  have hpt := hid (fun u w h hu => spec_l21Put gs cs v name ((memL gs name).filter (fun y => !(y == x))) u w h hu (goodG_len e0) (fun i hi => (Grp.sum_at h3 hi).2))
  clear hyes e0 e1 hms
  generalize putG gs ⟨name, (memL gs name).filter (fun y => !(y == x))⟩ = R at *
  generalize (memL gs name).filter (fun y => !(y == x)) = F at *
  generalize memL gs name = K at *
  go_enter Tryz.func13, Tryz.ntmps13
  go_wp2_with fail
  go_at_call 33
  refine (hmem.out _ Hv.out).mono ?_
  rintro e w1 ⟨r1, rfl, ho1, hx1⟩
  have J := hid (And.intro (Rd.own ho1) hx1)
  clear ho1 hx1
  go_wp2_with (first | (go_at_call 34; (refine (hg.out _ (Hv.out.ext J.out.2)).mono ?_); rintro e w' ⟨rfl, z1, rfl⟩) | (go_at_call 36; (refine (hhas.out _ _ (J.out.1.ext ⟨z1, rfl⟩)).mono ?_); rintro e w' ⟨rfl, z2, rfl⟩))
  go_at_call 46
  have X1 := J.out.2.trans (show Ext w1 ((w1.ext z1).ext z2) from (by repeat' (first | exact Ext.refl _ | assumption | refine Ext.alloc ?_ _ | refine Ext.ext ?_ _ | refine Ext.drew ?_ | refine Ext.drewN ?_ _)))
  refine (hwo.out _ _ (J.out.1.ext (show Ext w1 ((w1.ext z1).ext z2) from (by repeat' (first | exact Ext.refl _ | assumption | refine Ext.alloc ?_ _ | refine Ext.ext ?_ _ | refine Ext.drew ?_ | refine Ext.drewN ?_ _))))).mono ?_
  rintro e w2 ⟨r2, rfl, ho2, hx2⟩
  have J2 := hid (And.intro (Rd.own ho2) (X1.trans hx2))
  obtain ⟨rp2, rc2, rfl⟩ := own_shape ho2
  clear ho2 hx2 X1
  go_wp2_with fail
  go_at_call 37
  refine (hpt.out _ _ (Hv.out.ext J2.out.2) J2.out.1).mono ?_
  rintro e w3 ⟨r3, ds, rfl, ho3, hx3⟩
  have J3 := hid (And.intro ho3 (J2.out.2.trans hx3))
  clear ho3 hx3
  go_wp2
  go_ret2
  exact ⟨_, _, rfl, J3.out.1, J3.out.2⟩
end Go.Proofs.YtmblofcaiaeiaaaGreatDoor
