/- Parities that are drawn. -/
import Derived.Test.YthnfdgbmmiddlaaDoorWCurB
import Derived.Deep.DeepCutAuto
namespace Go.Proofs.YthnfdgbmmiddlaaDoor
open Go.RowKit
set_option maxHeartbeats 2000000
set_option maxRecDepth 100000
def PyD (w W : World) (lo B : Nat) (v : Value) (bs : List Int) (A : Nat) (u : Value) (n : Nat) (P : List Int) : Prop :=
  Dr w W lo B v bs A ∧ W.ownsRow w.heap.size 3 1 u n (vInts P) ∧ P.length = n
theorem PyD.step {w W W' : World} {lo B A A' n : Nat} {v u : Value} {bs P : List Int} (h : PyD w W lo B v bs A u n P) (hc : Cs W' lo B v bs A') (hg : W.grownBy W' (some B)) : PyD w W' lo B v bs A' u n P :=
  ⟨h.1.step hc hg, own_step h.1 h.2.1 (Nat.le_refl _) hg, h.2.2⟩
theorem PyD.ext {w W W' : World} {lo B A n : Nat} {v u : Value} {bs P : List Int} (h : PyD w W lo B v bs A u n P) (hx : Ext W W') : PyD w W' lo B v bs A u n P := h.step (h.1.1.ext hx) (hx.grownBy _)
theorem PyD.at {w W : World} {lo B A n g cap : Nat} {v : Value} {bs P : List Int} (h : PyD w W lo B v bs A (.slice (some ⟨g, 0, none⟩) n cap) n P) (j : Nat) (x : Int) : PyD w (W.setCell ⟨g, j, none⟩ (.int .i64 x)) lo B v bs A (.slice (some ⟨g, 0, none⟩) n cap) n (P.set j x) := by
  have hg := (own_row h.2.1 g rfl).1
  refine ⟨h.1.set (by dsimp only; omega) _, ?_, by rw [List.length_set]; exact h.2.2⟩
  rw [show vInts (P.set j x) = (vInts P).set j (.int .i64 x) by simp [vInts, List.map_set]]
  exact (World.ownsRow.stored h.2.1 j (.int .i64 x)).1
theorem PyD.fin {w W : World} {lo B A A' n : Nat} {v u : Value} {bs P : List Int} (h : PyD w W lo B v bs A u n P) (hA : A ≤ A') : W.ownsRow w.heap.size 3 1 u P.length (vInts P) ∧ Cs W lo B v bs A' ∧ w.grownBy W (some B) := by
  refine ⟨?_, (h.1.more hA).fin⟩
  have := h.2.1
  rw [h.2.2]
  exact this
theorem PyD.cell {w W : World} {lo B A n g cap : Nat} {v : Value} {bs P : List Int} (h : PyD w W lo B v bs A (.slice (some ⟨g, 0, none⟩) n cap) n P) (j : Nat) (hj : j < n) : W.cell? ⟨g, j, none⟩ = some (.int .i64 (P.getD j 0)) ∧ W.frozen? ⟨g, j, none⟩ = false := by
  refine ⟨?_, h.2.1.frozenAt j⟩
  rw [h.2.1.cellAt j (by omega), vInts_get P j (by rw [h.2.2]; exact hj)]
theorem len8 {P : List Int} (h : P.length = 8) : P.length ≤ 9 := by omega
theorem len9 {P : List Int} {x : Int} (h : P.length = 8) : (P ++ [x]).length ≤ 9 := by
  rw [List.length_append, List.length_singleton]; omega
/-- What both ways end in. -/
theorem own_more1 {W' : World} {base n : Nat} {u : Value} {P : List Int} {x : Int} (ho : W'.ownsRow base 3 1 u (n + 1) (vInts P ++ [.int .i64 x])) (hP : P.length = n) : W'.ownsRow base 3 1 u (P ++ [x]).length (vInts (P ++ [x])) := by
  rw [List.length_append, hP, show vInts (P ++ [x]) = vInts P ++ [.int .i64 x] by simp [vInts]]
  exact ho
theorem spec_parity {bs : List Int} (hb : Bts bs) {lo B A : Nat} {v : Value} (L : List ByteArray) (u : Value) (w : World) (h : Cs w lo B v bs A) (hu : Rd w 1 u L.length (vStrs L)) (hs : Sml L) (hA : A ≤ 500000) :
    Calls Tryd.prog 46 #[.pointer (some ⟨B, 0, none⟩), u] w fun e w' => ∃ (r : Value) (P : List Int), e = .returned r ∧ P.length ≤ 9 ∧ w'.ownsRow w.heap.size 3 1 r P.length (vInts P) ∧ Cs w' lo B v bs (A + 10) ∧ w.grownBy w' (some B) := by
  obtain ⟨i0, hi, hz0, hz1, hz2⟩ := info_parts infoInt
  obtain ⟨w1, hmk, hown0, hg0⟩ := run_make_full (P := Tryd.prog) w w.heap.size 25 3 i0 (.int .i64 0) 1 Tryd.underlying25 hi hz0 hz1 .i64 .i64 8 (by rw [hz2]; omega) (by unfold maxLen; omega) (Nat.le_refl _)
  rw [show ((8 : Nat) : Int) = 8 from rfl] at hmk
  rw [made8] at hown0
  have hx1 : Ext w w1 := (Ext.refl w).grown hg0 (fun k h => by cases h)
  have H1 : Hid (PyD w w1 lo B v bs A (.slice (some ⟨w.heap.size, 0, none⟩) 8 8) 8 (List.replicate 8 0)) := ⟨(Dr.start h).ext hx1, by simpa [vInts] using hown0, by simp⟩
  have hch := sml_chars hs
  have hl12 := hs.1
  have Hu := hid (hu.ext hx1)
  have Hb := hid hb
  have hq := hid (fun w h => spec_l24Block L u w h (by omega) (by omega))
  have hp := hid (fun w h (hb : blk L = true) => spec_l24Parity L u w h (by omega) (by rw [blk, Bool.and_eq_true] at hb; exact hb.2))
  have hpl : Hid ((parL L).length = 8) := by
    have := parL_par L L.length (Nat.le_refl _)
    rw [List.take_length] at this
    exact isPar_len this
  clear h hu hs hb hown0 hg0 hx1
  obtain ⟨ok, hok⟩ : ∃ b, blk L = b := ⟨_, rfl⟩
  rw [hok] at hq hp
  clear hok
  go_enter Tryd.func46, Tryd.ntmps46
  go_wp2_with fail
  go_at_call 57
  refine (hq.out _ Hu.out).mono ?_
  rintro e w2 ⟨rfl, hx⟩
  have H2 := hid (H1.out.ext hx)
  have Hu2 := hid (Hu.out.ext hx)
  clear hx H1 Hu hq hmk
  cases ok
  · skip
    go_wp2_with fail
    go_at_call 41
    refine (spec_one Hb.out 4 _ H2.out.1.1 (by omega) (by omega)).mono ?_
    rintro e wo ⟨y, rfl, hc, hg⟩
    have HO := hid (H2.out.step hc hg)
    clear hc hg
    cases y
    · skip
      go_wp2_with fail
      go_at_call 41
      refine (spec_one Hb.out 16 _ HO.out.1.1 (by omega) (by omega)).mono ?_
      rintro e wl ⟨z, rfl, hc, hg⟩
      have HL := hid (HO.out.step hc hg)
      clear hc hg
      cases z
      · go_wp2
        go_ret
        exact ⟨_, _, rfl, len8 HL.out.2.2, HL.out.fin (by omega)⟩
      · go_wp2_with (at_builtin; refine wpList_append_own _ rfl _ _ 25 rfl w.heap.size 3 i0 (.int .i64 0) 1 8 Tryd.underlying25 hi hz0 hz1 hz2 rfl (by decide) _ _ _ rfl ((own_ext HL.out.2.1 (by repeat' (first | exact Ext.refl _ | assumption | refine Ext.alloc ?_ _ | refine Ext.ext ?_ _ | refine Ext.drew ?_ | refine Ext.drewN ?_ _)))) ⟨_, 0, none⟩ 1 1 [.int .i64 0] rfl ?a0A ?a1A ?a2A ?a3A ?a4A ?a5A ?_)
        (try case a0A => rfl)
        case a1A => (intro j u hj; rw [Addr.add_lit, Nat.zero_add, cell_of_row _ _ j _ _ (0, 0) (heap_at _ rfl)]; first | (simpa using hj) | (simpa [hwb.out] using hj))
        case a2A => simp [Value.oneCell']
        case a3A => (unfold maxLen; omega)
        case a4A => (first | omega | (simp; omega))
        case a5A => (have := (HL.out.1.size); first | omega | (simp at *; omega))
        intro v' w1 hown' hgrow hat
        have K1 := hid (own_more1 hown' HL.out.2.2)
        have K2 := hid ((HL.out.1.ext (show Ext wl (wl.alloc (.cells #[.int .i64 0] 3)) from (by repeat' (first | exact Ext.refl _ | assumption | refine Ext.alloc ?_ _ | refine Ext.ext ?_ _ | refine Ext.drew ?_ | refine Ext.drewN ?_ _)))).grow hgrow (fun j e => (own_row HL.out.2.1 j e).1))
        have K3 := hid HL.out.2.2
        clear hown' hgrow hat HL
        go_wp2
        go_ret
        exact ⟨_, _, rfl, len9 K3.out, K1.out, (K2.out.more (by omega)).fin⟩
    · go_wp2_with fail
      go_at_call 43
      refine (spec_pick Hb.out 8 _ HO.out.1.1 (by omega) (by omega)).mono ?_
      rintro e wi ⟨i, rfl, hi0, hi1, hc, hg⟩
      have HI := hid (HO.out.step hc hg)
      clear hc hg HO
      obtain ⟨j, rfl⟩ : ∃ k : Nat, i = k := ⟨i.toNat, by omega⟩
      go_wp2_with fail
      go_at_call 43
      refine (spec_pick Hb.out 28 _ HI.out.1.1 (by omega) (by omega)).mono ?_
      rintro e wx ⟨x, rfl, hx0, hx1, hc, hg⟩
      have HX := hid (HI.out.step hc hg)
      clear hc hg HI
      obtain ⟨y0, y1⟩ := HX.out.cell j (by omega)
      have H9 := hid (HX.out.at j x)
      go_upto_region 6 with fail
      generalize wx.setCell ⟨w.heap.size, j, none⟩ (.int .i64 x) = V at H9 ⊢
      clear y0 y1 HX
      go_wp2_with fail
      go_at_call 41
      refine (spec_one Hb.out 16 _ H9.out.1.1 (by omega) (by omega)).mono ?_
      rintro e wl ⟨z, rfl, hc, hg⟩
      have HL := hid (H9.out.step hc hg)
      clear hc hg
      cases z
      · go_wp2
        go_ret
        exact ⟨_, _, rfl, len8 HL.out.2.2, HL.out.fin (by omega)⟩
      · go_wp2_with (at_builtin; refine wpList_append_own _ rfl _ _ 25 rfl w.heap.size 3 i0 (.int .i64 0) 1 8 Tryd.underlying25 hi hz0 hz1 hz2 rfl (by decide) _ _ _ rfl ((own_ext HL.out.2.1 (by repeat' (first | exact Ext.refl _ | assumption | refine Ext.alloc ?_ _ | refine Ext.ext ?_ _ | refine Ext.drew ?_ | refine Ext.drewN ?_ _)))) ⟨_, 0, none⟩ 1 1 [.int .i64 0] rfl ?a0B ?a1B ?a2B ?a3B ?a4B ?a5B ?_)
        (try case a0B => rfl)
        case a1B => (intro j u hj; rw [Addr.add_lit, Nat.zero_add, cell_of_row _ _ j _ _ (0, 0) (heap_at _ rfl)]; first | (simpa using hj) | (simpa [hwb.out] using hj))
        case a2B => simp [Value.oneCell']
        case a3B => (unfold maxLen; omega)
        case a4B => (first | omega | (simp; omega))
        case a5B => (have := (HL.out.1.size); first | omega | (simp at *; omega))
        intro v' w1 hown' hgrow hat
        have K1 := hid (own_more1 hown' HL.out.2.2)
        have K2 := hid ((HL.out.1.ext (show Ext wl (wl.alloc (.cells #[.int .i64 0] 3)) from (by repeat' (first | exact Ext.refl _ | assumption | refine Ext.alloc ?_ _ | refine Ext.ext ?_ _ | refine Ext.drew ?_ | refine Ext.drewN ?_ _)))).grow hgrow (fun j e => (own_row HL.out.2.1 j e).1))
        have K3 := hid HL.out.2.2
        clear hown' hgrow hat HL
        go_wp2
        go_ret
        exact ⟨_, _, rfl, len9 K3.out, K1.out, (K2.out.more (by omega)).fin⟩
  · go_wp2_with fail
    go_at_call 50
    refine (hp.out _ Hu2.out (by first | rfl | trivial)).mono ?_
    rintro e w3 ⟨r, rfl, ho, hx⟩
    obtain ⟨rg, rc, hf, -, -⟩ := ho.form (by rw [hpl.out]; decide)
    rw [hpl.out] at hf ho
    subst hf
    have H3 : Hid (PyD w w3 lo B v bs A (.slice (some ⟨rg, 0, none⟩) 8 rc) 8 (parL L)) := ⟨H2.out.1.ext hx, own_mono ho H2.out.1.size, hpl.out⟩
    clear ho hx H2 Hu2 hp
    generalize parL L = P at *
    go_wp2_with fail
    go_at_call 41
    refine (spec_one Hb.out 4 _ H3.out.1.1 (by omega) (by omega)).mono ?_
    rintro e wo ⟨y, rfl, hc, hg⟩
    have HO := hid (H3.out.step hc hg)
    clear hc hg
    cases y
    · skip
      go_wp2_with fail
      go_at_call 41
      refine (spec_one Hb.out 16 _ HO.out.1.1 (by omega) (by omega)).mono ?_
      rintro e wl ⟨z, rfl, hc, hg⟩
      have HL := hid (HO.out.step hc hg)
      clear hc hg
      cases z
      · go_wp2
        go_ret
        exact ⟨_, _, rfl, len8 HL.out.2.2, HL.out.fin (by omega)⟩
      · go_wp2_with (at_builtin; refine wpList_append_own _ rfl _ _ 25 rfl w.heap.size 3 i0 (.int .i64 0) 1 8 Tryd.underlying25 hi hz0 hz1 hz2 rfl (by decide) _ _ _ rfl ((own_ext HL.out.2.1 (by repeat' (first | exact Ext.refl _ | assumption | refine Ext.alloc ?_ _ | refine Ext.ext ?_ _ | refine Ext.drew ?_ | refine Ext.drewN ?_ _)))) ⟨_, 0, none⟩ 1 1 [.int .i64 0] rfl ?a0C ?a1C ?a2C ?a3C ?a4C ?a5C ?_)
        (try case a0C => rfl)
        case a1C => (intro j u hj; rw [Addr.add_lit, Nat.zero_add, cell_of_row _ _ j _ _ (0, 0) (heap_at _ rfl)]; first | (simpa using hj) | (simpa [hwb.out] using hj))
        case a2C => simp [Value.oneCell']
        case a3C => (unfold maxLen; omega)
        case a4C => (first | omega | (simp; omega))
        case a5C => (have := (HL.out.1.size); first | omega | (simp at *; omega))
        intro v' w1 hown' hgrow hat
        have K1 := hid (own_more1 hown' HL.out.2.2)
        have K2 := hid ((HL.out.1.ext (show Ext wl (wl.alloc (.cells #[.int .i64 0] 3)) from (by repeat' (first | exact Ext.refl _ | assumption | refine Ext.alloc ?_ _ | refine Ext.ext ?_ _ | refine Ext.drew ?_ | refine Ext.drewN ?_ _)))).grow hgrow (fun j e => (own_row HL.out.2.1 j e).1))
        have K3 := hid HL.out.2.2
        clear hown' hgrow hat HL
        go_wp2
        go_ret
        exact ⟨_, _, rfl, len9 K3.out, K1.out, (K2.out.more (by omega)).fin⟩
    · go_wp2_with fail
      go_at_call 43
      refine (spec_pick Hb.out 8 _ HO.out.1.1 (by omega) (by omega)).mono ?_
      rintro e wi ⟨i, rfl, hi0, hi1, hc, hg⟩
      have HI := hid (HO.out.step hc hg)
      clear hc hg HO
      obtain ⟨j, rfl⟩ : ∃ k : Nat, i = k := ⟨i.toNat, by omega⟩
      go_wp2_with fail
      go_at_call 43
      refine (spec_pick Hb.out 28 _ HI.out.1.1 (by omega) (by omega)).mono ?_
      rintro e wx ⟨x, rfl, hx0, hx1, hc, hg⟩
      have HX := hid (HI.out.step hc hg)
      clear hc hg HI
      obtain ⟨y0, y1⟩ := HX.out.cell j (by omega)
      have H9 := hid (HX.out.at j x)
      go_upto_region 6 with fail
      generalize wx.setCell ⟨rg, j, none⟩ (.int .i64 x) = V at H9 ⊢
      clear y0 y1 HX
      go_wp2_with fail
      go_at_call 41
      refine (spec_one Hb.out 16 _ H9.out.1.1 (by omega) (by omega)).mono ?_
      rintro e wl ⟨z, rfl, hc, hg⟩
      have HL := hid (H9.out.step hc hg)
      clear hc hg
      cases z
      · go_wp2
        go_ret
        exact ⟨_, _, rfl, len8 HL.out.2.2, HL.out.fin (by omega)⟩
      · go_wp2_with (at_builtin; refine wpList_append_own _ rfl _ _ 25 rfl w.heap.size 3 i0 (.int .i64 0) 1 8 Tryd.underlying25 hi hz0 hz1 hz2 rfl (by decide) _ _ _ rfl ((own_ext HL.out.2.1 (by repeat' (first | exact Ext.refl _ | assumption | refine Ext.alloc ?_ _ | refine Ext.ext ?_ _ | refine Ext.drew ?_ | refine Ext.drewN ?_ _)))) ⟨_, 0, none⟩ 1 1 [.int .i64 0] rfl ?a0D ?a1D ?a2D ?a3D ?a4D ?a5D ?_)
        (try case a0D => rfl)
        case a1D => (intro j u hj; rw [Addr.add_lit, Nat.zero_add, cell_of_row _ _ j _ _ (0, 0) (heap_at _ rfl)]; first | (simpa using hj) | (simpa [hwb.out] using hj))
        case a2D => simp [Value.oneCell']
        case a3D => (unfold maxLen; omega)
        case a4D => (first | omega | (simp; omega))
        case a5D => (have := (HL.out.1.size); first | omega | (simp at *; omega))
        intro v' w1 hown' hgrow hat
        have K1 := hid (own_more1 hown' HL.out.2.2)
        have K2 := hid ((HL.out.1.ext (show Ext wl (wl.alloc (.cells #[.int .i64 0] 3)) from (by repeat' (first | exact Ext.refl _ | assumption | refine Ext.alloc ?_ _ | refine Ext.ext ?_ _ | refine Ext.drew ?_ | refine Ext.drewN ?_ _)))).grow hgrow (fun j e => (own_row HL.out.2.1 j e).1))
        have K3 := hid HL.out.2.2
        clear hown' hgrow hat HL
        go_wp2
        go_ret
        exact ⟨_, _, rfl, len9 K3.out, K1.out, (K2.out.more (by omega)).fin⟩
end Go.Proofs.YthnfdgbmmiddlaaDoor
