/- Trees and costs in the laws' own words: copies, comparisons, marks, sizes. -/
import Derived.Test.YthpeicpfaonkdaaWTree
import Derived.Test.YthpeicpfaonkdaaKit2
namespace Go.Proofs.Ythpeicpfaonkdaa
open Go.RowKit
set_option maxHeartbeats 400000
theorem laws_toTree (ps : List Int) (v : Value) (w : World) (h : Rd w 1 v ps.length (vInts ps)) (h2 : ps.length ≤ 1048576) :
    Calls Try.prog 18 #[.agg #[v]] w fun e w' => ∃ g, e = .returned (.agg #[.slice (some ⟨g, 0, none⟩) ps.length ps.length]) ∧ w'.ownsRow w.heap.size 3 1 (.slice (some ⟨g, 0, none⟩) ps.length ps.length) ps.length (vInts ps) ∧ Ext w w' := by
  obtain ⟨h1, p, cap, rfl, h4⟩ := h
  have Hr := hid (show Rd w 1 (.slice p ps.length cap) ps.length (vInts ps) from ⟨h1, p, cap, rfl, h4⟩)
  clear h1 h4
  go_enter Try.func18, Try.ntmps18
  go_wp2_with fail
  go_at_call 37
  refine (laws_toIntS ps _ _ (Hr.out.ext (by repeat' (first | exact Ext.refl _ | assumption | refine Ext.alloc ?_ _ | refine Ext.ext ?_ _ | refine Ext.drew ?_ | refine Ext.drewN ?_ _))) h2).mono ?_
  rintro e w' ⟨g, rfl, ho, z1, rfl⟩
  go_wp2
  refine bodyPost_ret (results_cell_row rfl _ _ (w.heap.size + 1) _ _ (0, 0) _ rfl (heap_setCell_same _ (w.heap.size + 1) 0 #[.slice none 0 0] 30 _ ?_) Try.underlying30 rfl (by kernel_rfl)) rfl ⟨g, rfl, ?_, ?_⟩
  · rw [heap_setCell_other _ _ _ _ (by simp), World.heap_ext _ _ _ (by simp), heap_alloc_old _ _ (by simp)]
    have e : w.heap.size + 1 = (w.alloc (.cells #[.slice p ps.length cap] 24)).heap.size := by simp
    rw [e]; exact heap_alloc_new _ _
  · exact own_mono (own_set (own_set ho (by simp) _) (by simp) _) (by simp; omega)
  · exact Ext.setCell (Ext.setCell (by repeat' (first | exact Ext.refl _ | assumption | refine Ext.alloc ?_ _ | refine Ext.ext ?_ _ | refine Ext.drew ?_ | refine Ext.drewN ?_ _)) (by simp; omega) _) (by simp) _
theorem laws_toPathCosts (ls ds : List Int) (v u : Value) (w : World) (h : Rd w 1 v ls.length (vInts ls)) (k : Rd w 1 u ds.length (vInts ds)) (h2 : ls.length ≤ 1048576) (k2 : ds.length ≤ 1048576) :
    Calls Try.prog 19 #[.agg #[v, u]] w fun e w' => ∃ g g', e = .returned (.agg #[.slice (some ⟨g, 0, none⟩) ls.length ls.length, .slice (some ⟨g', 0, none⟩) ds.length ds.length]) ∧
      w'.ownsRow w.heap.size 3 1 (.slice (some ⟨g, 0, none⟩) ls.length ls.length) ls.length (vInts ls) ∧
      w'.ownsRow (g + 1) 3 1 (.slice (some ⟨g', 0, none⟩) ds.length ds.length) ds.length (vInts ds) ∧ Ext w w' := by
  obtain ⟨h1, p, cap, rfl, h4⟩ := h
  obtain ⟨k1, p', cap', rfl, k4⟩ := k
  have Hr := hid (show Rd w 1 (.slice p ls.length cap) ls.length (vInts ls) from ⟨h1, p, cap, rfl, h4⟩)
  have Kr := hid (show Rd w 1 (.slice p' ds.length cap') ds.length (vInts ds) from ⟨k1, p', cap', rfl, k4⟩)
  clear h1 h4 k1 k4
  go_enter Try.func19, Try.ntmps19
  go_wp2_with fail
  go_at_call 37
  refine (laws_toIntS ls _ _ (Hr.out.ext (by repeat' (first | exact Ext.refl _ | assumption | refine Ext.alloc ?_ _ | refine Ext.ext ?_ _ | refine Ext.drew ?_ | refine Ext.drewN ?_ _))) h2).mono ?_
  rintro e w1 ⟨g, rfl, ho, hx1⟩
  have hb2 : w1.heap[w.heap.size + 1 + 1]? = some (.cells #[.slice none 0 0, .slice none 0 0] 32 (0, 0)) := (hx1.heap (by simp)).trans (heap_at _ (by simp))
  have hb1 : w1.heap[w.heap.size + 1]? = some (.cells #[.slice none 0 0, .slice none 0 0] 32 (0, 0)) := (hx1.heap (by simp)).trans (heap_old (heap_at _ (by simp)) _)
  have hw1 : Ext w w1 := (show Ext w _ from (by repeat' (first | exact Ext.refl _ | assumption | refine Ext.alloc ?_ _ | refine Ext.ext ?_ _ | refine Ext.drew ?_ | refine Ext.drewN ?_ _))).trans hx1
  have hb0 : w1.heap[w.heap.size]? = some (.cells #[.slice p ls.length cap, .slice p' ds.length cap'] 26 (0, 0)) := (hx1.heap (by simp; omega)).trans (heap_old (heap_old (heap_at _ rfl) _) _)
  obtain ⟨⟨c00, c01⟩, -, l0⟩ := box2 hb0
  obtain ⟨⟨c20, c21⟩, ⟨f20, f21⟩, l2⟩ := box2 hb2
  have ho1 := own_mono (base' := w.heap.size + 1 + 1 + 1) ho (by simp)
  have hs1 := (hx1.size)
  have Hb := hid (And.intro hb0 (And.intro hb1 hb2)); clear hb0 hb1 hb2 hx1 ho hs1
  obtain ⟨hg3, hgl⟩ := own_size ho1
  go_wp2_with fail
  have hxA := Ext.setCell hw1 (p := ⟨w.heap.size + 1 + 1, 0, none⟩) (by simp; omega) (.slice (some ⟨g, 0, none⟩) ls.length ls.length)
  have hoA := own_set ho1 (p := ⟨w.heap.size + 1 + 1, 0, none⟩) (by simp) (.slice (some ⟨g, 0, none⟩) ls.length ls.length)
  obtain ⟨b0, b1, b2⟩ := Hb.out
  have d1 := set_other (p := ⟨w.heap.size + 1 + 1, 0, none⟩) b1 (by simp) (.slice (some ⟨g, 0, none⟩) ls.length ls.length)
  have d2 := heap_setCell_same w1 (w.heap.size + 1 + 1) 0 _ 32 (.slice (some ⟨g, 0, none⟩) ls.length ls.length) b2
  go_at_call 37
  refine (laws_toIntS ds _ _ (Kr.out.ext hxA) k2).mono ?_
  rintro e w2 ⟨g', rfl, ho', hx2⟩
  have hw2 := hxA.trans hx2
  have e1 := (hx2.heap (Array.getElem?_eq_some_iff.1 d1).1).trans d1
  have e2 := (hx2.heap (Array.getElem?_eq_some_iff.1 d2).1).trans d2
  have hoB := own_ext hoA hx2
  have hoC := own_mono (base' := g + 1) ho' (by simp; omega)
  obtain ⟨⟨c10, c11⟩, ⟨f10, f11⟩, l1'⟩ := box2 e1
  obtain ⟨⟨c20', c21'⟩, ⟨f20', f21'⟩, l2'⟩ := box2 (by simpa using e2)
  have K := hid (And.intro hw2 (And.intro e1 (And.intro hoB hoC)))
  clear Hb b0 b1 b2 d1 d2 e1 e2 hxA hx2 ho' ho1 hoA hoB hoC hw2
  go_wp2
  obtain ⟨hw2, e1, hoB, hoC⟩ := K.out
  refine bodyPost_ret (results_cell_row rfl _ _ (w.heap.size + 1) _ _ (0, 0) _ rfl (box2_set (t := 32) (a := .slice none 0 0) (b := .slice none 0 0) ?_ _ _) Try.underlying32 rfl (by kernel_rfl)) rfl ⟨g, g', rfl, ?_, ?_, ?_⟩
  · exact set_other e1 (by simp) _
  · exact own_mono (own_set (own_set (own_set hoB (by simp) _) (by simp) _) (by simp) _) (by omega)
  · exact own_set (own_set (own_set hoC (by simp; omega) _) (by simp; omega) _) (by simp; omega) _
  · exact ((hw2.setCell (by simp; omega) _).setCell (by simp) _).setCell (by simp) _
theorem laws_eqTree (ps : List Int) (v u : Value) (w : World) (hv : Rd w 1 v ps.length (vInts ps)) (hu : Rd w 1 u ps.length (vInts ps)) (hn : ps.length ≤ 1048576) :
    Calls Try.prog 21 #[.agg #[v], .agg #[u]] w fun e w' => e = .returned (.bool true) ∧ Ext w w' := by
  go_enter Try.func21, Try.ntmps21
  go_wp2_with fail
  go_at_call 39
  refine (laws_eqIntS ps _ _ _ (hv.ext (by repeat' (first | exact Ext.refl _ | assumption | refine Ext.alloc ?_ _ | refine Ext.ext ?_ _ | refine Ext.drew ?_ | refine Ext.drewN ?_ _))) (hu.ext (by repeat' (first | exact Ext.refl _ | assumption | refine Ext.alloc ?_ _ | refine Ext.ext ?_ _ | refine Ext.drew ?_ | refine Ext.drewN ?_ _))) (by omega)).mono ?_
  rintro e w' ⟨rfl, z1, rfl⟩
  go_wp2
  go_ret
  exact ⟨rfl, (by repeat' (first | exact Ext.refl _ | assumption | refine Ext.alloc ?_ _ | refine Ext.ext ?_ _ | refine Ext.drew ?_ | refine Ext.drewN ?_ _))⟩
theorem laws_eqPathCosts (ls ds : List Int) (v v' u u' : Value) (w : World) (hv : Rd w 1 v ls.length (vInts ls)) (hv' : Rd w 1 v' ds.length (vInts ds)) (hu : Rd w 1 u ls.length (vInts ls)) (hu' : Rd w 1 u' ds.length (vInts ds)) (hn : ls.length ≤ 1048576) (hn' : ds.length ≤ 1048576) :
    Calls Try.prog 22 #[.agg #[v, v'], .agg #[u, u']] w fun e w' => e = .returned (.bool true) ∧ Ext w w' := by
  go_enter Try.func22, Try.ntmps22
  go_wp2_with fail
  go_at_call 39
  refine (laws_eqIntS ls _ _ _ (hv.ext (by repeat' (first | exact Ext.refl _ | assumption | refine Ext.alloc ?_ _ | refine Ext.ext ?_ _ | refine Ext.drew ?_ | refine Ext.drewN ?_ _))) (hu.ext (by repeat' (first | exact Ext.refl _ | assumption | refine Ext.alloc ?_ _ | refine Ext.ext ?_ _ | refine Ext.drew ?_ | refine Ext.drewN ?_ _))) (by omega)).mono ?_
  rintro e w' ⟨rfl, z1, rfl⟩
  go_wp2_with fail
  go_at_call 39
  refine (laws_eqIntS ds _ _ _ (hv'.ext (by repeat' (first | exact Ext.refl _ | assumption | refine Ext.alloc ?_ _ | refine Ext.ext ?_ _ | refine Ext.drew ?_ | refine Ext.drewN ?_ _))) (hu'.ext (by repeat' (first | exact Ext.refl _ | assumption | refine Ext.alloc ?_ _ | refine Ext.ext ?_ _ | refine Ext.drew ?_ | refine Ext.drewN ?_ _))) (by omega)).mono ?_
  rintro e w' ⟨rfl, z2, rfl⟩
  go_wp2
  go_ret
  exact ⟨rfl, (by repeat' (first | exact Ext.refl _ | assumption | refine Ext.alloc ?_ _ | refine Ext.ext ?_ _ | refine Ext.drew ?_ | refine Ext.drewN ?_ _))⟩
theorem laws_szTree (ps : List Value) (v : Value) (left : Int) (n k : Nat) (w : World) (hv : Rd w k v n ps) (hn : (n : Int) ≤ left) (hl : left ≤ 1048576) :
    Calls Try.prog 15 #[.agg #[v], .int .i64 left] w fun e w' => e = .returned (.int .i64 (left - n)) ∧ Ext w w' := by
  have t0 : decide (left - (n : Int) < 0) = false := by simp; omega
  go_enter Try.func15, Try.ntmps15
  go_wp2_with (go_at_call 62; refine (laws_szIntS _ _ _ _ _ _ (hv.ext (by repeat' (first | exact Ext.refl _ | assumption | refine Ext.alloc ?_ _ | refine Ext.ext ?_ _ | refine Ext.drew ?_ | refine Ext.drewN ?_ _))) hn hl).mono ?_; rintro e w' ⟨rfl, rfl⟩)
  go_ret
  exact ⟨rfl, (by repeat' (first | exact Ext.refl _ | assumption | refine Ext.alloc ?_ _ | refine Ext.ext ?_ _ | refine Ext.drew ?_ | refine Ext.drewN ?_ _))⟩
theorem laws_szTree_big (ps : List Value) (v : Value) (left : Int) (k n : Nat) (w : World) (hv : Rd w k v n ps) (hn : left < n) (hl : 0 ≤ left) (hm : n ≤ maxLen) :
    Calls Try.prog 15 #[.agg #[v], .int .i64 left] w fun e w' => e = .returned (.int .i64 (-1)) ∧ Ext w w' := by
  go_enter Try.func15, Try.ntmps15
  go_wp2_with (go_at_call 62; refine (laws_szIntS_big _ _ _ _ _ _ (hv.ext (by repeat' (first | exact Ext.refl _ | assumption | refine Ext.alloc ?_ _ | refine Ext.ext ?_ _ | refine Ext.drew ?_ | refine Ext.drewN ?_ _))) hn hl hm).mono ?_; rintro e w' ⟨rfl, rfl⟩)
  go_ret
  exact ⟨rfl, (by repeat' (first | exact Ext.refl _ | assumption | refine Ext.alloc ?_ _ | refine Ext.ext ?_ _ | refine Ext.drew ?_ | refine Ext.drewN ?_ _))⟩
theorem laws_szPathCosts (ls ds : List Value) (v u : Value) (left : Int) (n m k k' : Nat) (w : World) (hv : Rd w k v n ls) (hu : Rd w k' u m ds) (hn : (n : Int) + m ≤ left) (hl : left ≤ 1048576) :
    Calls Try.prog 16 #[.agg #[v, u], .int .i64 left] w fun e w' => e = .returned (.int .i64 (left - n - m)) ∧ Ext w w' := by
  have t0 : decide (left - (n : Int) < 0) = false := by simp; omega
  have t1 : decide (left - (n : Int) - m < 0) = false := by simp; omega
  go_enter Try.func16, Try.ntmps16
  go_wp2_with fail
  go_at_call 62
  refine (laws_szIntS _ _ _ _ _ _ (hv.ext (by repeat' (first | exact Ext.refl _ | assumption | refine Ext.alloc ?_ _ | refine Ext.ext ?_ _ | refine Ext.drew ?_ | refine Ext.drewN ?_ _))) (by omega) hl).mono ?_
  rintro e w' ⟨rfl, rfl⟩
  go_wp2_with fail
  go_at_call 62
  refine (laws_szIntS _ _ _ _ _ _ (hu.ext (by repeat' (first | exact Ext.refl _ | assumption | refine Ext.alloc ?_ _ | refine Ext.ext ?_ _ | refine Ext.drew ?_ | refine Ext.drewN ?_ _))) (by omega) (by omega)).mono ?_
  rintro e w' ⟨rfl, rfl⟩
  go_wp2
  go_ret
  exact ⟨rfl, (by repeat' (first | exact Ext.refl _ | assumption | refine Ext.alloc ?_ _ | refine Ext.ext ?_ _ | refine Ext.drew ?_ | refine Ext.drewN ?_ _))⟩
theorem laws_szPathCosts_big (ls ds : List Value) (v u : Value) (left : Int) (n m k k' : Nat) (w : World) (hv : Rd w k v n ls) (hu : Rd w k' u m ds) (hn : left < (n : Int) + m) (hl : 0 ≤ left) (hl2 : left ≤ 1048576) (hm : n ≤ maxLen) (hm' : m ≤ maxLen) :
    Calls Try.prog 16 #[.agg #[v, u], .int .i64 left] w fun e w' => e = .returned (.int .i64 (-1)) ∧ Ext w w' := by
  by_cases h0 : left < n
  · go_enter Try.func16, Try.ntmps16
    go_wp2_with (go_at_call 62; refine (laws_szIntS_big _ _ _ _ _ _ (hv.ext (by repeat' (first | exact Ext.refl _ | assumption | refine Ext.alloc ?_ _ | refine Ext.ext ?_ _ | refine Ext.drew ?_ | refine Ext.drewN ?_ _))) h0 hl hm).mono ?_; rintro e w' ⟨rfl, rfl⟩)
    go_ret
    exact ⟨rfl, (by repeat' (first | exact Ext.refl _ | assumption | refine Ext.alloc ?_ _ | refine Ext.ext ?_ _ | refine Ext.drew ?_ | refine Ext.drewN ?_ _))⟩
  · have t0 : decide (left - (n : Int) < 0) = false := by simp; omega
    go_enter Try.func16, Try.ntmps16
    go_wp2_with fail
    go_at_call 62
    refine (laws_szIntS _ _ _ _ _ _ (hv.ext (by repeat' (first | exact Ext.refl _ | assumption | refine Ext.alloc ?_ _ | refine Ext.ext ?_ _ | refine Ext.drew ?_ | refine Ext.drewN ?_ _))) (by omega) hl2).mono ?_
    rintro e w' ⟨rfl, rfl⟩
    go_wp2_with fail
    go_at_call 62
    refine (laws_szIntS_big _ _ _ _ _ _ (hu.ext (by repeat' (first | exact Ext.refl _ | assumption | refine Ext.alloc ?_ _ | refine Ext.ext ?_ _ | refine Ext.drew ?_ | refine Ext.drewN ?_ _))) (by omega) (by omega) hm').mono ?_
    rintro e w' ⟨rfl, rfl⟩
    go_wp2
    go_ret
    exact ⟨rfl, (by repeat' (first | exact Ext.refl _ | assumption | refine Ext.alloc ?_ _ | refine Ext.ext ?_ _ | refine Ext.drew ?_ | refine Ext.drewN ?_ _))⟩
end Go.Proofs.Ythpeicpfaonkdaa
