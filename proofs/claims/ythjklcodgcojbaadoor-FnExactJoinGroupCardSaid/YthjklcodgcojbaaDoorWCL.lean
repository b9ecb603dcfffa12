/- Trees and costs in the laws' own words: copies, comparisons, marks, sizes. -/
import Derived.Test.YthjklcodgcojbaaDoorWTree
import Derived.Test.YthjklcodgcojbaaDoorKit2
namespace Go.Proofs.YthjklcodgcojbaaDoor
open Go.RowKit
set_option maxHeartbeats 400000
theorem laws_toTree (ps : List Int) (v : Value) (w : World) (h : Rd w 1 v ps.length (vInts ps)) (h2 : ps.length ≤ 1048576) :
    Calls Tryd.prog 26 #[.agg #[v]] w fun e w' => ∃ g, e = .returned (.agg #[.slice (some ⟨g, 0, none⟩) ps.length ps.length]) ∧ w'.ownsRow w.heap.size 3 1 (.slice (some ⟨g, 0, none⟩) ps.length ps.length) ps.length (vInts ps) ∧ Ext w w' := by
  obtain ⟨h1, p, cap, rfl, h4⟩ := h
  have Hr := hid (show Rd w 1 (.slice p ps.length cap) ps.length (vInts ps) from ⟨h1, p, cap, rfl, h4⟩)
  clear h1 h4
  go_enter Tryd.func26, Tryd.ntmps26
  go_wp2_with fail
  go_at_call 62
  refine (laws_toIntS ps _ _ (Hr.out.ext (by repeat' (first | exact Ext.refl _ | assumption | refine Ext.alloc ?_ _ | refine Ext.ext ?_ _ | refine Ext.drew ?_ | refine Ext.drewN ?_ _))) h2).mono ?_
  rintro e w' ⟨g, rfl, ho, z1, rfl⟩
  go_wp2
  refine bodyPost_ret (results_cell_row rfl _ _ (w.heap.size + 1) _ _ (0, 0) _ rfl (heap_setCell_same _ (w.heap.size + 1) 0 #[.slice none 0 0] 44 _ ?_) Tryd.underlying44 rfl (by kernel_rfl)) rfl ⟨g, rfl, ?_, ?_⟩
  · rw [heap_setCell_other _ _ _ _ (by simp), World.heap_ext _ _ _ (by simp), heap_alloc_old _ _ (by simp)]
    have e : w.heap.size + 1 = (w.alloc (.cells #[.slice p ps.length cap] 38)).heap.size := by simp
    rw [e]; exact heap_alloc_new _ _
  · exact own_mono (own_set (own_set ho (by simp) _) (by simp) _) (by simp; omega)
  · exact Ext.setCell (Ext.setCell (by repeat' (first | exact Ext.refl _ | assumption | refine Ext.alloc ?_ _ | refine Ext.ext ?_ _ | refine Ext.drew ?_ | refine Ext.drewN ?_ _)) (by simp; omega) _) (by simp) _
theorem laws_eqTree (ps : List Int) (v u : Value) (w : World) (hv : Rd w 1 v ps.length (vInts ps)) (hu : Rd w 1 u ps.length (vInts ps)) (hn : ps.length ≤ 1048576) :
    Calls Tryd.prog 29 #[.agg #[v], .agg #[u]] w fun e w' => e = .returned (.bool true) ∧ Ext w w' := by
  go_enter Tryd.func29, Tryd.ntmps29
  go_wp2_with fail
  go_at_call 15
  refine (laws_eqIntS ps _ _ _ (hv.ext (by repeat' (first | exact Ext.refl _ | assumption | refine Ext.alloc ?_ _ | refine Ext.ext ?_ _ | refine Ext.drew ?_ | refine Ext.drewN ?_ _))) (hu.ext (by repeat' (first | exact Ext.refl _ | assumption | refine Ext.alloc ?_ _ | refine Ext.ext ?_ _ | refine Ext.drew ?_ | refine Ext.drewN ?_ _))) (by omega)).mono ?_
  rintro e w' ⟨rfl, z1, rfl⟩
  go_wp2
  go_ret
  exact ⟨rfl, (by repeat' (first | exact Ext.refl _ | assumption | refine Ext.alloc ?_ _ | refine Ext.ext ?_ _ | refine Ext.drew ?_ | refine Ext.drewN ?_ _))⟩
theorem laws_szTree (ps : List Value) (v : Value) (left : Int) (n k : Nat) (w : World) (hv : Rd w k v n ps) (hn : (n : Int) ≤ left) (hl : left ≤ 1048576) :
    Calls Tryd.prog 23 #[.agg #[v], .int .i64 left] w fun e w' => e = .returned (.int .i64 (left - n)) ∧ Ext w w' := by
  have t0 : decide (left - (n : Int) < 0) = false := by simp; omega
  go_enter Tryd.func23, Tryd.ntmps23
  go_wp2_with (go_at_call 59; refine (laws_szIntS _ _ _ _ _ _ (hv.ext (by repeat' (first | exact Ext.refl _ | assumption | refine Ext.alloc ?_ _ | refine Ext.ext ?_ _ | refine Ext.drew ?_ | refine Ext.drewN ?_ _))) hn hl).mono ?_; rintro e w' ⟨rfl, rfl⟩)
  go_ret
  exact ⟨rfl, (by repeat' (first | exact Ext.refl _ | assumption | refine Ext.alloc ?_ _ | refine Ext.ext ?_ _ | refine Ext.drew ?_ | refine Ext.drewN ?_ _))⟩
theorem laws_szTree_big (ps : List Value) (v : Value) (left : Int) (k n : Nat) (w : World) (hv : Rd w k v n ps) (hn : left < n) (hl : 0 ≤ left) (hm : n ≤ maxLen) :
    Calls Tryd.prog 23 #[.agg #[v], .int .i64 left] w fun e w' => e = .returned (.int .i64 (-1)) ∧ Ext w w' := by
  go_enter Tryd.func23, Tryd.ntmps23
  go_wp2_with (go_at_call 59; refine (laws_szIntS_big _ _ _ _ _ _ (hv.ext (by repeat' (first | exact Ext.refl _ | assumption | refine Ext.alloc ?_ _ | refine Ext.ext ?_ _ | refine Ext.drew ?_ | refine Ext.drewN ?_ _))) hn hl hm).mono ?_; rintro e w' ⟨rfl, rfl⟩)
  go_ret
  exact ⟨rfl, (by repeat' (first | exact Ext.refl _ | assumption | refine Ext.alloc ?_ _ | refine Ext.ext ?_ _ | refine Ext.drew ?_ | refine Ext.drewN ?_ _))⟩
end Go.Proofs.YthjklcodgcojbaaDoor
