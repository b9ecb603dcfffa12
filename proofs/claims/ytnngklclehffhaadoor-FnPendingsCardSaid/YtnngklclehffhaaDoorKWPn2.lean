/- Lists of pendings in the laws' own words: copies. -/
import Derived.Test.YtnngklclehffhaaDoorKWPn1
namespace Go.RowKit
/-- A variable of three cells. -/
theorem box3 {w : World} {B t : Nat} {a b c : Value} (h : w.heap[B]? = some (.cells #[a, b, c] t (0, 0))) :
    (w.cell? ⟨B, 0, none⟩ = some a ∧ w.cell? ⟨B, 1, none⟩ = some b ∧ w.cell? ⟨B, 2, none⟩ = some c) ∧
    (w.frozen? ⟨B, 0, none⟩ = false ∧ w.frozen? ⟨B, 1, none⟩ = false ∧ w.frozen? ⟨B, 2, none⟩ = false) ∧ B < w.heap.size := by
  refine ⟨⟨?_, ?_, ?_⟩, ⟨?_, ?_, ?_⟩, (Array.getElem?_eq_some_iff.1 h).1⟩
  · rw [cell_of_row w B 0 _ t _ h]; rfl
  · rw [cell_of_row w B 1 _ t _ h]; rfl
  · rw [cell_of_row w B 2 _ t _ h]; rfl
  · exact frozen_of_row w B 0 _ t h
  · exact frozen_of_row w B 1 _ t h
  · exact frozen_of_row w B 2 _ t h
theorem box3_set {w : World} {B t : Nat} {a b c : Value} (h : w.heap[B]? = some (.cells #[a, b, c] t (0, 0))) (a' b' c' : Value) :
    (((w.setCell ⟨B, 0, none⟩ a').setCell ⟨B, 1, none⟩ b').setCell ⟨B, 2, none⟩ c').heap[B]? = some (.cells #[a', b', c'] t (0, 0)) := by
  have h1 := heap_setCell_same _ B 0 _ t a' h
  have h2 := heap_setCell_same _ B 1 _ t b' h1
  have h3 := heap_setCell_same _ B 2 _ t c' h2
  simpa using h3
theorem box3_set1 {w : World} {B t : Nat} {a b c : Value} (h : w.heap[B]? = some (.cells #[a, b, c] t (0, 0))) (b' : Value) : (w.setCell ⟨B, 1, none⟩ b').heap[B]? = some (.cells #[a, b', c] t (0, 0)) := by
  have h2 := heap_setCell_same _ B 1 _ t b' h
  simpa using h2
theorem box3_set2 {w : World} {B t : Nat} {a b c : Value} (h : w.heap[B]? = some (.cells #[a, b, c] t (0, 0))) (c' : Value) : (w.setCell ⟨B, 2, none⟩ c').heap[B]? = some (.cells #[a, b, c'] t (0, 0)) := by
  have h2 := heap_setCell_same _ B 2 _ t c' h
  simpa using h2
theorem blk3 {W W' : World} {T : Nat} {o : Obj} (ho : W.heap[T]? = some o) (hx : Ext W W') : W'.heap[T]? = some o := (hx.heap (Array.getElem?_eq_some_iff.1 ho).1).trans ho
theorem Ext.set3 {w0 w : World} {B : Nat} (h : Ext w0 w) (hB : w0.heap.size ≤ B) (a' b' c' : Value) :
    Ext w0 (((w.setCell ⟨B, 0, none⟩ a').setCell ⟨B, 1, none⟩ b').setCell ⟨B, 2, none⟩ c') :=
  (((h.setCell hB _).setCell hB _).setCell hB _)
end Go.RowKit
namespace Go.Proofs.YtnngklclehffhaaDoor
open Go.RowKit
set_option maxHeartbeats 400000
set_option maxRecDepth 100000
theorem infoPnd : (Tryd.prog.info? 62).map (fun i => (i.zero, i.size, i.bytes)) = some (some (.agg #[.int .i64 0, .slice none 0 0, .slice none 0 0]), 3, 56) := by kernel_rfl
/-- While a pending is copied: its variables. -/
def TpS (w W : World) (n : Int) (u v b c : Value) : Prop :=
  Ext w W ∧ W.heap[w.heap.size]? = some (.cells #[.int .i64 n, u, v] 61 (0, 0)) ∧ W.heap[w.heap.size + 1]? = some (.cells #[.int .i64 0, .slice none 0 0, .slice none 0 0] 62 (0, 0)) ∧ W.heap[w.heap.size + 1 + 1]? = some (.cells #[.int .i64 n, b, c] 62 (0, 0))
theorem TpS.ext {w W W' : World} {n : Int} {u v b c : Value} (h : TpS w W n u v b c) (hx : Ext W W') : TpS w W' n u v b c := ⟨h.1.trans hx, blk3 h.2.1 hx, blk3 h.2.2.1 hx, blk3 h.2.2.2 hx⟩
theorem TpS.lt {w W : World} {n : Int} {u v b c : Value} (h : TpS w W n u v b c) : w.heap.size + 1 + 1 < W.heap.size := (Array.getElem?_eq_some_iff.1 h.2.2.2).1
theorem TpS.set1 {w W : World} {n : Int} {u v b c : Value} (h : TpS w W n u v b c) (b' : Value) : TpS w (W.setCell ⟨w.heap.size + 1 + 1, 1, none⟩ b') n u v b' c :=
  ⟨h.1.setCell (by dsimp only; omega) _, set_other h.2.1 (by dsimp only; omega) _, set_other h.2.2.1 (by dsimp only; omega) _, box3_set1 h.2.2.2 _⟩
theorem TpS.set2 {w W : World} {n : Int} {u v b c : Value} (h : TpS w W n u v b c) (c' : Value) : TpS w (W.setCell ⟨w.heap.size + 1 + 1, 2, none⟩ c') n u v b c' :=
  ⟨h.1.setCell (by dsimp only; omega) _, set_other h.2.1 (by dsimp only; omega) _, set_other h.2.2.1 (by dsimp only; omega) _, box3_set2 h.2.2.2 _⟩
theorem laws_toPending (n : Int) (d : List ByteArray) (h : List Bool) (u v : Value) (w : World) (hu : Rd w 1 u d.length (vStrs d)) (hv : Rd w 1 v h.length (vBools h)) (h2 : d.length ≤ 1048576) (k2 : h.length ≤ 1048576) :
    Calls Tryd.prog 39 #[.agg #[.int .i64 n, u, v]] w fun e w' => ∃ g g', e = .returned (.agg #[.int .i64 n, .slice (some ⟨g, 0, none⟩) d.length d.length, .slice (some ⟨g', 0, none⟩) h.length h.length]) ∧
      (w'.ownsRow w.heap.size 9 1 (.slice (some ⟨g, 0, none⟩) d.length d.length) d.length (vStrs d) ∧
      w'.ownsRow w.heap.size 4 1 (.slice (some ⟨g', 0, none⟩) h.length h.length) h.length (vBools h) ∧ g ≠ g') ∧ Ext w w' := by
  have Hu := hid hu
  have Hv := hid hv
  obtain ⟨-, p, cap, rfl, -⟩ := hu
  obtain ⟨-, p', cap', rfl, -⟩ := hv
  have H0 : Hid (TpS w (((w.alloc (.cells #[.int .i64 n, .slice p d.length cap, .slice p' h.length cap'] 61)).alloc (.cells #[.int .i64 0, .slice none 0 0, .slice none 0 0] 62)).alloc (.cells #[.int .i64 n, .slice none 0 0, .slice none 0 0] 62)) n (.slice p d.length cap) (.slice p' h.length cap') (.slice none 0 0) (.slice none 0 0)) :=
    ⟨(by repeat' (first | exact Ext.refl _ | assumption | refine Ext.alloc ?_ _ | refine Ext.ext ?_ _ | refine Ext.drew ?_ | refine Ext.drewN ?_ _)), heap_old (heap_old (heap_at _ rfl) _) _, heap_old (heap_at _ (by simp)) _, heap_at _ (by simp)⟩
  go_enter Tryd.func39, Tryd.ntmps39
  go_wp2_with fail
  generalize (((w.alloc (.cells #[.int .i64 n, .slice p d.length cap, .slice p' h.length cap'] 61)).alloc (.cells #[.int .i64 0, .slice none 0 0, .slice none 0 0] 62)).alloc (.cells #[.int .i64 n, .slice none 0 0, .slice none 0 0] 62)) = W0 at *
  go_at_call 74
  refine (laws_toStringS d _ _ (Hu.out.ext H0.out.1) h2).mono ?_
  rintro e w1 ⟨g, rfl, ho, hx⟩
  have H1 := hid (H0.out.ext hx)
  have Hg := hid (And.intro (own_size ho) H0.out.lt)
  have Ho := hid ho
  clear ho hx H0
  obtain ⟨⟨a0, a1, a2⟩, ⟨e0, e1, e2⟩, l0⟩ := box3 H1.out.2.1
  obtain ⟨⟨c0, c1, c2⟩, ⟨f0, f1, f2⟩, l1⟩ := box3 H1.out.2.2.2
  have H2 := hid (H1.out.set1 (.slice (some ⟨g, 0, none⟩) d.length d.length))
  have Ho2 := hid (own_set Ho.out (p := ⟨w.heap.size + 1 + 1, 1, none⟩) Hg.out.2 (.slice (some ⟨g, 0, none⟩) d.length d.length))
  clear Ho
  go_wp2_with fail
  go_at_call 75
  refine (laws_toBoolS h _ _ (Hv.out.ext H2.out.1) k2).mono ?_
  rintro e w2 ⟨g', rfl, ho, hx⟩
  have H3 := hid (H2.out.ext hx)
  have hg' := own_size ho
  have hgg : g < g' := by have := hg'.1; have := Hg.out.1.2; simp at *; omega
  have hw1 : w.heap.size + 1 + 1 < (w1.setCell ⟨w.heap.size + 1 + 1, 1, none⟩ (.slice (some ⟨g, 0, none⟩) d.length d.length)).heap.size := by simpa using l1
  have hoA := own_set (own_ext Ho2.out hx) (p := ⟨w.heap.size + 1 + 1, 2, none⟩) Hg.out.2 (.slice (some ⟨g', 0, none⟩) h.length h.length)
  have hoB := own_set ho (p := ⟨w.heap.size + 1 + 1, 2, none⟩) hw1 (.slice (some ⟨g', 0, none⟩) h.length h.length)
  have H4 := hid (H3.out.set2 (.slice (some ⟨g', 0, none⟩) h.length h.length))
  have K := hid (And.intro hoA (And.intro hoB (And.intro hgg hw1)))
  clear hoA hoB hgg ho hx hg' Ho2 H2 a0 a1 a2 c0 c1 c2 e0 e1 e2 f0 f1 f2
  obtain ⟨⟨a0, a1, a2⟩, -, -⟩ := box3 H3.out.2.1
  obtain ⟨⟨c0, c1, c2⟩, ⟨f0, f1, f2⟩, l2⟩ := box3 H3.out.2.2.2
  have B4 := box3 H4.out.2.2.2
  obtain ⟨⟨d0, d1, d2⟩, -, -⟩ := B4
  obtain ⟨⟨m0, m1, m2⟩, ⟨g0, g1, g2⟩, l3⟩ := box3 H4.out.2.2.1
  clear H3
  go_wp2
  refine bodyPost_ret (results_cell_row rfl _ _ (w.heap.size + 1) _ _ (0, 0) _ rfl (box3_set (t := 62) H4.out.2.2.1 _ _ _) Tryd.underlying62 rfl (by kernel_rfl)) rfl ⟨g, g', rfl, ⟨?_, ?_, ?_⟩, ?_⟩
  · have hl := Hg.out.2
    exact own_mono (own_set (own_set (own_set K.out.1 (by dsimp only; omega) _) (by dsimp only; omega) _) (by dsimp only; omega) _) (by omega)
  · have hl := K.out.2.2.2
    exact own_mono (own_set (own_set (own_set K.out.2.1 (by dsimp only; omega) _) (by dsimp only; omega) _) (by dsimp only; omega) _) (by omega)
  · have := K.out.2.2.1; omega
  · exact Ext.set3 H4.out.1 (by omega) _ _ _
end Go.Proofs.YtnngklclehffhaaDoor
