/- What a drawn line leaves that lays a struct of two rows into a variable. -/
import Derived.Test.YthpeicpfaonkdaaWWorsen2
import Derived.Deep.DeepCutAuto
namespace Go.Proofs.Ythpeicpfaonkdaa
open Go.RowKit
set_option maxHeartbeats 400000
def RCut (w W : World) (p : Nat) (r r' : Value) (L D : List Int) : Prop :=
  Ext w W ∧ W.heap[p]? = some (.cells #[r, r'] 32 (0, 0)) ∧ p < W.heap.size ∧ W.ownsRow w.heap.size 3 1 r L.length (vInts L) ∧ W.ownsRow w.heap.size 3 1 r' D.length (vInts D) ∧ Dis r r'
theorem cutL {w W : World} {q : Nat} {r r' : Value} {L D : List Int} (Y : Ext w W) (hq : w.heap.size ≤ q) (o1 : W.ownsRow q 3 1 r L.length (vInts L)) (o2 : W.ownsRow q 3 1 r' D.length (vInts D)) (hd : Dis r r') :
    RCut w (W.alloc (.cells #[r, r'] 32)) W.heap.size r r' L D :=
  ⟨Y.alloc _, heap_at _ rfl, by simp, own_mono (own_ext o1 ((Ext.refl _).alloc _)) hq, own_mono (own_ext o2 ((Ext.refl _).alloc _)) hq, hd⟩
theorem cutW {w W : World} {p q : Nat} {a b r r' : Value} {L D : List Int} (HB : W.heap[p]? = some (.cells #[a, b] 32 (0, 0))) (Y : Ext w W) (hp : w.heap.size ≤ p) (hq : p < q) (o1 : W.ownsRow q 3 1 r L.length (vInts L))
    (o2 : W.ownsRow q 3 1 r' D.length (vInts D)) (hd : Dis r r') : RCut w ((W.setCell ⟨p, 0, none⟩ r).setCell ⟨p, 1, none⟩ r') p r r' L D := by
  have hb := box2_set HB r r'
  exact ⟨(Y.setCell hp _).setCell hp _, hb, (Array.getElem?_eq_some_iff.1 hb).1, own_apart (own_mono o1 (by omega)) (fun j hj => by have := own_row o1 j hj; omega), own_apart (own_mono o2 (by omega)) (fun j hj => by have := own_row o2 j hj; omega), hd⟩
end Go.Proofs.Ythpeicpfaonkdaa
