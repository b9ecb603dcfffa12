/- Library functions on slices of ints, by the shelf's contracts. -/
import Derived.Test.YtljknhocfjpolaaDoorWL
import Derived.Test.YtljknhocfjpolaaDoorKit2
import Derived.Shelf.Slices.Turned
import Derived.Shelf.Slices.Cells
import Derived.Shelf.Slices.Reverse
namespace Go.Proofs.YtljknhocfjpolaaDoor
open Go.RowKit
set_option maxRecDepth 100000
set_option maxHeartbeats 400000
theorem own_setCells {base e k n g cap : Nat} : ∀ (vs : List Value) (w : World) (cs : List Value) (o : Nat), w.ownsRow base e k (.slice (some ⟨g, 0, none⟩) n cap) n cs → o + vs.length ≤ cs.length →
    (w.setCells g o vs).ownsRow base e k (.slice (some ⟨g, 0, none⟩) n cap) n (cs.take o ++ vs ++ cs.drop (o + vs.length)) ∧ w.grownBy (w.setCells g o vs) (some g)
  | [], w, cs, o, h, _ => ⟨by simpa [World.setCells] using h, World.grownBy.refl _ _⟩
  | v :: r, w, cs, o, h, hl => by
    have h1 := World.ownsRow.stored h o v
    simp only [List.length_cons] at hl
    have h2 := own_setCells r (w.setCell ⟨g, o, none⟩ v) (cs.set o v) (o + 1) h1.1 (by simp; omega)
    refine ⟨?_, grownBy_trans h1.2 h2.2⟩
    have e1 : (cs.set o v).take (o + 1) ++ r ++ (cs.set o v).drop (o + 1 + r.length) = cs.take o ++ (v :: r) ++ cs.drop (o + (v :: r).length) := by
      have hd : (cs.set o v).drop (o + 1 + r.length) = cs.drop (o + (v :: r).length) := by
        rw [List.drop_set_of_lt (by omega)]; congr 1; simp; omega
      have ht : (cs.set o v).take (o + 1) = cs.take o ++ [v] := by
        rw [List.take_succ_eq_append_getElem (by simp; omega), List.take_set, List.getElem_set_self]
        rw [List.set_eq_of_length_le (by simp; omega)]
      rw [hd, ht]; simp
    rw [← e1]
    exact h2.1
theorem rd_cells {xs : List Int} {w : World} {b off : Nat} (h : ∀ j (h : j < (vInts xs).length), w.cell? ⟨b, off + j, none⟩ = some (vInts xs)[j]) (j : Nat) (hj : j < xs.length) :
    w.cell? ⟨b, off + j, none⟩ = some (.int .i64 (xs.getD j 0)) := elem1 (Value.int .i64) 0 xs h j hj
end Go.Proofs.YtljknhocfjpolaaDoor
