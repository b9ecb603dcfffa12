/- A variable of eight cells. -/
import Derived.Test.YtljknhocfjpolaaGreatDoorJ2
namespace Go.Proofs.YtljknhocfjpolaaGreatDoor
open Go.RowKit
set_option maxHeartbeats 400000
theorem cell8 {w : World} {B t : Nat} {cs : List Value} {a : Value} (h : w.heap[B]? = some (.cells cs.toArray t (0, 0))) (i : Nat) (hi : cs[i]? = some a) : w.cell? ⟨B, i, none⟩ = some a ∧ w.frozen? ⟨B, i, none⟩ = false := by
  refine ⟨?_, frozen_of_row w B i _ t h⟩
  rw [cell_of_row w B i _ t _ h, List.getElem?_toArray]; exact hi
theorem box8 {w : World} {B t : Nat} {a b c d e f g k : Value} (h : w.heap[B]? = some (.cells #[a, b, c, d, e, f, g, k] t (0, 0))) :
    (w.cell? ⟨B, 0, none⟩ = some a ∧ w.cell? ⟨B, 1, none⟩ = some b ∧ w.cell? ⟨B, 2, none⟩ = some c ∧ w.cell? ⟨B, 3, none⟩ = some d ∧ w.cell? ⟨B, 4, none⟩ = some e ∧ w.cell? ⟨B, 5, none⟩ = some f ∧ w.cell? ⟨B, 6, none⟩ = some g ∧ w.cell? ⟨B, 7, none⟩ = some k) ∧
    (w.frozen? ⟨B, 0, none⟩ = false ∧ w.frozen? ⟨B, 1, none⟩ = false ∧ w.frozen? ⟨B, 2, none⟩ = false ∧ w.frozen? ⟨B, 3, none⟩ = false ∧ w.frozen? ⟨B, 4, none⟩ = false ∧ w.frozen? ⟨B, 5, none⟩ = false ∧ w.frozen? ⟨B, 6, none⟩ = false ∧ w.frozen? ⟨B, 7, none⟩ = false) ∧ B < w.heap.size := by
  have h0 := cell8 (cs := [a, b, c, d, e, f, g, k]) (a := a) h 0 rfl
  have h1 := cell8 (cs := [a, b, c, d, e, f, g, k]) (a := b) h 1 rfl
  have h2 := cell8 (cs := [a, b, c, d, e, f, g, k]) (a := c) h 2 rfl
  have h3 := cell8 (cs := [a, b, c, d, e, f, g, k]) (a := d) h 3 rfl
  have h4 := cell8 (cs := [a, b, c, d, e, f, g, k]) (a := e) h 4 rfl
  have h5 := cell8 (cs := [a, b, c, d, e, f, g, k]) (a := f) h 5 rfl
  have h6 := cell8 (cs := [a, b, c, d, e, f, g, k]) (a := g) h 6 rfl
  have h7 := cell8 (cs := [a, b, c, d, e, f, g, k]) (a := k) h 7 rfl
  exact ⟨⟨h0.1, h1.1, h2.1, h3.1, h4.1, h5.1, h6.1, h7.1⟩, ⟨h0.2, h1.2, h2.2, h3.2, h4.2, h5.2, h6.2, h7.2⟩, (Array.getElem?_eq_some_iff.1 h).1⟩
end Go.Proofs.YtljknhocfjpolaaGreatDoor
