/- More general words: rows of the call's own across stores into other rows. Readings where a row turns. -/
import Derived.Test.YtljknhocfjpolaaGreatDoorKit
namespace Go.RowKit
theorem own_row {w : World} {base e k n : Nat} {v : Value} {cs : List Value} (h : w.ownsRow base e k v n cs) : ∀ j, v.ownBlock = some j → base ≤ j ∧ j < w.heap.size := fun j hj => h.lt j hj
theorem own_behind {w w' : World} {base e k n : Nat} {v : Value} {cs : List Value} {row : Option Nat} (h : w.ownsRow base e k v n cs) (hg : w.grownBy w' row) (hr : ∀ j, row = some j → j < base) : w'.ownsRow base e k v n cs := by
  refine h.kept hg ?_
  cases hv : v.ownBlock with
  | none => exact .inl rfl
  | some j =>
    refine .inr fun e => ?_
    have h1 := (h.lt j hv).1
    have h2 := hr j e.symm
    omega
theorem grownBy_set (w : World) (p : Addr) (u : Value) : w.grownBy (w.setCell p u) (some p.block) :=
  ⟨rfl, rfl, rfl, by simp, fun k _ hk => heap_setCell_other w p k u (fun e => hk (by rw [e]))⟩
theorem own_set {w : World} {base e k n : Nat} {v : Value} {cs : List Value} (h : w.ownsRow base e k v n cs) {p : Addr} (hp : p.block < base) (u : Value) : (w.setCell p u).ownsRow base e k v n cs :=
  own_behind h (grownBy_set w p u) (fun j hj => by cases hj; exact hp)
theorem own_shape {w : World} {base e k n : Nat} {v : Value} {cs : List Value} (h : w.ownsRow base e k v n cs) : ∃ p cap, v = .slice p n cap := by
  obtain ⟨h1, ⟨rfl, rfl⟩ | ⟨g, cap, cur, rfl, hB, _⟩⟩ := h
  · exact ⟨_, _, rfl⟩
  · exact ⟨_, _, rfl⟩
/-- A variable of two cells. -/
theorem box2 {w : World} {B t : Nat} {a b : Value} (h : w.heap[B]? = some (.cells #[a, b] t (0, 0))) :
    (w.cell? ⟨B, 0, none⟩ = some a ∧ w.cell? ⟨B, 1, none⟩ = some b) ∧ (w.frozen? ⟨B, 0, none⟩ = false ∧ w.frozen? ⟨B, 1, none⟩ = false) ∧ B < w.heap.size := by
  refine ⟨⟨?_, ?_⟩, ⟨?_, ?_⟩, (Array.getElem?_eq_some_iff.1 h).1⟩
  · rw [cell_of_row w B 0 _ t _ h]; rfl
  · rw [cell_of_row w B 1 _ t _ h]; rfl
  · exact frozen_of_row w B 0 _ t h
  · exact frozen_of_row w B 1 _ t h
theorem box2_set {w : World} {B t : Nat} {a b : Value} (h : w.heap[B]? = some (.cells #[a, b] t (0, 0))) (a' b' : Value) :
    ((w.setCell ⟨B, 0, none⟩ a').setCell ⟨B, 1, none⟩ b').heap[B]? = some (.cells #[a', b'] t (0, 0)) := by
  have h1 := heap_setCell_same _ B 0 _ t a' h
  have h2 := heap_setCell_same _ B 1 _ t b' h1
  simpa using h2
theorem set_other {w : World} {p : Addr} {C : Nat} {o : Obj} (h : w.heap[C]? = some o) (hne : C ≠ p.block) (a : Value) : (w.setCell p a).heap[C]? = some o := by
  rw [heap_setCell_other _ _ _ _ hne, h]
theorem heap_at {w : World} {k : Nat} (o : Obj) (h : k = w.heap.size) : (w.alloc o).heap[k]? = some o := by subst h; exact heap_alloc_new _ _
theorem heap_old {w : World} {k : Nat} {o : Obj} (h : w.heap[k]? = some o) (u : Obj) : (w.alloc u).heap[k]? = some o :=
  (heap_alloc_old _ _ (Array.getElem?_eq_some_iff.1 h).1).trans h
theorem heap_extd {w : World} {k : Nat} {o : Obj} (h : w.heap[k]? = some o) (z : Grow) : (w.ext z).heap[k]? = some o :=
  (World.heap_ext _ _ _ (Array.getElem?_eq_some_iff.1 h).1).trans h
end Go.RowKit
namespace Go.Proofs.YtljknhocfjpolaaGreatDoor
open Go.RowKit
theorem rd_lt {w : World} {k n b o m c : Nat} {u : Value} {cs : List Value} (h : Rd w k u n cs) (hk : 0 < k) (e : u = .slice (some ⟨b, o, none⟩) m c) (hm : 0 < m) : b < w.heap.size := by
  obtain ⟨h1, p, cap, e2, h4⟩ := h
  rw [e] at e2
  cases e2
  obtain ⟨b', o', e3, h6⟩ := h4.resolve_left (by omega)
  cases e3
  have := World.block_lt_of_cell? _ _ (h6 0 (by rw [h1]; exact Nat.mul_pos hm hk))
  exact this
theorem rd_turn {w w' : World} {k n : Nat} {u : Value} {cs : List Value} {row : Option Nat} (h : Rd w k u n cs) (hg : w.grownBy w' row) (hs : ∀ b o m c, u = .slice (some ⟨b, o, none⟩) m c → 0 < m → row ≠ some b) : Rd w' k u n cs := by
  obtain ⟨h1, p, cap, e, h4⟩ := h
  refine ⟨h1, p, cap, e, ?_⟩
  rcases h4 with h4 | ⟨b, o, e2, h6⟩
  · exact .inl h4
  · by_cases h0 : n = 0
    · exact .inl h0
    · subst e2
      exact .inr ⟨b, o, rfl, fun j hj => hg.cell (h6 j hj) (fun e3 => hs b o n cap e (by omega) e3.symm)⟩
end Go.Proofs.YtljknhocfjpolaaGreatDoor
