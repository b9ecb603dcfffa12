/- Families of rows of the call's own, each apart from the others. -/
import Derived.Test.YtnngklclehffhaaDoorWTurn
import Derived.Test.YtnngklclehffhaaDoorWRdT
namespace Go.Proofs.YtnngklclehffhaaDoor
open Go.RowKit
set_option maxHeartbeats 400000
/-- A row: the element's type, its cells, the slice, its length, what it holds. -/
structure Row where
  e : Nat
  k : Nat
  v : Value
  n : Nat
  cs : List Value
def Row.own (r : Row) (w : World) (lo : Nat) : Prop := w.ownsRow lo r.e r.k r.v r.n r.cs
def Row.apart (a b : Row) : Prop := ∀ j, a.v.ownBlock = some j → b.v.ownBlock ≠ some j
theorem Row.apart.symm {a b : Row} (h : a.apart b) : b.apart a := fun j hb ha => h j ha hb
def Fam (w : World) (lo hi : Nat) (rs : List Row) : Prop := (∀ r ∈ rs, r.own w lo ∧ ∀ j, r.v.ownBlock = some j → j < hi) ∧ rs.Pairwise Row.apart
theorem Fam.own {w : World} {lo hi : Nat} {rs : List Row} (h : Fam w lo hi rs) {r : Row} (hr : r ∈ rs) : r.own w lo := (h.1 r hr).1
theorem Fam.lt {w : World} {lo hi : Nat} {rs : List Row} (h : Fam w lo hi rs) {r : Row} (hr : r ∈ rs) {j : Nat} (e : r.v.ownBlock = some j) : lo ≤ j ∧ j < hi ∧ j < w.heap.size :=
  ⟨(own_row (h.1 r hr).1 j e).1, (h.1 r hr).2 j e, (own_row (h.1 r hr).1 j e).2⟩
theorem Fam.ext {w w' : World} {lo hi : Nat} {rs : List Row} (h : Fam w lo hi rs) (hx : Ext w w') : Fam w' lo hi rs := ⟨fun r hr => ⟨own_ext (h.1 r hr).1 hx, (h.1 r hr).2⟩, h.2⟩
theorem Fam.wide {w : World} {lo lo' hi hi' : Nat} {rs : List Row} (h : Fam w lo hi rs) (h1 : lo' ≤ lo) (h2 : hi ≤ hi') : Fam w lo' hi' rs :=
  ⟨fun r hr => ⟨own_mono (h.1 r hr).1 h1, fun j e => Nat.lt_of_lt_of_le ((h.1 r hr).2 j e) h2⟩, h.2⟩
theorem Fam.turned {w w' : World} {lo hi lo' hi' : Nat} {rs : List Row} (h : Fam w lo hi rs) (ht : Turn lo' hi' w w') (hd : hi' ≤ lo ∨ hi ≤ lo') : Fam w' lo hi rs :=
  ⟨fun r hr => ⟨own_turned (h.1 r hr).1 ht (fun j e => by have := h.lt hr e; omega), (h.1 r hr).2⟩, h.2⟩
theorem Fam.sub {w : World} {lo hi : Nat} {rs qs : List Row} (h : Fam w lo hi rs) (hs : qs.Sublist rs) : Fam w lo hi qs := ⟨fun r hr => h.1 r (hs.subset hr), h.2.sublist hs⟩
theorem Fam.nil (w : World) (lo hi : Nat) : Fam w lo hi [] := ⟨fun _ h => (by cases h), List.Pairwise.nil⟩
/-- Another block turned, that none of them has. -/
theorem Fam.grown {w w' : World} {lo hi : Nat} {rs : List Row} {row : Option Nat} (h : Fam w lo hi rs) (hg : w.grownBy w' row) (hr : ∀ r ∈ rs, ∀ j, r.v.ownBlock = some j → row ≠ some j) : Fam w' lo hi rs :=
  ⟨fun r hm => ⟨(h.1 r hm).1.kept hg (by
    cases hv : r.v.ownBlock with
    | none => exact .inl rfl
    | some j => exact .inr (fun e => hr r hm j hv (by first | exact e | exact e.symm))), (h.1 r hm).2⟩, h.2⟩
theorem pair_mid {α : Type} {R : α → α → Prop} (hs : ∀ a b, R a b → R b a) {A B : List α} {x : α} : (A ++ x :: B).Pairwise R ↔ (A ++ B).Pairwise R ∧ ∀ y ∈ A ++ B, R y x := by
  rw [List.pairwise_append, List.pairwise_append, List.pairwise_cons]
  constructor
  · rintro ⟨h1, ⟨h2, h3⟩, h4⟩
    refine ⟨⟨h1, h3, fun a ha b hb => h4 a ha b (by simp [hb])⟩, fun y hy => ?_⟩
    rcases List.mem_append.1 hy with h | h
    · exact h4 y h x (by simp)
    · exact hs _ _ (h2 y h)
  · rintro ⟨⟨h1, h2, h3⟩, h4⟩
    refine ⟨h1, ⟨fun b hb => hs _ _ (h4 b (by simp [hb])), h2⟩, fun a ha b hb => ?_⟩
    rcases List.mem_cons.1 hb with rfl | hb
    · exact h4 a (by simp [ha])
    · exact h3 a ha b hb
theorem Fam.mid {w : World} {lo hi : Nat} {A B : List Row} {x : Row} (h : Fam w lo hi (A ++ x :: B)) : Fam w lo hi (A ++ B) ∧ ∀ y ∈ A ++ B, y.apart x :=
  ⟨h.sub (by simp), (pair_mid (fun _ _ h => Row.apart.symm h)).1 h.2 |>.2⟩
/-- One row more, at any place. -/
theorem Fam.put {w : World} {lo hi : Nat} {A B : List Row} {x : Row} (h : Fam w lo hi (A ++ B)) (ho : x.own w lo) (hb : ∀ j, x.v.ownBlock = some j → j < hi) (ha : ∀ y ∈ A ++ B, y.apart x) : Fam w lo hi (A ++ x :: B) := by
  refine ⟨fun r hr => ?_, (pair_mid (fun _ _ h => Row.apart.symm h)).2 ⟨h.2, ha⟩⟩
  rcases List.mem_append.1 hr with h1 | h1
  · exact h.1 r (by simp [h1])
  · rcases List.mem_cons.1 h1 with rfl | h1
    · exact ⟨ho, hb⟩
    · exact h.1 r (by simp [h1])
/-- A row that begins behind all others. -/
theorem Fam.putNew {w : World} {lo hi hi' : Nat} {A B : List Row} {x : Row} (h : Fam w lo hi (A ++ B)) (hh : hi ≤ hi') (ho : x.own w lo) (hb : ∀ j, x.v.ownBlock = some j → hi ≤ j ∧ j < hi') : Fam w lo hi' (A ++ x :: B) := by
  refine (h.wide (Nat.le_refl _) hh).put ho (fun j e => (hb j e).2) (fun y hy j hj e => ?_)
  have := (h.1 y hy).2 j hj
  have := (hb j e).1
  omega
/-- A row that turned in its place (or moved behind all others). -/
theorem Fam.turn {w w' : World} {lo hi hi' : Nat} {A B : List Row} {x y : Row} (h : Fam w lo hi (A ++ x :: B)) (hh : hi ≤ hi') (hg : w.grownBy w' x.v.ownBlock) (ho : y.own w' lo) (hb : ∀ j, y.v.ownBlock = some j → (x.v.ownBlock = some j ∨ hi ≤ j) ∧ j < hi') : Fam w' lo hi' (A ++ y :: B) := by
  obtain ⟨h1, h2⟩ := h.mid
  refine ((h1.wide (Nat.le_refl _) hh).grown hg (fun r hr j e e2 => h2 r hr j e e2)).put ho (fun j e => (hb j e).2) (fun r hr j hj e => ?_)
  rcases (hb j e).1 with h3 | h3
  · exact h2 r hr j hj h3
  · have := (h1.1 r hr).2 j hj
    omega
end Go.Proofs.YtnngklclehffhaaDoor
