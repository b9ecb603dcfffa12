/- More general words: rows of the call's own across stores into other rows. -/
import Derived.Test.YtolnnldmnljkbaaKit
namespace Go.RowKit
theorem own_row {w : World} {base e k n : Nat} {v : Value} {cs : List Value} (h : w.ownsRow base e k v n cs) : ∀ j, v.ownBlock = some j → base ≤ j ∧ j < w.heap.size := fun j hj => h.lt j hj
theorem own_behind {w w' : World} {base e k n : Nat} {v : Value} {cs : List Value} {row : Option Nat} (h : w.ownsRow base e k v n cs) (hg : w.grownBy w' row) (hr : ∀ j, row = some j → j < base) : w'.ownsRow base e k v n cs := by
  refine h.kept hg ?_
  cases hv : v.ownBlock with
  | none => exact .inl rfl
  | some j =>
    refine .inr fun e => ?_
    have h1 := (h.lt j hv).1
    have h2 := hr j e.symm
    omega
end Go.RowKit
