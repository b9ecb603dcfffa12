/- Marks on trees and costs. -/
import Derived.Test.YtlaochpkelbchaaDoorWCL
namespace Go.Proofs.YtlaochpkelbchaaDoor
open Go.RowKit
set_option maxHeartbeats 400000
/-- Two rows in two blocks. -/
def Dis (v u : Value) : Prop := v.ownBlock = none ∨ v.ownBlock ≠ u.ownBlock
theorem Dis.symm {v u : Value} (h : Dis v u) (hu : u.ownBlock = none ∨ v.ownBlock ≠ none) : Dis u v := by
  unfold Dis at *
  rcases hu with hu | hu
  · exact .inl hu
  · rcases h with h | h
    · exact absurd h hu
    · exact .inr (fun e => h e.symm)
theorem dis_of {w w' : World} {b b' c n m k e f : Nat} {v u : Value} {cs ds : List Value} (_h : w.ownsRow b e k v n cs) (h' : w'.ownsRow b' f c u m ds) (hs : ∀ j, v.ownBlock = some j → j < b') : Dis v u := by
  cases hv : v.ownBlock with
  | none => exact .inl hv
  | some j =>
    refine .inr fun e => ?_
    rw [hv] at e
    have := (h'.lt j e.symm).1
    have := hs j hv
    omega
end Go.Proofs.YtlaochpkelbchaaDoor
