/- Trees and costs in the laws' own words: copies, comparisons, marks, sizes. Marks on trees and costs. Trees and costs that came in. Groups in the laws' own words: copies, comparisons, marks, sizes. -/
import Derived.Test.YtlaochpkelbchaaGreatDoorKWTree
import Derived.Test.YtlaochpkelbchaaGreatDoorJ2
import Derived.Test.YtlaochpkelbchaaGreatDoorJ5
namespace Go.Proofs.YtlaochpkelbchaaGreatDoor
open Go.RowKit
set_option maxHeartbeats 400000
end Go.Proofs.YtlaochpkelbchaaGreatDoor
namespace Go.Proofs.YtlaochpkelbchaaGreatDoor
open Go.RowKit
set_option maxHeartbeats 400000
/-- Two rows in two blocks. -/
def Dis (v u : Value) : Prop := v.ownBlock = none ∨ v.ownBlock ≠ u.ownBlock
theorem Dis.symm {v u : Value} (h : Dis v u) (hu : u.ownBlock = none ∨ v.ownBlock ≠ none) : Dis u v := by
  unfold Dis at *
  rcases hu with hu | hu
  · exact .inl hu
  · rcases h with h | h
    · exact absurd h hu
    · exact .inr (fun e => h e.symm)
theorem dis_of {w w' : World} {b b' c n m k e f : Nat} {v u : Value} {cs ds : List Value} (_h : w.ownsRow b e k v n cs) (h' : w'.ownsRow b' f c u m ds) (hs : ∀ j, v.ownBlock = some j → j < b') : Dis v u := by
  cases hv : v.ownBlock with
  | none => exact .inl hv
  | some j =>
    refine .inr fun e => ?_
    rw [hv] at e
    have := (h'.lt j e.symm).1
    have := hs j hv
    omega
end Go.Proofs.YtlaochpkelbchaaGreatDoor
namespace Go.Proofs.YtlaochpkelbchaaGreatDoor
open Go.RowKit
set_option maxRecDepth 100000
theorem ints_flat (xs : List Int) : vInts xs = xs.flatMap (fun x => [Value.int .i64 x]) := by
  unfold vInts
  induction xs with
  | nil => rfl
  | cons x xs ih => rw [List.map_cons, List.flatMap_cons, ih]; rfl
theorem ints_of_trod {H : Type} {enc : TypeId × Value → H} {W : World} {v : Value} {fuel : Nat} {x : DataW H × List MemPlace}
    (h : DataW.trod enc Tryz.prog W 0 (fun _ => true) true fuel 24 [v] = some x) : ∃ xs : List Int, Rd W 1 v xs.length (vInts xs) ∧ xs.length ≤ maxLen := by
  obtain ⟨css, h1, h2, h3⟩ := rd_of_trod (d := 3) Tryz.underlying24 (ks := [.i .i64]) (by kernel_rfl) (by kernel_rfl) (by decide) h
  obtain ⟨xs, rfl, -⟩ := exists_map (f := fun x => [Value.int .i64 x]) (ok := fun _ => True) (l := css) (fun cs hcs => by
    obtain ⟨a, rfl, ⟨a, rfl, -⟩⟩ := (h1 cs hcs).one
    exact ⟨a, rfl, trivial⟩)
  exact ⟨xs, by rw [ints_flat]; exact h2.map, by simpa using h3⟩
theorem opened_int {W : World} {v : Value} {r : Reach} {b : Nat} (hval : Value.okWide Tryz.prog W r b 3 v) : ∃ n : Int, v = .int .i64 n := by
  obtain ⟨n, rfl, -⟩ := Go.WideShapes.okWide_int Tryz.underlying3 hval
  exact ⟨n, rfl⟩
end Go.Proofs.YtlaochpkelbchaaGreatDoor
namespace Go.Proofs.YtlaochpkelbchaaGreatDoor
open Go.RowKit
set_option maxHeartbeats 400000
set_option maxRecDepth 100000
end Go.Proofs.YtlaochpkelbchaaGreatDoor
