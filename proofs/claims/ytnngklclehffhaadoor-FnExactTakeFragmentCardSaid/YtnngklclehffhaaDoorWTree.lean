/- Trees: what one call of each function gives. -/
import Derived.Test.YtnngklclehffhaaDoorWL
namespace Go.Proofs.YtnngklclehffhaaDoor
open Go.RowKit
set_option maxHeartbeats 400000
def nodeOk (ps : List Int) (i : Nat) : Bool := if i = 0 then ps.getD 0 0 == -1 else inB (ps.getD i 0) 0 ((i : Int) - 1)
def parentsOk (ps : List Int) : Bool := (List.range ps.length).all (nodeOk ps)
def goodT (ps : List Int) : Bool := parentsOk ps && inB ps.length 2 8
theorem goodT_len {ps : List Int} (h : goodT ps = true) : 2 ≤ ps.length ∧ ps.length ≤ 8 := by
  rw [goodT, Bool.and_eq_true, inB_iff] at h
  omega
theorem goodT_node {ps : List Int} (h : goodT ps = true) (i : Nat) (hi : i < ps.length) : nodeOk ps i = true := by
  rw [goodT, Bool.and_eq_true] at h
  exact (List.all_eq_true.1 h.1) i (List.mem_range.2 hi)
theorem goodT_root {ps : List Int} (h : goodT ps = true) : ps.getD 0 0 = -1 := by
  have := goodT_node h 0 (by have := goodT_len h; omega)
  simpa [nodeOk] using this
theorem goodT_get {ps : List Int} (h : goodT ps = true) (i : Nat) (hi : i < ps.length) (h0 : 0 < i) : 0 ≤ ps.getD i 0 ∧ ps.getD i 0 < i := by
  have := goodT_node h i hi
  rw [nodeOk, if_neg (by omega), inB_iff] at this
  omega
end Go.Proofs.YtnngklclehffhaaDoor
