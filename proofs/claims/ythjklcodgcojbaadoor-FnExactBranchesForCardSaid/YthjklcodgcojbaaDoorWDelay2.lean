/- Delays to nodes. -/
import Derived.Test.YthjklcodgcojbaaDoorWDelay
namespace Go.Proofs.YthjklcodgcojbaaDoor
open Go.RowKit
set_option maxHeartbeats 400000
def hasC (ps ls ds : List Int) (x : Int) : Bool := goodC ps ls ds && isNode ps.length x
theorem hasC_iff {ps ls ds : List Int} {x : Int} (h : hasC ps ls ds x = true) : goodC ps ls ds = true ∧ 0 ≤ x ∧ x < ps.length := by
  rw [hasC, Bool.and_eq_true, isNode, inB_iff] at h
  exact ⟨h.1, by omega, by omega⟩
theorem nodesIn_one (ps : List Int) (x : Int) : nodesIn ps [x] = isNode ps.length x := by simp [nodesIn, allG]
def delayTo (ps ls ds : List Int) (x : Int) : Int := if hasC ps ls ds x then del ps ds x else 0
theorem delayTo_no {ps ls ds : List Int} {x : Int} (h : hasC ps ls ds x = false) : delayTo ps ls ds x = 0 := by simp [delayTo, h]
theorem delayTo_yes {ps ls ds : List Int} {x : Int} (h : hasC ps ls ds x = true) : delayTo ps ls ds x = del ps ds x := by simp [delayTo, h]
end Go.Proofs.YthjklcodgcojbaaDoor
