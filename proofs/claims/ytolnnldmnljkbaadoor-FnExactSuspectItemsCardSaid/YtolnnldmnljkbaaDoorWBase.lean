/- The smallest functions: what one call of each gives. -/
import Derived.Test.YtolnnldmnljkbaaDoorPure
import Derived.Test.YtolnnldmnljkbaaDoorChecked
namespace Go.Proofs.YtolnnldmnljkbaaDoor
open Go.RowKit
set_option maxHeartbeats 400000
theorem impl_within (x a b : Int) (w : World) : Calls Tryd.prog 68 #[.int .i64 x, .int .i64 a, .int .i64 b] w fun e w' => e = .returned (.bool (inB x a b)) ∧ w = w' := by
  rw [inB_eq]
  go_enter Tryd.func68, Tryd.ntmps68
  go_wp2
  all_goals (go_ret; simp_all; try omega)
theorem spec_l1In (x a b : Int) (w : World) : Calls Tryd.prog 66 #[.int .i64 x, .int .i64 a, .int .i64 b] w fun e w' => e = .returned (.bool (inB x a b)) ∧ w = w' := by
  rw [inB_eq]
  go_enter Tryd.func66, Tryd.ntmps66
  go_wp2
  all_goals (go_ret; simp_all; try omega)
end Go.Proofs.YtolnnldmnljkbaaDoor
