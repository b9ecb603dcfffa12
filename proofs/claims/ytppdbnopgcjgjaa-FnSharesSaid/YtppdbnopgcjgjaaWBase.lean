/- The smallest functions: what one call of each gives. -/
import Derived.Test.YtppdbnopgcjgjaaPure
import Derived.Test.YtppdbnopgcjgjaaChecked
namespace Go.Proofs.Ytppdbnopgcjgjaa
open Go.RowKit
set_option maxHeartbeats 400000
theorem impl_within (x a b : Int) (w : World) : Calls Try.prog 70 #[.int .i64 x, .int .i64 a, .int .i64 b] w fun e w' => e = .returned (.bool (inB x a b)) ∧ w = w' := by
  rw [inB_eq]
  go_enter Try.func70, Try.ntmps70
  go_wp2
  all_goals (go_ret; simp_all; try omega)
theorem spec_l1In (x a b : Int) (w : World) : Calls Try.prog 75 #[.int .i64 x, .int .i64 a, .int .i64 b] w fun e w' => e = .returned (.bool (inB x a b)) ∧ w = w' := by
  rw [inB_eq]
  go_enter Try.func75, Try.ntmps75
  go_wp2
  all_goals (go_ret; simp_all; try omega)
end Go.Proofs.Ytppdbnopgcjgjaa
