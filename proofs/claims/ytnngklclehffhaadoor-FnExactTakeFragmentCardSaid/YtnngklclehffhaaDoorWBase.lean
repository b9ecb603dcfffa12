/- The smallest functions: what one call of each gives. -/
import Derived.Test.YtnngklclehffhaaDoorPure
import Derived.Test.YtnngklclehffhaaDoorChecked
namespace Go.Proofs.YtnngklclehffhaaDoor
open Go.RowKit
set_option maxHeartbeats 400000
theorem impl_within (x a b : Int) (w : World) : Calls Tryd.prog 88 #[.int .i64 x, .int .i64 a, .int .i64 b] w fun e w' => e = .returned (.bool (inB x a b)) ∧ w = w' := by
  rw [inB_eq]
  go_enter Tryd.func88, Tryd.ntmps88
  go_wp2
  all_goals (go_ret; simp_all; try omega)
theorem spec_l1In (x a b : Int) (w : World) : Calls Tryd.prog 86 #[.int .i64 x, .int .i64 a, .int .i64 b] w fun e w' => e = .returned (.bool (inB x a b)) ∧ w = w' := by
  rw [inB_eq]
  go_enter Tryd.func86, Tryd.ntmps86
  go_wp2
  all_goals (go_ret; simp_all; try omega)
end Go.Proofs.YtnngklclehffhaaDoor
