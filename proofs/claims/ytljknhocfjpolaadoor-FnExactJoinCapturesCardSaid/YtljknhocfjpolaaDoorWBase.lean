/- The smallest functions: what one call of each gives. -/
import Derived.Test.YtljknhocfjpolaaDoorPure
import Derived.Test.YtljknhocfjpolaaDoorChecked
namespace Go.Proofs.YtljknhocfjpolaaDoor
open Go.RowKit
set_option maxHeartbeats 400000
theorem impl_within (x a b : Int) (w : World) : Calls Tryd.prog 37 #[.int .i64 x, .int .i64 a, .int .i64 b] w fun e w' => e = .returned (.bool (inB x a b)) ∧ w = w' := by
  rw [inB_eq]
  go_enter Tryd.func37, Tryd.ntmps37
  go_wp2
  all_goals (go_ret; simp_all; try omega)
theorem spec_l1In (x a b : Int) (w : World) : Calls Tryd.prog 44 #[.int .i64 x, .int .i64 a, .int .i64 b] w fun e w' => e = .returned (.bool (inB x a b)) ∧ w = w' := by
  rw [inB_eq]
  go_enter Tryd.func44, Tryd.ntmps44
  go_wp2
  all_goals (go_ret; simp_all; try omega)
theorem impl_isFace (x : Int) (w : World) : Calls Tryd.prog 27 #[.int .i64 x] w fun e w' => e = .returned (.bool (inB x 1 7)) ∧ w = w' := by
  go_enter Tryd.func27, Tryd.ntmps27
  go_wp2_with (go_at_call 37; refine (impl_within _ _ _ _).mono ?_; rintro e w' ⟨rfl, rfl⟩)
  go_ret
  simp
theorem spec_l21Node (x : Int) (w : World) : Calls Tryd.prog 34 #[.int .i64 x] w fun e w' => e = .returned (.bool (inB x 1 7)) ∧ w = w' := by
  go_enter Tryd.func34, Tryd.ntmps34
  go_wp2_with (go_at_call 44; refine (spec_l1In _ _ _ _).mono ?_; rintro e w' ⟨rfl, rfl⟩)
  go_ret
  simp
end Go.Proofs.YtljknhocfjpolaaDoor
