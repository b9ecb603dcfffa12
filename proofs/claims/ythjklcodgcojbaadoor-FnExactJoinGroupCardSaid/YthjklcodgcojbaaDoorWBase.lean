/- The smallest functions: what one call of each gives. -/
import Derived.Test.YthjklcodgcojbaaDoorPure
import Derived.Test.YthjklcodgcojbaaDoorChecked
namespace Go.Proofs.YthjklcodgcojbaaDoor
open Go.RowKit
set_option maxHeartbeats 400000
theorem impl_within (x a b : Int) (w : World) : Calls Tryd.prog 97 #[.int .i64 x, .int .i64 a, .int .i64 b] w fun e w' => e = .returned (.bool (inB x a b)) ∧ w = w' := by
  rw [inB_eq]
  go_enter Tryd.func97, Tryd.ntmps97
  go_wp2
  all_goals (go_ret; simp_all; try omega)
theorem spec_l1In (x a b : Int) (w : World) : Calls Tryd.prog 106 #[.int .i64 x, .int .i64 a, .int .i64 b] w fun e w' => e = .returned (.bool (inB x a b)) ∧ w = w' := by
  rw [inB_eq]
  go_enter Tryd.func106, Tryd.ntmps106
  go_wp2
  all_goals (go_ret; simp_all; try omega)
theorem impl_isFace (x : Int) (w : World) : Calls Tryd.prog 78 #[.int .i64 x] w fun e w' => e = .returned (.bool (inB x 1 7)) ∧ w = w' := by
  go_enter Tryd.func78, Tryd.ntmps78
  go_wp2_with (go_at_call 97; refine (impl_within _ _ _ _).mono ?_; rintro e w' ⟨rfl, rfl⟩)
  go_ret
  simp
theorem spec_l21Node (x : Int) (w : World) : Calls Tryd.prog 75 #[.int .i64 x] w fun e w' => e = .returned (.bool (inB x 1 7)) ∧ w = w' := by
  go_enter Tryd.func75, Tryd.ntmps75
  go_wp2_with (go_at_call 106; refine (spec_l1In _ _ _ _).mono ?_; rintro e w' ⟨rfl, rfl⟩)
  go_ret
  simp
end Go.Proofs.YthjklcodgcojbaaDoor
