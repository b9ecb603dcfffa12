/- The smallest functions: what one call of each gives. -/
import Derived.Test.YtbencjbdbilmnaaDoorPure
import Derived.Test.YtbencjbdbilmnaaDoorChecked
namespace Go.Proofs.YtbencjbdbilmnaaDoor
open Go.RowKit
set_option maxHeartbeats 400000
theorem impl_within (x a b : Int) (w : World) : Calls Tryd.prog 47 #[.int .i64 x, .int .i64 a, .int .i64 b] w fun e w' => e = .returned (.bool (inB x a b)) ∧ w = w' := by
  rw [inB_eq]
  go_enter Tryd.func47, Tryd.ntmps47
  go_wp2
  all_goals (go_ret; simp_all; try omega)
theorem spec_l1In (x a b : Int) (w : World) : Calls Tryd.prog 42 #[.int .i64 x, .int .i64 a, .int .i64 b] w fun e w' => e = .returned (.bool (inB x a b)) ∧ w = w' := by
  rw [inB_eq]
  go_enter Tryd.func42, Tryd.ntmps42
  go_wp2
  all_goals (go_ret; simp_all; try omega)
theorem impl_isFace (x : Int) (w : World) : Calls Tryd.prog 45 #[.int .i64 x] w fun e w' => e = .returned (.bool (inB x 1 7)) ∧ w = w' := by
  go_enter Tryd.func45, Tryd.ntmps45
  go_wp2_with (go_at_call 47; refine (impl_within _ _ _ _).mono ?_; rintro e w' ⟨rfl, rfl⟩)
  go_ret
  simp
theorem impl_isCount (x : Int) (w : World) : Calls Tryd.prog 46 #[.int .i64 x] w fun e w' => e = .returned (.bool (inB x 0 1000000)) ∧ w = w' := by
  go_enter Tryd.func46, Tryd.ntmps46
  go_wp2_with (go_at_call 47; refine (impl_within _ _ _ _).mono ?_; rintro e w' ⟨rfl, rfl⟩)
  go_ret
  simp
theorem spec_l21Node (x : Int) (w : World) : Calls Tryd.prog 40 #[.int .i64 x] w fun e w' => e = .returned (.bool (inB x 1 7)) ∧ w = w' := by
  go_enter Tryd.func40, Tryd.ntmps40
  go_wp2_with (go_at_call 42; refine (spec_l1In _ _ _ _).mono ?_; rintro e w' ⟨rfl, rfl⟩)
  go_ret
  simp
theorem spec_l26Count (x : Int) (w : World) : Calls Tryd.prog 41 #[.int .i64 x] w fun e w' => e = .returned (.bool (inB x 0 1000000)) ∧ w = w' := by
  go_enter Tryd.func41, Tryd.ntmps41
  go_wp2_with (go_at_call 42; refine (spec_l1In _ _ _ _).mono ?_; rintro e w' ⟨rfl, rfl⟩)
  go_ret
  simp
end Go.Proofs.YtbencjbdbilmnaaDoor
