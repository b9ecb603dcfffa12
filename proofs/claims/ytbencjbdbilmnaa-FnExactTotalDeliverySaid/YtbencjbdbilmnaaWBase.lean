/- The smallest functions: what one call of each gives. -/
import Derived.Test.YtbencjbdbilmnaaPure
import Derived.Test.YtbencjbdbilmnaaChecked
namespace Go.Proofs.Ytbencjbdbilmnaa
open Go.RowKit
set_option maxHeartbeats 400000
theorem impl_within (x a b : Int) (w : World) : Calls Try.prog 26 #[.int .i64 x, .int .i64 a, .int .i64 b] w fun e w' => e = .returned (.bool (inB x a b)) ∧ w = w' := by
  rw [inB_eq]
  go_enter Try.func26, Try.ntmps26
  go_wp2
  all_goals (go_ret; simp_all; try omega)
theorem spec_l1In (x a b : Int) (w : World) : Calls Try.prog 34 #[.int .i64 x, .int .i64 a, .int .i64 b] w fun e w' => e = .returned (.bool (inB x a b)) ∧ w = w' := by
  rw [inB_eq]
  go_enter Try.func34, Try.ntmps34
  go_wp2
  all_goals (go_ret; simp_all; try omega)
theorem impl_isFace (x : Int) (w : World) : Calls Try.prog 24 #[.int .i64 x] w fun e w' => e = .returned (.bool (inB x 1 7)) ∧ w = w' := by
  go_enter Try.func24, Try.ntmps24
  go_wp2_with (go_at_call 26; refine (impl_within _ _ _ _).mono ?_; rintro e w' ⟨rfl, rfl⟩)
  go_ret
  simp
theorem impl_isCount (x : Int) (w : World) : Calls Try.prog 25 #[.int .i64 x] w fun e w' => e = .returned (.bool (inB x 0 1000000)) ∧ w = w' := by
  go_enter Try.func25, Try.ntmps25
  go_wp2_with (go_at_call 26; refine (impl_within _ _ _ _).mono ?_; rintro e w' ⟨rfl, rfl⟩)
  go_ret
  simp
theorem spec_l21Node (x : Int) (w : World) : Calls Try.prog 32 #[.int .i64 x] w fun e w' => e = .returned (.bool (inB x 1 7)) ∧ w = w' := by
  go_enter Try.func32, Try.ntmps32
  go_wp2_with (go_at_call 34; refine (spec_l1In _ _ _ _).mono ?_; rintro e w' ⟨rfl, rfl⟩)
  go_ret
  simp
theorem spec_l26Count (x : Int) (w : World) : Calls Try.prog 33 #[.int .i64 x] w fun e w' => e = .returned (.bool (inB x 0 1000000)) ∧ w = w' := by
  go_enter Try.func33, Try.ntmps33
  go_wp2_with (go_at_call 34; refine (spec_l1In _ _ _ _).mono ?_; rintro e w' ⟨rfl, rfl⟩)
  go_ret
  simp
end Go.Proofs.Ytbencjbdbilmnaa
