/- Deliveries: what one call of each function gives. -/
import Derived.Test.YtbencjbdbilmnaaWBase
namespace Go.Proofs.Ytbencjbdbilmnaa
open Go.RowKit
set_option maxHeartbeats 400000
theorem impl_IsValidDelivery (r g p l : Int) (w : World) : Calls Try.prog 9 #[.agg #[.int .i64 r, .int .i64 g, .int .i64 p, .int .i64 l]] w fun e w' => e = .returned (.bool (okD ⟨r, g, p, l⟩)) ∧ Ext w w' := by
  go_enter Try.func9, Try.ntmps9
  go_wp2_with (first | (go_at_call 24; refine (impl_isFace _ _).mono ?_; rintro e w' ⟨rfl, rfl⟩) | (go_at_call 25; refine (impl_isCount _ _).mono ?_; rintro e w' ⟨rfl, rfl⟩) | (go_at_call 26; refine (impl_within _ _ _ _).mono ?_; rintro e w' ⟨rfl, rfl⟩))
  all_goals (go_ret; simp [okD, *]; exact (Ext.refl _).alloc _)
theorem spec_l26One (r g p l : Int) (w : World) : Calls Try.prog 23 #[.agg #[.int .i64 r, .int .i64 g, .int .i64 p, .int .i64 l]] w fun e w' => e = .returned (.bool (okD ⟨r, g, p, l⟩)) ∧ Ext w w' := by
  go_enter Try.func23, Try.ntmps23
  go_wp2_with (first | (go_at_call 32; refine (spec_l21Node _ _).mono ?_; rintro e w' ⟨rfl, rfl⟩) | (go_at_call 33; refine (spec_l26Count _ _).mono ?_; rintro e w' ⟨rfl, rfl⟩) | (go_at_call 34; refine (spec_l1In _ _ _ _).mono ?_; rintro e w' ⟨rfl, rfl⟩))
  all_goals (go_ret; simp [okD, *]; exact (Ext.refl _).alloc _)
theorem spec_IsValidDelivery (r g p l : Int) (w : World) : Calls Try.prog 7 #[.agg #[.int .i64 r, .int .i64 g, .int .i64 p, .int .i64 l]] w fun e w' => e = .returned (.bool (okD ⟨r, g, p, l⟩)) ∧ Ext w w' := by
  go_enter Try.func7, Try.ntmps7
  go_wp2_with (go_at_call 23; refine (spec_l26One _ _ _ _ _).mono ?_; rintro e w' ⟨rfl, z1, rfl⟩)
  go_ret
  exact ⟨rfl, ((Ext.refl _).alloc _).ext _⟩
theorem laws_toDelivery (r g p l : Int) (w : World) : Calls Try.prog 8 #[.agg #[.int .i64 r, .int .i64 g, .int .i64 p, .int .i64 l]] w fun e w' => e = .returned (.agg #[.int .i64 r, .int .i64 g, .int .i64 p, .int .i64 l]) ∧ Ext w w' := by
  go_enter Try.func8, Try.ntmps8
  go_wp2
  go_returns
  exact ⟨rfl, (by repeat' (first | exact Ext.refl _ | assumption | refine Ext.alloc ?_ _ | refine Ext.ext ?_ _ | refine Ext.drew ?_ | refine Ext.drewN ?_ _))⟩
end Go.Proofs.Ytbencjbdbilmnaa
