/- The law FnExactIsValidDelivery returns true for every delivery: no condition. -/
import Derived.Test.YtbencjbdbilmnaaWD
import Derived.Test.YtbencjbdbilmnaaRows
namespace Go.Proofs.Ytbencjbdbilmnaa.xIsValidDelivery
open Go.ChangeShapes Go.WideShapes Go.ChangeAt Go.RowKit
set_option maxHeartbeats 400000
theorem walk (r g p l : Int) (w : World) :
    Calls Try.prog 3 #[.agg #[.int .i64 r, .int .i64 g, .int .i64 p, .int .i64 l]] w fun e w' => e = .returned (.bool true) ∧ Ext w w' := by
  go_enter Try.func3, Try.ntmps3
  go_wp2_with (first | (go_at_call 8; refine (laws_toDelivery _ _ _ _ _).mono ?_; rintro e w' ⟨rfl, z1, rfl⟩) | (go_at_call 7; refine (spec_IsValidDelivery _ _ _ _ _).mono ?_; rintro e w' ⟨rfl, z1, rfl⟩) | (go_at_call 9; refine (impl_IsValidDelivery _ _ _ _ _).mono ?_; rintro e w' ⟨rfl, z1, rfl⟩))
  go_returns
  exact ⟨rfl, (by repeat' (first | exact Ext.refl _ | assumption | refine Ext.alloc ?_ _ | refine Ext.ext ?_ _ | refine Ext.drew ?_ | refine Ext.drewN ?_ _))⟩
theorem opened {H : Type} {enc : TypeId × Value → H} {W : World} {v : Value} {d : DataW H} {ps : List MemPlace} {r : Reach} {b : Nat} (hval : Value.okWide Try.prog W r b 23 v)
    (h : DataW.Trod enc Try.prog W 0 (fun _ => true) true 23 v d ps) : ∃ x : Dlv, v = .agg x.cs.toArray := by
  obtain ⟨cs, rfl, -, -⟩ : ∃ cs, v = .agg cs ∧ cs.size = Try.prog.cellsOf 23 ∧ Row.okWide Try.prog W r b 23 cs := by
    simpa only [Value.okWide, Try.underlying23] using hval
  obtain ⟨fuel, h⟩ := h
  have h2 := cks_of_trod 3 _ [.i .i64, .i .i64, .i .i64, .i .i64] _ _ _ (by kernel_rfl) h
  obtain ⟨l⟩ := cs
  obtain ⟨a, b, c, d, rfl, ⟨a, rfl, -⟩, ⟨b, rfl, -⟩, ⟨c, rfl, -⟩, ⟨d, rfl, -⟩⟩ := h2.four
  exact ⟨⟨a, b, c, d⟩, rfl⟩
theorem own : ownKnob Try.prog.godebug = none := by kernel_rfl
theorem laidOut : laidOutB Try.prog = true := by kernel_rfl
theorem lifted (os : Os) (started : os.Started) (H : Type) (enc : TypeId × Value → H) :
    ReturnsInHanded {} Try.checked os 3 .any (Rows.fnExactIsValidDeliverySpec.pre6 enc Try.prog Try.f3 Rows.fnExactIsValidDeliveryRow.domain false) (Rows.fnExactIsValidDeliverySpec.post enc Try.prog Try.f3 false true false false) := by
  refine returnsInHanded_of_change (C := Try.checked) own started (by kernel_rfl) Try.func3
    (ChangeSpec.witness6 (enc := enc) (C := Try.checked) false ⟨#[], #[.agg #[.int .i64 0, .int .i64 0, .int .i64 0, .int .i64 0]], []⟩ 8 (by kernel_rfl) (by kernel_rfl) (by kernel_rfl) (by kernel_rfl)) ?_
  intro W base args ds gs before hval0 hW _ _
  have hval : ∀ (j : Nat) t v, Try.f3.params[j]? = some t → args[j]? = some v → Value.okWide Try.prog W .any base t v := hval0
  have hW' := hW
  obtain ⟨p, q, hA0, hV, rfl, hfz, hnd⟩ := hW
  have hA : DataW.TrodAll enc Try.prog W 0 (fun _ => true) true Try.f3.params.toList args.toList ds p := hA0
  rw [Try.params3] at hA hval
  obtain ⟨v0, vs0, d0, ds0, p0, q0, hargs, rfl, rfl, h0, r0⟩ := trodAll_cons hA
  obtain ⟨rfl, rfl, rfl⟩ := trodAll_nil r0
  obtain rfl : args = #[v0] := by cases args; simp_all
  clear hA0 hval0 hfz hnd hV
  obtain ⟨x, rfl⟩ := opened (hval 0 _ v0 rfl rfl) h0
  refine (walk x.r x.g x.p x.l W).mono fun e W' ⟨he, hx⟩ => ?_
  subst he
  exact ⟨_, rfl, law_post laidOut (by rw [Try.params3]; simp only [List.forall_mem_cons, List.not_mem_nil, false_implies, implies_true, and_true]; repeat' apply And.intro; all_goals first | kernel_rfl | exact of_decide_eq_true (by kernel_rfl)) rfl Try.underlying4 rfl ⟨rfl, rfl, rfl⟩ hW' hx.below⟩
theorem proved : Rows.FnExactIsValidDeliverySaid :=
  OpenClaim.holds_of_wide 3 Try.f3 rfl rfl rfl rfl rfl rfl rfl ⟨rfl, rfl, rfl, rfl, rfl⟩ rfl rfl rfl rfl rfl (by kernel_rfl) Try.func3 (by kernel_rfl)
    (of_decide_eq_true (by kernel_rfl)) (by unfold Func.isWrapper; first | (rw [if_pos (by decide +kernel)]; kernel_rfl) | (rw [if_neg (by decide +kernel)]; exact ⟨rfl, rfl⟩))
    (fun os started H enc _ => lifted os started H enc)
#print axioms proved
end Go.Proofs.Ytbencjbdbilmnaa.xIsValidDelivery
