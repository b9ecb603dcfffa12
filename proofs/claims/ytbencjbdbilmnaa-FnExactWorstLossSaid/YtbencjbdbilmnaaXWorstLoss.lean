/- The law FnExactWorstLoss. -/
import Derived.Test.YtbencjbdbilmnaaWD4
import Derived.Test.YtbencjbdbilmnaaRows
namespace Go.Proofs.Ytbencjbdbilmnaa.xWorstLoss
open Go.ChangeShapes Go.WideShapes Go.ChangeAt Go.RowKit
set_option maxHeartbeats 400000
theorem worstRes_eq (xs : List Dlv) : ∃ n b, worstRes xs = .tuple #[.int .i64 n, .bool b] := by unfold worstRes; split <;> exact ⟨_, _, rfl⟩
theorem walk (xs : List Dlv) (v : Value) (w : World) (h : Rd w 4 v xs.length (xs.flatMap Dlv.cs)) (hm : xs.length ≤ maxLen) :
    Calls Try.prog 4 #[v] w fun e w' => e = .returned (.bool true) ∧ Ext w w' := by
  by_cases h2 : xs.length ≤ 1048576
  · obtain ⟨n, b, hres⟩ := worstRes_eq xs
    have cs := fun v w h => spec_WorstLoss xs v w h h2
    have ci := fun v w h => impl_WorstLoss xs v w h h2
    simp only [hres] at cs ci
    have t0 : decide ((1048576 : Int) - xs.length < 0) = false := by simp; omega
    clear hres
    go_enter Try.func4, Try.ntmps4
    (go_wp2_with fail); go_at_call 10; refine (laws_szDeliveryS _ _ _ _ _ _ h (by omega) (by decide)).mono ?_; rintro e w' ⟨rfl, rfl⟩
    (go_wp2_with fail); go_at_call 12; refine (laws_toDeliveryS xs _ _ h h2).mono ?_; rintro e w' ⟨g1, rfl, ho1, hx1⟩
    rename_i w1
    (go_wp2_with fail); go_at_call 11; refine (cs _ _ (Rd.own ho1)).mono ?_; rintro e w' ⟨rfl, hx2⟩
    rename_i w2
    have X2 := hx1.trans hx2
    (go_wp2_with fail); go_at_call 12; refine (laws_toDeliveryS xs _ _ (h.ext X2) h2).mono ?_; rintro e w' ⟨g3, rfl, ho3, hx3⟩
    rename_i w3
    (go_wp2_with fail); go_at_call 13; refine (ci _ _ (Rd.own ho3)).mono ?_; rintro e w' ⟨rfl, hx4⟩
    rename_i w4
    have X4 := X2.trans (hx3.trans hx4)
    (go_wp2_with fail); go_at_call 12; refine (laws_toDeliveryS xs _ _ (h.ext X4) h2).mono ?_; rintro e w' ⟨g5, rfl, ho5, hx5⟩
    rename_i w5
    (go_wp2_with fail); go_at_call 14; refine (laws_eqDeliveryS xs _ _ _ ((Rd.own ho3).ext (hx4.trans hx5)) (Rd.own ho5) h2).mono ?_; rintro e w' ⟨rfl, hx6⟩
    go_wp2
    go_returns
    exact ⟨rfl, X4.trans (hx5.trans hx6)⟩
  · go_enter Try.func4, Try.ntmps4
    (go_wp2_with fail); go_at_call 10; refine (laws_szDeliveryS_big _ _ _ _ _ _ h (by omega) (by decide) hm).mono ?_; rintro e w' ⟨rfl, rfl⟩
    go_wp2
    go_returns
    exact ⟨rfl, Ext.refl _⟩
theorem opened {H : Type} {enc : TypeId × Value → H} {W : World} {v : Value} {d : DataW H} {ps : List MemPlace} {r : Reach} {b : Nat} (hval : Value.okWide Try.prog W r b 28 v)
    (h : DataW.Trod enc Try.prog W 0 (fun _ => true) true 28 v d ps) : ∃ xs : List Dlv, Rd W 4 v xs.length (xs.flatMap Dlv.cs) ∧ xs.length ≤ maxLen := by
  obtain ⟨fuel, h⟩ := h
  obtain ⟨a, len, cap, rfl⟩ := okWide_slice Try.underlying28 hval
  obtain ⟨css, h1, h2, h3⟩ := rd_of_trod (d := 3) Try.underlying28 (ks := [.i .i64, .i .i64, .i .i64, .i .i64]) (by kernel_rfl) (by kernel_rfl) (by decide) h
  obtain ⟨xs, rfl, -⟩ := exists_map (f := Dlv.cs) (ok := fun _ => True) (l := css) (fun cs hcs => by
    obtain ⟨a, b, c, d, rfl, ⟨a, rfl, -⟩, ⟨b, rfl, -⟩, ⟨c, rfl, -⟩, ⟨d, rfl, -⟩⟩ := (h1 cs hcs).four
    exact ⟨⟨a, b, c, d⟩, rfl, trivial⟩)
  exact ⟨xs, h2.map, by simpa using h3⟩
theorem own : ownKnob Try.prog.godebug = none := by kernel_rfl
theorem laidOut : laidOutB Try.prog = true := by kernel_rfl
theorem lifted (os : Os) (started : os.Started) (H : Type) (enc : TypeId × Value → H) :
    ReturnsInHanded {} Try.checked os 4 .any (Rows.fnExactWorstLossSpec.pre6 enc Try.prog Try.f4 Rows.fnExactWorstLossRow.domain false) (Rows.fnExactWorstLossSpec.post enc Try.prog Try.f4 false true false false) := by
  refine returnsInHanded_of_change (C := Try.checked) own started (by kernel_rfl) Try.func4
    (ChangeSpec.witness6 (enc := enc) (C := Try.checked) false ⟨#[], #[.slice none 0 0], []⟩ 8 (by kernel_rfl) (by kernel_rfl) (by kernel_rfl) (by kernel_rfl)) ?_
  intro W base args ds gs before hval0 hW _ _
  have hval : ∀ (j : Nat) t v, Try.f4.params[j]? = some t → args[j]? = some v → Value.okWide Try.prog W .any base t v := hval0
  have hW' := hW
  obtain ⟨p, q, hA0, hV, rfl, hfz, hnd⟩ := hW
  have hA : DataW.TrodAll enc Try.prog W 0 (fun _ => true) true Try.f4.params.toList args.toList ds p := hA0
  rw [Try.params4] at hA hval
  obtain ⟨v0, vs0, d0, ds0, p0, q0, hargs, rfl, rfl, h0, r0⟩ := trodAll_cons hA
  obtain ⟨rfl, rfl, rfl⟩ := trodAll_nil r0
  obtain rfl : args = #[v0] := by cases args; simp_all
  clear hA0 hval0 hfz hnd hV
  obtain ⟨xs, hr, hlen⟩ := opened (hval 0 _ v0 rfl rfl) h0
  refine (walk xs _ W hr hlen).mono fun e W' ⟨he, hx⟩ => ?_
  subst he
  exact ⟨_, rfl, law_post laidOut (by rw [Try.params4]; simp only [List.forall_mem_cons, List.not_mem_nil, false_implies, implies_true, and_true]; repeat' apply And.intro; all_goals first | kernel_rfl | exact of_decide_eq_true (by kernel_rfl)) rfl Try.underlying4 rfl ⟨rfl, rfl, rfl⟩ hW' hx.below⟩
theorem proved : Rows.FnExactWorstLossSaid :=
  OpenClaim.holds_of_wide 4 Try.f4 rfl rfl rfl rfl rfl rfl rfl ⟨rfl, rfl, rfl, rfl, rfl⟩ rfl rfl rfl rfl rfl (by kernel_rfl) Try.func4 (by kernel_rfl)
    (of_decide_eq_true (by kernel_rfl)) (by unfold Func.isWrapper; first | (rw [if_pos (by decide +kernel)]; kernel_rfl) | (rw [if_neg (by decide +kernel)]; exact ⟨rfl, rfl⟩))
    (fun os started H enc _ => lifted os started H enc)
#print axioms proved
end Go.Proofs.Ytbencjbdbilmnaa.xWorstLoss
