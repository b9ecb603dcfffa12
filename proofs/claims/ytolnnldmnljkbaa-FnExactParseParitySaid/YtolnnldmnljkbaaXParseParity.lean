/- The law FnExactParseParity. -/
import Derived.Test.YtolnnldmnljkbaaWP3
import Derived.Test.YtolnnldmnljkbaaKit2
import Derived.Test.YtolnnldmnljkbaaRows
namespace Go.Proofs.Ytolnnldmnljkbaa.xParseParity
open Go.ChangeShapes Go.WideShapes Go.ChangeAt Go.RowKit
set_option maxHeartbeats 400000
theorem parsedP_le (s : ByteArray) (h2 : s.size ≤ 1048576) : (parsedP s).length ≤ 1048576 := by
  unfold parsedP
  split
  · rw [pnums_len]; exact h2
  · simp
theorem walk (s : ByteArray) (w : World) :
    Calls Try.prog 4 #[.string s] w fun e w' => e = .returned (.bool true) ∧ Ext w w' := by
  by_cases h2 : s.size ≤ 1048576
  · have cs := fun w => spec_ParseParity s w h2
    have ci := fun w => impl_ParseParity s w h2
    have hD := parsedP_le s h2
    generalize parsedP s = D at cs ci hD
    generalize isPar (pnums s) = b at cs ci
    have t0 : decide ((1048576 : Int) < s.size) = false := by simp; omega
    have t2 : decide ((1 : Int) + D.length < 0) = false := by simp; omega
    go_enter Try.func4, Try.ntmps4
    (go_wp2_with fail); go_at_call 9; refine (cs _).mono ?_; rintro e w' ⟨r1_0, rfl, ho1_0, hx1⟩
    rename_i w1
    (go_wp2_with fail); go_at_call 10; refine (ci _).mono ?_; rintro e w' ⟨r2_0, rfl, ho2_0, hx2⟩
    rename_i w2
    have o1 := own_ext ho1_0 (hx2)
    (go_wp2_with fail); go_at_call 8; refine (laws_eqIntS D _ _ _ (Rd.own ho2_0) (Rd.own o1) (Nat.le_trans hD (by decide))).mono ?_; rintro e w' ⟨rfl, hx3⟩
    rename_i w3
    have o2 := own_ext ho2_0 (hx3)
    have hl4 := own_row o2
    (go_wp2_with fail); go_at_call 11; refine (laws_markIntS _ _ _ 1 _ _ o2 (Nat.le_trans hD (by decide)) (by decide) (by decide)).mono ?_; rintro e w' ⟨rfl, hm4, hg4⟩
    rename_i w4
    (go_wp2_with fail); go_at_call 12; refine (laws_heldIntS _ _ 1 _ (Rd.own hm4) (Nat.le_trans hD (by decide)) (by decide) (by decide)).mono ?_; rintro e w' ⟨rfl, hx5⟩
    rename_i w5
    (go_wp2_with fail); go_at_call 10; refine (ci _).mono ?_; rintro e w' ⟨r6_0, rfl, ho6_0, hx6⟩
    rename_i w6
    have o3 := own_ext o1 (hx3)
    have X1_3 := hx2.trans hx3
    have X1_4 := (X1_3).grown hg4 (fun j hj => Nat.le_trans ((Ext.refl _)).size (hl4 j hj).1)
    have o4 := own_ext ho1_0 (X1_4)
    have X4_6 := hx5.trans hx6
    have o5 := own_ext o4 (X4_6)
    (go_wp2_with fail); go_at_call 8; refine (laws_eqIntS D _ _ _ (Rd.own ho6_0) (Rd.own o5) (Nat.le_trans hD (by decide))).mono ?_; rintro e w' ⟨rfl, hx7⟩
    rename_i w7
    have X4_7 := X4_6.trans hx7
    have o6 := own_ext hm4 (X4_7)
    (go_wp2_with fail); go_at_call 12; refine (laws_heldIntS _ _ 1 _ (Rd.own o6) (Nat.le_trans hD (by decide)) (by decide) (by decide)).mono ?_; rintro e w' ⟨rfl, hx8⟩
    rename_i w8
    go_wp2
    go_returns
    have X0_2 := hx1.trans hx2
    have X0_3 := X0_2.trans hx3
    have X0_4 := (X0_3).grown hg4 (fun j hj => Nat.le_trans (hx1).size (hl4 j hj).1)
    have X0_5 := X0_4.trans hx5
    have X0_6 := X0_5.trans hx6
    have X0_7 := X0_6.trans hx7
    have X0_8 := X0_7.trans hx8
    exact ⟨rfl, X0_8⟩
  · have t0 : decide ((1048576 : Int) < s.size) = true := by simp; omega
    go_enter Try.func4, Try.ntmps4
    go_wp2
    go_returns
    exact ⟨rfl, Ext.refl _⟩
theorem own : ownKnob Try.prog.godebug = none := by kernel_rfl
theorem laidOut : laidOutB Try.prog = true := by kernel_rfl
theorem lifted (os : Os) (started : os.Started) (H : Type) (enc : TypeId × Value → H) :
    ReturnsInHanded {} Try.checked os 4 .any (Rows.fnExactParseParitySpec.pre6 enc Try.prog Try.f4 Rows.fnExactParseParityRow.domain false) (Rows.fnExactParseParitySpec.post enc Try.prog Try.f4 false true false false) := by
  refine returnsInHanded_of_change (C := Try.checked) own started (by kernel_rfl) Try.func4
    (ChangeSpec.witness6 (enc := enc) (C := Try.checked) false ⟨#[], #[.string ⟨#[]⟩], []⟩ 8 (by kernel_rfl) (by kernel_rfl) (by kernel_rfl) (by kernel_rfl)) ?_
  intro W base args ds gs before hval0 hW _ _
  have hval : ∀ (j : Nat) t v, Try.f4.params[j]? = some t → args[j]? = some v → Value.okWide Try.prog W .any base t v := hval0
  have hW' := hW
  obtain ⟨p, q, hA0, hV, rfl, hfz, hnd⟩ := hW
  have hA : DataW.TrodAll enc Try.prog W 0 (fun _ => true) true Try.f4.params.toList args.toList ds p := hA0
  rw [Try.params4] at hA hval
  obtain ⟨v0, vs0, d0, ds0, p0, q0, hargs, rfl, rfl, h0, r0⟩ := trodAll_cons hA
  obtain ⟨rfl, rfl, rfl⟩ := trodAll_nil r0
  obtain rfl : args = #[v0] := by cases args; simp_all
  clear hA0 hval0 hfz hnd hV
  obtain ⟨s, rfl⟩ := okWide_string Try.underlying9 (hval 0 _ v0 rfl rfl)
  refine (walk s W).mono fun e W' ⟨he, hx⟩ => ?_
  subst he
  exact ⟨_, rfl, law_post laidOut (by rw [Try.params4]; simp only [List.forall_mem_cons, List.not_mem_nil, false_implies, implies_true, and_true]; repeat' apply And.intro; all_goals first | kernel_rfl | exact of_decide_eq_true (by kernel_rfl)) rfl Try.underlying4 rfl ⟨rfl, rfl, rfl⟩ hW' hx.below⟩
theorem proved : Rows.FnExactParseParitySaid :=
  OpenClaim.holds_of_wide 4 Try.f4 rfl rfl rfl rfl rfl rfl rfl ⟨rfl, rfl, rfl, rfl, rfl⟩ rfl rfl rfl rfl rfl (by kernel_rfl) Try.func4 (by kernel_rfl)
    (of_decide_eq_true (by kernel_rfl)) (by unfold Func.isWrapper; first | (rw [if_pos (by decide +kernel)]; kernel_rfl) | (rw [if_neg (by decide +kernel)]; exact ⟨rfl, rfl⟩))
    (fun os started H enc _ => lifted os started H enc)
#print axioms proved
end Go.Proofs.Ytolnnldmnljkbaa.xParseParity
