/- The law FnExactParityText. -/
import Derived.Test.YtolnnldmnljkbaaWP2
import Derived.Test.YtolnnldmnljkbaaKit2
import Derived.Test.YtolnnldmnljkbaaRows
namespace Go.Proofs.Ytolnnldmnljkbaa.xParityText
open Go.ChangeShapes Go.WideShapes Go.ChangeAt Go.RowKit
set_option maxHeartbeats 400000
theorem walk (xs : List Int) (v : Value) (w : World) (hxs : Rd w 1 v xs.length (vInts xs)) (_hm : xs.length ≤ maxLen) :
    Calls Try.prog 3 #[v] w fun e w' => e = .returned (.bool true) ∧ Ext w w' := by
  obtain ⟨h1, p, cap, rfl, h4⟩ := hxs
  have hxs : Rd w 1 (.slice p xs.length cap) xs.length (vInts xs) := ⟨h1, p, cap, rfl, h4⟩
  have Hx := hid hxs; clear h1 h4 hxs
  by_cases kxs : xs.length ≤ 1048576
  · have cs := fun v w h => spec_ParityText xs v w h kxs
    have ci := fun v w h => impl_ParityText xs v w h kxs
    generalize parityT xs = D at cs ci
    generalize isPar xs = b at cs ci
    have t0 : decide ((1048576 : Int) < xs.length) = false := by simp; omega
    have hxs := Hx.out
    go_enter Try.func3, Try.ntmps3
    (go_wp2_with fail); go_at_call 6; refine (laws_toIntS xs _ _ (hxs.ext ((Ext.refl _))) kxs).mono ?_; rintro e w' ⟨g1, rfl, ho1, hx1⟩
    rename_i w1
    (go_wp2_with fail); go_at_call 5; refine (cs _ _ (Rd.own ho1)).mono ?_; rintro e w' ⟨rfl, hx2⟩
    rename_i w2
    have X0_2 := hx1.trans hx2
    (go_wp2_with fail); go_at_call 6; refine (laws_toIntS xs _ _ (hxs.ext (X0_2)) kxs).mono ?_; rintro e w' ⟨g3, rfl, ho3, hx3⟩
    rename_i w3
    (go_wp2_with fail); go_at_call 7; refine (ci _ _ (Rd.own ho3)).mono ?_; rintro e w' ⟨rfl, hx4⟩
    rename_i w4
    have X0_3 := X0_2.trans hx3
    have X0_4 := X0_3.trans hx4
    (go_wp2_with fail); go_at_call 6; refine (laws_toIntS xs _ _ (hxs.ext (X0_4)) kxs).mono ?_; rintro e w' ⟨g5, rfl, ho5, hx5⟩
    rename_i w5
    have X3_5 := hx4.trans hx5
    have o1 := own_ext ho3 (X3_5)
    (go_wp2_with fail); go_at_call 8; refine (laws_eqIntS xs _ _ _ (Rd.own o1) (Rd.own ho5) (Nat.le_trans kxs (by decide))).mono ?_; rintro e w' ⟨rfl, hx6⟩
    rename_i w6
    go_wp2
    go_returns
    have X0_5 := X0_4.trans hx5
    have X0_6 := X0_5.trans hx6
    exact ⟨rfl, X0_6⟩
  · have t0 : decide ((1048576 : Int) < xs.length) = true := by simp; omega
    go_enter Try.func3, Try.ntmps3
    go_wp2
    go_returns
    exact ⟨rfl, Ext.refl _⟩
theorem own : ownKnob Try.prog.godebug = none := by kernel_rfl
theorem laidOut : laidOutB Try.prog = true := by kernel_rfl
theorem lifted (os : Os) (started : os.Started) (H : Type) (enc : TypeId × Value → H) :
    ReturnsInHanded {} Try.checked os 3 .any (Rows.fnExactParityTextSpec.pre6 enc Try.prog Try.f3 Rows.fnExactParityTextRow.domain false) (Rows.fnExactParityTextSpec.post enc Try.prog Try.f3 false true false false) := by
  refine returnsInHanded_of_change (C := Try.checked) own started (by kernel_rfl) Try.func3
    (ChangeSpec.witness6 (enc := enc) (C := Try.checked) false ⟨#[], #[.slice none 0 0], []⟩ 8 (by kernel_rfl) (by kernel_rfl) (by kernel_rfl) (by kernel_rfl)) ?_
  intro W base args ds gs before hval0 hW _ _
  have hval : ∀ (j : Nat) t v, Try.f3.params[j]? = some t → args[j]? = some v → Value.okWide Try.prog W .any base t v := hval0
  have hW' := hW
  obtain ⟨p, q, hA0, hV, rfl, hfz, hnd⟩ := hW
  have hA : DataW.TrodAll enc Try.prog W 0 (fun _ => true) true Try.f3.params.toList args.toList ds p := hA0
  rw [Try.params3] at hA hval
  obtain ⟨v0, vs0, d0, ds0, p0, q0, hargs, rfl, rfl, h0, r0⟩ := trodAll_cons hA
  obtain ⟨rfl, rfl, rfl⟩ := trodAll_nil r0
  obtain rfl : args = #[v0] := by cases args; simp_all
  clear hA0 hval0 hfz hnd hV
  obtain ⟨xs, hr, hlen⟩ := opened_ints (hval 0 _ v0 rfl rfl) h0
  refine (walk xs _ W hr hlen).mono fun e W' ⟨he, hx⟩ => ?_
  subst he
  exact ⟨_, rfl, law_post laidOut (by rw [Try.params3]; simp only [List.forall_mem_cons, List.not_mem_nil, false_implies, implies_true, and_true]; repeat' apply And.intro; all_goals first | kernel_rfl | exact of_decide_eq_true (by kernel_rfl)) rfl Try.underlying4 rfl ⟨rfl, rfl, rfl⟩ hW' hx.below⟩
theorem proved : Rows.FnExactParityTextSaid :=
  OpenClaim.holds_of_wide 3 Try.f3 rfl rfl rfl rfl rfl rfl rfl ⟨rfl, rfl, rfl, rfl, rfl⟩ rfl rfl rfl rfl rfl (by kernel_rfl) Try.func3 (by kernel_rfl)
    (of_decide_eq_true (by kernel_rfl)) (by unfold Func.isWrapper; first | (rw [if_pos (by decide +kernel)]; kernel_rfl) | (rw [if_neg (by decide +kernel)]; exact ⟨rfl, rfl⟩))
    (fun os started H enc _ => lifted os started H enc)
#print axioms proved
end Go.Proofs.Ytolnnldmnljkbaa.xParityText
