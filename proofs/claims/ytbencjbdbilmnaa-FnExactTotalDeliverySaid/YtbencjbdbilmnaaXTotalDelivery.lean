/- The law FnExactTotalDelivery. -/
import Derived.Test.YtbencjbdbilmnaaWD3
import Derived.Test.YtbencjbdbilmnaaKit2
import Derived.Test.YtbencjbdbilmnaaRows
namespace Go.Proofs.Ytbencjbdbilmnaa.xTotalDelivery
open Go.ChangeShapes Go.WideShapes Go.ChangeAt Go.RowKit
set_option maxHeartbeats 400000
theorem walk (xs : List Dlv) (v : Value) (w : World) (h : Rd w 4 v xs.length (xs.flatMap Dlv.cs)) (hm : xs.length ≤ maxLen) :
    Calls Try.prog 6 #[v] w fun e w' => e = .returned (.bool true) ∧ Ext w w' := by
  by_cases h2 : xs.length ≤ 1048576
  · have cs := fun v w h => spec_TotalDelivery xs v w h h2
    have ci := fun v w h => impl_TotalDelivery xs v w h h2
    have hD : (if areD xs then totals xs else []).length ≤ 1048576 := by split <;> simp [totals]
    have t0 : decide ((1048576 : Int) - xs.length < 0) = false := by simp; omega
    have t1 : decide ((1 : Int) + 4 * xs.length < 0) = false := by simp; omega
    generalize (if areD xs then totals xs else []) = D at cs ci hD
    have t2 : decide ((1 : Int) + D.length < 0) = false := by simp; omega
    generalize areD xs = b at cs ci
    go_enter Try.func6, Try.ntmps6
    (go_wp2_with fail); go_at_call 10; refine (laws_szDeliveryS _ _ _ _ _ _ h (by omega) (by decide)).mono ?_; rintro e w' ⟨rfl, rfl⟩
    (go_wp2_with fail); go_at_call 12; refine (laws_toDeliveryS xs _ _ (h.ext ((Ext.refl _))) h2).mono ?_; rintro e w' ⟨g1, rfl, ho1, hx1⟩
    rename_i w1
    (go_wp2_with fail); go_at_call 21; refine (cs _ _ (Rd.own ho1)).mono ?_; rintro e w' ⟨r2_0, rfl, ho2_0, hx2⟩
    rename_i w2
    have X0_2 := hx1.trans hx2
    (go_wp2_with fail); go_at_call 12; refine (laws_toDeliveryS xs _ _ (h.ext (X0_2)) h2).mono ?_; rintro e w' ⟨g3, rfl, ho3, hx3⟩
    rename_i w3
    (go_wp2_with fail); go_at_call 22; refine (ci _ _ (Rd.own ho3)).mono ?_; rintro e w' ⟨r4_0, rfl, ho4_0, hx4⟩
    rename_i w4
    have X2_4 := hx3.trans hx4
    have o1 := own_ext ho2_0 (X2_4)
    (go_wp2_with fail); go_at_call 17; refine (laws_eqIntS D _ _ _ (Rd.own ho4_0) (Rd.own o1) (Nat.le_trans hD (by decide))).mono ?_; rintro e w' ⟨rfl, hx5⟩
    rename_i w5
    have X0_3 := X0_2.trans hx3
    have X0_4 := X0_3.trans hx4
    have X0_5 := X0_4.trans hx5
    (go_wp2_with fail); go_at_call 12; refine (laws_toDeliveryS xs _ _ (h.ext (X0_5)) h2).mono ?_; rintro e w' ⟨g6, rfl, ho6, hx6⟩
    rename_i w6
    have X3_5 := hx4.trans hx5
    have X3_6 := X3_5.trans hx6
    have o2 := own_ext ho3 (X3_6)
    (go_wp2_with fail); go_at_call 14; refine (laws_eqDeliveryS xs _ _ _ (Rd.own o2) (Rd.own ho6) h2).mono ?_; rintro e w' ⟨rfl, hx7⟩
    rename_i w7
    have o3 := own_ext o2 (hx7)
    have hl8 := own_row o3
    (go_wp2_with fail); go_at_call 18; refine (laws_markDeliveryS _ _ _ 1 _ _ o3 h2 (by decide) (by decide)).mono ?_; rintro e w' ⟨rfl, hg8⟩
    rename_i w8
    have X4_6 := hx5.trans hx6
    have X4_7 := X4_6.trans hx7
    have o4 := own_ext ho4_0 (X4_7)
    have o5 := own_behind o4 hg8 (fun j hj => Nat.lt_of_lt_of_le (own_row ho3 j hj).2 ((Ext.refl _)).size)
    have o6 := own_ext o1 (X4_7)
    have X2_5 := X2_4.trans hx5
    have X2_6 := X2_5.trans hx6
    have X2_7 := X2_6.trans hx7
    have X2_8 := (X2_7).grown hg8 (fun j hj => Nat.le_trans ((Ext.refl _)).size (hl8 j hj).1)
    have o7 := own_ext ho2_0 (X2_8)
    (go_wp2_with fail); go_at_call 17; refine (laws_eqIntS D _ _ _ (Rd.own o5) (Rd.own o7) (Nat.le_trans hD (by decide))).mono ?_; rintro e w' ⟨rfl, hx9⟩
    rename_i w9
    have o8 := own_ext o5 (hx9)
    have hl10 := own_row o8
    (go_wp2_with fail); go_at_call 19; refine (laws_markIntS _ _ _ 1 _ _ o8 (Nat.le_trans hD (by decide)) (by decide) (by decide)).mono ?_; rintro e w' ⟨rfl, hm10, hg10⟩
    rename_i w10
    (go_wp2_with fail); go_at_call 20; refine (laws_heldIntS _ _ 1 _ (Rd.own hm10) (Nat.le_trans hD (by decide)) (by decide) (by decide)).mono ?_; rintro e w' ⟨rfl, hx11⟩
    rename_i w11
    have X0_6 := X0_5.trans hx6
    have X0_7 := X0_6.trans hx7
    have X0_8 := (X0_7).grown hg8 (fun j hj => Nat.le_trans (X0_2).size (hl8 j hj).1)
    have X0_9 := X0_8.trans hx9
    have X0_10 := (X0_9).grown hg10 (fun j hj => Nat.le_trans (X0_3).size (hl10 j hj).1)
    have X0_11 := X0_10.trans hx11
    (go_wp2_with fail); go_at_call 12; refine (laws_toDeliveryS xs _ _ (h.ext (X0_11)) h2).mono ?_; rintro e w' ⟨g12, rfl, ho12, hx12⟩
    rename_i w12
    (go_wp2_with fail); go_at_call 22; refine (ci _ _ (Rd.own ho12)).mono ?_; rintro e w' ⟨r13_0, rfl, ho13_0, hx13⟩
    rename_i w13
    have o9 := own_ext o7 (hx9)
    have X2_9 := X2_8.trans hx9
    have X2_10 := (X2_9).grown hg10 (fun j hj => Nat.le_trans (hx3).size (hl10 j hj).1)
    have o10 := own_ext ho2_0 (X2_10)
    have X10_12 := hx11.trans hx12
    have X10_13 := X10_12.trans hx13
    have o11 := own_ext o10 (X10_13)
    (go_wp2_with fail); go_at_call 17; refine (laws_eqIntS D _ _ _ (Rd.own ho13_0) (Rd.own o11) (Nat.le_trans hD (by decide))).mono ?_; rintro e w' ⟨rfl, hx14⟩
    rename_i w14
    have X10_14 := X10_13.trans hx14
    have o12 := own_ext hm10 (X10_14)
    (go_wp2_with fail); go_at_call 20; refine (laws_heldIntS _ _ 1 _ (Rd.own o12) (Nat.le_trans hD (by decide)) (by decide) (by decide)).mono ?_; rintro e w' ⟨rfl, hx15⟩
    rename_i w15
    go_wp2
    go_returns
    have X0_12 := X0_11.trans hx12
    have X0_13 := X0_12.trans hx13
    have X0_14 := X0_13.trans hx14
    have X0_15 := X0_14.trans hx15
    exact ⟨rfl, X0_15⟩
  · go_enter Try.func6, Try.ntmps6
    (go_wp2_with fail); go_at_call 10; refine (laws_szDeliveryS_big _ _ _ _ _ _ h (by omega) (by decide) hm).mono ?_; rintro e w' ⟨rfl, rfl⟩
    go_wp2
    go_returns
    exact ⟨rfl, Ext.refl _⟩
theorem opened {H : Type} {enc : TypeId × Value → H} {W : World} {v : Value} {d : DataW H} {ps : List MemPlace} {r : Reach} {b : Nat} (hval : Value.okWide Try.prog W r b 28 v)
    (h : DataW.Trod enc Try.prog W 0 (fun _ => true) true 28 v d ps) : ∃ xs : List Dlv, Rd W 4 v xs.length (xs.flatMap Dlv.cs) ∧ xs.length ≤ maxLen := by
  obtain ⟨fuel, h⟩ := h
  obtain ⟨a, len, cap, rfl⟩ := okWide_slice Try.underlying28 hval
  obtain ⟨css, h1, h2, h3⟩ := rd_of_trod (d := 3) Try.underlying28 (ks := [.i .i64, .i .i64, .i .i64, .i .i64]) (by kernel_rfl) (by kernel_rfl) (by decide) h
  obtain ⟨xs, rfl, -⟩ := exists_map (f := Dlv.cs) (ok := fun _ => True) (l := css) (fun cs hcs => by
    obtain ⟨a, b, c, d, rfl, ⟨a, rfl, -⟩, ⟨b, rfl, -⟩, ⟨c, rfl, -⟩, ⟨d, rfl, -⟩⟩ := (h1 cs hcs).four
    exact ⟨⟨a, b, c, d⟩, rfl, trivial⟩)
  exact ⟨xs, h2.map, by simpa using h3⟩
theorem own : ownKnob Try.prog.godebug = none := by kernel_rfl
theorem laidOut : laidOutB Try.prog = true := by kernel_rfl
theorem lifted (os : Os) (started : os.Started) (H : Type) (enc : TypeId × Value → H) :
    ReturnsInHanded {} Try.checked os 6 .any (Rows.fnExactTotalDeliverySpec.pre6 enc Try.prog Try.f6 Rows.fnExactTotalDeliveryRow.domain false) (Rows.fnExactTotalDeliverySpec.post enc Try.prog Try.f6 false true false false) := by
  refine returnsInHanded_of_change (C := Try.checked) own started (by kernel_rfl) Try.func6
    (ChangeSpec.witness6 (enc := enc) (C := Try.checked) false ⟨#[], #[.slice none 0 0], []⟩ 8 (by kernel_rfl) (by kernel_rfl) (by kernel_rfl) (by kernel_rfl)) ?_
  intro W base args ds gs before hval0 hW _ _
  have hval : ∀ (j : Nat) t v, Try.f6.params[j]? = some t → args[j]? = some v → Value.okWide Try.prog W .any base t v := hval0
  have hW' := hW
  obtain ⟨p, q, hA0, hV, rfl, hfz, hnd⟩ := hW
  have hA : DataW.TrodAll enc Try.prog W 0 (fun _ => true) true Try.f6.params.toList args.toList ds p := hA0
  rw [Try.params6] at hA hval
  obtain ⟨v0, vs0, d0, ds0, p0, q0, hargs, rfl, rfl, h0, r0⟩ := trodAll_cons hA
  obtain ⟨rfl, rfl, rfl⟩ := trodAll_nil r0
  obtain rfl : args = #[v0] := by cases args; simp_all
  clear hA0 hval0 hfz hnd hV
  obtain ⟨xs, hr, hlen⟩ := opened (hval 0 _ v0 rfl rfl) h0
  refine (walk xs _ W hr hlen).mono fun e W' ⟨he, hx⟩ => ?_
  subst he
  exact ⟨_, rfl, law_post laidOut (by rw [Try.params6]; simp only [List.forall_mem_cons, List.not_mem_nil, false_implies, implies_true, and_true]; repeat' apply And.intro; all_goals first | kernel_rfl | exact of_decide_eq_true (by kernel_rfl)) rfl Try.underlying4 rfl ⟨rfl, rfl, rfl⟩ hW' hx.below⟩
theorem proved : Rows.FnExactTotalDeliverySaid :=
  OpenClaim.holds_of_wide 6 Try.f6 rfl rfl rfl rfl rfl rfl rfl ⟨rfl, rfl, rfl, rfl, rfl⟩ rfl rfl rfl rfl rfl (by kernel_rfl) Try.func6 (by kernel_rfl)
    (of_decide_eq_true (by kernel_rfl)) (by unfold Func.isWrapper; first | (rw [if_pos (by decide +kernel)]; kernel_rfl) | (rw [if_neg (by decide +kernel)]; exact ⟨rfl, rfl⟩))
    (fun os started H enc _ => lifted os started H enc)
#print axioms proved
end Go.Proofs.Ytbencjbdbilmnaa.xTotalDelivery
