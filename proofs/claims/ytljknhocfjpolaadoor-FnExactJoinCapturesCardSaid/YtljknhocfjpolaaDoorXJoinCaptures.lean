/- The law FnExactJoinCaptures. -/
import Derived.Test.YtljknhocfjpolaaDoorWJoinI
import Derived.Test.YtljknhocfjpolaaDoorKit2
import Derived.Test.YtljknhocfjpolaaDoorRows
import Derived.Test.YtljknhocfjpolaaDoorTie
import Derived.Test.YtljknhocfjpolaaDoorCards
import Derived.Lay
import Derived.SevenTiedAt
namespace Go.Proofs.YtljknhocfjpolaaDoor.xJoinCaptures
open Go.ChangeShapes Go.WideShapes Go.ChangeAt Go.RowKit
set_option maxHeartbeats 400000
set_option maxRecDepth 100000
theorem opened_int {W : World} {v : Value} {r : Reach} {b : Nat} (hval : Value.okWide Tryd.prog W r b 3 v) : ∃ n : Int, v = .int .i64 n := by
  obtain ⟨n, rfl, -⟩ := Go.WideShapes.okWide_int Tryd.underlying3 hval
  exact ⟨n, rfl⟩
theorem walk (xa xb : List Cap) (v v' : Value) (w : World) (hxa : Rd w 8 v xa.length (xa.flatMap Cap.cs)) (hxb : Rd w 8 v' xb.length (xb.flatMap Cap.cs)) (hma : xa.length ≤ maxLen) (hmb : xb.length ≤ maxLen) (hza : ∀ x ∈ xa, x.d.size ≤ maxLen) (hzb : ∀ x ∈ xb, x.d.size ≤ maxLen) :
    Calls Tryd.prog 3 #[v, v'] w fun e w' => e = .returned (.bool true) ∧ Ext w w' := by
  have Hza := hid hza; clear hza
  have Hzb := hid hzb; clear hzb
  have Hsa := hid hxa; clear hxa
  have Hsb := hid hxb; clear hxb
  by_cases hs : (xa.length : Int) + Cap.chars xa ≤ 1048576
  · have ka : xa.length ≤ 1048576 := by omega
    have ka3 : Cap.chars xa ≤ 1048576 := by omega
    have t1 : decide ((1048576 : Int) - xa.length - Cap.chars xa < 0) = false := by simp; omega
    by_cases hs2 : (xb.length : Int) + Cap.chars xb ≤ 1048576 - xa.length - Cap.chars xa
    · have kb : xb.length ≤ 1048576 := by omega
      have kb3 : Cap.chars xb ≤ 1048576 := by omega
      have t2 : decide ((1048576 : Int) - xa.length - Cap.chars xa - xb.length - Cap.chars xb < 0) = false := by simp; omega
      have tk : decide ((1 : Int) + 8 * xa.length + 8 * xb.length < 0) = false := by simp; omega
      have hD : (jD xa xb).length ≤ 1048576 := jD_len xa xb
      have tm : decide ((1 : Int) + 8 * (jD xa xb).length < 0) = false := by simp; omega
      have cs := fun v p' w h k => spec_JoinCaptures xa xb v p' xb.length w h k (Nat.le_refl _) ka kb ka3 kb3
      have ci := fun v v' w h k => impl_JoinCaptures xa xb v v' w h k ka kb ka3 kb3
      generalize jD xa xb = D at *
      generalize jB xa xb = b at *
      have hxa := Hsa.out
      have hxb := Hsb.out
      go_enter Tryd.func3, Tryd.ntmps3
      (go_wp2_with fail)
      go_at_call 4; refine (laws_szCapturedS _ _ 1048576 _ (hxa.ext ((Ext.refl _))) (by omega) (by decide)).mono ?_; rintro e w1 ⟨rfl, hx1⟩
      (go_wp2_with fail)
      go_at_call 4; refine (laws_szCapturedS _ _ (1048576 - xa.length - Cap.chars xa) _ (hxb.ext (hx1)) (by omega) (by omega)).mono ?_; rintro e w2 ⟨rfl, hx2⟩
      (go_wp2_with fail)
      have X0_2 := hx1.trans hx2
      go_at_call 6; refine (laws_toCapturedS xa _ _ (hxa.ext (X0_2)) ka).mono ?_; rintro e w3 ⟨g3_0, rfl, ho3_0, hx3⟩
      have X0_3 := X0_2.trans hx3
      (go_wp2_with fail)
      go_at_call 6; refine (laws_toCapturedS xb _ _ (hxb.ext (X0_3)) kb).mono ?_; rintro e w4 ⟨g4_0, rfl, ho4_0, hx4⟩
      (go_wp2_with fail)
      have o1 := own_ext ho3_0 (hx4)
      go_at_call 5; refine (cs _ _ _ (Rd.own o1) (Rd.own ho4_0)).mono ?_; rintro e w5 ⟨r5_0_0, rfl, ho5_0_0, hx5⟩
      (go_wp2_with fail)
      have X0_4 := X0_3.trans hx4
      have X0_5 := X0_4.trans hx5
      go_at_call 6; refine (laws_toCapturedS xa _ _ (hxa.ext (X0_5)) ka).mono ?_; rintro e w6 ⟨g6_0, rfl, ho6_0, hx6⟩
      (go_wp2_with fail)
      have X0_6 := X0_5.trans hx6
      go_at_call 6; refine (laws_toCapturedS xb _ _ (hxb.ext (X0_6)) kb).mono ?_; rintro e w7 ⟨g7_0, rfl, ho7_0, hx7⟩
      (go_wp2_with fail)
      have o2 := own_ext ho6_0 (hx7)
      go_at_call 7; refine (ci _ _ _ (Rd.own o2) (Rd.own ho7_0)).mono ?_; rintro e w8 ⟨r8_0_0, rfl, ho8_0_0, hx8⟩
      (go_wp2_with fail)
      have X5_7 := hx6.trans hx7
      have X5_8 := X5_7.trans hx8
      have o3 := own_ext ho5_0_0 (X5_8)
      go_at_call 8; refine (laws_eqCapturedS D _ _ _ (Rd.own ho8_0_0) (Rd.own o3) hD).mono ?_; rintro e w9 ⟨rfl, hx9⟩
      (go_wp2_with fail)
      have X0_7 := X0_6.trans hx7
      have X0_8 := X0_7.trans hx8
      have X0_9 := X0_8.trans hx9
      go_at_call 6; refine (laws_toCapturedS xa _ _ (hxa.ext (X0_9)) ka).mono ?_; rintro e w10 ⟨g10_0, rfl, ho10_0, hx10⟩
      (go_wp2_with fail)
      have X7_9 := hx8.trans hx9
      have X7_10 := X7_9.trans hx10
      have o4 := own_ext o2 (X7_10)
      go_at_call 8; refine (laws_eqCapturedS xa _ _ _ (Rd.own o4) (Rd.own ho10_0) ka).mono ?_; rintro e w11 ⟨rfl, hx11⟩
      (go_wp2_with fail)
      have X0_10 := X0_9.trans hx10
      have X0_11 := X0_10.trans hx11
      go_at_call 6; refine (laws_toCapturedS xb _ _ (hxb.ext (X0_11)) kb).mono ?_; rintro e w12 ⟨g12_0, rfl, ho12_0, hx12⟩
      (go_wp2_with fail)
      have X7_11 := X7_10.trans hx11
      have X7_12 := X7_11.trans hx12
      have o5 := own_ext ho7_0 (X7_12)
      go_at_call 8; refine (laws_eqCapturedS xb _ _ _ (Rd.own o5) (Rd.own ho12_0) kb).mono ?_; rintro e w13 ⟨rfl, hx13⟩
      (go_wp2_with fail)
      have X10_12 := hx11.trans hx12
      have X10_13 := X10_12.trans hx13
      have o6 := own_ext o4 (X10_13)
      have hl14 := own_row o6
      go_at_call 9; refine (laws_markCapturedS _ _ _ 1 _ _ o6 ka (by omega) (by omega)).mono ?_; rintro e w14 ⟨rfl, hm14_0, hg14⟩
      (go_wp2_with fail)
      have o7 := own_ext o5 (hx13)
      have o8 := own_behind o7 hg14 (fun j hj => Nat.lt_of_lt_of_le (own_row ho6_0 j hj).2 ((Ext.refl w6)).size)
      have hl15 := own_row o8
      go_at_call 9; refine (laws_markCapturedS _ _ _ (1 + 8 * (xa).length) _ _ o8 kb (by omega) (by omega)).mono ?_; rintro e w15 ⟨rfl, hm15_0, hg15⟩
      (go_wp2_with fail)
      have X8_10 := hx9.trans hx10
      have X8_11 := X8_10.trans hx11
      have X8_12 := X8_11.trans hx12
      have X8_13 := X8_12.trans hx13
      have o9 := own_ext ho8_0_0 (X8_13)
      have o10 := own_behind o9 hg14 (fun j hj => Nat.lt_of_lt_of_le (own_row ho6_0 j hj).2 (hx7).size)
      have o11 := own_behind o10 hg15 (fun j hj => Nat.lt_of_lt_of_le (own_row ho7_0 j hj).2 ((Ext.refl w7)).size)
      have o12 := own_ext o3 (X8_13)
      have X5_9 := X5_8.trans hx9
      have X5_10 := X5_9.trans hx10
      have X5_11 := X5_10.trans hx11
      have X5_12 := X5_11.trans hx12
      have X5_13 := X5_12.trans hx13
      have X5_14 := (X5_13).grown hg14 (fun j hj => Nat.le_trans ((Ext.refl w5)).size (hl14 j hj).1)
      have o13 := own_ext ho5_0_0 (X5_14)
      have X5_15 := (X5_14).grown hg15 (fun j hj => Nat.le_trans (hx6).size (hl15 j hj).1)
      have o14 := own_ext ho5_0_0 (X5_15)
      go_at_call 8; refine (laws_eqCapturedS D _ _ _ (Rd.own o11) (Rd.own o14) hD).mono ?_; rintro e w16 ⟨rfl, hx16⟩
      (go_wp2_with fail)
      have o15 := own_ext o11 (hx16)
      have hl17 := own_row o15
      go_at_call 9; refine (laws_markCapturedS _ _ _ 1 _ _ o15 hD (by omega) (by omega)).mono ?_; rintro e w17 ⟨rfl, hm17_0, hg17⟩
      (go_wp2_with fail)
      go_at_call 10; refine (laws_heldCapturedS _ _ 1 _ (Rd.own hm17_0) hD (by decide) (by decide)).mono ?_; rintro e w18 ⟨rfl, hx18⟩
      (go_wp2_with fail)
      have X0_12 := X0_11.trans hx12
      have X0_13 := X0_12.trans hx13
      have X0_14 := (X0_13).grown hg14 (fun j hj => Nat.le_trans (X0_5).size (hl14 j hj).1)
      have X0_15 := (X0_14).grown hg15 (fun j hj => Nat.le_trans (X0_6).size (hl15 j hj).1)
      have X0_16 := X0_15.trans hx16
      have X0_17 := (X0_16).grown hg17 (fun j hj => Nat.le_trans (X0_7).size (hl17 j hj).1)
      have X0_18 := X0_17.trans hx18
      go_at_call 6; refine (laws_toCapturedS xa _ _ (hxa.ext (X0_18)) ka).mono ?_; rintro e w19 ⟨g19_0, rfl, ho19_0, hx19⟩
      have X0_19 := X0_18.trans hx19
      (go_wp2_with fail)
      go_at_call 6; refine (laws_toCapturedS xb _ _ (hxb.ext (X0_19)) kb).mono ?_; rintro e w20 ⟨g20_0, rfl, ho20_0, hx20⟩
      (go_wp2_with fail)
      have o16 := own_ext ho19_0 (hx20)
      go_at_call 7; refine (ci _ _ _ (Rd.own o16) (Rd.own ho20_0)).mono ?_; rintro e w21 ⟨r21_0_0, rfl, ho21_0_0, hx21⟩
      (go_wp2_with fail)
      have o17 := own_ext o14 (hx16)
      have X5_16 := X5_15.trans hx16
      have X5_17 := (X5_16).grown hg17 (fun j hj => Nat.le_trans (X5_7).size (hl17 j hj).1)
      have o18 := own_ext ho5_0_0 (X5_17)
      have X17_19 := hx18.trans hx19
      have X17_20 := X17_19.trans hx20
      have X17_21 := X17_20.trans hx21
      have o19 := own_ext o18 (X17_21)
      go_at_call 8; refine (laws_eqCapturedS D _ _ _ (Rd.own ho21_0_0) (Rd.own o19) hD).mono ?_; rintro e w22 ⟨rfl, hx22⟩
      (go_wp2_with fail)
      have X17_22 := X17_21.trans hx22
      have o20 := own_ext hm17_0 (X17_22)
      go_at_call 10; refine (laws_heldCapturedS _ _ 1 _ (Rd.own o20) hD (by decide) (by decide)).mono ?_; rintro e w23 ⟨rfl, hx23⟩
      go_wp2
      go_returns
      have X0_20 := X0_19.trans hx20
      have X0_21 := X0_20.trans hx21
      have X0_22 := X0_21.trans hx22
      have X0_23 := X0_22.trans hx23
      exact ⟨rfl, X0_23⟩
    · have hxa := Hsa.out
      go_enter Tryd.func3, Tryd.ntmps3
      (go_wp2_with fail); go_at_call 4; refine (laws_szCapturedS _ _ 1048576 _ hxa (by omega) (by decide)).mono ?_; rintro e w' ⟨rfl, hx1⟩
      (go_wp2_with fail); go_at_call 4; refine (laws_szCapturedS_big xb _ (1048576 - xa.length - Cap.chars xa) _ (Hsb.out.ext hx1) (by omega) (by omega) (by omega) hmb Hzb.out).mono ?_; rintro e w' ⟨rfl, hx2⟩
      go_wp2
      go_returns
      exact ⟨rfl, hx1.trans hx2⟩
  · go_enter Tryd.func3, Tryd.ntmps3
    (go_wp2_with fail); go_at_call 4; refine (laws_szCapturedS_big xa _ 1048576 _ Hsa.out (by omega) (by decide) (by decide) hma Hza.out).mono ?_; rintro e w' ⟨rfl, hx1⟩
    go_wp2
    go_returns
    exact ⟨rfl, hx1⟩
theorem own : ownKnob Tryd.prog.godebug = none := by kernel_rfl
theorem laidOut : laidOutB Tryd.prog = true := by kernel_rfl
set_option maxRecDepth 100000 in
theorem lifted (os : Os) (started : os.Started) (H : Type) (enc : TypeId × Value → H) :
    ReturnsInHanded {} Tryd.checked os 3 .any (fun w args => (Rows.fnExactJoinCapturesSpec.pre enc Tryd.prog Tryd.f3 [] false w args ∧ laidMetH Tryd.prog Rows.fnExactJoinCapturesRow.laid w) ∧ sizedMet enc Tryd.prog Tryd.f3 (OpenSpec.ofChange Rows.fnExactJoinCapturesSpec) false w args)
      (Rows.fnExactJoinCapturesSpec.post enc Tryd.prog Tryd.f3 false true false false) := by
  refine returnsInHanded_of_change_and (C := Tryd.checked) (X := fun w _ => laidMetH Tryd.prog Rows.fnExactJoinCapturesRow.laid w) (fun _ _ _ hh h => h.of_heap hh) own started (by kernel_rfl) Tryd.func3
    (ChangeSpec.witness_shaped (enc := enc) (C := Tryd.checked) (os := os) (X := fun w _ => laidMetH Tryd.prog Rows.fnExactJoinCapturesRow.laid w) false (World.laidAll Tryd.prog os Rows.fnExactJoinCapturesRow.laid) #[.slice none 0 0, .slice none 0 0] 8 (World.laidAll_os _ _ _)
      (World.shaped_of_ZipB (by kernel_rfl) (by kernel_rfl)) (by kernel_rfl) (by kernel_rfl) (by kernel_rfl)
      (by rw [MakeChecks.laidMetH_plain _ _ _ (by kernel_rfl)]; exact laidMet_laidAll _ (by kernel_rfl) (by kernel_rfl))) ?_
  intro W base args ds gs before hval0 hW _ _ hL _
  have hval : ∀ (j : Nat) t v, Tryd.f3.params[j]? = some t → args[j]? = some v → Value.okWide Tryd.prog W .any base t v := hval0
  have hW' := hW
  obtain ⟨p, q, hA0, hV, rfl, hfz, hnd⟩ := hW
  have hA : DataW.TrodAll enc Tryd.prog W 0 (fun _ => true) true Tryd.f3.params.toList args.toList ds p := hA0
  rw [Tryd.params3] at hA hval
  rw [MakeChecks.laidMetH_plain _ _ _ (by kernel_rfl)] at hL
  obtain ⟨v0, vs0, d0, ds0, p0, q0, hargs, rfl, rfl, h0, r0⟩ := trodAll_cons hA
  obtain ⟨v1, vs1, d1, ds1, p1, q1, rfl, rfl, rfl, h1, r1⟩ := trodAll_cons r0
  obtain ⟨rfl, rfl, rfl⟩ := trodAll_nil r1
  obtain rfl : args = #[v0, v1] := by cases args; simp_all
  clear hA0 hval0 hfz hnd hV
  obtain ⟨xa, hsa, hla, hza⟩ := opened_caps (hval 0 _ v0 rfl rfl) h0
  obtain ⟨xb, hsb, hlb, hzb⟩ := opened_caps (hval 1 _ v1 rfl rfl) h1
  refine (walk xa xb _ _ W hsa hsb hla hlb hza hzb).mono fun e W' ⟨he, hx⟩ => ?_
  subst he
  exact ⟨_, rfl, law_post laidOut (by rw [Tryd.params3]; simp only [List.forall_mem_cons, List.not_mem_nil, false_implies, implies_true, and_true]; repeat' apply And.intro; all_goals first | kernel_rfl | exact of_decide_eq_true (by kernel_rfl)) rfl Tryd.underlying4 rfl ⟨rfl, rfl, rfl⟩ hW' hx.below⟩
theorem holdsRow : Rows.FnExactJoinCapturesSaid :=
  OpenClaim.holds_of_wide 3 Tryd.f3 rfl rfl rfl rfl rfl rfl rfl ⟨rfl, rfl, rfl, rfl, rfl⟩ rfl rfl rfl rfl rfl (by kernel_rfl) Tryd.func3 (by kernel_rfl)
    (of_decide_eq_true (by kernel_rfl)) (by unfold Func.isWrapper; first | (rw [if_pos (by decide +kernel)]; kernel_rfl) | (rw [if_neg (by decide +kernel)]; exact ⟨rfl, rfl⟩))
    (fun os started H enc _ => lifted os started H enc)
theorem proved : Rows.FnExactJoinCapturesCardSaid :=
  Claim7.holds_tied_plain_at .later [] [.data, .pinned] true (true, "c2514d18426c430ab44d997292dfaa3def10f6fb262788297f69d1eb7a3b5ccf") false holdsRow (fun _ h => by cases h) (by kernel_rfl) (fun _ h => by cases h) fnExactJoinCaptures_row_tie rfl ⟨rfl, rfl⟩ (by kernel_rfl) rfl
    (fun f fn hf hfn => by
      obtain rfl : f = 3 := Option.some.inj ((show Tryd.prog.funcNamed "loop.example/g00840/laws.FnExactJoinCaptures" = some 3 by kernel_rfl).symm.trans hf) |>.symm
      obtain rfl : fn = Tryd.f3 := (Option.some.inj (Tryd.func3.symm.trans hfn)).symm
      exact ⟨by kernel_rfl, fun j t ht => by
        rw [Tryd.params3] at ht
        have hm : t ∈ [22, 22] := by simpa using Array.mem_of_getElem? ht
        have hall : ([22, 22].all fun u => !Tryd.prog.wantsStandIn u) = true := by kernel_rfl
        exact (show Tryd.prog.wantsStandIn t = false by simpa using List.all_eq_true.1 hall t hm)⟩)
    (by kernel_rfl)
#print axioms proved
end Go.Proofs.YtljknhocfjpolaaDoor.xJoinCaptures
