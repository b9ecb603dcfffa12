/- The law FnExactTwiceRequested. -/
import Derived.Test.YtjkkjfcclelpmaaDoorWTwice3
import Derived.Test.YtjkkjfcclelpmaaDoorKit2
import Derived.Test.YtjkkjfcclelpmaaDoorRows
import Derived.Test.YtjkkjfcclelpmaaDoorTie
import Derived.Test.YtjkkjfcclelpmaaDoorCards
import Derived.Lay
import Derived.SevenTiedAt
namespace Go.Proofs.YtjkkjfcclelpmaaDoor.xTwiceRequested
open Go.ChangeShapes Go.WideShapes Go.ChangeAt Go.RowKit
set_option maxHeartbeats 400000
set_option maxRecDepth 100000
theorem opened_int {W : World} {v : Value} {r : Reach} {b : Nat} (hval : Value.okWide Tryd.prog W r b 3 v) : ∃ n : Int, v = .int .i64 n := by
  obtain ⟨n, rfl, -⟩ := Go.WideShapes.okWide_int Tryd.underlying3 hval
  exact ⟨n, rfl⟩
theorem walk (xs : List Cap) (v : Value) (w : World) (hxs : Rd w 8 v xs.length (xs.flatMap Cap.cs)) (hm : xs.length ≤ maxLen) (hz : ∀ x ∈ xs, x.d.size ≤ maxLen) :
    Calls Tryd.prog 8 #[v] w fun e w' => e = .returned (.bool true) ∧ Ext w w' := by
  have Hz := hid hz; clear hz
  have Hs := hid hxs; clear hxs
  by_cases hs : (xs.length : Int) + Cap.chars xs ≤ 1048576
  · have kxs : xs.length ≤ 1048576 := by omega
    have k3 : Cap.chars xs ≤ 1048576 := by omega
    have t1 : decide ((1048576 : Int) - xs.length - Cap.chars xs < 0) = false := by simp; omega
    have tk : decide ((1 : Int) + 8 * xs.length < 0) = false := by simp; omega
    have cs := fun v w h => spec_TwiceRequested xs v w h kxs k3
    have ci := fun p w h => impl_TwiceRequested xs p xs.length w h (Nat.le_refl _) kxs k3
    have hD : (twR xs).length ≤ 1048576 := Nat.le_trans (twR_len xs) kxs
    generalize twR xs = D at cs ci hD
    generalize capB xs = b at cs ci
    have hxs := Hs.out
    go_enter Tryd.func8, Tryd.ntmps8
    (go_wp2_with fail)
    go_at_call 11; refine (laws_szCapturedS _ _ 1048576 _ (hxs.ext ((Ext.refl _))) (by omega) (by decide)).mono ?_; rintro e w1 ⟨rfl, hx1⟩
    (go_wp2_with fail)
    go_at_call 13; refine (laws_toCapturedS xs _ _ (hxs.ext (hx1)) kxs).mono ?_; rintro e w2 ⟨g2_0, rfl, ho2_0, hx2⟩
    (go_wp2_with fail)
    go_at_call 26; refine (cs _ _ (Rd.own ho2_0)).mono ?_; rintro e w3 ⟨r3_0_0, rfl, ho3_0_0, hx3⟩
    (go_wp2_with fail)
    have X0_2 := hx1.trans hx2
    have X0_3 := X0_2.trans hx3
    go_at_call 13; refine (laws_toCapturedS xs _ _ (hxs.ext (X0_3)) kxs).mono ?_; rintro e w4 ⟨g4_0, rfl, ho4_0, hx4⟩
    (go_wp2_with fail)
    go_at_call 27; refine (ci _ _ (Rd.own ho4_0)).mono ?_; rintro e w5 ⟨r5_0_0, rfl, ho5_0_0, hx5⟩
    (go_wp2_with fail)
    have X3_5 := hx4.trans hx5
    have o1 := own_ext ho3_0_0 (X3_5)
    go_at_call 28; refine (laws_eqIntS D _ _ _ (Rd.own ho5_0_0) (Rd.own o1) (Nat.le_trans hD (by decide))).mono ?_; rintro e w6 ⟨rfl, hx6⟩
    (go_wp2_with fail)
    have X0_4 := X0_3.trans hx4
    have X0_5 := X0_4.trans hx5
    have X0_6 := X0_5.trans hx6
    go_at_call 13; refine (laws_toCapturedS xs _ _ (hxs.ext (X0_6)) kxs).mono ?_; rintro e w7 ⟨g7_0, rfl, ho7_0, hx7⟩
    (go_wp2_with fail)
    have X4_6 := hx5.trans hx6
    have X4_7 := X4_6.trans hx7
    have o2 := own_ext ho4_0 (X4_7)
    go_at_call 15; refine (laws_eqCapturedS xs _ _ _ (Rd.own o2) (Rd.own ho7_0) kxs).mono ?_; rintro e w8 ⟨rfl, hx8⟩
    (go_wp2_with fail)
    have o3 := own_ext o2 (hx8)
    have hl9 := own_row o3
    go_at_call 22; refine (laws_markCapturedS _ _ _ 1 _ _ o3 kxs (by omega) (by omega)).mono ?_; rintro e w9 ⟨rfl, hm9_0, hg9⟩
    (go_wp2_with fail)
    have X5_7 := hx6.trans hx7
    have X5_8 := X5_7.trans hx8
    have o4 := own_ext ho5_0_0 (X5_8)
    have o5 := own_behind o4 hg9 (fun j hj => Nat.lt_of_lt_of_le (own_row ho4_0 j hj).2 ((Ext.refl w4)).size)
    have o6 := own_ext o1 (X5_8)
    have X3_6 := X3_5.trans hx6
    have X3_7 := X3_6.trans hx7
    have X3_8 := X3_7.trans hx8
    have X3_9 := (X3_8).grown hg9 (fun j hj => Nat.le_trans ((Ext.refl w3)).size (hl9 j hj).1)
    have o7 := own_ext ho3_0_0 (X3_9)
    go_at_call 28; refine (laws_eqIntS D _ _ _ (Rd.own o5) (Rd.own o7) (Nat.le_trans hD (by decide))).mono ?_; rintro e w10 ⟨rfl, hx10⟩
    (go_wp2_with fail)
    have o8 := own_ext o5 (hx10)
    have hl11 := own_row o8
    go_at_call 29; refine (laws_markIntS _ _ _ 1 _ _ o8 (Nat.le_trans hD (by decide)) (by omega) (by omega)).mono ?_; rintro e w11 ⟨rfl, hm11_0, hg11⟩
    (go_wp2_with fail)
    go_at_call 30; refine (laws_heldIntS _ _ 1 _ (Rd.own hm11_0) (Nat.le_trans hD (by decide)) (by decide) (by decide)).mono ?_; rintro e w12 ⟨rfl, hx12⟩
    (go_wp2_with fail)
    have X0_7 := X0_6.trans hx7
    have X0_8 := X0_7.trans hx8
    have X0_9 := (X0_8).grown hg9 (fun j hj => Nat.le_trans (X0_3).size (hl9 j hj).1)
    have X0_10 := X0_9.trans hx10
    have X0_11 := (X0_10).grown hg11 (fun j hj => Nat.le_trans (X0_4).size (hl11 j hj).1)
    have X0_12 := X0_11.trans hx12
    go_at_call 13; refine (laws_toCapturedS xs _ _ (hxs.ext (X0_12)) kxs).mono ?_; rintro e w13 ⟨g13_0, rfl, ho13_0, hx13⟩
    (go_wp2_with fail)
    go_at_call 27; refine (ci _ _ (Rd.own ho13_0)).mono ?_; rintro e w14 ⟨r14_0_0, rfl, ho14_0_0, hx14⟩
    (go_wp2_with fail)
    have o9 := own_ext o7 (hx10)
    have X3_10 := X3_9.trans hx10
    have X3_11 := (X3_10).grown hg11 (fun j hj => Nat.le_trans (hx4).size (hl11 j hj).1)
    have o10 := own_ext ho3_0_0 (X3_11)
    have X11_13 := hx12.trans hx13
    have X11_14 := X11_13.trans hx14
    have o11 := own_ext o10 (X11_14)
    go_at_call 28; refine (laws_eqIntS D _ _ _ (Rd.own ho14_0_0) (Rd.own o11) (Nat.le_trans hD (by decide))).mono ?_; rintro e w15 ⟨rfl, hx15⟩
    (go_wp2_with fail)
    have X11_15 := X11_14.trans hx15
    have o12 := own_ext hm11_0 (X11_15)
    go_at_call 30; refine (laws_heldIntS _ _ 1 _ (Rd.own o12) (Nat.le_trans hD (by decide)) (by decide) (by decide)).mono ?_; rintro e w16 ⟨rfl, hx16⟩
    go_wp2
    go_returns
    have X0_13 := X0_12.trans hx13
    have X0_14 := X0_13.trans hx14
    have X0_15 := X0_14.trans hx15
    have X0_16 := X0_15.trans hx16
    exact ⟨rfl, X0_16⟩
  · go_enter Tryd.func8, Tryd.ntmps8
    (go_wp2_with fail); go_at_call 11; refine (laws_szCapturedS_big xs _ 1048576 _ Hs.out (by omega) (by decide) (by decide) hm Hz.out).mono ?_; rintro e w' ⟨rfl, hx1⟩
    go_wp2
    go_returns
    exact ⟨rfl, hx1⟩
theorem own : ownKnob Tryd.prog.godebug = none := by kernel_rfl
theorem laidOut : laidOutB Tryd.prog = true := by kernel_rfl
set_option maxRecDepth 100000 in
theorem lifted (os : Os) (started : os.Started) (H : Type) (enc : TypeId × Value → H) :
    ReturnsInHanded {} Tryd.checked os 8 .any (fun w args => (Rows.fnExactTwiceRequestedSpec.pre enc Tryd.prog Tryd.f8 [] false w args ∧ laidMetH Tryd.prog Rows.fnExactTwiceRequestedRow.laid w) ∧ sizedMet enc Tryd.prog Tryd.f8 (OpenSpec.ofChange Rows.fnExactTwiceRequestedSpec) false w args)
      (Rows.fnExactTwiceRequestedSpec.post enc Tryd.prog Tryd.f8 false true false false) := by
  refine returnsInHanded_of_change_and (C := Tryd.checked) (X := fun w _ => laidMetH Tryd.prog Rows.fnExactTwiceRequestedRow.laid w) (fun _ _ _ hh h => h.of_heap hh) own started (by kernel_rfl) Tryd.func8
    (ChangeSpec.witness_shaped (enc := enc) (C := Tryd.checked) (os := os) (X := fun w _ => laidMetH Tryd.prog Rows.fnExactTwiceRequestedRow.laid w) false (World.laidAll Tryd.prog os Rows.fnExactTwiceRequestedRow.laid) #[.slice none 0 0] 8 (World.laidAll_os _ _ _)
      (World.shaped_of_ZipB (by kernel_rfl) (by kernel_rfl)) (by kernel_rfl) (by kernel_rfl) (by kernel_rfl)
      (by rw [MakeChecks.laidMetH_plain _ _ _ (by kernel_rfl)]; exact laidMet_laidAll _ (by kernel_rfl) (by kernel_rfl))) ?_
  intro W base args ds gs before hval0 hW _ _ hL _
  have hval : ∀ (j : Nat) t v, Tryd.f8.params[j]? = some t → args[j]? = some v → Value.okWide Tryd.prog W .any base t v := hval0
  have hW' := hW
  obtain ⟨p, q, hA0, hV, rfl, hfz, hnd⟩ := hW
  have hA : DataW.TrodAll enc Tryd.prog W 0 (fun _ => true) true Tryd.f8.params.toList args.toList ds p := hA0
  rw [Tryd.params8] at hA hval
  rw [MakeChecks.laidMetH_plain _ _ _ (by kernel_rfl)] at hL
  obtain ⟨v0, vs0, d0, ds0, p0, q0, hargs, rfl, rfl, h0, r0⟩ := trodAll_cons hA
  obtain ⟨rfl, rfl, rfl⟩ := trodAll_nil r0
  obtain rfl : args = #[v0] := by cases args; simp_all
  clear hA0 hval0 hfz hnd hV
  obtain ⟨xs, hs, hsl, hsz⟩ := opened_caps (hval 0 _ v0 rfl rfl) h0
  refine (walk xs _ W hs hsl hsz).mono fun e W' ⟨he, hx⟩ => ?_
  subst he
  exact ⟨_, rfl, law_post laidOut (by rw [Tryd.params8]; simp only [List.forall_mem_cons, List.not_mem_nil, false_implies, implies_true, and_true]; repeat' apply And.intro; all_goals first | kernel_rfl | exact of_decide_eq_true (by kernel_rfl)) rfl Tryd.underlying4 rfl ⟨rfl, rfl, rfl⟩ hW' hx.below⟩
theorem holdsRow : Rows.FnExactTwiceRequestedSaid :=
  OpenClaim.holds_of_wide 8 Tryd.f8 rfl rfl rfl rfl rfl rfl rfl ⟨rfl, rfl, rfl, rfl, rfl⟩ rfl rfl rfl rfl rfl (by kernel_rfl) Tryd.func8 (by kernel_rfl)
    (of_decide_eq_true (by kernel_rfl)) (by unfold Func.isWrapper; first | (rw [if_pos (by decide +kernel)]; kernel_rfl) | (rw [if_neg (by decide +kernel)]; exact ⟨rfl, rfl⟩))
    (fun os started H enc _ => lifted os started H enc)
theorem proved : Rows.FnExactTwiceRequestedCardSaid :=
  Claim7.holds_tied_plain_at .later [] [.data, .pinned] true (true, "a804df4705fe3ca4496c3f8e9e42cfb648adaea9133c361d27295cdb781b38c4") false holdsRow (fun _ h => by cases h) (by kernel_rfl) (fun _ h => by cases h) fnExactTwiceRequested_row_tie rfl ⟨rfl, rfl⟩ (by kernel_rfl) rfl
    (fun f fn hf hfn => by
      obtain rfl : f = 8 := Option.some.inj ((show Tryd.prog.funcNamed "loop.example/g00840/laws.FnExactTwiceRequested" = some 8 by kernel_rfl).symm.trans hf) |>.symm
      obtain rfl : fn = Tryd.f8 := (Option.some.inj (Tryd.func8.symm.trans hfn)).symm
      exact ⟨by kernel_rfl, fun j t ht => by
        rw [Tryd.params8] at ht
        have hm : t ∈ [22] := by simpa using Array.mem_of_getElem? ht
        have hall : ([22].all fun u => !Tryd.prog.wantsStandIn u) = true := by kernel_rfl
        exact (show Tryd.prog.wantsStandIn t = false by simpa using List.all_eq_true.1 hall t hm)⟩)
    (by kernel_rfl)
#print axioms proved
end Go.Proofs.YtjkkjfcclelpmaaDoor.xTwiceRequested
