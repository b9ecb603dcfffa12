/- The law FnExactCaptureText. -/
import Derived.Test.YtjkkjfcclelpmaaDoorWCapText
import Derived.Test.YtjkkjfcclelpmaaDoorKit2
import Derived.Test.YtjkkjfcclelpmaaDoorRows
import Derived.Test.YtjkkjfcclelpmaaDoorTie
import Derived.Test.YtjkkjfcclelpmaaDoorCards
import Derived.Lay
import Derived.SevenTiedAt
namespace Go.Proofs.YtjkkjfcclelpmaaDoor.xCaptureText
open Go.ChangeShapes Go.WideShapes Go.ChangeAt Go.RowKit
set_option maxHeartbeats 400000
set_option maxRecDepth 100000
theorem opened_int {W : World} {v : Value} {r : Reach} {b : Nat} (hval : Value.okWide Tryd.prog W r b 3 v) : ∃ n : Int, v = .int .i64 n := by
  obtain ⟨n, rfl, -⟩ := Go.WideShapes.okWide_int Tryd.underlying3 hval
  exact ⟨n, rfl⟩
theorem walk (xs : List Cap) (v : Value) (w : World) (hxs : Rd w 8 v xs.length (xs.flatMap Cap.cs)) (hm : xs.length ≤ maxLen) (hz : ∀ x ∈ xs, x.d.size ≤ maxLen) (ht : Tab w) :
    Calls Tryd.prog 10 #[v] w fun e w' => e = .returned (.bool true) ∧ Ext w w' := by
  have Hz := hid hz; clear hz
  have HT := hid ht; clear ht
  have Hs := hid hxs; clear hxs
  by_cases hs : (xs.length : Int) + Cap.chars xs ≤ 1048576
  · have kxs : xs.length ≤ 1048576 := by omega
    have k3 : Cap.chars xs ≤ 1048576 := by omega
    have t1 : decide ((1048576 : Int) - xs.length - Cap.chars xs < 0) = false := by simp; omega
    have tk : decide ((1 : Int) + 8 * xs.length < 0) = false := by simp; omega
    have cs := fun v w h => spec_CaptureText xs v w h kxs k3
    have ci := fun v w h ht => impl_CaptureText xs v w h kxs k3 ht
    generalize capB xs = b at cs ci
    generalize ctT xs = T at cs ci
    have hxs := Hs.out
    go_enter Tryd.func10, Tryd.ntmps10
    (go_wp2_with fail)
    go_at_call 11; refine (laws_szCapturedS _ _ 1048576 _ (hxs.ext ((Ext.refl _))) (by omega) (by decide)).mono ?_; rintro e w1 ⟨rfl, hx1⟩
    (go_wp2_with fail)
    go_at_call 13; refine (laws_toCapturedS xs _ _ (hxs.ext (hx1)) kxs).mono ?_; rintro e w2 ⟨g2_0, rfl, ho2_0, hx2⟩
    (go_wp2_with fail)
    go_at_call 33; refine (cs _ _ (Rd.own ho2_0)).mono ?_; rintro e w3 ⟨rfl, hx3⟩
    (go_wp2_with fail)
    have X0_2 := hx1.trans hx2
    have X0_3 := X0_2.trans hx3
    go_at_call 13; refine (laws_toCapturedS xs _ _ (hxs.ext (X0_3)) kxs).mono ?_; rintro e w4 ⟨g4_0, rfl, ho4_0, hx4⟩
    (go_wp2_with fail)
    have X0_4 := X0_3.trans hx4
    go_at_call 34; refine (ci _ _ (Rd.own ho4_0) (HT.out.ext (X0_4))).mono ?_; rintro e w5 ⟨rfl, hx5⟩
    (go_wp2_with fail)
    have X0_5 := X0_4.trans hx5
    go_at_call 13; refine (laws_toCapturedS xs _ _ (hxs.ext (X0_5)) kxs).mono ?_; rintro e w6 ⟨g6_0, rfl, ho6_0, hx6⟩
    (go_wp2_with fail)
    have X4_6 := hx5.trans hx6
    have o1 := own_ext ho4_0 (X4_6)
    go_at_call 15; refine (laws_eqCapturedS xs _ _ _ (Rd.own o1) (Rd.own ho6_0) kxs).mono ?_; rintro e w7 ⟨rfl, hx7⟩
    go_wp2
    go_returns
    have X0_6 := X0_5.trans hx6
    have X0_7 := X0_6.trans hx7
    exact ⟨rfl, X0_7⟩
  · go_enter Tryd.func10, Tryd.ntmps10
    (go_wp2_with fail); go_at_call 11; refine (laws_szCapturedS_big xs _ 1048576 _ Hs.out (by omega) (by decide) (by decide) hm Hz.out).mono ?_; rintro e w' ⟨rfl, hx1⟩
    go_wp2
    go_returns
    exact ⟨rfl, hx1⟩
theorem own : ownKnob Tryd.prog.godebug = none := by kernel_rfl
theorem laidOut : laidOutB Tryd.prog = true := by kernel_rfl
set_option maxRecDepth 100000 in
theorem lifted (os : Os) (started : os.Started) (H : Type) (enc : TypeId × Value → H) :
    ReturnsInHanded {} Tryd.checked os 10 .any (fun w args => (Rows.fnExactCaptureTextSpec.pre enc Tryd.prog Tryd.f10 [] false w args ∧ laidMetH Tryd.prog Rows.fnExactCaptureTextRow.laid w) ∧ sizedMet enc Tryd.prog Tryd.f10 (OpenSpec.ofChange Rows.fnExactCaptureTextSpec) false w args)
      (Rows.fnExactCaptureTextSpec.post enc Tryd.prog Tryd.f10 false true false false) := by
  refine returnsInHanded_of_change_and (C := Tryd.checked) (X := fun w _ => laidMetH Tryd.prog Rows.fnExactCaptureTextRow.laid w) (fun _ _ _ hh h => h.of_heap hh) own started (by kernel_rfl) Tryd.func10
    (ChangeSpec.witness_shaped (enc := enc) (C := Tryd.checked) (os := os) (X := fun w _ => laidMetH Tryd.prog Rows.fnExactCaptureTextRow.laid w) false (World.laidAll Tryd.prog os Rows.fnExactCaptureTextRow.laid) #[.slice none 0 0] 8 (World.laidAll_os _ _ _)
      (World.shaped_of_ZipB (by kernel_rfl) (by kernel_rfl)) (by kernel_rfl) (by kernel_rfl) (by kernel_rfl)
      (by rw [MakeChecks.laidMetH_plain _ _ _ (by kernel_rfl)]; exact laidMet_laidAll _ (by kernel_rfl) (by kernel_rfl))) ?_
  intro W base args ds gs before hval0 hW _ _ hL _
  have hval : ∀ (j : Nat) t v, Tryd.f10.params[j]? = some t → args[j]? = some v → Value.okWide Tryd.prog W .any base t v := hval0
  have hW' := hW
  obtain ⟨p, q, hA0, hV, rfl, hfz, hnd⟩ := hW
  have hA : DataW.TrodAll enc Tryd.prog W 0 (fun _ => true) true Tryd.f10.params.toList args.toList ds p := hA0
  rw [Tryd.params10] at hA hval
  rw [MakeChecks.laidMetH_plain _ _ _ (by kernel_rfl)] at hL
  obtain ⟨v0, vs0, d0, ds0, p0, q0, hargs, rfl, rfl, h0, r0⟩ := trodAll_cons hA
  obtain ⟨rfl, rfl, rfl⟩ := trodAll_nil r0
  obtain rfl : args = #[v0] := by cases args; simp_all
  clear hA0 hval0 hfz hnd hV
  obtain ⟨xs, hs, hsl, hsz⟩ := opened_caps (hval 0 _ v0 rfl rfl) h0
  refine (walk xs _ W hs hsl hsz (tab_of hL.tail.tail)).mono fun e W' ⟨he, hx⟩ => ?_
  subst he
  exact ⟨_, rfl, law_post laidOut (by rw [Tryd.params10]; simp only [List.forall_mem_cons, List.not_mem_nil, false_implies, implies_true, and_true]; repeat' apply And.intro; all_goals first | kernel_rfl | exact of_decide_eq_true (by kernel_rfl)) rfl Tryd.underlying4 rfl ⟨rfl, rfl, rfl⟩ hW' hx.below⟩
theorem holdsRow : Rows.FnExactCaptureTextSaid :=
  OpenClaim.holds_of_wide 10 Tryd.f10 rfl rfl rfl rfl rfl rfl rfl ⟨rfl, rfl, rfl, rfl, rfl⟩ rfl rfl rfl rfl rfl (by kernel_rfl) Tryd.func10 (by kernel_rfl)
    (of_decide_eq_true (by kernel_rfl)) (by unfold Func.isWrapper; first | (rw [if_pos (by decide +kernel)]; kernel_rfl) | (rw [if_neg (by decide +kernel)]; exact ⟨rfl, rfl⟩))
    (fun os started H enc _ => lifted os started H enc)
theorem proved : Rows.FnExactCaptureTextCardSaid :=
  Claim7.holds_tied_plain_at .later [] [.data, .data, .data, .data, .pinned] true (true, "a804df4705fe3ca4496c3f8e9e42cfb648adaea9133c361d27295cdb781b38c4") false holdsRow (fun _ h => by cases h) (by kernel_rfl) (fun _ h => by cases h) fnExactCaptureText_row_tie rfl ⟨rfl, rfl⟩ (by kernel_rfl) rfl
    (fun f fn hf hfn => by
      obtain rfl : f = 10 := Option.some.inj ((show Tryd.prog.funcNamed "loop.example/g00840/laws.FnExactCaptureText" = some 10 by kernel_rfl).symm.trans hf) |>.symm
      obtain rfl : fn = Tryd.f10 := (Option.some.inj (Tryd.func10.symm.trans hfn)).symm
      exact ⟨by kernel_rfl, fun j t ht => by
        rw [Tryd.params10] at ht
        have hm : t ∈ [22] := by simpa using Array.mem_of_getElem? ht
        have hall : ([22].all fun u => !Tryd.prog.wantsStandIn u) = true := by kernel_rfl
        exact (show Tryd.prog.wantsStandIn t = false by simpa using List.all_eq_true.1 hall t hm)⟩)
    (by kernel_rfl)
#print axioms proved
end Go.Proofs.YtjkkjfcclelpmaaDoor.xCaptureText
