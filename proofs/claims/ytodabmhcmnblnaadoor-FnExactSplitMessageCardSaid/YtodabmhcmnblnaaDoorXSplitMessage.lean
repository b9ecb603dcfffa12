/- The law FnExactSplitMessage. -/
import Derived.Test.YtodabmhcmnblnaaDoorWSplit
import Derived.Test.YtodabmhcmnblnaaDoorKit2
import Derived.Test.YtodabmhcmnblnaaDoorRows
import Derived.Test.YtodabmhcmnblnaaDoorTie
import Derived.Test.YtodabmhcmnblnaaDoorCards
import Derived.Lay
import Derived.SevenTiedAt
namespace Go.Proofs.YtodabmhcmnblnaaDoor.xSplitMessage
open Go.ChangeShapes Go.WideShapes Go.ChangeAt Go.RowKit
set_option maxHeartbeats 400000
set_option maxRecDepth 100000
theorem walk (n : Int) (s : ByteArray) (z : Int) (w : World) :
    Calls Tryd.prog 4 #[.int .i64 n, .string s, .int .i64 z] w fun e w' => e = .returned (.bool true) ∧ Ext w w' := by
  by_cases h2 : s.size ≤ 1048576
  · have cs := fun w => spec_SplitMessage n s z w h2
    have ci := fun w => impl_SplitMessage n s z w h2
    have hD : (splD n s z).length ≤ 1048576 := Nat.le_trans (splD_len n s z) (by decide)
    generalize splD n s z = D at cs ci hD
    generalize splB n s z = b at cs ci
    have t0 : decide ((1048576 : Int) < s.size) = false := by simp; omega
    have t2 : decide ((1 : Int) + 4 * D.length < 0) = false := by simp; omega
    go_enter Tryd.func4, Tryd.ntmps4
    (go_wp2_with fail)
    go_at_call 16; refine (cs _).mono ?_; rintro e w1 ⟨r1_0_0, rfl, ho1_0_0, hx1⟩
    (go_wp2_with fail)
    go_at_call 17; refine (ci _).mono ?_; rintro e w2 ⟨r2_0_0, rfl, ho2_0_0, hx2⟩
    (go_wp2_with fail)
    have o1 := own_ext ho1_0_0 (hx2)
    go_at_call 18; refine (laws_eqFragmentS D _ _ _ (Rd.own ho2_0_0) (Rd.own o1) hD).mono ?_; rintro e w3 ⟨rfl, hx3⟩
    (go_wp2_with fail)
    have o2 := own_ext ho2_0_0 (hx3)
    have hl4 := own_row o2
    go_at_call 19; refine (laws_markFragmentS _ _ _ 1 _ _ o2 hD (by omega) (by omega)).mono ?_; rintro e w4 ⟨rfl, hm4_0, hg4⟩
    (go_wp2_with fail)
    go_at_call 20; refine (laws_heldFragmentS _ _ 1 _ (Rd.own hm4_0) hD (by decide) (by decide)).mono ?_; rintro e w5 ⟨rfl, hx5⟩
    (go_wp2_with fail)
    go_at_call 17; refine (ci _).mono ?_; rintro e w6 ⟨r6_0_0, rfl, ho6_0_0, hx6⟩
    (go_wp2_with fail)
    have o3 := own_ext o1 (hx3)
    have X1_3 := hx2.trans hx3
    have X1_4 := (X1_3).grown hg4 (fun j hj => Nat.le_trans ((Ext.refl w1)).size (hl4 j hj).1)
    have o4 := own_ext ho1_0_0 (X1_4)
    have X4_6 := hx5.trans hx6
    have o5 := own_ext o4 (X4_6)
    go_at_call 18; refine (laws_eqFragmentS D _ _ _ (Rd.own ho6_0_0) (Rd.own o5) hD).mono ?_; rintro e w7 ⟨rfl, hx7⟩
    (go_wp2_with fail)
    have X4_7 := X4_6.trans hx7
    have o6 := own_ext hm4_0 (X4_7)
    go_at_call 20; refine (laws_heldFragmentS _ _ 1 _ (Rd.own o6) hD (by decide) (by decide)).mono ?_; rintro e w8 ⟨rfl, hx8⟩
    go_wp2
    go_returns
    have X0_2 := hx1.trans hx2
    have X0_3 := X0_2.trans hx3
    have X0_4 := (X0_3).grown hg4 (fun j hj => Nat.le_trans (hx1).size (hl4 j hj).1)
    have X0_5 := X0_4.trans hx5
    have X0_6 := X0_5.trans hx6
    have X0_7 := X0_6.trans hx7
    have X0_8 := X0_7.trans hx8
    exact ⟨rfl, X0_8⟩
  · have t0 : decide ((1048576 : Int) < s.size) = true := by simp; omega
    go_enter Tryd.func4, Tryd.ntmps4
    go_wp2
    go_returns
    exact ⟨rfl, Ext.refl _⟩
theorem opened_int {W : World} {v : Value} {r : Reach} {b : Nat} (hval : Value.okWide Tryd.prog W r b 3 v) : ∃ n : Int, v = .int .i64 n := by
  obtain ⟨n, rfl, -⟩ := Go.WideShapes.okWide_int Tryd.underlying3 hval
  exact ⟨n, rfl⟩
theorem own : ownKnob Tryd.prog.godebug = none := by kernel_rfl
theorem laidOut : laidOutB Tryd.prog = true := by kernel_rfl
set_option maxRecDepth 100000 in
theorem lifted (os : Os) (started : os.Started) (H : Type) (enc : TypeId × Value → H) :
    ReturnsInHanded {} Tryd.checked os 4 .any (fun w args => (Rows.fnExactSplitMessageSpec.pre enc Tryd.prog Tryd.f4 [] false w args ∧ laidMetH Tryd.prog Rows.fnExactSplitMessageRow.laid w) ∧ sizedMet enc Tryd.prog Tryd.f4 (OpenSpec.ofChange Rows.fnExactSplitMessageSpec) false w args)
      (Rows.fnExactSplitMessageSpec.post enc Tryd.prog Tryd.f4 false true false false) := by
  refine returnsInHanded_of_change_and (C := Tryd.checked) (X := fun w _ => laidMetH Tryd.prog Rows.fnExactSplitMessageRow.laid w) (fun _ _ _ hh h => h.of_heap hh) own started (by kernel_rfl) Tryd.func4
    (ChangeSpec.witness_shaped (enc := enc) (C := Tryd.checked) (os := os) (X := fun w _ => laidMetH Tryd.prog Rows.fnExactSplitMessageRow.laid w) false (World.laidAll Tryd.prog os Rows.fnExactSplitMessageRow.laid) #[.int .i64 0, .string ⟨#[]⟩, .int .i64 0] 8 (World.laidAll_os _ _ _)
      (World.shaped_of_ZipB (by kernel_rfl) (by kernel_rfl)) (by kernel_rfl) (by kernel_rfl) (by kernel_rfl)
      (by rw [MakeChecks.laidMetH_plain _ _ _ (by kernel_rfl)]; exact laidMet_laidAll _ (by kernel_rfl) (by kernel_rfl))) ?_
  intro W base args ds gs before hval0 hW _ _ hL _
  have hval : ∀ (j : Nat) t v, Tryd.f4.params[j]? = some t → args[j]? = some v → Value.okWide Tryd.prog W .any base t v := hval0
  have hW' := hW
  obtain ⟨p, q, hA0, hV, rfl, hfz, hnd⟩ := hW
  have hA : DataW.TrodAll enc Tryd.prog W 0 (fun _ => true) true Tryd.f4.params.toList args.toList ds p := hA0
  rw [Tryd.params4] at hA hval
  rw [MakeChecks.laidMetH_plain _ _ _ (by kernel_rfl)] at hL
  obtain ⟨v0, vs0, d0, ds0, p0, q0, hargs, rfl, rfl, h0, r0⟩ := trodAll_cons hA
  obtain ⟨v1, vs1, d1, ds1, p1, q1, rfl, rfl, rfl, h1, r1⟩ := trodAll_cons r0
  obtain ⟨v2, vs2, d2, ds2, p2, q2, rfl, rfl, rfl, h2, r2⟩ := trodAll_cons r1
  obtain ⟨rfl, rfl, rfl⟩ := trodAll_nil r2
  obtain rfl : args = #[v0, v1, v2] := by cases args; simp_all
  clear hA0 hval0 hfz hnd hV
  obtain ⟨n, rfl⟩ := opened_int (hval 0 _ v0 rfl rfl)
  obtain ⟨s, rfl⟩ := okWide_string Tryd.underlying9 (hval 1 _ v1 rfl rfl)
  obtain ⟨z, rfl⟩ := opened_int (hval 2 _ v2 rfl rfl)
  refine (walk n s z W).mono fun e W' ⟨he, hx⟩ => ?_
  subst he
  exact ⟨_, rfl, law_post laidOut (by rw [Tryd.params4]; simp only [List.forall_mem_cons, List.not_mem_nil, false_implies, implies_true, and_true]; repeat' apply And.intro; all_goals first | kernel_rfl | exact of_decide_eq_true (by kernel_rfl)) rfl Tryd.underlying4 rfl ⟨rfl, rfl, rfl⟩ hW' hx.below⟩
theorem holdsRow : Rows.FnExactSplitMessageSaid :=
  OpenClaim.holds_of_wide 4 Tryd.f4 rfl rfl rfl rfl rfl rfl rfl ⟨rfl, rfl, rfl, rfl, rfl⟩ rfl rfl rfl rfl rfl (by kernel_rfl) Tryd.func4 (by kernel_rfl)
    (of_decide_eq_true (by kernel_rfl)) (by unfold Func.isWrapper; first | (rw [if_pos (by decide +kernel)]; kernel_rfl) | (rw [if_neg (by decide +kernel)]; exact ⟨rfl, rfl⟩))
    (fun os started H enc _ => lifted os started H enc)
theorem proved : Rows.FnExactSplitMessageCardSaid :=
  Claim7.holds_tied_plain_at .later [] [.data, .pinned] true (true, "4b97d6b7be869a40307f299845fa46d4d54e6c43207a6bf38794ee6245c10d29") true holdsRow (fun _ h => by cases h) (by kernel_rfl) (fun _ h => by cases h) fnExactSplitMessage_row_tie rfl ⟨rfl, rfl⟩ (by kernel_rfl) rfl
    (fun f fn hf hfn => by
      obtain rfl : f = 4 := Option.some.inj ((show Tryd.prog.funcNamed "loop.example/g00840/laws.FnExactSplitMessage" = some 4 by kernel_rfl).symm.trans hf) |>.symm
      obtain rfl : fn = Tryd.f4 := (Option.some.inj (Tryd.func4.symm.trans hfn)).symm
      exact ⟨by kernel_rfl, fun j t ht => by
        rw [Tryd.params4] at ht
        have hm : t ∈ [3, 9, 3] := by simpa using Array.mem_of_getElem? ht
        have hall : ([3, 9, 3].all fun u => !Tryd.prog.wantsStandIn u) = true := by kernel_rfl
        exact (show Tryd.prog.wantsStandIn t = false by simpa using List.all_eq_true.1 hall t hm)⟩)
    (by kernel_rfl)
#print axioms proved
end Go.Proofs.YtodabmhcmnblnaaDoor.xSplitMessage
