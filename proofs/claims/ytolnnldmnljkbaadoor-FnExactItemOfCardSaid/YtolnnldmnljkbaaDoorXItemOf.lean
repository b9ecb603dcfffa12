/- The law FnExactItemOf. -/
import Derived.Test.YtolnnldmnljkbaaDoorWOf
import Derived.Test.YtolnnldmnljkbaaDoorKit2
import Derived.Test.YtolnnldmnljkbaaDoorRows
import Derived.Test.YtolnnldmnljkbaaDoorTie
import Derived.Test.YtolnnldmnljkbaaDoorCards
import Derived.Lay
import Derived.SevenTiedAt
namespace Go.Proofs.YtolnnldmnljkbaaDoor.xItemOf
open Go.ChangeShapes Go.WideShapes Go.ChangeAt Go.RowKit
set_option maxHeartbeats 400000
theorem walk (xs : List Int) (v : Value) (w : World) (hxs : Rd w 1 v xs.length (vInts xs)) :
    Calls Tryd.prog 4 #[v] w fun e w' => e = .returned (.bool true) ∧ Ext w w' := by
  obtain ⟨h1, p, cap, rfl, h4⟩ := hxs
  have hxs : Rd w 1 (.slice p xs.length cap) xs.length (vInts xs) := ⟨h1, p, cap, rfl, h4⟩
  have Hx := hid hxs; clear h1 h4 hxs
  by_cases kxs : xs.length ≤ 1048576
  · have cs := fun v w h => spec_ItemOf xs v w h kxs
    have ci := fun v w h => impl_ItemOf xs v w h kxs
    generalize ofT xs = D at cs ci
    generalize ofB xs = b at cs ci
    have t0 : decide ((1048576 : Int) < xs.length) = false := by simp; omega
    have hxs := Hx.out
    go_enter Tryd.func4, Tryd.ntmps4
    (go_wp2_with fail)
    go_at_call 18; refine (laws_toIntS xs _ _ (hxs.ext ((Ext.refl _))) kxs).mono ?_; rintro e w1 ⟨g1_0, rfl, ho1_0, hx1⟩
    (go_wp2_with fail)
    go_at_call 17; refine (cs _ _ (Rd.own ho1_0)).mono ?_; rintro e w2 ⟨rfl, hx2⟩
    (go_wp2_with fail)
    have X0_2 := hx1.trans hx2
    go_at_call 18; refine (laws_toIntS xs _ _ (hxs.ext (X0_2)) kxs).mono ?_; rintro e w3 ⟨g3_0, rfl, ho3_0, hx3⟩
    (go_wp2_with fail)
    go_at_call 19; refine (ci _ _ (Rd.own ho3_0)).mono ?_; rintro e w4 ⟨rfl, hx4⟩
    (go_wp2_with fail)
    have X0_3 := X0_2.trans hx3
    have X0_4 := X0_3.trans hx4
    go_at_call 18; refine (laws_toIntS xs _ _ (hxs.ext (X0_4)) kxs).mono ?_; rintro e w5 ⟨g5_0, rfl, ho5_0, hx5⟩
    (go_wp2_with fail)
    have X3_5 := hx4.trans hx5
    have o1 := own_ext ho3_0 (X3_5)
    go_at_call 14; refine (laws_eqIntS xs _ _ _ (Rd.own o1) (Rd.own ho5_0) (Nat.le_trans kxs (by decide))).mono ?_; rintro e w6 ⟨rfl, hx6⟩
    go_wp2
    go_returns
    have X0_5 := X0_4.trans hx5
    have X0_6 := X0_5.trans hx6
    exact ⟨rfl, X0_6⟩
  · have t0 : decide ((1048576 : Int) < xs.length) = true := by simp; omega
    go_enter Tryd.func4, Tryd.ntmps4
    go_wp2
    go_returns
    exact ⟨rfl, Ext.refl _⟩
theorem own : ownKnob Tryd.prog.godebug = none := by kernel_rfl
theorem laidOut : laidOutB Tryd.prog = true := by kernel_rfl
set_option maxRecDepth 100000 in
theorem lifted (os : Os) (started : os.Started) (H : Type) (enc : TypeId × Value → H) :
    ReturnsInHanded {} Tryd.checked os 4 .any (fun w args => (Rows.fnExactItemOfSpec.pre enc Tryd.prog Tryd.f4 [] false w args ∧ laidMetH Tryd.prog Rows.fnExactItemOfRow.laid w) ∧ sizedMet enc Tryd.prog Tryd.f4 (OpenSpec.ofChange Rows.fnExactItemOfSpec) false w args)
      (Rows.fnExactItemOfSpec.post enc Tryd.prog Tryd.f4 false true false false) := by
  refine returnsInHanded_of_change_and (C := Tryd.checked) (X := fun w _ => laidMetH Tryd.prog Rows.fnExactItemOfRow.laid w) (fun _ _ _ hh h => h.of_heap hh) own started (by kernel_rfl) Tryd.func4
    (ChangeSpec.witness_shaped (enc := enc) (C := Tryd.checked) (os := os) (X := fun w _ => laidMetH Tryd.prog Rows.fnExactItemOfRow.laid w) false (World.laidAll Tryd.prog os Rows.fnExactItemOfRow.laid) #[.slice none 0 0] 8 (World.laidAll_os _ _ _)
      (World.shaped_of_ZipB (by kernel_rfl) (by kernel_rfl)) (by kernel_rfl) (by kernel_rfl) (by kernel_rfl)
      (by rw [MakeChecks.laidMetH_plain _ _ _ (by kernel_rfl)]; exact laidMet_laidAll _ (by kernel_rfl) (by kernel_rfl))) ?_
  intro W base args ds gs before hval0 hW _ _ hL _
  have hval : ∀ (j : Nat) t v, Tryd.f4.params[j]? = some t → args[j]? = some v → Value.okWide Tryd.prog W .any base t v := hval0
  have hW' := hW
  obtain ⟨p, q, hA0, hV, rfl, hfz, hnd⟩ := hW
  have hA : DataW.TrodAll enc Tryd.prog W 0 (fun _ => true) true Tryd.f4.params.toList args.toList ds p := hA0
  rw [Tryd.params4] at hA hval
  rw [MakeChecks.laidMetH_plain _ _ _ (by kernel_rfl)] at hL
  obtain ⟨v0, vs0, d0, ds0, p0, q0, hargs, rfl, rfl, h0, r0⟩ := trodAll_cons hA
  obtain ⟨rfl, rfl, rfl⟩ := trodAll_nil r0
  obtain rfl : args = #[v0] := by cases args; simp_all
  clear hA0 hval0 hfz hnd hV
  obtain ⟨xs, hr, -⟩ := opened_ints (hval 0 _ v0 rfl rfl) h0
  refine (walk xs _ W hr).mono fun e W' ⟨he, hx⟩ => ?_
  subst he
  exact ⟨_, rfl, law_post laidOut (by rw [Tryd.params4]; simp only [List.forall_mem_cons, List.not_mem_nil, false_implies, implies_true, and_true]; repeat' apply And.intro; all_goals first | kernel_rfl | exact of_decide_eq_true (by kernel_rfl)) rfl Tryd.underlying4 rfl ⟨rfl, rfl, rfl⟩ hW' hx.below⟩
theorem holdsRow : Rows.FnExactItemOfSaid :=
  OpenClaim.holds_of_wide 4 Tryd.f4 rfl rfl rfl rfl rfl rfl rfl ⟨rfl, rfl, rfl, rfl, rfl⟩ rfl rfl rfl rfl rfl (by kernel_rfl) Tryd.func4 (by kernel_rfl)
    (of_decide_eq_true (by kernel_rfl)) (by unfold Func.isWrapper; first | (rw [if_pos (by decide +kernel)]; kernel_rfl) | (rw [if_neg (by decide +kernel)]; exact ⟨rfl, rfl⟩))
    (fun os started H enc _ => lifted os started H enc)
theorem proved : Rows.FnExactItemOfCardSaid :=
  Claim7.holds_tied_plain_at .later [] [.data, .pinned] true (true, "a55b2c300434c8e0ed89be1332c2507c8d7a9386a0eda4f749a99302c0a16728") false holdsRow (fun _ h => by cases h) (by kernel_rfl) (fun _ h => by cases h) fnExactItemOf_row_tie rfl ⟨rfl, rfl⟩ (by kernel_rfl) rfl
    (fun f fn hf hfn => by
      obtain rfl : f = 4 := Option.some.inj ((show Tryd.prog.funcNamed "loop.example/g00840/laws.FnExactItemOf" = some 4 by kernel_rfl).symm.trans hf) |>.symm
      obtain rfl : fn = Tryd.f4 := (Option.some.inj (Tryd.func4.symm.trans hfn)).symm
      exact ⟨by kernel_rfl, fun j t ht => by
        rw [Tryd.params4] at ht
        have hm : t ∈ [22] := by simpa using Array.mem_of_getElem? ht
        have hall : ([22].all fun u => !Tryd.prog.wantsStandIn u) = true := by kernel_rfl
        exact (show Tryd.prog.wantsStandIn t = false by simpa using List.all_eq_true.1 hall t hm)⟩)
    (by kernel_rfl)
#print axioms proved
end Go.Proofs.YtolnnldmnljkbaaDoor.xItemOf
