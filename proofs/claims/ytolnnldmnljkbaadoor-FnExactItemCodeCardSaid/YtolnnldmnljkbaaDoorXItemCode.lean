/- The law FnExactItemCode. -/
import Derived.Test.YtolnnldmnljkbaaDoorWCode
import Derived.Test.YtolnnldmnljkbaaDoorKit2
import Derived.Test.YtolnnldmnljkbaaDoorRows
import Derived.Test.YtolnnldmnljkbaaDoorTie
import Derived.Test.YtolnnldmnljkbaaDoorCards
import Derived.Lay
import Derived.SevenTiedAt
namespace Go.Proofs.YtolnnldmnljkbaaDoor.xItemCode
open Go.ChangeShapes Go.WideShapes Go.ChangeAt Go.RowKit
set_option maxHeartbeats 400000
theorem walk (s : ByteArray) (w : World) :
    Calls Tryd.prog 3 #[.string s] w fun e w' => e = .returned (.bool true) ∧ Ext w w' := by
  by_cases h2 : s.size ≤ 1048576
  · have cs := fun w => spec_ItemCode s w h2
    have ci := fun w => impl_ItemCode s w h2
    have hD : (if itm 8 s then lc s else []).length ≤ 1048576 := by split <;> simp [lc_len]
    generalize (if itm 8 s then lc s else []) = D at cs ci hD
    generalize itm 8 s = b at cs ci
    have t0 : decide ((1048576 : Int) < s.size) = false := by simp; omega
    have t2 : decide ((1 : Int) + D.length < 0) = false := by simp; omega
    go_enter Tryd.func3, Tryd.ntmps3
    (go_wp2_with fail)
    go_at_call 12; refine (cs _).mono ?_; rintro e w1 ⟨r1_0_0, rfl, ho1_0_0, hx1⟩
    (go_wp2_with fail)
    go_at_call 13; refine (ci _).mono ?_; rintro e w2 ⟨r2_0_0, rfl, ho2_0_0, hx2⟩
    (go_wp2_with fail)
    have o1 := own_ext ho1_0_0 (hx2)
    go_at_call 14; refine (laws_eqIntS D _ _ _ (Rd.own ho2_0_0) (Rd.own o1) (Nat.le_trans hD (by decide))).mono ?_; rintro e w3 ⟨rfl, hx3⟩
    (go_wp2_with fail)
    have o2 := own_ext ho2_0_0 (hx3)
    have hl4 := own_row o2
    go_at_call 15; refine (laws_markIntS _ _ _ 1 _ _ o2 (Nat.le_trans hD (by decide)) (by omega) (by omega)).mono ?_; rintro e w4 ⟨rfl, hm4_0, hg4⟩
    (go_wp2_with fail)
    go_at_call 16; refine (laws_heldIntS _ _ 1 _ (Rd.own hm4_0) (Nat.le_trans hD (by decide)) (by decide) (by decide)).mono ?_; rintro e w5 ⟨rfl, hx5⟩
    (go_wp2_with fail)
    go_at_call 13; refine (ci _).mono ?_; rintro e w6 ⟨r6_0_0, rfl, ho6_0_0, hx6⟩
    (go_wp2_with fail)
    have o3 := own_ext o1 (hx3)
    have X1_3 := hx2.trans hx3
    have X1_4 := (X1_3).grown hg4 (fun j hj => Nat.le_trans ((Ext.refl _)).size (hl4 j hj).1)
    have o4 := own_ext ho1_0_0 (X1_4)
    have X4_6 := hx5.trans hx6
    have o5 := own_ext o4 (X4_6)
    go_at_call 14; refine (laws_eqIntS D _ _ _ (Rd.own ho6_0_0) (Rd.own o5) (Nat.le_trans hD (by decide))).mono ?_; rintro e w7 ⟨rfl, hx7⟩
    (go_wp2_with fail)
    have X4_7 := X4_6.trans hx7
    have o6 := own_ext hm4_0 (X4_7)
    go_at_call 16; refine (laws_heldIntS _ _ 1 _ (Rd.own o6) (Nat.le_trans hD (by decide)) (by decide) (by decide)).mono ?_; rintro e w8 ⟨rfl, hx8⟩
    go_wp2
    go_returns
    have X0_2 := hx1.trans hx2
    have X0_3 := X0_2.trans hx3
    have X0_4 := (X0_3).grown hg4 (fun j hj => Nat.le_trans (hx1).size (hl4 j hj).1)
    have X0_5 := X0_4.trans hx5
    have X0_6 := X0_5.trans hx6
    have X0_7 := X0_6.trans hx7
    have X0_8 := X0_7.trans hx8
    exact ⟨rfl, X0_8⟩
  · have t0 : decide ((1048576 : Int) < s.size) = true := by simp; omega
    go_enter Tryd.func3, Tryd.ntmps3
    go_wp2
    go_returns
    exact ⟨rfl, Ext.refl _⟩
theorem own : ownKnob Tryd.prog.godebug = none := by kernel_rfl
theorem laidOut : laidOutB Tryd.prog = true := by kernel_rfl
set_option maxRecDepth 100000 in
theorem lifted (os : Os) (started : os.Started) (H : Type) (enc : TypeId × Value → H) :
    ReturnsInHanded {} Tryd.checked os 3 .any (fun w args => (Rows.fnExactItemCodeSpec.pre enc Tryd.prog Tryd.f3 [] false w args ∧ laidMetH Tryd.prog Rows.fnExactItemCodeRow.laid w) ∧ sizedMet enc Tryd.prog Tryd.f3 (OpenSpec.ofChange Rows.fnExactItemCodeSpec) false w args)
      (Rows.fnExactItemCodeSpec.post enc Tryd.prog Tryd.f3 false true false false) := by
  refine returnsInHanded_of_change_and (C := Tryd.checked) (X := fun w _ => laidMetH Tryd.prog Rows.fnExactItemCodeRow.laid w) (fun _ _ _ hh h => h.of_heap hh) own started (by kernel_rfl) Tryd.func3
    (ChangeSpec.witness_shaped (enc := enc) (C := Tryd.checked) (os := os) (X := fun w _ => laidMetH Tryd.prog Rows.fnExactItemCodeRow.laid w) false (World.laidAll Tryd.prog os Rows.fnExactItemCodeRow.laid) #[.string ⟨#[]⟩] 8 (World.laidAll_os _ _ _)
      (World.shaped_of_ZipB (by kernel_rfl) (by kernel_rfl)) (by kernel_rfl) (by kernel_rfl) (by kernel_rfl)
      (by rw [MakeChecks.laidMetH_plain _ _ _ (by kernel_rfl)]; exact laidMet_laidAll _ (by kernel_rfl) (by kernel_rfl))) ?_
  intro W base args ds gs before hval0 hW _ _ hL _
  have hval : ∀ (j : Nat) t v, Tryd.f3.params[j]? = some t → args[j]? = some v → Value.okWide Tryd.prog W .any base t v := hval0
  have hW' := hW
  obtain ⟨p, q, hA0, hV, rfl, hfz, hnd⟩ := hW
  have hA : DataW.TrodAll enc Tryd.prog W 0 (fun _ => true) true Tryd.f3.params.toList args.toList ds p := hA0
  rw [Tryd.params3] at hA hval
  rw [MakeChecks.laidMetH_plain _ _ _ (by kernel_rfl)] at hL
  obtain ⟨v0, vs0, d0, ds0, p0, q0, hargs, rfl, rfl, h0, r0⟩ := trodAll_cons hA
  obtain ⟨rfl, rfl, rfl⟩ := trodAll_nil r0
  obtain rfl : args = #[v0] := by cases args; simp_all
  clear hA0 hval0 hfz hnd hV
  obtain ⟨s, rfl⟩ := okWide_string Tryd.underlying9 (hval 0 _ v0 rfl rfl)
  refine (walk s W).mono fun e W' ⟨he, hx⟩ => ?_
  subst he
  exact ⟨_, rfl, law_post laidOut (by rw [Tryd.params3]; simp only [List.forall_mem_cons, List.not_mem_nil, false_implies, implies_true, and_true]; repeat' apply And.intro; all_goals first | kernel_rfl | exact of_decide_eq_true (by kernel_rfl)) rfl Tryd.underlying4 rfl ⟨rfl, rfl, rfl⟩ hW' hx.below⟩
theorem holdsRow : Rows.FnExactItemCodeSaid :=
  OpenClaim.holds_of_wide 3 Tryd.f3 rfl rfl rfl rfl rfl rfl rfl ⟨rfl, rfl, rfl, rfl, rfl⟩ rfl rfl rfl rfl rfl (by kernel_rfl) Tryd.func3 (by kernel_rfl)
    (of_decide_eq_true (by kernel_rfl)) (by unfold Func.isWrapper; first | (rw [if_pos (by decide +kernel)]; kernel_rfl) | (rw [if_neg (by decide +kernel)]; exact ⟨rfl, rfl⟩))
    (fun os started H enc _ => lifted os started H enc)
theorem proved : Rows.FnExactItemCodeCardSaid :=
  Claim7.holds_tied_plain_at .later [] [.data, .pinned] true (true, "a55b2c300434c8e0ed89be1332c2507c8d7a9386a0eda4f749a99302c0a16728") false holdsRow (fun _ h => by cases h) (by kernel_rfl) (fun _ h => by cases h) fnExactItemCode_row_tie rfl ⟨rfl, rfl⟩ (by kernel_rfl) rfl
    (fun f fn hf hfn => by
      obtain rfl : f = 3 := Option.some.inj ((show Tryd.prog.funcNamed "loop.example/g00840/laws.FnExactItemCode" = some 3 by kernel_rfl).symm.trans hf) |>.symm
      obtain rfl : fn = Tryd.f3 := (Option.some.inj (Tryd.func3.symm.trans hfn)).symm
      exact ⟨by kernel_rfl, fun j t ht => by
        rw [Tryd.params3] at ht
        have hm : t ∈ [9] := by simpa using Array.mem_of_getElem? ht
        have hall : ([9].all fun u => !Tryd.prog.wantsStandIn u) = true := by kernel_rfl
        exact (show Tryd.prog.wantsStandIn t = false by simpa using List.all_eq_true.1 hall t hm)⟩)
    (by kernel_rfl)
#print axioms proved
end Go.Proofs.YtolnnldmnljkbaaDoor.xItemCode
