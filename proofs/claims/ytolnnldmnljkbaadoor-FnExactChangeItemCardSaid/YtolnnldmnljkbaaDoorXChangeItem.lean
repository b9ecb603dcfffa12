/- The law FnExactChangeItem. -/
import Derived.Test.YtolnnldmnljkbaaDoorWChange
import Derived.Test.YtolnnldmnljkbaaDoorKit2
import Derived.Test.YtolnnldmnljkbaaDoorRows
import Derived.Test.YtolnnldmnljkbaaDoorTie
import Derived.Test.YtolnnldmnljkbaaDoorCards
import Derived.Lay
import Derived.SevenTiedAt
namespace Go.Proofs.YtolnnldmnljkbaaDoor.xChangeItem
open Go.ChangeShapes Go.WideShapes Go.ChangeAt Go.RowKit
set_option maxHeartbeats 400000
theorem walk (xs : List Int) (v : Value) (sb sa : ByteArray) (w : World) (hxs : Rd w 1 v xs.length (vInts xs)) :
    Calls Tryd.prog 5 #[v, .string sb, .string sa] w fun e w' => e = .returned (.bool true) ∧ Ext w w' := by
  obtain ⟨h1, p, cap, rfl, h4⟩ := hxs
  have hxs : Rd w 1 (.slice p xs.length cap) xs.length (vInts xs) := ⟨h1, p, cap, rfl, h4⟩
  have Hx := hid hxs; clear h1 h4 hxs
  by_cases kxs : xs.length ≤ 1048576
  · have t0 : decide ((1048576 : Int) < xs.length) = false := by simp; omega
    by_cases kb : sb.size ≤ 1048576
    · have t1 : decide ((1048576 : Int) < sb.size) = false := by simp; omega
      by_cases ka : sa.size ≤ 1048576
      · have t2 : decide ((1048576 : Int) < sa.size) = false := by simp; omega
        have cs := fun v w h => spec_ChangeItem xs v sb sa w h kxs kb ka
        have ci := fun v w h => impl_ChangeItem xs v sb sa w h kxs kb ka
        have hD : (changeL xs sb sa).length ≤ 1048576 := by have := changeL_len xs sb sa; omega
        generalize changeL xs sb sa = D at cs ci hD
        generalize changeB xs sb sa = b at cs ci
        have tk : decide ((1 : Int) + xs.length < 0) = false := by simp; omega
        have tm : decide ((1 : Int) + D.length < 0) = false := by simp; omega
        have hxs := Hx.out
        go_enter Tryd.func5, Tryd.ntmps5
        (go_wp2_with fail)
        go_at_call 18; refine (laws_toIntS xs _ _ (hxs.ext ((Ext.refl _))) kxs).mono ?_; rintro e w1 ⟨g1_0, rfl, ho1_0, hx1⟩
        (go_wp2_with fail)
        go_at_call 20; refine (cs _ _ (Rd.own ho1_0)).mono ?_; rintro e w2 ⟨r2_0_0, rfl, ho2_0_0, hx2⟩
        (go_wp2_with fail)
        have X0_2 := hx1.trans hx2
        go_at_call 18; refine (laws_toIntS xs _ _ (hxs.ext (X0_2)) kxs).mono ?_; rintro e w3 ⟨g3_0, rfl, ho3_0, hx3⟩
        (go_wp2_with fail)
        go_at_call 21; refine (ci _ _ (Rd.own ho3_0)).mono ?_; rintro e w4 ⟨r4_0_0, rfl, ho4_0_0, hx4⟩
        (go_wp2_with fail)
        have X2_4 := hx3.trans hx4
        have o1 := own_ext ho2_0_0 (X2_4)
        go_at_call 14; refine (laws_eqIntS D _ _ _ (Rd.own ho4_0_0) (Rd.own o1) (Nat.le_trans hD (by decide))).mono ?_; rintro e w5 ⟨rfl, hx5⟩
        (go_wp2_with fail)
        have X0_3 := X0_2.trans hx3
        have X0_4 := X0_3.trans hx4
        have X0_5 := X0_4.trans hx5
        go_at_call 18; refine (laws_toIntS xs _ _ (hxs.ext (X0_5)) kxs).mono ?_; rintro e w6 ⟨g6_0, rfl, ho6_0, hx6⟩
        (go_wp2_with fail)
        have X3_5 := hx4.trans hx5
        have X3_6 := X3_5.trans hx6
        have o2 := own_ext ho3_0 (X3_6)
        go_at_call 14; refine (laws_eqIntS xs _ _ _ (Rd.own o2) (Rd.own ho6_0) (Nat.le_trans kxs (by decide))).mono ?_; rintro e w7 ⟨rfl, hx7⟩
        (go_wp2_with fail)
        have o3 := own_ext o2 (hx7)
        have hl8 := own_row o3
        go_at_call 15; refine (laws_markIntS _ _ _ 1 _ _ o3 (Nat.le_trans kxs (by decide)) (by omega) (by omega)).mono ?_; rintro e w8 ⟨rfl, hm8_0, hg8⟩
        (go_wp2_with fail)
        have X4_6 := hx5.trans hx6
        have X4_7 := X4_6.trans hx7
        have o4 := own_ext ho4_0_0 (X4_7)
        have o5 := own_behind o4 hg8 (fun j hj => Nat.lt_of_lt_of_le (own_row ho3_0 j hj).2 ((Ext.refl w3)).size)
        have o6 := own_ext o1 (X4_7)
        have X2_5 := X2_4.trans hx5
        have X2_6 := X2_5.trans hx6
        have X2_7 := X2_6.trans hx7
        have X2_8 := (X2_7).grown hg8 (fun j hj => Nat.le_trans ((Ext.refl w2)).size (hl8 j hj).1)
        have o7 := own_ext ho2_0_0 (X2_8)
        go_at_call 14; refine (laws_eqIntS D _ _ _ (Rd.own o5) (Rd.own o7) (Nat.le_trans hD (by decide))).mono ?_; rintro e w9 ⟨rfl, hx9⟩
        (go_wp2_with fail)
        have o8 := own_ext o5 (hx9)
        have hl10 := own_row o8
        go_at_call 15; refine (laws_markIntS _ _ _ 1 _ _ o8 (Nat.le_trans hD (by decide)) (by omega) (by omega)).mono ?_; rintro e w10 ⟨rfl, hm10_0, hg10⟩
        (go_wp2_with fail)
        go_at_call 16; refine (laws_heldIntS _ _ 1 _ (Rd.own hm10_0) (Nat.le_trans hD (by decide)) (by decide) (by decide)).mono ?_; rintro e w11 ⟨rfl, hx11⟩
        (go_wp2_with fail)
        have X0_6 := X0_5.trans hx6
        have X0_7 := X0_6.trans hx7
        have X0_8 := (X0_7).grown hg8 (fun j hj => Nat.le_trans (X0_2).size (hl8 j hj).1)
        have X0_9 := X0_8.trans hx9
        have X0_10 := (X0_9).grown hg10 (fun j hj => Nat.le_trans (X0_3).size (hl10 j hj).1)
        have X0_11 := X0_10.trans hx11
        go_at_call 18; refine (laws_toIntS xs _ _ (hxs.ext (X0_11)) kxs).mono ?_; rintro e w12 ⟨g12_0, rfl, ho12_0, hx12⟩
        (go_wp2_with fail)
        go_at_call 21; refine (ci _ _ (Rd.own ho12_0)).mono ?_; rintro e w13 ⟨r13_0_0, rfl, ho13_0_0, hx13⟩
        (go_wp2_with fail)
        have o9 := own_ext o7 (hx9)
        have X2_9 := X2_8.trans hx9
        have X2_10 := (X2_9).grown hg10 (fun j hj => Nat.le_trans (hx3).size (hl10 j hj).1)
        have o10 := own_ext ho2_0_0 (X2_10)
        have X10_12 := hx11.trans hx12
        have X10_13 := X10_12.trans hx13
        have o11 := own_ext o10 (X10_13)
        go_at_call 14; refine (laws_eqIntS D _ _ _ (Rd.own ho13_0_0) (Rd.own o11) (Nat.le_trans hD (by decide))).mono ?_; rintro e w14 ⟨rfl, hx14⟩
        (go_wp2_with fail)
        have X10_14 := X10_13.trans hx14
        have o12 := own_ext hm10_0 (X10_14)
        go_at_call 16; refine (laws_heldIntS _ _ 1 _ (Rd.own o12) (Nat.le_trans hD (by decide)) (by decide) (by decide)).mono ?_; rintro e w15 ⟨rfl, hx15⟩
        go_wp2
        go_returns
        have X0_12 := X0_11.trans hx12
        have X0_13 := X0_12.trans hx13
        have X0_14 := X0_13.trans hx14
        have X0_15 := X0_14.trans hx15
        exact ⟨rfl, X0_15⟩
      · have t2 : decide ((1048576 : Int) < sa.size) = true := by simp; omega
        go_enter Tryd.func5, Tryd.ntmps5
        go_wp2
        go_returns
        exact ⟨rfl, Ext.refl _⟩
    · have t1 : decide ((1048576 : Int) < sb.size) = true := by simp; omega
      go_enter Tryd.func5, Tryd.ntmps5
      go_wp2
      go_returns
      exact ⟨rfl, Ext.refl _⟩
  · have t0 : decide ((1048576 : Int) < xs.length) = true := by simp; omega
    go_enter Tryd.func5, Tryd.ntmps5
    go_wp2
    go_returns
    exact ⟨rfl, Ext.refl _⟩
theorem own : ownKnob Tryd.prog.godebug = none := by kernel_rfl
theorem laidOut : laidOutB Tryd.prog = true := by kernel_rfl
set_option maxRecDepth 100000 in
theorem lifted (os : Os) (started : os.Started) (H : Type) (enc : TypeId × Value → H) :
    ReturnsInHanded {} Tryd.checked os 5 .any (fun w args => (Rows.fnExactChangeItemSpec.pre enc Tryd.prog Tryd.f5 [] false w args ∧ laidMetH Tryd.prog Rows.fnExactChangeItemRow.laid w) ∧ sizedMet enc Tryd.prog Tryd.f5 (OpenSpec.ofChange Rows.fnExactChangeItemSpec) false w args)
      (Rows.fnExactChangeItemSpec.post enc Tryd.prog Tryd.f5 false true false false) := by
  refine returnsInHanded_of_change_and (C := Tryd.checked) (X := fun w _ => laidMetH Tryd.prog Rows.fnExactChangeItemRow.laid w) (fun _ _ _ hh h => h.of_heap hh) own started (by kernel_rfl) Tryd.func5
    (ChangeSpec.witness_shaped (enc := enc) (C := Tryd.checked) (os := os) (X := fun w _ => laidMetH Tryd.prog Rows.fnExactChangeItemRow.laid w) false (World.laidAll Tryd.prog os Rows.fnExactChangeItemRow.laid) #[.slice none 0 0, .string ⟨#[]⟩, .string ⟨#[]⟩] 8 (World.laidAll_os _ _ _)
      (World.shaped_of_ZipB (by kernel_rfl) (by kernel_rfl)) (by kernel_rfl) (by kernel_rfl) (by kernel_rfl)
      (by rw [MakeChecks.laidMetH_plain _ _ _ (by kernel_rfl)]; exact laidMet_laidAll _ (by kernel_rfl) (by kernel_rfl))) ?_
  intro W base args ds gs before hval0 hW _ _ hL _
  have hval : ∀ (j : Nat) t v, Tryd.f5.params[j]? = some t → args[j]? = some v → Value.okWide Tryd.prog W .any base t v := hval0
  have hW' := hW
  obtain ⟨p, q, hA0, hV, rfl, hfz, hnd⟩ := hW
  have hA : DataW.TrodAll enc Tryd.prog W 0 (fun _ => true) true Tryd.f5.params.toList args.toList ds p := hA0
  rw [Tryd.params5] at hA hval
  rw [MakeChecks.laidMetH_plain _ _ _ (by kernel_rfl)] at hL
  obtain ⟨v0, vs0, d0, ds0, p0, q0, hargs, rfl, rfl, h0, r0⟩ := trodAll_cons hA
  obtain ⟨v1, vs1, d1, ds1, p1, q1, rfl, rfl, rfl, h1, r1⟩ := trodAll_cons r0
  obtain ⟨v2, vs2, d2, ds2, p2, q2, rfl, rfl, rfl, h2, r2⟩ := trodAll_cons r1
  obtain ⟨rfl, rfl, rfl⟩ := trodAll_nil r2
  obtain rfl : args = #[v0, v1, v2] := by cases args; simp_all
  clear hA0 hval0 hfz hnd hV
  obtain ⟨xs, hr, -⟩ := opened_ints (hval 0 _ v0 rfl rfl) h0
  obtain ⟨sb, rfl⟩ := okWide_string Tryd.underlying9 (hval 1 _ v1 rfl rfl)
  obtain ⟨sa, rfl⟩ := okWide_string Tryd.underlying9 (hval 2 _ v2 rfl rfl)
  refine (walk xs _ sb sa W hr).mono fun e W' ⟨he, hx⟩ => ?_
  subst he
  exact ⟨_, rfl, law_post laidOut (by rw [Tryd.params5]; simp only [List.forall_mem_cons, List.not_mem_nil, false_implies, implies_true, and_true]; repeat' apply And.intro; all_goals first | kernel_rfl | exact of_decide_eq_true (by kernel_rfl)) rfl Tryd.underlying4 rfl ⟨rfl, rfl, rfl⟩ hW' hx.below⟩
theorem holdsRow : Rows.FnExactChangeItemSaid :=
  OpenClaim.holds_of_wide 5 Tryd.f5 rfl rfl rfl rfl rfl rfl rfl ⟨rfl, rfl, rfl, rfl, rfl⟩ rfl rfl rfl rfl rfl (by kernel_rfl) Tryd.func5 (by kernel_rfl)
    (of_decide_eq_true (by kernel_rfl)) (by unfold Func.isWrapper; first | (rw [if_pos (by decide +kernel)]; kernel_rfl) | (rw [if_neg (by decide +kernel)]; exact ⟨rfl, rfl⟩))
    (fun os started H enc _ => lifted os started H enc)
theorem proved : Rows.FnExactChangeItemCardSaid :=
  Claim7.holds_tied_plain_at .later [] [.data, .pinned] true (true, "a55b2c300434c8e0ed89be1332c2507c8d7a9386a0eda4f749a99302c0a16728") false holdsRow (fun _ h => by cases h) (by kernel_rfl) (fun _ h => by cases h) fnExactChangeItem_row_tie rfl ⟨rfl, rfl⟩ (by kernel_rfl) rfl
    (fun f fn hf hfn => by
      obtain rfl : f = 5 := Option.some.inj ((show Tryd.prog.funcNamed "loop.example/g00840/laws.FnExactChangeItem" = some 5 by kernel_rfl).symm.trans hf) |>.symm
      obtain rfl : fn = Tryd.f5 := (Option.some.inj (Tryd.func5.symm.trans hfn)).symm
      exact ⟨by kernel_rfl, fun j t ht => by
        rw [Tryd.params5] at ht
        have hm : t ∈ [22, 9, 9] := by simpa using Array.mem_of_getElem? ht
        have hall : ([22, 9, 9].all fun u => !Tryd.prog.wantsStandIn u) = true := by kernel_rfl
        exact (show Tryd.prog.wantsStandIn t = false by simpa using List.all_eq_true.1 hall t hm)⟩)
    (by kernel_rfl)
#print axioms proved
end Go.Proofs.YtolnnldmnljkbaaDoor.xChangeItem
