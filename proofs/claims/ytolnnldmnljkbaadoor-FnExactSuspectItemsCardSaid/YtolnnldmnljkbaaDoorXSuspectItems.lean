/- The law FnExactSuspectItems. -/
import Derived.Test.YtolnnldmnljkbaaDoorWSus
import Derived.Test.YtolnnldmnljkbaaDoorKit2
import Derived.Test.YtolnnldmnljkbaaDoorRows
import Derived.Test.YtolnnldmnljkbaaDoorTie
import Derived.Test.YtolnnldmnljkbaaDoorCards
import Derived.Lay
import Derived.SevenTiedAt
namespace Go.Proofs.YtolnnldmnljkbaaDoor.xSuspectItems
open Go.ChangeShapes Go.WideShapes Go.ChangeAt Go.RowKit
set_option maxHeartbeats 400000
theorem walk (ss : List ByteArray) (xs : List Int) (v v' : Value) (w : World) (hss : Rd w 1 v ss.length (vStrs ss)) (hxs : Rd w 1 v' xs.length (vInts xs)) (hm : ss.length ≤ maxLen) (hz : ∀ x ∈ ss, x.size ≤ maxLen) :
    Calls Tryd.prog 9 #[v, v'] w fun e w' => e = .returned (.bool true) ∧ Ext w w' := by
  have Hz := hid hz; clear hz
  obtain ⟨h1, p, cap, rfl, h4⟩ := hxs
  have hxs : Rd w 1 (.slice p xs.length cap) xs.length (vInts xs) := ⟨h1, p, cap, rfl, h4⟩
  have Hx := hid hxs; clear h1 h4 hxs
  have Hs := hid hss; clear hss
  by_cases kxs : xs.length ≤ 1048576
  · have t0 : decide ((1048576 : Int) < xs.length) = false := by simp; omega
    by_cases hs : (ss.length : Int) + chars ss ≤ 1048576
    · have kss : ss.length ≤ 1048576 := by omega
      have k3 : chars ss ≤ 1048576 := by omega
      have t1 : decide ((1048576 : Int) - ss.length - chars ss < 0) = false := by simp; omega
      have cs := fun v v' w h k => spec_SuspectItems ss xs v v' w h k kss k3 kxs
      have ci := fun v v' w h k => impl_SuspectItems ss xs v v' w h k kss k3 kxs
      have hD : (sus ss xs).length ≤ 1048576 := by have := sus_len ss xs; omega
      generalize sus ss xs = D at cs ci hD
      generalize fitB ss xs = b at cs ci
      have tk : decide ((1 : Int) + ss.length + xs.length < 0) = false := by simp; omega
      have tm : decide ((1 : Int) + D.length < 0) = false := by simp; omega
      have hss := Hs.out
      have hxs := Hx.out
      go_enter Tryd.func9, Tryd.ntmps9
      (go_wp2_with fail)
      go_at_call 22; refine (laws_szStringS _ _ 1048576 _ (hss.ext ((Ext.refl _))) (by omega) (by decide)).mono ?_; rintro e w1 ⟨rfl, hx1⟩
      (go_wp2_with fail)
      go_at_call 24; refine (laws_toStringS ss _ _ (hss.ext (hx1)) kss).mono ?_; rintro e w2 ⟨g2_0, rfl, ho2_0, hx2⟩
      have X0_2 := hx1.trans hx2
      (go_wp2_with fail)
      go_at_call 18; refine (laws_toIntS xs _ _ (hxs.ext (X0_2)) kxs).mono ?_; rintro e w3 ⟨g3_0, rfl, ho3_0, hx3⟩
      (go_wp2_with fail)
      have o1 := own_ext ho2_0 (hx3)
      go_at_call 32; refine (cs _ _ _ (Rd.own o1) (Rd.own ho3_0)).mono ?_; rintro e w4 ⟨r4_0_0, rfl, ho4_0_0, hx4⟩
      (go_wp2_with fail)
      have X0_3 := X0_2.trans hx3
      have X0_4 := X0_3.trans hx4
      go_at_call 24; refine (laws_toStringS ss _ _ (hss.ext (X0_4)) kss).mono ?_; rintro e w5 ⟨g5_0, rfl, ho5_0, hx5⟩
      (go_wp2_with fail)
      have X0_5 := X0_4.trans hx5
      go_at_call 18; refine (laws_toIntS xs _ _ (hxs.ext (X0_5)) kxs).mono ?_; rintro e w6 ⟨g6_0, rfl, ho6_0, hx6⟩
      (go_wp2_with fail)
      have o2 := own_ext ho5_0 (hx6)
      go_at_call 33; refine (ci _ _ _ (Rd.own o2) (Rd.own ho6_0)).mono ?_; rintro e w7 ⟨r7_0_0, rfl, ho7_0_0, hx7⟩
      (go_wp2_with fail)
      have X4_6 := hx5.trans hx6
      have X4_7 := X4_6.trans hx7
      have o3 := own_ext ho4_0_0 (X4_7)
      go_at_call 14; refine (laws_eqIntS D _ _ _ (Rd.own ho7_0_0) (Rd.own o3) (Nat.le_trans hD (by decide))).mono ?_; rintro e w8 ⟨rfl, hx8⟩
      (go_wp2_with fail)
      have X0_6 := X0_5.trans hx6
      have X0_7 := X0_6.trans hx7
      have X0_8 := X0_7.trans hx8
      go_at_call 24; refine (laws_toStringS ss _ _ (hss.ext (X0_8)) kss).mono ?_; rintro e w9 ⟨g9_0, rfl, ho9_0, hx9⟩
      (go_wp2_with fail)
      have X6_8 := hx7.trans hx8
      have X6_9 := X6_8.trans hx9
      have o4 := own_ext o2 (X6_9)
      go_at_call 26; refine (laws_eqStringS ss _ _ _ (Rd.own o4) (Rd.own ho9_0) kss).mono ?_; rintro e w10 ⟨rfl, hx10⟩
      (go_wp2_with fail)
      have X0_9 := X0_8.trans hx9
      have X0_10 := X0_9.trans hx10
      go_at_call 18; refine (laws_toIntS xs _ _ (hxs.ext (X0_10)) kxs).mono ?_; rintro e w11 ⟨g11_0, rfl, ho11_0, hx11⟩
      (go_wp2_with fail)
      have X6_10 := X6_9.trans hx10
      have X6_11 := X6_10.trans hx11
      have o5 := own_ext ho6_0 (X6_11)
      go_at_call 14; refine (laws_eqIntS xs _ _ _ (Rd.own o5) (Rd.own ho11_0) (Nat.le_trans kxs (by decide))).mono ?_; rintro e w12 ⟨rfl, hx12⟩
      (go_wp2_with fail)
      have X9_11 := hx10.trans hx11
      have X9_12 := X9_11.trans hx12
      have o6 := own_ext o4 (X9_12)
      have hl13 := own_row o6
      go_at_call 27; refine (laws_markStringS _ _ _ 1 _ _ o6 kss (by omega) (by omega)).mono ?_; rintro e w13 ⟨rfl, hg13⟩
      (go_wp2_with fail)
      have o7 := own_ext o5 (hx12)
      have o8 := own_behind o7 hg13 (fun j hj => Nat.lt_of_lt_of_le (own_row ho5_0 j hj).2 ((Ext.refl w5)).size)
      have hl14 := own_row o8
      go_at_call 15; refine (laws_markIntS _ _ _ (1 + (ss).length) _ _ o8 (Nat.le_trans kxs (by decide)) (by omega) (by omega)).mono ?_; rintro e w14 ⟨rfl, hm14_0, hg14⟩
      (go_wp2_with fail)
      have X7_9 := hx8.trans hx9
      have X7_10 := X7_9.trans hx10
      have X7_11 := X7_10.trans hx11
      have X7_12 := X7_11.trans hx12
      have o9 := own_ext ho7_0_0 (X7_12)
      have o10 := own_behind o9 hg13 (fun j hj => Nat.lt_of_lt_of_le (own_row ho5_0 j hj).2 (hx6).size)
      have o11 := own_behind o10 hg14 (fun j hj => Nat.lt_of_lt_of_le (own_row ho6_0 j hj).2 ((Ext.refl w6)).size)
      have o12 := own_ext o3 (X7_12)
      have X4_8 := X4_7.trans hx8
      have X4_9 := X4_8.trans hx9
      have X4_10 := X4_9.trans hx10
      have X4_11 := X4_10.trans hx11
      have X4_12 := X4_11.trans hx12
      have X4_13 := (X4_12).grown hg13 (fun j hj => Nat.le_trans ((Ext.refl w4)).size (hl13 j hj).1)
      have o13 := own_ext ho4_0_0 (X4_13)
      have X4_14 := (X4_13).grown hg14 (fun j hj => Nat.le_trans (hx5).size (hl14 j hj).1)
      have o14 := own_ext ho4_0_0 (X4_14)
      go_at_call 14; refine (laws_eqIntS D _ _ _ (Rd.own o11) (Rd.own o14) (Nat.le_trans hD (by decide))).mono ?_; rintro e w15 ⟨rfl, hx15⟩
      (go_wp2_with fail)
      have o15 := own_ext o11 (hx15)
      have hl16 := own_row o15
      go_at_call 15; refine (laws_markIntS _ _ _ 1 _ _ o15 (Nat.le_trans hD (by decide)) (by omega) (by omega)).mono ?_; rintro e w16 ⟨rfl, hm16_0, hg16⟩
      (go_wp2_with fail)
      go_at_call 16; refine (laws_heldIntS _ _ 1 _ (Rd.own hm16_0) (Nat.le_trans hD (by decide)) (by decide) (by decide)).mono ?_; rintro e w17 ⟨rfl, hx17⟩
      (go_wp2_with fail)
      have X0_11 := X0_10.trans hx11
      have X0_12 := X0_11.trans hx12
      have X0_13 := (X0_12).grown hg13 (fun j hj => Nat.le_trans (X0_4).size (hl13 j hj).1)
      have X0_14 := (X0_13).grown hg14 (fun j hj => Nat.le_trans (X0_5).size (hl14 j hj).1)
      have X0_15 := X0_14.trans hx15
      have X0_16 := (X0_15).grown hg16 (fun j hj => Nat.le_trans (X0_6).size (hl16 j hj).1)
      have X0_17 := X0_16.trans hx17
      go_at_call 24; refine (laws_toStringS ss _ _ (hss.ext (X0_17)) kss).mono ?_; rintro e w18 ⟨g18_0, rfl, ho18_0, hx18⟩
      have X0_18 := X0_17.trans hx18
      (go_wp2_with fail)
      go_at_call 18; refine (laws_toIntS xs _ _ (hxs.ext (X0_18)) kxs).mono ?_; rintro e w19 ⟨g19_0, rfl, ho19_0, hx19⟩
      (go_wp2_with fail)
      have o16 := own_ext ho18_0 (hx19)
      go_at_call 33; refine (ci _ _ _ (Rd.own o16) (Rd.own ho19_0)).mono ?_; rintro e w20 ⟨r20_0_0, rfl, ho20_0_0, hx20⟩
      (go_wp2_with fail)
      have o17 := own_ext o14 (hx15)
      have X4_15 := X4_14.trans hx15
      have X4_16 := (X4_15).grown hg16 (fun j hj => Nat.le_trans (X4_6).size (hl16 j hj).1)
      have o18 := own_ext ho4_0_0 (X4_16)
      have X16_18 := hx17.trans hx18
      have X16_19 := X16_18.trans hx19
      have X16_20 := X16_19.trans hx20
      have o19 := own_ext o18 (X16_20)
      go_at_call 14; refine (laws_eqIntS D _ _ _ (Rd.own ho20_0_0) (Rd.own o19) (Nat.le_trans hD (by decide))).mono ?_; rintro e w21 ⟨rfl, hx21⟩
      (go_wp2_with fail)
      have X16_21 := X16_20.trans hx21
      have o20 := own_ext hm16_0 (X16_21)
      go_at_call 16; refine (laws_heldIntS _ _ 1 _ (Rd.own o20) (Nat.le_trans hD (by decide)) (by decide) (by decide)).mono ?_; rintro e w22 ⟨rfl, hx22⟩
      go_wp2
      go_returns
      have X0_19 := X0_18.trans hx19
      have X0_20 := X0_19.trans hx20
      have X0_21 := X0_20.trans hx21
      have X0_22 := X0_21.trans hx22
      exact ⟨rfl, X0_22⟩
    · go_enter Tryd.func9, Tryd.ntmps9
      (go_wp2_with fail); go_at_call 22; refine (laws_szStringS_big ss _ 1048576 _ Hs.out (by omega) (by decide) (by decide) hm Hz.out).mono ?_; rintro e w' ⟨rfl, hx1⟩
      go_wp2
      go_returns
      exact ⟨rfl, hx1⟩
  · have t0 : decide ((1048576 : Int) < xs.length) = true := by simp; omega
    go_enter Tryd.func9, Tryd.ntmps9
    go_wp2
    go_returns
    exact ⟨rfl, Ext.refl _⟩
theorem own : ownKnob Tryd.prog.godebug = none := by kernel_rfl
theorem laidOut : laidOutB Tryd.prog = true := by kernel_rfl
set_option maxRecDepth 100000 in
theorem lifted (os : Os) (started : os.Started) (H : Type) (enc : TypeId × Value → H) :
    ReturnsInHanded {} Tryd.checked os 9 .any (fun w args => (Rows.fnExactSuspectItemsSpec.pre enc Tryd.prog Tryd.f9 [] false w args ∧ laidMetH Tryd.prog Rows.fnExactSuspectItemsRow.laid w) ∧ sizedMet enc Tryd.prog Tryd.f9 (OpenSpec.ofChange Rows.fnExactSuspectItemsSpec) false w args)
      (Rows.fnExactSuspectItemsSpec.post enc Tryd.prog Tryd.f9 false true false false) := by
  refine returnsInHanded_of_change_and (C := Tryd.checked) (X := fun w _ => laidMetH Tryd.prog Rows.fnExactSuspectItemsRow.laid w) (fun _ _ _ hh h => h.of_heap hh) own started (by kernel_rfl) Tryd.func9
    (ChangeSpec.witness_shaped (enc := enc) (C := Tryd.checked) (os := os) (X := fun w _ => laidMetH Tryd.prog Rows.fnExactSuspectItemsRow.laid w) false (World.laidAll Tryd.prog os Rows.fnExactSuspectItemsRow.laid) #[.slice none 0 0, .slice none 0 0] 8 (World.laidAll_os _ _ _)
      (World.shaped_of_ZipB (by kernel_rfl) (by kernel_rfl)) (by kernel_rfl) (by kernel_rfl) (by kernel_rfl)
      (by rw [MakeChecks.laidMetH_plain _ _ _ (by kernel_rfl)]; exact laidMet_laidAll _ (by kernel_rfl) (by kernel_rfl))) ?_
  intro W base args ds gs before hval0 hW _ _ hL _
  have hval : ∀ (j : Nat) t v, Tryd.f9.params[j]? = some t → args[j]? = some v → Value.okWide Tryd.prog W .any base t v := hval0
  have hW' := hW
  obtain ⟨p, q, hA0, hV, rfl, hfz, hnd⟩ := hW
  have hA : DataW.TrodAll enc Tryd.prog W 0 (fun _ => true) true Tryd.f9.params.toList args.toList ds p := hA0
  rw [Tryd.params9] at hA hval
  rw [MakeChecks.laidMetH_plain _ _ _ (by kernel_rfl)] at hL
  obtain ⟨v0, vs0, d0, ds0, p0, q0, hargs, rfl, rfl, h0, r0⟩ := trodAll_cons hA
  obtain ⟨v1, vs1, d1, ds1, p1, q1, rfl, rfl, rfl, h1, r1⟩ := trodAll_cons r0
  obtain ⟨rfl, rfl, rfl⟩ := trodAll_nil r1
  obtain rfl : args = #[v0, v1] := by cases args; simp_all
  clear hA0 hval0 hfz hnd hV
  obtain ⟨ss, hs, hsl, hsz⟩ := opened_strs (hval 0 _ v0 rfl rfl) h0
  obtain ⟨xs, hr, -⟩ := opened_ints (hval 1 _ v1 rfl rfl) h1
  refine (walk ss xs _ _ W hs hr hsl hsz).mono fun e W' ⟨he, hx⟩ => ?_
  subst he
  exact ⟨_, rfl, law_post laidOut (by rw [Tryd.params9]; simp only [List.forall_mem_cons, List.not_mem_nil, false_implies, implies_true, and_true]; repeat' apply And.intro; all_goals first | kernel_rfl | exact of_decide_eq_true (by kernel_rfl)) rfl Tryd.underlying4 rfl ⟨rfl, rfl, rfl⟩ hW' hx.below⟩
theorem holdsRow : Rows.FnExactSuspectItemsSaid :=
  OpenClaim.holds_of_wide 9 Tryd.f9 rfl rfl rfl rfl rfl rfl rfl ⟨rfl, rfl, rfl, rfl, rfl⟩ rfl rfl rfl rfl rfl (by kernel_rfl) Tryd.func9 (by kernel_rfl)
    (of_decide_eq_true (by kernel_rfl)) (by unfold Func.isWrapper; first | (rw [if_pos (by decide +kernel)]; kernel_rfl) | (rw [if_neg (by decide +kernel)]; exact ⟨rfl, rfl⟩))
    (fun os started H enc _ => lifted os started H enc)
theorem proved : Rows.FnExactSuspectItemsCardSaid :=
  Claim7.holds_tied_plain_at .later [] [.data, .pinned] true (true, "a55b2c300434c8e0ed89be1332c2507c8d7a9386a0eda4f749a99302c0a16728") false holdsRow (fun _ h => by cases h) (by kernel_rfl) (fun _ h => by cases h) fnExactSuspectItems_row_tie rfl ⟨rfl, rfl⟩ (by kernel_rfl) rfl
    (fun f fn hf hfn => by
      obtain rfl : f = 9 := Option.some.inj ((show Tryd.prog.funcNamed "loop.example/g00840/laws.FnExactSuspectItems" = some 9 by kernel_rfl).symm.trans hf) |>.symm
      obtain rfl : fn = Tryd.f9 := (Option.some.inj (Tryd.func9.symm.trans hfn)).symm
      exact ⟨by kernel_rfl, fun j t ht => by
        rw [Tryd.params9] at ht
        have hm : t ∈ [34, 22] := by simpa using Array.mem_of_getElem? ht
        have hall : ([34, 22].all fun u => !Tryd.prog.wantsStandIn u) = true := by kernel_rfl
        exact (show Tryd.prog.wantsStandIn t = false by simpa using List.all_eq_true.1 hall t hm)⟩)
    (by kernel_rfl)
#print axioms proved
end Go.Proofs.YtolnnldmnljkbaaDoor.xSuspectItems
