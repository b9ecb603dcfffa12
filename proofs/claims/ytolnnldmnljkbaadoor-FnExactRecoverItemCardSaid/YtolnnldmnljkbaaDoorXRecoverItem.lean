/- The law FnExactRecoverItem. -/
import Derived.Test.YtolnnldmnljkbaaDoorWRec4
import Derived.Test.YtolnnldmnljkbaaDoorKit2
import Derived.Test.YtolnnldmnljkbaaDoorRows
import Derived.Test.YtolnnldmnljkbaaDoorTie
import Derived.Test.YtolnnldmnljkbaaDoorCards
import Derived.Lay
import Derived.SevenTiedAt
namespace Go.Proofs.YtolnnldmnljkbaaDoor.xRecoverItem
open Go.ChangeShapes Go.WideShapes Go.ChangeAt Go.RowKit
set_option maxHeartbeats 400000
theorem walk (ss : List ByteArray) (xs : List Int) (v v' : Value) (m : Int) (w : World) (hss : Rd w 1 v ss.length (vStrs ss)) (hxs : Rd w 1 v' xs.length (vInts xs)) (hm : ss.length ≤ maxLen) (hz : ∀ x ∈ ss, x.size ≤ maxLen) :
    Calls Tryd.prog 8 #[v, .int .i64 m, v'] w fun e w' => e = .returned (.bool true) ∧ Ext w w' := by
  have Hz := hid hz; clear hz
  obtain ⟨h1, p, cap, rfl, h4⟩ := hxs
  have hxs : Rd w 1 (.slice p xs.length cap) xs.length (vInts xs) := ⟨h1, p, cap, rfl, h4⟩
  have Hx := hid hxs; clear h1 h4 hxs
  have Hs := hid hss; clear hss
  by_cases kxs : xs.length ≤ 1048576
  · have t0 : decide ((1048576 : Int) < xs.length) = false := by simp; omega
    by_cases hs : (ss.length : Int) + chars ss ≤ 1048576
    · have kss : ss.length ≤ 1048576 := by omega
      have k3 : chars ss ≤ 1048576 := by omega
      have t1 : decide ((1048576 : Int) - ss.length - chars ss < 0) = false := by simp; omega
      have cs := fun v v' w h k => spec_RecoverItem ss xs m v v' w h k kss k3 kxs
      have ci := fun v v' w h k => impl_RecoverItem ss xs m v v' w h k kss k3 kxs
      generalize recR ss m xs = b at cs ci
      generalize recT ss m xs = T at cs ci
      have hss := Hs.out
      have hxs := Hx.out
      go_enter Tryd.func8, Tryd.ntmps8
      (go_wp2_with fail)
      go_at_call 22; refine (laws_szStringS _ _ 1048576 _ (hss.ext ((Ext.refl _))) (by omega) (by decide)).mono ?_; rintro e w1 ⟨rfl, hx1⟩
      (go_wp2_with fail)
      go_at_call 24; refine (laws_toStringS ss _ _ (hss.ext (hx1)) kss).mono ?_; rintro e w2 ⟨g2_0, rfl, ho2_0, hx2⟩
      have X0_2 := hx1.trans hx2
      (go_wp2_with fail)
      go_at_call 18; refine (laws_toIntS xs _ _ (hxs.ext (X0_2)) kxs).mono ?_; rintro e w3 ⟨g3_0, rfl, ho3_0, hx3⟩
      (go_wp2_with fail)
      have o1 := own_ext ho2_0 (hx3)
      go_at_call 30; refine (cs _ _ _ (Rd.own o1) (Rd.own ho3_0)).mono ?_; rintro e w4 ⟨rfl, hx4⟩
      (go_wp2_with fail)
      have X0_3 := X0_2.trans hx3
      have X0_4 := X0_3.trans hx4
      go_at_call 24; refine (laws_toStringS ss _ _ (hss.ext (X0_4)) kss).mono ?_; rintro e w5 ⟨g5_0, rfl, ho5_0, hx5⟩
      (go_wp2_with fail)
      have X0_5 := X0_4.trans hx5
      go_at_call 18; refine (laws_toIntS xs _ _ (hxs.ext (X0_5)) kxs).mono ?_; rintro e w6 ⟨g6_0, rfl, ho6_0, hx6⟩
      (go_wp2_with fail)
      have o2 := own_ext ho5_0 (hx6)
      go_at_call 31; refine (ci _ _ _ (Rd.own o2) (Rd.own ho6_0)).mono ?_; rintro e w7 ⟨rfl, hx7⟩
      (go_wp2_with fail)
      have X0_6 := X0_5.trans hx6
      have X0_7 := X0_6.trans hx7
      go_at_call 24; refine (laws_toStringS ss _ _ (hss.ext (X0_7)) kss).mono ?_; rintro e w8 ⟨g8_0, rfl, ho8_0, hx8⟩
      (go_wp2_with fail)
      have X6_8 := hx7.trans hx8
      have o3 := own_ext o2 (X6_8)
      go_at_call 26; refine (laws_eqStringS ss _ _ _ (Rd.own o3) (Rd.own ho8_0) kss).mono ?_; rintro e w9 ⟨rfl, hx9⟩
      (go_wp2_with fail)
      have X0_8 := X0_7.trans hx8
      have X0_9 := X0_8.trans hx9
      go_at_call 18; refine (laws_toIntS xs _ _ (hxs.ext (X0_9)) kxs).mono ?_; rintro e w10 ⟨g10_0, rfl, ho10_0, hx10⟩
      (go_wp2_with fail)
      have X6_9 := X6_8.trans hx9
      have X6_10 := X6_9.trans hx10
      have o4 := own_ext ho6_0 (X6_10)
      go_at_call 14; refine (laws_eqIntS xs _ _ _ (Rd.own o4) (Rd.own ho10_0) (Nat.le_trans kxs (by decide))).mono ?_; rintro e w11 ⟨rfl, hx11⟩
      go_wp2
      go_returns
      have X0_10 := X0_9.trans hx10
      have X0_11 := X0_10.trans hx11
      exact ⟨rfl, X0_11⟩
    · go_enter Tryd.func8, Tryd.ntmps8
      (go_wp2_with fail); go_at_call 22; refine (laws_szStringS_big ss _ 1048576 _ Hs.out (by omega) (by decide) (by decide) hm Hz.out).mono ?_; rintro e w' ⟨rfl, hx1⟩
      go_wp2
      go_returns
      exact ⟨rfl, hx1⟩
  · have t0 : decide ((1048576 : Int) < xs.length) = true := by simp; omega
    go_enter Tryd.func8, Tryd.ntmps8
    go_wp2
    go_returns
    exact ⟨rfl, Ext.refl _⟩
theorem own : ownKnob Tryd.prog.godebug = none := by kernel_rfl
theorem laidOut : laidOutB Tryd.prog = true := by kernel_rfl
set_option maxRecDepth 100000 in
theorem lifted (os : Os) (started : os.Started) (H : Type) (enc : TypeId × Value → H) :
    ReturnsInHanded {} Tryd.checked os 8 .any (fun w args => (Rows.fnExactRecoverItemSpec.pre enc Tryd.prog Tryd.f8 [] false w args ∧ laidMetH Tryd.prog Rows.fnExactRecoverItemRow.laid w) ∧ sizedMet enc Tryd.prog Tryd.f8 (OpenSpec.ofChange Rows.fnExactRecoverItemSpec) false w args)
      (Rows.fnExactRecoverItemSpec.post enc Tryd.prog Tryd.f8 false true false false) := by
  refine returnsInHanded_of_change_and (C := Tryd.checked) (X := fun w _ => laidMetH Tryd.prog Rows.fnExactRecoverItemRow.laid w) (fun _ _ _ hh h => h.of_heap hh) own started (by kernel_rfl) Tryd.func8
    (ChangeSpec.witness_shaped (enc := enc) (C := Tryd.checked) (os := os) (X := fun w _ => laidMetH Tryd.prog Rows.fnExactRecoverItemRow.laid w) false (World.laidAll Tryd.prog os Rows.fnExactRecoverItemRow.laid) #[.slice none 0 0, .int .i64 0, .slice none 0 0] 8 (World.laidAll_os _ _ _)
      (World.shaped_of_ZipB (by kernel_rfl) (by kernel_rfl)) (by kernel_rfl) (by kernel_rfl) (by kernel_rfl)
      (by rw [MakeChecks.laidMetH_plain _ _ _ (by kernel_rfl)]; exact laidMet_laidAll _ (by kernel_rfl) (by kernel_rfl))) ?_
  intro W base args ds gs before hval0 hW _ _ hL _
  have hval : ∀ (j : Nat) t v, Tryd.f8.params[j]? = some t → args[j]? = some v → Value.okWide Tryd.prog W .any base t v := hval0
  have hW' := hW
  obtain ⟨p, q, hA0, hV, rfl, hfz, hnd⟩ := hW
  have hA : DataW.TrodAll enc Tryd.prog W 0 (fun _ => true) true Tryd.f8.params.toList args.toList ds p := hA0
  rw [Tryd.params8] at hA hval
  rw [MakeChecks.laidMetH_plain _ _ _ (by kernel_rfl)] at hL
  obtain ⟨v0, vs0, d0, ds0, p0, q0, hargs, rfl, rfl, h0, r0⟩ := trodAll_cons hA
  obtain ⟨v1, vs1, d1, ds1, p1, q1, rfl, rfl, rfl, h1, r1⟩ := trodAll_cons r0
  obtain ⟨v2, vs2, d2, ds2, p2, q2, rfl, rfl, rfl, h2, r2⟩ := trodAll_cons r1
  obtain ⟨rfl, rfl, rfl⟩ := trodAll_nil r2
  obtain rfl : args = #[v0, v1, v2] := by cases args; simp_all
  clear hA0 hval0 hfz hnd hV
  obtain ⟨ss, hs, hsl, hsz⟩ := opened_strs (hval 0 _ v0 rfl rfl) h0
  obtain ⟨m, rfl⟩ := opened_int (hval 1 _ v1 rfl rfl)
  obtain ⟨xs, hr, -⟩ := opened_ints (hval 2 _ v2 rfl rfl) h2
  refine (walk ss xs _ _ m W hs hr hsl hsz).mono fun e W' ⟨he, hx⟩ => ?_
  subst he
  exact ⟨_, rfl, law_post laidOut (by rw [Tryd.params8]; simp only [List.forall_mem_cons, List.not_mem_nil, false_implies, implies_true, and_true]; repeat' apply And.intro; all_goals first | kernel_rfl | exact of_decide_eq_true (by kernel_rfl)) rfl Tryd.underlying4 rfl ⟨rfl, rfl, rfl⟩ hW' hx.below⟩
theorem holdsRow : Rows.FnExactRecoverItemSaid :=
  OpenClaim.holds_of_wide 8 Tryd.f8 rfl rfl rfl rfl rfl rfl rfl ⟨rfl, rfl, rfl, rfl, rfl⟩ rfl rfl rfl rfl rfl (by kernel_rfl) Tryd.func8 (by kernel_rfl)
    (of_decide_eq_true (by kernel_rfl)) (by unfold Func.isWrapper; first | (rw [if_pos (by decide +kernel)]; kernel_rfl) | (rw [if_neg (by decide +kernel)]; exact ⟨rfl, rfl⟩))
    (fun os started H enc _ => lifted os started H enc)
theorem proved : Rows.FnExactRecoverItemCardSaid :=
  Claim7.holds_tied_plain_at .later [] [.data, .pinned] true (true, "a55b2c300434c8e0ed89be1332c2507c8d7a9386a0eda4f749a99302c0a16728") false holdsRow (fun _ h => by cases h) (by kernel_rfl) (fun _ h => by cases h) fnExactRecoverItem_row_tie rfl ⟨rfl, rfl⟩ (by kernel_rfl) rfl
    (fun f fn hf hfn => by
      obtain rfl : f = 8 := Option.some.inj ((show Tryd.prog.funcNamed "loop.example/g00840/laws.FnExactRecoverItem" = some 8 by kernel_rfl).symm.trans hf) |>.symm
      obtain rfl : fn = Tryd.f8 := (Option.some.inj (Tryd.func8.symm.trans hfn)).symm
      exact ⟨by kernel_rfl, fun j t ht => by
        rw [Tryd.params8] at ht
        have hm : t ∈ [34, 3, 22] := by simpa using Array.mem_of_getElem? ht
        have hall : ([34, 3, 22].all fun u => !Tryd.prog.wantsStandIn u) = true := by kernel_rfl
        exact (show Tryd.prog.wantsStandIn t = false by simpa using List.all_eq_true.1 hall t hm)⟩)
    (by kernel_rfl)
#print axioms proved
end Go.Proofs.YtolnnldmnljkbaaDoor.xRecoverItem
