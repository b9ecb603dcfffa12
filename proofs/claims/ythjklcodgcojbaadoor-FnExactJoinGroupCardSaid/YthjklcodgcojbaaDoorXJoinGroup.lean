/- The law FnExactJoinGroup. -/
import Derived.Test.YthjklcodgcojbaaDoorWJnB
import Derived.Test.YthjklcodgcojbaaDoorKit2
import Derived.Test.YthjklcodgcojbaaDoorWCOpen
import Derived.Test.YthjklcodgcojbaaDoorWGs3
import Derived.Test.YthjklcodgcojbaaDoorRows
import Derived.Test.YthjklcodgcojbaaDoorTie
import Derived.Test.YthjklcodgcojbaaDoorCards
import Derived.Lay
import Derived.SevenTiedAt
namespace Go.Proofs.YthjklcodgcojbaaDoor.xJoinGroup
open Go.ChangeShapes Go.WideShapes Go.ChangeAt Go.RowKit
set_option maxHeartbeats 400000
set_option maxRecDepth 100000
theorem walk (gs : List Grp) (cz : List Gc) (v : Value) (a : ByteArray) (x : Int) (w : World) (h : GRd w v gs cz) (hlen : gs.length ≤ maxLen) (hsz : ∀ i, i < gs.length → (gs.getD i .z).s.size ≤ maxLen ∧ (gs.getD i .z).xs.length ≤ maxLen) :
    Calls Tryd.prog 9 #[v, .string a, .int .i64 x] w fun e w' => e = .returned (.bool true) ∧ Ext w w' := by
  by_cases na : a.size ≤ 1048576
  · have ta : decide ((1048576 : Int) < a.size) = false := by simp; omega
    have ta' : decide (1048576 < a.size) = false := by simp; omega
    by_cases hs : (gs.length : Int) + Grp.sum gs ≤ 1048576
    · have h2 : gs.length ≤ 1048576 := by omega
      have h3 : Grp.sum gs ≤ 1048576 := by omega
      have hm : ∀ i, i < gs.length → (gs.getD i .z).xs.length ≤ 1048576 := fun i hi => (Grp.sum_at h3 hi).2
      have ht : gtot gs ≤ 2097152 := by have := gtot_sum gs; omega
      have tk : decide ((1 : Int) + gtot gs < 0) = false := by simp; omega
      have t1 : decide ((1048576 : Int) - gs.length - Grp.sum gs < 0) = false := by simp; omega
      have cs := fun ds v w h => spec_JoinGroup gs ds v a x w h h2 h3 na
      have ci := fun ds q w h => impl_JoinGroup gs ds q a x w h h2 h3 na
      have hDs : small (jgI gs a x) := jgI_small gs a x
      generalize jgI gs a x = D at cs ci hDs
      generalize jgB gs a x = bb at cs ci
      have hD2 : D.length ≤ 1048576 := Nat.le_trans hDs.1 (by decide)
      have hDm : ∀ i, i < D.length → (D.getD i .z).xs.length ≤ 1048576 := fun i hi => Nat.le_trans (hDs.2 i hi) (by decide)
      have hDt : gtot D ≤ 2097152 := Nat.le_trans (small_tot hDs) (by decide)
      have tm : decide ((1 : Int) + gtot D < 0) = false := by simp; omega
      clear hDs
      go_enter Tryd.func9, Tryd.ntmps9
      (go_wp2_with fail)
      go_at_call 11; refine (laws_szGroupS gs _ _ 1048576 _ (h.ext ((Ext.refl _))) (by omega) (by decide)).mono ?_; rintro e w1 ⟨rfl, hx1⟩
      (go_wp2_with fail)
      go_at_call 13; refine (laws_toGroupS gs _ _ _ (h.ext (hx1)) h2 hm).mono ?_; rintro e w2 ⟨g2_0, d2_0, rfl, ho2_0, hx2⟩
      (go_wp2_with fail)
      go_at_call 39; refine (cs _ _ _ ho2_0.rd).mono ?_; rintro e w3 ⟨r3_0_0, d3_0_0, rfl, ho3_0_0, hx3⟩
      (go_wp2_with fail)
      have X0_2 := hx1.trans hx2
      have X0_3 := X0_2.trans hx3
      go_at_call 13; refine (laws_toGroupS gs _ _ _ (h.ext (X0_3)) h2 hm).mono ?_; rintro e w4 ⟨g4_0, d4_0, rfl, ho4_0, hx4⟩
      (go_wp2_with fail)
      go_at_call 40; refine (ci _ _ _ ho4_0.rd).mono ?_; rintro e w5 ⟨r5_0_0, d5_0_0, rfl, ho5_0_0, hx5⟩
      (go_wp2_with fail)
      have X3_5 := hx4.trans hx5
      have o1 := ho3_0_0.ext (X3_5)
      go_at_call 16; refine (laws_eqGroupS D _ _ _ _ _ ho5_0_0.rd o1 hD2 hDm).mono ?_; rintro e w6 ⟨rfl, hx6⟩
      (go_wp2_with fail)
      have X0_4 := X0_3.trans hx4
      have X0_5 := X0_4.trans hx5
      have X0_6 := X0_5.trans hx6
      go_at_call 13; refine (laws_toGroupS gs _ _ _ (h.ext (X0_6)) h2 hm).mono ?_; rintro e w7 ⟨g7_0, d7_0, rfl, ho7_0, hx7⟩
      (go_wp2_with fail)
      have X4_6 := hx5.trans hx6
      have X4_7 := X4_6.trans hx7
      have o2 := ho4_0.ext (X4_7)
      go_at_call 16; refine (laws_eqGroupS gs _ _ _ _ _ o2.rd ho7_0.rd h2 hm).mono ?_; rintro e w8 ⟨rfl, hx8⟩
      (go_wp2_with fail)
      have o3 := o2.ext (hx8)
      go_at_call 17; refine (laws_markGroupS _ _ _ 1 _ _ _ o3 h2 ht (by omega) (by omega)).mono ?_; rintro e w9 ⟨d9_m, rfl, hm9_0, hT9⟩
      (go_wp2_with fail)
      have X5_7 := hx6.trans hx7
      have X5_8 := X5_7.trans hx8
      have o4 := ho5_0_0.ext (X5_8)
      have o5 := o4.turned hT9 (.inl ((Ext.refl w4)).size)
      have X3_6 := X3_5.trans hx6
      have X3_7 := X3_6.trans hx7
      have X3_8 := X3_7.trans hx8
      have X3_9 := (X3_8).turned hT9 ((Ext.refl w3)).size
      have o6 := ho3_0_0.ext (X3_9)
      go_at_call 16; refine (laws_eqGroupS D _ _ _ _ _ o5.rd o6 hD2 hDm).mono ?_; rintro e w10 ⟨rfl, hx10⟩
      (go_wp2_with fail)
      have o7 := o5.ext (hx10)
      go_at_call 17; refine (laws_markGroupS _ _ _ 1 _ _ _ o7 hD2 hDt (by omega) (by omega)).mono ?_; rintro e w11 ⟨d11_m, rfl, hm11_0, hT11⟩
      (go_wp2_with fail)
      go_at_call 22; refine (laws_heldGroupS D _ _ 1 _ hm11_0.rd hD2 hDt (by omega) (by omega)).mono ?_; rintro e w12 ⟨rfl, hx12⟩
      (go_wp2_with fail)
      have X0_7 := X0_6.trans hx7
      have X0_8 := X0_7.trans hx8
      have X0_9 := (X0_8).turned hT9 (X0_3).size
      have X0_10 := X0_9.trans hx10
      have X0_11 := (X0_10).turned hT11 (X0_4).size
      have X0_12 := X0_11.trans hx12
      go_at_call 13; refine (laws_toGroupS gs _ _ _ (h.ext (X0_12)) h2 hm).mono ?_; rintro e w13 ⟨g13_0, d13_0, rfl, ho13_0, hx13⟩
      (go_wp2_with fail)
      go_at_call 40; refine (ci _ _ _ ho13_0.rd).mono ?_; rintro e w14 ⟨r14_0_0, d14_0_0, rfl, ho14_0_0, hx14⟩
      (go_wp2_with fail)
      have X3_10 := X3_9.trans hx10
      have X3_11 := (X3_10).turned hT11 (hx4).size
      have X3_12 := X3_11.trans hx12
      have X3_13 := X3_12.trans hx13
      have X3_14 := X3_13.trans hx14
      have o8 := ho3_0_0.ext (X3_14)
      go_at_call 16; refine (laws_eqGroupS D _ _ _ _ _ ho14_0_0.rd o8 hD2 hDm).mono ?_; rintro e w15 ⟨rfl, hx15⟩
      (go_wp2_with fail)
      have X11_13 := hx12.trans hx13
      have X11_14 := X11_13.trans hx14
      have X11_15 := X11_14.trans hx15
      have o9 := hm11_0.ext (X11_15)
      go_at_call 22; refine (laws_heldGroupS D _ _ 1 _ o9.rd hD2 hDt (by omega) (by omega)).mono ?_; rintro e w16 ⟨rfl, hx16⟩
      go_wp2
      go_returns
      have X0_13 := X0_12.trans hx13
      have X0_14 := X0_13.trans hx14
      have X0_15 := X0_14.trans hx15
      have X0_16 := X0_15.trans hx16
      exact ⟨rfl, X0_16⟩
    · go_enter Tryd.func9, Tryd.ntmps9
      go_wp2_with fail
      go_at_call 11; refine (laws_szGroupS_big gs cz _ 1048576 _ h (by omega) (by decide) (by decide) hlen hsz).mono ?_; rintro e w' ⟨rfl, hx2⟩
      go_wp2
      go_returns
      exact ⟨rfl, hx2⟩
  · have ta : decide ((1048576 : Int) < a.size) = true := by simp; omega
    have ta' : decide (1048576 < a.size) = true := by simp; omega
    go_enter Tryd.func9, Tryd.ntmps9
    go_wp2
    go_returns
    exact ⟨rfl, (by repeat' (first | exact Ext.refl _ | assumption | refine Ext.alloc ?_ _ | refine Ext.ext ?_ _ | refine Ext.drew ?_ | refine Ext.drewN ?_ _))⟩
theorem own : ownKnob Tryd.prog.godebug = none := by kernel_rfl
theorem laidOut : laidOutB Tryd.prog = true := by kernel_rfl
set_option maxRecDepth 100000 in
theorem lifted (os : Os) (started : os.Started) (H : Type) (enc : TypeId × Value → H) :
    ReturnsInHanded {} Tryd.checked os 9 .any (fun w args => (Rows.fnExactJoinGroupSpec.pre enc Tryd.prog Tryd.f9 [] false w args ∧ laidMetH Tryd.prog Rows.fnExactJoinGroupRow.laid w) ∧ sizedMet enc Tryd.prog Tryd.f9 (OpenSpec.ofChange Rows.fnExactJoinGroupSpec) false w args)
      (Rows.fnExactJoinGroupSpec.post enc Tryd.prog Tryd.f9 false true false false) := by
  refine returnsInHanded_of_change_and (C := Tryd.checked) (X := fun w _ => laidMetH Tryd.prog Rows.fnExactJoinGroupRow.laid w) (fun _ _ _ hh h => h.of_heap hh) own started (by kernel_rfl) Tryd.func9
    (ChangeSpec.witness_shaped (enc := enc) (C := Tryd.checked) (os := os) (X := fun w _ => laidMetH Tryd.prog Rows.fnExactJoinGroupRow.laid w) false (World.laidAll Tryd.prog os Rows.fnExactJoinGroupRow.laid) #[.slice none 0 0, .string ByteArray.empty, .int .i64 0] 8 (World.laidAll_os _ _ _)
      (World.shaped_of_ZipB (by kernel_rfl) (by kernel_rfl)) (by kernel_rfl) (by kernel_rfl) (by kernel_rfl)
      (by rw [MakeChecks.laidMetH_plain _ _ _ (by kernel_rfl)]; exact laidMet_laidAll _ (by kernel_rfl) (by kernel_rfl))) ?_
  intro W base args ds gs before hval0 hW _ _ hL _
  have hval : ∀ (j : Nat) t v, Tryd.f9.params[j]? = some t → args[j]? = some v → Value.okWide Tryd.prog W .any base t v := hval0
  have hW' := hW
  obtain ⟨p, q, hA0, hV, rfl, hfz, hnd⟩ := hW
  have hA : DataW.TrodAll enc Tryd.prog W 0 (fun _ => true) true Tryd.f9.params.toList args.toList ds p := hA0
  rw [Tryd.params9] at hA hval
  rw [MakeChecks.laidMetH_plain _ _ _ (by kernel_rfl)] at hL
  obtain ⟨v0, vs0, d0, ds0, p0, q0, hargs, rfl, rfl, h0, r0⟩ := trodAll_cons hA
  obtain ⟨v1, vs1, d1, ds1, p1, q1, rfl, rfl, rfl, h1, r1⟩ := trodAll_cons r0
  obtain ⟨v2, vs2, d2, ds2, p2, q2, rfl, rfl, rfl, h2, r2⟩ := trodAll_cons r1
  obtain ⟨rfl, rfl, rfl⟩ := trodAll_nil r2
  obtain rfl : args = #[v0, v1, v2] := by cases args; simp_all
  clear hA0 hval0 hfz hnd hV
  obtain ⟨gs, cz, hr, hlen, hsz⟩ := opened_groups (hval 0 _ v0 rfl rfl) h0
  obtain ⟨a, rfl⟩ := okWide_string Tryd.underlying9 (hval 1 _ v1 rfl rfl)
  obtain ⟨x, rfl⟩ := opened_int (hval 2 _ v2 rfl rfl)
  refine (walk gs cz _ a x W hr hlen hsz).mono fun e W' ⟨he, hx⟩ => ?_
  subst he
  exact ⟨_, rfl, law_post laidOut (by rw [Tryd.params9]; simp only [List.forall_mem_cons, List.not_mem_nil, false_implies, implies_true, and_true]; repeat' apply And.intro; all_goals first | kernel_rfl | exact of_decide_eq_true (by kernel_rfl)) rfl Tryd.underlying4 rfl ⟨rfl, rfl, rfl⟩ hW' hx.below⟩
theorem holdsRow : Rows.FnExactJoinGroupSaid :=
  OpenClaim.holds_of_wide 9 Tryd.f9 rfl rfl rfl rfl rfl rfl rfl ⟨rfl, rfl, rfl, rfl, rfl⟩ rfl rfl rfl rfl rfl (by kernel_rfl) Tryd.func9 (by kernel_rfl)
    (of_decide_eq_true (by kernel_rfl)) (by unfold Func.isWrapper; first | (rw [if_pos (by decide +kernel)]; kernel_rfl) | (rw [if_neg (by decide +kernel)]; exact ⟨rfl, rfl⟩))
    (fun os started H enc _ => lifted os started H enc)
theorem proved : Rows.FnExactJoinGroupCardSaid :=
  Claim7.holds_tied_plain_at .later [] [.data, .pinned] true (true, "d98e5ea9d9d979f90cee05b80b49c8468416582bf15d8a58d4a96a3bf1021c7b") true holdsRow (fun _ h => by cases h) (by kernel_rfl) (fun _ h => by cases h) fnExactJoinGroup_row_tie rfl ⟨rfl, rfl⟩ (by kernel_rfl) rfl
    (fun f fn hf hfn => by
      obtain rfl : f = 9 := Option.some.inj ((show Tryd.prog.funcNamed "loop.example/g00840/laws.FnExactJoinGroup" = some 9 by kernel_rfl).symm.trans hf) |>.symm
      obtain rfl : fn = Tryd.f9 := (Option.some.inj (Tryd.func9.symm.trans hfn)).symm
      exact ⟨by kernel_rfl, fun j t ht => by
        rw [Tryd.params9] at ht
        have hm : t ∈ [22, 9, 3] := by simpa using Array.mem_of_getElem? ht
        have hall : ([22, 9, 3].all fun u => !Tryd.prog.wantsStandIn u) = true := by kernel_rfl
        exact (show Tryd.prog.wantsStandIn t = false by simpa using List.all_eq_true.1 hall t hm)⟩)
    (by kernel_rfl)
#print axioms proved
end Go.Proofs.YthjklcodgcojbaaDoor.xJoinGroup
