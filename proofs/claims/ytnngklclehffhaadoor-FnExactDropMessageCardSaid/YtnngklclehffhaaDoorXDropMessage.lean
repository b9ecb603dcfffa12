/- The law FnExactDropMessage. -/
import Derived.Test.YtnngklclehffhaaDoorWPd2
import Derived.Test.YtnngklclehffhaaDoorKit2
import Derived.Test.YtnngklclehffhaaDoorWCOpen
import Derived.Test.YtnngklclehffhaaDoorWPx
import Derived.Test.YtnngklclehffhaaDoorRows
import Derived.Test.YtnngklclehffhaaDoorTie
import Derived.Test.YtnngklclehffhaaDoorCards
import Derived.Lay
import Derived.SevenTiedAt
namespace Go.Proofs.YtnngklclehffhaaDoor.xDropMessage
open Go.ChangeShapes Go.WideShapes Go.ChangeAt Go.RowKit
set_option maxHeartbeats 400000
set_option maxRecDepth 100000
theorem walk (ps : List Pnd) (cz : List Pe) (v : Value) (x : Int) (w : World) (h : PRd w v ps cz) (hlen : ps.length ≤ maxLen) (hsz : ∀ i, i < ps.length → (ps.getD i .z).d.length ≤ maxLen ∧ (ps.getD i .z).h.length ≤ maxLen ∧ ∀ x ∈ (ps.getD i .z).d, x.size ≤ maxLen) :
    Calls Tryd.prog 5 #[v, .int .i64 x] w fun e w' => e = .returned (.bool true) ∧ Ext w w' := by
  by_cases hs : (ps.length : Int) + Pnd.sum ps ≤ 1048576
  · have h2 : ps.length ≤ 1048576 := by omega
    have h3 : Pnd.sum ps ≤ 1048576 := by omega
    have hq := pnd_small h3
    have hm : ∀ i, i < ps.length → (ps.getD i .z).d.length ≤ 1048576 ∧ (ps.getD i .z).h.length ≤ 1048576 := fun i hi => ⟨(hq i hi).1, (hq i hi).2.1⟩
    have ht : ptot ps ≤ 2097152 := by have := ptot_sum ps; omega
    have tk : decide ((1 : Int) + ptot ps < 0) = false := by simp; omega
    have t1 : decide ((1048576 : Int) - ps.length - Pnd.sum ps < 0) = false := by simp; omega
    have cs := fun ds v w h => spec_DropMessage ps ds v x w h h2 hq
    have ci := fun ds q w h => impl_DropMessage ps ds q ps.length x w h (Nat.le_refl _) h2 hq
    have hD2 : (drL ps x).length ≤ 1048576 := Nat.le_trans (drL_len ps x) h2
    have hDm : ∀ i, i < (drL ps x).length → ((drL ps x).getD i .z).d.length ≤ 1048576 ∧ ((drL ps x).getD i .z).h.length ≤ 1048576 := fun i hi => by obtain ⟨a, b⟩ := drL_mem ps x i hi; omega
    have hDt : ptot (drL ps x) ≤ 2097152 := drL_tot ps x
    generalize drL ps x = D at cs ci hD2 hDm hDt
    generalize lkB ps x = bb at cs ci
    have tm : decide ((1 : Int) + ptot D < 0) = false := by simp; omega
    go_enter Tryd.func5, Tryd.ntmps5
    (go_wp2_with fail)
    go_at_call 9; refine (laws_szPendingS ps _ _ 1048576 _ (h.ext ((Ext.refl _))) (by omega) (by decide)).mono ?_; rintro e w1 ⟨rfl, hx1⟩
    (go_wp2_with fail)
    go_at_call 11; refine (laws_toPendingS ps _ _ _ (h.ext (hx1)) h2 hm).mono ?_; rintro e w2 ⟨g2_0, d2_0, rfl, ho2_0, hx2⟩
    (go_wp2_with fail)
    go_at_call 20; refine (cs _ _ _ ho2_0.rd).mono ?_; rintro e w3 ⟨r3_0_0, d3_0_0, rfl, ho3_0_0, hx3⟩
    (go_wp2_with fail)
    have X0_2 := hx1.trans hx2
    have X0_3 := X0_2.trans hx3
    go_at_call 11; refine (laws_toPendingS ps _ _ _ (h.ext (X0_3)) h2 hm).mono ?_; rintro e w4 ⟨g4_0, d4_0, rfl, ho4_0, hx4⟩
    (go_wp2_with fail)
    go_at_call 21; refine (ci _ _ _ ho4_0.rd).mono ?_; rintro e w5 ⟨r5_0_0, d5_0_0, rfl, ho5_0_0, hx5⟩
    (go_wp2_with fail)
    have X3_5 := hx4.trans hx5
    have o1 := ho3_0_0.ext (X3_5)
    go_at_call 13; refine (laws_eqPendingS D _ _ _ _ _ ho5_0_0.rd o1 hD2 hDm).mono ?_; rintro e w6 ⟨rfl, hx6⟩
    (go_wp2_with fail)
    have X0_4 := X0_3.trans hx4
    have X0_5 := X0_4.trans hx5
    have X0_6 := X0_5.trans hx6
    go_at_call 11; refine (laws_toPendingS ps _ _ _ (h.ext (X0_6)) h2 hm).mono ?_; rintro e w7 ⟨g7_0, d7_0, rfl, ho7_0, hx7⟩
    (go_wp2_with fail)
    have X4_6 := hx5.trans hx6
    have X4_7 := X4_6.trans hx7
    have o2 := ho4_0.ext (X4_7)
    go_at_call 13; refine (laws_eqPendingS ps _ _ _ _ _ o2.rd ho7_0.rd h2 hm).mono ?_; rintro e w8 ⟨rfl, hx8⟩
    (go_wp2_with fail)
    have o3 := o2.ext (hx8)
    go_at_call 17; refine (laws_markPendingS _ _ _ 1 _ _ _ o3 h2 ht (by omega) (by omega)).mono ?_; rintro e w9 ⟨d9_m, rfl, hm9_0, hT9⟩
    (go_wp2_with fail)
    have X5_7 := hx6.trans hx7
    have X5_8 := X5_7.trans hx8
    have o4 := ho5_0_0.ext (X5_8)
    have o5 := o4.turned hT9 (.inl ((Ext.refl w4)).size)
    have X3_6 := X3_5.trans hx6
    have X3_7 := X3_6.trans hx7
    have X3_8 := X3_7.trans hx8
    have X3_9 := (X3_8).turned hT9 ((Ext.refl w3)).size
    have o6 := ho3_0_0.ext (X3_9)
    go_at_call 13; refine (laws_eqPendingS D _ _ _ _ _ o5.rd o6 hD2 hDm).mono ?_; rintro e w10 ⟨rfl, hx10⟩
    (go_wp2_with fail)
    have o7 := o5.ext (hx10)
    go_at_call 17; refine (laws_markPendingS _ _ _ 1 _ _ _ o7 hD2 hDt (by omega) (by omega)).mono ?_; rintro e w11 ⟨d11_m, rfl, hm11_0, hT11⟩
    (go_wp2_with fail)
    go_at_call 22; refine (laws_heldPendingS D _ _ 1 _ hm11_0.rd hD2 hDt (by omega) (by omega)).mono ?_; rintro e w12 ⟨rfl, hx12⟩
    (go_wp2_with fail)
    have X0_7 := X0_6.trans hx7
    have X0_8 := X0_7.trans hx8
    have X0_9 := (X0_8).turned hT9 (X0_3).size
    have X0_10 := X0_9.trans hx10
    have X0_11 := (X0_10).turned hT11 (X0_4).size
    have X0_12 := X0_11.trans hx12
    go_at_call 11; refine (laws_toPendingS ps _ _ _ (h.ext (X0_12)) h2 hm).mono ?_; rintro e w13 ⟨g13_0, d13_0, rfl, ho13_0, hx13⟩
    (go_wp2_with fail)
    go_at_call 21; refine (ci _ _ _ ho13_0.rd).mono ?_; rintro e w14 ⟨r14_0_0, d14_0_0, rfl, ho14_0_0, hx14⟩
    (go_wp2_with fail)
    have X3_10 := X3_9.trans hx10
    have X3_11 := (X3_10).turned hT11 (hx4).size
    have X3_12 := X3_11.trans hx12
    have X3_13 := X3_12.trans hx13
    have X3_14 := X3_13.trans hx14
    have o8 := ho3_0_0.ext (X3_14)
    go_at_call 13; refine (laws_eqPendingS D _ _ _ _ _ ho14_0_0.rd o8 hD2 hDm).mono ?_; rintro e w15 ⟨rfl, hx15⟩
    (go_wp2_with fail)
    have X11_13 := hx12.trans hx13
    have X11_14 := X11_13.trans hx14
    have X11_15 := X11_14.trans hx15
    have o9 := hm11_0.ext (X11_15)
    go_at_call 22; refine (laws_heldPendingS D _ _ 1 _ o9.rd hD2 hDt (by omega) (by omega)).mono ?_; rintro e w16 ⟨rfl, hx16⟩
    go_wp2
    go_returns
    have X0_13 := X0_12.trans hx13
    have X0_14 := X0_13.trans hx14
    have X0_15 := X0_14.trans hx15
    have X0_16 := X0_15.trans hx16
    exact ⟨rfl, X0_16⟩
  · go_enter Tryd.func5, Tryd.ntmps5
    go_wp2_with fail
    go_at_call 9; refine (laws_szPendingS_big ps cz _ 1048576 _ h (by omega) (by decide) (by decide) hlen hsz).mono ?_; rintro e w' ⟨rfl, hx2⟩
    go_wp2
    go_returns
    exact ⟨rfl, hx2⟩
theorem own : ownKnob Tryd.prog.godebug = none := by kernel_rfl
theorem laidOut : laidOutB Tryd.prog = true := by kernel_rfl
set_option maxRecDepth 100000 in
theorem lifted (os : Os) (started : os.Started) (H : Type) (enc : TypeId × Value → H) :
    ReturnsInHanded {} Tryd.checked os 5 .any (fun w args => (Rows.fnExactDropMessageSpec.pre enc Tryd.prog Tryd.f5 [] false w args ∧ laidMetH Tryd.prog Rows.fnExactDropMessageRow.laid w) ∧ sizedMet enc Tryd.prog Tryd.f5 (OpenSpec.ofChange Rows.fnExactDropMessageSpec) false w args)
      (Rows.fnExactDropMessageSpec.post enc Tryd.prog Tryd.f5 false true false false) := by
  refine returnsInHanded_of_change_and (C := Tryd.checked) (X := fun w _ => laidMetH Tryd.prog Rows.fnExactDropMessageRow.laid w) (fun _ _ _ hh h => h.of_heap hh) own started (by kernel_rfl) Tryd.func5
    (ChangeSpec.witness_shaped (enc := enc) (C := Tryd.checked) (os := os) (X := fun w _ => laidMetH Tryd.prog Rows.fnExactDropMessageRow.laid w) false (World.laidAll Tryd.prog os Rows.fnExactDropMessageRow.laid) #[.slice none 0 0, .int .i64 0] 8 (World.laidAll_os _ _ _)
      (World.shaped_of_ZipB (by kernel_rfl) (by kernel_rfl)) (by kernel_rfl) (by kernel_rfl) (by kernel_rfl)
      (by rw [MakeChecks.laidMetH_plain _ _ _ (by kernel_rfl)]; exact laidMet_laidAll _ (by kernel_rfl) (by kernel_rfl))) ?_
  intro W base args ds gs before hval0 hW _ _ hL _
  have hval : ∀ (j : Nat) t v, Tryd.f5.params[j]? = some t → args[j]? = some v → Value.okWide Tryd.prog W .any base t v := hval0
  have hW' := hW
  obtain ⟨p, q, hA0, hV, rfl, hfz, hnd⟩ := hW
  have hA : DataW.TrodAll enc Tryd.prog W 0 (fun _ => true) true Tryd.f5.params.toList args.toList ds p := hA0
  rw [Tryd.params5] at hA hval
  rw [MakeChecks.laidMetH_plain _ _ _ (by kernel_rfl)] at hL
  obtain ⟨v0, vs0, d0, ds0, p0, q0, hargs, rfl, rfl, h0, r0⟩ := trodAll_cons hA
  obtain ⟨v1, vs1, d1, ds1, p1, q1, rfl, rfl, rfl, h1, r1⟩ := trodAll_cons r0
  obtain ⟨rfl, rfl, rfl⟩ := trodAll_nil r1
  obtain rfl : args = #[v0, v1] := by cases args; simp_all
  clear hA0 hval0 hfz hnd hV
  obtain ⟨ps, cz, hr, hlen, hsz⟩ := opened_pendings (hval 0 _ v0 rfl rfl) h0
  obtain ⟨x, rfl⟩ := opened_int (hval 1 _ v1 rfl rfl)
  refine (walk ps cz _ x W hr hlen hsz).mono fun e W' ⟨he, hx⟩ => ?_
  subst he
  exact ⟨_, rfl, law_post laidOut (by rw [Tryd.params5]; simp only [List.forall_mem_cons, List.not_mem_nil, false_implies, implies_true, and_true]; repeat' apply And.intro; all_goals first | kernel_rfl | exact of_decide_eq_true (by kernel_rfl)) rfl Tryd.underlying4 rfl ⟨rfl, rfl, rfl⟩ hW' hx.below⟩
theorem holdsRow : Rows.FnExactDropMessageSaid :=
  OpenClaim.holds_of_wide 5 Tryd.f5 rfl rfl rfl rfl rfl rfl rfl ⟨rfl, rfl, rfl, rfl, rfl⟩ rfl rfl rfl rfl rfl (by kernel_rfl) Tryd.func5 (by kernel_rfl)
    (of_decide_eq_true (by kernel_rfl)) (by unfold Func.isWrapper; first | (rw [if_pos (by decide +kernel)]; kernel_rfl) | (rw [if_neg (by decide +kernel)]; exact ⟨rfl, rfl⟩))
    (fun os started H enc _ => lifted os started H enc)
theorem proved : Rows.FnExactDropMessageCardSaid :=
  Claim7.holds_tied_plain_at .later [] [.data, .pinned] true (true, "efc0d91b0d9b52de2fe9985696acb5fb8069c6dad42c031a285957a89e66ef60") true holdsRow (fun _ h => by cases h) (by kernel_rfl) (fun _ h => by cases h) fnExactDropMessage_row_tie rfl ⟨rfl, rfl⟩ (by kernel_rfl) rfl
    (fun f fn hf hfn => by
      obtain rfl : f = 5 := Option.some.inj ((show Tryd.prog.funcNamed "loop.example/g00840/laws.FnExactDropMessage" = some 5 by kernel_rfl).symm.trans hf) |>.symm
      obtain rfl : fn = Tryd.f5 := (Option.some.inj (Tryd.func5.symm.trans hfn)).symm
      exact ⟨by kernel_rfl, fun j t ht => by
        rw [Tryd.params5] at ht
        have hm : t ∈ [22, 3] := by simpa using Array.mem_of_getElem? ht
        have hall : ([22, 3].all fun u => !Tryd.prog.wantsStandIn u) = true := by kernel_rfl
        exact (show Tryd.prog.wantsStandIn t = false by simpa using List.all_eq_true.1 hall t hm)⟩)
    (by kernel_rfl)
#print axioms proved
end Go.Proofs.YtnngklclehffhaaDoor.xDropMessage
