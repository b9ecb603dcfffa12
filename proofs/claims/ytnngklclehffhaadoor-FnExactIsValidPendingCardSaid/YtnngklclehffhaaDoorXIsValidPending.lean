/- The law FnExactIsValidPending. -/
import Derived.Test.YtnngklclehffhaaDoorWPv3
import Derived.Test.YtnngklclehffhaaDoorKit2
import Derived.Test.YtnngklclehffhaaDoorWCOpen
import Derived.Test.YtnngklclehffhaaDoorWPx
import Derived.Test.YtnngklclehffhaaDoorRows
import Derived.Test.YtnngklclehffhaaDoorTie
import Derived.Test.YtnngklclehffhaaDoorCards
import Derived.Lay
import Derived.SevenTiedAt
namespace Go.Proofs.YtnngklclehffhaaDoor.xIsValidPending
open Go.ChangeShapes Go.WideShapes Go.ChangeAt Go.RowKit
set_option maxHeartbeats 400000
set_option maxRecDepth 100000
theorem walk (ps : List Pnd) (cz : List Pe) (v : Value) (w : World) (h : PRd w v ps cz) (hlen : ps.length ≤ maxLen) (hsz : ∀ i, i < ps.length → (ps.getD i .z).d.length ≤ maxLen ∧ (ps.getD i .z).h.length ≤ maxLen ∧ ∀ x ∈ (ps.getD i .z).d, x.size ≤ maxLen) :
    Calls Tryd.prog 3 #[v] w fun e w' => e = .returned (.bool true) ∧ Ext w w' := by
  by_cases hs : (ps.length : Int) + Pnd.sum ps ≤ 1048576
  · have h2 : ps.length ≤ 1048576 := by omega
    have h3 : Pnd.sum ps ≤ 1048576 := by omega
    have hq := pnd_small h3
    have hm : ∀ i, i < ps.length → (ps.getD i .z).d.length ≤ 1048576 ∧ (ps.getD i .z).h.length ≤ 1048576 := fun i hi => ⟨(hq i hi).1, (hq i hi).2.1⟩
    have ht : ptot ps ≤ 2097152 := by have := ptot_sum ps; omega
    have tk : decide ((1 : Int) + ptot ps < 0) = false := by simp; omega
    have t1 : decide ((1048576 : Int) - ps.length - Pnd.sum ps < 0) = false := by simp; omega
    have cs := fun ds v w h => spec_IsValidPending ps ds v w h h2 hq
    have ci := fun ds q w h => impl_IsValidPending ps ds q ps.length w h (Nat.le_refl _) h2 hq
    generalize okL ps = bb at cs ci
    go_enter Tryd.func3, Tryd.ntmps3
    (go_wp2_with fail)
    go_at_call 9; refine (laws_szPendingS ps _ _ 1048576 _ (h.ext ((Ext.refl _))) (by omega) (by decide)).mono ?_; rintro e w1 ⟨rfl, hx1⟩
    (go_wp2_with fail)
    go_at_call 11; refine (laws_toPendingS ps _ _ _ (h.ext (hx1)) h2 hm).mono ?_; rintro e w2 ⟨g2_0, d2_0, rfl, ho2_0, hx2⟩
    (go_wp2_with fail)
    go_at_call 10; refine (cs _ _ _ ho2_0.rd).mono ?_; rintro e w3 ⟨rfl, hx3⟩
    (go_wp2_with fail)
    have X0_2 := hx1.trans hx2
    have X0_3 := X0_2.trans hx3
    go_at_call 11; refine (laws_toPendingS ps _ _ _ (h.ext (X0_3)) h2 hm).mono ?_; rintro e w4 ⟨g4_0, d4_0, rfl, ho4_0, hx4⟩
    (go_wp2_with fail)
    go_at_call 12; refine (ci _ _ _ ho4_0.rd).mono ?_; rintro e w5 ⟨rfl, hx5⟩
    (go_wp2_with fail)
    have X0_4 := X0_3.trans hx4
    have X0_5 := X0_4.trans hx5
    go_at_call 11; refine (laws_toPendingS ps _ _ _ (h.ext (X0_5)) h2 hm).mono ?_; rintro e w6 ⟨g6_0, d6_0, rfl, ho6_0, hx6⟩
    (go_wp2_with fail)
    have X4_6 := hx5.trans hx6
    have o1 := ho4_0.ext (X4_6)
    go_at_call 13; refine (laws_eqPendingS ps _ _ _ _ _ o1.rd ho6_0.rd h2 hm).mono ?_; rintro e w7 ⟨rfl, hx7⟩
    go_wp2
    go_returns
    have X0_6 := X0_5.trans hx6
    have X0_7 := X0_6.trans hx7
    exact ⟨rfl, X0_7⟩
  · go_enter Tryd.func3, Tryd.ntmps3
    go_wp2_with fail
    go_at_call 9; refine (laws_szPendingS_big ps cz _ 1048576 _ h (by omega) (by decide) (by decide) hlen hsz).mono ?_; rintro e w' ⟨rfl, hx2⟩
    go_wp2
    go_returns
    exact ⟨rfl, hx2⟩
theorem own : ownKnob Tryd.prog.godebug = none := by kernel_rfl
theorem laidOut : laidOutB Tryd.prog = true := by kernel_rfl
set_option maxRecDepth 100000 in
theorem lifted (os : Os) (started : os.Started) (H : Type) (enc : TypeId × Value → H) :
    ReturnsInHanded {} Tryd.checked os 3 .any (fun w args => (Rows.fnExactIsValidPendingSpec.pre enc Tryd.prog Tryd.f3 [] false w args ∧ laidMetH Tryd.prog Rows.fnExactIsValidPendingRow.laid w) ∧ sizedMet enc Tryd.prog Tryd.f3 (OpenSpec.ofChange Rows.fnExactIsValidPendingSpec) false w args)
      (Rows.fnExactIsValidPendingSpec.post enc Tryd.prog Tryd.f3 false true false false) := by
  refine returnsInHanded_of_change_and (C := Tryd.checked) (X := fun w _ => laidMetH Tryd.prog Rows.fnExactIsValidPendingRow.laid w) (fun _ _ _ hh h => h.of_heap hh) own started (by kernel_rfl) Tryd.func3
    (ChangeSpec.witness_shaped (enc := enc) (C := Tryd.checked) (os := os) (X := fun w _ => laidMetH Tryd.prog Rows.fnExactIsValidPendingRow.laid w) false (World.laidAll Tryd.prog os Rows.fnExactIsValidPendingRow.laid) #[.slice none 0 0] 8 (World.laidAll_os _ _ _)
      (World.shaped_of_ZipB (by kernel_rfl) (by kernel_rfl)) (by kernel_rfl) (by kernel_rfl) (by kernel_rfl)
      (by rw [MakeChecks.laidMetH_plain _ _ _ (by kernel_rfl)]; exact laidMet_laidAll _ (by kernel_rfl) (by kernel_rfl))) ?_
  intro W base args ds gs before hval0 hW _ _ hL _
  have hval : ∀ (j : Nat) t v, Tryd.f3.params[j]? = some t → args[j]? = some v → Value.okWide Tryd.prog W .any base t v := hval0
  have hW' := hW
  obtain ⟨p, q, hA0, hV, rfl, hfz, hnd⟩ := hW
  have hA : DataW.TrodAll enc Tryd.prog W 0 (fun _ => true) true Tryd.f3.params.toList args.toList ds p := hA0
  rw [Tryd.params3] at hA hval
  rw [MakeChecks.laidMetH_plain _ _ _ (by kernel_rfl)] at hL
  obtain ⟨v0, vs0, d0, ds0, p0, q0, hargs, rfl, rfl, h0, r0⟩ := trodAll_cons hA
  obtain ⟨rfl, rfl, rfl⟩ := trodAll_nil r0
  obtain rfl : args = #[v0] := by cases args; simp_all
  clear hA0 hval0 hfz hnd hV
  obtain ⟨ps, cz, hr, hlen, hsz⟩ := opened_pendings (hval 0 _ v0 rfl rfl) h0
  refine (walk ps cz _ W hr hlen hsz).mono fun e W' ⟨he, hx⟩ => ?_
  subst he
  exact ⟨_, rfl, law_post laidOut (by rw [Tryd.params3]; simp only [List.forall_mem_cons, List.not_mem_nil, false_implies, implies_true, and_true]; repeat' apply And.intro; all_goals first | kernel_rfl | exact of_decide_eq_true (by kernel_rfl)) rfl Tryd.underlying4 rfl ⟨rfl, rfl, rfl⟩ hW' hx.below⟩
theorem holdsRow : Rows.FnExactIsValidPendingSaid :=
  OpenClaim.holds_of_wide 3 Tryd.f3 rfl rfl rfl rfl rfl rfl rfl ⟨rfl, rfl, rfl, rfl, rfl⟩ rfl rfl rfl rfl rfl (by kernel_rfl) Tryd.func3 (by kernel_rfl)
    (of_decide_eq_true (by kernel_rfl)) (by unfold Func.isWrapper; first | (rw [if_pos (by decide +kernel)]; kernel_rfl) | (rw [if_neg (by decide +kernel)]; exact ⟨rfl, rfl⟩))
    (fun os started H enc _ => lifted os started H enc)
theorem proved : Rows.FnExactIsValidPendingCardSaid :=
  Claim7.holds_tied_plain_at .later [] [.data, .pinned] true (true, "efc0d91b0d9b52de2fe9985696acb5fb8069c6dad42c031a285957a89e66ef60") true holdsRow (fun _ h => by cases h) (by kernel_rfl) (fun _ h => by cases h) fnExactIsValidPending_row_tie rfl ⟨rfl, rfl⟩ (by kernel_rfl) rfl
    (fun f fn hf hfn => by
      obtain rfl : f = 3 := Option.some.inj ((show Tryd.prog.funcNamed "loop.example/g00840/laws.FnExactIsValidPending" = some 3 by kernel_rfl).symm.trans hf) |>.symm
      obtain rfl : fn = Tryd.f3 := (Option.some.inj (Tryd.func3.symm.trans hfn)).symm
      exact ⟨by kernel_rfl, fun j t ht => by
        rw [Tryd.params3] at ht
        have hm : t ∈ [22] := by simpa using Array.mem_of_getElem? ht
        have hall : ([22].all fun u => !Tryd.prog.wantsStandIn u) = true := by kernel_rfl
        exact (show Tryd.prog.wantsStandIn t = false by simpa using List.all_eq_true.1 hall t hm)⟩)
    (by kernel_rfl)
#print axioms proved
end Go.Proofs.YtnngklclehffhaaDoor.xIsValidPending
