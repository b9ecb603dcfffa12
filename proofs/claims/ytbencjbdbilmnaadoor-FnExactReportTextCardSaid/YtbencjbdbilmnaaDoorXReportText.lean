/- The law FnExactReportText. -/
import Derived.Test.YtbencjbdbilmnaaDoorWRep
import Derived.Test.YtbencjbdbilmnaaDoorRows
import Derived.Test.YtbencjbdbilmnaaDoorTie
import Derived.Test.YtbencjbdbilmnaaDoorCards
import Derived.Lay
import Derived.SevenTiedAt
namespace Go.Proofs.YtbencjbdbilmnaaDoor.xReportText
open Go.ChangeShapes Go.WideShapes Go.ChangeAt Go.RowKit
set_option maxHeartbeats 400000
set_option maxRecDepth 100000
theorem walk (xs : List Dlv) (v : Value) (w : World) (h : Rd w 4 v xs.length (xs.flatMap Dlv.cs)) (hm : xs.length ≤ maxLen) (ht : Tab w) :
    Calls Tryd.prog 5 #[v] w fun e w' => e = .returned (.bool true) ∧ Ext w w' := by
  by_cases h2 : xs.length ≤ 1048576
  · have cs := fun v w h => spec_ReportText xs v w h h2
    have ci := fun v w h ht => impl_ReportText xs v w h h2 ht
    have HT := hid ht
    have t0 : decide ((1048576 : Int) - xs.length < 0) = false := by simp; omega
    generalize rtT xs = T at cs ci
    generalize areD xs = b at cs ci
    clear ht
    go_enter Tryd.func5, Tryd.ntmps5
    (go_wp2_with fail)
    (go_wp2_with fail); go_at_call 10; refine (laws_szDeliveryS _ _ _ _ _ _ h (by omega) (by decide)).mono ?_; rintro e w' ⟨rfl, rfl⟩
    (go_wp2_with fail)
    go_at_call 12; refine (laws_toDeliveryS xs _ _ (h.ext ((Ext.refl _))) h2).mono ?_; rintro e w1 ⟨g1_0, rfl, ho1_0, hx1⟩
    (go_wp2_with fail)
    go_at_call 15; refine (cs _ _ (Rd.own ho1_0)).mono ?_; rintro e w2 ⟨rfl, hx2⟩
    (go_wp2_with fail)
    have X0_2 := hx1.trans hx2
    go_at_call 12; refine (laws_toDeliveryS xs _ _ (h.ext (X0_2)) h2).mono ?_; rintro e w3 ⟨g3_0, rfl, ho3_0, hx3⟩
    (go_wp2_with fail)
    have X0_3 := X0_2.trans hx3
    go_at_call 16; refine (ci _ _ (Rd.own ho3_0) (HT.out.ext (X0_3))).mono ?_; rintro e w4 ⟨rfl, hx4⟩
    (go_wp2_with fail)
    have X0_4 := X0_3.trans hx4
    go_at_call 12; refine (laws_toDeliveryS xs _ _ (h.ext (X0_4)) h2).mono ?_; rintro e w5 ⟨g5_0, rfl, ho5_0, hx5⟩
    (go_wp2_with fail)
    have X3_5 := hx4.trans hx5
    have o1 := own_ext ho3_0 (X3_5)
    go_at_call 14; refine (laws_eqDeliveryS xs _ _ _ (Rd.own o1) (Rd.own ho5_0) h2).mono ?_; rintro e w6 ⟨rfl, hx6⟩
    go_wp2
    go_returns
    have X0_5 := X0_4.trans hx5
    have X0_6 := X0_5.trans hx6
    exact ⟨rfl, X0_6⟩
  · go_enter Tryd.func5, Tryd.ntmps5
    (go_wp2_with fail); go_at_call 10; refine (laws_szDeliveryS_big _ _ _ _ _ _ h (by omega) (by decide) hm).mono ?_; rintro e w' ⟨rfl, rfl⟩
    go_wp2
    go_returns
    exact ⟨rfl, Ext.refl _⟩
theorem opened {H : Type} {enc : TypeId × Value → H} {W : World} {v : Value} {d : DataW H} {ps : List MemPlace} {r : Reach} {b : Nat} (hval : Value.okWide Tryd.prog W r b 29 v)
    (h : DataW.Trod enc Tryd.prog W 0 (fun _ => true) true 29 v d ps) : ∃ xs : List Dlv, Rd W 4 v xs.length (xs.flatMap Dlv.cs) ∧ xs.length ≤ maxLen := by
  obtain ⟨fuel, h⟩ := h
  obtain ⟨a, len, cap, rfl⟩ := okWide_slice Tryd.underlying29 hval
  obtain ⟨css, h1, h2, h3⟩ := rd_of_trod (d := 3) Tryd.underlying29 (ks := [.i .i64, .i .i64, .i .i64, .i .i64]) (by kernel_rfl) (by kernel_rfl) (by decide) h
  obtain ⟨xs, rfl, -⟩ := exists_map (f := Dlv.cs) (ok := fun _ => True) (l := css) (fun cs hcs => by
    obtain ⟨a, b, c, d, rfl, ⟨a, rfl, -⟩, ⟨b, rfl, -⟩, ⟨c, rfl, -⟩, ⟨d, rfl, -⟩⟩ := (h1 cs hcs).four
    exact ⟨⟨a, b, c, d⟩, rfl, trivial⟩)
  exact ⟨xs, h2.map, by simpa using h3⟩
theorem own : ownKnob Tryd.prog.godebug = none := by kernel_rfl
theorem laidOut : laidOutB Tryd.prog = true := by kernel_rfl
set_option maxRecDepth 100000 in
theorem lifted (os : Os) (started : os.Started) (H : Type) (enc : TypeId × Value → H) :
    ReturnsInHanded {} Tryd.checked os 5 .any (fun w args => (Rows.fnExactReportTextSpec.pre enc Tryd.prog Tryd.f5 [] false w args ∧ laidMetH Tryd.prog Rows.fnExactReportTextRow.laid w) ∧ sizedMet enc Tryd.prog Tryd.f5 (OpenSpec.ofChange Rows.fnExactReportTextSpec) false w args)
      (Rows.fnExactReportTextSpec.post enc Tryd.prog Tryd.f5 false true false false) := by
  refine returnsInHanded_of_change_and (C := Tryd.checked) (X := fun w _ => laidMetH Tryd.prog Rows.fnExactReportTextRow.laid w) (fun _ _ _ hh h => h.of_heap hh) own started (by kernel_rfl) Tryd.func5
    (ChangeSpec.witness_shaped (enc := enc) (C := Tryd.checked) (os := os) (X := fun w _ => laidMetH Tryd.prog Rows.fnExactReportTextRow.laid w) false (World.laidAll Tryd.prog os Rows.fnExactReportTextRow.laid) #[.slice none 0 0] 8 (World.laidAll_os _ _ _)
      (World.shaped_of_ZipB (by kernel_rfl) (by kernel_rfl)) (by kernel_rfl) (by kernel_rfl) (by kernel_rfl)
      (by rw [MakeChecks.laidMetH_plain _ _ _ (by kernel_rfl)]; exact laidMet_laidAll _ (by kernel_rfl) (by kernel_rfl))) ?_
  intro W base args ds gs before hval0 hW _ _ hL _
  have hval : ∀ (j : Nat) t v, Tryd.f5.params[j]? = some t → args[j]? = some v → Value.okWide Tryd.prog W .any base t v := hval0
  have hW' := hW
  obtain ⟨p, q, hA0, hV, rfl, hfz, hnd⟩ := hW
  have hA : DataW.TrodAll enc Tryd.prog W 0 (fun _ => true) true Tryd.f5.params.toList args.toList ds p := hA0
  rw [Tryd.params5] at hA hval
  rw [MakeChecks.laidMetH_plain _ _ _ (by kernel_rfl)] at hL
  obtain ⟨v0, vs0, d0, ds0, p0, q0, hargs, rfl, rfl, h0, r0⟩ := trodAll_cons hA
  obtain ⟨rfl, rfl, rfl⟩ := trodAll_nil r0
  obtain rfl : args = #[v0] := by cases args; simp_all
  clear hA0 hval0 hfz hnd hV
  obtain ⟨xs, hr, hlen⟩ := opened (hval 0 _ v0 rfl rfl) h0
  refine (walk xs _ W hr hlen (tab_of hL.tail.tail)).mono fun e W' ⟨he, hx⟩ => ?_
  subst he
  exact ⟨_, rfl, law_post laidOut (by rw [Tryd.params5]; simp only [List.forall_mem_cons, List.not_mem_nil, false_implies, implies_true, and_true]; repeat' apply And.intro; all_goals first | kernel_rfl | exact of_decide_eq_true (by kernel_rfl)) rfl Tryd.underlying4 rfl ⟨rfl, rfl, rfl⟩ hW' hx.below⟩
theorem holdsRow : Rows.FnExactReportTextSaid :=
  OpenClaim.holds_of_wide 5 Tryd.f5 rfl rfl rfl rfl rfl rfl rfl ⟨rfl, rfl, rfl, rfl, rfl⟩ rfl rfl rfl rfl rfl (by kernel_rfl) Tryd.func5 (by kernel_rfl)
    (of_decide_eq_true (by kernel_rfl)) (by unfold Func.isWrapper; first | (rw [if_pos (by decide +kernel)]; kernel_rfl) | (rw [if_neg (by decide +kernel)]; exact ⟨rfl, rfl⟩))
    (fun os started H enc _ => lifted os started H enc)
theorem proved : Rows.FnExactReportTextCardSaid :=
  Claim7.holds_tied_plain_at .later [] [.data, .data, .data] true (true, "b33e3068f1f3422f48b249451c9e0d731e8f6c4ea0a516469e8b49dc344cc0fa") false holdsRow (fun _ h => by cases h) (by kernel_rfl) (fun _ h => by cases h) fnExactReportText_row_tie rfl ⟨rfl, rfl⟩ (by kernel_rfl) rfl
    (fun f fn hf hfn => by
      obtain rfl : f = 5 := Option.some.inj ((show Tryd.prog.funcNamed "loop.example/g00840/laws.FnExactReportText" = some 5 by kernel_rfl).symm.trans hf) |>.symm
      obtain rfl : fn = Tryd.f5 := (Option.some.inj (Tryd.func5.symm.trans hfn)).symm
      exact ⟨by kernel_rfl, fun j t ht => by
        rw [Tryd.params5] at ht
        have hm : t ∈ [29] := by simpa using Array.mem_of_getElem? ht
        have hall : ([29].all fun u => !Tryd.prog.wantsStandIn u) = true := by kernel_rfl
        exact (show Tryd.prog.wantsStandIn t = false by simpa using List.all_eq_true.1 hall t hm)⟩)
    (by kernel_rfl)
#print axioms proved
end Go.Proofs.YtbencjbdbilmnaaDoor.xReportText
