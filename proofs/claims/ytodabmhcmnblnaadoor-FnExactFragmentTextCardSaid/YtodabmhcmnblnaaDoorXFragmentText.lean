/- The law FnExactFragmentText. -/
import Derived.Test.YtodabmhcmnblnaaDoorWFra2
import Derived.Test.YtodabmhcmnblnaaDoorRows
import Derived.Test.YtodabmhcmnblnaaDoorTie
import Derived.Test.YtodabmhcmnblnaaDoorCards
import Derived.Lay
import Derived.SevenTiedAt
namespace Go.Proofs.YtodabmhcmnblnaaDoor.xFragmentText
open Go.ChangeShapes Go.WideShapes Go.ChangeAt Go.RowKit
set_option maxHeartbeats 400000
set_option maxRecDepth 100000
theorem walk (n p q : Int) (d : ByteArray) (w : World) (hd : d.size ≤ maxLen) :
    Calls Tryd.prog 6 #[.agg #[.int .i64 n, .int .i64 p, .int .i64 q, .string d]] w fun e w' => e = .returned (.bool true) ∧ Ext w w' := by
  by_cases h : d.size ≤ 1048576
  · have hs := hid (fun w => laws_szFragment n p q d 1048576 w (by omega) (by decide))
    have t0 : decide ((1048576 : Int) - d.size < 0) = false := by simp; omega
    have c1 := hid (fun w => laws_toFragment n p q d w)
    have c2 := hid (fun w => spec_FragmentText n p q d w h)
    have c3 := hid (fun w => impl_FragmentText n p q d w h)
    generalize ftT ⟨n, p, q, d⟩ = T at *
    generalize okF ⟨n, p, q, d⟩ = b at *
    go_enter Tryd.func6, Tryd.ntmps6
    go_wp2_with (first | (go_at_call 12; refine (hs.out _).mono ?_; rintro e w' ⟨rfl, z1, rfl⟩) | (go_at_call 14; refine (c1.out _).mono ?_; rintro e w' ⟨rfl, z1, rfl⟩) | (go_at_call 26; refine (c2.out _).mono ?_; rintro e w' ⟨rfl, z1, rfl⟩) | (go_at_call 27; refine (c3.out _).mono ?_; rintro e w' ⟨rfl, z1, rfl⟩))
    go_returns
    exact ⟨rfl, (by repeat' (first | exact Ext.refl _ | assumption | refine Ext.alloc ?_ _ | refine Ext.ext ?_ _ | refine Ext.drew ?_ | refine Ext.drewN ?_ _))⟩
  · have hs := hid (fun w => laws_szFragment_big n p q d 1048576 w (by omega) ⟨by decide, by decide, hd⟩)
    go_enter Tryd.func6, Tryd.ntmps6
    go_wp2_with (go_at_call 12; refine (hs.out _).mono ?_; rintro e w' ⟨rfl, z1, rfl⟩)
    go_returns
    exact ⟨rfl, (by repeat' (first | exact Ext.refl _ | assumption | refine Ext.alloc ?_ _ | refine Ext.ext ?_ _ | refine Ext.drew ?_ | refine Ext.drewN ?_ _))⟩
theorem opened {H : Type} {enc : TypeId × Value → H} {W : World} {v : Value} {d : DataW H} {ps : List MemPlace} {r : Reach} {b : Nat} (hval : Value.okWide Tryd.prog W r b 23 v)
    (h : DataW.Trod enc Tryd.prog W 0 (fun _ => true) true 23 v d ps) : ∃ x : Fra, v = .agg x.cs.toArray ∧ x.d.size ≤ maxLen := by
  obtain ⟨cs, rfl, -, -⟩ : ∃ cs, v = .agg cs ∧ cs.size = Tryd.prog.cellsOf 23 ∧ Row.okWide Tryd.prog W r b 23 cs := by
    simpa only [Value.okWide, Tryd.underlying23] using hval
  obtain ⟨fuel, h⟩ := h
  have h2 := cks_of_trod 3 _ [.i .i64, .i .i64, .i .i64, .s] _ _ _ (by kernel_rfl) h
  obtain ⟨l⟩ := cs
  obtain ⟨a, b, c, d, rfl, ⟨a, rfl, -⟩, ⟨b, rfl, -⟩, ⟨c, rfl, -⟩, ⟨d, rfl, hd⟩⟩ := h2.four
  exact ⟨⟨a, b, c, d⟩, rfl, hd⟩
theorem own : ownKnob Tryd.prog.godebug = none := by kernel_rfl
theorem laidOut : laidOutB Tryd.prog = true := by kernel_rfl
set_option maxRecDepth 100000 in
theorem lifted (os : Os) (started : os.Started) (H : Type) (enc : TypeId × Value → H) :
    ReturnsInHanded {} Tryd.checked os 6 .any (fun w args => (Rows.fnExactFragmentTextSpec.pre enc Tryd.prog Tryd.f6 [] false w args ∧ laidMetH Tryd.prog Rows.fnExactFragmentTextRow.laid w) ∧ sizedMet enc Tryd.prog Tryd.f6 (OpenSpec.ofChange Rows.fnExactFragmentTextSpec) false w args)
      (Rows.fnExactFragmentTextSpec.post enc Tryd.prog Tryd.f6 false true false false) := by
  refine returnsInHanded_of_change_and (C := Tryd.checked) (X := fun w _ => laidMetH Tryd.prog Rows.fnExactFragmentTextRow.laid w) (fun _ _ _ hh h => h.of_heap hh) own started (by kernel_rfl) Tryd.func6
    (ChangeSpec.witness_shaped (enc := enc) (C := Tryd.checked) (os := os) (X := fun w _ => laidMetH Tryd.prog Rows.fnExactFragmentTextRow.laid w) false (World.laidAll Tryd.prog os Rows.fnExactFragmentTextRow.laid) #[.agg #[.int .i64 0, .int .i64 0, .int .i64 0, .string ⟨#[]⟩]] 8 (World.laidAll_os _ _ _)
      (World.shaped_of_ZipB (by kernel_rfl) (by kernel_rfl)) (by kernel_rfl) (by kernel_rfl) (by kernel_rfl)
      (by rw [MakeChecks.laidMetH_plain _ _ _ (by kernel_rfl)]; exact laidMet_laidAll _ (by kernel_rfl) (by kernel_rfl))) ?_
  intro W base args ds gs before hval0 hW _ _ hL _
  have hval : ∀ (j : Nat) t v, Tryd.f6.params[j]? = some t → args[j]? = some v → Value.okWide Tryd.prog W .any base t v := hval0
  have hW' := hW
  obtain ⟨p, q, hA0, hV, rfl, hfz, hnd⟩ := hW
  have hA : DataW.TrodAll enc Tryd.prog W 0 (fun _ => true) true Tryd.f6.params.toList args.toList ds p := hA0
  rw [Tryd.params6] at hA hval
  rw [MakeChecks.laidMetH_plain _ _ _ (by kernel_rfl)] at hL
  obtain ⟨v0, vs0, d0, ds0, p0, q0, hargs, rfl, rfl, h0, r0⟩ := trodAll_cons hA
  obtain ⟨rfl, rfl, rfl⟩ := trodAll_nil r0
  obtain rfl : args = #[v0] := by cases args; simp_all
  clear hA0 hval0 hfz hnd hV
  obtain ⟨x, rfl, hd⟩ := opened (hval 0 _ v0 rfl rfl) h0
  refine (walk x.n x.p x.q x.d W hd).mono fun e W' ⟨he, hx⟩ => ?_
  subst he
  exact ⟨_, rfl, law_post laidOut (by rw [Tryd.params6]; simp only [List.forall_mem_cons, List.not_mem_nil, false_implies, implies_true, and_true]; repeat' apply And.intro; all_goals first | kernel_rfl | exact of_decide_eq_true (by kernel_rfl)) rfl Tryd.underlying4 rfl ⟨rfl, rfl, rfl⟩ hW' hx.below⟩
theorem holdsRow : Rows.FnExactFragmentTextSaid :=
  OpenClaim.holds_of_wide 6 Tryd.f6 rfl rfl rfl rfl rfl rfl rfl ⟨rfl, rfl, rfl, rfl, rfl⟩ rfl rfl rfl rfl rfl (by kernel_rfl) Tryd.func6 (by kernel_rfl)
    (of_decide_eq_true (by kernel_rfl)) (by unfold Func.isWrapper; first | (rw [if_pos (by decide +kernel)]; kernel_rfl) | (rw [if_neg (by decide +kernel)]; exact ⟨rfl, rfl⟩))
    (fun os started H enc _ => lifted os started H enc)
theorem proved : Rows.FnExactFragmentTextCardSaid :=
  Claim7.holds_tied_plain_at .later [] [.data, .data, .data, .data, .pinned] true (true, "4b97d6b7be869a40307f299845fa46d4d54e6c43207a6bf38794ee6245c10d29") true holdsRow (fun _ h => by cases h) (by kernel_rfl) (fun _ h => by cases h) fnExactFragmentText_row_tie rfl ⟨rfl, rfl⟩ (by kernel_rfl) rfl
    (fun f fn hf hfn => by
      obtain rfl : f = 6 := Option.some.inj ((show Tryd.prog.funcNamed "loop.example/g00840/laws.FnExactFragmentText" = some 6 by kernel_rfl).symm.trans hf) |>.symm
      obtain rfl : fn = Tryd.f6 := (Option.some.inj (Tryd.func6.symm.trans hfn)).symm
      exact ⟨by kernel_rfl, fun j t ht => by
        rw [Tryd.params6] at ht
        have hm : t ∈ [23] := by simpa using Array.mem_of_getElem? ht
        have hall : ([23].all fun u => !Tryd.prog.wantsStandIn u) = true := by kernel_rfl
        exact (show Tryd.prog.wantsStandIn t = false by simpa using List.all_eq_true.1 hall t hm)⟩)
    (by kernel_rfl)
#print axioms proved
end Go.Proofs.YtodabmhcmnblnaaDoor.xFragmentText
