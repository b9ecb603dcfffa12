/- The law of a parsed capture: the walk. The frame of a law's proof, where the world's shape is handed on too. -/
import Derived.Test.YtljknhocfjpolaaGreatDoorKWSg
import Derived.Test.YtljknhocfjpolaaGreatDoorKWPr
import Derived.Test.YtljknhocfjpolaaGreatDoorKWFCaptured
import Derived.Test.YtljknhocfjpolaaGreatDoorKit
import Derived.Handed
namespace Go.Proofs.YtljknhocfjpolaaGreatDoor
open Go.RowKit
set_option maxHeartbeats 1000000
set_option maxRecDepth 100000
theorem pcL_len (s : ByteArray) : (pcL (PC s)).length ≤ 10 := by
  cases h : PC s with
  | none => exact Nat.zero_le _
  | some xs => exact (cap_iff (PC_of h).1).1
theorem parseCapture_law (s : ByteArray) (w : World) (hv : Vrs w) (ht : Tab w) (hm : s.size ≤ maxLen) :
    Calls Tryz.prog 3 #[.string s] w fun e w' => e = .returned (.bool true) ∧ Ext w w' := by
  unfold maxLen at hm
  have HV := hid hv
  have HT := hid ht
  clear hv ht
  by_cases h2 : s.size ≤ 1048576
  · have t1 : decide ((1048576 : Int) < (s.size : Int)) = false := by simp; omega
    have cs := fun W => spec_ParseCapture s W h2
    have ci := fun W hv ht => impl_ParseCapture s W hv ht h2
    have hD0 := pcL_len s
    have hD : (pcL (PC s)).length ≤ 1048576 := by omega
    generalize pcL (PC s) = D at *
    generalize (PC s).isSome = b at *
    have tk : decide ((1 : Int) + 8 * D.length < 0) = false := by simp; omega
    go_enter Tryz.func3, Tryz.ntmps3
    (go_wp2_with fail)
    go_at_call 6; refine (cs _).mono ?_; rintro e w1 ⟨r1, rfl, ho1, hx1⟩
    (go_wp2_with fail)
    go_at_call 7; refine (ci _ (HV.out.ext hx1) (HT.out.ext hx1)).mono ?_; rintro e w2 ⟨r2, rfl, ho2, hx2⟩
    (go_wp2_with fail)
    have o1 := own_ext ho1 hx2
    go_at_call 8; refine (laws_eqCapturedS D _ _ _ (Rd.own ho2) (Rd.own o1) hD).mono ?_; rintro e w3 ⟨rfl, hx3⟩
    (go_wp2_with fail)
    have o2 := own_ext ho2 hx3
    have hl := own_row o2
    go_at_call 9; refine (laws_markCapturedS _ _ _ 1 _ _ o2 hD (by omega) (by omega)).mono ?_; rintro e w4 ⟨rfl, hm4, hg4⟩
    (go_wp2_with fail)
    go_at_call 10; refine (laws_heldCapturedS _ _ 1 _ (Rd.own hm4) hD (by decide) (by decide)).mono ?_; rintro e w5 ⟨rfl, hx5⟩
    (go_wp2_with fail)
    have X3 := (hx1.trans hx2).trans hx3
    have X4 := X3.grown hg4 (fun j hj => Nat.le_trans hx1.size (hl j hj).1)
    have X5 := X4.trans hx5
    have Y4 := (hx2.trans hx3).grown hg4 (fun j hj => (hl j hj).1)
    go_at_call 7; refine (ci _ (HV.out.ext X5) (HT.out.ext X5)).mono ?_; rintro e w6 ⟨r6, rfl, ho6, hx6⟩
    (go_wp2_with fail)
    have o6 := own_ext ho1 ((Y4.trans hx5).trans hx6)
    go_at_call 8; refine (laws_eqCapturedS D _ _ _ (Rd.own ho6) (Rd.own o6) hD).mono ?_; rintro e w7 ⟨rfl, hx7⟩
    (go_wp2_with fail)
    have m7 := own_ext hm4 ((hx5.trans hx6).trans hx7)
    go_at_call 10; refine (laws_heldCapturedS _ _ 1 _ (Rd.own m7) hD (by decide) (by decide)).mono ?_; rintro e w8 ⟨rfl, hx8⟩
    go_wp2
    go_returns
    exact ⟨rfl, ((X5.trans hx6).trans hx7).trans hx8⟩
  · have t1 : decide ((1048576 : Int) < (s.size : Int)) = true := by simp; omega
    go_enter Tryz.func3, Tryz.ntmps3
    go_wp2
    go_returns
    exact ⟨rfl, (by repeat' (first | exact Ext.refl _ | assumption | refine Ext.alloc ?_ _ | refine Ext.ext ?_ _ | refine Ext.drew ?_ | refine Ext.drewN ?_ _))⟩
end Go.Proofs.YtljknhocfjpolaaGreatDoor
namespace Go
section
variable {H : Type} {enc : TypeId × Value → H}
theorem returns_and_shaped {a : Assume} {C : Checked} {os : Os} {f : FuncId} {fn : Func} {s : ChangeSpec} {conds : List PathCond} {apart fresh handsOn again : Bool} {X : World → Array Value → Prop}
    (hX : ∀ (w w' : World) (args : Array Value), w.heap = w'.heap → X w args → X w' args)
    (own : ownKnob C.prog.godebug = none) (started : os.Started) (noInit : C.prog.inits.idxOf? f = none) (hfn : C.prog.funcs[f]? = some fn)
    (witness : ∃ (w : World) (tape : Tape) (i : Input), w.os = os ∧ (w.forCall tape i).Shaped C.prog ∧ i.vars = [] ∧ Input.okWide C.prog (w.forCall tape i) .any w.heap.size f i ∧
      ((s.pre enc C.prog fn conds apart (w.forCall tape i).memory i.args ∧ X (w.forCall tape i).memory i.args) ∧ sizedMet enc C.prog fn (OpenSpec.ofChange s) apart (w.forCall tape i).memory i.args) ∧ a.holds C.prog (lone (Frame.enter C.prog f i.args .normal) [] (w.forCall tape i)))
    (contract : ∀ (W : World) (base : Nat) (args : Array Value) (ds gs : List (DataW H)) (before : List MemPlace),
      (∀ (j : Nat) t v, fn.params[j]? = some t → args[j]? = some v → Value.okWide C.prog W .any base t v) →
      DataW.Whole enc C.prog fn.params.toList s.vars apart W args.toList ds gs before →
      conds.all (PathCond.test C.prog ⟨fn.params.toList, ds, s.plain.varTypes C.prog, gs⟩) = true →
      (DataW.weightsEach C.prog (fn.params.toList ++ s.plain.varTypes C.prog) (ds ++ gs)).all (· ≤ reachBytes) = true → X W args → W.ShapedOpen C.prog →
      a.holds C.prog (lone (Frame.enter C.prog f args .normal) [] W) →
      Calls C.prog f args W fun e W' => ∃ v, e = .returned v ∧ s.post enc C.prog fn apart fresh handsOn again W args v W') :
    ReturnsInHanded a C os f .any (fun w args => (s.pre enc C.prog fn conds apart w args ∧ X w args) ∧ sizedMet enc C.prog fn (OpenSpec.ofChange s) apart w args) (s.post enc C.prog fn apart fresh handsOn again) := by
  refine returnsInHanded_of_calls own started noInit witness ?_
  intro w tape i _ hsh _ hok hpre hholds
  obtain ⟨_, _, _, fn', hfn', _, _, _, _, hval⟩ := hok
  have e : fn' = fn := Option.some.inj (hfn'.symm.trans hfn)
  subst e
  obtain ⟨⟨⟨ds, gs, before, hw, hc⟩, hx⟩, hz⟩ := hpre
  have hw' := DataW.Whole.of_heap (w' := w.forCall tape i) (by rfl) hw
  refine (contract (w.forCall tape i) w.heap.size i.args ds gs before hval hw' hc (hz.weights hw) (hX _ _ _ (by rfl) hx) hsh hholds).mono fun e W' ⟨v, he, hp⟩ => ?_
  subst he
  exact ChangeSpec.post_blind hp
end
end Go
