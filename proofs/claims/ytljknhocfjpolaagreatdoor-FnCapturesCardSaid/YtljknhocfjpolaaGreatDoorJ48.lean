/- The plain law: the captures of all kinds, counted. FnCaptures: the kinds' loop, and the law's first paragraph. The frame of a law's proof, where the world's shape is handed on too. -/
import Derived.Test.YtljknhocfjpolaaGreatDoorJ29
import Derived.Test.YtljknhocfjpolaaGreatDoorJ47
import Derived.Test.YtljknhocfjpolaaGreatDoorKit
import Derived.Handed
namespace Go.Proofs.YtljknhocfjpolaaGreatDoor
set_option maxHeartbeats 1000000
/-- How many are of a kind below one. -/
def kN (xs : List Cap) (k : Int) : Nat := (xs.filter (fun x => decide (x.c < k))).length
theorem kN_step (xs : List Cap) (k : Int) : kN xs (k + 1) = kN xs k + (xs.filter (fun x => x.c == k)).length := by
  induction xs with
  | nil => rfl
  | cons x xs ih =>
    unfold kN at ih ⊢
    simp only [List.filter_cons]
    by_cases h1 : x.c < k
    · have h2 : x.c < k + 1 := by omega
      have h3 : (x.c == k) = false := by rw [beq_eq_false_iff_ne]; omega
      simp only [h1, h2, h3, decide_true, if_true, Bool.false_eq_true, if_false, List.length_cons]
      omega
    · by_cases h2 : x.c = k
      · have h4 : x.c < k + 1 := by omega
        have h3 : (x.c == k) = true := by rw [beq_iff_eq]; exact h2
        simp only [h1, h4, h3, decide_true, decide_false, if_true, Bool.false_eq_true, if_false, List.length_cons]
        omega
      · have h4 : ¬ x.c < k + 1 := by omega
        have h3 : (x.c == k) = false := by rw [beq_eq_false_iff_ne]; exact h2
        simp only [h1, h4, h3, decide_false, Bool.false_eq_true, if_false]
        exact ih
theorem kN_none {xs : List Cap} (h : ∀ x ∈ xs, 1 ≤ x.c) : kN xs 1 = 0 := by
  rw [kN, List.length_eq_zero_iff, List.filter_eq_nil_iff]
  intro x hx
  have := h x hx
  simp; omega
theorem kN_all {xs : List Cap} (h : ∀ x ∈ xs, x.c ≤ 5) : kN xs 6 = xs.length := by
  rw [kN]
  congr 1
  rw [List.filter_eq_self]
  intro x hx
  have := h x hx
  simp; omega
theorem kN_le (xs : List Cap) (k : Int) : kN xs k ≤ xs.length := List.length_filter_le _ _
end Go.Proofs.YtljknhocfjpolaaGreatDoor
namespace Go.Proofs.YtljknhocfjpolaaGreatDoor
open Go.RowKit
set_option maxHeartbeats 4000000
set_option maxRecDepth 100000
theorem pc_ct {xs : List Cap} (h : capB xs = true) : PC (ctT xs) = some xs := PC_some (isPC_iff.2 ⟨h, (ct_yes h).symm⟩)
theorem kind_bd {xs : List Cap} (h : capB xs = true) : ∀ x ∈ xs, 1 ≤ x.c ∧ x.c ≤ 5 := fun x hx => by
  have h1 := (okC_parts (okC_of h x hx)).2.2
  rw [okPk, Bool.and_eq_true] at h1
  have h2 := h1.1
  unfold inB at h2
  exact of_decide_eq_true h2
theorem kinds_law {xs : List Cap} (h : capB xs = true) : kN xs 1 = 0 ∧ kN xs 6 = xs.length ∧ xs.length ≤ 10 ∧ ∀ k : Int, 1 ≤ k → k ≤ 5 → inB k 1 5 = true ∧ selD xs (inB k 1 5) (fun x : Cap => x.c == k) = xs.filter (fun x : Cap => x.c == k) :=
  ⟨kN_none fun x hx => (kind_bd h x hx).1, kN_all fun x hx => (kind_bd h x hx).2, (cap_iff h).1, fun k h1 h2 => by
    have hi : inB k 1 5 = true := by simp [inB]; omega
    exact ⟨hi, by rw [selD, h, hi]; rfl⟩⟩
-- part 3
theorem csq_p3 {bs : List Int} (hb : Bts bs) {p : Option Addr} {cap : Nat} {w : World} (Hr : Hid (Rd w 1 (.slice p bs.length cap) bs.length (vBytes bs))) (hn : Hid (CsTail 32 p bs.length cap w)) : CsTail 16 p bs.length cap w := by
  intro a wc hx h1 h2 h3
  obtain ⟨u, rfl⟩ := frame218 a _ h1 h2 h3
  clear h1 h2 h3
  have HY := hid hx
  clear hx
  have dd := hid (fun w h => spec_DrawOfKind hb (v := .slice p bs.length cap) w h)
  clear hb
  unfold csTl CsPost
  conv => arg 2; whnf
  go_wp2_with fail
  go_at_call 18
  refine (dd.out _ (Hr.out.ext HY.out)).mono ?_
  rintro e w1 ⟨g, gc, xs, q, rfl, hA, hx⟩
  have L0 := hid (And.intro (HY.out.trans hx) hA)
  have ci := hid (fun W h => impl_OfKind xs g 0 (qc := gc) q W h hA.1.2.len hA.1.2.chars)
  have ck := hid (fun k W h => impl_OfKind xs g 0 (qc := gc) k W h hA.1.2.len hA.1.2.chars)
  have cs := hid (fun W h => spec_OfKind xs (.slice (some ⟨g, 0, none⟩) xs.length gc) q W h hA.1.2.len hA.1.2.chars)
  have hle := Nat.le_trans (selD_le xs (inB q 1 5) (fun x : Cap => x.c == q)) hA.1.2.len
  have cr := hid (fun v u W h k => laws_rCaptures (selD xs (inB q 1 5) (fun x : Cap => x.c == q)) v u W h k hle)
  have law := hid (fun h => kinds_law (xs := xs) h)
  generalize selD xs (inB q 1 5) (fun x : Cap => x.c == q) = D at *
  generalize inB q 1 5 = Q at *
  clear hA hx HY dd hle
  go_wp2_with fail
  go_at_call 19
  refine (ci.out _ L0.out.2.2).mono ?_
  rintro e w2 ⟨r, rfl, ho, hx⟩
  obtain ⟨rp, rc, rfl⟩ := own_shape ho
  have L1 := hid (And.intro (L0.out.1.trans hx) (And.intro (L0.out.2.ext hx) (Rd.own ho)))
  clear hx ho L0 ci
  go_wp2_with fail
  go_at_call 20
  refine (cs.out _ L1.out.2.1.2).mono ?_
  rintro e w3 ⟨r2, rfl, ho, hx⟩
  obtain ⟨sp, sc, rfl⟩ := own_shape ho
  have L2 := hid (And.intro (L1.out.1.trans hx) (And.intro (L1.out.2.1.ext hx) (And.intro (L1.out.2.2.ext hx) (Rd.own ho))))
  clear hx ho L1 cs
  go_wp2_with fail
  go_at_call 16
  refine (cr.out _ _ _ L2.out.2.2.1 L2.out.2.2.2).mono ?_
  rintro e w4 ⟨rfl, hx⟩
  have L3 := hid (And.intro (L2.out.1.trans hx) (L2.out.2.1.ext hx))
  clear hx L2 cr
  cases hB : (capB xs && Q)
  · clear law ck hB
    go_upto_if 128 with fail
    go_cut [] from 3 (fun wc => Ext w wc)
    case first =>
      go_wp2_with fail
      go_meet
      exact L3.out.1
    case rest =>
      go_step
      exact hn.out _ _ hcut rfl rfl rfl
  obtain ⟨l1, l6, l10, lk⟩ := law.out (Bool.and_eq_true_iff.1 hB).1
  rw [(Bool.and_eq_true_iff.1 hB).1] at ck
  have Lk := hid lk
  have L1' := hid l1
  have L6 := hid l6
  have hst := hid (kN_step xs)
  have hkl := hid (kN_le xs)
  clear law hB lk l1 l6
  go_upto_if 128 with fail
  go_cut [] from 3 (fun wc => Ext w wc)
  case first =>
    go_wp2_with fail
    go_loopw [22, 21] (fun v22 v21 wr => ∃ (k n : Int) (yr : World), (1 ≤ k ∧ k ≤ 6) ∧ v22 = .int .i64 k ∧ v21 = .int .i64 n ∧ yr = wr ∧ Hid (n = kN xs k) ∧ Hid (Ext w4 yr)) (fun v22 _ _ => (6 - intOf v22).toNat)
    case atStart => exact ⟨1, 0, _, by omega, rfl, rfl, rfl, by rw [L1'.out]; rfl, Ext.refl _⟩
    case round =>
      obtain ⟨k, n, wr, hk, rfl, rfl, rfl, Hn, HS⟩ := hrel
      by_cases hlt : k ≤ 5
      · obtain ⟨k1, k2⟩ := Lk.out k hk.1 hlt
        have c := ck.out k
        rw [k2, k1, show (true && true) = true from rfl] at c
        have C := hid c
        have hs := hst.out k
        have hb1 := hkl.out k
        have hb2 := hkl.out (k + 1)
        have hn := Hn.out
        generalize xs.filter (fun x : Cap => x.c == k) = F at *
        have e1 : IntKind.i64.wrap (k + 1) = k + 1 := IntWalk.i64_in _ (by omega)
        have e2 : IntKind.i64.wrap (n + (F.length : Int)) = n + (F.length : Int) := IntWalk.i64_in _ (by omega)
        have E3 : Hid (n + (F.length : Int) = kN xs (k + 1)) := by
          show _ = _
          omega
        clear c k1 k2 hs hb1 hb2 hn Hn
        go_wp2_with fail
        go_at_call 19
        refine (C.out _ (L3.out.2.ext HS.out).2).mono ?_
        rintro e w5 ⟨r5, rfl, ho, hx⟩
        obtain ⟨rp5, rc5, rfl⟩ := own_shape ho
        have HX := hid (HS.out.trans hx)
        clear ho hx C HS
        go_wp2
        go_roundw
        case rel => exact ⟨k + 1, _, _, by omega, rfl, rfl, rfl, E3, HX⟩
        case measure => simp [intOf]; omega
      · obtain rfl : k = 6 := by omega
        have hn := Hn.out
        rw [L6.out] at hn
        subst hn
        have HX := hid (L3.out.1.trans HS.out)
        go_wp2_with fail
        go_meet
        exact HX.out
  case rest =>
    go_step
    exact hn.out _ _ hcut rfl rfl rfl
theorem csq_law (bs : List Int) (v : Value) (w : World) (hv : Vrs w) (ht : Tab w) (h : Rd w 1 v bs.length (vBytes bs)) (hm : bs.length ≤ maxLen) (hbb : ∀ x ∈ bs, 0 ≤ x ∧ x ≤ 255) :
    Calls Tryz.prog 4 #[v] w fun e w' => e = .returned (.bool true) ∧ Ext w w' := by
  have Hr := hid h
  have Hv := hid hv
  have Ht := hid ht
  clear hv ht
  unfold maxLen at hm
  obtain ⟨-, p, cap, rfl, -⟩ := h
  by_cases h2 : 65536 < bs.length
  · have t0 : (65536 : Int) < (bs.length : Int) := by omega
    go_enter Tryz.func4, Tryz.ntmps4
    go_wp2
    go_ret
    exact ⟨rfl, (by repeat' (first | exact Ext.refl _ | assumption | refine Ext.alloc ?_ _ | refine Ext.ext ?_ _ | refine Ext.drew ?_ | refine Ext.drewN ?_ _))⟩
  have hb : Bts bs := ⟨by omega, hbb⟩
  have dd := hid (fun w h => spec_DrawCaptureText hb (v := .slice p bs.length cap) w h)
  have hn : Hid (CsTail 11 p bs.length cap w) := csq_p2 hb Hv Ht Hr (csq_p3 hb Hr (csq_p4 hb Hr (csq_p5 hb Hr)))
  clear hb hbb
  go_enter Tryz.func4, Tryz.ntmps4
  go_wp2_with fail
  go_at_call 11
  refine (laws_rBig bs.length p cap _).mono ?_
  rintro e w' ⟨rfl, rfl⟩
  have t1 : decide ((65536 : Int) < (bs.length : Int)) = false := by simp; omega
  go_wp2_with fail
  go_at_call 12
  refine (dd.out _ Hr.out).mono ?_
  rintro e w1 ⟨g, gc, xs, rfl, hR, hx⟩
  have L0 := hid (And.intro hx hR)
  have ci := hid (fun W h ht => impl_CaptureText xs (.slice (some ⟨g, 0, none⟩) xs.length gc) W h hR.1.2.len hR.1.2.chars ht)
  have cs := hid (fun W h => spec_CaptureText xs (.slice (some ⟨g, 0, none⟩) xs.length gc) W h hR.1.2.len hR.1.2.chars)
  have cv := hid (fun W h => impl_IsCapture xs (.slice (some ⟨g, 0, none⟩) xs.length gc) W h hR.1.2.len hR.1.2.chars)
  have hz := ctT_size xs
  have cp := hid (fun W hv ht => impl_ParseCapture (ctT xs) W hv ht (by omega))
  have cr := hid (fun v u W h k => laws_rCaptures xs v u W h k hR.1.2.len)
  have law := hid (pc_ct (xs := xs))
  clear hR hx dd t1 hz
  generalize ctT xs = S at *
  go_wp2_with fail
  go_at_call 13
  refine (ci.out _ L0.out.2.2 (Ht.out.ext L0.out.1)).mono ?_
  rintro e w2 ⟨rfl, hx⟩
  have L1 := hid (And.intro (L0.out.1.trans hx) (L0.out.2.ext hx))
  clear hx L0 ci
  go_wp2_with fail
  go_at_call 14
  refine (cs.out _ L1.out.2.2).mono ?_
  rintro e w3 ⟨rfl, hx⟩
  have L2 := hid (And.intro (L1.out.1.trans hx) (L1.out.2.ext hx))
  clear hx L1 cs
  cases hB : capB xs
  · rw [hB] at cv
    clear law cr hB
    generalize pcL (PC S) = D at *
    generalize (PC S).isSome = B at *
    go_wp2_with fail
    go_at_call 15
    refine (cv.out _ L2.out.2.2).mono ?_
    rintro e w4 ⟨rfl, hx⟩
    have L3 := hid (L2.out.1.trans hx)
    clear hx L2 cv
    go_wp2_with fail
    go_at_call 7
    refine (cp.out _ (Hv.out.ext L3.out) (Ht.out.ext L3.out)).mono ?_
    rintro e w5 ⟨r, rfl, ho, hx⟩
    obtain ⟨rp, rc, rfl⟩ := own_shape ho
    have L4 := hid (L3.out.trans hx)
    clear hx ho L3 cp
    go_upto_if 80 with fail
    go_cut [] from 3 (fun wc => Ext w wc)
    case first =>
      go_wp2_with fail
      go_meet
      exact L4.out
    case rest =>
      go_step
      exact hn.out _ _ hcut rfl rfl rfl
  · have hP := law.out hB
    rw [hP] at cp
    have cq : Hid (∀ W, Vrs W → Tab W → Calls Tryz.prog 7 #[.string S] W fun e w' => ∃ r, e = .returned (.tuple #[r, .bool true]) ∧ w'.ownsRow W.heap.size 48 8 r xs.length (xs.flatMap Cap.cs) ∧ Ext W w') := cp
    rw [hB] at cv
    clear law hP hB cp
    go_wp2_with fail
    go_at_call 15
    refine (cv.out _ L2.out.2.2).mono ?_
    rintro e w4 ⟨rfl, hx⟩
    have L3 := hid (And.intro (L2.out.1.trans hx) (L2.out.2.ext hx))
    clear hx L2 cv
    go_wp2_with fail
    go_at_call 7
    refine (cq.out _ (Hv.out.ext L3.out.1) (Ht.out.ext L3.out.1)).mono ?_
    rintro e w5 ⟨r, rfl, ho, hx⟩
    obtain ⟨rp, rc, rfl⟩ := own_shape ho
    have L4 := hid (And.intro (L3.out.1.trans hx) (And.intro (L3.out.2.ext hx) (Rd.own ho)))
    clear hx ho L3 cq
    go_wp2_with fail
    go_at_call 16
    refine (cr.out _ _ _ L4.out.2.2 L4.out.2.1.2).mono ?_
    rintro e w6 ⟨rfl, hx⟩
    have L5 := hid (L4.out.1.trans hx)
    clear hx L4 cr
    go_upto_if 80 with fail
    go_cut [] from 3 (fun wc => Ext w wc)
    case first =>
      go_wp2_with fail
      go_meet
      exact L5.out
    case rest =>
      go_step
      exact hn.out _ _ hcut rfl rfl rfl
end Go.Proofs.YtljknhocfjpolaaGreatDoor
namespace Go
section
variable {H : Type} {enc : TypeId × Value → H}
theorem returns_and_shaped {a : Assume} {C : Checked} {os : Os} {f : FuncId} {fn : Func} {s : ChangeSpec} {conds : List PathCond} {apart fresh handsOn again : Bool} {X : World → Array Value → Prop}
    (hX : ∀ (w w' : World) (args : Array Value), w.heap = w'.heap → X w args → X w' args)
    (own : ownKnob C.prog.godebug = none) (started : os.Started) (noInit : C.prog.inits.idxOf? f = none) (hfn : C.prog.funcs[f]? = some fn)
    (witness : ∃ (w : World) (tape : Tape) (i : Input), w.os = os ∧ (w.forCall tape i).Shaped C.prog ∧ i.vars = [] ∧ Input.okWide C.prog (w.forCall tape i) .any w.heap.size f i ∧
      ((s.pre enc C.prog fn conds apart (w.forCall tape i).memory i.args ∧ X (w.forCall tape i).memory i.args) ∧ sizedMet enc C.prog fn (OpenSpec.ofChange s) apart (w.forCall tape i).memory i.args) ∧ a.holds C.prog (lone (Frame.enter C.prog f i.args .normal) [] (w.forCall tape i)))
    (contract : ∀ (W : World) (base : Nat) (args : Array Value) (ds gs : List (DataW H)) (before : List MemPlace),
      (∀ (j : Nat) t v, fn.params[j]? = some t → args[j]? = some v → Value.okWide C.prog W .any base t v) →
      DataW.Whole enc C.prog fn.params.toList s.vars apart W args.toList ds gs before →
      conds.all (PathCond.test C.prog ⟨fn.params.toList, ds, s.plain.varTypes C.prog, gs⟩) = true →
      (DataW.weightsEach C.prog (fn.params.toList ++ s.plain.varTypes C.prog) (ds ++ gs)).all (· ≤ reachBytes) = true → X W args → W.ShapedOpen C.prog →
      a.holds C.prog (lone (Frame.enter C.prog f args .normal) [] W) →
      Calls C.prog f args W fun e W' => ∃ v, e = .returned v ∧ s.post enc C.prog fn apart fresh handsOn again W args v W') :
    ReturnsInHanded a C os f .any (fun w args => (s.pre enc C.prog fn conds apart w args ∧ X w args) ∧ sizedMet enc C.prog fn (OpenSpec.ofChange s) apart w args) (s.post enc C.prog fn apart fresh handsOn again) := by
  refine returnsInHanded_of_calls own started noInit witness ?_
  intro w tape i _ hsh _ hok hpre hholds
  obtain ⟨_, _, _, fn', hfn', _, _, _, _, hval⟩ := hok
  have e : fn' = fn := Option.some.inj (hfn'.symm.trans hfn)
  subst e
  obtain ⟨⟨⟨ds, gs, before, hw, hc⟩, hx⟩, hz⟩ := hpre
  have hw' := DataW.Whole.of_heap (w' := w.forCall tape i) (by rfl) hw
  refine (contract (w.forCall tape i) w.heap.size i.args ds gs before hval hw' hc (hz.weights hw) (hX _ _ _ (by rfl) hx) hsh hholds).mono fun e W' ⟨v, he, hp⟩ => ?_
  subst he
  exact ChangeSpec.post_blind hp
end
end Go
