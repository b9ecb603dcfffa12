/- What the law of branches draws: trees and groups. -/
import Derived.Test.YtlaochpkelbchaaGreatDoorKWCurK
import Derived.Deep.DeepCutAuto
namespace Go.Proofs.YtlaochpkelbchaaGreatDoor
open Go.RowKit
set_option maxHeartbeats 4000000
set_option maxRecDepth 100000
theorem own_rdB {W0 W : World} {u : Value} {ms : List Int} {e : Nat} {lo : Nat} (hl : W0.heap.size ≤ lo) (ho : W.ownsRow lo e 1 u ms.length (vInts ms)) : RdB W W0.heap.size u ms.length (vInts ms) := (RdB.own ho).low hl
theorem tgt_mk {w W0 w1 : World} {v : Value} {bs ps : List Int} {A n : Nat} {p : Option Addr} {cap : Nat} (h : TGP w W0 w1 v bs A) (hn : ps.length = n) (hb : ps.length ≤ 9) (ho : w1.ownsRow W0.heap.size 3 1 (.slice p n cap) n (vInts ps)) :
    TGT w W0 (w1.alloc (.cells #[.slice p n cap] 26)) v bs A w1.heap.size (.slice p n cap) ps := by
  subst hn
  have hx1 : Ext w1 (w1.alloc (.cells #[.slice p ps.length cap] 26)) := (by repeat' (first | exact Ext.refl _ | assumption | refine Ext.alloc ?_ _ | refine Ext.ext ?_ _ | refine Ext.drew ?_ | refine Ext.drewN ?_ _))
  exact ⟨h.ext hx1, h.low.2, heap_at _ rfl, hb, (RdB.own ho).ext hx1⟩
theorem TGP.more2 {w W0 W : World} {v : Value} {bs : List Int} {A A' : Nat} (h : TGP w W0 W v bs A) (hA : A ≤ A') : TGP w W0 W v bs A' := ⟨⟨h.1.1.more hA, h.1.2⟩, h.2⟩
theorem tgs_mk {w W0 w1 : World} {v t u : Value} {bs ps ms : List Int} {A T : Nat} {s : ByteArray} (h : TGT w W0 w1 v bs A T t ps) (hs : s.size ≤ 9) (hm : ms.length ≤ 21) (hr : RdB w1 W0.heap.size u ms.length (vInts ms)) :
    TGS w W0 (w1.alloc (.cells #[.string s, u] 28)) v bs A T w1.heap.size t s u ps ms := by
  have hx1 : Ext w1 (w1.alloc (.cells #[.string s, u] 28)) := (by repeat' (first | exact Ext.refl _ | assumption | refine Ext.alloc ?_ _ | refine Ext.ext ?_ _ | refine Ext.drew ?_ | refine Ext.drewN ?_ _))
  exact ⟨h.ext hx1, h.1.low.2, heap_at _ rfl, ⟨hs, hm⟩, hr.ext hx1⟩
theorem tgs_set {w W0 wc w5 : World} {v t u : Value} {bs ps ms : List Int} {A A' T X : Nat} {s : ByteArray} (h : TGT w W0 wc v bs A T t ps) (hG : wc.grownBy w5 (some (w.heap.size + 2))) (hc : Cs w5 w.heap.size (w.heap.size + 2) v bs A') (hX : wc.heap.size ≤ X)
    (hx : w5.heap[X]? = some (.cells #[.string ⟨#[]⟩, .slice none 0 0] 28 (0, 0))) (hs : s.size ≤ 9) (hm : ms.length ≤ 21) (hu : RdB w5 (X + 1) u ms.length (vInts ms)) :
    TGS w W0 ((w5.setCell ⟨X, 0, none⟩ (.string s)).setCell ⟨X, 1, none⟩ u) v bs A' T X t s u ps ms := by
  have hl := h.1.low
  have D : Dr wc w5 w.heap.size (w.heap.size + 2) v bs A' := ⟨hc, hG, by omega, by omega⟩
  have D2 := (D.set (p := ⟨X, 0, none⟩) hX (.string s)).set (p := ⟨X, 1, none⟩) hX u
  have h1 := hu.away (grownBy_set w5 ⟨X, 0, none⟩ (.string s)) (fun b o m c e hm e2 => by have := hu.2 b o m c e hm; have e3 : X = b := Option.some.inj e2; omega)
  have h2 := h1.away (grownBy_set _ ⟨X, 1, none⟩ u) (fun b o m c e hm e2 => by have := hu.2 b o m c e hm; have e3 : X = b := Option.some.inj e2; omega)
  exact ⟨h.step D2.1 D2.2.1, by omega, box2_set hx _ _, ⟨hs, hm⟩, h2.low (by omega)⟩
theorem cell_far2 {W : World} {T X : Nat} {a b c : Value} (h : W.cell? ⟨T, 0, none⟩ = some c) (hne : T ≠ X) : ((W.setCell ⟨X, 0, none⟩ a).setCell ⟨X, 1, none⟩ b).cell? ⟨T, 0, none⟩ = some c := by
  have g1 := (grownBy_set W ⟨X, 0, none⟩ a).cell h (fun e => hne (Option.some.inj e))
  exact (grownBy_set _ ⟨X, 1, none⟩ b).cell g1 (fun e => hne (Option.some.inj e))
theorem spec_DrawNodesFor {bs : List Int} (hb : Bts bs) {v : Value} (w : World) (h : Rd w 1 v bs.length (vBytes bs)) :
    Calls Tryz.prog 5 #[v] w fun e w' => ∃ (t : Value) (s : ByteArray) (u : Value) (ps ms : List Int), e = .returned (.tuple #[.agg #[t], .agg #[.string s, u]]) ∧ TGo w' t s u ps ms ∧ Ext w w' := by
  have H0 := hid (tg_start h)
  have Hb := hid hb
  obtain ⟨-, p, cap, rfl, -⟩ := h
  clear hb
  go_enter Tryz.func5, Tryz.ntmps5
  go_wp2_with fail
  go_at_call 19
  change Calls _ _ _ (G3 w (.slice p bs.length cap)) _
  generalize G3 w (.slice p bs.length cap) = W0 at *
  refine (spec_tree Hb.out _ H0.out.1.1.1 (by omega)).mono ?_
  rintro e w1 ⟨r, ps, rfl, hp2, hp8, ho, hc, hg⟩
  obtain ⟨tp, tc, rfl⟩ := own_shape ho
  have H1 := hid (tgt_mk (H0.out.step hc hg) rfl (by omega) ho)
  clear hc hg H0 ho
  have hT : W0.heap.size ≤ w1.heap.size := H1.out.2.1
  go_wp2_with fail
  generalize (w1.alloc (.cells #[.slice tp ps.length tc] 26)) = V at *
  generalize w1.heap.size = T at *
  go_at_call 20
  refine (spec_one Hb.out 12 _ H1.out.1.1.1.1 (by omega) (by omega)).mono ?_
  rintro e w2 ⟨y, rfl, hc, hg⟩
  have H2 := hid (H1.out.step hc hg)
  clear hc hg H1
  go_upto_if 13 with fail
  go_cut [] from 10 (fun wc => ∃ (t : Value) (qs : List Int), Hid (TGT w W0 wc (.slice p bs.length cap) bs 60 T t qs))
  case first =>
    cases y
    · go_wp2_with fail
      go_meet
      exact ⟨_, ps, H2.out.1.more2 (by omega), H2.out.2⟩
    · go_wp2_with fail
      go_at_call 21
      refine (spec_anyTree Hb.out _ H2.out.1.1.1.1 (by omega)).mono ?_
      rintro e w3 ⟨r, qs, rfl, hq9, ho, hc, hg⟩
      obtain ⟨qp, qc, rfl⟩ := own_shape ho
      have hTw : T < w2.heap.size := (Array.getElem?_eq_some_iff.1 H2.out.2.2.1).1
      have H3 := hid (H2.out.step hc hg)
      have H4 := hid (TGT.put (t' := .slice qp qs.length qc) H3.out hq9 ((RdB.own ho).low (by omega)))
      obtain ⟨b0, f0, hTb⟩ := box1 H3.out.2.2.1
      clear hc hg H2 ho
      go_wp2_with fail
      go_meet
      exact ⟨_, qs, H4.out.1.more2 (by omega), H4.out.2⟩
  case rest =>
    obtain ⟨t, qs, HC⟩ := hcut
    obtain ⟨qp, qc, rfl⟩ := rdbForm HC.out.2.2.2.2
    have hgn : Hid (∀ (A : Nat) (W : World), A ≤ 1000 → TGT w W0 W (.slice p bs.length cap) bs A T (.slice qp qs.length qc) qs → Calls Tryz.prog 22 #[.pointer (some ⟨w.heap.size + 1 + 1, 0, none⟩)] W fun e w' => ∃ s : ByteArray, e = .returned (.string s) ∧ s.size ≤ 9 ∧ TGT w W0 w' (.slice p bs.length cap) bs (A + 2) T (.slice qp qs.length qc) qs ∧ W.grownBy w' (some (w.heap.size + 2))) := fun A W hA h => (spec_groupName Hb.out (lo := w.heap.size) (B := w.heap.size + 2) W h.1.1.1.1 (by omega)).mono fun e w' ⟨s, a1, a2, a3, a4⟩ => ⟨s, a1, a2, h.step a3 a4, a4⟩
    have hgp : Hid (∀ (A : Nat) (W : World), A ≤ 1000 → TGT w W0 W (.slice p bs.length cap) bs A T (.slice qp qs.length qc) qs → Calls Tryz.prog 24 #[.pointer (some ⟨w.heap.size + 1 + 1, 0, none⟩), .int .i64 12] W fun e w' => ∃ (x : Int) (q : Nat), e = .returned (.int .i64 x) ∧ (x.tdiv 11 = q ∧ q ≤ 1) ∧ TGT w W0 w' (.slice p bs.length cap) bs (A + 1) T (.slice qp qs.length qc) qs ∧ W.grownBy w' (some (w.heap.size + 2))) := fun A W hA h => (spec_pick Hb.out (lo := w.heap.size) (B := w.heap.size + 2) 12 W h.1.1.1.1 (by omega) (by omega)).mono fun e w' ⟨x, a1, a2, a3, a4, a5⟩ => ⟨x, (x / 11).toNat, a1, ⟨by rw [Int.tdiv_eq_ediv_of_nonneg a2]; omega, by omega⟩, h.step a4 a5, a5⟩
    have hgm : Hid (∀ (A : Nat) (W : World) (n : Nat) (z : Int), z = n → A ≤ 1000 → n ≤ 20 → TGT w W0 W (.slice p bs.length cap) bs A T (.slice qp qs.length qc) qs → Calls Tryz.prog 23 #[.pointer (some ⟨w.heap.size + 1 + 1, 0, none⟩), .int .i64 z] W fun e w' => ∃ (u : Value) (ms : List Int), e = .returned u ∧ ms.length ≤ 21 ∧ RdB w' W.heap.size u ms.length (vInts ms) ∧ TGT w W0 w' (.slice p bs.length cap) bs (A + 22) T (.slice qp qs.length qc) qs ∧ W.grownBy w' (some (w.heap.size + 2))) := fun A W n z hz hA hn h => (spec_members Hb.out (lo := w.heap.size) (B := w.heap.size + 2) n z hz W h.1.1.1.1 hn (by omega)).mono fun e w' ⟨u, ms, a1, a2, a3, a4, a5⟩ => ⟨u, ms, a1, a2, RdB.own a3, h.step a4 a5, a5⟩
    go_upto_region 5 with fail
    have hql := HC.out.2.2.2.1
    have X0 : Ext wc wc.drew := (by repeat' (first | exact Ext.refl _ | assumption | refine Ext.alloc ?_ _ | refine Ext.ext ?_ _ | refine Ext.drew ?_ | refine Ext.drewN ?_ _))
    have HD := hid (HC.out.ext X0)
    have b0 := (box1 HC.out.2.2.1).1
    have e0 := (box1 HD.out.2.2.1).1
    have hz0 : W0.heap.size ≤ wc.heap.size := HC.out.1.low.2
    have hzB : w.heap.size + 2 < W0.heap.size := HC.out.1.low.1
    have hXA : T ≠ wc.heap.size := Nat.ne_of_lt (Array.getElem?_eq_some_iff.1 HC.out.2.2.1).1
    go_cut [6] (fun v6 wc => ∃ (X : Nat) (s : ByteArray) (u : Value) (ms : List Int), v6 = .pointer (some ⟨X, 0, none⟩) ∧ TGS w W0 wc (.slice p bs.length cap) bs 100 T X (.slice qp qs.length qc) s u qs ms)
    case first =>
      go_region_held3 (fun w' => w'.cell? ⟨T, 0, none⟩ = some (.slice qp qs.length qc)) (first | exact b0 | exact e0 | exact b3 | exact b4 | exact b5 | exact ((Ext.refl wc.drew).alloc _).cell e0 | exact ((Ext.refl w3).alloc _).cell b3 | exact ((Ext.refl w4).alloc _).cell b4 | exact ((Ext.refl w5).alloc _).cell b5 | exact cell_far2 b5 hXA | exact cell_far2 b5 hX3 | exact cell_far2 b5 hX4 | exact cell_far2 (((Ext.refl w5).alloc _).cell b5) hX5)
        (first
          | (go_at_call 22; (with_reducible refine (hgn.out 60 _ (by omega) (HC.out.ext (by repeat' (first | exact Ext.refl _ | assumption | refine Ext.alloc ?_ _ | refine Ext.ext ?_ _ | refine Ext.drew ?_ | refine Ext.drewN ?_ _)))).mono ?_); rintro e w3 ⟨s, rfl, hs, h3, g3⟩; have H3 := hid h3; have G3 := hid (grownBy_trans (Ext.grownBy (show Ext wc _ from (by repeat' (first | exact Ext.refl _ | assumption | refine Ext.alloc ?_ _ | refine Ext.ext ?_ _ | refine Ext.drew ?_ | refine Ext.drewN ?_ _))) _) g3); have b3 := (box1 H3.out.2.2.1).1; have hz3 : W0.heap.size ≤ w3.heap.size := H3.out.1.low.2; have hX3 : T ≠ w3.heap.size := Nat.ne_of_lt (Array.getElem?_eq_some_iff.1 H3.out.2.2.1).1; (first | (have yA := hid (blk_grow (heap_at (w := wc.drew) (k := wc.heap.size) (.cells #[.string ⟨#[]⟩, .slice none 0 0] 28 (0, 0)) rfl) g3 (fun e => by have := Option.some.inj e; omega))) | (have yA := hid (blk_grow (heap_at (w := wc) (k := wc.heap.size) (.cells #[.string ⟨#[]⟩, .slice none 0 0] 28 (0, 0)) rfl) g3 (fun e => by have := Option.some.inj e; omega))) | skip); clear h3)
          | (go_at_call 24; (with_reducible refine (hgp.out 62 _ (by omega) (H3.out.ext (by repeat' (first | exact Ext.refl _ | assumption | refine Ext.alloc ?_ _ | refine Ext.ext ?_ _ | refine Ext.drew ?_ | refine Ext.drewN ?_ _)))).mono ?_); rintro e w4 ⟨x, q, rfl, ⟨hq, hq1⟩, h4, g4⟩; have H4 := hid h4; have G4 := hid (grownBy_trans (grownBy_trans G3.out (Ext.grownBy (show Ext w3 _ from (by repeat' (first | exact Ext.refl _ | assumption | refine Ext.alloc ?_ _ | refine Ext.ext ?_ _ | refine Ext.drew ?_ | refine Ext.drewN ?_ _))) _)) g4); have b4 := (box1 H4.out.2.2.1).1; have hz4 : W0.heap.size ≤ w4.heap.size := H4.out.1.low.2; have hX4 : T ≠ w4.heap.size := Nat.ne_of_lt (Array.getElem?_eq_some_iff.1 H4.out.2.2.1).1; have hwq : IntKind.i64.wrap (q : Int) = q := IntWalk.i64_in _ (by omega); have hwn : IntKind.i64.wrap ((qs.length : Int) + (q : Int)) = (qs.length : Int) + (q : Int) := IntWalk.i64_in _ (by omega); (first | (have yA4 := hid (blk_grow yA.out g4 (fun e => by have := Option.some.inj e; omega))) | (have yB := hid (blk_grow (heap_at (w := w3) (k := w3.heap.size) (.cells #[.string ⟨#[]⟩, .slice none 0 0] 28 (0, 0)) rfl) g4 (fun e => by have := Option.some.inj e; omega))) | skip); clear h4)
          | (go_at_call 23; (with_reducible refine (hgm.out 63 _ (qs.length + q) ((qs.length : Int) + (q : Int)) (by omega) (by omega) (by omega) (H4.out.ext (by repeat' (first | exact Ext.refl _ | assumption | refine Ext.alloc ?_ _ | refine Ext.ext ?_ _ | refine Ext.drew ?_ | refine Ext.drewN ?_ _)))).mono ?_); rintro e w5 ⟨u, ms, rfl, hml, hu, h5, g5⟩; obtain ⟨up, uc, rfl⟩ := rdbForm hu; have H5 := hid h5; have G5 := hid (grownBy_trans (grownBy_trans G4.out (Ext.grownBy (show Ext w4 _ from (by repeat' (first | exact Ext.refl _ | assumption | refine Ext.alloc ?_ _ | refine Ext.ext ?_ _ | refine Ext.drew ?_ | refine Ext.drewN ?_ _))) _)) g5); have b5 := (box1 H5.out.2.2.1).1; have hX5 : T ≠ w5.heap.size := Nat.ne_of_lt (Array.getElem?_eq_some_iff.1 H5.out.2.2.1).1; (first | (have yA5 := hid (blk_grow yA4.out g5 (fun e => by have := Option.some.inj e; omega)); obtain ⟨⟨m0, m1⟩, ⟨m2, m3⟩, -⟩ := box2 yA5.out) | (have yB5 := hid (blk_grow yB.out g5 (fun e => by have := Option.some.inj e; omega)); obtain ⟨⟨m0, m1⟩, ⟨m2, m3⟩, -⟩ := box2 yB5.out) | (have yC5 := hid (blk_grow (heap_at (w := w4) (k := w4.heap.size) (.cells #[.string ⟨#[]⟩, .slice none 0 0] 28 (0, 0)) rfl) g5 (fun e => by have := Option.some.inj e; omega)); obtain ⟨⟨m0, m1⟩, ⟨m2, m3⟩, -⟩ := box2 yC5.out) | skip); have HU := hid hu; clear h5 hu)
          | fail)
      all_goals
        go_wp2_with fail
        go_meet
      · exact ⟨_, s, _, ms, rfl, tgs_mk ⟨H5.out.1.more2 (by omega), H5.out.2⟩ hs hml (HU.out.low hz4)⟩
      · exact ⟨_, s, _, ms, rfl, tgs_set HC.out G5.out (H5.out.1.1.1.1.more (by omega)) (by have := G4.out.size; omega) yC5.out hs hml (HU.out.low (by simp))⟩
      · exact ⟨_, s, _, ms, rfl, tgs_set HC.out G5.out (H5.out.1.1.1.1.more (by omega)) (by have := G3.out.size; omega) yB5.out hs hml (HU.out.low (by have := (Array.getElem?_eq_some_iff.1 yB.out).1; omega))⟩
      · exact ⟨_, s, _, ms, rfl, tgs_set HC.out G5.out (H5.out.1.1.1.1.more (by omega)) (Nat.le_refl _) yA5.out hs hml (HU.out.low (by have := (Array.getElem?_eq_some_iff.1 yA4.out).1; omega))⟩
    case rest =>
      obtain ⟨X, s, u, ms, rfl, HT⟩ := hcut
      obtain ⟨up, uc, rfl⟩ := rdbForm HT.2.2.2.2
      have H := hid HT
      obtain ⟨⟨c0, x0, x1⟩, ⟨r0, q0⟩, ⟨s0, s1⟩, u0, u1⟩ := H.out.cells
      have HF := hid (H.out.fin (.slice qp qs.length qc) (.string s) (.slice up ms.length uc))
      obtain ⟨k0, k1, k2⟩ := H.out.keep w.heap.size 0 (.slice qp qs.length qc) (by omega) ⟨c0, x0, x1⟩
      obtain ⟨l0, l1, l2⟩ := H.out.keep (w.heap.size + 1) 1 (.slice up ms.length uc) (by omega) (H.out.keep (w.heap.size + 1) 0 (.string s) (by omega) ⟨c0, x0, x1⟩)
      clear HT H HC HD b0 e0 X0 hXA
      go_wp2_with fail
      go_region
      go_wp2
      refine bodyPost_ret (results_gg rfl (blk_ext HF.out.1 (Ext.refl _).drew) Tryz.underlying26 rfl (by kernel_rfl) rfl (blk_ext HF.out.2.1 (Ext.refl _).drew) Tryz.underlying28 rfl (by kernel_rfl) rfl) rfl ?_
      exact ⟨_, s, _, qs, ms, rfl, HF.out.2.2.1.ext (Ext.refl _).drew, HF.out.2.2.2.drew⟩
end Go.Proofs.YtlaochpkelbchaaGreatDoor
