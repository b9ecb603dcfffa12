/- What the law of branches draws: a tree, a group and a node. -/
import Derived.Test.YtlaochpkelbchaaGreatDoorKWCurK2
namespace Go.Proofs.YtlaochpkelbchaaGreatDoor
open Go.RowKit
set_option maxHeartbeats 4000000
set_option maxRecDepth 100000
/-- The results' boxes, and the cursor's. -/
theorem spec_DrawBranchesFor {bs : List Int} (hb : Bts bs) {v : Value} (w : World) (h : Rd w 1 v bs.length (vBytes bs)) :
    Calls Tryz.prog 11 #[v] w fun e w' => ∃ (t : Value) (s : ByteArray) (u : Value) (ps ms : List Int) (x : Int), e = .returned (.tuple #[.agg #[t], .agg #[.string s, u], .int .i64 x]) ∧ TGo w' t s u ps ms ∧ Ext w w' := by
  have H0 := hid (tg_start h)
  have Hb := hid hb
  obtain ⟨-, p, cap, rfl, -⟩ := h
  clear hb
  go_enter Tryz.func11, Tryz.ntmps11
  go_wp2_with fail
  go_at_call 19
  change Calls _ _ _ (G3 w (.slice p bs.length cap)) _
  generalize G3 w (.slice p bs.length cap) = W0 at *
  refine (spec_tree Hb.out _ H0.out.1.1.1 (by omega)).mono ?_
  rintro e w1 ⟨r, ps, rfl, hp2, hp8, ho, hc, hg⟩
  obtain ⟨tp, tc, rfl⟩ := own_shape ho
  have H1 := hid (tgt_mk (H0.out.step hc hg) rfl (by omega) ho)
  clear hc hg H0 ho
  have hT : W0.heap.size ≤ w1.heap.size := H1.out.2.1
  go_upto_region 3 with fail
  generalize (w1.alloc (.cells #[.slice tp ps.length tc] 26)) = wc at *
  generalize w1.heap.size = T at *
  have HC : Hid (TGT w W0 wc (.slice p bs.length cap) bs 60 T (.slice tp ps.length tc) ps) := ⟨H1.out.1.more2 (by omega), H1.out.2⟩
  clear H1
  have hgn : Hid (∀ (A : Nat) (W : World), A ≤ 1000 → TGT w W0 W (.slice p bs.length cap) bs A T (.slice tp ps.length tc) ps → Calls Tryz.prog 22 #[.pointer (some ⟨w.heap.size + 1 + 1, 0, none⟩)] W fun e w' => ∃ s : ByteArray, e = .returned (.string s) ∧ s.size ≤ 9 ∧ TGT w W0 w' (.slice p bs.length cap) bs (A + 2) T (.slice tp ps.length tc) ps ∧ W.grownBy w' (some (w.heap.size + 2))) := fun A W hA h => (spec_groupName Hb.out (lo := w.heap.size) (B := w.heap.size + 2) W h.1.1.1.1 (by omega)).mono fun e w' ⟨s, a1, a2, a3, a4⟩ => ⟨s, a1, a2, h.step a3 a4, a4⟩
  have hgm : Hid (∀ (A : Nat) (W : World) (n : Nat) (z : Int), z = n → A ≤ 1000 → n ≤ 20 → TGT w W0 W (.slice p bs.length cap) bs A T (.slice tp ps.length tc) ps → Calls Tryz.prog 23 #[.pointer (some ⟨w.heap.size + 1 + 1, 0, none⟩), .int .i64 z] W fun e w' => ∃ (u : Value) (ms : List Int), e = .returned u ∧ ms.length ≤ 21 ∧ RdB w' W.heap.size u ms.length (vInts ms) ∧ TGT w W0 w' (.slice p bs.length cap) bs (A + 22) T (.slice tp ps.length tc) ps ∧ W.grownBy w' (some (w.heap.size + 2))) := fun A W n z hz hA hn h => (spec_members Hb.out (lo := w.heap.size) (B := w.heap.size + 2) n z hz W h.1.1.1.1 hn (by omega)).mono fun e w' ⟨u, ms, a1, a2, a3, a4, a5⟩ => ⟨u, ms, a1, a2, RdB.own a3, h.step a4 a5, a5⟩
  have b0 := (box1 HC.out.2.2.1).1
  have e0 := (box1 ((HC.out.ext (Ext.refl wc).drew).2.2.1)).1
  have hz0 : W0.heap.size ≤ wc.heap.size := HC.out.1.low.2
  have hzB : w.heap.size + 2 < W0.heap.size := HC.out.1.low.1
  have hXA : T ≠ wc.heap.size := Nat.ne_of_lt (Array.getElem?_eq_some_iff.1 HC.out.2.2.1).1
  go_cut [7] from 11 (fun v7 wc => ∃ (X : Nat) (s : ByteArray) (u : Value) (ms : List Int), v7 = .pointer (some ⟨X, 0, none⟩) ∧ TGS w W0 wc (.slice p bs.length cap) bs 100 T X (.slice tp ps.length tc) s u ps ms)
  case first =>
    go_region_held3 (fun w' => w'.cell? ⟨T, 0, none⟩ = some (.slice tp ps.length tc)) (first | exact b0 | exact e0 | exact b3 | exact b5 | exact ((Ext.refl wc.drew).alloc _).cell e0 | exact ((Ext.refl w3).alloc _).cell b3 | exact ((Ext.refl w5).alloc _).cell b5 | exact cell_far2 b5 hXA | exact cell_far2 b5 hX3 | exact cell_far2 (((Ext.refl w5).alloc _).cell b5) hX5)
      (first
        | (go_at_call 22; (with_reducible refine (hgn.out 60 _ (by omega) (HC.out.ext (by repeat' (first | exact Ext.refl _ | assumption | refine Ext.alloc ?_ _ | refine Ext.ext ?_ _ | refine Ext.drew ?_ | refine Ext.drewN ?_ _)))).mono ?_); rintro e w3 ⟨s, rfl, hs, h3, g3⟩; have H3 := hid h3; have G3 := hid (grownBy_trans (Ext.grownBy (show Ext wc _ from (by repeat' (first | exact Ext.refl _ | assumption | refine Ext.alloc ?_ _ | refine Ext.ext ?_ _ | refine Ext.drew ?_ | refine Ext.drewN ?_ _))) _) g3); have b3 := (box1 H3.out.2.2.1).1; have hz3 : W0.heap.size ≤ w3.heap.size := H3.out.1.low.2; have hX3 : T ≠ w3.heap.size := Nat.ne_of_lt (Array.getElem?_eq_some_iff.1 H3.out.2.2.1).1; (first | (have yA := hid (blk_grow (heap_at (w := wc.drew) (k := wc.heap.size) (.cells #[.string ⟨#[]⟩, .slice none 0 0] 28 (0, 0)) rfl) g3 (fun e => by have := Option.some.inj e; omega))) | (have yA := hid (blk_grow (heap_at (w := wc) (k := wc.heap.size) (.cells #[.string ⟨#[]⟩, .slice none 0 0] 28 (0, 0)) rfl) g3 (fun e => by have := Option.some.inj e; omega))) | skip); clear h3)
        | (go_at_call 23; (with_reducible refine (hgm.out 62 _ ps.length (ps.length : Int) (by omega) (by omega) (by omega) (H3.out.ext (by repeat' (first | exact Ext.refl _ | assumption | refine Ext.alloc ?_ _ | refine Ext.ext ?_ _ | refine Ext.drew ?_ | refine Ext.drewN ?_ _)))).mono ?_); rintro e w5 ⟨u, ms, rfl, hml, hu, h5, g5⟩; obtain ⟨up, uc, rfl⟩ := rdbForm hu; have H5 := hid h5; have G5 := hid (grownBy_trans (grownBy_trans G3.out (Ext.grownBy (show Ext w3 _ from (by repeat' (first | exact Ext.refl _ | assumption | refine Ext.alloc ?_ _ | refine Ext.ext ?_ _ | refine Ext.drew ?_ | refine Ext.drewN ?_ _))) _)) g5); have b5 := (box1 H5.out.2.2.1).1; have hX5 : T ≠ w5.heap.size := Nat.ne_of_lt (Array.getElem?_eq_some_iff.1 H5.out.2.2.1).1; (first | (have yA5 := hid (blk_grow yA.out g5 (fun e => by have := Option.some.inj e; omega)); obtain ⟨⟨m0, m1⟩, ⟨m2, m3⟩, -⟩ := box2 yA5.out) | (have yB5 := hid (blk_grow (heap_at (w := w3) (k := w3.heap.size) (.cells #[.string ⟨#[]⟩, .slice none 0 0] 28 (0, 0)) rfl) g5 (fun e => by have := Option.some.inj e; omega)); obtain ⟨⟨m0, m1⟩, ⟨m2, m3⟩, -⟩ := box2 yB5.out) | skip); have HU := hid hu; clear h5 hu)
        | fail)
    all_goals
      go_wp2_with fail
      go_meet
    · exact ⟨_, s, _, ms, rfl, tgs_mk ⟨H5.out.1.more2 (by omega), H5.out.2⟩ hs hml (HU.out.low hz3)⟩
    · exact ⟨_, s, _, ms, rfl, tgs_set HC.out G5.out (H5.out.1.1.1.1.more (by omega)) (by have := G3.out.size; omega) yB5.out hs hml (HU.out.low (by simp))⟩
    · exact ⟨_, s, _, ms, rfl, tgs_set HC.out G5.out (H5.out.1.1.1.1.more (by omega)) (Nat.le_refl _) yA5.out hs hml (HU.out.low (by have := (Array.getElem?_eq_some_iff.1 yA.out).1; omega))⟩
  case rest =>
    obtain ⟨X, s, u, ms, rfl, HT⟩ := hcut
    obtain ⟨up, uc, rfl⟩ := rdbForm HT.2.2.2.2
    have H := hid HT
    clear HT HC hgn hgm b0 e0 hXA
    have hpk : Hid (∀ (A n : Nat) (z : Int) (W : World), z = n → 1 ≤ n ∧ n ≤ 200 → A ≤ 1000 → TGS w W0 W (.slice p bs.length cap) bs A T X (.slice tp ps.length tc) s (.slice up ms.length uc) ps ms → Calls Tryz.prog 24 #[.pointer (some ⟨w.heap.size + 1 + 1, 0, none⟩), .int .i64 z] W fun e w' => ∃ x : Int, e = .returned (.int .i64 x) ∧ (0 ≤ x ∧ x < 200) ∧ TGS w W0 w' (.slice p bs.length cap) bs (A + 1) T X (.slice tp ps.length tc) s (.slice up ms.length uc) ps ms) :=
      fun A n z W hz hn hA h => (spec_pick Hb.out (lo := w.heap.size) (B := w.heap.size + 2) z W h.1.1.1.1.1 (by omega) (by omega)).mono fun e w' ⟨x, a1, a2, a3, a4, a5⟩ => ⟨x, a1, ⟨a2, by omega⟩, h.step a4 a5⟩
    have w1 : IntKind.i64.wrap ((ps.length : Int) + 1) = (ps.length : Int) + 1 := IntWalk.i64_in _ (by omega)
    have hcs := fun (W : World) A (h : TGS w W0 W (.slice p bs.length cap) bs A T X (.slice tp ps.length tc) s (.slice up ms.length uc) ps ms) => h.cells
    obtain ⟨⟨c0, x0, x1⟩, ⟨r0, q0⟩, ⟨s0, s1⟩, u0, u1⟩ := H.out.cells
    have Hd := hid (H.out.ext (Ext.refl wc).drew)
    obtain ⟨⟨d0, y0, y1⟩, -⟩ := Hd.out.cells
    clear hcs
    go_wp2_with fail
    go_region_held3 (fun w' => w'.cell? ⟨T, 0, none⟩ = some (.slice tp ps.length tc) ∧ w'.cell? ⟨X, 0, none⟩ = some (.string s) ∧ w'.cell? ⟨X, 1, none⟩ = some (.slice up ms.length uc)) (first | exact ⟨c0, x0, x1⟩ | exact ⟨d0, y0, y1⟩ | exact ⟨e0, z0, z1⟩ | exact ⟨f0, v0, v1⟩ | exact K1 | exact K2 | exact K3)
      (first
        | (go_at_call 24; (with_reducible refine (hpk.out 100 (ps.length + 1) ((ps.length : Int) + 1) _ (by omega) (by omega) (by omega) Hd.out).mono ?_); rintro e w3 ⟨x3, rfl, hx3, h3⟩; have H3 := hid h3; obtain ⟨⟨e0, z0, z1⟩, -⟩ := H3.out.cells; clear h3)
        | (go_at_call 24; (with_reducible refine (hpk.out 101 16 16 _ (by omega) (by omega) (by omega) H3.out).mono ?_); rintro e w4 ⟨x4, rfl, hx4, h4⟩; have H4 := hid h4; obtain ⟨⟨f0, v0, v1⟩, ⟨r4, q4⟩, ⟨s4, s5⟩, u4, u5⟩ := H4.out.cells; have K1 := H4.out.keep w.heap.size 0 (.slice tp ps.length tc) (by omega) ⟨f0, v0, v1⟩; have K2 := H4.out.keep (w.heap.size + 1) 1 (.slice up ms.length uc) (by omega) (H4.out.keep (w.heap.size + 1) 0 (.string s) (by omega) K1); clear h4)
        | fail)
    have HF := hid (H4.out.fin (.slice tp ps.length tc) (.string s) (.slice up ms.length uc))
    clear H4 H3 H Hd c0 x0 x1 d0 y0 y1 e0 z0 z1 f0 v0 v1 K1 K2 r0 q0 s0 s1 u0 u1 r4 q4 s4 s5 u4 u5
    go_wp2_with fail
    refine bodyPost_ret (results_ggt rfl HF.out.1 Tryz.underlying26 rfl (by kernel_rfl) rfl HF.out.2.1 Tryz.underlying28 rfl (by kernel_rfl) rfl rfl) rfl ?_
    exact ⟨_, s, _, ps, ms, _, rfl, HF.out.2.2.1, HF.out.2.2.2⟩
end Go.Proofs.YtlaochpkelbchaaGreatDoor
