/- Fragments that are drawn. -/
import Derived.Test.YtnngklclehffhaaGreatDoorKWCurS
import Derived.Test.YtnngklclehffhaaGreatDoorKWFra
import Derived.Test.YtnngklclehffhaaGreatDoorKit
namespace Go.Proofs.YtnngklclehffhaaGreatDoor
open Go.RowKit
set_option maxHeartbeats 2000000
set_option maxRecDepth 100000
/-- One of a literal's numbers, that passes a test. -/
theorem spec_amongLitQ {bs : List Int} (hb : Bts bs) {lo B A : Nat} {v : Value} (cs : Array Value) (n g : Nat) (w0 w : World) (h : Cs w0 lo B v bs A) (hx : Ext w0 w) (hg0 : g = w.heap.size) (hl : cs.size = n) (hA : A ≤ 900000) (hn : 1 ≤ n ∧ n ≤ 200) (q : Int → Bool) (hall : ∀ y ∈ cs.toList, ∃ k, y = .int .i64 k ∧ q k = true) :
    Calls Tryz.prog 44 #[.pointer (some ⟨B, 0, none⟩), .slice (some ⟨g, 0, none⟩) n n] (w.alloc (.cells cs 3)) fun e w' => ∃ x : Int, e = .returned (.int .i64 x) ∧ q x = true ∧ Cs w' lo B v bs (A + 1) ∧ w0.grownBy w' (some B) := by
  obtain ⟨L, hL⟩ := ints_of cs.toList (fun y hy => by obtain ⟨k, e, _⟩ := hall y hy; exact ⟨k, e⟩)
  have hq : ∀ x ∈ L, q x = true := fun x hx => by
    obtain ⟨k, e, h2⟩ := hall (.int .i64 x) (by rw [hL]; exact List.mem_map.2 ⟨x, hx, rfl⟩)
    cases e
    exact h2
  have hl2 : n = L.length := by have := congrArg List.length hL; rw [← hl]; simpa [vInts] using this
  have hr := rd_litC w 3 cs
  rw [hL, hl, hl2, ← hg0] at hr
  rw [hl2] at hn
  rw [hl2]
  have hc := h.ext (hx.alloc (.cells cs 3))
  have hlo := (h.ext hx).lo
  have hg := (hx.alloc (.cells cs 3)).grownBy (some B)
  clear hL hall hl hl2
  generalize w.alloc (.cells cs 3) = W at *
  have key := spec_among hb L (.slice (some ⟨g, 0, none⟩) L.length L.length) W hc hr (fun b o m c e _ => by cases e; omega) hA hn
  exact key.mono fun e w' ⟨x, e1, e0, e2, e3⟩ => ⟨x, e1, hq x e0, e2, grownBy_trans hg e3⟩
/-- While a fragment is drawn: the result's box at R, the fragment's at D. -/
def FB0 (w W : World) (lo B : Nat) (v : Value) (bs : List Int) (A : Nat) : Prop := Dr w W lo B v bs A ∧ W.heap[w.heap.size]? = some (.cells #[.int .i64 0, .int .i64 0, .int .i64 0, .string ⟨#[]⟩] 31 (0, 0))
def FB (w W : World) (lo B : Nat) (v : Value) (bs : List Int) (A D : Nat) (c : Array Value) : Prop := FB0 w W lo B v bs A ∧ W.heap[D]? = some (.cells c 31 (0, 0)) ∧ w.heap.size < D
theorem FB0.step {w W W' : World} {lo B A A' : Nat} {v : Value} {bs : List Int} (h : FB0 w W lo B v bs A) (hc : Cs W' lo B v bs A') (hg : W.grownBy W' (some B)) : FB0 w W' lo B v bs A' :=
  ⟨h.1.step hc hg, blk_step h.1 h.2 (Nat.le_refl _) hg⟩
theorem FB0.ext {w W W' : World} {lo B A : Nat} {v : Value} {bs : List Int} (h : FB0 w W lo B v bs A) (hx : Ext W W') : FB0 w W' lo B v bs A := h.step (h.1.1.ext hx) (hx.grownBy _)
theorem FB.step {w W W' : World} {lo B A A' D : Nat} {v : Value} {bs : List Int} {c : Array Value} (h : FB w W lo B v bs A D c) (hc : Cs W' lo B v bs A') (hg : W.grownBy W' (some B)) : FB w W' lo B v bs A' D c :=
  ⟨h.1.step hc hg, blk_step h.1.1 h.2.1 (Nat.le_of_lt h.2.2) hg, h.2.2⟩
theorem FB.set {w W : World} {lo B A D : Nat} {v : Value} {bs : List Int} {c : Array Value} (h : FB w W lo B v bs A D c) (i : Nat) (u : Value) : FB w (W.setCell ⟨D, i, none⟩ u) lo B v bs A D (c.setIfInBounds i u) :=
  ⟨⟨h.1.1.set (Nat.le_of_lt h.2.2) u, blk_grow h.1.2 (grownBy_set W ⟨D, i, none⟩ u) (fun e => by have := Option.some.inj e; have := h.2.2; (try dsimp only at *); omega)⟩, heap_setCell_same W D i c _ u h.2.1, h.2.2⟩
theorem FB.fin {w W : World} {lo B A D : Nat} {v : Value} {bs : List Int} {c : Array Value} (h : FB w W lo B v bs A D c) (a b x d : Value) :
    Dr w ((((W.setCell ⟨w.heap.size, 0, none⟩ a).setCell ⟨w.heap.size, 1, none⟩ b).setCell ⟨w.heap.size, 2, none⟩ x).setCell ⟨w.heap.size, 3, none⟩ d) lo B v bs A :=
  (((h.1.1.set (p := ⟨w.heap.size, 0, none⟩) (Nat.le_refl _) a).set (p := ⟨w.heap.size, 1, none⟩) (Nat.le_refl _) b).set (p := ⟨w.heap.size, 2, none⟩) (Nat.le_refl _) x).set (p := ⟨w.heap.size, 3, none⟩) (Nat.le_refl _) d
def F4 (f : Fra) : Array Value := #[.int .i64 f.n, .int .i64 f.p, .int .i64 f.q, .string f.d]
theorem spec_fragment {bs : List Int} (hb : Bts bs) {lo B A : Nat} {v : Value} (w : World) (h : Cs w lo B v bs A) (hA : A ≤ 600000) :
    Calls Tryz.prog 39 #[.pointer (some ⟨B, 0, none⟩)] w fun e w' => ∃ f : Fra, e = .returned (.agg #[.int .i64 f.n, .int .i64 f.p, .int .i64 f.q, .string f.d]) ∧ f.d.size ≤ 9 ∧ Cs w' lo B v bs (A + 9) ∧ w.grownBy w' (some B) := by
  have Hb := hid hb
  have H0 : Hid (FB0 w (w.alloc (.cells #[.int .i64 0, .int .i64 0, .int .i64 0, .string ⟨#[]⟩] 31)) lo B v bs A) := ⟨(Dr.start h).ext (by repeat' (first | exact Ext.refl _ | assumption | refine Ext.alloc ?_ _ | refine Ext.ext ?_ _ | refine Ext.drew ?_ | refine Ext.drewN ?_ _)), heap_at _ rfl⟩
  clear h hb
  go_enter Tryz.func39, Tryz.ntmps39
  go_wp2_with fail
  go_at_call 44
  refine (spec_amongLit Hb.out _ _ _ (w.alloc (.cells #[.int .i64 0, .int .i64 0, .int .i64 0, .string ⟨#[]⟩] 31)) _ H0.out.1.1 (by repeat' (first | exact Ext.refl _ | assumption | refine Ext.alloc ?_ _ | refine Ext.ext ?_ _ | refine Ext.drew ?_ | refine Ext.drewN ?_ _)) (by simp) (by rfl) (by omega) (by omega) (by simp)).mono ?_
  rintro e w1 ⟨x1, rfl, hc, hg⟩
  have H1 := hid (H0.out.step hc hg)
  clear hc hg H0
  go_wp2_with fail
  go_at_call 44
  refine (spec_amongLitQ Hb.out _ _ _ w1 _ H1.out.1.1 (by repeat' (first | exact Ext.refl _ | assumption | refine Ext.alloc ?_ _ | refine Ext.ext ?_ _ | refine Ext.drew ?_ | refine Ext.drewN ?_ _)) (by simp) (by rfl) (by omega) (by omega) (fun z => decide (1 ≤ z) && decide (z ≤ 9)) (by simp)).mono ?_
  rintro e w2 ⟨x2, rfl, hq2, hc, hg⟩
  have H2 := hid (H1.out.step hc hg)
  simp only [Bool.and_eq_true, decide_eq_true_eq] at hq2
  clear hc hg H1
  have hs2 : w.heap.size < w2.heap.size := (Array.getElem?_eq_some_iff.1 H2.out.2).1
  have HD : Hid (FB w (w2.alloc (.cells #[.int .i64 x1, .int .i64 0, .int .i64 x2, .string ⟨#[]⟩] 31)) lo B v bs (A + 1 + 1) w2.heap.size #[.int .i64 x1, .int .i64 0, .int .i64 x2, .string ⟨#[]⟩]) := ⟨H2.out.ext (by repeat' (first | exact Ext.refl _ | assumption | refine Ext.alloc ?_ _ | refine Ext.ext ?_ _ | refine Ext.drew ?_ | refine Ext.drewN ?_ _)), heap_at _ rfl, hs2⟩
  clear H2
  go_wp2_with fail
  generalize hw3 : (w2.alloc (.cells #[.int .i64 x1, .int .i64 0, .int .i64 x2, .string ⟨#[]⟩] 31)) = w3 at *
  generalize w2.heap.size = D at *
  clear hw3
  go_at_call 65
  refine (spec_pick Hb.out x2 _ HD.out.1.1.1 (by omega) (by omega)).mono ?_
  rintro e w4 ⟨x3, rfl, -, -, hc, hg⟩
  have H4 := hid (HD.out.step hc hg)
  clear hc hg HD
  obtain ⟨⟨c0, c1, c2, c3⟩, ⟨f0, f1, f2, f3⟩, hD⟩ := box4 H4.out.2.1
  obtain ⟨⟨r0, r1, r2, r3⟩, ⟨q0, q1, q2, q3⟩, hR⟩ := box4 H4.out.1.2
  have H5 : Hid (FB w (w4.setCell ⟨D, 1, none⟩ (.int .i64 x3)) lo B v bs (A + 1 + 1 + 1) D #[.int .i64 x1, .int .i64 x3, .int .i64 x2, .string ⟨#[]⟩]) := H4.out.set 1 _
  go_wp2_with fail
  generalize w4.setCell ⟨D, 1, none⟩ (.int .i64 x3) = w5 at *
  clear c0 c1 c2 c3 f0 f1 f2 f3 hD r0 r1 r2 r3 q0 q1 q2 q3 hR
  clear H4
  go_at_call 42
  refine (spec_letters Hb.out 3 3 rfl _ H5.out.1.1.1 (by omega) (by omega)).mono ?_
  rintro e w6 ⟨s, rfl, hi, hc, hg⟩
  have H6 := hid (H5.out.step hc hg)
  have hds : s.size ≤ 9 := by have := (itm_iff6 hi); omega
  clear hc hg H5 hi
  obtain ⟨⟨c0, c1, c2, c3⟩, ⟨f0, f1, f2, f3⟩, hD⟩ := box4 H6.out.2.1
  obtain ⟨⟨r0, r1, r2, r3⟩, ⟨q0, q1, q2, q3⟩, hR⟩ := box4 H6.out.1.2
  have H7 : Hid (FB w (w6.setCell ⟨D, 3, none⟩ (.string s)) lo B v bs (A + 1 + 1 + 1 + 3 + 1) D #[.int .i64 x1, .int .i64 x3, .int .i64 x2, .string s]) := H6.out.set 3 _
  go_wp2_with fail
  generalize w6.setCell ⟨D, 3, none⟩ (.string s) = w7 at *
  clear c0 c1 c2 c3 f0 f1 f2 f3 hD r0 r1 r2 r3 q0 q1 q2 q3 hR
  clear H6
  go_at_call 65
  refine (spec_pick Hb.out 24 _ H7.out.1.1.1 (by omega) (by omega)).mono ?_
  rintro e w8 ⟨z, rfl, hz0, hz1, hc, hg⟩
  have H8 := hid (H7.out.step hc hg)
  clear hc hg H7
  obtain ⟨⟨c0, c1, c2, c3⟩, ⟨f0, f1, f2, f3⟩, hD⟩ := box4 H8.out.2.1
  obtain ⟨⟨r0, r1, r2, r3⟩, ⟨q0, q1, q2, q3⟩, hR⟩ := box4 H8.out.1.2
  by_cases z0 : z = 0
  · subst z0
    go_wp2_with fail
    go_at_call 44
    refine (spec_amongLit Hb.out _ _ _ w8 _ H8.out.1.1.1 (by repeat' (first | exact Ext.refl _ | assumption | refine Ext.alloc ?_ _ | refine Ext.ext ?_ _ | refine Ext.drew ?_ | refine Ext.drewN ?_ _)) (by simp) (by rfl) (by omega) (by omega) (by simp)).mono ?_
    rintro e w9 ⟨x9, rfl, hc, hg⟩
    have H9 := hid (H8.out.step hc hg)
    clear c0 c1 c2 c3 f0 f1 f2 f3 hD r0 r1 r2 r3 q0 q1 q2 q3 hR
    clear hc hg H8
    obtain ⟨⟨c0, c1, c2, c3⟩, ⟨f0, f1, f2, f3⟩, hD⟩ := box4 H9.out.2.1
    obtain ⟨⟨r0, r1, r2, r3⟩, ⟨q0, q1, q2, q3⟩, hR⟩ := box4 H9.out.1.2
    have HA : Hid (FB w (w9.setCell ⟨D, 0, none⟩ (.int .i64 x9)) lo B v bs (A + 1 + 1 + 1 + 3 + 1 + 1 + 1) D #[.int .i64 x9, .int .i64 x3, .int .i64 x2, .string s]) := H9.out.set 0 _
    go_wp2
    refine bodyPost_ret (results_cell_row rfl _ _ w.heap.size _ _ (0, 0) _ rfl (box4_set (t := 31) HA.out.1.2 _ _ _ _) Tryz.underlying31 rfl (by kernel_rfl)) rfl ⟨⟨x9, x3, x2, s⟩, rfl, hds, ?_⟩
    exact ((HA.out.fin _ _ _ _).more (by omega)).fin
  by_cases z1 : z = 1
  · subst z1
    go_wp2_with fail
    go_at_call 44
    refine (spec_amongLit Hb.out _ _ _ w8 _ H8.out.1.1.1 (by repeat' (first | exact Ext.refl _ | assumption | refine Ext.alloc ?_ _ | refine Ext.ext ?_ _ | refine Ext.drew ?_ | refine Ext.drewN ?_ _)) (by simp) (by rfl) (by omega) (by omega) (by simp)).mono ?_
    rintro e w9 ⟨x9, rfl, hc, hg⟩
    have H9 := hid (H8.out.step hc hg)
    clear c0 c1 c2 c3 f0 f1 f2 f3 hD r0 r1 r2 r3 q0 q1 q2 q3 hR
    clear hc hg H8
    obtain ⟨⟨c0, c1, c2, c3⟩, ⟨f0, f1, f2, f3⟩, hD⟩ := box4 H9.out.2.1
    obtain ⟨⟨r0, r1, r2, r3⟩, ⟨q0, q1, q2, q3⟩, hR⟩ := box4 H9.out.1.2
    have HA : Hid (FB w (w9.setCell ⟨D, 1, none⟩ (.int .i64 x9)) lo B v bs (A + 1 + 1 + 1 + 3 + 1 + 1 + 1) D #[.int .i64 x1, .int .i64 x9, .int .i64 x2, .string s]) := H9.out.set 1 _
    go_wp2
    refine bodyPost_ret (results_cell_row rfl _ _ w.heap.size _ _ (0, 0) _ rfl (box4_set (t := 31) HA.out.1.2 _ _ _ _) Tryz.underlying31 rfl (by kernel_rfl)) rfl ⟨⟨x1, x9, x2, s⟩, rfl, hds, ?_⟩
    exact ((HA.out.fin _ _ _ _).more (by omega)).fin
  by_cases z2 : z = 2
  · subst z2
    go_wp2_with fail
    go_at_call 44
    refine (spec_amongLit Hb.out _ _ _ w8 _ H8.out.1.1.1 (by repeat' (first | exact Ext.refl _ | assumption | refine Ext.alloc ?_ _ | refine Ext.ext ?_ _ | refine Ext.drew ?_ | refine Ext.drewN ?_ _)) (by simp) (by rfl) (by omega) (by omega) (by simp)).mono ?_
    rintro e w9 ⟨x9, rfl, hc, hg⟩
    have H9 := hid (H8.out.step hc hg)
    clear c0 c1 c2 c3 f0 f1 f2 f3 hD r0 r1 r2 r3 q0 q1 q2 q3 hR
    clear hc hg H8
    obtain ⟨⟨c0, c1, c2, c3⟩, ⟨f0, f1, f2, f3⟩, hD⟩ := box4 H9.out.2.1
    obtain ⟨⟨r0, r1, r2, r3⟩, ⟨q0, q1, q2, q3⟩, hR⟩ := box4 H9.out.1.2
    have HA : Hid (FB w (w9.setCell ⟨D, 2, none⟩ (.int .i64 x9)) lo B v bs (A + 1 + 1 + 1 + 3 + 1 + 1 + 1) D #[.int .i64 x1, .int .i64 x3, .int .i64 x9, .string s]) := H9.out.set 2 _
    go_wp2
    refine bodyPost_ret (results_cell_row rfl _ _ w.heap.size _ _ (0, 0) _ rfl (box4_set (t := 31) HA.out.1.2 _ _ _ _) Tryz.underlying31 rfl (by kernel_rfl)) rfl ⟨⟨x1, x3, x9, s⟩, rfl, hds, ?_⟩
    exact ((HA.out.fin _ _ _ _).more (by omega)).fin
  by_cases z3 : z = 3
  · subst z3
    go_wp2_with fail
    go_at_call 43
    refine (spec_ofLit Hb.out _ _ _ w8 _ H8.out.1.1.1 (by repeat' (first | exact Ext.refl _ | assumption | refine Ext.alloc ?_ _ | refine Ext.ext ?_ _ | refine Ext.drew ?_ | refine Ext.drewN ?_ _)) (by simp) (by rfl) (by omega) (by omega) (fun s => decide (s.size ≤ 9)) (by kernel_rfl)).mono ?_
    rintro e w9 ⟨s9, rfl, hi9, hc, hg⟩
    replace hds : s9.size ≤ 9 := by simpa using hi9
    clear hi9
    have H9 := hid (H8.out.step hc hg)
    clear c0 c1 c2 c3 f0 f1 f2 f3 hD r0 r1 r2 r3 q0 q1 q2 q3 hR
    clear hc hg H8
    obtain ⟨⟨c0, c1, c2, c3⟩, ⟨f0, f1, f2, f3⟩, hD⟩ := box4 H9.out.2.1
    obtain ⟨⟨r0, r1, r2, r3⟩, ⟨q0, q1, q2, q3⟩, hR⟩ := box4 H9.out.1.2
    have HA : Hid (FB w (w9.setCell ⟨D, 3, none⟩ (.string s9)) lo B v bs (A + 1 + 1 + 1 + 3 + 1 + 1 + 1) D #[.int .i64 x1, .int .i64 x3, .int .i64 x2, .string s9]) := H9.out.set 3 _
    go_wp2
    refine bodyPost_ret (results_cell_row rfl _ _ w.heap.size _ _ (0, 0) _ rfl (box4_set (t := 31) HA.out.1.2 _ _ _ _) Tryz.underlying31 rfl (by kernel_rfl)) rfl ⟨⟨x1, x3, x2, s9⟩, rfl, hds, ?_⟩
    exact ((HA.out.fin _ _ _ _).more (by omega)).fin
  have t0 : (z == 0) = false := by rw [beq_eq_false_iff_ne]; omega
  have t1 : (z == 1) = false := by rw [beq_eq_false_iff_ne]; omega
  have t2 : (z == 2) = false := by rw [beq_eq_false_iff_ne]; omega
  have t3 : (z == 3) = false := by rw [beq_eq_false_iff_ne]; omega
  go_wp2
  refine bodyPost_ret (results_cell_row rfl _ _ w.heap.size _ _ (0, 0) _ rfl (box4_set (t := 31) H8.out.1.2 _ _ _ _) Tryz.underlying31 rfl (by kernel_rfl)) rfl ⟨⟨x1, x3, x2, s⟩, rfl, hds, ?_⟩
  exact ((H8.out.fin _ _ _ _).more (by omega)).fin
end Go.Proofs.YtnngklclehffhaaGreatDoor
