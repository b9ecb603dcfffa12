/- Deliveries that are drawn. -/
import Derived.Test.YtbencjbdbilmnaaDoorWCur
import Derived.Test.YtbencjbdbilmnaaDoorWD
import Derived.Test.YtbencjbdbilmnaaDoorWAsc
import Derived.Deep.RegionHeld3
namespace Go.Proofs.YtbencjbdbilmnaaDoor
open Go.RowKit
set_option maxHeartbeats 2000000
set_option maxRecDepth 100000
theorem ints_of : ∀ cs : List Value, (∀ y ∈ cs, ∃ k, y = .int .i64 k) → ∃ L : List Int, cs = vInts L
  | [], _ => ⟨[], rfl⟩
  | c :: cs, h => by
    obtain ⟨L, hL⟩ := ints_of cs (fun y hy => h y (by simp [hy]))
    obtain ⟨k, hk⟩ := h c (by simp)
    exact ⟨k :: L, by rw [hL, hk]; rfl⟩
/-- One of a literal's numbers. -/
theorem spec_amongLit {bs : List Int} (hb : Bts bs) {lo B A : Nat} {v : Value} (cs : Array Value) (n g : Nat) (w0 w : World) (h : Cs w0 lo B v bs A) (hx : Ext w0 w) (hg0 : g = w.heap.size) (hl : cs.size = n) (hA : A ≤ 900000) (hn : 1 ≤ n ∧ n ≤ 200) (hall : ∀ y ∈ cs.toList, ∃ k, y = .int .i64 k) :
    Calls Tryd.prog 67 #[.pointer (some ⟨B, 0, none⟩), .slice (some ⟨g, 0, none⟩) n n] (w.alloc (.cells cs 3)) fun e w' => ∃ x : Int, e = .returned (.int .i64 x) ∧ Cs w' lo B v bs (A + 1) ∧ w0.grownBy w' (some B) := by
  obtain ⟨L, hL⟩ := ints_of cs.toList hall
  have hl2 : n = L.length := by have := congrArg List.length hL; rw [← hl]; simpa [vInts] using this
  have hr := rd_lit w cs
  rw [hL, hl, hl2, ← hg0] at hr
  rw [hl2] at hn
  rw [hl2]
  have hc := h.ext (hx.alloc (.cells cs 3))
  have hlo := (h.ext hx).lo
  have hg := (hx.alloc (.cells cs 3)).grownBy (some B)
  clear hL hall hl hl2
  generalize w.alloc (.cells cs 3) = W at *
  have key := spec_among hb L (.slice (some ⟨g, 0, none⟩) L.length L.length) W hc hr (fun b o m c e _ => by cases e; omega) hA hn
  exact key.mono fun e w' ⟨x, e1, _, e2, e3⟩ => ⟨x, e1, e2, grownBy_trans hg e3⟩
/-- While a delivery is drawn: its box lies at D. -/
def DBx (w W : World) (lo B : Nat) (v : Value) (bs : List Int) (A D : Nat) (c : Array Value) : Prop :=
  Cs W lo B v bs A ∧ w.grownBy W (some B) ∧ (w.heap.size ≤ D ∧ lo ≤ D ∧ D ≠ B) ∧ W.heap[D]? = some (.cells c 26 (0, 0))
theorem DBx.step {w W W' : World} {lo B A A' D : Nat} {v : Value} {bs : List Int} {c : Array Value} (h : DBx w W lo B v bs A D c) (hc : Cs W' lo B v bs A') (hg : W.grownBy W' (some B)) : DBx w W' lo B v bs A' D c :=
  ⟨hc, grownBy_trans h.2.1 hg, h.2.2.1, (hg.block D (Array.getElem?_eq_some_iff.1 h.2.2.2).1 (fun e => h.2.2.1.2.2 (Option.some.inj e))).trans h.2.2.2⟩
theorem DBx.ext {w W W' : World} {lo B A D : Nat} {v : Value} {bs : List Int} {c : Array Value} (h : DBx w W lo B v bs A D c) (hx : Ext W W') : DBx w W' lo B v bs A D c := h.step (h.1.ext hx) (hx.grownBy _)
theorem DBx.set {w W : World} {lo B A D : Nat} {v : Value} {bs : List Int} {c : Array Value} (h : DBx w W lo B v bs A D c) (i : Nat) (u : Value) : DBx w (W.setCell ⟨D, i, none⟩ u) lo B v bs A D (c.setIfInBounds i u) := by
  have hg := grownBy_set W ⟨D, i, none⟩ u
  refine ⟨h.1.grown hg (fun b e => ?_), grownBy_far h.2.1 hg (fun j e => ?_), h.2.2.1, heap_setCell_same W D i c _ u h.2.2.2⟩
  · have e2 : D = b := Option.some.inj e
    subst e2; exact h.2.2.1.2
  · have e2 : D = j := Option.some.inj e
    subst e2; exact .inl h.2.2.1.1
def Z4 : Array Value := #[.int .i64 0, .int .i64 0, .int .i64 0, .int .i64 0]
theorem DBx.oth {w W : World} {lo B A R D : Nat} {v : Value} {bs : List Int} {c c2 : Array Value} (h : DBx w W lo B v bs A R c) (h2 : DBx w W lo B v bs A D c2) (ne : R ≠ D) (i : Nat) (u : Value) : DBx w (W.setCell ⟨D, i, none⟩ u) lo B v bs A R c :=
  ⟨(h2.set i u).1, (h2.set i u).2.1, h.2.2.1, ((grownBy_set W ⟨D, i, none⟩ u).block R (Array.getElem?_eq_some_iff.1 h.2.2.2).1 (fun e => ne (Option.some.inj e))).trans h.2.2.2⟩
/-- The result's box and the delivery's. -/
def DB2 (w W : World) (lo B : Nat) (v : Value) (bs : List Int) (A R D : Nat) (c : Array Value) : Prop := DBx w W lo B v bs A R Z4 ∧ DBx w W lo B v bs A D c ∧ R ≠ D
theorem DB2.step {w W W' : World} {lo B A A' R D : Nat} {v : Value} {bs : List Int} {c : Array Value} (h : DB2 w W lo B v bs A R D c) (hc : Cs W' lo B v bs A') (hg : W.grownBy W' (some B)) : DB2 w W' lo B v bs A' R D c := ⟨h.1.step hc hg, h.2.1.step hc hg, h.2.2⟩
theorem DB2.set {w W : World} {lo B A R D : Nat} {v : Value} {bs : List Int} {c : Array Value} (h : DB2 w W lo B v bs A R D c) (i : Nat) (u : Value) : DB2 w (W.setCell ⟨D, i, none⟩ u) lo B v bs A R D (c.setIfInBounds i u) := ⟨h.1.oth h.2.1 h.2.2 i u, h.2.1.set i u, h.2.2⟩
theorem DB2.fin {w W : World} {lo B A R D : Nat} {v : Value} {bs : List Int} {c : Array Value} (h : DB2 w W lo B v bs A R D c) (a b x d : Value) :
    Cs ((((W.setCell ⟨R, 0, none⟩ a).setCell ⟨R, 1, none⟩ b).setCell ⟨R, 2, none⟩ x).setCell ⟨R, 3, none⟩ d) lo B v bs A ∧ w.grownBy ((((W.setCell ⟨R, 0, none⟩ a).setCell ⟨R, 1, none⟩ b).setCell ⟨R, 2, none⟩ x).setCell ⟨R, 3, none⟩ d) (some B) := by
  have k := (((h.1.set 0 a).set 1 b).set 2 x).set 3 d
  exact ⟨k.1, k.2.1⟩
theorem spec_least (a b : Int) (w : World) : Calls Tryd.prog 68 #[.int .i64 a, .int .i64 b] w fun e w' => ∃ y : Int, e = .returned (.int .i64 y) ∧ w = w' := by
  by_cases h : a < b
  · go_enter Tryd.func68, Tryd.ntmps68
    go_wp2
    go_ret
    first | exact ⟨a, rfl, rfl⟩ | exact ⟨⟨a, rfl⟩, rfl⟩
  · go_enter Tryd.func68, Tryd.ntmps68
    go_wp2
    go_ret
    first | exact ⟨b, rfl, rfl⟩ | exact ⟨⟨b, rfl⟩, rfl⟩
theorem spec_delivery {bs : List Int} (hb : Bts bs) {lo B A : Nat} {v : Value} (r : Int) (w : World) (h : Cs w lo B v bs A) (hA : A ≤ 800000) :
    Calls Tryd.prog 59 #[.pointer (some ⟨B, 0, none⟩), .int .i64 r] w fun e w' => ∃ d : Dlv, e = .returned (.agg #[.int .i64 d.r, .int .i64 d.g, .int .i64 d.p, .int .i64 d.l]) ∧ Cs w' lo B v bs (A + 5) ∧ w.grownBy w' (some B) := by
  have Hb := hid hb
  have hlo := h.lo
  have H0 : Hid (DBx w (w.alloc (.cells Z4 26)) lo B v bs A w.heap.size Z4) :=
    ⟨h.ext (by repeat' (first | exact Ext.refl _ | assumption | refine Ext.alloc ?_ _ | refine Ext.ext ?_ _ | refine Ext.drew ?_ | refine Ext.drewN ?_ _)), Ext.grownBy (by repeat' (first | exact Ext.refl _ | assumption | refine Ext.alloc ?_ _ | refine Ext.ext ?_ _ | refine Ext.drew ?_ | refine Ext.drewN ?_ _)) _, ⟨Nat.le_refl _, by omega, by omega⟩, heap_at _ rfl⟩
  clear h hb
  go_enter Tryd.func59, Tryd.ntmps59
  go_wp2_with fail
  go_at_call 67
  refine (spec_amongLit Hb.out _ _ _ (w.alloc (.cells Z4 26)) _ H0.out.1 (by repeat' (first | exact Ext.refl _ | assumption | refine Ext.alloc ?_ _ | refine Ext.ext ?_ _ | refine Ext.drew ?_ | refine Ext.drewN ?_ _)) (by simp) (by rfl) (by omega) (by omega) (by simp)).mono ?_
  rintro e w1 ⟨x1, rfl, hc, hg⟩
  have H1 := hid (H0.out.step hc hg)
  clear hc hg
  go_wp2_with fail
  go_at_call 67
  refine (spec_amongLit Hb.out _ _ _ w1 _ H1.out.1 (by repeat' (first | exact Ext.refl _ | assumption | refine Ext.alloc ?_ _ | refine Ext.ext ?_ _ | refine Ext.drew ?_ | refine Ext.drewN ?_ _)) (by simp) (by rfl) (by omega) (by omega) (by simp)).mono ?_
  rintro e w2 ⟨x2, rfl, hc, hg⟩
  have H2 := hid (H1.out.step hc hg)
  clear hc hg
  have hs2 : w.heap.size < w2.heap.size := (Array.getElem?_eq_some_iff.1 H2.out.2.2.2).1
  have hl2 := H2.out.1.lo
  have HD : Hid (DB2 w (w2.alloc (.cells #[.int .i64 r, .int .i64 x1, .int .i64 0, .int .i64 x2] 26)) lo B v bs (A + 1 + 1) w.heap.size w2.heap.size #[.int .i64 r, .int .i64 x1, .int .i64 0, .int .i64 x2]) :=
    ⟨H2.out.ext (by repeat' (first | exact Ext.refl _ | assumption | refine Ext.alloc ?_ _ | refine Ext.ext ?_ _ | refine Ext.drew ?_ | refine Ext.drewN ?_ _)), ⟨H2.out.1.ext (by repeat' (first | exact Ext.refl _ | assumption | refine Ext.alloc ?_ _ | refine Ext.ext ?_ _ | refine Ext.drew ?_ | refine Ext.drewN ?_ _)), grownBy_trans H2.out.2.1 (Ext.grownBy (by repeat' (first | exact Ext.refl _ | assumption | refine Ext.alloc ?_ _ | refine Ext.ext ?_ _ | refine Ext.drew ?_ | refine Ext.drewN ?_ _)) _), ⟨by omega, by omega, by omega⟩, heap_at _ rfl⟩, by omega⟩
  obtain ⟨⟨c0, c1, c2, c3⟩, ⟨f0, f1, f2, f3⟩, hD⟩ := box4 HD.out.2.1.2.2.2
  go_wp2_with fail
  generalize w2.heap.size = D at *
  generalize w2.alloc (.cells #[.int .i64 r, .int .i64 x1, .int .i64 0, .int .i64 x2] 26) = V at *
  have a1 := (Ext.refl V).drew.cell c1
  have ham : Hid (∀ (y q : Int), Calls Tryd.prog 67 #[.pointer (some ⟨B, 0, none⟩), .slice (some ⟨V.heap.size, 0, none⟩) 4 4] (V.drew.alloc (.cells #[.int .i64 0, .int .i64 x1, .int .i64 y, .int .i64 q] 3)) fun e w' => ∃ x : Int, e = .returned (.int .i64 x) ∧ DB2 w w' lo B v bs (A + 1 + 1 + 1) w.heap.size D #[.int .i64 r, .int .i64 x1, .int .i64 0, .int .i64 x2]) := fun y q =>
    (spec_amongLit Hb.out #[.int .i64 0, .int .i64 x1, .int .i64 y, .int .i64 q] 4 V.heap.size V V.drew HD.out.1.1 (Ext.refl V).drew (by simp) rfl (by omega) (by omega) (by simp)).mono fun e w' ⟨x, e1, e2, e3⟩ => ⟨x, e1, HD.out.step e2 e3⟩
  clear H0 H1 H2 hl2 hs2
  go_region_held3 (fun w' => w'.cell? ⟨D, 1, none⟩ = some (.int .i64 x1)) (first | exact c1 | exact a1 | exact a3 | exact a4 | go_keep)
    (first | (go_at_call 68; (with_reducible refine (spec_least 1 x1 _).mono ?_); rintro e w' ⟨y, rfl, rfl⟩) | (go_at_call 67; (refine (ham.out _ _).mono ?_); rintro e w3 ⟨x3, rfl, hd⟩; have H3 := hid hd; clear hd; obtain ⟨⟨a0, a3, a2, a5⟩, ⟨g0, g1, g2, g3⟩, hD3⟩ := box4 H3.out.2.1.2.2.2; have H4 : Hid (DB2 w (w3.setCell ⟨D, 2, none⟩ (.int .i64 x3)) lo B v bs (A + 1 + 1 + 1) w.heap.size D #[.int .i64 r, .int .i64 x1, .int .i64 x3, .int .i64 x2]) := H3.out.set 2 _; have a4 := (box4 H4.out.2.1.2.2.2).1.2.1))
  generalize w3.setCell ⟨D, 2, none⟩ (.int .i64 x3) = w4 at *
  clear H3 ham HD a0 a1 a2 a3 a4 a5 g0 g1 g2 g3 hD3 c0 c1 c2 c3 f0 f1 f2 f3 hD
  go_wp2_with fail
  go_at_call 66
  refine (spec_pick Hb.out 60 _ H4.out.1.1 (by omega) (by omega)).mono ?_
  rintro e w5 ⟨z, rfl, hz0, hz1, hc, hg⟩
  have H5 := hid (H4.out.step hc hg)
  clear hc hg H4
  obtain ⟨⟨c0, c1, c2, c3⟩, ⟨f0, f1, f2, f3⟩, hD⟩ := box4 H5.out.2.1.2.2.2
  obtain ⟨⟨r0, r1, r2, r3⟩, ⟨q0, q1, q2, q3⟩, hR⟩ := box4 (show w5.heap[w.heap.size]? = some (.cells #[.int .i64 0, .int .i64 0, .int .i64 0, .int .i64 0] 26 (0, 0)) from H5.out.1.2.2.2)
  have hRD := H5.out.2.2
  by_cases z0 : z = 0
  · subst z0
    go_wp2_with fail
    go_at_call 67
    refine (spec_amongLit Hb.out _ _ _ w5 _ H5.out.1.1 (by repeat' (first | exact Ext.refl _ | assumption | refine Ext.alloc ?_ _ | refine Ext.ext ?_ _ | refine Ext.drew ?_ | refine Ext.drewN ?_ _)) (by simp) (by rfl) (by omega) (by omega) (by simp)).mono ?_
    rintro e w6 ⟨x6, rfl, hc, hg⟩
    have H6 := hid (H5.out.step hc hg)
    clear hc hg c0 c1 c2 c3 f0 f1 f2 f3 hD r0 r1 r2 r3 q0 q1 q2 q3 hR
    obtain ⟨⟨c0, c1, c2, c3⟩, ⟨f0, f1, f2, f3⟩, hD⟩ := box4 H6.out.2.1.2.2.2
    have H7 : Hid (DB2 w (w6.setCell ⟨D, 0, none⟩ (.int .i64 x6)) lo B v bs (A + 1 + 1 + 1 + 1 + 1) w.heap.size D #[.int .i64 x6, .int .i64 x1, .int .i64 x3, .int .i64 x2]) := H6.out.set 0 _
    obtain ⟨⟨r0, r1, r2, r3⟩, ⟨q0, q1, q2, q3⟩, hR⟩ := box4 (show w6.heap[w.heap.size]? = some (.cells #[.int .i64 0, .int .i64 0, .int .i64 0, .int .i64 0] 26 (0, 0)) from H6.out.1.2.2.2)
    go_wp2
    refine bodyPost_ret (results_cell_row rfl _ _ w.heap.size _ _ (0, 0) _ rfl (box4_set (t := 26) (a := .int .i64 0) (b := .int .i64 0) (c := .int .i64 0) (d := .int .i64 0) H7.out.1.2.2.2 _ _ _ _) Tryd.underlying26 rfl (by kernel_rfl)) rfl ⟨⟨x6, x1, x3, x2⟩, rfl, ?_⟩
    exact ⟨(H7.out.fin _ _ _ _).1.more (by omega), (H7.out.fin _ _ _ _).2⟩
  by_cases z1 : z = 1
  · subst z1
    go_wp2_with fail
    go_at_call 67
    refine (spec_amongLit Hb.out _ _ _ w5 _ H5.out.1.1 (by repeat' (first | exact Ext.refl _ | assumption | refine Ext.alloc ?_ _ | refine Ext.ext ?_ _ | refine Ext.drew ?_ | refine Ext.drewN ?_ _)) (by simp) (by rfl) (by omega) (by omega) (by simp)).mono ?_
    rintro e w6 ⟨x6, rfl, hc, hg⟩
    have H6 := hid (H5.out.step hc hg)
    clear hc hg c0 c1 c2 c3 f0 f1 f2 f3 hD r0 r1 r2 r3 q0 q1 q2 q3 hR
    obtain ⟨⟨c0, c1, c2, c3⟩, ⟨f0, f1, f2, f3⟩, hD⟩ := box4 H6.out.2.1.2.2.2
    have H7 : Hid (DB2 w (w6.setCell ⟨D, 1, none⟩ (.int .i64 x6)) lo B v bs (A + 1 + 1 + 1 + 1 + 1) w.heap.size D #[.int .i64 r, .int .i64 x6, .int .i64 x3, .int .i64 x2]) := H6.out.set 1 _
    obtain ⟨⟨r0, r1, r2, r3⟩, ⟨q0, q1, q2, q3⟩, hR⟩ := box4 (show w6.heap[w.heap.size]? = some (.cells #[.int .i64 0, .int .i64 0, .int .i64 0, .int .i64 0] 26 (0, 0)) from H6.out.1.2.2.2)
    go_wp2
    refine bodyPost_ret (results_cell_row rfl _ _ w.heap.size _ _ (0, 0) _ rfl (box4_set (t := 26) (a := .int .i64 0) (b := .int .i64 0) (c := .int .i64 0) (d := .int .i64 0) H7.out.1.2.2.2 _ _ _ _) Tryd.underlying26 rfl (by kernel_rfl)) rfl ⟨⟨r, x6, x3, x2⟩, rfl, ?_⟩
    exact ⟨(H7.out.fin _ _ _ _).1.more (by omega), (H7.out.fin _ _ _ _).2⟩
  by_cases z2 : z = 2
  · subst z2
    go_wp2_with fail
    go_at_call 67
    refine (spec_amongLit Hb.out _ _ _ w5 _ H5.out.1.1 (by repeat' (first | exact Ext.refl _ | assumption | refine Ext.alloc ?_ _ | refine Ext.ext ?_ _ | refine Ext.drew ?_ | refine Ext.drewN ?_ _)) (by simp) (by rfl) (by omega) (by omega) (by simp)).mono ?_
    rintro e w6 ⟨x6, rfl, hc, hg⟩
    have H6 := hid (H5.out.step hc hg)
    clear hc hg c0 c1 c2 c3 f0 f1 f2 f3 hD r0 r1 r2 r3 q0 q1 q2 q3 hR
    obtain ⟨⟨c0, c1, c2, c3⟩, ⟨f0, f1, f2, f3⟩, hD⟩ := box4 H6.out.2.1.2.2.2
    have H7 : Hid (DB2 w (w6.setCell ⟨D, 2, none⟩ (.int .i64 x6)) lo B v bs (A + 1 + 1 + 1 + 1 + 1) w.heap.size D #[.int .i64 r, .int .i64 x1, .int .i64 x6, .int .i64 x2]) := H6.out.set 2 _
    obtain ⟨⟨r0, r1, r2, r3⟩, ⟨q0, q1, q2, q3⟩, hR⟩ := box4 (show w6.heap[w.heap.size]? = some (.cells #[.int .i64 0, .int .i64 0, .int .i64 0, .int .i64 0] 26 (0, 0)) from H6.out.1.2.2.2)
    go_wp2
    refine bodyPost_ret (results_cell_row rfl _ _ w.heap.size _ _ (0, 0) _ rfl (box4_set (t := 26) (a := .int .i64 0) (b := .int .i64 0) (c := .int .i64 0) (d := .int .i64 0) H7.out.1.2.2.2 _ _ _ _) Tryd.underlying26 rfl (by kernel_rfl)) rfl ⟨⟨r, x1, x6, x2⟩, rfl, ?_⟩
    exact ⟨(H7.out.fin _ _ _ _).1.more (by omega), (H7.out.fin _ _ _ _).2⟩
  by_cases z3 : z = 3
  · subst z3
    go_wp2_with fail
    go_at_call 67
    refine (spec_amongLit Hb.out _ _ _ w5 _ H5.out.1.1 (by repeat' (first | exact Ext.refl _ | assumption | refine Ext.alloc ?_ _ | refine Ext.ext ?_ _ | refine Ext.drew ?_ | refine Ext.drewN ?_ _)) (by simp) (by rfl) (by omega) (by omega) (by simp)).mono ?_
    rintro e w6 ⟨x6, rfl, hc, hg⟩
    have H6 := hid (H5.out.step hc hg)
    clear hc hg c0 c1 c2 c3 f0 f1 f2 f3 hD r0 r1 r2 r3 q0 q1 q2 q3 hR
    obtain ⟨⟨c0, c1, c2, c3⟩, ⟨f0, f1, f2, f3⟩, hD⟩ := box4 H6.out.2.1.2.2.2
    have H7 : Hid (DB2 w (w6.setCell ⟨D, 3, none⟩ (.int .i64 x6)) lo B v bs (A + 1 + 1 + 1 + 1 + 1) w.heap.size D #[.int .i64 r, .int .i64 x1, .int .i64 x3, .int .i64 x6]) := H6.out.set 3 _
    obtain ⟨⟨r0, r1, r2, r3⟩, ⟨q0, q1, q2, q3⟩, hR⟩ := box4 (show w6.heap[w.heap.size]? = some (.cells #[.int .i64 0, .int .i64 0, .int .i64 0, .int .i64 0] 26 (0, 0)) from H6.out.1.2.2.2)
    go_wp2
    refine bodyPost_ret (results_cell_row rfl _ _ w.heap.size _ _ (0, 0) _ rfl (box4_set (t := 26) (a := .int .i64 0) (b := .int .i64 0) (c := .int .i64 0) (d := .int .i64 0) H7.out.1.2.2.2 _ _ _ _) Tryd.underlying26 rfl (by kernel_rfl)) rfl ⟨⟨r, x1, x3, x6⟩, rfl, ?_⟩
    exact ⟨(H7.out.fin _ _ _ _).1.more (by omega), (H7.out.fin _ _ _ _).2⟩
  have t0 : (z == 0) = false := by rw [beq_eq_false_iff_ne]; omega
  have t1 : (z == 1) = false := by rw [beq_eq_false_iff_ne]; omega
  have t2 : (z == 2) = false := by rw [beq_eq_false_iff_ne]; omega
  have t3 : (z == 3) = false := by rw [beq_eq_false_iff_ne]; omega
  go_wp2
  refine bodyPost_ret (results_cell_row rfl _ _ w.heap.size _ _ (0, 0) _ rfl (box4_set (t := 26) (a := .int .i64 0) (b := .int .i64 0) (c := .int .i64 0) (d := .int .i64 0) H5.out.1.2.2.2 _ _ _ _) Tryd.underlying26 rfl (by kernel_rfl)) rfl ⟨⟨r, x1, x3, x2⟩, rfl, ?_⟩
  exact ⟨(H5.out.fin _ _ _ _).1.more (by omega), (H5.out.fin _ _ _ _).2⟩
end Go.Proofs.YtbencjbdbilmnaaDoor
