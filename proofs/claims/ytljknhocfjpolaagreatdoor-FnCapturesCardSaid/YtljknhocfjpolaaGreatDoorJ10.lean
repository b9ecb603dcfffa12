/- Packets that are drawn. Packets that are drawn, also invalid ones. A variable of eight cells. -/
import Derived.Test.YtljknhocfjpolaaGreatDoorKWCurS
import Derived.Test.YtljknhocfjpolaaGreatDoorKWCap
import Derived.Test.YtljknhocfjpolaaGreatDoorKit
import Derived.Deep.DeepCutAuto
import Derived.Deep.RegionHeld3
import Derived.Test.YtljknhocfjpolaaGreatDoorJ2
namespace Go.Proofs.YtljknhocfjpolaaGreatDoor
open Go.RowKit
set_option maxHeartbeats 2000000
set_option maxRecDepth 100000
theorem box5 {w : World} {B t : Nat} {a b c d e : Value} (h : w.heap[B]? = some (.cells #[a, b, c, d, e] t (0, 0))) :
    (w.cell? ⟨B, 0, none⟩ = some a ∧ w.cell? ⟨B, 1, none⟩ = some b ∧ w.cell? ⟨B, 2, none⟩ = some c ∧ w.cell? ⟨B, 3, none⟩ = some d ∧ w.cell? ⟨B, 4, none⟩ = some e) ∧
    (w.frozen? ⟨B, 0, none⟩ = false ∧ w.frozen? ⟨B, 1, none⟩ = false ∧ w.frozen? ⟨B, 2, none⟩ = false ∧ w.frozen? ⟨B, 3, none⟩ = false ∧ w.frozen? ⟨B, 4, none⟩ = false) ∧ B < w.heap.size := by
  refine ⟨⟨?_, ?_, ?_, ?_, ?_⟩, ⟨frozen_of_row w B 0 _ t h, frozen_of_row w B 1 _ t h, frozen_of_row w B 2 _ t h, frozen_of_row w B 3 _ t h, frozen_of_row w B 4 _ t h⟩, (Array.getElem?_eq_some_iff.1 h).1⟩
  · rw [cell_of_row w B 0 _ t _ h]; rfl
  · rw [cell_of_row w B 1 _ t _ h]; rfl
  · rw [cell_of_row w B 2 _ t _ h]; rfl
  · rw [cell_of_row w B 3 _ t _ h]; rfl
  · rw [cell_of_row w B 4 _ t _ h]; rfl
theorem box5_set {w : World} {B t : Nat} {a b c d e : Value} (h : w.heap[B]? = some (.cells #[a, b, c, d, e] t (0, 0))) (a' b' c' d' e' : Value) :
    (((((w.setCell ⟨B, 0, none⟩ a').setCell ⟨B, 1, none⟩ b').setCell ⟨B, 2, none⟩ c').setCell ⟨B, 3, none⟩ d').setCell ⟨B, 4, none⟩ e').heap[B]? = some (.cells #[a', b', c', d', e'] t (0, 0)) := by
  have h1 := heap_setCell_same _ B 0 _ t a' h
  have h2 := heap_setCell_same _ B 1 _ t b' h1
  have h3 := heap_setCell_same _ B 2 _ t c' h2
  have h4 := heap_setCell_same _ B 3 _ t d' h3
  have h5 := heap_setCell_same _ B 4 _ t e' h4
  simpa using h5
theorem spec_l2After (x n : Int) (w : World) : Calls Tryz.prog 125 #[.int .i64 x, .int .i64 n] w fun e w' => (∃ y, e = .returned (.int .i64 y)) ∧ w = w' := by
  go_enter Tryz.func125, Tryz.ntmps125
  go_wp2
  go_ret
  exact ⟨⟨_, rfl⟩, rfl⟩
theorem spec_serial {bs : List Int} (hb : Bts bs) {lo B A : Nat} {v : Value} (w : World) (h : Cs w lo B v bs A) (hA : A ≤ 800000) :
    Calls Tryz.prog 96 #[.pointer (some ⟨B, 0, none⟩)] w fun e w' => ∃ x : Int, e = .returned (.int .i64 x) ∧ Cs w' lo B v bs (A + 2) ∧ w.grownBy w' (some B) := by
  have Hb := hid hb
  have H0 := hid (Dr.start h)
  clear h hb
  go_enter Tryz.func96, Tryz.ntmps96
  go_wp2_with fail
  go_at_call 58
  refine (spec_amongLit Hb.out _ _ _ w _ H0.out.1 (by repeat' (first | exact Ext.refl _ | assumption | refine Ext.alloc ?_ _ | refine Ext.ext ?_ _ | refine Ext.drew ?_ | refine Ext.drewN ?_ _)) (by simp) (by rfl) (by omega) (by omega) (by simp)).mono ?_
  rintro e w1 ⟨x, rfl, hc, hg⟩
  have H1 := hid (H0.out.step hc hg)
  clear hc hg H0
  go_wp2_with fail
  go_at_call 59
  refine (spec_pick Hb.out 12 _ H1.out.1 (by omega) (by omega)).mono ?_
  rintro e w2 ⟨z, rfl, -, -, hc, hg⟩
  have H2 := hid (H1.out.step hc hg)
  clear hc hg H1
  go_wp2_with fail
  go_at_call 125
  refine (spec_l2After _ _ _).mono ?_
  rintro e w3 ⟨⟨y, rfl⟩, rfl⟩
  go_wp2
  go_ret
  exact ⟨y, rfl, (H2.out.more (by omega)).fin⟩
/-- While a packet is drawn: the result's box, and the packet's at D. -/
def PB0 (w W : World) (lo B : Nat) (v : Value) (bs : List Int) (A : Nat) : Prop := Dr w W lo B v bs A ∧ W.heap[w.heap.size]? = some (.cells #[.int .i64 0, .int .i64 0, .int .i64 0, .int .i64 0, .string ⟨#[]⟩] 46 (0, 0))
def PB (w W : World) (lo B : Nat) (v : Value) (bs : List Int) (A D : Nat) (c : Array Value) : Prop := PB0 w W lo B v bs A ∧ W.heap[D]? = some (.cells c 46 (0, 0)) ∧ w.heap.size < D
theorem PB0.step {w W W' : World} {lo B A A' : Nat} {v : Value} {bs : List Int} (h : PB0 w W lo B v bs A) (hc : Cs W' lo B v bs A') (hg : W.grownBy W' (some B)) : PB0 w W' lo B v bs A' :=
  ⟨h.1.step hc hg, blk_step h.1 h.2 (Nat.le_refl _) hg⟩
theorem PB0.ext {w W W' : World} {lo B A : Nat} {v : Value} {bs : List Int} (h : PB0 w W lo B v bs A) (hx : Ext W W') : PB0 w W' lo B v bs A := h.step (h.1.1.ext hx) (hx.grownBy _)
theorem PB.step {w W W' : World} {lo B A A' D : Nat} {v : Value} {bs : List Int} {c : Array Value} (h : PB w W lo B v bs A D c) (hc : Cs W' lo B v bs A') (hg : W.grownBy W' (some B)) : PB w W' lo B v bs A' D c :=
  ⟨h.1.step hc hg, blk_step h.1.1 h.2.1 (Nat.le_of_lt h.2.2) hg, h.2.2⟩
theorem PB.ext {w W W' : World} {lo B A D : Nat} {v : Value} {bs : List Int} {c : Array Value} (h : PB w W lo B v bs A D c) (hx : Ext W W') : PB w W' lo B v bs A D c := h.step (h.1.1.1.ext hx) (hx.grownBy _)
theorem PB.set {w W : World} {lo B A D : Nat} {v : Value} {bs : List Int} {c : Array Value} (h : PB w W lo B v bs A D c) (i : Nat) (u : Value) : PB w (W.setCell ⟨D, i, none⟩ u) lo B v bs A D (c.setIfInBounds i u) :=
  ⟨⟨h.1.1.set (Nat.le_of_lt h.2.2) u, blk_grow h.1.2 (grownBy_set W ⟨D, i, none⟩ u) (fun e => by have := Option.some.inj e; have := h.2.2; (try dsimp only at *); omega)⟩, heap_setCell_same W D i c _ u h.2.1, h.2.2⟩
theorem PB.fin {w W : World} {lo B A D : Nat} {v : Value} {bs : List Int} {c : Array Value} (h : PB w W lo B v bs A D c) (a b x y d : Value) :
    Dr w (((((W.setCell ⟨w.heap.size, 0, none⟩ a).setCell ⟨w.heap.size, 1, none⟩ b).setCell ⟨w.heap.size, 2, none⟩ x).setCell ⟨w.heap.size, 3, none⟩ y).setCell ⟨w.heap.size, 4, none⟩ d) lo B v bs A :=
  ((((h.1.1.set (p := ⟨w.heap.size, 0, none⟩) (Nat.le_refl _) a).set (p := ⟨w.heap.size, 1, none⟩) (Nat.le_refl _) b).set (p := ⟨w.heap.size, 2, none⟩) (Nat.le_refl _) x).set (p := ⟨w.heap.size, 3, none⟩) (Nat.le_refl _) y).set (p := ⟨w.heap.size, 4, none⟩) (Nat.le_refl _) d
theorem spec_packet {bs : List Int} (hb : Bts bs) {lo B A : Nat} {v : Value} (w : World) (h : Cs w lo B v bs A) (hA : A ≤ 600000) :
    Calls Tryz.prog 97 #[.pointer (some ⟨B, 0, none⟩)] w fun e w' => ∃ (c m r l : Int) (d : ByteArray), e = .returned (.agg #[.int .i64 c, .int .i64 m, .int .i64 r, .int .i64 l, .string d]) ∧ d.size ≤ 9 ∧ Cs w' lo B v bs (A + 14) ∧ w.grownBy w' (some B) := by
  have Hb := hid hb
  have H0 : Hid (PB0 w (w.alloc (.cells #[.int .i64 0, .int .i64 0, .int .i64 0, .int .i64 0, .string ⟨#[]⟩] 46)) lo B v bs A) := ⟨(Dr.start h).ext (by repeat' (first | exact Ext.refl _ | assumption | refine Ext.alloc ?_ _ | refine Ext.ext ?_ _ | refine Ext.drew ?_ | refine Ext.drewN ?_ _)), heap_at _ rfl⟩
  clear h hb
  go_enter Tryz.func97, Tryz.ntmps97
  go_wp2_with fail
  generalize w.alloc (.cells #[.int .i64 0, .int .i64 0, .int .i64 0, .int .i64 0, .string ⟨#[]⟩] 46) = W0 at *
  go_at_call 96
  refine (spec_serial Hb.out _ H0.out.1.1 (by omega)).mono ?_
  rintro e w1 ⟨x1, rfl, hc, hg⟩
  have H1 := hid (H0.out.step hc hg)
  clear hc hg H0
  go_wp2_with fail
  go_at_call 59
  refine (spec_pick Hb.out 5 _ H1.out.1.1 (by omega) (by omega)).mono ?_
  rintro e w2 ⟨x2, rfl, -, -, hc, hg⟩
  have H2 := hid (H1.out.step hc hg)
  clear hc hg H1
  go_wp2_with fail
  go_at_call 59
  refine (spec_pick Hb.out 9 _ H2.out.1.1 (by omega) (by omega)).mono ?_
  rintro e w3 ⟨x3, rfl, -, -, hc, hg⟩
  have H3 := hid (H2.out.step hc hg)
  clear hc hg H2
  go_wp2_with fail
  go_at_call 125
  refine (spec_l2After _ _ _).mono ?_
  rintro e w3' ⟨⟨y3, rfl⟩, rfl⟩
  go_wp2_with fail
  go_at_call 59
  refine (spec_pick Hb.out 10 _ H3.out.1.1 (by omega) (by omega)).mono ?_
  rintro e w4 ⟨x4, rfl, -, -, hc, hg⟩
  have H4 := hid (H3.out.step hc hg)
  clear hc hg H3
  go_wp2_with fail
  go_at_call 125
  refine (spec_l2After _ _ _).mono ?_
  rintro e w4' ⟨⟨y4, rfl⟩, rfl⟩
  generalize hk : wrap64 (1 + x2) = k
  have hs4 : w.heap.size < w4.heap.size := (Array.getElem?_eq_some_iff.1 H4.out.2).1
  have HD : Hid (PB w (w4.alloc (.cells #[.int .i64 k, .int .i64 y4, .int .i64 x1, .int .i64 y3, .string ⟨#[]⟩] 46)) lo B v bs (A + 2 + 1 + 1 + 1) w4.heap.size #[.int .i64 k, .int .i64 y4, .int .i64 x1, .int .i64 y3, .string ⟨#[]⟩]) := ⟨H4.out.ext (by repeat' (first | exact Ext.refl _ | assumption | refine Ext.alloc ?_ _ | refine Ext.ext ?_ _ | refine Ext.drew ?_ | refine Ext.drewN ?_ _)), heap_at _ rfl, hs4⟩
  clear H4
  go_upto_region 3 with fail
  generalize hw5 : (w4.alloc (.cells #[.int .i64 k, .int .i64 y4, .int .i64 x1, .int .i64 y3, .string ⟨#[]⟩] 46)) = w5 at *
  generalize w4.heap.size = D at *
  clear hw5 hk
  obtain ⟨⟨c0, c1, c2, c3, c4⟩, ⟨f0, f1, f2, f3, f4⟩, hD⟩ := box5 HD.out.2.1
  obtain ⟨⟨r0, r1, r2, r3, r4⟩, ⟨q0, q1, q2, q3, q4⟩, hR⟩ := box5 HD.out.1.2
  by_cases hk2 : k ≤ 2
  · go_wp2_with fail
    clear c0 c1 c2 c3 c4 f0 f1 f2 f3 f4 hD r0 r1 r2 r3 r4 q0 q1 q2 q3 q4 hR
    go_at_call 98
    refine (spec_letters Hb.out 8 8 rfl _ HD.out.1.1.1 (by omega) (by omega)).mono ?_
    rintro e w6 ⟨s, rfl, hi, hc, hg⟩
    have H6 := hid (HD.out.step hc hg)
    have hds : s.size ≤ 9 := by have := (itm_iff6 hi); omega
    clear hc hg HD hi
    obtain ⟨⟨c0, c1, c2, c3, c4⟩, ⟨f0, f1, f2, f3, f4⟩, hD⟩ := box5 H6.out.2.1
    obtain ⟨⟨r0, r1, r2, r3, r4⟩, ⟨q0, q1, q2, q3, q4⟩, hR⟩ := box5 H6.out.1.2
    have H7 : Hid (PB w (w6.setCell ⟨D, 4, none⟩ (.string s)) lo B v bs (A + 2 + 1 + 1 + 1 + 8 + 1) D #[.int .i64 k, .int .i64 y4, .int .i64 x1, .int .i64 y3, .string s]) := H6.out.set 4 _
    go_wp2
    refine bodyPost_ret (results_cell_row rfl _ _ w.heap.size _ _ (0, 0) _ rfl (box5_set (t := 46) H7.out.1.2 _ _ _ _ _) Tryz.underlying46 rfl (by kernel_rfl)) rfl ⟨k, y4, x1, y3, s, rfl, hds, ?_⟩
    exact ((H7.out.fin _ _ _ _ _).more (by omega)).fin
  · have hds : (⟨#[]⟩ : ByteArray).size ≤ 9 := by decide
    go_wp2
    refine bodyPost_ret (results_cell_row rfl _ _ w.heap.size _ _ (0, 0) _ rfl (box5_set (t := 46) HD.out.1.2 _ _ _ _ _) Tryz.underlying46 rfl (by kernel_rfl)) rfl ⟨k, y4, x1, y3, ⟨#[]⟩, rfl, hds, ?_⟩
    exact ((HD.out.fin _ _ _ _ _).more (by omega)).fin
end Go.Proofs.YtljknhocfjpolaaGreatDoor
namespace Go.Proofs.YtljknhocfjpolaaGreatDoor
open Go.RowKit
set_option maxHeartbeats 2000000
set_option maxRecDepth 100000
theorem spec_anyPacket {bs : List Int} (hb : Bts bs) {lo B A : Nat} {v : Value} (w : World) (h : Cs w lo B v bs A) (hA : A ≤ 500000) :
    Calls Tryz.prog 100 #[.pointer (some ⟨B, 0, none⟩)] w fun e w' => ∃ (c m r l : Int) (d : ByteArray), e = .returned (.agg #[.int .i64 c, .int .i64 m, .int .i64 r, .int .i64 l, .string d]) ∧ d.size ≤ 9 ∧ Cs w' lo B v bs (A + 16) ∧ w.grownBy w' (some B) := by
  have Hb := hid hb
  have H0 : Hid (PB0 w (w.alloc (.cells #[.int .i64 0, .int .i64 0, .int .i64 0, .int .i64 0, .string ⟨#[]⟩] 46)) lo B v bs A) := ⟨(Dr.start h).ext (by repeat' (first | exact Ext.refl _ | assumption | refine Ext.alloc ?_ _ | refine Ext.ext ?_ _ | refine Ext.drew ?_ | refine Ext.drewN ?_ _)), heap_at _ rfl⟩
  clear h hb
  go_enter Tryz.func100, Tryz.ntmps100
  go_wp2_with fail
  generalize w.alloc (.cells #[.int .i64 0, .int .i64 0, .int .i64 0, .int .i64 0, .string ⟨#[]⟩] 46) = W0 at *
  go_at_call 97
  refine (spec_packet Hb.out _ H0.out.1.1 (by omega)).mono ?_
  rintro e w1 ⟨c, m, r, l, d, rfl, hds, hc, hg⟩
  have H1 := hid (H0.out.step hc hg)
  clear hc hg H0
  have hs4 : w.heap.size < w1.heap.size := (Array.getElem?_eq_some_iff.1 H1.out.2).1
  have HD : Hid (PB w (w1.alloc (.cells #[.int .i64 c, .int .i64 m, .int .i64 r, .int .i64 l, .string d] 46)) lo B v bs (A + 14) w1.heap.size #[.int .i64 c, .int .i64 m, .int .i64 r, .int .i64 l, .string d]) := ⟨H1.out.ext (by repeat' (first | exact Ext.refl _ | assumption | refine Ext.alloc ?_ _ | refine Ext.ext ?_ _ | refine Ext.drew ?_ | refine Ext.drewN ?_ _)), heap_at _ rfl, hs4⟩
  clear H1
  go_wp2_with fail
  generalize (w1.alloc (.cells #[.int .i64 c, .int .i64 m, .int .i64 r, .int .i64 l, .string d] 46)) = w2 at *
  generalize w1.heap.size = D at *
  go_at_call 59
  refine (spec_pick Hb.out 24 _ HD.out.1.1.1 (by omega) (by omega)).mono ?_
  rintro e w8 ⟨z, rfl, hz0, hz1, hc, hg⟩
  have H8 := hid (HD.out.step hc hg)
  clear hc hg HD
  obtain ⟨⟨c0, c1, c2, c3, c4⟩, ⟨f0, f1, f2, f3, f4⟩, hD⟩ := box5 H8.out.2.1
  obtain ⟨⟨r0, r1, r2, r3, r4⟩, ⟨q0, q1, q2, q3, q4⟩, hR⟩ := box5 H8.out.1.2
  by_cases z0 : z = 0
  · subst z0
    go_wp2_with fail
    go_at_call 58
    refine (spec_amongLit Hb.out _ _ _ w8 _ H8.out.1.1.1 (by repeat' (first | exact Ext.refl _ | assumption | refine Ext.alloc ?_ _ | refine Ext.ext ?_ _ | refine Ext.drew ?_ | refine Ext.drewN ?_ _)) (by simp) (by rfl) (by omega) (by omega) (by simp)).mono ?_
    rintro e w9 ⟨x9, rfl, hc, hg⟩
    have H9 := hid (H8.out.step hc hg)
    clear c0 c1 c2 c3 c4 f0 f1 f2 f3 f4 hD r0 r1 r2 r3 r4 q0 q1 q2 q3 q4 hR
    clear hc hg H8
    obtain ⟨⟨c0, c1, c2, c3, c4⟩, ⟨f0, f1, f2, f3, f4⟩, hD⟩ := box5 H9.out.2.1
    obtain ⟨⟨r0, r1, r2, r3, r4⟩, ⟨q0, q1, q2, q3, q4⟩, hR⟩ := box5 H9.out.1.2
    have HA : Hid (PB w (w9.setCell ⟨D, 0, none⟩ (.int .i64 x9)) lo B v bs (A + 14 + 1 + 1) D #[.int .i64 x9, .int .i64 m, .int .i64 r, .int .i64 l, .string d]) := H9.out.set 0 _
    go_wp2
    refine bodyPost_ret (results_cell_row rfl _ _ w.heap.size _ _ (0, 0) _ rfl (box5_set (t := 46) HA.out.1.2 _ _ _ _ _) Tryz.underlying46 rfl (by kernel_rfl)) rfl ⟨x9, m, r, l, d, rfl, hds, ?_⟩
    exact ((HA.out.fin _ _ _ _ _).more (by omega)).fin
  by_cases z1 : z = 1
  · subst z1
    go_wp2_with fail
    go_at_call 58
    refine (spec_amongLit Hb.out _ _ _ w8 _ H8.out.1.1.1 (by repeat' (first | exact Ext.refl _ | assumption | refine Ext.alloc ?_ _ | refine Ext.ext ?_ _ | refine Ext.drew ?_ | refine Ext.drewN ?_ _)) (by simp) (by rfl) (by omega) (by omega) (by simp)).mono ?_
    rintro e w9 ⟨x9, rfl, hc, hg⟩
    have H9 := hid (H8.out.step hc hg)
    clear c0 c1 c2 c3 c4 f0 f1 f2 f3 f4 hD r0 r1 r2 r3 r4 q0 q1 q2 q3 q4 hR
    clear hc hg H8
    obtain ⟨⟨c0, c1, c2, c3, c4⟩, ⟨f0, f1, f2, f3, f4⟩, hD⟩ := box5 H9.out.2.1
    obtain ⟨⟨r0, r1, r2, r3, r4⟩, ⟨q0, q1, q2, q3, q4⟩, hR⟩ := box5 H9.out.1.2
    have HA : Hid (PB w (w9.setCell ⟨D, 1, none⟩ (.int .i64 x9)) lo B v bs (A + 14 + 1 + 1) D #[.int .i64 c, .int .i64 x9, .int .i64 r, .int .i64 l, .string d]) := H9.out.set 1 _
    go_wp2
    refine bodyPost_ret (results_cell_row rfl _ _ w.heap.size _ _ (0, 0) _ rfl (box5_set (t := 46) HA.out.1.2 _ _ _ _ _) Tryz.underlying46 rfl (by kernel_rfl)) rfl ⟨c, x9, r, l, d, rfl, hds, ?_⟩
    exact ((HA.out.fin _ _ _ _ _).more (by omega)).fin
  by_cases z2 : z = 2
  · subst z2
    go_wp2_with fail
    have a2 := (Ext.refl w8).drew.cell c2
    have ham : Hid (Calls Tryz.prog 58 #[.pointer (some ⟨B, 0, none⟩), .slice (some ⟨w8.heap.size, 0, none⟩) 2 2] (w8.alloc (.cells #[.int .i64 32767, .int .i64 32768] 3)).drew fun e w' => ∃ x : Int, e = .returned (.int .i64 x) ∧ PB w w' lo B v bs (A + 14 + 1 + 1) D #[.int .i64 c, .int .i64 m, .int .i64 r, .int .i64 l, .string d]) :=
      (spec_amongLit Hb.out #[.int .i64 32767, .int .i64 32768] 2 w8.heap.size w8 w8.drew H8.out.1.1.1 (Ext.refl w8).drew (by simp) rfl (by omega) (by omega) (by simp)).mono fun e w' ⟨x, e1, e2, e3⟩ => ⟨x, e1, H8.out.step e2 e3⟩
    have k2 := ((Ext.refl w8).alloc (.cells #[.int .i64 32767, .int .i64 32768] 3)).cell c2
    have k3 := (((Ext.refl w8).alloc (.cells #[.int .i64 32767, .int .i64 32768] 3)).drew).cell c2
    clear H8
    go_region_held3 (fun w' => w'.cell? ⟨D, 2, none⟩ = some (.int .i64 r)) (first | exact c2 | exact a2 | exact k2 | exact k3 | exact b2 | exact d2 | go_keep)
      (first
        | (go_at_call 58; (with_reducible refine ham.out.mono ?_); rintro e w9 ⟨x9, rfl, hd⟩; have H9 := hid hd; clear hd; obtain ⟨⟨b0, b1, b2, b3, b4⟩, ⟨g0, g1, g2, g3, g4⟩, hD9⟩ := box5 H9.out.2.1)
        | (go_at_call 125; (with_reducible refine (spec_l2After _ _ _).mono ?_); rintro e w9' ⟨⟨y9, rfl⟩, rfl⟩; have HA : Hid (PB w (w9.setCell ⟨D, 3, none⟩ (.int .i64 y9)) lo B v bs (A + 14 + 1 + 1) D #[.int .i64 c, .int .i64 m, .int .i64 r, .int .i64 y9, .string d]) := H9.out.set 3 _; have d2 := (box5 HA.out.2.1).1.2.2.1)
        | fail)
    generalize w9.setCell ⟨D, 3, none⟩ (.int .i64 y9) = W9 at *
    clear b0 b1 b2 b3 b4 g0 g1 g2 g3 g4 hD9 H9 a2 k2 k3 ham d2
    clear c0 c1 c2 c3 c4 f0 f1 f2 f3 f4 hD r0 r1 r2 r3 r4 q0 q1 q2 q3 q4 hR
    obtain ⟨⟨c0, c1, c2, c3, c4⟩, ⟨f0, f1, f2, f3, f4⟩, hD⟩ := box5 HA.out.2.1
    obtain ⟨⟨r0, r1, r2, r3, r4⟩, ⟨q0, q1, q2, q3, q4⟩, hR⟩ := box5 HA.out.1.2
    go_wp2
    refine bodyPost_ret (results_cell_row rfl _ _ w.heap.size _ _ (0, 0) _ rfl (box5_set (t := 46) HA.out.1.2 _ _ _ _ _) Tryz.underlying46 rfl (by kernel_rfl)) rfl ⟨c, m, r, y9, d, rfl, hds, ?_⟩
    exact ((HA.out.fin _ _ _ _ _).more (by omega)).fin
  by_cases z3 : z = 3
  · subst z3
    go_wp2_with fail
    go_at_call 126
    refine (spec_ofLit Hb.out _ _ _ w8 _ H8.out.1.1.1 (by repeat' (first | exact Ext.refl _ | assumption | refine Ext.alloc ?_ _ | refine Ext.ext ?_ _ | refine Ext.drew ?_ | refine Ext.drewN ?_ _)) (by simp) (by rfl) (by omega) (by omega) (fun s => decide (s.size ≤ 9)) (by kernel_rfl)).mono ?_
    rintro e w9 ⟨s9, rfl, hi9, hc, hg⟩
    replace hds : s9.size ≤ 9 := by simpa using hi9
    clear hi9
    have H9 := hid (H8.out.step hc hg)
    clear c0 c1 c2 c3 c4 f0 f1 f2 f3 f4 hD r0 r1 r2 r3 r4 q0 q1 q2 q3 q4 hR
    clear hc hg H8
    obtain ⟨⟨c0, c1, c2, c3, c4⟩, ⟨f0, f1, f2, f3, f4⟩, hD⟩ := box5 H9.out.2.1
    obtain ⟨⟨r0, r1, r2, r3, r4⟩, ⟨q0, q1, q2, q3, q4⟩, hR⟩ := box5 H9.out.1.2
    have HA : Hid (PB w (w9.setCell ⟨D, 4, none⟩ (.string s9)) lo B v bs (A + 14 + 1 + 1) D #[.int .i64 c, .int .i64 m, .int .i64 r, .int .i64 l, .string s9]) := H9.out.set 4 _
    go_wp2
    refine bodyPost_ret (results_cell_row rfl _ _ w.heap.size _ _ (0, 0) _ rfl (box5_set (t := 46) HA.out.1.2 _ _ _ _ _) Tryz.underlying46 rfl (by kernel_rfl)) rfl ⟨c, m, r, l, s9, rfl, hds, ?_⟩
    exact ((HA.out.fin _ _ _ _ _).more (by omega)).fin
  have t0 : (z == 0) = false := by rw [beq_eq_false_iff_ne]; omega
  have t1 : (z == 1) = false := by rw [beq_eq_false_iff_ne]; omega
  have t2 : (z == 2) = false := by rw [beq_eq_false_iff_ne]; omega
  have t3 : (z == 3) = false := by rw [beq_eq_false_iff_ne]; omega
  go_wp2
  refine bodyPost_ret (results_cell_row rfl _ _ w.heap.size _ _ (0, 0) _ rfl (box5_set (t := 46) H8.out.1.2 _ _ _ _ _) Tryz.underlying46 rfl (by kernel_rfl)) rfl ⟨c, m, r, l, d, rfl, hds, ?_⟩
  exact ((H8.out.fin _ _ _ _ _).more (by omega)).fin
end Go.Proofs.YtljknhocfjpolaaGreatDoor
namespace Go.Proofs.YtljknhocfjpolaaGreatDoor
open Go.RowKit
set_option maxHeartbeats 400000
theorem cell8 {w : World} {B t : Nat} {cs : List Value} {a : Value} (h : w.heap[B]? = some (.cells cs.toArray t (0, 0))) (i : Nat) (hi : cs[i]? = some a) : w.cell? ⟨B, i, none⟩ = some a ∧ w.frozen? ⟨B, i, none⟩ = false := by
  refine ⟨?_, frozen_of_row w B i _ t h⟩
  rw [cell_of_row w B i _ t _ h, List.getElem?_toArray]; exact hi
theorem box8 {w : World} {B t : Nat} {a b c d e f g k : Value} (h : w.heap[B]? = some (.cells #[a, b, c, d, e, f, g, k] t (0, 0))) :
    (w.cell? ⟨B, 0, none⟩ = some a ∧ w.cell? ⟨B, 1, none⟩ = some b ∧ w.cell? ⟨B, 2, none⟩ = some c ∧ w.cell? ⟨B, 3, none⟩ = some d ∧ w.cell? ⟨B, 4, none⟩ = some e ∧ w.cell? ⟨B, 5, none⟩ = some f ∧ w.cell? ⟨B, 6, none⟩ = some g ∧ w.cell? ⟨B, 7, none⟩ = some k) ∧
    (w.frozen? ⟨B, 0, none⟩ = false ∧ w.frozen? ⟨B, 1, none⟩ = false ∧ w.frozen? ⟨B, 2, none⟩ = false ∧ w.frozen? ⟨B, 3, none⟩ = false ∧ w.frozen? ⟨B, 4, none⟩ = false ∧ w.frozen? ⟨B, 5, none⟩ = false ∧ w.frozen? ⟨B, 6, none⟩ = false ∧ w.frozen? ⟨B, 7, none⟩ = false) ∧ B < w.heap.size := by
  have h0 := cell8 (cs := [a, b, c, d, e, f, g, k]) (a := a) h 0 rfl
  have h1 := cell8 (cs := [a, b, c, d, e, f, g, k]) (a := b) h 1 rfl
  have h2 := cell8 (cs := [a, b, c, d, e, f, g, k]) (a := c) h 2 rfl
  have h3 := cell8 (cs := [a, b, c, d, e, f, g, k]) (a := d) h 3 rfl
  have h4 := cell8 (cs := [a, b, c, d, e, f, g, k]) (a := e) h 4 rfl
  have h5 := cell8 (cs := [a, b, c, d, e, f, g, k]) (a := f) h 5 rfl
  have h6 := cell8 (cs := [a, b, c, d, e, f, g, k]) (a := g) h 6 rfl
  have h7 := cell8 (cs := [a, b, c, d, e, f, g, k]) (a := k) h 7 rfl
  exact ⟨⟨h0.1, h1.1, h2.1, h3.1, h4.1, h5.1, h6.1, h7.1⟩, ⟨h0.2, h1.2, h2.2, h3.2, h4.2, h5.2, h6.2, h7.2⟩, (Array.getElem?_eq_some_iff.1 h).1⟩
end Go.Proofs.YtljknhocfjpolaaGreatDoor
