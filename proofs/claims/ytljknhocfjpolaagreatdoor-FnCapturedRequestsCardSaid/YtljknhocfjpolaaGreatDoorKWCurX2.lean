/- Packets that are drawn, also invalid ones. -/
import Derived.Test.YtljknhocfjpolaaGreatDoorKWCurX
import Derived.Deep.RegionHeld3
namespace Go.Proofs.YtljknhocfjpolaaGreatDoor
open Go.RowKit
set_option maxHeartbeats 2000000
set_option maxRecDepth 100000
theorem spec_anyPacket {bs : List Int} (hb : Bts bs) {lo B A : Nat} {v : Value} (w : World) (h : Cs w lo B v bs A) (hA : A ≤ 500000) :
    Calls Tryz.prog 100 #[.pointer (some ⟨B, 0, none⟩)] w fun e w' => ∃ (c m r l : Int) (d : ByteArray), e = .returned (.agg #[.int .i64 c, .int .i64 m, .int .i64 r, .int .i64 l, .string d]) ∧ d.size ≤ 9 ∧ Cs w' lo B v bs (A + 16) ∧ w.grownBy w' (some B) := by
  have Hb := hid hb
  have H0 : Hid (PB0 w (w.alloc (.cells #[.int .i64 0, .int .i64 0, .int .i64 0, .int .i64 0, .string ⟨#[]⟩] 46)) lo B v bs A) := ⟨(Dr.start h).ext (by repeat' (first | exact Ext.refl _ | assumption | refine Ext.alloc ?_ _ | refine Ext.ext ?_ _ | refine Ext.drew ?_ | refine Ext.drewN ?_ _)), heap_at _ rfl⟩
  clear h hb
  go_enter Tryz.func100, Tryz.ntmps100
  go_wp2_with fail
  generalize w.alloc (.cells #[.int .i64 0, .int .i64 0, .int .i64 0, .int .i64 0, .string ⟨#[]⟩] 46) = W0 at *
  go_at_call 97
  refine (spec_packet Hb.out _ H0.out.1.1 (by omega)).mono ?_
  rintro e w1 ⟨c, m, r, l, d, rfl, hds, hc, hg⟩
  have H1 := hid (H0.out.step hc hg)
  clear hc hg H0
  have hs4 : w.heap.size < w1.heap.size := (Array.getElem?_eq_some_iff.1 H1.out.2).1
  have HD : Hid (PB w (w1.alloc (.cells #[.int .i64 c, .int .i64 m, .int .i64 r, .int .i64 l, .string d] 46)) lo B v bs (A + 14) w1.heap.size #[.int .i64 c, .int .i64 m, .int .i64 r, .int .i64 l, .string d]) := ⟨H1.out.ext (by repeat' (first | exact Ext.refl _ | assumption | refine Ext.alloc ?_ _ | refine Ext.ext ?_ _ | refine Ext.drew ?_ | refine Ext.drewN ?_ _)), heap_at _ rfl, hs4⟩
  clear H1
  go_wp2_with fail
  generalize (w1.alloc (.cells #[.int .i64 c, .int .i64 m, .int .i64 r, .int .i64 l, .string d] 46)) = w2 at *
  generalize w1.heap.size = D at *
  go_at_call 59
  refine (spec_pick Hb.out 24 _ HD.out.1.1.1 (by omega) (by omega)).mono ?_
  rintro e w8 ⟨z, rfl, hz0, hz1, hc, hg⟩
  have H8 := hid (HD.out.step hc hg)
  clear hc hg HD
  obtain ⟨⟨c0, c1, c2, c3, c4⟩, ⟨f0, f1, f2, f3, f4⟩, hD⟩ := box5 H8.out.2.1
  obtain ⟨⟨r0, r1, r2, r3, r4⟩, ⟨q0, q1, q2, q3, q4⟩, hR⟩ := box5 H8.out.1.2
  by_cases z0 : z = 0
  · subst z0
    go_wp2_with fail
    go_at_call 58
    refine (spec_amongLit Hb.out _ _ _ w8 _ H8.out.1.1.1 (by repeat' (first | exact Ext.refl _ | assumption | refine Ext.alloc ?_ _ | refine Ext.ext ?_ _ | refine Ext.drew ?_ | refine Ext.drewN ?_ _)) (by simp) (by rfl) (by omega) (by omega) (by simp)).mono ?_
    rintro e w9 ⟨x9, rfl, hc, hg⟩
    have H9 := hid (H8.out.step hc hg)
    clear c0 c1 c2 c3 c4 f0 f1 f2 f3 f4 hD r0 r1 r2 r3 r4 q0 q1 q2 q3 q4 hR
    clear hc hg H8
    obtain ⟨⟨c0, c1, c2, c3, c4⟩, ⟨f0, f1, f2, f3, f4⟩, hD⟩ := box5 H9.out.2.1
    obtain ⟨⟨r0, r1, r2, r3, r4⟩, ⟨q0, q1, q2, q3, q4⟩, hR⟩ := box5 H9.out.1.2
    have HA : Hid (PB w (w9.setCell ⟨D, 0, none⟩ (.int .i64 x9)) lo B v bs (A + 14 + 1 + 1) D #[.int .i64 x9, .int .i64 m, .int .i64 r, .int .i64 l, .string d]) := H9.out.set 0 _
    go_wp2
    refine bodyPost_ret (results_cell_row rfl _ _ w.heap.size _ _ (0, 0) _ rfl (box5_set (t := 46) HA.out.1.2 _ _ _ _ _) Tryz.underlying46 rfl (by kernel_rfl)) rfl ⟨x9, m, r, l, d, rfl, hds, ?_⟩
    exact ((HA.out.fin _ _ _ _ _).more (by omega)).fin
  by_cases z1 : z = 1
  · subst z1
    go_wp2_with fail
    go_at_call 58
    refine (spec_amongLit Hb.out _ _ _ w8 _ H8.out.1.1.1 (by repeat' (first | exact Ext.refl _ | assumption | refine Ext.alloc ?_ _ | refine Ext.ext ?_ _ | refine Ext.drew ?_ | refine Ext.drewN ?_ _)) (by simp) (by rfl) (by omega) (by omega) (by simp)).mono ?_
    rintro e w9 ⟨x9, rfl, hc, hg⟩
    have H9 := hid (H8.out.step hc hg)
    clear c0 c1 c2 c3 c4 f0 f1 f2 f3 f4 hD r0 r1 r2 r3 r4 q0 q1 q2 q3 q4 hR
    clear hc hg H8
    obtain ⟨⟨c0, c1, c2, c3, c4⟩, ⟨f0, f1, f2, f3, f4⟩, hD⟩ := box5 H9.out.2.1
    obtain ⟨⟨r0, r1, r2, r3, r4⟩, ⟨q0, q1, q2, q3, q4⟩, hR⟩ := box5 H9.out.1.2
    have HA : Hid (PB w (w9.setCell ⟨D, 1, none⟩ (.int .i64 x9)) lo B v bs (A + 14 + 1 + 1) D #[.int .i64 c, .int .i64 x9, .int .i64 r, .int .i64 l, .string d]) := H9.out.set 1 _
    go_wp2
    refine bodyPost_ret (results_cell_row rfl _ _ w.heap.size _ _ (0, 0) _ rfl (box5_set (t := 46) HA.out.1.2 _ _ _ _ _) Tryz.underlying46 rfl (by kernel_rfl)) rfl ⟨c, x9, r, l, d, rfl, hds, ?_⟩
    exact ((HA.out.fin _ _ _ _ _).more (by omega)).fin
  by_cases z2 : z = 2
  · subst z2
    go_wp2_with fail
    have a2 := (Ext.refl w8).drew.cell c2
    have ham : Hid (Calls Tryz.prog 58 #[.pointer (some ⟨B, 0, none⟩), .slice (some ⟨w8.heap.size, 0, none⟩) 2 2] (w8.alloc (.cells #[.int .i64 32767, .int .i64 32768] 3)).drew fun e w' => ∃ x : Int, e = .returned (.int .i64 x) ∧ PB w w' lo B v bs (A + 14 + 1 + 1) D #[.int .i64 c, .int .i64 m, .int .i64 r, .int .i64 l, .string d]) :=
      (spec_amongLit Hb.out #[.int .i64 32767, .int .i64 32768] 2 w8.heap.size w8 w8.drew H8.out.1.1.1 (Ext.refl w8).drew (by simp) rfl (by omega) (by omega) (by simp)).mono fun e w' ⟨x, e1, e2, e3⟩ => ⟨x, e1, H8.out.step e2 e3⟩
    have k2 := ((Ext.refl w8).alloc (.cells #[.int .i64 32767, .int .i64 32768] 3)).cell c2
    have k3 := (((Ext.refl w8).alloc (.cells #[.int .i64 32767, .int .i64 32768] 3)).drew).cell c2
    clear H8
    go_region_held3 (fun w' => w'.cell? ⟨D, 2, none⟩ = some (.int .i64 r)) (first | exact c2 | exact a2 | exact k2 | exact k3 | exact b2 | exact d2 | go_keep)
      (first
        | (go_at_call 58; (with_reducible refine ham.out.mono ?_); rintro e w9 ⟨x9, rfl, hd⟩; have H9 := hid hd; clear hd; obtain ⟨⟨b0, b1, b2, b3, b4⟩, ⟨g0, g1, g2, g3, g4⟩, hD9⟩ := box5 H9.out.2.1)
        | (go_at_call 125; (with_reducible refine (spec_l2After _ _ _).mono ?_); rintro e w9' ⟨⟨y9, rfl⟩, rfl⟩; have HA : Hid (PB w (w9.setCell ⟨D, 3, none⟩ (.int .i64 y9)) lo B v bs (A + 14 + 1 + 1) D #[.int .i64 c, .int .i64 m, .int .i64 r, .int .i64 y9, .string d]) := H9.out.set 3 _; have d2 := (box5 HA.out.2.1).1.2.2.1)
        | fail)
    generalize w9.setCell ⟨D, 3, none⟩ (.int .i64 y9) = W9 at *
    clear b0 b1 b2 b3 b4 g0 g1 g2 g3 g4 hD9 H9 a2 k2 k3 ham d2
    clear c0 c1 c2 c3 c4 f0 f1 f2 f3 f4 hD r0 r1 r2 r3 r4 q0 q1 q2 q3 q4 hR
    obtain ⟨⟨c0, c1, c2, c3, c4⟩, ⟨f0, f1, f2, f3, f4⟩, hD⟩ := box5 HA.out.2.1
    obtain ⟨⟨r0, r1, r2, r3, r4⟩, ⟨q0, q1, q2, q3, q4⟩, hR⟩ := box5 HA.out.1.2
    go_wp2
    refine bodyPost_ret (results_cell_row rfl _ _ w.heap.size _ _ (0, 0) _ rfl (box5_set (t := 46) HA.out.1.2 _ _ _ _ _) Tryz.underlying46 rfl (by kernel_rfl)) rfl ⟨c, m, r, y9, d, rfl, hds, ?_⟩
    exact ((HA.out.fin _ _ _ _ _).more (by omega)).fin
  by_cases z3 : z = 3
  · subst z3
    go_wp2_with fail
    go_at_call 126
    refine (spec_ofLit Hb.out _ _ _ w8 _ H8.out.1.1.1 (by repeat' (first | exact Ext.refl _ | assumption | refine Ext.alloc ?_ _ | refine Ext.ext ?_ _ | refine Ext.drew ?_ | refine Ext.drewN ?_ _)) (by simp) (by rfl) (by omega) (by omega) (fun s => decide (s.size ≤ 9)) (by kernel_rfl)).mono ?_
    rintro e w9 ⟨s9, rfl, hi9, hc, hg⟩
    replace hds : s9.size ≤ 9 := by simpa using hi9
    clear hi9
    have H9 := hid (H8.out.step hc hg)
    clear c0 c1 c2 c3 c4 f0 f1 f2 f3 f4 hD r0 r1 r2 r3 r4 q0 q1 q2 q3 q4 hR
    clear hc hg H8
    obtain ⟨⟨c0, c1, c2, c3, c4⟩, ⟨f0, f1, f2, f3, f4⟩, hD⟩ := box5 H9.out.2.1
    obtain ⟨⟨r0, r1, r2, r3, r4⟩, ⟨q0, q1, q2, q3, q4⟩, hR⟩ := box5 H9.out.1.2
    have HA : Hid (PB w (w9.setCell ⟨D, 4, none⟩ (.string s9)) lo B v bs (A + 14 + 1 + 1) D #[.int .i64 c, .int .i64 m, .int .i64 r, .int .i64 l, .string s9]) := H9.out.set 4 _
    go_wp2
    refine bodyPost_ret (results_cell_row rfl _ _ w.heap.size _ _ (0, 0) _ rfl (box5_set (t := 46) HA.out.1.2 _ _ _ _ _) Tryz.underlying46 rfl (by kernel_rfl)) rfl ⟨c, m, r, l, s9, rfl, hds, ?_⟩
    exact ((HA.out.fin _ _ _ _ _).more (by omega)).fin
  have t0 : (z == 0) = false := by rw [beq_eq_false_iff_ne]; omega
  have t1 : (z == 1) = false := by rw [beq_eq_false_iff_ne]; omega
  have t2 : (z == 2) = false := by rw [beq_eq_false_iff_ne]; omega
  have t3 : (z == 3) = false := by rw [beq_eq_false_iff_ne]; omega
  go_wp2
  refine bodyPost_ret (results_cell_row rfl _ _ w.heap.size _ _ (0, 0) _ rfl (box5_set (t := 46) H8.out.1.2 _ _ _ _ _) Tryz.underlying46 rfl (by kernel_rfl)) rfl ⟨c, m, r, l, d, rfl, hds, ?_⟩
  exact ((H8.out.fin _ _ _ _ _).more (by omega)).fin
end Go.Proofs.YtljknhocfjpolaaGreatDoor
