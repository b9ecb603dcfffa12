/- Captures that are drawn. -/
import Derived.Test.YtljknhocfjpolaaGreatDoorKWCurX3
namespace Go.Proofs.YtljknhocfjpolaaGreatDoor
open Go.RowKit
set_option maxHeartbeats 4000000
set_option maxRecDepth 100000
theorem spec_capture {bs : List Int} (hb : Bts bs) {lo B A : Nat} {v : Value} (w : World) (h : Cs w lo B v bs A) (hA : A ≤ 400000) :
    Calls Tryz.prog 55 #[.pointer (some ⟨B, 0, none⟩)] w fun e w' => ∃ (g cap : Nat) (xs : List Cap), e = .returned (.slice (some ⟨g, 0, none⟩) xs.length cap) ∧ SmC xs ∧ w'.ownsRow w.heap.size 48 8 (.slice (some ⟨g, 0, none⟩) xs.length cap) xs.length (xs.flatMap Cap.cs) ∧ Cs w' lo B v bs (A + 200) ∧ w.grownBy w' (some B) := by
  have Hb := hid hb
  have hl0 : (w.alloc (.cells #[] 48)).ownsRow w.heap.size 48 8 (.slice (some ⟨w.heap.size, 0, none⟩) 0 0) 0 [] := World.ownsRow_lit w #[] 0 (Nat.le_refl _) (Nat.zero_le _) rfl
  have H0 : Hid (KpD w (w.alloc (.cells #[] 48)) lo B v bs A w.heap.size 0 []) := ⟨(Dr.start h).ext (by repeat' (first | exact Ext.refl _ | assumption | refine Ext.alloc ?_ _ | refine Ext.ext ?_ _ | refine Ext.drew ?_ | refine Ext.drewN ?_ _)), hl0, fun _ h => by cases h⟩
  clear h hb hl0
  obtain ⟨i0, hi, hz0, hz1, hz2⟩ := info_parts infoCap
  go_enter Tryz.func55, Tryz.ntmps55
  go_wp2_with fail
  have hW0 : (w.alloc (.cells #[] 48)).heap.size = w.heap.size + 1 := by simp
  generalize w.alloc (.cells #[] 48) = W0 at *
  go_at_call 58
  refine (spec_amongLit Hb.out _ _ _ W0 _ H0.out.1.1 (by repeat' (first | exact Ext.refl _ | assumption | refine Ext.alloc ?_ _ | refine Ext.ext ?_ _ | refine Ext.drew ?_ | refine Ext.drewN ?_ _)) hW0.symm (by rfl) (by omega) (by omega) (by simp)).mono ?_
  rintro e w1 ⟨tk, rfl, hc, hg⟩
  have H1 := hid (H0.out.step hc hg)
  clear hc hg H0
  go_wp2_with fail
  go_at_call 96
  refine (spec_serial Hb.out _ H1.out.1.1 (by omega)).mono ?_
  rintro e w2 ⟨nu, rfl, hc, hg⟩
  have H2 := hid (H1.out.step hc hg)
  clear hc hg H1
  go_wp2_with fail
  go_at_call 59
  refine (spec_pick Hb.out 7 _ H2.out.1.1 (by omega) (by omega)).mono ?_
  rintro e w3 ⟨x, rfl, hx0, hx1, hc, hg⟩
  have H3 := hid (H2.out.step hc hg)
  clear hc hg H2
  obtain ⟨n0, rfl⟩ : ∃ k : Nat, x = k := ⟨x.toNat, by omega⟩
  have hn6 : n0 ≤ 6 := by omega
  clear hx0 hx1
  go_wp2
  go_loopw [6, 4, 3] (fun v6 v4 v3 wr => ∃ (k g cap : Nat) (t : Int) (xs : List Cap) (yr : World), k ≤ 6 ∧ v6 = .int .i64 k ∧ v4 = .int .i64 t ∧ v3 = .slice (some ⟨g, 0, none⟩) xs.length cap ∧ xs.length + k ≤ 6 ∧ yr = wr ∧ Hid (KpD w yr lo B v bs (A + 4 + 28 * (6 - k)) g cap xs)) (fun v6 _ _ _ => (intOf v6).toNat)
  case atStart => exact ⟨n0, _, _, tk, [], _, hn6, rfl, rfl, rfl, by simpa using hn6, rfl, H3.out.more (by omega)⟩
  case round =>
    obtain ⟨k, g, cap, t, xs, wr, hk, rfl, rfl, rfl, hl, rfl, HR⟩ := hrel
    clear H3
    by_cases hlt : 0 < k
    · obtain ⟨k, rfl⟩ : ∃ j, k = j + 1 := ⟨k - 1, by omega⟩
      have t0 : (0 : Int) < ((k + 1 : Nat) : Int) := by omega
      go_wp2_with fail
      go_at_call 59
      refine (spec_pick Hb.out 2 _ HR.out.1.1 (by omega) (by omega)).mono ?_
      rintro e w4 ⟨x1, rfl, -, -, hc, hg⟩
      have H4 := hid (HR.out.step hc hg)
      clear hc hg HR
      go_wp2_with fail
      go_at_call 56
      refine (spec_one Hb.out 2 _ H4.out.1.1 (by omega) (by omega)).mono ?_
      rintro e w5 ⟨u, rfl, hc, hg⟩
      have H5 := hid (H4.out.step hc hg)
      clear hc hg H4
      go_wp2_with fail
      go_at_call 97
      refine (spec_packet Hb.out _ H5.out.1.1 (by omega)).mono ?_
      rintro e w6 ⟨pc, pm, pr, pl, pd, rfl, hpd, hc, hg⟩
      have H6 := hid (H5.out.step hc hg)
      clear hc hg H5
      generalize hnd : wrap64 (1 + x1) = nd
      have H7 := hid (KX.mk H6.out (Cap.cs ⟨t, nd, u, pc, pm, pr, pl, pd⟩).toArray)
      go_upto_region 8 with fail
      change Hid (KX w (w6.alloc (.cells #[.int .i64 t, .int .i64 nd, .bool u, .int .i64 pc, .int .i64 pm, .int .i64 pr, .int .i64 pl, .string pd] 48)) lo B v bs _ g cap xs w6.heap.size #[.int .i64 t, .int .i64 nd, .bool u, .int .i64 pc, .int .i64 pm, .int .i64 pr, .int .i64 pl, .string pd]) at H7
      generalize w6.alloc (.cells #[.int .i64 t, .int .i64 nd, .bool u, .int .i64 pc, .int .i64 pm, .int .i64 pr, .int .i64 pl, .string pd] 48) = W7 at *
      generalize w6.heap.size = X at *
      clear H6 hnd
      go_wp2_with fail
      go_at_call 59
      refine (spec_pick Hb.out 3 _ H7.out.1.1.1 (by omega) (by omega)).mono ?_
      rintro e w8 ⟨z, rfl, -, -, hc, hg⟩
      have H8 := hid (H7.out.step hc hg)
      clear hc hg H7
      by_cases z0 : z = 0
      · subst z0
        obtain ⟨⟨c0, c1, c2, c3, c4, c5, c6, c7⟩, ⟨f0, f1, f2, f3, f4, f5, f6, f7⟩, hX⟩ := box8 H8.out.2.1
        have H9 : Hid (KX w ((((((w8.setCell ⟨X, 2, none⟩ (.bool true)).setCell ⟨X, 3, none⟩ (.int .i64 3)).setCell ⟨X, 4, none⟩ (.int .i64 nu)).setCell ⟨X, 5, none⟩ (.int .i64 nu)).setCell ⟨X, 6, none⟩ (.int .i64 nu)).setCell ⟨X, 7, none⟩ (.string ⟨#[]⟩)) lo B v bs _ g cap xs X #[.int .i64 t, .int .i64 nd, .bool true, .int .i64 3, .int .i64 nu, .int .i64 nu, .int .i64 nu, .string ⟨#[]⟩]) := (((((H8.out.set 2 _).set 3 _).set 4 _).set 5 _).set 6 _).set 7 _
        go_upto_region 15 with fail
        generalize ((((((w8.setCell ⟨X, 2, none⟩ (.bool true)).setCell ⟨X, 3, none⟩ (.int .i64 3)).setCell ⟨X, 4, none⟩ (.int .i64 nu)).setCell ⟨X, 5, none⟩ (.int .i64 nu)).setCell ⟨X, 6, none⟩ (.int .i64 nu)).setCell ⟨X, 7, none⟩ (.string ⟨#[]⟩)) = W9 at *
        clear c0 c1 c2 c3 c4 c5 c6 c7 f0 f1 f2 f3 f4 f5 f6 f7 hX
        clear H8
        have hds : (⟨#[]⟩ : ByteArray).size ≤ 9 := by decide
        obtain ⟨⟨c0, c1, c2, c3, c4, c5, c6, c7⟩, ⟨f0, f1, f2, f3, f4, f5, f6, f7⟩, hX⟩ := box8 H9.out.2.1
        go_wp2_with (at_builtin; refine wpList_append_own _ rfl _ _ 22 rfl w.heap.size 48 i0 (.agg #[.int .i64 0, .int .i64 0, .bool false, .int .i64 0, .int .i64 0, .int .i64 0, .int .i64 0, .string ByteArray.empty]) 8 72 Tryz.underlying22 hi hz0 hz1 hz2 rfl (by decide) _ _ _ rfl ((own_ext H9.out.1.2.1 (by repeat' (first | exact Ext.refl _ | assumption | refine Ext.alloc ?_ _ | refine Ext.ext ?_ _ | refine Ext.drew ?_ | refine Ext.drewN ?_ _)))) ⟨_, 0, none⟩ 1 1 [.int .i64 t, .int .i64 nd, .bool true, .int .i64 3, .int .i64 nu, .int .i64 nu, .int .i64 nu, .string ⟨#[]⟩] rfl ?a0A ?a1A ?a2A ?a3A ?a4A ?a5A ?_)
        (try case a0A => rfl)
        case a1A => (intro j u hj; rw [Addr.add_lit, Nat.zero_add, cell_of_row _ _ j _ _ (0, 0) (heap_at _ rfl)]; first | (simpa using hj) | (simpa [hwb.out] using hj))
        case a2A => simp [Value.oneCell']
        case a3A => (unfold maxLen; simp; omega)
        case a4A => (first | omega | (simp; omega))
        case a5A => (have := (H9.out.1.1.size); first | omega | (simp at *; omega))
        intro v' w1 hown' hgrow hat
        obtain ⟨g', cap', rfl, -, -⟩ := own_form8 hown' (Nat.succ_pos _)
        have HB := hid (KpD.grow (x := (⟨t, nd, true, 3, nu, nu, nu, ⟨#[]⟩⟩ : Cap)) (H9.out.1.ext (show Ext W9 _ from (by repeat' (first | exact Ext.refl _ | assumption | refine Ext.alloc ?_ _ | refine Ext.ext ?_ _ | refine Ext.drew ?_ | refine Ext.drewN ?_ _)))) hgrow hown' hds)
        clear c0 c1 c2 c3 c4 c5 c6 c7 f0 f1 f2 f3 f4 f5 f6 f7 hX
        clear hown' hgrow hat H9
        go_wp2_with fail
        go_at_call 58
        refine (spec_amongLit Hb.out _ _ _ w1 _ HB.out.1.1 (by repeat' (first | exact Ext.refl _ | assumption | refine Ext.alloc ?_ _ | refine Ext.ext ?_ _ | refine Ext.drew ?_ | refine Ext.drewN ?_ _)) (by simp) (by rfl) (by omega) (by omega) (by simp)).mono ?_
        rintro e wa ⟨xa, rfl, hc, hg⟩
        have HC := hid (HB.out.step hc hg)
        clear hc hg HB
        go_wp2_with fail
        go_at_call 99
        refine (spec_l1Least_some _ _ _).mono ?_
        rintro e wb ⟨⟨yb, rfl⟩, rfl⟩
        go_wp2
        go_roundw
        case rel => exact ⟨k, g', cap', yb, xs ++ [(⟨t, nd, true, 3, nu, nu, nu, ⟨#[]⟩⟩ : Cap)], _, by omega, by go_num, rfl, by simp, by simp; omega, rfl, HC.out.more (by omega)⟩
        case measure => simp [intOf]
      by_cases z1 : z = 1
      · subst z1
        obtain ⟨⟨c0, c1, c2, c3, c4, c5, c6, c7⟩, ⟨f0, f1, f2, f3, f4, f5, f6, f7⟩, hX⟩ := box8 H8.out.2.1
        have Ha : Hid (KX w (w8.setCell ⟨X, 2, none⟩ (.bool false)) lo B v bs _ g cap xs X #[.int .i64 t, .int .i64 nd, .bool false, .int .i64 pc, .int .i64 pm, .int .i64 pr, .int .i64 pl, .string pd]) := H8.out.set 2 _
        go_wp2_with fail
        generalize w8.setCell ⟨X, 2, none⟩ (.bool false) = W8 at *
        clear c0 c1 c2 c3 c4 c5 c6 c7 f0 f1 f2 f3 f4 f5 f6 f7 hX
        clear H8
        go_at_call 98
        refine (spec_letters Hb.out 8 8 rfl _ Ha.out.1.1.1 (by omega) (by omega)).mono ?_
        rintro e wl ⟨s, rfl, hi8, hc, hg⟩
        have Hl := hid (Ha.out.step hc hg)
        have hds : s.size ≤ 9 := by have := itm_iff6 hi8; omega
        clear hc hg Ha hi8
        obtain ⟨⟨c0, c1, c2, c3, c4, c5, c6, c7⟩, ⟨f0, f1, f2, f3, f4, f5, f6, f7⟩, hX⟩ := box8 Hl.out.2.1
        have H9 : Hid (KX w (((((wl.setCell ⟨X, 3, none⟩ (.int .i64 2)).setCell ⟨X, 4, none⟩ (.int .i64 nu)).setCell ⟨X, 5, none⟩ (.int .i64 nu)).setCell ⟨X, 6, none⟩ (.int .i64 nu)).setCell ⟨X, 7, none⟩ (.string s)) lo B v bs _ g cap xs X #[.int .i64 t, .int .i64 nd, .bool false, .int .i64 2, .int .i64 nu, .int .i64 nu, .int .i64 nu, .string s]) := ((((Hl.out.set 3 _).set 4 _).set 5 _).set 6 _).set 7 _
        go_upto_region 15 with fail
        generalize (((((wl.setCell ⟨X, 3, none⟩ (.int .i64 2)).setCell ⟨X, 4, none⟩ (.int .i64 nu)).setCell ⟨X, 5, none⟩ (.int .i64 nu)).setCell ⟨X, 6, none⟩ (.int .i64 nu)).setCell ⟨X, 7, none⟩ (.string s)) = W9 at *
        clear c0 c1 c2 c3 c4 c5 c6 c7 f0 f1 f2 f3 f4 f5 f6 f7 hX
        clear Hl
        obtain ⟨⟨c0, c1, c2, c3, c4, c5, c6, c7⟩, ⟨f0, f1, f2, f3, f4, f5, f6, f7⟩, hX⟩ := box8 H9.out.2.1
        go_wp2_with (at_builtin; refine wpList_append_own _ rfl _ _ 22 rfl w.heap.size 48 i0 (.agg #[.int .i64 0, .int .i64 0, .bool false, .int .i64 0, .int .i64 0, .int .i64 0, .int .i64 0, .string ByteArray.empty]) 8 72 Tryz.underlying22 hi hz0 hz1 hz2 rfl (by decide) _ _ _ rfl ((own_ext H9.out.1.2.1 (by repeat' (first | exact Ext.refl _ | assumption | refine Ext.alloc ?_ _ | refine Ext.ext ?_ _ | refine Ext.drew ?_ | refine Ext.drewN ?_ _)))) ⟨_, 0, none⟩ 1 1 [.int .i64 t, .int .i64 nd, .bool false, .int .i64 2, .int .i64 nu, .int .i64 nu, .int .i64 nu, .string s] rfl ?a0A ?a1A ?a2A ?a3A ?a4A ?a5A ?_)
        (try case a0A => rfl)
        case a1A => (intro j u hj; rw [Addr.add_lit, Nat.zero_add, cell_of_row _ _ j _ _ (0, 0) (heap_at _ rfl)]; first | (simpa using hj) | (simpa [hwb.out] using hj))
        case a2A => simp [Value.oneCell']
        case a3A => (unfold maxLen; simp; omega)
        case a4A => (first | omega | (simp; omega))
        case a5A => (have := (H9.out.1.1.size); first | omega | (simp at *; omega))
        intro v' w1 hown' hgrow hat
        obtain ⟨g', cap', rfl, -, -⟩ := own_form8 hown' (Nat.succ_pos _)
        have HB := hid (KpD.grow (x := (⟨t, nd, false, 2, nu, nu, nu, s⟩ : Cap)) (H9.out.1.ext (show Ext W9 _ from (by repeat' (first | exact Ext.refl _ | assumption | refine Ext.alloc ?_ _ | refine Ext.ext ?_ _ | refine Ext.drew ?_ | refine Ext.drewN ?_ _)))) hgrow hown' hds)
        clear c0 c1 c2 c3 c4 c5 c6 c7 f0 f1 f2 f3 f4 f5 f6 f7 hX
        clear hown' hgrow hat H9
        go_wp2_with fail
        go_at_call 58
        refine (spec_amongLit Hb.out _ _ _ w1 _ HB.out.1.1 (by repeat' (first | exact Ext.refl _ | assumption | refine Ext.alloc ?_ _ | refine Ext.ext ?_ _ | refine Ext.drew ?_ | refine Ext.drewN ?_ _)) (by simp) (by rfl) (by omega) (by omega) (by simp)).mono ?_
        rintro e wa ⟨xa, rfl, hc, hg⟩
        have HC := hid (HB.out.step hc hg)
        clear hc hg HB
        go_wp2_with fail
        go_at_call 99
        refine (spec_l1Least_some _ _ _).mono ?_
        rintro e wb ⟨⟨yb, rfl⟩, rfl⟩
        go_wp2
        go_roundw
        case rel => exact ⟨k, g', cap', yb, xs ++ [(⟨t, nd, false, 2, nu, nu, nu, s⟩ : Cap)], _, by omega, by go_num, rfl, by simp, by simp; omega, rfl, HC.out.more (by omega)⟩
        case measure => simp [intOf]
      have t1 : (z == 0) = false := by rw [beq_eq_false_iff_ne]; omega
      have t2 : (z == 1) = false := by rw [beq_eq_false_iff_ne]; omega
      go_upto_region 15 with fail
      have H9 := H8
      have hds := hpd
      clear H8 hpd
      obtain ⟨⟨c0, c1, c2, c3, c4, c5, c6, c7⟩, ⟨f0, f1, f2, f3, f4, f5, f6, f7⟩, hX⟩ := box8 H9.out.2.1
      go_wp2_with (at_builtin; refine wpList_append_own _ rfl _ _ 22 rfl w.heap.size 48 i0 (.agg #[.int .i64 0, .int .i64 0, .bool false, .int .i64 0, .int .i64 0, .int .i64 0, .int .i64 0, .string ByteArray.empty]) 8 72 Tryz.underlying22 hi hz0 hz1 hz2 rfl (by decide) _ _ _ rfl ((own_ext H9.out.1.2.1 (by repeat' (first | exact Ext.refl _ | assumption | refine Ext.alloc ?_ _ | refine Ext.ext ?_ _ | refine Ext.drew ?_ | refine Ext.drewN ?_ _)))) ⟨_, 0, none⟩ 1 1 [.int .i64 t, .int .i64 nd, .bool u, .int .i64 pc, .int .i64 pm, .int .i64 pr, .int .i64 pl, .string pd] rfl ?a0A ?a1A ?a2A ?a3A ?a4A ?a5A ?_)
      (try case a0A => rfl)
      case a1A => (intro j u hj; rw [Addr.add_lit, Nat.zero_add, cell_of_row _ _ j _ _ (0, 0) (heap_at _ rfl)]; first | (simpa using hj) | (simpa [hwb.out] using hj))
      case a2A => simp [Value.oneCell']
      case a3A => (unfold maxLen; simp; omega)
      case a4A => (first | omega | (simp; omega))
      case a5A => (have := (H9.out.1.1.size); first | omega | (simp at *; omega))
      intro v' w1 hown' hgrow hat
      obtain ⟨g', cap', rfl, -, -⟩ := own_form8 hown' (Nat.succ_pos _)
      have HB := hid (KpD.grow (x := (⟨t, nd, u, pc, pm, pr, pl, pd⟩ : Cap)) (H9.out.1.ext (show Ext w8 _ from (by repeat' (first | exact Ext.refl _ | assumption | refine Ext.alloc ?_ _ | refine Ext.ext ?_ _ | refine Ext.drew ?_ | refine Ext.drewN ?_ _)))) hgrow hown' hds)
      clear c0 c1 c2 c3 c4 c5 c6 c7 f0 f1 f2 f3 f4 f5 f6 f7 hX
      clear hown' hgrow hat H9
      go_wp2_with fail
      go_at_call 58
      refine (spec_amongLit Hb.out _ _ _ w1 _ HB.out.1.1 (by repeat' (first | exact Ext.refl _ | assumption | refine Ext.alloc ?_ _ | refine Ext.ext ?_ _ | refine Ext.drew ?_ | refine Ext.drewN ?_ _)) (by simp) (by rfl) (by omega) (by omega) (by simp)).mono ?_
      rintro e wa ⟨xa, rfl, hc, hg⟩
      have HC := hid (HB.out.step hc hg)
      clear hc hg HB
      go_wp2_with fail
      go_at_call 99
      refine (spec_l1Least_some _ _ _).mono ?_
      rintro e wb ⟨⟨yb, rfl⟩, rfl⟩
      go_wp2
      go_roundw
      case rel => exact ⟨k, g', cap', yb, xs ++ [(⟨t, nd, u, pc, pm, pr, pl, pd⟩ : Cap)], _, by omega, by go_num, rfl, by simp, by simp; omega, rfl, HC.out.more (by omega)⟩
      case measure => simp [intOf]
    · obtain rfl : k = 0 := by omega
      have HZ : Hid (KpD w wr lo B v bs (A + 172) g cap xs) := HR.out.more (by omega)
      clear HR
      by_cases hne : xs.length = 0
      · obtain rfl : xs = [] := List.eq_nil_of_length_eq_zero hne
        go_wp2
        go_ret
        exact ⟨g, cap, [], rfl, ⟨by simp, fun _ h => by cases h⟩, HZ.out.2.1, (HZ.out.1.more (by omega)).fin⟩
      have tl : ((xs.length : Int) == 0) = false := by rw [beq_eq_false_iff_ne]; omega
      go_wp2_with fail
      go_at_call 59
      refine (spec_pick Hb.out (xs.length : Int) _ HZ.out.1.1 (by omega) (by omega)).mono ?_
      rintro e wa ⟨x, rfl, hx0, hx1, hc, hg⟩
      have HA := hid (HZ.out.step hc hg)
      clear hc hg HZ
      obtain ⟨j, rfl⟩ : ∃ j : Nat, x = j := ⟨x.toNat, by omega⟩
      have hj : j < xs.length := by omega
      obtain ⟨yt, yn, yu, yc, ym, yr, yl, yd, hyd, ⟨a0, a1, a2, a3, a4, a5, a6, a7⟩, -⟩ := HA.out.cells j hj
      have j0 : (0 : Int) ≤ (j : Int) := by omega
      have j1 : (j : Int) < (xs.length : Int) := by omega
      have H7 := hid (KX.mk HA.out (Cap.cs ⟨yt, yn, yu, yc, ym, yr, yl, yd⟩).toArray)
      go_upto_region 21 with fail
      change Hid (KX w (wa.alloc (.cells #[.int .i64 yt, .int .i64 yn, .bool yu, .int .i64 yc, .int .i64 ym, .int .i64 yr, .int .i64 yl, .string yd] 48)) lo B v bs _ g cap xs wa.heap.size #[.int .i64 yt, .int .i64 yn, .bool yu, .int .i64 yc, .int .i64 ym, .int .i64 yr, .int .i64 yl, .string yd]) at H7
      generalize wa.alloc (.cells #[.int .i64 yt, .int .i64 yn, .bool yu, .int .i64 yc, .int .i64 ym, .int .i64 yr, .int .i64 yl, .string yd] 48) = W7 at *
      clear a0 a1 a2 a3 a4 a5 a6 a7
      clear HA
      generalize wa.heap.size = X at *
      go_wp2_with fail
      go_at_call 59
      refine (spec_pick Hb.out 40 _ H7.out.1.1.1 (by omega) (by omega)).mono ?_
      rintro e w8 ⟨z, rfl, -, -, hc, hg⟩
      have H8 := hid (H7.out.step hc hg)
      clear hc hg H7
      have hjy := hj
      by_cases z0 : z = 0
      · subst z0
        go_wp2_with fail
        go_at_call 58
        refine (spec_amongLit Hb.out _ _ _ w8 _ H8.out.1.1.1 (by repeat' (first | exact Ext.refl _ | assumption | refine Ext.alloc ?_ _ | refine Ext.ext ?_ _ | refine Ext.drew ?_ | refine Ext.drewN ?_ _)) (by simp) (by rfl) (by omega) (by omega) (by simp)).mono ?_
        rintro e w9 ⟨x9, rfl, hc, hg⟩
        have Ha := hid (H8.out.step hc hg)
        clear hc hg H8
        obtain ⟨⟨c0, c1, c2, c3, c4, c5, c6, c7⟩, ⟨f0, f1, f2, f3, f4, f5, f6, f7⟩, hX⟩ := box8 Ha.out.2.1
        have H9 : Hid (KX w (w9.setCell ⟨X, 0, none⟩ (.int .i64 x9)) lo B v bs _ g cap xs X #[.int .i64 x9, .int .i64 yn, .bool yu, .int .i64 yc, .int .i64 ym, .int .i64 yr, .int .i64 yl, .string yd]) := Ha.out.set 0 _
        go_upto_region 31 with fail
        generalize w9.setCell ⟨X, 0, none⟩ (.int .i64 x9) = W9 at *
        clear c0 c1 c2 c3 c4 c5 c6 c7 f0 f1 f2 f3 f4 f5 f6 f7 hX
        clear Ha
        have hds := hyd
        clear hyd
        obtain ⟨⟨c0, c1, c2, c3, c4, c5, c6, c7⟩, ⟨f0, f1, f2, f3, f4, f5, f6, f7⟩, hX⟩ := box8 H9.out.2.1
        obtain ⟨ot, on, ou, oc, om, or, ol, od, -, ⟨a0, a1, a2, a3, a4, a5, a6, a7⟩, ⟨p0, p1, p2, p3, p4, p5, p6, p7⟩⟩ := H9.out.1.cells j (by omega)
        have HE := hid (KX.put H9.out hjy (⟨x9, yn, yu, yc, ym, yr, yl, yd⟩ : Cap) hds)
        go_wp2
        go_ret
        exact ⟨g, cap, _, by rw [List.length_set]; rfl, ⟨by rw [List.length_set]; omega, HE.out.2.2⟩, HE.out.2.1, (HE.out.1.more (by omega)).fin⟩
      by_cases z1 : z = 1
      · subst z1
        go_wp2_with fail
        go_at_call 58
        refine (spec_amongLit Hb.out _ _ _ w8 _ H8.out.1.1.1 (by repeat' (first | exact Ext.refl _ | assumption | refine Ext.alloc ?_ _ | refine Ext.ext ?_ _ | refine Ext.drew ?_ | refine Ext.drewN ?_ _)) (by simp) (by rfl) (by omega) (by omega) (by simp)).mono ?_
        rintro e w9 ⟨x9, rfl, hc, hg⟩
        have Ha := hid (H8.out.step hc hg)
        clear hc hg H8
        obtain ⟨⟨c0, c1, c2, c3, c4, c5, c6, c7⟩, ⟨f0, f1, f2, f3, f4, f5, f6, f7⟩, hX⟩ := box8 Ha.out.2.1
        have H9 : Hid (KX w (w9.setCell ⟨X, 1, none⟩ (.int .i64 x9)) lo B v bs _ g cap xs X #[.int .i64 yt, .int .i64 x9, .bool yu, .int .i64 yc, .int .i64 ym, .int .i64 yr, .int .i64 yl, .string yd]) := Ha.out.set 1 _
        go_upto_region 31 with fail
        generalize w9.setCell ⟨X, 1, none⟩ (.int .i64 x9) = W9 at *
        clear c0 c1 c2 c3 c4 c5 c6 c7 f0 f1 f2 f3 f4 f5 f6 f7 hX
        clear Ha
        have hds := hyd
        clear hyd
        obtain ⟨⟨c0, c1, c2, c3, c4, c5, c6, c7⟩, ⟨f0, f1, f2, f3, f4, f5, f6, f7⟩, hX⟩ := box8 H9.out.2.1
        obtain ⟨ot, on, ou, oc, om, or, ol, od, -, ⟨a0, a1, a2, a3, a4, a5, a6, a7⟩, ⟨p0, p1, p2, p3, p4, p5, p6, p7⟩⟩ := H9.out.1.cells j (by omega)
        have HE := hid (KX.put H9.out hjy (⟨yt, x9, yu, yc, ym, yr, yl, yd⟩ : Cap) hds)
        go_wp2
        go_ret
        exact ⟨g, cap, _, by rw [List.length_set]; rfl, ⟨by rw [List.length_set]; omega, HE.out.2.2⟩, HE.out.2.1, (HE.out.1.more (by omega)).fin⟩
      by_cases z2 : z = 2
      · subst z2
        go_wp2_with fail
        go_at_call 100
        refine (spec_anyPacket Hb.out _ H8.out.1.1.1 (by omega)).mono ?_
        rintro e w9 ⟨pc, pm, pr, pl, pd, rfl, hds, hc, hg⟩
        have Ha := hid (H8.out.step hc hg)
        clear hc hg H8 hyd
        obtain ⟨⟨c0, c1, c2, c3, c4, c5, c6, c7⟩, ⟨f0, f1, f2, f3, f4, f5, f6, f7⟩, hX⟩ := box8 Ha.out.2.1
        have H9 : Hid (KX w (((((w9.setCell ⟨X, 3, none⟩ (.int .i64 pc)).setCell ⟨X, 4, none⟩ (.int .i64 pm)).setCell ⟨X, 5, none⟩ (.int .i64 pr)).setCell ⟨X, 6, none⟩ (.int .i64 pl)).setCell ⟨X, 7, none⟩ (.string pd)) lo B v bs _ g cap xs X #[.int .i64 yt, .int .i64 yn, .bool yu, .int .i64 pc, .int .i64 pm, .int .i64 pr, .int .i64 pl, .string pd]) := ((((Ha.out.set 3 _).set 4 _).set 5 _).set 6 _).set 7 _
        go_upto_region 31 with fail
        generalize (((((w9.setCell ⟨X, 3, none⟩ (.int .i64 pc)).setCell ⟨X, 4, none⟩ (.int .i64 pm)).setCell ⟨X, 5, none⟩ (.int .i64 pr)).setCell ⟨X, 6, none⟩ (.int .i64 pl)).setCell ⟨X, 7, none⟩ (.string pd)) = W9 at *
        clear c0 c1 c2 c3 c4 c5 c6 c7 f0 f1 f2 f3 f4 f5 f6 f7 hX
        clear Ha
        obtain ⟨⟨c0, c1, c2, c3, c4, c5, c6, c7⟩, ⟨f0, f1, f2, f3, f4, f5, f6, f7⟩, hX⟩ := box8 H9.out.2.1
        obtain ⟨ot, on, ou, oc, om, or, ol, od, -, ⟨a0, a1, a2, a3, a4, a5, a6, a7⟩, ⟨p0, p1, p2, p3, p4, p5, p6, p7⟩⟩ := H9.out.1.cells j (by omega)
        have HE := hid (KX.put H9.out hjy (⟨yt, yn, yu, pc, pm, pr, pl, pd⟩ : Cap) hds)
        go_wp2
        go_ret
        exact ⟨g, cap, _, by rw [List.length_set]; rfl, ⟨by rw [List.length_set]; omega, HE.out.2.2⟩, HE.out.2.1, (HE.out.1.more (by omega)).fin⟩
      by_cases z3 : z = 3
      · subst z3
        have hds := hyd
        clear hyd
        have Ha : Hid (KX w w8 lo B v bs (A + 180) g cap xs X #[.int .i64 yt, .int .i64 yn, .bool yu, .int .i64 yc, .int .i64 ym, .int .i64 yr, .int .i64 yl, .string yd]) := H8.out.more (by omega)
        have hx12 : xs.length ≤ 11 := by omega
        have hjx := hj
        clear H8
        go_wp2_with fail
        go_loopw [3] (fun v3 wr => ∃ (g cap : Nat) (ys : List Cap) (yw : World), v3 = .slice (some ⟨g, 0, none⟩) ys.length cap ∧ xs.length ≤ ys.length ∧ ys.length ≤ 11 ∧ yw = wr ∧ Hid (KX w yw lo B v bs (A + 180 + ys.length) g cap ys X #[.int .i64 yt, .int .i64 yn, .bool yu, .int .i64 yc, .int .i64 ym, .int .i64 yr, .int .i64 yl, .string yd])) (fun v3 _ => 12 - lenV v3)
        case atStart => exact ⟨g, cap, xs, _, rfl, Nat.le_refl _, hx12, rfl, Ha.out.more (by omega)⟩
        case round =>
          obtain ⟨g, cap, ys, wr, rfl, hl1, hl2, rfl, HR⟩ := hrel
          clear Ha
          go_wp2_with fail
          go_at_call 59
          refine (spec_pick Hb.out 2 _ HR.out.1.1.1 (by omega) (by omega)).mono ?_
          rintro e wp ⟨q, rfl, hq0, hq1, hc, hg⟩
          have Hp := hid (HR.out.step hc hg)
          clear hc hg HR
          have e1 : IntKind.i64.wrap (10 + q) = 10 + q := IntWalk.i64_in _ (by omega)
          by_cases t0 : (ys.length : Int) < 10 + q
          · obtain ⟨m, hm⟩ : ∃ m, ys.length = m + 1 := ⟨ys.length - 1, by omega⟩
            have m0 : (0 : Int) ≤ (m : Int) := by omega
            have m1 : (m : Int) < (ys.length : Int) := by omega
            have e2 : IntKind.i64.wrap ((ys.length : Int) - 1) = (m : Int) := (IntWalk.i64_in _ (by omega)).trans (by omega)
            obtain ⟨et, en, eu, ec, em, er, el, ed, hed, ⟨a0, a1, a2, a3, a4, a5, a6, a7⟩, -⟩ := Hp.out.1.cells m (by omega)
            clear hm
            go_upto_region 30 with fail
            go_wp2_with (at_builtin; refine wpList_append_own_at _ rfl _ _ 22 rfl w.heap.size 48 i0 (.agg #[.int .i64 0, .int .i64 0, .bool false, .int .i64 0, .int .i64 0, .int .i64 0, .int .i64 0, .string ByteArray.empty]) 8 72 Tryz.underlying22 hi hz0 hz1 hz2 rfl (by decide) _ _ _ rfl ((own_ext Hp.out.1.2.1 (by repeat' (first | exact Ext.refl _ | assumption | refine Ext.alloc ?_ _ | refine Ext.ext ?_ _ | refine Ext.drew ?_ | refine Ext.drewN ?_ _)))) ⟨_, 0, none⟩ 1 1 [.int .i64 et, .int .i64 en, .bool eu, .int .i64 ec, .int .i64 em, .int .i64 er, .int .i64 el, .string ed] rfl ?a0A ?a1A ?a2A ?a3A ?a4A ?a5A ?_)
            (try case a0A => rfl)
            case a1A => (intro j u hj; rw [Addr.add_lit, Nat.zero_add, cell_of_row _ _ j _ _ (0, 0) (heap_at _ rfl)]; first | (simpa using hj) | (simpa [hwb.out] using hj))
            case a2A => simp [Value.oneCell']
            case a3A => (unfold maxLen; simp; omega)
            case a4A => (first | omega | (simp; omega))
            case a5A => (have := (Hp.out.1.1.size); first | omega | (simp at *; omega))
            intro v' w1 hown' hgrow hat
            intro hat2
            obtain ⟨g', cap', rfl, -, -⟩ := own_form8 hown' (Nat.succ_pos _)
            have hg2 : g' = g ∨ (wp.alloc (.cells #[.int .i64 et, .int .i64 en, .bool eu, .int .i64 ec, .int .i64 em, .int .i64 er, .int .i64 el, .string ed] 48)).heap.size ≤ g' := by
              rcases hat2 with e | e
              · exact .inl (Option.some.inj e)
              · refine .inr ?_
                have e3 : g' = wp.heap.size + 1 := Option.some.inj e
                rw [World.size_alloc, e3]
                exact Nat.le_refl _
            have HB := hid (KX.grow (x := (⟨et, en, eu, ec, em, er, el, ed⟩ : Cap)) (Hp.out.ext (show Ext wp (wp.alloc (.cells #[.int .i64 et, .int .i64 en, .bool eu, .int .i64 ec, .int .i64 em, .int .i64 er, .int .i64 el, .string ed] 48)) from (by repeat' (first | exact Ext.refl _ | assumption | refine Ext.alloc ?_ _ | refine Ext.ext ?_ _ | refine Ext.drew ?_ | refine Ext.drewN ?_ _)))) hgrow hg2 hown' hed)
            clear hown' hgrow hat hat2 hg2 Hp a0 a1 a2 a3 a4 a5 a6 a7 e1 e2 m0 m1
            go_wp2
            go_roundw
            case rel => exact ⟨g', cap', ys ++ [(⟨et, en, eu, ec, em, er, el, ed⟩ : Cap)], _, by simp, by simp; omega, by simp; omega, rfl, HB.out.more (by simp; omega)⟩
            case measure => simp [lenV]; omega
          · have hjy : j < ys.length := by omega
            go_upto_region 31 with fail
            clear e1
            obtain ⟨⟨c0, c1, c2, c3, c4, c5, c6, c7⟩, ⟨f0, f1, f2, f3, f4, f5, f6, f7⟩, hX⟩ := box8 Hp.out.2.1
            obtain ⟨ot, on, ou, oc, om, or, ol, od, -, ⟨a0, a1, a2, a3, a4, a5, a6, a7⟩, ⟨p0, p1, p2, p3, p4, p5, p6, p7⟩⟩ := Hp.out.1.cells j (by omega)
            have HE := hid (KX.put Hp.out hjy (⟨yt, yn, yu, yc, ym, yr, yl, yd⟩ : Cap) hds)
            go_wp2
            go_ret
            exact ⟨g, cap, _, by rw [List.length_set]; rfl, ⟨by rw [List.length_set]; omega, HE.out.2.2⟩, HE.out.2.1, (HE.out.1.more (by omega)).fin⟩
      have t0 : (z == 0) = false := by rw [beq_eq_false_iff_ne]; omega
      have t1 : (z == 1) = false := by rw [beq_eq_false_iff_ne]; omega
      have t2 : (z == 2) = false := by rw [beq_eq_false_iff_ne]; omega
      have t3 : (z == 3) = false := by rw [beq_eq_false_iff_ne]; omega
      go_upto_region 31 with fail
      have hds := hyd
      clear hyd
      obtain ⟨⟨c0, c1, c2, c3, c4, c5, c6, c7⟩, ⟨f0, f1, f2, f3, f4, f5, f6, f7⟩, hX⟩ := box8 H8.out.2.1
      obtain ⟨ot, on, ou, oc, om, or, ol, od, -, ⟨a0, a1, a2, a3, a4, a5, a6, a7⟩, ⟨p0, p1, p2, p3, p4, p5, p6, p7⟩⟩ := H8.out.1.cells j (by omega)
      have HE := hid (KX.put H8.out hjy (⟨yt, yn, yu, yc, ym, yr, yl, yd⟩ : Cap) hds)
      go_wp2
      go_ret
      exact ⟨g, cap, _, by rw [List.length_set]; rfl, ⟨by rw [List.length_set]; omega, HE.out.2.2⟩, HE.out.2.1, (HE.out.1.more (by omega)).fin⟩
end Go.Proofs.YtljknhocfjpolaaGreatDoor
