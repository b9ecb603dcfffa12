/- Deliveries: what one call of each function gives. -/
import Derived.Test.YtbencjbdbilmnaaDoorWL
namespace Go.Proofs.YtbencjbdbilmnaaDoor
open Go.RowKit
set_option maxHeartbeats 400000
theorem impl_IsValidDelivery (r g p l : Int) (w : World) : Calls Tryd.prog 28 #[.agg #[.int .i64 r, .int .i64 g, .int .i64 p, .int .i64 l]] w fun e w' => e = .returned (.bool (okD ⟨r, g, p, l⟩)) ∧ Ext w w' := by
  go_enter Tryd.func28, Tryd.ntmps28
  go_wp2_with (first | (go_at_call 45; refine (impl_isFace _ _).mono ?_; rintro e w' ⟨rfl, rfl⟩) | (go_at_call 46; refine (impl_isCount _ _).mono ?_; rintro e w' ⟨rfl, rfl⟩) | (go_at_call 47; refine (impl_within _ _ _ _).mono ?_; rintro e w' ⟨rfl, rfl⟩))
  all_goals (go_ret; simp [okD, *]; exact (Ext.refl _).alloc _)
theorem spec_l26One (r g p l : Int) (w : World) : Calls Tryd.prog 26 #[.agg #[.int .i64 r, .int .i64 g, .int .i64 p, .int .i64 l]] w fun e w' => e = .returned (.bool (okD ⟨r, g, p, l⟩)) ∧ Ext w w' := by
  go_enter Tryd.func26, Tryd.ntmps26
  go_wp2_with (first | (go_at_call 40; refine (spec_l21Node _ _).mono ?_; rintro e w' ⟨rfl, rfl⟩) | (go_at_call 41; refine (spec_l26Count _ _).mono ?_; rintro e w' ⟨rfl, rfl⟩) | (go_at_call 42; refine (spec_l1In _ _ _ _).mono ?_; rintro e w' ⟨rfl, rfl⟩))
  all_goals (go_ret; simp [okD, *]; exact (Ext.refl _).alloc _)
theorem laws_toDelivery (r g p l : Int) (w : World) : Calls Tryd.prog 8 #[.agg #[.int .i64 r, .int .i64 g, .int .i64 p, .int .i64 l]] w fun e w' => e = .returned (.agg #[.int .i64 r, .int .i64 g, .int .i64 p, .int .i64 l]) ∧ Ext w w' := by
  go_enter Tryd.func8, Tryd.ntmps8
  go_wp2
  go_returns
  exact ⟨rfl, (by repeat' (first | exact Ext.refl _ | assumption | refine Ext.alloc ?_ _ | refine Ext.ext ?_ _ | refine Ext.drew ?_ | refine Ext.drewN ?_ _))⟩
theorem infoDlv : (Tryd.prog.info? 26).map (fun i => (i.zero, i.size, i.bytes)) = some (some (.agg #[.int .i64 0, .int .i64 0, .int .i64 0, .int .i64 0]), 4, 32) := by kernel_rfl
theorem Dlv.len (x : Dlv) : x.cs.length = 4 := rfl
theorem dlvs_len (xs : List Dlv) : (xs.flatMap Dlv.cs).length = xs.length * 4 := flat_len _ 4 Dlv.len xs
theorem dlvs_get (xs : List Dlv) (i : Nat) (h : i < xs.length) (j : Nat) (hj : j < 4) : (xs.flatMap Dlv.cs)[i * 4 + j]? = (xs.getD i .z).cs[j]? := flat_get _ _ 4 Dlv.len xs i j h hj
theorem laws_toDeliveryS (xs : List Dlv) (v : Value) (w : World) (hr : Rd w 4 v xs.length (xs.flatMap Dlv.cs)) (hn : xs.length ≤ 1048576) :
    Calls Tryd.prog 12 #[v] w fun e w' => ∃ g, e = .returned (.slice (some ⟨g, 0, none⟩) xs.length xs.length) ∧ w'.ownsRow w.heap.size 26 4 (.slice (some ⟨g, 0, none⟩) xs.length xs.length) xs.length (xs.flatMap Dlv.cs) ∧ Ext w w' := by
  obtain ⟨h1, p, cap, rfl, h4⟩ := hr
  have H1 := hid h1; clear h1
  have H4 := hid h4; clear h4
  obtain ⟨i0, hi, hz0, hz1, hz2⟩ := info_parts infoDlv
  obtain ⟨w1, hmk, hown0, hg0⟩ := run_make_full (P := Tryd.prog) w w.heap.size 32 26 i0 (.agg #[.int .i64 0, .int .i64 0, .int .i64 0, .int .i64 0]) 4 Tryd.underlying32 hi hz0 hz1 .i64 .i64 xs.length (by rw [hz2]; omega) (by unfold maxLen; omega) (Nat.le_refl _)
  have Hown := hid hown0; clear hown0
  have hx1 : Ext w w1 := (Ext.refl w).grown hg0 (fun k h => by cases h)
  have Hx := hid hx1; clear hx1 hg0
  go_enter Tryd.func12, Tryd.ntmps12
  go_wp2
  go_loopw [4] (fun v4 wr => ∃ (k : Nat) (L : List Value), k ≤ xs.length ∧ v4 = .int .i64 k ∧ wr.ownsRow w.heap.size 26 4 (.slice (some ⟨w.heap.size, 0, none⟩) xs.length xs.length) xs.length L ∧ Agree L (xs.flatMap Dlv.cs) (k * 4) ∧ Ext w wr) (fun v4 _ => xs.length - (intOf v4).toNat)
  case atStart => exact ⟨0, _, Nat.zero_le _, rfl, Hown.out, Agree.zero (by rw [dlvs_len]; exact Hown.out.1), Hx.out⟩
  case round =>
    obtain ⟨k, L, hk, rfl, hown, hag, hx⟩ := hrel
    have Hag := hid hag; clear hag
    by_cases hlt : k < xs.length
    · obtain ⟨b, off, rfl, h6⟩ := H4.out.resolve_left (by omega)
      obtain ⟨c0, c1, c2, c3⟩ := elem4 Dlv.cs .z Dlv.len xs h6 k hlt
      replace c0 := hx.cell c0
      replace c1 := hx.cell c1
      replace c2 := hx.cell c2
      replace c3 := hx.cell c3
      have H6 := hid h6; clear h6
      have g0 := dlvs_get xs k hlt 0 (by omega)
      have g1 := dlvs_get xs k hlt 1 (by omega)
      have g2 := dlvs_get xs k hlt 2 (by omega)
      have g3 := dlvs_get xs k hlt 3 (by omega)
      generalize xs.getD k .z = d at c0 c1 c2 c3 g0 g1 g2 g3
      obtain ⟨r, g, p, l⟩ := d
      have G := hid (And.intro g0 (And.intro g1 (And.intro g2 g3)))
      clear g0 g1 g2 g3
      obtain ⟨⟨u0, e0⟩, f0⟩ := own_cell hown (k * 4) (by omega)
      obtain ⟨⟨u1, e1⟩, f1⟩ := own_cell hown (k * 4 + 1) (by omega)
      obtain ⟨⟨u2, e2⟩, f2⟩ := own_cell hown (k * 4 + 2) (by omega)
      obtain ⟨⟨u3, e3⟩, f3⟩ := own_cell hown (k * 4 + 3) (by omega)
      have hb := (own_size hown).2
      go_wp2_with (go_at_call 8; refine (laws_toDelivery _ _ _ _ _).mono ?_; rintro e w' ⟨rfl, z1, rfl⟩)
      go_roundw
      case rel =>
        obtain ⟨g0, g1, g2, g3⟩ := G.out
        have hx2 : Ext wr (wr.ext z1) := (Ext.refl _).ext _
        have s0 := World.ownsRow.stored (own_ext hown hx2) (k * 4) (.int .i64 r)
        have s1 := World.ownsRow.stored s0.1 (k * 4 + 1) (.int .i64 g)
        have s2 := World.ownsRow.stored s1.1 (k * 4 + 2) (.int .i64 p)
        have s3 := World.ownsRow.stored s2.1 (k * 4 + 3) (.int .i64 l)
        refine ⟨k + 1, _, by omega, by go_num, s3.1, ?_, ?_⟩
        · rw [show (k + 1) * 4 = k * 4 + 1 + 1 + 1 + 1 by omega]
          exact (((Hag.out.set g0).set g1).set g2).set g3
        · exact (hx.trans hx2).grown (grownBy_trans (grownBy_trans (grownBy_trans s0.2 s1.2) s2.2) s3.2) (fun j hj => by cases hj; exact Nat.le_refl _)
      case measure => simp [intOf]; omega
    · have hL : L = xs.flatMap Dlv.cs := Hag.out.all' (by rw [dlvs_len]; omega)
      subst hL
      go_wp2
      go_ret
      exact ⟨_, rfl, hown, hx⟩
theorem laws_eqDelivery (r g p l : Int) (w : World) : Calls Tryd.prog 32 #[.agg #[.int .i64 r, .int .i64 g, .int .i64 p, .int .i64 l], .agg #[.int .i64 r, .int .i64 g, .int .i64 p, .int .i64 l]] w fun e w' => e = .returned (.bool true) ∧ Ext w w' := by
  go_enter Tryd.func32, Tryd.ntmps32
  repeat (first | (go_wp2; refine wp_region_ext (by kernel_rfl) (by kernel_rfl) ?_; repeat (go_big_quiet_step (fail)); refine wpQuiet_nil ?_; rintro _ ⟨zq, rfl⟩))
  go_wp2
  go_ret
  exact ⟨rfl, (by repeat' (first | exact Ext.refl _ | assumption | refine Ext.alloc ?_ _ | refine Ext.ext ?_ _ | refine Ext.drew ?_ | refine Ext.drewN ?_ _))⟩
theorem laws_eqDeliveryS (xs : List Dlv) (v u : Value) (w : World) (hv : Rd w 4 v xs.length (xs.flatMap Dlv.cs)) (hu : Rd w 4 u xs.length (xs.flatMap Dlv.cs)) (hn : xs.length ≤ 1048576) :
    Calls Tryd.prog 14 #[v, u] w fun e w' => e = .returned (.bool true) ∧ Ext w w' := by
  obtain ⟨h1, p, cap, rfl, h4⟩ := hv
  obtain ⟨h1', p', cap', rfl, h4'⟩ := hu
  clear h1 h1'
  have H4 := hid h4; clear h4
  have H4' := hid h4'; clear h4'
  go_enter Tryd.func14, Tryd.ntmps14
  go_wp2
  go_loopw [5] (fun v5 wr => ∃ (k : Nat), k ≤ xs.length ∧ v5 = .int .i64 k ∧ Ext w wr) (fun v5 _ => xs.length - (intOf v5).toNat)
  case atStart => exact ⟨0, Nat.zero_le _, rfl, Ext.refl _⟩
  case round =>
    obtain ⟨k, hk, rfl, z, rfl⟩ := hrel
    by_cases hlt : k < xs.length
    · obtain ⟨b, off, rfl, h6⟩ := H4.out.resolve_left (by omega)
      obtain ⟨b', off', rfl, h6'⟩ := H4'.out.resolve_left (by omega)
      obtain ⟨c0, c1, c2, c3⟩ := elem4 Dlv.cs .z Dlv.len xs h6 k hlt
      obtain ⟨e0, e1, e2, e3⟩ := elem4 Dlv.cs .z Dlv.len xs h6' k hlt
      simp only [Dlv.cs, List.getElem?_cons_zero, List.getElem?_cons_succ] at c0 c1 c2 c3 e0 e1 e2 e3
      generalize xs.getD k .z = d at c0 c1 c2 c3 e0 e1 e2 e3
      have H6 := hid h6; clear h6
      have H6' := hid h6'; clear h6'
      go_wp2
      refine wp_region_ext (by kernel_rfl) (by kernel_rfl) ?_
      repeat (go_big_quiet_step ((first | (go_at_call 32; exact Calls.quiet_ext (laws_eqDelivery _ _ _ _ _)))))
      refine wpQuiet_nil ?_
      rintro _ ⟨zq, rfl⟩
      go_wp2
      go_roundw
      case rel => exact ⟨k + 1, by omega, by go_num, ((Ext.refl _).ext _).ext _⟩
      case measure => simp [intOf]; omega
    · go_wp2
      go_ret
      exact ⟨rfl, (Ext.refl _).ext _⟩
theorem laws_szDeliveryS (xs : List Value) (v : Value) (left : Int) (n k : Nat) (w : World) (hv : Rd w k v n xs) (hn : (n : Int) ≤ left) (hl : left ≤ 1048576) :
    Calls Tryd.prog 10 #[v, .int .i64 left] w fun e w' => e = .returned (.int .i64 (left - n)) ∧ w = w' := by
  obtain ⟨h1, p, cap, rfl, h4⟩ := hv
  clear h1 h4
  go_enter Tryd.func10, Tryd.ntmps10
  go_wp2
  go_ret
  simp
theorem laws_szDeliveryS_big (xs : List Value) (v : Value) (left : Int) (k n : Nat) (w : World) (hv : Rd w k v n xs) (hn : left < n) (hl : 0 ≤ left) (hm : n ≤ maxLen) :
    Calls Tryd.prog 10 #[v, .int .i64 left] w fun e w' => e = .returned (.int .i64 (-1)) ∧ w = w' := by
  obtain ⟨h1, p, cap, rfl, h4⟩ := hv
  clear h1 h4
  unfold maxLen at hm
  go_enter Tryd.func10, Tryd.ntmps10
  go_wp2
  go_ret
  simp
end Go.Proofs.YtbencjbdbilmnaaDoor
