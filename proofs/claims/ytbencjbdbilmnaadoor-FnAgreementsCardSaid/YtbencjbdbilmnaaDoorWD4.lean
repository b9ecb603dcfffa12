/- The worst receiver. -/
import Derived.Test.YtbencjbdbilmnaaDoorWD2
namespace Go.Proofs.YtbencjbdbilmnaaDoor
open Go.RowKit
set_option maxHeartbeats 400000
theorem set4_other {w : World} {B C : Nat} {o : Obj} (h : w.heap[C]? = some o) (hne : C ≠ B) (a b c d : Value) :
    ((((w.setCell ⟨B, 0, none⟩ a).setCell ⟨B, 1, none⟩ b).setCell ⟨B, 2, none⟩ c).setCell ⟨B, 3, none⟩ d).heap[C]? = some o := by
  rw [heap_setCell_other _ _ _ _ hne, heap_setCell_other _ _ _ _ hne, heap_setCell_other _ _ _ _ hne, heap_setCell_other _ _ _ _ hne, h]
def worstRes (xs : List Dlv) : Value := if areD xs && !(xs.length == 0) then .tuple #[.int .i64 (bestTo xs (xs.length - 1)).r, .bool true] else .tuple #[.int .i64 0, .bool false]
theorem worstRes_no {xs : List Dlv} (h : areD xs = false ∨ xs.length = 0) : worstRes xs = .tuple #[.int .i64 0, .bool false] := by
  unfold worstRes; rcases h with h | h <;> simp [h]
theorem worstRes_yes {xs : List Dlv} (h : areD xs = true) {k : Nat} (h0 : xs.length = k + 1) : worstRes xs = .tuple #[.int .i64 (bestTo xs k).r, .bool true] := by
  unfold worstRes; simp [h, h0]
theorem ret_eq {a b : Value} (h : a = b) : Ending.returned a = .returned b := by rw [h]
theorem mulBd {a b : Int} (ha : 0 ≤ a ∧ a ≤ 1000000) (hb : 0 ≤ b ∧ b ≤ 2000000) : 0 ≤ a * b ∧ a * b ≤ 2000000000000 :=
  ⟨Int.mul_nonneg ha.1 hb.1, Int.le_trans (Int.mul_le_mul ha.2 hb.2 hb.1 (by decide)) (by decide)⟩
theorem spec_WorstLoss (xs : List Dlv) (v : Value) (w : World) (h : Rd w 4 v xs.length (xs.flatMap Dlv.cs)) (h2 : xs.length ≤ 1048576) :
    Calls Tryd.prog 25 #[v] w fun e w' => e = .returned (worstRes xs) ∧ Ext w w' := by
  have hr := h
  obtain ⟨h1, p, cap, rfl, h4⟩ := h
  have H1 := hid h1; clear h1
  have H4 := hid h4; clear h4
  have Hr := hid hr; clear hr
  cases hgd : areD xs
  · have Hgd := hid hgd
    go_enter Tryd.func25, Tryd.ntmps25
    go_wp2_with (go_at_call 33; refine (spec_l26Good xs _ _ Hr.out h2).mono ?_; rintro e w' ⟨rfl, z1, rfl⟩)
    go_ret2
    exact ⟨ret_eq (by rw [worstRes_no (.inl Hgd.out)]; rfl), (by repeat' (first | exact Ext.refl _ | assumption | refine Ext.alloc ?_ _ | refine Ext.ext ?_ _ | refine Ext.drew ?_ | refine Ext.drewN ?_ _))⟩
  · by_cases h0 : xs.length = 0
    · have Hgd := hid hgd
      have t0 : ((xs.length : Int) == 0) = true := by simp [h0]
      have H0 := hid h0; clear h0
      go_enter Tryd.func25, Tryd.ntmps25
      go_wp2_with (go_at_call 33; refine (spec_l26Good xs _ _ Hr.out h2).mono ?_; rintro e w' ⟨rfl, z1, rfl⟩)
      go_ret2
      exact ⟨ret_eq (by rw [worstRes_no (.inr H0.out)]; rfl), (by repeat' (first | exact Ext.refl _ | assumption | refine Ext.alloc ?_ _ | refine Ext.ext ?_ _ | refine Ext.drew ?_ | refine Ext.drewN ?_ _))⟩
    · have t0 : ((xs.length : Int) == 0) = false := by rw [beq_eq_false_iff_ne]; omega
      have hpos : 0 < xs.length := by omega
      have Hgd := hid hgd
      clear h0
      obtain ⟨b, off, rfl, h6⟩ := H4.out.resolve_left (by omega)
      clear H4
      have H6 := hid h6; clear h6
      obtain ⟨c0, c1, c2, c3⟩ := elem4 Dlv.cs .z (fun _ => rfl) xs H6.out 0 hpos
      have hb0 : bestTo xs 0 = xs.getD 0 .z := rfl
      have Hb0 := hid hb0; clear hb0
      generalize xs.getD 0 .z = d0 at c0 c1 c2 c3 Hb0
      simp only [Dlv.cs, List.getElem?_cons_zero, List.getElem?_cons_succ, Nat.zero_mul, Nat.add_zero] at c0 c1 c2 c3
      go_enter Tryd.func25, Tryd.ntmps25
      go_wp2_with (go_at_call 33; refine (spec_l26Good xs _ _ Hr.out h2).mono ?_; rintro e w' ⟨rfl, z1, rfl⟩)
      generalize hG : (w.ext z1).heap.size = G
      have hGw : w.heap.size ≤ G := by rw [← hG, World.size_ext]; omega
      have HG := hid hG; clear hG
      go_loopw [5] (fun v5 wr => ∃ k : Nat, k < xs.length ∧ v5 = .int .i64 (k + 1) ∧ wr.heap[G]? = some (.cells (bestTo xs k).cs.toArray 26 (0, 0)) ∧ Ext w wr) (fun v5 _ => xs.length - (intOf v5).toNat)
      case atStart => exact ⟨0, hpos, rfl, by rw [Hb0.out, ← HG.out]; exact heap_alloc_new _ _, (by repeat' (first | exact Ext.refl _ | assumption | refine Ext.alloc ?_ _ | refine Ext.ext ?_ _ | refine Ext.drew ?_ | refine Ext.drewN ?_ _))⟩
      case round =>
        obtain ⟨k, hk, rfl, hbox, hx⟩ := hrel
        have hbest : bestTo xs (k + 1) = if worse (bestTo xs k) (xs.getD (k + 1) .z) then xs.getD (k + 1) .z else bestTo xs k := rfl
        have hmo := bestTo_ok hgd k hk
        by_cases hlt : k + 1 < xs.length
        · obtain ⟨c0, c1, c2, c3⟩ := elem4 Dlv.cs .z (fun _ => rfl) xs H6.out (k + 1) hlt
          have hxo := areD_ok hgd (k + 1) hlt
          generalize xs.getD (k + 1) .z = x at c0 c1 c2 c3 hbest hxo
          generalize hm : bestTo xs k = m at *
          clear hm
          obtain ⟨r, g, p, l⟩ := x
          obtain ⟨r', g', p', l'⟩ := m
          simp only [Dlv.cs, List.getElem?_cons_zero, List.getElem?_cons_succ] at c0 c1 c2 c3 hbox
          replace c0 := hx.cell c0
          replace c1 := hx.cell c1
          replace c2 := hx.cell c2
          replace c3 := hx.cell c3
          have Hbest := hid hbest; clear hbest
          obtain ⟨-, bg', bp', bl'⟩ := okD_iff.1 hmo
          obtain ⟨-, bg, bp, bl⟩ := okD_iff.1 hxo
          dsimp only at bg' bp' bl' bg bp bl
          clear hmo hxo bp bp'
          have m1 := mulBd bl (show 0 ≤ g' + l' ∧ g' + l' ≤ 2000000 by omega)
          have m2 := mulBd bl' (show 0 ≤ g + l ∧ g + l ≤ 2000000 by omega)
          obtain ⟨⟨e0, e1, e2, e3⟩, ⟨f0, f1, f2, f3⟩, hbl⟩ := box4 hbox
          have Hbox := hid hbox; clear hbox
          have hw : worse ⟨r', g', p', l'⟩ ⟨r, g, p, l⟩ = (decide (l' * (g + l) < l * (g' + l')) || ((g' + l' == 0) && decide (0 < l))) := rfl
          have hdec : (decide (l' * (g + l) < l * (g' + l')) = true) ∨ (decide (l' * (g + l) < l * (g' + l')) = false) := by cases decide (l' * (g + l) < l * (g' + l')) <;> simp
          have Hw := hid hw; clear hw
          rcases hdec with t1 | t1
          · have hbx := box4_set Hbox.out (.int .i64 r) (.int .i64 g) (.int .i64 p) (.int .i64 l)
            have Hbx := hid hbx; clear hbx
            go_wp2
            go_roundw
            case rel => exact ⟨k + 1, hlt, by go_num, (heap_alloc_old _ _ (by simpa using hbl)).trans (by rw [Hbest.out, Hw.out, t1]; exact Hbx.out), (hx.set4 hGw _ _ _ _).alloc _⟩
            case measure => simp [intOf]; omega
          · by_cases hM : g' + l' = 0
            · have t2 : (g' + l' == 0) = true := by simp [hM]
              have HM := hid hM; clear hM
              have hdec2 : (decide (0 < l) = true) ∨ (decide (0 < l) = false) := by cases decide (0 < l) <;> simp
              rcases hdec2 with t3 | t3
              · have hbx := box4_set Hbox.out (.int .i64 r) (.int .i64 g) (.int .i64 p) (.int .i64 l)
                have Hbx := hid hbx; clear hbx
                go_wp2
                go_roundw
                case rel => exact ⟨k + 1, hlt, by go_num, (heap_alloc_old _ _ (by simpa using hbl)).trans (by rw [Hbest.out, Hw.out, t1, t2, t3]; exact Hbx.out), (hx.set4 hGw _ _ _ _).alloc _⟩
                case measure => simp [intOf]; omega
              · go_wp2
                go_roundw
                case rel => exact ⟨k + 1, hlt, by go_num, (heap_alloc_old _ _ hbl).trans (by rw [Hbest.out, Hw.out, t1, t2, t3]; exact Hbox.out), hx.alloc _⟩
                case measure => simp [intOf]; omega
            · have t2 : (g' + l' == 0) = false := by rw [beq_eq_false_iff_ne]; exact hM
              have HM := hid hM; clear hM
              go_wp2
              go_roundw
              case rel => exact ⟨k + 1, hlt, by go_num, (heap_alloc_old _ _ hbl).trans (by rw [Hbest.out, Hw.out, t1, t2]; exact Hbox.out), hx.alloc _⟩
              case measure => simp [intOf]; omega
        · have hlen : xs.length = k + 1 := by omega
          have hres := worstRes_yes hgd hlen
          have Hres := hid hres; clear hres hlen
          clear hbest hmo
          generalize bestTo xs k = m at *
          obtain ⟨r', g', p', l'⟩ := m
          simp only [Dlv.cs] at hbox
          obtain ⟨⟨e0, e1, e2, e3⟩, -, hbl⟩ := box4 hbox
          clear hbox
          go_wp2
          go_ret2
          exact ⟨ret_eq (by rw [Hres.out]; rfl), hx⟩
theorem impl_WorstLoss_1 (r g p l r' g' p' l' : Int) (w : World) (hx : okD ⟨r, g, p, l⟩ = true) (hm : okD ⟨r', g', p', l'⟩ = true) :
    Calls Tryd.prog 39 #[.agg #[.int .i64 r, .int .i64 g, .int .i64 p, .int .i64 l], .agg #[.int .i64 r', .int .i64 g', .int .i64 p', .int .i64 l']] w
      fun e w' => e = .returned (.int .i64 (l' * max 1 (g + l) - l * max 1 (g' + l'))) ∧ Ext w w' := by
  obtain ⟨-, bg', -, bl'⟩ := okD_iff.1 hm
  obtain ⟨-, bg, -, bl⟩ := okD_iff.1 hx
  dsimp only at bg' bl' bg bl
  clear hx hm
  have n0 := mulBd bl' (show 0 ≤ g + l ∧ g + l ≤ 2000000 by omega)
  have n1 := mulBd bl (show 0 ≤ g' + l' ∧ g' + l' ≤ 2000000 by omega)
  by_cases a1 : g + l ≤ 1
  · have e1 : max 1 (g + l) = 1 := by omega
    rw [e1] at *
    by_cases a2 : g' + l' ≤ 1
    · have e2 : max 1 (g' + l') = 1 := by omega
      rw [e2] at *
      have E1 := hid e1; have E2 := hid e2; clear e1 e2
      go_enter Tryd.func39, Tryd.ntmps39
      go_wp2
      go_ret
      exact ⟨by simp, (by repeat' (first | exact Ext.refl _ | assumption | refine Ext.alloc ?_ _ | refine Ext.ext ?_ _ | refine Ext.drew ?_ | refine Ext.drewN ?_ _))⟩
    · have e2 : max 1 (g' + l') = g' + l' := by omega
      rw [e2] at *
      have E1 := hid e1; have E2 := hid e2; clear e1 e2
      go_enter Tryd.func39, Tryd.ntmps39
      go_wp2
      go_ret
      exact ⟨by simp, (by repeat' (first | exact Ext.refl _ | assumption | refine Ext.alloc ?_ _ | refine Ext.ext ?_ _ | refine Ext.drew ?_ | refine Ext.drewN ?_ _))⟩
  · have e1 : max 1 (g + l) = g + l := by omega
    rw [e1] at *
    by_cases a2 : g' + l' ≤ 1
    · have e2 : max 1 (g' + l') = 1 := by omega
      rw [e2] at *
      have E1 := hid e1; have E2 := hid e2; clear e1 e2
      go_enter Tryd.func39, Tryd.ntmps39
      go_wp2
      go_ret
      exact ⟨by simp, (by repeat' (first | exact Ext.refl _ | assumption | refine Ext.alloc ?_ _ | refine Ext.ext ?_ _ | refine Ext.drew ?_ | refine Ext.drewN ?_ _))⟩
    · have e2 : max 1 (g' + l') = g' + l' := by omega
      rw [e2] at *
      have E1 := hid e1; have E2 := hid e2; clear e1 e2
      go_enter Tryd.func39, Tryd.ntmps39
      go_wp2
      go_ret
      exact ⟨by simp, (by repeat' (first | exact Ext.refl _ | assumption | refine Ext.alloc ?_ _ | refine Ext.ext ?_ _ | refine Ext.drew ?_ | refine Ext.drewN ?_ _))⟩
set_option maxHeartbeats 800000 in
theorem impl_MinFunc (xs : List Dlv) (v : Value) (w : World) (h : Rd w 4 v xs.length (xs.flatMap Dlv.cs)) (hgd : areD xs = true) (h0 : ¬ xs.length = 0) (h2 : xs.length ≤ 1048576) :
    Calls Tryd.prog 38 #[v, .func (.func 39) #[] #[]] w fun e w' => e = .returned (.agg (bestTo xs (xs.length - 1)).cs.toArray) ∧ Ext w w' := by
  obtain ⟨h1, p, cap, rfl, h4⟩ := h
  have H1 := hid h1; clear h1
  have hpos : 0 < xs.length := by omega
  obtain ⟨b, off, rfl, h6⟩ := h4.resolve_left (by omega)
  clear h4 h0
  have H6 := hid h6; clear h6
  obtain ⟨c0, c1, c2, c3⟩ := elem4 Dlv.cs .z (fun _ => rfl) xs H6.out 0 hpos
  have hb0 : bestTo xs 0 = xs.getD 0 .z := rfl
  have Hb0 := hid hb0; clear hb0
  generalize xs.getD 0 .z = d0 at c0 c1 c2 c3 Hb0
  have t0 : decide ((xs.length : Int) < 1) = false := by simp; omega
  simp only [Dlv.cs, List.getElem?_cons_zero, List.getElem?_cons_succ, Nat.zero_mul, Nat.add_zero] at c0 c1 c2 c3
  go_enter Tryd.func38, Tryd.ntmps38
  go_wp2
  generalize hG : w.heap.size = G
  have hGw : w.heap.size ≤ G := by omega
  have HG := hid hG; clear hG
  go_loopw [6] (fun v6 wr => ∃ k : Nat, k < xs.length ∧ v6 = .int .i64 (k + 1) ∧ wr.heap[G]? = some (.cells #[.int .i64 0, .int .i64 0, .int .i64 0, .int .i64 0] 26 (0, 0)) ∧
    wr.heap[G + 1]? = some (.cells (bestTo xs k).cs.toArray 26 (0, 0)) ∧ Ext w wr) (fun v6 _ => xs.length - (intOf v6).toNat)
  case atStart =>
    refine ⟨0, hpos, rfl, ?_, ?_, (by repeat' (first | exact Ext.refl _ | assumption | refine Ext.alloc ?_ _ | refine Ext.ext ?_ _ | refine Ext.drew ?_ | refine Ext.drewN ?_ _))⟩
    · refine (heap_alloc_old _ _ (by simp [HG.out])).trans ?_
      rw [← HG.out]; exact heap_alloc_new _ _
    · rw [Hb0.out]
      have e : G + 1 = (w.alloc (.cells #[.int .i64 0, .int .i64 0, .int .i64 0, .int .i64 0] 26 (0, 0))).heap.size := by simp [HG.out]
      rw [e]; exact heap_alloc_new _ _
  case round =>
    obtain ⟨k, hk, rfl, hrb, hbox, hx⟩ := hrel
    have hbest : bestTo xs (k + 1) = if worse (bestTo xs k) (xs.getD (k + 1) .z) then xs.getD (k + 1) .z else bestTo xs k := rfl
    have hmo := bestTo_ok hgd k hk
    by_cases hlt : k + 1 < xs.length
    · obtain ⟨c0, c1, c2, c3⟩ := elem4 Dlv.cs .z (fun _ => rfl) xs H6.out (k + 1) hlt
      have hxo := areD_ok hgd (k + 1) hlt
      generalize xs.getD (k + 1) .z = x at c0 c1 c2 c3 hbest hxo
      generalize hm : bestTo xs k = m at *
      clear hm
      have hw := worse_iff hmo hxo
      obtain ⟨r, g, p, l⟩ := x
      obtain ⟨r', g', p', l'⟩ := m
      simp only [Dlv.cs, List.getElem?_cons_zero, List.getElem?_cons_succ] at c0 c1 c2 c3 hbox
      dsimp only at hw
      replace c0 := hx.cell c0
      replace c1 := hx.cell c1
      replace c2 := hx.cell c2
      replace c3 := hx.cell c3
      have Hbest := hid hbest; clear hbest
      have Hmo := hid hmo; clear hmo
      have Hxo := hid hxo; clear hxo
      obtain ⟨⟨e0, e1, e2, e3⟩, ⟨f0, f1, f2, f3⟩, hbl⟩ := box4 hbox
      have Hbox := hid hbox; clear hbox
      have hrl : G < wr.heap.size := (Array.getElem?_eq_some_iff.1 hrb).1
      have Hrb := hid hrb; clear hrb
      have hdec : (decide (l' * max 1 (g + l) - l * max 1 (g' + l') < 0) = true) ∨ (decide (l' * max 1 (g + l) - l * max 1 (g' + l') < 0) = false) := by cases decide (l' * max 1 (g + l) - l * max 1 (g' + l') < 0) <;> simp
      rcases hdec with t1 | t1
      · rw [t1] at hw
        have Hw := hid hw; clear hw
        go_wp2
        refine wp_region_ext (by kernel_rfl) (by kernel_rfl) ?_
        repeat (go_big_quiet_step ((first | (go_at_call 39; exact Calls.quiet_ext (impl_WorstLoss_1 _ _ _ _ _ _ _ _ _ Hxo.out Hmo.out)))))
        refine wpQuiet_nil ?_
        rintro _ ⟨zq, rfl⟩
        go_wp2
        go_roundw
        case rel =>
          refine ⟨k + 1, hlt, by go_num, set4_other ((World.heap_ext _ _ _ hrl).trans Hrb.out) (by omega) _ _ _ _, ?_, (hx.ext _).set4 (by omega) _ _ _ _⟩
          rw [Hbest.out, Hw.out]
          exact box4_set ((World.heap_ext _ _ _ hbl).trans Hbox.out) _ _ _ _
        case measure => simp [intOf]; omega
      · rw [t1] at hw
        have Hw := hid hw; clear hw
        go_wp2
        refine wp_region_ext (by kernel_rfl) (by kernel_rfl) ?_
        repeat (go_big_quiet_step ((first | (go_at_call 39; exact Calls.quiet_ext (impl_WorstLoss_1 _ _ _ _ _ _ _ _ _ Hxo.out Hmo.out)))))
        refine wpQuiet_nil ?_
        rintro _ ⟨zq, rfl⟩
        go_wp2
        go_roundw
        case rel => exact ⟨k + 1, hlt, by go_num, (World.heap_ext _ _ _ (by omega)).trans Hrb.out, (World.heap_ext _ _ _ hbl).trans (by rw [Hbest.out, Hw.out]; exact Hbox.out), (by repeat' (first | exact Ext.refl _ | assumption | refine Ext.alloc ?_ _ | refine Ext.ext ?_ _ | refine Ext.drew ?_ | refine Ext.drewN ?_ _))⟩
        case measure => simp [intOf]; omega
    · have hlen : xs.length - 1 = k := by omega
      have Hlen := hid hlen; clear hlen
      clear hbest hmo
      generalize hm : bestTo xs k = m at *
      have Hm := hid hm; clear hm
      obtain ⟨r', g', p', l'⟩ := m
      simp only [Dlv.cs] at hbox
      obtain ⟨⟨e0, e1, e2, e3⟩, -, hbl⟩ := box4 hbox
      obtain ⟨⟨d0, d1, d2, d3⟩, ⟨f0, f1, f2, f3⟩, hrl⟩ := box4 hrb
      have hbx := box4_set hrb (.int .i64 r') (.int .i64 g') (.int .i64 p') (.int .i64 l')
      have Hbx := hid hbx; clear hbx
      have Hx := hid hx
      clear hbox hrb
      go_wp2
      exact bodyPost_ret (results_cell_row rfl _ _ G _ _ _ _ rfl Hbx.out Tryd.underlying26 rfl (by kernel_rfl)) rfl ⟨ret_eq (by rw [Hlen.out, Hm.out]; rfl), Hx.out.set4 hGw _ _ _ _⟩
theorem impl_WorstLoss (xs : List Dlv) (v : Value) (w : World) (h : Rd w 4 v xs.length (xs.flatMap Dlv.cs)) (h2 : xs.length ≤ 1048576) :
    Calls Tryd.prog 24 #[v] w fun e w' => e = .returned (worstRes xs) ∧ Ext w w' := by
  have hr := h
  obtain ⟨h1, p, cap, rfl, h4⟩ := h
  have H1 := hid h1; clear h1
  have H4 := hid h4; clear h4
  have Hr := hid hr; clear hr
  cases hgd : areD xs
  · have Hgd := hid hgd
    go_enter Tryd.func24, Tryd.ntmps24
    go_wp2_with (go_at_call 35; refine (impl_areDeliveries xs _ _ Hr.out h2).mono ?_; rintro e w' ⟨rfl, z1, rfl⟩)
    go_ret2
    exact ⟨ret_eq (by rw [worstRes_no (.inl Hgd.out)]; rfl), (by repeat' (first | exact Ext.refl _ | assumption | refine Ext.alloc ?_ _ | refine Ext.ext ?_ _ | refine Ext.drew ?_ | refine Ext.drewN ?_ _))⟩
  · by_cases h0 : xs.length = 0
    · have Hgd := hid hgd
      have t0 : ((xs.length : Int) == 0) = true := by simp [h0]
      have H0 := hid h0; clear h0
      go_enter Tryd.func24, Tryd.ntmps24
      go_wp2_with (go_at_call 35; refine (impl_areDeliveries xs _ _ Hr.out h2).mono ?_; rintro e w' ⟨rfl, z1, rfl⟩)
      go_ret2
      exact ⟨ret_eq (by rw [worstRes_no (.inr H0.out)]; rfl), (by repeat' (first | exact Ext.refl _ | assumption | refine Ext.alloc ?_ _ | refine Ext.ext ?_ _ | refine Ext.drew ?_ | refine Ext.drewN ?_ _))⟩
    · have t0 : ((xs.length : Int) == 0) = false := by rw [beq_eq_false_iff_ne]; omega
      have hlen : xs.length = (xs.length - 1) + 1 := by omega
      have hres := worstRes_yes hgd hlen
      have hmin := fun w' (hx : Ext w w') => impl_MinFunc xs _ _ (Hr.out.ext hx) hgd h0 h2
      generalize bestTo xs (xs.length - 1) = m at hmin hres
      obtain ⟨r, g, p', l⟩ := m
      have Hres := hid hres; clear hres
      have Hgd := hid hgd
      simp only [Dlv.cs] at hmin
      have Hmin := hid hmin; clear hmin
      have hfld : ∀ w, (Instr.field 26 (.agg #[.int .i64 r, .int .i64 g, .int .i64 p', .int .i64 l]) 0).run Tryd.prog w = .ok (.int .i64 r) w := fun _ => by kernel_rfl
      clear h0 hlen
      go_enter Tryd.func24, Tryd.ntmps24
      go_wp2_with (first | (go_at_call 35; refine (impl_areDeliveries xs _ _ Hr.out h2).mono ?_; rintro e w' ⟨rfl, z1, rfl⟩) | (go_at_call 38; refine (Hmin.out _ ⟨_, rfl⟩).mono ?_; rintro e w' ⟨rfl, z1, rfl⟩))
      go_ret2
      exact ⟨ret_eq (by rw [Hres.out]; rfl), (by repeat' (first | exact Ext.refl _ | assumption | refine Ext.alloc ?_ _ | refine Ext.ext ?_ _ | refine Ext.drew ?_ | refine Ext.drewN ?_ _))⟩
end Go.Proofs.YtbencjbdbilmnaaDoor
