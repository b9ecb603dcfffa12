/- What the laws of captures draw. -/
import Derived.Test.YtljknhocfjpolaaGreatDoorKWCurX4
import Derived.Deep.DeepCutAuto
namespace Go.Proofs.YtljknhocfjpolaaGreatDoor
open Go.RowKit
set_option maxHeartbeats 2000000
set_option maxRecDepth 100000
/-- The cursor's own block. -/
def C1 (w : World) (v : Value) : World := w.alloc (.cells #[v, .int .i64 0, .int .u64 0] 72)
theorem cur_start {w : World} {v : Value} {bs : List Int} (h : Rd w 1 v bs.length (vBytes bs)) : Dr (C1 w v) (C1 w v) w.heap.size w.heap.size v bs 0 ∧ Ext w (C1 w v) ∧ (C1 w v).heap.size = w.heap.size + 1 := by
  have hx : Ext w (C1 w v) := by unfold C1; exact (by repeat' (first | exact Ext.refl _ | assumption | refine Ext.alloc ?_ _ | refine Ext.ext ?_ _ | refine Ext.drew ?_ | refine Ext.drewN ?_ _))
  exact ⟨Dr.start ⟨⟨h.ext hx, fun b o m c e hm => rd_lt h (by decide) e hm⟩, 0, 0, by omega, by omega, World.ownsRow_lit w #[v, .int .i64 0, .int .u64 0] 1 (Nat.le_refl _) (by decide) rfl⟩, hx, by unfold C1; simp⟩
theorem cur_fin {w W W' : World} {lo B A : Nat} {v : Value} {bs : List Int} (hx : Ext w W) (h : Dr W W' lo B v bs A) (hB : w.heap.size ≤ B) : Ext w W' := hx.grown h.2.1 (fun j e => by have := Option.some.inj e; omega)
/-- A capture that can be read. -/
def CpR (W : World) (g cap : Nat) (xs : List Cap) : Prop := (xs.length ≤ cap ∧ SmC xs) ∧ Rd W 8 (.slice (some ⟨g, 0, none⟩) xs.length cap) xs.length (xs.flatMap Cap.cs)
theorem CpR.ext {W W' : World} {g cap : Nat} {xs : List Cap} (h : CpR W g cap xs) (hx : Ext W W') : CpR W' g cap xs := ⟨h.1, h.2.ext hx⟩
theorem CpR.own {W : World} {base g cap : Nat} {xs : List Cap} (h : W.ownsRow base 48 8 (.slice (some ⟨g, 0, none⟩) xs.length cap) xs.length (xs.flatMap Cap.cs)) (hs : SmC xs) : CpR W g cap xs := by
  refine ⟨⟨?_, hs⟩, Rd.own h⟩
  by_cases h0 : xs.length = 0
  · omega
  · obtain ⟨g', c', e, h1, -⟩ := own_form8 h (by omega)
    cases e
    exact h1
theorem SmC.len {xs : List Cap} (h : SmC xs) : xs.length ≤ 1048576 := Nat.le_trans h.1 (by decide)
theorem SmC.chars {xs : List Cap} (h : SmC xs) : Cap.chars xs ≤ 1048576 := by
  have : ∀ (M : List Cap), (∀ s ∈ M, s.d.size ≤ 9) → Cap.chars M ≤ M.length * 9 := by
    intro M
    induction M with
    | nil => intro _; simp [Cap.chars]
    | cons x M ih =>
      intro hm
      have h1 := ih (fun s hs => hm s (by simp [hs]))
      have h2 := hm x (by simp)
      have e : Cap.chars (x :: M) = x.d.size + Cap.chars M := by simp [Cap.chars]
      rw [e, List.length_cons, Nat.add_mul]
      omega
  have h1 := this xs h.2
  have h2 := h.1
  omega
theorem spec_DrawIsCapture {bs : List Int} (hb : Bts bs) {v : Value} (w : World) (h : Rd w 1 v bs.length (vBytes bs)) :
    Calls Tryz.prog 46 #[v] w fun e w' => ∃ (g cap : Nat) (xs : List Cap), e = .returned (.slice (some ⟨g, 0, none⟩) xs.length cap) ∧ CpR w' g cap xs ∧ Ext w w' := by
  have HS := hid (cur_start h)
  have Hb := hid hb
  obtain ⟨-, p, cap, rfl, -⟩ := h
  clear hb
  go_enter Tryz.func46, Tryz.ntmps46
  go_wp2_with fail
  go_at_call 55
  change Calls _ _ _ (C1 w (.slice p bs.length cap)) _
  generalize C1 w (.slice p bs.length cap) = W0 at *
  have H0 := hid HS.out.1
  refine (spec_capture Hb.out _ H0.out.1 (by omega)).mono ?_
  rintro e w1 ⟨g, gc, xs, rfl, hs, ho, hc, hg⟩
  have H1 := hid (And.intro (H0.out.step hc hg) (CpR.own ho hs))
  clear hc hg H0 ho
  go_wp2
  go_ret
  exact ⟨g, gc, xs, rfl, H1.out.2, cur_fin HS.out.2.1 H1.out.1 (Nat.le_refl _)⟩
theorem spec_DrawTwiceRequested {bs : List Int} (hb : Bts bs) {v : Value} (w : World) (h : Rd w 1 v bs.length (vBytes bs)) :
    Calls Tryz.prog 27 #[v] w fun e w' => ∃ (g cap : Nat) (xs : List Cap), e = .returned (.slice (some ⟨g, 0, none⟩) xs.length cap) ∧ CpR w' g cap xs ∧ Ext w w' := by
  have Hc := hid (fun w h => spec_DrawIsCapture hb (v := v) w h)
  have Hr := hid h
  obtain ⟨-, p, cap, rfl, -⟩ := h
  clear hb
  go_enter Tryz.func27, Tryz.ntmps27
  go_wp2_with fail
  go_at_call 46
  refine (Hc.out _ Hr.out).mono ?_
  rintro e w1 ⟨g, gc, xs, rfl, hR, hx⟩
  have H1 := hid (And.intro hR hx)
  clear hR hx
  go_wp2
  go_ret
  exact ⟨g, gc, xs, rfl, H1.out.1, H1.out.2⟩
theorem spec_DrawBytesSeen {bs : List Int} (hb : Bts bs) {v : Value} (w : World) (h : Rd w 1 v bs.length (vBytes bs)) :
    Calls Tryz.prog 36 #[v] w fun e w' => ∃ (g cap : Nat) (xs : List Cap), e = .returned (.slice (some ⟨g, 0, none⟩) xs.length cap) ∧ CpR w' g cap xs ∧ Ext w w' := by
  have Hc := hid (fun w h => spec_DrawIsCapture hb (v := v) w h)
  have Hr := hid h
  obtain ⟨-, p, cap, rfl, -⟩ := h
  clear hb
  go_enter Tryz.func36, Tryz.ntmps36
  go_wp2_with fail
  go_at_call 46
  refine (Hc.out _ Hr.out).mono ?_
  rintro e w1 ⟨g, gc, xs, rfl, hR, hx⟩
  have H1 := hid (And.intro hR hx)
  clear hR hx
  go_wp2
  go_ret
  exact ⟨g, gc, xs, rfl, H1.out.1, H1.out.2⟩
theorem spec_DrawCaptureText {bs : List Int} (hb : Bts bs) {v : Value} (w : World) (h : Rd w 1 v bs.length (vBytes bs)) :
    Calls Tryz.prog 12 #[v] w fun e w' => ∃ (g cap : Nat) (xs : List Cap), e = .returned (.slice (some ⟨g, 0, none⟩) xs.length cap) ∧ CpR w' g cap xs ∧ Ext w w' := by
  have Hc := hid (fun w h => spec_DrawIsCapture hb (v := v) w h)
  have Hr := hid h
  obtain ⟨-, p, cap, rfl, -⟩ := h
  clear hb
  go_enter Tryz.func12, Tryz.ntmps12
  go_wp2_with fail
  go_at_call 46
  refine (Hc.out _ Hr.out).mono ?_
  rintro e w1 ⟨g, gc, xs, rfl, hR, hx⟩
  have H1 := hid (And.intro hR hx)
  clear hR hx
  go_wp2
  go_ret
  exact ⟨g, gc, xs, rfl, H1.out.1, H1.out.2⟩
theorem spec_DrawJoinCaptures {bs : List Int} (hb : Bts bs) {v : Value} (w : World) (h : Rd w 1 v bs.length (vBytes bs)) :
    Calls Tryz.prog 24 #[v] w fun e w' => ∃ (g cap : Nat) (xs : List Cap) (g' cap' : Nat) (ys : List Cap), e = .returned (.tuple #[.slice (some ⟨g, 0, none⟩) xs.length cap, .slice (some ⟨g', 0, none⟩) ys.length cap']) ∧ CpR w' g cap xs ∧ CpR w' g' cap' ys ∧ Ext w w' := by
  have HS := hid (cur_start h)
  have Hb := hid hb
  obtain ⟨-, p, cap, rfl, -⟩ := h
  clear hb
  go_enter Tryz.func24, Tryz.ntmps24
  go_wp2_with fail
  go_at_call 55
  change Calls _ _ _ (C1 w (.slice p bs.length cap)) _
  generalize C1 w (.slice p bs.length cap) = W0 at *
  have H0 := hid HS.out.1
  refine (spec_capture Hb.out _ H0.out.1 (by omega)).mono ?_
  rintro e w1 ⟨g, gc, xs, rfl, hs, ho, hc, hg⟩
  have hgl := own_row ho g rfl
  have hlow := hid HS.out.2.2
  have H1 := hid (And.intro (H0.out.step hc hg) (CpR.own ho hs))
  clear hc hg H0 ho
  go_wp2_with fail
  go_at_call 55
  refine (spec_capture Hb.out _ H1.out.1.1 (by omega)).mono ?_
  rintro e w2 ⟨g', gc', ys, rfl, hs', ho', hc, hg⟩
  have H2 := hid (And.intro (H1.out.1.step hc hg) (And.intro (show CpR w2 g gc xs from ⟨H1.out.2.1, rd_turn H1.out.2.2 hg (fun b o m c e _ => by cases e; intro e2; have := Option.some.inj e2; have := hlow.out; omega)⟩) (CpR.own ho' hs')))
  clear hc hg H1 ho'
  go_wp2
  go_ret2
  exact ⟨g, gc, xs, g', gc', ys, rfl, H2.out.2.1, H2.out.2.2, cur_fin HS.out.2.1 H2.out.1 (Nat.le_refl _)⟩
theorem spec_DrawRepairTicks {bs : List Int} (hb : Bts bs) {v : Value} (w : World) (h : Rd w 1 v bs.length (vBytes bs)) :
    Calls Tryz.prog 32 #[v] w fun e w' => ∃ (g cap : Nat) (xs : List Cap) (q : Int), e = .returned (.tuple #[.slice (some ⟨g, 0, none⟩) xs.length cap, .int .i64 q]) ∧ CpR w' g cap xs ∧ Ext w w' := by
  have HS := hid (cur_start h)
  have Hb := hid hb
  obtain ⟨-, p, cap, rfl, -⟩ := h
  clear hb
  go_enter Tryz.func32, Tryz.ntmps32
  go_wp2_with fail
  go_at_call 55
  change Calls _ _ _ (C1 w (.slice p bs.length cap)) _
  generalize C1 w (.slice p bs.length cap) = W0 at *
  have H0 := hid HS.out.1
  refine (spec_capture Hb.out _ H0.out.1 (by omega)).mono ?_
  rintro e w1 ⟨g, gc, xs, rfl, hs, ho, hc, hg⟩
  have hlow := hid HS.out.2.2
  have H1 : Hid (KpD W0 w1 w.heap.size w.heap.size (.slice p bs.length cap) bs (0 + 200) g gc xs) := ⟨H0.out.step hc hg, ho, hs.2⟩
  clear hc hg H0 ho
  by_cases hne : xs.length = 0
  · obtain rfl : xs = [] := List.eq_nil_of_length_eq_zero hne
    clear hne
    go_wp2_with fail
    go_at_call 58
    refine (spec_amongLit Hb.out _ _ _ w1 _ H1.out.1.1 (by repeat' (first | exact Ext.refl _ | assumption | refine Ext.alloc ?_ _ | refine Ext.ext ?_ _ | refine Ext.drew ?_ | refine Ext.drewN ?_ _)) (by simp) (by rfl) (by omega) (by omega) (by simp)).mono ?_
    rintro e w2 ⟨x, rfl, hc, hg⟩
    have H2 := hid (H1.out.step hc hg)
    clear hc hg H1
    go_wp2
    go_ret2
    exact ⟨g, gc, [], x, rfl, CpR.own H2.out.2.1 hs, cur_fin HS.out.2.1 H2.out.1 (Nat.le_refl _)⟩
  have t0 : decide ((0 : Int) < (xs.length : Int)) = true := decide_eq_true (by omega)
  go_wp2_with fail
  go_at_call 56
  refine (spec_one Hb.out 5 _ H1.out.1.1 (by omega) (by omega)).mono ?_
  rintro e w2 ⟨y, rfl, hc, hg⟩
  have H2 := hid (H1.out.step hc hg)
  clear hc hg H1
  cases y
  · have hx12 := hs.1
    have hpk := hid (fun W (h : Ext w2 W) => spec_pick Hb.out (xs.length : Int) W (H2.out.ext h).1.1 (by omega) (by omega))
    have hst := hid (fun W W' A' (h : Ext w2 W) hc hg => (H2.out.ext h).step (W' := W') (A' := A') hc hg)
    clear H2
    go_wp2_with fail
    go_region_with (first
        | (go_at_call 59; (with_reducible refine (hpk.out _ (by repeat' (first | exact Ext.refl _ | assumption | refine Ext.alloc ?_ _ | refine Ext.ext ?_ _ | refine Ext.drew ?_ | refine Ext.drewN ?_ _))).mono ?_); rintro e w3 ⟨x, rfl, hx0, hx1, hc, hg⟩; have H3 := hid (hst.out _ _ _ (by repeat' (first | exact Ext.refl _ | assumption | refine Ext.alloc ?_ _ | refine Ext.ext ?_ _ | refine Ext.drew ?_ | refine Ext.drewN ?_ _)) hc hg); clear hc hg; obtain ⟨j, rfl⟩ : ∃ j : Nat, x = j := ⟨x.toNat, by omega⟩; obtain ⟨yt, yn, yu, yc, ym, yr, yl, yd, hyd, ⟨a0, a1, a2, a3, a4, a5, a6, a7⟩, -⟩ := H3.out.cells j (by omega); have j0 : (0 : Int) ≤ (j : Int) := by omega)
        | fail)
    go_wp2
    go_ret2
    exact ⟨g, gc, xs, ym, rfl, CpR.own H3.out.2.1 hs, cur_fin HS.out.2.1 H3.out.1 (Nat.le_refl _)⟩
  · go_wp2_with fail
    go_at_call 58
    refine (spec_amongLit Hb.out _ _ _ w2 _ H2.out.1.1 (by repeat' (first | exact Ext.refl _ | assumption | refine Ext.alloc ?_ _ | refine Ext.ext ?_ _ | refine Ext.drew ?_ | refine Ext.drewN ?_ _)) (by simp) (by rfl) (by omega) (by omega) (by simp)).mono ?_
    rintro e w3 ⟨x, rfl, hc, hg⟩
    have H3 := hid (H2.out.step hc hg)
    clear hc hg H2
    go_wp2
    go_ret2
    exact ⟨g, gc, xs, x, rfl, CpR.own H3.out.2.1 hs, cur_fin HS.out.2.1 H3.out.1 (Nat.le_refl _)⟩
end Go.Proofs.YtljknhocfjpolaaGreatDoor
