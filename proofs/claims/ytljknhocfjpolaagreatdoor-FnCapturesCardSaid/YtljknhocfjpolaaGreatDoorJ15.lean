/- What the laws of captures draw. Texts that are spoilt. Long texts that are spoilt: a number is drawn below more than 200. -/
import Derived.Test.YtljknhocfjpolaaGreatDoorKWCurX4
import Derived.Deep.DeepCutAuto
import Derived.Test.YtljknhocfjpolaaGreatDoorKWCurS
namespace Go.Proofs.YtljknhocfjpolaaGreatDoor
open Go.RowKit
set_option maxHeartbeats 2000000
set_option maxRecDepth 100000
/-- The cursor's own block. -/
def C1 (w : World) (v : Value) : World := w.alloc (.cells #[v, .int .i64 0, .int .u64 0] 72)
theorem cur_start {w : World} {v : Value} {bs : List Int} (h : Rd w 1 v bs.length (vBytes bs)) : Dr (C1 w v) (C1 w v) w.heap.size w.heap.size v bs 0 ∧ Ext w (C1 w v) ∧ (C1 w v).heap.size = w.heap.size + 1 := by
  have hx : Ext w (C1 w v) := by unfold C1; exact (by repeat' (first | exact Ext.refl _ | assumption | refine Ext.alloc ?_ _ | refine Ext.ext ?_ _ | refine Ext.drew ?_ | refine Ext.drewN ?_ _))
  exact ⟨Dr.start ⟨⟨h.ext hx, fun b o m c e hm => rd_lt h (by decide) e hm⟩, 0, 0, by omega, by omega, World.ownsRow_lit w #[v, .int .i64 0, .int .u64 0] 1 (Nat.le_refl _) (by decide) rfl⟩, hx, by unfold C1; simp⟩
theorem cur_fin {w W W' : World} {lo B A : Nat} {v : Value} {bs : List Int} (hx : Ext w W) (h : Dr W W' lo B v bs A) (hB : w.heap.size ≤ B) : Ext w W' := hx.grown h.2.1 (fun j e => by have := Option.some.inj e; omega)
/-- A capture that can be read. -/
def CpR (W : World) (g cap : Nat) (xs : List Cap) : Prop := (xs.length ≤ cap ∧ SmC xs) ∧ Rd W 8 (.slice (some ⟨g, 0, none⟩) xs.length cap) xs.length (xs.flatMap Cap.cs)
theorem CpR.ext {W W' : World} {g cap : Nat} {xs : List Cap} (h : CpR W g cap xs) (hx : Ext W W') : CpR W' g cap xs := ⟨h.1, h.2.ext hx⟩
theorem CpR.own {W : World} {base g cap : Nat} {xs : List Cap} (h : W.ownsRow base 48 8 (.slice (some ⟨g, 0, none⟩) xs.length cap) xs.length (xs.flatMap Cap.cs)) (hs : SmC xs) : CpR W g cap xs := by
  refine ⟨⟨?_, hs⟩, Rd.own h⟩
  by_cases h0 : xs.length = 0
  · omega
  · obtain ⟨g', c', e, h1, -⟩ := own_form8 h (by omega)
    cases e
    exact h1
theorem SmC.len {xs : List Cap} (h : SmC xs) : xs.length ≤ 1048576 := Nat.le_trans h.1 (by decide)
theorem SmC.chars {xs : List Cap} (h : SmC xs) : Cap.chars xs ≤ 1048576 := by
  have : ∀ (M : List Cap), (∀ s ∈ M, s.d.size ≤ 9) → Cap.chars M ≤ M.length * 9 := by
    intro M
    induction M with
    | nil => intro _; simp [Cap.chars]
    | cons x M ih =>
      intro hm
      have h1 := ih (fun s hs => hm s (by simp [hs]))
      have h2 := hm x (by simp)
      have e : Cap.chars (x :: M) = x.d.size + Cap.chars M := by simp [Cap.chars]
      rw [e, List.length_cons, Nat.add_mul]
      omega
  have h1 := this xs h.2
  have h2 := h.1
  omega
theorem spec_DrawIsCapture {bs : List Int} (hb : Bts bs) {v : Value} (w : World) (h : Rd w 1 v bs.length (vBytes bs)) :
    Calls Tryz.prog 46 #[v] w fun e w' => ∃ (g cap : Nat) (xs : List Cap), e = .returned (.slice (some ⟨g, 0, none⟩) xs.length cap) ∧ CpR w' g cap xs ∧ Ext w w' := by
  have HS := hid (cur_start h)
  have Hb := hid hb
  obtain ⟨-, p, cap, rfl, -⟩ := h
  clear hb
  go_enter Tryz.func46, Tryz.ntmps46
  go_wp2_with fail
  go_at_call 55
  change Calls _ _ _ (C1 w (.slice p bs.length cap)) _
  generalize C1 w (.slice p bs.length cap) = W0 at *
  have H0 := hid HS.out.1
  refine (spec_capture Hb.out _ H0.out.1 (by omega)).mono ?_
  rintro e w1 ⟨g, gc, xs, rfl, hs, ho, hc, hg⟩
  have H1 := hid (And.intro (H0.out.step hc hg) (CpR.own ho hs))
  clear hc hg H0 ho
  go_wp2
  go_ret
  exact ⟨g, gc, xs, rfl, H1.out.2, cur_fin HS.out.2.1 H1.out.1 (Nat.le_refl _)⟩
theorem spec_DrawTwiceRequested {bs : List Int} (hb : Bts bs) {v : Value} (w : World) (h : Rd w 1 v bs.length (vBytes bs)) :
    Calls Tryz.prog 27 #[v] w fun e w' => ∃ (g cap : Nat) (xs : List Cap), e = .returned (.slice (some ⟨g, 0, none⟩) xs.length cap) ∧ CpR w' g cap xs ∧ Ext w w' := by
  have Hc := hid (fun w h => spec_DrawIsCapture hb (v := v) w h)
  have Hr := hid h
  obtain ⟨-, p, cap, rfl, -⟩ := h
  clear hb
  go_enter Tryz.func27, Tryz.ntmps27
  go_wp2_with fail
  go_at_call 46
  refine (Hc.out _ Hr.out).mono ?_
  rintro e w1 ⟨g, gc, xs, rfl, hR, hx⟩
  have H1 := hid (And.intro hR hx)
  clear hR hx
  go_wp2
  go_ret
  exact ⟨g, gc, xs, rfl, H1.out.1, H1.out.2⟩
theorem spec_DrawBytesSeen {bs : List Int} (hb : Bts bs) {v : Value} (w : World) (h : Rd w 1 v bs.length (vBytes bs)) :
    Calls Tryz.prog 36 #[v] w fun e w' => ∃ (g cap : Nat) (xs : List Cap), e = .returned (.slice (some ⟨g, 0, none⟩) xs.length cap) ∧ CpR w' g cap xs ∧ Ext w w' := by
  have Hc := hid (fun w h => spec_DrawIsCapture hb (v := v) w h)
  have Hr := hid h
  obtain ⟨-, p, cap, rfl, -⟩ := h
  clear hb
  go_enter Tryz.func36, Tryz.ntmps36
  go_wp2_with fail
  go_at_call 46
  refine (Hc.out _ Hr.out).mono ?_
  rintro e w1 ⟨g, gc, xs, rfl, hR, hx⟩
  have H1 := hid (And.intro hR hx)
  clear hR hx
  go_wp2
  go_ret
  exact ⟨g, gc, xs, rfl, H1.out.1, H1.out.2⟩
theorem spec_DrawCaptureText {bs : List Int} (hb : Bts bs) {v : Value} (w : World) (h : Rd w 1 v bs.length (vBytes bs)) :
    Calls Tryz.prog 12 #[v] w fun e w' => ∃ (g cap : Nat) (xs : List Cap), e = .returned (.slice (some ⟨g, 0, none⟩) xs.length cap) ∧ CpR w' g cap xs ∧ Ext w w' := by
  have Hc := hid (fun w h => spec_DrawIsCapture hb (v := v) w h)
  have Hr := hid h
  obtain ⟨-, p, cap, rfl, -⟩ := h
  clear hb
  go_enter Tryz.func12, Tryz.ntmps12
  go_wp2_with fail
  go_at_call 46
  refine (Hc.out _ Hr.out).mono ?_
  rintro e w1 ⟨g, gc, xs, rfl, hR, hx⟩
  have H1 := hid (And.intro hR hx)
  clear hR hx
  go_wp2
  go_ret
  exact ⟨g, gc, xs, rfl, H1.out.1, H1.out.2⟩
theorem spec_DrawJoinCaptures {bs : List Int} (hb : Bts bs) {v : Value} (w : World) (h : Rd w 1 v bs.length (vBytes bs)) :
    Calls Tryz.prog 24 #[v] w fun e w' => ∃ (g cap : Nat) (xs : List Cap) (g' cap' : Nat) (ys : List Cap), e = .returned (.tuple #[.slice (some ⟨g, 0, none⟩) xs.length cap, .slice (some ⟨g', 0, none⟩) ys.length cap']) ∧ CpR w' g cap xs ∧ CpR w' g' cap' ys ∧ Ext w w' := by
  have HS := hid (cur_start h)
  have Hb := hid hb
  obtain ⟨-, p, cap, rfl, -⟩ := h
  clear hb
  go_enter Tryz.func24, Tryz.ntmps24
  go_wp2_with fail
  go_at_call 55
  change Calls _ _ _ (C1 w (.slice p bs.length cap)) _
  generalize C1 w (.slice p bs.length cap) = W0 at *
  have H0 := hid HS.out.1
  refine (spec_capture Hb.out _ H0.out.1 (by omega)).mono ?_
  rintro e w1 ⟨g, gc, xs, rfl, hs, ho, hc, hg⟩
  have hgl := own_row ho g rfl
  have hlow := hid HS.out.2.2
  have H1 := hid (And.intro (H0.out.step hc hg) (CpR.own ho hs))
  clear hc hg H0 ho
  go_wp2_with fail
  go_at_call 55
  refine (spec_capture Hb.out _ H1.out.1.1 (by omega)).mono ?_
  rintro e w2 ⟨g', gc', ys, rfl, hs', ho', hc, hg⟩
  have H2 := hid (And.intro (H1.out.1.step hc hg) (And.intro (show CpR w2 g gc xs from ⟨H1.out.2.1, rd_turn H1.out.2.2 hg (fun b o m c e _ => by cases e; intro e2; have := Option.some.inj e2; have := hlow.out; omega)⟩) (CpR.own ho' hs')))
  clear hc hg H1 ho'
  go_wp2
  go_ret2
  exact ⟨g, gc, xs, g', gc', ys, rfl, H2.out.2.1, H2.out.2.2, cur_fin HS.out.2.1 H2.out.1 (Nat.le_refl _)⟩
theorem spec_DrawRepairTicks {bs : List Int} (hb : Bts bs) {v : Value} (w : World) (h : Rd w 1 v bs.length (vBytes bs)) :
    Calls Tryz.prog 32 #[v] w fun e w' => ∃ (g cap : Nat) (xs : List Cap) (q : Int), e = .returned (.tuple #[.slice (some ⟨g, 0, none⟩) xs.length cap, .int .i64 q]) ∧ CpR w' g cap xs ∧ Ext w w' := by
  have HS := hid (cur_start h)
  have Hb := hid hb
  obtain ⟨-, p, cap, rfl, -⟩ := h
  clear hb
  go_enter Tryz.func32, Tryz.ntmps32
  go_wp2_with fail
  go_at_call 55
  change Calls _ _ _ (C1 w (.slice p bs.length cap)) _
  generalize C1 w (.slice p bs.length cap) = W0 at *
  have H0 := hid HS.out.1
  refine (spec_capture Hb.out _ H0.out.1 (by omega)).mono ?_
  rintro e w1 ⟨g, gc, xs, rfl, hs, ho, hc, hg⟩
  have hlow := hid HS.out.2.2
  have H1 : Hid (KpD W0 w1 w.heap.size w.heap.size (.slice p bs.length cap) bs (0 + 200) g gc xs) := ⟨H0.out.step hc hg, ho, hs.2⟩
  clear hc hg H0 ho
  by_cases hne : xs.length = 0
  · obtain rfl : xs = [] := List.eq_nil_of_length_eq_zero hne
    clear hne
    go_wp2_with fail
    go_at_call 58
    refine (spec_amongLit Hb.out _ _ _ w1 _ H1.out.1.1 (by repeat' (first | exact Ext.refl _ | assumption | refine Ext.alloc ?_ _ | refine Ext.ext ?_ _ | refine Ext.drew ?_ | refine Ext.drewN ?_ _)) (by simp) (by rfl) (by omega) (by omega) (by simp)).mono ?_
    rintro e w2 ⟨x, rfl, hc, hg⟩
    have H2 := hid (H1.out.step hc hg)
    clear hc hg H1
    go_wp2
    go_ret2
    exact ⟨g, gc, [], x, rfl, CpR.own H2.out.2.1 hs, cur_fin HS.out.2.1 H2.out.1 (Nat.le_refl _)⟩
  have t0 : decide ((0 : Int) < (xs.length : Int)) = true := decide_eq_true (by omega)
  go_wp2_with fail
  go_at_call 56
  refine (spec_one Hb.out 5 _ H1.out.1.1 (by omega) (by omega)).mono ?_
  rintro e w2 ⟨y, rfl, hc, hg⟩
  have H2 := hid (H1.out.step hc hg)
  clear hc hg H1
  cases y
  · have hx12 := hs.1
    have hpk := hid (fun W (h : Ext w2 W) => spec_pick Hb.out (xs.length : Int) W (H2.out.ext h).1.1 (by omega) (by omega))
    have hst := hid (fun W W' A' (h : Ext w2 W) hc hg => (H2.out.ext h).step (W' := W') (A' := A') hc hg)
    clear H2
    go_wp2_with fail
    go_region_with (first
        | (go_at_call 59; (with_reducible refine (hpk.out _ (by repeat' (first | exact Ext.refl _ | assumption | refine Ext.alloc ?_ _ | refine Ext.ext ?_ _ | refine Ext.drew ?_ | refine Ext.drewN ?_ _))).mono ?_); rintro e w3 ⟨x, rfl, hx0, hx1, hc, hg⟩; have H3 := hid (hst.out _ _ _ (by repeat' (first | exact Ext.refl _ | assumption | refine Ext.alloc ?_ _ | refine Ext.ext ?_ _ | refine Ext.drew ?_ | refine Ext.drewN ?_ _)) hc hg); clear hc hg; obtain ⟨j, rfl⟩ : ∃ j : Nat, x = j := ⟨x.toNat, by omega⟩; obtain ⟨yt, yn, yu, yc, ym, yr, yl, yd, hyd, ⟨a0, a1, a2, a3, a4, a5, a6, a7⟩, -⟩ := H3.out.cells j (by omega); have j0 : (0 : Int) ≤ (j : Int) := by omega)
        | fail)
    go_wp2
    go_ret2
    exact ⟨g, gc, xs, ym, rfl, CpR.own H3.out.2.1 hs, cur_fin HS.out.2.1 H3.out.1 (Nat.le_refl _)⟩
  · go_wp2_with fail
    go_at_call 58
    refine (spec_amongLit Hb.out _ _ _ w2 _ H2.out.1.1 (by repeat' (first | exact Ext.refl _ | assumption | refine Ext.alloc ?_ _ | refine Ext.ext ?_ _ | refine Ext.drew ?_ | refine Ext.drewN ?_ _)) (by simp) (by rfl) (by omega) (by omega) (by simp)).mono ?_
    rintro e w3 ⟨x, rfl, hc, hg⟩
    have H3 := hid (H2.out.step hc hg)
    clear hc hg H2
    go_wp2
    go_ret2
    exact ⟨g, gc, xs, x, rfl, CpR.own H3.out.2.1 hs, cur_fin HS.out.2.1 H3.out.1 (Nat.le_refl _)⟩
end Go.Proofs.YtljknhocfjpolaaGreatDoor
namespace Go.Proofs.YtljknhocfjpolaaGreatDoor
open Go.RowKit
set_option maxHeartbeats 2000000
set_option maxRecDepth 100000
theorem str_from (s : ByteArray) (i : Nat) (h : i ≤ s.size) : ∀ w, (Instr.slice 9 (.string s) (some (.int .i64 i)) none none).run Tryz.prog w = .ok (.string (s.extract i s.size)) w := fun w => by
  have := run_slice_string_l (P := Tryz.prog) w 9 s Tryz.underlying9 .i64 (i : Int) (by omega) (by omega)
  rwa [Int.toNat_natCast] at this
theorem str_upto (s : ByteArray) (i : Nat) (h : i ≤ s.size) : ∀ w, (Instr.slice 9 (.string s) none (some (.int .i64 i)) none).run Tryz.prog w = .ok (.string (s.extract 0 i)) w := fun w => by
  have := run_slice_string_h (P := Tryz.prog) w 9 s Tryz.underlying9 .i64 (i : Int) (by omega) (by omega)
  rwa [Int.toNat_natCast] at this
theorem str_one (s : ByteArray) (h : 1 ≤ s.size) : ∀ w, (Instr.slice 9 (.string s) none (some (.int .i64 1)) none).run Tryz.prog w = .ok (.string (s.extract 0 1)) w := str_upto s 1 h
theorem ext_size (s : ByteArray) (i j : Nat) (h : j ≤ s.size) : (s.extract i j).size = j - i := by
  rw [ByteArray.size_extract]; omega
theorem spec_spoilt {bs : List Int} (hb : Bts bs) {lo B A : Nat} {v : Value} (t q : ByteArray) (w : World) (h : Cs w lo B v bs A) (ht : t.size ≤ 200) (hq : 1 ≤ q.size ∧ q.size ≤ 200) (hA : A ≤ 700000) :
    Calls Tryz.prog 57 #[.pointer (some ⟨B, 0, none⟩), .string t, .string q] w fun e w' => ∃ s : ByteArray, e = .returned (.string s) ∧ s.size ≤ t.size + 1 ∧ Cs w' lo B v bs (A + 3) ∧ w.grownBy w' (some B) := by
  have Hb := hid hb
  have H0 := hid (Dr.start h)
  clear h hb
  by_cases h0 : t.size = 0
  · obtain rfl : t = ⟨#[]⟩ := by
      apply ByteArray.ext
      exact Array.eq_empty_of_size_eq_zero h0
    have hs1 := str_one q hq.1
    have hz := ext_size q 0 1 hq.1
    generalize q.extract 0 1 = c at *
    have Hz := hid hz
    clear hz h0
    go_enter Tryz.func57, Tryz.ntmps57
    go_wp2
    go_ret
    exact ⟨c, rfl, by have := Hz.out; simp; omega, (H0.out.more (by omega)).fin⟩
  · have hne : (t.toList == []) = false := by
      rw [beq_eq_false_iff_ne]
      intro e
      have : t.size = 0 := by rw [← ByteArray.size_data, ← Array.length_toList, ← ByteArray.toList_eq, e]; rfl
      exact h0 this
    go_enter Tryz.func57, Tryz.ntmps57
    go_wp2_with fail
    go_at_call 59
    refine (spec_pick Hb.out (t.size : Int) _ H0.out.1 (by omega) (by omega)).mono ?_
    rintro e w1 ⟨x, rfl, hx0, hx1, hc, hg⟩
    have H1 := hid (H0.out.step hc hg)
    clear hc hg H0
    obtain ⟨i, rfl⟩ : ∃ k : Nat, x = k := ⟨x.toNat, by omega⟩
    go_wp2_with fail
    go_at_call 59
    refine (spec_pick Hb.out (q.size : Int) _ H1.out.1 (by omega) (by omega)).mono ?_
    rintro e w2 ⟨x, rfl, hy0, hy1, hc, hg⟩
    have H2 := hid (H1.out.step hc hg)
    clear hc hg H1
    obtain ⟨j, rfl⟩ : ∃ k : Nat, x = k := ⟨x.toNat, by omega⟩
    have hs1 := str_from q j (by omega)
    have hz1 := ext_size q j q.size (Nat.le_refl _)
    generalize q.extract j q.size = q1 at *
    have hs2 := str_one q1 (by omega)
    have hz2 := ext_size q1 0 1 (by omega)
    generalize q1.extract 0 1 = c at *
    have hc1 : c.size ≤ 1 := by omega
    have Hz := hid hz2
    clear hz1 hz2
    go_wp2_with fail
    go_at_call 59
    refine (spec_pick Hb.out 3 _ H2.out.1 (by omega) (by omega)).mono ?_
    rintro e w3 ⟨z, rfl, hz0, hz1, hc, hg⟩
    have H3 := hid (H2.out.step hc hg)
    clear hc hg H2 hs1 hs2
    have ha1 := str_upto t i (by omega)
    have hl1 := ext_size t 0 i (by omega)
    have e1 : IntKind.i64.wrap ((i : Int) + 1) = (i : Int) + 1 := IntWalk.i64_in _ (by omega)
    have ha2 := str_from t i (by omega)
    have hl2 := ext_size t i t.size (Nat.le_refl _)
    have ha3 := str_from t (i + 1) (by omega)
    rw [show ((i + 1 : Nat) : Int) = (i : Int) + 1 by omega] at ha3
    have hl3 := ext_size t (i + 1) t.size (Nat.le_refl _)
    generalize t.extract 0 i = a1 at *
    generalize t.extract i t.size = a2 at *
    generalize t.extract (i + 1) t.size = a3 at *
    have b1 : a1.size ≤ 200 := by omega
    have b2 : a2.size ≤ 200 := by omega
    have b3 : a3.size ≤ 200 := by omega
    have s12 : a1.size + a2.size = t.size := by omega
    have s13 : a1.size + a3.size + 1 = t.size := by omega
    have HS := hid (And.intro s12 s13)
    clear s12 s13 hl1 hl2 hl3
    by_cases z0 : z = 0
    · subst z0
      go_wp2
      go_region
      go_wp2
      go_ret
      exact ⟨_, rfl, by simp only [ByteArray.size_append]; have := HS.out; omega, (H3.out.ext (by repeat' (first | exact Ext.refl _ | assumption | refine Ext.alloc ?_ _ | refine Ext.ext ?_ _ | refine Ext.drew ?_ | refine Ext.drewN ?_ _))).fin⟩
    by_cases z1 : z = 1
    · subst z1
      go_wp2
      go_region
      go_wp2
      go_ret
      exact ⟨_, rfl, by simp only [ByteArray.size_append]; have := HS.out; omega, (H3.out.ext (by repeat' (first | exact Ext.refl _ | assumption | refine Ext.alloc ?_ _ | refine Ext.ext ?_ _ | refine Ext.drew ?_ | refine Ext.drewN ?_ _))).fin⟩
    have t0 : (z == 0) = false := by rw [beq_eq_false_iff_ne]; omega
    have t1 : (z == 1) = false := by rw [beq_eq_false_iff_ne]; omega
    go_wp2
    go_region
    go_wp2
    go_ret
    exact ⟨_, rfl, by simp only [ByteArray.size_append]; have := HS.out; omega, (H3.out.ext (by repeat' (first | exact Ext.refl _ | assumption | refine Ext.alloc ?_ _ | refine Ext.ext ?_ _ | refine Ext.drew ?_ | refine Ext.drewN ?_ _))).fin⟩
end Go.Proofs.YtljknhocfjpolaaGreatDoor
namespace Go.Proofs.YtljknhocfjpolaaGreatDoor
open Go.RowKit
set_option maxHeartbeats 2000000
set_option maxRecDepth 100000
theorem spec_pickW {bs : List Int} (hb : Bts bs) {lo B A : Nat} {v : Value} (n : Int) (w : World) (h : Cs w lo B v bs A) (hA : A ≤ 900000) (hn : 1 ≤ n ∧ n ≤ 2000) :
    Calls Tryz.prog 59 #[.pointer (some ⟨B, 0, none⟩), .int .i64 n] w fun e w' => ∃ x : Int, e = .returned (.int .i64 x) ∧ 0 ≤ x ∧ x < n ∧ Cs w' lo B v bs (A + 2) ∧ w.grownBy w' (some B) := by
  by_cases h1 : n ≤ 200
  · exact (spec_pick hb n w h hA ⟨hn.1, h1⟩).mono fun e w' ⟨x, e1, e2, e3, e4, e5⟩ => ⟨x, e1, e2, e3, e4.more (by omega), e5⟩
  · have Hn := hid (fun A w h hA => spec_next hb (lo := lo) (B := B) (A := A) (v := v) w h hA)
    have Hc := hid h
    clear h
    have t1 : ¬ n ≤ 1 := by omega
    have t2 : 200 < n := by omega
    have t0 : ¬ n = 0 := by omega
    have t3 : (n == 0) = false := by rw [beq_eq_false_iff_ne]; omega
    go_enter Tryz.func59, Tryz.ntmps59
    go_wp2_with fail
    go_at_call 101
    refine (Hn.out A _ (Hc.out.ext (by repeat' (first | exact Ext.refl _ | assumption | refine Ext.alloc ?_ _ | refine Ext.ext ?_ _ | refine Ext.drew ?_ | refine Ext.drewN ?_ _))) (by omega)).mono ?_
    rintro e w1 ⟨x, rfl, hx0, hx1, hc1, hg1⟩
    have K := hid (And.intro hc1 hg1)
    clear hc1 hg1 Hc
    go_wp2_with fail
    go_at_call 101
    refine (Hn.out (A + 1) _ K.out.1 (by omega)).mono ?_
    rintro e w2 ⟨y, rfl, hy0, hy1, hc1, hg1⟩
    have K2 := hid (And.intro hc1 (grownBy_trans K.out.2 hg1))
    clear hc1 hg1 K
    have k1 : IntKind.i64.wrap (x * 256) = x * 256 := IntWalk.i64_in _ (by omega)
    have k2 : IntKind.i64.wrap (x * 256 + y) = x * 256 + y := IntWalk.i64_in _ (by omega)
    have hz0 : 0 ≤ x * 256 + y := by omega
    have m0 : 0 ≤ (x * 256 + y).tmod n := Int.tmod_nonneg _ hz0
    have m1 : (x * 256 + y).tmod n < n := Int.tmod_lt_of_pos _ (by omega)
    have m2 : IntKind.i64.wrap ((x * 256 + y).tmod n) = (x * 256 + y).tmod n := IntWalk.i64_in _ (by omega)
    have m3 : (x * 256 + y).tmod n = (x * 256 + y) % n := Int.tmod_eq_emod_of_nonneg hz0
    go_wp2
    go_ret
    exact ⟨(x * 256 + y) % n, rfl, by omega, by omega, K2.out.1, K2.out.2⟩
theorem spec_spoiltW {bs : List Int} (hb : Bts bs) {lo B A : Nat} {v : Value} (t q : ByteArray) (w : World) (h : Cs w lo B v bs A) (ht : t.size ≤ 1100) (hq : 1 ≤ q.size ∧ q.size ≤ 200) (hA : A ≤ 700000) :
    Calls Tryz.prog 57 #[.pointer (some ⟨B, 0, none⟩), .string t, .string q] w fun e w' => ∃ s : ByteArray, e = .returned (.string s) ∧ s.size ≤ t.size + 1 ∧ Cs w' lo B v bs (A + 4) ∧ w.grownBy w' (some B) := by
  have Hb := hid hb
  have H0 := hid (Dr.start h)
  clear h hb
  by_cases h0 : t.size = 0
  · obtain rfl : t = ⟨#[]⟩ := by
      apply ByteArray.ext
      exact Array.eq_empty_of_size_eq_zero h0
    have hs1 := str_one q hq.1
    have hz := ext_size q 0 1 hq.1
    generalize q.extract 0 1 = c at *
    have Hz := hid hz
    clear hz h0
    go_enter Tryz.func57, Tryz.ntmps57
    go_wp2
    go_ret
    exact ⟨c, rfl, by have := Hz.out; simp; omega, (H0.out.more (by omega)).fin⟩
  · have hne : (t.toList == []) = false := by
      rw [beq_eq_false_iff_ne]
      intro e
      have : t.size = 0 := by rw [← ByteArray.size_data, ← Array.length_toList, ← ByteArray.toList_eq, e]; rfl
      exact h0 this
    go_enter Tryz.func57, Tryz.ntmps57
    go_wp2_with fail
    go_at_call 59
    refine (spec_pickW Hb.out (t.size : Int) _ H0.out.1 (by omega) (by omega)).mono ?_
    rintro e w1 ⟨x, rfl, hx0, hx1, hc, hg⟩
    have H1 := hid (H0.out.step hc hg)
    clear hc hg H0
    obtain ⟨i, rfl⟩ : ∃ k : Nat, x = k := ⟨x.toNat, by omega⟩
    go_wp2_with fail
    go_at_call 59
    refine (spec_pick Hb.out (q.size : Int) _ H1.out.1 (by omega) (by omega)).mono ?_
    rintro e w2 ⟨x, rfl, hy0, hy1, hc, hg⟩
    have H2 := hid (H1.out.step hc hg)
    clear hc hg H1
    obtain ⟨j, rfl⟩ : ∃ k : Nat, x = k := ⟨x.toNat, by omega⟩
    have hs1 := str_from q j (by omega)
    have hz1 := ext_size q j q.size (Nat.le_refl _)
    generalize q.extract j q.size = q1 at *
    have hs2 := str_one q1 (by omega)
    have hz2 := ext_size q1 0 1 (by omega)
    generalize q1.extract 0 1 = c at *
    have hc1 : c.size ≤ 1 := by omega
    have Hz := hid hz2
    clear hz1 hz2
    go_wp2_with fail
    go_at_call 59
    refine (spec_pick Hb.out 3 _ H2.out.1 (by omega) (by omega)).mono ?_
    rintro e w3 ⟨z, rfl, hz0, hz1, hc, hg⟩
    have H3 := hid (H2.out.step hc hg)
    clear hc hg H2 hs1 hs2
    have ha1 := str_upto t i (by omega)
    have hl1 := ext_size t 0 i (by omega)
    have e1 : IntKind.i64.wrap ((i : Int) + 1) = (i : Int) + 1 := IntWalk.i64_in _ (by omega)
    have ha2 := str_from t i (by omega)
    have hl2 := ext_size t i t.size (Nat.le_refl _)
    have ha3 := str_from t (i + 1) (by omega)
    rw [show ((i + 1 : Nat) : Int) = (i : Int) + 1 by omega] at ha3
    have hl3 := ext_size t (i + 1) t.size (Nat.le_refl _)
    generalize t.extract 0 i = a1 at *
    generalize t.extract i t.size = a2 at *
    generalize t.extract (i + 1) t.size = a3 at *
    have b1 : a1.size ≤ 1100 := by omega
    have b2 : a2.size ≤ 1100 := by omega
    have b3 : a3.size ≤ 1100 := by omega
    have s12 : a1.size + a2.size = t.size := by omega
    have s13 : a1.size + a3.size + 1 = t.size := by omega
    have HS := hid (And.intro s12 s13)
    clear s12 s13 hl1 hl2 hl3
    by_cases z0 : z = 0
    · subst z0
      go_wp2
      go_region
      go_wp2
      go_ret
      exact ⟨_, rfl, by simp only [ByteArray.size_append]; have := HS.out; omega, (H3.out.ext (by repeat' (first | exact Ext.refl _ | assumption | refine Ext.alloc ?_ _ | refine Ext.ext ?_ _ | refine Ext.drew ?_ | refine Ext.drewN ?_ _))).fin⟩
    by_cases z1 : z = 1
    · subst z1
      go_wp2
      go_region
      go_wp2
      go_ret
      exact ⟨_, rfl, by simp only [ByteArray.size_append]; have := HS.out; omega, (H3.out.ext (by repeat' (first | exact Ext.refl _ | assumption | refine Ext.alloc ?_ _ | refine Ext.ext ?_ _ | refine Ext.drew ?_ | refine Ext.drewN ?_ _))).fin⟩
    have t0 : (z == 0) = false := by rw [beq_eq_false_iff_ne]; omega
    have t1 : (z == 1) = false := by rw [beq_eq_false_iff_ne]; omega
    go_wp2
    go_region
    go_wp2
    go_ret
    exact ⟨_, rfl, by simp only [ByteArray.size_append]; have := HS.out; omega, (H3.out.ext (by repeat' (first | exact Ext.refl _ | assumption | refine Ext.alloc ?_ _ | refine Ext.ext ?_ _ | refine Ext.drew ?_ | refine Ext.drewN ?_ _))).fin⟩
end Go.Proofs.YtljknhocfjpolaaGreatDoor
