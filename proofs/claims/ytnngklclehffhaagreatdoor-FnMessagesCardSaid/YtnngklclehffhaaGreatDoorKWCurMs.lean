/- What the law of messages draws. -/
import Derived.Test.YtnngklclehffhaaGreatDoorKWCurF
import Derived.Test.YtnngklclehffhaaGreatDoorKWCurQ
import Derived.Test.YtnngklclehffhaaGreatDoorKWPfL
import Derived.Deep.DeepCutAuto
namespace Go.Proofs.YtnngklclehffhaaGreatDoor
open Go.RowKit
set_option maxHeartbeats 2000000
set_option maxRecDepth 100000
/-- The cursor's own block. -/
def C1 (w : World) (v : Value) : World := w.alloc (.cells #[v, .int .i64 0, .int .u64 0] 47)
theorem cur_start {w : World} {v : Value} {bs : List Int} (h : Rd w 1 v bs.length (vBytes bs)) : Dr (C1 w v) (C1 w v) w.heap.size w.heap.size v bs 0 ∧ Ext w (C1 w v) ∧ (C1 w v).heap.size = w.heap.size + 1 := by
  have hx : Ext w (C1 w v) := by unfold C1; exact (by repeat' (first | exact Ext.refl _ | assumption | refine Ext.alloc ?_ _ | refine Ext.ext ?_ _ | refine Ext.drew ?_ | refine Ext.drewN ?_ _))
  exact ⟨Dr.start ⟨⟨h.ext hx, fun b o m c e hm => rd_lt h (by decide) e hm⟩, 0, 0, by omega, by omega, World.ownsRow_lit w #[v, .int .i64 0, .int .u64 0] 1 (Nat.le_refl _) (by decide) rfl⟩, hx, by unfold C1; simp⟩
theorem cur_fin {w W W' : World} {lo B A : Nat} {v : Value} {bs : List Int} (hx : Ext w W) (h : Dr W W' lo B v bs A) (hB : w.heap.size ≤ B) : Ext w W' := hx.grown h.2.1 (fun j e => by have := Option.some.inj e; omega)
theorem spec_message {bs : List Int} (hb : Bts bs) {lo B A : Nat} {v : Value} (w : World) (h : Cs w lo B v bs A) (hA : A ≤ 500000) :
    Calls Tryz.prog 16 #[.pointer (some ⟨B, 0, none⟩)] w fun e w' => ∃ (x : Int) (s : ByteArray) (z : Int), e = .returned (.tuple #[.int .i64 x, .string s, .int .i64 z]) ∧ s.size ≤ 64 ∧ Cs w' lo B v bs (A + 40) ∧ w.grownBy w' (some B) := by
  have Hb := hid hb
  have H0 := hid (Dr.start h)
  clear h hb
  go_enter Tryz.func16, Tryz.ntmps16
  go_wp2_with fail
  go_at_call 42
  refine (spec_letters Hb.out 24 24 rfl _ H0.out.1 (by omega) (by omega)).mono ?_
  rintro e w1 ⟨s, rfl, hi, hc, hg⟩
  have hs : s.size ≤ 64 := by have := itm_iff6 hi; omega
  have H1 := hid (H0.out.step hc hg)
  clear hc hg H0 hi
  go_wp2_with fail
  go_at_call 40
  refine (spec_one Hb.out 20 _ H1.out.1 (by omega) (by omega)).mono ?_
  rintro e w2 ⟨y, rfl, hc, hg⟩
  have H2 := hid (H1.out.step hc hg)
  clear hc hg H1
  cases y
  · go_wp2_with fail
    go_at_call 44
    refine (spec_amongLit Hb.out _ _ _ w2 _ H2.out.1 (by repeat' (first | exact Ext.refl _ | assumption | refine Ext.alloc ?_ _ | refine Ext.ext ?_ _ | refine Ext.drew ?_ | refine Ext.drewN ?_ _)) (by simp) (by rfl) (by omega) (by omega) (by simp)).mono ?_
    rintro e w3 ⟨x, rfl, hc, hg⟩
    have H3 := hid (H2.out.step hc hg)
    clear hc hg H2
    go_wp2_with fail
    go_at_call 44
    refine (spec_amongLit Hb.out _ _ _ w3 _ H3.out.1 (by repeat' (first | exact Ext.refl _ | assumption | refine Ext.alloc ?_ _ | refine Ext.ext ?_ _ | refine Ext.drew ?_ | refine Ext.drewN ?_ _)) (by simp) (by rfl) (by omega) (by omega) (by simp)).mono ?_
    rintro e w4 ⟨z, rfl, hc, hg⟩
    have H4 := hid (H3.out.step hc hg)
    clear hc hg H3
    go_wp2
    go_ret3
    exact ⟨x, s, z, rfl, hs, (H4.out.more (by omega)).fin⟩
  · clear hs
    go_wp2_with fail
    go_at_call 43
    refine (spec_ofLit Hb.out _ _ _ w2 _ H2.out.1 (by repeat' (first | exact Ext.refl _ | assumption | refine Ext.alloc ?_ _ | refine Ext.ext ?_ _ | refine Ext.drew ?_ | refine Ext.drewN ?_ _)) (by simp) (by rfl) (by omega) (by omega) (fun s => decide (s.size ≤ 64)) (by decide +kernel)).mono ?_
    rintro e w3 ⟨s, rfl, hs, hc, hg⟩
    have hs : s.size ≤ 64 := by simpa using hs
    have H3 := hid (H2.out.step hc hg)
    clear hc hg H2
    go_wp2_with fail
    go_at_call 44
    refine (spec_amongLit Hb.out _ _ _ w3 _ H3.out.1 (by repeat' (first | exact Ext.refl _ | assumption | refine Ext.alloc ?_ _ | refine Ext.ext ?_ _ | refine Ext.drew ?_ | refine Ext.drewN ?_ _)) (by simp) (by rfl) (by omega) (by omega) (by simp)).mono ?_
    rintro e w4 ⟨x, rfl, hc, hg⟩
    have H4 := hid (H3.out.step hc hg)
    clear hc hg H3
    go_wp2_with fail
    go_at_call 44
    refine (spec_amongLit Hb.out _ _ _ w4 _ H4.out.1 (by repeat' (first | exact Ext.refl _ | assumption | refine Ext.alloc ?_ _ | refine Ext.ext ?_ _ | refine Ext.drew ?_ | refine Ext.drewN ?_ _)) (by simp) (by rfl) (by omega) (by omega) (by simp)).mono ?_
    rintro e w5 ⟨z, rfl, hc, hg⟩
    have H5 := hid (H4.out.step hc hg)
    clear hc hg H4
    go_wp2
    go_ret3
    exact ⟨x, s, z, rfl, hs, (H5.out.more (by omega)).fin⟩
theorem spec_DrawSplitMessage {bs : List Int} (hb : Bts bs) {v : Value} (w : World) (h : Rd w 1 v bs.length (vBytes bs)) :
    Calls Tryz.prog 5 #[v] w fun e w' => ∃ (x : Int) (s : ByteArray) (z : Int), e = .returned (.tuple #[.int .i64 x, .string s, .int .i64 z]) ∧ s.size ≤ 64 ∧ Ext w w' := by
  have HS := hid (cur_start h)
  have Hb := hid hb
  obtain ⟨-, p, cap, rfl, -⟩ := h
  clear hb
  go_enter Tryz.func5, Tryz.ntmps5
  go_wp2_with fail
  go_at_call 16
  change Calls _ _ _ (C1 w (.slice p bs.length cap)) _
  generalize C1 w (.slice p bs.length cap) = W0 at *
  have H0 := hid HS.out.1
  refine (spec_message Hb.out _ H0.out.1 (by omega)).mono ?_
  rintro e w1 ⟨x, s, z, rfl, hs, hc, hg⟩
  have H1 := hid (H0.out.step hc hg)
  clear hc hg H0
  go_wp2
  go_ret3
  exact ⟨x, s, z, rfl, hs, cur_fin HS.out.2.1 H1.out (Nat.le_refl _)⟩
theorem spec_DrawIsValidFragment {bs : List Int} (hb : Bts bs) {v : Value} (w : World) (h : Rd w 1 v bs.length (vBytes bs)) :
    Calls Tryz.prog 33 #[v] w fun e w' => ∃ f : Fra, e = .returned (.agg #[.int .i64 f.n, .int .i64 f.p, .int .i64 f.q, .string f.d]) ∧ f.d.size ≤ 9 ∧ Ext w w' := by
  have Hb := hid hb
  have hx0 : Ext w (w.alloc (.cells #[.int .i64 0, .int .i64 0, .int .i64 0, .string ⟨#[]⟩] 31)) := (by repeat' (first | exact Ext.refl _ | assumption | refine Ext.alloc ?_ _ | refine Ext.ext ?_ _ | refine Ext.drew ?_ | refine Ext.drewN ?_ _))
  have hR0 : (w.alloc (.cells #[.int .i64 0, .int .i64 0, .int .i64 0, .string ⟨#[]⟩] 31)).heap[w.heap.size]? = some (.cells #[.int .i64 0, .int .i64 0, .int .i64 0, .string ⟨#[]⟩] 31 (0, 0)) := heap_at _ rfl
  have HS := hid (cur_start (h.ext hx0))
  have hR := blk_ext hR0 HS.out.2.1
  have hsB : (w.alloc (.cells #[.int .i64 0, .int .i64 0, .int .i64 0, .string ⟨#[]⟩] 31)).heap.size = w.heap.size + 1 := by simp
  have XW := hid (hx0.trans HS.out.2.1)
  obtain ⟨-, p, cap, rfl, -⟩ := h
  clear hb hR0 hx0
  go_enter Tryz.func33, Tryz.ntmps33
  go_wp2_with fail
  go_at_call 39
  change Calls _ _ _ (C1 (w.alloc (.cells #[.int .i64 0, .int .i64 0, .int .i64 0, .string ⟨#[]⟩] 31)) (.slice p bs.length cap)) _
  rw [hsB] at HS
  generalize C1 (w.alloc (.cells #[.int .i64 0, .int .i64 0, .int .i64 0, .string ⟨#[]⟩] 31)) (.slice p bs.length cap) = W0 at *
  have H0 := hid HS.out.1
  have HB := hid HS.out.2.2
  clear HS hsB
  refine (spec_fragment Hb.out _ H0.out.1 (by omega)).mono ?_
  rintro e w1 ⟨f, rfl, hds, hc, hg⟩
  have H1 := hid (H0.out.step hc hg)
  clear hc hg H0
  have hR1 := hid (blk_grow hR H1.out.2.1 (fun e => by have := Option.some.inj e; omega))
  obtain ⟨⟨r0, r1, r2, r3⟩, ⟨q0, q1, q2, q3⟩, -⟩ := box4 hR1.out
  have XN := hid (cur_fin XW.out H1.out (by omega))
  clear hR H1 XW
  go_wp2
  refine bodyPost_ret (results_cell_row rfl _ _ w.heap.size _ _ (0, 0) _ rfl (box4_set (t := 31) hR1.out _ _ _ _) Tryz.underlying31 rfl (by kernel_rfl)) rfl ⟨f, rfl, hds, ?_⟩
  exact XN.out.set4 (Nat.le_refl _) _ _ _ _
theorem spec_DrawFragmentText {bs : List Int} (hb : Bts bs) {v : Value} (w : World) (h : Rd w 1 v bs.length (vBytes bs)) :
    Calls Tryz.prog 11 #[v] w fun e w' => ∃ f : Fra, e = .returned (.agg #[.int .i64 f.n, .int .i64 f.p, .int .i64 f.q, .string f.d]) ∧ f.d.size ≤ 9 ∧ Ext w w' := by
  have hx0 : Ext w (w.alloc (.cells #[.int .i64 0, .int .i64 0, .int .i64 0, .string ⟨#[]⟩] 31)) := (by repeat' (first | exact Ext.refl _ | assumption | refine Ext.alloc ?_ _ | refine Ext.ext ?_ _ | refine Ext.drew ?_ | refine Ext.drewN ?_ _))
  have hR0 := hid (show (w.alloc (.cells #[.int .i64 0, .int .i64 0, .int .i64 0, .string ⟨#[]⟩] 31)).heap[w.heap.size]? = some (.cells #[.int .i64 0, .int .i64 0, .int .i64 0, .string ⟨#[]⟩] 31 (0, 0)) from heap_at _ rfl)
  have hd := hid (spec_DrawIsValidFragment hb _ (h.ext hx0))
  obtain ⟨-, p, cap, rfl, -⟩ := h
  clear hb
  go_enter Tryz.func11, Tryz.ntmps11
  go_wp2_with fail
  go_at_call 33
  refine (hd.out).mono ?_
  rintro e w1 ⟨f, rfl, hs, hx⟩
  have hR1 := hid (blk_ext hR0.out hx)
  have XN := hid (hx0.trans hx)
  clear hx hd hR0 hx0
  obtain ⟨⟨r0, r1, r2, r3⟩, ⟨q0, q1, q2, q3⟩, -⟩ := box4 hR1.out
  go_wp2
  refine bodyPost_ret (results_cell_row rfl _ _ w.heap.size _ _ (0, 0) _ rfl (box4_set (t := 31) hR1.out _ _ _ _) Tryz.underlying31 rfl (by kernel_rfl)) rfl ⟨f, rfl, hs, ?_⟩
  exact XN.out.set4 (Nat.le_refl _) _ _ _ _
theorem spec_DrawParseFragment {bs : List Int} (hb : Bts bs) {v : Value} (w : World) (h : Rd w 1 v bs.length (vBytes bs)) :
    Calls Tryz.prog 15 #[v] w fun e w' => ∃ s : ByteArray, e = .returned (.string s) ∧ s.size ≤ 64 ∧ Ext w w' := by
  have HS := hid (cur_start h)
  have Hb := hid hb
  obtain ⟨-, p, cap, rfl, -⟩ := h
  clear hb
  go_enter Tryz.func15, Tryz.ntmps15
  go_wp2_with fail
  go_at_call 39
  change Calls _ _ _ (C1 w (.slice p bs.length cap)) _
  generalize C1 w (.slice p bs.length cap) = W0 at *
  have H0 := hid HS.out.1
  refine (spec_fragment Hb.out _ H0.out.1 (by omega)).mono ?_
  rintro e w1 ⟨f, rfl, hds, hc, hg⟩
  have H1 := hid (H0.out.step hc hg)
  clear hc hg H0
  obtain ⟨n, i, k, d⟩ := f
  dsimp only at hds
  have X2 : Ext w1 (w1.alloc (.cells #[.int .i64 n, .int .i64 i, .int .i64 k, .string d] 31)) := (by repeat' (first | exact Ext.refl _ | assumption | refine Ext.alloc ?_ _ | refine Ext.ext ?_ _ | refine Ext.drew ?_ | refine Ext.drewN ?_ _))
  have hF := hid (show (w1.alloc (.cells #[.int .i64 n, .int .i64 i, .int .i64 k, .string d] 31)).heap[w1.heap.size]? = some (.cells #[.int .i64 n, .int .i64 i, .int .i64 k, .string d] 31 (0, 0)) from heap_at _ rfl)
  have H2 := hid (H1.out.ext X2)
  have hs1 := H1.out.size
  clear X2 H1
  have cf := hid (fun w => spec_l23Fragment n i k d w (by omega))
  have ct := hid (fun (h : okF ⟨n, i, k, d⟩ = true) w => spec_l23Text n i k d w h)
  have hz := hid (fun (h : okF ⟨n, i, k, d⟩ = true) => fraT_size h)
  generalize okF ⟨n, i, k, d⟩ = O at *
  generalize fraT ⟨n, i, k, d⟩ = T at *
  go_upto_region 3 with fail
  generalize (w1.alloc (.cells #[.int .i64 n, .int .i64 i, .int .i64 k, .string d] 31)) = w2 at *
  generalize w1.heap.size = FX at *
  obtain ⟨⟨c0, c1, c2, c3⟩, ⟨f0, f1, f2, f3⟩, -⟩ := box4 hF.out
  go_wp2_with fail
  go_at_call 37
  refine (cf.out _).mono ?_
  rintro e w3 ⟨rfl, hx⟩
  have H3 := hid (H2.out.ext hx)
  have hF3 := hid (blk_ext hF.out hx)
  clear hx H2 hF c0 c1 c2 c3 f0 f1 f2 f3 cf
  obtain ⟨⟨c0, c1, c2, c3⟩, ⟨f0, f1, f2, f3⟩, -⟩ := box4 hF3.out
  cases O
  · clear ct hz
    go_upto_region 5 with fail
    have hF4 := hid (box4_set hF3.out (.int .i64 5) (.int .i64 1) (.int .i64 3) (.string ⟨#[97, 98]⟩))
    have H4 := hid ((((H3.out.set (p := ⟨FX, 0, none⟩) hs1 (.int .i64 5)).set (p := ⟨FX, 1, none⟩) hs1 (.int .i64 1)).set (p := ⟨FX, 2, none⟩) hs1 (.int .i64 3)).set (p := ⟨FX, 3, none⟩) hs1 (.string ⟨#[97, 98]⟩))
    generalize ((((w3.setCell ⟨FX, 0, none⟩ (.int .i64 5)).setCell ⟨FX, 1, none⟩ (.int .i64 1)).setCell ⟨FX, 2, none⟩ (.int .i64 3)).setCell ⟨FX, 3, none⟩ (.string ⟨#[97, 98]⟩)) = w4 at *
    clear H3 hF3 c0 c1 c2 c3 f0 f1 f2 f3
    obtain ⟨⟨c0, c1, c2, c3⟩, -, -⟩ := box4 hF4.out
    go_wp2_with fail
    go_at_call 38
    refine (spec_l23Text 5 1 3 ⟨#[97, 98]⟩ _ (by decide)).mono ?_
    rintro e w5 ⟨rfl, hx⟩
    have hT := fraT_size (x := ⟨5, 1, 3, ⟨#[97, 98]⟩⟩) (by decide)
    generalize fraT ⟨5, 1, 3, ⟨#[97, 98]⟩⟩ = T2 at *
    have H5 := hid (H4.out.ext hx)
    clear hx H4 hF4 c0 c1 c2 c3
    go_wp2_with fail
    go_at_call 40
    refine (spec_one Hb.out 4 _ H5.out.1 (by omega) (by omega)).mono ?_
    rintro e w6 ⟨y, rfl, hc, hg⟩
    have H6 := hid (H5.out.step hc hg)
    clear hc hg H5
    cases y
    · go_wp2
      go_ret
      exact ⟨T2, rfl, by omega, cur_fin HS.out.2.1 H6.out (Nat.le_refl _)⟩
    · go_wp2_with fail
      go_at_call 41
      refine (spec_spoilt Hb.out T2 ⟨#[49, 46, 47, 58, 97]⟩ _ H6.out.1 (by omega) (by decide) (by omega)).mono ?_
      rintro e w7 ⟨s, rfl, hs, hc, hg⟩
      have H7 := hid (H6.out.step hc hg)
      clear hc hg H6
      go_wp2
      go_ret
      exact ⟨s, rfl, by omega, cur_fin HS.out.2.1 H7.out (Nat.le_refl _)⟩
  · go_wp2_with fail
    go_at_call 38
    refine (ct.out (by trivial) _).mono ?_
    rintro e w5 ⟨rfl, hx⟩
    have hT := hz.out (by trivial)
    have H5 := hid (H3.out.ext hx)
    clear hx H3 hF3 c0 c1 c2 c3 f0 f1 f2 f3 ct hz
    go_wp2_with fail
    go_at_call 40
    refine (spec_one Hb.out 4 _ H5.out.1 (by omega) (by omega)).mono ?_
    rintro e w6 ⟨y, rfl, hc, hg⟩
    have H6 := hid (H5.out.step hc hg)
    clear hc hg H5
    cases y
    · go_wp2
      go_ret
      exact ⟨T, rfl, by omega, cur_fin HS.out.2.1 H6.out (Nat.le_refl _)⟩
    · go_wp2_with fail
      go_at_call 41
      refine (spec_spoilt Hb.out T ⟨#[49, 46, 47, 58, 97]⟩ _ H6.out.1 (by omega) (by decide) (by omega)).mono ?_
      rintro e w7 ⟨s, rfl, hs, hc, hg⟩
      have H7 := hid (H6.out.step hc hg)
      clear hc hg H6
      go_wp2
      go_ret
      exact ⟨s, rfl, by omega, cur_fin HS.out.2.1 H7.out (Nat.le_refl _)⟩
end Go.Proofs.YtnngklclehffhaaGreatDoor
