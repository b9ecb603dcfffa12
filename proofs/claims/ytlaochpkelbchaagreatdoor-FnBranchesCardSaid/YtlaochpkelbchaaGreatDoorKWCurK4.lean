/- What the law of branches draws: groups and their texts. -/
import Derived.Test.YtlaochpkelbchaaGreatDoorKWCurK
import Derived.Test.YtlaochpkelbchaaGreatDoorKWPgL
import Derived.Deep.DeepCutAuto
namespace Go.Proofs.YtlaochpkelbchaaGreatDoor
open Go.RowKit
set_option maxHeartbeats 2000000
set_option maxRecDepth 100000
theorem grpT_size {a : ByteArray} {ms : List Int} (h : okG a ms = true) : (grpT a ms).size ≤ 40 := by
  have hr := (okG_all h).2.2
  have hn := risB_in hr
  have hsz := gnm_size (okG_all h).1
  have hns := numsTo_size (xs := ms) (fun i hi => by have := hn i hi; omega) ms.length (Nat.le_refl _)
  have hl7 : ms.length ≤ 7 := by
    have := asc_len (n := 8) ms 1 (risB_asc hr) (fun y hy => by have := risB_mem hr y hy; omega)
    omega
  rw [grpT, ByteArray.size_append, ByteArray.size_append]
  have : COL.size = 2 := rfl
  omega
theorem spec_DrawParseGroup {bs : List Int} (hb : Bts bs) {v : Value} (w : World) (h : Rd w 1 v bs.length (vBytes bs)) :
    Calls Tryz.prog 17 #[v] w fun e w' => ∃ s : ByteArray, e = .returned (.string s) ∧ s.size ≤ 64 ∧ Ext w w' := by
  have HS := hid (cur_start h)
  have Hb := hid hb
  obtain ⟨-, p, cap, rfl, -⟩ := h
  clear hb
  go_enter Tryz.func17, Tryz.ntmps17
  go_wp2_with fail
  go_at_call 22
  change Calls _ _ _ (C1 w (.slice p bs.length cap)) _
  generalize C1 w (.slice p bs.length cap) = W0 at *
  have H0 := hid HS.out.1
  refine (spec_groupName Hb.out _ H0.out.1 (by omega)).mono ?_
  rintro e w1 ⟨s, rfl, hs, hc, hg⟩
  have H1 := hid (H0.out.step hc hg)
  clear hc hg H0
  go_wp2_with fail
  go_at_call 23
  refine (spec_members Hb.out 8 8 rfl _ H1.out.1 (by omega) (by omega)).mono ?_
  rintro e w2 ⟨u, ms, rfl, hm, ho, hc, hg⟩
  obtain ⟨up, uc, rfl⟩ := own_shape ho
  have H2 := hid (And.intro (H1.out.step hc hg) (Rd.own ho))
  clear hc hg H1 ho
  have ct := hid (fun W h => spec_GroupText s ms (.slice up ms.length uc) W h (by omega) (by omega))
  have hz : (grT s ms).size ≤ 40 := by
    rw [grT]
    split
    · rename_i h; exact grpT_size h
    · exact Nat.zero_le _
  generalize grT s ms = G at *
  go_wp2_with fail
  go_at_call 15
  refine (ct.out _ H2.out.2).mono ?_
  rintro e w3 ⟨rfl, hx⟩
  have H3 := hid (H2.out.1.ext hx)
  clear hx H2 ct
  go_wp2_with fail
  go_at_call 20
  refine (spec_one Hb.out 4 _ H3.out.1 (by omega) (by omega)).mono ?_
  rintro e w4 ⟨y, rfl, hc, hg⟩
  have H4 := hid (H3.out.step hc hg)
  clear hc hg H3
  cases y
  · go_wp2
    go_ret
    exact ⟨G, rfl, by omega, cur_fin HS.out.2.1 H4.out (Nat.le_refl _)⟩
  · go_wp2_with fail
    go_at_call 45
    refine (spec_spoilt Hb.out G ⟨#[49, 44, 58, 32, 97]⟩ _ H4.out.1 (by omega) (by decide) (by omega)).mono ?_
    rintro e w5 ⟨r, rfl, hr, hc, hg⟩
    have H5 := hid (H4.out.step hc hg)
    clear hc hg H4
    go_wp2
    go_ret
    exact ⟨r, rfl, by omega, cur_fin HS.out.2.1 H5.out (Nat.le_refl _)⟩
theorem rdb_far2 {W : World} {lo2 n g : Nat} {u : Value} {cs : List Value} (h : RdB W lo2 u n cs) (hg : g < lo2) (a b : Value) : Rd ((W.setCell ⟨g, 0, none⟩ a).setCell ⟨g, 1, none⟩ b) 1 u n cs := by
  have h1 := h.away (grownBy_set W ⟨g, 0, none⟩ a) (fun b o m c e hm e2 => by have := h.2 b o m c e hm; have e3 : g = b := Option.some.inj e2; omega)
  exact (h1.away (grownBy_set _ ⟨g, 1, none⟩ b) (fun b o m c e hm e2 => by have := h.2 b o m c e hm; have e3 : g = b := Option.some.inj e2; omega)).1
theorem spec_DrawGroupText {bs : List Int} (hb : Bts bs) {v : Value} (w : World) (h : Rd w 1 v bs.length (vBytes bs)) :
    Calls Tryz.prog 13 #[v] w fun e w' => ∃ (s : ByteArray) (u : Value) (ms : List Int), e = .returned (.agg #[.string s, u]) ∧ (s.size ≤ 9 ∧ ms.length ≤ 21) ∧ Rd w' 1 u ms.length (vInts ms) ∧ Ext w w' := by
  have Hb := hid hb
  have hx0 : Ext w (w.alloc (.cells #[.string ⟨#[]⟩, .slice none 0 0] 28)) := (by repeat' (first | exact Ext.refl _ | assumption | refine Ext.alloc ?_ _ | refine Ext.ext ?_ _ | refine Ext.drew ?_ | refine Ext.drewN ?_ _))
  have hR0 : (w.alloc (.cells #[.string ⟨#[]⟩, .slice none 0 0] 28)).heap[w.heap.size]? = some (.cells #[.string ⟨#[]⟩, .slice none 0 0] 28 (0, 0)) := heap_at _ rfl
  have HS := hid (cur_start (h.ext hx0))
  have hR := blk_ext hR0 HS.out.2.1
  have hsB : (w.alloc (.cells #[.string ⟨#[]⟩, .slice none 0 0] 28)).heap.size = w.heap.size + 1 := by simp
  have XW := hid (hx0.trans HS.out.2.1)
  obtain ⟨-, p, cap, rfl, -⟩ := h
  clear hb hR0 hx0
  go_enter Tryz.func13, Tryz.ntmps13
  go_wp2_with fail
  go_at_call 22
  change Calls _ _ _ (C1 (w.alloc (.cells #[.string ⟨#[]⟩, .slice none 0 0] 28)) (.slice p bs.length cap)) _
  rw [hsB] at HS
  generalize C1 (w.alloc (.cells #[.string ⟨#[]⟩, .slice none 0 0] 28)) (.slice p bs.length cap) = W0 at *
  have H0 := hid HS.out.1
  have HB := hid HS.out.2.2
  clear HS hsB
  refine (spec_groupName Hb.out _ H0.out.1 (by omega)).mono ?_
  rintro e w1 ⟨s, rfl, hs, hc, hg⟩
  have H1 := hid (H0.out.step hc hg)
  clear hc hg H0
  go_wp2_with fail
  go_at_call 23
  refine (spec_members Hb.out 8 8 rfl _ H1.out.1 (by omega) (by omega)).mono ?_
  rintro e w2 ⟨u, ms, rfl, hm, ho, hc, hg⟩
  obtain ⟨up, uc, rfl⟩ := own_shape ho
  have H2 := hid (And.intro (H1.out.step hc hg) (RdB.own ho))
  have hs1 := H1.out.size
  clear hc hg H1 ho
  have X2 : Ext w2 (w2.alloc (.cells #[.string s, .slice up ms.length uc] 28)) := (by repeat' (first | exact Ext.refl _ | assumption | refine Ext.alloc ?_ _ | refine Ext.ext ?_ _ | refine Ext.drew ?_ | refine Ext.drewN ?_ _))
  have hF := hid (show (w2.alloc (.cells #[.string s, .slice up ms.length uc] 28)).heap[w2.heap.size]? = some (.cells #[.string s, .slice up ms.length uc] 28 (0, 0)) from heap_at _ rfl)
  have H3 := hid (And.intro (H2.out.1.ext X2) (H2.out.2.ext X2))
  have hs2 := H2.out.1.size
  clear X2 H2
  go_wp2_with fail
  generalize (w2.alloc (.cells #[.string s, .slice up ms.length uc] 28)) = w3 at *
  generalize w2.heap.size = FX at *
  go_at_call 20
  refine (spec_one Hb.out 16 _ H3.out.1.1 (by omega) (by omega)).mono ?_
  rintro e w4 ⟨y, rfl, hc, hg⟩
  have hBl := HB.out
  have H4 := hid (And.intro (H3.out.1.step hc hg) (H3.out.2.step (by omega) hg))
  have hF4 := hid (blk_step H3.out.1 hF.out hs2 hg)
  clear hc hg H3 hF
  cases y
  · obtain ⟨⟨c0, c1⟩, -, -⟩ := box2 hF4.out
    have hR4 := hid (blk_grow hR H4.out.1.2.1 (fun e => by have := Option.some.inj e; omega))
    obtain ⟨⟨r0, r1⟩, ⟨q0, q1⟩, -⟩ := box2 hR4.out
    have XN := hid (cur_fin XW.out H4.out.1 (by omega))
    have HR := hid (rdb_far2 (g := w.heap.size) H4.out.2 (by omega) (.string s) (.slice up ms.length uc))
    clear H4
    go_wp2
    refine bodyPost_ret (results_cell_row rfl _ _ w.heap.size _ _ (0, 0) _ rfl (box2_set (t := 28) hR4.out _ _) Tryz.underlying28 rfl (by kernel_rfl)) rfl ⟨s, _, ms, rfl, ⟨hs, hm⟩, HR.out, ?_⟩
    exact (XN.out.setCell (Nat.le_refl _) _).setCell (Nat.le_refl _) _
  · have X5 : Ext w4 (((((w4.alloc (.cells #[.int .i64 0] 3)).alloc (.cells #[.int .i64 8] 3)).alloc (.cells #[.int .i64 2, .int .i64 1] 3)).alloc (.cells #[.int .i64 1, .int .i64 1] 3)).alloc (.cells #[.slice (some ⟨w4.heap.size, 0, none⟩) 1 1, .slice (some ⟨w4.heap.size + 1, 0, none⟩) 1 1, .slice (some ⟨w4.heap.size + 1 + 1, 0, none⟩) 2 2, .slice (some ⟨w4.heap.size + 1 + 1 + 1, 0, none⟩) 2 2] 24)) := (by repeat' (first | exact Ext.refl _ | assumption | refine Ext.alloc ?_ _ | refine Ext.ext ?_ _ | refine Ext.drew ?_ | refine Ext.drewN ?_ _))
    have hq : Rd (((((w4.alloc (.cells #[.int .i64 0] 3)).alloc (.cells #[.int .i64 8] 3)).alloc (.cells #[.int .i64 2, .int .i64 1] 3)).alloc (.cells #[.int .i64 1, .int .i64 1] 3)).alloc (.cells #[.slice (some ⟨w4.heap.size, 0, none⟩) 1 1, .slice (some ⟨w4.heap.size + 1, 0, none⟩) 1 1, .slice (some ⟨w4.heap.size + 1 + 1, 0, none⟩) 2 2, .slice (some ⟨w4.heap.size + 1 + 1 + 1, 0, none⟩) 2 2] 24)) 1 (.slice (some ⟨w4.heap.size + 1 + 1 + 1 + 1, 0, none⟩) 4 4) 4 [.slice (some ⟨w4.heap.size, 0, none⟩) 1 1, .slice (some ⟨w4.heap.size + 1, 0, none⟩) 1 1, .slice (some ⟨w4.heap.size + 1 + 1, 0, none⟩) 2 2, .slice (some ⟨w4.heap.size + 1 + 1 + 1, 0, none⟩) 2 2] := by
      have := rd_litC ((((w4.alloc (.cells #[.int .i64 0] 3)).alloc (.cells #[.int .i64 8] 3)).alloc (.cells #[.int .i64 2, .int .i64 1] 3)).alloc (.cells #[.int .i64 1, .int .i64 1] 3)) 24 #[.slice (some ⟨w4.heap.size, 0, none⟩) 1 1, .slice (some ⟨w4.heap.size + 1, 0, none⟩) 1 1, .slice (some ⟨w4.heap.size + 1 + 1, 0, none⟩) 2 2, .slice (some ⟨w4.heap.size + 1 + 1 + 1, 0, none⟩) 2 2]
      simpa using this
    have hall : ∀ x ∈ [Value.slice (some ⟨w4.heap.size, 0, none⟩) 1 1, .slice (some ⟨w4.heap.size + 1, 0, none⟩) 1 1, .slice (some ⟨w4.heap.size + 1 + 1, 0, none⟩) 2 2, .slice (some ⟨w4.heap.size + 1 + 1 + 1, 0, none⟩) 2 2], ∃ xs : List Int, xs.length ≤ 2 ∧ RdB (((((w4.alloc (.cells #[.int .i64 0] 3)).alloc (.cells #[.int .i64 8] 3)).alloc (.cells #[.int .i64 2, .int .i64 1] 3)).alloc (.cells #[.int .i64 1, .int .i64 1] 3)).alloc (.cells #[.slice (some ⟨w4.heap.size, 0, none⟩) 1 1, .slice (some ⟨w4.heap.size + 1, 0, none⟩) 1 1, .slice (some ⟨w4.heap.size + 1 + 1, 0, none⟩) 2 2, .slice (some ⟨w4.heap.size + 1 + 1 + 1, 0, none⟩) 2 2] 24)) w4.heap.size x xs.length (vInts xs) := by
      have l0 := lit_of (w := w4) (t := 3) w4.heap.size #[.int .i64 0] [0] rfl rfl (((((w4.alloc (.cells #[.int .i64 0] 3)).alloc (.cells #[.int .i64 8] 3)).alloc (.cells #[.int .i64 2, .int .i64 1] 3)).alloc (.cells #[.int .i64 1, .int .i64 1] 3)).alloc (.cells #[.slice (some ⟨w4.heap.size, 0, none⟩) 1 1, .slice (some ⟨w4.heap.size + 1, 0, none⟩) 1 1, .slice (some ⟨w4.heap.size + 1 + 1, 0, none⟩) 2 2, .slice (some ⟨w4.heap.size + 1 + 1 + 1, 0, none⟩) 2 2] 24)) (by repeat' (first | exact Ext.refl _ | assumption | refine Ext.alloc ?_ _ | refine Ext.ext ?_ _ | refine Ext.drew ?_ | refine Ext.drewN ?_ _))
      have l1 := lit_of (w := w4.alloc (.cells #[.int .i64 0] 3)) (t := 3) (w4.heap.size + 1) #[.int .i64 8] [8] rfl (by simp) (((((w4.alloc (.cells #[.int .i64 0] 3)).alloc (.cells #[.int .i64 8] 3)).alloc (.cells #[.int .i64 2, .int .i64 1] 3)).alloc (.cells #[.int .i64 1, .int .i64 1] 3)).alloc (.cells #[.slice (some ⟨w4.heap.size, 0, none⟩) 1 1, .slice (some ⟨w4.heap.size + 1, 0, none⟩) 1 1, .slice (some ⟨w4.heap.size + 1 + 1, 0, none⟩) 2 2, .slice (some ⟨w4.heap.size + 1 + 1 + 1, 0, none⟩) 2 2] 24)) (by repeat' (first | exact Ext.refl _ | assumption | refine Ext.alloc ?_ _ | refine Ext.ext ?_ _ | refine Ext.drew ?_ | refine Ext.drewN ?_ _))
      have l2 := lit_of (w := (w4.alloc (.cells #[.int .i64 0] 3)).alloc (.cells #[.int .i64 8] 3)) (t := 3) (w4.heap.size + 1 + 1) #[.int .i64 2, .int .i64 1] [2, 1] rfl (by simp) (((((w4.alloc (.cells #[.int .i64 0] 3)).alloc (.cells #[.int .i64 8] 3)).alloc (.cells #[.int .i64 2, .int .i64 1] 3)).alloc (.cells #[.int .i64 1, .int .i64 1] 3)).alloc (.cells #[.slice (some ⟨w4.heap.size, 0, none⟩) 1 1, .slice (some ⟨w4.heap.size + 1, 0, none⟩) 1 1, .slice (some ⟨w4.heap.size + 1 + 1, 0, none⟩) 2 2, .slice (some ⟨w4.heap.size + 1 + 1 + 1, 0, none⟩) 2 2] 24)) (by repeat' (first | exact Ext.refl _ | assumption | refine Ext.alloc ?_ _ | refine Ext.ext ?_ _ | refine Ext.drew ?_ | refine Ext.drewN ?_ _))
      have l3 := lit_of (w := ((w4.alloc (.cells #[.int .i64 0] 3)).alloc (.cells #[.int .i64 8] 3)).alloc (.cells #[.int .i64 2, .int .i64 1] 3)) (t := 3) (w4.heap.size + 1 + 1 + 1) #[.int .i64 1, .int .i64 1] [1, 1] rfl (by simp) (((((w4.alloc (.cells #[.int .i64 0] 3)).alloc (.cells #[.int .i64 8] 3)).alloc (.cells #[.int .i64 2, .int .i64 1] 3)).alloc (.cells #[.int .i64 1, .int .i64 1] 3)).alloc (.cells #[.slice (some ⟨w4.heap.size, 0, none⟩) 1 1, .slice (some ⟨w4.heap.size + 1, 0, none⟩) 1 1, .slice (some ⟨w4.heap.size + 1 + 1, 0, none⟩) 2 2, .slice (some ⟨w4.heap.size + 1 + 1 + 1, 0, none⟩) 2 2] 24)) (by repeat' (first | exact Ext.refl _ | assumption | refine Ext.alloc ?_ _ | refine Ext.ext ?_ _ | refine Ext.drew ?_ | refine Ext.drewN ?_ _))
      intro x hx
      simp only [List.mem_cons, List.not_mem_nil, or_false] at hx
      rcases hx with rfl | rfl | rfl | rfl
      · exact ⟨[0], by decide, l0, fun b o m c e _ => by cases e; omega⟩
      · exact ⟨[8], by decide, l1, fun b o m c e _ => by cases e; omega⟩
      · exact ⟨[2, 1], by decide, l2, fun b o m c e _ => by cases e; omega⟩
      · exact ⟨[1, 1], by decide, l3, fun b o m c e _ => by cases e; omega⟩
    have H5 := hid (H4.out.1.ext X5)
    have hF5 := hid (blk_ext hF4.out X5)
    have h45 := X5.size
    have hFl : FX < w4.heap.size := (Array.getElem?_eq_some_iff.1 hF4.out).1
    have h04 := H4.out.1.size
    clear H4 hF4 X5
    go_wp2_with fail
    generalize (((((w4.alloc (.cells #[.int .i64 0] 3)).alloc (.cells #[.int .i64 8] 3)).alloc (.cells #[.int .i64 2, .int .i64 1] 3)).alloc (.cells #[.int .i64 1, .int .i64 1] 3)).alloc (.cells #[.slice (some ⟨w4.heap.size, 0, none⟩) 1 1, .slice (some ⟨w4.heap.size + 1, 0, none⟩) 1 1, .slice (some ⟨w4.heap.size + 1 + 1, 0, none⟩) 2 2, .slice (some ⟨w4.heap.size + 1 + 1 + 1, 0, none⟩) 2 2] 24)) = w5 at *
    go_at_call 38
    refine (spec_among2 Hb.out [.slice (some ⟨w4.heap.size, 0, none⟩) 1 1, .slice (some ⟨w4.heap.size + 1, 0, none⟩) 1 1, .slice (some ⟨w4.heap.size + 1 + 1, 0, none⟩) 2 2, .slice (some ⟨w4.heap.size + 1 + 1 + 1, 0, none⟩) 2 2] _ _ H5.out.1 hq (fun b o m c e _ => by cases e; omega) (by omega) (by simp) (by simp)).mono ?_
    rintro e w6 ⟨x, rfl, hx, hc, hg⟩
    obtain ⟨xs, hxl, hr⟩ := hall x hx
    have H6 := hid (And.intro (H5.out.step hc hg) (hr.step (by omega) hg))
    have hF6 := hid (blk_step H5.out hF5.out hs2 hg)
    clear hq hall hc hg H5 hF5 hr hx
    obtain ⟨xp, xc, rfl⟩ := rdbForm H6.out.2
    obtain ⟨⟨c0, c1⟩, ⟨f0, f1⟩, -⟩ := box2 hF6.out
    have hF7 := hid (show (w6.setCell ⟨FX, 1, none⟩ (.slice xp xs.length xc)).heap[FX]? = some (.cells #[.string s, .slice xp xs.length xc] 28 (0, 0)) by simpa using heap_setCell_same w6 FX 1 _ _ (.slice xp xs.length xc) hF6.out)
    have H7 := hid (And.intro (H6.out.1.set (p := ⟨FX, 1, none⟩) hs2 (.slice xp xs.length xc)) (H6.out.2.away (grownBy_set w6 ⟨FX, 1, none⟩ (.slice xp xs.length xc)) (fun b o m c e hm e2 => by have := H6.out.2.2 b o m c e hm; have e3 : FX = b := Option.some.inj e2; omega)))
    clear H6 hF6
    go_upto_region 5 with fail
    generalize (w6.setCell ⟨FX, 1, none⟩ (.slice xp xs.length xc)) = w7 at *
    clear c0 c1 f0 f1
    obtain ⟨⟨c0, c1⟩, -, -⟩ := box2 hF7.out
    have hR7 := hid (blk_grow hR H7.out.1.2.1 (fun e => by have := Option.some.inj e; omega))
    obtain ⟨⟨r0, r1⟩, ⟨q0, q1⟩, -⟩ := box2 hR7.out
    have XN := hid (cur_fin XW.out H7.out.1 (by omega))
    have HR := hid (rdb_far2 (g := w.heap.size) H7.out.2 (by omega) (.string s) (.slice xp xs.length xc))
    clear H7
    go_wp2
    refine bodyPost_ret (results_cell_row rfl _ _ w.heap.size _ _ (0, 0) _ rfl (box2_set (t := 28) hR7.out _ _) Tryz.underlying28 rfl (by kernel_rfl)) rfl ⟨s, _, xs, rfl, ⟨hs, by omega⟩, HR.out, ?_⟩
    exact (XN.out.setCell (Nat.le_refl _) _).setCell (Nat.le_refl _) _
end Go.Proofs.YtlaochpkelbchaaGreatDoor
