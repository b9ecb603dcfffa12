/- What the laws of codes and of recovery draw. -/
import Derived.Test.YthnfdgbmmiddlaaDoorWCurP
import Derived.Test.YthnfdgbmmiddlaaDoorWCurQ
import Derived.Test.YthnfdgbmmiddlaaDoorWP2
namespace Go.Proofs.YthnfdgbmmiddlaaDoor
open Go.RowKit
set_option maxHeartbeats 2000000
set_option maxRecDepth 100000
/-- The cursor's own block. -/
def C1 (w : World) (v : Value) : World := w.alloc (.cells #[v, .int .i64 0, .int .u64 0] 49)
theorem cur_start {w : World} {v : Value} {bs : List Int} (h : Rd w 1 v bs.length (vBytes bs)) : Dr (C1 w v) (C1 w v) w.heap.size w.heap.size v bs 0 ∧ Ext w (C1 w v) ∧ (C1 w v).heap.size = w.heap.size + 1 := by
  have hx : Ext w (C1 w v) := by unfold C1; exact (by repeat' (first | exact Ext.refl _ | assumption | refine Ext.alloc ?_ _ | refine Ext.ext ?_ _ | refine Ext.drew ?_ | refine Ext.drewN ?_ _))
  exact ⟨Dr.start ⟨⟨h.ext hx, fun b o m c e hm => rd_lt h (by decide) e hm⟩, 0, 0, by omega, by omega, World.ownsRow_lit w #[v, .int .i64 0, .int .u64 0] 1 (Nat.le_refl _) (by decide) rfl⟩, hx, by unfold C1; simp⟩
theorem cur_fin {w W W' : World} {lo B A : Nat} {v : Value} {bs : List Int} (hx : Ext w W) (h : Dr W W' lo B v bs A) (hB : w.heap.size ≤ B) : Ext w W' := hx.grown h.2.1 (fun j e => by have := Option.some.inj e; omega)
theorem spec_DrawItemCode {bs : List Int} (hb : Bts bs) {v : Value} (w : World) (h : Rd w 1 v bs.length (vBytes bs)) :
    Calls Tryd.prog 6 #[v] w fun e w' => ∃ s : ByteArray, e = .returned (.string s) ∧ s.size ≤ 9 ∧ Ext w w' := by
  have HS := hid (cur_start h)
  have Hb := hid hb
  obtain ⟨-, p, cap, rfl, -⟩ := h
  clear hb
  go_enter Tryd.func6, Tryd.ntmps6
  go_wp2_with fail
  go_at_call 32
  change Calls _ _ _ (C1 w (.slice p bs.length cap)) _
  generalize C1 w (.slice p bs.length cap) = W0 at *
  have H0 := hid HS.out.1
  refine (spec_item Hb.out _ H0.out.1 (by omega)).mono ?_
  rintro e w1 ⟨s, rfl, hs, hc, hg⟩
  have H1 := hid (H0.out.step hc hg)
  clear hc hg H0
  go_wp2
  go_ret
  exact ⟨s, rfl, hs, cur_fin HS.out.2.1 H1.out (Nat.le_refl _)⟩
theorem spec_DrawParityText {bs : List Int} (hb : Bts bs) {v : Value} (w : World) (h : Rd w 1 v bs.length (vBytes bs)) :
    Calls Tryd.prog 13 #[v] w fun e w' => ∃ (r : Value) (P : List Int), e = .returned r ∧ P.length ≤ 9 ∧ Rd w' 1 r P.length (vInts P) ∧ Ext w w' := by
  have HS := hid (cur_start h)
  have Hb := hid hb
  obtain ⟨-, p, cap, rfl, -⟩ := h
  clear hb
  go_enter Tryd.func13, Tryd.ntmps13
  go_wp2_with fail
  go_at_call 47
  change Calls _ _ _ (C1 w (.slice p bs.length cap)) _
  generalize C1 w (.slice p bs.length cap) = W0 at *
  have H0 := hid HS.out.1
  refine (spec_block Hb.out _ H0.out.1 (by omega)).mono ?_
  rintro e w1 ⟨u, L, rfl, hL, ho, hc, hg⟩
  have H1 := hid (H0.out.step hc hg)
  obtain ⟨up, uc, rfl⟩ := own_shape ho
  have HO := hid (Rd.own ho)
  clear hc hg H0 ho
  go_wp2_with fail
  go_at_call 46
  refine (spec_parity Hb.out L _ _ H1.out.1 HO.out hL (by omega)).mono ?_
  rintro e w2 ⟨r, P, rfl, hP, ho, hc, hg⟩
  have H2 := hid (And.intro (H1.out.step hc hg) (Rd.own ho))
  obtain ⟨rp, rc, rfl⟩ := own_shape ho
  clear hc hg H1 ho HO
  go_wp2
  go_ret
  exact ⟨_, P, rfl, hP, H2.out.2, cur_fin HS.out.2.1 H2.out.1 (Nat.le_refl _)⟩
theorem spec_DrawChangeItem {bs : List Int} (hb : Bts bs) {v : Value} (w : World) (h : Rd w 1 v bs.length (vBytes bs)) :
    Calls Tryd.prog 19 #[v] w fun e w' => ∃ (r : Value) (P : List Int) (a b : ByteArray), e = .returned (.tuple #[r, .string a, .string b]) ∧ (P.length ≤ 9 ∧ a.size ≤ 9 ∧ b.size ≤ 9) ∧ Rd w' 1 r P.length (vInts P) ∧ Ext w w' := by
  have HS := hid (cur_start h)
  have Hb := hid hb
  obtain ⟨-, p, cap, rfl, -⟩ := h
  clear hb
  go_enter Tryd.func19, Tryd.ntmps19
  go_wp2_with fail
  go_at_call 47
  change Calls _ _ _ (C1 w (.slice p bs.length cap)) _
  generalize C1 w (.slice p bs.length cap) = W0 at *
  have H0 := hid HS.out.1
  refine (spec_block Hb.out _ H0.out.1 (by omega)).mono ?_
  rintro e w1 ⟨u, L, rfl, hL, ho, hc, hg⟩
  have H1 := hid (H0.out.step hc hg)
  obtain ⟨up, uc, rfl⟩ := own_shape ho
  have HO := hid (Rd.own ho)
  clear hc hg H0 ho
  go_wp2_with fail
  go_at_call 46
  refine (spec_parity Hb.out L _ _ H1.out.1 HO.out hL (by omega)).mono ?_
  rintro e w2 ⟨r, P, rfl, hP, ho, hc, hg⟩
  have H2 := hid (And.intro (H1.out.step hc hg) (RdB.own ho))
  obtain ⟨rp, rc, rfl⟩ := own_shape ho
  have hlow := hid (And.intro H1.out.size HS.out.2.2)
  clear hc hg H1 ho HO
  go_wp2_with fail
  go_at_call 32
  refine (spec_item Hb.out _ H2.out.1.1 (by omega)).mono ?_
  rintro e w3 ⟨a, rfl, ha, hc, hg⟩
  have H3 := hid (And.intro (H2.out.1.step hc hg) (H2.out.2.step (by have := hlow.out; omega) hg))
  clear hc hg H2
  go_wp2_with fail
  go_at_call 32
  refine (spec_item Hb.out _ H3.out.1.1 (by omega)).mono ?_
  rintro e w4 ⟨b, rfl, hb', hc, hg⟩
  have H4 := hid (And.intro (H3.out.1.step hc hg) (H3.out.2.step (by have := hlow.out; omega) hg))
  clear hc hg H3
  go_wp2
  go_returns
  exact ⟨_, P, a, b, rfl, ⟨hP, ha, hb'⟩, H4.out.2.1, cur_fin HS.out.2.1 H4.out.1 (Nat.le_refl _)⟩
theorem spec_DrawParseParity {bs : List Int} (hb : Bts bs) {v : Value} (w : World) (h : Rd w 1 v bs.length (vBytes bs)) :
    Calls Tryd.prog 17 #[v] w fun e w' => ∃ s : ByteArray, e = .returned (.string s) ∧ s.size ≤ 9 ∧ Ext w w' := by
  have HS := hid (cur_start h)
  have Hb := hid hb
  obtain ⟨-, p, cap, rfl, -⟩ := h
  clear hb
  go_enter Tryd.func17, Tryd.ntmps17
  go_wp2_with fail
  go_at_call 40
  change Calls _ _ _ (C1 w (.slice p bs.length cap)) _
  generalize C1 w (.slice p bs.length cap) = W0 at *
  have H0 := hid HS.out.1
  refine (spec_letters Hb.out 8 8 rfl _ H0.out.1 (by omega) (by omega)).mono ?_
  rintro e w1 ⟨a, rfl, ha, hc, hg⟩
  have H1 := hid (H0.out.step hc hg)
  clear hc hg H0
  go_wp2_with fail
  go_at_call 40
  refine (spec_letters Hb.out 5 5 rfl _ H1.out.1 (by omega) (by omega)).mono ?_
  rintro e w2 ⟨b, rfl, hb', hc, hg⟩
  have H2 := hid (H1.out.step hc hg)
  clear hc hg H1
  have hall : allS [a, b] = true := by
    refine allTo fun i hi => ?_
    match i, hi with
    | 0, _ => exact ha
    | 1, _ => exact itm_more hb' (by omega)
  have hr := rd_litC w2 9 #[.string a, .string b]
  have hp := hid (fun w h => spec_l24Parity [a, b] (.slice (some ⟨w2.heap.size, 0, none⟩) 2 2) w h (by simp) hall)
  have hP : isPar (parL [a, b]) = true := by
    have := parL_par [a, b] 2 (Nat.le_refl _)
    exact this
  have hX : Ext w2 (w2.alloc (.cells #[.string a, .string b] 9)) := (by repeat' (first | exact Ext.refl _ | assumption | refine Ext.alloc ?_ _ | refine Ext.ext ?_ _ | refine Ext.drew ?_ | refine Ext.drewN ?_ _))
  have HR := hid (And.intro hr hX)
  clear hr hX hall ha hb'
  go_wp2_with fail
  go_at_call 50
  refine (hp.out _ HR.out.1).mono ?_
  rintro e w3 ⟨r, rfl, ho, hx⟩
  obtain ⟨rp, rc, rfl⟩ := own_shape ho
  have H3 := hid (And.intro (H2.out.ext (HR.out.2.trans hx)) (Rd.own ho))
  have ht := hid (fun w h => spec_l24Text (parL [a, b]) (.slice rp (parL [a, b]).length rc) w h hP)
  have hz : (ptext (parL [a, b])).size = 8 := by rw [ptext_size, isPar_len hP]
  clear ho hx H2 HR hp hP
  generalize parL [a, b] = Q at *
  go_wp2_with fail
  go_at_call 49
  refine (ht.out _ H3.out.2).mono ?_
  rintro e w4 ⟨rfl, hx⟩
  have H4 := hid (H3.out.1.ext hx)
  have Hz := hid hz
  clear hx H3 ht hz
  generalize ptext Q = t at *
  go_wp2_with fail
  go_at_call 41
  refine (spec_one Hb.out 3 _ H4.out.1 (by omega) (by omega)).mono ?_
  rintro e w5 ⟨y, rfl, hc, hg⟩
  have H5 := hid (H4.out.step hc hg)
  clear hc hg H4
  cases y
  · go_wp2
    go_ret
    exact ⟨t, rfl, by have := Hz.out; omega, cur_fin HS.out.2.1 H5.out (Nat.le_refl _)⟩
  · go_wp2_with fail
    go_at_call 51
    refine (spec_spoilt Hb.out t _ _ H5.out.1 (by have := Hz.out; omega) (by decide) (by omega)).mono ?_
    rintro e w6 ⟨s, rfl, hs, hc, hg⟩
    have H6 := hid (H5.out.step hc hg)
    clear hc hg H5
    go_wp2
    go_ret
    exact ⟨s, rfl, by have := Hz.out; omega, cur_fin HS.out.2.1 H6.out (Nat.le_refl _)⟩
theorem upto_ints (a : Option Addr) (n k cap : Nat) (h : k ≤ cap) : ∀ w, (Instr.slice 25 (.slice a n cap) none (some (.int .i64 k)) none).run Tryd.prog w = .ok (.slice a k cap) w := fun w => by
  rw [run_slice_h (P := Tryd.prog) w 25 a n cap (by kernel_rfl) .i64 k (by omega) (by omega)]
  have e : (Go.sizeOf (Tryd.prog.elem 25)).run Tryd.prog w = .ok 1 w := by kernel_rfl
  rw [e]
  show Result.ok _ _ = _
  congr 1
  simp only [sliced, Int.toNat_natCast, Nat.sub_zero, Nat.zero_mul]
  cases a with
  | none => simp
  | some a => simp [Addr.add]
theorem upto_intsAt (a : Option Addr) (n k cap : Nat) (h : k ≤ cap) : ∀ w, (Instr.sliceAt 25 (.slice a n cap) none (some (.int .i64 k)) none).run Tryd.prog w = .ok (.slice a k cap) w := fun w => by
  rw [run_sliceAt_slice (P := Tryd.prog) w 25 _ _ _ _ (by kernel_rfl)]
  exact upto_ints a n k cap h w
theorem own_cut {w : World} {base e n g cap i : Nat} {cs : List Value} (h : w.ownsRow base e 1 (.slice (some ⟨g, 0, none⟩) n cap) n cs) (hi : i ≤ n) : w.ownsRow base e 1 (.slice (some ⟨g, 0, none⟩) i cap) i (cs.take i) := by
  obtain ⟨h1, ⟨h2, -⟩ | ⟨g', c, cur, h2, hB, hh, hn', hc, hs, ht⟩⟩ := h
  · cases h2
  · cases h2
    refine ⟨by simp [h1]; omega, .inr ⟨g, cap, cur, rfl, hB, hh, by omega, hc, hs, ?_⟩⟩
    rw [← ht, List.take_take]; congr 1; omega
theorem own_cap {w : World} {base e n g cap : Nat} {cs : List Value} (h : w.ownsRow base e 1 (.slice (some ⟨g, 0, none⟩) n cap) n cs) : n ≤ cap := by
  obtain ⟨h1, ⟨h2, -⟩ | ⟨g', c, cur, h2, hB, hh, hn', hc, hs, ht⟩⟩ := h
  · cases h2
  · cases h2; exact hn'
theorem take9 {P : List Int} : (P.take 7).length ≤ 9 := by rw [List.length_take]; omega
theorem rd_take7 {w : World} {u : Value} {P : List Int} (h8 : P.length = 8) (h : Rd w 1 u 7 ((vInts P).take 7)) : Rd w 1 u (P.take 7).length (vInts (P.take 7)) := by
  rw [show (P.take 7).length = 7 by rw [List.length_take]; omega, show vInts (P.take 7) = (vInts P).take 7 by simp [vInts, List.map_take]]
  exact h
theorem spec_DrawItemOf {bs : List Int} (hb : Bts bs) {v : Value} (w : World) (h : Rd w 1 v bs.length (vBytes bs)) :
    Calls Tryd.prog 11 #[v] w fun e w' => ∃ (r : Value) (P : List Int), e = .returned r ∧ P.length ≤ 9 ∧ Rd w' 1 r P.length (vInts P) ∧ Ext w w' := by
  have HS := hid (cur_start h)
  have Hb := hid hb
  obtain ⟨-, p, cap, rfl, -⟩ := h
  clear hb
  go_enter Tryd.func11, Tryd.ntmps11
  go_wp2_with fail
  go_at_call 40
  change Calls _ _ _ (C1 w (.slice p bs.length cap)) _
  generalize C1 w (.slice p bs.length cap) = W0 at *
  have H0 := hid HS.out.1
  refine (spec_letters Hb.out 8 8 rfl _ H0.out.1 (by omega) (by omega)).mono ?_
  rintro e w1 ⟨a, rfl, ha, hc, hg⟩
  have H1 := hid (H0.out.step hc hg)
  clear hc hg H0
  go_wp2_with fail
  go_at_call 39
  refine (spec_l24Code a _ ha).mono ?_
  rintro e w2 ⟨r, rfl, ho, hx⟩
  obtain ⟨rg, rc, hf, -, -⟩ := ho.form (by rw [lc_len]; decide)
  rw [lc_len] at hf ho
  subst hf
  have H2 : Hid (PyD W0 w2 w.heap.size w.heap.size (.slice p bs.length cap) bs (0 + 8 + 1) (.slice (some ⟨rg, 0, none⟩) 8 rc) 8 (lc a)) := ⟨H1.out.ext hx, own_mono ho H1.out.size, lc_len a⟩
  clear ho hx H1 ha
  generalize lc a = P at *
  go_wp2_with fail
  go_at_call 41
  refine (spec_one Hb.out 3 _ H2.out.1.1 (by omega) (by omega)).mono ?_
  rintro e wo ⟨y, rfl, hc, hg⟩
  have HO := hid (H2.out.step hc hg)
  clear hc hg H2
  cases y
  · skip
    go_wp2_with fail
    go_at_call 41
    refine (spec_one Hb.out 16 _ HO.out.1.1 (by omega) (by omega)).mono ?_
    rintro e wl ⟨z, rfl, hc, hg⟩
    have HL := hid (HO.out.step hc hg)
    clear hc hg
    cases z
    · go_wp2
      go_ret
      exact ⟨_, _, rfl, len8 HL.out.2.2, Rd.own (HL.out.fin (Nat.le_refl _)).1, cur_fin HS.out.2.1 HL.out.1 (Nat.le_refl _)⟩
    · skip
      have hcap := own_cap HL.out.2.1
      have hs1 := upto_ints (some ⟨rg, 0, none⟩) 8 7 rc (by omega)
      have hs2 := upto_intsAt (some ⟨rg, 0, none⟩) 8 7 rc (by omega)
      rw [show ((7 : Nat) : Int) = 7 from rfl] at hs1 hs2
      have HT := hid (Rd.own (own_cut (i := 7) HL.out.2.1 (by omega)))
      go_wp2
      go_ret
      exact ⟨_, _, rfl, take9, rd_take7 HL.out.2.2 HT.out, cur_fin HS.out.2.1 HL.out.1 (Nat.le_refl _)⟩
  · go_wp2_with fail
    go_at_call 43
    refine (spec_pick Hb.out 8 _ HO.out.1.1 (by omega) (by omega)).mono ?_
    rintro e wi ⟨i, rfl, hi0, hi1, hc, hg⟩
    have HI := hid (HO.out.step hc hg)
    clear hc hg HO
    obtain ⟨j, rfl⟩ : ∃ k : Nat, i = k := ⟨i.toNat, by omega⟩
    go_wp2_with fail
    go_at_call 42
    refine (spec_amongLit Hb.out _ _ _ wi _ HI.out.1.1 (by repeat' (first | exact Ext.refl _ | assumption | refine Ext.alloc ?_ _ | refine Ext.ext ?_ _ | refine Ext.drew ?_ | refine Ext.drewN ?_ _)) (by simp) (by rfl) (by omega) (by omega) (by simp)).mono ?_
    rintro e wx ⟨x, rfl, hc, hg⟩
    have HX := hid (HI.out.step hc hg)
    clear hc hg HI
    obtain ⟨y0, y1⟩ := HX.out.cell j (by omega)
    have H9 := hid (HX.out.at j x)
    go_upto_region 5 with fail
    generalize wx.setCell ⟨rg, j, none⟩ (.int .i64 x) = V at H9 ⊢
    clear y0 y1 HX
    go_wp2_with fail
    go_at_call 41
    refine (spec_one Hb.out 16 _ H9.out.1.1 (by omega) (by omega)).mono ?_
    rintro e wl ⟨z, rfl, hc, hg⟩
    have HL := hid (H9.out.step hc hg)
    clear hc hg
    cases z
    · go_wp2
      go_ret
      exact ⟨_, _, rfl, len8 HL.out.2.2, Rd.own (HL.out.fin (Nat.le_refl _)).1, cur_fin HS.out.2.1 HL.out.1 (Nat.le_refl _)⟩
    · skip
      have hcap := own_cap HL.out.2.1
      have hs1 := upto_ints (some ⟨rg, 0, none⟩) 8 7 rc (by omega)
      have hs2 := upto_intsAt (some ⟨rg, 0, none⟩) 8 7 rc (by omega)
      rw [show ((7 : Nat) : Int) = 7 from rfl] at hs1 hs2
      have HT := hid (Rd.own (own_cut (i := 7) HL.out.2.1 (by omega)))
      go_wp2
      go_ret
      exact ⟨_, _, rfl, take9, rd_take7 HL.out.2.2 HT.out, cur_fin HS.out.2.1 HL.out.1 (Nat.le_refl _)⟩
end Go.Proofs.YthnfdgbmmiddlaaDoor
