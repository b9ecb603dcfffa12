/- What the law of recovery draws. -/
import Derived.Test.YthnfdgbmmiddlaaDoorWCurR
import Derived.Test.YthnfdgbmmiddlaaDoorWBase
import Derived.Deep.DeepCutAuto
namespace Go.Proofs.YthnfdgbmmiddlaaDoor
open Go.RowKit
set_option maxHeartbeats 2000000
set_option maxRecDepth 100000
theorem spec_DrawParityOf {bs : List Int} (hb : Bts bs) {v : Value} (w : World) (h : Rd w 1 v bs.length (vBytes bs)) :
    Calls Tryd.prog 22 #[v] w fun e w' => ∃ (r : Value) (L : List ByteArray), e = .returned r ∧ Sml L ∧ Rd w' 1 r L.length (vStrs L) ∧ Ext w w' := by
  have HS := hid (cur_start h)
  have Hb := hid hb
  obtain ⟨-, p, cap, rfl, -⟩ := h
  clear hb
  go_enter Tryd.func22, Tryd.ntmps22
  go_wp2_with fail
  go_at_call 47
  change Calls _ _ _ (C1 w (.slice p bs.length cap)) _
  generalize C1 w (.slice p bs.length cap) = W0 at *
  have H0 := hid HS.out.1
  refine (spec_block Hb.out _ H0.out.1 (by omega)).mono ?_
  rintro e w1 ⟨u, L, rfl, hL, ho, hc, hg⟩
  have H1 := hid (And.intro (H0.out.step hc hg) (Rd.own ho))
  obtain ⟨up, uc, rfl⟩ := own_shape ho
  clear hc hg H0 ho
  go_wp2
  go_ret
  exact ⟨_, L, rfl, hL, H1.out.2, cur_fin HS.out.2.1 H1.out.1 (Nat.le_refl _)⟩
theorem spec_DrawFitsParity {bs : List Int} (hb : Bts bs) {v : Value} (w : World) (h : Rd w 1 v bs.length (vBytes bs)) :
    Calls Tryd.prog 64 #[v] w fun e w' => ∃ (r q : Value) (L : List ByteArray) (P : List Int), e = .returned (.tuple #[r, q]) ∧ (Sml L ∧ P.length ≤ 9) ∧ Rd w' 1 r L.length (vStrs L) ∧ Rd w' 1 q P.length (vInts P) ∧ Ext w w' := by
  have HS := hid (cur_start h)
  have Hb := hid hb
  obtain ⟨-, p, cap, rfl, -⟩ := h
  clear hb
  go_enter Tryd.func64, Tryd.ntmps64
  go_wp2_with fail
  go_at_call 47
  change Calls _ _ _ (C1 w (.slice p bs.length cap)) _
  generalize C1 w (.slice p bs.length cap) = W0 at *
  have H0 := hid HS.out.1
  refine (spec_block Hb.out _ H0.out.1 (by omega)).mono ?_
  rintro e w1 ⟨u, L, rfl, hL, ho, hc, hg⟩
  have H1 := hid (H0.out.step hc hg)
  obtain ⟨up, uc, rfl⟩ := own_shape ho
  have HO := hid (RdB.own ho)
  have hlow := hid HS.out.2.2
  clear hc hg H0 ho
  go_wp2_with fail
  go_at_call 46
  refine (spec_parity Hb.out L _ _ H1.out.1 HO.out.1 hL (by omega)).mono ?_
  rintro e w2 ⟨r, P, rfl, hP, ho, hc, hg⟩
  have H2 := hid (And.intro (H1.out.step hc hg) (And.intro (HO.out.step (by have := hlow.out; omega) hg) (Rd.own ho)))
  obtain ⟨rp, rc, rfl⟩ := own_shape ho
  clear hc hg H1 ho HO
  go_wp2
  go_ret2
  exact ⟨_, _, L, P, rfl, ⟨hL, hP⟩, H2.out.2.1.1, H2.out.2.2, cur_fin HS.out.2.1 H2.out.1 (Nat.le_refl _)⟩
theorem spec_DrawSuspectItems {bs : List Int} (hb : Bts bs) {v : Value} (w : World) (h : Rd w 1 v bs.length (vBytes bs)) :
    Calls Tryd.prog 30 #[v] w fun e w' => ∃ (r q : Value) (L : List ByteArray) (P : List Int), e = .returned (.tuple #[r, q]) ∧ (Sml L ∧ P.length ≤ 9) ∧ Rd w' 1 r L.length (vStrs L) ∧ Rd w' 1 q P.length (vInts P) ∧ Ext w w' := by
  have Hc := hid (fun w h => spec_DrawFitsParity hb (v := v) w h)
  have Hr := hid h
  obtain ⟨-, p, cap, rfl, -⟩ := h
  clear hb
  go_enter Tryd.func30, Tryd.ntmps30
  go_wp2_with fail
  go_at_call 64
  refine (Hc.out _ Hr.out).mono ?_
  rintro e w1 ⟨r, q, L, P, rfl, hs, h1, h2, hx⟩
  obtain ⟨-, rp, rc, rfl, -⟩ := id h1
  obtain ⟨-, qp, qc, rfl, -⟩ := id h2
  have K := hid (And.intro h1 (And.intro h2 hx))
  clear h1 h2 hx
  go_wp2
  go_ret2
  exact ⟨_, _, L, P, rfl, hs, K.out.1, K.out.2.1, K.out.2.2⟩
theorem sml_set {L : List ByteArray} (h : Sml L) (i : Nat) : Sml (L.set i ⟨#[63]⟩) := by
  refine ⟨by rw [List.length_set]; exact h.1, fun s hs => ?_⟩
  rcases List.mem_or_eq_of_mem_set hs with h1 | h1
  · exact h.2 s h1
  · rw [h1]; decide
theorem spec_DrawRecoverItem {bs : List Int} (hb : Bts bs) {v : Value} (w : World) (h : Rd w 1 v bs.length (vBytes bs)) :
    Calls Tryd.prog 28 #[v] w fun e w' => ∃ (r q : Value) (L : List ByteArray) (m : Int) (P : List Int), e = .returned (.tuple #[r, .int .i64 m, q]) ∧ (Sml L ∧ P.length ≤ 9) ∧ Rd w' 1 r L.length (vStrs L) ∧ Rd w' 1 q P.length (vInts P) ∧ Ext w w' := by
  have HS := hid (cur_start h)
  have Hb := hid hb
  obtain ⟨-, p, cap, rfl, -⟩ := h
  clear hb
  go_enter Tryd.func28, Tryd.ntmps28
  go_wp2_with fail
  go_at_call 47
  change Calls _ _ _ (C1 w (.slice p bs.length cap)) _
  generalize C1 w (.slice p bs.length cap) = W0 at *
  have H0 := hid HS.out.1
  refine (spec_block Hb.out _ H0.out.1 (by omega)).mono ?_
  rintro e w1 ⟨u, L, rfl, hL, ho, hc, hg⟩
  have H1 : Hid (BkD W0 w1 w.heap.size w.heap.size (.slice p bs.length cap) bs 100 u L) := ⟨H0.out.step (hc.more (by omega)) hg, ho, hL.2⟩
  obtain ⟨up, uc, rfl⟩ := own_shape ho
  have hlow := hid HS.out.2.2
  clear hc hg H0 ho
  go_wp2_with fail
  go_at_call 46
  refine (spec_parity Hb.out L _ _ H1.out.1.1 (Rd.own H1.out.2.1) hL (by omega)).mono ?_
  rintro e w2 ⟨r, P, rfl, hP, ho, hc, hg⟩
  have hb1 := hid (fun j e => (own_row H1.out.2.1 j e).2)
  have hb2 := hid H1.out.1.size
  have H2 := hid (And.intro (H1.out.step hc hg) (RdB.own ho))
  obtain ⟨rp, rc, rfl⟩ := own_shape ho
  clear hc hg H1 ho
  have e0 : IntKind.i64.wrap ((L.length : Int) + 1) = (L.length : Int) + 1 := IntWalk.i64_in _ (by have := hL.1; omega)
  have e1 : IntKind.i64.wrap ((L.length : Int) - 1) = (L.length : Int) - 1 := IntWalk.i64_in _ (by have := hL.1; omega)
  go_wp2_with fail
  go_at_call 43
  refine (spec_pick Hb.out ((L.length : Int) + 1) _ H2.out.1.1.1 (by omega) (by have := hL.1; omega)).mono ?_
  rintro e w3 ⟨x, rfl, hx0, hx1, hc, hg⟩
  have H3 := hid (And.intro (H2.out.1.step hc hg) (H2.out.2.step (by have := hlow.out; have := hb2.out; omega) hg))
  clear hc hg H2
  go_wp2_with fail
  go_at_call 43
  refine (spec_pick Hb.out 9 _ H3.out.1.1.1 (by omega) (by omega)).mono ?_
  rintro e w4 ⟨y, rfl, hy0, hy1, hc, hg⟩
  have H4 := hid (And.intro (H3.out.1.step hc hg) (H3.out.2.step (by have := hlow.out; have := hb2.out; omega) hg))
  clear hc hg H3 e0
  go_upto_region 5 with fail
  generalize wrap64 (x - y / 8) = m at *
  go_wp2_with fail
  go_at_call 52
  refine (spec_l1In m 0 ((L.length : Int) - 1) _).mono ?_
  rintro e w5 ⟨rfl, rfl⟩
  cases hin : inB m 0 ((L.length : Int) - 1)
  · go_wp2
    go_returns
    exact ⟨_, _, L, m, P, rfl, ⟨hL, hP⟩, Rd.own H4.out.1.2.1, H4.out.2.1, cur_fin HS.out.2.1 H4.out.1.1 (Nat.le_refl _)⟩
  · have hm := inB_iff.1 hin
    obtain ⟨i, rfl⟩ : ∃ k : Nat, m = k := ⟨m.toNat, by omega⟩
    have hi : i < L.length := by omega
    clear hin
    go_wp2_with fail
    go_at_call 41
    refine (spec_one Hb.out 2 _ H4.out.1.1.1 (by omega) (by omega)).mono ?_
    rintro e w6 ⟨z, rfl, hc, hg⟩
    have H5 := hid (And.intro (H4.out.1.step hc hg) (H4.out.2.step (by have := hlow.out; have := hb2.out; omega) hg))
    clear hc hg H4
    cases z
    · go_wp2
      go_returns
      exact ⟨_, _, L, i, P, rfl, ⟨hL, hP⟩, Rd.own H5.out.1.2.1, H5.out.2.1, cur_fin HS.out.2.1 H5.out.1.1 (Nat.le_refl _)⟩
    · obtain ⟨ug, ucap, hf, -, -⟩ := H5.out.1.2.1.form (by omega)
      cases hf
      have y0 := H5.out.1.2.1.cellAt i (by omega)
      rw [vStrs_get L i hi] at y0
      have y1 := H5.out.1.2.1.frozenAt i
      have s1 := World.ownsRow.stored H5.out.1.2.1 i (.string ⟨#[63]⟩)
      have n0 : (0 : Int) ≤ (i : Int) := by omega
      have n1 : (i : Int) < (L.length : Int) := by omega
      have H6 := hid (And.intro s1.1 (And.intro (H5.out.1.1.set (p := ⟨ug, i, none⟩) (own_row H5.out.1.2.1 ug rfl).1 (.string ⟨#[63]⟩)) (H5.out.2.away s1.2 (fun b o m c e hm2 e2 => by
        have h1 := H5.out.2.2 b o m c e hm2
        have h2 := hb1.out ug rfl
        have h3 := Option.some.inj e2
        omega))))
      clear s1 H5
      go_wp2
      go_returns
      exact ⟨_, _, L.set i ⟨#[63]⟩, i, P, rfl, ⟨sml_set hL i, hP⟩, by rw [List.length_set, show vStrs (L.set i ⟨#[63]⟩) = (vStrs L).set i (.string ⟨#[63]⟩) by simp [vStrs, List.map_set]]; exact Rd.own H6.out.1, H6.out.2.2.1, cur_fin HS.out.2.1 H6.out.2.1 (Nat.le_refl _)⟩
end Go.Proofs.YthnfdgbmmiddlaaDoor
