/- Shares: the walks. -/
import Derived.Test.YtppdbnopgcjgjaaWAsc
import Derived.Test.YtppdbnopgcjgjaaWShr0
namespace Go.Proofs.Ytppdbnopgcjgjaa
open Go.RowKit
set_option maxHeartbeats 400000
theorem impl_shareOver (ps ls ds L : List Int) (u u' y : Value) (w : World) (h : Rd w 1 y L.length (vInts L)) (k : Rd w 1 u ls.length (vInts ls)) (hg : goodC ps ls ds = true) (hL : ∀ y ∈ L, 1 ≤ y ∧ y < ps.length) (ha : asc L) (h8 : L.length ≤ 1048576) :
    Calls Try.prog 66 #[.agg #[u, u'], y] w fun e w' => e = .returned (.int .i64 (shr ls L)) ∧ Ext w w' := by
  have hl := (goodC_all hg).2.1
  have hlen := goodT_len (goodC_all hg).1
  obtain ⟨k1, p, cap, rfl, k4⟩ := k
  obtain ⟨b, off, rfl, k6⟩ := k4.resolve_left (by omega)
  obtain ⟨h1, p', cap', rfl, h4⟩ := h
  have K6 := hid k6
  have H4 := hid h4
  have Hg := hid hg
  have Ha := hid ha
  have HL := hid hL
  have Hl := hid hl
  clear k1 k4 k6 h1 h4 hg ha hL hl
  have hb0 : (w.alloc (.cells #[.slice (some ⟨b, off, none⟩) ls.length cap, u'] 28)).cell? ⟨w.heap.size, 0, none⟩ = some (.slice (some ⟨b, off, none⟩) ls.length cap) := by rw [cell_of_row _ _ 0 _ _ (0, 0) (heap_at _ rfl)]; rfl
  have Hb0 := hid hb0
  clear hb0
  go_enter Try.func66, Try.ntmps66
  go_wp2
  go_loopw [10, 5] (fun v10 v5 wr => ∃ k : Nat, k ≤ L.length ∧ v10 = .int .i64 k ∧ v5 = .int .i64 (shr ls (L.take k)) ∧ Ext (w.alloc (.cells #[.slice (some ⟨b, off, none⟩) ls.length cap, u'] 28)) wr) (fun v10 _ _ => L.length - (intOf v10).toNat)
  case atStart => exact ⟨0, Nat.zero_le _, rfl, rfl, Ext.refl _⟩
  case round =>
    obtain ⟨k, hk, rfl, rfl, hx⟩ := hrel
    have bd := shr_bd Hg.out (L := L.take k) (fun y hy => by have := HL.out y (List.mem_of_mem_take hy); omega)
    by_cases hlt : k < L.length
    · obtain ⟨b', off', rfl, h6⟩ := H4.out.resolve_left (by omega)
      have hXY := HL.out _ (mem_getD hlt)
      have bd1 := shr_bd Hg.out (L := L.take (k + 1)) (fun y hy => by have := HL.out y (List.mem_of_mem_take hy); omega)
      have hsn := (shr_snoc (ls := ls) Ha.out k hlt hXY.1 (by omega)).1
      have d0 := elem1 (Value.int .i64) 0 L h6 k hlt
      rw [hsn] at bd1
      generalize L.getD k 0 = x at d0 hsn hXY bd1
      obtain ⟨n, rfl⟩ := Int.eq_ofNat_of_zero_le (show 0 ≤ x by omega)
      have hds := Hl.out
      have hn : n < ls.length := by omega
      have e0 := elem1 (Value.int .i64) 0 ls K6.out n hn
      have hcb := cost_ls Hg.out (n : Int) (by omega) hXY.2
      rw [Int.toNat_natCast] at hsn bd1 hcb
      generalize ls.getD n 0 = s at e0 hsn bd1 hcb
      generalize shr ls (L.take k) = S at bd bd1 hsn
      have Hsn := hid hsn
      have e1 := hx.cell (((Ext.refl w).alloc _).cell e0)
      have d1 := hx.cell (((Ext.refl w).alloc _).cell d0)
      have c1 := hx.cell Hb0.out
      have Hx := hid hx
      clear hsn h6 hds e0 d0 hx
      go_wp2
      go_roundw
      case rel => exact ⟨k + 1, by omega, by go_num, by rw [Hsn.out], Hx.out⟩
      case measure => simp [intOf]; omega
    · obtain rfl : k = L.length := by omega
      rw [List.take_length]
      have Hx := hid hx
      clear hx
      go_wp2
      go_ret
      exact ⟨rfl, (show Ext w _ from (by repeat' (first | exact Ext.refl _ | assumption | refine Ext.alloc ?_ _ | refine Ext.ext ?_ _ | refine Ext.drew ?_ | refine Ext.drewN ?_ _))).trans Hx.out⟩
theorem spec_l22Share (ps ls ds L : List Int) (u u' y : Value) (w : World) (h : Rd w 1 y L.length (vInts L)) (k : Rd w 1 u ls.length (vInts ls)) (hg : goodC ps ls ds = true) (hL : ∀ y ∈ L, 0 ≤ y ∧ y < ps.length) (h8 : L.length ≤ 1048576) :
    Calls Try.prog 60 #[.agg #[u, u'], y] w fun e w' => e = .returned (.int .i64 (shr ls L)) ∧ Ext w w' := by
  have hl := (goodC_all hg).2.1
  have hlen := goodT_len (goodC_all hg).1
  have Hy := hid h
  obtain ⟨k1, p, cap, rfl, k4⟩ := k
  obtain ⟨b, off, rfl, k6⟩ := k4.resolve_left (by omega)
  have K6 := hid k6
  have Hg := hid hg
  have HL := hid hL
  have Hl := hid hl
  clear k1 k4 k6 h hg hL hl
  have hb0 : (w.alloc (.cells #[.slice (some ⟨b, off, none⟩) ls.length cap, u'] 28)).cell? ⟨w.heap.size, 0, none⟩ = some (.slice (some ⟨b, off, none⟩) ls.length cap) := by rw [cell_of_row _ _ 0 _ _ (0, 0) (heap_at _ rfl)]; rfl
  have Hb0 := hid hb0
  clear hb0
  go_enter Try.func60, Try.ntmps60
  go_wp2
  go_loopw [6, 5] (fun v6 v5 wr => ∃ k : Nat, k ≤ 7 ∧ v6 = .int .i64 (k + 1) ∧ v5 = .int .i64 (prd (fac ls L) k) ∧ Ext (w.alloc (.cells #[.slice (some ⟨b, off, none⟩) ls.length cap, u'] 28)) wr) (fun v6 _ _ => 8 - (intOf v6).toNat)
  case atStart => exact ⟨0, Nat.zero_le _, rfl, rfl, Ext.refl _⟩
  case round =>
    obtain ⟨k, hk, rfl, rfl, hx⟩ := hrel
    have c1 := hx.cell Hb0.out
    have hxw := (show Ext w _ from (Ext.refl w).alloc _).trans hx
    have hh := fun w' (e : Ext w w') => spec_l1Has L y ((k + 1 : Nat) : Int) w' (Hy.out.ext e) h8
    have Hx := hid hx
    have Hxw := hid hxw
    clear hx hxw
    by_cases hlt : k < 7
    · have bd := prd_small (g := fac ls L) (n := k) hk (fun i _ _ => fac_bd Hg.out HL.out i)
      have bd1 := prd_small (g := fac ls L) (n := k + 1) (by omega) (fun i _ _ => fac_bd Hg.out HL.out i)
      have hst : prd (fac ls L) (k + 1) = prd (fac ls L) k * fac ls L (k + 1) := rfl
      have hfc : fac ls L (k + 1) = if L.contains ((k + 1 : Nat) : Int) then 100 - ls.getD (k + 1) 0 else 100 := rfl
      rw [hst] at bd1
      generalize prd (fac ls L) k = S at bd bd1 hst
      cases hc : L.contains ((k + 1 : Nat) : Int)
      · rw [hc] at hfc hh
        have hfc' : fac ls L (k + 1) = 100 := hfc
        rw [hfc'] at bd1 hst
        have Hst := hid hst
        have Hh := hid hh
        clear hst hfc hfc' hh hc
        simp only [Int.natCast_add, Int.natCast_one] at Hh
        go_wp2_with (go_at_call 82; refine (Hh.out _ Hxw.out).mono ?_; rintro e w' ⟨rfl, z1, rfl⟩)
        go_roundw
        case rel => exact ⟨k + 1, by omega, by go_num, by rw [Hst.out], Hx.out.trans (by repeat' (first | exact Ext.refl _ | assumption | refine Ext.alloc ?_ _ | refine Ext.ext ?_ _ | refine Ext.drew ?_ | refine Ext.drewN ?_ _))⟩
        case measure => simp [intOf]; omega
      · have hm := HL.out _ (List.contains_iff_mem.1 hc)
        have hds := Hl.out
        have e0 := elem1 (Value.int .i64) 0 ls K6.out (k + 1) (by omega)
        have hcb := cost_ls Hg.out ((k + 1 : Nat) : Int) (by omega) hm.2
        rw [hc] at hfc hh
        have hfc' : fac ls L (k + 1) = 100 - ls.getD (k + 1) 0 := hfc
        rw [hfc'] at bd1 hst
        rw [Int.toNat_natCast] at hcb
        have hn : k + 1 < ls.length := by omega
        generalize ls.getD (k + 1) 0 = s at e0 hst bd1 hcb
        have e1 := Hxw.out.cell e0
        have Hst := hid hst
        have Hh := hid hh
        clear hst hfc hfc' hh hc hm hds e0
        simp only [Int.natCast_add, Int.natCast_one] at Hh
        go_wp2_with (go_at_call 82; refine (Hh.out _ Hxw.out).mono ?_; rintro e w' ⟨rfl, z1, rfl⟩)
        go_roundw
        case rel => exact ⟨k + 1, by omega, by go_num, by rw [Hst.out], Hx.out.trans (by repeat' (first | exact Ext.refl _ | assumption | refine Ext.alloc ?_ _ | refine Ext.ext ?_ _ | refine Ext.drew ?_ | refine Ext.drewN ?_ _))⟩
        case measure => simp [intOf]; omega
    · obtain rfl : k = 7 := by omega
      go_wp2
      go_ret
      exact ⟨rfl, Hxw.out⟩
theorem run_from1 (g n cap : Nat) (h : 1 ≤ n) : ∀ w, (Instr.slice 24 (.slice (some ⟨g, 0, none⟩) n cap) (some (.int .i64 1)) none none).run Try.prog w = .ok (slc (some ⟨g, 0, none⟩) 1 n cap) w := fun w => by
  rw [run_slice_l (P := Try.prog) w 24 (some ⟨g, 0, none⟩) n cap (by kernel_rfl) .i64 1 (by decide) (by omega)]
  have e : (Go.sizeOf (Try.prog.elem 24)).run Try.prog w = .ok 1 w := by kernel_rfl
  rw [e]
  rfl
theorem run_fromAt1 (g n cap : Nat) (h : 1 ≤ n) : ∀ w, (Instr.sliceAt 24 (.slice (some ⟨g, 0, none⟩) n cap) (some (.int .i64 1)) none none).run Try.prog w = .ok (slc (some ⟨g, 0, none⟩) 1 n cap) w := fun w => by
  rw [run_sliceAt_slice (P := Try.prog) w 24 _ _ _ _ (by kernel_rfl)]
  exact run_from1 g n cap h w
theorem rd_tail {w : World} {base e n g cap : Nat} {a : Value} {cs : List Value} (h : w.ownsRow base e 1 (.slice (some ⟨g, 0, none⟩) n cap) n (a :: cs)) : Rd w 1 (slc (some ⟨g, 0, none⟩) 1 n cap) (n - 1) cs := by
  have h1 := h.1
  simp at h1
  refine ⟨by omega, _, _, rfl, ?_⟩
  by_cases h0 : n - 1 = 0
  · exact .inl h0
  · have hc : n ≤ cap := by
      obtain ⟨-, ⟨h2, -⟩ | ⟨g, c, cur, h2, -, -, h3, -⟩⟩ := h
      · cases h2
      · cases h2; exact h3
    rw [if_neg (by omega)]
    refine .inr ⟨g, 1, rfl, fun j hj => ?_⟩
    have := h.cellAt (1 + j) (by omega)
    rw [this, Nat.add_comm, List.getElem?_cons_succ, List.getElem?_eq_getElem hj]
theorem impl_shareTo (ps ls ds : List Int) (v u u' : Value) (x : Int) (w : World) (h : Rd w 1 v ps.length (vInts ps)) (k : Rd w 1 u ls.length (vInts ls)) (hg : goodC ps ls ds = true) (hx0 : 0 ≤ x) (hx1 : x < ps.length) :
    Calls Try.prog 69 #[.agg #[u, u'], .agg #[v], .int .i64 x] w fun e w' => e = .returned (.int .i64 (sh ps ls x)) ∧ Ext w w' := by
  have hT := (goodC_all hg).1
  have hpp := fun v w h => impl_path ps v x w h hT (by omega) hx1
  have hpl := path_len hT hx1
  have hpm := path_mem hT hx1
  have hpa := path_asc hT hx1
  obtain ⟨R, hR⟩ := path_head hT hx0 hx1
  have hsh := sh_tail (ls := ls) hR
  rw [hR] at hpp hpl hpm hpa
  have hRa : asc R := (List.pairwise_cons.1 hpa).2
  have hRm : ∀ y ∈ R, 1 ≤ y ∧ y < ps.length := fun y hy => by
    have h1 := (List.pairwise_cons.1 hpa).1 y hy
    have h2 := hpm y (List.mem_cons_of_mem _ hy)
    omega
  have hso := fun y w h k => impl_shareOver ps ls ds R u u' y w h k hg hRm hRa (by simp at hpl; omega)
  rw [hsh] at hso
  obtain ⟨n, hn⟩ : ∃ n, ((0 : Int) :: R).length = n := ⟨_, rfl⟩
  have hn1 : R.length = n - 1 := by rw [← hn]; rfl
  have hn2 : 1 ≤ n := by rw [← hn]; simp
  rw [hn] at hpp
  rw [hn1] at hso
  have Hr := hid h
  have Kr := hid k
  have Hpp := hid hpp
  have Hso := hid hso
  clear h k hpp hso hRa hRm hpa hpm hsh hT hg hR hn hn1
  go_enter Try.func69, Try.ntmps69
  go_wp2
  have b0 : ((w.alloc (.cells #[u, u'] 28)).alloc (.cells #[v] 26)).cell? ⟨w.heap.size, 0, none⟩ = some u := by rw [cell_of_row _ _ 0 _ _ (0, 0) (heap_old (heap_at _ rfl) _)]; rfl
  have b1 : ((w.alloc (.cells #[u, u'] 28)).alloc (.cells #[v] 26)).cell? ⟨w.heap.size, 1, none⟩ = some u' := by rw [cell_of_row _ _ 1 _ _ (0, 0) (heap_old (heap_at _ rfl) _)]; rfl
  have b2 : ((w.alloc (.cells #[u, u'] 28)).alloc (.cells #[v] 26)).cell? ⟨w.heap.size + 1, 0, none⟩ = some v := by rw [cell_of_row _ _ 0 _ _ (0, 0) (heap_at _ (by simp))]; rfl
  have XB : Ext w ((w.alloc (.cells #[u, u'] 28)).alloc (.cells #[v] 26)) := (by repeat' (first | exact Ext.refl _ | assumption | refine Ext.alloc ?_ _ | refine Ext.ext ?_ _ | refine Ext.drew ?_ | refine Ext.drewN ?_ _))
  generalize ((w.alloc (.cells #[u, u'] 28)).alloc (.cells #[v] 26)) = w0 at *
  have X1 : Ext w w0.drew := XB.drew
  have c0 := (Ext.refl w0).drew.cell b0
  have c1 := (Ext.refl w0).drew.cell b1
  have c2 := (Ext.refl w0).drew.cell b2
  go_region_held3 (fun w' => w'.cell? ⟨w.heap.size, 0, none⟩ = some u ∧ w'.cell? ⟨w.heap.size, 1, none⟩ = some u' ∧ w'.cell? ⟨w.heap.size + 1, 0, none⟩ = some v) (first | exact ⟨b0, b1, b2⟩ | exact ⟨c0, c1, c2⟩ | exact ⟨d0, d1, d2⟩ | exact ⟨e0, e1, e2⟩)
    (first | (go_at_call 63; refine (Hpp.out _ _ (Hr.out.ext X1)).mono ?_; rintro e w1 ⟨r, rfl, ho, hx1⟩; have d0 := hx1.cell c0; have d1 := hx1.cell c1; have d2 := hx1.cell c2; obtain ⟨g, cap, rfl⟩ := own_form ho hn2; have hs1 := run_from1 g n cap hn2; have hs2 := run_fromAt1 g n cap hn2) | (go_at_call 66; refine (Hso.out _ _ (rd_tail ho) (Kr.out.ext (X1.trans hx1))).mono ?_; rintro e w2 ⟨rfl, hx2⟩; have e0 := hx2.cell d0; have e1 := hx2.cell d1; have e2 := hx2.cell d2))
  go_wp2
  go_ret
  exact ⟨rfl, X1.trans (hx1.trans hx2)⟩
end Go.Proofs.Ytppdbnopgcjgjaa
