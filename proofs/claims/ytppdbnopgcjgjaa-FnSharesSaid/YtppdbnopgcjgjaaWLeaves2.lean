/- Leaves of trees: the reference's. -/
import Derived.Test.YtppdbnopgcjgjaaWLeaves
namespace Go.Proofs.Ytppdbnopgcjgjaa
open Go.RowKit
set_option maxHeartbeats 400000
theorem spec_l6Children (ps : List Int) (v : Value) (x : Int) (w : World) (h : Rd w 1 v ps.length (vInts ps)) (hl : 2 ≤ ps.length ∧ ps.length ≤ 8) :
    Calls Try.prog 86 #[.agg #[v], .int .i64 x] w fun e w' => ∃ r, e = .returned r ∧ w'.ownsRow w.heap.size 3 1 r (kids ps x ps.length).length (vInts (kids ps x ps.length)) ∧ Ext w w' := by
  obtain ⟨h1, p, cap, rfl, h4⟩ := h
  obtain ⟨b, off, rfl, h6⟩ := h4.resolve_left (by omega)
  have H6 := hid h6
  clear h1 h4 h6
  obtain ⟨i0, hi, hz0, hz1, hz2⟩ := info_parts infoInt
  go_enter Try.func86, Try.ntmps86
  go_wp2
  go_loopw [6, 5] (fun v6 v5 wr => ∃ k : Nat, 1 ≤ k ∧ k ≤ ps.length ∧ v6 = .int .i64 k ∧ wr.ownsRow (w.heap.size + 1) 3 1 v5 (kids ps x k).length (vInts (kids ps x k)) ∧ Ext (w.alloc (.cells #[.slice (some ⟨b, off, none⟩) ps.length cap] 26)) wr) (fun v6 _ _ => ps.length - (intOf v6).toNat)
  case atStart => exact ⟨1, by omega, by omega, rfl, by rw [kids_one]; simpa [vInts] using World.ownsRow_lit (base := w.heap.size + 1) (e := 3) (size := 1) (w.alloc (.cells #[.slice (some ⟨b, off, none⟩) ps.length cap] 26)) #[] 0 (by simp) (Nat.zero_le _) rfl, (by repeat' (first | exact Ext.refl _ | assumption | refine Ext.alloc ?_ _ | refine Ext.ext ?_ _ | refine Ext.drew ?_ | refine Ext.drewN ?_ _))⟩
  case round =>
    obtain ⟨k, hk1, hk, rfl, hown, hx⟩ := hrel
    have hb0 : (w.alloc (.cells #[.slice (some ⟨b, off, none⟩) ps.length cap] 26)).cell? ⟨w.heap.size, 0, none⟩ = some (.slice (some ⟨b, off, none⟩) ps.length cap) := by rw [cell_of_row _ _ 0 _ _ (0, 0) (heap_at _ rfl)]; rfl
    have Hb0 := hid hb0
    have d0 := hx.cell hb0
    by_cases hlt : k < ps.length
    · have hsn := kids_succ ps x k hk1
      have hll := kids_len ps x k
      have c0 := elem1 (Value.int .i64) 0 ps H6.out k hlt
      generalize ps.getD k 0 = y at c0 hsn
      have c1 := hx.cell (((Ext.refl w).alloc (.cells #[.slice (some ⟨b, off, none⟩) ps.length cap] 26)).cell c0)
      have Hx := hid hx
      clear hb0 hx
      cases hy : (y == x)
      · have e1 : kids ps x (k + 1) = kids ps x k := by rw [hsn, hy]; simp
        have E1 := hid e1
        have Ho := hid hown
        clear e1 hsn hown
        go_wp2
        go_roundw
        case rel => exact ⟨k + 1, by omega, by omega, by go_num, by rw [E1.out]; exact Ho.out, Hx.out⟩
        case measure => simp [intOf]; omega
      · have e1 : kids ps x (k + 1) = kids ps x k ++ [(k : Int)] := by rw [hsn, hy]; simp
        have E1 := hid e1
        clear e1 hsn
        go_wp2_with (at_builtin; refine wpList_append_own _ rfl _ _ 24 rfl (w.heap.size + 1) 3 i0 (.int .i64 0) 1 8 Try.underlying24 hi hz0 hz1 hz2 rfl (by decide) _ _ _ rfl (hown.alloc _) ⟨_, 0, none⟩ 1 1 [.int .i64 (k : Int)] rfl rfl ?c1 ?c2 ?c3 ?c4 ?c5 ?_)
        (try case c1 => (intro j u hj; cases j with | zero => (simp at hj; subst hj; simp [Addr.add]) | succ j => simp at hj))
        case c2 => simp [Value.oneCell']
        case c3 => unfold maxLen; simp; omega
        case c4 => omega
        case c5 => have := Hx.out.size; simp at *; omega
        intro v' w1 hown' hgrow _
        have hx2 := Ext.grown (Hx.out.alloc _) hgrow (fun j hj => by have := (hown.lt j hj).1; simp at *; omega)
        have Hx2 := hid hx2; clear hgrow
        have d1 := hx2.cell (Hb0.out)
        clear hx2 c1 d0
        have hown2 : w1.ownsRow (w.heap.size + 1) 3 1 v' (kids ps x (k + 1)).length (vInts (kids ps x (k + 1))) := by rw [E1.out]; simpa [vInts] using hown'
        have Ho2 := hid hown2
        clear hown' hown2
        go_wp2
        go_roundw
        case rel => exact ⟨k + 1, by omega, by omega, by go_num, Ho2.out, Hx2.out⟩
        case measure => simp [intOf]; omega
    · obtain rfl : k = ps.length := by omega
      have K := hid (And.intro hown hx); clear hown hx hb0
      go_wp2
      go_ret
      exact ⟨_, rfl, own_mono K.out.1 (by omega), (show Ext w _ from (by repeat' (first | exact Ext.refl _ | assumption | refine Ext.alloc ?_ _ | refine Ext.ext ?_ _ | refine Ext.drew ?_ | refine Ext.drewN ?_ _))).trans K.out.2⟩
theorem spec_l6Leaves (ps : List Int) (v : Value) (w : World) (h : Rd w 1 v ps.length (vInts ps)) (hg : goodT ps = true) :
    Calls Try.prog 56 #[.agg #[v]] w fun e w' => ∃ r, e = .returned r ∧ w'.ownsRow w.heap.size 3 1 r (leavesL ps).length (vInts (leavesL ps)) ∧ Ext w w' := by
  have hl := goodT_len hg
  obtain ⟨h1, p, cap, rfl, h4⟩ := h
  have Hr := hid (show Rd w 1 (.slice p ps.length cap) ps.length (vInts ps) from ⟨h1, p, cap, rfl, h4⟩)
  have Hg := hid hg
  clear h1 h4 hg
  obtain ⟨i0, hi, hz0, hz1, hz2⟩ := info_parts infoInt
  have hl1 : lv ps 1 = [] := by
    have h0 := lv_succ ps 0
    rw [if_pos (by simpa using root_kid Hg.out)] at h0
    rw [h0]; rfl
  have Hl1 := hid hl1; clear hl1
  go_enter Try.func56, Try.ntmps56
  go_wp2
  go_loopw [4, 3] (fun v4 v3 wr => ∃ k : Nat, 1 ≤ k ∧ k ≤ ps.length ∧ v4 = .int .i64 k ∧ wr.ownsRow (w.heap.size + 1) 3 1 v3 (lv ps k).length (vInts (lv ps k)) ∧ Ext (w.alloc (.cells #[.slice p ps.length cap] 26)) wr) (fun v4 _ _ => ps.length - (intOf v4).toNat)
  case atStart => exact ⟨1, by omega, by omega, rfl, by rw [Hl1.out]; simpa [vInts] using World.ownsRow_lit (base := w.heap.size + 1) (e := 3) (size := 1) (w.alloc (.cells #[.slice p ps.length cap] 26)) #[] 0 (by simp) (Nat.zero_le _) rfl, (by repeat' (first | exact Ext.refl _ | assumption | refine Ext.alloc ?_ _ | refine Ext.ext ?_ _ | refine Ext.drew ?_ | refine Ext.drewN ?_ _))⟩
  case round =>
    obtain ⟨k, hk1, hk, rfl, hown, hx⟩ := hrel
    have hb0 : (w.alloc (.cells #[.slice p ps.length cap] 26)).cell? ⟨w.heap.size, 0, none⟩ = some (.slice p ps.length cap) := by rw [cell_of_row _ _ 0 _ _ (0, 0) (heap_at _ rfl)]; rfl
    by_cases hlt : k < ps.length
    · have hsn := lv_succ ps k
      have hll := lv_len ps k
      have hkn := kids_none Hg.out (k : Int) (by omega)
      have hkl := kids_len ps (k : Int) ps.length
      have hc := fun v w h => spec_l6Children ps v (k : Int) w h hl
      have c0 := hx.cell hb0
      have hr1 := (Hr.out.ext (show Ext w (w.alloc (.cells #[.slice p ps.length cap] 26)) from (by repeat' (first | exact Ext.refl _ | assumption | refine Ext.alloc ?_ _ | refine Ext.ext ?_ _ | refine Ext.drew ?_ | refine Ext.drewN ?_ _)))).ext hx
      generalize kids ps (k : Int) ps.length = K at hkn hc hkl
      generalize hb : ps.contains (k : Int) = b at hsn hkn
      have Hr1 := hid hr1
      have Hsn := hid hsn
      have Hx0 := hid hx
      have Hb0 := hid hb0
      have Hc := hid hc
      have Ho := hid hown
      clear hb hc hsn hx hown hb0 hr1
      go_wp2_with fail
      go_at_call 86
      refine (Hc.out _ _ Hr1.out).mono ?_
      rintro e w2 ⟨r, rfl, hor, hx2⟩
      obtain ⟨pq, cq, rfl⟩ := own_shape hor
      have hown := own_ext Ho.out hx2
      have Hx := hid (Hx0.out.trans hx2)
      have c1 := hx2.cell c0
      clear hx2 c0 hor
      cases b
      · have t0 : ((K.length : Int) == 0) = true := by simp [List.length_eq_zero_iff.1 (hkn.2 rfl)]
        clear hkn
        go_wp2_with (at_builtin; refine wpList_append_own _ rfl _ _ 24 rfl (w.heap.size + 1) 3 i0 (.int .i64 0) 1 8 Try.underlying24 hi hz0 hz1 hz2 rfl (by decide) _ _ _ rfl (hown.alloc _) ⟨_, 0, none⟩ 1 1 [.int .i64 (k : Int)] rfl rfl ?c1 ?c2 ?c3 ?c4 ?c5 ?_)
        (try case c1 => (intro j u hj; cases j with | zero => (simp at hj; subst hj; simp [Addr.add]) | succ j => simp at hj))
        case c2 => simp [Value.oneCell']
        case c3 => unfold maxLen; simp; omega
        case c4 => omega
        case c5 => have := Hx.out.size; simp at *; omega
        intro v' w1 hown' hgrow _
        have hx2 := Ext.grown (Hx.out.alloc _) hgrow (fun j hj => by have := (hown.lt j hj).1; simp at *; omega)
        have Hx2 := hid hx2; clear hgrow
        have d1 := hx2.cell (Hb0.out)
        clear hx2 c1
        have e1 : lv ps (k + 1) = lv ps k ++ [(k : Int)] := by rw [Hsn.out]; simp
        have hown2 : w1.ownsRow (w.heap.size + 1) 3 1 v' (lv ps (k + 1)).length (vInts (lv ps (k + 1))) := by rw [e1]; simpa [vInts] using hown'
        have Ho2 := hid hown2
        clear hown' hown2 e1
        go_wp2
        go_roundw
        case rel => exact ⟨k + 1, by omega, by omega, by go_num, Ho2.out, Hx2.out⟩
        case measure => simp [intOf]; omega
      · have hne : ¬ K.length = 0 := fun e => by simpa using hkn.1 e
        have t0 : ((K.length : Int) == 0) = false := by rw [beq_eq_false_iff_ne]; omega
        have e1 : lv ps (k + 1) = lv ps k := by rw [Hsn.out]; simp
        have E1 := hid e1; clear e1 hkn hne
        have Ho2 := hid hown; clear hown
        go_wp2
        go_roundw
        case rel => exact ⟨k + 1, by omega, by omega, by go_num, by rw [E1.out]; exact Ho2.out, Hx.out⟩
        case measure => simp [intOf]; omega
    · obtain rfl : k = ps.length := by omega
      have K := hid (And.intro hown hx)
      have c9 := hx.cell hb0
      clear hown hx hb0
      go_wp2
      go_ret
      exact ⟨_, rfl, own_mono K.out.1 (by omega), (show Ext w _ from (by repeat' (first | exact Ext.refl _ | assumption | refine Ext.alloc ?_ _ | refine Ext.ext ?_ _ | refine Ext.drew ?_ | refine Ext.drewN ?_ _))).trans K.out.2⟩
end Go.Proofs.Ytppdbnopgcjgjaa
