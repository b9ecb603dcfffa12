/- Leaves of trees. Leaves of trees: the reference's. -/
import Derived.Test.YtlaochpkelbchaaGreatDoorKWPath
namespace Go.Proofs.YtlaochpkelbchaaGreatDoor
open Go.RowKit
set_option maxHeartbeats 400000
def lv (ps : List Int) (k : Nat) : List Int := ((List.range k).filter (fun i : Nat => !ps.contains (i : Int))).map (fun i : Nat => (i : Int))
def leavesL (ps : List Int) : List Int := lv ps ps.length
theorem lv_succ (ps : List Int) (k : Nat) : lv ps (k + 1) = if ps.contains (k : Int) then lv ps k else lv ps k ++ [(k : Int)] := by
  unfold lv
  rw [List.range_succ, List.filter_append, List.map_append]
  cases h : ps.contains (k : Int) <;> simp only [List.filter_cons, List.filter_nil, h] <;> simp
theorem lv_len (ps : List Int) (k : Nat) : (lv ps k).length ≤ k := by
  unfold lv; rw [List.length_map]; exact Nat.le_trans (List.length_filter_le _ _) (by simp)
theorem lv_mem (ps : List Int) (k : Nat) (y : Int) (h : y ∈ lv ps k) : 0 ≤ y ∧ y < k := by
  unfold lv at h
  obtain ⟨i, hi, rfl⟩ := List.mem_map.1 h
  have := List.mem_range.1 (List.mem_filter.1 hi).1
  omega
def kids (ps : List Int) (x : Int) (k : Nat) : List Int := ((List.range k).filter (fun i : Nat => decide (1 ≤ i) && (ps.getD i 0 == x))).map (fun i : Nat => (i : Int))
theorem kids_succ (ps : List Int) (x : Int) (k : Nat) (h : 1 ≤ k) : kids ps x (k + 1) = if ps.getD k 0 == x then kids ps x k ++ [(k : Int)] else kids ps x k := by
  unfold kids
  rw [List.range_succ, List.filter_append, List.map_append]
  cases hx : ps.getD k 0 == x <;> simp only [List.filter_cons, List.filter_nil, hx, h] <;> simp
theorem kids_len (ps : List Int) (x : Int) (k : Nat) : (kids ps x k).length ≤ k := by
  unfold kids; rw [List.length_map]; exact Nat.le_trans (List.length_filter_le _ _) (by simp)
theorem kids_one (ps : List Int) (x : Int) : kids ps x 1 = [] := by simp [kids, List.range_succ]
theorem kids_none {ps : List Int} (hg : goodT ps = true) (x : Int) (hx : 0 ≤ x) : ((kids ps x ps.length).length = 0) ↔ ps.contains x = false := by
  unfold kids
  rw [List.length_map, List.length_eq_zero_iff, List.filter_eq_nil_iff, ← Bool.not_eq_true, List.contains_iff_mem]
  constructor
  · intro h hm
    obtain ⟨i, hi, rfl⟩ := List.mem_iff_getElem.1 hm
    by_cases h0 : i = 0
    · subst h0
      have := goodT_root hg
      rw [List.getD_eq_getElem?_getD, List.getElem?_eq_getElem hi] at this
      simp only [Option.getD_some] at this
      omega
    · refine h i (List.mem_range.2 hi) ?_
      rw [List.getD_eq_getElem?_getD, List.getElem?_eq_getElem hi]
      simp; omega
  · intro h i hi hc
    have hi := List.mem_range.1 hi
    refine h ?_
    simp only [Bool.and_eq_true, decide_eq_true_eq, beq_iff_eq] at hc
    rw [← hc.2, List.getD_eq_getElem?_getD, List.getElem?_eq_getElem hi]
    exact List.getElem_mem hi
theorem root_kid {ps : List Int} (hg : goodT ps = true) : ps.contains (0 : Int) = true := by
  have hl := goodT_len hg
  have h1 := goodT_get hg 1 (by omega) (by omega)
  rw [List.contains_iff_mem]
  have : ps.getD 1 0 = 0 := by omega
  rw [← this, List.getD_eq_getElem?_getD, List.getElem?_eq_getElem (by omega)]
  exact List.getElem_mem (by omega)
end Go.Proofs.YtlaochpkelbchaaGreatDoor
namespace Go.Proofs.YtlaochpkelbchaaGreatDoor
open Go.RowKit
set_option maxHeartbeats 400000
theorem spec_l6Children (ps : List Int) (v : Value) (x : Int) (w : World) (h : Rd w 1 v ps.length (vInts ps)) (hl : 2 ≤ ps.length ∧ ps.length ≤ 8) :
    Calls Tryz.prog 36 #[.agg #[v], .int .i64 x] w fun e w' => ∃ r, e = .returned r ∧ w'.ownsRow w.heap.size 3 1 r (kids ps x ps.length).length (vInts (kids ps x ps.length)) ∧ Ext w w' := by
  obtain ⟨h1, p, cap, rfl, h4⟩ := h
  obtain ⟨b, off, rfl, h6⟩ := h4.resolve_left (by omega)
  have H6 := hid h6
  clear h1 h4 h6
  obtain ⟨i0, hi, hz0, hz1, hz2⟩ := info_parts infoInt
  go_enter Tryz.func36, Tryz.ntmps36
  go_wp2
  go_loopw [6, 5] (fun v6 v5 wr => ∃ k : Nat, 1 ≤ k ∧ k ≤ ps.length ∧ v6 = .int .i64 k ∧ wr.ownsRow (w.heap.size + 1) 3 1 v5 (kids ps x k).length (vInts (kids ps x k)) ∧ Ext (w.alloc (.cells #[.slice (some ⟨b, off, none⟩) ps.length cap] 26)) wr) (fun v6 _ _ => ps.length - (intOf v6).toNat)
  case atStart => exact ⟨1, by omega, by omega, rfl, by rw [kids_one]; simpa [vInts] using World.ownsRow_lit (base := w.heap.size + 1) (e := 3) (size := 1) (w.alloc (.cells #[.slice (some ⟨b, off, none⟩) ps.length cap] 26)) #[] 0 (by simp) (Nat.zero_le _) rfl, (by repeat' (first | exact Ext.refl _ | assumption | refine Ext.alloc ?_ _ | refine Ext.ext ?_ _ | refine Ext.drew ?_ | refine Ext.drewN ?_ _))⟩
  case round =>
    obtain ⟨k, hk1, hk, rfl, hown, hx⟩ := hrel
    have hb0 : (w.alloc (.cells #[.slice (some ⟨b, off, none⟩) ps.length cap] 26)).cell? ⟨w.heap.size, 0, none⟩ = some (.slice (some ⟨b, off, none⟩) ps.length cap) := by rw [cell_of_row _ _ 0 _ _ (0, 0) (heap_at _ rfl)]; rfl
    have Hb0 := hid hb0
    have d0 := hx.cell hb0
    by_cases hlt : k < ps.length
    · have hsn := kids_succ ps x k hk1
      have hll := kids_len ps x k
      have c0 := elem1 (Value.int .i64) 0 ps H6.out k hlt
      generalize ps.getD k 0 = y at c0 hsn
      have c1 := hx.cell (((Ext.refl w).alloc (.cells #[.slice (some ⟨b, off, none⟩) ps.length cap] 26)).cell c0)
      have Hx := hid hx
      clear hb0 hx
      cases hy : (y == x)
      · have e1 : kids ps x (k + 1) = kids ps x k := by rw [hsn, hy]; simp
        have E1 := hid e1
        have Ho := hid hown
        clear e1 hsn hown
        go_wp2
        go_roundw
        case rel => exact ⟨k + 1, by omega, by omega, by go_num, by rw [E1.out]; exact Ho.out, Hx.out⟩
        case measure => simp [intOf]; omega
      · have e1 : kids ps x (k + 1) = kids ps x k ++ [(k : Int)] := by rw [hsn, hy]; simp
        have E1 := hid e1
        clear e1 hsn
        go_wp2_with (at_builtin; refine wpList_append_own _ rfl _ _ 24 rfl (w.heap.size + 1) 3 i0 (.int .i64 0) 1 8 Tryz.underlying24 hi hz0 hz1 hz2 rfl (by decide) _ _ _ rfl (hown.alloc _) ⟨_, 0, none⟩ 1 1 [.int .i64 (k : Int)] rfl rfl ?c1 ?c2 ?c3 ?c4 ?c5 ?_)
        (try case c1 => (intro j u hj; cases j with | zero => (simp at hj; subst hj; simp [Addr.add]) | succ j => simp at hj))
        case c2 => simp [Value.oneCell']
        case c3 => unfold maxLen; simp; omega
        case c4 => omega
        case c5 => have := Hx.out.size; simp at *; omega
        intro v' w1 hown' hgrow _
        have hx2 := Ext.grown (Hx.out.alloc _) hgrow (fun j hj => by have := (hown.lt j hj).1; simp at *; omega)
        have Hx2 := hid hx2; clear hgrow
        have d1 := hx2.cell (Hb0.out)
        clear hx2 c1 d0
        have hown2 : w1.ownsRow (w.heap.size + 1) 3 1 v' (kids ps x (k + 1)).length (vInts (kids ps x (k + 1))) := by rw [E1.out]; simpa [vInts] using hown'
        have Ho2 := hid hown2
        clear hown' hown2
        go_wp2
        go_roundw
        case rel => exact ⟨k + 1, by omega, by omega, by go_num, Ho2.out, Hx2.out⟩
        case measure => simp [intOf]; omega
    · obtain rfl : k = ps.length := by omega
      have K := hid (And.intro hown hx); clear hown hx hb0
      go_wp2
      go_ret
      exact ⟨_, rfl, own_mono K.out.1 (by omega), (show Ext w _ from (by repeat' (first | exact Ext.refl _ | assumption | refine Ext.alloc ?_ _ | refine Ext.ext ?_ _ | refine Ext.drew ?_ | refine Ext.drewN ?_ _))).trans K.out.2⟩
end Go.Proofs.YtlaochpkelbchaaGreatDoor
