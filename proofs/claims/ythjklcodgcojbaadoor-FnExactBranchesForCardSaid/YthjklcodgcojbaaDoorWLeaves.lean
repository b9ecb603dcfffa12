/- Leaves of trees. -/
import Derived.Test.YthjklcodgcojbaaDoorWPath
namespace Go.Proofs.YthjklcodgcojbaaDoor
open Go.RowKit
set_option maxHeartbeats 400000
def lv (ps : List Int) (k : Nat) : List Int := ((List.range k).filter (fun i : Nat => !ps.contains (i : Int))).map (fun i : Nat => (i : Int))
def leavesL (ps : List Int) : List Int := lv ps ps.length
theorem lv_succ (ps : List Int) (k : Nat) : lv ps (k + 1) = if ps.contains (k : Int) then lv ps k else lv ps k ++ [(k : Int)] := by
  unfold lv
  rw [List.range_succ, List.filter_append, List.map_append]
  cases h : ps.contains (k : Int) <;> simp only [List.filter_cons, List.filter_nil, h] <;> simp
theorem lv_len (ps : List Int) (k : Nat) : (lv ps k).length ≤ k := by
  unfold lv; rw [List.length_map]; exact Nat.le_trans (List.length_filter_le _ _) (by simp)
theorem lv_mem (ps : List Int) (k : Nat) (y : Int) (h : y ∈ lv ps k) : 0 ≤ y ∧ y < k := by
  unfold lv at h
  obtain ⟨i, hi, rfl⟩ := List.mem_map.1 h
  have := List.mem_range.1 (List.mem_filter.1 hi).1
  omega
def kids (ps : List Int) (x : Int) (k : Nat) : List Int := ((List.range k).filter (fun i : Nat => decide (1 ≤ i) && (ps.getD i 0 == x))).map (fun i : Nat => (i : Int))
theorem kids_succ (ps : List Int) (x : Int) (k : Nat) (h : 1 ≤ k) : kids ps x (k + 1) = if ps.getD k 0 == x then kids ps x k ++ [(k : Int)] else kids ps x k := by
  unfold kids
  rw [List.range_succ, List.filter_append, List.map_append]
  cases hx : ps.getD k 0 == x <;> simp only [List.filter_cons, List.filter_nil, hx, h] <;> simp
theorem kids_len (ps : List Int) (x : Int) (k : Nat) : (kids ps x k).length ≤ k := by
  unfold kids; rw [List.length_map]; exact Nat.le_trans (List.length_filter_le _ _) (by simp)
theorem kids_one (ps : List Int) (x : Int) : kids ps x 1 = [] := by simp [kids, List.range_succ]
theorem kids_none {ps : List Int} (hg : goodT ps = true) (x : Int) (hx : 0 ≤ x) : ((kids ps x ps.length).length = 0) ↔ ps.contains x = false := by
  unfold kids
  rw [List.length_map, List.length_eq_zero_iff, List.filter_eq_nil_iff, ← Bool.not_eq_true, List.contains_iff_mem]
  constructor
  · intro h hm
    obtain ⟨i, hi, rfl⟩ := List.mem_iff_getElem.1 hm
    by_cases h0 : i = 0
    · subst h0
      have := goodT_root hg
      rw [List.getD_eq_getElem?_getD, List.getElem?_eq_getElem hi] at this
      simp only [Option.getD_some] at this
      omega
    · refine h i (List.mem_range.2 hi) ?_
      rw [List.getD_eq_getElem?_getD, List.getElem?_eq_getElem hi]
      simp; omega
  · intro h i hi hc
    have hi := List.mem_range.1 hi
    refine h ?_
    simp only [Bool.and_eq_true, decide_eq_true_eq, beq_iff_eq] at hc
    rw [← hc.2, List.getD_eq_getElem?_getD, List.getElem?_eq_getElem hi]
    exact List.getElem_mem hi
theorem root_kid {ps : List Int} (hg : goodT ps = true) : ps.contains (0 : Int) = true := by
  have hl := goodT_len hg
  have h1 := goodT_get hg 1 (by omega) (by omega)
  rw [List.contains_iff_mem]
  have : ps.getD 1 0 = 0 := by omega
  rw [← this, List.getD_eq_getElem?_getD, List.getElem?_eq_getElem (by omega)]
  exact List.getElem_mem (by omega)
end Go.Proofs.YthjklcodgcojbaaDoor
