/- Joined captures, numbers requested twice: what the laws of captures say, in plain words. -/
import Derived.Test.YtljknhocfjpolaaGreatDoorKWSortL
import Derived.Test.YtljknhocfjpolaaGreatDoorKWBytes
import Derived.Test.YtljknhocfjpolaaGreatDoorKWTwice3
namespace Go.Proofs.YtljknhocfjpolaaGreatDoor
open Go.RowKit
set_option maxHeartbeats 400000
theorem insR_perm (x : Cap) : ∀ S, (insR x S).Perm (x :: S)
  | [] => List.Perm.refl _
  | z :: S => by
    rw [insR]
    split
    · exact ((insR_perm x S).cons z).trans (List.Perm.swap x z S)
    · exact List.Perm.refl _
theorem insTo_perm (xs : List Cap) : ∀ k, k ≤ xs.length → (insTo xs k).Perm (xs.take k)
  | 0, _ => by rw [List.take_zero]; exact List.Perm.refl _
  | k + 1, hk => by
    rw [insTo, take_snoc xs .z k (by omega)]
    exact (insR_perm _ _).trans (((insTo_perm xs k (by omega)).cons _).trans (List.perm_append_singleton _ _).symm)
theorem mg_perm {a b : List Cap} (ha : capB a = true) (hb : capB b = true) : (mg a b).Perm (a ++ b) := by
  rw [← insTo_all a b (srt_of ha) (srt_of hb)]
  have := insTo_perm (a ++ b) (a ++ b).length (Nat.le_refl _)
  rwa [List.take_length] at this
theorem mg_len {a b : List Cap} (ha : capB a = true) (hb : capB b = true) : (mg a b).length = a.length + b.length := by
  rw [(mg_perm ha hb).length_eq, List.length_append]
theorem capB_of {xs : List Cap} (h1 : xs.length ≤ 10) (h2 : ∀ x ∈ xs, okC x = true) (h3 : xs.Pairwise (fun a b => a.t ≤ b.t)) : capB xs = true := by
  rw [cap_all, decide_eq_true h1]
  intro i hi
  rw [Bool.and_eq_true]
  refine ⟨h2 _ (mem_cap hi), ?_⟩
  rw [ordC]
  by_cases h0 : i = 0
  · subst h0; rfl
  · rw [Bool.or_eq_true, decide_eq_true_eq]
    right
    rw [List.pairwise_iff_getElem] at h3
    have := h3 (i - 1) i (by omega) hi (by omega)
    rwa [List.getD_eq_getElem?_getD, List.getD_eq_getElem?_getD, List.getElem?_eq_getElem hi, List.getElem?_eq_getElem (by omega)]
theorem cap_mem {xs : List Cap} (h : capB xs = true) : ∀ x ∈ xs, okC x = true := fun x hx => by
  obtain ⟨i, hi, rfl⟩ := List.mem_iff_getElem.1 hx
  have := ((cap_iff h).2 i hi).1
  rwa [List.getD_eq_getElem?_getD, List.getElem?_eq_getElem hi] at this
theorem capB_mg {a b : List Cap} (ha : capB a = true) (hb : capB b = true) (hl : a.length + b.length ≤ 10) : capB (mg a b) = true := by
  have hp := mg_perm ha hb
  refine capB_of (by rw [mg_len ha hb]; exact hl) (fun x hx => ?_) ?_
  · rcases List.mem_append.1 (hp.subset hx) with h | h
    · exact cap_mem ha x h
    · exact cap_mem hb x h
  · rw [← insTo_all a b (srt_of ha) (srt_of hb)]
    exact insTo_sorted _ _
/-- The octets of all, as a sum. -/
def octs (xs : List Cap) : Int := (xs.map fun x => 10 + (x.d.size : Int)).sum
theorem seenTo_sum (xs : List Cap) : ∀ k, k ≤ xs.length → seenTo xs k = octs (xs.take k)
  | 0, _ => by simp [seenTo, octs]
  | k + 1, hk => by
    rw [seenTo, seenTo_sum xs k (by omega), take_snoc xs .z k (by omega)]
    simp [octs]
theorem seen_sum {xs : List Cap} (h : capB xs = true) : seen xs = octs xs := by
  rw [seen_yes h, seenTo_sum xs _ (Nat.le_refl _), List.take_length]
theorem octs_perm {xs ys : List Cap} (h : xs.Perm ys) : octs xs = octs ys := by
  induction h with
  | nil => rfl
  | cons x _ ih => simp only [octs, List.map_cons, List.sum_cons] at *; omega
  | swap x y l => simp only [octs, List.map_cons, List.sum_cons]; omega
  | trans _ _ a b => exact a.trans b
theorem octs_app (xs ys : List Cap) : octs (xs ++ ys) = octs xs + octs ys := by simp [octs]
theorem seen_mg {a b : List Cap} (ha : capB a = true) (hb : capB b = true) (hl : a.length + b.length ≤ 10) : seen a + seen b = seen (mg a b) := by
  rw [seen_sum ha, seen_sum hb, seen_sum (capB_mg ha hb hl), octs_perm (mg_perm ha hb), octs_app]
/-- A number that was requested twice belongs to a request on its way up. -/
theorem twL_in (xs : List Cap) : ∀ i, i ≤ xs.length → ∀ y ∈ twL xs i, ∃ x ∈ xs, x.c = 3 ∧ x.u = true ∧ x.m = y
  | 0, _, y, hy => by cases hy
  | i + 1, hi, y, hy => by
    rw [twL] at hy
    split at hy
    · rename_i h
      rcases (put_mem _ _ _).1 hy with h2 | rfl
      · exact twL_in xs i (by omega) y h2
      · simp only [twB, Bool.and_eq_true, beq_iff_eq] at h
        exact ⟨_, mem_cap (by omega), h.1.1, h.1.2, rfl⟩
    · exact twL_in xs i (by omega) y hy
theorem twR_in {xs : List Cap} (h : capB xs = true) : ∀ y ∈ twR xs, ∃ x ∈ xs.filter (fun x => x.c == 3), x.u = true ∧ x.m = y := by
  intro y hy
  rw [twR_yes h] at hy
  obtain ⟨x, hx, h1, h2, h3⟩ := twL_in xs _ (Nat.le_refl _) y hy
  exact ⟨x, List.mem_filter.2 ⟨hx, by rw [h1]; rfl⟩, h2, h3⟩
theorem repN_pos (xs : List Cap) (q : Int) : 0 ≤ repN xs q := by
  cases h : repB xs q
  · rw [rep_no h]; exact Int.le_refl _
  · rw [rep_yes h]
    have h9 := h
    simp only [repB, Bool.and_eq_true, decide_eq_true_eq] at h9
    obtain ⟨i, hi, e1, -⟩ := hitC_lt (p := isReq q) (xs := xs) h9.2.2.1
    have hr : reqI xs q = i := e1
    have h4 := h9.2.2.2
    rw [repI, hr, Int.toNat_natCast] at h4
    obtain ⟨k, hk, e2, -⟩ := hitC_lt h4
    rw [repI, hr, Int.toNat_natCast, e2, Int.toNat_natCast]
    rw [List.length_drop] at hk
    have := srt_of h9.1 i (i + k) (by omega) (by omega)
    omega
end Go.Proofs.YtljknhocfjpolaaGreatDoor
