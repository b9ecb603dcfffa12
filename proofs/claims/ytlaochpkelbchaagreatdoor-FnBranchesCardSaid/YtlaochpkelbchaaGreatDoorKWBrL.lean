/- What the law of branches says, in plain words. -/
import Derived.Test.YtlaochpkelbchaaGreatDoorKWBr
namespace Go.Proofs.YtlaochpkelbchaaGreatDoor
open Go.RowKit
set_option maxHeartbeats 400000
theorem asc_unique : ∀ {A B : List Int}, asc A → asc B → (∀ y, y ∈ A ↔ y ∈ B) → A = B
  | [], [], _, _, _ => rfl
  | [], b :: B, _, _, h => by have := (h b).2 (by simp); cases this
  | a :: A, [], _, _, h => by have := (h a).1 (by simp); cases this
  | a :: A, b :: B, hA, hB, h => by
    obtain ⟨a1, a2⟩ := List.pairwise_cons.1 hA
    obtain ⟨b1, b2⟩ := List.pairwise_cons.1 hB
    have e : a = b := by
      rcases List.mem_cons.1 ((h a).1 (by simp)) with h1 | h1
      · exact h1
      · rcases List.mem_cons.1 ((h b).2 (by simp)) with h2 | h2
        · exact h2.symm
        · have := b1 a h1; have := a1 b h2; omega
    subst e
    rw [asc_unique a2 b2 fun y => ?_]
    constructor
    · intro hy
      rcases List.mem_cons.1 ((h y).1 (by simp [hy])) with h1 | h1
      · subst h1; have := a1 y hy; omega
      · exact h1
    · intro hy
      rcases List.mem_cons.1 ((h y).2 (by simp [hy])) with h1 | h1
      · subst h1; have := b1 y hy; omega
      · exact h1
theorem asc_range {S : List Int} {n : Nat} (hS : asc S) (hb : ∀ y ∈ S, 0 ≤ y ∧ y < n) : S = ((List.range n).filter (fun i : Nat => S.contains (i : Int))).map (fun i : Nat => (i : Int)) := by
  refine asc_unique hS ?_ (fun y => ?_)
  · refine List.Pairwise.map _ (R := fun a b : Nat => a < b) (fun a b h => by omega) ?_
    exact (List.pairwise_lt_range).filter _
  · rw [List.mem_map]
    constructor
    · intro hy
      have := hb y hy
      exact ⟨y.toNat, List.mem_filter.2 ⟨List.mem_range.2 (by omega), by rw [Int.toNat_of_nonneg this.1]; exact List.contains_iff_mem.2 hy⟩, by omega⟩
    · rintro ⟨i, hi, rfl⟩
      exact List.contains_iff_mem.1 (List.mem_filter.1 hi).2
theorem count_two {α : Type} (p q r : α → Bool) : ∀ l : List α, (∀ x ∈ l, r x = (p x || q x) ∧ (p x && q x) = false) → (l.filter r).length = (l.filter p).length + (l.filter q).length
  | [], _ => rfl
  | x :: l, h => by
    have ih := count_two p q r l (fun y hy => h y (by simp [hy]))
    obtain ⟨h1, h2⟩ := h x (by simp)
    cases hp : p x <;> cases hq : q x <;> rw [hp, hq] at h1 h2
    · rw [List.filter_cons_of_neg (by rw [h1]; simp), List.filter_cons_of_neg (by rw [hp]; simp), List.filter_cons_of_neg (by rw [hq]; simp), ih]
    · rw [List.filter_cons_of_pos (by rw [h1]; rfl), List.filter_cons_of_neg (by rw [hp]; simp), List.filter_cons_of_pos hq, List.length_cons, List.length_cons, ih]; omega
    · rw [List.filter_cons_of_pos (by rw [h1]; rfl), List.filter_cons_of_pos hp, List.filter_cons_of_neg (by rw [hq]; simp), List.length_cons, List.length_cons, ih]; omega
    · cases h2
theorem up_self {ps : List Int} (hg : goodT ps = true) {x : Int} (h0 : 0 ≤ x) (h1 : x < ps.length) : x ∈ up ps x := by rw [up_step hg h0 h1]; simp
theorem up_root {ps : List Int} (hg : goodT ps = true) : ∀ (n : Nat) (x : Int), x < n → 0 ≤ x → x < ps.length → (0 : Int) ∈ up ps x
  | 0, x, h, h0, _ => by omega
  | n + 1, x, h, h0, h1 => by
    rw [up_step hg h0 h1]
    by_cases hx : x = 0
    · subst hx; simp
    · have := goodT_get hg x.toNat (by omega) (by omega)
      exact List.mem_cons_of_mem _ (up_root hg n _ (by omega) (by omega) (by omega))
/-- How many branches the first k nodes have. -/
def brTo (ps : List Int) (s : ByteArray) (ms : List Int) : Nat → Nat
  | 0 => 0
  | k + 1 => brTo ps s ms k + (brL ps s ms (k : Int)).length
theorem kids_filter (ps : List Int) (x : Int) (S : List Int) (n : Nat) : ((kids ps x n).filter (fun y => S.contains y)).length = ((List.range n).filter (fun i : Nat => decide (1 ≤ i) && (ps.getD i 0 == x) && S.contains (i : Int))).length := by
  rw [kids, List.filter_map, List.length_map, List.filter_filter]
  congr 1
  apply List.filter_congr
  intro i _
  show (S.contains (i : Int) && _) = _
  rw [Bool.and_comm]
theorem brTo_eq {ps : List Int} {s : ByteArray} {ms : List Int} (h : nfB ps s ms = true) : ∀ k, k ≤ ps.length → brTo ps s ms k = ((List.range ps.length).filter (fun i : Nat => decide (1 ≤ i) && decide (ps.getD i 0 < (k : Int)) && (nfL ps s ms).contains (i : Int))).length
  | 0, _ => by
    have hg := (nfB_all h).2.1
    rw [brTo, eq_comm, List.length_eq_zero_iff, List.filter_eq_nil_iff]
    intro i hi hc
    have hi := List.mem_range.1 hi
    simp only [Bool.and_eq_true, decide_eq_true_eq] at hc
    have := goodT_get hg i hi (by omega)
    omega
  | k + 1, hk => by
    have hg := (nfB_all h).2.1
    have hb : brB ps s ms (k : Int) = true := by rw [brB, h, Bool.true_and]; exact isNode_iff'.2 (by omega)
    rw [brTo, brTo_eq h k (by omega), brL_yes hb, kids_filter]
    refine (count_two _ _ _ _ fun i hi => ?_).symm
    have hi := List.mem_range.1 hi
    rw [Bool.eq_iff_iff, ← Bool.not_eq_true]
    simp only [Bool.or_eq_true, Bool.and_eq_true, decide_eq_true_eq, beq_iff_eq]
    constructor
    · constructor
      · rintro ⟨⟨h1, h2⟩, h3⟩
        by_cases e : ps.getD i 0 = (k : Int)
        · exact .inr ⟨⟨h1, e⟩, h3⟩
        · exact .inl ⟨⟨h1, by omega⟩, h3⟩
      · rintro (⟨⟨h1, h2⟩, h3⟩ | ⟨⟨h1, h2⟩, h3⟩)
        · exact ⟨⟨h1, by omega⟩, h3⟩
        · exact ⟨⟨h1, by omega⟩, h3⟩
    · rintro ⟨⟨⟨-, h2⟩, -⟩, ⟨-, h4⟩, -⟩
      omega
theorem branches_law {ps : List Int} {s : ByteArray} {ms : List Int} (h : nfB ps s ms = true) :
    brTo ps s ms ps.length + 1 = (nfL ps s ms).length ∧ (nfL ps s ms).getD 0 0 = 0 ∧ (∀ y ∈ ms, (nfL ps s ms).contains y = true) := by
  obtain ⟨hok, hg, hm⟩ := nfB_all h
  have hl := goodT_len hg
  have hS := nfL_yes h
  have hasc : asc (nfL ps s ms) := by rw [hS]; exact fan_asc _ _
  have hin : ∀ y ∈ nfL ps s ms, 0 ≤ y ∧ y < ps.length := by rw [hS]; exact fan_nodes hg hm
  have hmem : ∀ y, y ∈ nfL ps s ms ↔ ∃ x ∈ ms, y ∈ path ps x := by rw [hS]; exact fan_mem _ _
  have h0 : (0 : Int) ∈ nfL ps s ms := by
    obtain ⟨x, hx⟩ := List.exists_mem_of_length_pos (okG_all hok).2.1
    refine (hmem 0).2 ⟨x, hx, ?_⟩
    rw [path, List.mem_reverse]
    exact up_root hg 8 x (by have := hm x hx; omega) (hm x hx).1 (hm x hx).2
  refine ⟨?_, ?_, fun y hy => ?_⟩
  · have hr := congrArg List.length (asc_range hasc hin)
    rw [List.length_map] at hr
    have hz : ((List.range ps.length).filter (fun i : Nat => decide (i = 0))).length = 1 := by
      obtain ⟨n, hn⟩ : ∃ n, ps.length = n + 1 := ⟨ps.length - 1, by omega⟩
      rw [hn, List.range_succ_eq_map, List.filter_cons_of_pos (by simp)]
      rw [List.length_cons, List.filter_eq_nil_iff.2 (fun i hi => by obtain ⟨j, -, rfl⟩ := List.mem_map.1 hi; simp)]; rfl
    rw [brTo_eq h _ (Nat.le_refl _), hr, ← hz]
    refine (count_two _ _ _ _ fun i hi => ?_).symm
    have hi := List.mem_range.1 hi
    rw [Bool.eq_iff_iff, ← Bool.not_eq_true]
    simp only [Bool.or_eq_true, Bool.and_eq_true, decide_eq_true_eq]
    constructor
    · constructor
      · intro hc
        by_cases e : i = 0
        · exact .inr e
        · exact .inl ⟨⟨by omega, by have := goodT_get hg i hi (by omega); omega⟩, hc⟩
      · rintro (⟨-, hc⟩ | rfl)
        · exact hc
        · exact List.contains_iff_mem.2 h0
    · rintro ⟨⟨⟨h1, -⟩, -⟩, h2⟩
      omega
  · generalize nfL ps s ms = S at hasc hin h0
    cases S with
    | nil => cases h0
    | cons y S =>
      rcases List.mem_cons.1 h0 with h1 | h1
      · exact h1.symm
      · have h2 := (List.pairwise_cons.1 hasc).1 0 h1
        have h3 := hin y (by simp)
        omega
  · rw [List.contains_iff_mem, hmem]
    exact ⟨y, hy, by rw [path, List.mem_reverse]; exact up_self hg (hm y hy).1 (hm y hy).2⟩
theorem brL_good {ps : List Int} {s : ByteArray} {ms : List Int} {x : Nat} (h : nfB ps s ms = true) (hx : x < ps.length) : brB ps s ms (x : Int) = true ∧ ∀ i, i < (brL ps s ms (x : Int)).length → ∃ c : Nat, (brL ps s ms (x : Int)).getD i 0 = c ∧ c < ps.length ∧ ps.getD c 0 = x ∧ (nfL ps s ms).contains (c : Int) = true := by
  have hb : brB ps s ms (x : Int) = true := by rw [brB, h, Bool.true_and]; exact isNode_iff'.2 (by omega)
  refine ⟨hb, fun i hi => ?_⟩
  rw [brL_yes hb] at hi ⊢
  have hm : ((kids ps (x : Int) ps.length).filter (fun y => (nfL ps s ms).contains y)).getD i 0 ∈ (kids ps (x : Int) ps.length).filter (fun y => (nfL ps s ms).contains y) := by
    rw [List.getD_eq_getElem?_getD, List.getElem?_eq_getElem hi]; exact List.getElem_mem hi
  obtain ⟨h1, h2⟩ := List.mem_filter.1 hm
  generalize ((kids ps (x : Int) ps.length).filter (fun y => (nfL ps s ms).contains y)).getD i 0 = y at h1 h2 ⊢
  rw [kids] at h1
  obtain ⟨c, hc, e⟩ := List.mem_map.1 h1
  obtain ⟨hc1, hc2⟩ := List.mem_filter.1 hc
  simp only [Bool.and_eq_true, decide_eq_true_eq, beq_iff_eq] at hc2
  subst e
  exact ⟨c, rfl, List.mem_range.1 hc1, hc2.2, h2⟩
theorem brTo_le (ps : List Int) (s : ByteArray) (ms : List Int) : ∀ k, brTo ps s ms k ≤ 8 * k
  | 0 => Nat.le_refl _
  | k + 1 => by
    have := brTo_le ps s ms k
    have := brL_len ps s ms (k : Int)
    rw [brTo]; omega
end Go.Proofs.YtlaochpkelbchaaGreatDoor
