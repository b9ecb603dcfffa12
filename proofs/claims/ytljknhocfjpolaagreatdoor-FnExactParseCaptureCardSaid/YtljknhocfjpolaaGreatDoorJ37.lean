/- The reference's membership. Rows that ascend. -/
import Derived.Test.YtljknhocfjpolaaGreatDoorJ30
namespace Go.Proofs.YtljknhocfjpolaaGreatDoor
open Go.RowKit
set_option maxHeartbeats 400000
theorem contains_at {xs : List Int} {k : Nat} (h : k < xs.length) (x : Int) (e : xs.getD k 0 = x) : xs.contains x = true := by
  rw [List.contains_iff_mem, ← e, List.getD_eq_getElem?_getD, List.getElem?_eq_getElem h]; exact List.getElem_mem h
theorem contains_no {xs : List Int} (x : Int) (h : ∀ i, i < xs.length → ¬ xs.getD i 0 = x) : xs.contains x = false := by
  rw [← Bool.not_eq_true, List.contains_iff_mem]
  intro hm
  obtain ⟨i, hi, e⟩ := List.mem_iff_getElem.1 hm
  refine h i hi ?_
  rw [List.getD_eq_getElem?_getD, List.getElem?_eq_getElem hi]; exact e
end Go.Proofs.YtljknhocfjpolaaGreatDoor
namespace Go.Proofs.YtljknhocfjpolaaGreatDoor
open Go.RowKit
set_option maxHeartbeats 400000
def asc (L : List Int) : Prop := L.Pairwise (· < ·)
theorem asc_take {L : List Int} (h : asc L) (k : Nat) (hk : k < L.length) : (L.take k).contains (L.getD k 0) = false := by
  rw [← Bool.not_eq_true, List.contains_iff_mem]
  intro hm
  obtain ⟨i, hi, e⟩ := List.mem_iff_getElem.1 hm
  have hi' : i < k := by rw [List.length_take] at hi; omega
  rw [List.getElem_take, List.getD_eq_getElem?_getD, List.getElem?_eq_getElem hk, Option.getD_some] at e
  have := (List.pairwise_iff_getElem.1 h) i k (by omega) hk hi'
  omega
def put (L : List Int) (x : Int) : List Int := L.filter (fun y => decide (y < x)) ++ x :: L.filter (fun y => decide (x < y))
theorem put_mem (L : List Int) (x y : Int) : y ∈ put L x ↔ y ∈ L ∨ y = x := by
  unfold put
  simp only [List.mem_append, List.mem_filter, List.mem_cons, decide_eq_true_eq]
  constructor
  · rintro (⟨h, _⟩ | rfl | ⟨h, _⟩)
    · exact .inl h
    · exact .inr rfl
    · exact .inl h
  · rintro (h | rfl)
    · rcases Int.lt_trichotomy y x with h1 | h1 | h1
      · exact .inl ⟨h, h1⟩
      · exact .inr (.inl h1)
      · exact .inr (.inr ⟨h, h1⟩)
    · exact .inr (.inl rfl)
theorem put_asc {L : List Int} (h : asc L) (x : Int) : asc (put L x) := by
  unfold asc put
  refine List.pairwise_append.2 ⟨h.filter _, List.pairwise_cons.2 ⟨?_, h.filter _⟩, ?_⟩
  · intro y hy; simpa using (List.mem_filter.1 hy).2
  · intro a ha b hb
    have h1 : a < x := by simpa using (List.mem_filter.1 ha).2
    rcases List.mem_cons.1 hb with rfl | hb
    · exact h1
    · have h2 : x < b := by simpa using (List.mem_filter.1 hb).2
      omega
theorem filter_split {L : List Int} (h : asc L) (x : Int) : L.filter (fun y => decide (y < x)) = L.take (L.countP (fun y => decide (y < x))) ∧ L.filter (fun y => decide (x ≤ y)) = L.drop (L.countP (fun y => decide (y < x))) := by
  induction L with
  | nil => simp
  | cons y L ih =>
    obtain ⟨h1, h2⟩ := List.pairwise_cons.1 h
    obtain ⟨i1, i2⟩ := ih h2
    by_cases hy : y < x
    · have hy' : ¬ x ≤ y := by omega
      simp only [List.filter_cons, hy, hy', decide_true, decide_false, if_true, List.countP_cons_of_pos, List.take_succ_cons, List.drop_succ_cons, Bool.false_eq_true, if_false]
      exact ⟨by rw [i1], i2⟩
    · have hy' : x ≤ y := by omega
      have e0 : L.countP (fun y => decide (y < x)) = 0 := by
        rw [List.countP_eq_zero]
        intro z hz
        have := h1 z hz
        simp; omega
      rw [e0] at i1 i2
      simp only [List.filter_cons, hy, hy', decide_true, decide_false, if_true, Bool.false_eq_true, if_false]
      rw [List.countP_cons_of_neg (p := fun y => decide (y < x)) (by simpa using hy'), e0]
      exact ⟨by rw [i1]; rfl, by rw [i2]; rfl⟩
theorem put_in {L : List Int} (h : asc L) {x : Int} (hx : x ∈ L) : put L x = L := by
  induction L with
  | nil => cases hx
  | cons y L ih =>
    obtain ⟨h1, h2⟩ := List.pairwise_cons.1 h
    unfold put
    rcases List.mem_cons.1 hx with rfl | hx
    · have e1 : (x :: L).filter (fun z => decide (z < x)) = [] := by
        rw [List.filter_eq_nil_iff]
        intro z hz
        rcases List.mem_cons.1 hz with rfl | hz
        · simp
        · have := h1 z hz; simp; omega
      have e2 : (x :: L).filter (fun z => decide (x < z)) = L := by
        rw [List.filter_cons, if_neg (by simp)]
        exact List.filter_eq_self.2 (fun z hz => by simpa using h1 z hz)
      rw [e1, e2]; rfl
    · have hlt := h1 x hx
      have := ih h2 hx
      unfold put at this
      rw [List.filter_cons, if_pos (by simpa using hlt), List.filter_cons, if_neg (by simp; omega), List.cons_append, this]
theorem put_out {L : List Int} (h : asc L) {x : Int} (hx : L.contains x = false) : put L x = L.take (L.countP (fun y => decide (y < x))) ++ x :: L.drop (L.countP (fun y => decide (y < x))) := by
  obtain ⟨h1, h2⟩ := filter_split h x
  unfold put
  rw [h1, ← h2]
  congr 2
  apply List.filter_congr
  intro y hy
  have : y ≠ x := fun e => by subst e; rw [List.contains_iff_mem.2 hy] at hx; cases hx
  rw [Bool.eq_iff_iff]; simp; omega
theorem put_len (L : List Int) (x : Int) : (put L x).length ≤ L.length + 1 := by
  unfold put
  rw [List.length_append, List.length_cons]
  have : (L.filter (fun y => decide (y < x))).length + (L.filter (fun y => decide (x < y))).length ≤ L.length := by
    induction L with
    | nil => simp
    | cons y L ih =>
      simp only [List.filter_cons]
      split <;> split <;> simp_all <;> omega
  omega
theorem rd_lit (w : World) (cs : Array Value) : Rd (w.alloc (.cells cs 3)) 1 (.slice (some ⟨w.heap.size, 0, none⟩) cs.size cs.size) cs.size cs.toList := by
  refine ⟨by simp, _, _, rfl, .inr ⟨w.heap.size, 0, rfl, fun j hj => ?_⟩⟩
  rw [Nat.zero_add, cell_of_row _ _ j _ _ (0, 0) (heap_at _ rfl)]
  simp at hj
  simp [hj]
theorem mem_getD {L : List Int} {k : Nat} (h : k < L.length) : L.getD k 0 ∈ L := by
  rw [List.getD_eq_getElem?_getD, List.getElem?_eq_getElem h]; exact List.getElem_mem h
def slc (a : Option Addr) (l h m : Nat) : Value := .slice (if m = l then a else a.map (·.add (l * 1))) (h - l) (m - l)
theorem own_form {w : World} {base e k n : Nat} {v : Value} {cs : List Value} (h : w.ownsRow base e k v n cs) (hn : 0 < n) : ∃ g cap, v = .slice (some ⟨g, 0, none⟩) n cap := by
  obtain ⟨h1, ⟨rfl, h0⟩ | ⟨g, cap, cur, rfl, hB, _⟩⟩ := h
  · omega
  · exact ⟨g, cap, rfl⟩
end Go.Proofs.YtljknhocfjpolaaGreatDoor
