/- The order of texts. -/
import Derived.Test.YthjklcodgcojbaaDoorKit3
import Derived.Lib.Bytealg
namespace Go.RowKit
theorem less_irrefl : ∀ a : List UInt8, Op.bytesLess a a = false
  | [] => rfl
  | x :: a => by
    simp only [Op.bytesLess, less_irrefl a, Bool.and_false, Bool.or_false, decide_eq_false_iff_not]
    exact UInt8.lt_irrefl x
theorem less_trans : ∀ a b c : List UInt8, Op.bytesLess a b = true → Op.bytesLess b c = true → Op.bytesLess a c = true
  | _, [], _, h, _ => by cases ‹List UInt8› <;> simp [Op.bytesLess] at h
  | _, _ :: _, [], _, h => by simp [Op.bytesLess] at h
  | [], _ :: _, _ :: _, _, _ => rfl
  | x :: a, y :: b, z :: c, h, k => by
    simp only [Op.bytesLess, Bool.or_eq_true, decide_eq_true_eq, Bool.and_eq_true, beq_iff_eq] at h k ⊢
    rcases h with h | ⟨rfl, h⟩
    · rcases k with k | ⟨rfl, k⟩
      · exact .inl (UInt8.lt_trans h k)
      · exact .inl h
    · rcases k with k | ⟨rfl, k⟩
      · exact .inl k
      · exact .inr ⟨rfl, less_trans a b c h k⟩
theorem cmp_lt : ∀ a b : List UInt8, (Lib.compareBytes a b < 0) ↔ Op.bytesLess a b = true
  | [], [] => by simp [Lib.compareBytes, Op.bytesLess]
  | [], _ :: _ => by simp [Lib.compareBytes, Op.bytesLess]
  | _ :: _, [] => by simp [Lib.compareBytes, Op.bytesLess]
  | x :: a, y :: b => by
    have ih := cmp_lt a b
    simp only [Lib.compareBytes, Op.bytesLess, Bool.or_eq_true, decide_eq_true_eq, Bool.and_eq_true, beq_iff_eq]
    by_cases h : x < y
    · simp [h]
    · rw [if_neg h]
      by_cases k : y < x
      · rw [if_pos k]
        have hne : x ≠ y := fun e => by subst e; exact UInt8.lt_irrefl _ k
        simp [h, hne]
      · rw [if_neg k]
        have he : x = y := UInt8.le_antisymm (UInt8.not_lt.1 k) (UInt8.not_lt.1 h)
        simp [he, ih]
theorem cmp_zero : ∀ a b : List UInt8, (Lib.compareBytes a b = 0) ↔ a = b
  | [], [] => by simp [Lib.compareBytes]
  | [], _ :: _ => by simp [Lib.compareBytes]
  | _ :: _, [] => by simp [Lib.compareBytes]
  | x :: a, y :: b => by
    have ih := cmp_zero a b
    simp only [Lib.compareBytes, List.cons.injEq]
    by_cases h : x < y
    · have hne : x ≠ y := fun e => by subst e; exact UInt8.lt_irrefl _ h
      simp [h, hne]
    · rw [if_neg h]
      by_cases k : y < x
      · rw [if_pos k]
        have hne : x ≠ y := fun e => by subst e; exact UInt8.lt_irrefl _ k
        simp [hne]
      · rw [if_neg k]
        have he : x = y := UInt8.le_antisymm (UInt8.not_lt.1 k) (UInt8.not_lt.1 h)
        simp [he, ih]
/-- One text is before another. -/
def bl (a b : ByteArray) : Bool := Op.bytesLess a.toList b.toList
theorem bl_irrefl (a : ByteArray) : bl a a = false := less_irrefl _
theorem bl_trans {a b c : ByteArray} (h : bl a b = true) (k : bl b c = true) : bl a c = true := less_trans _ _ _ h k
theorem toList_inj {a b : ByteArray} (h : a.data.toList = b.data.toList) : a = b := ByteArray.ext (Array.ext' h)
theorem bl_cmp (a b : ByteArray) : decide (Lib.compareBytes a.data.toList b.data.toList < 0) = bl a b := by
  rw [Bool.eq_iff_iff, decide_eq_true_eq, cmp_lt, bl, ByteArray.toList_eq, ByteArray.toList_eq]
theorem bl_zero (a b : ByteArray) : (Lib.compareBytes a.data.toList b.data.toList == 0) = decide (a = b) := by
  rw [Bool.eq_iff_iff, beq_iff_eq, decide_eq_true_eq, cmp_zero]
  exact ⟨toList_inj, fun e => by rw [e]⟩
theorem bl_total (a b : ByteArray) (h : bl a b = false) (k : bl b a = false) : a = b := by
  rw [← bl_cmp, decide_eq_false_iff_not] at h k
  have : Lib.compareBytes a.data.toList b.data.toList = 0 := by
    have key : ∀ x y : List UInt8, ¬ Lib.compareBytes x y < 0 → ¬ Lib.compareBytes y x < 0 → Lib.compareBytes x y = 0 := by
      intro x
      induction x with
      | nil => intro y; cases y <;> simp [Lib.compareBytes]
      | cons p x ih =>
        intro y
        cases y with
        | nil => simp [Lib.compareBytes]
        | cons q y =>
          simp only [Lib.compareBytes]
          by_cases h1 : p < q
          · simp [h1]
          · by_cases h2 : q < p
            · simp [h1, h2]
            · simp only [h1, h2, if_false]
              exact ih y
    exact key _ _ h k
  exact toList_inj ((cmp_zero _ _).1 this)
end Go.RowKit
