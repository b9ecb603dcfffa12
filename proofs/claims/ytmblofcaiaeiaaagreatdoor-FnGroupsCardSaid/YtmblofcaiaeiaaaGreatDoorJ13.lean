/- Lists of groups in the laws' own words: comparisons, sizes, marks. The order of texts. -/
import Derived.Test.YtmblofcaiaeiaaaGreatDoorKWGs2
import Derived.Test.YtmblofcaiaeiaaaGreatDoorJ3
import Derived.Lib.Bytealg
namespace Go.Proofs.YtmblofcaiaeiaaaGreatDoor
open Go.RowKit
set_option maxHeartbeats 400000
set_option maxRecDepth 100000
/-- Bytes and members of all groups. -/
def Grp.sum (gs : List Grp) : Nat := (gs.map (fun g => g.s.size + g.xs.length)).sum
theorem Grp.sum_take (gs : List Grp) (k : Nat) (h : k < gs.length) : Grp.sum (gs.take (k + 1)) = Grp.sum (gs.take k) + ((gs.getD k .z).s.size + (gs.getD k .z).xs.length) := by
  rw [take_snoc gs .z k h]
  simp [Grp.sum]
theorem Grp.sum_le (gs : List Grp) (k : Nat) : Grp.sum (gs.take k) ≤ Grp.sum gs := by
  have : Grp.sum gs = Grp.sum (gs.take k) + Grp.sum (gs.drop k) := by
    unfold Grp.sum
    rw [← List.sum_append, ← List.map_append, List.take_append_drop]
  omega
theorem Grp.sum_at {gs : List Grp} {n : Nat} (h2 : Grp.sum gs ≤ n) {k : Nat} (hk : k < gs.length) : (gs.getD k .z).s.size ≤ n ∧ (gs.getD k .z).xs.length ≤ n := by
  have h1 := Grp.sum_take gs k hk
  have h3 := Grp.sum_le gs (k + 1)
  omega
/-- How many marks a list of groups takes. -/
def gtot (gs : List Grp) : Nat := (gs.map (fun g => 1 + g.xs.length)).sum
theorem gtot_take (gs : List Grp) (k : Nat) (h : k < gs.length) : gtot (gs.take (k + 1)) = gtot (gs.take k) + (1 + (gs.getD k .z).xs.length) := by
  rw [take_snoc gs .z k h]
  simp [gtot]
theorem gtot_le (gs : List Grp) (k : Nat) : gtot (gs.take k) ≤ gtot gs := by
  have : gtot gs = gtot (gs.take k) + gtot (gs.drop k) := by
    unfold gtot
    rw [← List.sum_append, ← List.map_append, List.take_append_drop]
  omega
theorem gtot_sum (gs : List Grp) : gtot gs ≤ gs.length + Grp.sum gs := by
  induction gs with
  | nil => simp [gtot, Grp.sum]
  | cons g gs ih =>
    simp only [gtot, Grp.sum, List.map_cons, List.sum_cons, List.length_cons] at *
    omega
def mkG (k0 : Int) : List Grp → List Grp
  | [] => []
  | g :: gs => ⟨mtext k0, marks g.xs.length (k0 + 1)⟩ :: mkG (k0 + (1 + g.xs.length : Nat)) gs
theorem mkG_len (k0 : Int) (gs : List Grp) : (mkG k0 gs).length = gs.length := by
  induction gs generalizing k0 with
  | nil => rfl
  | cons g gs ih => simp [mkG, ih]
theorem mkG_at (gs : List Grp) : ∀ (k0 : Int) (i : Nat), i < gs.length → (mkG k0 gs).getD i .z = ⟨mtext (k0 + gtot (gs.take i)), marks (gs.getD i .z).xs.length (k0 + gtot (gs.take i) + 1)⟩ := by
  induction gs with
  | nil => intro k0 i h; simp at h
  | cons g gs ih =>
    intro k0 i h
    cases i with
    | zero => simp [mkG, gtot]
    | succ i =>
      have e : k0 + (1 + g.xs.length : Nat) + (gtot (gs.take i) : Int) = k0 + (gtot ((g :: gs).take (i + 1)) : Int) := by
        simp only [List.take_succ_cons, gtot, List.map_cons, List.sum_cons]
        omega
      rw [mkG, List.getD_cons_succ, ih _ i (by simpa using h), List.getD_cons_succ, e]
/-- The first k groups marked. -/
def mkTo (k0 : Int) (gs : List Grp) (k : Nat) : List Grp := (mkG k0 gs).take k ++ gs.drop k
theorem mkTo_len (k0 : Int) (gs : List Grp) (k : Nat) (h : k ≤ gs.length) : (mkTo k0 gs k).length = gs.length := by
  rw [mkTo, List.length_append, List.length_take, List.length_drop, mkG_len]
  omega
theorem mkTo_zero (k0 : Int) (gs : List Grp) : mkTo k0 gs 0 = gs := by simp [mkTo]
theorem mkTo_all (k0 : Int) (gs : List Grp) : mkTo k0 gs gs.length = mkG k0 gs := by
  rw [mkTo, List.drop_length, List.append_nil, List.take_of_length_le (by rw [mkG_len]; omega)]
theorem mkTo_at (k0 : Int) (gs : List Grp) (k : Nat) (h : k < gs.length) : (mkTo k0 gs k).getD k .z = gs.getD k .z := by
  rw [mkTo, List.getD_eq_getElem?_getD, List.getElem?_append_right (by rw [List.length_take, mkG_len]; omega), List.length_take, mkG_len, Nat.min_eq_left (by omega), Nat.sub_self, List.getElem?_drop, Nat.add_zero, List.getD_eq_getElem?_getD]
theorem mkTo_set (k0 : Int) (gs : List Grp) (k : Nat) (h : k < gs.length) : (mkTo k0 gs k).set k ((mkG k0 gs).getD k .z) = mkTo k0 gs (k + 1) := by
  unfold mkTo
  have hl : ((mkG k0 gs).take k).length = k := by rw [List.length_take, mkG_len]; omega
  rw [List.set_append_right _ _ (by omega), hl, Nat.sub_self, take_snoc (mkG k0 gs) .z k (by rw [mkG_len]; exact h), List.append_assoc]
  rw [List.drop_eq_getElem_cons h]
  rfl
end Go.Proofs.YtmblofcaiaeiaaaGreatDoor
namespace Go.RowKit
theorem less_irrefl : ∀ a : List UInt8, Op.bytesLess a a = false
  | [] => rfl
  | x :: a => by
    simp only [Op.bytesLess, less_irrefl a, Bool.and_false, Bool.or_false, decide_eq_false_iff_not]
    exact UInt8.lt_irrefl x
theorem less_trans : ∀ a b c : List UInt8, Op.bytesLess a b = true → Op.bytesLess b c = true → Op.bytesLess a c = true
  | _, [], _, h, _ => by cases ‹List UInt8› <;> simp [Op.bytesLess] at h
  | _, _ :: _, [], _, h => by simp [Op.bytesLess] at h
  | [], _ :: _, _ :: _, _, _ => rfl
  | x :: a, y :: b, z :: c, h, k => by
    simp only [Op.bytesLess, Bool.or_eq_true, decide_eq_true_eq, Bool.and_eq_true, beq_iff_eq] at h k ⊢
    rcases h with h | ⟨rfl, h⟩
    · rcases k with k | ⟨rfl, k⟩
      · exact .inl (UInt8.lt_trans h k)
      · exact .inl h
    · rcases k with k | ⟨rfl, k⟩
      · exact .inl k
      · exact .inr ⟨rfl, less_trans a b c h k⟩
theorem cmp_lt : ∀ a b : List UInt8, (Lib.compareBytes a b < 0) ↔ Op.bytesLess a b = true
  | [], [] => by simp [Lib.compareBytes, Op.bytesLess]
  | [], _ :: _ => by simp [Lib.compareBytes, Op.bytesLess]
  | _ :: _, [] => by simp [Lib.compareBytes, Op.bytesLess]
  | x :: a, y :: b => by
    have ih := cmp_lt a b
    simp only [Lib.compareBytes, Op.bytesLess, Bool.or_eq_true, decide_eq_true_eq, Bool.and_eq_true, beq_iff_eq]
    by_cases h : x < y
    · simp [h]
    · rw [if_neg h]
      by_cases k : y < x
      · rw [if_pos k]
        have hne : x ≠ y := fun e => by subst e; exact UInt8.lt_irrefl _ k
        simp [h, hne]
      · rw [if_neg k]
        have he : x = y := UInt8.le_antisymm (UInt8.not_lt.1 k) (UInt8.not_lt.1 h)
        simp [he, ih]
theorem cmp_zero : ∀ a b : List UInt8, (Lib.compareBytes a b = 0) ↔ a = b
  | [], [] => by simp [Lib.compareBytes]
  | [], _ :: _ => by simp [Lib.compareBytes]
  | _ :: _, [] => by simp [Lib.compareBytes]
  | x :: a, y :: b => by
    have ih := cmp_zero a b
    simp only [Lib.compareBytes, List.cons.injEq]
    by_cases h : x < y
    · have hne : x ≠ y := fun e => by subst e; exact UInt8.lt_irrefl _ h
      simp [h, hne]
    · rw [if_neg h]
      by_cases k : y < x
      · rw [if_pos k]
        have hne : x ≠ y := fun e => by subst e; exact UInt8.lt_irrefl _ k
        simp [hne]
      · rw [if_neg k]
        have he : x = y := UInt8.le_antisymm (UInt8.not_lt.1 k) (UInt8.not_lt.1 h)
        simp [he, ih]
/-- One text is before another. -/
def bl (a b : ByteArray) : Bool := Op.bytesLess a.toList b.toList
theorem bl_irrefl (a : ByteArray) : bl a a = false := less_irrefl _
theorem bl_trans {a b c : ByteArray} (h : bl a b = true) (k : bl b c = true) : bl a c = true := less_trans _ _ _ h k
theorem toList_inj {a b : ByteArray} (h : a.data.toList = b.data.toList) : a = b := ByteArray.ext (Array.ext' h)
theorem bl_cmp (a b : ByteArray) : decide (Lib.compareBytes a.data.toList b.data.toList < 0) = bl a b := by
  rw [Bool.eq_iff_iff, decide_eq_true_eq, cmp_lt, bl, ByteArray.toList_eq, ByteArray.toList_eq]
theorem bl_zero (a b : ByteArray) : (Lib.compareBytes a.data.toList b.data.toList == 0) = decide (a = b) := by
  rw [Bool.eq_iff_iff, beq_iff_eq, decide_eq_true_eq, cmp_zero]
  exact ⟨toList_inj, fun e => by rw [e]⟩
theorem bl_total (a b : ByteArray) (h : bl a b = false) (k : bl b a = false) : a = b := by
  rw [← bl_cmp, decide_eq_false_iff_not] at h k
  have : Lib.compareBytes a.data.toList b.data.toList = 0 := by
    have key : ∀ x y : List UInt8, ¬ Lib.compareBytes x y < 0 → ¬ Lib.compareBytes y x < 0 → Lib.compareBytes x y = 0 := by
      intro x
      induction x with
      | nil => intro y; cases y <;> simp [Lib.compareBytes]
      | cons p x ih =>
        intro y
        cases y with
        | nil => simp [Lib.compareBytes]
        | cons q y =>
          simp only [Lib.compareBytes]
          by_cases h1 : p < q
          · simp [h1]
          · by_cases h2 : q < p
            · simp [h1, h2]
            · simp only [h1, h2, if_false]
              exact ih y
    exact key _ _ h k
  exact toList_inj ((cmp_zero _ _).1 this)
end Go.RowKit
