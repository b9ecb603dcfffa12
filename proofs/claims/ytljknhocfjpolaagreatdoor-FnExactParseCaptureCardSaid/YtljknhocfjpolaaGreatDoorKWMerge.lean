/- Two captures joined: what is computed. -/
import Derived.Test.YtljknhocfjpolaaGreatDoorKWIsCap
namespace Go.Proofs.YtljknhocfjpolaaGreatDoor
open Go.RowKit
set_option maxHeartbeats 400000
/-- x put behind all that are not later. -/
def insR (x : Cap) : List Cap → List Cap
  | [] => [x]
  | z :: S => if z.t ≤ x.t then z :: insR x S else x :: z :: S
def mg : List Cap → List Cap → List Cap
  | [], b => b
  | x :: a, [] => x :: a
  | x :: a, y :: b => if y.t < x.t then y :: mg (x :: a) b else x :: mg a (y :: b)
theorem mg_nil_left (b : List Cap) : mg [] b = b := by unfold mg; rfl
theorem mg_nil (a : List Cap) : mg a [] = a := by cases a <;> (unfold mg; rfl)
theorem mg_lt {x y : Cap} (a b : List Cap) (h : y.t < x.t) : mg (x :: a) (y :: b) = y :: mg (x :: a) b := by rw [mg, if_pos h]
theorem mg_ge {x y : Cap} (a b : List Cap) (h : ¬ y.t < x.t) : mg (x :: a) (y :: b) = x :: mg a (y :: b) := by rw [mg, if_neg h]
theorem insR_at (x : Cap) (Q : List Cap) (hQ : ∀ z ∈ Q, x.t < z.t) : ∀ P : List Cap, (∀ z ∈ P, z.t ≤ x.t) → insR x (P ++ Q) = P ++ x :: Q
  | [], _ => by
    cases Q with
    | nil => rfl
    | cons z Q =>
      have := hQ z (by simp)
      rw [List.nil_append, insR, if_neg (by omega)]
      rfl
  | z :: P, h => by
    rw [List.cons_append, insR, if_pos (h z (by simp)), insR_at x Q hQ P (fun u hu => h u (by simp [hu]))]
    rfl
theorem insR_end (x : Cap) (P : List Cap) (h : ∀ z ∈ P, z.t ≤ x.t) : insR x P = P ++ [x] := by
  have := insR_at x [] (by simp) P h
  rwa [List.append_nil] at this
theorem insR_mg (y : Cap) : ∀ (n : Nat) (a b : List Cap), a.length + b.length ≤ n → (∀ z ∈ b, z.t ≤ y.t) → insR y (mg a b) = mg a (b ++ [y])
  | _, [], b, _, h => by rw [mg_nil_left, mg_nil_left, insR_end y b h]
  | 0, x :: a, b, hn, _ => by simp at hn
  | n + 1, x :: a, [], hn, h => by
    have ih := insR_mg y n a [] (by simp at hn ⊢; omega) h
    rw [mg_nil] at ih
    rw [mg_nil, List.nil_append, insR]
    by_cases hx : x.t ≤ y.t
    · rw [if_pos hx, mg_ge a [] (by omega), ih, List.nil_append]
    · rw [if_neg hx, mg_lt a [] (by omega), mg_nil]
  | n + 1, x :: a, z :: b, hn, h => by
    have hz := h z (by simp)
    rw [List.cons_append]
    by_cases hx : z.t < x.t
    · rw [mg_lt a b hx, mg_lt a (b ++ [y]) hx, insR, if_pos hz, insR_mg y n (x :: a) b (by simp at hn ⊢; omega) (fun u hu => h u (by simp [hu]))]
    · rw [mg_ge a b hx, mg_ge a (b ++ [y]) hx, insR, if_pos (by omega), insR_mg y n a (z :: b) (by simp at hn ⊢; omega) h]
      rfl
/-- The sort's outcome, element by element. -/
def insTo (xs : List Cap) : Nat → List Cap
  | 0 => []
  | k + 1 => insR (xs.getD k .z) (insTo xs k)
def srtT (xs : List Cap) : Prop := ∀ i j, i ≤ j → j < xs.length → (xs.getD i .z).t ≤ (xs.getD j .z).t
theorem srt_mem {xs : List Cap} (h : srtT xs) {k : Nat} (hk : k < xs.length) : ∀ z ∈ xs.take k, z.t ≤ (xs.getD k .z).t := by
  intro z hz
  obtain ⟨i, hi, rfl⟩ := List.mem_iff_getElem.1 hz
  have hi' : i < k := by rw [List.length_take] at hi; omega
  have := h i k (by omega) hk
  rw [List.getElem_take]
  rwa [List.getD_eq_getElem?_getD, List.getElem?_eq_getElem (by omega), Option.getD_some] at this
theorem insTo_left (a b : List Cap) (h : srtT a) : ∀ k, k ≤ a.length → insTo (a ++ b) k = a.take k
  | 0, _ => rfl
  | k + 1, hk => by
    have e : (a ++ b).getD k .z = a.getD k .z := by
      rw [List.getD_eq_getElem?_getD, List.getD_eq_getElem?_getD, List.getElem?_append_left (by omega)]
    rw [insTo, insTo_left a b h k (by omega), e, insR_end _ _ (srt_mem h (by omega)), take_snoc a .z k (by omega)]
theorem insTo_app (a b : List Cap) (ha : srtT a) (hb : srtT b) : ∀ k, k ≤ b.length → insTo (a ++ b) (a.length + k) = mg a (b.take k)
  | 0, _ => by
    rw [Nat.add_zero, insTo_left a b ha a.length (Nat.le_refl _), List.take_length, List.take_zero, mg_nil]
  | k + 1, hk => by
    have e : (a ++ b).getD (a.length + k) .z = b.getD k .z := by
      rw [List.getD_eq_getElem?_getD, List.getD_eq_getElem?_getD, List.getElem?_append_right (by omega), Nat.add_sub_cancel_left]
    rw [← Nat.add_assoc, insTo, insTo_app a b ha hb k (by omega), e, insR_mg _ (a.length + (b.take k).length) a _ (Nat.le_refl _) (srt_mem hb (by omega)), take_snoc b .z k (by omega)]
theorem insTo_all (a b : List Cap) (ha : srtT a) (hb : srtT b) : insTo (a ++ b) (a ++ b).length = mg a b := by
  rw [List.length_append, insTo_app a b ha hb b.length (Nat.le_refl _), List.take_length]
theorem srt_of {xs : List Cap} (h : capB xs = true) : srtT xs := by
  intro i j
  induction j with
  | zero => intro hij _; obtain rfl : i = 0 := by omega
            exact Int.le_refl _
  | succ j ih =>
    intro hij hj
    by_cases e : i = j + 1
    · subst e; exact Int.le_refl _
    · have h1 := ih (by omega) (by omega)
      have h2 := ((cap_iff h).2 (j + 1) hj).2
      simp only [ordC, Bool.or_eq_true, beq_iff_eq, decide_eq_true_eq, Nat.add_sub_cancel] at h2
      rcases h2 with h2 | h2
      · omega
      · omega
theorem rd_dropC {w : World} {b off : Nat} {xs : List Cap} (h : ∀ j (h : j < (xs.flatMap Cap.cs).length), w.cell? ⟨b, off + j, none⟩ = some (xs.flatMap Cap.cs)[j]) (i cap' : Nat) (hi : i ≤ xs.length) :
    Rd w 8 (.slice (some ⟨b, off + i * 8, none⟩) (xs.length - i) cap') (xs.drop i).length ((xs.drop i).flatMap Cap.cs) := by
  have e : (xs.drop i).flatMap Cap.cs = (xs.flatMap Cap.cs).drop (i * 8) := by
    have h1 : xs.flatMap Cap.cs = (xs.take i).flatMap Cap.cs ++ (xs.drop i).flatMap Cap.cs := by rw [← List.flatMap_append, List.take_append_drop]
    have h2 : ((xs.take i).flatMap Cap.cs).length = i * 8 := by rw [caps_len, List.length_take, Nat.min_eq_left hi]
    rw [h1, ← h2, List.drop_left]
  refine ⟨by rw [caps_len], _, cap', by rw [List.length_drop], .inr ⟨b, off + i * 8, rfl, fun j hj => ?_⟩⟩
  have hj' : i * 8 + j < (xs.flatMap Cap.cs).length := by
    rw [e, List.length_drop] at hj
    omega
  have := h (i * 8 + j) hj'
  rw [Nat.add_assoc, this]
  congr 1
  simp only [e, List.getElem_drop]
end Go.Proofs.YtljknhocfjpolaaGreatDoor
