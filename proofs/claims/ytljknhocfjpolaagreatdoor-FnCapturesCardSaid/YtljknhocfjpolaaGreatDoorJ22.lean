/- Two captures joined: what is computed. Insertion of elements by their ticks: plain. -/
import Derived.Test.YtljknhocfjpolaaGreatDoorJ11
namespace Go.Proofs.YtljknhocfjpolaaGreatDoor
open Go.RowKit
set_option maxHeartbeats 400000
/-- x put behind all that are not later. -/
def insR (x : Cap) : List Cap → List Cap
  | [] => [x]
  | z :: S => if z.t ≤ x.t then z :: insR x S else x :: z :: S
def mg : List Cap → List Cap → List Cap
  | [], b => b
  | x :: a, [] => x :: a
  | x :: a, y :: b => if y.t < x.t then y :: mg (x :: a) b else x :: mg a (y :: b)
theorem mg_nil_left (b : List Cap) : mg [] b = b := by unfold mg; rfl
theorem mg_nil (a : List Cap) : mg a [] = a := by cases a <;> (unfold mg; rfl)
theorem mg_lt {x y : Cap} (a b : List Cap) (h : y.t < x.t) : mg (x :: a) (y :: b) = y :: mg (x :: a) b := by rw [mg, if_pos h]
theorem mg_ge {x y : Cap} (a b : List Cap) (h : ¬ y.t < x.t) : mg (x :: a) (y :: b) = x :: mg a (y :: b) := by rw [mg, if_neg h]
theorem insR_at (x : Cap) (Q : List Cap) (hQ : ∀ z ∈ Q, x.t < z.t) : ∀ P : List Cap, (∀ z ∈ P, z.t ≤ x.t) → insR x (P ++ Q) = P ++ x :: Q
  | [], _ => by
    cases Q with
    | nil => rfl
    | cons z Q =>
      have := hQ z (by simp)
      rw [List.nil_append, insR, if_neg (by omega)]
      rfl
  | z :: P, h => by
    rw [List.cons_append, insR, if_pos (h z (by simp)), insR_at x Q hQ P (fun u hu => h u (by simp [hu]))]
    rfl
theorem insR_end (x : Cap) (P : List Cap) (h : ∀ z ∈ P, z.t ≤ x.t) : insR x P = P ++ [x] := by
  have := insR_at x [] (by simp) P h
  rwa [List.append_nil] at this
theorem insR_mg (y : Cap) : ∀ (n : Nat) (a b : List Cap), a.length + b.length ≤ n → (∀ z ∈ b, z.t ≤ y.t) → insR y (mg a b) = mg a (b ++ [y])
  | _, [], b, _, h => by rw [mg_nil_left, mg_nil_left, insR_end y b h]
  | 0, x :: a, b, hn, _ => by simp at hn
  | n + 1, x :: a, [], hn, h => by
    have ih := insR_mg y n a [] (by simp at hn ⊢; omega) h
    rw [mg_nil] at ih
    rw [mg_nil, List.nil_append, insR]
    by_cases hx : x.t ≤ y.t
    · rw [if_pos hx, mg_ge a [] (by omega), ih, List.nil_append]
    · rw [if_neg hx, mg_lt a [] (by omega), mg_nil]
  | n + 1, x :: a, z :: b, hn, h => by
    have hz := h z (by simp)
    rw [List.cons_append]
    by_cases hx : z.t < x.t
    · rw [mg_lt a b hx, mg_lt a (b ++ [y]) hx, insR, if_pos hz, insR_mg y n (x :: a) b (by simp at hn ⊢; omega) (fun u hu => h u (by simp [hu]))]
    · rw [mg_ge a b hx, mg_ge a (b ++ [y]) hx, insR, if_pos (by omega), insR_mg y n a (z :: b) (by simp at hn ⊢; omega) h]
      rfl
/-- The sort's outcome, element by element. -/
def insTo (xs : List Cap) : Nat → List Cap
  | 0 => []
  | k + 1 => insR (xs.getD k .z) (insTo xs k)
def srtT (xs : List Cap) : Prop := ∀ i j, i ≤ j → j < xs.length → (xs.getD i .z).t ≤ (xs.getD j .z).t
theorem srt_mem {xs : List Cap} (h : srtT xs) {k : Nat} (hk : k < xs.length) : ∀ z ∈ xs.take k, z.t ≤ (xs.getD k .z).t := by
  intro z hz
  obtain ⟨i, hi, rfl⟩ := List.mem_iff_getElem.1 hz
  have hi' : i < k := by rw [List.length_take] at hi; omega
  have := h i k (by omega) hk
  rw [List.getElem_take]
  rwa [List.getD_eq_getElem?_getD, List.getElem?_eq_getElem (by omega), Option.getD_some] at this
theorem insTo_left (a b : List Cap) (h : srtT a) : ∀ k, k ≤ a.length → insTo (a ++ b) k = a.take k
  | 0, _ => rfl
  | k + 1, hk => by
    have e : (a ++ b).getD k .z = a.getD k .z := by
      rw [List.getD_eq_getElem?_getD, List.getD_eq_getElem?_getD, List.getElem?_append_left (by omega)]
    rw [insTo, insTo_left a b h k (by omega), e, insR_end _ _ (srt_mem h (by omega)), take_snoc a .z k (by omega)]
theorem insTo_app (a b : List Cap) (ha : srtT a) (hb : srtT b) : ∀ k, k ≤ b.length → insTo (a ++ b) (a.length + k) = mg a (b.take k)
  | 0, _ => by
    rw [Nat.add_zero, insTo_left a b ha a.length (Nat.le_refl _), List.take_length, List.take_zero, mg_nil]
  | k + 1, hk => by
    have e : (a ++ b).getD (a.length + k) .z = b.getD k .z := by
      rw [List.getD_eq_getElem?_getD, List.getD_eq_getElem?_getD, List.getElem?_append_right (by omega), Nat.add_sub_cancel_left]
    rw [← Nat.add_assoc, insTo, insTo_app a b ha hb k (by omega), e, insR_mg _ (a.length + (b.take k).length) a _ (Nat.le_refl _) (srt_mem hb (by omega)), take_snoc b .z k (by omega)]
theorem insTo_all (a b : List Cap) (ha : srtT a) (hb : srtT b) : insTo (a ++ b) (a ++ b).length = mg a b := by
  rw [List.length_append, insTo_app a b ha hb b.length (Nat.le_refl _), List.take_length]
theorem srt_of {xs : List Cap} (h : capB xs = true) : srtT xs := by
  intro i j
  induction j with
  | zero => intro hij _; obtain rfl : i = 0 := by omega
            exact Int.le_refl _
  | succ j ih =>
    intro hij hj
    by_cases e : i = j + 1
    · subst e; exact Int.le_refl _
    · have h1 := ih (by omega) (by omega)
      have h2 := ((cap_iff h).2 (j + 1) hj).2
      simp only [ordC, Bool.or_eq_true, beq_iff_eq, decide_eq_true_eq, Nat.add_sub_cancel] at h2
      rcases h2 with h2 | h2
      · omega
      · omega
theorem rd_dropC {w : World} {b off : Nat} {xs : List Cap} (h : ∀ j (h : j < (xs.flatMap Cap.cs).length), w.cell? ⟨b, off + j, none⟩ = some (xs.flatMap Cap.cs)[j]) (i cap' : Nat) (hi : i ≤ xs.length) :
    Rd w 8 (.slice (some ⟨b, off + i * 8, none⟩) (xs.length - i) cap') (xs.drop i).length ((xs.drop i).flatMap Cap.cs) := by
  have e : (xs.drop i).flatMap Cap.cs = (xs.flatMap Cap.cs).drop (i * 8) := by
    have h1 : xs.flatMap Cap.cs = (xs.take i).flatMap Cap.cs ++ (xs.drop i).flatMap Cap.cs := by rw [← List.flatMap_append, List.take_append_drop]
    have h2 : ((xs.take i).flatMap Cap.cs).length = i * 8 := by rw [caps_len, List.length_take, Nat.min_eq_left hi]
    rw [h1, ← h2, List.drop_left]
  refine ⟨by rw [caps_len], _, cap', by rw [List.length_drop], .inr ⟨b, off + i * 8, rfl, fun j hj => ?_⟩⟩
  have hj' : i * 8 + j < (xs.flatMap Cap.cs).length := by
    rw [e, List.length_drop] at hj
    omega
  have := h (i * 8 + j) hj'
  rw [Nat.add_assoc, this]
  congr 1
  simp only [e, List.getElem_drop]
end Go.Proofs.YtljknhocfjpolaaGreatDoor
namespace Go.Proofs.YtljknhocfjpolaaGreatDoor
open Go.RowKit
set_option maxHeartbeats 400000
/-- The row while x goes to its place: j of S lie ahead of it. -/
def insAt (S : List Cap) (x : Cap) (j : Nat) (R : List Cap) : List Cap := S.take j ++ x :: (S.drop j ++ R)
theorem insAt_len (S : List Cap) (x : Cap) (j : Nat) (R : List Cap) (h : j ≤ S.length) : (insAt S x j R).length = S.length + 1 + R.length := by
  simp [insAt]; omega
theorem insAt_end (S : List Cap) (x : Cap) (R : List Cap) : insAt S x S.length R = S ++ x :: R := by
  rw [insAt, List.take_length, List.drop_length, List.nil_append]
theorem getD_mid {α : Type} (A : List α) (x z : α) (B : List α) (i : Nat) (h : A.length = i) : (A ++ x :: B).getD i z = x := by
  subst h
  rw [List.getD_eq_getElem?_getD, List.getElem?_append_right (Nat.le_refl _), Nat.sub_self]; rfl
theorem insAt_form (S : List Cap) (x : Cap) (j : Nat) (R : List Cap) (h : j + 1 ≤ S.length) : insAt S x (j + 1) R = S.take j ++ S.getD j .z :: x :: (S.drop (j + 1) ++ R) := by
  rw [insAt, take_snoc S .z j (by omega), List.append_assoc]; rfl
theorem insAt_form2 (S : List Cap) (x : Cap) (j : Nat) (R : List Cap) (h : j + 1 ≤ S.length) : insAt S x j R = S.take j ++ x :: S.getD j .z :: (S.drop (j + 1) ++ R) := by
  have e : S.drop j = S.getD j .z :: S.drop (j + 1) := by
    rw [List.drop_eq_getElem_cons (by omega), List.getD_eq_getElem?_getD, List.getElem?_eq_getElem (by omega)]; rfl
  rw [insAt, e]; rfl
theorem insAt_x (S : List Cap) (x : Cap) (j : Nat) (R : List Cap) (h : j ≤ S.length) : (insAt S x j R).getD j .z = x :=
  getD_mid _ _ _ _ _ (by rw [List.length_take]; omega)
theorem insAt_p (S : List Cap) (x : Cap) (j : Nat) (R : List Cap) (h : j + 1 ≤ S.length) : (insAt S x (j + 1) R).getD j .z = S.getD j .z := by
  rw [insAt_form S x j R h]
  exact getD_mid _ _ _ _ _ (by rw [List.length_take]; omega)
/-- Two elements side by side changed. -/
theorem swap_vals (S : List Cap) (x : Cap) (j : Nat) (R : List Cap) (h : j + 1 ≤ S.length) :
    ((((insAt S x (j + 1) R).flatMap Cap.cs).take (j * 8) ++ x.cs ++ ((insAt S x (j + 1) R).flatMap Cap.cs).drop (j * 8 + 8)).take ((j + 1) * 8) ++ (S.getD j .z).cs ++ (((insAt S x (j + 1) R).flatMap Cap.cs).take (j * 8) ++ x.cs ++ ((insAt S x (j + 1) R).flatMap Cap.cs).drop (j * 8 + 8)).drop ((j + 1) * 8 + 8)) = (insAt S x j R).flatMap Cap.cs ∧
    ((((insAt S x (j + 1) R).flatMap Cap.cs).take ((j + 1) * 8) ++ (S.getD j .z).cs ++ ((insAt S x (j + 1) R).flatMap Cap.cs).drop ((j + 1) * 8 + 8)).take (j * 8) ++ x.cs ++ (((insAt S x (j + 1) R).flatMap Cap.cs).take ((j + 1) * 8) ++ (S.getD j .z).cs ++ ((insAt S x (j + 1) R).flatMap Cap.cs).drop ((j + 1) * 8 + 8)).drop (j * 8 + 8)) = (insAt S x j R).flatMap Cap.cs := by
  rw [insAt_form S x j R h, insAt_form2 S x j R h]
  simp only [List.flatMap_append, List.flatMap_cons]
  have hA : ((S.take j).flatMap Cap.cs).length = j * 8 := by rw [caps_len, List.length_take, Nat.min_eq_left (by omega)]
  have hy := Cap.len (S.getD j .z)
  have hx := Cap.len x
  generalize (S.take j).flatMap Cap.cs = A at *
  generalize (S.getD j .z).cs = Y at *
  generalize x.cs = X at *
  generalize (S.drop (j + 1)).flatMap Cap.cs ++ R.flatMap Cap.cs = D at *
  have e1 : (A ++ (Y ++ (X ++ D))).take (j * 8) = A := by rw [← hA, List.take_left]
  have e2 : (A ++ (Y ++ (X ++ D))).drop (j * 8 + 8) = X ++ D := by
    rw [← List.drop_drop, ← hA, List.drop_left, ← hy, List.drop_left]
  have e3 : (A ++ (Y ++ (X ++ D))).take ((j + 1) * 8) = A ++ Y := by
    rw [← List.append_assoc, show (j + 1) * 8 = (A ++ Y).length by rw [List.length_append]; omega, List.take_left]
  have e4 : (A ++ (Y ++ (X ++ D))).drop ((j + 1) * 8 + 8) = D := by
    rw [show (j + 1) * 8 + 8 = j * 8 + 8 + 8 by omega, ← List.drop_drop, e2, ← hx, List.drop_left]
  rw [e1, e2, e3, e4]
  constructor
  · have e5 : (A ++ X ++ (X ++ D)).take ((j + 1) * 8) = A ++ X := by
      rw [show (j + 1) * 8 = (A ++ X).length by rw [List.length_append]; omega, List.take_left]
    have e6 : (A ++ X ++ (X ++ D)).drop ((j + 1) * 8 + 8) = D := by
      rw [show (j + 1) * 8 + 8 = (A ++ X).length + X.length by rw [List.length_append]; omega, ← List.drop_drop, List.drop_left, List.drop_left]
    rw [e5, e6]
    simp only [List.append_assoc]
  · have e5 : (A ++ Y ++ Y ++ D).take (j * 8) = A := by
      rw [List.append_assoc, List.append_assoc, ← hA, List.take_left]
    have e6 : (A ++ Y ++ Y ++ D).drop (j * 8 + 8) = Y ++ D := by
      rw [List.append_assoc, show j * 8 + 8 = (A ++ Y).length by rw [List.length_append]; omega, List.drop_left]
    rw [e5, e6]
    simp only [List.append_assoc]
theorem insR_sorted (x : Cap) : ∀ S : List Cap, S.Pairwise (fun a b => a.t ≤ b.t) → (insR x S).Pairwise (fun a b => a.t ≤ b.t)
  | [], _ => by simp [insR]
  | z :: S, h => by
    obtain ⟨h1, h2⟩ := List.pairwise_cons.1 h
    rw [insR]
    by_cases hz : z.t ≤ x.t
    · rw [if_pos hz]
      refine List.pairwise_cons.2 ⟨fun b hb => ?_, insR_sorted x S h2⟩
      have : b = x ∨ b ∈ S := by
        clear h h1 h2
        induction S with
        | nil => left; simpa [insR] using hb
        | cons y S ih =>
          rw [insR] at hb
          split at hb
          · rcases List.mem_cons.1 hb with rfl | hb
            · right; simp
            · rcases ih hb with h | h
              · left; exact h
              · right; simp [h]
          · rcases List.mem_cons.1 hb with rfl | hb
            · left; rfl
            · right; exact hb
      rcases this with rfl | hb
      · exact hz
      · exact h1 b hb
    · rw [if_neg hz]
      refine List.pairwise_cons.2 ⟨fun b hb => ?_, h⟩
      rcases List.mem_cons.1 hb with rfl | hb
      · omega
      · have := h1 b hb; omega
theorem insTo_sorted (xs : List Cap) : ∀ k, (insTo xs k).Pairwise (fun a b => a.t ≤ b.t)
  | 0 => List.Pairwise.nil
  | k + 1 => insR_sorted _ _ (insTo_sorted xs k)
theorem insR_len (x : Cap) : ∀ S, (insR x S).length = S.length + 1
  | [] => rfl
  | z :: S => by rw [insR]; split <;> simp [insR_len x S]
theorem insTo_len (xs : List Cap) : ∀ k, (insTo xs k).length = k
  | 0 => rfl
  | k + 1 => by rw [insTo, insR_len, insTo_len xs k]
theorem insAt_done {xs : List Cap} {i j : Nat} (hj : j ≤ i) (hgt : ∀ z ∈ (insTo xs i).drop j, (xs.getD i .z).t < z.t) (hle : j = 0 ∨ ¬ (xs.getD i .z).t < ((insTo xs i).getD (j - 1) .z).t) :
    insAt (insTo xs i) (xs.getD i .z) j (xs.drop (i + 1)) = insTo xs (i + 1) ++ xs.drop (i + 1) := by
  have hl := insTo_len xs i
  have hs := insTo_sorted xs i
  rw [insTo]
  generalize insTo xs i = S at *
  have hall : ∀ z ∈ S.take j, z.t ≤ (xs.getD i .z).t := by
    rcases hle with rfl | h
    · intro z hz; simp at hz
    · intro z hz
      by_cases h0 : j = 0
      · subst h0; simp at hz
      · obtain ⟨k, hk, rfl⟩ := List.mem_iff_getElem.1 hz
        rw [List.length_take] at hk
        rw [List.getElem_take]
        have hlast : (S.getD (j - 1) .z).t ≤ (xs.getD i .z).t := by omega
        by_cases hkj : k = j - 1
        · subst hkj
          rw [List.getD_eq_getElem?_getD, List.getElem?_eq_getElem (by omega), Option.getD_some] at hlast
          exact hlast
        · rw [List.pairwise_iff_getElem] at hs
          have := hs k (j - 1) (by omega) (by omega) (by omega)
          rw [List.getD_eq_getElem?_getD, List.getElem?_eq_getElem (show j - 1 < S.length by omega), Option.getD_some] at hlast
          omega
  have := insR_at (xs.getD i .z) (S.drop j) hgt (S.take j) hall
  rw [List.take_append_drop] at this
  rw [this, insAt, List.append_assoc]
  rfl
theorem insAt_start {xs : List Cap} {i : Nat} (hi : i < xs.length) : insTo xs i ++ xs.drop i = insAt (insTo xs i) (xs.getD i .z) i (xs.drop (i + 1)) := by
  have e : xs.drop i = xs.getD i .z :: xs.drop (i + 1) := by
    rw [List.drop_eq_getElem_cons hi, List.getD_eq_getElem?_getD, List.getElem?_eq_getElem hi]; rfl
  have h := insAt_end (insTo xs i) (xs.getD i .z) (xs.drop (i + 1))
  rw [insTo_len] at h
  rw [h, e]
end Go.Proofs.YtljknhocfjpolaaGreatDoor
