/- What the law of reports says, in plain words. -/
import Derived.Test.YtbencjbdbilmnaaDoorPure
namespace Go.Proofs.YtbencjbdbilmnaaDoor
open Go.RowKit
set_option maxHeartbeats 400000
def mx (d : Dlv) : Int := max 1 (d.g + d.l)
theorem mx_pos (d : Dlv) : 0 < mx d := by unfold mx; omega
/-- x is no worse than m. -/
def nw (m x : Dlv) : Prop := x.l * mx m ≤ m.l * mx x
theorem nw_of {m x : Dlv} (hm : okD m = true) (hx : okD x = true) (h : worse m x = false) : nw m x := by
  rw [worse_iff hm hx] at h
  have h1 : ¬ (m.l * max 1 (x.g + x.l) - x.l * max 1 (m.g + m.l) < 0) := by simpa using h
  unfold nw mx
  omega
theorem nw_step {b n x : Dlv} (hb : okD b = true) (hn : okD n = true) (h : worse b n = true) (k : nw b x) : nw n x := by
  rw [worse_iff hb hn] at h
  have h1 : b.l * mx n < n.l * mx b := by
    have h2 : b.l * max 1 (n.g + n.l) - n.l * max 1 (b.g + b.l) < 0 := by simpa using h
    unfold mx
    omega
  unfold nw at k ⊢
  have pb := mx_pos b
  have pn := mx_pos n
  have px := mx_pos x
  refine Int.le_of_mul_le_mul_right ?_ pb
  have e1 : x.l * mx n * mx b = x.l * mx b * mx n := by rw [Int.mul_assoc, Int.mul_comm (mx n), ← Int.mul_assoc]
  have e2 : b.l * mx x * mx n = b.l * mx n * mx x := by rw [Int.mul_assoc, Int.mul_comm (mx x), ← Int.mul_assoc]
  have e3 : n.l * mx x * mx b = n.l * mx b * mx x := by rw [Int.mul_assoc, Int.mul_comm (mx x), ← Int.mul_assoc]
  rw [e1, e3]
  refine Int.le_trans (Int.mul_le_mul_of_nonneg_right k (Int.le_of_lt pn)) ?_
  rw [e2]
  exact Int.mul_le_mul_of_nonneg_right (Int.le_of_lt h1) (Int.le_of_lt px)
theorem best_max {xs : List Dlv} (h : areD xs = true) : ∀ k, k < xs.length → ∀ j, j ≤ k → nw (bestTo xs k) (xs.getD j .z)
  | 0, hk, j, hj => by
    obtain rfl : j = 0 := by omega
    exact Int.le_refl _
  | k + 1, hk, j, hj => by
    have ih := best_max h k (by omega)
    have hb := bestTo_ok h k (by omega)
    have hn := areD_ok h (k + 1) hk
    unfold bestTo
    cases hw : worse (bestTo xs k) (xs.getD (k + 1) .z)
    · rw [if_neg (by simp)]
      by_cases e : j = k + 1
      · subst e; exact nw_of hb hn hw
      · exact ih j (by omega)
    · rw [if_pos rfl]
      by_cases e : j = k + 1
      · subst e; exact Int.le_refl _
      · exact nw_step hb hn hw (ih j (by omega))
theorem best_in (xs : List Dlv) : ∀ k, ∃ j, j ≤ k ∧ bestTo xs k = xs.getD j .z
  | 0 => ⟨0, Nat.le_refl _, rfl⟩
  | k + 1 => by
    obtain ⟨j, hj, e⟩ := best_in xs k
    unfold bestTo
    split
    · exact ⟨k + 1, Nat.le_refl _, rfl⟩
    · exact ⟨j, by omega, e⟩
theorem areD_lt {xs : List Dlv} (h : areD xs = true) : ∀ d i, i + d + 1 < xs.length → (xs.getD i .z).r < (xs.getD (i + d + 1) .z).r
  | 0, i, hi => by
    have := (List.all_eq_true.1 h) (i + 1) (List.mem_range.2 hi)
    simp only [Dlv.ord, Bool.and_eq_true] at this
    simpa using this.2
  | d + 1, i, hi => by
    have ih := areD_lt h d i (by omega)
    have := (List.all_eq_true.1 h) (i + d + 1 + 1) (List.mem_range.2 (by omega))
    simp only [Dlv.ord, Bool.and_eq_true] at this
    have h2 : (xs.getD (i + d + 1) .z).r < (xs.getD (i + d + 1 + 1) .z).r := by simpa using this.2
    have : i + (d + 1) + 1 = i + d + 1 + 1 := by omega
    rw [this]
    omega
theorem areD_inj {xs : List Dlv} (h : areD xs = true) {i j : Nat} (hi : i < xs.length) (hj : j < xs.length) (e : (xs.getD i .z).r = (xs.getD j .z).r) : i = j := by
  rcases Nat.lt_trichotomy i j with h1 | h1 | h1
  · have := areD_lt h (j - i - 1) i (by omega)
    rw [show i + (j - i - 1) + 1 = j by omega] at this
    omega
  · exact h1
  · have := areD_lt h (i - j - 1) j (by omega)
    rw [show j + (i - j - 1) + 1 = i by omega] at this
    omega
/-- No receiver lost a greater part than the worst one. -/
theorem worst_law {xs : List Dlv} (h : areD xs = true) {n i k : Nat} (hn : xs.length = n + 1) (hi : i < xs.length) (hk : k < xs.length) (e : (xs.getD i .z).r = (bestTo xs n).r) :
    (xs.getD k .z).l * ((xs.getD i .z).g + (xs.getD i .z).l) ≤ (xs.getD i .z).l * ((xs.getD k .z).g + (xs.getD k .z).l) := by
  obtain ⟨j, hj, ej⟩ := best_in xs n
  have hb := best_max h n (by omega) k (by omega)
  rw [ej] at e hb
  obtain rfl := areD_inj h hi (by omega) e
  obtain ⟨-, ⟨a1, a2⟩, -, a3, a4⟩ := okD_iff.1 (areD_ok h i hi)
  obtain ⟨-, ⟨b1, b2⟩, -, b3, b4⟩ := okD_iff.1 (areD_ok h k hk)
  unfold nw mx at hb
  generalize xs.getD i .z = m at *
  generalize xs.getD k .z = x at *
  by_cases hM : m.g + m.l = 0
  · have : m.l = 0 := by omega
    rw [hM, this]; simp
  · by_cases hX : x.g + x.l = 0
    · have : x.l = 0 := by omega
      rw [hX, this]; simp
    · rw [show max 1 (m.g + m.l) = m.g + m.l by omega, show max 1 (x.g + x.l) = x.g + x.l by omega] at hb
      exact hb
theorem tot_zero : ∀ (xs : List Dlv), (∀ x ∈ xs, 0 ≤ x.l) → (tot (·.l) xs = 0 ↔ (perfect xs).length = xs.length)
  | [], _ => by simp [tot, perfect]
  | x :: xs, h => by
    have ih := tot_zero xs (fun y hy => h y (by simp [hy]))
    have h0 := h x (by simp)
    have hp : 0 ≤ tot (·.l) xs := by
      clear ih
      induction xs with
      | nil => simp [tot]
      | cons y ys ih =>
        have h1 := ih (fun z hz => h z (by simp at hz ⊢; rcases hz with rfl | hz <;> simp_all))
        have h2 := h y (by simp)
        have e : tot (·.l) (y :: ys) = y.l + tot (·.l) ys := by simp [tot]
        rw [e]; omega
    have e : tot (·.l) (x :: xs) = x.l + tot (·.l) xs := by simp [tot]
    have hl := perfect_len xs
    have ep : (perfect (x :: xs)).length = (if x.l = 0 then 1 else 0) + (perfect xs).length := by
      unfold perfect
      by_cases hx : x.l = 0 <;> simp [hx]
      omega
    rw [e, ep, List.length_cons]
    split <;> omega
end Go.Proofs.YtbencjbdbilmnaaDoor
