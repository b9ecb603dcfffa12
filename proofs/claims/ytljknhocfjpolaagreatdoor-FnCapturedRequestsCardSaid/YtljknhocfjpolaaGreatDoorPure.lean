/- Plain definitions: data, and what the functions compute. No program is in sight. -/
import Derived.Test.YtljknhocfjpolaaGreatDoorKit
namespace Go.Proofs.YtljknhocfjpolaaGreatDoor
open Go.RowKit
def inB (x a b : Int) : Bool := decide (a ≤ x ∧ x ≤ b)
theorem inB_eq (x a b : Int) : inB x a b = (decide (a ≤ x) && decide (x ≤ b)) := by unfold inB; simp
theorem inB_iff {x a b : Int} : inB x a b = true ↔ a ≤ x ∧ x ≤ b := by unfold inB; simp
structure Dlv where
  r : Int
  g : Int
  p : Int
  l : Int
def Dlv.cs (d : Dlv) : List Value := [.int .i64 d.r, .int .i64 d.g, .int .i64 d.p, .int .i64 d.l]
def Dlv.z : Dlv := ⟨0, 0, 0, 0⟩
def okD (d : Dlv) : Bool := inB d.r 1 7 && inB d.g 0 1000000 && inB d.p 0 d.g && inB d.l 0 1000000
def Dlv.ord (xs : List Dlv) (i : Nat) : Bool := okD (xs.getD i .z) && (i == 0 || decide ((xs.getD (i - 1) .z).r < (xs.getD i .z).r))
def areD (xs : List Dlv) : Bool := (List.range xs.length).all (Dlv.ord xs)
theorem okD_iff {d : Dlv} : okD d = true ↔ (1 ≤ d.r ∧ d.r ≤ 7) ∧ (0 ≤ d.g ∧ d.g ≤ 1000000) ∧ (0 ≤ d.p ∧ d.p ≤ d.g) ∧ (0 ≤ d.l ∧ d.l ≤ 1000000) := by
  simp [okD, inB, and_assoc]
theorem areD_ok {xs : List Dlv} (h : areD xs = true) (i : Nat) (hi : i < xs.length) : okD (xs.getD i .z) = true := by
  have := (List.all_eq_true.1 h) i (List.mem_range.2 hi)
  simp only [Dlv.ord, Bool.and_eq_true] at this
  exact this.1
def perfect (xs : List Dlv) : List Int := (xs.filter (fun d => d.l == 0)).map (·.r)
theorem perfect_snoc (xs : List Dlv) (k : Nat) (h : k < xs.length) : perfect (xs.take (k + 1)) = perfect (xs.take k) ++ (if (xs.getD k .z).l = 0 then [(xs.getD k .z).r] else []) := by
  rw [take_snoc xs .z k h]
  unfold perfect
  rw [List.filter_append, List.map_append]
  congr 1
  generalize xs.getD k .z = d
  by_cases h0 : d.l = 0 <;> simp [h0]
theorem perfect_len (xs : List Dlv) : (perfect xs).length ≤ xs.length := by
  unfold perfect; rw [List.length_map]; exact List.length_filter_le _ _
def tot (f : Dlv → Int) (xs : List Dlv) : Int := (xs.map f).sum
theorem tot_snoc (f : Dlv → Int) (xs : List Dlv) (k : Nat) (h : k < xs.length) : tot f (xs.take (k + 1)) = tot f (xs.take k) + f (xs.getD k .z) := by
  rw [take_snoc xs .z k h]
  simp [tot]
theorem tot_bd (f : Dlv → Int) (xs : List Dlv) (hf : ∀ i, i < xs.length → 0 ≤ f (xs.getD i .z) ∧ f (xs.getD i .z) ≤ 1000000) :
    ∀ k, k ≤ xs.length → 0 ≤ tot f (xs.take k) ∧ tot f (xs.take k) ≤ 1000000 * k
  | 0, _ => by simp [tot]
  | k + 1, h => by
    have h1 := tot_bd f xs hf k (by omega)
    have h2 := hf k (by omega)
    rw [tot_snoc f xs k (by omega)]
    omega
/-- x is worse than m. -/
def worse (m x : Dlv) : Bool := decide (m.l * (x.g + x.l) < x.l * (m.g + m.l)) || ((m.g + m.l == 0) && decide (0 < x.l))
def bestTo (xs : List Dlv) : Nat → Dlv
  | 0 => xs.getD 0 .z
  | k + 1 => if worse (bestTo xs k) (xs.getD (k + 1) .z) then xs.getD (k + 1) .z else bestTo xs k
theorem bestTo_ok {xs : List Dlv} (h : areD xs = true) : ∀ k, k < xs.length → okD (bestTo xs k) = true
  | 0, hk => areD_ok h 0 hk
  | k + 1, hk => by
    unfold bestTo
    split
    · exact areD_ok h _ hk
    · exact bestTo_ok h k (by omega)
theorem worse_iff {m x : Dlv} (hm : okD m = true) (hx : okD x = true) :
    worse m x = decide (m.l * max 1 (x.g + x.l) - x.l * max 1 (m.g + m.l) < 0) := by
  obtain ⟨-, ⟨a1, a2⟩, -, a3, a4⟩ := okD_iff.1 hm
  obtain ⟨-, ⟨b1, b2⟩, -, b3, b4⟩ := okD_iff.1 hx
  unfold worse
  rw [Bool.eq_iff_iff]
  simp only [Bool.or_eq_true, Bool.and_eq_true, decide_eq_true_eq, beq_iff_eq]
  by_cases hM : m.g + m.l = 0
  · have h1 : m.l = 0 := by omega
    rw [hM, h1]
    rw [show max (1 : Int) 0 = 1 by rfl]
    simp only [Int.zero_mul, Int.mul_zero, Int.mul_one, true_and]
    omega
  · have e1 : max 1 (m.g + m.l) = m.g + m.l := by omega
    rw [e1]
    by_cases hX : x.g + x.l = 0
    · have h2 : x.l = 0 := by omega
      rw [hX, h2]
      simp only [Int.zero_mul, Int.mul_zero]
      have : 0 ≤ m.l * max 1 0 := Int.mul_nonneg a3 (by omega)
      omega
    · have e2 : max 1 (x.g + x.l) = x.g + x.l := by omega
      rw [e2]
      omega
end Go.Proofs.YtljknhocfjpolaaGreatDoor
