/- Many nodes put into one row. -/
import Derived.Test.YtlaochpkelbchaaGreatDoorKWAsc
namespace Go.Proofs.YtlaochpkelbchaaGreatDoor
open Go.RowKit
def putAll (L P : List Int) : List Int := P.foldl put L
theorem putAll_snoc (L P : List Int) (k : Nat) (h : k < P.length) : putAll L (P.take (k + 1)) = put (putAll L (P.take k)) (P.getD k 0) := by
  unfold putAll; rw [take_snoc P 0 k h, List.foldl_append]; rfl
theorem putAll_mem (P : List Int) : ∀ (L : List Int) (y : Int), y ∈ putAll L P ↔ y ∈ L ∨ y ∈ P := by
  induction P with
  | nil => intro L y; simp [putAll]
  | cons x P ih =>
    intro L y
    show y ∈ putAll (put L x) P ↔ _
    rw [ih, put_mem, List.mem_cons]
    constructor
    · rintro ((h | h) | h)
      · exact .inl h
      · exact .inr (.inl h)
      · exact .inr (.inr h)
    · rintro (h | h | h)
      · exact .inl (.inl h)
      · exact .inl (.inr h)
      · exact .inr h
theorem putAll_asc (P : List Int) : ∀ (L : List Int), asc L → asc (putAll L P) := by
  induction P with
  | nil => exact fun L h => h
  | cons x P ih => exact fun L h => ih (put L x) (put_asc h x)
theorem asc_len {n : Nat} : ∀ (L : List Int) (a : Nat), asc L → (∀ y ∈ L, (a : Int) ≤ y ∧ y < n) → L.length ≤ n - a
  | [], _, _, _ => Nat.zero_le _
  | x :: L, a, h, hb => by
    obtain ⟨h1, h2⟩ := List.pairwise_cons.1 h
    have hx := hb x (by simp)
    have := asc_len L (a + 1) h2 (fun y hy => ⟨by have := h1 y hy; omega, (hb y (by simp [hy])).2⟩)
    rw [List.length_cons]; omega
/-- All nodes of the walks g x to the nodes of ns. -/
def fan (g : Int → List Int) (ns : List Int) : List Int := ns.foldl (fun L x => putAll L (g x)) []
theorem fan_snoc (g : Int → List Int) (ns : List Int) (k : Nat) (h : k < ns.length) : fan g (ns.take (k + 1)) = putAll (fan g (ns.take k)) (g (ns.getD k 0)) := by
  unfold fan; rw [take_snoc ns 0 k h, List.foldl_append]; rfl
theorem fan_gen (g : Int → List Int) (ns : List Int) : ∀ (L : List Int) (y : Int), y ∈ ns.foldl (fun L x => putAll L (g x)) L ↔ y ∈ L ∨ ∃ x ∈ ns, y ∈ g x := by
  induction ns with
  | nil => intro L y; simp
  | cons x ns ih =>
    intro L y
    rw [List.foldl_cons, ih, putAll_mem]
    simp only [List.mem_cons, exists_eq_or_imp]
    constructor
    · rintro ((h | h) | h)
      · exact .inl h
      · exact .inr (.inl h)
      · exact .inr (.inr h)
    · rintro (h | h | h)
      · exact .inl (.inl h)
      · exact .inl (.inr h)
      · exact .inr h
theorem fan_mem (g : Int → List Int) (ns : List Int) (y : Int) : y ∈ fan g ns ↔ ∃ x ∈ ns, y ∈ g x := by
  unfold fan; rw [fan_gen]; simp
theorem fan_asc (g : Int → List Int) (ns : List Int) : asc (fan g ns) := by
  unfold fan
  have : ∀ L, asc L → asc (ns.foldl (fun L x => putAll L (g x)) L) := by
    induction ns with
    | nil => exact fun L h => h
    | cons x ns ih => exact fun L h => ih _ (putAll_asc _ _ h)
  exact this [] List.Pairwise.nil
theorem mem_take_in {ns : List Int} {P : Int → Prop} (h : ∀ y ∈ ns, P y) (k : Nat) : ∀ y ∈ ns.take k, P y := fun y hy => h y (List.mem_of_mem_take hy)
theorem take_filter_snoc' {p : Int → Bool} {xs : List Int} {k : Nat} (hk : k < xs.length) : (xs.take (k + 1)).filter p = if p (xs.getD k 0) then (xs.take k).filter p ++ [xs.getD k 0] else (xs.take k).filter p := by
  rw [take_snoc xs 0 k hk, List.filter_append]
  cases h : p (xs.getD k 0) <;> simp only [List.filter_cons, h] <;> simp
end Go.Proofs.YtlaochpkelbchaaGreatDoor
