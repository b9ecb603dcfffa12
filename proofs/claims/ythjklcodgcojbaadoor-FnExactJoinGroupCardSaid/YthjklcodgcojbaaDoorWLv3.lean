/- A group left: how small the result is. -/
import Derived.Test.YthjklcodgcojbaaDoorWLv2
namespace Go.Proofs.YthjklcodgcojbaaDoor
open Go.RowKit
set_option maxHeartbeats 400000
set_option maxRecDepth 100000
def small (D : List Grp) : Prop := D.length ≤ 9 ∧ ∀ i, i < D.length → (D.getD i .z).xs.length ≤ 8
theorem gtot_bd : ∀ (D : List Grp) (m : Nat), (∀ g ∈ D, g.xs.length ≤ m) → gtot D ≤ D.length * (1 + m)
  | [], _, _ => Nat.zero_le _
  | g :: D, m, h => by
    have h1 := gtot_bd D m (fun x hx => h x (by simp [hx]))
    have h2 := h g (by simp)
    have e : gtot (g :: D) = 1 + g.xs.length + gtot D := by simp [gtot]
    rw [e, List.length_cons, Nat.add_mul]
    omega
theorem small_tot {D : List Grp} (h : small D) : gtot D ≤ 81 := by
  have h1 := gtot_bd D 8 (fun g hg => by
    obtain ⟨i, hi, rfl⟩ := List.mem_iff_getElem.1 hg
    have := h.2 i hi
    rwa [List.getD_eq_getElem?_getD, List.getElem?_eq_getElem hi] at this)
  have h2 := h.1
  have h3 : D.length * (1 + 8) ≤ 9 * (1 + 8) := Nat.mul_le_mul_right _ h2
  omega
theorem small_nil : small [] := ⟨by simp, fun i hi => absurd hi (Nat.not_lt_zero _)⟩
theorem small_good {gs : List Grp} (h : goodG gs = true) : small gs := ⟨by have := goodG_len h; omega, fun i hi => by have := (goodG_mem h i hi).2.2.1; omega⟩
theorem small_ers {gs : List Grp} (h : small gs) (k : Nat) (hk : k < gs.length) : small (ers gs k) := by
  refine ⟨by rw [ers_len gs k hk]; have := h.1; omega, fun i hi => ?_⟩
  rw [ers_len gs k hk] at hi
  rw [ers_getD gs k i .z hk]
  split
  · exact h.2 i (by omega)
  · exact h.2 (i + 1) (by omega)
theorem small_set {gs : List Grp} (h : small gs) (k : Nat) (hk : k < gs.length) (g : Grp) (hg : g.xs.length ≤ 8) : small (gs.set k g) := by
  refine ⟨by rw [List.length_set]; exact h.1, fun i hi => ?_⟩
  rw [List.length_set] at hi
  rw [getD_set _ _ _ _ _ hk]
  split
  · exact hg
  · exact h.2 i hi
theorem lvI_small (gs : List Grp) (name : ByteArray) (x : Int) : small (lvI gs name x) := by
  cases h : lvB gs name x
  · rw [lvI_no h]; exact small_nil
  · obtain ⟨hg, ha, -⟩ := lvB_all h
    rw [lvI_yes h]
    split
    · exact small_ers (small_good hg) _ (fhas_get ha).1
    · refine small_set (small_good hg) _ (fhas_get ha).1 _ ?_
      have h1 := memL_small hg name
      have h2 := List.length_filter_le (fun y => !(y == x)) (memL gs name)
      show (lvM gs name x).length ≤ 8
      unfold lvM
      omega
end Go.Proofs.YthjklcodgcojbaaDoor
