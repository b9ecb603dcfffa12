/- Lists of pendings in the laws: bounds. -/
import Derived.Test.YtnngklclehffhaaDoorWPn5
import Derived.Test.YtnngklclehffhaaDoorWPv3
namespace Go.Proofs.YtnngklclehffhaaDoor
open Go.RowKit
theorem chars_at {d : List ByteArray} {n : Nat} (h : chars d ≤ n) (j : Nat) (hj : j < d.length) : (d.getD j ByteArray.empty).size ≤ n := by
  have h1 := chars_take d j hj
  have h2 := chars_le d (j + 1)
  omega
theorem pnd_small {ps : List Pnd} (h : Pnd.sum ps ≤ 1048576) : ∀ i, i < ps.length → (ps.getD i .z).d.length ≤ 1048576 ∧ (ps.getD i .z).h.length ≤ 1048576 ∧ ∀ j, j < (ps.getD i .z).d.length → ((ps.getD i .z).d.getD j ByteArray.empty).size ≤ 1048576 := fun i hi => by
  obtain ⟨h1, h2, h3⟩ := Pnd.sum_at h hi
  exact ⟨h1, h2, fun j hj => chars_at h3 j hj⟩
theorem ptot_small : ∀ {ps : List Pnd}, (∀ p ∈ ps, p.d.length ≤ 9 ∧ p.h.length ≤ 9) → ptot ps ≤ ps.length * 19
  | [], _ => Nat.le_refl _
  | p :: ps, h => by
    have h1 := h p (by simp)
    have h2 := ptot_small (ps := ps) (fun q hq => h q (by simp [hq]))
    have e : ptot (p :: ps) = 1 + p.d.length + p.h.length + ptot ps := by simp [ptot]
    rw [e, List.length_cons]
    omega
theorem drL_tot (ps : List Pnd) (x : Int) : ptot (drL ps x) ≤ 2097152 := by
  have h1 := ptot_small (ps := drL ps x) (fun p hp => ⟨(drL_all hp).1, (drL_all hp).2.1⟩)
  have h2 := drL_len ps x
  cases h : drL ps x with
  | nil => simp [ptot]
  | cons p qs =>
    have h3 := (drL_all (ps := ps) (x := x) (p := p) (by rw [h]; simp)).2.2
    rw [h] at h1 h2
    omega
end Go.Proofs.YtnngklclehffhaaDoor
