/- Lists of pendings in the laws: bounds. -/
import Derived.Test.YtnngklclehffhaaDoorWPn5
import Derived.Test.YtnngklclehffhaaDoorWPv3
namespace Go.Proofs.YtnngklclehffhaaDoor
open Go.RowKit
theorem chars_at {d : List ByteArray} {n : Nat} (h : chars d ≤ n) (j : Nat) (hj : j < d.length) : (d.getD j ByteArray.empty).size ≤ n := by
  have h1 := chars_take d j hj
  have h2 := chars_le d (j + 1)
  omega
theorem pnd_small {ps : List Pnd} (h : Pnd.sum ps ≤ 1048576) : ∀ i, i < ps.length → (ps.getD i .z).d.length ≤ 1048576 ∧ (ps.getD i .z).h.length ≤ 1048576 ∧ ∀ j, j < (ps.getD i .z).d.length → ((ps.getD i .z).d.getD j ByteArray.empty).size ≤ 1048576 := fun i hi => by
  obtain ⟨h1, h2, h3⟩ := Pnd.sum_at h hi
  exact ⟨h1, h2, fun j hj => chars_at h3 j hj⟩
end Go.Proofs.YtnngklclehffhaaDoor
