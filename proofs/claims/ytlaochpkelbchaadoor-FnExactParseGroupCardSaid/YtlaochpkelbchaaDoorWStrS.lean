/- The laws' helpers on slices of strings: copy, compare, size, mark. -/
import Derived.Test.YtlaochpkelbchaaDoorWL
import Derived.Test.YtlaochpkelbchaaDoorKit3
namespace Go.Proofs.YtlaochpkelbchaaDoor
open Go.RowKit
set_option maxHeartbeats 400000
set_option maxRecDepth 100000
theorem infoStr : (Tryd.prog.info? 9).map (fun i => (i.zero, i.size, i.bytes)) = some (some (.string ByteArray.empty), 1, 16) := by kernel_rfl
def vStrs (xs : List ByteArray) : List Value := xs.map Value.string
theorem vStrs_len (xs : List ByteArray) : (vStrs xs).length = xs.length := by simp [vStrs]
theorem vStrs_get (xs : List ByteArray) (i : Nat) (h : i < xs.length) : (vStrs xs)[i]? = some (.string (xs.getD i ByteArray.empty)) := by
  simp [vStrs, h]
def chars (xs : List ByteArray) : Nat := (xs.map ByteArray.size).sum
theorem chars_take (xs : List ByteArray) (k : Nat) (h : k < xs.length) : chars (xs.take (k + 1)) = chars (xs.take k) + (xs.getD k ByteArray.empty).size := by
  rw [take_snoc xs ByteArray.empty k h]
  simp [chars]
theorem chars_le (xs : List ByteArray) (k : Nat) : chars (xs.take k) ≤ chars xs := by
  have : chars xs = chars (xs.take k) + chars (xs.drop k) := by
    unfold chars
    rw [← List.sum_append, ← List.map_append, List.take_append_drop]
  omega
theorem opened_strs {H : Type} {enc : TypeId × Value → H} {W : World} {v : Value} {d : DataW H} {ps : List MemPlace} {r : Reach} {b : Nat} (hval : Value.okWide Tryd.prog W r b 30 v)
    (h : DataW.Trod enc Tryd.prog W 0 (fun _ => true) true 30 v d ps) : ∃ xs : List ByteArray, Rd W 1 v xs.length (vStrs xs) ∧ xs.length ≤ maxLen ∧ ∀ x ∈ xs, x.size ≤ maxLen := by
  obtain ⟨fuel, h⟩ := h
  obtain ⟨a, len, cap, rfl⟩ := Go.WideShapes.okWide_slice Tryd.underlying30 hval
  obtain ⟨css, h1, h2, h3⟩ := rd_of_trod (d := 3) Tryd.underlying30 (ks := [.s]) (by kernel_rfl) (by kernel_rfl) (by decide) h
  obtain ⟨xs, rfl, hx⟩ := exists_map (f := fun x => [Value.string x]) (ok := fun x => x.size ≤ maxLen) (l := css) (fun cs hcs => by
    obtain ⟨a, rfl, ⟨a, rfl, ha⟩⟩ := (h1 cs hcs).one
    exact ⟨a, rfl, ha⟩)
  have e : vStrs xs = xs.flatMap (fun x => [Value.string x]) := by
    clear h1 h2 h3 hx
    unfold vStrs
    induction xs with
    | nil => rfl
    | cons x xs ih => rw [List.map_cons, List.flatMap_cons, ih]; rfl
  exact ⟨xs, by rw [e]; exact h2.map, by simpa using h3, hx⟩
end Go.Proofs.YtlaochpkelbchaaDoor
