/- The laws' helpers on slices of strings: copy, compare, size, mark. strings.Join, by the shelf's contract. Texts of numbers: the reference's and the library's. -/
import Derived.Test.YtmblofcaiaeiaaaGreatDoorJ2
import Derived.Test.YtmblofcaiaeiaaaGreatDoorJ3
import Derived.Shelf.Strings.OnBuilder
import Derived.Shelf.Strconv.Itoa3
namespace Go.Proofs.YtmblofcaiaeiaaaGreatDoor
open Go.RowKit
set_option maxHeartbeats 400000
set_option maxRecDepth 100000
theorem infoStr : (Tryz.prog.info? 9).map (fun i => (i.zero, i.size, i.bytes)) = some (some (.string ByteArray.empty), 1, 16) := by kernel_rfl
def vStrs (xs : List ByteArray) : List Value := xs.map Value.string
theorem vStrs_len (xs : List ByteArray) : (vStrs xs).length = xs.length := by simp [vStrs]
theorem vStrs_get (xs : List ByteArray) (i : Nat) (h : i < xs.length) : (vStrs xs)[i]? = some (.string (xs.getD i ByteArray.empty)) := by
  simp [vStrs, h]
def chars (xs : List ByteArray) : Nat := (xs.map ByteArray.size).sum
theorem chars_take (xs : List ByteArray) (k : Nat) (h : k < xs.length) : chars (xs.take (k + 1)) = chars (xs.take k) + (xs.getD k ByteArray.empty).size := by
  rw [take_snoc xs ByteArray.empty k h]
  simp [chars]
theorem chars_le (xs : List ByteArray) (k : Nat) : chars (xs.take k) ≤ chars xs := by
  have : chars xs = chars (xs.take k) + chars (xs.drop k) := by
    unfold chars
    rw [← List.sum_append, ← List.map_append, List.take_append_drop]
  omega
theorem opened_strs {H : Type} {enc : TypeId × Value → H} {W : World} {v : Value} {d : DataW H} {ps : List MemPlace} {r : Reach} {b : Nat} (hval : Value.okWide Tryz.prog W r b 30 v)
    (h : DataW.Trod enc Tryz.prog W 0 (fun _ => true) true 30 v d ps) : ∃ xs : List ByteArray, Rd W 1 v xs.length (vStrs xs) ∧ xs.length ≤ maxLen ∧ ∀ x ∈ xs, x.size ≤ maxLen := by
  obtain ⟨fuel, h⟩ := h
  obtain ⟨a, len, cap, rfl⟩ := Go.WideShapes.okWide_slice Tryz.underlying30 hval
  obtain ⟨css, h1, h2, h3⟩ := rd_of_trod (d := 3) Tryz.underlying30 (ks := [.s]) (by kernel_rfl) (by kernel_rfl) (by decide) h
  obtain ⟨xs, rfl, hx⟩ := exists_map (f := fun x => [Value.string x]) (ok := fun x => x.size ≤ maxLen) (l := css) (fun cs hcs => by
    obtain ⟨a, rfl, ⟨a, rfl, ha⟩⟩ := (h1 cs hcs).one
    exact ⟨a, rfl, ha⟩)
  have e : vStrs xs = xs.flatMap (fun x => [Value.string x]) := by
    clear h1 h2 h3 hx
    unfold vStrs
    induction xs with
    | nil => rfl
    | cons x xs ih => rw [List.map_cons, List.flatMap_cons, ih]; rfl
  exact ⟨xs, by rw [e]; exact h2.map, by simpa using h3, hx⟩
end Go.Proofs.YtmblofcaiaeiaaaGreatDoor
namespace Go.Proofs.YtmblofcaiaeiaaaGreatDoor
open Go.RowKit
set_option maxHeartbeats 400000
set_option maxRecDepth 100000
def joinS (xs : List ByteArray) (sep : ByteArray) : ByteArray := ⟨(Lib.join (xs.map (·.data.toList)) sep.data.toList).toArray⟩
end Go.Proofs.YtmblofcaiaeiaaaGreatDoor
namespace Go.Proofs.YtmblofcaiaeiaaaGreatDoor
open Go.RowKit
set_option maxHeartbeats 400000
set_option maxRecDepth 100000
def itoaS (n : Int) : ByteArray := ⟨(Lib.itoa n).toArray⟩
def dgb (n : Nat) : UInt8 := UInt8.ofNat (48 + n)
def digs : ByteArray := ⟨#[48, 49, 50, 51, 52, 53, 54, 55, 56, 57]⟩
theorem digs_all : ((List.range 10).all fun n => (digs.extract n (n + 1)).data.toList == [dgb n]) = true := by decide +kernel
theorem digs_at (n : Nat) (h : n < 10) : digs.extract n (n + 1) = ⟨#[dgb n]⟩ := by
  have h1 := (List.all_eq_true.1 digs_all) n (List.mem_range.2 h)
  have h2 : (digs.extract n (n + 1)).data.toList = [dgb n] := by simpa using h1
  apply ByteArray.ext
  apply Array.ext'
  rw [h2]
theorem itoaS_nat (n : Nat) : itoaS (n : Int) = ⟨(Lib.decDigits n).toArray⟩ := by
  rw [itoaS, Lib.itoa, if_neg (by omega), Int.toNat_natCast]
theorem itoaS_small {n : Nat} (h : n < 10) : itoaS (n : Int) = ⟨#[dgb n]⟩ := by rw [itoaS_nat, Lib.decDigits_one h]; rfl
theorem itoaS_big {n : Nat} (h : 10 ≤ n) : itoaS (n : Int) = itoaS ((n / 10 : Nat) : Int) ++ ⟨#[dgb (n % 10)]⟩ := by
  rw [itoaS_nat, itoaS_nat, Lib.decDigits, dif_neg (by omega)]
  apply ByteArray.ext
  apply Array.ext'
  simp [dgb]
theorem itoaS_neg {n : Nat} (h : 0 < n) : itoaS (-(n : Int)) = ⟨#[45]⟩ ++ itoaS (n : Int) := by
  rw [itoaS_nat, itoaS, Lib.itoa, if_pos (by omega), Int.natAbs_neg, Int.natAbs_natCast]
  apply ByteArray.ext
  apply Array.ext'
  simp
theorem decDigits_le : ∀ (k u : Nat), u < 10 ^ (k + 1) → (Lib.decDigits u).length ≤ k + 1
  | 0, u, h => by rw [Lib.decDigits_one (by omega)]; simp
  | k + 1, u, h => by
    rw [Lib.decDigits]
    split
    · simp
    · have := decDigits_le k (u / 10) (by rw [Nat.pow_succ] at h; omega)
      rw [List.length_append, List.length_singleton]
      omega
theorem itoaS_size (n : Int) (h : -9223372036854775808 ≤ n) (h1 : n ≤ 9223372036854775807) : (itoaS n).size ≤ 21 := by
  show (Lib.itoa n).toArray.size ≤ 21
  rw [List.size_toArray, Lib.itoa]
  split
  · have := decDigits_le 19 n.natAbs (by omega)
    rw [List.length_cons]
    omega
  · have := decDigits_le 19 n.toNat (by omega)
    omega
theorem itoaS_pos (n : Int) : 0 < (itoaS n).size := by
  show 0 < (Lib.itoa n).toArray.size
  rw [List.size_toArray, Lib.itoa]
  have h : ∀ u, 0 < (Lib.decDigits u).length := fun u => by
    rw [Lib.decDigits]
    split <;> simp
  split
  · simp
  · exact h _
end Go.Proofs.YtmblofcaiaeiaaaGreatDoor
