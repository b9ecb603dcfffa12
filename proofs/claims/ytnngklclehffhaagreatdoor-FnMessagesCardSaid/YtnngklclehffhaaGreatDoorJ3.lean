/- General words on bytes and strings. The laws' texts of marks, exactly. Fragment: the laws' helpers (written by flatgen.py). -/
import Derived.Test.YtnngklclehffhaaGreatDoorJ2
import Derived.Laws.BytesArg
import Derived.Lib.BufferRead
namespace Go.RowKit
def vBytes (l : List UInt8) : List Value := l.map (fun b => Value.int .u8 (b.toNat : Int))
theorem vBytes_len (l : List UInt8) : (vBytes l).length = l.length := by simp [vBytes]
/-- string(b) of a slice that reads as the bytes l. -/
theorem conv_rd {P : Program} {w : World} {src dst e : TypeId} {v : Value} {l : List UInt8} {n : Nat} (hs : P.underlying src = some (.slice e)) (he : P.underlying e = some (.int .u8)) (hd : P.underlying dst = some .string)
    (h : Rd w 1 v n (vBytes l)) : (convert src dst v).run P w = .ok (.string ⟨l.toArray⟩) w := by
  obtain ⟨h1, p, cap, rfl, h4⟩ := h
  obtain rfl : n = l.length := by rw [vBytes_len] at h1; omega
  rcases h4 with h0 | ⟨b, off, rfl, h6⟩
  · obtain rfl : l = [] := List.eq_nil_of_length_eq_zero h0
    cases p with
    | none => exact Lib.run_convert_nil_bytes w src dst e cap hs he hd
    | some a => exact run_convert_bytes_back w src dst e a cap [] hs he hd (fun j hj => by simp at hj)
  · refine run_convert_bytes_back w src dst e ⟨b, off, none⟩ cap l hs he hd (fun j hj => ?_)
    have := h6 j (by rw [vBytes_len]; exact hj)
    have hplain : (⟨b, off, none⟩ : Addr).add j = ⟨b, off + j, none⟩ := by unfold Addr.add; split <;> simp_all
    rw [hplain, this]
    simp [vBytes]
end Go.RowKit
namespace Go.Proofs.YtnngklclehffhaaGreatDoor
open Go.RowKit
set_option maxHeartbeats 400000
set_option maxRecDepth 100000
def mgb (n : Nat) : UInt8 := UInt8.ofNat (48 + n)
def dgs : Nat → Nat → ByteArray → ByteArray
  | 0, _, a => a
  | f + 1, k, a => if k = 0 then a else dgs f (k / 10) (⟨#[mgb (k % 10)]⟩ ++ a)
/-- The text of a mark. -/
def mtext (k : Int) : ByteArray := ⟨#[109]⟩ ++ dgs k.toNat k.toNat ByteArray.empty
theorem dgs_zero (f : Nat) (a : ByteArray) : dgs f 0 a = a := by cases f <;> rfl
end Go.Proofs.YtnngklclehffhaaGreatDoor
namespace Go.Proofs.YtnngklclehffhaaGreatDoor
open Go.RowKit
set_option maxHeartbeats 1000000
set_option maxRecDepth 100000
structure Fra where
  n : Int
  p : Int
  q : Int
  d : ByteArray
def Fra.cs (x : Fra) : List Value := [.int .i64 x.n, .int .i64 x.p, .int .i64 x.q, .string x.d]
def Fra.z : Fra := ⟨0, 0, 0, ByteArray.empty⟩
theorem Fra.len (x : Fra) : x.cs.length = 4 := rfl
theorem fras_len (xs : List Fra) : (xs.flatMap Fra.cs).length = xs.length * 4 := flat_len _ 4 Fra.len xs
theorem fras_get (xs : List Fra) (i : Nat) (h : i < xs.length) (j : Nat) (hj : j < 4) : (xs.flatMap Fra.cs)[i * 4 + j]? = (xs.getD i .z).cs[j]? := flat_get _ _ 4 Fra.len xs i j h hj
theorem Fra.at {w : World} {b off : Nat} (xs : List Fra) (h : ∀ j (h : j < (xs.flatMap Fra.cs).length), w.cell? ⟨b, off + j, none⟩ = some (xs.flatMap Fra.cs)[j]) (i : Nat) (hi : i < xs.length) :
    w.cell? ⟨b, off + i * 4, none⟩ = some (.int .i64 (xs.getD i .z).n) ∧
    w.cell? ⟨b, off + i * 4 + 1, none⟩ = some (.int .i64 (xs.getD i .z).p) ∧
    w.cell? ⟨b, off + i * 4 + 2, none⟩ = some (.int .i64 (xs.getD i .z).q) ∧
    w.cell? ⟨b, off + i * 4 + 3, none⟩ = some (.string (xs.getD i .z).d) :=
  ⟨flat_cell Fra.cs .z 4 Fra.len xs h i 0 hi (by omega), flat_cell Fra.cs .z 4 Fra.len xs h i 1 hi (by omega), flat_cell Fra.cs .z 4 Fra.len xs h i 2 hi (by omega), flat_cell Fra.cs .z 4 Fra.len xs h i 3 hi (by omega)⟩
def Fra.chars (xs : List Fra) : Nat := (xs.map (fun x => x.d.size)).sum
theorem Fra.chars_take (xs : List Fra) (k : Nat) (h : k < xs.length) : Fra.chars (xs.take (k + 1)) = Fra.chars (xs.take k) + (xs.getD k .z).d.size := by
  rw [take_snoc xs .z k h]
  simp [Fra.chars]
theorem Fra.chars_le (xs : List Fra) (k : Nat) : Fra.chars (xs.take k) ≤ Fra.chars xs := by
  have : Fra.chars xs = Fra.chars (xs.take k) + Fra.chars (xs.drop k) := by
    unfold Fra.chars
    rw [← List.sum_append, ← List.map_append, List.take_append_drop]
  omega
theorem Fra.size_of {xs : List Fra} (h2 : Fra.chars xs ≤ 1048576) {k : Nat} (hk : k < xs.length) : (xs.getD k .z).d.size ≤ 1048576 := by
  have h1 := Fra.chars_take xs k hk
  have h3 := Fra.chars_le xs (k + 1)
  omega
theorem infoFra : (Tryz.prog.info? 31).map (fun i => (i.zero, i.size, i.bytes)) = some (some (.agg #[.int .i64 0, .int .i64 0, .int .i64 0, .string ByteArray.empty]), 4, 40) := by kernel_rfl
def mkFra (n : Nat) (k0 : Int) : List Fra := (List.range n).map (fun i : Nat => ⟨k0 + 4 * (i : Int), k0 + 4 * (i : Int) + 1, k0 + 4 * (i : Int) + 1 + 1, mtext (k0 + 4 * (i : Int) + 1 + 1 + 1)⟩)
theorem mkFra_len (n : Nat) (k0 : Int) : (mkFra n k0).length = n := by simp [mkFra]
theorem mkFra_at (n : Nat) (k0 : Int) (i : Nat) (h : i < n) : (mkFra n k0).getD i .z = ⟨k0 + 4 * (i : Int), k0 + 4 * (i : Int) + 1, k0 + 4 * (i : Int) + 1 + 1, mtext (k0 + 4 * (i : Int) + 1 + 1 + 1)⟩ := by
  rw [List.getD_eq_getElem?_getD, mkFra, List.getElem?_map, List.getElem?_range h]; rfl
end Go.Proofs.YtnngklclehffhaaGreatDoor
