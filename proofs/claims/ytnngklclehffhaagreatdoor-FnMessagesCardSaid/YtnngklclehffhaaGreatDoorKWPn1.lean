/- The laws' helpers on slices of truth values; marks of strings, exactly. -/
import Derived.Test.YtnngklclehffhaaGreatDoorKWPn
namespace Go.Proofs.YtnngklclehffhaaGreatDoor
open Go.RowKit
set_option maxHeartbeats 400000
set_option maxRecDepth 100000
theorem infoBool : (Tryz.prog.info? 4).map (fun i => (i.zero, i.size, i.bytes)) = some (some (.bool false), 1, 1) := by kernel_rfl
/-- The marks of n truth values, of n strings. -/
def bmarks : Nat → Int → List Bool
  | 0, _ => []
  | n + 1, k => (k % 3 == 0) :: bmarks n (k + 1)
theorem bmarks_len (n : Nat) (k : Int) : (bmarks n k).length = n := by
  induction n generalizing k with
  | zero => rfl
  | succ n ih => simp [bmarks, ih]
theorem bmarks_getD (n : Nat) (k : Int) (i : Nat) (h : i < n) : (bmarks n k).getD i false = ((k + i) % 3 == 0) := by
  induction n generalizing k i with
  | zero => omega
  | succ n ih =>
    cases i with
    | zero => simp [bmarks]
    | succ i =>
      have e : k + 1 + (i : Int) = k + ((i + 1 : Nat) : Int) := by omega
      simp only [bmarks, List.getD_cons_succ]; rw [ih _ _ (by omega), e]
theorem bmarks_get (n : Nat) (k : Int) (i : Nat) (h : i < n) : (vBools (bmarks n k))[i]? = some (.bool ((k + i) % 3 == 0)) := by
  rw [vBools_get _ _ (by rw [bmarks_len]; exact h), bmarks_getD _ _ _ h]
def smarks : Nat → Int → List ByteArray
  | 0, _ => []
  | n + 1, k => mtext k :: smarks n (k + 1)
theorem smarks_len (n : Nat) (k : Int) : (smarks n k).length = n := by
  induction n generalizing k with
  | zero => rfl
  | succ n ih => simp [smarks, ih]
theorem smarks_getD (n : Nat) (k : Int) (i : Nat) (h : i < n) : (smarks n k).getD i ByteArray.empty = mtext (k + i) := by
  induction n generalizing k i with
  | zero => omega
  | succ n ih =>
    cases i with
    | zero => simp [smarks]
    | succ i =>
      have e : k + 1 + (i : Int) = k + ((i + 1 : Nat) : Int) := by omega
      simp only [smarks, List.getD_cons_succ]; rw [ih _ _ (by omega), e]
theorem smarks_get (n : Nat) (k : Int) (i : Nat) (h : i < n) : (vStrs (smarks n k))[i]? = some (.string (mtext (k + i))) := by
  rw [vStrs_get _ _ (by rw [smarks_len]; exact h), smarks_getD _ _ _ h]
end Go.Proofs.YtnngklclehffhaaGreatDoor
