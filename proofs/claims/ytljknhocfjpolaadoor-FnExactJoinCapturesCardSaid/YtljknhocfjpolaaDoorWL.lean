/- The laws' helpers on slices of integers: copy, compare, mark, held. -/
import Derived.Test.YtljknhocfjpolaaDoorWBase
namespace Go.Proofs.YtljknhocfjpolaaDoor
open Go.RowKit
set_option maxHeartbeats 400000
theorem infoInt : (Tryd.prog.info? 3).map (fun i => (i.zero, i.size, i.bytes)) = some (some (.int .i64 0), 1, 8) := by kernel_rfl
theorem infoU8 : (Tryd.prog.info? 5).map (fun i => (i.zero, i.size, i.bytes)) = some (some (.int .u8 0), 1, 1) := by kernel_rfl
def vInts (xs : List Int) : List Value := xs.map (Value.int .i64)
theorem vInts_len (xs : List Int) : (vInts xs).length = xs.length := by simp [vInts]
theorem vInts_get (xs : List Int) (i : Nat) (h : i < xs.length) : (vInts xs)[i]? = some (.int .i64 (xs.getD i 0)) := by
  simp [vInts, h]
def marks : Nat → Int → List Int
  | 0, _ => []
  | n + 1, k => k :: marks n (k + 1)
theorem marks_len (n : Nat) (k : Int) : (marks n k).length = n := by
  induction n generalizing k with
  | zero => rfl
  | succ n ih => simp [marks, ih]
theorem marks_getD (n : Nat) (k : Int) (i : Nat) (h : i < n) : (marks n k).getD i 0 = k + i := by
  induction n generalizing k i with
  | zero => omega
  | succ n ih =>
    cases i with
    | zero => simp [marks]
    | succ i => simp only [marks, List.getD_cons_succ]; rw [ih _ _ (by omega)]; omega
theorem marks_get (n : Nat) (k : Int) (i : Nat) (h : i < n) : (vInts (marks n k))[i]? = some (.int .i64 (k + i)) := by
  rw [vInts_get _ _ (by rw [marks_len]; exact h), marks_getD _ _ _ h]
end Go.Proofs.YtljknhocfjpolaaDoor
