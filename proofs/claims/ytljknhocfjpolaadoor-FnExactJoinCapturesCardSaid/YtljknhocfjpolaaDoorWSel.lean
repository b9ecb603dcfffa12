/- Elements of a capture, chosen: both sides. -/
import Derived.Test.YtljknhocfjpolaaDoorWDelC
namespace Go.Proofs.YtljknhocfjpolaaDoor
open Go.RowKit
set_option maxHeartbeats 1000000
set_option maxRecDepth 100000
def selD (xs : List Cap) (b : Bool) (p : Cap → Bool) : List Cap := if capB xs && b then xs.filter p else []
theorem sel_no {xs : List Cap} {b : Bool} {p : Cap → Bool} (h : (capB xs && b) = false) : selD xs b p = [] := by rw [selD, h]; rfl
theorem sel_yes {xs : List Cap} {b : Bool} {p : Cap → Bool} (h : capB xs = true) (h1 : b = true) : selD xs b p = xs.filter p := by rw [selD, h, h1]; rfl
theorem selD_len (xs : List Cap) (b : Bool) (p : Cap → Bool) : (selD xs b p).length ≤ xs.length := by
  rw [selD]
  split
  · exact List.length_filter_le _ _
  · simp
theorem filter_snoc (p : Cap → Bool) (xs : List Cap) (k : Nat) (h : k < xs.length) : (xs.take (k + 1)).filter p = (xs.take k).filter p ++ (if p (xs.getD k .z) then [xs.getD k .z] else []) := by
  rw [take_snoc xs .z k h, List.filter_append]
  congr 1
  generalize xs.getD k .z = x
  cases hp : p x <;> simp [hp]
theorem filter_le (p : Cap → Bool) (xs : List Cap) (k : Nat) (h : k ≤ xs.length) : ((xs.take k).filter p).length ≤ k := Nat.le_trans (List.length_filter_le _ _) (by rw [List.length_take]; omega)
end Go.Proofs.YtljknhocfjpolaaDoor
