/- Fragment: the laws' helpers (written by flatgen.py). -/
import Derived.Test.YtnngklclehffhaaDoorKWMark
namespace Go.Proofs.YtnngklclehffhaaDoor
open Go.RowKit
set_option maxHeartbeats 1000000
set_option maxRecDepth 100000
structure Fra where
  n : Int
  p : Int
  q : Int
  d : ByteArray
def Fra.cs (x : Fra) : List Value := [.int .i64 x.n, .int .i64 x.p, .int .i64 x.q, .string x.d]
def Fra.z : Fra := ⟨0, 0, 0, ByteArray.empty⟩
theorem Fra.len (x : Fra) : x.cs.length = 4 := rfl
theorem fras_len (xs : List Fra) : (xs.flatMap Fra.cs).length = xs.length * 4 := flat_len _ 4 Fra.len xs
theorem fras_get (xs : List Fra) (i : Nat) (h : i < xs.length) (j : Nat) (hj : j < 4) : (xs.flatMap Fra.cs)[i * 4 + j]? = (xs.getD i .z).cs[j]? := flat_get _ _ 4 Fra.len xs i j h hj
theorem Fra.at {w : World} {b off : Nat} (xs : List Fra) (h : ∀ j (h : j < (xs.flatMap Fra.cs).length), w.cell? ⟨b, off + j, none⟩ = some (xs.flatMap Fra.cs)[j]) (i : Nat) (hi : i < xs.length) :
    w.cell? ⟨b, off + i * 4, none⟩ = some (.int .i64 (xs.getD i .z).n) ∧
    w.cell? ⟨b, off + i * 4 + 1, none⟩ = some (.int .i64 (xs.getD i .z).p) ∧
    w.cell? ⟨b, off + i * 4 + 2, none⟩ = some (.int .i64 (xs.getD i .z).q) ∧
    w.cell? ⟨b, off + i * 4 + 3, none⟩ = some (.string (xs.getD i .z).d) :=
  ⟨flat_cell Fra.cs .z 4 Fra.len xs h i 0 hi (by omega), flat_cell Fra.cs .z 4 Fra.len xs h i 1 hi (by omega), flat_cell Fra.cs .z 4 Fra.len xs h i 2 hi (by omega), flat_cell Fra.cs .z 4 Fra.len xs h i 3 hi (by omega)⟩
theorem laws_toFragment (n : Int) (p : Int) (q : Int) (d : ByteArray) (w : World) : Calls Tryd.prog 25 #[.agg #[.int .i64 n, .int .i64 p, .int .i64 q, .string d]] w fun e w' => e = .returned (.agg #[.int .i64 n, .int .i64 p, .int .i64 q, .string d]) ∧ Ext w w' := by
  go_enter Tryd.func25, Tryd.ntmps25
  go_wp2
  go_returns
  exact ⟨rfl, (by repeat' (first | exact Ext.refl _ | assumption | refine Ext.alloc ?_ _ | refine Ext.ext ?_ _ | refine Ext.drew ?_ | refine Ext.drewN ?_ _))⟩
theorem laws_szFragment (n : Int) (p : Int) (q : Int) (d : ByteArray) (left : Int) (w : World) (h : (d.size : Int) ≤ left) (h1 : left ≤ 1048576) : Calls Tryd.prog 23 #[.agg #[.int .i64 n, .int .i64 p, .int .i64 q, .string d], .int .i64 left] w fun e w' => e = .returned (.int .i64 (left - d.size)) ∧ Ext w w' := by
  have w1 : IntKind.i64.wrap (left - (d.size : Int)) = left - d.size := IntWalk.i64_in _ (by omega)
  have t1 : decide (left - (d.size : Int) < 0) = false := by simp; omega
  go_enter Tryd.func23, Tryd.ntmps23
  go_wp2
  go_ret
  exact ⟨rfl, (by repeat' (first | exact Ext.refl _ | assumption | refine Ext.alloc ?_ _ | refine Ext.ext ?_ _ | refine Ext.drew ?_ | refine Ext.drewN ?_ _))⟩
theorem laws_szFragment_big (n : Int) (p : Int) (q : Int) (d : ByteArray) (left : Int) (w : World) (h : left < d.size) (h1 : 0 ≤ left ∧ left ≤ 1048576 ∧ d.size ≤ maxLen) : Calls Tryd.prog 23 #[.agg #[.int .i64 n, .int .i64 p, .int .i64 q, .string d], .int .i64 left] w fun e w' => e = .returned (.int .i64 (-1)) ∧ Ext w w' := by
  obtain ⟨h2, h3, h4⟩ := h1
  unfold maxLen at h4
  have w1 : IntKind.i64.wrap (left - (d.size : Int)) = left - d.size := IntWalk.i64_in _ (by omega)
  have t1 : decide (left - (d.size : Int) < 0) = true := by simp; omega
  go_enter Tryd.func23, Tryd.ntmps23
  go_wp2
  go_ret
  exact ⟨rfl, (by repeat' (first | exact Ext.refl _ | assumption | refine Ext.alloc ?_ _ | refine Ext.ext ?_ _ | refine Ext.drew ?_ | refine Ext.drewN ?_ _))⟩
def Fra.chars (xs : List Fra) : Nat := (xs.map (fun x => x.d.size)).sum
theorem Fra.chars_take (xs : List Fra) (k : Nat) (h : k < xs.length) : Fra.chars (xs.take (k + 1)) = Fra.chars (xs.take k) + (xs.getD k .z).d.size := by
  rw [take_snoc xs .z k h]
  simp [Fra.chars]
theorem Fra.chars_le (xs : List Fra) (k : Nat) : Fra.chars (xs.take k) ≤ Fra.chars xs := by
  have : Fra.chars xs = Fra.chars (xs.take k) + Fra.chars (xs.drop k) := by
    unfold Fra.chars
    rw [← List.sum_append, ← List.map_append, List.take_append_drop]
  omega
theorem Fra.size_of {xs : List Fra} (h2 : Fra.chars xs ≤ 1048576) {k : Nat} (hk : k < xs.length) : (xs.getD k .z).d.size ≤ 1048576 := by
  have h1 := Fra.chars_take xs k hk
  have h3 := Fra.chars_le xs (k + 1)
  omega
theorem infoFra : (Tryd.prog.info? 43).map (fun i => (i.zero, i.size, i.bytes)) = some (some (.agg #[.int .i64 0, .int .i64 0, .int .i64 0, .string ByteArray.empty]), 4, 40) := by kernel_rfl
theorem laws_eqFragment (n : Int) (p : Int) (q : Int) (d : ByteArray) (w : World) : Calls Tryd.prog 36 #[.agg #[.int .i64 n, .int .i64 p, .int .i64 q, .string d], .agg #[.int .i64 n, .int .i64 p, .int .i64 q, .string d]] w fun e w' => e = .returned (.bool true) ∧ Ext w w' := by
  go_enter Tryd.func36, Tryd.ntmps36
  repeat (first | (go_wp2; refine wp_region_ext (by kernel_rfl) (by kernel_rfl) ?_; (repeat (go_big_quiet_step (fail))); refine wpQuiet_nil ?_; rintro _ ⟨zq, rfl⟩))
  go_wp2
  go_ret
  exact ⟨rfl, (by repeat' (first | exact Ext.refl _ | assumption | refine Ext.alloc ?_ _ | refine Ext.ext ?_ _ | refine Ext.drew ?_ | refine Ext.drewN ?_ _))⟩
def mkFra (n : Nat) (k0 : Int) : List Fra := (List.range n).map (fun i : Nat => ⟨k0 + 4 * (i : Int), k0 + 4 * (i : Int) + 1, k0 + 4 * (i : Int) + 1 + 1, mtext (k0 + 4 * (i : Int) + 1 + 1 + 1)⟩)
theorem mkFra_len (n : Nat) (k0 : Int) : (mkFra n k0).length = n := by simp [mkFra]
theorem mkFra_at (n : Nat) (k0 : Int) (i : Nat) (h : i < n) : (mkFra n k0).getD i .z = ⟨k0 + 4 * (i : Int), k0 + 4 * (i : Int) + 1, k0 + 4 * (i : Int) + 1 + 1, mtext (k0 + 4 * (i : Int) + 1 + 1 + 1)⟩ := by
  rw [List.getD_eq_getElem?_getD, mkFra, List.getElem?_map, List.getElem?_range h]; rfl
end Go.Proofs.YtnngklclehffhaaDoor
