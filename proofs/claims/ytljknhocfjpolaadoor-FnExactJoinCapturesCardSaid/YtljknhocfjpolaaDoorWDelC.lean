/- slices.DeleteFunc and slices.Clone at slices of elements of eight cells, whatever the function value. -/
import Derived.Test.YtljknhocfjpolaaDoorWIsCap
import Derived.Test.YtljknhocfjpolaaDoorKit2
import Derived.Test.YtljknhocfjpolaaDoorWSl
import Derived.Lib.SliceRun
import Derived.Shelf.SlicesE.Clone
namespace Go.Proofs.YtljknhocfjpolaaDoor
open Go.RowKit
set_option maxHeartbeats 1000000
set_option maxRecDepth 100000
theorem run_clear_wide {P : Program} (w : World) (t e : TypeId) (z : Value) (k : Nat) (ht : P.underlying t = some (.slice e)) (hv : ∀ w, (zeroValue e).run P w = .ok z w) (hk : z.cells.size = k) (h0 : 0 < k) (h1 : ∀ u ∈ z.cells, u.oneCell' = true) (b o n c : Nat) (hn : 0 < n)
    (hc : ∀ j, j < n * k → (w.cell? ⟨b, o + j, none⟩).isSome = true) (hf : ∀ j, j < n * k → w.frozen? ⟨b, o + j, none⟩ = false) :
    ∃ vs : List Value, vs.length = n * k ∧ ∀ ty, (Builtin.clear_ #[t] ty #[.slice (some ⟨b, o, none⟩) n c]).run P w = .ok (.tuple #[]) (w.setCells b o vs) := by
  have hl : (Builtin.zeroCells z.cells n).toList.length = n * k := by simp [Builtin.zeroCells, hk]
  refine ⟨(Builtin.zeroCells z.cells n).toList, hl, fun ty => ?_⟩
  have hst := run_storeCells_cells (P := P) b o (Builtin.zeroCells z.cells n).toList 0 w (by rw [hl]; simpa using hc) (by rw [hl]; simpa using hf) (by
    intro v hv'
    simp only [Builtin.zeroCells, Array.toList_map, List.mem_map] at hv'
    obtain ⟨i, -, rfl⟩ := hv'
    have hlt : i % z.cells.size < z.cells.size := Nat.mod_lt _ (by omega)
    rw [getElem!_pos z.cells _ hlt]
    exact h1 _ (Array.getElem_mem hlt))
  simp only [Nat.add_zero] at hst
  obtain ⟨m, rfl⟩ : ∃ m, n = m + 1 := ⟨n - 1, by omega⟩
  simp [Builtin.clear_, run_underlying ht, hv, hst]
theorem own_trunc8 {w : World} {base e n g cap i : Nat} {cs : List Value} (h : w.ownsRow base e 8 (.slice (some ⟨g, 0, none⟩) n cap) n cs) (hi : i ≤ n) : w.ownsRow base e 8 (.slice (some ⟨g, 0, none⟩) i cap) i (cs.take (i * 8)) := by
  obtain ⟨h1, ⟨h2, -⟩ | ⟨g', c, cur, h2, hB, hh, hn', hc, hs, ht⟩⟩ := h
  · cases h2
  · cases h2
    refine ⟨by simp [h1]; omega, .inr ⟨g, cap, cur, rfl, hB, hh, by omega, hc, hs, ?_⟩⟩
    rw [← ht, List.take_take]; congr 1; omega
theorem own_form8 {w : World} {base e k n : Nat} {v : Value} {cs : List Value} (h : w.ownsRow base e k v n cs) (hn : 0 < n) : ∃ g cap, v = .slice (some ⟨g, 0, none⟩) n cap ∧ n ≤ cap ∧ cap ≤ maxLen := by
  obtain ⟨h1, ⟨rfl, h0⟩ | ⟨g, cap, cur, rfl, hB, hh, hnc, hcm, _⟩⟩ := h
  · omega
  · exact ⟨g, cap, rfl, hnc, hcm⟩
theorem flat_take (xs : List Cap) (k : Nat) (h : k ≤ xs.length) : (xs.flatMap Cap.cs).take (k * 8) = (xs.take k).flatMap Cap.cs := by
  have h1 : xs.flatMap Cap.cs = (xs.take k).flatMap Cap.cs ++ (xs.drop k).flatMap Cap.cs := by rw [← List.flatMap_append, List.take_append_drop]
  have h2 : ((xs.take k).flatMap Cap.cs).length = k * 8 := by rw [caps_len, List.length_take, Nat.min_eq_left h]
  rw [h1, ← h2, List.take_left]
/-- What stands in the row while it is thinned out: i kept of the first j. -/
def ThinC (p : Cap → Bool) (xs : List Cap) (j i : Nat) (L : List Value) : Prop :=
  L.length = xs.length * 8 ∧ i = ((xs.take j).filter (fun x => !p x)).length ∧ L.take (i * 8) = ((xs.take j).filter (fun x => !p x)).flatMap Cap.cs ∧ L.drop (j * 8) = (xs.flatMap Cap.cs).drop (j * 8)
theorem ThinC.lt {p xs j i L} (h : ThinC p xs j i L) : i ≤ j := by
  rw [h.2.1]; exact Nat.le_trans (List.length_filter_le _ _) (by simp; omega)
theorem ThinC.at_ {p xs j i L} (h : ThinC p xs j i L) (hj : j < xs.length) (t : Nat) (ht : t < 8) : L[j * 8 + t]? = (xs.getD j .z).cs[t]? := by
  have := congrArg (fun l => l[t]?) h.2.2.2
  simp only [List.getElem?_drop] at this
  rw [this, caps_get xs j hj t ht]
theorem ThinC.start {p xs k} (hk : k < xs.length) (hall : ∀ i, i < k → p (xs.getD i .z) = false) (hx : p (xs.getD k .z) = true) : ThinC p xs (k + 1) k (xs.flatMap Cap.cs) := by
  have e1 : (xs.take k).filter (fun x => !p x) = xs.take k := by
    rw [List.filter_eq_self]
    intro x hxm
    obtain ⟨i, hi, rfl⟩ := List.mem_iff_getElem.1 hxm
    rw [List.length_take] at hi
    have := hall i (by omega)
    rw [List.getD_eq_getElem?_getD, List.getElem?_eq_getElem (by omega)] at this
    rw [List.getElem_take]
    simpa using this
  have e2 : (xs.take (k + 1)).filter (fun x => !p x) = xs.take k := by
    rw [take_snoc xs .z k hk, List.filter_append, e1]
    simp only [List.filter_cons, hx]
    simp
  refine ⟨caps_len xs, ?_, ?_, rfl⟩
  · rw [e2]; simp; omega
  · rw [e2, flat_take xs k (by omega)]
theorem ThinC.skip {p xs j i L} (h : ThinC p xs j i L) (hj : j < xs.length) (hx : p (xs.getD j .z) = true) : ThinC p xs (j + 1) i L := by
  have e : (xs.take (j + 1)).filter (fun x => !p x) = (xs.take j).filter (fun x => !p x) := by
    rw [take_snoc xs .z j hj, List.filter_append]
    simp only [List.filter_cons, hx]
    simp
  refine ⟨h.1, by rw [e]; exact h.2.1, by rw [e]; exact h.2.2.1, ?_⟩
  have := congrArg (List.drop 8) h.2.2.2
  simp only [List.drop_drop] at this
  rw [show (j + 1) * 8 = j * 8 + 8 by omega]
  exact this
theorem ThinC.keep {p xs j i L} (h : ThinC p xs j i L) (hj : j < xs.length) (hx : p (xs.getD j .z) = false) : ThinC p xs (j + 1) (i + 1) (L.take (i * 8) ++ (xs.getD j .z).cs ++ L.drop (i * 8 + 8)) := by
  have e : (xs.take (j + 1)).filter (fun x => !p x) = (xs.take j).filter (fun x => !p x) ++ [xs.getD j .z] := by
    rw [take_snoc xs .z j hj, List.filter_append]
    simp only [List.filter_cons, hx]
    simp
  have hlt := h.lt
  have hc := Cap.len (xs.getD j .z)
  have hl := h.1
  have ht : (L.take (i * 8)).length = i * 8 := by rw [List.length_take]; omega
  have hA : (L.take (i * 8) ++ (xs.getD j .z).cs).length = i * 8 + 8 := by rw [List.length_append, ht, hc]
  refine ⟨by rw [List.length_append, hA, List.length_drop]; omega, by rw [e, List.length_append, ← h.2.1]; rfl, ?_, ?_⟩
  · rw [e, show (i + 1) * 8 = (L.take (i * 8) ++ (xs.getD j .z).cs).length by rw [hA]; omega, List.take_left, h.2.2.1, List.flatMap_append]
    simp
  · have h4 := congrArg (List.drop 8) h.2.2.2
    simp only [List.drop_drop] at h4
    rw [show (j + 1) * 8 = (L.take (i * 8) ++ (xs.getD j .z).cs).length + ((j - i) * 8) by rw [hA]; omega, ← List.drop_drop, List.drop_left, List.drop_drop, show i * 8 + 8 + (j - i) * 8 = j * 8 + 8 by omega, h4]
    congr 1
    rw [hA]
    omega
theorem ThinC.done {p xs i L} (h : ThinC p xs xs.length i L) : L.take (i * 8) = (xs.filter (fun x => !p x)).flatMap Cap.cs ∧ i = (xs.filter (fun x => !p x)).length := by
  have := h.2
  rw [List.take_length] at this
  exact ⟨this.2.1, this.1⟩
end Go.Proofs.YtljknhocfjpolaaDoor
