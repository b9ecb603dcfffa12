/- The fragment of a text: the reference's walk. Tails of a function's code, and frames as letters: a long walk cut into declarations. -/
import Derived.Test.YtnngklclehffhaaGreatDoorKWPf
import Derived.Test.YtnngklclehffhaaGreatDoorJ2
import Derived.Test.YtnngklclehffhaaGreatDoorChecked
import Derived.Deep.DeepCutAuto
namespace Go.Proofs.YtnngklclehffhaaGreatDoor
open Go.RowKit
set_option maxHeartbeats 1000000
set_option maxRecDepth 100000
theorem rdS3_at {W : World} {r : Value} {B : Nat} {L : List ByteArray} (h : W.ownsRow B 9 1 r L.length (vStrs L)) (hn : 0 < L.length) : ∃ b c, r = .slice (some ⟨b, 0, none⟩) L.length c ∧ b < W.heap.size ∧ ∀ i, i < L.length → W.cell? ⟨b, i, none⟩ = some (.string (L.getD i ByteArray.empty)) := by
  obtain ⟨b, c, rfl, h1, h2⟩ := World.ownsRow.form h hn
  exact ⟨b, c, rfl, h2, fun i hi => (h.cellAt i (by omega)).trans (vStrs_get L i hi)⟩
/-- The two blank variables. -/
def PfS (w W : World) : Prop := Ext w W ∧ W.heap[w.heap.size]? = some (.cells #[.int .i64 0, .int .i64 0, .int .i64 0, .string ⟨#[]⟩] 31 (0, 0)) ∧ W.heap[w.heap.size + 1]? = some (.cells #[.int .i64 0, .int .i64 0, .int .i64 0, .string ⟨#[]⟩] 31 (0, 0))
theorem PfS.ext {w W W' : World} (h : PfS w W) (hx : Ext W W') : PfS w W' := ⟨h.1.trans hx, blkx h.2.1 hx, blkx h.2.2 hx⟩
theorem PfS.set {w W : World} {Q i : Nat} (h : PfS w W) (hQ : w.heap.size + 2 ≤ Q) (u : Value) : PfS w (W.setCell ⟨Q, i, none⟩ u) :=
  ⟨h.1.setCell (by dsimp only; omega) _, set_other h.2.1 (by dsimp only; omega) _, set_other h.2.2 (by dsimp only; omega) _⟩
theorem box4_set3 {w : World} {B t : Nat} {a b c d : Value} (h : w.heap[B]? = some (.cells #[a, b, c, d] t (0, 0))) (d' : Value) :
    (w.setCell ⟨B, 3, none⟩ d').heap[B]? = some (.cells #[a, b, c, d'] t (0, 0)) := by
  have h1 := heap_setCell_same _ B 3 _ t d' h
  simpa using h1
end Go.Proofs.YtnngklclehffhaaGreatDoor
namespace Go
/-- Does it begin with region n? -/
def Code.startsAt (n : Nat) : Code → Bool
  | .region i _ _ => i == n
  | .seq a _ => a.startsAt n
  | .scope a => a.startsAt n
  | _ => false
/-- What is left of the statements from region n on. -/
def Code.tailAt (n : Nat) : Code → Code
  | .seq a b => if a.startsAt n then .seq a b else b.tailAt n
  | .scope c => if c.startsAt n then .scope c else c.tailAt n
  | c => c
def letters (u : Nat → Value) : Nat → Nat → List Value
  | _, 0 => []
  | i, n + 1 => u i :: letters u (i + 1) n
theorem letters_get (u : Nat → Value) : ∀ (n i j : Nat), (letters u i n)[j]? = if j < n then some (u (i + j)) else none
  | 0, i, j => by simp [letters]
  | n + 1, i, 0 => by simp [letters]
  | n + 1, i, j + 1 => by
    rw [letters, List.getElem?_cons_succ, letters_get u n (i + 1) j]
    rw [show i + 1 + j = i + (j + 1) by omega]
    by_cases h : j < n
    · rw [if_pos h, if_pos (by omega)]
    · rw [if_neg h, if_neg (by omega)]
theorem frame_arg (a : Act) (n : Nat) (h1 : a.defers = []) (h2 : a.tmps.size = n + 1) (v : Value) (h3 : a.tmps.getD 0 undef = v) : a = ⟨(v :: letters (fun i => a.tmps.getD i undef) 1 n).toArray, []⟩ := by
  obtain ⟨tmps, d⟩ := a
  simp only at h1 h2 h3
  subst h1
  congr 1
  apply Array.ext_getElem?
  intro j
  refine Eq.trans ?_ (List.getElem?_toArray (xs := v :: letters _ 1 n) (i := j)).symm
  cases j with
  | zero =>
    rw [List.getElem?_cons_zero, ← h3, Array.getD_eq_getD_getElem?, Array.getElem?_eq_getElem (by omega)]
    rfl
  | succ j =>
    rw [List.getElem?_cons_succ, letters_get]
    split
    · rename_i h
      have hj : j + 1 < tmps.size := by omega
      show tmps[j + 1]? = some (tmps.getD (1 + j) undef)
      rw [show 1 + j = j + 1 by omega, Array.getD_eq_getD_getElem?, Array.getElem?_eq_getElem hj]
      rfl
    · exact Array.getElem?_eq_none (show tmps.size ≤ j + 1 by omega)
end Go
