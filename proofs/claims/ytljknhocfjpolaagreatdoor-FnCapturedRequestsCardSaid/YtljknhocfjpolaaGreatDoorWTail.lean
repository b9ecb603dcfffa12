/- Tails of a function's code, and frames as letters: a long walk cut into declarations. -/
import Derived.Test.YtljknhocfjpolaaGreatDoorPure
import Derived.Test.YtljknhocfjpolaaGreatDoorChecked
import Derived.Deep.DeepCutAuto
namespace Go
/-- Does it begin with region n? -/
def Code.startsAt (n : Nat) : Code → Bool
  | .region i _ _ => i == n
  | .seq a _ => a.startsAt n
  | .scope a => a.startsAt n
  | _ => false
/-- What is left of the statements from region n on. -/
def Code.tailAt (n : Nat) : Code → Code
  | .seq a b => if a.startsAt n then .seq a b else b.tailAt n
  | .scope c => if c.startsAt n then .scope c else c.tailAt n
  | c => c
def letters (u : Nat → Value) : Nat → Nat → List Value
  | _, 0 => []
  | i, n + 1 => u i :: letters u (i + 1) n
theorem letters_get (u : Nat → Value) : ∀ (n i j : Nat), (letters u i n)[j]? = if j < n then some (u (i + j)) else none
  | 0, i, j => by simp [letters]
  | n + 1, i, 0 => by simp [letters]
  | n + 1, i, j + 1 => by
    rw [letters, List.getElem?_cons_succ, letters_get u n (i + 1) j]
    rw [show i + 1 + j = i + (j + 1) by omega]
    by_cases h : j < n
    · rw [if_pos h, if_pos (by omega)]
    · rw [if_neg h, if_neg (by omega)]
theorem frame_arg (a : Act) (n : Nat) (h1 : a.defers = []) (h2 : a.tmps.size = n + 1) (v : Value) (h3 : a.tmps.getD 0 undef = v) : a = ⟨(v :: letters (fun i => a.tmps.getD i undef) 1 n).toArray, []⟩ := by
  obtain ⟨tmps, d⟩ := a
  simp only at h1 h2 h3
  subst h1
  congr 1
  apply Array.ext_getElem?
  intro j
  refine Eq.trans ?_ (List.getElem?_toArray (xs := v :: letters _ 1 n) (i := j)).symm
  cases j with
  | zero =>
    rw [List.getElem?_cons_zero, ← h3, Array.getD_eq_getD_getElem?, Array.getElem?_eq_getElem (by omega)]
    rfl
  | succ j =>
    rw [List.getElem?_cons_succ, letters_get]
    split
    · rename_i h
      have hj : j + 1 < tmps.size := by omega
      show tmps[j + 1]? = some (tmps.getD (1 + j) undef)
      rw [show 1 + j = j + 1 by omega, Array.getD_eq_getD_getElem?, Array.getElem?_eq_getElem hj]
      rfl
    · exact Array.getElem?_eq_none (show tmps.size ≤ j + 1 by omega)
end Go
