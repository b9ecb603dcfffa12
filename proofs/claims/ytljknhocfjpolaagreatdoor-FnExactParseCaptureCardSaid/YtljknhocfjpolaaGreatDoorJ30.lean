/- A function's two results of which the first is a struct in a variable. Library functions on slices of ints, by the shelf's contracts. -/
import Derived.Test.YtljknhocfjpolaaGreatDoorJ3
import Derived.Test.YtljknhocfjpolaaGreatDoorJ2
import Derived.Shelf.Slices.Turned
import Derived.Shelf.Slices.Cells
import Derived.Shelf.Slices.Reverse
namespace Go
section
variable {P : Program} {fn : Func} {p u : Tmp} {ty : TypeId} {tmps : Array Value} {w : World} {g : Nat} {t : TypeId} {cs : Array Value} {d : TypeDesc} {a : Value}
/-- Two results: a struct in a variable, and a value. -/
theorem results_ct (hp : tmps.getD p undef = .pointer (some ⟨g, 0, none⟩)) (hg : w.heap[g]? = some (.cells cs t (0, 0))) (hu : P.underlying ty = some d) (hd : (match d with | .struct _ | .array _ _ => true | _ => false) = true) (hi : (P.info? ty).map (·.size) = some cs.size)
    (h : fn.results = #[.cell p ty, .tmp u]) (ha : tmps.getD u undef = a) : (results fn tmps).run P w = .ok (.tuple #[.agg cs, a]) w := by
  simp only [Array.getD_eq_getD_getElem?] at hp ha
  simp only [results, h]
  simp [Result.andThen, hp, ha, asAddr, run_loadVar_row w g t ty cs (0, 0) d hg hu hd hi]
end
end Go
namespace Go.RowKit
theorem blkx {W W' : World} {T : Nat} {o : Obj} (ho : W.heap[T]? = some o) (hx : Ext W W') : W'.heap[T]? = some o := (hx.heap (Array.getElem?_eq_some_iff.1 ho).1).trans ho
end Go.RowKit
namespace Go.Proofs.YtljknhocfjpolaaGreatDoor
open Go.RowKit
set_option maxRecDepth 100000
set_option maxHeartbeats 400000
theorem own_setCells {base e k n g cap : Nat} : ∀ (vs : List Value) (w : World) (cs : List Value) (o : Nat), w.ownsRow base e k (.slice (some ⟨g, 0, none⟩) n cap) n cs → o + vs.length ≤ cs.length →
    (w.setCells g o vs).ownsRow base e k (.slice (some ⟨g, 0, none⟩) n cap) n (cs.take o ++ vs ++ cs.drop (o + vs.length)) ∧ w.grownBy (w.setCells g o vs) (some g)
  | [], w, cs, o, h, _ => ⟨by simpa [World.setCells] using h, World.grownBy.refl _ _⟩
  | v :: r, w, cs, o, h, hl => by
    have h1 := World.ownsRow.stored h o v
    simp only [List.length_cons] at hl
    have h2 := own_setCells r (w.setCell ⟨g, o, none⟩ v) (cs.set o v) (o + 1) h1.1 (by simp; omega)
    refine ⟨?_, grownBy_trans h1.2 h2.2⟩
    have e1 : (cs.set o v).take (o + 1) ++ r ++ (cs.set o v).drop (o + 1 + r.length) = cs.take o ++ (v :: r) ++ cs.drop (o + (v :: r).length) := by
      have hd : (cs.set o v).drop (o + 1 + r.length) = cs.drop (o + (v :: r).length) := by
        rw [List.drop_set_of_lt (by omega)]; congr 1; simp; omega
      have ht : (cs.set o v).take (o + 1) = cs.take o ++ [v] := by
        rw [List.take_succ_eq_append_getElem (by simp; omega), List.take_set, List.getElem_set_self]
        rw [List.set_eq_of_length_le (by simp; omega)]
      rw [hd, ht]; simp
    rw [← e1]
    exact h2.1
theorem rd_cells {xs : List Int} {w : World} {b off : Nat} (h : ∀ j (h : j < (vInts xs).length), w.cell? ⟨b, off + j, none⟩ = some (vInts xs)[j]) (j : Nat) (hj : j < xs.length) :
    w.cell? ⟨b, off + j, none⟩ = some (.int .i64 (xs.getD j 0)) := elem1 (Value.int .i64) 0 xs h j hj
def ren112 : Go.Shelf.Ren := ⟨fun x => if x = 112 then 165 else x, fun x => if x = 0 then 0 else if x = 3 then 3 else if x = 4 then 4 else if x = 28 then 41 else x, fun x => x⟩
theorem lays112 : Go.Proofs.Lays.n112 Tryz.prog ren112 := by constructor <;> first | kernel_rfl | (intro w; kernel_rfl)
theorem slices_Reverse (xs : List Int) (v : Value) (w : World) (B : Nat) (h : w.ownsRow B 3 1 v xs.length (vInts xs)) (h2 : xs.length ≤ 1048576) :
    Calls Tryz.prog 165 #[v] w fun e w' => e = .returned (.tuple #[]) ∧ w'.ownsRow B 3 1 v xs.length (vInts xs.reverse) ∧ w.grownBy w' v.ownBlock := by
  have ho := h
  have hlen := h.1
  obtain ⟨h1, ⟨rfl, hn⟩ | ⟨g, cap, cur, rfl, hB, _⟩⟩ := h
  · have e : xs = [] := List.eq_nil_of_length_eq_zero (by simpa using hn)
    subst e
    exact (Any.slices_Reverse_int_empty lays112 none 0 w).mono fun _ _ ⟨a, b⟩ => by subst b; exact ⟨a, ho, World.grownBy.refl _ _⟩
  · have := Any.slices_Reverse_int_cells lays112 g 0 xs.length cap xs w (Nat.le_refl _) (by omega)
      (fun j hj => by rw [Nat.zero_add, ho.cellAt j (by omega), vInts_get xs j hj]) (fun j hj => by rw [Nat.zero_add]; exact ho.frozenAt j)
    rw [List.take_length] at this
    refine this.mono fun _ _ ⟨a, q, b⟩ => ?_
    subst b
    have hd := own_ext ho (show Ext w (w.drewN q) from (Ext.refl w).drewN q)
    have hs := own_setCells (vInts xs.reverse) (w.drewN q) (vInts xs) 0 hd (by simp [vInts_len])
    refine ⟨a, ?_, grownBy_trans (Ext.grownBy ((Ext.refl w).drewN q) _) hs.2⟩
    have e : (vInts xs).take 0 ++ vInts xs.reverse ++ (vInts xs).drop (0 + (vInts xs.reverse).length) = vInts xs.reverse := by simp [vInts_len]
    rw [e] at hs
    exact hs.1
end Go.Proofs.YtljknhocfjpolaaGreatDoor
