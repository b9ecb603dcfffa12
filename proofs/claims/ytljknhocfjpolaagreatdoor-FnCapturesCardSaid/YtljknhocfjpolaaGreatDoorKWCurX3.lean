/- Captures that are drawn: what is kept while they are. -/
import Derived.Test.YtljknhocfjpolaaGreatDoorJ10
import Derived.Test.YtljknhocfjpolaaGreatDoorKWDelC
import Derived.Maps.AppendAt
namespace Go.Proofs.YtljknhocfjpolaaGreatDoor
open Go.RowKit
set_option maxHeartbeats 1000000
set_option maxRecDepth 100000
theorem flat_drop8 (xs : List Cap) (k : Nat) (h : k ≤ xs.length) : (xs.flatMap Cap.cs).drop (k * 8) = (xs.drop k).flatMap Cap.cs := by
  have h1 : xs.flatMap Cap.cs = (xs.take k).flatMap Cap.cs ++ (xs.drop k).flatMap Cap.cs := by rw [← List.flatMap_append, List.take_append_drop]
  have h2 : ((xs.take k).flatMap Cap.cs).length = k * 8 := by rw [caps_len, List.length_take, Nat.min_eq_left h]
  rw [h1, ← h2, List.drop_left]
theorem flat_set8 (xs : List Cap) (k : Nat) (x : Cap) (h : k < xs.length) : (xs.flatMap Cap.cs).take (k * 8) ++ x.cs ++ (xs.flatMap Cap.cs).drop (k * 8 + 8) = (xs.set k x).flatMap Cap.cs := by
  rw [List.set_eq_take_append_cons_drop, if_pos h, List.flatMap_append, List.flatMap_cons, flat_take xs k (by omega), show k * 8 + 8 = (k + 1) * 8 by omega, flat_drop8 xs (k + 1) (by omega), List.append_assoc]
theorem wrap_in (x : Int) (h : -9223372036854775808 ≤ x) (h2 : x ≤ 9223372036854775807) : wrap64 x = x := by unfold wrap64; omega
/-- Small captures. -/
def SmC (xs : List Cap) : Prop := xs.length ≤ 12 ∧ ∀ x ∈ xs, x.d.size ≤ 9
def cslc (g n cap : Nat) : Value := .slice (some ⟨g, 0, none⟩) n cap
/-- While a capture is drawn: its row. -/
def KpD (w W : World) (lo B : Nat) (v : Value) (bs : List Int) (A g cap : Nat) (xs : List Cap) : Prop :=
  Dr w W lo B v bs A ∧ W.ownsRow w.heap.size 48 8 (.slice (some ⟨g, 0, none⟩) xs.length cap) xs.length (xs.flatMap Cap.cs) ∧ ∀ x ∈ xs, x.d.size ≤ 9
theorem KpD.step {w W W' : World} {lo B A A' g cap : Nat} {v : Value} {bs : List Int} {xs : List Cap} (h : KpD w W lo B v bs A g cap xs) (hc : Cs W' lo B v bs A') (hg : W.grownBy W' (some B)) : KpD w W' lo B v bs A' g cap xs :=
  ⟨h.1.step hc hg, own_step h.1 h.2.1 (Nat.le_refl _) hg, h.2.2⟩
theorem KpD.ext {w W W' : World} {lo B A g cap : Nat} {v : Value} {bs : List Int} {xs : List Cap} (h : KpD w W lo B v bs A g cap xs) (hx : Ext W W') : KpD w W' lo B v bs A g cap xs := h.step (h.1.1.ext hx) (hx.grownBy _)
theorem KpD.more {w W : World} {lo B A A' g cap : Nat} {v : Value} {bs : List Int} {xs : List Cap} (h : KpD w W lo B v bs A g cap xs) (hA : A ≤ A') : KpD w W lo B v bs A' g cap xs := ⟨h.1.more hA, h.2⟩
theorem KpD.lt {w W : World} {lo B A g cap : Nat} {v : Value} {bs : List Int} {xs : List Cap} (h : KpD w W lo B v bs A g cap xs) : w.heap.size ≤ g ∧ g < W.heap.size := own_row h.2.1 g rfl
theorem KpD.grow {w W W' : World} {lo B A g cap g' cap' : Nat} {v : Value} {bs : List Int} {xs : List Cap} {x : Cap} (h : KpD w W lo B v bs A g cap xs) (hg : W.grownBy W' (some g))
    (ho : W'.ownsRow w.heap.size 48 8 (.slice (some ⟨g', 0, none⟩) (xs.length + 1) cap') (xs.length + 1) (xs.flatMap Cap.cs ++ x.cs)) (hx : x.d.size ≤ 9) : KpD w W' lo B v bs A g' cap' (xs ++ [x]) := by
  refine ⟨h.1.grow hg (fun j e => by cases e; exact h.lt.1), ?_, fun y hy => ?_⟩
  · rw [List.length_append, List.flatMap_append, List.flatMap_singleton]
    exact ho
  · rcases List.mem_append.1 hy with h1 | h1
    · exact h.2.2 y h1
    · rw [List.mem_singleton.1 h1]; exact hx
/-- And a variable at X. -/
def KX (w W : World) (lo B : Nat) (v : Value) (bs : List Int) (A g cap : Nat) (xs : List Cap) (X : Nat) (c : Array Value) : Prop :=
  KpD w W lo B v bs A g cap xs ∧ W.heap[X]? = some (.cells c 48 (0, 0)) ∧ w.heap.size ≤ X ∧ g ≠ X
theorem KX.step {w W W' : World} {lo B A A' g cap X : Nat} {v : Value} {bs : List Int} {xs : List Cap} {c : Array Value} (h : KX w W lo B v bs A g cap xs X c) (hc : Cs W' lo B v bs A') (hg : W.grownBy W' (some B)) : KX w W' lo B v bs A' g cap xs X c :=
  ⟨h.1.step hc hg, blk_step h.1.1 h.2.1 h.2.2.1 hg, h.2.2⟩
theorem KX.ext {w W W' : World} {lo B A g cap X : Nat} {v : Value} {bs : List Int} {xs : List Cap} {c : Array Value} (h : KX w W lo B v bs A g cap xs X c) (hx : Ext W W') : KX w W' lo B v bs A g cap xs X c := h.step (h.1.1.1.ext hx) (hx.grownBy _)
theorem KX.more {w W : World} {lo B A A' g cap X : Nat} {v : Value} {bs : List Int} {xs : List Cap} {c : Array Value} (h : KX w W lo B v bs A g cap xs X c) (hA : A ≤ A') : KX w W lo B v bs A' g cap xs X c := ⟨h.1.more hA, h.2⟩
theorem KX.set {w W : World} {lo B A g cap X : Nat} {v : Value} {bs : List Int} {xs : List Cap} {c : Array Value} (h : KX w W lo B v bs A g cap xs X c) (i : Nat) (u : Value) : KX w (W.setCell ⟨X, i, none⟩ u) lo B v bs A g cap xs X (c.setIfInBounds i u) :=
  ⟨⟨h.1.1.set h.2.2.1 u, own_off h.1.2.1 (fun e => h.2.2.2 (Option.some.inj e)), h.1.2.2⟩, heap_setCell_same W X i c _ u h.2.1, h.2.2⟩
theorem KX.mk {w W : World} {lo B A g cap : Nat} {v : Value} {bs : List Int} {xs : List Cap} (h : KpD w W lo B v bs A g cap xs) (c : Array Value) : KX w (W.alloc (.cells c 48)) lo B v bs A g cap xs W.heap.size c :=
  ⟨h.ext (by repeat' (first | exact Ext.refl _ | assumption | refine Ext.alloc ?_ _ | refine Ext.ext ?_ _ | refine Ext.drew ?_ | refine Ext.drewN ?_ _)), heap_at _ rfl, h.1.size, Nat.ne_of_lt h.lt.2⟩
/-- The row grew. -/
theorem KX.grow {w W W' : World} {lo B A g cap g' cap' X : Nat} {v : Value} {bs : List Int} {xs : List Cap} {x : Cap} {c : Array Value} (h : KX w W lo B v bs A g cap xs X c) (hg : W.grownBy W' (some g)) (hne : g' = g ∨ W.heap.size ≤ g')
    (ho : W'.ownsRow w.heap.size 48 8 (.slice (some ⟨g', 0, none⟩) (xs.length + 1) cap') (xs.length + 1) (xs.flatMap Cap.cs ++ x.cs)) (hx : x.d.size ≤ 9) : KX w W' lo B v bs A g' cap' (xs ++ [x]) X c :=
  ⟨h.1.grow hg ho hx, blk_grow h.2.1 hg (fun e => h.2.2.2 (Option.some.inj e)), h.2.2.1, by
    have := (Array.getElem?_eq_some_iff.1 h.2.1).1
    have := h.2.2.2
    omega⟩
/-- One element stored. -/
theorem KX.put {w W : World} {lo B A g cap X k : Nat} {v : Value} {bs : List Int} {xs : List Cap} {c : Array Value} (h : KX w W lo B v bs A g cap xs X c) (hk : k < xs.length) (x : Cap) (hx : x.d.size ≤ 9) :
    KpD w (W.setCells g (k * 8) x.cs) lo B v bs A g cap (xs.set k x) := by
  obtain ⟨h1, h2⟩ := own_setCells x.cs W _ (k * 8) h.1.2.1 (by rw [Cap.len, caps_len]; omega)
  rw [Cap.len, flat_set8 xs k x hk] at h1
  refine ⟨h.1.1.grow h2 (fun j e => by cases e; exact h.1.lt.1), by rw [List.length_set]; exact h1, fun y hy => ?_⟩
  rcases List.mem_or_eq_of_mem_set hy with h3 | rfl
  · exact h.1.2.2 y h3
  · exact hx
theorem KpD.at {w W : World} {lo B A g cap : Nat} {v : Value} {bs : List Int} {xs : List Cap} (h : KpD w W lo B v bs A g cap xs) (i : Nat) (hi : i < xs.length) (t : Nat) (ht : t < 8) : W.cell? ⟨g, i * 8 + t, none⟩ = (xs.getD i .z).cs[t]? ∧ W.frozen? ⟨g, i * 8 + t, none⟩ = false :=
  ⟨(h.2.1.cellAt (i * 8 + t) (by omega)).trans (caps_get xs i hi t ht), h.2.1.frozenAt _⟩
/-- The cells of one element. -/
theorem KpD.cells {w W : World} {lo B A g cap : Nat} {v : Value} {bs : List Int} {xs : List Cap} (h : KpD w W lo B v bs A g cap xs) (i : Nat) (hi : i < xs.length) : ∃ (t n : Int) (u : Bool) (c m r l : Int) (d : ByteArray), d.size ≤ 9 ∧
    (W.cell? ⟨g, i * 8, none⟩ = some (.int .i64 t) ∧ W.cell? ⟨g, i * 8 + 1, none⟩ = some (.int .i64 n) ∧ W.cell? ⟨g, i * 8 + 2, none⟩ = some (.bool u) ∧ W.cell? ⟨g, i * 8 + 3, none⟩ = some (.int .i64 c) ∧ W.cell? ⟨g, i * 8 + 4, none⟩ = some (.int .i64 m) ∧ W.cell? ⟨g, i * 8 + 5, none⟩ = some (.int .i64 r) ∧ W.cell? ⟨g, i * 8 + 6, none⟩ = some (.int .i64 l) ∧ W.cell? ⟨g, i * 8 + 7, none⟩ = some (.string d)) ∧
    (W.frozen? ⟨g, i * 8, none⟩ = false ∧ W.frozen? ⟨g, i * 8 + 1, none⟩ = false ∧ W.frozen? ⟨g, i * 8 + 2, none⟩ = false ∧ W.frozen? ⟨g, i * 8 + 3, none⟩ = false ∧ W.frozen? ⟨g, i * 8 + 4, none⟩ = false ∧ W.frozen? ⟨g, i * 8 + 5, none⟩ = false ∧ W.frozen? ⟨g, i * 8 + 6, none⟩ = false ∧ W.frozen? ⟨g, i * 8 + 7, none⟩ = false) := by
  have ax := fun t (ht : t < 8) => (h.at i hi t ht).1
  have af := fun t => h.2.1.frozenAt (i * 8 + t)
  have hd := h.2.2 _ (mem_cap hi)
  generalize xs.getD i .z = y at *
  obtain ⟨yt, yn, yu, yc, ym, yr, yl, yd⟩ := y
  exact ⟨yt, yn, yu, yc, ym, yr, yl, yd, hd, ⟨ax 0 (by omega), ax 1 (by omega), ax 2 (by omega), ax 3 (by omega), ax 4 (by omega), ax 5 (by omega), ax 6 (by omega), ax 7 (by omega)⟩, ⟨af 0, af 1, af 2, af 3, af 4, af 5, af 6, af 7⟩⟩
def lenV : Value → Nat
  | .slice _ n _ => n
  | _ => 0
theorem spec_l1Least_some (a b : Int) (w : World) : Calls Tryz.prog 99 #[.int .i64 a, .int .i64 b] w fun e w' => (∃ y, e = .returned (.int .i64 y)) ∧ w = w' := by
  by_cases h : a < b
  · go_enter Tryz.func99, Tryz.ntmps99
    go_wp2
    go_ret
    exact ⟨⟨_, rfl⟩, rfl⟩
  · go_enter Tryz.func99, Tryz.ntmps99
    go_wp2
    go_ret
    exact ⟨⟨_, rfl⟩, rfl⟩
end Go.Proofs.YtljknhocfjpolaaGreatDoor
