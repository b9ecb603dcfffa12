/- More general words: rows of the call's own across stores into other rows. Worlds in which a span of blocks may have turned, and no other. Readings where a row turns. -/
import Derived.Test.YtnngklclehffhaaDoorKit
namespace Go.RowKit
theorem own_row {w : World} {base e k n : Nat} {v : Value} {cs : List Value} (h : w.ownsRow base e k v n cs) : ∀ j, v.ownBlock = some j → base ≤ j ∧ j < w.heap.size := fun j hj => h.lt j hj
theorem own_behind {w w' : World} {base e k n : Nat} {v : Value} {cs : List Value} {row : Option Nat} (h : w.ownsRow base e k v n cs) (hg : w.grownBy w' row) (hr : ∀ j, row = some j → j < base) : w'.ownsRow base e k v n cs := by
  refine h.kept hg ?_
  cases hv : v.ownBlock with
  | none => exact .inl rfl
  | some j =>
    refine .inr fun e => ?_
    have h1 := (h.lt j hv).1
    have h2 := hr j e.symm
    omega
theorem grownBy_set (w : World) (p : Addr) (u : Value) : w.grownBy (w.setCell p u) (some p.block) :=
  ⟨rfl, rfl, rfl, by simp, fun k _ hk => heap_setCell_other w p k u (fun e => hk (by rw [e]))⟩
theorem own_set {w : World} {base e k n : Nat} {v : Value} {cs : List Value} (h : w.ownsRow base e k v n cs) {p : Addr} (hp : p.block < base) (u : Value) : (w.setCell p u).ownsRow base e k v n cs :=
  own_behind h (grownBy_set w p u) (fun j hj => by cases hj; exact hp)
theorem own_shape {w : World} {base e k n : Nat} {v : Value} {cs : List Value} (h : w.ownsRow base e k v n cs) : ∃ p cap, v = .slice p n cap := by
  obtain ⟨h1, ⟨rfl, rfl⟩ | ⟨g, cap, cur, rfl, hB, _⟩⟩ := h
  · exact ⟨_, _, rfl⟩
  · exact ⟨_, _, rfl⟩
/-- A variable of two cells. -/
theorem box2 {w : World} {B t : Nat} {a b : Value} (h : w.heap[B]? = some (.cells #[a, b] t (0, 0))) :
    (w.cell? ⟨B, 0, none⟩ = some a ∧ w.cell? ⟨B, 1, none⟩ = some b) ∧ (w.frozen? ⟨B, 0, none⟩ = false ∧ w.frozen? ⟨B, 1, none⟩ = false) ∧ B < w.heap.size := by
  refine ⟨⟨?_, ?_⟩, ⟨?_, ?_⟩, (Array.getElem?_eq_some_iff.1 h).1⟩
  · rw [cell_of_row w B 0 _ t _ h]; rfl
  · rw [cell_of_row w B 1 _ t _ h]; rfl
  · exact frozen_of_row w B 0 _ t h
  · exact frozen_of_row w B 1 _ t h
theorem box2_set {w : World} {B t : Nat} {a b : Value} (h : w.heap[B]? = some (.cells #[a, b] t (0, 0))) (a' b' : Value) :
    ((w.setCell ⟨B, 0, none⟩ a').setCell ⟨B, 1, none⟩ b').heap[B]? = some (.cells #[a', b'] t (0, 0)) := by
  have h1 := heap_setCell_same _ B 0 _ t a' h
  have h2 := heap_setCell_same _ B 1 _ t b' h1
  simpa using h2
theorem set_other {w : World} {p : Addr} {C : Nat} {o : Obj} (h : w.heap[C]? = some o) (hne : C ≠ p.block) (a : Value) : (w.setCell p a).heap[C]? = some o := by
  rw [heap_setCell_other _ _ _ _ hne, h]
theorem heap_at {w : World} {k : Nat} (o : Obj) (h : k = w.heap.size) : (w.alloc o).heap[k]? = some o := by subst h; exact heap_alloc_new _ _
theorem heap_old {w : World} {k : Nat} {o : Obj} (h : w.heap[k]? = some o) (u : Obj) : (w.alloc u).heap[k]? = some o :=
  (heap_alloc_old _ _ (Array.getElem?_eq_some_iff.1 h).1).trans h
theorem heap_extd {w : World} {k : Nat} {o : Obj} (h : w.heap[k]? = some o) (z : Grow) : (w.ext z).heap[k]? = some o :=
  (World.heap_ext _ _ _ (Array.getElem?_eq_some_iff.1 h).1).trans h
end Go.RowKit
namespace Go.RowKit
/-- w' is w with further blocks, and only blocks from lo to hi of w's may have turned. -/
def Turn (lo hi : Nat) (w w' : World) : Prop :=
  w'.os = w.os ∧ w'.tape = w.tape ∧ w'.output = w.output ∧ w.heap.size ≤ w'.heap.size ∧ ∀ k, k < w.heap.size → ¬ (lo ≤ k ∧ k < hi) → w'.heap[k]? = w.heap[k]?
theorem Turn.refl (lo hi : Nat) (w : World) : Turn lo hi w w := ⟨rfl, rfl, rfl, Nat.le_refl _, fun _ _ _ => rfl⟩
theorem Turn.trans {lo hi : Nat} {a b c : World} (h : Turn lo hi a b) (k : Turn lo hi b c) : Turn lo hi a c :=
  ⟨k.1.trans h.1, k.2.1.trans h.2.1, k.2.2.1.trans h.2.2.1, Nat.le_trans h.2.2.2.1 k.2.2.2.1, fun i hi hn => (k.2.2.2.2 i (Nat.lt_of_lt_of_le hi h.2.2.2.1) hn).trans (h.2.2.2.2 i hi hn)⟩
theorem Turn.size {lo hi : Nat} {a b : World} (h : Turn lo hi a b) : a.heap.size ≤ b.heap.size := h.2.2.2.1
theorem Turn.block {lo hi : Nat} {a b : World} (h : Turn lo hi a b) {k : Nat} (hk : k < a.heap.size) (hn : ¬ (lo ≤ k ∧ k < hi)) : b.heap[k]? = a.heap[k]? := h.2.2.2.2 k hk hn
theorem Turn.grown {lo hi : Nat} {a b c : World} {row : Option Nat} (h : Turn lo hi a b) (hg : b.grownBy c row) (hr : ∀ k, row = some k → lo ≤ k ∧ k < hi) : Turn lo hi a c :=
  h.trans ⟨hg.os, hg.tape, hg.output, hg.size, fun k hk hn => hg.block k hk (fun e => hn (hr k e.symm))⟩
theorem Turn.ext {lo hi : Nat} {a b c : World} (h : Turn lo hi a b) (hx : Ext b c) : Turn lo hi a c := h.grown (hx.grownBy none) (fun _ e => by cases e)
theorem Turn.wide {lo hi lo' hi' : Nat} {a b : World} (h : Turn lo hi a b) (h1 : lo' ≤ lo) (h2 : hi ≤ hi') : Turn lo' hi' a b :=
  ⟨h.1, h.2.1, h.2.2.1, h.2.2.2.1, fun k hk hn => h.2.2.2.2 k hk (fun e => hn ⟨by omega, by omega⟩)⟩
theorem Ext.turned {lo hi : Nat} {a b c : World} (h : Ext a b) (ht : Turn lo hi b c) (hl : a.heap.size ≤ lo) : Ext a c := by
  refine Below.ext ?_
  obtain ⟨h1, h2, h3, h4, h5⟩ := h.below
  exact ⟨ht.1.trans h1, ht.2.1.trans h2, ht.2.2.1.trans h3, Nat.le_trans h4 ht.size, fun k hk => (ht.block (Nat.lt_of_lt_of_le hk h4) (fun e => by omega)).trans (h5 k hk)⟩
theorem own_block {w w' : World} {base e k n : Nat} {v : Value} {cs : List Value} (h : w.ownsRow base e k v n cs) (hb : ∀ j, v.ownBlock = some j → w'.heap[j]? = w.heap[j]?) : w'.ownsRow base e k v n cs := by
  refine ⟨h.1, ?_⟩
  rcases h.2 with hn | ⟨g, cap, cur, rfl, h1, h2, h3⟩
  · exact .inl hn
  · refine .inr ⟨g, cap, cur, rfl, h1, ?_, h3⟩
    rw [hb g rfl]
    exact h2
theorem own_turned {lo hi : Nat} {w w' : World} {base e k n : Nat} {v : Value} {cs : List Value} (h : w.ownsRow base e k v n cs) (ht : Turn lo hi w w') (hd : ∀ j, v.ownBlock = some j → ¬ (lo ≤ j ∧ j < hi)) : w'.ownsRow base e k v n cs :=
  own_block h (fun j hj => ht.block (h.lt j hj).2 (hd j hj))
theorem Turn.cell {lo hi : Nat} {w w' : World} (ht : Turn lo hi w w') {p : Addr} {u : Value} (h : w.cell? p = some u) (hd : ¬ (lo ≤ p.block ∧ p.block < hi)) : w'.cell? p = some u := by
  rw [World.cell?_of_block (ht.block (World.block_lt_of_cell? w p h) hd)]; exact h
/-- What lies from lo up to w's end is in w' as it was. -/
def Keep (lo : Nat) (w w' : World) : Prop := w.heap.size ≤ w'.heap.size ∧ ∀ k, lo ≤ k → k < w.heap.size → w'.heap[k]? = w.heap[k]?
theorem Keep.refl (lo : Nat) (w : World) : Keep lo w w := ⟨Nat.le_refl _, fun _ _ _ => rfl⟩
theorem Keep.grown {lo : Nat} {a b c : World} {row : Option Nat} (h : Keep lo a b) (hg : b.grownBy c row) (hr : ∀ k, row = some k → k < lo ∨ a.heap.size ≤ k) : Keep lo a c :=
  ⟨Nat.le_trans h.1 hg.size, fun k h1 h2 => (hg.block k (Nat.lt_of_lt_of_le h2 h.1) (fun e => by have := hr k e.symm; omega)).trans (h.2 k h1 h2)⟩
theorem Keep.ext {lo : Nat} {a b c : World} (h : Keep lo a b) (hx : Ext b c) : Keep lo a c := h.grown (hx.grownBy none) (fun _ e => by cases e)
theorem Keep.own {lo base e k n : Nat} {w w' : World} {v : Value} {cs : List Value} (hk : Keep lo w w') (h : w.ownsRow base e k v n cs) (hl : lo ≤ base) : w'.ownsRow base e k v n cs :=
  own_block h (fun j hj => hk.2 j (Nat.le_trans hl (h.lt j hj).1) (h.lt j hj).2)
/-- A row's block is before lo or behind hi. -/
def Far (lo hi : Nat) (v : Value) : Prop := ∀ j, v.ownBlock = some j → j < lo ∨ hi ≤ j
theorem Far.app {lo hi : Nat} {v v' : Value} {w : World} (h : Far lo hi v) (hs : hi ≤ w.heap.size) (hat : v'.ownBlock = v.ownBlock ∨ v'.ownBlock = some w.heap.size) : Far lo hi v' := fun j hj => by
  rcases hat with e | e
  · exact h j (by rw [← e]; exact hj)
  · rw [hj] at e; cases e; exact .inr hs
end Go.RowKit
namespace Go.Proofs.YtnngklclehffhaaDoor
open Go.RowKit
theorem rd_lt {w : World} {k n b o m c : Nat} {u : Value} {cs : List Value} (h : Rd w k u n cs) (hk : 0 < k) (e : u = .slice (some ⟨b, o, none⟩) m c) (hm : 0 < m) : b < w.heap.size := by
  obtain ⟨h1, p, cap, e2, h4⟩ := h
  rw [e] at e2
  cases e2
  obtain ⟨b', o', e3, h6⟩ := h4.resolve_left (by omega)
  cases e3
  have := World.block_lt_of_cell? _ _ (h6 0 (by rw [h1]; exact Nat.mul_pos hm hk))
  exact this
theorem rd_turn {w w' : World} {k n : Nat} {u : Value} {cs : List Value} {row : Option Nat} (h : Rd w k u n cs) (hg : w.grownBy w' row) (hs : ∀ b o m c, u = .slice (some ⟨b, o, none⟩) m c → 0 < m → row ≠ some b) : Rd w' k u n cs := by
  obtain ⟨h1, p, cap, e, h4⟩ := h
  refine ⟨h1, p, cap, e, ?_⟩
  rcases h4 with h4 | ⟨b, o, e2, h6⟩
  · exact .inl h4
  · by_cases h0 : n = 0
    · exact .inl h0
    · subst e2
      exact .inr ⟨b, o, rfl, fun j hj => hg.cell (h6 j hj) (fun e3 => hs b o n cap e (by omega) e3.symm)⟩
end Go.Proofs.YtnngklclehffhaaDoor
