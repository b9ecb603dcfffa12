/- Worlds in which a span of blocks may have turned, and no other. -/
import Derived.Test.YtnngklclehffhaaDoorKit2
namespace Go.RowKit
/-- w' is w with further blocks, and only blocks from lo to hi of w's may have turned. -/
def Turn (lo hi : Nat) (w w' : World) : Prop :=
  w'.os = w.os ∧ w'.tape = w.tape ∧ w'.output = w.output ∧ w.heap.size ≤ w'.heap.size ∧ ∀ k, k < w.heap.size → ¬ (lo ≤ k ∧ k < hi) → w'.heap[k]? = w.heap[k]?
theorem Turn.refl (lo hi : Nat) (w : World) : Turn lo hi w w := ⟨rfl, rfl, rfl, Nat.le_refl _, fun _ _ _ => rfl⟩
theorem Turn.trans {lo hi : Nat} {a b c : World} (h : Turn lo hi a b) (k : Turn lo hi b c) : Turn lo hi a c :=
  ⟨k.1.trans h.1, k.2.1.trans h.2.1, k.2.2.1.trans h.2.2.1, Nat.le_trans h.2.2.2.1 k.2.2.2.1, fun i hi hn => (k.2.2.2.2 i (Nat.lt_of_lt_of_le hi h.2.2.2.1) hn).trans (h.2.2.2.2 i hi hn)⟩
theorem Turn.size {lo hi : Nat} {a b : World} (h : Turn lo hi a b) : a.heap.size ≤ b.heap.size := h.2.2.2.1
theorem Turn.block {lo hi : Nat} {a b : World} (h : Turn lo hi a b) {k : Nat} (hk : k < a.heap.size) (hn : ¬ (lo ≤ k ∧ k < hi)) : b.heap[k]? = a.heap[k]? := h.2.2.2.2 k hk hn
theorem Turn.grown {lo hi : Nat} {a b c : World} {row : Option Nat} (h : Turn lo hi a b) (hg : b.grownBy c row) (hr : ∀ k, row = some k → lo ≤ k ∧ k < hi) : Turn lo hi a c :=
  h.trans ⟨hg.os, hg.tape, hg.output, hg.size, fun k hk hn => hg.block k hk (fun e => hn (hr k e.symm))⟩
theorem Turn.ext {lo hi : Nat} {a b c : World} (h : Turn lo hi a b) (hx : Ext b c) : Turn lo hi a c := h.grown (hx.grownBy none) (fun _ e => by cases e)
theorem Turn.wide {lo hi lo' hi' : Nat} {a b : World} (h : Turn lo hi a b) (h1 : lo' ≤ lo) (h2 : hi ≤ hi') : Turn lo' hi' a b :=
  ⟨h.1, h.2.1, h.2.2.1, h.2.2.2.1, fun k hk hn => h.2.2.2.2 k hk (fun e => hn ⟨by omega, by omega⟩)⟩
theorem Ext.turned {lo hi : Nat} {a b c : World} (h : Ext a b) (ht : Turn lo hi b c) (hl : a.heap.size ≤ lo) : Ext a c := by
  refine Below.ext ?_
  obtain ⟨h1, h2, h3, h4, h5⟩ := h.below
  exact ⟨ht.1.trans h1, ht.2.1.trans h2, ht.2.2.1.trans h3, Nat.le_trans h4 ht.size, fun k hk => (ht.block (Nat.lt_of_lt_of_le hk h4) (fun e => by omega)).trans (h5 k hk)⟩
theorem own_block {w w' : World} {base e k n : Nat} {v : Value} {cs : List Value} (h : w.ownsRow base e k v n cs) (hb : ∀ j, v.ownBlock = some j → w'.heap[j]? = w.heap[j]?) : w'.ownsRow base e k v n cs := by
  refine ⟨h.1, ?_⟩
  rcases h.2 with hn | ⟨g, cap, cur, rfl, h1, h2, h3⟩
  · exact .inl hn
  · refine .inr ⟨g, cap, cur, rfl, h1, ?_, h3⟩
    rw [hb g rfl]
    exact h2
theorem own_turned {lo hi : Nat} {w w' : World} {base e k n : Nat} {v : Value} {cs : List Value} (h : w.ownsRow base e k v n cs) (ht : Turn lo hi w w') (hd : ∀ j, v.ownBlock = some j → ¬ (lo ≤ j ∧ j < hi)) : w'.ownsRow base e k v n cs :=
  own_block h (fun j hj => ht.block (h.lt j hj).2 (hd j hj))
theorem Turn.cell {lo hi : Nat} {w w' : World} (ht : Turn lo hi w w') {p : Addr} {u : Value} (h : w.cell? p = some u) (hd : ¬ (lo ≤ p.block ∧ p.block < hi)) : w'.cell? p = some u := by
  rw [World.cell?_of_block (ht.block (World.block_lt_of_cell? w p h) hd)]; exact h
/-- What lies from lo up to w's end is in w' as it was. -/
def Keep (lo : Nat) (w w' : World) : Prop := w.heap.size ≤ w'.heap.size ∧ ∀ k, lo ≤ k → k < w.heap.size → w'.heap[k]? = w.heap[k]?
theorem Keep.refl (lo : Nat) (w : World) : Keep lo w w := ⟨Nat.le_refl _, fun _ _ _ => rfl⟩
theorem Keep.grown {lo : Nat} {a b c : World} {row : Option Nat} (h : Keep lo a b) (hg : b.grownBy c row) (hr : ∀ k, row = some k → k < lo ∨ a.heap.size ≤ k) : Keep lo a c :=
  ⟨Nat.le_trans h.1 hg.size, fun k h1 h2 => (hg.block k (Nat.lt_of_lt_of_le h2 h.1) (fun e => by have := hr k e.symm; omega)).trans (h.2 k h1 h2)⟩
theorem Keep.ext {lo : Nat} {a b c : World} (h : Keep lo a b) (hx : Ext b c) : Keep lo a c := h.grown (hx.grownBy none) (fun _ e => by cases e)
theorem Keep.own {lo base e k n : Nat} {w w' : World} {v : Value} {cs : List Value} (hk : Keep lo w w') (h : w.ownsRow base e k v n cs) (hl : lo ≤ base) : w'.ownsRow base e k v n cs :=
  own_block h (fun j hj => hk.2 j (Nat.le_trans hl (h.lt j hj).1) (h.lt j hj).2)
/-- A row's block is before lo or behind hi. -/
def Far (lo hi : Nat) (v : Value) : Prop := ∀ j, v.ownBlock = some j → j < lo ∨ hi ≤ j
theorem Far.app {lo hi : Nat} {v v' : Value} {w : World} (h : Far lo hi v) (hs : hi ≤ w.heap.size) (hat : v'.ownBlock = v.ownBlock ∨ v'.ownBlock = some w.heap.size) : Far lo hi v' := fun j hj => by
  rcases hat with e | e
  · exact h j (by rw [← e]; exact hj)
  · rw [hj] at e; cases e; exact .inr hs
end Go.RowKit
