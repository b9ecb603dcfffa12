/- Worlds in which a span of blocks may have turned, and no other. Readings where a row turns. Families of rows of the call's own, each apart from the others. -/
import Derived.Test.YtnngklclehffhaaGreatDoorJ2
namespace Go.RowKit
/-- w' is w with further blocks, and only blocks from lo to hi of w's may have turned. -/
def Turn (lo hi : Nat) (w w' : World) : Prop :=
  w'.os = w.os ∧ w'.tape = w.tape ∧ w'.output = w.output ∧ w.heap.size ≤ w'.heap.size ∧ ∀ k, k < w.heap.size → ¬ (lo ≤ k ∧ k < hi) → w'.heap[k]? = w.heap[k]?
theorem Turn.refl (lo hi : Nat) (w : World) : Turn lo hi w w := ⟨rfl, rfl, rfl, Nat.le_refl _, fun _ _ _ => rfl⟩
theorem Turn.trans {lo hi : Nat} {a b c : World} (h : Turn lo hi a b) (k : Turn lo hi b c) : Turn lo hi a c :=
  ⟨k.1.trans h.1, k.2.1.trans h.2.1, k.2.2.1.trans h.2.2.1, Nat.le_trans h.2.2.2.1 k.2.2.2.1, fun i hi hn => (k.2.2.2.2 i (Nat.lt_of_lt_of_le hi h.2.2.2.1) hn).trans (h.2.2.2.2 i hi hn)⟩
theorem Turn.size {lo hi : Nat} {a b : World} (h : Turn lo hi a b) : a.heap.size ≤ b.heap.size := h.2.2.2.1
theorem Turn.block {lo hi : Nat} {a b : World} (h : Turn lo hi a b) {k : Nat} (hk : k < a.heap.size) (hn : ¬ (lo ≤ k ∧ k < hi)) : b.heap[k]? = a.heap[k]? := h.2.2.2.2 k hk hn
theorem Turn.grown {lo hi : Nat} {a b c : World} {row : Option Nat} (h : Turn lo hi a b) (hg : b.grownBy c row) (hr : ∀ k, row = some k → lo ≤ k ∧ k < hi) : Turn lo hi a c :=
  h.trans ⟨hg.os, hg.tape, hg.output, hg.size, fun k hk hn => hg.block k hk (fun e => hn (hr k e.symm))⟩
theorem Turn.ext {lo hi : Nat} {a b c : World} (h : Turn lo hi a b) (hx : Ext b c) : Turn lo hi a c := h.grown (hx.grownBy none) (fun _ e => by cases e)
theorem Turn.wide {lo hi lo' hi' : Nat} {a b : World} (h : Turn lo hi a b) (h1 : lo' ≤ lo) (h2 : hi ≤ hi') : Turn lo' hi' a b :=
  ⟨h.1, h.2.1, h.2.2.1, h.2.2.2.1, fun k hk hn => h.2.2.2.2 k hk (fun e => hn ⟨by omega, by omega⟩)⟩
theorem Ext.turned {lo hi : Nat} {a b c : World} (h : Ext a b) (ht : Turn lo hi b c) (hl : a.heap.size ≤ lo) : Ext a c := by
  refine Below.ext ?_
  obtain ⟨h1, h2, h3, h4, h5⟩ := h.below
  exact ⟨ht.1.trans h1, ht.2.1.trans h2, ht.2.2.1.trans h3, Nat.le_trans h4 ht.size, fun k hk => (ht.block (Nat.lt_of_lt_of_le hk h4) (fun e => by omega)).trans (h5 k hk)⟩
theorem own_block {w w' : World} {base e k n : Nat} {v : Value} {cs : List Value} (h : w.ownsRow base e k v n cs) (hb : ∀ j, v.ownBlock = some j → w'.heap[j]? = w.heap[j]?) : w'.ownsRow base e k v n cs := by
  refine ⟨h.1, ?_⟩
  rcases h.2 with hn | ⟨g, cap, cur, rfl, h1, h2, h3⟩
  · exact .inl hn
  · refine .inr ⟨g, cap, cur, rfl, h1, ?_, h3⟩
    rw [hb g rfl]
    exact h2
theorem own_turned {lo hi : Nat} {w w' : World} {base e k n : Nat} {v : Value} {cs : List Value} (h : w.ownsRow base e k v n cs) (ht : Turn lo hi w w') (hd : ∀ j, v.ownBlock = some j → ¬ (lo ≤ j ∧ j < hi)) : w'.ownsRow base e k v n cs :=
  own_block h (fun j hj => ht.block (h.lt j hj).2 (hd j hj))
theorem Turn.cell {lo hi : Nat} {w w' : World} (ht : Turn lo hi w w') {p : Addr} {u : Value} (h : w.cell? p = some u) (hd : ¬ (lo ≤ p.block ∧ p.block < hi)) : w'.cell? p = some u := by
  rw [World.cell?_of_block (ht.block (World.block_lt_of_cell? w p h) hd)]; exact h
/-- What lies from lo up to w's end is in w' as it was. -/
def Keep (lo : Nat) (w w' : World) : Prop := w.heap.size ≤ w'.heap.size ∧ ∀ k, lo ≤ k → k < w.heap.size → w'.heap[k]? = w.heap[k]?
theorem Keep.refl (lo : Nat) (w : World) : Keep lo w w := ⟨Nat.le_refl _, fun _ _ _ => rfl⟩
theorem Keep.grown {lo : Nat} {a b c : World} {row : Option Nat} (h : Keep lo a b) (hg : b.grownBy c row) (hr : ∀ k, row = some k → k < lo ∨ a.heap.size ≤ k) : Keep lo a c :=
  ⟨Nat.le_trans h.1 hg.size, fun k h1 h2 => (hg.block k (Nat.lt_of_lt_of_le h2 h.1) (fun e => by have := hr k e.symm; omega)).trans (h.2 k h1 h2)⟩
theorem Keep.ext {lo : Nat} {a b c : World} (h : Keep lo a b) (hx : Ext b c) : Keep lo a c := h.grown (hx.grownBy none) (fun _ e => by cases e)
theorem Keep.own {lo base e k n : Nat} {w w' : World} {v : Value} {cs : List Value} (hk : Keep lo w w') (h : w.ownsRow base e k v n cs) (hl : lo ≤ base) : w'.ownsRow base e k v n cs :=
  own_block h (fun j hj => hk.2 j (Nat.le_trans hl (h.lt j hj).1) (h.lt j hj).2)
/-- A row's block is before lo or behind hi. -/
def Far (lo hi : Nat) (v : Value) : Prop := ∀ j, v.ownBlock = some j → j < lo ∨ hi ≤ j
theorem Far.app {lo hi : Nat} {v v' : Value} {w : World} (h : Far lo hi v) (hs : hi ≤ w.heap.size) (hat : v'.ownBlock = v.ownBlock ∨ v'.ownBlock = some w.heap.size) : Far lo hi v' := fun j hj => by
  rcases hat with e | e
  · exact h j (by rw [← e]; exact hj)
  · rw [hj] at e; cases e; exact .inr hs
end Go.RowKit
namespace Go.Proofs.YtnngklclehffhaaGreatDoor
open Go.RowKit
theorem rd_lt {w : World} {k n b o m c : Nat} {u : Value} {cs : List Value} (h : Rd w k u n cs) (hk : 0 < k) (e : u = .slice (some ⟨b, o, none⟩) m c) (hm : 0 < m) : b < w.heap.size := by
  obtain ⟨h1, p, cap, e2, h4⟩ := h
  rw [e] at e2
  cases e2
  obtain ⟨b', o', e3, h6⟩ := h4.resolve_left (by omega)
  cases e3
  have := World.block_lt_of_cell? _ _ (h6 0 (by rw [h1]; exact Nat.mul_pos hm hk))
  exact this
theorem rd_turn {w w' : World} {k n : Nat} {u : Value} {cs : List Value} {row : Option Nat} (h : Rd w k u n cs) (hg : w.grownBy w' row) (hs : ∀ b o m c, u = .slice (some ⟨b, o, none⟩) m c → 0 < m → row ≠ some b) : Rd w' k u n cs := by
  obtain ⟨h1, p, cap, e, h4⟩ := h
  refine ⟨h1, p, cap, e, ?_⟩
  rcases h4 with h4 | ⟨b, o, e2, h6⟩
  · exact .inl h4
  · by_cases h0 : n = 0
    · exact .inl h0
    · subst e2
      exact .inr ⟨b, o, rfl, fun j hj => hg.cell (h6 j hj) (fun e3 => hs b o n cap e (by omega) e3.symm)⟩
end Go.Proofs.YtnngklclehffhaaGreatDoor
namespace Go.Proofs.YtnngklclehffhaaGreatDoor
open Go.RowKit
set_option maxHeartbeats 400000
/-- A row: the element's type, its cells, the slice, its length, what it holds. -/
structure Row where
  e : Nat
  k : Nat
  v : Value
  n : Nat
  cs : List Value
def Row.own (r : Row) (w : World) (lo : Nat) : Prop := w.ownsRow lo r.e r.k r.v r.n r.cs
def Row.apart (a b : Row) : Prop := ∀ j, a.v.ownBlock = some j → b.v.ownBlock ≠ some j
theorem Row.apart.symm {a b : Row} (h : a.apart b) : b.apart a := fun j hb ha => h j ha hb
def Fam (w : World) (lo hi : Nat) (rs : List Row) : Prop := (∀ r ∈ rs, r.own w lo ∧ ∀ j, r.v.ownBlock = some j → j < hi) ∧ rs.Pairwise Row.apart
theorem Fam.own {w : World} {lo hi : Nat} {rs : List Row} (h : Fam w lo hi rs) {r : Row} (hr : r ∈ rs) : r.own w lo := (h.1 r hr).1
theorem Fam.lt {w : World} {lo hi : Nat} {rs : List Row} (h : Fam w lo hi rs) {r : Row} (hr : r ∈ rs) {j : Nat} (e : r.v.ownBlock = some j) : lo ≤ j ∧ j < hi ∧ j < w.heap.size :=
  ⟨(own_row (h.1 r hr).1 j e).1, (h.1 r hr).2 j e, (own_row (h.1 r hr).1 j e).2⟩
theorem Fam.ext {w w' : World} {lo hi : Nat} {rs : List Row} (h : Fam w lo hi rs) (hx : Ext w w') : Fam w' lo hi rs := ⟨fun r hr => ⟨own_ext (h.1 r hr).1 hx, (h.1 r hr).2⟩, h.2⟩
theorem Fam.wide {w : World} {lo lo' hi hi' : Nat} {rs : List Row} (h : Fam w lo hi rs) (h1 : lo' ≤ lo) (h2 : hi ≤ hi') : Fam w lo' hi' rs :=
  ⟨fun r hr => ⟨own_mono (h.1 r hr).1 h1, fun j e => Nat.lt_of_lt_of_le ((h.1 r hr).2 j e) h2⟩, h.2⟩
theorem Fam.turned {w w' : World} {lo hi lo' hi' : Nat} {rs : List Row} (h : Fam w lo hi rs) (ht : Turn lo' hi' w w') (hd : hi' ≤ lo ∨ hi ≤ lo') : Fam w' lo hi rs :=
  ⟨fun r hr => ⟨own_turned (h.1 r hr).1 ht (fun j e => by have := h.lt hr e; omega), (h.1 r hr).2⟩, h.2⟩
theorem Fam.sub {w : World} {lo hi : Nat} {rs qs : List Row} (h : Fam w lo hi rs) (hs : qs.Sublist rs) : Fam w lo hi qs := ⟨fun r hr => h.1 r (hs.subset hr), h.2.sublist hs⟩
theorem Fam.nil (w : World) (lo hi : Nat) : Fam w lo hi [] := ⟨fun _ h => (by cases h), List.Pairwise.nil⟩
/-- Another block turned, that none of them has. -/
theorem Fam.grown {w w' : World} {lo hi : Nat} {rs : List Row} {row : Option Nat} (h : Fam w lo hi rs) (hg : w.grownBy w' row) (hr : ∀ r ∈ rs, ∀ j, r.v.ownBlock = some j → row ≠ some j) : Fam w' lo hi rs :=
  ⟨fun r hm => ⟨(h.1 r hm).1.kept hg (by
    cases hv : r.v.ownBlock with
    | none => exact .inl rfl
    | some j => exact .inr (fun e => hr r hm j hv (by first | exact e | exact e.symm))), (h.1 r hm).2⟩, h.2⟩
theorem pair_mid {α : Type} {R : α → α → Prop} (hs : ∀ a b, R a b → R b a) {A B : List α} {x : α} : (A ++ x :: B).Pairwise R ↔ (A ++ B).Pairwise R ∧ ∀ y ∈ A ++ B, R y x := by
  rw [List.pairwise_append, List.pairwise_append, List.pairwise_cons]
  constructor
  · rintro ⟨h1, ⟨h2, h3⟩, h4⟩
    refine ⟨⟨h1, h3, fun a ha b hb => h4 a ha b (by simp [hb])⟩, fun y hy => ?_⟩
    rcases List.mem_append.1 hy with h | h
    · exact h4 y h x (by simp)
    · exact hs _ _ (h2 y h)
  · rintro ⟨⟨h1, h2, h3⟩, h4⟩
    refine ⟨h1, ⟨fun b hb => hs _ _ (h4 b (by simp [hb])), h2⟩, fun a ha b hb => ?_⟩
    rcases List.mem_cons.1 hb with rfl | hb
    · exact h4 a (by simp [ha])
    · exact h3 a ha b hb
theorem Fam.mid {w : World} {lo hi : Nat} {A B : List Row} {x : Row} (h : Fam w lo hi (A ++ x :: B)) : Fam w lo hi (A ++ B) ∧ ∀ y ∈ A ++ B, y.apart x :=
  ⟨h.sub (by simp), (pair_mid (fun _ _ h => Row.apart.symm h)).1 h.2 |>.2⟩
/-- One row more, at any place. -/
theorem Fam.put {w : World} {lo hi : Nat} {A B : List Row} {x : Row} (h : Fam w lo hi (A ++ B)) (ho : x.own w lo) (hb : ∀ j, x.v.ownBlock = some j → j < hi) (ha : ∀ y ∈ A ++ B, y.apart x) : Fam w lo hi (A ++ x :: B) := by
  refine ⟨fun r hr => ?_, (pair_mid (fun _ _ h => Row.apart.symm h)).2 ⟨h.2, ha⟩⟩
  rcases List.mem_append.1 hr with h1 | h1
  · exact h.1 r (by simp [h1])
  · rcases List.mem_cons.1 h1 with rfl | h1
    · exact ⟨ho, hb⟩
    · exact h.1 r (by simp [h1])
/-- A row that begins behind all others. -/
theorem Fam.putNew {w : World} {lo hi hi' : Nat} {A B : List Row} {x : Row} (h : Fam w lo hi (A ++ B)) (hh : hi ≤ hi') (ho : x.own w lo) (hb : ∀ j, x.v.ownBlock = some j → hi ≤ j ∧ j < hi') : Fam w lo hi' (A ++ x :: B) := by
  refine (h.wide (Nat.le_refl _) hh).put ho (fun j e => (hb j e).2) (fun y hy j hj e => ?_)
  have := (h.1 y hy).2 j hj
  have := (hb j e).1
  omega
/-- A row that turned in its place (or moved behind all others). -/
theorem Fam.turn {w w' : World} {lo hi hi' : Nat} {A B : List Row} {x y : Row} (h : Fam w lo hi (A ++ x :: B)) (hh : hi ≤ hi') (hg : w.grownBy w' x.v.ownBlock) (ho : y.own w' lo) (hb : ∀ j, y.v.ownBlock = some j → (x.v.ownBlock = some j ∨ hi ≤ j) ∧ j < hi') : Fam w' lo hi' (A ++ y :: B) := by
  obtain ⟨h1, h2⟩ := h.mid
  refine ((h1.wide (Nat.le_refl _) hh).grown hg (fun r hr j e e2 => h2 r hr j e e2)).put ho (fun j e => (hb j e).2) (fun r hr j hj e => ?_)
  rcases (hb j e).1 with h3 | h3
  · exact h2 r hr j hj h3
  · have := (h1.1 r hr).2 j hj
    omega
end Go.Proofs.YtnngklclehffhaaGreatDoor
