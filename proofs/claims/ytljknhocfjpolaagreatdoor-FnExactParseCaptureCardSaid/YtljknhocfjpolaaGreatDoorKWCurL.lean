/- The cursor's words for longer draws. -/
import Derived.Test.YtljknhocfjpolaaGreatDoorKWCur
import Derived.Test.YtljknhocfjpolaaGreatDoorJ2
import Derived.Deep.RegionHeld3
import Derived.Deep.AppendLies
namespace Go.Proofs.YtljknhocfjpolaaGreatDoor
open Go.RowKit
set_option maxHeartbeats 2000000
set_option maxRecDepth 100000
/-- While something is drawn: the cursor, and that nothing that was there has turned but its block. -/
def Dr (w W : World) (lo B : Nat) (v : Value) (bs : List Int) (A : Nat) : Prop := Cs W lo B v bs A ∧ w.grownBy W (some B) ∧ lo ≤ B ∧ B < w.heap.size
theorem Dr.start {w : World} {lo B A : Nat} {v : Value} {bs : List Int} (h : Cs w lo B v bs A) : Dr w w lo B v bs A := ⟨h, (Ext.refl w).grownBy _, h.lo.1, h.lo.2⟩
theorem Dr.step {w W W' : World} {lo B A A' : Nat} {v : Value} {bs : List Int} (h : Dr w W lo B v bs A) (hc : Cs W' lo B v bs A') (hg : W.grownBy W' (some B)) : Dr w W' lo B v bs A' :=
  ⟨hc, grownBy_trans h.2.1 hg, h.2.2⟩
theorem Dr.ext {w W W' : World} {lo B A : Nat} {v : Value} {bs : List Int} (h : Dr w W lo B v bs A) (hx : Ext W W') : Dr w W' lo B v bs A := h.step (h.1.ext hx) (hx.grownBy _)
theorem Dr.more {w W : World} {lo B A A' : Nat} {v : Value} {bs : List Int} (h : Dr w W lo B v bs A) (hA : A ≤ A') : Dr w W lo B v bs A' := ⟨h.1.more hA, h.2⟩
/-- A block of its own turned. -/
theorem Dr.grow {w W W' : World} {lo B A : Nat} {v : Value} {bs : List Int} {row : Option Nat} (h : Dr w W lo B v bs A) (hg : W.grownBy W' row) (hr : ∀ j, row = some j → w.heap.size ≤ j) : Dr w W' lo B v bs A :=
  ⟨h.1.grown hg (fun b e => by have := hr b e; have := h.2.2; omega), grownBy_far h.2.1 hg (fun j e => .inl (hr j e)), h.2.2⟩
theorem Dr.set {w W : World} {lo B A : Nat} {v : Value} {bs : List Int} (h : Dr w W lo B v bs A) {p : Addr} (hp : w.heap.size ≤ p.block) (u : Value) : Dr w (W.setCell p u) lo B v bs A :=
  h.grow (grownBy_set W p u) (fun j e => by have e2 : p.block = j := Option.some.inj e; omega)
theorem Dr.size {w W : World} {lo B A : Nat} {v : Value} {bs : List Int} (h : Dr w W lo B v bs A) : w.heap.size ≤ W.heap.size := h.2.1.size
theorem Dr.fin {w W : World} {lo B A : Nat} {v : Value} {bs : List Int} (h : Dr w W lo B v bs A) : Cs W lo B v bs A ∧ w.grownBy W (some B) := ⟨h.1, h.2.1⟩
/-- Behind another one that was drawn. -/
theorem Dr.after {w W W' : World} {lo B A A' : Nat} {v : Value} {bs : List Int} (h : Dr w W lo B v bs A) (k : Dr W W' lo B v bs A') : Dr w W' lo B v bs A' := h.step k.1 k.2.1
theorem own_step {w W W' : World} {lo B A : Nat} {v : Value} {bs : List Int} {e k n : Nat} {u : Value} {cs : List Value} {base : Nat} (h : Dr w W lo B v bs A) (ho : W.ownsRow base e k u n cs) (hb : w.heap.size ≤ base) (hg : W.grownBy W' (some B)) : W'.ownsRow base e k u n cs :=
  own_behind ho hg (fun j e => by have e2 : B = j := Option.some.inj e; have := h.2.2.2; omega)
theorem blk_step {w W W' : World} {lo B A : Nat} {v : Value} {bs : List Int} {T : Nat} {o : Obj} (h : Dr w W lo B v bs A) (ho : W.heap[T]? = some o) (hb : w.heap.size ≤ T) (hg : W.grownBy W' (some B)) : W'.heap[T]? = some o :=
  (hg.block T (Array.getElem?_eq_some_iff.1 ho).1 (fun e => by have e2 : T = B := Option.some.inj e; have := h.2.2.2; omega)).trans ho
theorem blk_grow {W W' : World} {row : Option Nat} {T : Nat} {o : Obj} (ho : W.heap[T]? = some o) (hg : W.grownBy W' row) (hr : row ≠ some T) : W'.heap[T]? = some o :=
  (hg.block T (Array.getElem?_eq_some_iff.1 ho).1 (fun e => hr e.symm)).trans ho
theorem blk_ext {W W' : World} {T : Nat} {o : Obj} (ho : W.heap[T]? = some o) (hx : Ext W W') : W'.heap[T]? = some o :=
  (hx.heap (Array.getElem?_eq_some_iff.1 ho).1).trans ho
theorem own_not {W : World} {m e k n R : Nat} {u : Value} {cs : List Value} (h : W.ownsRow m e k u n cs) (hR : R < m) : u.ownBlock ≠ some R := fun e => by have := (own_row h R e).1; omega
theorem own_off {W : World} {base e k n T : Nat} {u x : Value} {cs : List Value} {i : Nat} (ho : W.ownsRow base e k u n cs) (hne : u.ownBlock ≠ some T) : (W.setCell ⟨T, i, none⟩ x).ownsRow base e k u n cs := by
  refine ho.kept (grownBy_set W ⟨T, i, none⟩ x) ?_
  cases he : u.ownBlock with
  | none => exact .inl rfl
  | some j => exact .inr (fun e => hne (by rw [he]; exact e))
/-- A variable of one cell. -/
theorem box1 {w : World} {T t : Nat} {a : Value} (h : w.heap[T]? = some (.cells #[a] t (0, 0))) : w.cell? ⟨T, 0, none⟩ = some a ∧ w.frozen? ⟨T, 0, none⟩ = false ∧ T < w.heap.size := by
  refine ⟨?_, frozen_of_row w T 0 _ t h, (Array.getElem?_eq_some_iff.1 h).1⟩
  rw [cell_of_row w T 0 _ t _ h]; rfl
theorem box1_set {w : World} {T t : Nat} {a : Value} (h : w.heap[T]? = some (.cells #[a] t (0, 0))) (a' : Value) : (w.setCell ⟨T, 0, none⟩ a').heap[T]? = some (.cells #[a'] t (0, 0)) := by
  simpa using heap_setCell_same _ T 0 _ t a' h
/-- What can be read, and lies behind lo2. -/
def RdB (w : World) (lo2 : Nat) (v : Value) (n : Nat) (cs : List Value) : Prop := Rd w 1 v n cs ∧ ∀ b o m c, v = .slice (some ⟨b, o, none⟩) m c → 0 < m → lo2 ≤ b
theorem RdB.own {w : World} {base e n : Nat} {v : Value} {cs : List Value} (h : w.ownsRow base e 1 v n cs) : RdB w base v n cs :=
  ⟨Rd.own h, fun b o m c e hm => by
    obtain ⟨-, ⟨rfl, h0⟩ | ⟨g, cap, cur, rfl, hB, _⟩⟩ := h
    · cases e
    · cases e; exact hB⟩
theorem RdB.ext {w w' : World} {lo2 n : Nat} {v : Value} {cs : List Value} (h : RdB w lo2 v n cs) (hx : Ext w w') : RdB w' lo2 v n cs := ⟨h.1.ext hx, h.2⟩
theorem RdB.step {w w' : World} {lo2 n B : Nat} {v : Value} {cs : List Value} (h : RdB w lo2 v n cs) (hb : B < lo2) (hg : w.grownBy w' (some B)) : RdB w' lo2 v n cs :=
  ⟨rd_turn h.1 hg (fun b o m c e hm e2 => by have := h.2 b o m c e hm; have e3 : B = b := Option.some.inj e2; omega), h.2⟩
theorem RdB.low {w : World} {lo2 lo3 n : Nat} {v : Value} {cs : List Value} (h : RdB w lo2 v n cs) (hl : lo3 ≤ lo2) : RdB w lo3 v n cs := ⟨h.1, fun b o m c e hm => Nat.le_trans hl (h.2 b o m c e hm)⟩
/-- Another block of its own turned. -/
theorem RdB.away {w w' : World} {lo2 n : Nat} {row : Option Nat} {v : Value} {cs : List Value} (h : RdB w lo2 v n cs) (hg : w.grownBy w' row) (hr : ∀ b o m c, v = .slice (some ⟨b, o, none⟩) m c → 0 < m → row ≠ some b) : RdB w' lo2 v n cs := ⟨rd_turn h.1 hg hr, h.2⟩
theorem ints_of : ∀ cs : List Value, (∀ y ∈ cs, ∃ k, y = .int .i64 k) → ∃ L : List Int, cs = vInts L
  | [], _ => ⟨[], rfl⟩
  | c :: cs, h => by
    obtain ⟨L, hL⟩ := ints_of cs (fun y hy => h y (by simp [hy]))
    obtain ⟨k, hk⟩ := h c (by simp)
    exact ⟨k :: L, by rw [hL, hk]; rfl⟩
theorem rd_litC (w : World) (t : Nat) (cs : Array Value) : Rd (w.alloc (.cells cs t)) 1 (.slice (some ⟨w.heap.size, 0, none⟩) cs.size cs.size) cs.size cs.toList := by
  refine ⟨by simp, _, _, rfl, .inr ⟨w.heap.size, 0, rfl, fun j hj => ?_⟩⟩
  rw [Nat.zero_add, cell_of_row _ _ j _ _ (0, 0) (heap_at _ rfl)]
  rw [Array.getElem?_eq_getElem (by simpa using hj)]
  simp
/-- One of a literal's numbers. -/
theorem spec_amongLit {bs : List Int} (hb : Bts bs) {lo B A : Nat} {v : Value} (cs : Array Value) (n g : Nat) (w0 w : World) (h : Cs w0 lo B v bs A) (hx : Ext w0 w) (hg0 : g = w.heap.size) (hl : cs.size = n) (hA : A ≤ 900000) (hn : 1 ≤ n ∧ n ≤ 200) (hall : ∀ y ∈ cs.toList, ∃ k, y = .int .i64 k) :
    Calls Tryz.prog 58 #[.pointer (some ⟨B, 0, none⟩), .slice (some ⟨g, 0, none⟩) n n] (w.alloc (.cells cs 3)) fun e w' => ∃ x : Int, e = .returned (.int .i64 x) ∧ Cs w' lo B v bs (A + 1) ∧ w0.grownBy w' (some B) := by
  obtain ⟨L, hL⟩ := ints_of cs.toList hall
  have hl2 : n = L.length := by have := congrArg List.length hL; rw [← hl]; simpa [vInts] using this
  have hr := rd_litC w 3 cs
  rw [hL, hl, hl2, ← hg0] at hr
  rw [hl2] at hn
  rw [hl2]
  have hc := h.ext (hx.alloc (.cells cs 3))
  have hlo := (h.ext hx).lo
  have hg := (hx.alloc (.cells cs 3)).grownBy (some B)
  clear hL hall hl hl2
  generalize w.alloc (.cells cs 3) = W at *
  have key := spec_among hb L (.slice (some ⟨g, 0, none⟩) L.length L.length) W hc hr (fun b o m c e _ => by cases e; omega) hA hn
  exact key.mono fun e w' ⟨x, e1, _, e2, e3⟩ => ⟨x, e1, e2, grownBy_trans hg e3⟩
end Go.Proofs.YtljknhocfjpolaaGreatDoor
