/- The cursor that draws inputs: what is drawn is not said, but that it is drawn. The cursor's words for longer draws. -/
import Derived.Test.YtljknhocfjpolaaGreatDoorJ2
import Derived.Laws.Bits64b
import Derived.Deep.RegionHeld3
import Derived.Deep.AppendLies
namespace Go.Proofs.YtljknhocfjpolaaGreatDoor
open Go.RowKit
set_option maxHeartbeats 1000000
set_option maxRecDepth 100000
theorem mask255 (E : Int) : 0 ≤ bits .and .u64 E 255 ∧ bits .and .u64 E 255 ≤ 255 := by
  have h : bits .and .u64 E 255 = IntKind.u64.wrap ((BitVec.ofInt 64 E &&& BitVec.ofInt 64 255).toNat : Int) := rfl
  rw [h, BitVec.toNat_and, IntKind.wrap_u64]
  have h2 : (BitVec.ofInt 64 255).toNat = 255 := by decide
  rw [h2]
  have h3 := Nat.and_le_right (n := (BitVec.ofInt 64 E).toNat) (m := 255)
  omega
def vBytes (bs : List Int) : List Value := bs.map (Value.int .u8)
def Bts (bs : List Int) : Prop := bs.length ≤ 65536 ∧ ∀ b ∈ bs, 0 ≤ b ∧ b ≤ 255
/-- A cursor at block B that has drawn A times at most, over the bytes of v. -/
def Cs (w : World) (lo B : Nat) (v : Value) (bs : List Int) (A : Nat) : Prop :=
  (Rd w 1 v bs.length (vBytes bs) ∧ ∀ b o m c, v = .slice (some ⟨b, o, none⟩) m c → 0 < m → b < lo) ∧
  ∃ a s : Int, 0 ≤ a ∧ a ≤ A ∧ w.ownsRow lo 72 3 (.slice (some ⟨B, 0, none⟩) 1 1) 1 [v, .int .i64 a, .int .u64 s]
theorem Cs.lo {w : World} {lo B A : Nat} {v : Value} {bs : List Int} (h : Cs w lo B v bs A) : lo ≤ B ∧ B < w.heap.size := by
  obtain ⟨-, a, s, -, -, ho⟩ := h
  exact own_row ho _ rfl
theorem Cs.ext {w w' : World} {lo B A : Nat} {v : Value} {bs : List Int} (h : Cs w lo B v bs A) (hx : Ext w w') : Cs w' lo B v bs A := by
  obtain ⟨⟨hr, hf⟩, a, s, h0, h1, ho⟩ := h
  exact ⟨⟨hr.ext hx, hf⟩, a, s, h0, h1, own_ext ho hx⟩
theorem Cs.more {w : World} {lo B A A' : Nat} {v : Value} {bs : List Int} (h : Cs w lo B v bs A) (hA : A ≤ A') : Cs w lo B v bs A' := by
  obtain ⟨hr, a, s, h0, h1, ho⟩ := h
  exact ⟨hr, a, s, h0, by omega, ho⟩
/-- Another block turned. -/
theorem Cs.grown {w w' : World} {lo B A : Nat} {v : Value} {bs : List Int} {row : Option Nat} (h : Cs w lo B v bs A) (hg : w.grownBy w' row) (hr : ∀ b, row = some b → lo ≤ b ∧ b ≠ B) : Cs w' lo B v bs A := by
  obtain ⟨⟨hrd, hf⟩, a, s, h0, h1, ho⟩ := h
  refine ⟨⟨rd_turn hrd hg (fun b o m c e hm e2 => by have := hf b o m c e hm; have := (hr b e2).1; omega), hf⟩, a, s, h0, h1, ho.kept hg ?_⟩
  cases row with
  | none => exact .inr (fun e => by cases e)
  | some b => exact .inr (fun e => (hr b rfl).2 (Option.some.inj (show some B = some b from e)).symm)
theorem grownBy_far {a b c : World} {row row2 : Option Nat} (h : a.grownBy b row) (k : b.grownBy c row2) (hr : ∀ j, row2 = some j → a.heap.size ≤ j ∨ row = some j) : a.grownBy c row :=
  ⟨k.os.trans h.os, k.tape.trans h.tape, k.output.trans h.output, Nat.le_trans h.size k.size, fun i hi hrow => (k.block i (by have := h.size; omega) (fun e => by
    rcases hr i (by first | exact e | exact e.symm) with h1 | h1
    · omega
    · exact hrow (by first | exact h1 | exact h1.symm))).trans (h.block i hi hrow)⟩
theorem spec_next {bs : List Int} (hb : Bts bs) {lo B A : Nat} {v : Value} (w : World) (h : Cs w lo B v bs A) (hA : A ≤ 1000000) :
    Calls Tryz.prog 101 #[.pointer (some ⟨B, 0, none⟩)] w fun e w' => ∃ x : Int, e = .returned (.int .i64 x) ∧ 0 ≤ x ∧ x ≤ 255 ∧ Cs w' lo B v bs (A + 1) ∧ w.grownBy w' (some B) := by
  obtain ⟨⟨hr, hf⟩, a, s, ha0, haA, ho⟩ := h
  have hB : lo ≤ B := (own_row ho _ rfl).1
  have mw : ∀ E : Int, wrap64 (bits .and .u64 E 255) = bits .and .u64 E 255 := fun E => by have h := mask255 E; unfold wrap64; omega
  have e0 : w.cell? ⟨B, 0, none⟩ = some v := by simpa using ho.cellAt 0 (by omega)
  have e1 : w.cell? ⟨B, 1, none⟩ = some (.int .i64 a) := by simpa using ho.cellAt 1 (by omega)
  have e2 : w.cell? ⟨B, 2, none⟩ = some (.int .u64 s) := by simpa using ho.cellAt 2 (by omega)
  have f0 := ho.frozenAt 0
  have f1 := ho.frozenAt 1
  have f2 := ho.frozenAt 2
  obtain ⟨j, rfl⟩ : ∃ j : Nat, a = j := ⟨a.toNat, by omega⟩
  have hlen := hb.1
  have hw1 : IntKind.i64.wrap ((j : Int) + 1) = (j : Int) + 1 := IntWalk.i64_in _ (by omega)
  have K : Hid (∀ (S : Int) (W' : World), Ext ((w.setCell ⟨B, 1, none⟩ (.int .i64 ((j : Int) + 1))).setCell ⟨B, 2, none⟩ (.int .u64 S)) W' → Cs W' lo B v bs (A + 1) ∧ w.grownBy W' (some B)) := fun S W' hX => by
    have s1 := World.ownsRow.stored ho 1 (.int .i64 ((j : Int) + 1))
    have s2 := World.ownsRow.stored s1.1 2 (.int .u64 S)
    have hg := grownBy_trans s1.2 s2.2
    exact ⟨Cs.ext ⟨⟨rd_turn hr hg (fun b o m c e hm e2 => by have := hf b o m c e hm; have e3 : B = b := Option.some.inj e2; omega), hf⟩, (j : Int) + 1, S, by omega, by omega, s2.1⟩ hX, grownBy_trans hg (hX.grownBy _)⟩
  obtain ⟨h1, p, cap, rfl, h4⟩ := hr
  have Hb := hid hb
  clear h1 ho hf hb
  by_cases hlt : j < bs.length
  · obtain ⟨cb, off, rfl, h6⟩ := h4.resolve_left (by omega)
    have c0 := elem1 (Value.int .u8) 0 bs h6 j hlt
    have hx : 0 ≤ bs.getD j 0 ∧ bs.getD j 0 ≤ 255 := Hb.out.2 _ (by rw [List.getD_eq_getElem?_getD, List.getElem?_eq_getElem hlt]; exact List.getElem_mem hlt)
    generalize bs.getD j 0 = x at *
    have hwx : IntKind.i64.wrap x = x := IntWalk.i64_in _ (by omega)
    have t1 : (j : Int) < (bs.length : Int) := by omega
    have t2 : (j : Int) + 1 ≤ (bs.length : Int) := by omega
    have t3 : (0 : Int) ≤ (j : Int) := by omega
    clear h4 h6
    go_enter Tryz.func101, Tryz.ntmps101
    go_wp2
    repeat (go_region; go_wp2)
    go_ret
    refine ⟨_, rfl, hx.1, hx.2, K.out ?S _ ?E⟩
    case E => repeat (first | exact Ext.refl _ | refine Ext.drew ?_)
  · have t1 : ¬ (j : Int) < (bs.length : Int) := by omega
    have t2 : ¬ (j : Int) + 1 ≤ (bs.length : Int) := by omega
    clear h4
    go_enter Tryz.func101, Tryz.ntmps101
    go_wp2
    repeat (go_region; go_wp2)
    go_ret
    refine ⟨_, rfl, by first | exact (mask255 _).1 | (rw [mw]; exact (mask255 _).1), by first | exact (mask255 _).2 | (rw [mw]; exact (mask255 _).2), K.out ?S2 _ ?E2⟩
    case E2 => repeat (first | exact Ext.refl _ | refine Ext.drew ?_)
theorem spec_pick {bs : List Int} (hb : Bts bs) {lo B A : Nat} {v : Value} (n : Int) (w : World) (h : Cs w lo B v bs A) (hA : A ≤ 900000) (hn : 1 ≤ n ∧ n ≤ 200) :
    Calls Tryz.prog 59 #[.pointer (some ⟨B, 0, none⟩), .int .i64 n] w fun e w' => ∃ x : Int, e = .returned (.int .i64 x) ∧ 0 ≤ x ∧ x < n ∧ Cs w' lo B v bs (A + 1) ∧ w.grownBy w' (some B) := by
  have Hn := hid (fun w h => spec_next hb (lo := lo) (B := B) (A := A) (v := v) w h (by omega))
  have Hc := hid h
  clear h
  by_cases h1 : n = 1
  · subst h1
    go_enter Tryz.func59, Tryz.ntmps59
    go_wp2
    go_ret
    exact ⟨0, rfl, by omega, by omega, (Hc.out.ext (by repeat' (first | exact Ext.refl _ | assumption | refine Ext.alloc ?_ _ | refine Ext.ext ?_ _ | refine Ext.drew ?_ | refine Ext.drewN ?_ _))).more (by omega), Ext.grownBy (by repeat' (first | exact Ext.refl _ | assumption | refine Ext.alloc ?_ _ | refine Ext.ext ?_ _ | refine Ext.drew ?_ | refine Ext.drewN ?_ _)) _⟩
  · have t1 : ¬ n ≤ 1 := by omega
    have t2 : ¬ 200 < n := by omega
    have t0 : ¬ n = 0 := by omega
    have t3 : (n == 0) = false := by rw [beq_eq_false_iff_ne]; omega
    go_enter Tryz.func59, Tryz.ntmps59
    go_wp2_with fail
    go_at_call 101
    refine (Hn.out _ (Hc.out.ext (by repeat' (first | exact Ext.refl _ | assumption | refine Ext.alloc ?_ _ | refine Ext.ext ?_ _ | refine Ext.drew ?_ | refine Ext.drewN ?_ _)))).mono ?_
    rintro e w1 ⟨x, rfl, hx0, hx1, hc1, hg1⟩
    have K := hid (And.intro hc1 hg1)
    clear hc1 hg1
    have m0 : 0 ≤ x.tmod n := Int.tmod_nonneg _ hx0
    have m1 : x.tmod n < n := Int.tmod_lt_of_pos _ (by omega)
    have m2 : IntKind.i64.wrap (x.tmod n) = x.tmod n := IntWalk.i64_in _ (by omega)
    have m3 : x.tmod n = x % n := Int.tmod_eq_emod_of_nonneg hx0
    go_wp2
    go_ret
    exact ⟨x % n, rfl, by omega, by omega, K.out.1, K.out.2⟩
theorem spec_one {bs : List Int} (hb : Bts bs) {lo B A : Nat} {v : Value} (n : Int) (w : World) (h : Cs w lo B v bs A) (hA : A ≤ 900000) (hn : 1 ≤ n ∧ n ≤ 200) :
    Calls Tryz.prog 56 #[.pointer (some ⟨B, 0, none⟩), .int .i64 n] w fun e w' => ∃ x : Bool, e = .returned (.bool x) ∧ Cs w' lo B v bs (A + 1) ∧ w.grownBy w' (some B) := by
  have Hn := hid (fun w h => spec_pick hb (lo := lo) (B := B) (A := A) (v := v) n w h hA hn)
  have Hc := hid h
  clear h
  go_enter Tryz.func56, Tryz.ntmps56
  go_wp2_with fail
  go_at_call 59
  refine (Hn.out _ (Hc.out.ext (by repeat' (first | exact Ext.refl _ | assumption | refine Ext.alloc ?_ _ | refine Ext.ext ?_ _ | refine Ext.drew ?_ | refine Ext.drewN ?_ _)))).mono ?_
  rintro e w1 ⟨x, rfl, -, -, hc1, hg1⟩
  have K := hid (And.intro hc1 hg1)
  clear hc1 hg1
  go_wp2
  go_ret
  exact ⟨_, rfl, K.out.1, K.out.2⟩
theorem spec_among {bs : List Int} (hb : Bts bs) {lo B A : Nat} {v : Value} (L : List Int) (u : Value) (w : World) (h : Cs w lo B v bs A) (hu : Rd w 1 u L.length (vInts L)) (hub : ∀ b o m c, u = .slice (some ⟨b, o, none⟩) m c → 0 < m → b ≠ B) (hA : A ≤ 900000) (hn : 1 ≤ L.length ∧ L.length ≤ 200) :
    Calls Tryz.prog 58 #[.pointer (some ⟨B, 0, none⟩), u] w fun e w' => ∃ x : Int, e = .returned (.int .i64 x) ∧ x ∈ L ∧ Cs w' lo B v bs (A + 1) ∧ w.grownBy w' (some B) := by
  have Hn := hid (fun w h => spec_pick hb (lo := lo) (B := B) (A := A) (v := v) (L.length : Int) w h hA (by omega))
  have Hc := hid h
  have Hr := hid hu
  obtain ⟨-, p, cap, rfl, h4⟩ := hu
  obtain ⟨b, o, rfl, -⟩ := h4.resolve_left (by omega)
  have hne := hub b o _ _ rfl (by omega)
  clear h hub
  go_enter Tryz.func58, Tryz.ntmps58
  go_wp2_with fail
  go_at_call 59
  refine (Hn.out _ (Hc.out.ext (by repeat' (first | exact Ext.refl _ | assumption | refine Ext.alloc ?_ _ | refine Ext.ext ?_ _ | refine Ext.drew ?_ | refine Ext.drewN ?_ _)))).mono ?_
  rintro e w1 ⟨x, rfl, hx0, hx1, hc1, hg1⟩
  obtain ⟨j, rfl⟩ : ∃ j : Nat, x = j := ⟨x.toNat, by omega⟩
  have hr1 := rd_turn (Hr.out.ext (show Ext w _ from (by repeat' (first | exact Ext.refl _ | assumption | refine Ext.alloc ?_ _ | refine Ext.ext ?_ _ | refine Ext.drew ?_ | refine Ext.drewN ?_ _)))) hg1 (fun b' o' m' c' e _ => by cases e; intro e2; exact hne (Option.some.inj e2).symm)
  obtain ⟨-, p, cap', e9, h4'⟩ := hr1
  cases e9
  obtain ⟨b', o', e8, h6⟩ := h4'.resolve_left (by omega)
  cases e8
  have hj : j < L.length := by omega
  have c0 := elem1 (Value.int .i64) 0 L h6 j hj
  have hm : L.getD j 0 ∈ L := by rw [List.getD_eq_getElem?_getD, List.getElem?_eq_getElem hj]; exact List.getElem_mem hj
  generalize L.getD j 0 = y at *
  have K := hid (And.intro hc1 hg1)
  have n0 : (0 : Int) ≤ (j : Int) := by omega
  clear hc1 hg1 h4' h6
  go_wp2
  go_ret
  exact ⟨y, rfl, hm, K.out.1, K.out.2⟩
end Go.Proofs.YtljknhocfjpolaaGreatDoor
namespace Go.Proofs.YtljknhocfjpolaaGreatDoor
open Go.RowKit
set_option maxHeartbeats 2000000
set_option maxRecDepth 100000
/-- While something is drawn: the cursor, and that nothing that was there has turned but its block. -/
def Dr (w W : World) (lo B : Nat) (v : Value) (bs : List Int) (A : Nat) : Prop := Cs W lo B v bs A ∧ w.grownBy W (some B) ∧ lo ≤ B ∧ B < w.heap.size
theorem Dr.start {w : World} {lo B A : Nat} {v : Value} {bs : List Int} (h : Cs w lo B v bs A) : Dr w w lo B v bs A := ⟨h, (Ext.refl w).grownBy _, h.lo.1, h.lo.2⟩
theorem Dr.step {w W W' : World} {lo B A A' : Nat} {v : Value} {bs : List Int} (h : Dr w W lo B v bs A) (hc : Cs W' lo B v bs A') (hg : W.grownBy W' (some B)) : Dr w W' lo B v bs A' :=
  ⟨hc, grownBy_trans h.2.1 hg, h.2.2⟩
theorem Dr.ext {w W W' : World} {lo B A : Nat} {v : Value} {bs : List Int} (h : Dr w W lo B v bs A) (hx : Ext W W') : Dr w W' lo B v bs A := h.step (h.1.ext hx) (hx.grownBy _)
theorem Dr.more {w W : World} {lo B A A' : Nat} {v : Value} {bs : List Int} (h : Dr w W lo B v bs A) (hA : A ≤ A') : Dr w W lo B v bs A' := ⟨h.1.more hA, h.2⟩
/-- A block of its own turned. -/
theorem Dr.grow {w W W' : World} {lo B A : Nat} {v : Value} {bs : List Int} {row : Option Nat} (h : Dr w W lo B v bs A) (hg : W.grownBy W' row) (hr : ∀ j, row = some j → w.heap.size ≤ j) : Dr w W' lo B v bs A :=
  ⟨h.1.grown hg (fun b e => by have := hr b e; have := h.2.2; omega), grownBy_far h.2.1 hg (fun j e => .inl (hr j e)), h.2.2⟩
theorem Dr.set {w W : World} {lo B A : Nat} {v : Value} {bs : List Int} (h : Dr w W lo B v bs A) {p : Addr} (hp : w.heap.size ≤ p.block) (u : Value) : Dr w (W.setCell p u) lo B v bs A :=
  h.grow (grownBy_set W p u) (fun j e => by have e2 : p.block = j := Option.some.inj e; omega)
theorem Dr.size {w W : World} {lo B A : Nat} {v : Value} {bs : List Int} (h : Dr w W lo B v bs A) : w.heap.size ≤ W.heap.size := h.2.1.size
theorem Dr.fin {w W : World} {lo B A : Nat} {v : Value} {bs : List Int} (h : Dr w W lo B v bs A) : Cs W lo B v bs A ∧ w.grownBy W (some B) := ⟨h.1, h.2.1⟩
/-- Behind another one that was drawn. -/
theorem Dr.after {w W W' : World} {lo B A A' : Nat} {v : Value} {bs : List Int} (h : Dr w W lo B v bs A) (k : Dr W W' lo B v bs A') : Dr w W' lo B v bs A' := h.step k.1 k.2.1
theorem own_step {w W W' : World} {lo B A : Nat} {v : Value} {bs : List Int} {e k n : Nat} {u : Value} {cs : List Value} {base : Nat} (h : Dr w W lo B v bs A) (ho : W.ownsRow base e k u n cs) (hb : w.heap.size ≤ base) (hg : W.grownBy W' (some B)) : W'.ownsRow base e k u n cs :=
  own_behind ho hg (fun j e => by have e2 : B = j := Option.some.inj e; have := h.2.2.2; omega)
theorem blk_step {w W W' : World} {lo B A : Nat} {v : Value} {bs : List Int} {T : Nat} {o : Obj} (h : Dr w W lo B v bs A) (ho : W.heap[T]? = some o) (hb : w.heap.size ≤ T) (hg : W.grownBy W' (some B)) : W'.heap[T]? = some o :=
  (hg.block T (Array.getElem?_eq_some_iff.1 ho).1 (fun e => by have e2 : T = B := Option.some.inj e; have := h.2.2.2; omega)).trans ho
theorem blk_grow {W W' : World} {row : Option Nat} {T : Nat} {o : Obj} (ho : W.heap[T]? = some o) (hg : W.grownBy W' row) (hr : row ≠ some T) : W'.heap[T]? = some o :=
  (hg.block T (Array.getElem?_eq_some_iff.1 ho).1 (fun e => hr e.symm)).trans ho
theorem blk_ext {W W' : World} {T : Nat} {o : Obj} (ho : W.heap[T]? = some o) (hx : Ext W W') : W'.heap[T]? = some o :=
  (hx.heap (Array.getElem?_eq_some_iff.1 ho).1).trans ho
theorem own_not {W : World} {m e k n R : Nat} {u : Value} {cs : List Value} (h : W.ownsRow m e k u n cs) (hR : R < m) : u.ownBlock ≠ some R := fun e => by have := (own_row h R e).1; omega
theorem own_off {W : World} {base e k n T : Nat} {u x : Value} {cs : List Value} {i : Nat} (ho : W.ownsRow base e k u n cs) (hne : u.ownBlock ≠ some T) : (W.setCell ⟨T, i, none⟩ x).ownsRow base e k u n cs := by
  refine ho.kept (grownBy_set W ⟨T, i, none⟩ x) ?_
  cases he : u.ownBlock with
  | none => exact .inl rfl
  | some j => exact .inr (fun e => hne (by rw [he]; exact e))
/-- A variable of one cell. -/
theorem box1 {w : World} {T t : Nat} {a : Value} (h : w.heap[T]? = some (.cells #[a] t (0, 0))) : w.cell? ⟨T, 0, none⟩ = some a ∧ w.frozen? ⟨T, 0, none⟩ = false ∧ T < w.heap.size := by
  refine ⟨?_, frozen_of_row w T 0 _ t h, (Array.getElem?_eq_some_iff.1 h).1⟩
  rw [cell_of_row w T 0 _ t _ h]; rfl
theorem box1_set {w : World} {T t : Nat} {a : Value} (h : w.heap[T]? = some (.cells #[a] t (0, 0))) (a' : Value) : (w.setCell ⟨T, 0, none⟩ a').heap[T]? = some (.cells #[a'] t (0, 0)) := by
  simpa using heap_setCell_same _ T 0 _ t a' h
/-- What can be read, and lies behind lo2. -/
def RdB (w : World) (lo2 : Nat) (v : Value) (n : Nat) (cs : List Value) : Prop := Rd w 1 v n cs ∧ ∀ b o m c, v = .slice (some ⟨b, o, none⟩) m c → 0 < m → lo2 ≤ b
theorem RdB.own {w : World} {base e n : Nat} {v : Value} {cs : List Value} (h : w.ownsRow base e 1 v n cs) : RdB w base v n cs :=
  ⟨Rd.own h, fun b o m c e hm => by
    obtain ⟨-, ⟨rfl, h0⟩ | ⟨g, cap, cur, rfl, hB, _⟩⟩ := h
    · cases e
    · cases e; exact hB⟩
theorem RdB.ext {w w' : World} {lo2 n : Nat} {v : Value} {cs : List Value} (h : RdB w lo2 v n cs) (hx : Ext w w') : RdB w' lo2 v n cs := ⟨h.1.ext hx, h.2⟩
theorem RdB.step {w w' : World} {lo2 n B : Nat} {v : Value} {cs : List Value} (h : RdB w lo2 v n cs) (hb : B < lo2) (hg : w.grownBy w' (some B)) : RdB w' lo2 v n cs :=
  ⟨rd_turn h.1 hg (fun b o m c e hm e2 => by have := h.2 b o m c e hm; have e3 : B = b := Option.some.inj e2; omega), h.2⟩
theorem RdB.low {w : World} {lo2 lo3 n : Nat} {v : Value} {cs : List Value} (h : RdB w lo2 v n cs) (hl : lo3 ≤ lo2) : RdB w lo3 v n cs := ⟨h.1, fun b o m c e hm => Nat.le_trans hl (h.2 b o m c e hm)⟩
/-- Another block of its own turned. -/
theorem RdB.away {w w' : World} {lo2 n : Nat} {row : Option Nat} {v : Value} {cs : List Value} (h : RdB w lo2 v n cs) (hg : w.grownBy w' row) (hr : ∀ b o m c, v = .slice (some ⟨b, o, none⟩) m c → 0 < m → row ≠ some b) : RdB w' lo2 v n cs := ⟨rd_turn h.1 hg hr, h.2⟩
theorem ints_of : ∀ cs : List Value, (∀ y ∈ cs, ∃ k, y = .int .i64 k) → ∃ L : List Int, cs = vInts L
  | [], _ => ⟨[], rfl⟩
  | c :: cs, h => by
    obtain ⟨L, hL⟩ := ints_of cs (fun y hy => h y (by simp [hy]))
    obtain ⟨k, hk⟩ := h c (by simp)
    exact ⟨k :: L, by rw [hL, hk]; rfl⟩
theorem rd_litC (w : World) (t : Nat) (cs : Array Value) : Rd (w.alloc (.cells cs t)) 1 (.slice (some ⟨w.heap.size, 0, none⟩) cs.size cs.size) cs.size cs.toList := by
  refine ⟨by simp, _, _, rfl, .inr ⟨w.heap.size, 0, rfl, fun j hj => ?_⟩⟩
  rw [Nat.zero_add, cell_of_row _ _ j _ _ (0, 0) (heap_at _ rfl)]
  rw [Array.getElem?_eq_getElem (by simpa using hj)]
  simp
/-- One of a literal's numbers. -/
theorem spec_amongLit {bs : List Int} (hb : Bts bs) {lo B A : Nat} {v : Value} (cs : Array Value) (n g : Nat) (w0 w : World) (h : Cs w0 lo B v bs A) (hx : Ext w0 w) (hg0 : g = w.heap.size) (hl : cs.size = n) (hA : A ≤ 900000) (hn : 1 ≤ n ∧ n ≤ 200) (hall : ∀ y ∈ cs.toList, ∃ k, y = .int .i64 k) :
    Calls Tryz.prog 58 #[.pointer (some ⟨B, 0, none⟩), .slice (some ⟨g, 0, none⟩) n n] (w.alloc (.cells cs 3)) fun e w' => ∃ x : Int, e = .returned (.int .i64 x) ∧ Cs w' lo B v bs (A + 1) ∧ w0.grownBy w' (some B) := by
  obtain ⟨L, hL⟩ := ints_of cs.toList hall
  have hl2 : n = L.length := by have := congrArg List.length hL; rw [← hl]; simpa [vInts] using this
  have hr := rd_litC w 3 cs
  rw [hL, hl, hl2, ← hg0] at hr
  rw [hl2] at hn
  rw [hl2]
  have hc := h.ext (hx.alloc (.cells cs 3))
  have hlo := (h.ext hx).lo
  have hg := (hx.alloc (.cells cs 3)).grownBy (some B)
  clear hL hall hl hl2
  generalize w.alloc (.cells cs 3) = W at *
  have key := spec_among hb L (.slice (some ⟨g, 0, none⟩) L.length L.length) W hc hr (fun b o m c e _ => by cases e; omega) hA hn
  exact key.mono fun e w' ⟨x, e1, _, e2, e3⟩ => ⟨x, e1, e2, grownBy_trans hg e3⟩
end Go.Proofs.YtljknhocfjpolaaGreatDoor
