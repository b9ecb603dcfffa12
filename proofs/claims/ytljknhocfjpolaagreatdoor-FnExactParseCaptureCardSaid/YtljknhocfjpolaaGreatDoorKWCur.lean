/- The cursor that draws inputs: what is drawn is not said, but that it is drawn. -/
import Derived.Test.YtljknhocfjpolaaGreatDoorJ25
import Derived.Test.YtljknhocfjpolaaGreatDoorJ2
import Derived.Laws.Bits64b
namespace Go.Proofs.YtljknhocfjpolaaGreatDoor
open Go.RowKit
set_option maxHeartbeats 1000000
set_option maxRecDepth 100000
theorem mask255 (E : Int) : 0 ≤ bits .and .u64 E 255 ∧ bits .and .u64 E 255 ≤ 255 := by
  have h : bits .and .u64 E 255 = IntKind.u64.wrap ((BitVec.ofInt 64 E &&& BitVec.ofInt 64 255).toNat : Int) := rfl
  rw [h, BitVec.toNat_and, IntKind.wrap_u64]
  have h2 : (BitVec.ofInt 64 255).toNat = 255 := by decide
  rw [h2]
  have h3 := Nat.and_le_right (n := (BitVec.ofInt 64 E).toNat) (m := 255)
  omega
def vBytes (bs : List Int) : List Value := bs.map (Value.int .u8)
def Bts (bs : List Int) : Prop := bs.length ≤ 65536 ∧ ∀ b ∈ bs, 0 ≤ b ∧ b ≤ 255
/-- A cursor at block B that has drawn A times at most, over the bytes of v. -/
def Cs (w : World) (lo B : Nat) (v : Value) (bs : List Int) (A : Nat) : Prop :=
  (Rd w 1 v bs.length (vBytes bs) ∧ ∀ b o m c, v = .slice (some ⟨b, o, none⟩) m c → 0 < m → b < lo) ∧
  ∃ a s : Int, 0 ≤ a ∧ a ≤ A ∧ w.ownsRow lo 72 3 (.slice (some ⟨B, 0, none⟩) 1 1) 1 [v, .int .i64 a, .int .u64 s]
theorem Cs.lo {w : World} {lo B A : Nat} {v : Value} {bs : List Int} (h : Cs w lo B v bs A) : lo ≤ B ∧ B < w.heap.size := by
  obtain ⟨-, a, s, -, -, ho⟩ := h
  exact own_row ho _ rfl
theorem Cs.ext {w w' : World} {lo B A : Nat} {v : Value} {bs : List Int} (h : Cs w lo B v bs A) (hx : Ext w w') : Cs w' lo B v bs A := by
  obtain ⟨⟨hr, hf⟩, a, s, h0, h1, ho⟩ := h
  exact ⟨⟨hr.ext hx, hf⟩, a, s, h0, h1, own_ext ho hx⟩
theorem Cs.more {w : World} {lo B A A' : Nat} {v : Value} {bs : List Int} (h : Cs w lo B v bs A) (hA : A ≤ A') : Cs w lo B v bs A' := by
  obtain ⟨hr, a, s, h0, h1, ho⟩ := h
  exact ⟨hr, a, s, h0, by omega, ho⟩
/-- Another block turned. -/
theorem Cs.grown {w w' : World} {lo B A : Nat} {v : Value} {bs : List Int} {row : Option Nat} (h : Cs w lo B v bs A) (hg : w.grownBy w' row) (hr : ∀ b, row = some b → lo ≤ b ∧ b ≠ B) : Cs w' lo B v bs A := by
  obtain ⟨⟨hrd, hf⟩, a, s, h0, h1, ho⟩ := h
  refine ⟨⟨rd_turn hrd hg (fun b o m c e hm e2 => by have := hf b o m c e hm; have := (hr b e2).1; omega), hf⟩, a, s, h0, h1, ho.kept hg ?_⟩
  cases row with
  | none => exact .inr (fun e => by cases e)
  | some b => exact .inr (fun e => (hr b rfl).2 (Option.some.inj (show some B = some b from e)).symm)
theorem grownBy_far {a b c : World} {row row2 : Option Nat} (h : a.grownBy b row) (k : b.grownBy c row2) (hr : ∀ j, row2 = some j → a.heap.size ≤ j ∨ row = some j) : a.grownBy c row :=
  ⟨k.os.trans h.os, k.tape.trans h.tape, k.output.trans h.output, Nat.le_trans h.size k.size, fun i hi hrow => (k.block i (by have := h.size; omega) (fun e => by
    rcases hr i (by first | exact e | exact e.symm) with h1 | h1
    · omega
    · exact hrow (by first | exact h1 | exact h1.symm))).trans (h.block i hi hrow)⟩
theorem spec_next {bs : List Int} (hb : Bts bs) {lo B A : Nat} {v : Value} (w : World) (h : Cs w lo B v bs A) (hA : A ≤ 1000000) :
    Calls Tryz.prog 101 #[.pointer (some ⟨B, 0, none⟩)] w fun e w' => ∃ x : Int, e = .returned (.int .i64 x) ∧ 0 ≤ x ∧ x ≤ 255 ∧ Cs w' lo B v bs (A + 1) ∧ w.grownBy w' (some B) := by
  obtain ⟨⟨hr, hf⟩, a, s, ha0, haA, ho⟩ := h
  have hB : lo ≤ B := (own_row ho _ rfl).1
  have mw : ∀ E : Int, wrap64 (bits .and .u64 E 255) = bits .and .u64 E 255 := fun E => by have h := mask255 E; unfold wrap64; omega
  have e0 : w.cell? ⟨B, 0, none⟩ = some v := by simpa using ho.cellAt 0 (by omega)
  have e1 : w.cell? ⟨B, 1, none⟩ = some (.int .i64 a) := by simpa using ho.cellAt 1 (by omega)
  have e2 : w.cell? ⟨B, 2, none⟩ = some (.int .u64 s) := by simpa using ho.cellAt 2 (by omega)
  have f0 := ho.frozenAt 0
  have f1 := ho.frozenAt 1
  have f2 := ho.frozenAt 2
  obtain ⟨j, rfl⟩ : ∃ j : Nat, a = j := ⟨a.toNat, by omega⟩
  have hlen := hb.1
  have hw1 : IntKind.i64.wrap ((j : Int) + 1) = (j : Int) + 1 := IntWalk.i64_in _ (by omega)
  have K : Hid (∀ (S : Int) (W' : World), Ext ((w.setCell ⟨B, 1, none⟩ (.int .i64 ((j : Int) + 1))).setCell ⟨B, 2, none⟩ (.int .u64 S)) W' → Cs W' lo B v bs (A + 1) ∧ w.grownBy W' (some B)) := fun S W' hX => by
    have s1 := World.ownsRow.stored ho 1 (.int .i64 ((j : Int) + 1))
    have s2 := World.ownsRow.stored s1.1 2 (.int .u64 S)
    have hg := grownBy_trans s1.2 s2.2
    exact ⟨Cs.ext ⟨⟨rd_turn hr hg (fun b o m c e hm e2 => by have := hf b o m c e hm; have e3 : B = b := Option.some.inj e2; omega), hf⟩, (j : Int) + 1, S, by omega, by omega, s2.1⟩ hX, grownBy_trans hg (hX.grownBy _)⟩
  obtain ⟨h1, p, cap, rfl, h4⟩ := hr
  have Hb := hid hb
  clear h1 ho hf hb
  by_cases hlt : j < bs.length
  · obtain ⟨cb, off, rfl, h6⟩ := h4.resolve_left (by omega)
    have c0 := elem1 (Value.int .u8) 0 bs h6 j hlt
    have hx : 0 ≤ bs.getD j 0 ∧ bs.getD j 0 ≤ 255 := Hb.out.2 _ (by rw [List.getD_eq_getElem?_getD, List.getElem?_eq_getElem hlt]; exact List.getElem_mem hlt)
    generalize bs.getD j 0 = x at *
    have hwx : IntKind.i64.wrap x = x := IntWalk.i64_in _ (by omega)
    have t1 : (j : Int) < (bs.length : Int) := by omega
    have t2 : (j : Int) + 1 ≤ (bs.length : Int) := by omega
    have t3 : (0 : Int) ≤ (j : Int) := by omega
    clear h4 h6
    go_enter Tryz.func101, Tryz.ntmps101
    go_wp2
    repeat (go_region; go_wp2)
    go_ret
    refine ⟨_, rfl, hx.1, hx.2, K.out ?S _ ?E⟩
    case E => repeat (first | exact Ext.refl _ | refine Ext.drew ?_)
  · have t1 : ¬ (j : Int) < (bs.length : Int) := by omega
    have t2 : ¬ (j : Int) + 1 ≤ (bs.length : Int) := by omega
    clear h4
    go_enter Tryz.func101, Tryz.ntmps101
    go_wp2
    repeat (go_region; go_wp2)
    go_ret
    refine ⟨_, rfl, by first | exact (mask255 _).1 | (rw [mw]; exact (mask255 _).1), by first | exact (mask255 _).2 | (rw [mw]; exact (mask255 _).2), K.out ?S2 _ ?E2⟩
    case E2 => repeat (first | exact Ext.refl _ | refine Ext.drew ?_)
theorem spec_pick {bs : List Int} (hb : Bts bs) {lo B A : Nat} {v : Value} (n : Int) (w : World) (h : Cs w lo B v bs A) (hA : A ≤ 900000) (hn : 1 ≤ n ∧ n ≤ 200) :
    Calls Tryz.prog 59 #[.pointer (some ⟨B, 0, none⟩), .int .i64 n] w fun e w' => ∃ x : Int, e = .returned (.int .i64 x) ∧ 0 ≤ x ∧ x < n ∧ Cs w' lo B v bs (A + 1) ∧ w.grownBy w' (some B) := by
  have Hn := hid (fun w h => spec_next hb (lo := lo) (B := B) (A := A) (v := v) w h (by omega))
  have Hc := hid h
  clear h
  by_cases h1 : n = 1
  · subst h1
    go_enter Tryz.func59, Tryz.ntmps59
    go_wp2
    go_ret
    exact ⟨0, rfl, by omega, by omega, (Hc.out.ext (by repeat' (first | exact Ext.refl _ | assumption | refine Ext.alloc ?_ _ | refine Ext.ext ?_ _ | refine Ext.drew ?_ | refine Ext.drewN ?_ _))).more (by omega), Ext.grownBy (by repeat' (first | exact Ext.refl _ | assumption | refine Ext.alloc ?_ _ | refine Ext.ext ?_ _ | refine Ext.drew ?_ | refine Ext.drewN ?_ _)) _⟩
  · have t1 : ¬ n ≤ 1 := by omega
    have t2 : ¬ 200 < n := by omega
    have t0 : ¬ n = 0 := by omega
    have t3 : (n == 0) = false := by rw [beq_eq_false_iff_ne]; omega
    go_enter Tryz.func59, Tryz.ntmps59
    go_wp2_with fail
    go_at_call 101
    refine (Hn.out _ (Hc.out.ext (by repeat' (first | exact Ext.refl _ | assumption | refine Ext.alloc ?_ _ | refine Ext.ext ?_ _ | refine Ext.drew ?_ | refine Ext.drewN ?_ _)))).mono ?_
    rintro e w1 ⟨x, rfl, hx0, hx1, hc1, hg1⟩
    have K := hid (And.intro hc1 hg1)
    clear hc1 hg1
    have m0 : 0 ≤ x.tmod n := Int.tmod_nonneg _ hx0
    have m1 : x.tmod n < n := Int.tmod_lt_of_pos _ (by omega)
    have m2 : IntKind.i64.wrap (x.tmod n) = x.tmod n := IntWalk.i64_in _ (by omega)
    have m3 : x.tmod n = x % n := Int.tmod_eq_emod_of_nonneg hx0
    go_wp2
    go_ret
    exact ⟨x % n, rfl, by omega, by omega, K.out.1, K.out.2⟩
theorem spec_one {bs : List Int} (hb : Bts bs) {lo B A : Nat} {v : Value} (n : Int) (w : World) (h : Cs w lo B v bs A) (hA : A ≤ 900000) (hn : 1 ≤ n ∧ n ≤ 200) :
    Calls Tryz.prog 56 #[.pointer (some ⟨B, 0, none⟩), .int .i64 n] w fun e w' => ∃ x : Bool, e = .returned (.bool x) ∧ Cs w' lo B v bs (A + 1) ∧ w.grownBy w' (some B) := by
  have Hn := hid (fun w h => spec_pick hb (lo := lo) (B := B) (A := A) (v := v) n w h hA hn)
  have Hc := hid h
  clear h
  go_enter Tryz.func56, Tryz.ntmps56
  go_wp2_with fail
  go_at_call 59
  refine (Hn.out _ (Hc.out.ext (by repeat' (first | exact Ext.refl _ | assumption | refine Ext.alloc ?_ _ | refine Ext.ext ?_ _ | refine Ext.drew ?_ | refine Ext.drewN ?_ _)))).mono ?_
  rintro e w1 ⟨x, rfl, -, -, hc1, hg1⟩
  have K := hid (And.intro hc1 hg1)
  clear hc1 hg1
  go_wp2
  go_ret
  exact ⟨_, rfl, K.out.1, K.out.2⟩
theorem spec_among {bs : List Int} (hb : Bts bs) {lo B A : Nat} {v : Value} (L : List Int) (u : Value) (w : World) (h : Cs w lo B v bs A) (hu : Rd w 1 u L.length (vInts L)) (hub : ∀ b o m c, u = .slice (some ⟨b, o, none⟩) m c → 0 < m → b ≠ B) (hA : A ≤ 900000) (hn : 1 ≤ L.length ∧ L.length ≤ 200) :
    Calls Tryz.prog 58 #[.pointer (some ⟨B, 0, none⟩), u] w fun e w' => ∃ x : Int, e = .returned (.int .i64 x) ∧ x ∈ L ∧ Cs w' lo B v bs (A + 1) ∧ w.grownBy w' (some B) := by
  have Hn := hid (fun w h => spec_pick hb (lo := lo) (B := B) (A := A) (v := v) (L.length : Int) w h hA (by omega))
  have Hc := hid h
  have Hr := hid hu
  obtain ⟨-, p, cap, rfl, h4⟩ := hu
  obtain ⟨b, o, rfl, -⟩ := h4.resolve_left (by omega)
  have hne := hub b o _ _ rfl (by omega)
  clear h hub
  go_enter Tryz.func58, Tryz.ntmps58
  go_wp2_with fail
  go_at_call 59
  refine (Hn.out _ (Hc.out.ext (by repeat' (first | exact Ext.refl _ | assumption | refine Ext.alloc ?_ _ | refine Ext.ext ?_ _ | refine Ext.drew ?_ | refine Ext.drewN ?_ _)))).mono ?_
  rintro e w1 ⟨x, rfl, hx0, hx1, hc1, hg1⟩
  obtain ⟨j, rfl⟩ : ∃ j : Nat, x = j := ⟨x.toNat, by omega⟩
  have hr1 := rd_turn (Hr.out.ext (show Ext w _ from (by repeat' (first | exact Ext.refl _ | assumption | refine Ext.alloc ?_ _ | refine Ext.ext ?_ _ | refine Ext.drew ?_ | refine Ext.drewN ?_ _)))) hg1 (fun b' o' m' c' e _ => by cases e; intro e2; exact hne (Option.some.inj e2).symm)
  obtain ⟨-, p, cap', e9, h4'⟩ := hr1
  cases e9
  obtain ⟨b', o', e8, h6⟩ := h4'.resolve_left (by omega)
  cases e8
  have hj : j < L.length := by omega
  have c0 := elem1 (Value.int .i64) 0 L h6 j hj
  have hm : L.getD j 0 ∈ L := by rw [List.getD_eq_getElem?_getD, List.getElem?_eq_getElem hj]; exact List.getElem_mem hj
  generalize L.getD j 0 = y at *
  have K := hid (And.intro hc1 hg1)
  have n0 : (0 : Int) ≤ (j : Int) := by omega
  clear hc1 hg1 h4' h6
  go_wp2
  go_ret
  exact ⟨y, rfl, hm, K.out.1, K.out.2⟩
end Go.Proofs.YtljknhocfjpolaaGreatDoor
