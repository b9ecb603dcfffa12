/- Library functions on slices of ints, by the shelf's contracts. The reference's membership. -/
import Derived.Test.YtlaochpkelbchaaGreatDoorJ2
import Derived.Shelf.Slices.Turned
import Derived.Shelf.Slices.Cells
import Derived.Shelf.Slices.Reverse
namespace Go.Proofs.YtlaochpkelbchaaGreatDoor
open Go.RowKit
set_option maxRecDepth 100000
set_option maxHeartbeats 400000
theorem own_setCells {base e k n g cap : Nat} : ∀ (vs : List Value) (w : World) (cs : List Value) (o : Nat), w.ownsRow base e k (.slice (some ⟨g, 0, none⟩) n cap) n cs → o + vs.length ≤ cs.length →
    (w.setCells g o vs).ownsRow base e k (.slice (some ⟨g, 0, none⟩) n cap) n (cs.take o ++ vs ++ cs.drop (o + vs.length)) ∧ w.grownBy (w.setCells g o vs) (some g)
  | [], w, cs, o, h, _ => ⟨by simpa [World.setCells] using h, World.grownBy.refl _ _⟩
  | v :: r, w, cs, o, h, hl => by
    have h1 := World.ownsRow.stored h o v
    simp only [List.length_cons] at hl
    have h2 := own_setCells r (w.setCell ⟨g, o, none⟩ v) (cs.set o v) (o + 1) h1.1 (by simp; omega)
    refine ⟨?_, grownBy_trans h1.2 h2.2⟩
    have e1 : (cs.set o v).take (o + 1) ++ r ++ (cs.set o v).drop (o + 1 + r.length) = cs.take o ++ (v :: r) ++ cs.drop (o + (v :: r).length) := by
      have hd : (cs.set o v).drop (o + 1 + r.length) = cs.drop (o + (v :: r).length) := by
        rw [List.drop_set_of_lt (by omega)]; congr 1; simp; omega
      have ht : (cs.set o v).take (o + 1) = cs.take o ++ [v] := by
        rw [List.take_succ_eq_append_getElem (by simp; omega), List.take_set, List.getElem_set_self]
        rw [List.set_eq_of_length_le (by simp; omega)]
      rw [hd, ht]; simp
    rw [← e1]
    exact h2.1
theorem rd_cells {xs : List Int} {w : World} {b off : Nat} (h : ∀ j (h : j < (vInts xs).length), w.cell? ⟨b, off + j, none⟩ = some (vInts xs)[j]) (j : Nat) (hj : j < xs.length) :
    w.cell? ⟨b, off + j, none⟩ = some (.int .i64 (xs.getD j 0)) := elem1 (Value.int .i64) 0 xs h j hj
def ren107 : Go.Shelf.Ren := ⟨fun x => if x = 107 then 34 else if x = 108 then 64 else x, fun x => if x = 0 then 0 else if x = 3 then 3 else if x = 4 then 4 else if x = 28 then 24 else x, fun x => x⟩
theorem lays107 : Go.Proofs.Lays.n107 Tryz.prog ren107 := by constructor <;> first | kernel_rfl | (intro w; kernel_rfl)
theorem slices_Contains (xs : List Int) (v : Value) (x : Int) (w : World) (h : Rd w 1 v xs.length (vInts xs)) (h2 : xs.length ≤ 1048576) :
    Calls Tryz.prog 34 #[v, .int .i64 x] w fun e w' => e = .returned (.bool (xs.contains x)) ∧ w = w' := by
  obtain ⟨h1, p, cap, rfl, h4⟩ := h
  rcases h4 with h0 | ⟨b, off, rfl, h6⟩
  · have e : xs = [] := List.eq_nil_of_length_eq_zero h0
    subst e
    exact (Any.slices_Contains_int_empty lays107 p cap x w).mono fun _ _ ⟨a, b⟩ => ⟨a, b.symm⟩
  · have := Any.slices_Contains_int lays107 b off xs.length cap xs x w (Nat.le_refl _) (by omega) (fun j hj => rd_cells h6 j hj)
    rw [List.take_length] at this
    exact this.mono fun _ _ ⟨a, b⟩ => ⟨a, b.symm⟩
def ren112 : Go.Shelf.Ren := ⟨fun x => if x = 112 then 57 else x, fun x => if x = 0 then 0 else if x = 3 then 3 else if x = 4 then 4 else if x = 28 then 24 else x, fun x => x⟩
theorem lays112 : Go.Proofs.Lays.n112 Tryz.prog ren112 := by constructor <;> first | kernel_rfl | (intro w; kernel_rfl)
theorem slices_Reverse (xs : List Int) (v : Value) (w : World) (B : Nat) (h : w.ownsRow B 3 1 v xs.length (vInts xs)) (h2 : xs.length ≤ 1048576) :
    Calls Tryz.prog 57 #[v] w fun e w' => e = .returned (.tuple #[]) ∧ w'.ownsRow B 3 1 v xs.length (vInts xs.reverse) ∧ w.grownBy w' v.ownBlock := by
  have ho := h
  have hlen := h.1
  obtain ⟨h1, ⟨rfl, hn⟩ | ⟨g, cap, cur, rfl, hB, _⟩⟩ := h
  · have e : xs = [] := List.eq_nil_of_length_eq_zero (by simpa using hn)
    subst e
    exact (Any.slices_Reverse_int_empty lays112 none 0 w).mono fun _ _ ⟨a, b⟩ => by subst b; exact ⟨a, ho, World.grownBy.refl _ _⟩
  · have := Any.slices_Reverse_int_cells lays112 g 0 xs.length cap xs w (Nat.le_refl _) (by omega)
      (fun j hj => by rw [Nat.zero_add, ho.cellAt j (by omega), vInts_get xs j hj]) (fun j hj => by rw [Nat.zero_add]; exact ho.frozenAt j)
    rw [List.take_length] at this
    refine this.mono fun _ _ ⟨a, q, b⟩ => ?_
    subst b
    have hd := own_ext ho (show Ext w (w.drewN q) from (Ext.refl w).drewN q)
    have hs := own_setCells (vInts xs.reverse) (w.drewN q) (vInts xs) 0 hd (by simp [vInts_len])
    refine ⟨a, ?_, grownBy_trans (Ext.grownBy ((Ext.refl w).drewN q) _) hs.2⟩
    have e : (vInts xs).take 0 ++ vInts xs.reverse ++ (vInts xs).drop (0 + (vInts xs.reverse).length) = vInts xs.reverse := by simp [vInts_len]
    rw [e] at hs
    exact hs.1
end Go.Proofs.YtlaochpkelbchaaGreatDoor
namespace Go.Proofs.YtlaochpkelbchaaGreatDoor
open Go.RowKit
set_option maxHeartbeats 400000
theorem contains_at {xs : List Int} {k : Nat} (h : k < xs.length) (x : Int) (e : xs.getD k 0 = x) : xs.contains x = true := by
  rw [List.contains_iff_mem, ← e, List.getD_eq_getElem?_getD, List.getElem?_eq_getElem h]; exact List.getElem_mem h
theorem contains_no {xs : List Int} (x : Int) (h : ∀ i, i < xs.length → ¬ xs.getD i 0 = x) : xs.contains x = false := by
  rw [← Bool.not_eq_true, List.contains_iff_mem]
  intro hm
  obtain ⟨i, hi, e⟩ := List.mem_iff_getElem.1 hm
  refine h i hi ?_
  rw [List.getD_eq_getElem?_getD, List.getElem?_eq_getElem hi]; exact e
theorem spec_l1Has (xs : List Int) (v : Value) (x : Int) (w : World) (h : Rd w 1 v xs.length (vInts xs)) (h2 : xs.length ≤ 1048576) :
    Calls Tryz.prog 37 #[v, .int .i64 x] w fun e w' => e = .returned (.bool (xs.contains x)) ∧ Ext w w' := by
  obtain ⟨h1, p, cap, rfl, h4⟩ := h
  have H1 := hid h1; clear h1
  have H4 := hid h4; clear h4
  go_enter Tryz.func37, Tryz.ntmps37
  go_wp2
  go_loopw [5] (fun v3 wr => ∃ k : Nat, k ≤ xs.length ∧ v3 = .int .i64 k ∧ (∀ i, i < k → ¬ xs.getD i 0 = x) ∧ Ext w wr) (fun v3 _ => xs.length - (intOf v3).toNat)
  case atStart => exact ⟨0, Nat.zero_le _, rfl, fun _ h => absurd h (Nat.not_lt_zero _), Ext.refl _⟩
  case round =>
    obtain ⟨k, hk, rfl, hall, z, rfl⟩ := hrel
    by_cases hlt : k < xs.length
    · obtain ⟨b, off, rfl, h6⟩ := H4.out.resolve_left (by omega)
      have c0 := elem1 (Value.int .i64) 0 xs h6 k hlt
      have H6 := hid h6; clear h6 H4
      have next : ¬ xs.getD k 0 = x → ∀ i, i < k + 1 → ¬ xs.getD i 0 = x := fun h => upTo_succ hall h
      have yes : xs.getD k 0 = x → xs.contains x = true := fun h => contains_at hlt x h
      generalize xs.getD k 0 = y at c0 next yes
      have Next := hid next
      have Yes := hid yes
      clear next yes hall
      cases t0 : (y == x)
      · have T0 := hid t0
        go_wp2
        go_roundw
        case rel => exact ⟨k + 1, by omega, by go_num, Next.out (by have := T0.out; simpa using this), (by repeat' (first | exact Ext.refl _ | assumption | refine Ext.alloc ?_ _ | refine Ext.ext ?_ _ | refine Ext.drew ?_ | refine Ext.drewN ?_ _))⟩
        case measure => simp [intOf]; omega
      · have T0 := hid t0
        go_wp2
        go_ret
        exact ⟨by rw [Yes.out (by have := T0.out; simpa using this)]; rfl, (by repeat' (first | exact Ext.refl _ | assumption | refine Ext.alloc ?_ _ | refine Ext.ext ?_ _ | refine Ext.drew ?_ | refine Ext.drewN ?_ _))⟩
    · have hf : xs.contains x = false := contains_no x (fun i hi => hall i (by omega))
      have Hf := hid hf; clear hf hall
      go_wp2
      go_ret
      exact ⟨by rw [Hf.out]; rfl, (by repeat' (first | exact Ext.refl _ | assumption | refine Ext.alloc ?_ _ | refine Ext.ext ?_ _ | refine Ext.drew ?_ | refine Ext.drewN ?_ _))⟩
end Go.Proofs.YtlaochpkelbchaaGreatDoor
