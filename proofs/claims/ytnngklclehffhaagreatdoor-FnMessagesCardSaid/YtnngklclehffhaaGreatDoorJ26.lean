/- Library functions on slices of ints, by the shelf's contracts. The reference's membership. The laws' own small words: their comparisons, and the bytes that come in. -/
import Derived.Test.YtnngklclehffhaaGreatDoorJ2
import Derived.Shelf.Slices.Turned
import Derived.Shelf.Slices.Cells
import Derived.Shelf.Slices.Reverse
import Derived.Test.YtnngklclehffhaaGreatDoorKWCur
namespace Go.Proofs.YtnngklclehffhaaGreatDoor
open Go.RowKit
set_option maxRecDepth 100000
set_option maxHeartbeats 400000
theorem own_setCells {base e k n g cap : Nat} : ∀ (vs : List Value) (w : World) (cs : List Value) (o : Nat), w.ownsRow base e k (.slice (some ⟨g, 0, none⟩) n cap) n cs → o + vs.length ≤ cs.length →
    (w.setCells g o vs).ownsRow base e k (.slice (some ⟨g, 0, none⟩) n cap) n (cs.take o ++ vs ++ cs.drop (o + vs.length)) ∧ w.grownBy (w.setCells g o vs) (some g)
  | [], w, cs, o, h, _ => ⟨by simpa [World.setCells] using h, World.grownBy.refl _ _⟩
  | v :: r, w, cs, o, h, hl => by
    have h1 := World.ownsRow.stored h o v
    simp only [List.length_cons] at hl
    have h2 := own_setCells r (w.setCell ⟨g, o, none⟩ v) (cs.set o v) (o + 1) h1.1 (by simp; omega)
    refine ⟨?_, grownBy_trans h1.2 h2.2⟩
    have e1 : (cs.set o v).take (o + 1) ++ r ++ (cs.set o v).drop (o + 1 + r.length) = cs.take o ++ (v :: r) ++ cs.drop (o + (v :: r).length) := by
      have hd : (cs.set o v).drop (o + 1 + r.length) = cs.drop (o + (v :: r).length) := by
        rw [List.drop_set_of_lt (by omega)]; congr 1; simp; omega
      have ht : (cs.set o v).take (o + 1) = cs.take o ++ [v] := by
        rw [List.take_succ_eq_append_getElem (by simp; omega), List.take_set, List.getElem_set_self]
        rw [List.set_eq_of_length_le (by simp; omega)]
      rw [hd, ht]; simp
    rw [← e1]
    exact h2.1
theorem rd_cells {xs : List Int} {w : World} {b off : Nat} (h : ∀ j (h : j < (vInts xs).length), w.cell? ⟨b, off + j, none⟩ = some (vInts xs)[j]) (j : Nat) (hj : j < xs.length) :
    w.cell? ⟨b, off + j, none⟩ = some (.int .i64 (xs.getD j 0)) := elem1 (Value.int .i64) 0 xs h j hj
end Go.Proofs.YtnngklclehffhaaGreatDoor
namespace Go.Proofs.YtnngklclehffhaaGreatDoor
open Go.RowKit
set_option maxHeartbeats 400000
theorem contains_at {xs : List Int} {k : Nat} (h : k < xs.length) (x : Int) (e : xs.getD k 0 = x) : xs.contains x = true := by
  rw [List.contains_iff_mem, ← e, List.getD_eq_getElem?_getD, List.getElem?_eq_getElem h]; exact List.getElem_mem h
theorem contains_no {xs : List Int} (x : Int) (h : ∀ i, i < xs.length → ¬ xs.getD i 0 = x) : xs.contains x = false := by
  rw [← Bool.not_eq_true, List.contains_iff_mem]
  intro hm
  obtain ⟨i, hi, e⟩ := List.mem_iff_getElem.1 hm
  refine h i hi ?_
  rw [List.getD_eq_getElem?_getD, List.getElem?_eq_getElem hi]; exact e
end Go.Proofs.YtnngklclehffhaaGreatDoor
namespace Go.Proofs.YtnngklclehffhaaGreatDoor
open Go.RowKit
set_option maxHeartbeats 1000000
set_option maxRecDepth 100000
theorem laws_vBig (n : Nat) (p : Option Addr) (cap : Nat) (w : World) : Calls Tryz.prog 4 #[.slice p n cap] w fun e w' => e = .returned (.bool (decide ((65536 : Int) < (n : Int)))) ∧ w = w' := by
  go_enter Tryz.func4, Tryz.ntmps4
  go_wp2
  go_ret
  simp
/-- The bytes that came in. -/
theorem opened_bytes {H : Type} {enc : TypeId × Value → H} {W : World} {v : Value} {d : DataW H} {ps : List MemPlace} {r : Reach} {b : Nat} (hval : Value.okWide Tryz.prog W r b 22 v)
    (h : DataW.Trod enc Tryz.prog W 0 (fun _ => true) true 22 v d ps) : ∃ xs : List Int, Rd W 1 v xs.length (vBytes xs) ∧ xs.length ≤ maxLen ∧ ∀ x ∈ xs, 0 ≤ x ∧ x ≤ 255 := by
  obtain ⟨fuel, h⟩ := h
  obtain ⟨a, len, cap, rfl⟩ := Go.WideShapes.okWide_slice Tryz.underlying22 hval
  obtain ⟨css, h1, h2, h3⟩ := rd_of_trod (d := 3) Tryz.underlying22 (ks := [.i .u8]) (by kernel_rfl) (by kernel_rfl) (by decide) h
  obtain ⟨xs, rfl, hx⟩ := exists_map (f := fun x => [Value.int .u8 x]) (ok := fun x => 0 ≤ x ∧ x ≤ 255) (l := css) (fun cs hcs => by
    obtain ⟨a, rfl, ⟨a, rfl, hw⟩⟩ := (h1 cs hcs).one
    exact ⟨a, rfl, bounds_u8 hw⟩)
  have e : vBytes xs = xs.flatMap (fun x => [Value.int .u8 x]) := by
    clear h1 h2 h3 hx
    unfold vBytes
    induction xs with
    | nil => rfl
    | cons x xs ih => rw [List.map_cons, List.flatMap_cons, ih]; rfl
  exact ⟨xs, by rw [e]; exact h2.map, by simpa using h3, hx⟩
end Go.Proofs.YtnngklclehffhaaGreatDoor
