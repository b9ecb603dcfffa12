/- Copies of string slices and a string taken out of one. -/
import Derived.Test.YthnfdgbmmiddlaaDoorWRec0
import Derived.Test.YthnfdgbmmiddlaaDoorWSl
import Derived.Shelf.Slices.Clone
import Derived.Shelf.Slices.Cells
namespace Go.Proofs.YthnfdgbmmiddlaaDoor
open Go.RowKit
set_option maxHeartbeats 400000
set_option maxRecDepth 100000
theorem strs_cells {xs : List ByteArray} {w : World} {b off : Nat} (h : ∀ j (h : j < (vStrs xs).length), w.cell? ⟨b, off + j, none⟩ = some (vStrs xs)[j]) (j : Nat) (hj : j < xs.length) :
    w.cell? ⟨b, off + j, none⟩ = some (.string (xs.getD j ByteArray.empty)) := elem1 Value.string ByteArray.empty xs h j hj
def ren16 : Go.Shelf.Ren := ⟨fun x => if x = 16 then 61 else x, fun x => if x = 4 then 4 else if x = 9 then 9 else if x = 24 then 35 else x, fun x => x⟩
theorem lays16 : Go.Proofs.Lays2.n16 Tryd.prog ren16 := by constructor <;> first | kernel_rfl | (intro w; kernel_rfl)
theorem slices_CloneS (L : List ByteArray) (v : Value) (w : World) (h : Rd w 1 v L.length (vStrs L)) (h2 : L.length ≤ 1048576) :
    Calls Tryd.prog 61 #[v] w fun e w' => ∃ r, e = .returned r ∧ w'.ownsRow w.heap.size 9 1 r L.length (vStrs L) ∧ Ext w w' := by
  obtain ⟨h1, p, cap, rfl, h4⟩ := h
  rcases h4 with h0 | ⟨b, off, rfl, h6⟩
  · have e : L = [] := List.eq_nil_of_length_eq_zero h0
    subst e
    cases p with
    | none => exact (Any.slices_Clone_string_nil lays16 0 cap w).mono fun _ _ ⟨a, b⟩ => ⟨_, a, World.ownsRow_nil _ _ _ _, b ▸ Ext.refl _⟩
    | some a => exact (Any.slices_Clone_string_zero lays16 a cap w).mono fun _ _ ⟨v', a, ho, _, hb⟩ => ⟨v', a, ho, hb.ext⟩
  · have := Any.slices_Clone_string lays16 b off L.length cap L w (Nat.le_refl _) (by omega) (fun j hj => strs_cells h6 j hj)
    rw [List.take_length] at this
    exact this.mono fun _ _ ⟨v', a, ho, _, hb⟩ => ⟨v', a, ho, hb.ext⟩
def ren24 : Go.Shelf.Ren := ⟨fun x => if x = 24 then 60 else x, fun x => if x = 0 then 0 else if x = 3 then 3 else if x = 4 then 4 else if x = 9 then 9 else if x = 24 then 35 else x, fun x => x⟩
theorem lays24 : Go.Proofs.Lays2.n24 Tryd.prog ren24 := by constructor <;> first | kernel_rfl | (intro w; kernel_rfl)
theorem del_strs (L : List ByteArray) (m : Nat) (h : m < L.length) :
    ((Lib.strsOf (fun i => L.getD i ByteArray.empty) L.length).take m ++ (Lib.strsOf (fun i => L.getD i ByteArray.empty) L.length).drop (m + 1) ++ List.replicate (m + 1 - m) []).map encStr = vStrs (oth L m) ++ [.string ⟨#[]⟩] := by
  have e : (Lib.strsOf (fun i => L.getD i ByteArray.empty) L.length) = L.map (fun s => s.data.toList) := by
    apply List.ext_getElem (by simp [Lib.strsOf])
    intro i h1 h2
    simp only [Lib.strsOf, List.getElem_map, List.getElem_range]
    rw [List.getD_eq_getElem?_getD, List.getElem?_eq_getElem (by simpa using h2)]
    rfl
  have e2 : ∀ l : List ByteArray, (l.map (fun s => s.data.toList)).map encStr = vStrs l := by
    intro l
    rw [List.map_map]
    rfl
  rw [e, ← List.map_take, ← List.map_drop, List.map_append, List.map_append, e2, e2, show m + 1 - m = 1 by omega, oth_eq L m h]
  simp [vStrs]
theorem slices_DeleteS (L : List ByteArray) (v : Value) (m B : Nat) (w : World) (ho : w.ownsRow B 9 1 v L.length (vStrs L)) (hm : m < L.length) (h2 : L.length ≤ 1048576) :
    Calls Tryd.prog 60 #[v, .int .i64 m, .int .i64 ((m : Int) + 1)] w fun e w' => ∃ r, e = .returned r ∧ Rd w' 1 r (oth L m).length (vStrs (oth L m)) ∧ w.grownBy w' v.ownBlock := by
  have ho' := ho
  obtain ⟨h1, ⟨rfl, h0⟩ | ⟨g, cap, cur, rfl, hB, hh, hn, hc, _⟩⟩ := ho'
  · omega
  · have := Any.slices_Delete_string_cells lays24 g 0 L.length cap m (m + 1) (fun i => L.getD i ByteArray.empty) w hn (by have : maxLen = 9223372036854775807 := rfl; omega) (by omega) (by omega)
      (fun i hi => by rw [Nat.zero_add, ho.cellAt i (by omega), vStrs_get L i hi]) (fun i _ => by rw [Nat.zero_add]; exact ho.frozenAt i)
    rw [del_strs L m hm] at this
    refine this.mono fun _ _ ⟨a, q, b⟩ => ?_
    subst b
    have hd := own_ext ho (show Ext w (w.drewN q) from (Ext.refl w).drewN q)
    have hl : (oth L m).length + 1 = L.length := by rw [oth_eq L m hm]; simp; omega
    have hs := own_setCells (vStrs (oth L m) ++ [.string ⟨#[]⟩]) (w.drewN q) (vStrs L) 0 hd (by simp [vStrs_len]; omega)
    refine ⟨_, a, ?_, grownBy_trans (Ext.grownBy ((Ext.refl w).drewN q) _) hs.2⟩
    refine ⟨by rw [vStrs_len, Nat.mul_one], some ⟨g, 0, none⟩, cap, by rw [show L.length - (m + 1 - m) = (oth L m).length by omega], .inr ⟨g, 0, rfl, fun j hj => ?_⟩⟩
    have hj' : j < (oth L m).length := by rw [vStrs_len] at hj; exact hj
    rw [Nat.zero_add, hs.1.cellAt j (by omega), List.take_zero, List.nil_append, List.append_assoc, List.getElem?_append_left hj, List.getElem?_eq_getElem hj]
end Go.Proofs.YthnfdgbmmiddlaaDoor
