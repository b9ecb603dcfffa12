/- Lists of pendings in the laws' own words: copies. Lists of pendings in the laws' own words: whole lists copied, compared, measured. Trees: what one call of each function gives. Trees and costs in the laws' own words: copies, comparisons, marks, sizes. Trees and costs that came in. Lists of pendings in the laws' own words: comparisons, sizes. -/
import Derived.Test.YtnngklclehffhaaGreatDoorKWPn1
import Derived.Test.YtnngklclehffhaaGreatDoorJ2
namespace Go.RowKit
/-- A variable of three cells. -/
theorem box3 {w : World} {B t : Nat} {a b c : Value} (h : w.heap[B]? = some (.cells #[a, b, c] t (0, 0))) :
    (w.cell? ⟨B, 0, none⟩ = some a ∧ w.cell? ⟨B, 1, none⟩ = some b ∧ w.cell? ⟨B, 2, none⟩ = some c) ∧
    (w.frozen? ⟨B, 0, none⟩ = false ∧ w.frozen? ⟨B, 1, none⟩ = false ∧ w.frozen? ⟨B, 2, none⟩ = false) ∧ B < w.heap.size := by
  refine ⟨⟨?_, ?_, ?_⟩, ⟨?_, ?_, ?_⟩, (Array.getElem?_eq_some_iff.1 h).1⟩
  · rw [cell_of_row w B 0 _ t _ h]; rfl
  · rw [cell_of_row w B 1 _ t _ h]; rfl
  · rw [cell_of_row w B 2 _ t _ h]; rfl
  · exact frozen_of_row w B 0 _ t h
  · exact frozen_of_row w B 1 _ t h
  · exact frozen_of_row w B 2 _ t h
theorem box3_set {w : World} {B t : Nat} {a b c : Value} (h : w.heap[B]? = some (.cells #[a, b, c] t (0, 0))) (a' b' c' : Value) :
    (((w.setCell ⟨B, 0, none⟩ a').setCell ⟨B, 1, none⟩ b').setCell ⟨B, 2, none⟩ c').heap[B]? = some (.cells #[a', b', c'] t (0, 0)) := by
  have h1 := heap_setCell_same _ B 0 _ t a' h
  have h2 := heap_setCell_same _ B 1 _ t b' h1
  have h3 := heap_setCell_same _ B 2 _ t c' h2
  simpa using h3
theorem box3_set1 {w : World} {B t : Nat} {a b c : Value} (h : w.heap[B]? = some (.cells #[a, b, c] t (0, 0))) (b' : Value) : (w.setCell ⟨B, 1, none⟩ b').heap[B]? = some (.cells #[a, b', c] t (0, 0)) := by
  have h2 := heap_setCell_same _ B 1 _ t b' h
  simpa using h2
theorem box3_set2 {w : World} {B t : Nat} {a b c : Value} (h : w.heap[B]? = some (.cells #[a, b, c] t (0, 0))) (c' : Value) : (w.setCell ⟨B, 2, none⟩ c').heap[B]? = some (.cells #[a, b, c'] t (0, 0)) := by
  have h2 := heap_setCell_same _ B 2 _ t c' h
  simpa using h2
theorem blk3 {W W' : World} {T : Nat} {o : Obj} (ho : W.heap[T]? = some o) (hx : Ext W W') : W'.heap[T]? = some o := (hx.heap (Array.getElem?_eq_some_iff.1 ho).1).trans ho
theorem Ext.set3 {w0 w : World} {B : Nat} (h : Ext w0 w) (hB : w0.heap.size ≤ B) (a' b' c' : Value) :
    Ext w0 (((w.setCell ⟨B, 0, none⟩ a').setCell ⟨B, 1, none⟩ b').setCell ⟨B, 2, none⟩ c') :=
  (((h.setCell hB _).setCell hB _).setCell hB _)
end Go.RowKit
namespace Go.Proofs.YtnngklclehffhaaGreatDoor
open Go.RowKit
set_option maxHeartbeats 400000
set_option maxRecDepth 100000
theorem infoPnd : (Tryz.prog.info? 62).map (fun i => (i.zero, i.size, i.bytes)) = some (some (.agg #[.int .i64 0, .slice none 0 0, .slice none 0 0]), 3, 56) := by kernel_rfl
end Go.Proofs.YtnngklclehffhaaGreatDoor
namespace Go.Proofs.YtnngklclehffhaaGreatDoor
open Go.RowKit
set_option maxHeartbeats 400000
set_option maxRecDepth 100000
theorem fam_nils {w : World} {lo hi : Nat} : ∀ {rs : List Row}, (∀ r ∈ rs, r.own w lo ∧ r.v.ownBlock = none) → Fam w lo hi rs
  | [], _ => Fam.nil _ _ _
  | r :: rs, h => by
    have h1 := h r (by simp)
    refine fam_cons.2 ⟨⟨h1.1, fun j e => ?_⟩, fam_nils (fun q hq => h q (by simp [hq])), fun y _ j _ e => ?_⟩
    · rw [h1.2] at e; cases e
    · rw [h1.2] at e; cases e
def padP (ps : List Pnd) (k : Nat) : List Pnd := ps.take k ++ List.replicate (ps.length - k) Pnd.z
theorem padP_len (ps : List Pnd) (k : Nat) (h : k ≤ ps.length) : (padP ps k).length = ps.length := by
  simp [padP]; omega
theorem padP_zero (ps : List Pnd) : padP ps 0 = List.replicate ps.length Pnd.z := by simp [padP]
theorem padP_all (ps : List Pnd) : padP ps ps.length = ps := by simp [padP]
theorem padP_set (ps : List Pnd) (k : Nat) (h : k < ps.length) : (padP ps k).set k (ps.getD k .z) = padP ps (k + 1) := by
  unfold padP
  rw [List.set_append_right _ _ (by rw [List.length_take]; omega), List.length_take, Nat.min_eq_left (by omega), Nat.sub_self, take_snoc ps .z k h]
  obtain ⟨m, hm⟩ : ∃ m, ps.length - k = m + 1 := ⟨ps.length - k - 1, by omega⟩
  rw [hm, show ps.length - (k + 1) = m by omega, List.replicate_succ, List.set_cons_zero, List.append_assoc]
  rfl
theorem repP_getD {α : Type} (n i : Nat) (z : α) : (List.replicate n z).getD i z = z := by
  rw [List.getD_eq_getElem?_getD, List.getElem?_replicate]
  split <;> rfl
theorem blankP_cells : ∀ n : Nat, (List.replicate n Pe.z).flatMap Pe.cs = (madeCells #[.int .i64 0, .slice none 0 0, .slice none 0 0] (n * 3)).toList := by
  intro n
  apply List.ext_getElem?
  intro j
  by_cases hj : j < n * 3
  · have hr : (List.replicate n Pe.z).length = n := by simp
    have hc := pes_get (List.replicate n Pe.z) (j / 3) (by rw [hr]; omega)
    rw [repP_getD] at hc
    have h2 : j % 3 = 0 ∨ j % 3 = 1 ∨ j % 3 = 2 := by omega
    rcases h2 with h2 | h2 | h2
    · have : j = j / 3 * 3 := by omega
      rw [this, hc.1, ← this]
      simp [madeCells, hj, h2, Pe.z]
    · have : j = j / 3 * 3 + 1 := by omega
      rw [this, hc.2.1, ← this]
      simp [madeCells, hj, h2, Pe.z]
    · have : j = j / 3 * 3 + 2 := by omega
      rw [this, hc.2.2, ← this]
      simp [madeCells, hj, h2, Pe.z]
  · rw [List.getElem?_eq_none (by rw [pes_len]; simp; omega), List.getElem?_eq_none (by simp [madeCells]; omega)]
/-- A row of blanks. -/
theorem POw.blank {w : World} {lo g n cap : Nat} (h : w.ownsRow lo 62 3 (.slice (some ⟨g, 0, none⟩) n cap) n ((List.replicate n Pe.z).flatMap Pe.cs)) : POw w lo w.heap.size (.slice (some ⟨g, 0, none⟩) n cap) (List.replicate n .z) (List.replicate n .z) := by
  have hnil : ∀ r ∈ (List.replicate n Pe.z).flatMap Pe.rows, r.own w lo ∧ r.v.ownBlock = none := by
    intro r hr
    obtain ⟨e, he, hr2⟩ := List.mem_flatMap.1 hr
    obtain rfl := (List.mem_replicate.1 he).2
    simp only [Pe.rows, List.mem_cons, List.not_mem_nil, or_false] at hr2
    rcases hr2 with rfl | rfl
    · exact ⟨World.ownsRow_nil _ _ _ _, rfl⟩
    · exact ⟨World.ownsRow_nil _ _ _ _, rfl⟩
  refine ⟨by rw [List.map_replicate]; rfl, fam_cons.2 ⟨⟨?_, fun j e => (own_row h j e).2⟩, fam_nils hnil, fun y hy j e => ?_⟩⟩
  · show w.ownsRow lo 62 3 _ (List.replicate n Pe.z).length _
    rw [List.length_replicate]
    exact h
  · rw [(hnil y hy).2] at e; cases e
end Go.Proofs.YtnngklclehffhaaGreatDoor
namespace Go.Proofs.YtnngklclehffhaaGreatDoor
open Go.RowKit
set_option maxHeartbeats 400000
def nodeOk (ps : List Int) (i : Nat) : Bool := if i = 0 then ps.getD 0 0 == -1 else inB (ps.getD i 0) 0 ((i : Int) - 1)
def parentsOk (ps : List Int) : Bool := (List.range ps.length).all (nodeOk ps)
def goodT (ps : List Int) : Bool := parentsOk ps && inB ps.length 2 8
theorem goodT_len {ps : List Int} (h : goodT ps = true) : 2 ≤ ps.length ∧ ps.length ≤ 8 := by
  rw [goodT, Bool.and_eq_true, inB_iff] at h
  omega
theorem goodT_node {ps : List Int} (h : goodT ps = true) (i : Nat) (hi : i < ps.length) : nodeOk ps i = true := by
  rw [goodT, Bool.and_eq_true] at h
  exact (List.all_eq_true.1 h.1) i (List.mem_range.2 hi)
theorem goodT_root {ps : List Int} (h : goodT ps = true) : ps.getD 0 0 = -1 := by
  have := goodT_node h 0 (by have := goodT_len h; omega)
  simpa [nodeOk] using this
theorem goodT_get {ps : List Int} (h : goodT ps = true) (i : Nat) (hi : i < ps.length) (h0 : 0 < i) : 0 ≤ ps.getD i 0 ∧ ps.getD i 0 < i := by
  have := goodT_node h i hi
  rw [nodeOk, if_neg (by omega), inB_iff] at this
  omega
end Go.Proofs.YtnngklclehffhaaGreatDoor
namespace Go.Proofs.YtnngklclehffhaaGreatDoor
open Go.RowKit
set_option maxHeartbeats 400000
end Go.Proofs.YtnngklclehffhaaGreatDoor
namespace Go.Proofs.YtnngklclehffhaaGreatDoor
open Go.RowKit
set_option maxRecDepth 100000
theorem ints_flat (xs : List Int) : vInts xs = xs.flatMap (fun x => [Value.int .i64 x]) := by
  unfold vInts
  induction xs with
  | nil => rfl
  | cons x xs ih => rw [List.map_cons, List.flatMap_cons, ih]; rfl
theorem ints_of_trod {H : Type} {enc : TypeId × Value → H} {W : World} {v : Value} {fuel : Nat} {x : DataW H × List MemPlace}
    (h : DataW.trod enc Tryz.prog W 0 (fun _ => true) true fuel 35 [v] = some x) : ∃ xs : List Int, Rd W 1 v xs.length (vInts xs) ∧ xs.length ≤ maxLen := by
  obtain ⟨css, h1, h2, h3⟩ := rd_of_trod (d := 3) Tryz.underlying35 (ks := [.i .i64]) (by kernel_rfl) (by kernel_rfl) (by decide) h
  obtain ⟨xs, rfl, -⟩ := exists_map (f := fun x => [Value.int .i64 x]) (ok := fun _ => True) (l := css) (fun cs hcs => by
    obtain ⟨a, rfl, ⟨a, rfl, -⟩⟩ := (h1 cs hcs).one
    exact ⟨a, rfl, trivial⟩)
  exact ⟨xs, by rw [ints_flat]; exact h2.map, by simpa using h3⟩
theorem opened_int {W : World} {v : Value} {r : Reach} {b : Nat} (hval : Value.okWide Tryz.prog W r b 3 v) : ∃ n : Int, v = .int .i64 n := by
  obtain ⟨n, rfl, -⟩ := Go.WideShapes.okWide_int Tryz.underlying3 hval
  exact ⟨n, rfl⟩
end Go.Proofs.YtnngklclehffhaaGreatDoor
namespace Go.Proofs.YtnngklclehffhaaGreatDoor
open Go.RowKit
set_option maxHeartbeats 400000
set_option maxRecDepth 100000
/-- Bytes and parts of all pendings. -/
def Pnd.sz (p : Pnd) : Nat := p.d.length + chars p.d + p.h.length
def Pnd.sum (ps : List Pnd) : Nat := (ps.map Pnd.sz).sum
theorem Pnd.sum_take (ps : List Pnd) (k : Nat) (h : k < ps.length) : Pnd.sum (ps.take (k + 1)) = Pnd.sum (ps.take k) + (ps.getD k .z).sz := by
  rw [take_snoc ps .z k h]
  simp [Pnd.sum]
theorem Pnd.sum_le (ps : List Pnd) (k : Nat) : Pnd.sum (ps.take k) ≤ Pnd.sum ps := by
  have : Pnd.sum ps = Pnd.sum (ps.take k) + Pnd.sum (ps.drop k) := by
    unfold Pnd.sum
    rw [← List.sum_append, ← List.map_append, List.take_append_drop]
  omega
theorem Pnd.sum_at {ps : List Pnd} {n : Nat} (h2 : Pnd.sum ps ≤ n) {k : Nat} (hk : k < ps.length) : (ps.getD k .z).d.length ≤ n ∧ (ps.getD k .z).h.length ≤ n ∧ chars (ps.getD k .z).d ≤ n := by
  have h1 := Pnd.sum_take ps k hk
  have h3 := Pnd.sum_le ps (k + 1)
  unfold Pnd.sz at h1
  omega
end Go.Proofs.YtnngklclehffhaaGreatDoor
