/- strings.Join, by the shelf's contract. A fragment taken: the plain law. -/
import Derived.Test.YtnngklclehffhaaGreatDoorJ5
import Derived.Shelf.Strings.OnBuilder
import Derived.Test.YtnngklclehffhaaGreatDoorKWPnL
namespace Go.Proofs.YtnngklclehffhaaGreatDoor
open Go.RowKit
set_option maxHeartbeats 400000
set_option maxRecDepth 100000
def joinS (xs : List ByteArray) (sep : ByteArray) : ByteArray := ⟨(Lib.join (xs.map (·.data.toList)) sep.data.toList).toArray⟩
def ren156 : Go.Shelf.Ren := ⟨fun x => if x = 156 then 30 else if x = 165 then 56 else if x = 166 then 57 else if x = 169 then 58 else if x = 240 then 70 else if x = 241 then 71 else if x = 276 then 79 else if x = 277 then 80 else x, fun x => if x = 0 then 0 else if x = 3 then 3 else if x = 4 then 4 else if x = 5 then 5 else if x = 9 then 9 else if x = 20 then 20 else if x = 31 then 59 else if x = 37 then 22 else if x = 70 then 86 else if x = 72 then 88 else if x = 75 then 91 else if x = 76 then 92 else if x = 80 then 94 else if x = 127 then 103 else if x = 164 then 108 else x, fun x => x⟩
theorem lays156 : Go.Proofs.Lays.n156 Tryz.prog ren156 := by constructor <;> first | kernel_rfl | (intro w; kernel_rfl)
theorem xlays156_0 : Go.Proofs.Builder.X72 Tryz.prog ren156 := by constructor <;> first | kernel_rfl | (intro w; kernel_rfl) | decide
theorem xlays156 : Go.Proofs.Builder.Extra Tryz.prog ren156 := by constructor <;> first | exact xlays156_0 | kernel_rfl | (intro w; kernel_rfl) | decide
theorem strings_Join (L : List ByteArray) (sep : ByteArray) (v : Value) (B : Nat) (w : World) (ho : w.ownsRow B 9 1 v L.length (vStrs L)) (h2 : L.length ≤ 1048576) (hl : (joinS L sep).size ≤ 140737488355328) :
    Calls Tryz.prog 30 #[v, .string sep] w fun e w' => e = .returned (.string (joinS L sep)) ∧ Ext w w' := by
  have ho' := ho
  obtain ⟨h1, ⟨rfl, h0⟩ | ⟨g, cap, cur, rfl, hB, hh, hn, hc, _⟩⟩ := ho'
  · have e : L = [] := List.eq_nil_of_length_eq_zero h0
    subst e
    exact (Any.strings_Join_none lays156 xlays156 none 0 sep w).mono fun _ _ ⟨a, b⟩ => ⟨a, b ▸ Ext.refl _⟩
  · have hc : ∀ (j : Nat) x, L[j]? = some x → w.cell? ⟨g, 0 + j, none⟩ = some (.string x) := fun j x hj => by
      obtain ⟨hlt, rfl⟩ := List.getElem?_eq_some_iff.1 hj
      rw [Nat.zero_add, ho.cellAt j (by omega)]
      simp [vStrs, hlt]
    exact (Any.strings_Join lays156 xlays156 g 0 cap L sep w hc (own_size ho).2 (by omega) hn (by simpa [joinS, ByteArray.size] using hl)).mono fun _ _ ⟨a, b⟩ => ⟨a, b.ext⟩
end Go.Proofs.YtnngklclehffhaaGreatDoor
namespace Go.Proofs.YtnngklclehffhaaGreatDoor
open Go.RowKit
set_option maxHeartbeats 400000
def frP (n : Int) (q : Nat) : Pnd := ⟨n, List.replicate q ByteArray.empty, List.replicate q false⟩
def plI (ps : List Pnd) (n : Int) (q : Nat) : Nat := if fndP ps n < 0 then (if ps.length = 4 ∧ 1 < q then ps.length - 1 else ps.length) else (fndP ps n).toNat
def plL (ps : List Pnd) (n : Int) (q : Nat) : List Pnd :=
  if fndP ps n < 0 then (if ps.length = 4 ∧ 1 < q then ers ps 0 else ps) ++ [frP n q]
  else if (ps.getD (fndP ps n).toNat .z).d.length = q then ps else ps.set (fndP ps n).toNat (frP n q)
/-- The fragment laid into a pending. -/
def stF (p : Pnd) (i : Nat) (d : ByteArray) : Pnd := if p.h.getD i false then p else ⟨p.n, p.d.set i d, p.h.set i true⟩
/-- As the reference lays it. -/
def wF (p : Pnd) (n : Int) (i q : Nat) (d : ByteArray) : Pnd := stF (if p.h.length = q then ⟨n, p.d, p.h⟩ else frP n q) i d
def bsP (ps : List Pnd) (n : Int) : Pnd := if 0 ≤ fndP ps n then ps.getD (fndP ps n).toNat .z else .z
def nxP (ps : List Pnd) (n : Int) (i q : Nat) (d : ByteArray) : Pnd := wF (bsP ps n) n i q d
def whP (p : Pnd) : Bool := !p.h.contains false
def tkB (ps : List Pnd) (n p q : Int) (d : ByteArray) : Bool := okL ps && okF ⟨n, p, q, d⟩
/-- What is left of the list. -/
def tkR (ps : List Pnd) (n : Int) (i q : Nat) (d : ByteArray) : List Pnd :=
  if 0 ≤ fndP ps n then (if whP (nxP ps n i q d) then ers ps (fndP ps n).toNat else ps.set (fndP ps n).toNat (nxP ps n i q d))
  else if whP (nxP ps n i q d) then ps else (if ps.length = 4 then ps.drop 1 else ps) ++ [nxP ps n i q d]
def tkO (ps : List Pnd) (n p q : Int) (d : ByteArray) : List Pnd := if tkB ps n p q d then tkR ps n p.toNat q.toNat d else []
def tkW (ps : List Pnd) (n p q : Int) (d : ByteArray) : Bool := tkB ps n p q d && whP (nxP ps n p.toNat q.toNat d)
def tkS (ps : List Pnd) (n p q : Int) (d : ByteArray) : ByteArray := if tkW ps n p q d then joinS (nxP ps n p.toNat q.toNat d).d ⟨#[]⟩ else ⟨#[]⟩
/-- As the program lays it. -/
def tfN (ps : List Pnd) (n : Int) (i q : Nat) (d : ByteArray) : Pnd := stF ((plL ps n q).getD (plI ps n q) .z) i d
def tfL (ps : List Pnd) (n : Int) (i q : Nat) (d : ByteArray) : List Pnd := (plL ps n q).set (plI ps n q) (tfN ps n i q d)
theorem getD_app {α : Type} (l : List α) (x z : α) : (l ++ [x]).getD l.length z = x := by
  rw [List.getD_eq_getElem?_getD, List.getElem?_append_right (Nat.le_refl _), Nat.sub_self]; rfl
theorem set_app {α : Type} (l : List α) (x y : α) : (l ++ [x]).set l.length y = l ++ [y] := by
  rw [List.set_append_right _ _ (Nat.le_refl _), Nat.sub_self]; rfl
theorem ers_app {α : Type} (l : List α) (x : α) : ers (l ++ [x]) l.length = l := by
  rw [ers, List.take_left, List.drop_eq_nil_of_le (by simp), List.append_nil]
theorem ers_zero {α : Type} (l : List α) : ers l 0 = l.drop 1 := rfl
theorem ers_set {α : Type} (l : List α) (k : Nat) (x : α) : ers (l.set k x) k = ers l k := by
  rw [ers, ers, List.take_set_of_le (Nat.le_refl _), List.drop_set_of_lt (Nat.lt_succ_self _)]
theorem getD_set_self {α : Type} (l : List α) (k : Nat) (x z : α) (h : k < l.length) : (l.set k x).getD k z = x := by
  rw [getD_set' _ _ _ _ _ h, if_pos rfl]
def plF (ps : List Pnd) (q : Nat) : List Pnd := if ps.length = 4 ∧ 1 < q then ers ps 0 else ps
theorem plF_len (ps : List Pnd) (q : Nat) : (plF ps q).length = if ps.length = 4 ∧ 1 < q then ps.length - 1 else ps.length := by
  rw [plF]
  split
  · rename_i h
    rw [ers_len _ _ (by omega)]
  · rfl
theorem pl_no {ps : List Pnd} {n : Int} {q : Nat} (h : fndP ps n < 0) : plL ps n q = plF ps q ++ [frP n q] ∧ plI ps n q = (plF ps q).length := by
  rw [plL, plI, if_pos h, if_pos h, plF_len]
  exact ⟨rfl, rfl⟩
theorem pl_yes {ps : List Pnd} {n : Int} {q k : Nat} (h : fndP ps n = (k : Int)) : plL ps n q = (if (ps.getD k .z).d.length = q then ps else ps.set k (frP n q)) ∧ plI ps n q = k := by
  have hneg : ¬ fndP ps n < 0 := by omega
  rw [plL, plI, if_neg hneg, if_neg hneg, h, Int.toNat_natCast]
  exact ⟨rfl, rfl⟩
theorem plI_lt {ps : List Pnd} {n : Int} {q : Nat} : plI ps n q < (plL ps n q).length := by
  rcases hitG_cases (fun p : Pnd => p.n == n) ps .z with ⟨h1, -⟩ | ⟨k, h0, h1, -⟩
  · obtain ⟨a, b⟩ := pl_no (ps := ps) (n := n) (q := q) (by rw [fndP, h1]; decide)
    rw [a, b, List.length_append]
    exact Nat.lt_succ_self _
  · obtain ⟨a, b⟩ := pl_yes (q := q) (show fndP ps n = k from h1)
    rw [a, b]
    split
    · exact h0
    · rw [List.length_set]; exact h0
theorem repP_get {α : Type} (n i : Nat) (z : α) : (List.replicate n z).getD i z = z := by
  rw [List.getD_eq_getElem?_getD, List.getElem?_replicate]
  split <;> rfl
theorem fr_whole {n : Int} {i q : Nat} {d : ByteArray} (hi : i < q) : whP (stF (frP n q) i d) = decide (q = 1) := by
  have e : (frP n q).h.getD i false = false := repP_get q i false
  have hs : stF (frP n q) i d = ⟨n, (List.replicate q ByteArray.empty).set i d, (List.replicate q false).set i true⟩ := by rw [stF, e]; rfl
  rw [hs, whP]
  by_cases h1 : q = 1
  · subst h1
    have : i = 0 := by omega
    subst this
    rfl
  · rw [decide_eq_false h1]
    have hm : false ∈ (List.replicate q false).set i true := by
      obtain ⟨j, hj, hji⟩ : ∃ j, j < q ∧ j ≠ i := by
        by_cases h0 : i = 0
        · exact ⟨1, by omega, by omega⟩
        · exact ⟨0, by omega, by omega⟩
      refine List.mem_iff_getElem.2 ⟨j, by simpa using hj, ?_⟩
      rw [List.getElem_set_ne (by omega)]
      simp
    rw [show ((List.replicate q false).set i true).contains false = true from List.contains_iff_mem.2 hm]
    rfl
theorem tf_next {ps : List Pnd} {n : Int} {i q : Nat} {d : ByteArray} (hok : okL ps = true) (hq : 1 ≤ q) : tfN ps n i q d = nxP ps n i q d := by
  rcases hitG_cases (fun p : Pnd => p.n == n) ps .z with ⟨h1, -⟩ | ⟨k, h0, h1, h2, -⟩
  · have hF : fndP ps n = -1 := h1
    obtain ⟨a, b⟩ := pl_no (ps := ps) (n := n) (q := q) (by rw [hF]; decide)
    rw [tfN, a, b, getD_app, nxP, bsP, hF, if_neg (by decide), wF, if_neg (by show ¬ (0 = q); omega)]
  · have hF : fndP ps n = (k : Int) := h1
    obtain ⟨a, b⟩ := pl_yes (q := q) hF
    have hs := okS_len (okL_at hok k h0).1
    have hn : (ps.getD k .z).n = n := by simpa using h2
    rw [tfN, a, b, nxP, bsP, hF, if_pos (show (0 : Int) ≤ (k : Int) by omega), Int.toNat_natCast, wF]
    by_cases hl : (ps.getD k .z).d.length = q
    · rw [if_pos hl, if_pos (show (ps.getD k .z).h.length = q by omega)]
      congr 1
      rw [← hn]
    · rw [if_neg hl, if_neg (show ¬ (ps.getD k .z).h.length = q by omega), getD_set_self _ _ _ _ h0]
theorem tf_list {ps : List Pnd} {n : Int} {i q : Nat} {d : ByteArray} (hok : okL ps = true) (hq : 1 ≤ q) (hi : i < q) :
    (if whP (nxP ps n i q d) then ers (tfL ps n i q d) (plI ps n q) else tfL ps n i q d) = tkR ps n i q d := by
  have hN := tf_next (n := n) (i := i) (d := d) hok hq
  rw [tfL, hN, tkR]
  rcases hitG_cases (fun p : Pnd => p.n == n) ps .z with ⟨h1, -⟩ | ⟨k, h0, h1, h2, -⟩
  · have hF : fndP ps n = -1 := h1
    obtain ⟨a, b⟩ := pl_no (ps := ps) (n := n) (q := q) (by rw [hF]; decide)
    have hx : nxP ps n i q d = stF (frP n q) i d := by rw [nxP, bsP, hF, if_neg (by decide), wF, if_neg (by show ¬ (0 = q); omega)]
    have hw : whP (nxP ps n i q d) = decide (q = 1) := by rw [hx, fr_whole hi]
    rw [a, b, set_app, ers_app, hF, if_neg (show ¬ (0 : Int) ≤ -1 by decide), hw]
    by_cases h1' : q = 1
    · rw [decide_eq_true h1']
      show plF ps q = ps
      rw [plF, if_neg (show ¬ (ps.length = 4 ∧ 1 < q) by omega)]
    · rw [decide_eq_false h1']
      show plF ps q ++ [_] = (if ps.length = 4 then ps.drop 1 else ps) ++ [_]
      rw [plF]
      congr 1
      by_cases h4 : ps.length = 4
      · rw [if_pos ⟨h4, by omega⟩, if_pos h4, ers_zero]
      · rw [if_neg (fun e => h4 e.1), if_neg h4]
  · have hF : fndP ps n = (k : Int) := h1
    obtain ⟨a, b⟩ := pl_yes (q := q) hF
    rw [a, b, hF, if_pos (show (0 : Int) ≤ (k : Int) by omega), Int.toNat_natCast]
    have e : ∀ x, (if (ps.getD k .z).d.length = q then ps else ps.set k (frP n q)).set k x = ps.set k x := fun x => by
      split
      · rfl
      · rw [List.set_set]
    rw [e, ers_set]
end Go.Proofs.YtnngklclehffhaaGreatDoor
