/- Lists of pendings, in plain words. -/
import Derived.Test.YtnngklclehffhaaGreatDoorKWPn1
import Derived.Test.YtnngklclehffhaaGreatDoorKWFra
namespace Go.Proofs.YtnngklclehffhaaGreatDoor
open Go.RowKit
set_option maxHeartbeats 400000
/-! ### Where the first element is -/
def hitG {α : Type} (p : α → Bool) (l : List α) : Int := if l.any p then (l.findIdx p : Int) else -1
theorem hitG_at {α : Type} {p : α → Bool} {l : List α} {z : α} {k : Nat} (hk : k < l.length) (hn : ∀ i, i < k → p (l.getD i z) = false) (h : p (l.getD k z) = true) : hitG p l = k := by
  have ha : l.any p = true := by
    rw [List.any_eq_true]
    exact ⟨_, getD_mem' hk, h⟩
  have hf : l.findIdx p = k := by
    rw [List.findIdx_eq hk]
    constructor
    · rw [List.getD_eq_getElem?_getD, List.getElem?_eq_getElem hk] at h
      exact h
    · intro j hj
      have := hn j hj
      rw [List.getD_eq_getElem?_getD, List.getElem?_eq_getElem (by omega)] at this
      simpa using this
  rw [hitG, ha, hf]; rfl
theorem hitG_no {α : Type} {p : α → Bool} {l : List α} {z : α} (hn : ∀ i, i < l.length → p (l.getD i z) = false) : hitG p l = -1 := by
  have ha : l.any p = false := by
    rw [List.any_eq_false]
    intro x hx
    obtain ⟨i, hi, rfl⟩ := List.mem_iff_getElem.1 hx
    have := hn i hi
    rw [List.getD_eq_getElem?_getD, List.getElem?_eq_getElem hi] at this
    simpa using this
  rw [hitG, ha]; rfl
theorem hitG_cases {α : Type} (p : α → Bool) (l : List α) (z : α) : (hitG p l = -1 ∧ ∀ i, i < l.length → p (l.getD i z) = false) ∨ ∃ k, k < l.length ∧ hitG p l = (k : Int) ∧ p (l.getD k z) = true ∧ ∀ i, i < k → p (l.getD i z) = false := by
  cases ha : l.any p
  · left
    have h : ∀ i, i < l.length → p (l.getD i z) = false := fun i hi => by
      have := (List.any_eq_false.1 ha) _ (getD_mem' (z := z) hi)
      simpa using this
    exact ⟨hitG_no h, h⟩
  · right
    have hl : l.findIdx p < l.length := List.findIdx_lt_length_of_exists (List.any_eq_true.1 ha)
    refine ⟨l.findIdx p, hl, by rw [hitG, ha]; rfl, ?_, fun j hj => ?_⟩
    · rw [List.getD_eq_getElem?_getD, List.getElem?_eq_getElem hl]
      exact List.findIdx_getElem
    · have := List.not_of_lt_findIdx hj
      rw [List.getD_eq_getElem?_getD, List.getElem?_eq_getElem (by omega)]
      simpa using this
/-! ### Valid pendings -/
def pok (p : Pnd) (i : Nat) : Bool := itm 8 (p.d.getD i ByteArray.empty) && (p.h.getD i false || (p.d.getD i ByteArray.empty).data.toList.isEmpty)
def okS (p : Pnd) : Bool := inB p.n 0 99 && (decide (p.d.length = p.h.length) && (decide (p.d.length ≤ 9) && ((List.range p.d.length).all (pok p) && (p.h.contains true && p.h.contains false))))
theorem okS_iff {p : Pnd} : okS p = true ↔ (0 ≤ p.n ∧ p.n ≤ 99) ∧ p.d.length = p.h.length ∧ p.d.length ≤ 9 ∧ (∀ i, i < p.d.length → pok p i = true) ∧ true ∈ p.h ∧ false ∈ p.h := by
  simp only [okS, Bool.and_eq_true, decide_eq_true_eq, inB_iff, List.all_eq_true, List.mem_range, List.contains_iff_mem]
/-- As the reference says it. -/
def okT (p : Pnd) : Bool := inB p.n 0 99 && (inB p.h.length 2 9 && (decide (p.d.length = p.h.length) && ((List.range p.h.length).all (pok p) && inB (p.h.count true) 1 (p.h.length - 1))))
theorem cnt_tf : ∀ l : List Bool, l.count true + l.count false = l.length
  | [] => rfl
  | b :: l => by
    have := cnt_tf l
    cases b <;> simp <;> omega
theorem okT_eq (p : Pnd) : okT p = okS p := by
  rw [Bool.eq_iff_iff, okS_iff]
  simp only [okT, Bool.and_eq_true, decide_eq_true_eq, inB_iff, List.all_eq_true, List.mem_range]
  have hc := cnt_tf p.h
  rw [← List.count_pos_iff (a := true), ← List.count_pos_iff (a := false)]
  constructor
  · rintro ⟨h1, h2, h3, h4, h5⟩
    exact ⟨h1, h3, by omega, fun i hi => h4 i (by omega), by omega, by omega⟩
  · rintro ⟨h1, h2, h3, h4, h5, h6⟩
    exact ⟨h1, by omega, h2, fun i hi => h4 i (by omega), by omega⟩
/-- Where the pending with a number is. -/
def fndP (ps : List Pnd) (x : Int) : Int := hitG (fun p => p.n == x) ps
def okP (ps : List Pnd) (i : Nat) : Bool := okS (ps.getD i .z) && decide (fndP (ps.take i) (ps.getD i .z).n < 0)
def okL (ps : List Pnd) : Bool := (List.range ps.length).all (okP ps) && decide (ps.length ≤ 4)
theorem take_getD {α : Type} (l : List α) (k i : Nat) (z : α) (h : i < k) : (l.take k).getD i z = l.getD i z := by
  rw [List.getD_eq_getElem?_getD, List.getD_eq_getElem?_getD, List.getElem?_take_of_lt h]
theorem fndP_take (ps : List Pnd) (i : Nat) (hi : i ≤ ps.length) (x : Int) : fndP (ps.take i) x < 0 ↔ ∀ j, j < i → ¬ (ps.getD j .z).n = x := by
  have hl : (ps.take i).length = i := by rw [List.length_take]; omega
  rcases hitG_cases (fun p : Pnd => p.n == x) (ps.take i) .z with ⟨h1, h2⟩ | ⟨k, h0, h1, h2, -⟩
  · rw [hl] at h2
    rw [fndP, h1]
    refine ⟨fun _ j hj e => ?_, fun _ => by omega⟩
    have := h2 j hj
    rw [take_getD _ _ _ _ hj, e, beq_self_eq_true] at this
    cases this
  · rw [hl] at h0
    rw [take_getD _ _ _ _ h0] at h2
    rw [fndP, h1]
    refine ⟨fun h => by omega, fun h => absurd (by simpa using h2) (h k h0)⟩
theorem okL_at {ps : List Pnd} (h : okL ps = true) (i : Nat) (hi : i < ps.length) : okS (ps.getD i .z) = true ∧ ∀ j, j < i → ¬ (ps.getD j .z).n = (ps.getD i .z).n := by
  rw [okL, Bool.and_eq_true] at h
  have := List.all_eq_true.1 h.1 i (List.mem_range.2 hi)
  rw [okP, Bool.and_eq_true, decide_eq_true_eq] at this
  exact ⟨this.1, (fndP_take ps i (by omega) _).1 this.2⟩
theorem okL_len {ps : List Pnd} (h : okL ps = true) : ps.length ≤ 4 := by
  rw [okL, Bool.and_eq_true, decide_eq_true_eq] at h
  exact h.2
/-! ### The parts that a pending lacks -/
def lacksTo (h : List Bool) (k : Nat) : List Int := ((List.range k).filter (fun i => !h.getD i false)).map (fun i : Nat => (i : Int))
def lacks (h : List Bool) : List Int := lacksTo h h.length
theorem lacksTo_succ (h : List Bool) (k : Nat) : lacksTo h (k + 1) = if h.getD k false then lacksTo h k else lacksTo h k ++ [(k : Int)] := by
  have hb : List.filter (fun i => !h.getD i false) [k] = if h.getD k false then [] else [k] := by
    cases e : h.getD k false <;> simp only [List.filter_cons, List.filter_nil, e] <;> rfl
  rw [lacksTo, List.range_succ, List.filter_append, List.map_append, hb]
  cases h.getD k false
  · rfl
  · exact List.append_nil _
theorem lacksTo_len (h : List Bool) (k : Nat) : (lacksTo h k).length ≤ k := by
  rw [lacksTo, List.length_map]
  exact Nat.le_trans (List.length_filter_le _ _) (by simp)
def lkB (ps : List Pnd) (x : Int) : Bool := okL ps && decide (0 ≤ fndP ps x)
def lkL (ps : List Pnd) (x : Int) : List Int := if lkB ps x then lacks (ps.getD (fndP ps x).toNat .z).h else []
theorem lkL_no {ps : List Pnd} {x : Int} (h : lkB ps x = false) : lkL ps x = [] := by rw [lkL, h]; rfl
theorem lkL_yes {ps : List Pnd} {x : Int} (h : lkB ps x = true) : lkL ps x = lacks (ps.getD (fndP ps x).toNat .z).h := by rw [lkL, h]; rfl
theorem fndP_get {ps : List Pnd} {x : Int} (h : 0 ≤ fndP ps x) : ∃ k, k < ps.length ∧ fndP ps x = (k : Int) ∧ (ps.getD k .z).n = x := by
  rcases hitG_cases (fun p : Pnd => p.n == x) ps .z with ⟨h1, -⟩ | ⟨k, h0, h1, h2, -⟩
  · rw [fndP, h1] at h; omega
  · exact ⟨k, h0, h1, by simpa using h2⟩
theorem okS_len {p : Pnd} (h : okS p = true) : p.d.length ≤ 9 ∧ p.h.length ≤ 9 ∧ p.d.length = p.h.length := by
  obtain ⟨-, h2, h3, -⟩ := okS_iff.1 h
  omega
theorem lkL_len (ps : List Pnd) (x : Int) : (lkL ps x).length ≤ 9 := by
  cases h : lkB ps x
  · rw [lkL_no h]; simp
  · rw [lkL_yes h]
    rw [lkB, Bool.and_eq_true, decide_eq_true_eq] at h
    obtain ⟨k, hk, e, -⟩ := fndP_get h.2
    rw [e, Int.toNat_natCast]
    have := (okS_len (okL_at h.1 k hk).1).2.1
    have := lacksTo_len (ps.getD k .z).h (ps.getD k .z).h.length
    unfold lacks
    omega
/-! ### A pending dropped -/
/-- A list without its i-th element. -/
def ers {α : Type} (l : List α) (i : Nat) : List α := l.take i ++ l.drop (i + 1)
theorem ers_len {α : Type} (l : List α) (i : Nat) (h : i < l.length) : (ers l i).length = l.length - 1 := by
  rw [ers, List.length_append, List.length_take, List.length_drop]; omega
theorem ers_mem {α : Type} {l : List α} {i : Nat} {x : α} (h : x ∈ ers l i) : x ∈ l := by
  rw [ers] at h
  rcases List.mem_append.1 h with h | h
  · exact List.mem_of_mem_take h
  · exact List.mem_of_mem_drop h
def drL (ps : List Pnd) (x : Int) : List Pnd := if lkB ps x then ers ps (fndP ps x).toNat else []
theorem drL_no {ps : List Pnd} {x : Int} (h : lkB ps x = false) : drL ps x = [] := by rw [drL, h]; rfl
theorem drL_yes {ps : List Pnd} {x : Int} (h : lkB ps x = true) : drL ps x = ers ps (fndP ps x).toNat := by rw [drL, h]; rfl
theorem lkB_okL {ps : List Pnd} {x : Int} (h : lkB ps x = true) : okL ps = true := by
  rw [lkB, Bool.and_eq_true] at h
  exact h.1
theorem drL_len (ps : List Pnd) (x : Int) : (drL ps x).length ≤ ps.length := by
  cases h : lkB ps x
  · rw [drL_no h]; exact Nat.zero_le _
  · rw [drL_yes h, ers, List.length_append, List.length_take, List.length_drop]; omega
theorem okL_mem {ps : List Pnd} (h : okL ps = true) {p : Pnd} (hp : p ∈ ps) : p.d.length ≤ 9 ∧ p.h.length ≤ 9 := by
  obtain ⟨i, hi, rfl⟩ := List.mem_iff_getElem.1 hp
  have := okS_len (okL_at h i hi).1
  rw [List.getD_eq_getElem?_getD, List.getElem?_eq_getElem hi] at this
  exact ⟨this.1, this.2.1⟩
theorem drL_all {ps : List Pnd} {x : Int} {p : Pnd} (hp : p ∈ drL ps x) : p.d.length ≤ 9 ∧ p.h.length ≤ 9 ∧ ps.length ≤ 4 := by
  cases h : lkB ps x
  · rw [drL_no h] at hp; cases hp
  · rw [drL_yes h] at hp
    have := okL_mem (lkB_okL h) (ers_mem hp)
    exact ⟨this.1, this.2, okL_len (lkB_okL h)⟩
theorem drL_mem (ps : List Pnd) (x : Int) (i : Nat) (hi : i < (drL ps x).length) : ((drL ps x).getD i .z).d.length ≤ 9 ∧ ((drL ps x).getD i .z).h.length ≤ 9 :=
  ⟨(drL_all (getD_mem' hi)).1, (drL_all (getD_mem' hi)).2.1⟩
end Go.Proofs.YtnngklclehffhaaGreatDoor
