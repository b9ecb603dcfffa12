/- What the law of recovery says, in plain words. -/
import Derived.Test.YthnfdgbmmiddlaaDoorWCdL
import Derived.Test.YthnfdgbmmiddlaaDoorWSus
import Derived.Test.YthnfdgbmmiddlaaDoorWAsc
namespace Go.Proofs.YthnfdgbmmiddlaaDoor
open Go.RowKit
set_option maxHeartbeats 400000
/-- One column of a block's codes, added up. -/
def colS (ys : List ByteArray) (j : Nat) : Int := (ys.map (fun s => (lc s).getD j 0)).sum
theorem colS_app (A B : List ByteArray) (j : Nat) : colS (A ++ B) j = colS A j + colS B j := by simp [colS]
theorem colS_cons (s : ByteArray) (B : List ByteArray) (j : Nat) : colS (s :: B) j = (lc s).getD j 0 + colS B j := by simp [colS]
theorem parL_get (ys : List ByteArray) (j : Nat) (hj : j < 8) : (parL ys).getD j 0 = colS ys j % 27 := by
  have key : ∀ (zs ys : List ByteArray), ys = zs.reverse → (parL ys).getD j 0 = colS ys j % 27 := by
    intro zs
    induction zs with
    | nil =>
      intro ys e
      subst e
      have : (parL []).getD j 0 = 0 := by
        show (List.replicate 8 (0 : Int)).getD j 0 = 0
        rw [List.getD_eq_getElem?_getD, List.getElem?_replicate, if_pos hj]; rfl
      rw [List.reverse_nil, this]; rfl
    | cons z zs ih =>
      intro ys e
      subst e
      rw [List.reverse_cons, parL_add, addL_get (by rw [parL_len]; exact hj), ih _ rfl, colS_app]
      have : colS [z] j = (lc z).getD j 0 := by simp [colS]
      rw [this]
      omega
  exact key ys.reverse ys (by rw [List.reverse_reverse])
theorem split_at {xs : List ByteArray} {i : Nat} (h : i < xs.length) : xs = xs.take i ++ xs.getD i ByteArray.empty :: xs.drop (i + 1) := by
  have e : xs.getD i ByteArray.empty = xs[i] := by rw [List.getD_eq_getElem?_getD, List.getElem?_eq_getElem h]; rfl
  rw [e, List.getElem_cons_drop, List.take_append_drop]
theorem set_at {xs : List ByteArray} {i : Nat} (s : ByteArray) (h : i < xs.length) : xs.set i s = xs.take i ++ s :: xs.drop (i + 1) := by
  rw [List.set_eq_take_append_cons_drop, if_pos h]
theorem oth_set {xs : List ByteArray} {i : Nat} (s : ByteArray) (h : i < xs.length) : oth (xs.set i s) i = oth xs i := by
  rw [oth_eq _ i (by rw [List.length_set]; exact h), oth_eq xs i h, List.take_set_of_le (Nat.le_refl _), List.drop_set_of_lt (by omega)]
theorem colS_at {xs : List ByteArray} {i : Nat} (h : i < xs.length) (j : Nat) : colS xs j = colS (oth xs i) j + (lc (xs.getD i ByteArray.empty)).getD j 0 := by
  conv => lhs; rw [split_at h]
  rw [oth_eq xs i h, colS_app, colS_app, colS_cons]
  omega
theorem colS_set {xs : List ByteArray} {i : Nat} (s : ByteArray) (h : i < xs.length) (j : Nat) : colS (xs.set i s) j = colS (oth xs i) j + (lc s).getD j 0 := by
  rw [set_at s h, oth_eq xs i h, colS_app, colS_app, colS_cons]
  omega
theorem parL_eq {xs : List ByteArray} {P : List Int} (hP : isPar P = true) (h : ∀ j, j < 8 → colS xs j % 27 = P.getD j 0) : parL xs = P := by
  refine list_ext0 (by rw [parL_len, isPar_len hP]) (fun j hj => ?_)
  rw [parL_len] at hj
  rw [parL_get xs j hj, h j hj]
theorem parL_is {xs : List ByteArray} : isPar (parL xs) = true := by
  have := parL_par xs xs.length (Nat.le_refl _)
  rwa [List.take_length] at this
theorem lc_col {s : ByteArray} (h : itm 8 s = true) (j : Nat) : 0 ≤ (lc s).getD j 0 ∧ (lc s).getD j 0 ≤ 26 := lc_bd h j
theorem recC_get {ss : List ByteArray} {i : Nat} {P : List Int} (hP : isPar P = true) (j : Nat) (hj : j < 8) : (recC ss i P).getD j 0 = (P.getD j 0 + 26 * (colS (oth ss i) j % 27)) % 27 := by
  rw [recC, addL_get (by rw [isPar_len hP]; exact hj), Int.toNat_natCast, parL_get _ _ hj]
def ABC : ByteArray := ⟨#[97, 98, 99]⟩
def QM : ByteArray := ⟨#[63]⟩
theorem blk_iff {xs : List ByteArray} : blk xs = true ↔ (1 ≤ xs.length ∧ xs.length ≤ 6) ∧ allS xs = true := by
  rw [blk, Bool.and_eq_true, inB_iff]
  constructor
  · rintro ⟨⟨a, b⟩, c⟩; exact ⟨⟨by omega, by omega⟩, c⟩
  · rintro ⟨⟨a, b⟩, c⟩; exact ⟨⟨by omega, by omega⟩, c⟩
theorem allS_set {xs : List ByteArray} {i : Nat} {s : ByteArray} (h : allS xs = true) (hs : itm 8 s = true) : allS (xs.set i s) = true := by
  refine allTo fun j hj => ?_
  rw [List.length_set] at hj
  rw [List.getD_eq_getElem?_getD, List.getElem?_set]
  split
  · rename_i e
    rw [if_pos (by omega)]; exact hs
  · have := allS_at h hj
    rwa [List.getD_eq_getElem?_getD] at this
theorem blk_set {xs : List ByteArray} {i : Nat} {s : ByteArray} (h : blk xs = true) (hs : itm 8 s = true) : blk (xs.set i s) = true := by
  rw [blk_iff] at h ⊢
  rw [List.length_set]
  exact ⟨h.1, allS_set h.2 hs⟩
/-- A block with its own parity. -/
theorem recovery_law1 {xs : List ByteArray} (h : blk xs = true) :
    fitB xs (parL xs) = true ∧ fitR xs (parL xs) = true ∧ sus xs (parL xs) = [] := by
  have h1 : fitB xs (parL xs) = true := by rw [fitB, h, parL_is]; rfl
  have h2 : fitR xs (parL xs) = true := by rw [fitR, h1]; simp
  exact ⟨h1, h2, sus_fit h2⟩
theorem recovery_law2 {xs : List ByteArray} (h : blk xs = true) {i : Nat} (hi : i < xs.length) (s : ByteArray) (habc : itm 8 ABC = true) :
    (recR (xs.set i s) i (parL xs) = true ∧ recT (xs.set i s) i (parL xs) = xs.getD i ByteArray.empty) ∧
    (changeB (parL xs) (xs.getD i ByteArray.empty) ABC = true ∧ changeL (parL xs) (xs.getD i ByteArray.empty) ABC = parL (xs.set i ABC)) ∧
    (blk (xs.set i ABC) = true ∧ pof (xs.set i ABC) = parL (xs.set i ABC)) := by
  have hb := (blk_iff.1 h)
  have hit := allS_at hb.2 hi
  have hx : blk (xs.set i ABC) = true := blk_set h habc
  have hC : recC (xs.set i s) i (parL xs) = lc (xs.getD i ByteArray.empty) := by
    refine list_ext0 (by rw [recC, addL_len, parL_len, lc_len]) (fun j hj => ?_)
    rw [recC, addL_len, parL_len] at hj
    rw [recC_get parL_is j hj, oth_set s hi, parL_get xs j hj, colS_at hi]
    have := lc_col hit j
    omega
  have hB : recB (xs.set i s) i (parL xs) = true := by
    rw [recB, Int.toNat_natCast, oth_set s hi, allS_oth hb.2, parL_is, List.length_set]
    simp only [Bool.and_eq_true, Bool.and_true, decide_eq_true_eq, inB_iff]
    omega
  have hch : changeB (parL xs) (xs.getD i ByteArray.empty) ABC = true := by rw [changeB, parL_is, hit, habc]; rfl
  refine ⟨⟨?_, ?_⟩, ⟨hch, ?_⟩, hx, pof_yes hx⟩
  · rw [(rec_yes hB).2, hC, (lc_of hit).1]
  · rw [(rec_yes hB).1, hC, (lc_of hit).2]
  · rw [changeL_yes hch]
    refine (parL_eq (addL_par (addL_par parL_is)) (fun j hj => ?_)).symm
    rw [addL_get (by rw [addL_len, parL_len]; exact hj), addL_get (by rw [parL_len]; exact hj), parL_get xs j hj, colS_set ABC hi, colS_at hi]
    omega
/-- The suspects of a block. -/
theorem recovery_law3 {xs : List ByteArray} {P : List Int} {k : Nat} (hk : k < (sus xs P).length) : ∃ i : Nat, (sus xs P).getD k 0 = i ∧ i < xs.length ∧
    recR xs i P = true ∧ itm 8 (recT xs i P) = true ∧ fitB (xs.set i (recT xs i P)) P = true ∧ fitR (xs.set i (recT xs i P)) P = true ∧ recT xs i P ≠ xs.getD i ByteArray.empty := by
  have hm : (sus xs P).getD k 0 ∈ sus xs P := mem_getD hk
  generalize (sus xs P).getD k 0 = m at *
  rw [sus] at hm
  split at hm
  · rename_i hf
    rw [Bool.and_eq_true, Bool.not_eq_true'] at hf
    obtain ⟨hB, hR⟩ := hf
    obtain ⟨i, hi, rfl⟩ := List.mem_map.1 hm
    obtain ⟨hi1, hi2⟩ := List.mem_filter.1 hi
    have hlt := List.mem_range.1 hi1
    have hrB : recB xs i P = true := by rw [recR, Bool.and_eq_true] at hi2; exact hi2.1
    have hof : ofB (recC xs i P) = true := by rw [recR, Bool.and_eq_true] at hi2; exact hi2.2
    obtain ⟨hI, hlc⟩ := of_lc hof
    have hT := (rec_yes hrB).1
    rw [← hT] at hI hlc
    rw [fitB, Bool.and_eq_true] at hB
    obtain ⟨hblk, hP⟩ := hB
    have hfB : fitB (xs.set i (recT xs i P)) P = true := by rw [fitB, blk_set hblk hI, hP]; rfl
    have hpar : parL (xs.set i (recT xs i P)) = P := by
      refine parL_eq hP fun j hj => ?_
      rw [colS_set _ hlt, hlc, recC_get hP j hj]
      have := isPar_get hP j (by rw [isPar_len hP]; exact hj)
      omega
    refine ⟨i, rfl, hlt, hi2, hI, hfB, by rw [fitR, hfB, hpar]; simp, fun e => ?_⟩
    have : xs.set i (recT xs i P) = xs := by
      rw [e, set_at _ hlt]
      exact (split_at hlt).symm
    rw [this] at hpar
    rw [fitR, fitB, hblk, hP, hpar] at hR
    simp at hR
  · cases hm
end Go.Proofs.YthnfdgbmmiddlaaDoor
