/- A message divided, and its fragments taken from the last one to the first one: the plain law. -/
import Derived.Test.YtnngklclehffhaaGreatDoorKWSplit
import Derived.Test.YtnngklclehffhaaGreatDoorKWTfP
namespace Go.Proofs.YtnngklclehffhaaGreatDoor
open Go.RowKit
set_option maxHeartbeats 400000
theorem ext_data (s : ByteArray) (f k : Nat) : (s.extract f k).data.toList = (s.data.toList.drop f).take (k - f) := by
  simp [ByteArray.data_extract, Array.toList_extract, List.extract]
  try omega
theorem lets_all {s : List UInt8} (h : lets s = true) : ∀ c ∈ s, isLet c = true := by rw [lets_eq] at h; exact List.all_eq_true.1 h
theorem itm_ext {m : Nat} {s : ByteArray} (h : itm m s = true) (f k : Nat) (hk : k - f ≤ 8) : itm 8 (s.extract f k) = true := by
  simp only [itm, Bool.and_eq_true, decide_eq_true_eq] at h ⊢
  have e : (s.extract f k).size = ((s.data.toList.drop f).take (k - f)).length := by (rw [← ext_data]; simp; try omega)
  refine ⟨?_, by rw [e, List.length_take]; omega⟩
  rw [ext_data, lets_eq]
  exact List.all_eq_true.2 fun c hc => lets_all h.1 c (List.mem_of_mem_drop (List.mem_of_mem_take hc))
theorem spl_facts {n : Int} {s : ByteArray} {z : Int} (h : splB n s z = true) : (0 ≤ n ∧ n ≤ 99) ∧ itm 40 s = true ∧ (1 ≤ z.toNat ∧ z.toNat ≤ 8) ∧ 1 ≤ partsN s.size z.toNat ∧ partsN s.size z.toNat ≤ 9 := by
  simp only [splB, Bool.and_eq_true, decide_eq_true_eq, inB_iff] at h
  exact ⟨h.1, h.2.1, by omega, by rw [partsN]; omega, h.2.2.2⟩
theorem piece_ok {n : Int} {s : ByteArray} {z : Int} (h : splB n s z = true) {i : Nat} (hi : i < partsN s.size z.toNat) : okF (piece n s z.toNat (partsN s.size z.toNat) i) = true := by
  obtain ⟨h1, h2, h3, h4, h5⟩ := spl_facts h
  simp only [okF, piece, Bool.and_eq_true, inB_iff]
  refine ⟨h1, by omega, by omega, itm_ext h2 _ _ ?_⟩
  rw [Nat.succ_mul]
  omega
theorem itm_size' {m : Nat} {s : ByteArray} (h : itm m s = true) : s.size ≤ m := by
  simp only [itm, Bool.and_eq_true, decide_eq_true_eq] at h
  exact h.2
/-! ### The pending while j fragments are still to come -/
section
variable (n : Int) (f : Nat → ByteArray) (P : Nat)
def stD (j : Nat) : List ByteArray := (List.range P).map fun i => if i < j then ByteArray.empty else f i
def stH (j : Nat) : List Bool := (List.range P).map fun i => decide (j ≤ i)
def stP (j : Nat) : Pnd := ⟨n, stD f P j, stH P j⟩
def stL (j : Nat) : List Pnd := if j = P then [] else [stP n f P j]
end
section
variable {n : Int} {f : Nat → ByteArray} {P : Nat}
theorem stD_len (j : Nat) : (stD f P j).length = P := by simp [stD]
theorem stH_len (j : Nat) : (stH P j).length = P := by simp [stH]
theorem stD_get {j i : Nat} (hi : i < P) : (stD f P j).getD i ByteArray.empty = if i < j then ByteArray.empty else f i := by
  rw [List.getD_eq_getElem?_getD, stD, List.getElem?_map, List.getElem?_range hi]; rfl
theorem stH_get {j i : Nat} (hi : i < P) : (stH P j).getD i false = decide (j ≤ i) := by
  rw [List.getD_eq_getElem?_getD, stH, List.getElem?_map, List.getElem?_range hi]; rfl
theorem ext_getD {α : Type} (z : α) {l m : List α} (h : l.length = m.length) (hg : ∀ i, i < m.length → l.getD i z = m.getD i z) : l = m := by
  apply List.ext_getElem h
  intro i h1 h2
  have := hg i h2
  rwa [List.getD_eq_getElem?_getD, List.getD_eq_getElem?_getD, List.getElem?_eq_getElem h1, List.getElem?_eq_getElem h2] at this
theorem stD_end : stD f P P = List.replicate P ByteArray.empty := by
  refine ext_getD ByteArray.empty (by rw [stD_len, List.length_replicate]) fun i hi => ?_
  rw [List.length_replicate] at hi
  rw [stD_get hi, if_pos hi, repP_get]
theorem stH_end : stH P P = List.replicate P false := by
  refine ext_getD false (by rw [stH_len, List.length_replicate]) fun i hi => ?_
  rw [List.length_replicate] at hi
  rw [stH_get hi, repP_get, decide_eq_false (by omega)]
theorem stD_set {i : Nat} (hi : i < P) : (stD f P (i + 1)).set i (f i) = stD f P i := by
  refine ext_getD ByteArray.empty (by rw [List.length_set, stD_len, stD_len]) fun k hk => ?_
  rw [stD_len] at hk
  rw [getD_set' _ _ _ _ _ (by rw [stD_len]; exact hi), stD_get hk, stD_get hk]
  by_cases h : k = i
  · subst h; rw [if_pos rfl, if_neg (Nat.lt_irrefl _)]
  · rw [if_neg h]
    by_cases h2 : k < i
    · rw [if_pos (by omega), if_pos h2]
    · rw [if_neg (by omega), if_neg h2]
theorem stH_set {i : Nat} (hi : i < P) : (stH P (i + 1)).set i true = stH P i := by
  refine ext_getD false (by rw [List.length_set, stH_len, stH_len]) fun k hk => ?_
  rw [stH_len] at hk
  rw [getD_set' _ _ _ _ _ (by rw [stH_len]; exact hi), stH_get hk, stH_get hk]
  by_cases h : k = i
  · subst h; rw [if_pos rfl, decide_eq_true (Nat.le_refl _)]
  · rw [if_neg h, Bool.eq_iff_iff, decide_eq_true_eq, decide_eq_true_eq]; omega
theorem st_next {i : Nat} (hi : i < P) : stF (stP n f P (i + 1)) i (f i) = stP n f P i := by
  have e : (stP n f P (i + 1)).h.getD i false = false := (stH_get hi).trans (decide_eq_false (by omega))
  rw [stF, e]
  show (⟨n, (stD f P (i + 1)).set i (f i), (stH P (i + 1)).set i true⟩ : Pnd) = _
  rw [stD_set hi, stH_set hi]
  rfl
theorem st_whole {i : Nat} (hi : i < P) : whP (stP n f P i) = decide (i = 0) := by
  rw [whP]
  by_cases h : i = 0
  · subst h
    have : ¬ false ∈ stH P 0 := fun hm => by
      obtain ⟨k, -, e⟩ := List.mem_map.1 hm
      simp at e
    rw [show (stP n f P 0).h.contains false = false from by cases e : (stH P 0).contains false; exact e; exact absurd (List.contains_iff_mem.1 e) this]
    rfl
  · have : false ∈ stH P i := List.mem_map.2 ⟨0, List.mem_range.2 (by omega), decide_eq_false (by omega)⟩
    rw [show (stP n f P i).h.contains false = true from List.contains_iff_mem.2 this, decide_eq_false h]
    rfl
theorem fnd_st {j : Nat} (h : ¬ j = P) : fndP (stL n f P j) n = 0 := by
  rw [stL, if_neg h]
  exact hitG_at (p := fun p : Pnd => p.n == n) (z := .z) (k := 0) (by simp) (fun i hi => by omega) (by simp [stP])
theorem fnd_nil : fndP ([] : List Pnd) n = -1 := rfl
theorem bs_st {j : Nat} : (if (bsP (stL n f P j) n).h.length = P then ⟨n, (bsP (stL n f P j) n).d, (bsP (stL n f P j) n).h⟩ else frP n P : Pnd) = stP n f P j := by
  by_cases h : j = P
  · subst h
    have e : frP n j = stP n f j j := by rw [frP, stP, stD_end, stH_end]
    by_cases h0 : j = 0
    · subst h0
      have e2 : (bsP (stL n f 0 0) n).h.length = 0 := rfl
      rw [if_pos e2]
      rfl
    · have e2 : ¬ (bsP (stL n f j j) n).h.length = j := by
        rw [stL, if_pos rfl]
        show ¬ 0 = j
        omega
      rw [if_neg e2, e]
  · have e : bsP (stL n f P j) n = stP n f P j := by rw [bsP, fnd_st h, if_pos (by decide), stL, if_neg h]; rfl
    rw [e, if_pos (show (stP n f P j).h.length = P from stH_len j)]
    rfl
theorem nx_st {i : Nat} (hi : i < P) : nxP (stL n f P (i + 1)) n i P (f i) = stP n f P i := by
  rw [nxP, wF, bs_st, st_next hi]
theorem okL_st {j : Nat} (hn : 0 ≤ n ∧ n ≤ 99) (hP : P ≤ 9) (hf : ∀ i, i < P → itm 8 (f i) = true) (hj : 1 ≤ j) (hj2 : j ≤ P) : okL (stL n f P j) = true := by
  rw [stL]
  by_cases h : j = P
  · rw [if_pos h]; rfl
  · rw [if_neg h]
    refine (okL_iff _).2 ⟨fun p hp => ?_, by simp, by simp⟩
    rw [List.mem_singleton.1 hp]
    refine okS_iff.2 ⟨hn, by show (stD f P j).length = (stH P j).length; rw [stD_len, stH_len], by show (stD f P j).length ≤ 9; rw [stD_len]; exact hP, fun i hi => ?_, ?_, ?_⟩
    · have hi : i < P := by have : (stD f P j).length = P := stD_len j; exact this ▸ hi
      show (itm 8 ((stD f P j).getD i ByteArray.empty) && ((stH P j).getD i false || ((stD f P j).getD i ByteArray.empty).data.toList.isEmpty)) = true
      rw [stD_get hi, stH_get hi]
      by_cases hij : i < j
      · rw [if_pos hij, itm_nil]; simp
      · rw [if_neg hij, hf i hi, decide_eq_true (by omega)]; rfl
    · exact List.mem_map.2 ⟨j, List.mem_range.2 (by omega), decide_eq_true (Nat.le_refl _)⟩
    · exact List.mem_map.2 ⟨0, List.mem_range.2 (by omega), decide_eq_false (by omega)⟩
theorem tk_st {i : Nat} (hn : 0 ≤ n ∧ n ≤ 99) (hP : P ≤ 9) (hf : ∀ i, i < P → itm 8 (f i) = true) (hi : i < P) :
    tkB (stL n f P (i + 1)) n i P (f i) = true ∧ tkW (stL n f P (i + 1)) n i P (f i) = decide (i = 0) ∧ tkO (stL n f P (i + 1)) n i P (f i) = (if i = 0 then [] else [stP n f P i]) ∧ tkS (stL n f P (i + 1)) n i P (f i) = (if i = 0 then joinS (stD f P 0) ⟨#[]⟩ else ⟨#[]⟩) := by
  have hB : tkB (stL n f P (i + 1)) n i P (f i) = true := by
    rw [tkB, okL_st hn hP hf (by omega) (by omega), Bool.true_and]
    simp only [okF, Bool.and_eq_true, inB_iff]
    exact ⟨hn, by omega, by omega, hf i hi⟩
  have hx := nx_st (n := n) (f := f) hi
  have hW : tkW (stL n f P (i + 1)) n i P (f i) = decide (i = 0) := by
    rw [tkW, hB, Bool.true_and, Int.toNat_natCast, Int.toNat_natCast, hx, st_whole hi]
  refine ⟨hB, hW, ?_, ?_⟩
  · rw [tkO, hB, if_pos rfl, tkR, Int.toNat_natCast, Int.toNat_natCast, hx, st_whole hi]
    by_cases h : i + 1 = P
    · have e : stL n f P (i + 1) = [] := by rw [stL, if_pos h]
      rw [e, fnd_nil, if_neg (by decide)]
      by_cases h0 : i = 0
      · rw [decide_eq_true h0, if_pos rfl, if_pos h0]
      · rw [decide_eq_false h0, if_neg (by decide), if_neg h0]; rfl
    · have e : stL n f P (i + 1) = [stP n f P (i + 1)] := by rw [stL, if_neg h]
      rw [fnd_st h, if_pos (by decide), e]
      by_cases h0 : i = 0
      · rw [decide_eq_true h0, if_pos rfl, if_pos h0]; rfl
      · rw [decide_eq_false h0, if_neg (by decide), if_neg h0]; rfl
  · rw [tkS, hW, Int.toNat_natCast, Int.toNat_natCast, hx]
    by_cases h0 : i = 0
    · subst h0; rfl
    · rw [decide_eq_false h0, if_neg h0, if_neg (by decide)]
theorem lk_st {i : Nat} (hn : 0 ≤ n ∧ n ≤ 99) (hP : P ≤ 9) (hf : ∀ i, i < P → itm 8 (f i) = true) (hi : i < P) (h0 : 0 < i) :
    lkB [stP n f P i] n = true ∧ (lkL [stP n f P i] n).length = i := by
  have e : [stP n f P i] = stL n f P i := by rw [stL, if_neg (by omega)]
  have hF : fndP [stP n f P i] n = 0 := by rw [e]; exact fnd_st (by omega)
  have hB : lkB [stP n f P i] n = true := by rw [lkB, hF, e, okL_st hn hP hf h0 (by omega)]; rfl
  refine ⟨hB, ?_⟩
  rw [lkL_yes hB, hF]
  show (lacks (stH P i)).length = i
  have key : ∀ k, k ≤ P → (lacksTo (stH P i) k).length = min k i := by
    intro k
    induction k with
    | zero => intro _; simp [lacksTo]
    | succ k ih =>
      intro hk
      rw [lacksTo_succ, stH_get (by omega)]
      by_cases h : i ≤ k
      · rw [decide_eq_true h, if_pos rfl, ih (by omega)]; omega
      · rw [decide_eq_false h, if_neg (by decide), List.length_append, ih (by omega)]
        show min k i + 1 = _
        omega
  rw [lacks, stH_len, key P (Nat.le_refl _)]
  omega
end
/-! ### The pieces together -/
theorem take_more (L : List UInt8) (a b : Nat) (h : a ≤ b) : L.take a ++ (L.drop a).take (b - a) = L.take b := by
  have := List.take_add (l := L) (i := a) (j := b - a)
  rw [show a + (b - a) = b by omega] at this
  exact this.symm
theorem flat_pieces (L : List UInt8) (k : Nat) : ∀ m, ((List.range m).map fun i => (L.drop (i * k)).take (min L.length ((i + 1) * k) - i * k)).flatten = L.take (m * k)
  | 0 => by simp
  | m + 1 => by
    rw [List.range_succ, List.map_append, List.flatten_append, flat_pieces L k m]
    simp only [List.map_cons, List.map_nil, List.flatten_cons, List.flatten_nil, List.append_nil]
    have hm : m * k ≤ (m + 1) * k := Nat.mul_le_mul_right k (by omega)
    rw [← take_more L (m * k) ((m + 1) * k) hm]
    congr 1
    by_cases h : L.length ≤ (m + 1) * k
    · rw [Nat.min_eq_left h, List.take_of_length_le (by rw [List.length_drop]; omega), List.take_of_length_le (by rw [List.length_drop]; omega)]
    · rw [Nat.min_eq_right (by omega)]
theorem inter_nil {α : Type} : ∀ xs : List (List α), ([] : List α).intercalate xs = xs.flatten
  | [] => rfl
  | [x] => by simp [List.intercalate]
  | x :: y :: xs => by
    have := inter_nil (y :: xs)
    simp [List.intercalate] at this ⊢
    exact this
theorem parts_all {n k : Nat} (hk : 1 ≤ k) : n ≤ partsN n k * k := by
  rw [partsN]
  have h1 : (n + k - 1) / k * k + k > n + k - 1 := by
    have e := Nat.div_add_mod (n + k - 1) k
    have m := Nat.mod_lt (n + k - 1) hk
    rw [Nat.mul_comm] at e
    omega
  have h2 : (n + k - 1) / k * k ≤ max 1 ((n + k - 1) / k) * k := Nat.mul_le_mul_right k (by omega)
  omega
theorem pieces_join {s : ByteArray} {k : Nat} (n : Int) (hk : 1 ≤ k) : joinS (stD (fun i => (piece n s k (partsN s.size k) i).d) (partsN s.size k) 0) ⟨#[]⟩ = s := by
  have e : (stD (fun i => (piece n s k (partsN s.size k) i).d) (partsN s.size k) 0).map (·.data.toList) = (List.range (partsN s.size k)).map fun i => (s.data.toList.drop (i * k)).take (min s.data.toList.length ((i + 1) * k) - i * k) := by
    rw [stD, List.map_map]
    refine List.map_congr_left fun i _ => ?_
    show (if i < 0 then ByteArray.empty else (piece n s k (partsN s.size k) i).d).data.toList = _
    rw [if_neg (Nat.not_lt_zero _), piece, ext_data]
    have : s.data.toList.length = s.size := by simp
    rw [this]
  rw [joinS, e]
  show (⟨(([] : List UInt8).intercalate _).toArray⟩ : ByteArray) = s
  rw [inter_nil, flat_pieces, List.take_of_length_le]
  have : s.data.toList.length = s.size := by simp
  rw [this]
  exact parts_all hk
/-- One fragment more. -/
theorem msg_law {n : Int} {s : ByteArray} {z : Int} (h : splB n s z = true) {P k : Nat} (hP : P = partsN s.size z.toNat) (hk : k = z.toNat) {i : Nat} (hi : i < P) :
    okF (piece n s k P i) = true ∧ okL (stL n (fun j => (piece n s k P j).d) P (i + 1)) = true ∧
    tkB (stL n (fun j => (piece n s k P j).d) P (i + 1)) n i P (piece n s k P i).d = true ∧ tkW (stL n (fun j => (piece n s k P j).d) P (i + 1)) n i P (piece n s k P i).d = decide (i = 0) ∧
    tkO (stL n (fun j => (piece n s k P j).d) P (i + 1)) n i P (piece n s k P i).d = (if i = 0 then [] else stL n (fun j => (piece n s k P j).d) P i) ∧
    tkS (stL n (fun j => (piece n s k P j).d) P (i + 1)) n i P (piece n s k P i).d = (if i = 0 then s else ⟨#[]⟩) ∧
    (0 < i → lkB (stL n (fun j => (piece n s k P j).d) P i) n = true ∧ (lkL (stL n (fun j => (piece n s k P j).d) P i) n).length = i) := by
  subst hP
  subst hk
  obtain ⟨h1, h2, h3, h4, h5⟩ := spl_facts h
  have hf : ∀ j, j < partsN s.size z.toNat → itm 8 (piece n s z.toNat (partsN s.size z.toNat) j).d = true := fun j hj => (okF_iff (piece_ok h hj)).2.2.2
  have ht := tk_st (f := fun j => (piece n s z.toNat (partsN s.size z.toNat) j).d) h1 h5 hf hi
  have e : stL n (fun j => (piece n s z.toNat (partsN s.size z.toNat) j).d) (partsN s.size z.toNat) i = [stP n (fun j => (piece n s z.toNat (partsN s.size z.toNat) j).d) (partsN s.size z.toNat) i] := by rw [stL, if_neg (by omega)]
  refine ⟨piece_ok h hi, okL_st h1 h5 hf (by omega) (by omega), ht.1, ht.2.1, by rw [e]; exact ht.2.2.1, ?_, fun h0 => by rw [e]; exact lk_st h1 h5 hf hi h0⟩
  rw [ht.2.2.2, pieces_join n h3.1]
theorem msg_steps (n : Int) (s : ByteArray) (z : Int) : ∃ S : Nat → List Pnd, S (splD n s z).length = [] ∧ S 0 = [] ∧ (∀ j, okL (S j) = true) ∧ ∀ i, i < (splD n s z).length → ∃ d, (splD n s z).getD i .z = ⟨n, i, (splD n s z).length, d⟩ ∧ d.size ≤ 8 ∧ okF ⟨n, i, (splD n s z).length, d⟩ = true ∧
    tkB (S (i + 1)) n i (splD n s z).length d = true ∧ tkW (S (i + 1)) n i (splD n s z).length d = decide (i = 0) ∧ tkO (S (i + 1)) n i (splD n s z).length d = S i ∧ (i = 0 → tkS (S (i + 1)) n i (splD n s z).length d = s) ∧
    (0 < i → lkB (S i) n = true ∧ (lkL (S i) n).length = i) := by
  cases h : splB n s z
  · rw [spl_no h]
    exact ⟨fun _ => [], rfl, rfl, fun _ => rfl, fun i hi => absurd hi (Nat.not_lt_zero _)⟩
  · rw [spl_yes h, pieces_len]
    obtain ⟨h1, h2, h3, h4, h5⟩ := spl_facts h
    have law := fun i (hi : i < partsN s.size z.toNat) => msg_law h rfl rfl hi
    generalize partsN s.size z.toNat = P at *
    generalize z.toNat = k at *
    have hf : ∀ j, j < P → itm 8 (piece n s k P j).d = true := fun j hj => (okF_iff (law j hj).1).2.2.2
    have hget : ∀ i, i < P → (pieces n s k P P).getD i .z = piece n s k P i := fun i hi => by
      rw [List.getD_eq_getElem?_getD, pieces, List.getElem?_map, List.getElem?_range hi]; rfl
    generalize hF : (fun j => (piece n s k P j).d) = F at law
    have hS : ∀ j, 1 ≤ j → j ≤ P → (if j = 0 ∨ P < j then [] else stL n F P j) = stL n F P j := fun j a b => if_neg (by omega)
    refine ⟨fun j => if j = 0 ∨ P < j then [] else stL n F P j, ?_, if_pos (.inl rfl), fun j => ?_, fun i hi => ?_⟩
    · show (if P = 0 ∨ P < P then [] else stL n F P P) = []
      rw [hS P h4 (Nat.le_refl _), stL, if_pos rfl]
    · show okL (if j = 0 ∨ P < j then [] else stL n F P j) = true
      by_cases hj : j = 0 ∨ P < j
      · rw [if_pos hj]; rfl
      · rw [if_neg hj]
        subst hF
        exact okL_st h1 h5 hf (by omega) (by omega)
    · obtain ⟨l1, l2, l3, l4, l5, l6, l7⟩ := law i hi
      refine ⟨(piece n s k P i).d, (hget i hi).trans rfl, itm_size' (hf i hi), l1, ?_⟩
      dsimp only
      rw [hS (i + 1) (by omega) (by omega)]
      refine ⟨l3, l4, ?_, fun h0 => by rw [l6, if_pos h0], fun h0 => ?_⟩
      · rw [l5]
        by_cases h0 : i = 0
        · rw [if_pos h0, if_pos (.inl h0)]
        · rw [if_neg h0, hS i (by omega) (by omega)]
      · rw [hS i h0 (by omega)]
        exact l7 h0
end Go.Proofs.YtnngklclehffhaaGreatDoor
