/- The group of a text, in plain words. -/
import Derived.Test.YtlaochpkelbchaaGreatDoorKWSpl
import Derived.Test.YtlaochpkelbchaaGreatDoorKWRdN
import Derived.Test.YtlaochpkelbchaaGreatDoorKWGrpT
import Derived.Test.YtlaochpkelbchaaGreatDoorKWFan
namespace Go.Proofs.YtlaochpkelbchaaGreatDoor
open Go.RowKit
set_option maxHeartbeats 400000
theorem spl_app {b : UInt8} (p : List UInt8) : ∀ l : List UInt8, spl b (l ++ b :: p) = spl b l ++ spl b p
  | [] => by
    show spl b (b :: p) = [[]] ++ spl b p
    conv => lhs; rw [spl, if_pos rfl]
    rfl
  | c :: l => by
    rw [List.cons_append, spl, spl]
    by_cases h : c = b
    · rw [if_pos h, if_pos h, spl_app p l]; rfl
    · rw [if_neg h, if_neg h, spl_app p l]
      cases e : spl b l with
      | nil => exact absurd e (spl_ne b l)
      | cons q qs => rfl
theorem itoa_digits {v : Int} (h : 0 ≤ v) : ∀ c ∈ (itoaS v).data.toList, 48 ≤ c.toNat ∧ c.toNat ≤ 57 := by
  intro c hc
  rw [itoaS, Lib.itoa, if_neg (by omega)] at hc
  obtain ⟨k, hk, rfl⟩ := List.mem_iff_getElem.1 hc
  exact dig_all _ k _ (List.getElem?_eq_getElem hk)
theorem nums_chars {xs : List Int} (h : ∀ i, i < xs.length → 0 ≤ xs.getD i 0) : ∀ k, k ≤ xs.length → ∀ c ∈ (numsTo xs k).data.toList, c = 44 ∨ (48 ≤ c.toNat ∧ c.toNat ≤ 57)
  | 0, _, c, hc => by simp [numsTo] at hc
  | k + 1, hk, c, hc => by
    rw [numsTo, ByteArray.data_append, ByteArray.data_append, Array.toList_append, Array.toList_append] at hc
    rcases List.mem_append.1 hc with h1 | h1
    · rcases List.mem_append.1 h1 with h2 | h2
      · exact nums_chars h k (by omega) c h2
      · rw [sepT] at h2
        split at h2
        · cases h2
        · exact .inl (List.mem_singleton.1 h2)
    · exact .inr (itoa_digits (h k (by omega)) c h1)
theorem nums_spl {xs : List Int} (h : ∀ i, i < xs.length → 0 ≤ xs.getD i 0) : ∀ k, k < xs.length → spl 44 (numsTo xs (k + 1)).data.toList = (xs.take (k + 1)).map (fun v => (itoaS v).data.toList)
  | 0, hk => by
    have e : numsTo xs (0 + 1) = itoaS (xs.getD 0 0) := by
      rw [numsTo, numsTo, sepT, if_pos rfl, empty_app, empty_app]
    rw [e, spl_end (fun c hc => by have := itoa_digits (h 0 hk) c hc; rintro rfl; simp at this), take_snoc xs 0 0 hk]; rfl
  | k + 1, hk => by
    have ih := nums_spl h k (by omega)
    rw [numsTo, sepT, if_neg (by omega), ByteArray.data_append, ByteArray.data_append, Array.toList_append, Array.toList_append, List.append_assoc]
    show spl 44 ((numsTo xs (k + 1)).data.toList ++ 44 :: (itoaS (xs.getD (k + 1) 0)).data.toList) = _
    rw [spl_app, ih, spl_end (fun c hc => by have := itoa_digits (h (k + 1) hk) c hc; rintro rfl; simp at this), take_snoc xs 0 (k + 1) hk, List.map_append]; rfl
theorem splS_nums {xs : List Int} (h0 : 0 < xs.length) (h : ∀ i, i < xs.length → 0 ≤ xs.getD i 0) : splS (numsTo xs xs.length) 44 = xs.map itoaS := by
  obtain ⟨n, hn⟩ : ∃ n, xs.length = n + 1 := ⟨xs.length - 1, by omega⟩
  have := nums_spl h n (by omega)
  rw [splS, hn, this, ← hn, List.take_length, List.map_map]
  exact List.map_congr_left (fun v _ => mkS_of _)
/-- The program's reading. -/
def cutN (s : ByteArray) : ByteArray := mkS (Lib.cut s.data.toList COL.data.toList).1
def cutR (s : ByteArray) : ByteArray := mkS (Lib.cut s.data.toList COL.data.toList).2.1
def okP (s : ByteArray) (a : ByteArray) (ms : List Int) : Bool := okG a ms && decide (grpT a ms = s)
def PGi (s : ByteArray) : Option (ByteArray × List Int) := (pIs (splS (cutR s) 44)).bind fun ms => if okP s (cutN s) ms then some (cutN s, ms) else none
/-- The reference's reading. -/
def rdL (L : List ByteArray) : List Int := L.map (fun x => (pI x).getD 0)
def PGb (s : ByteArray) : Bool := decide (s.size ≤ 40) && (decide ((splS s 58).length = 2) && decide (2 ≤ ((splS s 58).getD 1 ByteArray.empty).size))
def PGn (s : ByteArray) : ByteArray := (splS s 58).getD 0 ByteArray.empty
def PGm (s : ByteArray) : List Int := rdL (splS (((splS s 58).getD 1 ByteArray.empty).extract 1 ((splS s 58).getD 1 ByteArray.empty).size) 44)
def PGs (s : ByteArray) : Option (ByteArray × List Int) := if PGb s && okP s (PGn s) (PGm s) then some (PGn s, PGm s) else none
theorem okP_iff {s a : ByteArray} {ms : List Int} : okP s a ms = true ↔ okG a ms = true ∧ grpT a ms = s := by
  rw [okP, Bool.and_eq_true, decide_eq_true_eq]
theorem gnm_chars {a : ByteArray} (h : gnm a = true) : ∀ c ∈ a.data.toList, c ≠ 58 := by
  simp only [gnm, Bool.and_eq_true] at h
  intro c hc
  rw [lets_eq] at h
  have := List.all_eq_true.1 h.2 c hc
  simp only [isLet, Bool.and_eq_true, decide_eq_true_eq] at this
  rintro rfl
  simp at this
theorem grpT_data (a : ByteArray) (ms : List Int) : (grpT a ms).data.toList = a.data.toList ++ 58 :: 32 :: (numsTo ms ms.length).data.toList := by
  rw [grpT, ByteArray.data_append, ByteArray.data_append, Array.toList_append, Array.toList_append, List.append_assoc]; rfl
theorem ok_nat {a : ByteArray} {ms : List Int} (h : okG a ms = true) : ∀ i, i < ms.length → 1 ≤ ms.getD i 0 ∧ ms.getD i 0 ≤ 7 := fun i hi => risB_in (okG_all h).2.2 i hi
theorem cut_text {a : ByteArray} {ms : List Int} (h : okG a ms = true) : cutN (grpT a ms) = a ∧ cutR (grpT a ms) = numsTo ms ms.length := by
  have hc := gnm_chars (okG_all h).1
  have hd := grpT_data a ms
  have hi : Lib.index (grpT a ms).data.toList COL.data.toList = (a.data.toList.length : Int) := by
    rw [hd]
    refine Lib.index_first (by simp) ?_ (fun j hj => ?_)
    · show COL.data.toList.isPrefixOf ((a.data.toList ++ _).drop a.data.toList.length) = true
      rw [List.drop_left]; rfl
    · show COL.data.toList.isPrefixOf ((a.data.toList ++ _).drop j) = false
      rw [List.drop_append_of_le_length (by omega), List.drop_eq_getElem_cons hj]
      have := hc a.data.toList[j] (List.getElem_mem hj)
      show (58 == a.data.toList[j] && _) = false
      rw [show ((58 : UInt8) == a.data.toList[j]) = false by rw [beq_eq_false_iff_ne]; exact fun e => this e.symm]; rfl
  have hcut : Lib.cut (grpT a ms).data.toList COL.data.toList = (a.data.toList, (numsTo ms ms.length).data.toList, true) := by
    rw [Lib.cut, if_pos (by rw [hi]; omega), hi, Int.toNat_natCast, hd, List.take_left]
    have : (a.data.toList ++ 58 :: 32 :: (numsTo ms ms.length).data.toList).drop (a.data.toList.length + COL.data.toList.length) = (numsTo ms ms.length).data.toList := by
      rw [← List.drop_drop, List.drop_left]; rfl
    rw [this]
  rw [cutN, cutR, hcut]
  exact ⟨mkS_of _, mkS_of _⟩
theorem PGi_iff {s : ByteArray} {a : ByteArray} {ms : List Int} : PGi s = some (a, ms) ↔ okG a ms = true ∧ grpT a ms = s := by
  constructor
  · intro h
    obtain ⟨vs, -, h⟩ := Option.bind_eq_some_iff.1 h
    split at h
    · rename_i hk
      cases h
      exact okP_iff.1 hk
    · cases h
  · rintro ⟨h, rfl⟩
    obtain ⟨h1, h2⟩ := cut_text h
    have hn := ok_nat h
    have hp : pIs (ms.map itoaS) = some ms := pIs_iff.2 ⟨rfl, fun v hv => by
      have := risB_mem (okG_all h).2.2 v hv; omega⟩
    rw [PGi, h1, h2, splS_nums (okG_all h).2.1 (fun i hi => by have := hn i hi; omega), hp, Option.bind_some, if_pos (okP_iff.2 ⟨h, rfl⟩)]
theorem PGs_iff {s : ByteArray} {a : ByteArray} {ms : List Int} : PGs s = some (a, ms) ↔ okG a ms = true ∧ grpT a ms = s := by
  constructor
  · intro h
    rw [PGs] at h
    split at h
    · rename_i hk
      rw [Bool.and_eq_true] at hk
      cases h
      exact okP_iff.1 hk.2
    · cases h
  · rintro ⟨h, rfl⟩
    have hc := gnm_chars (okG_all h).1
    have hd := grpT_data a ms
    have hn := ok_nat h
    have hpos := (okG_all h).2.1
    have hsz := gnm_size (okG_all h).1
    have hns := numsTo_size (xs := ms) (fun i hi => by have := hn i hi; omega) ms.length (Nat.le_refl _)
    have hl7 : ms.length ≤ 7 := by
      have hasc := risB_asc (okG_all h).2.2
      have := asc_len (n := 8) ms 1 hasc (fun y hy => by have := risB_mem (okG_all h).2.2 y hy; omega)
      omega
    have hsp : splS (grpT a ms) 58 = [a, mkS (32 :: (numsTo ms ms.length).data.toList)] := by
      rw [splS, hd, spl_hit _ hc, spl_end (fun c hc2 => ?_)]
      · simp only [List.map_cons, List.map_nil, mkS_of]
      · rcases List.mem_cons.1 hc2 with rfl | hc2
        · decide
        · rcases nums_chars (fun i hi => by have := hn i hi; omega) ms.length (Nat.le_refl _) c hc2 with rfl | h3
          · decide
          · rintro rfl; simp at h3
    have hbs : (grpT a ms).size ≤ 40 := by
      rw [grpT, ByteArray.size_append, ByteArray.size_append]
      have : COL.size = 2 := rfl
      omega
    have hnp : 0 < (numsTo ms ms.length).size := by
      obtain ⟨n, hn2⟩ : ∃ n, ms.length = n + 1 := ⟨ms.length - 1, by omega⟩
      rw [hn2, numsTo, ByteArray.size_append]
      have := itoaS_pos (ms.getD n 0)
      omega
    have hx : (mkS (32 :: (numsTo ms ms.length).data.toList)).extract 1 (mkS (32 :: (numsTo ms ms.length).data.toList)).size = numsTo ms ms.length := by
      apply ByteArray.ext
      apply Array.ext'
      rw [Lib.extract_to_end, mkS_data]; rfl
    have hm : PGm (grpT a ms) = ms := by
      rw [PGm, hsp]
      show rdL (splS ((mkS (32 :: (numsTo ms ms.length).data.toList)).extract 1 (mkS (32 :: (numsTo ms ms.length).data.toList)).size) 44) = ms
      rw [hx, splS_nums hpos (fun i hi => by have := hn i hi; omega), rdL, List.map_map]
      conv => rhs; rw [← List.map_id ms]
      refine List.map_congr_left fun v hv => ?_
      have := risB_mem (okG_all h).2.2 v hv
      show (pI (itoaS v)).getD 0 = v
      rw [pI_itoa (by omega) (by omega)]; rfl
    have hna : PGn (grpT a ms) = a := by rw [PGn, hsp]; rfl
    have hb : PGb (grpT a ms) = true := by
      rw [PGb, hsp]
      simp only [Bool.and_eq_true, decide_eq_true_eq]
      refine ⟨hbs, rfl, ?_⟩
      show 2 ≤ (mkS (32 :: (numsTo ms ms.length).data.toList)).size
      rw [mkS_size, List.length_cons]
      have : (numsTo ms ms.length).data.toList.length = (numsTo ms ms.length).size := by simp
      omega
    rw [PGs, hb, hm, hna, if_pos (by rw [Bool.true_and]; exact okP_iff.2 ⟨h, rfl⟩)]
theorem PG_same (s : ByteArray) : PGi s = PGs s := by
  cases h : PGs s with
  | none =>
    cases h2 : PGi s with
    | none => rfl
    | some x => obtain ⟨a, ms⟩ := x; rw [PGs_iff.2 (PGi_iff.1 h2)] at h; cases h
  | some x => obtain ⟨a, ms⟩ := x; exact PGi_iff.2 (PGs_iff.1 h)
end Go.Proofs.YtlaochpkelbchaaGreatDoor
