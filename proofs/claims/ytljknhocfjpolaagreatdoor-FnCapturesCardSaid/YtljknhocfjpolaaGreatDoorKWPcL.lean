/- The capture of a text: what is parsed, in plain words. -/
import Derived.Test.YtljknhocfjpolaaGreatDoorKWCapText
import Derived.Test.YtljknhocfjpolaaGreatDoorJ34
import Derived.Test.YtljknhocfjpolaaGreatDoorKWRdN
namespace Go.Proofs.YtljknhocfjpolaaGreatDoor
open Go.RowKit
set_option maxHeartbeats 400000
/-- The value of a digit, or -1. -/
def hexV (b : UInt8) : Int := Lib.indexByte HEX.data.toList b
theorem hexV_all : ((List.range 16).all fun n => hexV (hxb n) == (n : Int)) = true := by decide +kernel
theorem hexV_hxb {n : Nat} (h : n < 16) : hexV (hxb n) = n := by
  have := (List.all_eq_true.1 hexV_all) n (List.mem_range.2 h)
  exact beq_iff_eq.1 this
theorem hxb_all : ((List.range 16).all fun n => decide (48 ≤ (hxb n).toNat) && decide ((hxb n).toNat ≤ 70)) = true := by decide +kernel
theorem hxb_bd {n : Nat} (h : n < 16) : 48 ≤ (hxb n).toNat ∧ (hxb n).toNat ≤ 70 := by
  have := (List.all_eq_true.1 hxb_all) n (List.mem_range.2 h)
  simpa using this
theorem hexV_bd (b : UInt8) : -1 ≤ hexV b ∧ hexV b ≤ 15 := by
  refine ⟨Lib.indexByte_ge _ _, ?_⟩
  by_cases h : hexV b ≤ 15
  · exact h
  · obtain ⟨o, ho⟩ : ∃ o : Nat, Lib.indexByte HEX.data.toList b = o := ⟨(hexV b).toNat, by have : hexV b = Lib.indexByte HEX.data.toList b := rfl; omega⟩
    have h1 := (Lib.indexByte_some ho).1
    have h2 := (List.getElem?_eq_some_iff.1 h1).1
    have h3 : HEX.data.toList.length = 16 := rfl
    have : hexV b = Lib.indexByte HEX.data.toList b := rfl
    omega
def bt (s : ByteArray) (i : Nat) : UInt8 := s.data.toList.getD i 0
def octAt (s : ByteArray) (j : Nat) : Int := 16 * hexV (bt s (2 * j)) + hexV (bt s (2 * j + 1))
def octsTo (s : ByteArray) (k : Nat) : List Int := (List.range k).map (octAt s)
def hexOk (s : ByteArray) : Bool := (List.range s.size).all fun i => decide (0 ≤ hexV (bt s i))
theorem octsTo_len (s : ByteArray) (k : Nat) : (octsTo s k).length = k := by simp [octsTo]
theorem octsTo_snoc (s : ByteArray) (k : Nat) : octsTo s (k + 1) = octsTo s k ++ [octAt s k] := by simp [octsTo, List.range_succ]
theorem octsTo_get (s : ByteArray) (k i : Nat) (h : i < k) : (octsTo s k).getD i 0 = octAt s i := by
  rw [List.getD_eq_getElem?_getD, octsTo, List.getElem?_map, List.getElem?_range h]; rfl
theorem hexOk_at {s : ByteArray} (h : hexOk s = true) (i : Nat) (hi : i < s.size) : 0 ≤ hexV (bt s i) := by
  have := List.all_eq_true.1 h i (List.mem_range.2 hi)
  simpa using this
theorem hexOk_no {s : ByteArray} (i : Nat) (hi : i < s.size) (h : hexV (bt s i) < 0) : hexOk s = false := by
  rw [hexOk, List.all_eq_false]
  exact ⟨i, List.mem_range.2 hi, by simp; omega⟩
theorem oct_bd {s : ByteArray} (h : hexOk s = true) {j : Nat} (hj : 2 * j + 1 < s.size) : 0 ≤ octAt s j ∧ octAt s j ≤ 255 := by
  have h1 := hexOk_at h (2 * j) (by omega)
  have h2 := hexOk_at h (2 * j + 1) hj
  have h3 := (hexV_bd (bt s (2 * j))).2
  have h4 := (hexV_bd (bt s (2 * j + 1))).2
  unfold octAt
  omega
theorem octs_small {s : ByteArray} (h : hexOk s = true) {k : Nat} (hk : 2 * k ≤ s.size) : small (octsTo s k) := fun i hi => by
  rw [octsTo_len] at hi
  rw [octsTo_get s k i hi]
  exact oct_bd h (by omega)
theorem hexTo_data (L : List Int) (k : Nat) : (hexTo L (k + 1)).data.toList = (hexTo L k).data.toList ++ [hxb ((L.getD k 0).toNat / 16), hxb ((L.getD k 0).toNat % 16)] := by
  rw [hexTo]
  simp [ByteArray.data_append]
theorem hexTo_llen (L : List Int) (k : Nat) : (hexTo L k).data.toList.length = 2 * k := by
  have := hexTo_size L k
  rw [← this]; simp
theorem hexTo_at (L : List Int) : ∀ k j, j < k → bt (hexTo L k) (2 * j) = hxb ((L.getD j 0).toNat / 16) ∧ bt (hexTo L k) (2 * j + 1) = hxb ((L.getD j 0).toNat % 16)
  | 0, j, h => absurd h (Nat.not_lt_zero _)
  | k + 1, j, h => by
    unfold bt
    rw [hexTo_data, List.getD_eq_getElem?_getD, List.getD_eq_getElem?_getD (i := 2 * j + 1), List.getElem?_append, List.getElem?_append, hexTo_llen]
    by_cases hj : j < k
    · rw [if_pos (by omega), if_pos (by omega)]
      have := hexTo_at L k j hj
      unfold bt at this
      rw [List.getD_eq_getElem?_getD, List.getD_eq_getElem?_getD (i := 2 * j + 1)] at this
      exact this
    · obtain rfl : j = k := by omega
      rw [if_neg (by omega), if_neg (by omega), show 2 * j - 2 * j = 0 by omega, show 2 * j + 1 - 2 * j = 1 by omega]
      exact ⟨rfl, rfl⟩
theorem hexTo_chars {L : List Int} (hs : small L) : ∀ k, k ≤ L.length → ∀ c ∈ (hexTo L k).data.toList, 48 ≤ c.toNat ∧ c.toNat ≤ 70
  | 0, _, c, h => by cases h
  | k + 1, hk, c, h => by
    rw [hexTo_data, List.mem_append] at h
    rcases h with h | h
    · exact hexTo_chars hs k (by omega) c h
    · have := hs k (by omega)
      simp only [List.mem_cons, List.not_mem_nil, or_false] at h
      rcases h with rfl | rfl
      · exact hxb_bd (by omega)
      · exact hxb_bd (by omega)
theorem hexT_back {L : List Int} (hs : small L) : octsTo (hexT L) L.length = L ∧ hexOk (hexT L) = true := by
  refine ⟨?_, ?_⟩
  · apply List.ext_getElem (by rw [octsTo_len])
    intro i h1 h2
    have e1 : (octsTo (hexT L) L.length)[i] = octAt (hexT L) i := by simp [octsTo]
    have hi := hs i h2
    have e2 : L.getD i 0 = L[i] := by rw [List.getD_eq_getElem?_getD, List.getElem?_eq_getElem h2]; rfl
    obtain ⟨a, b⟩ := hexTo_at L L.length i h2
    rw [e1, octAt, hexT, a, b, hexV_hxb (by omega), hexV_hxb (by omega), ← e2]
    omega
  · rw [hexOk, List.all_eq_true]
    intro i hi
    have hi := List.mem_range.1 hi
    rw [hexT, hexTo_size] at hi
    rw [decide_eq_true_eq]
    have hj := hs (i / 2) (by omega)
    obtain ⟨a, b⟩ := hexTo_at L L.length (i / 2) (by omega)
    rcases (show i = 2 * (i / 2) ∨ i = 2 * (i / 2) + 1 by omega) with e | e
    · rw [e, hexT, a, hexV_hxb (by omega)]; omega
    · rw [e, hexT, b, hexV_hxb (by omega)]; omega
/-! ### The packet of octets -/
def pkC (L : List Int) : Int := L.getD 0 0
def pkM (L : List Int) : Int := 256 * L.getD 1 0 + L.getD 2 0
def pkR (L : List Int) : Int := 256 * L.getD 3 0 + L.getD 4 0
def pkE (L : List Int) : Int := 256 * L.getD 5 0 + L.getD 6 0
def datTo (L : List Int) (k : Nat) : ByteArray := mkS ((List.range k).map fun i => UInt8.ofNat (L.getD (8 + i) 0).toNat)
def pkD (L : List Int) : ByteArray := datTo L (L.length - 10)
theorem datTo_size (L : List Int) (k : Nat) : (datTo L k).size = k := by rw [datTo, mkS_size]; simp
theorem datTo_snoc (L : List Int) (k : Nat) : datTo L (k + 1) = datTo L k ++ mkS [UInt8.ofNat (L.getD (8 + k) 0).toNat] := by
  rw [datTo, datTo, ← mkS_app, List.range_succ, List.map_append]; rfl
def okPL (L : List Int) : Bool := okPk (pkC L) (pkM L) (pkR L) (pkE L) (pkD L)
def txPL (L : List Int) : ByteArray := hexT (octL (pkC L) (pkM L) (pkR L) (pkE L) (pkD L))
def ocs (s : ByteArray) : List Int := octsTo s (s.size / 2)
def hexB (s : ByteArray) : Bool := decide (s.size % 2 = 0) && hexOk s
def DPb (s : ByteArray) : Bool := hexB s && (decide (20 ≤ s.size) && (decide (s.size ≤ 36) && (okPL (ocs s) && decide (txPL (ocs s) = s))))
theorem octL_form (c m r l : Int) (d : ByteArray) : octL c m r l d = c :: m / 256 :: m % 256 :: r / 256 :: r % 256 :: l / 256 :: l % 256 :: (d.size : Int) :: (bys d d.size ++ [chk (octB c m r l d d.size) / 256, chk (octB c m r l d d.size) % 256]) := by
  rw [octL, octB, octH]; rfl
theorem DP_back {c m r l : Int} {d : ByteArray} (h : okPk c m r l d = true) :
    DPb (hexT (octL c m r l d)) = true ∧ ocs (hexT (octL c m r l d)) = octL c m r l d ∧ pkC (octL c m r l d) = c ∧ pkM (octL c m r l d) = m ∧ pkR (octL c m r l d) = r ∧ pkE (octL c m r l d) = l ∧ pkD (octL c m r l d) = d := by
  have hs := octL_small h
  have h8 := (octB_small h).2
  have hl := octL_len c m r l d
  have hz : (hexT (octL c m r l d)).size = 2 * (10 + d.size) := by rw [hexT, hexTo_size, hl]
  obtain ⟨b1, b2⟩ := hexT_back hs
  have e0 : ocs (hexT (octL c m r l d)) = octL c m r l d := by
    rw [ocs, hz, show 2 * (10 + d.size) / 2 = (octL c m r l d).length by omega]; exact b1
  have e1 : pkC (octL c m r l d) = c := by rw [octL_form]; rfl
  have e2 : pkM (octL c m r l d) = m := by rw [octL_form]; show 256 * (m / 256) + m % 256 = m; omega
  have e3 : pkR (octL c m r l d) = r := by rw [octL_form]; show 256 * (r / 256) + r % 256 = r; omega
  have e4 : pkE (octL c m r l d) = l := by rw [octL_form]; show 256 * (l / 256) + l % 256 = l; omega
  have e5 : pkD (octL c m r l d) = d := by
    rw [pkD, hl, show 10 + d.size - 10 = d.size by omega]
    apply ByteArray.ext
    apply Array.ext'
    rw [datTo, mkS_data]
    have hdl : d.data.toList.length = d.size := by simp
    apply List.ext_getElem (by simp)
    intro i h1 h2
    rw [List.getElem_map, List.getElem_range]
    have hi : i < d.size := by omega
    have hg : (octL c m r l d).getD (8 + i) 0 = ((d.data.toList[i]).toNat : Int) := by
      rw [octL_form, List.getD_eq_getElem?_getD, show 8 + i = i + 1 + 1 + 1 + 1 + 1 + 1 + 1 + 1 by omega]
      simp only [List.getElem?_cons_succ]
      rw [List.getElem?_append_left (by rw [bys_len d _ (Nat.le_refl _)]; exact hi), bys, List.getElem?_map, List.getElem?_take, if_pos hi, List.getElem?_eq_getElem h2]
      rfl
    rw [hg, Int.toNat_natCast]
    simp
  refine ⟨?_, e0, e1, e2, e3, e4, e5⟩
  rw [DPb, e0, okPL, txPL, e1, e2, e3, e4, e5, h, hexB, b2, hz]
  simp only [Bool.and_eq_true, decide_eq_true_eq]
  exact ⟨⟨by omega, trivial⟩, by omega, by omega, trivial, trivial⟩
/-! ### An element's line -/
theorem itoa_dig {v : Int} (h : 0 ≤ v) : ∀ c ∈ (itoaS v).data.toList, 48 ≤ c.toNat ∧ c.toNat ≤ 57 := by
  obtain ⟨n, rfl⟩ := Int.eq_ofNat_of_zero_le h
  intro c hc
  rw [itoaS_nat] at hc
  obtain ⟨i, hi⟩ := List.mem_iff_getElem?.1 hc
  exact dig_all n i c hi
def upT : ByteArray := ⟨#[117, 112]⟩
def dnT : ByteArray := ⟨#[100, 111, 119, 110]⟩
def dirT (u : Bool) : ByteArray := if u then upT else dnT
theorem wayT_data (u : Bool) : (wayT u).data.toList = 32 :: ((dirT u).data.toList ++ [32]) := by cases u <;> rfl
theorem capL_data (x : Cap) : (capL x).data.toList = (itoaS x.t).data.toList ++ 32 :: ((itoaS x.n).data.toList ++ 32 :: ((dirT x.u).data.toList ++ 32 :: (hexT (octL x.c x.m x.r x.l x.d)).data.toList)) := by
  rw [capL]
  simp only [ByteArray.data_append, Array.toList_append, wayT_data]
  simp
theorem dirT_chars (u : Bool) : ∀ c ∈ (dirT u).data.toList, c ≠ 32 ∧ c ≠ 10 := by cases u <;> decide
theorem okC_parts {x : Cap} (h : okC x = true) : (0 ≤ x.t ∧ x.t ≤ 10000) ∧ (1 ≤ x.n ∧ x.n ≤ 7) ∧ okPk x.c x.m x.r x.l x.d = true := okC_all (t := x.t) (n := x.n) (u := x.u) h
theorem hexL_chars {x : Cap} (h : okC x = true) : ∀ c ∈ (hexT (octL x.c x.m x.r x.l x.d)).data.toList, 48 ≤ c.toNat ∧ c.toNat ≤ 70 :=
  hexTo_chars (octL_small (okC_parts h).2.2) _ (Nat.le_refl _)
theorem ne_of_ge {c b : UInt8} (h : 48 ≤ c.toNat) (hb : b.toNat < 48) : c ≠ b := fun e => by rw [e] at h; omega
theorem capL_spl {x : Cap} (h : okC x = true) : splS (capL x) 32 = [itoaS x.t, itoaS x.n, dirT x.u, hexT (octL x.c x.m x.r x.l x.d)] := by
  obtain ⟨⟨h1, h2⟩, ⟨h3, h4⟩, hp⟩ := okC_parts h
  rw [splS, capL_data, spl_hit _ (fun c hc => ne_of_ge (itoa_dig h1 c hc).1 (by decide)), spl_hit _ (fun c hc => ne_of_ge (itoa_dig (by omega) c hc).1 (by decide)), spl_hit _ (fun c hc => (dirT_chars x.u c hc).1),
    spl_end (fun c hc => ne_of_ge (hexL_chars h c hc).1 (by decide))]
  simp only [List.map_cons, List.map_nil, mkS_of]
theorem capL_clean {x : Cap} (h : okC x = true) : ∀ c ∈ (capL x).data.toList, c ≠ 10 := by
  obtain ⟨⟨h1, h2⟩, ⟨h3, h4⟩, hp⟩ := okC_parts h
  intro c hc
  rw [capL_data] at hc
  simp only [List.mem_append, List.mem_cons] at hc
  rcases hc with hc | rfl | hc | rfl | hc | rfl | hc
  · exact ne_of_ge (itoa_dig h1 c hc).1 (by decide)
  · decide
  · exact ne_of_ge (itoa_dig (by omega) c hc).1 (by decide)
  · decide
  · exact (dirT_chars x.u c hc).2
  · decide
  · exact ne_of_ge (hexL_chars h c hc).1 (by decide)
/-- The element of a line's words. -/
def wdX (W : List ByteArray) : Cap := ⟨(pI (W.getD 0 ByteArray.empty)).getD 0, (pI (W.getD 1 ByteArray.empty)).getD 0, decide (W.getD 2 ByteArray.empty = upT), pkC (ocs (W.getD 3 ByteArray.empty)), pkM (ocs (W.getD 3 ByteArray.empty)), pkR (ocs (W.getD 3 ByteArray.empty)), pkE (ocs (W.getD 3 ByteArray.empty)), pkD (ocs (W.getD 3 ByteArray.empty))⟩
def wdB (W : List ByteArray) : Bool := decide (W.length = 4) && ((pI (W.getD 0 ByteArray.empty)).isSome && ((pI (W.getD 1 ByteArray.empty)).isSome && DPb (W.getD 3 ByteArray.empty)))
theorem dirT_up (u : Bool) : decide (dirT u = upT) = u := by cases u <;> decide
theorem wd_back {x : Cap} (h : okC x = true) : wdB (splS (capL x) 32) = true ∧ wdX (splS (capL x) 32) = x := by
  obtain ⟨⟨h1, h2⟩, ⟨h3, h4⟩, hp⟩ := okC_parts h
  obtain ⟨d0, d1, d2, d3, d4, d5, d6⟩ := DP_back hp
  have e1 : pI (itoaS x.t) = some x.t := pI_itoa (by omega) (by omega)
  have e2 : pI (itoaS x.n) = some x.n := pI_itoa (by omega) (by omega)
  rw [capL_spl h]
  refine ⟨?_, ?_⟩
  · rw [wdB]
    show (true && ((pI (itoaS x.t)).isSome && ((pI (itoaS x.n)).isSome && DPb (hexT (octL x.c x.m x.r x.l x.d))))) = true
    rw [e1, e2, d0]; rfl
  · rw [wdX]
    show (⟨(pI (itoaS x.t)).getD 0, (pI (itoaS x.n)).getD 0, decide (dirT x.u = upT), pkC (ocs (hexT (octL x.c x.m x.r x.l x.d))), pkM (ocs (hexT (octL x.c x.m x.r x.l x.d))), pkR (ocs (hexT (octL x.c x.m x.r x.l x.d))), pkE (ocs (hexT (octL x.c x.m x.r x.l x.d))), pkD (ocs (hexT (octL x.c x.m x.r x.l x.d)))⟩ : Cap) = x
    rw [e1, e2, d1, d2, d3, d4, d5, d6, dirT_up]; rfl
theorem capL_inj {x y : Cap} (hx : okC x = true) (hy : okC y = true) (h : capL x = capL y) : x = y := by
  rw [← (wd_back hx).2, ← (wd_back hy).2, h]
/-! ### The whole text -/
def capR : List Cap → List UInt8
  | [] => []
  | x :: xs => (capL x).data.toList ++ 10 :: capR xs
theorem capTo_capR (xs : List Cap) : ∀ k, k ≤ xs.length → (capTo xs k).data.toList ++ capR (xs.drop k) = capR xs
  | 0, _ => by rw [List.drop_zero]; rfl
  | k + 1, hk => by
    have ih := capTo_capR xs k (by omega)
    have hd : xs.drop k = xs.getD k .z :: xs.drop (k + 1) := by
      rw [List.drop_eq_getElem_cons (by omega), List.getD_eq_getElem?_getD, List.getElem?_eq_getElem (by omega)]; rfl
    rw [hd] at ih
    rw [← ih, capTo, capR]
    simp [ByteArray.data_append]
theorem capT_R (xs : List Cap) : (capTo xs xs.length).data.toList = capR xs := by
  have := capTo_capR xs xs.length (Nat.le_refl _)
  rwa [List.drop_length, capR, List.append_nil] at this
theorem capR_spl : ∀ {xs : List Cap}, (∀ x ∈ xs, okC x = true) → spl 10 (capR xs) = xs.map (fun x => (capL x).data.toList) ++ [[]]
  | [], _ => rfl
  | x :: xs, h => by
    rw [capR, spl_hit _ (capL_clean (h x (by simp))), capR_spl (fun y hy => h y (by simp [hy]))]; rfl
theorem okC_of {xs : List Cap} (h : capB xs = true) : ∀ x ∈ xs, okC x = true := fun x hx => by
  obtain ⟨i, hi, rfl⟩ := List.mem_iff_getElem.1 hx
  have := ((cap_iff h).2 i hi).1
  rwa [List.getD_eq_getElem?_getD, List.getElem?_eq_getElem hi] at this
theorem capR_inj : ∀ {xs ys : List Cap}, (∀ x ∈ xs, okC x = true) → (∀ y ∈ ys, okC y = true) → capR xs = capR ys → xs = ys := fun {xs ys} hx hy h => by
  have h1 := capR_spl hx
  rw [h, capR_spl hy, List.append_left_inj] at h1
  have key : ∀ {xs ys : List Cap}, (∀ x ∈ xs, okC x = true) → (∀ y ∈ ys, okC y = true) → ys.map (fun x => (capL x).data.toList) = xs.map (fun x => (capL x).data.toList) → xs = ys := by
    intro xs
    induction xs with
    | nil => intro ys _ _ e; cases ys with
      | nil => rfl
      | cons y ys => cases e
    | cons x xs ih => intro ys hx hy e; cases ys with
      | nil => cases e
      | cons y ys =>
        simp only [List.map_cons, List.cons.injEq] at e
        rw [ih (fun z hz => hx z (by simp [hz])) (fun z hz => hy z (by simp [hz])) e.2, capL_inj (hx x (by simp)) (hy y (by simp)) (by rw [← mkS_of (capL x), ← e.1, mkS_of])]
  exact key hx hy h1
/-- The capture of a text. -/
def isPC (s : ByteArray) (xs : List Cap) : Prop := capB xs = true ∧ capR xs = s.data.toList
open Classical in
noncomputable def PC (s : ByteArray) : Option (List Cap) := if h : ∃ xs, isPC s xs then some h.choose else none
theorem PC_some {s : ByteArray} {xs : List Cap} (h : isPC s xs) : PC s = some xs := by
  have h1 : ∃ xs, isPC s xs := ⟨xs, h⟩
  rw [PC, dif_pos h1]
  have h2 := h1.choose_spec
  exact congrArg some (capR_inj (okC_of h2.1) (okC_of h.1) (h2.2.trans h.2.symm))
theorem PC_none {s : ByteArray} (h : ∀ xs, ¬ isPC s xs) : PC s = none := by
  rw [PC, dif_neg]
  rintro ⟨xs, hx⟩
  exact h xs hx
theorem PC_of {s : ByteArray} {xs : List Cap} (h : PC s = some xs) : isPC s xs := by
  rw [PC] at h
  split at h
  · rename_i h1; cases h; exact h1.choose_spec
  · cases h
theorem isPC_iff {s : ByteArray} {xs : List Cap} : isPC s xs ↔ capB xs = true ∧ capTo xs xs.length = s := by
  refine and_congr_right fun _ => ⟨fun h => ?_, fun h => by rw [← h, capT_R]⟩
  rw [← mkS_of s, ← h, ← capT_R, mkS_of]
def pcL (o : Option (List Cap)) : List Cap := o.getD []
theorem itoa_le5 {v : Int} (h : 0 ≤ v ∧ v ≤ 10000) : (itoaS v).size ≤ 5 := by
  obtain ⟨n, rfl⟩ := Int.eq_ofNat_of_zero_le h.1
  rw [itoaS_nat]
  have := decDigits_le 4 n (by omega)
  show (Lib.decDigits n).toArray.size ≤ 5
  simpa using this
theorem capL_le {x : Cap} (h : okC x = true) : (capL x).size ≤ 53 := by
  obtain ⟨h1, h2, hp⟩ := okC_parts h
  have a := itoa_le5 h1
  have b := itoa_le5 (v := x.n) (by omega)
  have h3 := hexT_size hp
  have h4 : (wayT x.u).size ≤ 6 := by cases x.u <;> decide
  unfold capL
  simp only [ByteArray.size_append]
  show _ + 1 + _ + _ + _ ≤ 53
  omega
theorem capR_len : ∀ {xs : List Cap}, (∀ x ∈ xs, okC x = true) → (capR xs).length ≤ 54 * xs.length
  | [], _ => Nat.le_refl _
  | x :: xs, h => by
    have h1 := capL_le (h x (by simp))
    have h2 := capR_len (xs := xs) (fun y hy => h y (by simp [hy]))
    have e : (capL x).data.toList.length = (capL x).size := by simp
    rw [capR, List.length_append, List.length_cons, List.length_cons]
    omega
theorem isPC_size {s : ByteArray} {xs : List Cap} (h : isPC s xs) : s.size ≤ 540 := by
  have h1 := capR_len (okC_of h.1)
  have h2 := (cap_iff h.1).1
  rw [h.2] at h1
  have e : s.data.toList.length = s.size := by simp
  omega
/-! ### The reference's lines -/
def pcB (s : ByteArray) : Bool := wdB (splS s 32) && (okC (wdX (splS s 32)) && decide (capL (wdX (splS s 32)) = s))
theorem pcB_yes {s : ByteArray} (h : pcB s = true) : okC (wdX (splS s 32)) = true ∧ capL (wdX (splS s 32)) = s := by
  simp only [pcB, Bool.and_eq_true, decide_eq_true_eq] at h
  exact h.2
theorem pcB_back {x : Cap} (h : okC x = true) : pcB (capL x) = true ∧ wdX (splS (capL x) 32) = x := by
  obtain ⟨h1, h2⟩ := wd_back h
  refine ⟨?_, h2⟩
  rw [pcB, h1, h2, h]
  simp
theorem jnB_spl (b : UInt8) : ∀ l, jnB b (spl b l) = l
  | [] => rfl
  | c :: l => by
    have ih := jnB_spl b l
    have hn := spl_ne b l
    rw [spl]
    split
    · rename_i h
      cases e : spl b l with
      | nil => exact absurd e hn
      | cons p ps => rw [e] at ih; rw [jnB, ih, h]; rfl
    · cases e : spl b l with
      | nil => exact absurd e hn
      | cons p ps =>
        rw [e] at ih
        cases ps with
        | nil => rw [jnB] at ih; show c :: p = _; rw [ih]
        | cons q ps => rw [jnB] at ih; show (c :: p) ++ b :: jnB b (q :: ps) = _; rw [← ih]; rfl
theorem jnB_capR : ∀ xs : List Cap, jnB 10 (xs.map (fun x => (capL x).data.toList) ++ [[]]) = capR xs
  | [] => rfl
  | [x] => rfl
  | x :: y :: xs => by
    have ih := jnB_capR (y :: xs)
    rw [capR, ← ih]; rfl
/-- The lines of the reference, where all is well. -/
theorem pc_lines {s : ByteArray} {xs : List Cap} (h : isPC s xs) : splS s 10 = xs.map capL ++ [⟨#[]⟩] := by
  rw [splS, ← h.2, capR_spl (okC_of h.1), List.map_append, List.map_map]
  exact congrArg (· ++ [(⟨#[]⟩ : ByteArray)]) (List.map_congr_left fun x _ => mkS_of _)
theorem pc_sound {s : ByteArray} {xs : List Cap} (h : splS s 10 = xs.map capL ++ [⟨#[]⟩]) : capR xs = s.data.toList := by
  have h1 : spl 10 s.data.toList = xs.map (fun x => (capL x).data.toList) ++ [[]] := by
    have h2 := congrArg (List.map (fun b : ByteArray => b.data.toList)) h
    rw [splS, List.map_map, List.map_append, List.map_map] at h2
    rw [show ((fun b : ByteArray => b.data.toList) ∘ mkS) = id from funext fun l => mkS_data l, List.map_id] at h2
    exact h2
  rw [← jnB_capR, ← h1, jnB_spl]
/-! ### The program's lines -/
def lnE (R : List UInt8) : Nat := if Lib.indexByte R 10 = -1 then R.length else (Lib.indexByte R 10).toNat + 1
def lnA (R : ByteArray) : ByteArray := mkS (R.data.toList.take (lnE R.data.toList))
def lnZ (R : ByteArray) : ByteArray := mkS (R.data.toList.drop (lnE R.data.toList))
theorem ln_cap {R : ByteArray} {x : Cap} {xs : List Cap} (hx : okC x = true) (h : R.data.toList = capR (x :: xs)) : lnA R = capL x ++ ⟨#[10]⟩ ∧ (lnZ R).data.toList = capR xs := by
  have hi : Lib.indexByte R.data.toList 10 = (capL x).data.toList.length := by rw [h, capR, indexB_hit _ (capL_clean hx)]
  have he : lnE R.data.toList = (capL x).data.toList.length + 1 := by
    rw [lnE, hi, if_neg (by omega), Int.toNat_natCast]
  have hR : R.data.toList = ((capL x).data.toList ++ [10]) ++ capR xs := by rw [h, capR]; simp
  refine ⟨?_, ?_⟩
  · rw [lnA, he, hR, List.take_left' (by simp), mkS_app, mkS_of]; rfl
  · rw [lnZ, mkS_data, he, hR, List.drop_left' (by simp)]
end Go.Proofs.YtljknhocfjpolaaGreatDoor
