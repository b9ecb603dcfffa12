/- The laws between taking, lacking and dropping: plain. -/
import Derived.Test.YtnngklclehffhaaGreatDoorKWTfM
namespace Go.Proofs.YtnngklclehffhaaGreatDoor
open Go.RowKit
set_option maxHeartbeats 400000
theorem okL_iff (ps : List Pnd) : okL ps = true ↔ (∀ p ∈ ps, okS p = true) ∧ (ps.map Pnd.n).Nodup ∧ ps.length ≤ 4 := by
  constructor
  · intro h
    refine ⟨fun p hp => ?_, ?_, okL_len h⟩
    · obtain ⟨i, hi, rfl⟩ := List.mem_iff_getElem.1 hp
      have := (okL_at h i hi).1
      rwa [List.getD_eq_getElem?_getD, List.getElem?_eq_getElem hi] at this
    · rw [List.Nodup, List.pairwise_iff_getElem]
      intro i j hi hj hij
      rw [List.length_map] at hi hj
      have := (okL_at h j hj).2 i hij
      rw [List.getD_eq_getElem?_getD, List.getD_eq_getElem?_getD, List.getElem?_eq_getElem hi, List.getElem?_eq_getElem hj] at this
      simpa using this
  · rintro ⟨h1, h2, h3⟩
    rw [okL, Bool.and_eq_true, decide_eq_true_eq]
    refine ⟨List.all_eq_true.2 fun i hi => ?_, h3⟩
    have hi := List.mem_range.1 hi
    rw [okP, Bool.and_eq_true, decide_eq_true_eq]
    refine ⟨h1 _ (getD_mem' hi), (fndP_take ps i (by omega) _).2 fun j hj => ?_⟩
    rw [List.Nodup, List.pairwise_iff_getElem] at h2
    have := h2 j i (by rw [List.length_map]; omega) (by rw [List.length_map]; omega) hj
    rw [List.getD_eq_getElem?_getD, List.getD_eq_getElem?_getD, List.getElem?_eq_getElem hi, List.getElem?_eq_getElem (by omega)]
    simpa using this
theorem fndP_neg {ps : List Pnd} {x : Int} : fndP ps x < 0 ↔ x ∉ ps.map Pnd.n := by
  rcases hitG_cases (fun p : Pnd => p.n == x) ps .z with ⟨h1, h2⟩ | ⟨k, h0, h1, h2, -⟩
  · rw [fndP, h1]
    refine ⟨fun _ hx => ?_, fun _ => by omega⟩
    obtain ⟨p, hp, rfl⟩ := List.mem_map.1 hx
    obtain ⟨i, hi, rfl⟩ := List.mem_iff_getElem.1 hp
    have := h2 i hi
    rw [List.getD_eq_getElem?_getD, List.getElem?_eq_getElem hi] at this
    simp at this
  · rw [fndP, h1]
    refine ⟨fun h => by omega, fun h => absurd (List.mem_map.2 ⟨_, getD_mem' h0, by simpa using h2⟩) h⟩
theorem fndP_uni {ps : List Pnd} {x : Int} (hn : (ps.map Pnd.n).Nodup) {k : Nat} (hk : k < ps.length) (hx : (ps.getD k .z).n = x) : fndP ps x = k := by
  refine hitG_at (p := fun p : Pnd => p.n == x) (z := .z) hk (fun i hi => ?_) (by simpa using hx)
  rw [List.Nodup, List.pairwise_iff_getElem] at hn
  have := hn i k (by rw [List.length_map]; omega) (by rw [List.length_map]; omega) hi
  rw [List.getD_eq_getElem?_getD, List.getElem?_eq_getElem hk] at hx
  rw [List.getD_eq_getElem?_getD, List.getElem?_eq_getElem (by omega), beq_eq_false_iff_ne]
  rw [List.getElem_map, List.getElem_map] at this
  intro e
  exact this (e.trans hx.symm)
theorem ers_sl {α : Type} (l : List α) (i : Nat) : (ers l i).Sublist l := by
  have h := List.Sublist.append (List.Sublist.refl (l.take i)) (List.drop_sublist_drop_left l (Nat.le_succ i))
  rw [List.take_append_drop] at h
  exact h
theorem okL_sub {ps qs : List Pnd} (h : okL ps = true) (hs : qs.Sublist ps) : okL qs = true := by
  obtain ⟨h1, h2, h3⟩ := (okL_iff ps).1 h
  exact (okL_iff qs).2 ⟨fun p hp => h1 p (hs.subset hp), h2.sublist (hs.map _), Nat.le_trans hs.length_le h3⟩
/-- The number is not in a list without its pending. -/
theorem ers_gone {ps : List Pnd} (hn : (ps.map Pnd.n).Nodup) {k : Nat} (hk : k < ps.length) : (ps.getD k .z).n ∉ (ers ps k).map Pnd.n := by
  have e := split_at ps k .z hk
  rw [e, List.map_append, List.map_cons] at hn
  intro hx
  rw [ers, List.map_append] at hx
  have h1 := List.nodup_append.1 hn
  have h2 := List.nodup_cons.1 h1.2.1
  rcases List.mem_append.1 hx with h | h
  · exact h1.2.2 _ h _ (List.mem_cons_self ..) rfl
  · exact h2.1 h
theorem drop_law {ps : List Pnd} {x : Int} (h : lkB ps x = true) : lkB (drL ps x) x = false ∧ (drL ps x).length = ps.length - 1 := by
  have hok := lkB_okL h
  rw [lkB, Bool.and_eq_true, decide_eq_true_eq] at h
  obtain ⟨k, hk, e, hx⟩ := fndP_get h.2
  have hd : drL ps x = ers ps k := by rw [drL_yes (by rw [lkB, hok, Bool.true_and]; exact decide_eq_true h.2), e]; rfl
  rw [hd]
  refine ⟨?_, ers_len ps k hk⟩
  have hg := ers_gone ((okL_iff ps).1 hok).2.1 hk
  rw [hx, ← fndP_neg] at hg
  rw [lkB, decide_eq_false (by omega), Bool.and_false]
theorem wF_nn (ps : List Pnd) (n : Int) (i q : Nat) (d : ByteArray) : (nxP ps n i q d).n = n := by
  rw [nxP, wF, stF]
  by_cases h : (bsP ps n).h.length = q
  · rw [if_pos h]; split <;> rfl
  · rw [if_neg h]; split <;> rfl
/-! ### The pending that a fragment makes -/
theorem nx_base {ps : List Pnd} {n : Int} {i q : Nat} {d : ByteArray} (hok : okL ps = true) (hq : 1 ≤ q) :
    ∃ b : Pnd, nxP ps n i q d = stF b i d ∧ b.n = n ∧ (b.d.length = q ∧ b.h.length = q) ∧ ∀ j, j < q → pok b j = true := by
  have fresh : ∀ j, j < q → pok (frP n q) j = true := fun j _ => by
    show (itm 8 ((List.replicate q ByteArray.empty).getD j ByteArray.empty) && ((List.replicate q false).getD j false || ((List.replicate q ByteArray.empty).getD j ByteArray.empty).data.toList.isEmpty)) = true
    rw [repP_get, repP_get]
    decide
  refine ⟨if (bsP ps n).h.length = q then ⟨n, (bsP ps n).d, (bsP ps n).h⟩ else frP n q, rfl, ?_⟩
  by_cases h : (bsP ps n).h.length = q
  · rw [if_pos h]
    have hne : 0 ≤ fndP ps n := by
      rcases Int.lt_or_le (fndP ps n) 0 with h0 | h0
      · rw [bsP, if_neg (by omega)] at h
        have h : 0 = q := h
        omega
      · exact h0
    obtain ⟨k, hk, e, -⟩ := fndP_get hne
    rw [bsP, if_pos hne, e, Int.toNat_natCast] at h ⊢
    have hs := (okL_at hok k hk).1
    have hl := okS_len hs
    exact ⟨rfl, ⟨by show (ps.getD k .z).d.length = q; omega, h⟩, fun j hj => (okS_iff.1 hs).2.2.2.1 j (by omega)⟩
  · rw [if_neg h]
    exact ⟨rfl, ⟨List.length_replicate .., List.length_replicate ..⟩, fresh⟩
theorem st_facts {b : Pnd} {i q : Nat} {d : ByteArray} (hl : b.d.length = q ∧ b.h.length = q) (hp : ∀ j, j < q → pok b j = true) (hi : i < q) (hd : itm 8 d = true) :
    (stF b i d).n = b.n ∧ ((stF b i d).d.length = q ∧ (stF b i d).h.length = q) ∧ (∀ j, j < q → pok (stF b i d) j = true) ∧ (stF b i d).h.getD i false = true ∧ ∀ j, j < q → j ≠ i → (stF b i d).h.getD j false = b.h.getD j false := by
  cases hb : b.h.getD i false
  · have e : stF b i d = ⟨b.n, b.d.set i d, b.h.set i true⟩ := by rw [stF, hb]; rfl
    rw [e]
    refine ⟨rfl, ⟨by rw [List.length_set]; exact hl.1, by rw [List.length_set]; exact hl.2⟩, fun j hj => ?_, ?_, fun j hj hji => ?_⟩
    · have h0 := hp j hj
      rw [pok] at h0 ⊢
      dsimp only
      rw [getD_set' _ _ _ _ _ (by omega), getD_set' _ _ _ _ _ (by omega)]
      by_cases hji : j = i
      · rw [if_pos hji, if_pos hji, hd]; rfl
      · rw [if_neg hji, if_neg hji]; exact h0
    · show (b.h.set i true).getD i false = true
      rw [getD_set' _ _ _ _ _ (by omega), if_pos rfl]
    · show (b.h.set i true).getD j false = _
      rw [getD_set' _ _ _ _ _ (by omega), if_neg hji]
  · have e : stF b i d = b := by rw [stF, hb]; rfl
    rw [e]
    exact ⟨rfl, hl, hp, hb, fun _ _ _ => rfl⟩
theorem nx_ok {ps : List Pnd} {n : Int} {i q : Nat} {d : ByteArray} (hok : okL ps = true) (hF : okF ⟨n, i, q, d⟩ = true) (hw : whP (nxP ps n i q d) = false) : okS (nxP ps n i q d) = true := by
  obtain ⟨i', q', e1, e2, h1, h2, h3, h4⟩ := frag_nat hF
  obtain rfl : i = i' := by omega
  obtain rfl : q = q' := by omega
  obtain ⟨⟨hn0, hn1⟩, -⟩ := okF_iff hF
  obtain ⟨b, eb, bn, bl, bp⟩ := nx_base (n := n) (i := i) (d := d) hok h1
  rw [eb] at hw ⊢
  obtain ⟨s1, s2, s3, s4, -⟩ := st_facts bl bp h3 h4
  refine okS_iff.2 ⟨⟨by rw [s1, bn]; exact hn0, by rw [s1, bn]; exact hn1⟩, by rw [s2.1, s2.2], by rw [s2.1]; exact h2, fun j hj => s3 j (by omega), ?_, ?_⟩
  · rw [← s4]; exact getD_mem' (by omega)
  · rw [whP] at hw
    exact List.contains_iff_mem.1 (by simpa using hw)
theorem set_names {ps : List Pnd} {k : Nat} {x : Pnd} (hk : k < ps.length) (h : x.n = (ps.getD k .z).n) : (ps.set k x).map Pnd.n = ps.map Pnd.n := by
  rw [set_at ps k x hk]
  conv => rhs; rw [split_at ps k .z hk]
  simp [h]
theorem take_nd {ps : List Pnd} {k : Nat} (h : (ps.map Pnd.n).Nodup) : ((ps.drop k).map Pnd.n).Nodup := h.sublist ((List.drop_sublist k ps).map _)
/-- What is left when the message is not whole: valid, and the pending is in it. -/
theorem take_part {ps : List Pnd} {n : Int} {i q : Nat} {d : ByteArray} (hok : okL ps = true) (hF : okF ⟨n, i, q, d⟩ = true) (hw : whP (nxP ps n i q d) = false) :
    okL (tkR ps n i q d) = true ∧ ∃ k, k < (tkR ps n i q d).length ∧ (tkR ps n i q d).getD k .z = nxP ps n i q d := by
  have hS := nx_ok hok hF hw
  obtain ⟨o1, o2, o3⟩ := (okL_iff ps).1 hok
  have hn : (nxP ps n i q d).n = n := wF_nn ps n i q d
  rw [tkR, hw]
  by_cases h0 : 0 ≤ fndP ps n
  · obtain ⟨k, hk, e, hx⟩ := fndP_get h0
    rw [if_pos h0, if_neg (by decide), e, Int.toNat_natCast]
    refine ⟨(okL_iff _).2 ⟨fun p hp => ?_, ?_, by rw [List.length_set]; exact o3⟩, k, by rw [List.length_set]; exact hk, getD_set_self _ _ _ _ hk⟩
    · rcases List.mem_or_eq_of_mem_set hp with h | rfl
      · exact o1 p h
      · exact hS
    · rw [set_names hk (by rw [hn, hx])]; exact o2
  · rw [if_neg h0, if_neg (by decide)]
    have hno : n ∉ ps.map Pnd.n := fndP_neg.1 (by omega)
    have key : ∀ qs : List Pnd, (∀ p ∈ qs, p ∈ ps) → (qs.map Pnd.n).Nodup → qs.length ≤ 3 → okL (qs ++ [nxP ps n i q d]) = true ∧ ∃ k, k < (qs ++ [nxP ps n i q d]).length ∧ (qs ++ [nxP ps n i q d]).getD k .z = nxP ps n i q d := fun qs h1 h2 h3 => by
      refine ⟨(okL_iff _).2 ⟨fun p hp => ?_, ?_, by rw [List.length_append]; exact Nat.succ_le_succ h3⟩, qs.length, by rw [List.length_append]; exact Nat.lt_succ_self _, getD_app _ _ _⟩
      · rcases List.mem_append.1 hp with h | h
        · exact o1 p (h1 p h)
        · rw [List.mem_singleton.1 h]; exact hS
      · rw [List.map_append]
        refine List.nodup_append.2 ⟨h2, by simp, fun a ha b hb e => ?_⟩
        have hb2 : b = n := by simpa [hn] using hb
        obtain ⟨p, hp, e2⟩ := List.mem_map.1 ha
        exact hno (List.mem_map.2 ⟨p, h1 p hp, by rw [e2, e, hb2]⟩)
    by_cases h4 : ps.length = 4
    · rw [if_pos h4]
      exact key _ (fun p hp => List.mem_of_mem_drop hp) (take_nd o2) (by rw [List.length_drop]; omega)
    · rw [if_neg h4]
      exact key _ (fun p hp => hp) o2 (by omega)
theorem lacks_mem {h : List Bool} {x : Int} (hx : x ∈ lacks h) : ∃ j : Nat, x = (j : Int) ∧ h.getD j false = false := by
  rw [lacks, lacksTo] at hx
  obtain ⟨j, hj, rfl⟩ := List.mem_map.1 hx
  have := (List.mem_filter.1 hj).2
  exact ⟨j, rfl, by simpa using this⟩
theorem lacks_one {h : List Bool} {i : Nat} (hi : i < h.length) (h0 : h.getD i false = false) (h1 : ∀ j, j < h.length → j ≠ i → h.getD j false = true) : lacks h = [(i : Int)] := by
  have key : ∀ k, k ≤ h.length → lacksTo h k = if i < k then [(i : Int)] else [] := by
    intro k
    induction k with
    | zero => intro _; rfl
    | succ k ih =>
      intro hk
      rw [lacksTo_succ, ih (by omega)]
      by_cases hki : k = i
      · subst hki
        rw [h0, if_neg (by decide), if_neg (Nat.lt_irrefl _), if_pos (Nat.lt_succ_self _)]; rfl
      · rw [h1 k (by omega) hki, if_pos rfl]
        by_cases hlt : i < k
        · rw [if_pos hlt, if_pos (by omega)]
        · rw [if_neg hlt, if_neg (by omega)]
  rw [lacks, key _ (Nat.le_refl _), if_pos hi]
/-! ### The laws -/
theorem take_yes {ps : List Pnd} {n p q : Int} {d : ByteArray} (h : tkB ps n p q d = true) : ∃ i Q : Nat, p = (i : Int) ∧ q = (Q : Int) ∧ (1 ≤ Q ∧ i < Q ∧ itm 8 d = true) ∧ okL ps = true ∧ okF ⟨n, i, Q, d⟩ = true := by
  have h9 := h
  rw [tkB, Bool.and_eq_true] at h9
  obtain ⟨i, Q, rfl, rfl, h1, -, h3, h4⟩ := frag_nat h9.2
  exact ⟨i, Q, rfl, rfl, ⟨h1, h3, h4⟩, h9⟩
theorem take_ok {ps : List Pnd} {n p q : Int} {d : ByteArray} (h : tkB ps n p q d = true) : okL (tkO ps n p q d) = true := by
  obtain ⟨i, Q, rfl, rfl, h3, hok, hF⟩ := take_yes h
  obtain ⟨ty1, -, -⟩ := tk_yes h
  rw [ty1]
  cases hw : whP (nxP ps n i Q d)
  · exact (take_part hok hF hw).1
  · rw [tkR, hw]
    split
    · exact okL_sub hok (ers_sl _ _)
    · exact hok
theorem take_gone {ps : List Pnd} {n p q : Int} {d : ByteArray} (h : tkB ps n p q d = true) (hW : tkW ps n p q d = true) : lkB (tkO ps n p q d) n = false := by
  obtain ⟨i, Q, rfl, rfl, h3, hok, hF⟩ := take_yes h
  obtain ⟨ty1, ty2, -⟩ := tk_yes h
  rw [ty2] at hW
  have hneg : fndP (tkO ps n i Q d) n < 0 := by
    rw [ty1, tkR, hW]
    by_cases h0 : 0 ≤ fndP ps n
    · obtain ⟨k, hk, e, hx⟩ := fndP_get h0
      rw [if_pos h0, if_pos rfl, e, Int.toNat_natCast]
      have hg := ers_gone ((okL_iff ps).1 hok).2.1 hk
      rw [hx] at hg
      exact fndP_neg.2 hg
    · rw [if_neg h0, if_pos rfl]; omega
  rw [lkB, decide_eq_false (by omega), Bool.and_false]
theorem take_kept {ps : List Pnd} {n p q : Int} {d : ByteArray} (h : tkB ps n p q d = true) (hW : tkW ps n p q d = false) : lkB (tkO ps n p q d) n = true ∧ p ∉ lkL (tkO ps n p q d) n := by
  obtain ⟨i, Q, rfl, rfl, ⟨h1, h3, h4⟩, hok, hF⟩ := take_yes h
  obtain ⟨ty1, ty2, -⟩ := tk_yes h
  rw [ty2] at hW
  obtain ⟨hO, k, hk, hx⟩ := take_part hok hF hW
  rw [ty1]
  have hf : fndP (tkR ps n i Q d) n = (k : Int) := fndP_uni ((okL_iff _).1 hO).2.1 hk (by rw [hx]; exact wF_nn ps n i Q d)
  have hb : lkB (tkR ps n i Q d) n = true := by rw [lkB, hO, Bool.true_and, hf]; exact decide_eq_true (by omega)
  refine ⟨hb, fun hm => ?_⟩
  rw [lkL_yes hb, hf, Int.toNat_natCast, hx] at hm
  obtain ⟨j, e, h0⟩ := lacks_mem hm
  obtain rfl : i = j := by omega
  obtain ⟨b, eb, bn, bl, bp⟩ := nx_base (n := n) (i := i) (d := d) hok h1
  rw [eb, (st_facts bl bp h3 h4).2.2.2.1] at h0
  cases h0
theorem wh_all {p : Pnd} (h : whP p = true) (j : Nat) (hj : j < p.h.length) : p.h.getD j false = true := by
  cases e : p.h.getD j false
  · have : false ∈ p.h := by rw [← e]; exact getD_mem' hj
    rw [whP, show p.h.contains false = true from List.contains_iff_mem.2 this] at h
    cases h
  · rfl
theorem take_last {ps : List Pnd} {n p q : Int} {d : ByteArray} (h : tkB ps n p q d = true) (hW : tkW ps n p q d = true) (hq1 : 1 < q) : lkB ps n = true ∧ lkL ps n = [p] := by
  obtain ⟨i, Q, rfl, rfl, ⟨h1, h3, h4⟩, hok, hF⟩ := take_yes h
  obtain ⟨-, ty2, -⟩ := tk_yes h
  rw [ty2] at hW
  have hlen : (bsP ps n).h.length = Q := by
    rcases Nat.decEq (bsP ps n).h.length Q with hne | he
    · rw [nxP, wF, if_neg hne, fr_whole h3] at hW
      have := of_decide_eq_true hW
      omega
    · exact he
  have hne : 0 ≤ fndP ps n := by
    rcases Int.lt_or_le (fndP ps n) 0 with h0 | h0
    · rw [bsP, if_neg (by omega)] at hlen
      have hlen : 0 = Q := hlen
      omega
    · exact h0
  have hb : lkB ps n = true := by rw [lkB, hok, Bool.true_and]; exact decide_eq_true hne
  refine ⟨hb, ?_⟩
  rw [lkL_yes hb]
  have hbs : bsP ps n = ps.getD (fndP ps n).toNat .z := by rw [bsP, if_pos hne]
  rw [← hbs]
  obtain ⟨k, hk, e, -⟩ := fndP_get hne
  have hS : okS (bsP ps n) = true := by rw [hbs, e, Int.toNat_natCast]; exact (okL_at hok k hk).1
  have hl := okS_len hS
  have hb2 := okS_iff.1 hS
  have e9 : nxP ps n i Q d = stF ⟨n, (bsP ps n).d, (bsP ps n).h⟩ i d := by rw [nxP, wF, if_pos hlen]
  rw [e9] at hW
  obtain ⟨s1, s2, s3, s4, s5⟩ := st_facts (b := ⟨n, (bsP ps n).d, (bsP ps n).h⟩) (q := Q) ⟨by show (bsP ps n).d.length = Q; omega, hlen⟩ (fun j hj => hb2.2.2.2.1 j (by omega)) h3 h4
  have hall : ∀ j, j < Q → j ≠ i → (bsP ps n).h.getD j false = true := fun j hj hji => by
    rw [← s5 j hj hji]
    exact wh_all hW j (by omega)
  refine lacks_one (by omega) ?_ (fun j hj hji => hall j (by omega) hji)
  obtain ⟨j, hj, ej⟩ := List.mem_iff_getElem.1 hb2.2.2.2.2.2
  have ej2 : (bsP ps n).h.getD j false = false := by rw [List.getD_eq_getElem?_getD, List.getElem?_eq_getElem hj, ej]; rfl
  by_cases hji : j = i
  · rw [← hji]; exact ej2
  · rw [hall j (by omega) hji] at ej2; cases ej2
end Go.Proofs.YtnngklclehffhaaGreatDoor
