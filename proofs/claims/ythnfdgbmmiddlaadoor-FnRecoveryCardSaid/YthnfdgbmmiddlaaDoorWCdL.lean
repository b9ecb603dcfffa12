/- What the law of codes says, in plain words. -/
import Derived.Test.YthnfdgbmmiddlaaDoorWOf
import Derived.Test.YthnfdgbmmiddlaaDoorWP3
import Derived.Test.YthnfdgbmmiddlaaDoorWChange
import Derived.Test.YthnfdgbmmiddlaaDoorWRec0
namespace Go.Proofs.YthnfdgbmmiddlaaDoor
open Go.RowKit
set_option maxHeartbeats 400000
theorem lc_get {s : ByteArray} (i : Nat) (h : i < 8) : (lc s).getD i 0 = if i < s.size then ((s.data.toList.getD i 0).toNat : Int) - 96 else 0 := by
  rw [lc, lcTo, List.getD_eq_getElem?_getD, List.getElem?_map, List.getElem?_range h]; rfl
theorem lc_split {s : ByteArray} (h : itm 8 s = true) : lc s = s.data.toList.map (fun b => (b.toNat : Int) - 96) ++ List.replicate (8 - s.size) 0 := by
  have hs := (itm_iff h).1
  have hsz : s.data.toList.length = s.size := by rw [Array.length_toList]; rfl
  refine list_ext0 (by rw [lc_len, List.length_append, List.length_map, List.length_replicate, hsz]; omega) (fun i hi => ?_)
  rw [lc_len] at hi
  rw [lc_get i hi, List.getD_eq_getElem?_getD (l := List.map _ _ ++ _), List.getElem?_append]
  rw [List.length_map, hsz]
  split
  · rename_i h1
    rw [List.getElem?_map, List.getD_eq_getElem?_getD, List.getElem?_eq_getElem (by omega)]
    rfl
  · rename_i h1
    rw [List.getElem?_replicate]
    split <;> rfl
theorem itm_mem {s : ByteArray} (h : itm 8 s = true) (b : UInt8) (hb : b ∈ s.data.toList) : 97 ≤ b.toNat ∧ b.toNat ≤ 122 := by
  obtain ⟨i, hi, rfl⟩ := List.mem_iff_getElem.1 hb
  have := (itm_iff h).2 i (by rw [Array.length_toList] at hi; exact hi)
  exact this
theorem pb_of {b : UInt8} (h : 97 ≤ b.toNat ∧ b.toNat ≤ 122) : pb ((b.toNat : Int) - 96) = b := by
  unfold pb
  rw [if_neg (by omega), show (96 + ((b.toNat : Int) - 96)).toNat = b.toNat by omega]
  exact UInt8.ofNat_toNat
theorem map_self {α : Type} {f : α → α} : ∀ {l : List α}, (∀ b ∈ l, f b = b) → l.map f = l
  | [], _ => rfl
  | a :: l, h => by rw [List.map_cons, h a (by simp), map_self (fun b hb => h b (by simp [hb]))]
theorem ptext_map {l : List UInt8} (f : UInt8 → Int) (h : ∀ b ∈ l, pb (f b) = b) : ptext (l.map f) = ⟨l.toArray⟩ := by
  apply ByteArray.ext
  apply Array.toList_inj.1
  simp only [ptext, List.map_map]
  exact map_self (f := pb ∘ f) h
theorem lc_of {s : ByteArray} (h : itm 8 s = true) : ofB (lc s) = true ∧ ofT (lc s) = s := by
  have hok := okOf_app (A := s.data.toList.map (fun b => (b.toNat : Int) - 96)) (Z := List.replicate (8 - s.size) 0)
    (fun x hx => by obtain ⟨b, hb, rfl⟩ := List.mem_map.1 hx; have := itm_mem h b hb; omega) (fun x hx => (List.mem_replicate.1 hx).2)
  rw [← lc_split h] at hok
  have hB : ofB (lc s) = true := by rw [ofB, lc_par h, hok.1]; rfl
  refine ⟨hB, ?_⟩
  rw [ofT_yes hB, hok.2, ptext_map _ (fun b hb => pb_of (itm_mem h b hb))]
theorem of_lc {x : List Int} (h : ofB x = true) : itm 8 (ofT x) = true ∧ lc (ofT x) = x := by
  have hp : isPar x = true := by rw [ofB, Bool.and_eq_true] at h; exact h.1
  have ho : okOf x = true := by rw [ofB, Bool.and_eq_true] at h; exact h.2
  obtain ⟨e, hA, hZ⟩ := okOf_split ho
  have h8 := isPar_len hp
  have hl : (x.take (lead x)).length ≤ 8 := by rw [List.length_take]; omega
  rw [ofT_yes h]
  have hm : ∀ y ∈ x.take (lead x), 0 ≤ y ∧ y ≤ 26 := fun y hy => isPar_mem hp y (List.mem_of_mem_take hy)
  have hI : itm 8 (ptext (x.take (lead x))) = true := by
    rw [itm_ptext hm hl]
    exact List.all_eq_true.2 fun y hy => by have := hA y hy; simpa using this
  refine ⟨hI, ?_⟩
  rw [lc_split hI]
  have hd : (ptext (x.take (lead x))).data.toList = (x.take (lead x)).map pb := by simp [ptext]
  rw [hd, List.map_map, map_self (fun y hy => by
    have h1 := hm y hy
    have h2 := hA y hy
    have := pb_val h1 h2
    simp only [Function.comp_apply]
    omega), ptext_size]
  conv => rhs; rw [e]
  congr 1
  symm
  have hdl : (x.drop (lead x)).length = 8 - (x.take (lead x)).length := by rw [List.length_drop, List.length_take]; omega
  rw [← hdl]
  exact List.eq_replicate_of_mem hZ
theorem pn_pb {x : Int} (h : 0 ≤ x ∧ x ≤ 26) : pn (pb x) = x := by
  rw [pn_eq]
  by_cases h0 : x = 0
  · subst h0; rfl
  · have := pb_val h h0
    rw [if_neg (by omega), if_pos (by omega)]
    omega
theorem pb_pn {c : UInt8} (h : 0 ≤ pn c ∧ pn c ≤ 26) : pb (pn c) = c := by
  rw [pn_eq] at h ⊢
  split at h
  · rename_i h1
    rw [if_pos h1]
    have : c = UInt8.ofNat c.toNat := (UInt8.ofNat_toNat).symm
    rw [h1] at this
    rw [this]; rfl
  · rename_i h1
    rw [if_neg h1]
    split at h
    · rename_i h2
      rw [if_pos h2]
      exact pb_of h2
    · omega
theorem par_text {p : List Int} (h : isPar p = true) : isPar (pnums (ptext p)) = true ∧ pnums (ptext p) = p := by
  have e : pnums (ptext p) = p := by
    have hd : (ptext p).data.toList = p.map pb := by simp [ptext]
    rw [pnums, hd, List.map_map]
    exact map_self (f := pn ∘ pb) (fun y hy => pn_pb (isPar_mem h y hy))
  exact ⟨by rw [e]; exact h, e⟩
theorem text_par {t : ByteArray} (h : isPar (pnums t) = true) : ptext (pnums t) = t := by
  unfold pnums
  rw [ptext_map _ (fun b hb => pb_pn (isPar_mem h _ (List.mem_map.2 ⟨b, hb, rfl⟩)))]
theorem change_back {y : List Int} {a b : ByteArray} (h : changeB y a b = true) : changeB (changeL y a b) b a = true ∧ changeL (changeL y a b) b a = y := by
  have e := changeL_yes h
  have h' := h
  simp only [changeB, Bool.and_eq_true] at h'
  obtain ⟨hp, ha, hb⟩ := h'
  have hB : changeB (changeL y a b) b a = true := by
    rw [e]
    simp only [changeB, Bool.and_eq_true]
    exact ⟨addL_par (addL_par hp), hb, ha⟩
  refine ⟨hB, ?_⟩
  rw [changeL_yes hB, e]
  refine list_ext0 (by simp only [addL_len]) (fun i hi => ?_)
  simp only [addL_len] at hi
  have hy := isPar_get hp i hi
  rw [addL_get (by simp only [addL_len]; exact hi), addL_get (by simp only [addL_len]; exact hi), addL_get (by simp only [addL_len]; exact hi), addL_get hi]
  generalize y.getD i 0 = u at *
  generalize (lc a).getD i 0 = p
  generalize (lc b).getD i 0 = q
  omega
end Go.Proofs.YthnfdgbmmiddlaaDoor
