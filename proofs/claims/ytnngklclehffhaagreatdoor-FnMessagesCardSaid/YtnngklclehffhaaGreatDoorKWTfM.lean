/- A fragment taken: sizes of what comes of it. -/
import Derived.Test.YtnngklclehffhaaGreatDoorJ13
import Derived.Test.YtnngklclehffhaaGreatDoorKWFra2
namespace Go.Proofs.YtnngklclehffhaaGreatDoor
open Go.RowKit
set_option maxHeartbeats 400000
theorem joinS_cat (l : List ByteArray) : (joinS l ⟨#[]⟩).data.toList = (l.map (·.data.toList)).flatten := by
  have e : (joinS l ⟨#[]⟩).data.toList = Lib.join (l.map (·.data.toList)) [] := by simp [joinS]
  rw [e]
  cases l with
  | nil => rfl
  | cons x r =>
    rw [List.map_cons, Lib.join_cons, Lib.joinTail, List.flatten_cons]
    congr 2
    simp
theorem joinS_size (l : List ByteArray) : (joinS l ⟨#[]⟩).size = chars l := by
  have e : (joinS l ⟨#[]⟩).size = (joinS l ⟨#[]⟩).data.toList.length := by simp
  rw [e, joinS_cat, List.length_flatten, chars, List.map_map]
  congr 1
theorem chars_mul {m : Nat} : ∀ {l : List ByteArray}, (∀ x ∈ l, x.size ≤ m) → chars l ≤ l.length * m
  | [], _ => Nat.zero_le _
  | x :: l, h => by
    have h1 := h x (by simp)
    have h2 := chars_mul (l := l) (fun y hy => h y (by simp [hy]))
    have e : chars (x :: l) = x.size + chars l := by simp [chars]
    rw [e, List.length_cons, Nat.add_mul]
    omega
theorem okS_all {p : Pnd} (h : okS p = true) : ∀ x ∈ p.d, itm 8 x = true := by
  intro x hx
  obtain ⟨i, hi, rfl⟩ := List.mem_iff_getElem.1 hx
  have := (okS_iff.1 h).2.2.2.1 i hi
  rw [pok, Bool.and_eq_true] at this
  have h1 := this.1
  rw [List.getD_eq_getElem?_getD, List.getElem?_eq_getElem hi] at h1
  exact h1
/-- A pending whose parts are q items. -/
def ofQ (p : Pnd) (q : Nat) : Prop := p.d.length = q ∧ p.h.length = q ∧ ∀ x ∈ p.d, itm 8 x = true
theorem itm_nil : itm 8 ByteArray.empty = true := by decide
theorem ofQ_fr (n : Int) (q : Nat) : ofQ (frP n q) q :=
  ⟨List.length_replicate .., List.length_replicate .., fun x hx => by rw [(List.mem_replicate.1 hx).2]; exact itm_nil⟩
theorem ofQ_st {p : Pnd} {q i : Nat} {d : ByteArray} (h : ofQ p q) (hd : itm 8 d = true) : ofQ (stF p i d) q := by
  rw [stF]
  split
  · exact h
  · refine ⟨by rw [List.length_set]; exact h.1, by rw [List.length_set]; exact h.2.1, fun x hx => ?_⟩
    rcases List.mem_or_eq_of_mem_set hx with h1 | rfl
    · exact h.2.2 x h1
    · exact hd
theorem ofQ_okS {p : Pnd} (h : okS p = true) {q : Nat} (hq : p.d.length = q) : ofQ p q := ⟨hq, by have := (okS_len h).2.2; omega, okS_all h⟩
theorem pl_ofQ {ps : List Pnd} {n : Int} {q : Nat} (hok : okL ps = true) : ofQ ((plL ps n q).getD (plI ps n q) .z) q := by
  rcases hitG_cases (fun p : Pnd => p.n == n) ps .z with ⟨h1, -⟩ | ⟨k, h0, h1, -⟩
  · obtain ⟨a, b⟩ := pl_no (ps := ps) (n := n) (q := q) (by rw [fndP, h1]; decide)
    rw [a, b, getD_app]
    exact ofQ_fr n q
  · obtain ⟨a, b⟩ := pl_yes (q := q) (show fndP ps n = k from h1)
    rw [a, b]
    by_cases hl : (ps.getD k .z).d.length = q
    · rw [if_pos hl]; exact ofQ_okS (okL_at hok k h0).1 hl
    · rw [if_neg hl, getD_set_self _ _ _ _ h0]; exact ofQ_fr n q
theorem tf_ofQ {ps : List Pnd} {n : Int} {i q : Nat} {d : ByteArray} (hok : okL ps = true) (hd : itm 8 d = true) : ofQ (tfN ps n i q d) q := ofQ_st (pl_ofQ hok) hd
theorem ofQ_join {p : Pnd} {q : Nat} (h : ofQ p q) : (joinS p.d ⟨#[]⟩).size ≤ q * 8 := by
  rw [joinS_size, ← h.1]
  exact chars_mul (fun x hx => itm_size (h.2.2 x hx))
theorem plL_len {ps : List Pnd} {n : Int} {q : Nat} (h : ps.length ≤ 4) : (plL ps n q).length ≤ 5 := by
  rcases hitG_cases (fun p : Pnd => p.n == n) ps .z with ⟨h1, -⟩ | ⟨k, h0, h1, -⟩
  · obtain ⟨a, -⟩ := pl_no (ps := ps) (n := n) (q := q) (by rw [fndP, h1]; decide)
    rw [a, List.length_append, plF_len]
    show _ + 1 ≤ 5
    split <;> omega
  · obtain ⟨a, -⟩ := pl_yes (q := q) (show fndP ps n = k from h1)
    rw [a]
    split
    · omega
    · rw [List.length_set]; omega
/-- What a fragment asks. -/
theorem frag_nat {n p q : Int} {d : ByteArray} (h : okF ⟨n, p, q, d⟩ = true) : ∃ i Q : Nat, p = (i : Int) ∧ q = (Q : Int) ∧ 1 ≤ Q ∧ Q ≤ 9 ∧ i < Q ∧ itm 8 d = true := by
  obtain ⟨-, ⟨h1, h2⟩, ⟨h3, h4⟩, h5⟩ := okF_iff h
  dsimp only at h1 h2 h3 h4 h5
  exact ⟨p.toNat, q.toNat, by omega, by omega, by omega, by omega, by omega, h5⟩
theorem tk_no {ps : List Pnd} {n p q : Int} {d : ByteArray} (h : tkB ps n p q d = false) : tkO ps n p q d = [] ∧ tkS ps n p q d = ⟨#[]⟩ ∧ tkW ps n p q d = false := by
  have hw : tkW ps n p q d = false := by rw [tkW, h]; rfl
  exact ⟨by rw [tkO, h]; rfl, by rw [tkS, hw]; rfl, hw⟩
theorem tk_yes {ps : List Pnd} {n : Int} {i q : Nat} {d : ByteArray} (h : tkB ps n i q d = true) : tkO ps n i q d = tkR ps n i q d ∧ tkW ps n i q d = whP (nxP ps n i q d) ∧ tkS ps n i q d = if whP (nxP ps n i q d) then joinS (nxP ps n i q d).d ⟨#[]⟩ else ⟨#[]⟩ := by
  have hw : tkW ps n i q d = whP (nxP ps n i q d) := by rw [tkW, h, Bool.true_and]; rfl
  refine ⟨by rw [tkO, h]; rfl, hw, by rw [tkS, hw]; rfl⟩
/-- The pendings that are left. -/
theorem tkR_mem {ps : List Pnd} {n : Int} {i q : Nat} {d : ByteArray} {p : Pnd} (hp : p ∈ tkR ps n i q d) : (∃ k, k < ps.length ∧ p = ps.getD k .z) ∨ p = nxP ps n i q d := by
  have mem : ∀ x, x ∈ ps → ∃ k, k < ps.length ∧ x = ps.getD k .z := fun x hx => by
    obtain ⟨k, hk, rfl⟩ := List.mem_iff_getElem.1 hx
    exact ⟨k, hk, by rw [List.getD_eq_getElem?_getD, List.getElem?_eq_getElem hk]; rfl⟩
  rw [tkR] at hp
  split at hp
  · split at hp
    · exact .inl (mem p (ers_mem hp))
    · rcases List.mem_or_eq_of_mem_set hp with h | h
      · exact .inl (mem p h)
      · exact .inr h
  · split at hp
    · exact .inl (mem p hp)
    · rcases List.mem_append.1 hp with h | h
      · split at h
        · exact .inl (mem p (List.mem_of_mem_drop h))
        · exact .inl (mem p h)
      · exact .inr (List.mem_singleton.1 h)
theorem tkR_len {ps : List Pnd} {n : Int} {i q : Nat} {d : ByteArray} (h : ps.length ≤ 4) : (tkR ps n i q d).length ≤ 5 := by
  rw [tkR]
  split
  · split
    · rw [ers, List.length_append, List.length_take, List.length_drop]; omega
    · rw [List.length_set]; omega
  · split
    · omega
    · rw [List.length_append]
      show _ + 1 ≤ 5
      split
      · rw [List.length_drop]; omega
      · omega
theorem tkO_small (ps : List Pnd) (n p q : Int) (d : ByteArray) : (tkO ps n p q d).length ≤ 5 ∧ ∀ x ∈ tkO ps n p q d, x.d.length ≤ 9 ∧ x.h.length ≤ 9 := by
  cases h : tkB ps n p q d
  · rw [(tk_no h).1]
    exact ⟨by simp, fun x hx => by cases hx⟩
  · have h9 := h
    rw [tkB, Bool.and_eq_true] at h9
    obtain ⟨i, Q, rfl, rfl, h1, h2, h3, h4⟩ := frag_nat h9.2
    rw [(tk_yes h).1]
    refine ⟨tkR_len (okL_len h9.1), fun x hx => ?_⟩
    rcases tkR_mem hx with ⟨k, hk, rfl⟩ | rfl
    · have := okS_len (okL_at h9.1 k hk).1
      exact ⟨this.1, this.2.1⟩
    · have := tf_ofQ (n := n) (i := i) (q := Q) h9.1 h4
      rw [tf_next h9.1 h1] at this
      exact ⟨by rw [this.1]; exact h2, by rw [this.2.1]; exact h2⟩
end Go.Proofs.YtnngklclehffhaaGreatDoor
