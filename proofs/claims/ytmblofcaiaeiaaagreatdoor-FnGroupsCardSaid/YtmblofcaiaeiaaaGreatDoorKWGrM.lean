/- What the law of groups says of merged groups, in plain words. -/
import Derived.Test.YtmblofcaiaeiaaaGreatDoorKWMg2
import Derived.Test.YtmblofcaiaeiaaaGreatDoorKWShm
namespace Go.Proofs.YtmblofcaiaeiaaaGreatDoor
open Go.RowKit
set_option maxHeartbeats 400000
theorem asc_cons_not {x : Int} {P : List Int} (h : asc (x :: P)) : P.contains x = false := by
  rw [← Bool.not_eq_true, List.contains_iff_mem]
  intro hm
  have := (List.pairwise_cons.1 h).1 x hm
  omega
theorem filter_more {x : Int} {P : List Int} (hx : P.contains x = false) : ∀ {A : List Int}, asc A → (A.filter (fun y => (x :: P).contains y)).length = (A.filter (fun y => P.contains y)).length + (if A.contains x then 1 else 0)
  | [], _ => rfl
  | y :: A, h => by
    have ih := filter_more hx (List.pairwise_cons.1 h).2
    by_cases e : y = x
    · subst e
      have ha := asc_cons_not h
      have e3 : (y :: A).contains y = true := by simp
      rw [ha] at ih
      rw [List.filter_cons_of_pos (by simp), List.filter_cons_of_neg (by rw [hx]; simp), List.length_cons, ih, e3]
      simp
    · have e1 : (x :: P).contains y = P.contains y := by simp [e]
      have e2 : (y :: A).contains x = A.contains x := by simp only [List.contains_cons]; rw [show (x == y) = false by rw [beq_eq_false_iff_ne]; exact fun h => e h.symm]; rfl
      rw [e2]
      cases hp : P.contains y
      · rw [List.filter_cons_of_neg (by rw [e1, hp]; simp), List.filter_cons_of_neg (by rw [hp]; simp), ih]
      · rw [List.filter_cons_of_pos (by rw [e1, hp]), List.filter_cons_of_pos (by exact hp), List.length_cons, List.length_cons, ih]
        omega
theorem putAll_count : ∀ (P A : List Int), asc A → asc P → (putAll A P).length + (A.filter (fun y => P.contains y)).length = A.length + P.length
  | [], A, _, _ => by
    have : A.filter (fun y => ([] : List Int).contains y) = [] := List.filter_eq_nil_iff.2 (fun y _ => by simp)
    rw [this]; rfl
  | x :: P, A, hA, hP => by
    have ih := putAll_count P (put A x) (put_asc hA x) (List.pairwise_cons.1 hP).2
    have hx := asc_cons_not hP
    have hf := filter_more hx hA
    show (putAll (put A x) P).length + _ = _
    rw [List.length_cons]
    cases hc : A.contains x
    · rw [put_out hA hc] at ih ⊢
      rw [hc] at hf
      rw [List.filter_append, List.filter_cons_of_neg (by rw [hx]; simp), ← List.filter_append, List.take_append_drop, List.length_append, List.length_cons, List.length_take, List.length_drop] at ih
      have hk := List.countP_le_length (p := fun y => decide (y < x)) (l := A)
      simp only [Bool.false_eq_true, if_false] at hf
      omega
    · rw [put_in hA (List.contains_iff_mem.1 hc)] at ih ⊢
      rw [hc] at hf
      simp only [if_true] at hf
      omega
def smTo (gs : List Grp) (a b : ByteArray) : Nat → Nat
  | 0 => 0
  | k + 1 => if (gs.getD k .z).s = a ∨ (gs.getD k .z).s = b then smTo gs a b k + (gs.getD k .z).xs.length else smTo gs a b k
def szTo (gs : List Grp) (a : ByteArray) : Nat → Nat
  | 0 => 0
  | k + 1 => if (gs.getD k .z).s = a then (gs.getD k .z).xs.length else szTo gs a k
theorem srt_one {gs : List Grp} (hs : srt gs) {i j : Nat} (hi : i < gs.length) (hj : j < gs.length) (e : (gs.getD i .z).s = (gs.getD j .z).s) : i = j := by
  rcases Nat.lt_trichotomy i j with h | h | h
  · have := hs i j h hj
    rw [e, bl_irrefl] at this; cases this
  · exact h
  · have := hs j i h hi
    rw [e, bl_irrefl] at this; cases this
theorem smTo_eq {gs : List Grp} (hs : srt gs) {a b : ByteArray} (ha : fhas gs a = true) (hb : fhas gs b = true) (hab : a ≠ b) : ∀ k, k ≤ gs.length → smTo gs a b k = (if fidx gs a < k then (memL gs a).length else 0) + (if fidx gs b < k then (memL gs b).length else 0)
  | 0, _ => by simp [smTo]
  | k + 1, hk => by
    obtain ⟨a1, a2⟩ := fhas_get ha
    obtain ⟨b1, b2⟩ := fhas_get hb
    have ih := smTo_eq hs ha hb hab k (by omega)
    have hne : fidx gs a ≠ fidx gs b := fun e => hab (by rw [← a2, ← b2, e])
    rw [smTo]
    by_cases h1 : (gs.getD k .z).s = a
    · have hka : k = fidx gs a := srt_one hs (by omega) a1 (by rw [h1, a2])
      rw [if_pos (.inl h1), ih, memL_at ha, ← hka]
      rw [if_neg (show ¬ k < k by omega), if_pos (show k < k + 1 by omega)]
      have : (fidx gs b < k + 1) ↔ (fidx gs b < k) := by omega
      simp only [this]; omega
    · by_cases h2 : (gs.getD k .z).s = b
      · have hkb : k = fidx gs b := srt_one hs (by omega) b1 (by rw [h2, b2])
        rw [if_pos (.inr h2), ih, memL_at hb, ← hkb]
        have : (fidx gs a < k + 1) ↔ (fidx gs a < k) := by omega
        simp only [this]
        rw [if_neg (show ¬ k < k by omega), if_pos (show k < k + 1 by omega)]
        omega
      · have n1 : fidx gs a ≠ k := fun e => h1 (by rw [← e]; exact a2)
        have n2 : fidx gs b ≠ k := fun e => h2 (by rw [← e]; exact b2)
        rw [if_neg (fun h => h.elim h1 h2), ih]
        have e1 : (fidx gs a < k + 1) ↔ (fidx gs a < k) := by omega
        have e2 : (fidx gs b < k + 1) ↔ (fidx gs b < k) := by omega
        simp only [e1, e2]
theorem szTo_eq {M : List Grp} {a : ByteArray} {p : Nat} (hp : p < M.length) (hu : ∀ i, i < M.length → ((M.getD i .z).s = a ↔ i = p)) : ∀ k, k ≤ M.length → szTo M a k = if p < k then (M.getD p .z).xs.length else 0
  | 0, _ => by simp [szTo]
  | k + 1, hk => by
    have ih := szTo_eq hp hu k (by omega)
    rw [szTo]
    by_cases e : k = p
    · subst e
      rw [if_pos ((hu k (by omega)).2 rfl), if_pos (by omega)]
    · rw [if_neg (fun h => e ((hu k (by omega)).1 h)), ih]
      have : (p < k + 1) ↔ (p < k) := by omega
      simp only [this]
theorem merge_law {gs : List Grp} {a b : ByteArray} (h : mgB gs a b = true) : smB gs a b = true ∧ (mgI gs a b).length + 1 = gs.length ∧ szTo (mgI gs a b) a (mgI gs a b).length + (smL gs a b).length = smTo gs a b gs.length := by
  obtain ⟨hg, ha, hb, hab⟩ := mgB_all h
  have hsm : smB gs a b = true := by rw [smB, hg, ha, hb]; rfl
  obtain ⟨a1, a2⟩ := fhas_get ha
  obtain ⟨b1, b2⟩ := fhas_get hb
  have hs := goodG_srt hg
  have hlen : (mgI gs a b).length + 1 = gs.length := by
    rw [mgI_yes h, ers_len _ _ (by rw [List.length_set]; exact b1), List.length_set]; omega
  have hne : fidx gs a ≠ fidx gs b := fun e => hab (by rw [← a2, ← b2, e])
  refine ⟨hsm, hlen, ?_⟩
  have hget : ∀ i, i < (mgI gs a b).length → (mgI gs a b).getD i .z = (if (if i < fidx gs b then i else i + 1) = fidx gs a then ⟨a, mgX gs a b⟩ else gs.getD (if i < fidx gs b then i else i + 1) .z) := fun i hi => by
    rw [mgI_yes h, ers_getD _ _ _ _ (by rw [List.length_set]; exact b1)]
    by_cases hi2 : i < fidx gs b
    · rw [if_pos hi2, if_pos hi2, getD_set _ _ _ _ _ a1]
    · rw [if_neg hi2, if_neg hi2, getD_set _ _ _ _ _ a1]
  obtain ⟨p, hp, hpi⟩ : ∃ p, p < (mgI gs a b).length ∧ ∀ i, (if i < fidx gs b then i else i + 1) = fidx gs a ↔ i = p := by
    by_cases hlt : fidx gs a < fidx gs b
    · refine ⟨fidx gs a, by omega, fun i => ?_⟩
      split <;> omega
    · refine ⟨fidx gs a - 1, by omega, fun i => ?_⟩
      split <;> omega
  have hu : ∀ i, i < (mgI gs a b).length → (((mgI gs a b).getD i .z).s = a ↔ i = p) := fun i hi => by
    rw [hget i hi, ← hpi i]
    by_cases e : (if i < fidx gs b then i else i + 1) = fidx gs a
    · rw [if_pos e]; exact ⟨fun _ => e, fun _ => rfl⟩
    · rw [if_neg e]
      refine ⟨fun e2 => ?_, fun e2 => absurd e2 e⟩
      refine srt_one hs ?_ a1 (by rw [e2, a2])
      split <;> omega
  rw [szTo_eq hp hu _ (Nat.le_refl _), if_pos hp, hget p hp, if_pos ((hpi p).2 rfl), smTo_eq hs ha hb hab _ (Nat.le_refl _), if_pos a1, if_pos b1, smL_yes hsm]
  exact putAll_count (memL gs b) (memL gs a) (memL_ok hg ha).1 (memL_ok hg hb).1
theorem smTo_le {gs : List Grp} {a b : ByteArray} (h : ∀ i, i < gs.length → (gs.getD i .z).xs.length ≤ 21) : ∀ k, k ≤ gs.length → smTo gs a b k ≤ 21 * k
  | 0, _ => by simp [smTo]
  | k + 1, hk => by
    have ih := smTo_le h k (by omega) (a := a) (b := b)
    have := h k (by omega)
    rw [smTo]
    split <;> omega
end Go.Proofs.YtmblofcaiaeiaaaGreatDoor
