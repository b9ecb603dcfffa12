/- What the law of delays says, in plain words. -/
import Derived.Test.YtppdbnopgcjgjaaWNear
import Derived.Test.YtppdbnopgcjgjaaWSlow2
namespace Go.Proofs.Ytppdbnopgcjgjaa
open Go.RowKit
set_option maxHeartbeats 400000
theorem path_self {ps : List Int} (hg : goodT ps = true) {x : Int} (h0 : 0 ≤ x) (h1 : x < ps.length) : x ∈ path ps x := by
  unfold path; rw [List.mem_reverse, up_step hg h0 h1]; exact List.mem_cons_self
theorem path_le {ps : List Int} (hg : goodT ps = true) {x : Int} (h1 : x < ps.length) (y : Int) (hy : y ∈ path ps x) : y ≤ x := by
  have hl := goodT_len hg
  exact (up_desc hg 8 x (by omega) h1).2.1 y (by simpa [path] using hy)
theorem meet_self {ps : List Int} (hg : goodT ps = true) {a : Int} (ha : 0 ≤ a ∧ a < ps.length) : meet ps a a = a := by
  obtain ⟨h1, -, h3⟩ := meet_both hg ha ha
  have h4 := path_le hg ha.2 _ h1
  have h5 := h3 a (path_self hg ha.1 ha.2) (path_self hg ha.1 ha.2)
  omega
theorem btw_self {ps ds : List Int} (hg : goodT ps = true) {a : Int} (ha : 0 ≤ a ∧ a < ps.length) : btw ps ds a a = 0 := by
  unfold btw; rw [meet_self hg ha]; omega
theorem path_zero {ps : List Int} (hg : goodT ps = true) : path ps 0 = [0] := by
  have hl := goodT_len hg
  unfold path
  rw [up_step hg (Int.le_refl _) (by omega), Int.toNat_zero, goodT_root hg, up_neg ps (by omega)]
  rfl
theorem del_zero {ps ls ds : List Int} (h : goodC ps ls ds = true) : del ps ds 0 = 0 := by
  unfold del delF
  rw [path_zero (goodC_all h).1]
  show [ds.getD (0 : Int).toNat 0].sum = 0
  rw [Int.toNat_zero, (goodC_all h).2.2.2.2.2]
  rfl
theorem btw_zero {ps ls ds : List Int} (h : goodC ps ls ds = true) {b : Int} (hb : 0 ≤ b ∧ b < ps.length) : btw ps ds 0 b = del ps ds b := by
  have hT := (goodC_all h).1
  have hl := goodT_len hT
  have h0 := (meet_both hT (a := 0) (b := b) ⟨Int.le_refl _, by omega⟩ hb).1
  rw [path_zero hT] at h0
  unfold btw
  rw [List.mem_singleton.1 h0, del_zero h]
  omega
theorem bestI_min (f : Int → Int) (cmp : Int → Int → Int) (hc : ∀ a b, cmp a b = f a - f b) (xs : List Int) : ∀ k, k < xs.length → ∀ i, i ≤ k → f (bestI cmp xs k) ≤ f (xs.getD i 0)
  | 0, _, i, hi => by
    obtain rfl : i = 0 := by omega
    exact Int.le_refl _
  | k + 1, hk, i, hi => by
    have ih := bestI_min f cmp hc xs k (by omega)
    unfold bestI
    by_cases h : cmp (xs.getD (k + 1) 0) (bestI cmp xs k) < 0
    · rw [if_pos (by simpa using h)]
      rw [hc] at h
      by_cases e : i = k + 1
      · subst e; exact Int.le_refl _
      · have := ih i (by omega); omega
    · rw [if_neg (by simpa using h)]
      rw [hc] at h
      by_cases e : i = k + 1
      · subst e; omega
      · exact ih i (by omega)
/-- What the law asks of delays. -/
theorem hasC2_comm (ps ls ds : List Int) (a b : Int) : hasC2 ps ls ds b a = hasC2 ps ls ds a b := by
  unfold hasC2; rw [Bool.and_comm (isNode ps.length b)]
theorem between_comm (ps ls ds : List Int) (a b : Int) : betweenN ps ls ds b a = betweenN ps ls ds a b := by
  unfold betweenN
  rw [hasC2_comm]
  split
  · rename_i h
    obtain ⟨hg, ha, hb⟩ := hasC2_iff h
    exact btw_comm (goodC_all hg).1 hb ha
  · rfl
theorem isNode_zero {ps ls ds : List Int} (h : goodC ps ls ds = true) : isNode ps.length 0 = true := isNode_iff.2 ⟨Int.le_refl _, by have := goodT_len (goodC_all h).1; omega⟩
theorem hasC2_of {ps ls ds : List Int} {a b : Int} (h : goodC ps ls ds = true) (ha : 0 ≤ a ∧ a < ps.length) (hb : 0 ≤ b ∧ b < ps.length) : hasC2 ps ls ds a b = true ∧ betweenN ps ls ds a b = btw ps ds a b := by
  have e : hasC2 ps ls ds a b = true := by rw [hasC2, h, isNode_iff.2 ha, isNode_iff.2 hb]; rfl
  exact ⟨e, between_yes e⟩
theorem hasC_of {ps ls ds : List Int} {a : Int} (h : goodC ps ls ds = true) (ha : 0 ≤ a ∧ a < ps.length) : hasC ps ls ds a = true ∧ delayTo ps ls ds a = del ps ds a := by
  have e : hasC ps ls ds a = true := by rw [hasC, h, isNode_iff.2 ha]; rfl
  exact ⟨e, delayTo_yes e⟩
theorem delays_law1 {ps ls ds : List Int} {a b : Int} (h : hasC2 ps ls ds a b = true) :
    (hasC2 ps ls ds a a = true ∧ betweenN ps ls ds a a = 0) ∧ (hasC2 ps ls ds 0 b = true ∧ betweenN ps ls ds 0 b = del ps ds b) ∧ (hasC ps ls ds b = true ∧ delayTo ps ls ds b = del ps ds b) := by
  obtain ⟨hg, ha, hb⟩ := hasC2_iff h
  have hT := (goodC_all hg).1
  have hl := goodT_len hT
  have h1 := hasC2_of hg ha ha
  have h2 := hasC2_of hg (a := 0) ⟨Int.le_refl _, by omega⟩ hb
  refine ⟨⟨h1.1, by rw [h1.2, btw_self hT ha]⟩, ⟨h2.1, by rw [h2.2, btw_zero hg hb]⟩, hasC_of hg hb⟩
theorem delays_law2 {ps ls ds ns : List Int} {x : Int} (h : nearB ps ls ds ns x = true) :
    (hasC2 ps ls ds x (nearest ps ds ns x) = true ∧ betweenN ps ls ds x (nearest ps ds ns x) = btw ps ds x (nearest ps ds ns x)) ∧ ns.contains (nearest ps ds ns x) = true ∧
    ∀ i, i < ns.length → (hasC2 ps ls ds x (ns.getD i 0) = true ∧ betweenN ps ls ds x (ns.getD i 0) = btw ps ds x (ns.getD i 0)) ∧ ¬ btw ps ds x (ns.getD i 0) < btw ps ds x (nearest ps ds ns x) := by
  obtain ⟨hg, hx, hn, hns, -, -⟩ := nearB_iff h
  have hT := (goodC_all hg).1
  have hm : nearest ps ds ns x ∈ ns := bestI_mem _ _ _ (by omega)
  refine ⟨hasC2_of hg hx (hns _ hm), List.contains_iff_mem.2 hm, fun i hi => ?_⟩
  have hmi : ns.getD i 0 ∈ ns := mem_getD hi
  refine ⟨hasC2_of hg hx (hns _ hmi), ?_⟩
  have := bestI_min (fun a => btw ps ds a x) _ (fun _ _ => rfl) ns (ns.length - 1) (by omega) i (by omega)
  rw [btw_comm hT hx (hns _ hmi), btw_comm hT hx (hns _ hm)]
  unfold nearest
  omega
theorem delays_law3 {ps ls ds : List Int} (h : goodC ps ls ds = true) :
    (hasC ps ls ds (slowest ps ds) = true ∧ delayTo ps ls ds (slowest ps ds) = del ps ds (slowest ps ds)) ∧ (leavesL ps).contains (slowest ps ds) = true ∧
    ∀ i, i < (leavesL ps).length → (hasC ps ls ds ((leavesL ps).getD i 0) = true ∧ delayTo ps ls ds ((leavesL ps).getD i 0) = del ps ds ((leavesL ps).getD i 0)) ∧ ¬ del ps ds (slowest ps ds) < del ps ds ((leavesL ps).getD i 0) := by
  have hT := (goodC_all h).1
  have hn := leaves_ne hT
  have hm : slowest ps ds ∈ leavesL ps := bestI_mem _ _ _ (by omega)
  refine ⟨hasC_of h (leaves_in _ hm), List.contains_iff_mem.2 hm, fun i hi => ?_⟩
  refine ⟨hasC_of h (leaves_in _ (mem_getD hi)), ?_⟩
  have := bestI_min (fun a => - del ps ds a) (fun a b => del ps ds b - del ps ds a) (fun _ _ => by omega) (leavesL ps) ((leavesL ps).length - 1) (by omega) i (by omega)
  have e : slowest ps ds = bestI (fun a b => del ps ds b - del ps ds a) (leavesL ps) ((leavesL ps).length - 1) := rfl
  rw [e]
  omega
end Go.Proofs.Ytppdbnopgcjgjaa
