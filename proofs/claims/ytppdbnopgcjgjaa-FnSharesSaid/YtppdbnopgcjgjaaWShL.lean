/- What the law of shares says, in plain words. -/
import Derived.Test.YtppdbnopgcjgjaaWShare
import Derived.Test.YtppdbnopgcjgjaaWWell
import Derived.Test.YtppdbnopgcjgjaaWWorsen
namespace Go.Proofs.Ytppdbnopgcjgjaa
open Go.RowKit
set_option maxHeartbeats 400000
theorem shr0_one (ps ls : List Int) (x : Int) : shr0 ps ls [x] = sh ps ls x := by
  unfold shr0 sh
  apply shr_congr
  intro i _ _
  rw [Bool.eq_iff_iff, List.contains_iff_mem, List.contains_iff_mem, fan_mem]
  simp
theorem share_mul (ps ls ns : List Int) : shr0 ps ls ns / shG ps ls ns * shG ps ls ns = shr0 ps ls ns ∧ 100000000000000 / shG ps ls ns * shG ps ls ns = 100000000000000 := by
  unfold shG
  exact ⟨Int.ediv_mul_cancel (Int.gcd_dvd_left ..), Int.ediv_mul_cancel (Int.gcd_dvd_right ..)⟩
theorem share_bds {ps ls ds ns : List Int} (h : shareB ps ls ds ns = true) : 0 ≤ shareNum ps ls ds ns ∧ shareNum ps ls ds ns ≤ shareDen ps ls ds ns ∧ shareDen ps ls ds ns ≤ 100000000000000 := by
  obtain ⟨hg, hn⟩ := shareB_iff h
  obtain ⟨e1, e2⟩ := share_yes h
  have hp := shG_pos ps ls ns
  have hb := shr_bd hg (nodes_in (goodC_all hg).1 hn)
  rw [e1, e2]
  refine ⟨Int.ediv_nonneg hb.1 (by omega), Int.ediv_le_ediv (by omega) hb.2, Int.ediv_le_self _ (by decide)⟩
theorem shares_law1 {ps ls ds : List Int} {x : Int} (h : hasC ps ls ds x = true) : shareB ps ls ds [x] = true ∧ ¬ shareNum ps ls ds [x] < 0 ∧ ¬ shareDen ps ls ds [x] < shareNum ps ls ds [x] := by
  have e : shareB ps ls ds [x] = true := by rw [shareB_one, h]
  have := share_bds e
  exact ⟨e, by omega, by omega⟩
theorem shares_law2 {ps ls ds : List Int} {p : Int} (h : wellB ps ls ds p = true) : ∀ i, i < (wellL ps ls ds p).length →
    hasC ps ls ds ((wellL ps ls ds p).getD i 0) = true ∧ (0 ≤ shareNum ps ls ds [(wellL ps ls ds p).getD i 0] ∧ shareNum ps ls ds [(wellL ps ls ds p).getD i 0] ≤ 100000000000000) ∧ (0 ≤ shareDen ps ls ds [(wellL ps ls ds p).getD i 0] ∧ shareDen ps ls ds [(wellL ps ls ds p).getD i 0] ≤ 100000000000000) ∧ (0 ≤ p ∧ p ≤ 100) ∧
    ¬ 100 * shareNum ps ls ds [(wellL ps ls ds p).getD i 0] < p * shareDen ps ls ds [(wellL ps ls ds p).getD i 0] := by
  intro i hi
  have hm : (wellL ps ls ds p).getD i 0 ∈ wellL ps ls ds p := mem_getD hi
  generalize (wellL ps ls ds p).getD i 0 = x at *
  rw [wellL_yes h, List.mem_filter] at hm
  obtain ⟨hl, hlow⟩ := hm
  rw [wellB, Bool.and_eq_true, inB_iff] at h
  obtain ⟨hg, hp⟩ := h
  have hx := leaves_in x hl
  have hc : hasC ps ls ds x = true := by rw [hasC, hg, isNode_iff.2 hx]; rfl
  have hs : shareB ps ls ds [x] = true := by rw [shareB_one, hc]
  have hb := share_bds hs
  refine ⟨hc, ⟨hb.1, by omega⟩, ⟨by omega, hb.2.2⟩, by omega, ?_⟩
  obtain ⟨e1, e2⟩ := share_yes hs
  obtain ⟨m1, m2⟩ := share_mul ps ls [x]
  have hG := shG_pos ps ls [x]
  have hlow2 : 1000000000000 * p ≤ sh ps ls x := by
    have : ¬ sh ps ls x < 1000000000000 * p := by simpa [low] using hlow
    omega
  rw [shr0_one] at m1 e1
  rw [e1, e2]
  generalize sh ps ls x / shG ps ls [x] = a at *
  generalize (100000000000000 : Int) / shG ps ls [x] = b at *
  generalize shG ps ls [x] = g at *
  intro hlt
  have h3 : 100 * a * g < p * b * g := Int.mul_lt_mul_of_pos_right hlt (by omega)
  rw [Int.mul_assoc, m1, Int.mul_assoc, m2] at h3
  omega
theorem well_zero {ps ls ds : List Int} (h : wellB ps ls ds 0 = true) : wellL ps ls ds 0 = leavesL ps := by
  rw [wellL_yes h, List.filter_eq_self]
  intro x hx
  rw [wellB, Bool.and_eq_true] at h
  have := sh_bd h.1 (leaves_in x hx).2
  simp [low]
  omega
theorem getD_set {L : List Int} {i j : Nat} {y : Int} : (L.set i y).getD j 0 = if i = j ∧ j < L.length then y else L.getD j 0 := by
  rw [List.getD_eq_getElem?_getD, List.getD_eq_getElem?_getD, List.getElem?_set]
  by_cases h : i = j
  · subst h
    by_cases h2 : i < L.length
    · simp [h2]
    · simp [h2]
  · simp [h]
theorem shares_law3 {ps ls ds : List Int} {x y : Int} (h : worsenB ps ls ds x y = true) :
    goodC ps (worsenL ps ls ds x y) (worsenD ps ls ds x y) = true ∧ (0 ≤ x ∧ x.toNat < ls.length ∧ x.toNat < (worsenL ps ls ds x y).length) ∧ ¬ (worsenL ps ls ds x y).getD x.toNat 0 < ls.getD x.toNat 0 := by
  have hL : worsenL ps ls ds x y = ls.set x.toNat (min 100 (ls.getD x.toNat 0 + y)) := by rw [worsenL, if_pos h]
  have hD : worsenD ps ls ds x y = ds := by rw [worsenD, if_pos h]
  rw [hL, hD]
  simp only [worsenB, Bool.and_eq_true, inB_iff] at h
  obtain ⟨⟨hc, hne⟩, hy⟩ := h
  obtain ⟨hg, hx0, hx1⟩ := hasC_iff hc
  obtain ⟨h1, h2, h3, h4, h5, h6⟩ := goodC_all hg
  have hx2 : ¬ x = 0 := by simpa using hne
  have hcl := cost_ls hg x hx0 hx1
  have hlt : x.toNat < ls.length := by omega
  refine ⟨goodC_yes h1 (by rw [List.length_set]; exact h2) h3 ?_ ?_ h6, ⟨hx0, hlt, by rw [List.length_set]; exact hlt⟩, ?_⟩
  · refine List.all_eq_true.2 fun i hi => ?_
    have hi2 := (List.all_eq_true.1 h4) i hi
    rw [costOk, Bool.and_eq_true, inB_iff, inB_iff] at hi2 ⊢
    refine ⟨?_, hi2.2⟩
    rw [getD_set]
    split
    · omega
    · exact hi2.1
  · rw [getD_set, if_neg (by omega)]
    exact h5
  · rw [getD_set, if_pos ⟨rfl, hlt⟩]
    omega
end Go.Proofs.Ytppdbnopgcjgjaa
