/- Shares of several nodes: what is computed. -/
import Derived.Test.YtppdbnopgcjgjaaWNear
import Derived.Test.YtppdbnopgcjgjaaWPut2
import Derived.Test.YtppdbnopgcjgjaaWFan
namespace Go.Proofs.Ytppdbnopgcjgjaa
open Go.RowKit
def shareB (ps ls ds ns : List Int) : Bool := goodC ps ls ds && (allG (isNode ps.length) ns && ascB ns)
theorem shareB_iff {ps ls ds ns : List Int} (h : shareB ps ls ds ns = true) : goodC ps ls ds = true ∧ (∀ y ∈ ns, 0 ≤ y ∧ y < ps.length) := by
  simp only [shareB, Bool.and_eq_true] at h
  exact ⟨h.1, fun y hy => isNode_iff.1 (allG_mem h.2.1 y hy)⟩
def shr0 (ps ls ns : List Int) : Int := shr ls (fan (path ps) ns)
def shG (ps ls ns : List Int) : Int := (Int.gcd (shr0 ps ls ns) 100000000000000 : Nat)
def shareNum (ps ls ds ns : List Int) : Int := if shareB ps ls ds ns then shr0 ps ls ns / shG ps ls ns else 0
def shareDen (ps ls ds ns : List Int) : Int := if shareB ps ls ds ns then 100000000000000 / shG ps ls ns else 0
theorem share_no {ps ls ds ns : List Int} (h : shareB ps ls ds ns = false) : shareNum ps ls ds ns = 0 ∧ shareDen ps ls ds ns = 0 := by simp [shareNum, shareDen, h]
theorem share_yes {ps ls ds ns : List Int} (h : shareB ps ls ds ns = true) : shareNum ps ls ds ns = shr0 ps ls ns / shG ps ls ns ∧ shareDen ps ls ds ns = 100000000000000 / shG ps ls ns := by simp [shareNum, shareDen, h]
theorem path_tail {ps : List Int} (hg : goodT ps = true) {x : Int} (h0 : 0 ≤ x) (h1 : x < ps.length) : ∀ y, y ∈ (path ps x).drop 1 ↔ y ∈ path ps x ∧ 1 ≤ y := by
  intro y
  obtain ⟨r, e⟩ := path_head hg h0 h1
  have ha := path_asc hg h1
  rw [e] at ha ⊢
  have hr := (List.pairwise_cons.1 ha).1
  simp only [List.drop_succ_cons, List.drop_zero, List.mem_cons]
  constructor
  · exact fun h => ⟨.inr h, by have := hr y h; omega⟩
  · rintro ⟨rfl | h, h2⟩
    · omega
    · exact h
theorem links_in {ps ns : List Int} (hg : goodT ps = true) (hn : ∀ y ∈ ns, 0 ≤ y ∧ y < ps.length) (y : Int) (hy : y ∈ fan (fun x => (path ps x).drop 1) ns) : 1 ≤ y ∧ y < ps.length := by
  obtain ⟨x, hx, h⟩ := (fan_mem _ _ _).1 hy
  have hb := hn x hx
  have := (path_tail hg hb.1 hb.2 y).1 h
  exact ⟨this.2, (path_mem hg hb.2 y this.1).2⟩
theorem nodes_in {ps ns : List Int} (hg : goodT ps = true) (hn : ∀ y ∈ ns, 0 ≤ y ∧ y < ps.length) (y : Int) (hy : y ∈ fan (path ps) ns) : 0 ≤ y ∧ y < ps.length := by
  obtain ⟨x, hx, h⟩ := (fan_mem _ _ _).1 hy
  exact path_mem hg (hn x hx).2 y h
theorem shr_links {ps ls ns : List Int} (hg : goodT ps = true) (hn : ∀ y ∈ ns, 0 ≤ y ∧ y < ps.length) : shr ls (fan (fun x => (path ps x).drop 1) ns) = shr0 ps ls ns := by
  apply shr_congr
  intro i h1 _
  rw [Bool.eq_iff_iff, List.contains_iff_mem, List.contains_iff_mem, fan_mem, fan_mem]
  constructor
  · rintro ⟨x, hx, h⟩
    exact ⟨x, hx, ((path_tail hg (hn x hx).1 (hn x hx).2 _).1 h).1⟩
  · rintro ⟨x, hx, h⟩
    exact ⟨x, hx, (path_tail hg (hn x hx).1 (hn x hx).2 _).2 ⟨h, by omega⟩⟩
theorem shG_pos (ps ls ns : List Int) : 1 ≤ shG ps ls ns := by
  unfold shG
  have : 0 < Int.gcd (shr0 ps ls ns) 100000000000000 := Int.gcd_pos_of_ne_zero_right _ (by decide)
  omega
end Go.Proofs.Ytppdbnopgcjgjaa
