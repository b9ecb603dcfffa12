/- Costs: which are valid. -/
import Derived.Test.YthjklcodgcojbaaDoorWCL
namespace Go.Proofs.YthjklcodgcojbaaDoor
open Go.RowKit
set_option maxHeartbeats 400000
def costOk (ls ds : List Int) (i : Nat) : Bool := inB (ls.getD i 0) 0 100 && inB (ds.getD i 0) 0 1000
def costsOk (n : Nat) (ls ds : List Int) : Bool := (List.range n).all (costOk ls ds)
def goodC (ps ls ds : List Int) : Bool :=
  goodT ps && ((ls.length : Int) == ps.length) && ((ds.length : Int) == ps.length) && costsOk ps.length ls ds && (ls.getD 0 0 == 0) && (ds.getD 0 0 == 0)
theorem goodC_all {ps ls ds : List Int} (h : goodC ps ls ds = true) : goodT ps = true ∧ ls.length = ps.length ∧ ds.length = ps.length ∧ costsOk ps.length ls ds = true ∧ ls.getD 0 0 = 0 ∧ ds.getD 0 0 = 0 := by
  unfold goodC at h
  simp only [Bool.and_eq_true, beq_iff_eq] at h
  obtain ⟨⟨⟨⟨⟨a, b⟩, c⟩, d⟩, e⟩, f⟩ := h
  exact ⟨a, by omega, by omega, d, e, f⟩
theorem goodC_no {ps ls ds : List Int} (h : goodT ps = false ∨ ¬ ls.length = ps.length ∨ ¬ ds.length = ps.length ∨ costsOk ps.length ls ds = false ∨ ¬ ls.getD 0 0 = 0 ∨ ¬ ds.getD 0 0 = 0) : goodC ps ls ds = false := by
  rw [← Bool.not_eq_true]
  intro hg
  obtain ⟨a, b, c, d, e, f⟩ := goodC_all hg
  rcases h with h | h | h | h | h | h <;> simp_all
theorem goodC_yes {ps ls ds : List Int} (h1 : goodT ps = true) (h2 : ls.length = ps.length) (h3 : ds.length = ps.length) (h4 : costsOk ps.length ls ds = true) (h5 : ls.getD 0 0 = 0) (h6 : ds.getD 0 0 = 0) : goodC ps ls ds = true := by
  simp [goodC, h1, h2, h3, h4]
  exact ⟨by simpa using h5, by simpa using h6⟩
end Go.Proofs.YthjklcodgcojbaaDoor
