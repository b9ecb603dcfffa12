/- The reference's membership. -/
import Derived.Test.YtlaochpkelbchaaDoorWSl
namespace Go.Proofs.YtlaochpkelbchaaDoor
open Go.RowKit
set_option maxHeartbeats 400000
theorem contains_at {xs : List Int} {k : Nat} (h : k < xs.length) (x : Int) (e : xs.getD k 0 = x) : xs.contains x = true := by
  rw [List.contains_iff_mem, ← e, List.getD_eq_getElem?_getD, List.getElem?_eq_getElem h]; exact List.getElem_mem h
theorem contains_no {xs : List Int} (x : Int) (h : ∀ i, i < xs.length → ¬ xs.getD i 0 = x) : xs.contains x = false := by
  rw [← Bool.not_eq_true, List.contains_iff_mem]
  intro hm
  obtain ⟨i, hi, e⟩ := List.mem_iff_getElem.1 hm
  refine h i hi ?_
  rw [List.getD_eq_getElem?_getD, List.getElem?_eq_getElem hi]; exact e
end Go.Proofs.YtlaochpkelbchaaDoor
