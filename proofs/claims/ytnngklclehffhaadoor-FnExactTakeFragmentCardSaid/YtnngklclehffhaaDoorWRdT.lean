/- Readings where a row turns. -/
import Derived.Test.YtnngklclehffhaaDoorKit2
namespace Go.Proofs.YtnngklclehffhaaDoor
open Go.RowKit
theorem rd_lt {w : World} {k n b o m c : Nat} {u : Value} {cs : List Value} (h : Rd w k u n cs) (hk : 0 < k) (e : u = .slice (some ⟨b, o, none⟩) m c) (hm : 0 < m) : b < w.heap.size := by
  obtain ⟨h1, p, cap, e2, h4⟩ := h
  rw [e] at e2
  cases e2
  obtain ⟨b', o', e3, h6⟩ := h4.resolve_left (by omega)
  cases e3
  have := World.block_lt_of_cell? _ _ (h6 0 (by rw [h1]; exact Nat.mul_pos hm hk))
  exact this
theorem rd_turn {w w' : World} {k n : Nat} {u : Value} {cs : List Value} {row : Option Nat} (h : Rd w k u n cs) (hg : w.grownBy w' row) (hs : ∀ b o m c, u = .slice (some ⟨b, o, none⟩) m c → 0 < m → row ≠ some b) : Rd w' k u n cs := by
  obtain ⟨h1, p, cap, e, h4⟩ := h
  refine ⟨h1, p, cap, e, ?_⟩
  rcases h4 with h4 | ⟨b, o, e2, h6⟩
  · exact .inl h4
  · by_cases h0 : n = 0
    · exact .inl h0
    · subst e2
      exact .inr ⟨b, o, rfl, fun j hj => hg.cell (h6 j hj) (fun e3 => hs b o n cap e (by omega) e3.symm)⟩
end Go.Proofs.YtnngklclehffhaaDoor
