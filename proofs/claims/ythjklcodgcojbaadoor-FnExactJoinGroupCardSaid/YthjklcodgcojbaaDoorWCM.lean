/- Marks on trees and costs. -/
import Derived.Test.YthjklcodgcojbaaDoorWCL
namespace Go.Proofs.YthjklcodgcojbaaDoor
open Go.RowKit
set_option maxHeartbeats 400000
/-- Two rows in two blocks. -/
def Dis (v u : Value) : Prop := v.ownBlock = none ∨ v.ownBlock ≠ u.ownBlock
theorem Dis.symm {v u : Value} (h : Dis v u) (hu : u.ownBlock = none ∨ v.ownBlock ≠ none) : Dis u v := by
  unfold Dis at *
  rcases hu with hu | hu
  · exact .inl hu
  · rcases h with h | h
    · exact absurd h hu
    · exact .inr (fun e => h e.symm)
theorem dis_of {w w' : World} {b b' c n m k e f : Nat} {v u : Value} {cs ds : List Value} (_h : w.ownsRow b e k v n cs) (h' : w'.ownsRow b' f c u m ds) (hs : ∀ j, v.ownBlock = some j → j < b') : Dis v u := by
  cases hv : v.ownBlock with
  | none => exact .inl hv
  | some j =>
    refine .inr fun e => ?_
    rw [hv] at e
    have := (h'.lt j e.symm).1
    have := hs j hv
    omega
theorem laws_markTree (n : Nat) (cs : List Value) (v : Value) (k0 : Int) (w : World) (B : Nat) (ho : w.ownsRow B 3 1 v n cs) (hn : n ≤ 1099511627776) (hk0 : 0 ≤ k0) (hk1 : k0 ≤ 1099511627776) :
    Calls Tryd.prog 31 #[.agg #[v], .int .i64 k0] w fun e w' => e = .returned (.int .i64 (k0 + n)) ∧ w'.ownsRow B 3 1 v n (vInts (marks n k0)) ∧ w.grownBy w' v.ownBlock := by
  have Ho := hid ho; clear ho
  go_enter Tryd.func31, Tryd.ntmps31
  go_wp2_with fail
  have hx : Ext w (w.alloc (.cells #[v] 44)) := (by repeat' (first | exact Ext.refl _ | assumption | refine Ext.alloc ?_ _ | refine Ext.ext ?_ _ | refine Ext.drew ?_ | refine Ext.drewN ?_ _))
  have Hx := hid hx
  have ho1 := own_ext Ho.out hx
  clear hx
  go_at_call 18
  refine (laws_markIntS n cs _ k0 _ B ho1 hn hk0 hk1).mono ?_
  rintro e w' ⟨rfl, hm, hg⟩
  have K := hid (And.intro hm (grownBy_trans (Hx.out.grownBy _) hg))
  clear hm hg ho1
  go_wp2
  go_ret
  exact ⟨rfl, K.out⟩
end Go.Proofs.YthjklcodgcojbaaDoor
