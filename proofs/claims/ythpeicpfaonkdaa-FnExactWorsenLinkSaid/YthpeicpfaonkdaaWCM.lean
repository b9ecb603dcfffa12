/- Marks on trees and costs. -/
import Derived.Test.YthpeicpfaonkdaaWCL
namespace Go.Proofs.Ythpeicpfaonkdaa
open Go.RowKit
set_option maxHeartbeats 400000
/-- Two rows in two blocks. -/
def Dis (v u : Value) : Prop := v.ownBlock = none ∨ v.ownBlock ≠ u.ownBlock
theorem Dis.symm {v u : Value} (h : Dis v u) (hu : u.ownBlock = none ∨ v.ownBlock ≠ none) : Dis u v := by
  unfold Dis at *
  rcases hu with hu | hu
  · exact .inl hu
  · rcases h with h | h
    · exact absurd h hu
    · exact .inr (fun e => h e.symm)
theorem dis_of {w w' : World} {b b' c n m k e f : Nat} {v u : Value} {cs ds : List Value} (_h : w.ownsRow b e k v n cs) (h' : w'.ownsRow b' f c u m ds) (hs : ∀ j, v.ownBlock = some j → j < b') : Dis v u := by
  cases hv : v.ownBlock with
  | none => exact .inl hv
  | some j =>
    refine .inr fun e => ?_
    rw [hv] at e
    have := (h'.lt j e.symm).1
    have := hs j hv
    omega
theorem laws_markTree (n : Nat) (cs : List Value) (v : Value) (k0 : Int) (w : World) (B : Nat) (ho : w.ownsRow B 3 1 v n cs) (hn : n ≤ 1099511627776) (hk0 : 0 ≤ k0) (hk1 : k0 ≤ 1099511627776) :
    Calls Try.prog 27 #[.agg #[v], .int .i64 k0] w fun e w' => e = .returned (.int .i64 (k0 + n)) ∧ w'.ownsRow B 3 1 v n (vInts (marks n k0)) ∧ w.grownBy w' v.ownBlock := by
  have Ho := hid ho; clear ho
  go_enter Try.func27, Try.ntmps27
  go_wp2_with fail
  have hx : Ext w (w.alloc (.cells #[v] 30)) := (by repeat' (first | exact Ext.refl _ | assumption | refine Ext.alloc ?_ _ | refine Ext.ext ?_ _ | refine Ext.drew ?_ | refine Ext.drewN ?_ _))
  have Hx := hid hx
  have ho1 := own_ext Ho.out hx
  clear hx
  go_at_call 42
  refine (laws_markIntS n cs _ k0 _ B ho1 hn hk0 hk1).mono ?_
  rintro e w' ⟨rfl, hm, hg⟩
  have K := hid (And.intro hm (grownBy_trans (Hx.out.grownBy _) hg))
  clear hm hg ho1
  go_wp2
  go_ret
  exact ⟨rfl, K.out⟩
theorem laws_markPathCosts (n m : Nat) (cs ds : List Value) (v u : Value) (k0 : Int) (w : World) (B C : Nat) (ho : w.ownsRow B 3 1 v n cs) (ho' : w.ownsRow C 3 1 u m ds) (hd : Dis v u) (hn : n ≤ 1048576) (hm : m ≤ 1048576) (hk0 : 0 ≤ k0) (hk1 : k0 ≤ 2097152) :
    Calls Try.prog 28 #[.agg #[v, u], .int .i64 k0] w fun e w' => e = .returned (.int .i64 (k0 + n + m)) ∧ w'.ownsRow B 3 1 v n (vInts (marks n k0)) ∧ w'.ownsRow C 3 1 u m (vInts (marks m (k0 + n))) ∧
      ∃ wm, w.grownBy wm v.ownBlock ∧ wm.grownBy w' u.ownBlock := by
  have Ho := hid ho; clear ho
  have Ho' := hid ho'; clear ho'
  have Hd := hid hd; clear hd
  have hx : Ext w (w.alloc (.cells #[v, u] 32)) := (by repeat' (first | exact Ext.refl _ | assumption | refine Ext.alloc ?_ _ | refine Ext.ext ?_ _ | refine Ext.drew ?_ | refine Ext.drewN ?_ _))
  have Hx := hid hx
  have b1 : (w.alloc (.cells #[v, u] 32)).cell? ⟨w.heap.size, 1, none⟩ = some u := by rw [cell_of_row _ _ 1 _ _ (0, 0) (heap_at _ rfl)]; rfl
  have B1 := hid b1
  clear hx b1
  go_enter Try.func28, Try.ntmps28
  go_wp2_with fail
  go_at_call 42
  refine (laws_markIntS n cs _ k0 _ B (own_ext Ho.out Hx.out) (by omega) hk0 (by omega)).mono ?_
  rintro e w1 ⟨rfl, hm1, hg1⟩
  have b2 := hg1.cell B1.out (fun e => by have := (own_row Ho.out _ e.symm).2; simp at this)
  have ho2 : w1.ownsRow C 3 1 u m ds := by
    refine (own_ext Ho'.out Hx.out).kept hg1 ?_
    cases hu : u.ownBlock with
    | none => exact .inl rfl
    | some j =>
      refine .inr fun e => ?_
      rcases Hd.out with h | h
      · rw [h] at e; cases e
      · exact h (by rw [← e, hu])
  have K := hid (And.intro hm1 (And.intro hg1 ho2))
  clear hm1 hg1 ho2
  go_wp2_with fail
  go_at_call 42
  refine (laws_markIntS m ds _ (k0 + n) _ C K.out.2.2 (by omega) (by omega) (by omega)).mono ?_
  rintro e w2 ⟨rfl, hm2, hg2⟩
  have hk := K.out.1.kept hg2 Hd.out
  have L := hid (And.intro hk (And.intro hm2 hg2))
  clear hk hm2 hg2 b2
  go_wp2
  go_ret
  exact ⟨rfl, L.out.1, L.out.2.1, w1, grownBy_trans (Hx.out.grownBy _) K.out.2.1, L.out.2.2⟩
theorem laws_heldPathCosts (n m : Nat) (v u : Value) (k0 : Int) (w : World) (hv : Rd w 1 v n (vInts (marks n k0))) (hu : Rd w 1 u m (vInts (marks m (k0 + n)))) (hn : n ≤ 1048576) (hm : m ≤ 1048576) (hk0 : 0 ≤ k0) (hk1 : k0 ≤ 2097152) :
    Calls Try.prog 29 #[.agg #[v, u], .int .i64 k0] w fun e w' => e = .returned (.int .i64 (k0 + n + m)) ∧ Ext w w' := by
  have Hv := hid hv; clear hv
  have Hu := hid hu; clear hu
  have t0 : decide (k0 + (n : Int) < 0) = false := by simp; omega
  have t1 : decide (k0 + (n : Int) + m < 0) = false := by simp; omega
  go_enter Try.func29, Try.ntmps29
  go_wp2_with fail
  go_at_call 43
  refine (laws_heldIntS n _ k0 _ (Hv.out.ext (by repeat' (first | exact Ext.refl _ | assumption | refine Ext.alloc ?_ _ | refine Ext.ext ?_ _ | refine Ext.drew ?_ | refine Ext.drewN ?_ _))) (by omega) hk0 (by omega)).mono ?_
  rintro e w' ⟨rfl, z1, rfl⟩
  go_wp2_with fail
  go_at_call 43
  refine (laws_heldIntS m _ (k0 + n) _ (Hu.out.ext (by repeat' (first | exact Ext.refl _ | assumption | refine Ext.alloc ?_ _ | refine Ext.ext ?_ _ | refine Ext.drew ?_ | refine Ext.drewN ?_ _))) (by omega) (by omega) (by omega)).mono ?_
  rintro e w' ⟨rfl, z2, rfl⟩
  go_wp2
  go_ret
  exact ⟨rfl, (by repeat' (first | exact Ext.refl _ | assumption | refine Ext.alloc ?_ _ | refine Ext.ext ?_ _ | refine Ext.drew ?_ | refine Ext.drewN ?_ _))⟩
end Go.Proofs.Ythpeicpfaonkdaa
