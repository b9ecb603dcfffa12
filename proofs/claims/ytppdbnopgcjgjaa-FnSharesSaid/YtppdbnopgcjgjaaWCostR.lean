/- The leaves, and the laws' comparison of costs. -/
import Derived.Test.YtppdbnopgcjgjaaWLawR
import Derived.Test.YtppdbnopgcjgjaaWTree
import Derived.Test.YtppdbnopgcjgjaaWSlow2
namespace Go.Proofs.Ytppdbnopgcjgjaa
open Go.RowKit
set_option maxHeartbeats 1000000
set_option maxRecDepth 100000
theorem laws_rCosts (ls ds : List Int) (v v' u u' : Value) (w : World) (hv : Rd w 1 v ls.length (vInts ls)) (hv' : Rd w 1 v' ds.length (vInts ds)) (hu : Rd w 1 u ls.length (vInts ls)) (hu' : Rd w 1 u' ds.length (vInts ds)) (hn : ls.length ≤ 1048576) (hn' : ds.length ≤ 1048576) :
    Calls Try.prog 37 #[.agg #[v, v'], .agg #[u, u']] w fun e w' => e = .returned (.bool true) ∧ Ext w w' := by
  have h1 := fun w hv hu => laws_rInts ls v u w hv hu (by omega)
  have h2 := fun w hv hu => laws_rInts ds v' u' w hv hu (by omega)
  have Hv := hid hv
  have Hv' := hid hv'
  have Hu := hid hu
  have Hu' := hid hu'
  have H1 := hid h1
  have H2 := hid h2
  clear hv hv' hu hu' h1 h2
  go_enter Try.func37, Try.ntmps37
  go_wp2_with (first | (go_at_call 33; (with_reducible refine (H1.out _ (Hv.out.ext (by repeat' (first | exact Ext.refl _ | assumption | refine Ext.alloc ?_ _ | refine Ext.ext ?_ _ | refine Ext.drew ?_ | refine Ext.drewN ?_ _))) (Hu.out.ext (by repeat' (first | exact Ext.refl _ | assumption | refine Ext.alloc ?_ _ | refine Ext.ext ?_ _ | refine Ext.drew ?_ | refine Ext.drewN ?_ _)))).mono ?_); rintro e w1 ⟨rfl, z1, rfl⟩) | (go_at_call 33; (with_reducible refine (H2.out _ (Hv'.out.ext (by repeat' (first | exact Ext.refl _ | assumption | refine Ext.alloc ?_ _ | refine Ext.ext ?_ _ | refine Ext.drew ?_ | refine Ext.drewN ?_ _))) (Hu'.out.ext (by repeat' (first | exact Ext.refl _ | assumption | refine Ext.alloc ?_ _ | refine Ext.ext ?_ _ | refine Ext.drew ?_ | refine Ext.drewN ?_ _)))).mono ?_); rintro e w1 ⟨rfl, z2, rfl⟩))
  go_ret
  exact ⟨rfl, (by repeat' (first | exact Ext.refl _ | assumption | refine Ext.alloc ?_ _ | refine Ext.ext ?_ _ | refine Ext.drew ?_ | refine Ext.drewN ?_ _))⟩
def lvsL (ps : List Int) : List Int := if goodT ps then leavesL ps else []
theorem lvsL_yes {ps : List Int} (h : goodT ps = true) : lvsL ps = leavesL ps := by simp [lvsL, h]
theorem impl_LeavesOf (ps : List Int) (v : Value) (w : World) (h : Rd w 1 v ps.length (vInts ps)) (h2 : ps.length ≤ 1048576) :
    Calls Try.prog 17 #[.agg #[v]] w fun e w' => ∃ r, e = .returned (.tuple #[r, .bool (goodT ps)]) ∧ w'.ownsRow w.heap.size 3 1 r (lvsL ps).length (vInts (lvsL ps)) ∧ Ext w w' := by
  have Hr := hid h
  have hg := hid (fun w h => impl_IsValidTree ps v w h h2)
  clear h
  cases e1 : goodT ps
  · have hl : lvsL ps = [] := by simp [lvsL, e1]
    rw [hl]
    rw [e1] at hg
    go_enter Try.func17, Try.ntmps17
    go_wp2_with (go_at_call 58; (refine (hg.out _ (Hr.out.ext (by repeat' (first | exact Ext.refl _ | assumption | refine Ext.alloc ?_ _ | refine Ext.ext ?_ _ | refine Ext.drew ?_ | refine Ext.drewN ?_ _)))).mono ?_); rintro e w1 ⟨rfl, z1, rfl⟩)
    go_ret2
    exact ⟨_, rfl, World.ownsRow_nil _ _ _ _, (by repeat' (first | exact Ext.refl _ | assumption | refine Ext.alloc ?_ _ | refine Ext.ext ?_ _ | refine Ext.drew ?_ | refine Ext.drewN ?_ _))⟩
  · have hlen := goodT_len e1
    have hl := lvsL_yes e1
    rw [hl]
    rw [e1] at hg
    have hlv := hid (fun w h => impl_leaves ps v w h hlen.2)
    clear hl e1
    go_enter Try.func17, Try.ntmps17
    have X1 : Ext w (w.alloc (.cells #[v] 26)) := (by repeat' (first | exact Ext.refl _ | assumption | refine Ext.alloc ?_ _ | refine Ext.ext ?_ _ | refine Ext.drew ?_ | refine Ext.drewN ?_ _))
    go_wp2_with fail
    go_at_call 58
    refine (hg.out _ (Hr.out.ext X1)).mono ?_
    rintro e w1 ⟨rfl, hx1⟩
    have b0 := hx1.cell (show (w.alloc (.cells #[v] 26)).cell? ⟨w.heap.size, 0, none⟩ = some v by rw [cell_of_row _ _ 0 _ _ (0, 0) (heap_at _ rfl)]; rfl)
    have X2 := hid (X1.trans hx1)
    clear hx1
    go_wp2_with fail
    go_at_call 53
    refine (hlv.out _ (Hr.out.ext X2.out)).mono ?_
    rintro e w2 ⟨r, rfl, ho, hx2⟩
    obtain ⟨rp, rc, rfl⟩ := own_shape ho
    have K := hid (And.intro (own_mono ho X2.out.size) (X2.out.trans hx2))
    clear ho hx2 b0
    go_wp2
    go_ret2
    exact ⟨_, rfl, K.out.1, K.out.2⟩
end Go.Proofs.Ytppdbnopgcjgjaa
