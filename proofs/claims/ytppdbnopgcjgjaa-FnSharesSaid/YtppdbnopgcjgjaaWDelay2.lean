/- Delays to nodes. -/
import Derived.Test.YtppdbnopgcjgjaaWDelay
namespace Go.Proofs.Ytppdbnopgcjgjaa
open Go.RowKit
set_option maxHeartbeats 400000
def hasC (ps ls ds : List Int) (x : Int) : Bool := goodC ps ls ds && isNode ps.length x
theorem hasC_iff {ps ls ds : List Int} {x : Int} (h : hasC ps ls ds x = true) : goodC ps ls ds = true ∧ 0 ≤ x ∧ x < ps.length := by
  rw [hasC, Bool.and_eq_true, isNode, inB_iff] at h
  exact ⟨h.1, by omega, by omega⟩
theorem nodesIn_one (ps : List Int) (x : Int) : nodesIn ps [x] = isNode ps.length x := by simp [nodesIn, allG]
def delayTo (ps ls ds : List Int) (x : Int) : Int := if hasC ps ls ds x then del ps ds x else 0
theorem delayTo_no {ps ls ds : List Int} {x : Int} (h : hasC ps ls ds x = false) : delayTo ps ls ds x = 0 := by simp [delayTo, h]
theorem delayTo_yes {ps ls ds : List Int} {x : Int} (h : hasC ps ls ds x = true) : delayTo ps ls ds x = del ps ds x := by simp [delayTo, h]
theorem spec_DelayTo (ps ls ds : List Int) (v u u' : Value) (x : Int) (w : World) (h : Rd w 1 v ps.length (vInts ps)) (k : Rd w 1 u ls.length (vInts ls)) (l : Rd w 1 u' ds.length (vInts ds))
    (h2 : ps.length ≤ 1048576) (k2 : ls.length ≤ 1048576) (l2 : ds.length ≤ 1048576) :
    Calls Try.prog 19 #[.agg #[v], .agg #[u, u'], .int .i64 x] w fun e w' => e = .returned (.tuple #[.int .i64 (delayTo ps ls ds x), .bool (hasC ps ls ds x)]) ∧ Ext w w' := by
  have Hr := hid h
  have Kr := hid k
  have Lr := hid l
  clear h k l
  have hc : Hid (∀ (v u u' : Value) (w : World), Rd w 1 v ps.length (vInts ps) → Rd w 1 u ls.length (vInts ls) → Rd w 1 u' ds.length (vInts ds) →
      Calls Try.prog 43 #[.agg #[v], .agg #[u, u'], .int .i64 x] w fun e w' => e = .returned (.bool (hasC ps ls ds x)) ∧ Ext w w') :=
    fun v u u' w h k l => spec_l22Node ps ls ds v u u' x w h k l h2 k2 l2
  cases hg : hasC ps ls ds x
  · rw [hg] at hc
    have Hg := hid hg
    go_enter Try.func19, Try.ntmps19
    go_wp2_with (go_at_call 43; refine (hc.out _ _ _ _ (Hr.out.ext (by repeat' (first | exact Ext.refl _ | assumption | refine Ext.alloc ?_ _ | refine Ext.ext ?_ _ | refine Ext.drew ?_ | refine Ext.drewN ?_ _))) (Kr.out.ext (by repeat' (first | exact Ext.refl _ | assumption | refine Ext.alloc ?_ _ | refine Ext.ext ?_ _ | refine Ext.drew ?_ | refine Ext.drewN ?_ _))) (Lr.out.ext (by repeat' (first | exact Ext.refl _ | assumption | refine Ext.alloc ?_ _ | refine Ext.ext ?_ _ | refine Ext.drew ?_ | refine Ext.drewN ?_ _)))).mono ?_; rintro e w' ⟨rfl, z1, rfl⟩)
    go_ret2
    rw [delayTo_no Hg.out]
    exact ⟨rfl, (by repeat' (first | exact Ext.refl _ | assumption | refine Ext.alloc ?_ _ | refine Ext.ext ?_ _ | refine Ext.drew ?_ | refine Ext.drewN ?_ _))⟩
  · rw [hg] at hc
    have Hg := hid hg
    obtain ⟨h3, h4, h5⟩ := hasC_iff hg
    have hd := fun v u u' w h k => spec_l22Delay ps ls ds v u u' x w h k h3 (by omega) h5
    have Hd := hid hd; clear hd h3 h4 h5
    go_enter Try.func19, Try.ntmps19
    go_wp2_with (first | (go_at_call 43; refine (hc.out _ _ _ _ (Hr.out.ext (by repeat' (first | exact Ext.refl _ | assumption | refine Ext.alloc ?_ _ | refine Ext.ext ?_ _ | refine Ext.drew ?_ | refine Ext.drewN ?_ _))) (Kr.out.ext (by repeat' (first | exact Ext.refl _ | assumption | refine Ext.alloc ?_ _ | refine Ext.ext ?_ _ | refine Ext.drew ?_ | refine Ext.drewN ?_ _))) (Lr.out.ext (by repeat' (first | exact Ext.refl _ | assumption | refine Ext.alloc ?_ _ | refine Ext.ext ?_ _ | refine Ext.drew ?_ | refine Ext.drewN ?_ _)))).mono ?_; rintro e w' ⟨rfl, z1, rfl⟩) | (go_at_call 57; refine (Hd.out _ _ _ _ (Hr.out.ext (by repeat' (first | exact Ext.refl _ | assumption | refine Ext.alloc ?_ _ | refine Ext.ext ?_ _ | refine Ext.drew ?_ | refine Ext.drewN ?_ _))) (Lr.out.ext (by repeat' (first | exact Ext.refl _ | assumption | refine Ext.alloc ?_ _ | refine Ext.ext ?_ _ | refine Ext.drew ?_ | refine Ext.drewN ?_ _)))).mono ?_; rintro e w' ⟨rfl, z1, rfl⟩))
    go_ret2
    rw [delayTo_yes Hg.out]
    exact ⟨rfl, (by repeat' (first | exact Ext.refl _ | assumption | refine Ext.alloc ?_ _ | refine Ext.ext ?_ _ | refine Ext.drew ?_ | refine Ext.drewN ?_ _))⟩
theorem impl_hasCosts_one (ps ls ds : List Int) (v u u' y : Value) (x : Int) (w : World) (h : Rd w 1 v ps.length (vInts ps)) (k : Rd w 1 u ls.length (vInts ls)) (l : Rd w 1 u' ds.length (vInts ds)) (m : Rd w 1 y 1 [.int .i64 x])
    (h2 : ps.length ≤ 1048576) (k2 : ls.length ≤ 1048576) (l2 : ds.length ≤ 1048576) :
    Calls Try.prog 41 #[.agg #[v], .agg #[u, u'], y] w fun e w' => e = .returned (.bool (hasC ps ls ds x)) ∧ Ext w w' := by
  have := impl_hasCosts ps ls ds [x] v u u' y w h k l m h2 k2 l2 (by simp)
  rw [nodesIn_one] at this
  exact this
theorem impl_DelayTo (ps ls ds : List Int) (v u u' : Value) (x : Int) (w : World) (h : Rd w 1 v ps.length (vInts ps)) (k : Rd w 1 u ls.length (vInts ls)) (l : Rd w 1 u' ds.length (vInts ds))
    (h2 : ps.length ≤ 1048576) (k2 : ls.length ≤ 1048576) (l2 : ds.length ≤ 1048576) :
    Calls Try.prog 9 #[.agg #[v], .agg #[u, u'], .int .i64 x] w fun e w' => e = .returned (.tuple #[.int .i64 (delayTo ps ls ds x), .bool (hasC ps ls ds x)]) ∧ Ext w w' := by
  have Hr := hid h
  have Kr := hid k
  have Lr := hid l
  clear h k l
  have hc : Hid (∀ (v u u' y : Value) (w : World), Rd w 1 v ps.length (vInts ps) → Rd w 1 u ls.length (vInts ls) → Rd w 1 u' ds.length (vInts ds) → Rd w 1 y 1 [.int .i64 x] →
      Calls Try.prog 41 #[.agg #[v], .agg #[u, u'], y] w fun e w' => e = .returned (.bool (hasC ps ls ds x)) ∧ Ext w w') :=
    fun v u u' y w h k l m => impl_hasCosts_one ps ls ds v u u' y x w h k l m h2 k2 l2
  have hlit : Rd (((w.alloc (.cells #[v] 26)).alloc (.cells #[u, u'] 28)).alloc (.cells #[.int .i64 x] 3)) 1 (.slice (some ⟨w.heap.size + 1 + 1, 0, none⟩) 1 1) 1 [.int .i64 x] := by
    have := World.ownsRow_lit (base := 0) (e := 3) (size := 1) ((w.alloc (.cells #[v] 26)).alloc (.cells #[u, u'] 28)) #[.int .i64 x] 1 (Nat.zero_le _) (by decide) rfl
    simpa using Rd.own this
  have Hlit := hid hlit; clear hlit
  cases hg : hasC ps ls ds x
  · rw [hg] at hc
    have Hg := hid hg
    go_enter Try.func9, Try.ntmps9
    go_wp2_with (go_at_call 41; refine (hc.out _ _ _ _ _ (Hr.out.ext (by repeat' (first | exact Ext.refl _ | assumption | refine Ext.alloc ?_ _ | refine Ext.ext ?_ _ | refine Ext.drew ?_ | refine Ext.drewN ?_ _))) (Kr.out.ext (by repeat' (first | exact Ext.refl _ | assumption | refine Ext.alloc ?_ _ | refine Ext.ext ?_ _ | refine Ext.drew ?_ | refine Ext.drewN ?_ _))) (Lr.out.ext (by repeat' (first | exact Ext.refl _ | assumption | refine Ext.alloc ?_ _ | refine Ext.ext ?_ _ | refine Ext.drew ?_ | refine Ext.drewN ?_ _))) Hlit.out).mono ?_; rintro e w' ⟨rfl, z1, rfl⟩)
    go_ret2
    rw [delayTo_no Hg.out]
    exact ⟨rfl, (by repeat' (first | exact Ext.refl _ | assumption | refine Ext.alloc ?_ _ | refine Ext.ext ?_ _ | refine Ext.drew ?_ | refine Ext.drewN ?_ _))⟩
  · rw [hg] at hc
    have Hg := hid hg
    obtain ⟨h3, h4, h5⟩ := hasC_iff hg
    have hd := fun v u u' w h k => impl_delayTo ps ls ds v u u' x w h k h3 (by omega) h5
    have Hd := hid hd; clear hd h3 h4 h5
    go_enter Try.func9, Try.ntmps9
    go_wp2_with (first | (go_at_call 41; refine (hc.out _ _ _ _ _ (Hr.out.ext (by repeat' (first | exact Ext.refl _ | assumption | refine Ext.alloc ?_ _ | refine Ext.ext ?_ _ | refine Ext.drew ?_ | refine Ext.drewN ?_ _))) (Kr.out.ext (by repeat' (first | exact Ext.refl _ | assumption | refine Ext.alloc ?_ _ | refine Ext.ext ?_ _ | refine Ext.drew ?_ | refine Ext.drewN ?_ _))) (Lr.out.ext (by repeat' (first | exact Ext.refl _ | assumption | refine Ext.alloc ?_ _ | refine Ext.ext ?_ _ | refine Ext.drew ?_ | refine Ext.drewN ?_ _))) Hlit.out).mono ?_; rintro e w' ⟨rfl, z1, rfl⟩) | (go_at_call 46; refine (Hd.out _ _ _ _ (Hr.out.ext (by repeat' (first | exact Ext.refl _ | assumption | refine Ext.alloc ?_ _ | refine Ext.ext ?_ _ | refine Ext.drew ?_ | refine Ext.drewN ?_ _))) (Lr.out.ext (by repeat' (first | exact Ext.refl _ | assumption | refine Ext.alloc ?_ _ | refine Ext.ext ?_ _ | refine Ext.drew ?_ | refine Ext.drewN ?_ _)))).mono ?_; rintro e w' ⟨rfl, z1, rfl⟩))
    go_ret2
    rw [delayTo_yes Hg.out]
    exact ⟨rfl, (by repeat' (first | exact Ext.refl _ | assumption | refine Ext.alloc ?_ _ | refine Ext.ext ?_ _ | refine Ext.drew ?_ | refine Ext.drewN ?_ _))⟩
end Go.Proofs.Ytppdbnopgcjgjaa
