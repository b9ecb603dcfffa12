/- Delays. -/
import Derived.Test.YthjklcodgcojbaaDoorWNodes
namespace Go.Proofs.YthjklcodgcojbaaDoor
open Go.RowKit
set_option maxHeartbeats 400000
def delF (ds : List Int) (L : List Int) : Int := (L.map (fun y => ds.getD y.toNat 0)).sum
def del (ps ds : List Int) (x : Int) : Int := delF ds (path ps x)
theorem delF_snoc (ds L : List Int) (k : Nat) (h : k < L.length) : delF ds (L.take (k + 1)) = delF ds (L.take k) + ds.getD (L.getD k 0).toNat 0 := by
  rw [take_snoc L 0 k h]; simp [delF]
theorem cost_ds {ps ls ds : List Int} (h : goodC ps ls ds = true) (y : Int) (h0 : 0 ≤ y) (h1 : y < ps.length) : 0 ≤ ds.getD y.toNat 0 ∧ ds.getD y.toNat 0 ≤ 1000 := by
  have h4 := (goodC_all h).2.2.2.1
  have h5 := (List.all_eq_true.1 h4) y.toNat (List.mem_range.2 (by omega))
  rw [costOk, Bool.and_eq_true, inB_iff, inB_iff] at h5
  exact h5.2
theorem cost_ls {ps ls ds : List Int} (h : goodC ps ls ds = true) (y : Int) (h0 : 0 ≤ y) (h1 : y < ps.length) : 0 ≤ ls.getD y.toNat 0 ∧ ls.getD y.toNat 0 ≤ 100 := by
  have h4 := (goodC_all h).2.2.2.1
  have h5 := (List.all_eq_true.1 h4) y.toNat (List.mem_range.2 (by omega))
  rw [costOk, Bool.and_eq_true, inB_iff, inB_iff] at h5
  exact h5.1
theorem mem_getD {L : List Int} {k : Nat} (h : k < L.length) : L.getD k 0 ∈ L := by
  rw [List.getD_eq_getElem?_getD, List.getElem?_eq_getElem h]; exact List.getElem_mem h
theorem delF_bd {ps ls ds L : List Int} (h : goodC ps ls ds = true) (hL : ∀ y ∈ L, 0 ≤ y ∧ y < ps.length) : ∀ k, k ≤ L.length → 0 ≤ delF ds (L.take k) ∧ delF ds (L.take k) ≤ 1000 * k
  | 0, _ => by simp [delF]
  | k + 1, hk => by
    have h1 := delF_bd h hL k (by omega)
    have h2 := hL _ (mem_getD (L := L) (k := k) (by omega))
    have h3 := cost_ds h _ h2.1 h2.2
    rw [delF_snoc ds L k (by omega)]
    omega
theorem del_bd {ps ls ds : List Int} (h : goodC ps ls ds = true) {x : Int} (hx : x < ps.length) : 0 ≤ del ps ds x ∧ del ps ds x ≤ 8000 := by
  have hT := (goodC_all h).1
  have h1 := delF_bd h (path_mem hT hx) (path ps x).length (Nat.le_refl _)
  have h2 := path_len hT hx
  rw [List.take_length] at h1
  unfold del; omega
theorem spec_l6Node (ps : List Int) (v : Value) (x : Int) (w : World) (h : Rd w 1 v ps.length (vInts ps)) (h2 : ps.length ≤ 1048576) :
    Calls Tryd.prog 70 #[.agg #[v], .int .i64 x] w fun e w' => e = .returned (.bool (goodT ps && isNode ps.length x)) ∧ Ext w w' := by
  have hr := h
  obtain ⟨h1, p, cap, rfl, h4⟩ := h
  have Hr := hid hr
  clear h1 h4 hr
  cases hg : goodT ps
  · have Hg := hid hg
    go_enter Tryd.func70, Tryd.ntmps70
    go_wp2_with (go_at_call 91; refine (spec_l6Good ps _ _ (Hr.out.ext (by repeat' (first | exact Ext.refl _ | assumption | refine Ext.alloc ?_ _ | refine Ext.ext ?_ _ | refine Ext.drew ?_ | refine Ext.drewN ?_ _))) h2).mono ?_; rintro e w' ⟨rfl, z1, rfl⟩)
    go_ret
    exact ⟨by simp, (by repeat' (first | exact Ext.refl _ | assumption | refine Ext.alloc ?_ _ | refine Ext.ext ?_ _ | refine Ext.drew ?_ | refine Ext.drewN ?_ _))⟩
  · have Hg := hid hg
    go_enter Tryd.func70, Tryd.ntmps70
    go_wp2_with (first | (go_at_call 91; refine (spec_l6Good ps _ _ (Hr.out.ext (by repeat' (first | exact Ext.refl _ | assumption | refine Ext.alloc ?_ _ | refine Ext.ext ?_ _ | refine Ext.drew ?_ | refine Ext.drewN ?_ _))) h2).mono ?_; rintro e w' ⟨rfl, z1, rfl⟩) | (go_at_call 106; refine (spec_l1In _ _ _ _).mono ?_; rintro e w' ⟨rfl, rfl⟩))
    go_ret
    exact ⟨by simp [isNode], (by repeat' (first | exact Ext.refl _ | assumption | refine Ext.alloc ?_ _ | refine Ext.ext ?_ _ | refine Ext.drew ?_ | refine Ext.drewN ?_ _))⟩
end Go.Proofs.YthjklcodgcojbaaDoor
