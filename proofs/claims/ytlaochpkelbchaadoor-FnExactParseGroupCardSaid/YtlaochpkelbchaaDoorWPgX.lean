/- The law of ParseGroup: the walk. -/
import Derived.Test.YtlaochpkelbchaaDoorWPg2
import Derived.Test.YtlaochpkelbchaaDoorWGrp
namespace Go.Proofs.YtlaochpkelbchaaDoor
open Go.RowKit
set_option maxHeartbeats 2000000
set_option maxRecDepth 100000
theorem pgM_len (s : ByteArray) : (pgM (PGi s)).length ≤ 7 := by
  cases h : PGi s with
  | none => exact Nat.zero_le _
  | some x =>
    obtain ⟨a, ms⟩ := x
    have hk := (PGi_iff.1 h).1
    have hasc := risB_asc (okG_all hk).2.2
    have := asc_len (n := 8) ms 1 hasc (fun y hy => by have := risB_mem (okG_all hk).2.2 y hy; omega)
    show ms.length ≤ 7
    omega
theorem parseGroup_law (s : ByteArray) (w : World) (hv : Vrs w) (ht : Tab w) (hm : s.size ≤ maxLen) :
    Calls Tryd.prog 3 #[.string s] w fun e w' => e = .returned (.bool true) ∧ Ext w w' := by
  unfold maxLen at hm
  by_cases hbig : 1048576 < s.size
  · have t0 : (1048576 : Int) < (s.size : Int) := by omega
    go_enter Tryd.func3, Tryd.ntmps3
    go_wp2
    go_ret
    exact ⟨rfl, (by repeat' (first | exact Ext.refl _ | assumption | refine Ext.alloc ?_ _ | refine Ext.ext ?_ _ | refine Ext.drew ?_ | refine Ext.drewN ?_ _))⟩
  have t0 : ¬ (1048576 : Int) < (s.size : Int) := by omega
  have cs := hid (fun w => spec_ParseGroup s w (by omega))
  have ci := hid (fun w hv ht => impl_ParseGroup s w hv ht (by omega))
  rw [← PG_same] at cs
  have hl7 := pgM_len s
  generalize pgM (PGi s) = M at *
  generalize pgN (PGi s) = N at *
  generalize (PGi s).isSome = ok at *
  have ceq := hid (fun v u w h k => laws_eqGroup (s := N) M v u w h k (by omega))
  have Hv := hid hv
  have Ht := hid ht
  clear hv ht hbig hm
  go_enter Tryd.func3, Tryd.ntmps3
  go_wp2_with fail
  go_at_call 4
  refine (cs.out _).mono ?_
  rintro e w1 ⟨r, rfl, ho, hx⟩
  obtain ⟨rp, rc, rfl⟩ := own_shape ho
  have b0 : (w1.alloc (.cells #[.string N, .slice rp M.length rc] 24)).cell? ⟨w1.heap.size, 0, none⟩ = some (.string N) := by rw [cell_of_row _ _ 0 _ _ (0, 0) (heap_at _ rfl)]; rfl
  have b1 : (w1.alloc (.cells #[.string N, .slice rp M.length rc] 24)).cell? ⟨w1.heap.size, 1, none⟩ = some (.slice rp M.length rc) := by rw [cell_of_row _ _ 1 _ _ (0, 0) (heap_at _ rfl)]; rfl
  have hx1 : Ext w1 (w1.alloc (.cells #[.string N, .slice rp M.length rc] 24)) := (by repeat' (first | exact Ext.refl _ | assumption | refine Ext.alloc ?_ _ | refine Ext.ext ?_ _ | refine Ext.drew ?_ | refine Ext.drewN ?_ _))
  have L1 := hid (And.intro (hx.trans hx1) (own_ext ho hx1))
  have hw1 := hx.size
  have hlr : ∀ j, (Value.slice rp M.length rc).ownBlock = some j → j < w1.heap.size := fun j e => (own_row ho j e).2
  have hsz1 : (w1.alloc (.cells #[.string N, .slice rp M.length rc] 24)).heap.size = w1.heap.size + 1 := by simp
  have Hlr := hid (And.intro hlr hsz1)
  clear ho hx hx1 cs hlr hsz1
  go_wp2_with fail
  generalize w1.alloc (.cells #[.string N, .slice rp M.length rc] 24) = W1 at *
  go_at_call 5
  refine (ci.out _ (Hv.out.ext L1.out.1) (Ht.out.ext L1.out.1)).mono ?_
  rintro e w2 ⟨g, rfl, ho, hx⟩
  obtain ⟨gp, gc, rfl⟩ := own_shape ho
  replace b0 := hx.cell b0
  replace b1 := hx.cell b1
  have c0 : (w2.alloc (.cells #[.string N, .slice gp M.length gc] 24)).cell? ⟨w2.heap.size, 0, none⟩ = some (.string N) := by rw [cell_of_row _ _ 0 _ _ (0, 0) (heap_at _ rfl)]; rfl
  have c1 : (w2.alloc (.cells #[.string N, .slice gp M.length gc] 24)).cell? ⟨w2.heap.size, 1, none⟩ = some (.slice gp M.length gc) := by rw [cell_of_row _ _ 1 _ _ (0, 0) (heap_at _ rfl)]; rfl
  have hx1 : Ext w2 (w2.alloc (.cells #[.string N, .slice gp M.length gc] 24)) := (by repeat' (first | exact Ext.refl _ | assumption | refine Ext.alloc ?_ _ | refine Ext.ext ?_ _ | refine Ext.drew ?_ | refine Ext.drewN ?_ _))
  replace b0 := hx1.cell b0
  replace b1 := hx1.cell b1
  have L2 := hid (And.intro (L1.out.1.trans (hx.trans hx1)) (And.intro (own_ext L1.out.2 (hx.trans hx1)) (own_ext ho hx1)))
  have hgl : ∀ j, (Value.slice gp M.length gc).ownBlock = some j → w1.heap.size + 1 ≤ j ∧ j < w2.heap.size := fun j e => ⟨by have := (own_row ho j e).1; rw [Hlr.out.2] at this; exact this, (own_row ho j e).2⟩
  have Hgl := hid (And.intro hgl (show w1.heap.size < w2.heap.size from by have := hx.size; rw [Hlr.out.2] at this; omega))
  clear ho hx hx1 L1 hgl
  go_wp2_with fail
  generalize w2.alloc (.cells #[.string N, .slice gp M.length gc] 24) = W2 at *
  generalize w2.heap.size = C at *
  go_at_call 6
  refine (ceq.out _ _ _ (Rd.own L2.out.2.2) (Rd.own L2.out.2.1)).mono ?_
  rintro e w3 ⟨rfl, hx⟩
  replace b0 := hx.cell b0
  replace b1 := hx.cell b1
  replace c0 := hx.cell c0
  replace c1 := hx.cell c1
  have L3 := hid (And.intro (L2.out.1.trans hx) (And.intro (own_ext L2.out.2.1 hx) (own_ext L2.out.2.2 hx)))
  have hC : w1.heap.size < C := Hgl.out.2
  clear hx L2
  go_wp2_with fail
  go_at_call 7
  refine (laws_markGroup (s := N) M.length (vInts M) _ 1 w3 _ L3.out.2.2 (by omega) (by omega) (by omega)).mono ?_
  rintro e w4 ⟨rfl, ho, hg⟩
  replace b0 := hg.cell b0 (fun e => by have := (Hgl.out.1 _ e.symm).1; dsimp only at this; omega)
  replace b1 := hg.cell b1 (fun e => by have := (Hgl.out.1 _ e.symm).1; dsimp only at this; omega)
  replace c0 := hg.cell c0 (fun e => by have := (Hgl.out.1 _ e.symm).2; dsimp only at this; omega)
  replace c1 := hg.cell c1 (fun e => by have := (Hgl.out.1 _ e.symm).2; dsimp only at this; omega)
  have L4 := hid (And.intro (L3.out.1.grown hg (fun j e => by have := (Hgl.out.1 _ e).1; omega)) (And.intro (L3.out.2.1.kept hg (by
    cases he : (Value.slice rp M.length rc).ownBlock with
    | none => exact .inl rfl
    | some j => exact .inr (fun e => by have h1 := (Hgl.out.1 _ e.symm).1; have h2 := Hlr.out.1 _ he; omega))) ho))
  clear ho hg L3
  have hheld := hid (fun w h => laws_heldGroup (s := N) M.length (.slice gp M.length gc) 1 w h (by omega) (by omega) (by omega))
  have t3 : decide ((1 : Int) + (M.length : Int) < 0) = false := by apply decide_eq_false; omega
  go_wp2_with fail
  go_at_call 8
  refine (hheld.out _ (by have := Rd.own L4.out.2.2; exact this)).mono ?_
  rintro e w5 ⟨rfl, hx⟩
  replace b0 := hx.cell b0
  replace b1 := hx.cell b1
  replace c0 := hx.cell c0
  replace c1 := hx.cell c1
  have L5 := hid (And.intro (L4.out.1.trans hx) (And.intro (own_ext L4.out.2.1 hx) (own_ext L4.out.2.2 hx)))
  clear hx L4
  go_wp2_with fail
  go_at_call 5
  refine (ci.out _ (Hv.out.ext L5.out.1) (Ht.out.ext L5.out.1)).mono ?_
  rintro e w6 ⟨h, rfl, ho, hx⟩
  obtain ⟨hp, hc, rfl⟩ := own_shape ho
  have d0 : (w6.alloc (.cells #[.string N, .slice hp M.length hc] 24)).cell? ⟨w6.heap.size, 0, none⟩ = some (.string N) := by rw [cell_of_row _ _ 0 _ _ (0, 0) (heap_at _ rfl)]; rfl
  have d1 : (w6.alloc (.cells #[.string N, .slice hp M.length hc] 24)).cell? ⟨w6.heap.size, 1, none⟩ = some (.slice hp M.length hc) := by rw [cell_of_row _ _ 1 _ _ (0, 0) (heap_at _ rfl)]; rfl
  have hx1 : Ext w6 (w6.alloc (.cells #[.string N, .slice hp M.length hc] 24)) := (by repeat' (first | exact Ext.refl _ | assumption | refine Ext.alloc ?_ _ | refine Ext.ext ?_ _ | refine Ext.drew ?_ | refine Ext.drewN ?_ _))
  replace b0 := hx1.cell (hx.cell b0)
  replace b1 := hx1.cell (hx.cell b1)
  replace c0 := hx1.cell (hx.cell c0)
  replace c1 := hx1.cell (hx.cell c1)
  have L6 := hid (And.intro (L5.out.1.trans (hx.trans hx1)) (And.intro (And.intro (own_ext L5.out.2.1 (hx.trans hx1)) (own_ext L5.out.2.2 (hx.trans hx1))) (own_ext ho hx1)))
  clear ho hx hx1 L5
  go_wp2_with fail
  generalize w6.alloc (.cells #[.string N, .slice hp M.length hc] 24) = W6 at *
  generalize w6.heap.size = D at *
  go_at_call 6
  refine (ceq.out _ _ _ (Rd.own L6.out.2.2) (Rd.own L6.out.2.1.1)).mono ?_
  rintro e w7 ⟨rfl, hx⟩
  replace c0 := hx.cell c0
  replace c1 := hx.cell c1
  have L7 := hid (And.intro (L6.out.1.trans hx) (own_ext L6.out.2.1.2 hx))
  clear hx L6 b0 b1 d0 d1
  go_wp2_with fail
  go_at_call 8
  refine (hheld.out _ (by have := Rd.own L7.out.2; exact this)).mono ?_
  rintro e w8 ⟨rfl, hx⟩
  have L8 := hid (L7.out.1.trans hx)
  clear hx L7 c0 c1
  go_wp2
  go_ret
  exact ⟨rfl, L8.out⟩
end Go.Proofs.YtlaochpkelbchaaDoor
