/- Two captures joined: the program's walk. -/
import Derived.Test.YtljknhocfjpolaaGreatDoorKWConc
import Derived.Test.YtljknhocfjpolaaGreatDoorKWSort
import Derived.Test.YtljknhocfjpolaaGreatDoorKWJoinC
namespace Go.Proofs.YtljknhocfjpolaaGreatDoor
open Go.RowKit
set_option maxHeartbeats 1000000
set_option maxRecDepth 100000
theorem jD_len (a b : List Cap) : (jD a b).length ≤ 1048576 := by
  rw [jD]
  split
  · rename_i h
    rw [jB, Bool.and_eq_true, Bool.and_eq_true, decide_eq_true_eq] at h
    rw [← insTo_all a b (srt_of h.1) (srt_of h.2.1), insTo_len, List.length_append]
    omega
  · simp
theorem impl_JoinCaptures (a b : List Cap) (va vb : Value) (w : World) (h : Rd w 8 va a.length (a.flatMap Cap.cs)) (k : Rd w 8 vb b.length (b.flatMap Cap.cs)) (h2 : a.length ≤ 1048576) (k2 : b.length ≤ 1048576) (h3 : Cap.chars a ≤ 1048576) (k3 : Cap.chars b ≤ 1048576) :
    Calls Tryz.prog 25 #[va, vb] w fun e w' => ∃ r, e = .returned (.tuple #[r, .bool (jB a b)]) ∧ w'.ownsRow w.heap.size 48 8 r (jD a b).length ((jD a b).flatMap Cap.cs) ∧ Ext w w' := by
  have Ha := hid h
  have Hb := hid k
  obtain ⟨-, pa, ca, rfl, -⟩ := h
  obtain ⟨-, pb, cb, rfl, -⟩ := k
  have hA := hid (fun w h => impl_IsCapture a (.slice pa a.length ca) w h h2 h3)
  have hB := hid (fun w h => impl_IsCapture b (.slice pb b.length cb) w h k2 k3)
  have t1 : IntKind.i64.wrap ((a.length : Int) + (b.length : Int)) = (a.length : Int) + (b.length : Int) := IntWalk.i64_in _ (by omega)
  cases hj : jB a b
  · have hD : jD a b = [] := by rw [jD, hj]; rfl
    rw [hD]
    cases e1 : capB a
    · rw [e1] at hA
      clear e1 hj hD
      go_enter Tryz.func25, Tryz.ntmps25
      go_wp2_with fail
      go_at_call 15
      refine (hA.out _ Ha.out).mono ?_
      rintro e w1 ⟨rfl, hx⟩
      have Hx := hid hx
      clear hx
      go_wp2
      go_ret2
      exact ⟨_, rfl, World.ownsRow_nil _ _ _ _, Hx.out⟩
    · rw [e1] at hA
      cases e2 : capB b
      · rw [e2] at hB
        clear e1 e2 hj hD
        go_enter Tryz.func25, Tryz.ntmps25
        go_wp2_with fail
        go_at_call 15
        refine (hA.out _ Ha.out).mono ?_
        rintro e w1 ⟨rfl, hx⟩
        have Hx := hid hx
        clear hx hA
        go_wp2_with fail
        go_at_call 15
        refine (hB.out _ (Hb.out.ext Hx.out)).mono ?_
        rintro e w2 ⟨rfl, hx⟩
        have Hx2 := hid (Hx.out.trans hx)
        clear hx
        go_wp2
        go_ret2
        exact ⟨_, rfl, World.ownsRow_nil _ _ _ _, Hx2.out⟩
      · rw [e2] at hB
        have hl : ¬ a.length + b.length ≤ 10 := fun h => by rw [jB, e1, e2, decide_eq_true h] at hj; cases hj
        have t2 : decide ((10 : Int) < (a.length : Int) + (b.length : Int)) = true := by simp; omega
        clear e1 e2 hj hD
        go_enter Tryz.func25, Tryz.ntmps25
        go_wp2_with fail
        go_at_call 15
        refine (hA.out _ Ha.out).mono ?_
        rintro e w1 ⟨rfl, hx⟩
        have Hx := hid hx
        clear hx hA
        go_wp2_with fail
        go_at_call 15
        refine (hB.out _ (Hb.out.ext Hx.out)).mono ?_
        rintro e w2 ⟨rfl, hx⟩
        have Hx2 := hid (Hx.out.trans hx)
        clear hx
        go_wp2
        go_ret2
        exact ⟨_, rfl, World.ownsRow_nil _ _ _ _, Hx2.out⟩
  · have hD : jD a b = mg a b := by rw [jD, hj]; rfl
    have hj9 := hj
    rw [jB, Bool.and_eq_true, Bool.and_eq_true, decide_eq_true_eq] at hj9
    obtain ⟨e1, e2, hl⟩ := hj9
    rw [e1] at hA
    rw [e2] at hB
    have hsort := insTo_all a b (srt_of e1) (srt_of e2)
    have hlen : (a ++ b).length = (mg a b).length := by rw [← hsort, insTo_len]
    rw [hD]
    have t2 : decide ((10 : Int) < (a.length : Int) + (b.length : Int)) = false := by simp; omega
    clear e1 e2 hj hD
    go_enter Tryz.func25, Tryz.ntmps25
    go_wp2_with fail
    go_at_call 15
    refine (hA.out _ Ha.out).mono ?_
    rintro e w1 ⟨rfl, hx⟩
    have Hx := hid hx
    clear hx hA
    go_wp2_with fail
    go_at_call 15
    refine (hB.out _ (Hb.out.ext Hx.out)).mono ?_
    rintro e w2 ⟨rfl, hx⟩
    have Hx2 := hid (Hx.out.trans hx)
    clear hx hB Hx
    go_wp2_with fail
    go_at_call 66
    have XC : Ext w2 (w2.alloc (.cells #[.slice pa a.length ca, .slice pb b.length cb] 22)) := (by repeat' (first | exact Ext.refl _ | assumption | refine Ext.alloc ?_ _ | refine Ext.ext ?_ _ | refine Ext.drew ?_ | refine Ext.drewN ?_ _))
    have q0 : (w2.alloc (.cells #[.slice pa a.length ca, .slice pb b.length cb] 22)).cell? ⟨w2.heap.size, 0, none⟩ = some (.slice pa a.length ca) := by rw [cell_of_row _ _ 0 _ _ (0, 0) (heap_at _ rfl)]; rfl
    have q1 : (w2.alloc (.cells #[.slice pa a.length ca, .slice pb b.length cb] 22)).cell? ⟨w2.heap.size, 0 + 1, none⟩ = some (.slice pb b.length cb) := by rw [cell_of_row _ _ (0 + 1) _ _ (0, 0) (heap_at _ rfl)]; rfl
    refine (slices_Concat_caps a b _ _ w2.heap.size 0 _ (Ha.out.ext (Hx2.out.trans XC)) (Hb.out.ext (Hx2.out.trans XC)) q0 q1 hl).mono ?_
    rintro e w3 ⟨r, rfl, ho, hx⟩
    have HO := hid (own_mono ho (Hx2.out.trans XC).size)
    have HX := hid ((Hx2.out.trans XC).trans hx)
    have hlen2 : (a ++ b).length ≤ 10 := by rw [List.length_append]; exact hl
    have hs := hid (fun w h => slices_SortStable_cap (a ++ b) w.heap.size _ r w h rfl hlen2)
    obtain ⟨rp, rc, rfl⟩ := own_shape ho
    clear ho hx XC q0 q1 Hx2
    have hs2 := hid (slices_SortStable_cap (a ++ b) w.heap.size (a ++ b).length (.slice rp (a ++ b).length rc) w3 HO.out rfl hlen2)
    have hown := hid (fun j e => (HO.out.lt j e).1)
    have HL := hid hlen
    have HS := hid hsort
    clear hs hlen hsort hlen2 HO
    generalize (a ++ b).length = N at *
    go_wp2_with fail
    go_at_call 67
    refine (hs2.out).mono ?_
    rintro e w4 ⟨rfl, ho, hg⟩
    have HF : Hid (w4.ownsRow w.heap.size 48 8 (.slice rp N rc) (mg a b).length ((mg a b).flatMap Cap.cs) ∧ Ext w w4) := by
      refine ⟨?_, HX.out.grown hg hown.out⟩
      rw [← HL.out, ← HS.out]
      exact ho
    clear ho hg
    go_wp2
    go_ret2
    exact ⟨_, rfl, HF.out.1, HF.out.2⟩
end Go.Proofs.YtljknhocfjpolaaGreatDoor
