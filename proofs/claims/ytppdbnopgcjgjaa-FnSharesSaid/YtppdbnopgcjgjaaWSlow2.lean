/- The slowest receiver, both sides. -/
import Derived.Test.YtppdbnopgcjgjaaWSlow
namespace Go.Proofs.Ytppdbnopgcjgjaa
open Go.RowKit
set_option maxHeartbeats 400000
theorem leaves_ne {ps : List Int} (hg : goodT ps = true) : ¬ (leavesL ps).length = 0 := by
  have hl := goodT_len hg
  have hn : ps.contains ((ps.length - 1 : Nat) : Int) = false := by
    rw [← Bool.not_eq_true, List.contains_iff_mem]
    intro hm
    obtain ⟨i, hi, e⟩ := List.mem_iff_getElem.1 hm
    have h1 := parent_lt hg (x := (i : Int)) (by omega) (by omega)
    rw [Int.toNat_natCast, List.getD_eq_getElem?_getD, List.getElem?_eq_getElem hi, Option.getD_some] at h1
    omega
  have e : leavesL ps = lv ps ((ps.length - 1) + 1) := by unfold leavesL; congr 1; omega
  rw [e, lv_succ, hn]
  simp
theorem leaves_in {ps : List Int} (y : Int) (h : y ∈ leavesL ps) : 0 ≤ y ∧ y < ps.length := lv_mem ps ps.length y h
theorem leaves_len {ps : List Int} (hg : goodT ps = true) : (leavesL ps).length ≤ 8 := by
  have := goodT_len hg
  have := lv_len ps ps.length
  unfold leavesL; omega
def slowest (ps ds : List Int) : Int := bestI (fun a b => del ps ds b - del ps ds a) (leavesL ps) ((leavesL ps).length - 1)
def slowN (ps ls ds : List Int) : Int := if goodC ps ls ds then slowest ps ds else 0
def slowD (ps ls ds : List Int) : Int := if goodC ps ls ds then del ps ds (slowest ps ds) else 0
theorem slow_no {ps ls ds : List Int} (h : goodC ps ls ds = false) : slowN ps ls ds = 0 ∧ slowD ps ls ds = 0 := by simp [slowN, slowD, h]
theorem slow_yes {ps ls ds : List Int} (h : goodC ps ls ds = true) : slowN ps ls ds = slowest ps ds ∧ slowD ps ls ds = del ps ds (slowest ps ds) := by simp [slowN, slowD, h]
theorem slowest_in {ps ls ds : List Int} (h : goodC ps ls ds = true) : 0 ≤ slowest ps ds ∧ slowest ps ds < ps.length := by
  have hT := (goodC_all h).1
  exact leaves_in _ (bestI_mem _ _ _ (by have := leaves_ne hT; omega))
theorem impl_SlowestReceiver (ps ls ds : List Int) (v u u' : Value) (w : World) (h : Rd w 1 v ps.length (vInts ps)) (k : Rd w 1 u ls.length (vInts ls)) (l : Rd w 1 u' ds.length (vInts ds))
    (h2 : ps.length ≤ 1048576) (k2 : ls.length ≤ 1048576) (l2 : ds.length ≤ 1048576) :
    Calls Try.prog 15 #[.agg #[v], .agg #[u, u']] w fun e w' => e = .returned (.tuple #[.int .i64 (slowN ps ls ds), .int .i64 (slowD ps ls ds), .bool (goodC ps ls ds)]) ∧ Ext w w' := by
  have Hr := hid h
  have Kr := hid k
  have Lr := hid l
  clear h k l
  have hmf : ∀ (fn : Fn) (first cap : Array Value) (w : World), (Instr.makeFunc fn first cap).run Try.prog w = .ok (.func fn first cap) w := fun _ _ _ _ => rfl
  cases hg : goodC ps ls ds
  · have Hg := hid hg
    go_enter Try.func15, Try.ntmps15
    go_wp2_with (go_at_call 29; refine (impl_IsValidCosts ps ls ds _ _ _ _ (Hr.out.ext (by repeat' (first | exact Ext.refl _ | assumption | refine Ext.alloc ?_ _ | refine Ext.ext ?_ _ | refine Ext.drew ?_ | refine Ext.drewN ?_ _))) (Kr.out.ext (by repeat' (first | exact Ext.refl _ | assumption | refine Ext.alloc ?_ _ | refine Ext.ext ?_ _ | refine Ext.drew ?_ | refine Ext.drewN ?_ _))) (Lr.out.ext (by repeat' (first | exact Ext.refl _ | assumption | refine Ext.alloc ?_ _ | refine Ext.ext ?_ _ | refine Ext.drew ?_ | refine Ext.drewN ?_ _))) h2 k2 l2).mono ?_; rintro e w' ⟨rfl, z1, rfl⟩)
    go_ret3
    rw [(slow_no Hg.out).1, (slow_no Hg.out).2]
    exact ⟨rfl, (by repeat' (first | exact Ext.refl _ | assumption | refine Ext.alloc ?_ _ | refine Ext.ext ?_ _ | refine Ext.drew ?_ | refine Ext.drewN ?_ _))⟩
  · have Hg := hid hg
    have hT := (goodC_all hg).1
    have HT := hid hT
    have hlen := goodT_len hT
    clear hT
    go_enter Try.func15, Try.ntmps15
    go_wp2_with fail
    have b0 : ((w.alloc (.cells #[v] 26)).alloc (.cells #[u, u'] 28)).cell? ⟨w.heap.size, 0, none⟩ = some v := by rw [cell_of_row _ _ 0 _ _ (0, 0) (heap_old (heap_at _ rfl) _)]; rfl
    have b1 : ((w.alloc (.cells #[v] 26)).alloc (.cells #[u, u'] 28)).cell? ⟨w.heap.size + 1, 0, none⟩ = some u := by rw [cell_of_row _ _ 0 _ _ (0, 0) (heap_at _ (by simp))]; rfl
    have b2 : ((w.alloc (.cells #[v] 26)).alloc (.cells #[u, u'] 28)).cell? ⟨w.heap.size + 1, 1, none⟩ = some u' := by rw [cell_of_row _ _ 1 _ _ (0, 0) (heap_at _ (by simp))]; rfl
    have XB : Ext w ((w.alloc (.cells #[v] 26)).alloc (.cells #[u, u'] 28)) := (by repeat' (first | exact Ext.refl _ | assumption | refine Ext.alloc ?_ _ | refine Ext.ext ?_ _ | refine Ext.drew ?_ | refine Ext.drewN ?_ _))
    generalize ((w.alloc (.cells #[v] 26)).alloc (.cells #[u, u'] 28)) = w0 at *
    go_at_call 29
    refine (impl_IsValidCosts ps ls ds _ _ _ _ (Hr.out.ext XB) (Kr.out.ext XB) (Lr.out.ext XB) h2 k2 l2).mono ?_
    rintro e w1 ⟨rfl, hx1⟩
    have X1 := XB.trans hx1
    have c0 := hx1.cell b0
    have c1 := hx1.cell b1
    have c2 := hx1.cell b2
    clear b0 b1 b2 hx1 XB
    rw [hg]
    go_wp2_with fail
    go_at_call 53
    refine (impl_leaves ps _ _ (Hr.out.ext X1) hlen.2).mono ?_
    rintro e w2 ⟨r, rfl, ho, hx2⟩
    have X2 := X1.trans hx2
    have d0 := hx2.cell c0
    have d1 := hx2.cell c1
    have d2 := hx2.cell c2
    clear c0 c1 c2 hx2 X1
    have hm := min_slowest (leavesL ps) (fun a b => del ps ds b - del ps ds a) r (.pointer (some ⟨w.heap.size + 1, 0, none⟩)) (.pointer (some ⟨w.heap.size, 0, none⟩)) w2 (Rd.own ho) (leaves_ne HT.out) (by have := leaves_len HT.out; omega)
      (fun a b w' ha hb e => impl_SlowestReceiver_1 ps ls ds v u u' _ _ a b w' (Hr.out.ext (X2.trans e)) (Lr.out.ext (X2.trans e)) Hg.out (leaves_in a ha) (leaves_in b hb) (e.cell d0) (e.cell d1) (e.cell d2))
    have Hm := hid hm
    clear hm ho
    go_wp2_with fail
    go_at_call 49
    refine (Hm.out).mono ?_
    rintro e w3 ⟨rfl, hx3⟩
    have X3 := X2.trans hx3
    have e0 := hx3.cell d0
    have e1 := hx3.cell d1
    have e2 := hx3.cell d2
    clear d0 d1 d2 hx3 X2
    have hs := slowest_in Hg.out
    have hsd : bestI (fun a b => del ps ds b - del ps ds a) (leavesL ps) ((leavesL ps).length - 1) = slowest ps ds := rfl
    rw [hsd]
    have Hy := hid (slow_yes Hg.out)
    generalize slowest ps ds = s at *
    clear hsd
    have hd := fun w' h k => impl_delayTo ps ls ds v u u' s w' h k Hg.out (by omega) hs.2
    have Hd := hid hd
    clear hd
    go_wp2_with fail
    go_at_call 46
    refine (Hd.out _ (Hr.out.ext X3) (Lr.out.ext X3)).mono ?_
    rintro e w4 ⟨rfl, hx4⟩
    go_wp2
    go_ret3
    rw [Hy.out.1, Hy.out.2]
    exact ⟨rfl, X3.trans hx4⟩
theorem spec_SlowestReceiver (ps ls ds : List Int) (v u u' : Value) (w : World) (h : Rd w 1 v ps.length (vInts ps)) (k : Rd w 1 u ls.length (vInts ls)) (l : Rd w 1 u' ds.length (vInts ds))
    (h2 : ps.length ≤ 1048576) (k2 : ls.length ≤ 1048576) (l2 : ds.length ≤ 1048576) :
    Calls Try.prog 16 #[.agg #[v], .agg #[u, u']] w fun e w' => e = .returned (.tuple #[.int .i64 (slowN ps ls ds), .int .i64 (slowD ps ls ds), .bool (goodC ps ls ds)]) ∧ Ext w w' := by
  have Hr := hid h
  have Kr := hid k
  have Lr := hid l
  clear h k l
  cases hg : goodC ps ls ds
  · have Hg := hid hg
    go_enter Try.func16, Try.ntmps16
    go_wp2_with (go_at_call 55; refine (spec_l22Good ps ls ds _ _ _ _ (Hr.out.ext (by repeat' (first | exact Ext.refl _ | assumption | refine Ext.alloc ?_ _ | refine Ext.ext ?_ _ | refine Ext.drew ?_ | refine Ext.drewN ?_ _))) (Kr.out.ext (by repeat' (first | exact Ext.refl _ | assumption | refine Ext.alloc ?_ _ | refine Ext.ext ?_ _ | refine Ext.drew ?_ | refine Ext.drewN ?_ _))) (Lr.out.ext (by repeat' (first | exact Ext.refl _ | assumption | refine Ext.alloc ?_ _ | refine Ext.ext ?_ _ | refine Ext.drew ?_ | refine Ext.drewN ?_ _))) h2 k2 l2).mono ?_; rintro e w' ⟨rfl, z1, rfl⟩)
    go_ret3
    rw [(slow_no Hg.out).1, (slow_no Hg.out).2]
    exact ⟨rfl, (by repeat' (first | exact Ext.refl _ | assumption | refine Ext.alloc ?_ _ | refine Ext.ext ?_ _ | refine Ext.drew ?_ | refine Ext.drewN ?_ _))⟩
  · have Hg := hid hg
    have HT := hid (goodC_all hg).1
    go_enter Try.func16, Try.ntmps16
    go_wp2_with fail
    have b0 : ((w.alloc (.cells #[v] 26)).alloc (.cells #[u, u'] 28)).cell? ⟨w.heap.size, 0, none⟩ = some v := by rw [cell_of_row _ _ 0 _ _ (0, 0) (heap_old (heap_at _ rfl) _)]; rfl
    have b1 : ((w.alloc (.cells #[v] 26)).alloc (.cells #[u, u'] 28)).cell? ⟨w.heap.size + 1, 0, none⟩ = some u := by rw [cell_of_row _ _ 0 _ _ (0, 0) (heap_at _ (by simp))]; rfl
    have b2 : ((w.alloc (.cells #[v] 26)).alloc (.cells #[u, u'] 28)).cell? ⟨w.heap.size + 1, 1, none⟩ = some u' := by rw [cell_of_row _ _ 1 _ _ (0, 0) (heap_at _ (by simp))]; rfl
    have XB : Ext w ((w.alloc (.cells #[v] 26)).alloc (.cells #[u, u'] 28)) := (by repeat' (first | exact Ext.refl _ | assumption | refine Ext.alloc ?_ _ | refine Ext.ext ?_ _ | refine Ext.drew ?_ | refine Ext.drewN ?_ _))
    generalize ((w.alloc (.cells #[v] 26)).alloc (.cells #[u, u'] 28)) = w0 at *
    go_at_call 55
    refine (spec_l22Good ps ls ds _ _ _ _ (Hr.out.ext XB) (Kr.out.ext XB) (Lr.out.ext XB) h2 k2 l2).mono ?_
    rintro e w1 ⟨rfl, hx1⟩
    have X1 := XB.trans hx1
    have c0 := hx1.cell b0
    have c1 := hx1.cell b1
    have c2 := hx1.cell b2
    clear b0 b1 b2 hx1 XB
    rw [hg]
    go_wp2_with fail
    go_at_call 56
    refine (spec_l6Leaves ps _ _ (Hr.out.ext X1) HT.out).mono ?_
    rintro e w2 ⟨r, rfl, ho, hx2⟩
    have X2 := X1.trans hx2
    have d0 := hx2.cell c0
    have d1 := hx2.cell c1
    have d2 := hx2.cell c2
    clear c0 c1 c2 hx2 X1
    have hne := leaves_ne HT.out
    have hle := leaves_len HT.out
    have hin := fun y hy => leaves_in (ps := ps) y hy
    have hsl : slowest ps ds = bestI (fun a b => del ps ds b - del ps ds a) (leavesL ps) ((leavesL ps).length - 1) := rfl
    have hbm := bestI_mem (fun a b => del ps ds b - del ps ds a) (leavesL ps)
    generalize leavesL ps = L at *
    obtain ⟨-, p, cap, rfl, q4⟩ := Rd.own ho
    obtain ⟨b, off, rfl, q6⟩ := q4.resolve_left hne
    have Q6 := hid q6
    have a0 := elem1 (Value.int .i64) 0 L q6 0 (by omega)
    simp only [Nat.add_zero] at a0
    have hb0 : bestI (fun a b => del ps ds b - del ps ds a) L 0 = L.getD 0 0 := rfl
    have Hb0 := hid hb0
    have Hin := hid hin
    have Hbm := hid hbm
    have Hsl := hid hsl
    have hpos : 0 < L.length := by omega
    have hd := fun x w' (hx : 0 ≤ x ∧ x < (ps.length : Int)) (e : Ext w w') => spec_l22Delay ps ls ds v u u' x w' (Hr.out.ext e) (Lr.out.ext e) Hg.out (by omega) hx.2
    have Hd := hid hd
    generalize L.getD 0 0 = d9 at a0 Hb0
    clear hin hbm hsl hb0 q4 q6 ho hd hne
    go_wp2
    go_loopw [9, 8] (fun v9 v8 wr => ∃ k : Nat, k < L.length ∧ v9 = .int .i64 (k + 1) ∧ v8 = .int .i64 (bestI (fun a b => del ps ds b - del ps ds a) L k) ∧ Ext w2 wr) (fun v9 _ _ => L.length - (intOf v9).toNat)
    case atStart => exact ⟨0, hpos, rfl, by rw [Hb0.out], Ext.refl _⟩
    case round =>
      obtain ⟨k, hk, rfl, rfl, z, rfl⟩ := hrel
      have hmo := Hin.out _ (Hbm.out k hk)
      by_cases hlt : k + 1 < L.length
      · have hbest : bestI (fun a b => del ps ds b - del ps ds a) L (k + 1) = if decide (del ps ds (bestI (fun a b => del ps ds b - del ps ds a) L k) - del ps ds (L.getD (k + 1) 0) < 0) then L.getD (k + 1) 0 else bestI (fun a b => del ps ds b - del ps ds a) L k := rfl
        have a1 := elem1 (Value.int .i64) 0 L Q6.out (k + 1) hlt
        have hxo := Hin.out _ (mem_getD (L := L) hlt)
        generalize L.getD (k + 1) 0 = x at a1 hbest hxo
        generalize bestI (fun a b => del ps ds b - del ps ds a) L k = m at *
        have Hbest := hid hbest
        clear hbest
        cases t1 : decide (del ps ds m < del ps ds x)
        · have T1 : Hid (decide (del ps ds m - del ps ds x < 0) = false) := by
            have : ¬ del ps ds m < del ps ds x := by simpa using t1
            show _ = _
            simp; omega
          go_wp2
          refine wp_region_ext (by kernel_rfl) (by kernel_rfl) ?_
          repeat (go_big_quiet_step ((first | (go_at_call 57; exact Calls.quiet_ext (Hd.out _ _ (by first | exact hxo | exact hmo) (X2.trans (((Ext.refl _).ext _).ext _)))))))
          refine wpQuiet_nil ?_
          rintro _ ⟨zq, rfl⟩
          go_wp2
          go_roundw
          case rel => exact ⟨k + 1, hlt, by go_num, by rw [Hbest.out, T1.out]; rfl, (by repeat' (first | exact Ext.refl _ | assumption | refine Ext.alloc ?_ _ | refine Ext.ext ?_ _ | refine Ext.drew ?_ | refine Ext.drewN ?_ _))⟩
          case measure => simp [intOf]; omega
        · have T1 : Hid (decide (del ps ds m - del ps ds x < 0) = true) := by
            have : del ps ds m < del ps ds x := by simpa using t1
            show _ = _
            simp; omega
          go_wp2
          refine wp_region_ext (by kernel_rfl) (by kernel_rfl) ?_
          repeat (go_big_quiet_step ((first | (go_at_call 57; exact Calls.quiet_ext (Hd.out _ _ (by first | exact hxo | exact hmo) (X2.trans (((Ext.refl _).ext _).ext _)))))))
          refine wpQuiet_nil ?_
          rintro _ ⟨zq, rfl⟩
          go_wp2
          go_roundw
          case rel => exact ⟨k + 1, hlt, by go_num, by rw [Hbest.out, T1.out]; rfl, (by repeat' (first | exact Ext.refl _ | assumption | refine Ext.alloc ?_ _ | refine Ext.ext ?_ _ | refine Ext.drew ?_ | refine Ext.drewN ?_ _))⟩
          case measure => simp [intOf]; omega
      · have hk1 : k = L.length - 1 := by omega
        have hs : bestI (fun a b => del ps ds b - del ps ds a) L k = slowest ps ds := by rw [Hsl.out, ← hk1]
        rw [hs] at hmo ⊢
        have Hy := hid (slow_yes Hg.out)
        generalize slowest ps ds = s at *
        clear hs
        go_wp2_with fail
        go_at_call 57
        refine (Hd.out s (w2.ext z) hmo (X2.trans ⟨z, rfl⟩)).mono ?_
        rintro e w4 ⟨rfl, hx4⟩
        go_wp2
        go_ret3
        rw [Hy.out.1, Hy.out.2]
        exact ⟨rfl, (X2.trans ⟨z, rfl⟩).trans hx4⟩
end Go.Proofs.Ytppdbnopgcjgjaa
