/- An element of a capture parsed: the reference's side. -/
import Derived.Test.YtljknhocfjpolaaGreatDoorKWSe
import Derived.Test.YtljknhocfjpolaaGreatDoorKWPz
import Derived.Test.YtljknhocfjpolaaGreatDoorKWCapText
namespace Go.Proofs.YtljknhocfjpolaaGreatDoor
open Go.RowKit
set_option maxHeartbeats 2000000
set_option maxRecDepth 100000
theorem spec_l25Parse (s : ByteArray) (w : World) (h : s.size ≤ 1048576) :
    Calls Tryz.prog 39 #[.string s] w fun e w' => ∃ x : Cap, e = .returned (.tuple #[.agg x.cs.toArray, .bool (pcB s)]) ∧ (pcB s = true → x = wdX (splS s 32)) ∧ x.d.size ≤ s.size ∧ Ext w w' := by
  have cs := hid (fun w => spec_l1Split s 32 32 rfl w h)
  have hat := fun i (hi : i < (splS s 32).length) => splS_at (s := s) i hi
  have hpc : pcB s = (wdB (splS s 32) && (okC (wdX (splS s 32)) && decide (capL (wdX (splS s 32)) = s))) := rfl
  have hR0 : Hid (Ext w (w.alloc (.cells #[.int .i64 0, .int .i64 0, .bool false, .int .i64 0, .int .i64 0, .int .i64 0, .int .i64 0, .string ⟨#[]⟩] 48)) ∧ (w.alloc (.cells #[.int .i64 0, .int .i64 0, .bool false, .int .i64 0, .int .i64 0, .int .i64 0, .int .i64 0, .string ⟨#[]⟩] 48)).heap[w.heap.size]? = some (.cells #[.int .i64 0, .int .i64 0, .bool false, .int .i64 0, .int .i64 0, .int .i64 0, .int .i64 0, .string ⟨#[]⟩] 48 (0, 0))) := ⟨(by repeat' (first | exact Ext.refl _ | assumption | refine Ext.alloc ?_ _ | refine Ext.ext ?_ _ | refine Ext.drew ?_ | refine Ext.drewN ?_ _)), heap_at _ rfl⟩
  generalize pcB s = pb at *
  generalize splS s 32 = W at *
  go_enter Tryz.func39, Tryz.ntmps39
  go_wp2_with fail
  generalize w.alloc (.cells #[.int .i64 0, .int .i64 0, .bool false, .int .i64 0, .int .i64 0, .int .i64 0, .int .i64 0, .string ⟨#[]⟩] 48) = W0 at *
  go_at_call 38
  refine (cs.out _).mono ?_
  rintro e w1 ⟨r, rfl, ho, hx⟩
  have H1 := hid (And.intro (hR0.out.1.trans hx) (blk_ext hR0.out.2 hx))
  by_cases h4 : W.length = 4
  · obtain ⟨Q, qc, rfl, -, -⟩ := own_form8 ho (by omega)
    have H1R := Rd.own ho
    have cx := fun i (hi : i < W.length) => rdS_at2 H1R i hi
    have a0 := cx 0 (by omega)
    have a1 := cx 1 (by omega)
    have a2 := cx 2 (by omega)
    have a3 := cx 3 (by omega)
    have z0 := hat 0 (by omega)
    have z1 := hat 1 (by omega)
    have z3 := hat 3 (by omega)
    have hBd : wdB W = ((pI (W.getD 0 ByteArray.empty)).isSome && ((pI (W.getD 1 ByteArray.empty)).isSome && DPb (W.getD 3 ByteArray.empty))) := by rw [wdB, decide_eq_true h4, Bool.true_and]
    have hXd : wdX W = ⟨(pI (W.getD 0 ByteArray.empty)).getD 0, (pI (W.getD 1 ByteArray.empty)).getD 0, decide (W.getD 2 ByteArray.empty = upT), pkC (ocs (W.getD 3 ByteArray.empty)), pkM (ocs (W.getD 3 ByteArray.empty)), pkR (ocs (W.getD 3 ByteArray.empty)), pkE (ocs (W.getD 3 ByteArray.empty)), pkD (ocs (W.getD 3 ByteArray.empty))⟩ := rfl
    rw [hBd] at hpc
    clear cx H1R hat hx ho hR0 cs hBd
    generalize W.getD 0 ByteArray.empty = S0 at *
    generalize W.getD 1 ByteArray.empty = S1 at *
    generalize W.getD 2 ByteArray.empty = S2 at *
    generalize W.getD 3 ByteArray.empty = S3 at *
    have HP := hid hpc
    have HXd := hid hXd
    rw [h4]
    clear hpc hXd h4
    have c0 := hid (fun W => spec_l1Read S0 W (by omega))
    have c1 := hid (fun W => spec_l1Read S1 W (by omega))
    have c3 := hid (fun W => spec_l4Decode S3 W (by omega))
    generalize hv0 : (pI S0).getD 0 = v0 at *
    generalize hv1 : (pI S1).getD 0 = v1 at *
    clear hv0 hv1
    go_wp2_with fail
    go_at_call 80
    refine (c0.out _).mono ?_
    rintro e w2 ⟨rfl, hx⟩
    have a1 := hx.cell a1
    have a2 := hx.cell a2
    have a3 := hx.cell a3
    have H2 := hid (And.intro (H1.out.1.trans hx) (blk_ext H1.out.2 hx))
    clear hx H1 a0 c0
    go_wp2_with fail
    go_at_call 80
    refine (c1.out _).mono ?_
    rintro e w3 ⟨rfl, hx⟩
    have a2 := hx.cell a2
    have a3 := hx.cell a3
    have H3 := hid (And.intro (H2.out.1.trans hx) (blk_ext H2.out.2 hx))
    clear hx H2 c1
    go_wp2_with fail
    go_at_call 81
    refine (c3.out _).mono ?_
    rintro e w4 ⟨pc, pm, pr, pl, pd, rfl, hpk, hpd, hx⟩
    have a2 := hx.cell a2
    have Hpk := hid hpk
    have X1 : Ext w4 (w4.alloc (.cells #[.int .i64 pc, .int .i64 pm, .int .i64 pr, .int .i64 pl, .string pd] 46)) := (by repeat' (first | exact Ext.refl _ | assumption | refine Ext.alloc ?_ _ | refine Ext.ext ?_ _ | refine Ext.drew ?_ | refine Ext.drewN ?_ _))
    have hPb : (w4.alloc (.cells #[.int .i64 pc, .int .i64 pm, .int .i64 pr, .int .i64 pl, .string pd] 46)).heap[w4.heap.size]? = some (.cells #[.int .i64 pc, .int .i64 pm, .int .i64 pr, .int .i64 pl, .string pd] 46 (0, 0)) := heap_at _ rfl
    have d2 := X1.cell a2
    have H4 := hid (And.intro ((H3.out.1.trans hx).trans X1) (blk_ext (blk_ext H3.out.2 hx) X1))
    clear hx H3 c3 hpk
    go_upto_region 7 with fail
    generalize (w4.alloc (.cells #[.int .i64 pc, .int .i64 pm, .int .i64 pr, .int .i64 pl, .string pd] 46)) = W4 at *
    generalize w4.heap.size = P at *
    clear X1
    have hU : (S2.toList == [117, 112]) = decide (S2 = upT) := by
      have e9 : upT.toList = [117, 112] := by show (⟨#[117, 112]⟩ : ByteArray).toList = _; simp
      by_cases hu : S2 = upT
      · rw [decide_eq_true hu]
        have := str_yes hu
        rwa [e9] at this
      · rw [decide_eq_false hu]
        have := str_no hu
        rwa [e9] at this
    obtain ⟨⟨k0, k1, k2, k3, k4⟩, -, -⟩ := box5 hPb
    have HX0 := hid HXd.out
    rw [← hU] at HX0
    clear hU HXd
    go_wp2_with fail
    go_region
    have X2 : Ext W4 (W4.alloc (.cells #[.int .i64 v0, .int .i64 v1, .bool (S2.toList == [117, 112]), .int .i64 pc, .int .i64 pm, .int .i64 pr, .int .i64 pl, .string pd] 48)).drew := (by repeat' (first | exact Ext.refl _ | assumption | refine Ext.alloc ?_ _ | refine Ext.ext ?_ _ | refine Ext.drew ?_ | refine Ext.drewN ?_ _))
    have hXb : (W4.alloc (.cells #[.int .i64 v0, .int .i64 v1, .bool (S2.toList == [117, 112]), .int .i64 pc, .int .i64 pm, .int .i64 pr, .int .i64 pl, .string pd] 48)).drew.heap[W4.heap.size]? = some (.cells #[.int .i64 v0, .int .i64 v1, .bool (S2.toList == [117, 112]), .int .i64 pc, .int .i64 pm, .int .i64 pr, .int .i64 pl, .string pd] 48 (0, 0)) := heap_at (w := W4) _ rfl
    have H5 := hid (And.intro (And.intro (H4.out.1.trans X2) (blk_ext H4.out.2 X2)) hXb)
    generalize (W4.alloc (.cells #[.int .i64 v0, .int .i64 v1, .bool (S2.toList == [117, 112]), .int .i64 pc, .int .i64 pm, .int .i64 pr, .int .i64 pl, .string pd] 48)).drew = W5 at *
    generalize W4.heap.size = X at *
    generalize (S2.toList == [117, 112]) = bb at *
    clear X2 hXb H4 k0 k1 k2 k3 k4 hPb d2 a2
    have H5b := hid H5.out.1
    generalize (pI S0).isSome = o1 at *
    generalize (pI S1).isSome = o2 at *
    generalize DPb S3 = o3 at *
    cases o1
    · have HB : Hid (pb = false) := HP.out.trans (by simp)
      clear HP
      obtain ⟨⟨b0, b1, b2, b3, b4, b5, b6, b7⟩, ⟨f0, f1, f2, f3, f4, f5, f6, f7⟩, hbl⟩ := box8 H5b.out.2
      go_wp2
      refine bodyPost_ret (results_ct rfl (box8_set (t := 48) H5b.out.2 _ _ _ _ _ _ _ _) Tryz.underlying48 rfl (by kernel_rfl) rfl rfl) rfl ⟨.z, ?_⟩
      rw [HB.out]
      exact ⟨rfl, (fun h => by cases h), Nat.zero_le _, Ext.set8 H5b.out.1 (Nat.le_refl _) _ _ _ _ _ _ _ _⟩
    cases o2
    · have HB : Hid (pb = false) := HP.out.trans (by simp)
      clear HP
      obtain ⟨⟨b0, b1, b2, b3, b4, b5, b6, b7⟩, ⟨f0, f1, f2, f3, f4, f5, f6, f7⟩, hbl⟩ := box8 H5b.out.2
      go_wp2
      refine bodyPost_ret (results_ct rfl (box8_set (t := 48) H5b.out.2 _ _ _ _ _ _ _ _) Tryz.underlying48 rfl (by kernel_rfl) rfl rfl) rfl ⟨.z, ?_⟩
      rw [HB.out]
      exact ⟨rfl, (fun h => by cases h), Nat.zero_le _, Ext.set8 H5b.out.1 (Nat.le_refl _) _ _ _ _ _ _ _ _⟩
    cases o3
    · have HB : Hid (pb = false) := HP.out.trans (by simp)
      clear HP
      obtain ⟨⟨b0, b1, b2, b3, b4, b5, b6, b7⟩, ⟨f0, f1, f2, f3, f4, f5, f6, f7⟩, hbl⟩ := box8 H5b.out.2
      go_wp2
      refine bodyPost_ret (results_ct rfl (box8_set (t := 48) H5b.out.2 _ _ _ _ _ _ _ _) Tryz.underlying48 rfl (by kernel_rfl) rfl rfl) rfl ⟨.z, ?_⟩
      rw [HB.out]
      exact ⟨rfl, (fun h => by cases h), Nat.zero_le _, Ext.set8 H5b.out.1 (Nat.le_refl _) _ _ _ _ _ _ _ _⟩
    have hX := HX0.out
    obtain ⟨q1, q2, q3, q4, q5⟩ := Hpk.out rfl
    rw [← q1, ← q2, ← q3, ← q4, ← q5] at hX
    clear q1 q2 q3 q4 q5 Hpk HX0
    have hP2 := HP.out
    rw [hX, Bool.and_self, Bool.and_self, Bool.true_and] at hP2
    have HX := hid hX
    have HP2 := hid hP2
    have c5 := hid (fun W => spec_l25One v0 v1 bb pc pm pr pl pd W (by omega))
    have c6 := hid (fun W h => spec_l25Line v0 v1 bb pc pm pr pl pd W h)
    clear hX hP2 HP
    generalize capL ⟨v0, v1, bb, pc, pm, pr, pl, pd⟩ = T at *
    generalize hok : okC ⟨v0, v1, bb, pc, pm, pr, pl, pd⟩ = ok5 at *
    obtain ⟨⟨x0, x1, x2, x3, x4, x5, x6, x7⟩, -, -⟩ := box8 H5.out.2
    go_wp2_with fail
    go_at_call 82
    refine (c5.out _).mono ?_
    rintro e w6 ⟨rfl, hx⟩
    have H6 := hid (And.intro (And.intro (H5.out.1.1.trans hx) (blk_ext H5.out.1.2 hx)) (blk_ext H5.out.2 hx))
    clear hx H5 H5b c5 x0 x1 x2 x3 x4 x5 x6 x7
    have H6b := hid H6.out.1
    cases ok5
    · have HB : Hid (pb = false) := HP2.out.trans (by simp)
      clear HP2 hok
      obtain ⟨⟨b0, b1, b2, b3, b4, b5, b6, b7⟩, ⟨f0, f1, f2, f3, f4, f5, f6, f7⟩, hbl⟩ := box8 H6b.out.2
      go_wp2
      refine bodyPost_ret (results_ct rfl (box8_set (t := 48) H6b.out.2 _ _ _ _ _ _ _ _) Tryz.underlying48 rfl (by kernel_rfl) rfl rfl) rfl ⟨.z, ?_⟩
      rw [HB.out]
      exact ⟨rfl, (fun h => by cases h), Nat.zero_le _, Ext.set8 H6b.out.1 (Nat.le_refl _) _ _ _ _ _ _ _ _⟩
    obtain ⟨⟨x0, x1, x2, x3, x4, x5, x6, x7⟩, -, -⟩ := box8 H6.out.2
    go_wp2_with fail
    go_at_call 83
    refine (c6.out _ (by trivial)).mono ?_
    rintro e w7 ⟨rfl, hx⟩
    have H7 := hid (And.intro (H6.out.1.1.trans hx) (blk_ext H6.out.1.2 hx))
    have H7b := hid (blk_ext H6.out.2 hx)
    clear hx H6 H6b c6 x0 x1 x2 x3 x4 x5 x6 x7
    by_cases he : T = s
    · have te := str_yes he
      have HB : Hid (pb = true) := HP2.out.trans (by rw [decide_eq_true he]; rfl)
      clear he HP2 hok
      obtain ⟨⟨x0, x1, x2, x3, x4, x5, x6, x7⟩, -, -⟩ := box8 H7b.out
      obtain ⟨⟨b0, b1, b2, b3, b4, b5, b6, b7⟩, ⟨f0, f1, f2, f3, f4, f5, f6, f7⟩, hbl⟩ := box8 H7.out.2
      go_wp2
      refine bodyPost_ret (results_ct rfl (box8_set (t := 48) H7.out.2 _ _ _ _ _ _ _ _) Tryz.underlying48 rfl (by kernel_rfl) rfl rfl) rfl ⟨⟨v0, v1, bb, pc, pm, pr, pl, pd⟩, ?_⟩
      rw [HB.out]
      exact ⟨rfl, (fun _ => HX.out.symm), by show pd.size ≤ _; omega, Ext.set8 H7.out.1 (Nat.le_refl _) _ _ _ _ _ _ _ _⟩
    · have te := str_no he
      have HB : Hid (pb = false) := HP2.out.trans (by rw [decide_eq_false he]; simp)
      clear he HP2 hok
      obtain ⟨⟨b0, b1, b2, b3, b4, b5, b6, b7⟩, ⟨f0, f1, f2, f3, f4, f5, f6, f7⟩, hbl⟩ := box8 H7.out.2
      go_wp2
      refine bodyPost_ret (results_ct rfl (box8_set (t := 48) H7.out.2 _ _ _ _ _ _ _ _) Tryz.underlying48 rfl (by kernel_rfl) rfl rfl) rfl ⟨.z, ?_⟩
      rw [HB.out]
      exact ⟨rfl, (fun h => by cases h), Nat.zero_le _, Ext.set8 H7.out.1 (Nat.le_refl _) _ _ _ _ _ _ _ _⟩
  · have t4 : ((W.length : Int) == 4) = false := by rw [beq_eq_false_iff_ne]; omega
    have t4' : ((W.length : Int) != 4) = true := by rw [bne, t4]; rfl
    have hB : pb = false := by rw [hpc, wdB, decide_eq_false h4]; rfl
    have HB := hid hB
    obtain ⟨rp, rc, rfl⟩ := own_shape ho
    clear hB h4 hat hpc ho hx hR0 cs
    obtain ⟨⟨b0, b1, b2, b3, b4, b5, b6, b7⟩, ⟨f0, f1, f2, f3, f4, f5, f6, f7⟩, hbl⟩ := box8 H1.out.2
    go_wp2
    refine bodyPost_ret (results_ct rfl (box8_set (t := 48) H1.out.2 _ _ _ _ _ _ _ _) Tryz.underlying48 rfl (by kernel_rfl) rfl rfl) rfl ⟨.z, ?_⟩
    rw [HB.out]
    exact ⟨rfl, (fun h => by cases h), Nat.zero_le _, Ext.set8 H1.out.1 (Nat.le_refl _) _ _ _ _ _ _ _ _⟩
end Go.Proofs.YtljknhocfjpolaaGreatDoor
