/- Ticks from a request to its repair: the walks. -/
import Derived.Test.YtljknhocfjpolaaGreatDoorKWRepair
import Derived.Test.YtljknhocfjpolaaGreatDoorJ22
namespace Go.Proofs.YtljknhocfjpolaaGreatDoor
open Go.RowKit
set_option maxHeartbeats 1000000
set_option maxRecDepth 100000
theorem impl_RepairTicksQ (xs : List Cap) (p : Option Addr) (qc : Nat) (q : Int) (w : World) (h : Rd w 8 (.slice p xs.length qc) xs.length (xs.flatMap Cap.cs)) (h2 : xs.length ≤ 1048576) (h3 : Cap.chars xs ≤ 1048576) (hqc : xs.length ≤ qc) :
    Calls Tryz.prog 33 #[.slice p xs.length qc, .int .i64 q] w fun e w' => e = .returned (.tuple #[.int .i64 (repN xs q), .bool (repB xs q)]) ∧ Ext w w' := by
  have Hr := hid h
  have hg : Hid (∀ w, Rd w 8 (.slice p xs.length qc) xs.length (xs.flatMap Cap.cs) → Calls Tryz.prog 15 #[.slice p xs.length qc] w fun e w' => e = .returned (.bool (capB xs)) ∧ Ext w w') := fun w h => impl_IsCapture xs _ w h h2 h3
  have hs := hid (fun w => impl_IsSerial q w)
  cases e1 : capB xs
  · have f : repB xs q = false := by rw [repB, e1]; rfl
    rw [rep_no f, f]
    rw [e1] at hg
    clear e1 f h
    go_enter Tryz.func33, Tryz.ntmps33
    go_wp2_with (go_at_call 15; (refine (hg.out _ (Hr.out.ext (by repeat' (first | exact Ext.refl _ | assumption | refine Ext.alloc ?_ _ | refine Ext.ext ?_ _ | refine Ext.drew ?_ | refine Ext.drewN ?_ _)))).mono ?_); rintro e w1 ⟨rfl, z1, rfl⟩)
    go_ret2
    exact ⟨rfl, (by repeat' (first | exact Ext.refl _ | assumption | refine Ext.alloc ?_ _ | refine Ext.ext ?_ _ | refine Ext.drew ?_ | refine Ext.drewN ?_ _))⟩
  rw [e1] at hg
  cases e2 : srl q
  · have f : repB xs q = false := by rw [repB, e2, Bool.false_and, Bool.and_false]
    rw [rep_no f, f]
    rw [e2] at hs
    clear e1 e2 f h
    go_enter Tryz.func33, Tryz.ntmps33
    go_wp2_with (first | (go_at_call 15; (refine (hg.out _ (Hr.out.ext (by repeat' (first | exact Ext.refl _ | assumption | refine Ext.alloc ?_ _ | refine Ext.ext ?_ _ | refine Ext.drew ?_ | refine Ext.drewN ?_ _)))).mono ?_); rintro e w1 ⟨rfl, z1, rfl⟩) | (go_at_call 73; refine (hs.out _).mono ?_; rintro e w' ⟨rfl, rfl⟩))
    go_ret2
    exact ⟨rfl, (by repeat' (first | exact Ext.refl _ | assumption | refine Ext.alloc ?_ _ | refine Ext.ext ?_ _ | refine Ext.drew ?_ | refine Ext.drewN ?_ _))⟩
  rw [e2] at hs
  have hix := hid (fun w0 w hE h B hB => slices_IndexFunc_cap xs (isReq q) 75 #[.pointer (some ⟨B, 0, none⟩)] (enters_of Tryz.func75 (by kernel_rfl) rfl) (.slice p xs.length qc) w0 w h hE h2 (fun t n u c m r l d w' _ hx => impl_RepairTicks_1 q t n u c m r l d B w' (hx.cell hB)))
  have hrB : repB xs q = (decide (0 ≤ reqI xs q) && decide (0 ≤ repI xs q)) := by rw [repB, e1, e2, Bool.true_and, Bool.true_and]
  have htb := hid (tick_bd e1)
  have hR : hitC (isReq q) xs = reqI xs q := rfl
  rw [hR] at hix
  have Hh := hid h
  clear h e1 e2 hR
  go_enter Tryz.func33, Tryz.ntmps33
  go_wp2_with fail
  have XW : Ext w ((w.alloc (.cells #[.slice p xs.length qc] 22)).alloc (.cells #[.int .i64 q] 3)) := (by repeat' (first | exact Ext.refl _ | assumption | refine Ext.alloc ?_ _ | refine Ext.ext ?_ _ | refine Ext.drew ?_ | refine Ext.drewN ?_ _))
  have bl : ((w.alloc (.cells #[.slice p xs.length qc] 22)).alloc (.cells #[.int .i64 q] 3)).cell? ⟨w.heap.size, 0, none⟩ = some (.slice p xs.length qc) := by
    rw [cell_of_row _ _ 0 _ _ (0, 0) (heap_old (heap_at _ rfl) _)]; rfl
  have bq : ((w.alloc (.cells #[.slice p xs.length qc] 22)).alloc (.cells #[.int .i64 q] 3)).cell? ⟨w.heap.size + 1, 0, none⟩ = some (.int .i64 q) := by
    rw [cell_of_row _ _ 0 _ _ (0, 0) (heap_at _ (by simp))]; rfl
  generalize ((w.alloc (.cells #[.slice p xs.length qc] 22)).alloc (.cells #[.int .i64 q] 3)) = W at *
  go_at_call 15
  refine (hg.out _ (Hr.out.ext XW)).mono ?_
  rintro e w1 ⟨rfl, hx1⟩
  have bl1 := hx1.cell bl
  have bq1 := hx1.cell bq
  have X1 := hid (XW.trans hx1)
  clear bl bq XW hx1
  go_wp2_with (go_at_call 73; refine (hs.out _).mono ?_; rintro e w' ⟨rfl, rfl⟩)
  go_at_call 74
  refine (hix.out w1 w1 (Ext.refl _) (Hr.out.ext X1.out) _ bq1).mono ?_
  rintro e w2 ⟨rfl, hx2⟩
  have bl2 := hx2.cell bl1
  have bq2 := hx2.cell bq1
  have X2 := hid (X1.out.trans hx2)
  clear bl1 bq1 hx2 hix hg hs
  by_cases hneg : reqI xs q < 0
  · have f : repB xs q = false := by rw [hrB, decide_eq_false (by omega)]; rfl
    have Hf := hid (And.intro (rep_no f) f)
    have t0 : decide (reqI xs q < 0) = true := decide_eq_true hneg
    clear hrB f
    generalize reqI xs q = R at *
    go_wp2
    go_ret2
    exact ⟨by rw [Hf.out.1, Hf.out.2]; rfl, X2.out.trans (by repeat' (first | exact Ext.refl _ | assumption | refine Ext.alloc ?_ _ | refine Ext.ext ?_ _ | refine Ext.drew ?_ | refine Ext.drewN ?_ _))⟩
  · obtain ⟨i, hi, hRi, hpi, hall⟩ := hitC_lt (p := isReq q) (xs := xs) (by show 0 ≤ reqI xs q; omega)
    have hRi' : reqI xs q = i := hRi
    obtain ⟨-, p', cp', e, h4⟩ := Hh.out
    cases e
    obtain ⟨b, off, rfl, h6⟩ := h4.resolve_left (by omega)
    have H6 := hid h6
    have hrd := fun w' (hx : Ext w w') => (rd_dropC h6 i (qc - i) (Nat.le_of_lt hi)).ext hx
    have hci := (Cap.at xs h6 i hi).2.1
    rw [hRi'] at hrB ⊢
    have hRp : repI xs q = hitC (isRep q (xs.getD i .z).n) (xs.drop i) := by rw [repI, hRi', Int.toNat_natCast]
    have t0 : decide ((i : Int) < 0) = false := by simp
    have Hrd := hid hrd
    have HRp := hid hRp
    have HRi := hid hRi'
    have HrB := hid hrB
    clear hrd hRp hRi hRi' hrB hpi hall hneg h6
    go_wp2_with fail
    have X3 : Ext w2 (w2.alloc (.cells #[.int .i64 (i : Int)] 3)) := (by repeat' (first | exact Ext.refl _ | assumption | refine Ext.alloc ?_ _ | refine Ext.ext ?_ _ | refine Ext.drew ?_ | refine Ext.drewN ?_ _))
    have bi3 : (w2.alloc (.cells #[.int .i64 (i : Int)] 3)).cell? ⟨w2.heap.size, 0, none⟩ = some (.int .i64 (i : Int)) := by rw [cell_of_row _ _ 0 _ _ (0, 0) (heap_at _ rfl)]; rfl
    have bq3 := X3.cell bq2
    have bl3 := X3.cell bl2
    have X3' := X2.out.trans X3
    have hE3 := X3'.cell hci
    generalize (w2.alloc (.cells #[.int .i64 (i : Int)] 3)) = W3 at *
    go_at_call 74
    refine (slices_IndexFunc_cap (xs.drop i) (isRep q (xs.getD i .z).n) 76 #[.pointer (some ⟨w.heap.size + 1, 0, none⟩), .pointer (some ⟨w.heap.size, 0, none⟩), .pointer (some ⟨w2.heap.size, 0, none⟩)] (enters_of Tryz.func76 (by kernel_rfl) rfl) _ W3 W3 (Hrd.out W3 X3') (Ext.refl _) (by rw [List.length_drop]; omega) (fun t n u c m r l d w' _ hx => impl_RepairTicks_2 q (xs.getD i .z).n t n u c m r l d _ _ _ b off i xs.length qc w' (hx.cell bq3) (hx.cell bl3) (hx.cell bi3) (hx.cell hE3) hi h2)).mono ?_
    rintro e w4 ⟨rfl, hx4⟩
    have bl4 := hx4.cell bl3
    have bi4 := hx4.cell bi3
    have X4 := hid (X3'.trans hx4)
    clear bq3 bl3 bi3 hE3 X3 X3' hx4 bq2 bl2 hci h4
    rw [← HRp.out]
    by_cases hneg : repI xs q < 0
    · have f : repB xs q = false := by rw [HrB.out, decide_eq_false (show ¬ 0 ≤ repI xs q by omega), Bool.and_false]
      have Hf := hid (And.intro (rep_no f) f)
      have t1 : decide (repI xs q < 0) = true := decide_eq_true hneg
      clear f HrB HRp
      generalize repI xs q = R at *
      go_wp2
      go_ret2
      exact ⟨by rw [Hf.out.1, Hf.out.2]; rfl, X4.out.trans (by repeat' (first | exact Ext.refl _ | assumption | refine Ext.alloc ?_ _ | refine Ext.ext ?_ _ | refine Ext.drew ?_ | refine Ext.drewN ?_ _))⟩
    · obtain ⟨k, hk, hRk, -, -⟩ := hitC_lt (p := isRep q (xs.getD i .z).n) (xs := xs.drop i) (by rw [← HRp.out]; omega)
      rw [← HRp.out] at hRk
      rw [List.length_drop] at hk
      have f : repB xs q = true := by rw [HrB.out, hRk]; simp
      have hN : repN xs q = (xs.getD (i + k) .z).t - (xs.getD i .z).t := by rw [rep_yes f, HRi.out, hRk, Int.toNat_natCast, Int.toNat_natCast]
      have Hf := hid (And.intro hN f)
      rw [hRk]
      have t1 : decide ((k : Int) < 0) = false := by simp
      have c0 := X4.out.cell (Cap.at xs H6.out i hi).1
      have d0 := X4.out.cell (Cap.at xs H6.out (i + k) (by omega)).1
      obtain ⟨g0, g1⟩ := htb.out i hi
      obtain ⟨g2, g3⟩ := htb.out (i + k) (by omega)
      have s1 : IntKind.i64.wrap ((i : Int) + (k : Int)) = (i : Int) + (k : Int) := IntWalk.i64_in _ (by omega)
      have s2 : (0 : Int) ≤ (i : Int) + (k : Int) := by omega
      have s3 : ((i : Int) + (k : Int)).toNat = i + k := by omega
      have s4 : (i : Int) + (k : Int) < xs.length := by omega
      have s5 : IntKind.i64.wrap ((xs.getD (i + k) .z).t - (xs.getD i .z).t) = (xs.getD (i + k) .z).t - (xs.getD i .z).t := IntWalk.i64_in _ (by omega)
      clear hN f hRk HrB HRp HRi hneg
      generalize (xs.getD (i + k) .z).t = tk at *
      generalize (xs.getD i .z).t = ti at *
      repeat (first | (go_wp2_with (fail); refine wp_region_ext (by kernel_rfl) (by kernel_rfl) ?_; (repeat (go_big_quiet_step (fail))); refine wpQuiet_nil ?_; rintro _ ⟨zq, rfl⟩))
      go_wp2_with (fail)
      go_ret2
      exact ⟨by rw [Hf.out.1, Hf.out.2]; rfl, X4.out.trans (by repeat' (first | exact Ext.refl _ | assumption | refine Ext.alloc ?_ _ | refine Ext.ext ?_ _ | refine Ext.drew ?_ | refine Ext.drewN ?_ _))⟩
theorem impl_RepairTicks (xs : List Cap) (p : Option Addr) (q : Int) (w : World) (h : Rd w 8 (.slice p xs.length xs.length) xs.length (xs.flatMap Cap.cs)) (h2 : xs.length ≤ 1048576) (h3 : Cap.chars xs ≤ 1048576) :
    Calls Tryz.prog 33 #[.slice p xs.length xs.length, .int .i64 q] w fun e w' => e = .returned (.tuple #[.int .i64 (repN xs q), .bool (repB xs q)]) ∧ Ext w w' :=
  impl_RepairTicksQ xs p xs.length q w h h2 h3 (Nat.le_refl _)
def isIs (kind q : Int) (up : Bool) (x : Cap) : Bool := x.c == kind && x.m == q && x.u == up
theorem isIs_req (q : Int) (x : Cap) : isIs 3 q true x = isReq q x := by
  unfold isIs isReq
  cases x.c == 3 <;> cases x.m == q <;> cases x.u <;> rfl
theorem isIs_rep (q node : Int) (x : Cap) : (x.n == node && isIs 2 q false x) = isRep q node x := by
  unfold isIs isRep
  cases x.c == 2 <;> cases x.m == q <;> cases x.u <;> cases x.n == node <;> rfl
theorem spec_l25Is (kind q : Int) (up : Bool) (t n : Int) (u : Bool) (c m r l : Int) (d : ByteArray) (w : World) :
    Calls Tryz.prog 71 #[.agg #[.int .i64 t, .int .i64 n, .bool u, .int .i64 c, .int .i64 m, .int .i64 r, .int .i64 l, .string d], .int .i64 kind, .int .i64 q, .bool up] w fun e w' => e = .returned (.bool (isIs kind q up ⟨t, n, u, c, m, r, l, d⟩)) ∧ Ext w w' := by
  have hf : Hid (isIs kind q up ⟨t, n, u, c, m, r, l, d⟩ = (c == kind && m == q && u == up)) := rfl
  by_cases hc : c = kind
  · subst hc
    by_cases hm : m = q
    · subst hm
      cases u <;> cases up
      all_goals
        go_enter Tryz.func71, Tryz.ntmps71
        repeat (first | (go_wp2_with (fail); refine wp_region_ext (by kernel_rfl) (by kernel_rfl) ?_; (repeat (go_big_quiet_step (fail))); refine wpQuiet_nil ?_; rintro _ ⟨zq, rfl⟩))
        go_wp2_with (fail)
        go_ret
        exact ⟨by rw [hf.out, beq_self_eq_true, beq_self_eq_true]; rfl, (by repeat' (first | exact Ext.refl _ | assumption | refine Ext.alloc ?_ _ | refine Ext.ext ?_ _ | refine Ext.drew ?_ | refine Ext.drewN ?_ _))⟩
    · have t0 : (m == q) = false := by simp [hm]
      have T0 := hid t0
      go_enter Tryz.func71, Tryz.ntmps71
      repeat (first | (go_wp2_with (fail); refine wp_region_ext (by kernel_rfl) (by kernel_rfl) ?_; (repeat (go_big_quiet_step (fail))); refine wpQuiet_nil ?_; rintro _ ⟨zq, rfl⟩))
      go_wp2_with (fail)
      go_ret
      exact ⟨by rw [hf.out, T0.out, Bool.and_false, Bool.false_and]; rfl, (by repeat' (first | exact Ext.refl _ | assumption | refine Ext.alloc ?_ _ | refine Ext.ext ?_ _ | refine Ext.drew ?_ | refine Ext.drewN ?_ _))⟩
  · have t0 : (c == kind) = false := by simp [hc]
    have T0 := hid t0
    go_enter Tryz.func71, Tryz.ntmps71
    repeat (first | (go_wp2_with (fail); refine wp_region_ext (by kernel_rfl) (by kernel_rfl) ?_; (repeat (go_big_quiet_step (fail))); refine wpQuiet_nil ?_; rintro _ ⟨zq, rfl⟩))
    go_wp2_with (fail)
    go_ret
    exact ⟨by rw [hf.out, T0.out, Bool.false_and, Bool.false_and]; rfl, (by repeat' (first | exact Ext.refl _ | assumption | refine Ext.alloc ?_ _ | refine Ext.ext ?_ _ | refine Ext.drew ?_ | refine Ext.drewN ?_ _))⟩
theorem spec_RepairTicks (xs : List Cap) (v : Value) (q : Int) (w : World) (h : Rd w 8 v xs.length (xs.flatMap Cap.cs)) (h2 : xs.length ≤ 1048576) (h3 : Cap.chars xs ≤ 1048576) :
    Calls Tryz.prog 34 #[v, .int .i64 q] w fun e w' => e = .returned (.tuple #[.int .i64 (repN xs q), .bool (repB xs q)]) ∧ Ext w w' := by
  have Hr := hid h
  obtain ⟨h1, p, cap, rfl, h4⟩ := h
  have hg : Hid (∀ w, Rd w 8 (.slice p xs.length cap) xs.length (xs.flatMap Cap.cs) → Calls Tryz.prog 40 #[.slice p xs.length cap] w fun e w' => e = .returned (.bool (capB xs)) ∧ Ext w w') := fun w h => spec_l25Good xs _ w h h2 h3
  have hs := hid (fun w => spec_l2Good q w)
  cases e1 : capB xs
  · have f : repB xs q = false := by rw [repB, e1]; rfl
    rw [rep_no f, f]
    rw [e1] at hg
    clear e1 f h1 h4
    go_enter Tryz.func34, Tryz.ntmps34
    go_wp2_with (go_at_call 40; (refine (hg.out _ (Hr.out.ext (by repeat' (first | exact Ext.refl _ | assumption | refine Ext.alloc ?_ _ | refine Ext.ext ?_ _ | refine Ext.drew ?_ | refine Ext.drewN ?_ _)))).mono ?_); rintro e w1 ⟨rfl, z1, rfl⟩)
    go_ret2
    exact ⟨rfl, (by repeat' (first | exact Ext.refl _ | assumption | refine Ext.alloc ?_ _ | refine Ext.ext ?_ _ | refine Ext.drew ?_ | refine Ext.drewN ?_ _))⟩
  rw [e1] at hg
  cases e2 : srl q
  · have f : repB xs q = false := by rw [repB, e2, Bool.false_and, Bool.and_false]
    rw [rep_no f, f]
    rw [e2] at hs
    clear e1 e2 f h1 h4
    go_enter Tryz.func34, Tryz.ntmps34
    go_wp2_with (first | (go_at_call 40; (refine (hg.out _ (Hr.out.ext (by repeat' (first | exact Ext.refl _ | assumption | refine Ext.alloc ?_ _ | refine Ext.ext ?_ _ | refine Ext.drew ?_ | refine Ext.drewN ?_ _)))).mono ?_); rintro e w1 ⟨rfl, z1, rfl⟩) | (go_at_call 77; refine (hs.out _).mono ?_; rintro e w' ⟨rfl, rfl⟩))
    go_ret2
    exact ⟨rfl, (by repeat' (first | exact Ext.refl _ | assumption | refine Ext.alloc ?_ _ | refine Ext.ext ?_ _ | refine Ext.drew ?_ | refine Ext.drewN ?_ _))⟩
  rw [e2] at hs
  have hB : repB xs q = (decide (0 ≤ reqI xs q) && decide (0 ≤ repI xs q)) := by rw [repB, e1, e2, Bool.true_and, Bool.true_and]
  have hno1 : (∀ i, i < xs.length → isReq q (xs.getD i .z) = false) → repN xs q = 0 ∧ repB xs q = false := fun h => by
    have f : repB xs q = false := by rw [hB, show reqI xs q = -1 from (hitC_no h).1]; rfl
    exact ⟨rep_no f, f⟩
  have hno2 : ∀ i, reqI xs q = (i : Nat) → (∀ j, i ≤ j → j < xs.length → isRep q (xs.getD i .z).n (xs.getD j .z) = false) → repN xs q = 0 ∧ repB xs q = false := fun i hr h => by
    have f : repB xs q = false := by rw [hB, rep_none hr h, Bool.and_eq_false_iff]; exact .inr rfl
    exact ⟨rep_no f, f⟩
  have hyes : ∀ i k, reqI xs q = (i : Nat) → i ≤ k → k < xs.length → (∀ j, i ≤ j → j < k → isRep q (xs.getD i .z).n (xs.getD j .z) = false) → isRep q (xs.getD i .z).n (xs.getD k .z) = true → repN xs q = (xs.getD k .z).t - (xs.getD i .z).t ∧ repB xs q = true := fun i k hr hik hk h hx => by
    have e := rep_at hr hk hik h hx
    have f : repB xs q = true := by rw [hB, e, hr]; simp
    refine ⟨?_, f⟩
    rw [rep_yes f, e, hr, Int.toNat_natCast, Int.toNat_natCast, show i + (k - i) = k by omega]
  have Hno1 := hid hno1
  have Hno2 := hid hno2
  have Hyes := hid hyes
  have Htb := hid (tick_bd e1)
  have H4 := hid h4
  clear e1 e2 hB hno1 hno2 hyes h1 h4
  generalize repN xs q = RN at *
  generalize repB xs q = RB at *
  go_enter Tryz.func34, Tryz.ntmps34
  go_wp2_with (first | (go_at_call 40; (refine (hg.out _ (Hr.out.ext (by repeat' (first | exact Ext.refl _ | assumption | refine Ext.alloc ?_ _ | refine Ext.ext ?_ _ | refine Ext.drew ?_ | refine Ext.drewN ?_ _)))).mono ?_); rintro e w1 ⟨rfl, z1, rfl⟩) | (go_at_call 77; refine (hs.out _).mono ?_; rintro e w' ⟨rfl, rfl⟩))
  go_loopw [6] (fun v6 wr => ∃ i : Nat, i ≤ xs.length ∧ v6 = .int .i64 i ∧ (∀ j, j < i → isReq q (xs.getD j .z) = false) ∧ Ext w wr) (fun v6 _ => xs.length - (intOf v6).toNat)
  case atStart => exact ⟨0, Nat.zero_le _, rfl, fun _ h => absurd h (Nat.not_lt_zero _), (by repeat' (first | exact Ext.refl _ | assumption | refine Ext.alloc ?_ _ | refine Ext.ext ?_ _ | refine Ext.drew ?_ | refine Ext.drewN ?_ _))⟩
  case round =>
    obtain ⟨i, hi, rfl, hall, hx⟩ := hrel
    have Hx := hid hx
    have Hall := hid hall
    clear hx hall hg hs
    by_cases hlt : i < xs.length
    · obtain ⟨b, off, rfl, h6⟩ := H4.out.resolve_left (by omega)
      obtain ⟨c0, c1, c2, c3, c4, c5, c6, c7⟩ := Cap.at xs h6 i hlt
      replace c0 := Hx.out.cell c0
      replace c1 := Hx.out.cell c1
      replace c2 := Hx.out.cell c2
      replace c3 := Hx.out.cell c3
      replace c4 := Hx.out.cell c4
      replace c5 := Hx.out.cell c5
      replace c6 := Hx.out.cell c6
      replace c7 := Hx.out.cell c7
      have H6 := hid h6
      have Htb1 := Htb.out i hlt
      have hnx : isReq q (xs.getD i .z) = false → ∀ j, j < i + 1 → isReq q (xs.getD j .z) = false := fun h => upTo_succ Hall.out h
      have hrq : isReq q (xs.getD i .z) = true → reqI xs q = i := fun h => req_at hlt Hall.out h
      have hkd : isReq q (xs.getD i .z) = true → isRep q (xs.getD i .z).n (xs.getD i .z) = false := fun h => req_kind h
      have Hno2i := hid (fun h => Hno2.out i h)
      have Hyesi := hid (fun k h => Hyes.out i k h)
      have hdi : Hid (∀ nd : Int, isRep q nd (xs.getD i .z) = isRep q nd (xs.getD i .z)) := fun _ => rfl
      clear h6 hdi
      generalize hX : xs.getD i .z = x at c0 c1 c2 c3 c4 c5 c6 c7 Htb1 hnx hrq hkd Hno2i Hyesi
      obtain ⟨t, n, u, c, m, r, l, d⟩ := x
      dsimp only at c0 c1 c2 c3 c4 c5 c6 c7 Htb1 hkd
      have h25 := hid (fun w => spec_l25Is 3 q true t n u c m r l d w)
      have hir := isIs_req q ⟨t, n, u, c, m, r, l, d⟩
      rw [hir] at h25
      have Hnx := hid hnx
      have Hrq := hid hrq
      have Hkd := hid hkd
      have HX := hid hX
      clear hnx hrq hkd hX hir
      cases hq : isReq q ⟨t, n, u, c, m, r, l, d⟩
      · rw [hq] at h25
        have Hq := hid hq
        clear hq
        repeat (first | (go_wp2_with ((go_at_call 71; refine (h25.out _).mono ?_; rintro e w' ⟨rfl, z1, rfl⟩)); refine wp_region_ext (by kernel_rfl) (by kernel_rfl) ?_; (repeat (go_big_quiet_step ((go_at_call 71; exact Calls.quiet_ext (h25.out _))))); refine wpQuiet_nil ?_; rintro _ ⟨zq, rfl⟩))
        go_wp2_with ((go_at_call 71; refine (h25.out _).mono ?_; rintro e w' ⟨rfl, z1, rfl⟩))
        go_roundw
        case rel => exact ⟨i + 1, by omega, by go_num, Hnx.out Hq.out, Hx.out.trans (by repeat' (first | exact Ext.refl _ | assumption | refine Ext.alloc ?_ _ | refine Ext.ext ?_ _ | refine Ext.drew ?_ | refine Ext.drewN ?_ _))⟩
        case measure => simp [intOf]; omega
      · rw [hq] at h25
        have Hq := hid hq
        clear hq
        repeat (first | (go_wp2_with ((go_at_call 71; refine (h25.out _).mono ?_; rintro e w' ⟨rfl, z1, rfl⟩)); refine wp_region_ext (by kernel_rfl) (by kernel_rfl) ?_; (repeat (go_big_quiet_step ((go_at_call 71; exact Calls.quiet_ext (h25.out _))))); refine wpQuiet_nil ?_; rintro _ ⟨zq, rfl⟩))
        go_wp2_with ((go_at_call 71; refine (h25.out _).mono ?_; rintro e w' ⟨rfl, z1, rfl⟩))
        have hre := Hrq.out Hq.out
        have Hno3 := hid (Hno2i.out hre)
        have Hye3 := hid (fun k => Hyesi.out k hre)
        have Hk0 := hid (Hkd.out Hq.out)
        clear hre c0 c2 c3 c4 c5 c6 c7 c1
        go_loopw [7] (fun v7 wq => ∃ k : Nat, i < k ∧ k ≤ xs.length ∧ v7 = .int .i64 (k : Int) ∧ (∀ j, i ≤ j → j < k → isRep q n (xs.getD j .z) = false) ∧ Ext w wq) (fun v7 _ => xs.length - (intOf v7).toNat)
        case atStart => exact ⟨i + 1, by omega, by omega, by go_num, (fun j h1 h2 => by
          obtain rfl : j = i := by omega
          rw [HX.out]
          exact Hk0.out), Hx.out.trans (by repeat' (first | exact Ext.refl _ | assumption | refine Ext.alloc ?_ _ | refine Ext.ext ?_ _ | refine Ext.drew ?_ | refine Ext.drewN ?_ _))⟩
        case round =>
          obtain ⟨k, hik, hk, rfl, hall2, hx2⟩ := hrel
          have Hx2 := hid hx2
          have Hall2 := hid hall2
          clear hx2 hall2
          by_cases hlt2 : k < xs.length
          · obtain ⟨c0, c1, -⟩ := Cap.at xs H6.out i hlt
            rw [HX.out] at c0 c1
            dsimp only at c0 c1
            replace c0 := Hx2.out.cell c0
            replace c1 := Hx2.out.cell c1
            obtain ⟨e0, e1, e2, e3, e4, e5, e6, e7⟩ := Cap.at xs H6.out k hlt2
            replace e0 := Hx2.out.cell e0
            replace e1 := Hx2.out.cell e1
            replace e2 := Hx2.out.cell e2
            replace e3 := Hx2.out.cell e3
            replace e4 := Hx2.out.cell e4
            replace e5 := Hx2.out.cell e5
            replace e6 := Hx2.out.cell e6
            replace e7 := Hx2.out.cell e7
            have Htb2 := Htb.out k hlt2
            have hnx : isRep q n (xs.getD k .z) = false → ∀ j, i ≤ j → j < k + 1 → isRep q n (xs.getD j .z) = false := fun h j h1 h2 => by
              by_cases e : j = k
              · subst e; exact h
              · exact Hall2.out j h1 (by omega)
            have hye := fun h => Hye3.out k (by omega) hlt2 Hall2.out h
            generalize xs.getD k .z = y at e0 e1 e2 e3 e4 e5 e6 e7 Htb2 hnx hye
            obtain ⟨t', n', u', c', m', r', l', d'⟩ := y
            dsimp only at e0 e1 e2 e3 e4 e5 e6 e7 Htb2
            have h26 := hid (fun w => spec_l25Is 2 q false t' n' u' c' m' r' l' d' w)
            have hir := isIs_rep q n ⟨t', n', u', c', m', r', l', d'⟩
            dsimp only at hir
            have Hnx := hid hnx
            have Hye := hid hye
            have w1 : IntKind.i64.wrap (t' - t) = t' - t := IntWalk.i64_in _ (by omega)
            clear hnx hye
            by_cases hn : n' = n
            · subst hn
              rw [beq_self_eq_true, Bool.true_and] at hir
              rw [hir] at h26
              clear hir
              cases hq2 : isRep q n' ⟨t', n', u', c', m', r', l', d'⟩
              · rw [hq2] at h26
                have Hq2 := hid hq2
                clear hq2
                repeat (first | (go_wp2_with (fail); refine wp_region_ext (by kernel_rfl) (by kernel_rfl) ?_; (repeat (go_big_quiet_step ((go_at_call 71; exact Calls.quiet_ext (h26.out _))))); refine wpQuiet_nil ?_; rintro _ ⟨zq, rfl⟩))
                go_wp2_with (fail)
                go_roundw
                case rel => exact ⟨k + 1, by omega, by omega, by go_num, Hnx.out Hq2.out, Hx2.out.trans (by repeat' (first | exact Ext.refl _ | assumption | refine Ext.alloc ?_ _ | refine Ext.ext ?_ _ | refine Ext.drew ?_ | refine Ext.drewN ?_ _))⟩
                case measure => simp [intOf]; omega
              · rw [hq2] at h26
                have Hq2 := hid hq2
                clear hq2
                have hfin := hid (Hye.out Hq2.out)
                repeat (first | (go_wp2_with (fail); refine wp_region_ext (by kernel_rfl) (by kernel_rfl) ?_; (repeat (go_big_quiet_step ((go_at_call 71; exact Calls.quiet_ext (h26.out _))))); refine wpQuiet_nil ?_; rintro _ ⟨zq, rfl⟩))
                go_wp2_with (fail)
                go_ret2
                exact ⟨by rw [hfin.out.1, hfin.out.2]; rfl, Hx2.out.trans (by repeat' (first | exact Ext.refl _ | assumption | refine Ext.alloc ?_ _ | refine Ext.ext ?_ _ | refine Ext.drew ?_ | refine Ext.drewN ?_ _))⟩
            · have t0 : (n' == n) = false := by simp [hn]
              rw [t0, Bool.false_and] at hir
              have Hq2 := hid hir.symm
              clear hir
              repeat (first | (go_wp2_with (fail); refine wp_region_ext (by kernel_rfl) (by kernel_rfl) ?_; (repeat (go_big_quiet_step ((go_at_call 71; exact Calls.quiet_ext (h26.out _))))); refine wpQuiet_nil ?_; rintro _ ⟨zq, rfl⟩))
              go_wp2_with (fail)
              go_roundw
              case rel => exact ⟨k + 1, by omega, by omega, by go_num, Hnx.out Hq2.out, Hx2.out.trans (by repeat' (first | exact Ext.refl _ | assumption | refine Ext.alloc ?_ _ | refine Ext.ext ?_ _ | refine Ext.drew ?_ | refine Ext.drewN ?_ _))⟩
              case measure => simp [intOf]; omega
          · have hf := hid (Hno3.out (fun j h1 h2 => Hall2.out j h1 (by omega)))
            go_wp2
            go_ret2
            exact ⟨by rw [hf.out.1, hf.out.2]; rfl, Hx2.out⟩
    · have hf := hid (Hno1.out (fun j hj => Hall.out j (by omega)))
      go_wp2
      go_ret2
      exact ⟨by rw [hf.out.1, hf.out.2]; rfl, Hx.out⟩
end Go.Proofs.YtljknhocfjpolaaGreatDoor
