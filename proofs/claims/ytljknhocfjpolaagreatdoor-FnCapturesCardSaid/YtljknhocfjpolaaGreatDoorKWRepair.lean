/- Ticks from a request to its repair: both sides. -/
import Derived.Test.YtljknhocfjpolaaGreatDoorJ19
namespace Go.Proofs.YtljknhocfjpolaaGreatDoor
open Go.RowKit
set_option maxHeartbeats 400000
set_option maxRecDepth 100000
def isReq (q : Int) (x : Cap) : Bool := x.c == 3 && x.u && x.m == q
def isRep (q node : Int) (x : Cap) : Bool := x.c == 2 && !x.u && x.m == q && x.n == node
/-- Where the request stands, and the repair behind it. -/
def reqI (xs : List Cap) (q : Int) : Int := hitC (isReq q) xs
def repI (xs : List Cap) (q : Int) : Int := hitC (isRep q (xs.getD (reqI xs q).toNat .z).n) (xs.drop (reqI xs q).toNat)
def repB (xs : List Cap) (q : Int) : Bool := capB xs && (srl q && (decide (0 ≤ reqI xs q) && decide (0 ≤ repI xs q)))
def repN (xs : List Cap) (q : Int) : Int := if repB xs q then (xs.getD ((reqI xs q).toNat + (repI xs q).toNat) .z).t - (xs.getD (reqI xs q).toNat .z).t else 0
theorem rep_no {xs : List Cap} {q : Int} (h : repB xs q = false) : repN xs q = 0 := by rw [repN, h]; rfl
theorem rep_yes {xs : List Cap} {q : Int} (h : repB xs q = true) : repN xs q = (xs.getD ((reqI xs q).toNat + (repI xs q).toNat) .z).t - (xs.getD (reqI xs q).toNat .z).t := by rw [repN, h]; rfl
theorem drop_getD (xs : List Cap) (i j : Nat) : (xs.drop i).getD j .z = xs.getD (i + j) .z := by
  rw [List.getD_eq_getElem?_getD, List.getD_eq_getElem?_getD, List.getElem?_drop]
theorem req_at {xs : List Cap} {q : Int} {i : Nat} (hi : i < xs.length) (hall : ∀ j, j < i → isReq q (xs.getD j .z) = false) (hx : isReq q (xs.getD i .z) = true) : reqI xs q = i := hitC_at hi hall hx
theorem req_kind {q node : Int} {x : Cap} (h : isReq q x = true) : isRep q node x = false := by
  simp only [isReq, Bool.and_eq_true, beq_iff_eq] at h
  simp only [isRep, h.1.1]
  rfl
theorem rep_at {xs : List Cap} {q : Int} {i k : Nat} (hr : reqI xs q = i) (hk : k < xs.length) (hik : i ≤ k) (hall : ∀ j, i ≤ j → j < k → isRep q (xs.getD i .z).n (xs.getD j .z) = false) (hx : isRep q (xs.getD i .z).n (xs.getD k .z) = true) : repI xs q = ((k - i : Nat) : Int) := by
  rw [repI, hr, Int.toNat_natCast]
  refine hitC_at (by rw [List.length_drop]; omega) (fun j hj => ?_) ?_
  · rw [drop_getD]
    exact hall (i + j) (by omega) (by omega)
  · rw [drop_getD, show i + (k - i) = k by omega]
    exact hx
theorem rep_none {xs : List Cap} {q : Int} {i : Nat} (hr : reqI xs q = i) (hall : ∀ j, i ≤ j → j < xs.length → isRep q (xs.getD i .z).n (xs.getD j .z) = false) : repI xs q = -1 := by
  rw [repI, hr, Int.toNat_natCast]
  refine (hitC_no (fun j hj => ?_)).1
  rw [List.length_drop] at hj
  rw [drop_getD]
  exact hall (i + j) (by omega) (by omega)
theorem tick_bd {xs : List Cap} (h : capB xs = true) (i : Nat) (hi : i < xs.length) : 0 ≤ (xs.getD i .z).t ∧ (xs.getD i .z).t ≤ 10000 := by
  have := ((cap_iff h).2 i hi).1
  simp only [okC, Bool.and_eq_true] at this
  exact inB_iff.1 this.1
/-! ### The program's closures -/
theorem impl_isRequestUp (t n : Int) (u : Bool) (c m r l : Int) (d : ByteArray) (w : World) :
    Calls Tryz.prog 69 #[.agg #[.int .i64 t, .int .i64 n, .bool u, .int .i64 c, .int .i64 m, .int .i64 r, .int .i64 l, .string d]] w fun e w' => e = .returned (.bool (c == 3 && u)) ∧ Ext w w' := by
  by_cases h : c = 3
  · subst h
    cases u
    all_goals
      go_enter Tryz.func69, Tryz.ntmps69
      go_wp2
      go_ret
      exact ⟨rfl, (by repeat' (first | exact Ext.refl _ | assumption | refine Ext.alloc ?_ _ | refine Ext.ext ?_ _ | refine Ext.drew ?_ | refine Ext.drewN ?_ _))⟩
  · have t0 : (c == 3) = false := by simp [h]
    rw [t0]
    go_enter Tryz.func69, Tryz.ntmps69
    go_wp2
    go_ret
    exact ⟨rfl, (by repeat' (first | exact Ext.refl _ | assumption | refine Ext.alloc ?_ _ | refine Ext.ext ?_ _ | refine Ext.drew ?_ | refine Ext.drewN ?_ _))⟩
theorem impl_RepairTicks_1 (q : Int) (t n : Int) (u : Bool) (c m r l : Int) (d : ByteArray) (B : Nat) (w : World) (hB : w.cell? ⟨B, 0, none⟩ = some (.int .i64 q)) :
    Calls Tryz.prog 75 (#[.agg #[.int .i64 t, .int .i64 n, .bool u, .int .i64 c, .int .i64 m, .int .i64 r, .int .i64 l, .string d]] ++ #[.pointer (some ⟨B, 0, none⟩)]) w fun e w' => e = .returned (.bool (isReq q ⟨t, n, u, c, m, r, l, d⟩)) ∧ Ext w w' := by
  have hq := hid (fun w => impl_isRequestUp t n u c m r l d w)
  have hf : Hid (isReq q ⟨t, n, u, c, m, r, l, d⟩ = (c == 3 && u && m == q)) := rfl
  cases hk : (c == 3 && u)
  · rw [hk] at hq
    have Hk := hid hk
    clear hk
    go_enter Tryz.func75, Tryz.ntmps75
    repeat (first | (go_wp2_with ((go_at_call 69; refine (hq.out _).mono ?_; rintro e w' ⟨rfl, z1, rfl⟩)); refine wp_region_ext (by kernel_rfl) (by kernel_rfl) ?_; (repeat (go_big_quiet_step ((go_at_call 69; exact Calls.quiet_ext (hq.out _))))); refine wpQuiet_nil ?_; rintro _ ⟨zq, rfl⟩))
    go_wp2_with ((go_at_call 69; refine (hq.out _).mono ?_; rintro e w' ⟨rfl, z1, rfl⟩))
    go_ret
    exact ⟨by rw [hf.out, Hk.out]; rfl, (by repeat' (first | exact Ext.refl _ | assumption | refine Ext.alloc ?_ _ | refine Ext.ext ?_ _ | refine Ext.drew ?_ | refine Ext.drewN ?_ _))⟩
  · rw [hk] at hq
    have Hk := hid hk
    clear hk
    by_cases hm : m = q
    · subst hm
      go_enter Tryz.func75, Tryz.ntmps75
      repeat (first | (go_wp2_with ((go_at_call 69; refine (hq.out _).mono ?_; rintro e w' ⟨rfl, z1, rfl⟩)); refine wp_region_ext (by kernel_rfl) (by kernel_rfl) ?_; (repeat (go_big_quiet_step ((go_at_call 69; exact Calls.quiet_ext (hq.out _))))); refine wpQuiet_nil ?_; rintro _ ⟨zq, rfl⟩))
      go_wp2_with ((go_at_call 69; refine (hq.out _).mono ?_; rintro e w' ⟨rfl, z1, rfl⟩))
      go_ret
      exact ⟨by rw [hf.out, Hk.out, beq_self_eq_true]; rfl, (by repeat' (first | exact Ext.refl _ | assumption | refine Ext.alloc ?_ _ | refine Ext.ext ?_ _ | refine Ext.drew ?_ | refine Ext.drewN ?_ _))⟩
    · have t0 : (m == q) = false := by simp [hm]
      have T0 := hid t0
      go_enter Tryz.func75, Tryz.ntmps75
      repeat (first | (go_wp2_with ((go_at_call 69; refine (hq.out _).mono ?_; rintro e w' ⟨rfl, z1, rfl⟩)); refine wp_region_ext (by kernel_rfl) (by kernel_rfl) ?_; (repeat (go_big_quiet_step ((go_at_call 69; exact Calls.quiet_ext (hq.out _))))); refine wpQuiet_nil ?_; rintro _ ⟨zq, rfl⟩))
      go_wp2_with ((go_at_call 69; refine (hq.out _).mono ?_; rintro e w' ⟨rfl, z1, rfl⟩))
      go_ret
      exact ⟨by rw [hf.out, Hk.out, T0.out]; rfl, (by repeat' (first | exact Ext.refl _ | assumption | refine Ext.alloc ?_ _ | refine Ext.ext ?_ _ | refine Ext.drew ?_ | refine Ext.drewN ?_ _))⟩
theorem impl_RepairTicks_2 (q node : Int) (t n : Int) (u : Bool) (c m r l : Int) (d : ByteArray) (Bn Bl Bi b off i len cap : Nat) (w : World) (hB : w.cell? ⟨Bn, 0, none⟩ = some (.int .i64 q))
    (hL : w.cell? ⟨Bl, 0, none⟩ = some (.slice (some ⟨b, off, none⟩) len cap)) (hI : w.cell? ⟨Bi, 0, none⟩ = some (.int .i64 (i : Int))) (hE : w.cell? ⟨b, off + i * 8 + 1, none⟩ = some (.int .i64 node)) (hi : i < len) (_hlen : len ≤ 1048576) :
    Calls Tryz.prog 76 (#[.agg #[.int .i64 t, .int .i64 n, .bool u, .int .i64 c, .int .i64 m, .int .i64 r, .int .i64 l, .string d]] ++ #[.pointer (some ⟨Bn, 0, none⟩), .pointer (some ⟨Bl, 0, none⟩), .pointer (some ⟨Bi, 0, none⟩)]) w fun e w' => e = .returned (.bool (isRep q node ⟨t, n, u, c, m, r, l, d⟩)) ∧ Ext w w' := by
  have hf : Hid (isRep q node ⟨t, n, u, c, m, r, l, d⟩ = (c == 2 && !u && m == q && n == node)) := rfl
  have hnot : ∀ (x : Bool) (w : World), (Op.unary .not (.bool x)).run Tryz.prog w = .ok (.bool (!x)) w := fun _ _ => rfl
  by_cases hc : c = 2
  · subst hc
    cases u
    · by_cases hm : m = q
      · subst hm
        by_cases hn : n = node
        · subst hn
          have hT : Hid (isRep m n ⟨t, n, false, 2, m, r, l, d⟩ = true) := by show isRep m n ⟨t, n, false, 2, m, r, l, d⟩ = true; simp [isRep]
          go_enter Tryz.func76, Tryz.ntmps76
          repeat (first | (go_wp2_with (fail); refine wp_region_ext (by kernel_rfl) (by kernel_rfl) ?_; (repeat (go_big_quiet_step (fail))); refine wpQuiet_nil ?_; rintro _ ⟨zq, rfl⟩))
          go_wp2_with (fail)
          go_ret
          exact ⟨by rw [hT.out]; rfl, (by repeat' (first | exact Ext.refl _ | assumption | refine Ext.alloc ?_ _ | refine Ext.ext ?_ _ | refine Ext.drew ?_ | refine Ext.drewN ?_ _))⟩
        · have t0 : (n == node) = false := by simp [hn]
          have T0 := hid t0
          go_enter Tryz.func76, Tryz.ntmps76
          repeat (first | (go_wp2_with (fail); refine wp_region_ext (by kernel_rfl) (by kernel_rfl) ?_; (repeat (go_big_quiet_step (fail))); refine wpQuiet_nil ?_; rintro _ ⟨zq, rfl⟩))
          go_wp2_with (fail)
          go_ret
          exact ⟨by rw [hf.out, T0.out, Bool.and_false]; rfl, (by repeat' (first | exact Ext.refl _ | assumption | refine Ext.alloc ?_ _ | refine Ext.ext ?_ _ | refine Ext.drew ?_ | refine Ext.drewN ?_ _))⟩
      · have t0 : (m == q) = false := by simp [hm]
        have T0 := hid t0
        go_enter Tryz.func76, Tryz.ntmps76
        repeat (first | (go_wp2_with (fail); refine wp_region_ext (by kernel_rfl) (by kernel_rfl) ?_; (repeat (go_big_quiet_step (fail))); refine wpQuiet_nil ?_; rintro _ ⟨zq, rfl⟩))
        go_wp2_with (fail)
        go_ret
        exact ⟨by rw [hf.out, T0.out, Bool.and_false, Bool.false_and]; rfl, (by repeat' (first | exact Ext.refl _ | assumption | refine Ext.alloc ?_ _ | refine Ext.ext ?_ _ | refine Ext.drew ?_ | refine Ext.drewN ?_ _))⟩
    · go_enter Tryz.func76, Tryz.ntmps76
      repeat (first | (go_wp2_with (fail); refine wp_region_ext (by kernel_rfl) (by kernel_rfl) ?_; (repeat (go_big_quiet_step (fail))); refine wpQuiet_nil ?_; rintro _ ⟨zq, rfl⟩))
      go_wp2_with (fail)
      go_ret
      exact ⟨by rw [hf.out]; rfl, (by repeat' (first | exact Ext.refl _ | assumption | refine Ext.alloc ?_ _ | refine Ext.ext ?_ _ | refine Ext.drew ?_ | refine Ext.drewN ?_ _))⟩
  · have t0 : (c == 2) = false := by simp [hc]
    have T0 := hid t0
    go_enter Tryz.func76, Tryz.ntmps76
    repeat (first | (go_wp2_with (fail); refine wp_region_ext (by kernel_rfl) (by kernel_rfl) ?_; (repeat (go_big_quiet_step (fail))); refine wpQuiet_nil ?_; rintro _ ⟨zq, rfl⟩))
    go_wp2_with (fail)
    go_ret
    exact ⟨by rw [hf.out, T0.out, Bool.false_and, Bool.false_and, Bool.false_and]; rfl, (by repeat' (first | exact Ext.refl _ | assumption | refine Ext.alloc ?_ _ | refine Ext.ext ?_ _ | refine Ext.drew ?_ | refine Ext.drewN ?_ _))⟩
end Go.Proofs.YtljknhocfjpolaaGreatDoor
