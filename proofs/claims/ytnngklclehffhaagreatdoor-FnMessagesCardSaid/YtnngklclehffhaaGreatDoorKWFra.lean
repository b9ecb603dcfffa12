/- Valid fragments and their texts: both sides. -/
import Derived.Test.YtnngklclehffhaaGreatDoorJ3
import Derived.Test.YtnngklclehffhaaGreatDoorKWItem
import Derived.Test.YtnngklclehffhaaGreatDoorJ5
namespace Go.Proofs.YtnngklclehffhaaGreatDoor
open Go.RowKit
set_option maxHeartbeats 400000
set_option maxRecDepth 100000
def okF (x : Fra) : Bool := inB x.n 0 99 && (inB x.q 1 9 && (inB x.p 0 (x.q - 1) && itm 8 x.d))
theorem okF_iff {x : Fra} (h : okF x = true) : (0 ≤ x.n ∧ x.n ≤ 99) ∧ (1 ≤ x.q ∧ x.q ≤ 9) ∧ (0 ≤ x.p ∧ x.p ≤ x.q - 1) ∧ itm 8 x.d = true := by
  simp only [okF, Bool.and_eq_true] at h
  exact ⟨inB_iff.1 h.1, inB_iff.1 h.2.1, inB_iff.1 h.2.2.1, h.2.2.2⟩
theorem impl_isMessageNumber (x : Int) (w : World) : Calls Tryz.prog 17 #[.int .i64 x] w fun e w' => e = .returned (.bool (inB x 0 99)) ∧ w = w' := by
  go_enter Tryz.func17, Tryz.ntmps17
  go_wp2_with (go_at_call 19; refine (impl_within _ _ _ _).mono ?_; rintro e w' ⟨rfl, rfl⟩)
  go_ret
  simp
theorem spec_l23Number (x : Int) (w : World) : Calls Tryz.prog 20 #[.int .i64 x] w fun e w' => e = .returned (.bool (inB x 0 99)) ∧ w = w' := by
  go_enter Tryz.func20, Tryz.ntmps20
  go_wp2_with (go_at_call 22; refine (spec_l1In _ _ _ _).mono ?_; rintro e w' ⟨rfl, rfl⟩)
  go_ret
  simp
theorem impl_IsValidFragment (n p q : Int) (d : ByteArray) (w : World) (h : d.size ≤ 1048576) :
    Calls Tryz.prog 8 #[.agg #[.int .i64 n, .int .i64 p, .int .i64 q, .string d]] w fun e w' => e = .returned (.bool (okF ⟨n, p, q, d⟩)) ∧ Ext w w' := by
  have a1 := hid (fun w => impl_isMessageNumber n w)
  have a2 := hid (fun w => impl_within q 1 9 w)
  have a4 := hid (fun w => impl_isItem d w h)
  cases e1 : inB n 0 99
  · have f : okF ⟨n, p, q, d⟩ = false := by simp only [okF, e1, Bool.false_and]
    rw [f]
    rw [e1] at a1
    clear f e1 a2 a4
    go_enter Tryz.func8, Tryz.ntmps8
    go_wp2_with (go_at_call 17; refine (a1.out _).mono ?_; rintro e w' ⟨rfl, rfl⟩)
    go_ret
    exact ⟨rfl, (by repeat' (first | exact Ext.refl _ | assumption | refine Ext.alloc ?_ _ | refine Ext.ext ?_ _ | refine Ext.drew ?_ | refine Ext.drewN ?_ _))⟩
  rw [e1] at a1
  cases e2 : inB q 1 9
  · have f : okF ⟨n, p, q, d⟩ = false := by simp only [okF, e1, e2, Bool.false_and, Bool.and_false]
    rw [f]
    rw [e2] at a2
    clear f e1 e2 a4
    go_enter Tryz.func8, Tryz.ntmps8
    go_wp2_with (first | (go_at_call 17; refine (a1.out _).mono ?_; rintro e w' ⟨rfl, rfl⟩) | (go_at_call 19; refine (a2.out _).mono ?_; rintro e w' ⟨rfl, rfl⟩))
    go_ret
    exact ⟨rfl, (by repeat' (first | exact Ext.refl _ | assumption | refine Ext.alloc ?_ _ | refine Ext.ext ?_ _ | refine Ext.drew ?_ | refine Ext.drewN ?_ _))⟩
  rw [e2] at a2
  have hq := inB_iff.1 e2
  have w1 : IntKind.i64.wrap (q - 1) = q - 1 := IntWalk.i64_in _ (by omega)
  have a3 := hid (fun w => impl_within p 0 (q - 1) w)
  cases e3 : inB p 0 (q - 1)
  · have f : okF ⟨n, p, q, d⟩ = false := by simp only [okF, e1, e2, e3, Bool.false_and, Bool.and_false]
    rw [f]
    rw [e3] at a3
    clear f e1 e2 e3 a4
    go_enter Tryz.func8, Tryz.ntmps8
    go_wp2_with (first | (go_at_call 17; refine (a1.out _).mono ?_; rintro e w' ⟨rfl, rfl⟩) | ((go_at_call 19); first | ((with_reducible refine (a2.out _).mono ?_); rintro e w' ⟨rfl, rfl⟩) | ((with_reducible refine (a3.out _).mono ?_); rintro e w' ⟨rfl, rfl⟩)))
    go_ret
    exact ⟨rfl, (by repeat' (first | exact Ext.refl _ | assumption | refine Ext.alloc ?_ _ | refine Ext.ext ?_ _ | refine Ext.drew ?_ | refine Ext.drewN ?_ _))⟩
  have f : okF ⟨n, p, q, d⟩ = itm 8 d := by simp only [okF, e1, e2, e3, Bool.true_and]
  rw [f]
  rw [e3] at a3
  clear f e1 e2 e3
  generalize itm 8 d = I at *
  go_enter Tryz.func8, Tryz.ntmps8
  go_wp2_with (first | (go_at_call 17; refine (a1.out _).mono ?_; rintro e w' ⟨rfl, rfl⟩) | (go_at_call 25; refine (a4.out _).mono ?_; rintro e w' ⟨rfl, z1, rfl⟩) | ((go_at_call 19); first | ((with_reducible refine (a2.out _).mono ?_); rintro e w' ⟨rfl, rfl⟩) | ((with_reducible refine (a3.out _).mono ?_); rintro e w' ⟨rfl, rfl⟩)))
  go_ret
  exact ⟨rfl, (by repeat' (first | exact Ext.refl _ | assumption | refine Ext.alloc ?_ _ | refine Ext.ext ?_ _ | refine Ext.drew ?_ | refine Ext.drewN ?_ _))⟩
theorem spec_l23Fragment (n p q : Int) (d : ByteArray) (w : World) (h : d.size ≤ 1048576) :
    Calls Tryz.prog 37 #[.agg #[.int .i64 n, .int .i64 p, .int .i64 q, .string d]] w fun e w' => e = .returned (.bool (okF ⟨n, p, q, d⟩)) ∧ Ext w w' := by
  have a1 := hid (fun w => spec_l23Number n w)
  have a2 := hid (fun w => spec_l1In q 1 9 w)
  have a4 := hid (fun w => spec_l4Letters d 8 w h (by decide))
  cases e1 : inB n 0 99
  · have f : okF ⟨n, p, q, d⟩ = false := by simp only [okF, e1, Bool.false_and]
    rw [f]
    rw [e1] at a1
    clear f e1 a2 a4
    go_enter Tryz.func37, Tryz.ntmps37
    go_wp2_with (go_at_call 20; refine (a1.out _).mono ?_; rintro e w' ⟨rfl, rfl⟩)
    go_ret
    exact ⟨rfl, (by repeat' (first | exact Ext.refl _ | assumption | refine Ext.alloc ?_ _ | refine Ext.ext ?_ _ | refine Ext.drew ?_ | refine Ext.drewN ?_ _))⟩
  rw [e1] at a1
  cases e2 : inB q 1 9
  · have f : okF ⟨n, p, q, d⟩ = false := by simp only [okF, e1, e2, Bool.false_and, Bool.and_false]
    rw [f]
    rw [e2] at a2
    clear f e1 e2 a4
    go_enter Tryz.func37, Tryz.ntmps37
    go_wp2_with (first | (go_at_call 20; refine (a1.out _).mono ?_; rintro e w' ⟨rfl, rfl⟩) | (go_at_call 22; refine (a2.out _).mono ?_; rintro e w' ⟨rfl, rfl⟩))
    go_ret
    exact ⟨rfl, (by repeat' (first | exact Ext.refl _ | assumption | refine Ext.alloc ?_ _ | refine Ext.ext ?_ _ | refine Ext.drew ?_ | refine Ext.drewN ?_ _))⟩
  rw [e2] at a2
  have hq := inB_iff.1 e2
  have w1 : IntKind.i64.wrap (q - 1) = q - 1 := IntWalk.i64_in _ (by omega)
  have a3 := hid (fun w => spec_l1In p 0 (q - 1) w)
  cases e3 : inB p 0 (q - 1)
  · have f : okF ⟨n, p, q, d⟩ = false := by simp only [okF, e1, e2, e3, Bool.false_and, Bool.and_false]
    rw [f]
    rw [e3] at a3
    clear f e1 e2 e3 a4
    go_enter Tryz.func37, Tryz.ntmps37
    go_wp2_with (first | (go_at_call 20; refine (a1.out _).mono ?_; rintro e w' ⟨rfl, rfl⟩) | ((go_at_call 22); first | ((with_reducible refine (a2.out _).mono ?_); rintro e w' ⟨rfl, rfl⟩) | ((with_reducible refine (a3.out _).mono ?_); rintro e w' ⟨rfl, rfl⟩)))
    go_ret
    exact ⟨rfl, (by repeat' (first | exact Ext.refl _ | assumption | refine Ext.alloc ?_ _ | refine Ext.ext ?_ _ | refine Ext.drew ?_ | refine Ext.drewN ?_ _))⟩
  have f : okF ⟨n, p, q, d⟩ = itm 8 d := by simp only [okF, e1, e2, e3, Bool.true_and]
  rw [f]
  rw [e3] at a3
  clear f e1 e2 e3
  generalize itm 8 d = I at *
  go_enter Tryz.func37, Tryz.ntmps37
  go_wp2_with (first | (go_at_call 20; refine (a1.out _).mono ?_; rintro e w' ⟨rfl, rfl⟩) | (go_at_call 21; refine (a4.out _).mono ?_; rintro e w' ⟨rfl, z1, rfl⟩) | ((go_at_call 22); first | ((with_reducible refine (a2.out _).mono ?_); rintro e w' ⟨rfl, rfl⟩) | ((with_reducible refine (a3.out _).mono ?_); rintro e w' ⟨rfl, rfl⟩)))
  go_ret
  exact ⟨rfl, (by repeat' (first | exact Ext.refl _ | assumption | refine Ext.alloc ?_ _ | refine Ext.ext ?_ _ | refine Ext.drew ?_ | refine Ext.drewN ?_ _))⟩
end Go.Proofs.YtnngklclehffhaaGreatDoor
