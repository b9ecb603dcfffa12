/- Valid packets: both sides. -/
import Derived.Test.YtljknhocfjpolaaGreatDoorJ6
import Derived.Test.YtljknhocfjpolaaGreatDoorKWFCaptured
namespace Go.Proofs.YtljknhocfjpolaaGreatDoor
open Go.RowKit
set_option maxHeartbeats 400000
set_option maxRecDepth 100000
theorem srl_bd {x : Int} (h : srl x = true) : 0 ≤ x ∧ x ≤ 65535 := inB_iff.1 h
theorem ba_nil {s : ByteArray} (h : s.data.toList.isEmpty = true) : s = ⟨#[]⟩ := by
  cases s
  simp at h
  simp [h]
theorem impl_IsValidPacket (c m r l : Int) (d : ByteArray) (w : World) (h : d.size ≤ 1048576) :
    Calls Tryz.prog 54 #[.agg #[.int .i64 c, .int .i64 m, .int .i64 r, .int .i64 l, .string d]] w fun e w' => e = .returned (.bool (okPk c m r l d)) ∧ Ext w w' := by
  have a_K := hid (fun w => impl_within c 1 5 w)
  have a_M := hid (fun w => impl_IsSerial m w)
  have a_R := hid (fun w => impl_IsSerial r w)
  have a_L := hid (fun w => impl_IsSerial l w)
  have a_I := hid (fun w => impl_isItem d w h)
  cases e_K : inB c 1 5
  · have f : okPk c m r l d = false := by simp only [okPk, e_K, Bool.false_and]
    rw [f]
    rw [e_K] at a_K
    clear f
    go_enter Tryz.func54, Tryz.ntmps54
    repeat (first | (go_wp2_with (first | (go_at_call 60; (first | ((with_reducible refine (a_K.out _).mono ?_); rintro e w' ⟨rfl, rfl⟩)))); refine wp_region_ext (by kernel_rfl) (by kernel_rfl) ?_; (repeat (go_big_quiet_step (first | (go_at_call 60; (first | (with_reducible exact Calls.quiet_same (a_K.out _))))))); refine wpQuiet_nil ?_; rintro _ ⟨zq, rfl⟩))
    go_wp2_with (first | (go_at_call 60; (first | ((with_reducible refine (a_K.out _).mono ?_); rintro e w' ⟨rfl, rfl⟩))))
    go_ret
    exact ⟨rfl, (by repeat' (first | exact Ext.refl _ | assumption | refine Ext.alloc ?_ _ | refine Ext.ext ?_ _ | refine Ext.drew ?_ | refine Ext.drewN ?_ _))⟩
  rw [e_K] at a_K
  cases e_M : srl m
  · have f : okPk c m r l d = false := by simp only [okPk, e_K, e_M, Bool.false_and, Bool.and_false]
    rw [f]
    rw [e_M] at a_M
    clear f
    go_enter Tryz.func54, Tryz.ntmps54
    repeat (first | (go_wp2_with (first | (go_at_call 60; (first | ((with_reducible refine (a_K.out _).mono ?_); rintro e w' ⟨rfl, rfl⟩))) | (go_at_call 73; (first | ((with_reducible refine (a_M.out _).mono ?_); rintro e w' ⟨rfl, rfl⟩)))); refine wp_region_ext (by kernel_rfl) (by kernel_rfl) ?_; (repeat (go_big_quiet_step (first | (go_at_call 60; (first | (with_reducible exact Calls.quiet_same (a_K.out _)))) | (go_at_call 73; (first | (with_reducible exact Calls.quiet_same (a_M.out _))))))); refine wpQuiet_nil ?_; rintro _ ⟨zq, rfl⟩))
    go_wp2_with (first | (go_at_call 60; (first | ((with_reducible refine (a_K.out _).mono ?_); rintro e w' ⟨rfl, rfl⟩))) | (go_at_call 73; (first | ((with_reducible refine (a_M.out _).mono ?_); rintro e w' ⟨rfl, rfl⟩))))
    go_ret
    exact ⟨rfl, (by repeat' (first | exact Ext.refl _ | assumption | refine Ext.alloc ?_ _ | refine Ext.ext ?_ _ | refine Ext.drew ?_ | refine Ext.drewN ?_ _))⟩
  rw [e_M] at a_M
  cases e_R : srl r
  · have f : okPk c m r l d = false := by simp only [okPk, e_K, e_M, e_R, Bool.false_and, Bool.and_false]
    rw [f]
    rw [e_R] at a_R
    clear f
    go_enter Tryz.func54, Tryz.ntmps54
    repeat (first | (go_wp2_with (first | (go_at_call 60; (first | ((with_reducible refine (a_K.out _).mono ?_); rintro e w' ⟨rfl, rfl⟩))) | (go_at_call 73; (first | ((with_reducible refine (a_M.out _).mono ?_); rintro e w' ⟨rfl, rfl⟩) | ((with_reducible refine (a_R.out _).mono ?_); rintro e w' ⟨rfl, rfl⟩)))); refine wp_region_ext (by kernel_rfl) (by kernel_rfl) ?_; (repeat (go_big_quiet_step (first | (go_at_call 60; (first | (with_reducible exact Calls.quiet_same (a_K.out _)))) | (go_at_call 73; (first | (with_reducible exact Calls.quiet_same (a_M.out _)) | (with_reducible exact Calls.quiet_same (a_R.out _))))))); refine wpQuiet_nil ?_; rintro _ ⟨zq, rfl⟩))
    go_wp2_with (first | (go_at_call 60; (first | ((with_reducible refine (a_K.out _).mono ?_); rintro e w' ⟨rfl, rfl⟩))) | (go_at_call 73; (first | ((with_reducible refine (a_M.out _).mono ?_); rintro e w' ⟨rfl, rfl⟩) | ((with_reducible refine (a_R.out _).mono ?_); rintro e w' ⟨rfl, rfl⟩))))
    go_ret
    exact ⟨rfl, (by repeat' (first | exact Ext.refl _ | assumption | refine Ext.alloc ?_ _ | refine Ext.ext ?_ _ | refine Ext.drew ?_ | refine Ext.drewN ?_ _))⟩
  rw [e_R] at a_R
  cases e_L : srl l
  · have f : okPk c m r l d = false := by simp only [okPk, e_K, e_M, e_R, e_L, Bool.false_and, Bool.and_false]
    rw [f]
    rw [e_L] at a_L
    clear f
    go_enter Tryz.func54, Tryz.ntmps54
    repeat (first | (go_wp2_with (first | (go_at_call 60; (first | ((with_reducible refine (a_K.out _).mono ?_); rintro e w' ⟨rfl, rfl⟩))) | (go_at_call 73; (first | ((with_reducible refine (a_M.out _).mono ?_); rintro e w' ⟨rfl, rfl⟩) | ((with_reducible refine (a_R.out _).mono ?_); rintro e w' ⟨rfl, rfl⟩) | ((with_reducible refine (a_L.out _).mono ?_); rintro e w' ⟨rfl, rfl⟩)))); refine wp_region_ext (by kernel_rfl) (by kernel_rfl) ?_; (repeat (go_big_quiet_step (first | (go_at_call 60; (first | (with_reducible exact Calls.quiet_same (a_K.out _)))) | (go_at_call 73; (first | (with_reducible exact Calls.quiet_same (a_M.out _)) | (with_reducible exact Calls.quiet_same (a_R.out _)) | (with_reducible exact Calls.quiet_same (a_L.out _))))))); refine wpQuiet_nil ?_; rintro _ ⟨zq, rfl⟩))
    go_wp2_with (first | (go_at_call 60; (first | ((with_reducible refine (a_K.out _).mono ?_); rintro e w' ⟨rfl, rfl⟩))) | (go_at_call 73; (first | ((with_reducible refine (a_M.out _).mono ?_); rintro e w' ⟨rfl, rfl⟩) | ((with_reducible refine (a_R.out _).mono ?_); rintro e w' ⟨rfl, rfl⟩) | ((with_reducible refine (a_L.out _).mono ?_); rintro e w' ⟨rfl, rfl⟩))))
    go_ret
    exact ⟨rfl, (by repeat' (first | exact Ext.refl _ | assumption | refine Ext.alloc ?_ _ | refine Ext.ext ?_ _ | refine Ext.drew ?_ | refine Ext.drewN ?_ _))⟩
  rw [e_L] at a_L
  cases e_I : itm 8 d
  · have f : okPk c m r l d = false := by simp only [okPk, e_K, e_M, e_R, e_L, e_I, Bool.false_and, Bool.and_false]
    rw [f]
    rw [e_I] at a_I
    clear f
    go_enter Tryz.func54, Tryz.ntmps54
    repeat (first | (go_wp2_with (first | (go_at_call 60; (first | ((with_reducible refine (a_K.out _).mono ?_); rintro e w' ⟨rfl, rfl⟩))) | (go_at_call 73; (first | ((with_reducible refine (a_M.out _).mono ?_); rintro e w' ⟨rfl, rfl⟩) | ((with_reducible refine (a_R.out _).mono ?_); rintro e w' ⟨rfl, rfl⟩) | ((with_reducible refine (a_L.out _).mono ?_); rintro e w' ⟨rfl, rfl⟩))) | (go_at_call 94; (first | ((with_reducible refine (a_I.out _).mono ?_); rintro e w' ⟨rfl, z1, rfl⟩)))); refine wp_region_ext (by kernel_rfl) (by kernel_rfl) ?_; (repeat (go_big_quiet_step (first | (go_at_call 60; (first | (with_reducible exact Calls.quiet_same (a_K.out _)))) | (go_at_call 73; (first | (with_reducible exact Calls.quiet_same (a_M.out _)) | (with_reducible exact Calls.quiet_same (a_R.out _)) | (with_reducible exact Calls.quiet_same (a_L.out _)))) | (go_at_call 94; (first | (with_reducible exact Calls.quiet_ext (a_I.out _))))))); refine wpQuiet_nil ?_; rintro _ ⟨zq, rfl⟩))
    go_wp2_with (first | (go_at_call 60; (first | ((with_reducible refine (a_K.out _).mono ?_); rintro e w' ⟨rfl, rfl⟩))) | (go_at_call 73; (first | ((with_reducible refine (a_M.out _).mono ?_); rintro e w' ⟨rfl, rfl⟩) | ((with_reducible refine (a_R.out _).mono ?_); rintro e w' ⟨rfl, rfl⟩) | ((with_reducible refine (a_L.out _).mono ?_); rintro e w' ⟨rfl, rfl⟩))) | (go_at_call 94; (first | ((with_reducible refine (a_I.out _).mono ?_); rintro e w' ⟨rfl, z1, rfl⟩))))
    go_ret
    exact ⟨rfl, (by repeat' (first | exact Ext.refl _ | assumption | refine Ext.alloc ?_ _ | refine Ext.ext ?_ _ | refine Ext.drew ?_ | refine Ext.drewN ?_ _))⟩
  rw [e_I] at a_I
  obtain ⟨r0, r1⟩ := srl_bd e_R
  obtain ⟨l0, l1⟩ := srl_bd e_L
  have a_G := hid (fun w => impl_gap r l w r0 r1 l0 l1)
  by_cases hG : gapI r l ≤ 32767
  · have e_G : decide (gapI r l ≤ 32767) = true := decide_eq_true hG
    have tg : decide (32767 < gapI r l) = false := by simp; omega
    have f : okPk c m r l d = (d.data.toList.isEmpty || (c == 1 || c == 2)) := by simp only [okPk, e_K, e_M, e_R, e_L, e_I, e_G, Bool.true_and]
    rw [f]
    clear f hG
    generalize gapI r l = gg at *
    cases he : d.data.toList.isEmpty
    · have t0 : d.toList.isEmpty = false := by rw [Lib.toList_data]; exact he
      have t1 : (!d.toList.isEmpty) = true := by rw [t0]; rfl
      by_cases h1 : c = 1
      · subst h1
        go_enter Tryz.func54, Tryz.ntmps54
        repeat (first | (go_wp2_with (first | (go_at_call 60; (first | ((with_reducible refine (a_K.out _).mono ?_); rintro e w' ⟨rfl, rfl⟩))) | (go_at_call 73; (first | ((with_reducible refine (a_M.out _).mono ?_); rintro e w' ⟨rfl, rfl⟩) | ((with_reducible refine (a_R.out _).mono ?_); rintro e w' ⟨rfl, rfl⟩) | ((with_reducible refine (a_L.out _).mono ?_); rintro e w' ⟨rfl, rfl⟩))) | (go_at_call 94; (first | ((with_reducible refine (a_I.out _).mono ?_); rintro e w' ⟨rfl, z1, rfl⟩))) | (go_at_call 95; (first | ((with_reducible refine (a_G.out _).mono ?_); rintro e w' ⟨rfl, rfl⟩)))); refine wp_region_ext (by kernel_rfl) (by kernel_rfl) ?_; (repeat (go_big_quiet_step (first | (go_at_call 60; (first | (with_reducible exact Calls.quiet_same (a_K.out _)))) | (go_at_call 73; (first | (with_reducible exact Calls.quiet_same (a_M.out _)) | (with_reducible exact Calls.quiet_same (a_R.out _)) | (with_reducible exact Calls.quiet_same (a_L.out _)))) | (go_at_call 94; (first | (with_reducible exact Calls.quiet_ext (a_I.out _)))) | (go_at_call 95; (first | (with_reducible exact Calls.quiet_same (a_G.out _))))))); refine wpQuiet_nil ?_; rintro _ ⟨zq, rfl⟩))
        go_wp2_with (first | (go_at_call 60; (first | ((with_reducible refine (a_K.out _).mono ?_); rintro e w' ⟨rfl, rfl⟩))) | (go_at_call 73; (first | ((with_reducible refine (a_M.out _).mono ?_); rintro e w' ⟨rfl, rfl⟩) | ((with_reducible refine (a_R.out _).mono ?_); rintro e w' ⟨rfl, rfl⟩) | ((with_reducible refine (a_L.out _).mono ?_); rintro e w' ⟨rfl, rfl⟩))) | (go_at_call 94; (first | ((with_reducible refine (a_I.out _).mono ?_); rintro e w' ⟨rfl, z1, rfl⟩))) | (go_at_call 95; (first | ((with_reducible refine (a_G.out _).mono ?_); rintro e w' ⟨rfl, rfl⟩))))
        go_ret
        exact ⟨rfl, (by repeat' (first | exact Ext.refl _ | assumption | refine Ext.alloc ?_ _ | refine Ext.ext ?_ _ | refine Ext.drew ?_ | refine Ext.drewN ?_ _))⟩
      · have t2 : (c == 1) = false := by simp [h1]
        by_cases h22 : c = 2
        · subst h22
          go_enter Tryz.func54, Tryz.ntmps54
          repeat (first | (go_wp2_with (first | (go_at_call 60; (first | ((with_reducible refine (a_K.out _).mono ?_); rintro e w' ⟨rfl, rfl⟩))) | (go_at_call 73; (first | ((with_reducible refine (a_M.out _).mono ?_); rintro e w' ⟨rfl, rfl⟩) | ((with_reducible refine (a_R.out _).mono ?_); rintro e w' ⟨rfl, rfl⟩) | ((with_reducible refine (a_L.out _).mono ?_); rintro e w' ⟨rfl, rfl⟩))) | (go_at_call 94; (first | ((with_reducible refine (a_I.out _).mono ?_); rintro e w' ⟨rfl, z1, rfl⟩))) | (go_at_call 95; (first | ((with_reducible refine (a_G.out _).mono ?_); rintro e w' ⟨rfl, rfl⟩)))); refine wp_region_ext (by kernel_rfl) (by kernel_rfl) ?_; (repeat (go_big_quiet_step (first | (go_at_call 60; (first | (with_reducible exact Calls.quiet_same (a_K.out _)))) | (go_at_call 73; (first | (with_reducible exact Calls.quiet_same (a_M.out _)) | (with_reducible exact Calls.quiet_same (a_R.out _)) | (with_reducible exact Calls.quiet_same (a_L.out _)))) | (go_at_call 94; (first | (with_reducible exact Calls.quiet_ext (a_I.out _)))) | (go_at_call 95; (first | (with_reducible exact Calls.quiet_same (a_G.out _))))))); refine wpQuiet_nil ?_; rintro _ ⟨zq, rfl⟩))
          go_wp2_with (first | (go_at_call 60; (first | ((with_reducible refine (a_K.out _).mono ?_); rintro e w' ⟨rfl, rfl⟩))) | (go_at_call 73; (first | ((with_reducible refine (a_M.out _).mono ?_); rintro e w' ⟨rfl, rfl⟩) | ((with_reducible refine (a_R.out _).mono ?_); rintro e w' ⟨rfl, rfl⟩) | ((with_reducible refine (a_L.out _).mono ?_); rintro e w' ⟨rfl, rfl⟩))) | (go_at_call 94; (first | ((with_reducible refine (a_I.out _).mono ?_); rintro e w' ⟨rfl, z1, rfl⟩))) | (go_at_call 95; (first | ((with_reducible refine (a_G.out _).mono ?_); rintro e w' ⟨rfl, rfl⟩))))
          go_ret
          exact ⟨rfl, (by repeat' (first | exact Ext.refl _ | assumption | refine Ext.alloc ?_ _ | refine Ext.ext ?_ _ | refine Ext.drew ?_ | refine Ext.drewN ?_ _))⟩
        · have t3 : (c == 2) = false := by simp [h22]
          clear h1 h22
          go_enter Tryz.func54, Tryz.ntmps54
          repeat (first | (go_wp2_with (first | (go_at_call 60; (first | ((with_reducible refine (a_K.out _).mono ?_); rintro e w' ⟨rfl, rfl⟩))) | (go_at_call 73; (first | ((with_reducible refine (a_M.out _).mono ?_); rintro e w' ⟨rfl, rfl⟩) | ((with_reducible refine (a_R.out _).mono ?_); rintro e w' ⟨rfl, rfl⟩) | ((with_reducible refine (a_L.out _).mono ?_); rintro e w' ⟨rfl, rfl⟩))) | (go_at_call 94; (first | ((with_reducible refine (a_I.out _).mono ?_); rintro e w' ⟨rfl, z1, rfl⟩))) | (go_at_call 95; (first | ((with_reducible refine (a_G.out _).mono ?_); rintro e w' ⟨rfl, rfl⟩)))); refine wp_region_ext (by kernel_rfl) (by kernel_rfl) ?_; (repeat (go_big_quiet_step (first | (go_at_call 60; (first | (with_reducible exact Calls.quiet_same (a_K.out _)))) | (go_at_call 73; (first | (with_reducible exact Calls.quiet_same (a_M.out _)) | (with_reducible exact Calls.quiet_same (a_R.out _)) | (with_reducible exact Calls.quiet_same (a_L.out _)))) | (go_at_call 94; (first | (with_reducible exact Calls.quiet_ext (a_I.out _)))) | (go_at_call 95; (first | (with_reducible exact Calls.quiet_same (a_G.out _))))))); refine wpQuiet_nil ?_; rintro _ ⟨zq, rfl⟩))
          go_wp2_with (first | (go_at_call 60; (first | ((with_reducible refine (a_K.out _).mono ?_); rintro e w' ⟨rfl, rfl⟩))) | (go_at_call 73; (first | ((with_reducible refine (a_M.out _).mono ?_); rintro e w' ⟨rfl, rfl⟩) | ((with_reducible refine (a_R.out _).mono ?_); rintro e w' ⟨rfl, rfl⟩) | ((with_reducible refine (a_L.out _).mono ?_); rintro e w' ⟨rfl, rfl⟩))) | (go_at_call 94; (first | ((with_reducible refine (a_I.out _).mono ?_); rintro e w' ⟨rfl, z1, rfl⟩))) | (go_at_call 95; (first | ((with_reducible refine (a_G.out _).mono ?_); rintro e w' ⟨rfl, rfl⟩))))
          go_ret
          exact ⟨by rw [t2, t3]; rfl, (by repeat' (first | exact Ext.refl _ | assumption | refine Ext.alloc ?_ _ | refine Ext.ext ?_ _ | refine Ext.drew ?_ | refine Ext.drewN ?_ _))⟩
    · obtain rfl := ba_nil he
      clear he
      go_enter Tryz.func54, Tryz.ntmps54
      repeat (first | (go_wp2_with (first | (go_at_call 60; (first | ((with_reducible refine (a_K.out _).mono ?_); rintro e w' ⟨rfl, rfl⟩))) | (go_at_call 73; (first | ((with_reducible refine (a_M.out _).mono ?_); rintro e w' ⟨rfl, rfl⟩) | ((with_reducible refine (a_R.out _).mono ?_); rintro e w' ⟨rfl, rfl⟩) | ((with_reducible refine (a_L.out _).mono ?_); rintro e w' ⟨rfl, rfl⟩))) | (go_at_call 94; (first | ((with_reducible refine (a_I.out _).mono ?_); rintro e w' ⟨rfl, z1, rfl⟩))) | (go_at_call 95; (first | ((with_reducible refine (a_G.out _).mono ?_); rintro e w' ⟨rfl, rfl⟩)))); refine wp_region_ext (by kernel_rfl) (by kernel_rfl) ?_; (repeat (go_big_quiet_step (first | (go_at_call 60; (first | (with_reducible exact Calls.quiet_same (a_K.out _)))) | (go_at_call 73; (first | (with_reducible exact Calls.quiet_same (a_M.out _)) | (with_reducible exact Calls.quiet_same (a_R.out _)) | (with_reducible exact Calls.quiet_same (a_L.out _)))) | (go_at_call 94; (first | (with_reducible exact Calls.quiet_ext (a_I.out _)))) | (go_at_call 95; (first | (with_reducible exact Calls.quiet_same (a_G.out _))))))); refine wpQuiet_nil ?_; rintro _ ⟨zq, rfl⟩))
      go_wp2_with (first | (go_at_call 60; (first | ((with_reducible refine (a_K.out _).mono ?_); rintro e w' ⟨rfl, rfl⟩))) | (go_at_call 73; (first | ((with_reducible refine (a_M.out _).mono ?_); rintro e w' ⟨rfl, rfl⟩) | ((with_reducible refine (a_R.out _).mono ?_); rintro e w' ⟨rfl, rfl⟩) | ((with_reducible refine (a_L.out _).mono ?_); rintro e w' ⟨rfl, rfl⟩))) | (go_at_call 94; (first | ((with_reducible refine (a_I.out _).mono ?_); rintro e w' ⟨rfl, z1, rfl⟩))) | (go_at_call 95; (first | ((with_reducible refine (a_G.out _).mono ?_); rintro e w' ⟨rfl, rfl⟩))))
      go_ret
      exact ⟨rfl, (by repeat' (first | exact Ext.refl _ | assumption | refine Ext.alloc ?_ _ | refine Ext.ext ?_ _ | refine Ext.drew ?_ | refine Ext.drewN ?_ _))⟩
  · have e_G : decide (gapI r l ≤ 32767) = false := decide_eq_false hG
    have tg : decide (32767 < gapI r l) = true := by simp; omega
    have f : okPk c m r l d = false := by simp only [okPk, e_G, Bool.false_and, Bool.and_false]
    rw [f]
    generalize gapI r l = gg at *
    clear f hG
    go_enter Tryz.func54, Tryz.ntmps54
    repeat (first | (go_wp2_with (first | (go_at_call 60; (first | ((with_reducible refine (a_K.out _).mono ?_); rintro e w' ⟨rfl, rfl⟩))) | (go_at_call 73; (first | ((with_reducible refine (a_M.out _).mono ?_); rintro e w' ⟨rfl, rfl⟩) | ((with_reducible refine (a_R.out _).mono ?_); rintro e w' ⟨rfl, rfl⟩) | ((with_reducible refine (a_L.out _).mono ?_); rintro e w' ⟨rfl, rfl⟩))) | (go_at_call 94; (first | ((with_reducible refine (a_I.out _).mono ?_); rintro e w' ⟨rfl, z1, rfl⟩))) | (go_at_call 95; (first | ((with_reducible refine (a_G.out _).mono ?_); rintro e w' ⟨rfl, rfl⟩)))); refine wp_region_ext (by kernel_rfl) (by kernel_rfl) ?_; (repeat (go_big_quiet_step (first | (go_at_call 60; (first | (with_reducible exact Calls.quiet_same (a_K.out _)))) | (go_at_call 73; (first | (with_reducible exact Calls.quiet_same (a_M.out _)) | (with_reducible exact Calls.quiet_same (a_R.out _)) | (with_reducible exact Calls.quiet_same (a_L.out _)))) | (go_at_call 94; (first | (with_reducible exact Calls.quiet_ext (a_I.out _)))) | (go_at_call 95; (first | (with_reducible exact Calls.quiet_same (a_G.out _))))))); refine wpQuiet_nil ?_; rintro _ ⟨zq, rfl⟩))
    go_wp2_with (first | (go_at_call 60; (first | ((with_reducible refine (a_K.out _).mono ?_); rintro e w' ⟨rfl, rfl⟩))) | (go_at_call 73; (first | ((with_reducible refine (a_M.out _).mono ?_); rintro e w' ⟨rfl, rfl⟩) | ((with_reducible refine (a_R.out _).mono ?_); rintro e w' ⟨rfl, rfl⟩) | ((with_reducible refine (a_L.out _).mono ?_); rintro e w' ⟨rfl, rfl⟩))) | (go_at_call 94; (first | ((with_reducible refine (a_I.out _).mono ?_); rintro e w' ⟨rfl, z1, rfl⟩))) | (go_at_call 95; (first | ((with_reducible refine (a_G.out _).mono ?_); rintro e w' ⟨rfl, rfl⟩))))
    go_ret
    exact ⟨rfl, (by repeat' (first | exact Ext.refl _ | assumption | refine Ext.alloc ?_ _ | refine Ext.ext ?_ _ | refine Ext.drew ?_ | refine Ext.drewN ?_ _))⟩
theorem spec_l4Good (c m r l : Int) (d : ByteArray) (w : World) (h : d.size ≤ 1048576) :
    Calls Tryz.prog 113 #[.agg #[.int .i64 c, .int .i64 m, .int .i64 r, .int .i64 l, .string d]] w fun e w' => e = .returned (.bool (okPk c m r l d)) ∧ Ext w w' := by
  have a_K := hid (fun w => spec_l1In c 1 5 w)
  have a_M := hid (fun w => spec_l2Good m w)
  have a_R := hid (fun w => spec_l2Good r w)
  have a_L := hid (fun w => spec_l2Good l w)
  cases e_K : inB c 1 5
  · have f : okPk c m r l d = false := by simp only [okPk, e_K, Bool.false_and]
    rw [f]
    rw [e_K] at a_K
    clear f
    go_enter Tryz.func113, Tryz.ntmps113
    repeat (first | (go_wp2_with (first | (go_at_call 63; (first | ((with_reducible refine (a_K.out _).mono ?_); rintro e w' ⟨rfl, rfl⟩)))); refine wp_region_ext (by kernel_rfl) (by kernel_rfl) ?_; (repeat (go_big_quiet_step (first | (go_at_call 63; (first | (with_reducible exact Calls.quiet_same (a_K.out _))))))); refine wpQuiet_nil ?_; rintro _ ⟨zq, rfl⟩))
    go_wp2_with (first | (go_at_call 63; (first | ((with_reducible refine (a_K.out _).mono ?_); rintro e w' ⟨rfl, rfl⟩))))
    go_ret
    exact ⟨rfl, (by repeat' (first | exact Ext.refl _ | assumption | refine Ext.alloc ?_ _ | refine Ext.ext ?_ _ | refine Ext.drew ?_ | refine Ext.drewN ?_ _))⟩
  rw [e_K] at a_K
  cases e_M : srl m
  · have f : okPk c m r l d = false := by simp only [okPk, e_K, e_M, Bool.false_and, Bool.and_false]
    rw [f]
    rw [e_M] at a_M
    clear f
    go_enter Tryz.func113, Tryz.ntmps113
    repeat (first | (go_wp2_with (first | (go_at_call 63; (first | ((with_reducible refine (a_K.out _).mono ?_); rintro e w' ⟨rfl, rfl⟩))) | (go_at_call 77; (first | ((with_reducible refine (a_M.out _).mono ?_); rintro e w' ⟨rfl, rfl⟩)))); refine wp_region_ext (by kernel_rfl) (by kernel_rfl) ?_; (repeat (go_big_quiet_step (first | (go_at_call 63; (first | (with_reducible exact Calls.quiet_same (a_K.out _)))) | (go_at_call 77; (first | (with_reducible exact Calls.quiet_same (a_M.out _))))))); refine wpQuiet_nil ?_; rintro _ ⟨zq, rfl⟩))
    go_wp2_with (first | (go_at_call 63; (first | ((with_reducible refine (a_K.out _).mono ?_); rintro e w' ⟨rfl, rfl⟩))) | (go_at_call 77; (first | ((with_reducible refine (a_M.out _).mono ?_); rintro e w' ⟨rfl, rfl⟩))))
    go_ret
    exact ⟨rfl, (by repeat' (first | exact Ext.refl _ | assumption | refine Ext.alloc ?_ _ | refine Ext.ext ?_ _ | refine Ext.drew ?_ | refine Ext.drewN ?_ _))⟩
  rw [e_M] at a_M
  cases e_R : srl r
  · have f : okPk c m r l d = false := by simp only [okPk, e_K, e_M, e_R, Bool.false_and, Bool.and_false]
    rw [f]
    rw [e_R] at a_R
    clear f
    go_enter Tryz.func113, Tryz.ntmps113
    repeat (first | (go_wp2_with (first | (go_at_call 63; (first | ((with_reducible refine (a_K.out _).mono ?_); rintro e w' ⟨rfl, rfl⟩))) | (go_at_call 77; (first | ((with_reducible refine (a_M.out _).mono ?_); rintro e w' ⟨rfl, rfl⟩) | ((with_reducible refine (a_R.out _).mono ?_); rintro e w' ⟨rfl, rfl⟩)))); refine wp_region_ext (by kernel_rfl) (by kernel_rfl) ?_; (repeat (go_big_quiet_step (first | (go_at_call 63; (first | (with_reducible exact Calls.quiet_same (a_K.out _)))) | (go_at_call 77; (first | (with_reducible exact Calls.quiet_same (a_M.out _)) | (with_reducible exact Calls.quiet_same (a_R.out _))))))); refine wpQuiet_nil ?_; rintro _ ⟨zq, rfl⟩))
    go_wp2_with (first | (go_at_call 63; (first | ((with_reducible refine (a_K.out _).mono ?_); rintro e w' ⟨rfl, rfl⟩))) | (go_at_call 77; (first | ((with_reducible refine (a_M.out _).mono ?_); rintro e w' ⟨rfl, rfl⟩) | ((with_reducible refine (a_R.out _).mono ?_); rintro e w' ⟨rfl, rfl⟩))))
    go_ret
    exact ⟨rfl, (by repeat' (first | exact Ext.refl _ | assumption | refine Ext.alloc ?_ _ | refine Ext.ext ?_ _ | refine Ext.drew ?_ | refine Ext.drewN ?_ _))⟩
  rw [e_R] at a_R
  cases e_L : srl l
  · have f : okPk c m r l d = false := by simp only [okPk, e_K, e_M, e_R, e_L, Bool.false_and, Bool.and_false]
    rw [f]
    rw [e_L] at a_L
    clear f
    go_enter Tryz.func113, Tryz.ntmps113
    repeat (first | (go_wp2_with (first | (go_at_call 63; (first | ((with_reducible refine (a_K.out _).mono ?_); rintro e w' ⟨rfl, rfl⟩))) | (go_at_call 77; (first | ((with_reducible refine (a_M.out _).mono ?_); rintro e w' ⟨rfl, rfl⟩) | ((with_reducible refine (a_R.out _).mono ?_); rintro e w' ⟨rfl, rfl⟩) | ((with_reducible refine (a_L.out _).mono ?_); rintro e w' ⟨rfl, rfl⟩)))); refine wp_region_ext (by kernel_rfl) (by kernel_rfl) ?_; (repeat (go_big_quiet_step (first | (go_at_call 63; (first | (with_reducible exact Calls.quiet_same (a_K.out _)))) | (go_at_call 77; (first | (with_reducible exact Calls.quiet_same (a_M.out _)) | (with_reducible exact Calls.quiet_same (a_R.out _)) | (with_reducible exact Calls.quiet_same (a_L.out _))))))); refine wpQuiet_nil ?_; rintro _ ⟨zq, rfl⟩))
    go_wp2_with (first | (go_at_call 63; (first | ((with_reducible refine (a_K.out _).mono ?_); rintro e w' ⟨rfl, rfl⟩))) | (go_at_call 77; (first | ((with_reducible refine (a_M.out _).mono ?_); rintro e w' ⟨rfl, rfl⟩) | ((with_reducible refine (a_R.out _).mono ?_); rintro e w' ⟨rfl, rfl⟩) | ((with_reducible refine (a_L.out _).mono ?_); rintro e w' ⟨rfl, rfl⟩))))
    go_ret
    exact ⟨rfl, (by repeat' (first | exact Ext.refl _ | assumption | refine Ext.alloc ?_ _ | refine Ext.ext ?_ _ | refine Ext.drew ?_ | refine Ext.drewN ?_ _))⟩
  rw [e_L] at a_L
  obtain ⟨r0, r1⟩ := srl_bd e_R
  obtain ⟨l0, l1⟩ := srl_bd e_L
  have a_G := hid (fun w => spec_l2Gap r l w r0 r1 l0 l1)
  by_cases hG : gapI r l ≤ 32767
  · have e_G : decide (gapI r l ≤ 32767) = true := decide_eq_true hG
    have tg : decide (32767 < gapI r l) = false := by simp; omega
    have a_I : Hid (∀ w, Calls Tryz.prog 134 #[.string d, .int .i64 8] w fun e w' => e = .returned (.bool (itm 8 d)) ∧ Ext w w') := fun w => spec_l4Letters d 8 w h (by decide)
    cases e_I : itm 8 d
    · have f : okPk c m r l d = false := by simp only [okPk, e_I, Bool.false_and, Bool.and_false]
      rw [f]
      rw [e_I] at a_I
      generalize gapI r l = gg at *
      clear f
      go_enter Tryz.func113, Tryz.ntmps113
      repeat (first | (go_wp2_with (first | (go_at_call 63; (first | ((with_reducible refine (a_K.out _).mono ?_); rintro e w' ⟨rfl, rfl⟩))) | (go_at_call 77; (first | ((with_reducible refine (a_M.out _).mono ?_); rintro e w' ⟨rfl, rfl⟩) | ((with_reducible refine (a_R.out _).mono ?_); rintro e w' ⟨rfl, rfl⟩) | ((with_reducible refine (a_L.out _).mono ?_); rintro e w' ⟨rfl, rfl⟩))) | (go_at_call 133; (first | ((with_reducible refine (a_G.out _).mono ?_); rintro e w' ⟨rfl, rfl⟩))) | (go_at_call 134; (first | ((with_reducible refine (a_I.out _).mono ?_); rintro e w' ⟨rfl, z1, rfl⟩)))); refine wp_region_ext (by kernel_rfl) (by kernel_rfl) ?_; (repeat (go_big_quiet_step (first | (go_at_call 63; (first | (with_reducible exact Calls.quiet_same (a_K.out _)))) | (go_at_call 77; (first | (with_reducible exact Calls.quiet_same (a_M.out _)) | (with_reducible exact Calls.quiet_same (a_R.out _)) | (with_reducible exact Calls.quiet_same (a_L.out _)))) | (go_at_call 133; (first | (with_reducible exact Calls.quiet_same (a_G.out _)))) | (go_at_call 134; (first | (with_reducible exact Calls.quiet_ext (a_I.out _))))))); refine wpQuiet_nil ?_; rintro _ ⟨zq, rfl⟩))
      go_wp2_with (first | (go_at_call 63; (first | ((with_reducible refine (a_K.out _).mono ?_); rintro e w' ⟨rfl, rfl⟩))) | (go_at_call 77; (first | ((with_reducible refine (a_M.out _).mono ?_); rintro e w' ⟨rfl, rfl⟩) | ((with_reducible refine (a_R.out _).mono ?_); rintro e w' ⟨rfl, rfl⟩) | ((with_reducible refine (a_L.out _).mono ?_); rintro e w' ⟨rfl, rfl⟩))) | (go_at_call 133; (first | ((with_reducible refine (a_G.out _).mono ?_); rintro e w' ⟨rfl, rfl⟩))) | (go_at_call 134; (first | ((with_reducible refine (a_I.out _).mono ?_); rintro e w' ⟨rfl, z1, rfl⟩))))
      go_ret
      exact ⟨rfl, (by repeat' (first | exact Ext.refl _ | assumption | refine Ext.alloc ?_ _ | refine Ext.ext ?_ _ | refine Ext.drew ?_ | refine Ext.drewN ?_ _))⟩
    rw [e_I] at a_I
    have f : okPk c m r l d = (d.data.toList.isEmpty || (c == 1 || c == 2)) := by simp only [okPk, e_K, e_M, e_R, e_L, e_I, e_G, Bool.true_and]
    rw [f]
    clear f hG
    generalize gapI r l = gg at *
    cases he : d.data.toList.isEmpty
    · have t0 : d.toList.isEmpty = false := by rw [Lib.toList_data]; exact he
      have t1 : (!d.toList.isEmpty) = true := by rw [t0]; rfl
      by_cases h1 : c = 1
      · subst h1
        go_enter Tryz.func113, Tryz.ntmps113
        repeat (first | (go_wp2_with (first | (go_at_call 63; (first | ((with_reducible refine (a_K.out _).mono ?_); rintro e w' ⟨rfl, rfl⟩))) | (go_at_call 77; (first | ((with_reducible refine (a_M.out _).mono ?_); rintro e w' ⟨rfl, rfl⟩) | ((with_reducible refine (a_R.out _).mono ?_); rintro e w' ⟨rfl, rfl⟩) | ((with_reducible refine (a_L.out _).mono ?_); rintro e w' ⟨rfl, rfl⟩))) | (go_at_call 133; (first | ((with_reducible refine (a_G.out _).mono ?_); rintro e w' ⟨rfl, rfl⟩))) | (go_at_call 134; (first | ((with_reducible refine (a_I.out _).mono ?_); rintro e w' ⟨rfl, z1, rfl⟩)))); refine wp_region_ext (by kernel_rfl) (by kernel_rfl) ?_; (repeat (go_big_quiet_step (first | (go_at_call 63; (first | (with_reducible exact Calls.quiet_same (a_K.out _)))) | (go_at_call 77; (first | (with_reducible exact Calls.quiet_same (a_M.out _)) | (with_reducible exact Calls.quiet_same (a_R.out _)) | (with_reducible exact Calls.quiet_same (a_L.out _)))) | (go_at_call 133; (first | (with_reducible exact Calls.quiet_same (a_G.out _)))) | (go_at_call 134; (first | (with_reducible exact Calls.quiet_ext (a_I.out _))))))); refine wpQuiet_nil ?_; rintro _ ⟨zq, rfl⟩))
        go_wp2_with (first | (go_at_call 63; (first | ((with_reducible refine (a_K.out _).mono ?_); rintro e w' ⟨rfl, rfl⟩))) | (go_at_call 77; (first | ((with_reducible refine (a_M.out _).mono ?_); rintro e w' ⟨rfl, rfl⟩) | ((with_reducible refine (a_R.out _).mono ?_); rintro e w' ⟨rfl, rfl⟩) | ((with_reducible refine (a_L.out _).mono ?_); rintro e w' ⟨rfl, rfl⟩))) | (go_at_call 133; (first | ((with_reducible refine (a_G.out _).mono ?_); rintro e w' ⟨rfl, rfl⟩))) | (go_at_call 134; (first | ((with_reducible refine (a_I.out _).mono ?_); rintro e w' ⟨rfl, z1, rfl⟩))))
        go_ret
        exact ⟨rfl, (by repeat' (first | exact Ext.refl _ | assumption | refine Ext.alloc ?_ _ | refine Ext.ext ?_ _ | refine Ext.drew ?_ | refine Ext.drewN ?_ _))⟩
      · have t2 : (c == 1) = false := by simp [h1]
        by_cases h22 : c = 2
        · subst h22
          go_enter Tryz.func113, Tryz.ntmps113
          repeat (first | (go_wp2_with (first | (go_at_call 63; (first | ((with_reducible refine (a_K.out _).mono ?_); rintro e w' ⟨rfl, rfl⟩))) | (go_at_call 77; (first | ((with_reducible refine (a_M.out _).mono ?_); rintro e w' ⟨rfl, rfl⟩) | ((with_reducible refine (a_R.out _).mono ?_); rintro e w' ⟨rfl, rfl⟩) | ((with_reducible refine (a_L.out _).mono ?_); rintro e w' ⟨rfl, rfl⟩))) | (go_at_call 133; (first | ((with_reducible refine (a_G.out _).mono ?_); rintro e w' ⟨rfl, rfl⟩))) | (go_at_call 134; (first | ((with_reducible refine (a_I.out _).mono ?_); rintro e w' ⟨rfl, z1, rfl⟩)))); refine wp_region_ext (by kernel_rfl) (by kernel_rfl) ?_; (repeat (go_big_quiet_step (first | (go_at_call 63; (first | (with_reducible exact Calls.quiet_same (a_K.out _)))) | (go_at_call 77; (first | (with_reducible exact Calls.quiet_same (a_M.out _)) | (with_reducible exact Calls.quiet_same (a_R.out _)) | (with_reducible exact Calls.quiet_same (a_L.out _)))) | (go_at_call 133; (first | (with_reducible exact Calls.quiet_same (a_G.out _)))) | (go_at_call 134; (first | (with_reducible exact Calls.quiet_ext (a_I.out _))))))); refine wpQuiet_nil ?_; rintro _ ⟨zq, rfl⟩))
          go_wp2_with (first | (go_at_call 63; (first | ((with_reducible refine (a_K.out _).mono ?_); rintro e w' ⟨rfl, rfl⟩))) | (go_at_call 77; (first | ((with_reducible refine (a_M.out _).mono ?_); rintro e w' ⟨rfl, rfl⟩) | ((with_reducible refine (a_R.out _).mono ?_); rintro e w' ⟨rfl, rfl⟩) | ((with_reducible refine (a_L.out _).mono ?_); rintro e w' ⟨rfl, rfl⟩))) | (go_at_call 133; (first | ((with_reducible refine (a_G.out _).mono ?_); rintro e w' ⟨rfl, rfl⟩))) | (go_at_call 134; (first | ((with_reducible refine (a_I.out _).mono ?_); rintro e w' ⟨rfl, z1, rfl⟩))))
          go_ret
          exact ⟨rfl, (by repeat' (first | exact Ext.refl _ | assumption | refine Ext.alloc ?_ _ | refine Ext.ext ?_ _ | refine Ext.drew ?_ | refine Ext.drewN ?_ _))⟩
        · have t3 : (c == 2) = false := by simp [h22]
          clear h1 h22
          go_enter Tryz.func113, Tryz.ntmps113
          repeat (first | (go_wp2_with (first | (go_at_call 63; (first | ((with_reducible refine (a_K.out _).mono ?_); rintro e w' ⟨rfl, rfl⟩))) | (go_at_call 77; (first | ((with_reducible refine (a_M.out _).mono ?_); rintro e w' ⟨rfl, rfl⟩) | ((with_reducible refine (a_R.out _).mono ?_); rintro e w' ⟨rfl, rfl⟩) | ((with_reducible refine (a_L.out _).mono ?_); rintro e w' ⟨rfl, rfl⟩))) | (go_at_call 133; (first | ((with_reducible refine (a_G.out _).mono ?_); rintro e w' ⟨rfl, rfl⟩))) | (go_at_call 134; (first | ((with_reducible refine (a_I.out _).mono ?_); rintro e w' ⟨rfl, z1, rfl⟩)))); refine wp_region_ext (by kernel_rfl) (by kernel_rfl) ?_; (repeat (go_big_quiet_step (first | (go_at_call 63; (first | (with_reducible exact Calls.quiet_same (a_K.out _)))) | (go_at_call 77; (first | (with_reducible exact Calls.quiet_same (a_M.out _)) | (with_reducible exact Calls.quiet_same (a_R.out _)) | (with_reducible exact Calls.quiet_same (a_L.out _)))) | (go_at_call 133; (first | (with_reducible exact Calls.quiet_same (a_G.out _)))) | (go_at_call 134; (first | (with_reducible exact Calls.quiet_ext (a_I.out _))))))); refine wpQuiet_nil ?_; rintro _ ⟨zq, rfl⟩))
          go_wp2_with (first | (go_at_call 63; (first | ((with_reducible refine (a_K.out _).mono ?_); rintro e w' ⟨rfl, rfl⟩))) | (go_at_call 77; (first | ((with_reducible refine (a_M.out _).mono ?_); rintro e w' ⟨rfl, rfl⟩) | ((with_reducible refine (a_R.out _).mono ?_); rintro e w' ⟨rfl, rfl⟩) | ((with_reducible refine (a_L.out _).mono ?_); rintro e w' ⟨rfl, rfl⟩))) | (go_at_call 133; (first | ((with_reducible refine (a_G.out _).mono ?_); rintro e w' ⟨rfl, rfl⟩))) | (go_at_call 134; (first | ((with_reducible refine (a_I.out _).mono ?_); rintro e w' ⟨rfl, z1, rfl⟩))))
          go_ret
          exact ⟨by rw [t2, t3]; rfl, (by repeat' (first | exact Ext.refl _ | assumption | refine Ext.alloc ?_ _ | refine Ext.ext ?_ _ | refine Ext.drew ?_ | refine Ext.drewN ?_ _))⟩
    · obtain rfl := ba_nil he
      clear he
      go_enter Tryz.func113, Tryz.ntmps113
      repeat (first | (go_wp2_with (first | (go_at_call 63; (first | ((with_reducible refine (a_K.out _).mono ?_); rintro e w' ⟨rfl, rfl⟩))) | (go_at_call 77; (first | ((with_reducible refine (a_M.out _).mono ?_); rintro e w' ⟨rfl, rfl⟩) | ((with_reducible refine (a_R.out _).mono ?_); rintro e w' ⟨rfl, rfl⟩) | ((with_reducible refine (a_L.out _).mono ?_); rintro e w' ⟨rfl, rfl⟩))) | (go_at_call 133; (first | ((with_reducible refine (a_G.out _).mono ?_); rintro e w' ⟨rfl, rfl⟩))) | (go_at_call 134; (first | ((with_reducible refine (a_I.out _).mono ?_); rintro e w' ⟨rfl, z1, rfl⟩)))); refine wp_region_ext (by kernel_rfl) (by kernel_rfl) ?_; (repeat (go_big_quiet_step (first | (go_at_call 63; (first | (with_reducible exact Calls.quiet_same (a_K.out _)))) | (go_at_call 77; (first | (with_reducible exact Calls.quiet_same (a_M.out _)) | (with_reducible exact Calls.quiet_same (a_R.out _)) | (with_reducible exact Calls.quiet_same (a_L.out _)))) | (go_at_call 133; (first | (with_reducible exact Calls.quiet_same (a_G.out _)))) | (go_at_call 134; (first | (with_reducible exact Calls.quiet_ext (a_I.out _))))))); refine wpQuiet_nil ?_; rintro _ ⟨zq, rfl⟩))
      go_wp2_with (first | (go_at_call 63; (first | ((with_reducible refine (a_K.out _).mono ?_); rintro e w' ⟨rfl, rfl⟩))) | (go_at_call 77; (first | ((with_reducible refine (a_M.out _).mono ?_); rintro e w' ⟨rfl, rfl⟩) | ((with_reducible refine (a_R.out _).mono ?_); rintro e w' ⟨rfl, rfl⟩) | ((with_reducible refine (a_L.out _).mono ?_); rintro e w' ⟨rfl, rfl⟩))) | (go_at_call 133; (first | ((with_reducible refine (a_G.out _).mono ?_); rintro e w' ⟨rfl, rfl⟩))) | (go_at_call 134; (first | ((with_reducible refine (a_I.out _).mono ?_); rintro e w' ⟨rfl, z1, rfl⟩))))
      go_ret
      exact ⟨rfl, (by repeat' (first | exact Ext.refl _ | assumption | refine Ext.alloc ?_ _ | refine Ext.ext ?_ _ | refine Ext.drew ?_ | refine Ext.drewN ?_ _))⟩
  · have e_G : decide (gapI r l ≤ 32767) = false := decide_eq_false hG
    have tg : decide (32767 < gapI r l) = true := by simp; omega
    have f : okPk c m r l d = false := by simp only [okPk, e_G, Bool.false_and, Bool.and_false]
    rw [f]
    generalize gapI r l = gg at *
    clear f hG
    go_enter Tryz.func113, Tryz.ntmps113
    repeat (first | (go_wp2_with (first | (go_at_call 63; (first | ((with_reducible refine (a_K.out _).mono ?_); rintro e w' ⟨rfl, rfl⟩))) | (go_at_call 77; (first | ((with_reducible refine (a_M.out _).mono ?_); rintro e w' ⟨rfl, rfl⟩) | ((with_reducible refine (a_R.out _).mono ?_); rintro e w' ⟨rfl, rfl⟩) | ((with_reducible refine (a_L.out _).mono ?_); rintro e w' ⟨rfl, rfl⟩))) | (go_at_call 133; (first | ((with_reducible refine (a_G.out _).mono ?_); rintro e w' ⟨rfl, rfl⟩)))); refine wp_region_ext (by kernel_rfl) (by kernel_rfl) ?_; (repeat (go_big_quiet_step (first | (go_at_call 63; (first | (with_reducible exact Calls.quiet_same (a_K.out _)))) | (go_at_call 77; (first | (with_reducible exact Calls.quiet_same (a_M.out _)) | (with_reducible exact Calls.quiet_same (a_R.out _)) | (with_reducible exact Calls.quiet_same (a_L.out _)))) | (go_at_call 133; (first | (with_reducible exact Calls.quiet_same (a_G.out _))))))); refine wpQuiet_nil ?_; rintro _ ⟨zq, rfl⟩))
    go_wp2_with (first | (go_at_call 63; (first | ((with_reducible refine (a_K.out _).mono ?_); rintro e w' ⟨rfl, rfl⟩))) | (go_at_call 77; (first | ((with_reducible refine (a_M.out _).mono ?_); rintro e w' ⟨rfl, rfl⟩) | ((with_reducible refine (a_R.out _).mono ?_); rintro e w' ⟨rfl, rfl⟩) | ((with_reducible refine (a_L.out _).mono ?_); rintro e w' ⟨rfl, rfl⟩))) | (go_at_call 133; (first | ((with_reducible refine (a_G.out _).mono ?_); rintro e w' ⟨rfl, rfl⟩))))
    go_ret
    exact ⟨rfl, (by repeat' (first | exact Ext.refl _ | assumption | refine Ext.alloc ?_ _ | refine Ext.ext ?_ _ | refine Ext.drew ?_ | refine Ext.drewN ?_ _))⟩
end Go.Proofs.YtljknhocfjpolaaGreatDoor
