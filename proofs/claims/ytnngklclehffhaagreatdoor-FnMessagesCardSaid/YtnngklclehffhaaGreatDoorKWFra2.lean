/- The texts of fragments: both sides. -/
import Derived.Test.YtnngklclehffhaaGreatDoorKWFra
namespace Go.Proofs.YtnngklclehffhaaGreatDoor
open Go.RowKit
set_option maxHeartbeats 400000
set_option maxRecDepth 100000
def fraH (x : Fra) : ByteArray := itoaS x.n ++ ⟨#[46]⟩ ++ itoaS x.p ++ ⟨#[47]⟩ ++ itoaS x.q
def fraT (x : Fra) : ByteArray := if x.d.data.toList.isEmpty then fraH x else fraH x ++ ⟨#[58]⟩ ++ x.d
theorem fra_e {x : Fra} (h : x.d.data.toList.isEmpty = true) : fraT x = fraH x := by rw [fraT, h]; rfl
theorem fra_n {x : Fra} (h : x.d.data.toList.isEmpty = false) : fraT x = fraH x ++ ⟨#[58]⟩ ++ x.d := by rw [fraT, h]; rfl
theorem itm_size {m : Nat} {s : ByteArray} (h : itm m s = true) : s.size ≤ m := by
  simp only [itm, Bool.and_eq_true, decide_eq_true_eq] at h
  exact h.2
theorem ba_nil {s : ByteArray} (h : s.data.toList.isEmpty = true) : s = ⟨#[]⟩ := by
  cases s
  simp at h
  simp [h]
theorem spec_l23Text (n p q : Int) (d : ByteArray) (w : World) (h : okF ⟨n, p, q, d⟩ = true) :
    Calls Tryz.prog 38 #[.agg #[.int .i64 n, .int .i64 p, .int .i64 q, .string d]] w fun e w' => e = .returned (.string (fraT ⟨n, p, q, d⟩)) ∧ Ext w w' := by
  obtain ⟨⟨n0, n1⟩, ⟨q0, q1⟩, ⟨p0, p1⟩, hi⟩ := okF_iff h
  dsimp only at n0 n1 q0 q1 p0 p1 hi
  have hd := itm_size hi
  have s1 := itoaS_size n (by omega) (by omega)
  have s2 := itoaS_size p (by omega) (by omega)
  have s3 := itoaS_size q (by omega) (by omega)
  clear h hi
  cases he : d.data.toList.isEmpty
  · have hf := hid (fra_n (x := ⟨n, p, q, d⟩) he)
    have t0 : d.toList.isEmpty = false := by rw [Lib.toList_data]; exact he
    have t1 : (!d.toList.isEmpty) = true := by rw [t0]; rfl
    clear he
    go_enter Tryz.func38, Tryz.ntmps38
    go_wp2_with fail
    refine wp_region_ext (by kernel_rfl) (by kernel_rfl) ?_
    repeat (go_big_quiet_step ((first | (go_at_call 64; exact Calls.quiet_ext (spec_l1Num _ _ (by omega) (by omega))))))
    refine wpQuiet_nil ?_
    rintro _ ⟨zq, rfl⟩
    go_wp2_with fail
    go_ret
    exact ⟨by rw [hf.out]; rfl, (by repeat' (first | exact Ext.refl _ | assumption | refine Ext.alloc ?_ _ | refine Ext.ext ?_ _ | refine Ext.drew ?_ | refine Ext.drewN ?_ _))⟩
  · have hf := hid (fra_e (x := ⟨n, p, q, d⟩) he)
    obtain rfl := ba_nil he
    clear he
    go_enter Tryz.func38, Tryz.ntmps38
    go_wp2_with fail
    refine wp_region_ext (by kernel_rfl) (by kernel_rfl) ?_
    repeat (go_big_quiet_step ((first | (go_at_call 64; exact Calls.quiet_ext (spec_l1Num _ _ (by omega) (by omega))))))
    refine wpQuiet_nil ?_
    rintro _ ⟨zq, rfl⟩
    go_wp2_with fail
    go_ret
    exact ⟨by rw [hf.out]; rfl, (by repeat' (first | exact Ext.refl _ | assumption | refine Ext.alloc ?_ _ | refine Ext.ext ?_ _ | refine Ext.drew ?_ | refine Ext.drewN ?_ _))⟩
def ftT (x : Fra) : ByteArray := if okF x then fraT x else ⟨#[]⟩
theorem spec_FragmentText (n p q : Int) (d : ByteArray) (w : World) (h : d.size ≤ 1048576) :
    Calls Tryz.prog 14 #[.agg #[.int .i64 n, .int .i64 p, .int .i64 q, .string d]] w fun e w' => e = .returned (.tuple #[.string (ftT ⟨n, p, q, d⟩), .bool (okF ⟨n, p, q, d⟩)]) ∧ Ext w w' := by
  have hc := hid (fun w => spec_l23Fragment n p q d w h)
  cases e1 : okF ⟨n, p, q, d⟩
  · rw [e1] at hc
    have f : ftT ⟨n, p, q, d⟩ = ⟨#[]⟩ := by rw [ftT, e1]; rfl
    rw [f]
    clear e1 f
    go_enter Tryz.func14, Tryz.ntmps14
    go_wp2_with (go_at_call 37; refine (hc.out _).mono ?_; rintro e w' ⟨rfl, z1, rfl⟩)
    go_ret2
    exact ⟨rfl, (by repeat' (first | exact Ext.refl _ | assumption | refine Ext.alloc ?_ _ | refine Ext.ext ?_ _ | refine Ext.drew ?_ | refine Ext.drewN ?_ _))⟩
  · rw [e1] at hc
    have f : ftT ⟨n, p, q, d⟩ = fraT ⟨n, p, q, d⟩ := by rw [ftT, e1]; rfl
    rw [f]
    have ht := hid (fun w => spec_l23Text n p q d w e1)
    clear e1 f
    generalize fraT ⟨n, p, q, d⟩ = T at *
    go_enter Tryz.func14, Tryz.ntmps14
    go_wp2_with (first | (go_at_call 37; refine (hc.out _).mono ?_; rintro e w' ⟨rfl, z1, rfl⟩) | (go_at_call 38; refine (ht.out _).mono ?_; rintro e w' ⟨rfl, z1, rfl⟩))
    go_ret2
    exact ⟨rfl, (by repeat' (first | exact Ext.refl _ | assumption | refine Ext.alloc ?_ _ | refine Ext.ext ?_ _ | refine Ext.drew ?_ | refine Ext.drewN ?_ _))⟩
theorem impl_FragmentText (n p q : Int) (d : ByteArray) (w : World) (h : d.size ≤ 1048576) :
    Calls Tryz.prog 12 #[.agg #[.int .i64 n, .int .i64 p, .int .i64 q, .string d]] w fun e w' => e = .returned (.tuple #[.string (ftT ⟨n, p, q, d⟩), .bool (okF ⟨n, p, q, d⟩)]) ∧ Ext w w' := by
  have hc := hid (fun w => impl_IsValidFragment n p q d w h)
  cases e1 : okF ⟨n, p, q, d⟩
  · rw [e1] at hc
    have f : ftT ⟨n, p, q, d⟩ = ⟨#[]⟩ := by rw [ftT, e1]; rfl
    rw [f]
    clear e1 f
    go_enter Tryz.func12, Tryz.ntmps12
    go_wp2_with (go_at_call 8; refine (hc.out _).mono ?_; rintro e w' ⟨rfl, z1, rfl⟩)
    go_ret2
    exact ⟨rfl, (by repeat' (first | exact Ext.refl _ | assumption | refine Ext.alloc ?_ _ | refine Ext.ext ?_ _ | refine Ext.drew ?_ | refine Ext.drewN ?_ _))⟩
  · rw [e1] at hc
    have f : ftT ⟨n, p, q, d⟩ = fraT ⟨n, p, q, d⟩ := by rw [ftT, e1]; rfl
    rw [f]
    obtain ⟨⟨n0, n1⟩, ⟨q0, q1⟩, ⟨p0, p1⟩, hi⟩ := okF_iff e1
    dsimp only at n0 n1 q0 q1 p0 p1 hi
    have hd := itm_size hi
    have s1 := itoaS_size n (by omega) (by omega)
    have s2 := itoaS_size p (by omega) (by omega)
    have s3 := itoaS_size q (by omega) (by omega)
    clear e1 f hi
    cases he : d.data.toList.isEmpty
    · have hf := hid (fra_n (x := ⟨n, p, q, d⟩) he)
      have t0 : d.toList.isEmpty = false := by rw [Lib.toList_data]; exact he
      have t1 : (!d.toList.isEmpty) = true := by rw [t0]; rfl
      clear he
      go_enter Tryz.func12, Tryz.ntmps12
      go_wp2_with (go_at_call 8; refine (hc.out _).mono ?_; rintro e w' ⟨rfl, z1, rfl⟩)
      refine wp_region_ext (by kernel_rfl) (by kernel_rfl) ?_
      repeat (go_big_quiet_step ((first | (go_at_call 34; exact Calls.quiet_same (strconv_Itoa_lt _ _ (by omega) (by omega))))))
      refine wpQuiet_nil ?_
      rintro _ ⟨zq, rfl⟩
      go_wp2_with fail
      go_ret2
      exact ⟨congrArg (fun s => Ending.returned (.tuple #[.string s, .bool true])) (by rw [hf.out]; unfold fraH; simp only [ByteArray.append_assoc]), (by repeat' (first | exact Ext.refl _ | assumption | refine Ext.alloc ?_ _ | refine Ext.ext ?_ _ | refine Ext.drew ?_ | refine Ext.drewN ?_ _))⟩
    · have hf := hid (fra_e (x := ⟨n, p, q, d⟩) he)
      obtain rfl := ba_nil he
      clear he
      go_enter Tryz.func12, Tryz.ntmps12
      go_wp2_with (go_at_call 8; refine (hc.out _).mono ?_; rintro e w' ⟨rfl, z1, rfl⟩)
      refine wp_region_ext (by kernel_rfl) (by kernel_rfl) ?_
      repeat (go_big_quiet_step ((first | (go_at_call 34; exact Calls.quiet_same (strconv_Itoa_lt _ _ (by omega) (by omega))))))
      refine wpQuiet_nil ?_
      rintro _ ⟨zq, rfl⟩
      go_wp2_with fail
      go_ret2
      exact ⟨by rw [hf.out]; rfl, (by repeat' (first | exact Ext.refl _ | assumption | refine Ext.alloc ?_ _ | refine Ext.ext ?_ _ | refine Ext.drew ?_ | refine Ext.drewN ?_ _))⟩
end Go.Proofs.YtnngklclehffhaaGreatDoor
