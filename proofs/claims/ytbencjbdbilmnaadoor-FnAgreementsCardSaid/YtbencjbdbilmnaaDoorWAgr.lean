/- How many receivers lost nothing, and whole reports: both sides. -/
import Derived.Test.YtbencjbdbilmnaaDoorWD2
import Derived.Test.YtbencjbdbilmnaaDoorWText
import Derived.Test.YtbencjbdbilmnaaDoorWJoin
namespace Go.Proofs.YtbencjbdbilmnaaDoor
open Go.RowKit
set_option maxHeartbeats 400000
set_option maxRecDepth 100000
def ALL : ByteArray := ⟨#[65, 108, 108, 32, 114, 101, 99, 101, 105, 118, 101, 114, 115, 32, 104, 97, 118, 101, 32, 101, 118, 101, 114, 121, 116, 104, 105, 110, 103, 46]⟩
def NONE : ByteArray := ⟨#[78, 111, 32, 114, 101, 99, 101, 105, 118, 101, 114, 32, 104, 97, 115, 32, 101, 118, 101, 114, 121, 116, 104, 105, 110, 103, 46]⟩
def agrT (xs : List Dlv) : ByteArray :=
  if areD xs then (if (perfect xs).length = xs.length then ALL else if (perfect xs).length = 0 then NONE else itoaS ((perfect xs).length : Int) ++ ⟨#[32, 111, 102, 32]⟩ ++ itoaS (xs.length : Int) ++ ⟨#[32, 114, 101, 99, 101, 105, 118, 101, 114, 115, 32, 104, 97, 118, 101, 32, 101, 118, 101, 114, 121, 116, 104, 105, 110, 103, 46]⟩) else ⟨#[]⟩
theorem agr_no {xs : List Dlv} (h : areD xs = false) : agrT xs = ⟨#[]⟩ := by rw [agrT, h]; rfl
theorem agr_all {xs : List Dlv} (h : areD xs = true) (h1 : (perfect xs).length = xs.length) : agrT xs = ALL := by rw [agrT, h, if_pos rfl, if_pos h1]
theorem agr_none {xs : List Dlv} (h : areD xs = true) (h1 : (perfect xs).length ≠ xs.length) (h2 : (perfect xs).length = 0) : agrT xs = NONE := by rw [agrT, h, if_pos rfl, if_neg h1, if_pos h2]
theorem agr_some {xs : List Dlv} (h : areD xs = true) (h1 : (perfect xs).length ≠ xs.length) (h2 : (perfect xs).length ≠ 0) : agrT xs = itoaS ((perfect xs).length : Int) ++ ⟨#[32, 111, 102, 32]⟩ ++ itoaS (xs.length : Int) ++ ⟨#[32, 114, 101, 99, 101, 105, 118, 101, 114, 115, 32, 104, 97, 118, 101, 32, 101, 118, 101, 114, 121, 116, 104, 105, 110, 103, 46]⟩ := by rw [agrT, h, if_pos rfl, if_neg h1, if_neg h2]
theorem impl_Agreement (xs : List Dlv) (v : Value) (w : World) (h : Rd w 4 v xs.length (xs.flatMap Dlv.cs)) (h2 : xs.length ≤ 1048576) (ht : Tab w) :
    Calls Tryd.prog 13 #[v] w fun e w' => e = .returned (.tuple #[.string (agrT xs), .bool (areD xs)]) ∧ Ext w w' := by
  have hc := hid (fun n w h1 h2 ht => strconv_Itoa n w h1 h2 ht)
  have Ht := hid ht
  clear ht
  have Hr := hid h
  obtain ⟨h1, p, cap, rfl, h4⟩ := h
  clear h1 h4
  have hp : Hid (∀ w, Rd w 4 (.slice p xs.length cap) xs.length (xs.flatMap Dlv.cs) → Calls Tryd.prog 22 #[.slice p xs.length cap] w fun e w' => ∃ r, e = .returned (.tuple #[r, .bool (areD xs)]) ∧ w'.ownsRow w.heap.size 3 1 r (if areD xs then perfect xs else []).length (vInts (if areD xs then perfect xs else [])) ∧ Ext w w') := fun w h => impl_PerfectReceivers xs _ w h h2
  have hpl := perfect_len xs
  cases e1 : areD xs
  · rw [agr_no e1]
    rw [e1] at hp
    clear e1 hpl
    go_enter Tryd.func13, Tryd.ntmps13
    go_wp2_with (go_at_call 22; (refine (hp.out _ (Hr.out.ext (by repeat' (first | exact Ext.refl _ | assumption | refine Ext.alloc ?_ _ | refine Ext.ext ?_ _ | refine Ext.drew ?_ | refine Ext.drewN ?_ _)))).mono ?_); rintro e w1 ⟨r, rfl, ho, z1, rfl⟩; obtain ⟨q, c, rfl⟩ := own_shape ho)
    go_ret2
    exact ⟨rfl, (by repeat' (first | exact Ext.refl _ | assumption | refine Ext.alloc ?_ _ | refine Ext.ext ?_ _ | refine Ext.drew ?_ | refine Ext.drewN ?_ _))⟩
  rw [e1, if_pos rfl] at hp
  by_cases e2 : (perfect xs).length = xs.length
  · rw [agr_all e1 e2]
    rw [e2] at hp
    clear e1 hpl e2
    go_enter Tryd.func13, Tryd.ntmps13
    go_wp2_with (go_at_call 22; (refine (hp.out _ (Hr.out.ext (by repeat' (first | exact Ext.refl _ | assumption | refine Ext.alloc ?_ _ | refine Ext.ext ?_ _ | refine Ext.drew ?_ | refine Ext.drewN ?_ _)))).mono ?_); rintro e w1 ⟨r, rfl, ho, z1, rfl⟩; obtain ⟨q, c, rfl⟩ := own_shape ho)
    go_ret2
    exact ⟨rfl, (by repeat' (first | exact Ext.refl _ | assumption | refine Ext.alloc ?_ _ | refine Ext.ext ?_ _ | refine Ext.drew ?_ | refine Ext.drewN ?_ _))⟩
  by_cases e3 : (perfect xs).length = 0
  · rw [agr_none e1 e2 e3]
    have hx0 : 0 < xs.length := by omega
    rw [e3] at hp
    have t1 : ((0 : Int) == (xs.length : Int)) = false := by rw [beq_eq_false_iff_ne]; omega
    clear e1 hpl e2 e3
    go_enter Tryd.func13, Tryd.ntmps13
    go_wp2_with (go_at_call 22; (refine (hp.out _ (Hr.out.ext (by repeat' (first | exact Ext.refl _ | assumption | refine Ext.alloc ?_ _ | refine Ext.ext ?_ _ | refine Ext.drew ?_ | refine Ext.drewN ?_ _)))).mono ?_); rintro e w1 ⟨r, rfl, ho, z1, rfl⟩; obtain ⟨q, c, rfl⟩ := own_shape ho)
    go_ret2
    exact ⟨rfl, (by repeat' (first | exact Ext.refl _ | assumption | refine Ext.alloc ?_ _ | refine Ext.ext ?_ _ | refine Ext.drew ?_ | refine Ext.drewN ?_ _))⟩
  have hf := hid (agr_some e1 e2 e3)
  generalize perfect xs = P at *
  have t1 : ((P.length : Int) == (xs.length : Int)) = false := by rw [beq_eq_false_iff_ne]; omega
  have t2 : ((P.length : Int) == 0) = false := by rw [beq_eq_false_iff_ne]; omega
  have s1 := itoaS_size (P.length : Int) (by omega) (by omega)
  have s2 := itoaS_size (xs.length : Int) (by omega) (by omega)
  clear e1 e2 e3
  go_enter Tryd.func13, Tryd.ntmps13
  repeat (first | (go_wp2_with ((first | (go_at_call 22; (refine (hp.out _ (Hr.out.ext (by repeat' (first | exact Ext.refl _ | assumption | refine Ext.alloc ?_ _ | refine Ext.ext ?_ _ | refine Ext.drew ?_ | refine Ext.drewN ?_ _)))).mono ?_); rintro e w1 ⟨r, rfl, ho, z1, rfl⟩; obtain ⟨q, c, rfl⟩ := own_shape ho) | (go_at_call 31; refine (hc.out _ _ (by omega) (by omega) (Ht.out.ext (by repeat' (first | exact Ext.refl _ | assumption | refine Ext.alloc ?_ _ | refine Ext.ext ?_ _ | refine Ext.drew ?_ | refine Ext.drewN ?_ _)))).mono ?_; rintro e w' ⟨rfl, z1, rfl⟩))); refine wp_region_ext (by kernel_rfl) (by kernel_rfl) ?_; (repeat (go_big_quiet_step ((go_at_call 31; exact Calls.quiet_ext (hc.out _ _ (by omega) (by omega) (Ht.out.ext (by repeat' (first | exact Ext.refl _ | assumption | refine Ext.alloc ?_ _ | refine Ext.ext ?_ _ | refine Ext.drew ?_ | refine Ext.drewN ?_ _)))))))); refine wpQuiet_nil ?_; rintro _ ⟨zq, rfl⟩))
  go_wp2_with ((first | (go_at_call 22; (refine (hp.out _ (Hr.out.ext (by repeat' (first | exact Ext.refl _ | assumption | refine Ext.alloc ?_ _ | refine Ext.ext ?_ _ | refine Ext.drew ?_ | refine Ext.drewN ?_ _)))).mono ?_); rintro e w1 ⟨r, rfl, ho, z1, rfl⟩; obtain ⟨q, c, rfl⟩ := own_shape ho) | (go_at_call 31; refine (hc.out _ _ (by omega) (by omega) (Ht.out.ext (by repeat' (first | exact Ext.refl _ | assumption | refine Ext.alloc ?_ _ | refine Ext.ext ?_ _ | refine Ext.drew ?_ | refine Ext.drewN ?_ _)))).mono ?_; rintro e w' ⟨rfl, z1, rfl⟩)))
  go_ret2
  exact ⟨by rw [hf.out]; rfl, (by repeat' (first | exact Ext.refl _ | assumption | refine Ext.alloc ?_ _ | refine Ext.ext ?_ _ | refine Ext.drew ?_ | refine Ext.drewN ?_ _))⟩
theorem spec_Agreement (xs : List Dlv) (v : Value) (w : World) (h : Rd w 4 v xs.length (xs.flatMap Dlv.cs)) (h2 : xs.length ≤ 1048576) :
    Calls Tryd.prog 11 #[v] w fun e w' => e = .returned (.tuple #[.string (agrT xs), .bool (areD xs)]) ∧ Ext w w' := by
  have hc := hid (fun n w h1 h2 => spec_l1Num n w h1 h2)
  have Hr := hid h
  obtain ⟨h1, p, cap, rfl, h4⟩ := h
  clear h1 h4
  have hp : Hid (∀ w, Rd w 4 (.slice p xs.length cap) xs.length (xs.flatMap Dlv.cs) → Calls Tryd.prog 23 #[.slice p xs.length cap] w fun e w' => ∃ r, e = .returned (.tuple #[r, .bool (areD xs)]) ∧ w'.ownsRow w.heap.size 3 1 r (if areD xs then perfect xs else []).length (vInts (if areD xs then perfect xs else [])) ∧ Ext w w') := fun w h => spec_PerfectReceivers xs _ w h h2
  have hpl := perfect_len xs
  cases e1 : areD xs
  · rw [agr_no e1]
    rw [e1] at hp
    clear e1 hpl
    go_enter Tryd.func11, Tryd.ntmps11
    go_wp2_with (go_at_call 23; (refine (hp.out _ (Hr.out.ext (by repeat' (first | exact Ext.refl _ | assumption | refine Ext.alloc ?_ _ | refine Ext.ext ?_ _ | refine Ext.drew ?_ | refine Ext.drewN ?_ _)))).mono ?_); rintro e w1 ⟨r, rfl, ho, z1, rfl⟩; obtain ⟨q, c, rfl⟩ := own_shape ho)
    go_ret2
    exact ⟨rfl, (by repeat' (first | exact Ext.refl _ | assumption | refine Ext.alloc ?_ _ | refine Ext.ext ?_ _ | refine Ext.drew ?_ | refine Ext.drewN ?_ _))⟩
  rw [e1, if_pos rfl] at hp
  by_cases e2 : (perfect xs).length = xs.length
  · rw [agr_all e1 e2]
    rw [e2] at hp
    clear e1 hpl e2
    go_enter Tryd.func11, Tryd.ntmps11
    go_wp2_with (go_at_call 23; (refine (hp.out _ (Hr.out.ext (by repeat' (first | exact Ext.refl _ | assumption | refine Ext.alloc ?_ _ | refine Ext.ext ?_ _ | refine Ext.drew ?_ | refine Ext.drewN ?_ _)))).mono ?_); rintro e w1 ⟨r, rfl, ho, z1, rfl⟩; obtain ⟨q, c, rfl⟩ := own_shape ho)
    go_ret2
    exact ⟨rfl, (by repeat' (first | exact Ext.refl _ | assumption | refine Ext.alloc ?_ _ | refine Ext.ext ?_ _ | refine Ext.drew ?_ | refine Ext.drewN ?_ _))⟩
  by_cases e3 : (perfect xs).length = 0
  · rw [agr_none e1 e2 e3]
    have hx0 : 0 < xs.length := by omega
    rw [e3] at hp
    have t1 : ((0 : Int) == (xs.length : Int)) = false := by rw [beq_eq_false_iff_ne]; omega
    clear e1 hpl e2 e3
    go_enter Tryd.func11, Tryd.ntmps11
    go_wp2_with (go_at_call 23; (refine (hp.out _ (Hr.out.ext (by repeat' (first | exact Ext.refl _ | assumption | refine Ext.alloc ?_ _ | refine Ext.ext ?_ _ | refine Ext.drew ?_ | refine Ext.drewN ?_ _)))).mono ?_); rintro e w1 ⟨r, rfl, ho, z1, rfl⟩; obtain ⟨q, c, rfl⟩ := own_shape ho)
    go_ret2
    exact ⟨rfl, (by repeat' (first | exact Ext.refl _ | assumption | refine Ext.alloc ?_ _ | refine Ext.ext ?_ _ | refine Ext.drew ?_ | refine Ext.drewN ?_ _))⟩
  have hf := hid (agr_some e1 e2 e3)
  generalize perfect xs = P at *
  have t1 : ((P.length : Int) == (xs.length : Int)) = false := by rw [beq_eq_false_iff_ne]; omega
  have t2 : ((P.length : Int) == 0) = false := by rw [beq_eq_false_iff_ne]; omega
  have s1 := itoaS_size (P.length : Int) (by omega) (by omega)
  have s2 := itoaS_size (xs.length : Int) (by omega) (by omega)
  clear e1 e2 e3
  go_enter Tryd.func11, Tryd.ntmps11
  repeat (first | (go_wp2_with ((first | (go_at_call 23; (refine (hp.out _ (Hr.out.ext (by repeat' (first | exact Ext.refl _ | assumption | refine Ext.alloc ?_ _ | refine Ext.ext ?_ _ | refine Ext.drew ?_ | refine Ext.drewN ?_ _)))).mono ?_); rintro e w1 ⟨r, rfl, ho, z1, rfl⟩; obtain ⟨q, c, rfl⟩ := own_shape ho) | (go_at_call 30; refine (hc.out _ _ (by omega) (by omega)).mono ?_; rintro e w' ⟨rfl, z1, rfl⟩))); refine wp_region_ext (by kernel_rfl) (by kernel_rfl) ?_; (repeat (go_big_quiet_step ((go_at_call 30; exact Calls.quiet_ext (hc.out _ _ (by omega) (by omega)))))); refine wpQuiet_nil ?_; rintro _ ⟨zq, rfl⟩))
  go_wp2_with ((first | (go_at_call 23; (refine (hp.out _ (Hr.out.ext (by repeat' (first | exact Ext.refl _ | assumption | refine Ext.alloc ?_ _ | refine Ext.ext ?_ _ | refine Ext.drew ?_ | refine Ext.drewN ?_ _)))).mono ?_); rintro e w1 ⟨r, rfl, ho, z1, rfl⟩; obtain ⟨q, c, rfl⟩ := own_shape ho) | (go_at_call 30; refine (hc.out _ _ (by omega) (by omega)).mono ?_; rintro e w' ⟨rfl, z1, rfl⟩)))
  go_ret2
  exact ⟨by rw [hf.out]; rfl, (by repeat' (first | exact Ext.refl _ | assumption | refine Ext.alloc ?_ _ | refine Ext.ext ?_ _ | refine Ext.drew ?_ | refine Ext.drewN ?_ _))⟩
end Go.Proofs.YtbencjbdbilmnaaDoor
