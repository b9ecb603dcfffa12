/- The parity of a block, told of any list: both sides. -/
import Derived.Test.YthnfdgbmmiddlaaDoorWPar
namespace Go.Proofs.YthnfdgbmmiddlaaDoor
open Go.RowKit
set_option maxHeartbeats 400000
set_option maxRecDepth 100000
def pof (xs : List ByteArray) : List Int := if blk xs then parL xs else []
theorem pof_no {xs : List ByteArray} (h : blk xs = false) : pof xs = [] := by simp [pof, h]
theorem pof_yes {xs : List ByteArray} (h : blk xs = true) : pof xs = parL xs := by simp [pof, h]
theorem parL_len (xs : List ByteArray) : (parL xs).length = 8 := by
  have := parL_par xs xs.length (Nat.le_refl _)
  rw [List.take_length] at this
  exact isPar_len this
theorem pof_len (xs : List ByteArray) : (pof xs).length ≤ 8 := by
  unfold pof
  split
  · rw [parL_len]; exact Nat.le_refl _
  · simp
theorem blk_all {xs : List ByteArray} (h : blk xs = true) : allS xs = true := by
  rw [blk, Bool.and_eq_true] at h
  exact h.2
theorem own_empty (w : World) (B : Nat) (h : B ≤ w.heap.size) : (w.alloc (.cells #[] 3)).ownsRow B 3 1 (.slice (some ⟨w.heap.size, 0, none⟩) 0 0) 0 [] := World.ownsRow_lit w #[] 0 h (Nat.zero_le _) rfl
theorem impl_ParityOf (xs : List ByteArray) (v : Value) (w : World) (h : Rd w 1 v xs.length (vStrs xs)) (h2 : xs.length ≤ 1048576) (h3 : chars xs ≤ 1048576) :
    Calls Tryd.prog 23 #[v] w fun e w' => ∃ r, e = .returned (.tuple #[r, .bool (blk xs)]) ∧ w'.ownsRow w.heap.size 3 1 r (pof xs).length (vInts (pof xs)) ∧ Ext w w' := by
  have Hr := hid h
  have hb : Hid (∀ w, Rd w 1 v xs.length (vStrs xs) → Calls Tryd.prog 55 #[v] w fun e w' => e = .returned (.bool (blk xs)) ∧ Ext w w') := fun w h => impl_isBlock xs v w h h2 h3
  clear h
  cases e1 : blk xs
  · rw [pof_no e1]
    rw [e1] at hb
    clear e1
    go_enter Tryd.func23, Tryd.ntmps23
    go_wp2_with (go_at_call 55; (with_reducible refine (hb.out _ (Hr.out.ext (by repeat' (first | exact Ext.refl _ | assumption | refine Ext.alloc ?_ _ | refine Ext.ext ?_ _ | refine Ext.drew ?_ | refine Ext.drewN ?_ _)))).mono ?_); rintro e w' ⟨rfl, z1, rfl⟩)
    go_ret2
    exact ⟨_, rfl, World.ownsRow_nil _ _ _ _, (by repeat' (first | exact Ext.refl _ | assumption | refine Ext.alloc ?_ _ | refine Ext.ext ?_ _ | refine Ext.drew ?_ | refine Ext.drewN ?_ _))⟩
  · rw [pof_yes e1]
    rw [e1] at hb
    have hp := hid (fun w h => impl_parityOf xs v w h h2 (blk_all e1))
    clear e1
    go_enter Tryd.func23, Tryd.ntmps23
    go_wp2_with (first | (go_at_call 55; (with_reducible refine (hb.out _ (Hr.out.ext (by repeat' (first | exact Ext.refl _ | assumption | refine Ext.alloc ?_ _ | refine Ext.ext ?_ _ | refine Ext.drew ?_ | refine Ext.drewN ?_ _)))).mono ?_); rintro e w' ⟨rfl, z1, rfl⟩) | (go_at_call 56; (refine (hp.out _ (Hr.out.ext (by repeat' (first | exact Ext.refl _ | assumption | refine Ext.alloc ?_ _ | refine Ext.ext ?_ _ | refine Ext.drew ?_ | refine Ext.drewN ?_ _)))).mono ?_); rintro e w' ⟨r, rfl, ho, z2, rfl⟩))
    go_ret2
    exact ⟨_, rfl, own_mono ho (by simp [World.size_ext]), (by repeat' (first | exact Ext.refl _ | assumption | refine Ext.alloc ?_ _ | refine Ext.ext ?_ _ | refine Ext.drew ?_ | refine Ext.drewN ?_ _))⟩
theorem spec_ParityOf (xs : List ByteArray) (v : Value) (w : World) (h : Rd w 1 v xs.length (vStrs xs)) (h2 : xs.length ≤ 1048576) (h3 : chars xs ≤ 1048576) :
    Calls Tryd.prog 24 #[v] w fun e w' => ∃ r, e = .returned (.tuple #[r, .bool (blk xs)]) ∧ w'.ownsRow w.heap.size 3 1 r (pof xs).length (vInts (pof xs)) ∧ Ext w w' := by
  have Hr := hid h
  have hb : Hid (∀ w, Rd w 1 v xs.length (vStrs xs) → Calls Tryd.prog 57 #[v] w fun e w' => e = .returned (.bool (blk xs)) ∧ Ext w w') := fun w h => spec_l24Block xs v w h h2 h3
  clear h
  cases e1 : blk xs
  · rw [pof_no e1]
    rw [e1] at hb
    clear e1
    go_enter Tryd.func24, Tryd.ntmps24
    go_wp2_with (go_at_call 57; (with_reducible refine (hb.out _ (Hr.out.ext (by repeat' (first | exact Ext.refl _ | assumption | refine Ext.alloc ?_ _ | refine Ext.ext ?_ _ | refine Ext.drew ?_ | refine Ext.drewN ?_ _)))).mono ?_); rintro e w' ⟨rfl, z1, rfl⟩)
    go_ret2
    exact ⟨_, rfl, own_empty _ _ (by simp [World.size_ext]), (by repeat' (first | exact Ext.refl _ | assumption | refine Ext.alloc ?_ _ | refine Ext.ext ?_ _ | refine Ext.drew ?_ | refine Ext.drewN ?_ _))⟩
  · rw [pof_yes e1]
    rw [e1] at hb
    have hp := hid (fun w h => spec_l24Parity xs v w h h2 (blk_all e1))
    clear e1
    go_enter Tryd.func24, Tryd.ntmps24
    go_wp2_with (first | (go_at_call 57; (with_reducible refine (hb.out _ (Hr.out.ext (by repeat' (first | exact Ext.refl _ | assumption | refine Ext.alloc ?_ _ | refine Ext.ext ?_ _ | refine Ext.drew ?_ | refine Ext.drewN ?_ _)))).mono ?_); rintro e w' ⟨rfl, z1, rfl⟩) | (go_at_call 50; (refine (hp.out _ (Hr.out.ext (by repeat' (first | exact Ext.refl _ | assumption | refine Ext.alloc ?_ _ | refine Ext.ext ?_ _ | refine Ext.drew ?_ | refine Ext.drewN ?_ _)))).mono ?_); rintro e w' ⟨r, rfl, ho, z2, rfl⟩))
    go_ret2
    exact ⟨_, rfl, own_mono ho (by simp [World.size_ext]), (by repeat' (first | exact Ext.refl _ | assumption | refine Ext.alloc ?_ _ | refine Ext.ext ?_ _ | refine Ext.drew ?_ | refine Ext.drewN ?_ _))⟩
end Go.Proofs.YthnfdgbmmiddlaaDoor
