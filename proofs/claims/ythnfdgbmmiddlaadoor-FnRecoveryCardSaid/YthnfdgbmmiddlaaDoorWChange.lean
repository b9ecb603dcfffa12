/- An item replaced: the parity after it. -/
import Derived.Test.YthnfdgbmmiddlaaDoorWAdd
namespace Go.Proofs.YthnfdgbmmiddlaaDoor
open Go.RowKit
set_option maxHeartbeats 400000
set_option maxRecDepth 100000
def changeB (P : List Int) (b a : ByteArray) : Bool := isPar P && (itm 8 b && itm 8 a)
def changeL (P : List Int) (b a : ByteArray) : List Int := if changeB P b a then addL (addL P (lc b) 26) (lc a) 1 else []
theorem changeL_no {P : List Int} {b a : ByteArray} (h : changeB P b a = false) : changeL P b a = [] := by simp [changeL, h]
theorem changeL_yes {P : List Int} {b a : ByteArray} (h : changeB P b a = true) : changeL P b a = addL (addL P (lc b) 26) (lc a) 1 := by simp [changeL, h]
theorem changeL_len (P : List Int) (b a : ByteArray) : (changeL P b a).length ≤ 8 := by
  unfold changeL
  split
  · rename_i h
    rw [changeB, Bool.and_eq_true] at h
    rw [addL_len, addL_len, isPar_len h.1]
    exact Nat.le_refl _
  · simp
theorem own_lit0 (w : World) (B : Nat) (h : B ≤ w.heap.size) : (w.alloc (.cells #[] 3)).ownsRow B 3 1 (.slice (some ⟨w.heap.size, 0, none⟩) 0 0) 0 [] := World.ownsRow_lit w #[] 0 h (Nat.zero_le _) rfl
theorem impl_ChangeItem (P : List Int) (v : Value) (b a : ByteArray) (w : World) (h : Rd w 1 v P.length (vInts P)) (h2 : P.length ≤ 1048576) (hbs : b.size ≤ 1048576) (has : a.size ≤ 1048576) :
    Calls Tryd.prog 20 #[v, .string b, .string a] w fun e w' => ∃ r, e = .returned (.tuple #[r, .bool (changeB P b a)]) ∧ w'.ownsRow w.heap.size 3 1 r (changeL P b a).length (vInts (changeL P b a)) ∧ Ext w w' := by
  have Hr := hid h
  clear h
  have hp : Hid (∀ w, Rd w 1 v P.length (vInts P) → Calls Tryd.prog 35 #[v] w fun e w' => e = .returned (.bool (isPar P)) ∧ Ext w w') := fun w h => impl_isParity P v w h h2
  have hb : Hid (∀ w, Calls Tryd.prog 33 #[.string b] w fun e w' => e = .returned (.bool (itm 8 b)) ∧ Ext w w') := fun w => impl_isItem b w hbs
  have ha : Hid (∀ w, Calls Tryd.prog 33 #[.string a] w fun e w' => e = .returned (.bool (itm 8 a)) ∧ Ext w w') := fun w => impl_isItem a w has
  cases e1 : isPar P
  · have hno : changeB P b a = false := by rw [changeB, e1]; rfl
    rw [changeL_no hno, hno]
    rw [e1] at hp
    clear hno e1
    go_enter Tryd.func20, Tryd.ntmps20
    go_wp2_with (first | (go_at_call 35; (with_reducible refine (hp.out _ (Hr.out.ext (by repeat' (first | exact Ext.refl _ | assumption | refine Ext.alloc ?_ _ | refine Ext.ext ?_ _ | refine Ext.drew ?_ | refine Ext.drewN ?_ _)))).mono ?_); rintro e w' ⟨rfl, z1, rfl⟩))
    go_ret2
    exact ⟨_, rfl, World.ownsRow_nil _ _ _ _, (by repeat' (first | exact Ext.refl _ | assumption | refine Ext.alloc ?_ _ | refine Ext.ext ?_ _ | refine Ext.drew ?_ | refine Ext.drewN ?_ _))⟩
  rw [e1] at hp
  cases e2 : itm 8 b
  · have hno : changeB P b a = false := by rw [changeB, e1, e2]; rfl
    rw [changeL_no hno, hno]
    rw [e2] at hb
    clear hno e1 e2
    go_enter Tryd.func20, Tryd.ntmps20
    go_wp2_with (first | (go_at_call 35; (with_reducible refine (hp.out _ (Hr.out.ext (by repeat' (first | exact Ext.refl _ | assumption | refine Ext.alloc ?_ _ | refine Ext.ext ?_ _ | refine Ext.drew ?_ | refine Ext.drewN ?_ _)))).mono ?_); rintro e w' ⟨rfl, z1, rfl⟩) | (go_at_call 33; (with_reducible refine (hb.out _).mono ?_); rintro e w' ⟨rfl, z2, rfl⟩))
    go_ret2
    exact ⟨_, rfl, World.ownsRow_nil _ _ _ _, (by repeat' (first | exact Ext.refl _ | assumption | refine Ext.alloc ?_ _ | refine Ext.ext ?_ _ | refine Ext.drew ?_ | refine Ext.drewN ?_ _))⟩
  rw [e2] at hb
  cases e3 : itm 8 a
  · have hno : changeB P b a = false := by rw [changeB, e1, e2, e3]; rfl
    rw [changeL_no hno, hno]
    rw [e3] at ha
    clear hno e1 e2 e3
    go_enter Tryd.func20, Tryd.ntmps20
    go_wp2_with (first | (go_at_call 35; (with_reducible refine (hp.out _ (Hr.out.ext (by repeat' (first | exact Ext.refl _ | assumption | refine Ext.alloc ?_ _ | refine Ext.ext ?_ _ | refine Ext.drew ?_ | refine Ext.drewN ?_ _)))).mono ?_); rintro e w' ⟨rfl, z1, rfl⟩) | (go_at_call 33; (with_reducible refine (hb.out _).mono ?_); rintro e w' ⟨rfl, z2, rfl⟩) | (go_at_call 33; (with_reducible refine (ha.out _).mono ?_); rintro e w' ⟨rfl, z3, rfl⟩))
    go_ret2
    exact ⟨_, rfl, World.ownsRow_nil _ _ _ _, (by repeat' (first | exact Ext.refl _ | assumption | refine Ext.alloc ?_ _ | refine Ext.ext ?_ _ | refine Ext.drew ?_ | refine Ext.drewN ?_ _))⟩
  rw [e3] at ha
  have hyes : changeB P b a = true := by rw [changeB, e1, e2, e3]; rfl
  rw [changeL_yes hyes, hyes]
  have c1 := hid (fun w => impl_itemCode b w e2)
  have c2 := hid (fun w => impl_itemCode a w e3)
  have d1 := hid (fun v u w h k => impl_added P (lc b) v u 26 w h k e1 (lc_par e2) (by decide))
  have d2 := hid (fun v u w h k => impl_added (addL P (lc b) 26) (lc a) v u 1 w h k (addL_par e1) (lc_par e3) (by decide))
  clear hyes e1 e2 e3
  go_enter Tryd.func20, Tryd.ntmps20
  go_wp2_with (first | (go_at_call 35; (with_reducible refine (hp.out _ (Hr.out.ext (by repeat' (first | exact Ext.refl _ | assumption | refine Ext.alloc ?_ _ | refine Ext.ext ?_ _ | refine Ext.drew ?_ | refine Ext.drewN ?_ _)))).mono ?_); rintro e w' ⟨rfl, z1, rfl⟩) | (go_at_call 33; (with_reducible refine (hb.out _).mono ?_); rintro e w' ⟨rfl, z2, rfl⟩) | (go_at_call 33; (with_reducible refine (ha.out _).mono ?_); rintro e w' ⟨rfl, z3, rfl⟩) | (go_at_call 34; (with_reducible refine (c1.out _).mono ?_); rintro e w' ⟨r1, rfl, ho1, z4, rfl⟩; have Ho1 := hid ho1; clear ho1) | (go_at_call 53; (with_reducible refine (d1.out _ _ _ (Hr.out.ext (by repeat' (first | exact Ext.refl _ | assumption | refine Ext.alloc ?_ _ | refine Ext.ext ?_ _ | refine Ext.drew ?_ | refine Ext.drewN ?_ _))) (Rd.own Ho1.out)).mono ?_); rintro e w' ⟨r2, rfl, ho2, z5, rfl⟩; have Ho2 := hid ho2; clear ho2) | (go_at_call 34; (with_reducible refine (c2.out _).mono ?_); rintro e w' ⟨r3, rfl, ho3, z6, rfl⟩; have Ho3 := hid ho3; clear ho3) | (go_at_call 53; (with_reducible refine (d2.out _ _ _ ((Rd.own Ho2.out).ext (by repeat' (first | exact Ext.refl _ | assumption | refine Ext.alloc ?_ _ | refine Ext.ext ?_ _ | refine Ext.drew ?_ | refine Ext.drewN ?_ _))) (Rd.own Ho3.out)).mono ?_); rintro e w' ⟨r4, rfl, ho4, z7, rfl⟩; have Ho4 := hid ho4; clear ho4))
  go_ret2
  exact ⟨_, rfl, own_mono Ho4.out (by simp only [World.size_ext]; omega), (by repeat' (first | exact Ext.refl _ | assumption | refine Ext.alloc ?_ _ | refine Ext.ext ?_ _ | refine Ext.drew ?_ | refine Ext.drewN ?_ _))⟩
theorem spec_ChangeItem (P : List Int) (v : Value) (b a : ByteArray) (w : World) (h : Rd w 1 v P.length (vInts P)) (h2 : P.length ≤ 1048576) (hbs : b.size ≤ 1048576) (has : a.size ≤ 1048576) :
    Calls Tryd.prog 21 #[v, .string b, .string a] w fun e w' => ∃ r, e = .returned (.tuple #[r, .bool (changeB P b a)]) ∧ w'.ownsRow w.heap.size 3 1 r (changeL P b a).length (vInts (changeL P b a)) ∧ Ext w w' := by
  have Hr := hid h
  clear h
  have hp : Hid (∀ w, Rd w 1 v P.length (vInts P) → Calls Tryd.prog 44 #[v] w fun e w' => e = .returned (.bool (isPar P)) ∧ Ext w w') := fun w h => spec_l24Good P v w h h2
  have hb : Hid (∀ w, Calls Tryd.prog 38 #[.string b] w fun e w' => e = .returned (.bool (itm 8 b)) ∧ Ext w w') := fun w => spec_l24Item b w hbs
  have ha : Hid (∀ w, Calls Tryd.prog 38 #[.string a] w fun e w' => e = .returned (.bool (itm 8 a)) ∧ Ext w w') := fun w => spec_l24Item a w has
  cases e1 : isPar P
  · have hno : changeB P b a = false := by rw [changeB, e1]; rfl
    rw [changeL_no hno, hno]
    rw [e1] at hp
    clear hno e1
    go_enter Tryd.func21, Tryd.ntmps21
    go_wp2_with (first | (go_at_call 44; (with_reducible refine (hp.out _ (Hr.out.ext (by repeat' (first | exact Ext.refl _ | assumption | refine Ext.alloc ?_ _ | refine Ext.ext ?_ _ | refine Ext.drew ?_ | refine Ext.drewN ?_ _)))).mono ?_); rintro e w' ⟨rfl, z1, rfl⟩))
    go_ret2
    exact ⟨_, rfl, by simpa [vInts] using World.ownsRow_lit (base := w.heap.size) (e := 3) (size := 1) _ #[] 0 (by simp only [World.size_ext]; omega) (Nat.zero_le _) rfl, (by repeat' (first | exact Ext.refl _ | assumption | refine Ext.alloc ?_ _ | refine Ext.ext ?_ _ | refine Ext.drew ?_ | refine Ext.drewN ?_ _))⟩
  rw [e1] at hp
  cases e2 : itm 8 b
  · have hno : changeB P b a = false := by rw [changeB, e1, e2]; rfl
    rw [changeL_no hno, hno]
    rw [e2] at hb
    clear hno e1 e2
    go_enter Tryd.func21, Tryd.ntmps21
    go_wp2_with (first | (go_at_call 44; (with_reducible refine (hp.out _ (Hr.out.ext (by repeat' (first | exact Ext.refl _ | assumption | refine Ext.alloc ?_ _ | refine Ext.ext ?_ _ | refine Ext.drew ?_ | refine Ext.drewN ?_ _)))).mono ?_); rintro e w' ⟨rfl, z1, rfl⟩) | (go_at_call 38; (with_reducible refine (hb.out _).mono ?_); rintro e w' ⟨rfl, z2, rfl⟩))
    go_ret2
    exact ⟨_, rfl, by simpa [vInts] using World.ownsRow_lit (base := w.heap.size) (e := 3) (size := 1) _ #[] 0 (by simp only [World.size_ext]; omega) (Nat.zero_le _) rfl, (by repeat' (first | exact Ext.refl _ | assumption | refine Ext.alloc ?_ _ | refine Ext.ext ?_ _ | refine Ext.drew ?_ | refine Ext.drewN ?_ _))⟩
  rw [e2] at hb
  cases e3 : itm 8 a
  · have hno : changeB P b a = false := by rw [changeB, e1, e2, e3]; rfl
    rw [changeL_no hno, hno]
    rw [e3] at ha
    clear hno e1 e2 e3
    go_enter Tryd.func21, Tryd.ntmps21
    go_wp2_with (first | (go_at_call 44; (with_reducible refine (hp.out _ (Hr.out.ext (by repeat' (first | exact Ext.refl _ | assumption | refine Ext.alloc ?_ _ | refine Ext.ext ?_ _ | refine Ext.drew ?_ | refine Ext.drewN ?_ _)))).mono ?_); rintro e w' ⟨rfl, z1, rfl⟩) | (go_at_call 38; (with_reducible refine (hb.out _).mono ?_); rintro e w' ⟨rfl, z2, rfl⟩) | (go_at_call 38; (with_reducible refine (ha.out _).mono ?_); rintro e w' ⟨rfl, z3, rfl⟩))
    go_ret2
    exact ⟨_, rfl, by simpa [vInts] using World.ownsRow_lit (base := w.heap.size) (e := 3) (size := 1) _ #[] 0 (by simp only [World.size_ext]; omega) (Nat.zero_le _) rfl, (by repeat' (first | exact Ext.refl _ | assumption | refine Ext.alloc ?_ _ | refine Ext.ext ?_ _ | refine Ext.drew ?_ | refine Ext.drewN ?_ _))⟩
  rw [e3] at ha
  have hyes : changeB P b a = true := by rw [changeB, e1, e2, e3]; rfl
  rw [changeL_yes hyes, hyes]
  have d1 := hid (fun v w h => spec_l24Add P v b (-1) 26 w h e1 e2 (.inr ⟨rfl, rfl⟩))
  have d2 := hid (fun v w h => spec_l24Add (addL P (lc b) 26) v a 1 1 w h (addL_par e1) e3 (.inl ⟨rfl, rfl⟩))
  clear hyes e1 e2 e3
  go_enter Tryd.func21, Tryd.ntmps21
  go_wp2_with (first | (go_at_call 44; (with_reducible refine (hp.out _ (Hr.out.ext (by repeat' (first | exact Ext.refl _ | assumption | refine Ext.alloc ?_ _ | refine Ext.ext ?_ _ | refine Ext.drew ?_ | refine Ext.drewN ?_ _)))).mono ?_); rintro e w' ⟨rfl, z1, rfl⟩) | (go_at_call 38; (with_reducible refine (hb.out _).mono ?_); rintro e w' ⟨rfl, z2, rfl⟩) | (go_at_call 38; (with_reducible refine (ha.out _).mono ?_); rintro e w' ⟨rfl, z3, rfl⟩) | (go_at_call 54; (with_reducible refine (d1.out _ _ (Hr.out.ext (by repeat' (first | exact Ext.refl _ | assumption | refine Ext.alloc ?_ _ | refine Ext.ext ?_ _ | refine Ext.drew ?_ | refine Ext.drewN ?_ _)))).mono ?_); rintro e w' ⟨r2, rfl, ho2, z5, rfl⟩; have Ho2 := hid ho2; clear ho2) | (go_at_call 54; (with_reducible refine (d2.out _ _ (Rd.own Ho2.out)).mono ?_); rintro e w' ⟨r4, rfl, ho4, z7, rfl⟩; have Ho4 := hid ho4; clear ho4))
  go_ret2
  exact ⟨_, rfl, own_mono Ho4.out (by simp only [World.size_ext]; omega), (by repeat' (first | exact Ext.refl _ | assumption | refine Ext.alloc ?_ _ | refine Ext.ext ?_ _ | refine Ext.drew ?_ | refine Ext.drewN ?_ _))⟩
end Go.Proofs.YthnfdgbmmiddlaaDoor
