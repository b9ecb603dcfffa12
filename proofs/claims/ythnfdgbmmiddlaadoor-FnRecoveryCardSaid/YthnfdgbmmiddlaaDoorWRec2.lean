/- The item that a gapped block lacks: the program's side. -/
import Derived.Test.YthnfdgbmmiddlaaDoorWRec
namespace Go.Proofs.YthnfdgbmmiddlaaDoor
open Go.RowKit
set_option maxHeartbeats 400000
set_option maxRecDepth 100000
theorem chars_app (A B : List ByteArray) : chars (A ++ B) = chars A + chars B := by simp [chars]
theorem oth_len {ss : List ByteArray} {i : Nat} (h : i < ss.length) : (oth ss i).length + 1 = ss.length := by
  rw [oth_eq ss i h]
  simp
  omega
theorem oth_chars {ss : List ByteArray} {i : Nat} (h : i < ss.length) : chars (oth ss i) ≤ chars ss := by
  have h1 := chars_take ss i h
  have h2 : chars ss = chars (ss.take (i + 1)) + chars (ss.drop (i + 1)) := by rw [← chars_app, List.take_append_drop]
  rw [oth_eq ss i h, chars_app]
  omega
theorem rec_no {ss : List ByteArray} {m : Int} {P : List Int} (h : recB ss m P = false) : recT ss m P = ⟨#[]⟩ ∧ recR ss m P = false := ⟨by rw [recT, h]; rfl, by rw [recR, h]; rfl⟩
theorem rec_yes {ss : List ByteArray} {m : Int} {P : List Int} (h : recB ss m P = true) : recT ss m P = ofT (recC ss m P) ∧ recR ss m P = ofB (recC ss m P) := ⟨by rw [recT, h]; rfl, by rw [recR, h]; rfl⟩
theorem impl_RecoverItem (ss : List ByteArray) (xs : List Int) (m : Int) (v v' : Value) (w : World) (h : Rd w 1 v ss.length (vStrs ss)) (k : Rd w 1 v' xs.length (vInts xs)) (h2 : ss.length ≤ 1048576) (h3 : chars ss ≤ 1048576) (k2 : xs.length ≤ 1048576) :
    Calls Tryd.prog 27 #[v, .int .i64 m, v'] w fun e w' => e = .returned (.tuple #[.string (recT ss m xs), .bool (recR ss m xs)]) ∧ Ext w w' := by
  have hr := h
  obtain ⟨h1, p, cap, rfl, h4⟩ := h
  clear h1 h4
  have Hr := hid hr
  have Kr := hid k
  have hw := hid (fun w => impl_within m 0 ((ss.length : Int) - 1) w)
  have hp : Hid (∀ w, Rd w 1 v' xs.length (vInts xs) → Calls Tryd.prog 35 #[v'] w fun e w' => e = .returned (.bool (isPar xs)) ∧ Ext w w') := fun w h => impl_isParity xs v' w h k2
  have w1 : IntKind.i64.wrap ((ss.length : Int) - 1) = ss.length - 1 := IntWalk.i64_in _ (by omega)
  clear k hr
  cases e1 : inB m 0 ((ss.length : Int) - 1)
  · have f0 : recB ss m xs = false := by rw [recB, e1]; rfl
    rw [(rec_no f0).1, (rec_no f0).2]
    rw [e1] at hw
    clear f0 e1
    go_enter Tryd.func27, Tryd.ntmps27
    go_wp2_with (go_at_call 59; refine (hw.out _).mono ?_; rintro e w' ⟨rfl, rfl⟩)
    go_ret2
    exact ⟨rfl, (by repeat' (first | exact Ext.refl _ | assumption | refine Ext.alloc ?_ _ | refine Ext.ext ?_ _ | refine Ext.drew ?_ | refine Ext.drewN ?_ _))⟩
  rw [e1] at hw
  cases e2 : isPar xs
  · have f0 : recB ss m xs = false := by rw [recB, e1, e2]; rfl
    rw [(rec_no f0).1, (rec_no f0).2]
    rw [e2] at hp
    clear f0 e1 e2
    go_enter Tryd.func27, Tryd.ntmps27
    go_wp2_with (first | (go_at_call 59; refine (hw.out _).mono ?_; rintro e w' ⟨rfl, rfl⟩) | (go_at_call 35; (with_reducible refine (hp.out _ (Kr.out.ext (by repeat' (first | exact Ext.refl _ | assumption | refine Ext.alloc ?_ _ | refine Ext.ext ?_ _ | refine Ext.drew ?_ | refine Ext.drewN ?_ _)))).mono ?_); rintro e w' ⟨rfl, z1, rfl⟩))
    go_ret2
    exact ⟨rfl, (by repeat' (first | exact Ext.refl _ | assumption | refine Ext.alloc ?_ _ | refine Ext.ext ?_ _ | refine Ext.drew ?_ | refine Ext.drewN ?_ _))⟩
  rw [e2] at hp
  have e1' := inB_iff.1 e1
  obtain ⟨i, rfl⟩ := Int.eq_ofNat_of_zero_le e1'.1
  have hi : i < ss.length := by omega
  have w2 : IntKind.i64.wrap ((i : Int) + 1) = i + 1 := IntWalk.i64_in _ (by omega)
  have hol := oth_len hi
  have hoc := oth_chars hi
  have hcl : Hid (∀ w, Rd w 1 (.slice p ss.length cap) ss.length (vStrs ss) → Calls Tryd.prog 61 #[.slice p ss.length cap] w fun e w' => ∃ r, e = .returned r ∧ w'.ownsRow w.heap.size 9 1 r ss.length (vStrs ss) ∧ Ext w w') := fun w h => slices_CloneS ss _ w h h2
  have hdl := hid (fun v B w ho => slices_DeleteS ss v i B w ho hi h2)
  have har := hid (fun v w h => impl_areItems (oth ss i) v w h (by omega) (by omega))
  have Hi := hid hi
  have hrb : recB ss i xs = (decide (ss.length ≤ 6) && allS (oth ss i)) := by rw [recB, e1, e2]; rfl
  clear e1 e1' hol hoc hi
  by_cases h6 : ss.length ≤ 6
  · have t6 : decide ((6 : Int) < ss.length) = false := by simp; omega
    rw [decide_eq_true h6, Bool.true_and] at hrb
    cases e3 : allS (oth ss i)
    · rw [e3] at hrb har
      rw [(rec_no hrb).1, (rec_no hrb).2]
      clear hrb e3 e2
      go_enter Tryd.func27, Tryd.ntmps27
      go_wp2_with (first
        | (go_at_call 59; refine (hw.out _).mono ?_; rintro e w' ⟨rfl, rfl⟩) | (go_at_call 35; (with_reducible refine (hp.out _ (Kr.out.ext (by repeat' (first | exact Ext.refl _ | assumption | refine Ext.alloc ?_ _ | refine Ext.ext ?_ _ | refine Ext.drew ?_ | refine Ext.drewN ?_ _)))).mono ?_); rintro e w' ⟨rfl, z1, rfl⟩)
        | (go_at_call 61; (with_reducible refine (hcl.out _ (Hr.out.ext (by repeat' (first | exact Ext.refl _ | assumption | refine Ext.alloc ?_ _ | refine Ext.ext ?_ _ | refine Ext.drew ?_ | refine Ext.drewN ?_ _)))).mono ?_); rintro e w' ⟨r, rfl, ho, z2, rfl⟩; have Ho := hid ho; clear ho)
        | (go_at_call 60; (refine (hdl.out _ _ _ Ho.out).mono ?_); rintro e w4 ⟨r2, rfl, hr2, hg⟩; have hx4 : Ext w w4 := Ext.grown (by repeat' (first | exact Ext.refl _ | assumption | refine Ext.alloc ?_ _ | refine Ext.ext ?_ _ | refine Ext.drew ?_ | refine Ext.drewN ?_ _)) hg (fun j hj => Nat.le_trans (Ext.size (by repeat' (first | exact Ext.refl _ | assumption | refine Ext.alloc ?_ _ | refine Ext.ext ?_ _ | refine Ext.drew ?_ | refine Ext.drewN ?_ _))) (own_row Ho.out j hj).1); have Hr2 := hid hr2; have Hx4 := hid hx4; clear hr2 hx4 hg)
        | (go_at_call 62; (refine (har.out _ _ (Hr2.out.ext (by repeat' (first | exact Ext.refl _ | assumption | refine Ext.alloc ?_ _ | refine Ext.ext ?_ _ | refine Ext.drew ?_ | refine Ext.drewN ?_ _)))).mono ?_); rintro e w' ⟨rfl, z5, rfl⟩))
      go_ret2
      exact ⟨rfl, Hx4.out.trans (by repeat' (first | exact Ext.refl _ | assumption | refine Ext.alloc ?_ _ | refine Ext.ext ?_ _ | refine Ext.drew ?_ | refine Ext.drewN ?_ _))⟩
    · rw [e3] at hrb har
      rw [(rec_yes hrb).1, (rec_yes hrb).2, recC, Int.toNat_natCast]
      have hpo := hid (fun v w h => impl_parityOf (oth ss i) v w h (by have := oth_len Hi.out; omega) e3)
      have hpp : isPar (parL (oth ss i)) = true := by have := parL_par (oth ss i) _ (Nat.le_refl _); rw [List.take_length] at this; exact this
      have had := hid (fun u w h k => impl_added xs (parL (oth ss i)) v' u 26 w h k e2 hpp (by omega))
      have hle : (addL xs (parL (oth ss i)) 26).length ≤ 1048576 := by rw [addL_len]; exact k2
      have hof := hid (fun v w h => impl_ItemOf (addL xs (parL (oth ss i)) 26) v w h hle)
      clear hrb e3 e2 hpp hle
      generalize parL (oth ss i) = Q at *
      generalize addL xs Q 26 = C at *
      go_enter Tryd.func27, Tryd.ntmps27
      go_wp2_with (first
        | (go_at_call 59; refine (hw.out _).mono ?_; rintro e w' ⟨rfl, rfl⟩) | (go_at_call 35; (with_reducible refine (hp.out _ (Kr.out.ext (by repeat' (first | exact Ext.refl _ | assumption | refine Ext.alloc ?_ _ | refine Ext.ext ?_ _ | refine Ext.drew ?_ | refine Ext.drewN ?_ _)))).mono ?_); rintro e w' ⟨rfl, z1, rfl⟩)
        | (go_at_call 61; (with_reducible refine (hcl.out _ (Hr.out.ext (by repeat' (first | exact Ext.refl _ | assumption | refine Ext.alloc ?_ _ | refine Ext.ext ?_ _ | refine Ext.drew ?_ | refine Ext.drewN ?_ _)))).mono ?_); rintro e w' ⟨r, rfl, ho, z2, rfl⟩; have Ho := hid ho; clear ho)
        | (go_at_call 60; (refine (hdl.out _ _ _ Ho.out).mono ?_); rintro e w4 ⟨r2, rfl, hr2, hg⟩; have hx4 : Ext w w4 := Ext.grown (by repeat' (first | exact Ext.refl _ | assumption | refine Ext.alloc ?_ _ | refine Ext.ext ?_ _ | refine Ext.drew ?_ | refine Ext.drewN ?_ _)) hg (fun j hj => Nat.le_trans (Ext.size (by repeat' (first | exact Ext.refl _ | assumption | refine Ext.alloc ?_ _ | refine Ext.ext ?_ _ | refine Ext.drew ?_ | refine Ext.drewN ?_ _))) (own_row Ho.out j hj).1); have Hr2 := hid hr2; have Hx4 := hid hx4; clear hr2 hx4 hg)
        | (go_at_call 62; (refine (har.out _ _ (Hr2.out.ext (by repeat' (first | exact Ext.refl _ | assumption | refine Ext.alloc ?_ _ | refine Ext.ext ?_ _ | refine Ext.drew ?_ | refine Ext.drewN ?_ _)))).mono ?_); rintro e w' ⟨rfl, z5, rfl⟩)
        | (go_at_call 56; (refine (hpo.out _ _ (Hr2.out.ext (by repeat' (first | exact Ext.refl _ | assumption | refine Ext.alloc ?_ _ | refine Ext.ext ?_ _ | refine Ext.drew ?_ | refine Ext.drewN ?_ _)))).mono ?_); rintro e w' ⟨r6, rfl, ho6, z6, rfl⟩; have Ho6 := hid ho6; clear ho6)
        | (go_at_call 53; (refine (had.out _ _ (Kr.out.ext (Hx4.out.trans (by repeat' (first | exact Ext.refl _ | assumption | refine Ext.alloc ?_ _ | refine Ext.ext ?_ _ | refine Ext.drew ?_ | refine Ext.drewN ?_ _)))) ((Rd.own Ho6.out).ext (by repeat' (first | exact Ext.refl _ | assumption | refine Ext.alloc ?_ _ | refine Ext.ext ?_ _ | refine Ext.drew ?_ | refine Ext.drewN ?_ _)))).mono ?_); rintro e w' ⟨r7, rfl, ho7, z7, rfl⟩; have Ho7 := hid ho7; clear ho7)
        | (go_at_call 8; (refine (hof.out _ _ ((Rd.own Ho7.out).ext (by repeat' (first | exact Ext.refl _ | assumption | refine Ext.alloc ?_ _ | refine Ext.ext ?_ _ | refine Ext.drew ?_ | refine Ext.drewN ?_ _)))).mono ?_); rintro e w' ⟨rfl, z8, rfl⟩))
      go_ret2
      exact ⟨rfl, Hx4.out.trans (by repeat' (first | exact Ext.refl _ | assumption | refine Ext.alloc ?_ _ | refine Ext.ext ?_ _ | refine Ext.drew ?_ | refine Ext.drewN ?_ _))⟩
  · have t6 : decide ((6 : Int) < ss.length) = true := by simp; omega
    rw [decide_eq_false h6, Bool.false_and] at hrb
    rw [(rec_no hrb).1, (rec_no hrb).2]
    clear hrb e2
    go_enter Tryd.func27, Tryd.ntmps27
    go_wp2_with (first
      | (go_at_call 59; refine (hw.out _).mono ?_; rintro e w' ⟨rfl, rfl⟩) | (go_at_call 35; (with_reducible refine (hp.out _ (Kr.out.ext (by repeat' (first | exact Ext.refl _ | assumption | refine Ext.alloc ?_ _ | refine Ext.ext ?_ _ | refine Ext.drew ?_ | refine Ext.drewN ?_ _)))).mono ?_); rintro e w' ⟨rfl, z1, rfl⟩)
      | (go_at_call 61; (with_reducible refine (hcl.out _ (Hr.out.ext (by repeat' (first | exact Ext.refl _ | assumption | refine Ext.alloc ?_ _ | refine Ext.ext ?_ _ | refine Ext.drew ?_ | refine Ext.drewN ?_ _)))).mono ?_); rintro e w' ⟨r, rfl, ho, z2, rfl⟩; have Ho := hid ho; clear ho)
      | (go_at_call 60; (refine (hdl.out _ _ _ Ho.out).mono ?_); rintro e w4 ⟨r2, rfl, hr2, hg⟩; have hx4 : Ext w w4 := Ext.grown (by repeat' (first | exact Ext.refl _ | assumption | refine Ext.alloc ?_ _ | refine Ext.ext ?_ _ | refine Ext.drew ?_ | refine Ext.drewN ?_ _)) hg (fun j hj => Nat.le_trans (Ext.size (by repeat' (first | exact Ext.refl _ | assumption | refine Ext.alloc ?_ _ | refine Ext.ext ?_ _ | refine Ext.drew ?_ | refine Ext.drewN ?_ _))) (own_row Ho.out j hj).1); have Hr2 := hid hr2; have Hx4 := hid hx4; clear hr2 hx4 hg))
    go_ret2
    exact ⟨rfl, Hx4.out.trans (by repeat' (first | exact Ext.refl _ | assumption | refine Ext.alloc ?_ _ | refine Ext.ext ?_ _ | refine Ext.drew ?_ | refine Ext.drewN ?_ _))⟩
end Go.Proofs.YthnfdgbmmiddlaaDoor
