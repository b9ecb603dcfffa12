/- The item that a gapped block lacks: the reference's side. -/
import Derived.Test.YthnfdgbmmiddlaaDoorWRec2
import Derived.Test.YthnfdgbmmiddlaaDoorWApp
namespace Go.Proofs.YthnfdgbmmiddlaaDoor
open Go.RowKit
set_option maxHeartbeats 400000
set_option maxRecDepth 100000
theorem minus_par {P : List Int} (hP : isPar P = true) (ss : List ByteArray) (m k : Nat) : isPar (minus P (othTo ss m k)) = true := by
  rw [minus_is hP]
  exact addL_par hP
theorem minus_in (P : List Int) (ss : List ByteArray) (m k : Nat) (h : k ≠ m) : minus P (othTo ss m (k + 1)) = addL (minus P (othTo ss m k)) (lc (ss.getD k ByteArray.empty)) 26 := by
  rw [othTo_in ss m k h, minus_snoc]
theorem oth_mem {ss : List ByteArray} {m k : Nat} (h : k ≠ m) (hk : k < ss.length) (ha : allS (oth ss m) = true) : itm 8 (ss.getD k ByteArray.empty) = true := by
  have hm : ss.getD k ByteArray.empty ∈ oth ss m := by
    rw [oth, othTo]
    refine List.mem_map.2 ⟨k, List.mem_filter.2 ⟨List.mem_range.2 hk, by simpa using h⟩, rfl⟩
  obtain ⟨j, hj, e⟩ := List.mem_iff_getElem.1 hm
  have := allS_at ha hj
  rw [List.getD_eq_getElem?_getD, List.getElem?_eq_getElem hj] at this
  rw [← e]
  exact this
theorem oth_all {ss : List ByteArray} {m : Nat} (h : ∀ k, k < ss.length → k ≠ m → itm 8 (ss.getD k ByteArray.empty) = true) : allS (oth ss m) = true := by
  refine allTo fun j hj => ?_
  have hm : (oth ss m).getD j ByteArray.empty ∈ oth ss m := by
    rw [List.getD_eq_getElem?_getD, List.getElem?_eq_getElem hj]
    exact List.getElem_mem hj
  rw [oth, othTo] at hm
  obtain ⟨k, hk, e⟩ := List.mem_map.1 hm
  obtain ⟨h1, h2⟩ := List.mem_filter.1 hk
  have := h k (List.mem_range.1 h1) (by simpa using h2)
  rw [e] at this
  exact this
theorem spec_l24Recover (ss : List ByteArray) (xs : List Int) (m : Nat) (v v' : Value) (w : World) (h : Rd w 1 v ss.length (vStrs ss)) (k : Rd w 1 v' xs.length (vInts xs)) (h2 : ss.length ≤ 1048576) (hP : isPar xs = true) (ha : allS (oth ss m) = true) :
    Calls Tryd.prog 63 #[v, .int .i64 m, v'] w fun e w' => e = .returned (.tuple #[.string (ofT (recC ss m xs)), .bool (ofB (recC ss m xs))]) ∧ Ext w w' := by
  have hC : isPar (recC ss m xs) = true := addL_par hP
  have hfin : minus xs (othTo ss m ss.length) = recC ss m xs := by rw [recC, ← minus_is hP, Int.toNat_natCast]; rfl
  have hoT : ofT (recC ss m xs) = (if okOf (recC ss m xs) then ptext ((recC ss m xs).take (lead (recC ss m xs))) else ⟨#[]⟩) := by rw [ofT, ofB, hC, Bool.true_and]
  have hoB : ofB (recC ss m xs) = okOf (recC ss m xs) := by rw [ofB, hC, Bool.true_and]
  have hof := hid (fun v w h => spec_l24Of (recC ss m xs) v w h hC)
  rw [← hoT, ← hoB] at hof
  have hst := fun k => minus_in xs ss m k
  have hpr := fun k => minus_par hP ss m k
  have hit := fun k h hk => oth_mem (ss := ss) (m := m) (k := k) h hk ha
  have hbe : minus xs (othTo ss m 0) = xs := rfl
  generalize recC ss m xs = C at *
  have Hfin := hid hfin
  have Hst := hid hst
  have Hpr := hid hpr
  have Hit := hid hit
  have Hbe := hid hbe
  have h8 := isPar_len hP
  have how := hid (fun w h => spec_l1Own xs v' w h (by omega))
  obtain ⟨h1, p, cap, rfl, h4⟩ := h
  have H4 := hid h4; clear h4 h1
  have Kr := hid k
  clear k hfin hst hpr hit hbe hC hoT hoB ha hP h8
  go_enter Tryd.func63, Tryd.ntmps63
  go_wp2_with (go_at_call 79; (refine (how.out _ (Kr.out.ext (by repeat' (first | exact Ext.refl _ | assumption | refine Ext.alloc ?_ _ | refine Ext.ext ?_ _ | refine Ext.drew ?_ | refine Ext.drewN ?_ _)))).mono ?_); rintro e w1 ⟨r, rfl, ho, hx⟩; have Ho := hid ho; have Hx := hid hx; clear ho hx)
  go_loopw [9, 8] (fun v9 v8 wr => ∃ k : Nat, k ≤ ss.length ∧ v9 = .int .i64 k ∧ wr.ownsRow w.heap.size 3 1 v8 (minus xs (othTo ss m k)).length (vInts (minus xs (othTo ss m k))) ∧ Ext w wr) (fun v9 _ _ => ss.length - (intOf v9).toNat)
  case atStart => exact ⟨0, Nat.zero_le _, rfl, by rw [Hbe.out]; exact Ho.out, Hx.out⟩
  case round =>
    obtain ⟨k, hk, rfl, hown, hx⟩ := hrel
    by_cases hlt : k < ss.length
    · by_cases hkm : k = m
      · subst hkm
        have hown' := hown
        rw [← othTo_at ss k] at hown'
        have Hown := hid hown'
        have Hx1 := hid hx
        clear hown hown' hx
        go_wp2
        go_roundw
        case rel => exact ⟨k + 1, by omega, by go_num, Hown.out, Hx1.out⟩
        case measure => simp [intOf]; omega
      · obtain ⟨b, off, rfl, h6⟩ := H4.out.resolve_left (by omega)
        have c0 := hx.cell (elem1 Value.string ByteArray.empty ss h6 k hlt)
        have t1 : decide ((k : Int) = (m : Int)) = false := by simp; omega
        have hkm' : ¬ (k : Int) = (m : Int) := by omega
        have hs := Hit.out k hkm hlt
        have hsn := Hst.out k hkm
        have hp := Hpr.out k
        clear h6
        generalize ss.getD k ByteArray.empty = s at c0 hs hsn
        generalize hP : minus xs (othTo ss m k) = P at *
        have had := hid (fun v w h => spec_l24Add P v s (-1) 26 w h hp hs (.inr ⟨rfl, rfl⟩))
        have Hown := hid hown
        have Hx1 := hid hx
        have Hsn := hid hsn
        clear hown hx hsn hP hp hs
        go_wp2_with (go_at_call 54; refine (had.out _ _ (Rd.own Hown.out)).mono ?_; rintro e w3 ⟨r3, rfl, ho3, hx3⟩; have Ho3 := hid ho3; have Hx3 := hid hx3; clear ho3 hx3)
        go_roundw
        case rel => exact ⟨k + 1, by omega, by go_num, by rw [Hsn.out]; exact own_mono Ho3.out Hx1.out.size, Hx1.out.trans Hx3.out⟩
        case measure => simp [intOf]; omega
    · obtain rfl : k = ss.length := by omega
      rw [Hfin.out] at hown
      have Hown := hid hown
      have Hx1 := hid hx
      clear hown hx
      go_wp2_with (go_at_call 45; refine (hof.out _ _ (Rd.own Hown.out)).mono ?_; rintro e w3 ⟨rfl, hx3⟩; have Hx3 := hid hx3; clear hx3)
      go_ret2
      exact ⟨rfl, Hx1.out.trans Hx3.out⟩
end Go.Proofs.YthnfdgbmmiddlaaDoor
