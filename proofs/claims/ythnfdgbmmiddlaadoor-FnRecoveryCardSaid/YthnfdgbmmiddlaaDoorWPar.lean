/- The parity of a block: both sides. -/
import Derived.Test.YthnfdgbmmiddlaaDoorWBlock
namespace Go.Proofs.YthnfdgbmmiddlaaDoor
open Go.RowKit
set_option maxHeartbeats 400000
set_option maxRecDepth 100000
def parL (xs : List ByteArray) : List Int := xs.foldl (fun P s => addL P (lc s) 1) (List.replicate 8 0)
theorem parL_snoc (xs : List ByteArray) (k : Nat) (h : k < xs.length) : parL (xs.take (k + 1)) = addL (parL (xs.take k)) (lc (xs.getD k ByteArray.empty)) 1 := by
  rw [take_snoc xs ByteArray.empty k h, parL, List.foldl_append]
  rfl
theorem parL_zero : isPar (parL []) = true := by decide
theorem parL_par (xs : List ByteArray) (k : Nat) (h : k ≤ xs.length) : isPar (parL (xs.take k)) = true := by
  induction k with
  | zero => rw [List.take_zero]; exact parL_zero
  | succ k ih => rw [parL_snoc xs k (by omega)]; exact addL_par (ih (by omega))
theorem allS_at {xs : List ByteArray} (h : allS xs = true) {k : Nat} (hk : k < xs.length) : itm 8 (xs.getD k ByteArray.empty) = true := List.all_eq_true.1 h k (List.mem_range.2 hk)
theorem impl_parityOf (xs : List ByteArray) (v : Value) (w : World) (h : Rd w 1 v xs.length (vStrs xs)) (h2 : xs.length ≤ 1048576) (ha : allS xs = true) :
    Calls Tryd.prog 56 #[v] w fun e w' => ∃ r, e = .returned r ∧ w'.ownsRow w.heap.size 3 1 r (parL xs).length (vInts (parL xs)) ∧ Ext w w' := by
  obtain ⟨h1, p, cap, rfl, h4⟩ := h
  have H4 := hid h4; clear h4 h1
  have Ha := hid ha; clear ha
  obtain ⟨i0, hi, hz0, hz1, hz2⟩ := info_parts infoInt
  obtain ⟨w1, hmk, hown0, hg0⟩ := run_make_full (P := Tryd.prog) w w.heap.size 25 3 i0 (.int .i64 0) 1 Tryd.underlying25 hi hz0 hz1 .i64 .i64 8 (by rw [hz2]; omega) (by unfold maxLen; omega) (Nat.le_refl _)
  rw [show ((8 : Nat) : Int) = 8 from rfl] at hmk
  have hx1 : Ext w w1 := (Ext.refl w).grown hg0 (fun k h => by cases h)
  have hz : vInts (parL (xs.take 0)) = List.replicate 8 (Value.int .i64 0) := by rw [List.take_zero]; rfl
  have ho0 : w1.ownsRow w.heap.size 3 1 (.slice (some ⟨w.heap.size, 0, none⟩) 8 8) (parL (xs.take 0)).length (vInts (parL (xs.take 0))) := by
    rw [hz, ← made8]
    exact hown0
  have Ho := hid ho0
  have Hx := hid hx1
  clear ho0 hown0 hx1 hg0 hz
  go_enter Tryd.func56, Tryd.ntmps56
  go_wp2
  go_loopw [9, 3] (fun v9 v3 wr => ∃ k : Nat, k ≤ xs.length ∧ v9 = .int .i64 k ∧ wr.ownsRow w.heap.size 3 1 v3 (parL (xs.take k)).length (vInts (parL (xs.take k))) ∧ Ext w wr) (fun v9 _ _ => xs.length - (intOf v9).toNat)
  case atStart => exact ⟨0, Nat.zero_le _, rfl, Ho.out, Hx.out⟩
  case round =>
    obtain ⟨k, hk, rfl, hown, hx⟩ := hrel
    by_cases hlt : k < xs.length
    · obtain ⟨b, off, rfl, h6⟩ := H4.out.resolve_left (by omega)
      have c0 := hx.cell (elem1 Value.string ByteArray.empty xs h6 k hlt)
      have hs := allS_at Ha.out hlt
      have hsn := parL_snoc xs k hlt
      have hp := parL_par xs k hk
      clear h6
      generalize xs.getD k ByteArray.empty = s at c0 hs hsn
      generalize hP : parL (xs.take k) = P at *
      have hic := hid (fun w => impl_itemCode s w hs)
      have had := hid (fun v u w h k => impl_added P (lc s) v u 1 w h k hp (lc_par hs) (by omega))
      have Hown := hid hown
      have Hx1 := hid hx
      have Hsn := hid hsn
      clear hown hx hsn hP hp hs
      go_wp2_with (first
        | (go_at_call 34; refine (hic.out _).mono ?_; rintro e w2 ⟨r, rfl, ho2, hx2⟩; have Ho2 := hid ho2; have Hx2 := hid hx2; clear ho2 hx2)
        | (go_at_call 53; refine (had.out _ _ _ ((Rd.own Hown.out).ext Hx2.out) (Rd.own Ho2.out)).mono ?_; rintro e w3 ⟨r3, rfl, ho3, hx3⟩; have Ho3 := hid ho3; have Hx3 := hid hx3; clear ho3 hx3))
      go_roundw
      case rel => exact ⟨k + 1, by omega, by go_num, by rw [Hsn.out]; exact own_mono Ho3.out (Nat.le_trans Hx1.out.size Hx2.out.size), Hx1.out.trans (Hx2.out.trans Hx3.out)⟩
      case measure => simp [intOf]; omega
    · obtain rfl : k = xs.length := by omega
      rw [List.take_length] at hown
      have Hown := hid hown
      have Hx1 := hid hx
      clear hown hx
      go_wp2
      go_ret
      exact ⟨_, rfl, Hown.out, Hx1.out⟩
theorem spec_l24Parity (xs : List ByteArray) (v : Value) (w : World) (h : Rd w 1 v xs.length (vStrs xs)) (h2 : xs.length ≤ 1048576) (ha : allS xs = true) :
    Calls Tryd.prog 50 #[v] w fun e w' => ∃ r, e = .returned r ∧ w'.ownsRow w.heap.size 3 1 r (parL xs).length (vInts (parL xs)) ∧ Ext w w' := by
  obtain ⟨h1, p, cap, rfl, h4⟩ := h
  have H4 := hid h4; clear h4 h1
  have Ha := hid ha; clear ha
  obtain ⟨i0, hi, hz0, hz1, hz2⟩ := info_parts infoInt
  obtain ⟨w1, hmk, hown0, hg0⟩ := run_make_full (P := Tryd.prog) w w.heap.size 25 3 i0 (.int .i64 0) 1 Tryd.underlying25 hi hz0 hz1 .i64 .i64 8 (by rw [hz2]; omega) (by unfold maxLen; omega) (Nat.le_refl _)
  rw [show ((8 : Nat) : Int) = 8 from rfl] at hmk
  have hx1 : Ext w w1 := (Ext.refl w).grown hg0 (fun k h => by cases h)
  have hz : vInts (parL (xs.take 0)) = List.replicate 8 (Value.int .i64 0) := by rw [List.take_zero]; rfl
  have ho0 : w1.ownsRow w.heap.size 3 1 (.slice (some ⟨w.heap.size, 0, none⟩) 8 8) (parL (xs.take 0)).length (vInts (parL (xs.take 0))) := by
    rw [hz, ← made8]
    exact hown0
  have Ho := hid ho0
  have Hx := hid hx1
  clear ho0 hown0 hx1 hg0 hz
  go_enter Tryd.func50, Tryd.ntmps50
  go_wp2
  go_loopw [4, 3] (fun v4 v3 wr => ∃ k : Nat, k ≤ xs.length ∧ v4 = .int .i64 k ∧ wr.ownsRow w.heap.size 3 1 v3 (parL (xs.take k)).length (vInts (parL (xs.take k))) ∧ Ext w wr) (fun v4 _ _ => xs.length - (intOf v4).toNat)
  case atStart => exact ⟨0, Nat.zero_le _, rfl, Ho.out, Hx.out⟩
  case round =>
    obtain ⟨k, hk, rfl, hown, hx⟩ := hrel
    by_cases hlt : k < xs.length
    · obtain ⟨b, off, rfl, h6⟩ := H4.out.resolve_left (by omega)
      have c0 := hx.cell (elem1 Value.string ByteArray.empty xs h6 k hlt)
      have hs := allS_at Ha.out hlt
      have hsn := parL_snoc xs k hlt
      have hp := parL_par xs k hk
      clear h6
      generalize xs.getD k ByteArray.empty = s at c0 hs hsn
      generalize hP : parL (xs.take k) = P at *
      have had := hid (fun v w h => spec_l24Add P v s 1 1 w h hp hs (.inl ⟨rfl, rfl⟩))
      have Hown := hid hown
      have Hx1 := hid hx
      have Hsn := hid hsn
      clear hown hx hsn hP hp hs
      go_wp2_with (go_at_call 54; refine (had.out _ _ (Rd.own Hown.out)).mono ?_; rintro e w3 ⟨r3, rfl, ho3, hx3⟩; have Ho3 := hid ho3; have Hx3 := hid hx3; clear ho3 hx3)
      go_roundw
      case rel => exact ⟨k + 1, by omega, by go_num, by rw [Hsn.out]; exact own_mono Ho3.out Hx1.out.size, Hx1.out.trans Hx3.out⟩
      case measure => simp [intOf]; omega
    · obtain rfl : k = xs.length := by omega
      rw [List.take_length] at hown
      have Hown := hid hown
      have Hx1 := hid hx
      clear hown hx
      go_wp2
      go_ret
      exact ⟨_, rfl, Hown.out, Hx1.out⟩
end Go.Proofs.YthnfdgbmmiddlaaDoor
