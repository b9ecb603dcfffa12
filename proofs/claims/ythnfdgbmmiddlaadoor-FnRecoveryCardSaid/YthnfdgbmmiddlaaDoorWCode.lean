/- Codes of items. -/
import Derived.Test.YthnfdgbmmiddlaaDoorWItem
namespace Go.Proofs.YthnfdgbmmiddlaaDoor
open Go.RowKit
set_option maxHeartbeats 400000
set_option maxRecDepth 100000
def lcTo (s : ByteArray) (k : Nat) : List Int := (List.range 8).map (fun i => if i < k then ((s.data.toList.getD i 0).toNat : Int) - 96 else 0)
theorem made8 : (madeCells (Value.int .i64 0).cells (8 * 1)).toList = List.replicate 8 (Value.int .i64 0) := by kernel_rfl
/-- The code of an item. -/
def lc (s : ByteArray) : List Int := lcTo s s.size
theorem lcTo_len (s : ByteArray) (k : Nat) : (lcTo s k).length = 8 := by simp [lcTo]
theorem lc_len (s : ByteArray) : (lc s).length = 8 := lcTo_len s _
theorem lcTo_zero (s : ByteArray) : vInts (lcTo s 0) = List.replicate 8 (Value.int .i64 0) := rfl
theorem lcTo_set (s : ByteArray) (k : Nat) : (vInts (lcTo s k)).set k (.int .i64 (((s.data.toList.getD k 0).toNat : Int) - 96)) = vInts (lcTo s (k + 1)) := by
  apply List.ext_getElem (by simp [vInts, lcTo])
  intro i h1 h2
  simp only [vInts, lcTo, List.getElem_set, List.getElem_map, List.getElem_range]
  split
  · rename_i e; subst e; rw [if_pos (by omega)]
  · rename_i e
    have : (i < k) = (i < k + 1) := by apply propext; omega
    simp only [this]
theorem itm_iff {m : Nat} {s : ByteArray} (h : itm m s = true) : s.size ≤ m ∧ ∀ i, (hi : i < s.size) → 97 ≤ s[i].toNat ∧ s[i].toNat ≤ 122 := by
  simp only [itm, Bool.and_eq_true, decide_eq_true_eq] at h
  refine ⟨h.2, fun i hi => ?_⟩
  have := (List.all_eq_true.1 h.1) i (List.mem_range.2 (by simpa using hi))
  rw [← byte_at s i hi] at this
  simpa [isLet] using this
theorem lc_bd {s : ByteArray} (h : itm 8 s = true) (i : Nat) : 0 ≤ (lc s).getD i 0 ∧ (lc s).getD i 0 ≤ 26 := by
  obtain ⟨h1, h2⟩ := itm_iff h
  by_cases hi : i < 8
  · rw [lc, lcTo, List.getD_eq_getElem?_getD, List.getElem?_map, List.getElem?_range hi]
    simp only [Option.map_some, Option.getD_some]
    split
    · rename_i hs
      have := h2 i hs
      rw [byte_at s i hs] at this
      omega
    · omega
  · rw [List.getD_eq_getElem?_getD, List.getElem?_eq_none (by rw [lc_len]; omega)]; simp
theorem impl_itemCode (s : ByteArray) (w : World) (h : itm 8 s = true) :
    Calls Tryd.prog 34 #[.string s] w fun e w' => ∃ r, e = .returned r ∧ w'.ownsRow w.heap.size 3 1 r (lc s).length (vInts (lc s)) ∧ Ext w w' := by
  obtain ⟨i0, hi, hz0, hz1, hz2⟩ := info_parts infoInt
  obtain ⟨w1, hmk, hown0, hg0⟩ := run_make_full (P := Tryd.prog) w w.heap.size 25 3 i0 (.int .i64 0) 1 Tryd.underlying25 hi hz0 hz1 .i64 .i64 8 (by rw [hz2]; omega) (by unfold maxLen; omega) (Nat.le_refl _)
  rw [show ((8 : Nat) : Int) = 8 from rfl] at hmk
  have Hown := hid hown0; clear hown0
  have hx1 : Ext w w1 := (Ext.refl w).grown hg0 (fun k h => by cases h)
  have Hx := hid hx1; clear hx1 hg0
  obtain ⟨h8, hb⟩ := itm_iff h
  have Hb := hid hb; clear hb
  go_enter Tryd.func34, Tryd.ntmps34
  go_wp2
  go_loopw [8] (fun v4 wr => ∃ (k : Nat), k ≤ s.size ∧ v4 = .int .i64 k ∧ wr.ownsRow w.heap.size 3 1 (.slice (some ⟨w.heap.size, 0, none⟩) 8 8) 8 (vInts (lcTo s k)) ∧ Ext w wr) (fun v4 _ => s.size - (intOf v4).toNat)
  case atStart => exact ⟨0, Nat.zero_le _, rfl, by rw [lcTo_zero, ← made8]; exact Hown.out, Hx.out⟩
  case round =>
    obtain ⟨k, hk, rfl, hown, hx⟩ := hrel
    by_cases hlt : k < s.size
    · have bb := Hb.out k hlt
      have e1 := byte_at s k hlt
      have hset := lcTo_set s k
      rw [← e1] at hset
      have Hset := hid hset; clear hset e1
      obtain ⟨⟨u, c1⟩, f1⟩ := own_cell hown k (by omega)
      have Ho := hid hown
      have Hxx := hid hx
      clear hx hown
      go_wp2
      go_roundw
      case rel =>
        have hst := World.ownsRow.stored Ho.out k (.int .i64 ((s[k].toNat : Int) - 96))
        rw [Hset.out] at hst
        have e2 : (s[k].toNat : Int) - 97 + 1 = (s[k].toNat : Int) - 96 := by omega
        refine ⟨k + 1, by omega, by go_num, ?_, ?_⟩
        · rw [e2]; exact hst.1
        · exact Ext.setCell Hxx.out (Nat.le_refl _) _
      case measure => simp [intOf]; omega
    · obtain rfl : k = s.size := by omega
      have K := hid (And.intro hown hx); clear hown hx
      go_wp2
      go_ret
      exact ⟨_, rfl, by rw [lc_len]; exact K.out.1, K.out.2⟩
theorem spec_l24Code (s : ByteArray) (w : World) (h : itm 8 s = true) :
    Calls Tryd.prog 39 #[.string s] w fun e w' => ∃ r, e = .returned r ∧ w'.ownsRow w.heap.size 3 1 r (lc s).length (vInts (lc s)) ∧ Ext w w' := by
  obtain ⟨i0, hi, hz0, hz1, hz2⟩ := info_parts infoInt
  obtain ⟨w1, hmk, hown0, hg0⟩ := run_make_full (P := Tryd.prog) w w.heap.size 25 3 i0 (.int .i64 0) 1 Tryd.underlying25 hi hz0 hz1 .i64 .i64 8 (by rw [hz2]; omega) (by unfold maxLen; omega) (Nat.le_refl _)
  rw [show ((8 : Nat) : Int) = 8 from rfl] at hmk
  have Hown := hid hown0; clear hown0
  have hx1 : Ext w w1 := (Ext.refl w).grown hg0 (fun k h => by cases h)
  have Hx := hid hx1; clear hx1 hg0
  obtain ⟨h8, hb⟩ := itm_iff h
  have Hb := hid hb; clear hb
  go_enter Tryd.func39, Tryd.ntmps39
  go_wp2
  go_loopw [4] (fun v4 wr => ∃ (k : Nat), k ≤ s.size ∧ v4 = .int .i64 k ∧ wr.ownsRow w.heap.size 3 1 (.slice (some ⟨w.heap.size, 0, none⟩) 8 8) 8 (vInts (lcTo s k)) ∧ Ext w wr) (fun v4 _ => s.size - (intOf v4).toNat)
  case atStart => exact ⟨0, Nat.zero_le _, rfl, by rw [lcTo_zero, ← made8]; exact Hown.out, Hx.out⟩
  case round =>
    obtain ⟨k, hk, rfl, hown, hx⟩ := hrel
    by_cases hlt : k < s.size
    · have bb := Hb.out k hlt
      have e1 := byte_at s k hlt
      have hset := lcTo_set s k
      rw [← e1] at hset
      have Hset := hid hset; clear hset e1
      obtain ⟨⟨u, c1⟩, f1⟩ := own_cell hown k (by omega)
      have Ho := hid hown
      have Hxx := hid hx
      clear hx hown
      go_wp2
      go_roundw
      case rel =>
        have hst := World.ownsRow.stored Ho.out k (.int .i64 ((s[k].toNat : Int) - 96))
        rw [Hset.out] at hst
        have e2 : (s[k].toNat : Int) - 97 + 1 = (s[k].toNat : Int) - 96 := by omega
        refine ⟨k + 1, by omega, by go_num, ?_, ?_⟩
        · rw [e2]; exact hst.1
        · exact Ext.setCell Hxx.out (Nat.le_refl _) _
      case measure => simp [intOf]; omega
    · obtain rfl : k = s.size := by omega
      have K := hid (And.intro hown hx); clear hown hx
      go_wp2
      go_ret
      exact ⟨_, rfl, by rw [lc_len]; exact K.out.1, K.out.2⟩
theorem spec_l24Item (s : ByteArray) (w : World) (h : s.size ≤ 1048576) :
    Calls Tryd.prog 38 #[.string s] w fun e w' => e = .returned (.bool (itm 8 s)) ∧ Ext w w' := by
  go_enter Tryd.func38, Tryd.ntmps38
  go_wp2_with (go_at_call 74; refine (spec_l4Letters s 8 _ h (by decide)).mono ?_; rintro e w' ⟨rfl, z1, rfl⟩)
  go_ret
  exact ⟨rfl, (by repeat' (first | exact Ext.refl _ | assumption | refine Ext.alloc ?_ _ | refine Ext.ext ?_ _ | refine Ext.drew ?_ | refine Ext.drewN ?_ _))⟩
theorem impl_ItemCode (s : ByteArray) (w : World) (h : s.size ≤ 1048576) :
    Calls Tryd.prog 7 #[.string s] w fun e w' => ∃ r, e = .returned (.tuple #[r, .bool (itm 8 s)]) ∧ w'.ownsRow w.heap.size 3 1 r (if itm 8 s then lc s else []).length (vInts (if itm 8 s then lc s else [])) ∧ Ext w w' := by
  cases hi : itm 8 s
  · have hI := fun w => impl_isItem s w h
    rw [hi] at hI
    have HI := hid hI
    clear hI
    go_enter Tryd.func7, Tryd.ntmps7
    go_wp2_with (go_at_call 33; refine (HI.out _).mono ?_; rintro e w' ⟨rfl, z1, rfl⟩)
    go_ret2
    exact ⟨_, rfl, World.ownsRow_nil _ _ _ _, (by repeat' (first | exact Ext.refl _ | assumption | refine Ext.alloc ?_ _ | refine Ext.ext ?_ _ | refine Ext.drew ?_ | refine Ext.drewN ?_ _))⟩
  · have hI := fun w => impl_isItem s w h
    rw [hi] at hI
    have HI := hid hI
    have Hi := hid hi
    clear hI
    go_enter Tryd.func7, Tryd.ntmps7
    go_wp2_with (first | (go_at_call 33; refine (HI.out _).mono ?_; rintro e w' ⟨rfl, z1, rfl⟩) | (go_at_call 34; refine (impl_itemCode s _ Hi.out).mono ?_; rintro e w' ⟨r, rfl, ho, z2, rfl⟩))
    go_ret2
    exact ⟨_, rfl, own_mono ho (by simp [World.size_ext]), (by repeat' (first | exact Ext.refl _ | assumption | refine Ext.alloc ?_ _ | refine Ext.ext ?_ _ | refine Ext.drew ?_ | refine Ext.drewN ?_ _))⟩
theorem spec_ItemCode (s : ByteArray) (w : World) (h : s.size ≤ 1048576) :
    Calls Tryd.prog 9 #[.string s] w fun e w' => ∃ r, e = .returned (.tuple #[r, .bool (itm 8 s)]) ∧ w'.ownsRow w.heap.size 3 1 r (if itm 8 s then lc s else []).length (vInts (if itm 8 s then lc s else [])) ∧ Ext w w' := by
  cases hi : itm 8 s
  · have hI := fun w => spec_l24Item s w h
    rw [hi] at hI
    have HI := hid hI
    clear hI
    go_enter Tryd.func9, Tryd.ntmps9
    go_wp2_with (go_at_call 38; refine (HI.out _).mono ?_; rintro e w' ⟨rfl, z1, rfl⟩)
    go_ret2
    exact ⟨_, rfl, by simpa [vInts] using World.ownsRow_lit (base := w.heap.size) (e := 3) (size := 1) _ #[] 0 (by simp [World.size_ext]) (Nat.zero_le _) rfl, (by repeat' (first | exact Ext.refl _ | assumption | refine Ext.alloc ?_ _ | refine Ext.ext ?_ _ | refine Ext.drew ?_ | refine Ext.drewN ?_ _))⟩
  · have hI := fun w => spec_l24Item s w h
    rw [hi] at hI
    have HI := hid hI
    have Hi := hid hi
    clear hI
    go_enter Tryd.func9, Tryd.ntmps9
    go_wp2_with (first | (go_at_call 38; refine (HI.out _).mono ?_; rintro e w' ⟨rfl, z1, rfl⟩) | (go_at_call 39; refine (spec_l24Code s _ Hi.out).mono ?_; rintro e w' ⟨r, rfl, ho, z2, rfl⟩))
    go_ret2
    exact ⟨_, rfl, own_mono ho (by simp [World.size_ext]), (by repeat' (first | exact Ext.refl _ | assumption | refine Ext.alloc ?_ _ | refine Ext.ext ?_ _ | refine Ext.drew ?_ | refine Ext.drewN ?_ _))⟩
end Go.Proofs.YthnfdgbmmiddlaaDoor
