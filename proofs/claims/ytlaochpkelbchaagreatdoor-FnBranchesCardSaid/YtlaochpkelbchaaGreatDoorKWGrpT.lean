/- The text of a group: both sides. -/
import Derived.Test.YtlaochpkelbchaaGreatDoorKWGrp2
namespace Go.Proofs.YtlaochpkelbchaaGreatDoor
open Go.RowKit
set_option maxHeartbeats 400000
set_option maxRecDepth 100000
def COM : ByteArray := ⟨#[44]⟩
def sepT (k : Nat) : ByteArray := if k = 0 then ⟨#[]⟩ else COM
/-- The first k numbers, with commas between them. -/
def numsTo (xs : List Int) : Nat → ByteArray
  | 0 => ⟨#[]⟩
  | k + 1 => numsTo xs k ++ sepT k ++ itoaS (xs.getD k 0)
theorem empty_app (a : ByteArray) : (⟨#[]⟩ : ByteArray) ++ a = a := by
  apply ByteArray.ext
  apply Array.ext'
  simp
theorem app_empty (a : ByteArray) : a ++ (⟨#[]⟩ : ByteArray) = a := by
  apply ByteArray.ext
  apply Array.ext'
  simp
theorem numsTo_join (d : Int) (r : List Int) : ∀ k, k ≤ r.length → (numsTo (d :: r) (k + 1)).data.toList = (itoaS d).data.toList ++ Lib.joinTail COM.data.toList ((r.map (fun x => (itoaS x).data.toList)).take k)
  | 0, _ => by simp [numsTo, sepT, Lib.joinTail]
  | k + 1, h => by
    have hk : (r.map (fun x => (itoaS x).data.toList))[k]? = some (itoaS (r.getD k 0)).data.toList := by
      rw [List.getElem?_map, List.getElem?_eq_getElem (by omega), List.getD_eq_getElem?_getD, List.getElem?_eq_getElem (by omega)]
      rfl
    rw [Lib.joinTail_take_succ _ _ _ _ hk, numsTo]
    have ih := numsTo_join d r k (by omega)
    have e : sepT (k + 1) = COM := by rw [sepT, if_neg (by omega)]
    rw [e]
    simp only [ByteArray.data_append, Array.toList_append, ih, List.getD_cons_succ, List.append_assoc]
theorem nums_join {xs : List Int} (h : 0 < xs.length) : joinS (xs.map itoaS) COM = numsTo xs xs.length := by
  cases xs with
  | nil => simp at h
  | cons d r =>
    apply ByteArray.ext
    apply Array.ext'
    have := numsTo_join d r r.length (Nat.le_refl _)
    rw [List.length_cons, this, joinS, List.map_map, List.map_cons, Lib.join_cons]
    congr 2
    rw [List.take_of_length_le (by simp)]
    rfl
theorem itoa7 {n : Int} (h : 0 ≤ n ∧ n ≤ 9) : (itoaS n).size = 1 := by
  obtain ⟨m, rfl⟩ := Int.eq_ofNat_of_zero_le h.1
  rw [itoaS_small (by omega)]
  rfl
theorem numsTo_size {xs : List Int} (h : ∀ i, i < xs.length → 0 ≤ xs.getD i 0 ∧ xs.getD i 0 ≤ 9) : ∀ k, k ≤ xs.length → (numsTo xs k).size ≤ 2 * k
  | 0, _ => Nat.le_refl _
  | k + 1, hk => by
    have h1 := itoa7 (h k (by omega))
    have h2 := numsTo_size h k (by omega)
    have h3 : (sepT k).size ≤ 1 := by unfold sepT; split <;> decide
    rw [numsTo, ByteArray.size_append, ByteArray.size_append]
    omega
def COL : ByteArray := ⟨#[58, 32]⟩
def grpT (s : ByteArray) (xs : List Int) : ByteArray := s ++ COL ++ numsTo xs xs.length
def grT (s : ByteArray) (xs : List Int) : ByteArray := if okG s xs then grpT s xs else ⟨#[]⟩
theorem grT_no {s : ByteArray} {xs : List Int} (h : okG s xs = false) : grT s xs = ⟨#[]⟩ := by rw [grT, h]; rfl
theorem grT_yes {s : ByteArray} {xs : List Int} (h : okG s xs = true) : grT s xs = grpT s xs := by rw [grT, h]; rfl
theorem impl_joinInts (xs : List Int) (v : Value) (w : World) (h : Rd w 1 v xs.length (vInts xs)) (h0 : 0 < xs.length) (h2 : xs.length ≤ 1048576) (hb : ∀ i, i < xs.length → 0 ≤ xs.getD i 0 ∧ xs.getD i 0 ≤ 9) :
    Calls Tryz.prog 39 #[v, .string ⟨#[44]⟩] w fun e w' => e = .returned (.string (numsTo xs xs.length)) ∧ Ext w w' := by
  obtain ⟨h1, p, cap, rfl, h4⟩ := h
  have H4 := hid h4; clear h4 h1
  have hJ := nums_join h0
  have hsz := numsTo_size hb xs.length (Nat.le_refl _)
  have hjn : Hid (∀ v B w, w.ownsRow B 9 1 v (xs.map itoaS).length (vStrs (xs.map itoaS)) → Calls Tryz.prog 67 #[v, .string COM] w fun e w' => e = .returned (.string (numsTo xs xs.length)) ∧ Ext w w') := fun v B w h => by
    have := strings_Join (xs.map itoaS) COM v B w h (by rw [List.length_map]; exact h2) (by rw [hJ]; omega)
    rwa [hJ] at this
  rw [show COM = (⟨#[44]⟩ : ByteArray) from rfl, List.length_map] at hjn
  generalize numsTo xs xs.length = J at *
  have HB := hid hb
  clear hJ hsz h0 hb
  obtain ⟨i0, hi, hz0, hz1, hz2⟩ := info_parts infoStr
  obtain ⟨w1, hmk, hown0, hg0⟩ := run_make_full (P := Tryz.prog) w w.heap.size 68 9 i0 (.string ByteArray.empty) 1 Tryz.underlying68 hi hz0 hz1 .i64 .i64 xs.length (by rw [hz2]; omega) (by unfold maxLen; omega) (Nat.le_refl _)
  have Hown := hid hown0; clear hown0
  have hx1 : Ext w w1 := (Ext.refl w).grown hg0 (fun k h => by cases h)
  have Hx := hid hx1; clear hx1 hg0
  go_enter Tryz.func39, Tryz.ntmps39
  go_wp2
  go_loopw [13] (fun v13 wr => ∃ (k : Nat) (L : List Value), k ≤ xs.length ∧ v13 = .int .i64 k ∧ wr.ownsRow w.heap.size 9 1 (.slice (some ⟨w.heap.size, 0, none⟩) xs.length xs.length) xs.length L ∧ Agree L (vStrs (xs.map itoaS)) k ∧ Ext w wr) (fun v13 _ => xs.length - (intOf v13).toNat)
  case atStart => exact ⟨0, _, Nat.zero_le _, rfl, Hown.out, Agree.zero (by rw [vStrs_len, List.length_map]; simpa using Hown.out.1), Hx.out⟩
  case round =>
    obtain ⟨k, L, hk, rfl, hown, hag, hx⟩ := hrel
    have Hag := hid hag; clear hag
    by_cases hlt : k < xs.length
    · obtain ⟨b, off, rfl, h6⟩ := H4.out.resolve_left (by omega)
      have c0 := hx.cell (elem1 (Value.int .i64) 0 xs h6 k hlt)
      have H6 := hid h6; clear h6
      have hg : (vStrs (xs.map itoaS))[k]? = some (.string (itoaS (xs.getD k 0))) := by
        rw [vStrs_get _ _ (by rw [List.length_map]; exact hlt), List.getD_eq_getElem?_getD, List.getElem?_map, List.getD_eq_getElem?_getD, List.getElem?_eq_getElem hlt]; rfl
      have hbk := HB.out k hlt
      generalize xs.getD k 0 = x at c0 hg hbk
      have hit := hid (fun w => strconv_Itoa_lt x w hbk.1 (by omega))
      have Hg := hid hg; clear hg
      obtain ⟨⟨u, c1⟩, f1⟩ := own_cell hown k (by omega)
      go_wp2_with (go_at_call 66; refine (hit.out _).mono ?_; rintro e w' ⟨rfl, rfl⟩)
      go_roundw
      case rel =>
        have hst := World.ownsRow.stored hown k (.string (itoaS x))
        exact ⟨k + 1, _, by omega, by go_num, hst.1, Hag.out.set Hg.out, hx.grown hst.2 (fun j hj => by cases hj; exact Nat.le_refl _)⟩
      case measure => simp [intOf]; omega
    · have hL : L = vStrs (xs.map itoaS) := Hag.out.all' (by rw [vStrs_len, List.length_map]; omega)
      subst hL
      have K := hid (And.intro hown hx)
      clear hown hx
      go_wp2_with (go_at_call 67; (refine (hjn.out _ _ _ K.out.1).mono ?_); rintro e w2 ⟨rfl, hx2⟩)
      go_ret
      exact ⟨rfl, K.out.2.trans hx2⟩
theorem impl_GroupText (s : ByteArray) (ms : List Int) (u : Value) (w : World) (k : Rd w 1 u ms.length (vInts ms)) (hs : s.size ≤ 1048576) (k2 : ms.length ≤ 1048576) :
    Calls Tryz.prog 14 #[.agg #[.string s, u]] w fun e w' => e = .returned (.tuple #[.string (grT s ms), .bool (okG s ms)]) ∧ Ext w w' := by
  have Kr := hid k
  clear k
  have hg := hid (fun w k => impl_isGroup s ms u w hs k k2)
  cases e1 : okG s ms
  · rw [grT_no e1]
    rw [e1] at hg
    clear e1
    go_enter Tryz.func14, Tryz.ntmps14
    go_wp2_with (go_at_call 25; refine (hg.out _ (Kr.out.ext (by repeat' (first | exact Ext.refl _ | assumption | refine Ext.alloc ?_ _ | refine Ext.ext ?_ _ | refine Ext.drew ?_ | refine Ext.drewN ?_ _)))).mono ?_; rintro e w' ⟨rfl, z1, rfl⟩)
    go_ret2
    exact ⟨rfl, (by repeat' (first | exact Ext.refl _ | assumption | refine Ext.alloc ?_ _ | refine Ext.ext ?_ _ | refine Ext.drew ?_ | refine Ext.drewN ?_ _))⟩
  · rw [grT_yes e1]
    rw [e1] at hg
    obtain ⟨hn, h0, hr⟩ := okG_all e1
    have hsz := gnm_size hn
    have hb : ∀ i, i < ms.length → 0 ≤ ms.getD i 0 ∧ ms.getD i 0 ≤ 9 := fun i hi => by have := risB_in hr i hi; omega
    have hns := numsTo_size hb ms.length (Nat.le_refl _)
    have hj := hid (fun w k => impl_joinInts ms u w k h0 k2 hb)
    have hT : Hid (grpT s ms = s ++ ⟨#[58, 32]⟩ ++ numsTo ms ms.length) := rfl
    clear e1 hn h0 hr hb
    generalize numsTo ms ms.length = N at *
    go_enter Tryz.func14, Tryz.ntmps14
    repeat (first | (go_wp2_with ((go_at_call 25; refine (hg.out _ (Kr.out.ext (by repeat' (first | exact Ext.refl _ | assumption | refine Ext.alloc ?_ _ | refine Ext.ext ?_ _ | refine Ext.drew ?_ | refine Ext.drewN ?_ _)))).mono ?_; rintro e w' ⟨rfl, z1, rfl⟩)); refine wp_region_ext (by kernel_rfl) (by kernel_rfl) ?_; (repeat (go_big_quiet_step ((go_at_call 39; exact Calls.quiet_ext (hj.out _ (Kr.out.ext (by repeat' (first | exact Ext.refl _ | assumption | refine Ext.alloc ?_ _ | refine Ext.ext ?_ _ | refine Ext.drew ?_ | refine Ext.drewN ?_ _)))))))); refine wpQuiet_nil ?_; rintro _ ⟨zq, rfl⟩))
    go_wp2_with ((go_at_call 25; refine (hg.out _ (Kr.out.ext (by repeat' (first | exact Ext.refl _ | assumption | refine Ext.alloc ?_ _ | refine Ext.ext ?_ _ | refine Ext.drew ?_ | refine Ext.drewN ?_ _)))).mono ?_; rintro e w' ⟨rfl, z1, rfl⟩))
    go_ret2
    exact ⟨by rw [hT.out]; rfl, (by repeat' (first | exact Ext.refl _ | assumption | refine Ext.alloc ?_ _ | refine Ext.ext ?_ _ | refine Ext.drew ?_ | refine Ext.drewN ?_ _))⟩
theorem grpT_step (s : ByteArray) (ms : List Int) (k : Nat) : s ++ COL ++ numsTo ms (k + 1) = s ++ COL ++ numsTo ms k ++ sepT k ++ itoaS (ms.getD k 0) := by
  rw [numsTo]
  simp only [ByteArray.append_assoc]
theorem spec_l21Text (s : ByteArray) (ms : List Int) (u : Value) (w : World) (k : Rd w 1 u ms.length (vInts ms)) (hs : s.size ≤ 1048576) (k2 : ms.length ≤ 1048576) (hb : ∀ i, i < ms.length → 0 ≤ ms.getD i 0 ∧ ms.getD i 0 ≤ 9) :
    Calls Tryz.prog 41 #[.agg #[.string s, u]] w fun e w' => e = .returned (.string (grpT s ms)) ∧ Ext w w' := by
  obtain ⟨h1, p, cap, rfl, h4⟩ := k
  have H4 := hid h4
  have HB := hid hb
  have hns := numsTo_size hb
  clear h1 h4 hb
  have hT : Hid (grpT s ms = s ++ COL ++ numsTo ms ms.length) := rfl
  have hz : Hid (s ++ ⟨#[58, 32]⟩ = s ++ COL ++ numsTo ms 0) := by show _ = _; rw [show numsTo ms 0 = ⟨#[]⟩ from rfl, app_empty]; rfl
  have hst := hid (grpT_step s ms)
  have hsz : ∀ k, k ≤ ms.length → (s ++ COL ++ numsTo ms k).size ≤ 1048600 + 2 * ms.length := fun k hk => by
    have := hns k hk
    rw [ByteArray.size_append, ByteArray.size_append]
    show s.size + 2 + _ ≤ _
    omega
  have Hsz := hid hsz
  clear hns hsz
  have hb1 : (w.alloc (.cells #[.string s, .slice p ms.length cap] 28)).cell? ⟨w.heap.size, 1, none⟩ = some (.slice p ms.length cap) := by rw [cell_of_row _ _ 1 _ _ (0, 0) (heap_at _ rfl)]; rfl
  have Hb1 := hid hb1
  have hx0 : Ext w (w.alloc (.cells #[.string s, .slice p ms.length cap] 28)) := (by repeat' (first | exact Ext.refl _ | assumption | refine Ext.alloc ?_ _ | refine Ext.ext ?_ _ | refine Ext.drew ?_ | refine Ext.drewN ?_ _))
  have Hx0 := hid hx0
  clear hb1 hx0
  go_enter Tryz.func41, Tryz.ntmps41
  go_wp2
  generalize hw0 : (w.alloc (.cells #[.string s, .slice p ms.length cap] 28)) = W at *
  clear hw0
  go_loopw [4, 3] (fun v4 v3 wr => ∃ k : Nat, k ≤ ms.length ∧ v4 = .int .i64 k ∧ v3 = .string (s ++ COL ++ numsTo ms k) ∧ Ext W wr) (fun v4 _ _ => ms.length - (intOf v4).toNat)
  case atStart => exact ⟨0, Nat.zero_le _, rfl, congrArg Value.string hz.out, Ext.refl _⟩
  case round =>
    obtain ⟨k, hk, rfl, rfl, hx⟩ := hrel
    have b1 := hx.cell Hb1.out
    have Hx := hid hx
    have hsz := Hsz.out k hk
    clear hx
    by_cases hlt : k < ms.length
    · obtain ⟨b, off, rfl, h6⟩ := H4.out.resolve_left (by omega)
      have c0 := Hx.out.cell (Hx0.out.cell (elem1 (Value.int .i64) 0 ms h6 k hlt))
      have hbk := HB.out k hlt
      have hs1 := hst.out k
      clear h6
      generalize ms.getD k 0 = x at c0 hbk hs1
      have hi1 := itoa7 hbk
      have hit := hid (fun w => spec_l1Num x w (by omega) (by omega))
      by_cases h0 : k = 0
      · have t0 : decide (0 < (k : Int)) = false := by simp; omega
        have t1 : decide (0 < k) = false := by simp; omega
        have e0 : sepT k = ⟨#[]⟩ := by rw [sepT, if_pos h0]
        rw [e0, app_empty] at hs1
        have Hs1 := hid hs1
        generalize s ++ COL ++ numsTo ms k = T at *
        have H0 := hid h0
        clear hs1 e0 h0
        go_wp2_with (go_at_call 70; refine (hit.out _).mono ?_; rintro e w' ⟨rfl, z1, rfl⟩)
        go_roundw
        case rel => exact ⟨k + 1, by omega, by go_num, by rw [Hs1.out], Hx.out.trans (by repeat' (first | exact Ext.refl _ | assumption | refine Ext.alloc ?_ _ | refine Ext.ext ?_ _ | refine Ext.drew ?_ | refine Ext.drewN ?_ _))⟩
        case measure => simp [intOf]; omega
      · have t0 : decide (0 < (k : Int)) = true := by simp; omega
        have t1 : decide (0 < k) = true := by simp; omega
        have e0 : sepT k = ⟨#[44]⟩ := by rw [sepT, if_neg h0]; rfl
        rw [e0] at hs1
        have Hs1 := hid hs1
        generalize s ++ COL ++ numsTo ms k = T at *
        have hc1 : (⟨#[44]⟩ : ByteArray).size = 1 := rfl
        clear hs1 e0 h0
        go_wp2_with (go_at_call 70; refine (hit.out _).mono ?_; rintro e w' ⟨rfl, z1, rfl⟩)
        go_roundw
        case rel => exact ⟨k + 1, by omega, by go_num, by rw [Hs1.out], Hx.out.trans (by repeat' (first | exact Ext.refl _ | assumption | refine Ext.alloc ?_ _ | refine Ext.ext ?_ _ | refine Ext.drew ?_ | refine Ext.drewN ?_ _))⟩
        case measure => simp [intOf]; omega
    · obtain rfl : k = ms.length := by omega
      go_wp2
      go_ret
      exact ⟨by rw [hT.out]; rfl, Hx0.out.trans Hx.out⟩
theorem spec_GroupText (s : ByteArray) (ms : List Int) (u : Value) (w : World) (k : Rd w 1 u ms.length (vInts ms)) (hs : s.size ≤ 1048576) (k2 : ms.length ≤ 1048576) :
    Calls Tryz.prog 15 #[.agg #[.string s, u]] w fun e w' => e = .returned (.tuple #[.string (grT s ms), .bool (okG s ms)]) ∧ Ext w w' := by
  have Kr := hid k
  clear k
  have hg := hid (fun w k => spec_l21One s ms u w hs k k2)
  cases e1 : okG s ms
  · rw [grT_no e1]
    rw [e1] at hg
    clear e1
    go_enter Tryz.func15, Tryz.ntmps15
    go_wp2_with (go_at_call 40; refine (hg.out _ (Kr.out.ext (by repeat' (first | exact Ext.refl _ | assumption | refine Ext.alloc ?_ _ | refine Ext.ext ?_ _ | refine Ext.drew ?_ | refine Ext.drewN ?_ _)))).mono ?_; rintro e w' ⟨rfl, z1, rfl⟩)
    go_ret2
    exact ⟨rfl, (by repeat' (first | exact Ext.refl _ | assumption | refine Ext.alloc ?_ _ | refine Ext.ext ?_ _ | refine Ext.drew ?_ | refine Ext.drewN ?_ _))⟩
  · rw [grT_yes e1]
    rw [e1] at hg
    obtain ⟨hn, h0, hr⟩ := okG_all e1
    have hx := hid (fun w k => spec_l21Text s ms u w k hs k2 (fun i hi => by have := risB_in hr i hi; omega))
    clear e1 hn h0 hr
    generalize grpT s ms = T at *
    go_enter Tryz.func15, Tryz.ntmps15
    go_wp2_with (first | (go_at_call 40; refine (hg.out _ (Kr.out.ext (by repeat' (first | exact Ext.refl _ | assumption | refine Ext.alloc ?_ _ | refine Ext.ext ?_ _ | refine Ext.drew ?_ | refine Ext.drewN ?_ _)))).mono ?_; rintro e w' ⟨rfl, z1, rfl⟩) | (go_at_call 41; refine (hx.out _ (Kr.out.ext (by repeat' (first | exact Ext.refl _ | assumption | refine Ext.alloc ?_ _ | refine Ext.ext ?_ _ | refine Ext.drew ?_ | refine Ext.drewN ?_ _)))).mono ?_; rintro e w' ⟨rfl, z1, rfl⟩))
    go_ret2
    exact ⟨rfl, (by repeat' (first | exact Ext.refl _ | assumption | refine Ext.alloc ?_ _ | refine Ext.ext ?_ _ | refine Ext.drew ?_ | refine Ext.drewN ?_ _))⟩
end Go.Proofs.YtlaochpkelbchaaGreatDoor
