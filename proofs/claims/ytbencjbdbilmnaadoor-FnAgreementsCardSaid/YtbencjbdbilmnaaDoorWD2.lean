/- Reports: what one call of each function gives. -/
import Derived.Test.YtbencjbdbilmnaaDoorWD
namespace Go.Proofs.YtbencjbdbilmnaaDoor
open Go.RowKit
set_option maxHeartbeats 400000
theorem impl_areDeliveries (xs : List Dlv) (v : Value) (w : World) (h : Rd w 4 v xs.length (xs.flatMap Dlv.cs)) (h2 : xs.length ≤ 1048576) :
    Calls Tryd.prog 35 #[v] w fun e w' => e = .returned (.bool (areD xs)) ∧ Ext w w' := by
  obtain ⟨h1, p, cap, rfl, h4⟩ := h
  have H1 := hid h1; clear h1
  have H4 := hid h4; clear h4
  go_enter Tryd.func35, Tryd.ntmps35
  go_wp2
  go_loopw [7] (fun v7 wr => ∃ k : Nat, k ≤ xs.length ∧ v7 = .int .i64 k ∧ (∀ i, i < k → Dlv.ord xs i = true) ∧ Ext w wr) (fun v7 _ => xs.length - (intOf v7).toNat)
  case atStart => exact ⟨0, Nat.zero_le _, rfl, fun _ h => absurd h (Nat.not_lt_zero _), Ext.refl _⟩
  case round =>
    obtain ⟨k, hk, rfl, hall, z, rfl⟩ := hrel
    have Hall := hid hall; clear hall
    by_cases hlt : k < xs.length
    · obtain ⟨b, off, rfl, h6⟩ := H4.out.resolve_left (by omega)
      have H6 := hid h6; clear h6 H4
      obtain ⟨c0, c1, c2, c3⟩ := elem4 Dlv.cs .z (fun _ => rfl) xs H6.out k hlt
      have hfin : Dlv.ord xs k = (okD (xs.getD k .z) && (k == 0 || decide ((xs.getD (k-1) .z).r < (xs.getD k .z).r))) := rfl
      have Hfin := hid hfin; clear hfin
      obtain ⟨d0, -, -, -⟩ := elem4 Dlv.cs .z (fun _ => rfl) xs H6.out (k - 1) (by omega)
      generalize xs.getD k .z = d at c0 c1 c2 c3 Hfin
      generalize xs.getD (k - 1) .z = d' at d0 Hfin
      obtain ⟨r, g, p, l⟩ := d
      obtain ⟨r', g', p', l'⟩ := d'
      simp only [Dlv.cs, List.getElem?_cons_zero, List.getElem?_cons_succ] at c0 c1 c2 c3 d0
      cases hok : okD ⟨r, g, p, l⟩
      · go_wp2
        refine wp_region_ext (by kernel_rfl) (by kernel_rfl) ?_
        repeat (go_big_quiet_step ((go_at_call 28; exact Calls.quiet_ext (impl_IsValidDelivery _ _ _ _ _))))
        refine wpQuiet_nil ?_
        rintro _ ⟨zq, rfl⟩
        go_wp2
        go_ret
        exact ⟨by rw [areD, allUpto hlt (by rw [Hfin.out]; simp [hok])]; rfl, (by repeat' (first | exact Ext.refl _ | assumption | refine Ext.alloc ?_ _ | refine Ext.ext ?_ _ | refine Ext.drew ?_ | refine Ext.drewN ?_ _))⟩
      · have next : (k == 0 || decide (r' < r)) = true → ∀ i, i < k + 1 → Dlv.ord xs i = true := fun h => upTo_succ Hall.out (by rw [Hfin.out]; simp [hok, h])
        have Next := hid next; clear next
        by_cases hk0 : k = 0
        · have hgt : decide (0 < (k:Int)) = false := by simp; omega
          have hgn : decide (0 < k) = false := by simp; omega
          have Hk0 := hid hk0; clear hk0
          go_wp2
          refine wp_region_ext (by kernel_rfl) (by kernel_rfl) ?_
          repeat (go_big_quiet_step ((go_at_call 28; exact Calls.quiet_ext (impl_IsValidDelivery _ _ _ _ _))))
          refine wpQuiet_nil ?_
          rintro _ ⟨zq, rfl⟩
          go_wp2
          go_roundw
          case rel => exact ⟨k + 1, by omega, by go_num, Next.out (by simp [Hk0.out]), (by repeat' (first | exact Ext.refl _ | assumption | refine Ext.alloc ?_ _ | refine Ext.ext ?_ _ | refine Ext.drew ?_ | refine Ext.drewN ?_ _))⟩
          case measure => simp [intOf]; omega
        · have hk1 : 0 < k := by omega
          have hgt : decide (0 < (k:Int)) = true := by simp; omega
          by_cases hrr : r' < r
          · have t1 : decide (r ≤ r') = false := by simp; omega
            go_wp2
            refine wp_region_ext (by kernel_rfl) (by kernel_rfl) ?_
            repeat (go_big_quiet_step ((go_at_call 28; exact Calls.quiet_ext (impl_IsValidDelivery _ _ _ _ _))))
            refine wpQuiet_nil ?_
            rintro _ ⟨zq, rfl⟩
            go_wp2
            go_roundw
            case rel => exact ⟨k + 1, by omega, by go_num, Next.out (by simp [hrr]), (by repeat' (first | exact Ext.refl _ | assumption | refine Ext.alloc ?_ _ | refine Ext.ext ?_ _ | refine Ext.drew ?_ | refine Ext.drewN ?_ _))⟩
            case measure => simp [intOf]; omega
          · have t1 : decide (r ≤ r') = true := by simp; omega
            go_wp2
            refine wp_region_ext (by kernel_rfl) (by kernel_rfl) ?_
            repeat (go_big_quiet_step ((go_at_call 28; exact Calls.quiet_ext (impl_IsValidDelivery _ _ _ _ _))))
            refine wpQuiet_nil ?_
            rintro _ ⟨zq, rfl⟩
            go_wp2
            go_ret
            exact ⟨by rw [areD, allUpto hlt (by rw [Hfin.out]; simp [hok]; omega)]; rfl, (by repeat' (first | exact Ext.refl _ | assumption | refine Ext.alloc ?_ _ | refine Ext.ext ?_ _ | refine Ext.drew ?_ | refine Ext.drewN ?_ _))⟩
    · go_wp2
      go_ret
      exact ⟨by rw [areD, allTo (fun i hi => Hall.out i (by omega))]; rfl, (by repeat' (first | exact Ext.refl _ | assumption | refine Ext.alloc ?_ _ | refine Ext.ext ?_ _ | refine Ext.drew ?_ | refine Ext.drewN ?_ _))⟩
theorem spec_l26Good (xs : List Dlv) (v : Value) (w : World) (h : Rd w 4 v xs.length (xs.flatMap Dlv.cs)) (h2 : xs.length ≤ 1048576) :
    Calls Tryd.prog 33 #[v] w fun e w' => e = .returned (.bool (areD xs)) ∧ Ext w w' := by
  obtain ⟨h1, p, cap, rfl, h4⟩ := h
  have H1 := hid h1; clear h1
  have H4 := hid h4; clear h4
  go_enter Tryd.func33, Tryd.ntmps33
  go_wp2
  go_loopw [3] (fun v7 wr => ∃ k : Nat, k ≤ xs.length ∧ v7 = .int .i64 k ∧ (∀ i, i < k → Dlv.ord xs i = true) ∧ Ext w wr) (fun v7 _ => xs.length - (intOf v7).toNat)
  case atStart => exact ⟨0, Nat.zero_le _, rfl, fun _ h => absurd h (Nat.not_lt_zero _), Ext.refl _⟩
  case round =>
    obtain ⟨k, hk, rfl, hall, z, rfl⟩ := hrel
    have Hall := hid hall; clear hall
    by_cases hlt : k < xs.length
    · obtain ⟨b, off, rfl, h6⟩ := H4.out.resolve_left (by omega)
      have H6 := hid h6; clear h6 H4
      obtain ⟨c0, c1, c2, c3⟩ := elem4 Dlv.cs .z (fun _ => rfl) xs H6.out k hlt
      have hfin : Dlv.ord xs k = (okD (xs.getD k .z) && (k == 0 || decide ((xs.getD (k-1) .z).r < (xs.getD k .z).r))) := rfl
      have Hfin := hid hfin; clear hfin
      obtain ⟨d0, -, -, -⟩ := elem4 Dlv.cs .z (fun _ => rfl) xs H6.out (k - 1) (by omega)
      generalize xs.getD k .z = d at c0 c1 c2 c3 Hfin
      generalize xs.getD (k - 1) .z = d' at d0 Hfin
      obtain ⟨r, g, p, l⟩ := d
      obtain ⟨r', g', p', l'⟩ := d'
      simp only [Dlv.cs, List.getElem?_cons_zero, List.getElem?_cons_succ] at c0 c1 c2 c3 d0
      cases hok : okD ⟨r, g, p, l⟩
      · go_wp2
        refine wp_region_ext (by kernel_rfl) (by kernel_rfl) ?_
        repeat (go_big_quiet_step ((go_at_call 26; exact Calls.quiet_ext (spec_l26One _ _ _ _ _))))
        refine wpQuiet_nil ?_
        rintro _ ⟨zq, rfl⟩
        go_wp2
        go_ret
        exact ⟨by rw [areD, allUpto hlt (by rw [Hfin.out]; simp [hok])]; rfl, (by repeat' (first | exact Ext.refl _ | assumption | refine Ext.alloc ?_ _ | refine Ext.ext ?_ _ | refine Ext.drew ?_ | refine Ext.drewN ?_ _))⟩
      · have next : (k == 0 || decide (r' < r)) = true → ∀ i, i < k + 1 → Dlv.ord xs i = true := fun h => upTo_succ Hall.out (by rw [Hfin.out]; simp [hok, h])
        have Next := hid next; clear next
        by_cases hk0 : k = 0
        · have hgt : decide (0 < (k:Int)) = false := by simp; omega
          have hgn : decide (0 < k) = false := by simp; omega
          have Hk0 := hid hk0; clear hk0
          go_wp2
          refine wp_region_ext (by kernel_rfl) (by kernel_rfl) ?_
          repeat (go_big_quiet_step ((go_at_call 26; exact Calls.quiet_ext (spec_l26One _ _ _ _ _))))
          refine wpQuiet_nil ?_
          rintro _ ⟨zq, rfl⟩
          go_wp2
          go_roundw
          case rel => exact ⟨k + 1, by omega, by go_num, Next.out (by simp [Hk0.out]), (by repeat' (first | exact Ext.refl _ | assumption | refine Ext.alloc ?_ _ | refine Ext.ext ?_ _ | refine Ext.drew ?_ | refine Ext.drewN ?_ _))⟩
          case measure => simp [intOf]; omega
        · have hk1 : 0 < k := by omega
          have hgt : decide (0 < (k:Int)) = true := by simp; omega
          by_cases hrr : r' < r
          · have t1 : decide (r ≤ r') = false := by simp; omega
            go_wp2
            refine wp_region_ext (by kernel_rfl) (by kernel_rfl) ?_
            repeat (go_big_quiet_step ((go_at_call 26; exact Calls.quiet_ext (spec_l26One _ _ _ _ _))))
            refine wpQuiet_nil ?_
            rintro _ ⟨zq, rfl⟩
            go_wp2
            go_roundw
            case rel => exact ⟨k + 1, by omega, by go_num, Next.out (by simp [hrr]), (by repeat' (first | exact Ext.refl _ | assumption | refine Ext.alloc ?_ _ | refine Ext.ext ?_ _ | refine Ext.drew ?_ | refine Ext.drewN ?_ _))⟩
            case measure => simp [intOf]; omega
          · have t1 : decide (r ≤ r') = true := by simp; omega
            go_wp2
            refine wp_region_ext (by kernel_rfl) (by kernel_rfl) ?_
            repeat (go_big_quiet_step ((go_at_call 26; exact Calls.quiet_ext (spec_l26One _ _ _ _ _))))
            refine wpQuiet_nil ?_
            rintro _ ⟨zq, rfl⟩
            go_wp2
            go_ret
            exact ⟨by rw [areD, allUpto hlt (by rw [Hfin.out]; simp [hok]; omega)]; rfl, (by repeat' (first | exact Ext.refl _ | assumption | refine Ext.alloc ?_ _ | refine Ext.ext ?_ _ | refine Ext.drew ?_ | refine Ext.drewN ?_ _))⟩
    · go_wp2
      go_ret
      exact ⟨by rw [areD, allTo (fun i hi => Hall.out i (by omega))]; rfl, (by repeat' (first | exact Ext.refl _ | assumption | refine Ext.alloc ?_ _ | refine Ext.ext ?_ _ | refine Ext.drew ?_ | refine Ext.drewN ?_ _))⟩
theorem impl_PerfectReceivers (xs : List Dlv) (v : Value) (w : World) (h : Rd w 4 v xs.length (xs.flatMap Dlv.cs)) (h2 : xs.length ≤ 1048576) :
    Calls Tryd.prog 22 #[v] w fun e w' => ∃ r, e = .returned (.tuple #[r, .bool (areD xs)]) ∧ w'.ownsRow w.heap.size 3 1 r (if areD xs then perfect xs else []).length (vInts (if areD xs then perfect xs else [])) ∧ Ext w w' := by
  have hr := h
  obtain ⟨h1, p, cap, rfl, h4⟩ := h
  have H1 := hid h1; clear h1
  have H4 := hid h4; clear h4
  have Hr := hid hr; clear hr
  obtain ⟨i0, hi, hz0, hz1, hz2⟩ := info_parts infoInt
  cases hgd : areD xs
  · have Hgd := hid hgd
    go_enter Tryd.func22, Tryd.ntmps22
    go_wp2_with (go_at_call 35; refine (impl_areDeliveries xs _ _ Hr.out h2).mono ?_; rintro e w' ⟨rfl, z1, rfl⟩)
    go_ret2
    exact ⟨_, rfl, World.ownsRow_nil _ _ _ _, (by repeat' (first | exact Ext.refl _ | assumption | refine Ext.alloc ?_ _ | refine Ext.ext ?_ _ | refine Ext.drew ?_ | refine Ext.drewN ?_ _))⟩
  · have Hgd := hid hgd
    go_enter Tryd.func22, Tryd.ntmps22
    go_wp2_with (go_at_call 35; refine (impl_areDeliveries xs _ _ Hr.out h2).mono ?_; rintro e w' ⟨rfl, z1, rfl⟩)
    go_loopw [12, 4] (fun v12 v4 wr => ∃ k : Nat, k ≤ xs.length ∧ v12 = .int .i64 k ∧ wr.ownsRow w.heap.size 3 1 v4 (perfect (xs.take k)).length (vInts (perfect (xs.take k))) ∧ Ext w wr) (fun v12 _ _ => xs.length - (intOf v12).toNat)
    case atStart => exact ⟨0, Nat.zero_le _, rfl, World.ownsRow_nil _ _ _ _, (by repeat' (first | exact Ext.refl _ | assumption | refine Ext.alloc ?_ _ | refine Ext.ext ?_ _ | refine Ext.drew ?_ | refine Ext.drewN ?_ _))⟩
    case round =>
      obtain ⟨k, hk, rfl, hown, hx⟩ := hrel
      by_cases hlt : k < xs.length
      · obtain ⟨b, off, rfl, h6⟩ := H4.out.resolve_left (by omega)
        obtain ⟨c0, c1, c2, c3⟩ := elem4 Dlv.cs .z (fun _ => rfl) xs h6 k hlt
        have hsn := perfect_snoc xs k hlt
        have hpl := Nat.le_trans (perfect_len (xs.take k)) (by rw [List.length_take]; exact Nat.min_le_left k xs.length)
        generalize xs.getD k .z = d at c0 c1 c2 c3 hsn
        obtain ⟨r, g, p, l⟩ := d
        simp only [Dlv.cs, List.getElem?_cons_zero, List.getElem?_cons_succ] at c0 c1 c2 c3
        replace c0 := hx.cell c0
        replace c1 := hx.cell c1
        replace c2 := hx.cell c2
        replace c3 := hx.cell c3
        have H6 := hid h6; clear h6
        have Hsn := hid hsn; clear hsn
        have Hx := hid hx
        generalize hP : perfect (xs.take k) = P at *
        clear hP
        by_cases hl0 : l = 0
        · have t0 : (l == 0) = true := by simp [hl0]
          have Hl0 := hid hl0; clear hl0
          go_wp2_with (at_builtin; refine wpList_append_own _ rfl _ _ 39 rfl w.heap.size 3 i0 (.int .i64 0) 1 8 Tryd.underlying39 hi hz0 hz1 hz2 rfl (by decide) _ _ _ rfl ((hown.alloc _).alloc _) ⟨_, 0, none⟩ 1 1 [.int .i64 r] rfl rfl ?c1 ?c2 ?c3 ?c4 ?c5 ?_)
          case c2 => simp [Value.oneCell']
          case c3 => unfold maxLen; simp; omega
          case c4 => omega
          case c5 => have := Hx.out.size; simp; omega
          intro v' w1 hown' hgrow _
          have hn : (perfect (xs.take (k + 1))) = P ++ [r] := by rw [Hsn.out]; simp [Hl0.out]
          have Hn := hid hn; clear hn
          have hx2 : Ext w w1 := ((Hx.out.alloc _).alloc _).grown hgrow (fun j hj => (hown.lt j hj).1)
          have Hx2 := hid hx2; clear hx2 hgrow
          go_wp2
          go_roundw
          case rel => exact ⟨k + 1, by omega, by go_num, by rw [Hn.out]; simpa [vInts] using hown', Hx2.out⟩
          case measure => simp [intOf]; omega
        · have t0 : (l == 0) = false := by simp [hl0]
          have Hl0 := hid hl0; clear hl0
          go_wp2
          go_roundw
          case rel => exact ⟨k + 1, by omega, by go_num, by rw [Hsn.out]; simpa [Hl0.out] using hown.alloc _, Hx.out.alloc _⟩
          case measure => simp [intOf]; omega
      · go_wp2
        go_ret2
        exact ⟨_, rfl, by rw [List.take_of_length_le (by omega)] at hown; simpa using hown, hx⟩
theorem spec_PerfectReceivers (xs : List Dlv) (v : Value) (w : World) (h : Rd w 4 v xs.length (xs.flatMap Dlv.cs)) (h2 : xs.length ≤ 1048576) :
    Calls Tryd.prog 23 #[v] w fun e w' => ∃ r, e = .returned (.tuple #[r, .bool (areD xs)]) ∧ w'.ownsRow w.heap.size 3 1 r (if areD xs then perfect xs else []).length (vInts (if areD xs then perfect xs else [])) ∧ Ext w w' := by
  have hr := h
  obtain ⟨h1, p, cap, rfl, h4⟩ := h
  have H1 := hid h1; clear h1
  have H4 := hid h4; clear h4
  have hr' := hr.ext ((Ext.refl w).alloc (.cells #[] 3))
  have Hr := hid hr'; clear hr hr'
  have ho0 := World.ownsRow_lit (base := w.heap.size) (e := 3) (size := 1) w #[] 0 (Nat.le_refl _) (Nat.zero_le _) rfl
  have Ho0 := hid ho0; clear ho0
  obtain ⟨i0, hi, hz0, hz1, hz2⟩ := info_parts infoInt
  cases hgd : areD xs
  · have Hgd := hid hgd
    go_enter Tryd.func23, Tryd.ntmps23
    go_wp2_with (go_at_call 33; refine (spec_l26Good xs _ _ Hr.out h2).mono ?_; rintro e w' ⟨rfl, z1, rfl⟩)
    go_ret2
    exact ⟨_, rfl, own_ext Ho0.out (by repeat' (first | exact Ext.refl _ | assumption | refine Ext.alloc ?_ _ | refine Ext.ext ?_ _ | refine Ext.drew ?_ | refine Ext.drewN ?_ _)), (by repeat' (first | exact Ext.refl _ | assumption | refine Ext.alloc ?_ _ | refine Ext.ext ?_ _ | refine Ext.drew ?_ | refine Ext.drewN ?_ _))⟩
  · have Hgd := hid hgd
    go_enter Tryd.func23, Tryd.ntmps23
    go_wp2_with (go_at_call 33; refine (spec_l26Good xs _ _ Hr.out h2).mono ?_; rintro e w' ⟨rfl, z1, rfl⟩)
    go_loopw [5, 4] (fun v12 v4 wr => ∃ k : Nat, k ≤ xs.length ∧ v12 = .int .i64 k ∧ wr.ownsRow w.heap.size 3 1 v4 (perfect (xs.take k)).length (vInts (perfect (xs.take k))) ∧ Ext w wr) (fun v12 _ _ => xs.length - (intOf v12).toNat)
    case atStart => exact ⟨0, Nat.zero_le _, rfl, by simpa [vInts, perfect] using own_ext Ho0.out (by repeat' (first | exact Ext.refl _ | assumption | refine Ext.alloc ?_ _ | refine Ext.ext ?_ _ | refine Ext.drew ?_ | refine Ext.drewN ?_ _)), (by repeat' (first | exact Ext.refl _ | assumption | refine Ext.alloc ?_ _ | refine Ext.ext ?_ _ | refine Ext.drew ?_ | refine Ext.drewN ?_ _))⟩
    case round =>
      obtain ⟨k, hk, rfl, hown, hx⟩ := hrel
      by_cases hlt : k < xs.length
      · obtain ⟨b, off, rfl, h6⟩ := H4.out.resolve_left (by omega)
        obtain ⟨c0, c1, c2, c3⟩ := elem4 Dlv.cs .z (fun _ => rfl) xs h6 k hlt
        have hsn := perfect_snoc xs k hlt
        have hpl := Nat.le_trans (perfect_len (xs.take k)) (by rw [List.length_take]; exact Nat.min_le_left k xs.length)
        generalize xs.getD k .z = d at c0 c1 c2 c3 hsn
        obtain ⟨r, g, p, l⟩ := d
        simp only [Dlv.cs, List.getElem?_cons_zero, List.getElem?_cons_succ] at c0 c1 c2 c3
        replace c0 := hx.cell c0
        replace c1 := hx.cell c1
        replace c2 := hx.cell c2
        replace c3 := hx.cell c3
        have H6 := hid h6; clear h6
        have Hsn := hid hsn; clear hsn
        have Hx := hid hx
        generalize hP : perfect (xs.take k) = P at *
        clear hP
        by_cases hl0 : l = 0
        · have t0 : (l == 0) = true := by simp [hl0]
          have Hl0 := hid hl0; clear hl0
          go_wp2_with (at_builtin; refine wpList_append_own _ rfl _ _ 39 rfl w.heap.size 3 i0 (.int .i64 0) 1 8 Tryd.underlying39 hi hz0 hz1 hz2 rfl (by decide) _ _ _ rfl (hown.alloc _) ⟨_, 0, none⟩ 1 1 [.int .i64 r] rfl rfl ?c1 ?c2 ?c3 ?c4 ?c5 ?_)
          case c2 => simp [Value.oneCell']
          case c3 => unfold maxLen; simp; omega
          case c4 => omega
          case c5 => have := Hx.out.size; simp; omega
          intro v' w1 hown' hgrow _
          have hn : (perfect (xs.take (k + 1))) = P ++ [r] := by rw [Hsn.out]; simp [Hl0.out]
          have Hn := hid hn; clear hn
          have hx2 : Ext w w1 := (Hx.out.alloc _).grown hgrow (fun j hj => (hown.lt j hj).1)
          have Hx2 := hid hx2; clear hx2 hgrow
          go_wp2
          go_roundw
          case rel => exact ⟨k + 1, by omega, by go_num, by rw [Hn.out]; simpa [vInts] using hown', Hx2.out⟩
          case measure => simp [intOf]; omega
        · have t0 : (l == 0) = false := by simp [hl0]
          have Hl0 := hid hl0; clear hl0
          go_wp2
          go_roundw
          case rel => exact ⟨k + 1, by omega, by go_num, by rw [Hsn.out]; simpa [Hl0.out] using hown, Hx.out⟩
          case measure => simp [intOf]; omega
      · go_wp2
        go_ret2
        exact ⟨_, rfl, by rw [List.take_of_length_le (by omega)] at hown; simpa using hown, hx⟩
end Go.Proofs.YtbencjbdbilmnaaDoor
