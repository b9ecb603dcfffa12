/- Numbers requested twice: the program's walk. -/
import Derived.Test.YtljknhocfjpolaaGreatDoorKWTwice2
namespace Go.Proofs.YtljknhocfjpolaaGreatDoor
open Go.RowKit
set_option maxHeartbeats 1000000
set_option maxRecDepth 100000
theorem twR_len (xs : List Cap) : (twR xs).length ≤ xs.length := by
  rw [twR]
  split
  · exact twL_len xs _
  · exact Nat.zero_le _
theorem impl_TwiceRequested (xs : List Cap) (p : Option Addr) (cap : Nat) (w : World) (h : Rd w 8 (.slice p xs.length cap) xs.length (xs.flatMap Cap.cs)) (hcap : xs.length ≤ cap) (h2 : xs.length ≤ 1048576) (h3 : Cap.chars xs ≤ 1048576) :
    Calls Tryz.prog 28 #[.slice p xs.length cap] w fun e w' => ∃ r, e = .returned (.tuple #[r, .bool (capB xs)]) ∧ w'.ownsRow w.heap.size 3 1 r (twR xs).length (vInts (twR xs)) ∧ Ext w w' := by
  have Hr := hid h
  have hg : Hid (∀ w, Rd w 8 (.slice p xs.length cap) xs.length (xs.flatMap Cap.cs) → Calls Tryz.prog 15 #[.slice p xs.length cap] w fun e w' => e = .returned (.bool (capB xs)) ∧ Ext w w') := fun w h => impl_IsCapture xs _ w h h2 h3
  cases e1 : capB xs
  · rw [twR_no e1]
    rw [e1] at hg
    clear e1 h
    go_enter Tryz.func28, Tryz.ntmps28
    go_wp2_with (go_at_call 15; (refine (hg.out _ (Hr.out.ext (by repeat' (first | exact Ext.refl _ | assumption | refine Ext.alloc ?_ _ | refine Ext.ext ?_ _ | refine Ext.drew ?_ | refine Ext.drewN ?_ _)))).mono ?_); rintro e w1 ⟨rfl, z1, rfl⟩)
    go_ret2
    exact ⟨_, rfl, World.ownsRow_nil _ _ _ _, (by repeat' (first | exact Ext.refl _ | assumption | refine Ext.alloc ?_ _ | refine Ext.ext ?_ _ | refine Ext.drew ?_ | refine Ext.drewN ?_ _))⟩
  · have hR := hid (twR_yes e1)
    rw [e1] at hg
    have Htk := hid (fun w (h : Rd w 8 (.slice p xs.length cap) xs.length (xs.flatMap Cap.cs)) i hi => rd_takeC h i hi)
    clear e1 h
    go_enter Tryz.func28, Tryz.ntmps28
    go_wp2_with (go_at_call 15; (refine (hg.out _ (Hr.out.ext (by repeat' (first | exact Ext.refl _ | assumption | refine Ext.alloc ?_ _ | refine Ext.ext ?_ _ | refine Ext.drew ?_ | refine Ext.drewN ?_ _)))).mono ?_); rintro e w1 ⟨rfl, z1, rfl⟩)
    go_loopw [13, 4] (fun v13 v4 wr => ∃ i : Nat, i ≤ xs.length ∧ v13 = .int .i64 i ∧ wr.ownsRow w.heap.size 3 1 v4 (twL xs i).length (vInts (twL xs i)) ∧ Ext w wr) (fun v13 _ _ => xs.length - (intOf v13).toNat)
    case atStart => exact ⟨0, Nat.zero_le _, rfl, World.ownsRow_nil _ _ _ _, (by repeat' (first | exact Ext.refl _ | assumption | refine Ext.alloc ?_ _ | refine Ext.ext ?_ _ | refine Ext.drew ?_ | refine Ext.drewN ?_ _))⟩
    case round =>
      obtain ⟨i, hi, rfl, ho, hx⟩ := hrel
      have Hx := hid hx
      have Ho := hid ho
      clear hx ho hg
      by_cases hlt : i < xs.length
      · obtain ⟨-, p', c', e, h4⟩ := Hr.out
        cases e
        obtain ⟨b, off, rfl, h6⟩ := h4.resolve_left (by omega)
        obtain ⟨c0, c1, c2, c3, c4, c5, c6, c7⟩ := Cap.at xs h6 i hlt
        replace c0 := Hx.out.cell c0
        replace c1 := Hx.out.cell c1
        replace c2 := Hx.out.cell c2
        replace c3 := Hx.out.cell c3
        replace c4 := Hx.out.cell c4
        replace c5 := Hx.out.cell c5
        replace c6 := Hx.out.cell c6
        replace c7 := Hx.out.cell c7
        have Ha := hid (twL_asc xs i)
        have hln := twL_len xs i
        have Hst : Hid (twL xs (i + 1) = if ((xs.getD i .z).c == 3 && (xs.getD i .z).u) && (xs.take i).any (sameReq (xs.getD i .z).n (xs.getD i .z).m) then put (twL xs i) (xs.getD i .z).m else twL xs i) := rfl
        clear h6 h4
        generalize xs.getD i .z = x at *
        obtain ⟨t, n, u, c, m, r, l, d⟩ := x
        dsimp only at c0 c1 c2 c3 c4 c5 c6 c7
        go_wp2_with fail
        have XA : Ext wr (wr.alloc (.cells #[.int .i64 t, .int .i64 n, .bool u, .int .i64 c, .int .i64 m, .int .i64 r, .int .i64 l, .string d] 48)) := (by repeat' (first | exact Ext.refl _ | assumption | refine Ext.alloc ?_ _ | refine Ext.ext ?_ _ | refine Ext.drew ?_ | refine Ext.drewN ?_ _))
        have hat := heap_at (w := wr) (.cells #[.int .i64 t, .int .i64 n, .bool u, .int .i64 c, .int .i64 m, .int .i64 r, .int .i64 l, .string d] 48) rfl
        have d0 : (wr.alloc (.cells #[.int .i64 t, .int .i64 n, .bool u, .int .i64 c, .int .i64 m, .int .i64 r, .int .i64 l, .string d] 48)).cell? ⟨wr.heap.size, 0, none⟩ = some (.int .i64 t) := cell_of_row _ _ 0 _ _ (0, 0) hat
        have d1 : (wr.alloc (.cells #[.int .i64 t, .int .i64 n, .bool u, .int .i64 c, .int .i64 m, .int .i64 r, .int .i64 l, .string d] 48)).cell? ⟨wr.heap.size, 1, none⟩ = some (.int .i64 n) := cell_of_row _ _ 1 _ _ (0, 0) hat
        have d2 : (wr.alloc (.cells #[.int .i64 t, .int .i64 n, .bool u, .int .i64 c, .int .i64 m, .int .i64 r, .int .i64 l, .string d] 48)).cell? ⟨wr.heap.size, 2, none⟩ = some (.bool u) := cell_of_row _ _ 2 _ _ (0, 0) hat
        have d3 : (wr.alloc (.cells #[.int .i64 t, .int .i64 n, .bool u, .int .i64 c, .int .i64 m, .int .i64 r, .int .i64 l, .string d] 48)).cell? ⟨wr.heap.size, 3, none⟩ = some (.int .i64 c) := cell_of_row _ _ 3 _ _ (0, 0) hat
        have d4 : (wr.alloc (.cells #[.int .i64 t, .int .i64 n, .bool u, .int .i64 c, .int .i64 m, .int .i64 r, .int .i64 l, .string d] 48)).cell? ⟨wr.heap.size, 4, none⟩ = some (.int .i64 m) := cell_of_row _ _ 4 _ _ (0, 0) hat
        have d5 : (wr.alloc (.cells #[.int .i64 t, .int .i64 n, .bool u, .int .i64 c, .int .i64 m, .int .i64 r, .int .i64 l, .string d] 48)).cell? ⟨wr.heap.size, 5, none⟩ = some (.int .i64 r) := cell_of_row _ _ 5 _ _ (0, 0) hat
        have d6 : (wr.alloc (.cells #[.int .i64 t, .int .i64 n, .bool u, .int .i64 c, .int .i64 m, .int .i64 r, .int .i64 l, .string d] 48)).cell? ⟨wr.heap.size, 6, none⟩ = some (.int .i64 l) := cell_of_row _ _ 6 _ _ (0, 0) hat
        have d7 : (wr.alloc (.cells #[.int .i64 t, .int .i64 n, .bool u, .int .i64 c, .int .i64 m, .int .i64 r, .int .i64 l, .string d] 48)).cell? ⟨wr.heap.size, 7, none⟩ = some (.string d) := cell_of_row _ _ 7 _ _ (0, 0) hat
        have hq := hid (fun w => impl_isRequestUp t n u c m r l d w)
        have hrd := Htk.out _ (Hr.out.ext (Hx.out.trans XA)) i hi
        have HXA := hid XA
        clear hat XA c0 c1 c2 c3 c4 c5 c6 c7
        generalize (wr.alloc (.cells #[.int .i64 t, .int .i64 n, .bool u, .int .i64 c, .int .i64 m, .int .i64 r, .int .i64 l, .string d] 48)) = W at *
        go_at_call 50
        refine (slices_ContainsFunc_cap (xs.take i) (sameReq n m) 68 #[.pointer (some ⟨wr.heap.size, 0, none⟩)] (enters_of Tryz.func68 (by kernel_rfl) rfl) _ W W hrd (Ext.refl _) (by rw [List.length_take]; omega) (fun t' n' u' c' m' r' l' d' w' _ hx => impl_TwiceRequested_1 n m t' n' u' c' m' r' l' d' wr.heap.size w' (hx.cell d1) (hx.cell d4))).mono ?_
        rintro e w2 ⟨rfl, hx2⟩
        replace d0 := hx2.cell d0
        replace d1 := hx2.cell d1
        replace d2 := hx2.cell d2
        replace d3 := hx2.cell d3
        replace d4 := hx2.cell d4
        replace d5 := hx2.cell d5
        replace d6 := hx2.cell d6
        replace d7 := hx2.cell d7
        have X2 := hid (HXA.out.trans hx2)
        clear hx2 hrd HXA
        generalize (xs.take i).any (sameReq n m) = A at *
        generalize hk : (c == 3 && u) = K at *
        clear hk
        have hmx : (twL xs i).length ≤ 1048576 := by omega
        have Hmx := hid hmx
        clear hmx hln
        cases K
        · have hT : Hid (twL xs (i + 1) = twL xs i) := hid (by rw [Hst.out]; rfl)
          repeat (first | (go_wp2_with ((go_at_call 69; refine (hq.out _).mono ?_; rintro e w' ⟨rfl, z1, rfl⟩)); refine wp_region_ext (by kernel_rfl) (by kernel_rfl) ?_; (repeat (go_big_quiet_step ((go_at_call 69; exact Calls.quiet_ext (hq.out _))))); refine wpQuiet_nil ?_; rintro _ ⟨zq, rfl⟩))
          go_wp2_with ((go_at_call 69; refine (hq.out _).mono ?_; rintro e w' ⟨rfl, z1, rfl⟩))
          go_roundw
          case rel => exact ⟨i + 1, by omega, by go_num, by rw [hT.out]; exact own_ext Ho.out (X2.out.trans (by repeat' (first | exact Ext.refl _ | assumption | refine Ext.alloc ?_ _ | refine Ext.ext ?_ _ | refine Ext.drew ?_ | refine Ext.drewN ?_ _))), Hx.out.trans (X2.out.trans (by repeat' (first | exact Ext.refl _ | assumption | refine Ext.alloc ?_ _ | refine Ext.ext ?_ _ | refine Ext.drew ?_ | refine Ext.drewN ?_ _)))⟩
          case measure => simp [intOf]; omega
        · cases A
          · have hT : Hid (twL xs (i + 1) = twL xs i) := hid (by rw [Hst.out]; rfl)
            repeat (first | (go_wp2_with ((go_at_call 69; refine (hq.out _).mono ?_; rintro e w' ⟨rfl, z1, rfl⟩)); refine wp_region_ext (by kernel_rfl) (by kernel_rfl) ?_; (repeat (go_big_quiet_step ((go_at_call 69; exact Calls.quiet_ext (hq.out _))))); refine wpQuiet_nil ?_; rintro _ ⟨zq, rfl⟩))
            go_wp2_with ((go_at_call 69; refine (hq.out _).mono ?_; rintro e w' ⟨rfl, z1, rfl⟩))
            go_roundw
            case rel => exact ⟨i + 1, by omega, by go_num, by rw [hT.out]; exact own_ext Ho.out (X2.out.trans (by repeat' (first | exact Ext.refl _ | assumption | refine Ext.alloc ?_ _ | refine Ext.ext ?_ _ | refine Ext.drew ?_ | refine Ext.drewN ?_ _))), Hx.out.trans (X2.out.trans (by repeat' (first | exact Ext.refl _ | assumption | refine Ext.alloc ?_ _ | refine Ext.ext ?_ _ | refine Ext.drew ?_ | refine Ext.drewN ?_ _)))⟩
            case measure => simp [intOf]; omega
          · have hT : Hid (twL xs (i + 1) = put (twL xs i) m) := hid (by rw [Hst.out]; rfl)
            repeat (first | (go_wp2_with ((first | (go_at_call 69; refine (hq.out _).mono ?_; rintro e w' ⟨rfl, z1, rfl⟩) | (go_at_call 70; refine (impl_withNode (twL xs i) _ m w.heap.size _ (own_ext Ho.out (X2.out.trans (by repeat' (first | exact Ext.refl _ | assumption | refine Ext.alloc ?_ _ | refine Ext.ext ?_ _ | refine Ext.drew ?_ | refine Ext.drewN ?_ _)))) Ha.out (show Ext w _ from Hx.out.trans (X2.out.trans (by repeat' (first | exact Ext.refl _ | assumption | refine Ext.alloc ?_ _ | refine Ext.ext ?_ _ | refine Ext.drew ?_ | refine Ext.drewN ?_ _)))).size Hmx.out).mono ?_; rintro e w5 ⟨r5, rfl, ho5, hg5, hj5⟩))); refine wp_region_ext (by kernel_rfl) (by kernel_rfl) ?_; (repeat (go_big_quiet_step ((go_at_call 69; exact Calls.quiet_ext (hq.out _))))); refine wpQuiet_nil ?_; rintro _ ⟨zq, rfl⟩))
            go_wp2_with ((first | (go_at_call 69; refine (hq.out _).mono ?_; rintro e w' ⟨rfl, z1, rfl⟩) | (go_at_call 70; refine (impl_withNode (twL xs i) _ m w.heap.size _ (own_ext Ho.out (X2.out.trans (by repeat' (first | exact Ext.refl _ | assumption | refine Ext.alloc ?_ _ | refine Ext.ext ?_ _ | refine Ext.drew ?_ | refine Ext.drewN ?_ _)))) Ha.out (show Ext w _ from Hx.out.trans (X2.out.trans (by repeat' (first | exact Ext.refl _ | assumption | refine Ext.alloc ?_ _ | refine Ext.ext ?_ _ | refine Ext.drew ?_ | refine Ext.drewN ?_ _)))).size Hmx.out).mono ?_; rintro e w5 ⟨r5, rfl, ho5, hg5, hj5⟩)))
            have hx5 : Ext w w5 := Ext.grown (Hx.out.trans (X2.out.trans (by repeat' (first | exact Ext.refl _ | assumption | refine Ext.alloc ?_ _ | refine Ext.ext ?_ _ | refine Ext.drew ?_ | refine Ext.drewN ?_ _)))) hg5 (fun j hj => (Ho.out.lt j hj).1)
            go_roundw
            case rel => exact ⟨i + 1, by omega, by go_num, by rw [hT.out]; exact ho5, hx5⟩
            case measure => simp [intOf]; omega
      · obtain rfl : i = xs.length := by omega
        go_wp2
        go_ret2
        exact ⟨_, rfl, by rw [hR.out]; exact own_ext Ho.out (by repeat' (first | exact Ext.refl _ | assumption | refine Ext.alloc ?_ _ | refine Ext.ext ?_ _ | refine Ext.drew ?_ | refine Ext.drewN ?_ _)), Hx.out.trans (by repeat' (first | exact Ext.refl _ | assumption | refine Ext.alloc ?_ _ | refine Ext.ext ?_ _ | refine Ext.drew ?_ | refine Ext.drewN ?_ _))⟩
end Go.Proofs.YtljknhocfjpolaaGreatDoor
