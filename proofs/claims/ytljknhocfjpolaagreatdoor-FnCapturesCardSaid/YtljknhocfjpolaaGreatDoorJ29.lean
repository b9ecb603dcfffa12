/- Numbers requested twice: the program's walk. Joined captures, numbers requested twice: what the laws of captures say, in plain words. -/
import Derived.Test.YtljknhocfjpolaaGreatDoorJ28
import Derived.Test.YtljknhocfjpolaaGreatDoorJ22
import Derived.Test.YtljknhocfjpolaaGreatDoorJ19
namespace Go.Proofs.YtljknhocfjpolaaGreatDoor
open Go.RowKit
set_option maxHeartbeats 1000000
set_option maxRecDepth 100000
theorem twR_len (xs : List Cap) : (twR xs).length ≤ xs.length := by
  rw [twR]
  split
  · exact twL_len xs _
  · exact Nat.zero_le _
theorem impl_TwiceRequested (xs : List Cap) (p : Option Addr) (cap : Nat) (w : World) (h : Rd w 8 (.slice p xs.length cap) xs.length (xs.flatMap Cap.cs)) (hcap : xs.length ≤ cap) (h2 : xs.length ≤ 1048576) (h3 : Cap.chars xs ≤ 1048576) :
    Calls Tryz.prog 28 #[.slice p xs.length cap] w fun e w' => ∃ r, e = .returned (.tuple #[r, .bool (capB xs)]) ∧ w'.ownsRow w.heap.size 3 1 r (twR xs).length (vInts (twR xs)) ∧ Ext w w' := by
  have Hr := hid h
  have hg : Hid (∀ w, Rd w 8 (.slice p xs.length cap) xs.length (xs.flatMap Cap.cs) → Calls Tryz.prog 15 #[.slice p xs.length cap] w fun e w' => e = .returned (.bool (capB xs)) ∧ Ext w w') := fun w h => impl_IsCapture xs _ w h h2 h3
  cases e1 : capB xs
  · rw [twR_no e1]
    rw [e1] at hg
    clear e1 h
    go_enter Tryz.func28, Tryz.ntmps28
    go_wp2_with (go_at_call 15; (refine (hg.out _ (Hr.out.ext (by repeat' (first | exact Ext.refl _ | assumption | refine Ext.alloc ?_ _ | refine Ext.ext ?_ _ | refine Ext.drew ?_ | refine Ext.drewN ?_ _)))).mono ?_); rintro e w1 ⟨rfl, z1, rfl⟩)
    go_ret2
    exact ⟨_, rfl, World.ownsRow_nil _ _ _ _, (by repeat' (first | exact Ext.refl _ | assumption | refine Ext.alloc ?_ _ | refine Ext.ext ?_ _ | refine Ext.drew ?_ | refine Ext.drewN ?_ _))⟩
  · have hR := hid (twR_yes e1)
    rw [e1] at hg
    have Htk := hid (fun w (h : Rd w 8 (.slice p xs.length cap) xs.length (xs.flatMap Cap.cs)) i hi => rd_takeC h i hi)
    clear e1 h
    go_enter Tryz.func28, Tryz.ntmps28
    go_wp2_with (go_at_call 15; (refine (hg.out _ (Hr.out.ext (by repeat' (first | exact Ext.refl _ | assumption | refine Ext.alloc ?_ _ | refine Ext.ext ?_ _ | refine Ext.drew ?_ | refine Ext.drewN ?_ _)))).mono ?_); rintro e w1 ⟨rfl, z1, rfl⟩)
    go_loopw [13, 4] (fun v13 v4 wr => ∃ i : Nat, i ≤ xs.length ∧ v13 = .int .i64 i ∧ wr.ownsRow w.heap.size 3 1 v4 (twL xs i).length (vInts (twL xs i)) ∧ Ext w wr) (fun v13 _ _ => xs.length - (intOf v13).toNat)
    case atStart => exact ⟨0, Nat.zero_le _, rfl, World.ownsRow_nil _ _ _ _, (by repeat' (first | exact Ext.refl _ | assumption | refine Ext.alloc ?_ _ | refine Ext.ext ?_ _ | refine Ext.drew ?_ | refine Ext.drewN ?_ _))⟩
    case round =>
      obtain ⟨i, hi, rfl, ho, hx⟩ := hrel
      have Hx := hid hx
      have Ho := hid ho
      clear hx ho hg
      by_cases hlt : i < xs.length
      · obtain ⟨-, p', c', e, h4⟩ := Hr.out
        cases e
        obtain ⟨b, off, rfl, h6⟩ := h4.resolve_left (by omega)
        obtain ⟨c0, c1, c2, c3, c4, c5, c6, c7⟩ := Cap.at xs h6 i hlt
        replace c0 := Hx.out.cell c0
        replace c1 := Hx.out.cell c1
        replace c2 := Hx.out.cell c2
        replace c3 := Hx.out.cell c3
        replace c4 := Hx.out.cell c4
        replace c5 := Hx.out.cell c5
        replace c6 := Hx.out.cell c6
        replace c7 := Hx.out.cell c7
        have Ha := hid (twL_asc xs i)
        have hln := twL_len xs i
        have Hst : Hid (twL xs (i + 1) = if ((xs.getD i .z).c == 3 && (xs.getD i .z).u) && (xs.take i).any (sameReq (xs.getD i .z).n (xs.getD i .z).m) then put (twL xs i) (xs.getD i .z).m else twL xs i) := rfl
        clear h6 h4
        generalize xs.getD i .z = x at *
        obtain ⟨t, n, u, c, m, r, l, d⟩ := x
        dsimp only at c0 c1 c2 c3 c4 c5 c6 c7
        go_wp2_with fail
        have XA : Ext wr (wr.alloc (.cells #[.int .i64 t, .int .i64 n, .bool u, .int .i64 c, .int .i64 m, .int .i64 r, .int .i64 l, .string d] 48)) := (by repeat' (first | exact Ext.refl _ | assumption | refine Ext.alloc ?_ _ | refine Ext.ext ?_ _ | refine Ext.drew ?_ | refine Ext.drewN ?_ _))
        have hat := heap_at (w := wr) (.cells #[.int .i64 t, .int .i64 n, .bool u, .int .i64 c, .int .i64 m, .int .i64 r, .int .i64 l, .string d] 48) rfl
        have d0 : (wr.alloc (.cells #[.int .i64 t, .int .i64 n, .bool u, .int .i64 c, .int .i64 m, .int .i64 r, .int .i64 l, .string d] 48)).cell? ⟨wr.heap.size, 0, none⟩ = some (.int .i64 t) := cell_of_row _ _ 0 _ _ (0, 0) hat
        have d1 : (wr.alloc (.cells #[.int .i64 t, .int .i64 n, .bool u, .int .i64 c, .int .i64 m, .int .i64 r, .int .i64 l, .string d] 48)).cell? ⟨wr.heap.size, 1, none⟩ = some (.int .i64 n) := cell_of_row _ _ 1 _ _ (0, 0) hat
        have d2 : (wr.alloc (.cells #[.int .i64 t, .int .i64 n, .bool u, .int .i64 c, .int .i64 m, .int .i64 r, .int .i64 l, .string d] 48)).cell? ⟨wr.heap.size, 2, none⟩ = some (.bool u) := cell_of_row _ _ 2 _ _ (0, 0) hat
        have d3 : (wr.alloc (.cells #[.int .i64 t, .int .i64 n, .bool u, .int .i64 c, .int .i64 m, .int .i64 r, .int .i64 l, .string d] 48)).cell? ⟨wr.heap.size, 3, none⟩ = some (.int .i64 c) := cell_of_row _ _ 3 _ _ (0, 0) hat
        have d4 : (wr.alloc (.cells #[.int .i64 t, .int .i64 n, .bool u, .int .i64 c, .int .i64 m, .int .i64 r, .int .i64 l, .string d] 48)).cell? ⟨wr.heap.size, 4, none⟩ = some (.int .i64 m) := cell_of_row _ _ 4 _ _ (0, 0) hat
        have d5 : (wr.alloc (.cells #[.int .i64 t, .int .i64 n, .bool u, .int .i64 c, .int .i64 m, .int .i64 r, .int .i64 l, .string d] 48)).cell? ⟨wr.heap.size, 5, none⟩ = some (.int .i64 r) := cell_of_row _ _ 5 _ _ (0, 0) hat
        have d6 : (wr.alloc (.cells #[.int .i64 t, .int .i64 n, .bool u, .int .i64 c, .int .i64 m, .int .i64 r, .int .i64 l, .string d] 48)).cell? ⟨wr.heap.size, 6, none⟩ = some (.int .i64 l) := cell_of_row _ _ 6 _ _ (0, 0) hat
        have d7 : (wr.alloc (.cells #[.int .i64 t, .int .i64 n, .bool u, .int .i64 c, .int .i64 m, .int .i64 r, .int .i64 l, .string d] 48)).cell? ⟨wr.heap.size, 7, none⟩ = some (.string d) := cell_of_row _ _ 7 _ _ (0, 0) hat
        have hq := hid (fun w => impl_isRequestUp t n u c m r l d w)
        have hrd := Htk.out _ (Hr.out.ext (Hx.out.trans XA)) i hi
        have HXA := hid XA
        clear hat XA c0 c1 c2 c3 c4 c5 c6 c7
        generalize (wr.alloc (.cells #[.int .i64 t, .int .i64 n, .bool u, .int .i64 c, .int .i64 m, .int .i64 r, .int .i64 l, .string d] 48)) = W at *
        go_at_call 50
        refine (slices_ContainsFunc_cap (xs.take i) (sameReq n m) 68 #[.pointer (some ⟨wr.heap.size, 0, none⟩)] (enters_of Tryz.func68 (by kernel_rfl) rfl) _ W W hrd (Ext.refl _) (by rw [List.length_take]; omega) (fun t' n' u' c' m' r' l' d' w' _ hx => impl_TwiceRequested_1 n m t' n' u' c' m' r' l' d' wr.heap.size w' (hx.cell d1) (hx.cell d4))).mono ?_
        rintro e w2 ⟨rfl, hx2⟩
        replace d0 := hx2.cell d0
        replace d1 := hx2.cell d1
        replace d2 := hx2.cell d2
        replace d3 := hx2.cell d3
        replace d4 := hx2.cell d4
        replace d5 := hx2.cell d5
        replace d6 := hx2.cell d6
        replace d7 := hx2.cell d7
        have X2 := hid (HXA.out.trans hx2)
        clear hx2 hrd HXA
        generalize (xs.take i).any (sameReq n m) = A at *
        generalize hk : (c == 3 && u) = K at *
        clear hk
        have hmx : (twL xs i).length ≤ 1048576 := by omega
        have Hmx := hid hmx
        clear hmx hln
        cases K
        · have hT : Hid (twL xs (i + 1) = twL xs i) := hid (by rw [Hst.out]; rfl)
          repeat (first | (go_wp2_with ((go_at_call 69; refine (hq.out _).mono ?_; rintro e w' ⟨rfl, z1, rfl⟩)); refine wp_region_ext (by kernel_rfl) (by kernel_rfl) ?_; (repeat (go_big_quiet_step ((go_at_call 69; exact Calls.quiet_ext (hq.out _))))); refine wpQuiet_nil ?_; rintro _ ⟨zq, rfl⟩))
          go_wp2_with ((go_at_call 69; refine (hq.out _).mono ?_; rintro e w' ⟨rfl, z1, rfl⟩))
          go_roundw
          case rel => exact ⟨i + 1, by omega, by go_num, by rw [hT.out]; exact own_ext Ho.out (X2.out.trans (by repeat' (first | exact Ext.refl _ | assumption | refine Ext.alloc ?_ _ | refine Ext.ext ?_ _ | refine Ext.drew ?_ | refine Ext.drewN ?_ _))), Hx.out.trans (X2.out.trans (by repeat' (first | exact Ext.refl _ | assumption | refine Ext.alloc ?_ _ | refine Ext.ext ?_ _ | refine Ext.drew ?_ | refine Ext.drewN ?_ _)))⟩
          case measure => simp [intOf]; omega
        · cases A
          · have hT : Hid (twL xs (i + 1) = twL xs i) := hid (by rw [Hst.out]; rfl)
            repeat (first | (go_wp2_with ((go_at_call 69; refine (hq.out _).mono ?_; rintro e w' ⟨rfl, z1, rfl⟩)); refine wp_region_ext (by kernel_rfl) (by kernel_rfl) ?_; (repeat (go_big_quiet_step ((go_at_call 69; exact Calls.quiet_ext (hq.out _))))); refine wpQuiet_nil ?_; rintro _ ⟨zq, rfl⟩))
            go_wp2_with ((go_at_call 69; refine (hq.out _).mono ?_; rintro e w' ⟨rfl, z1, rfl⟩))
            go_roundw
            case rel => exact ⟨i + 1, by omega, by go_num, by rw [hT.out]; exact own_ext Ho.out (X2.out.trans (by repeat' (first | exact Ext.refl _ | assumption | refine Ext.alloc ?_ _ | refine Ext.ext ?_ _ | refine Ext.drew ?_ | refine Ext.drewN ?_ _))), Hx.out.trans (X2.out.trans (by repeat' (first | exact Ext.refl _ | assumption | refine Ext.alloc ?_ _ | refine Ext.ext ?_ _ | refine Ext.drew ?_ | refine Ext.drewN ?_ _)))⟩
            case measure => simp [intOf]; omega
          · have hT : Hid (twL xs (i + 1) = put (twL xs i) m) := hid (by rw [Hst.out]; rfl)
            repeat (first | (go_wp2_with ((first | (go_at_call 69; refine (hq.out _).mono ?_; rintro e w' ⟨rfl, z1, rfl⟩) | (go_at_call 70; refine (impl_withNode (twL xs i) _ m w.heap.size _ (own_ext Ho.out (X2.out.trans (by repeat' (first | exact Ext.refl _ | assumption | refine Ext.alloc ?_ _ | refine Ext.ext ?_ _ | refine Ext.drew ?_ | refine Ext.drewN ?_ _)))) Ha.out (show Ext w _ from Hx.out.trans (X2.out.trans (by repeat' (first | exact Ext.refl _ | assumption | refine Ext.alloc ?_ _ | refine Ext.ext ?_ _ | refine Ext.drew ?_ | refine Ext.drewN ?_ _)))).size Hmx.out).mono ?_; rintro e w5 ⟨r5, rfl, ho5, hg5, hj5⟩))); refine wp_region_ext (by kernel_rfl) (by kernel_rfl) ?_; (repeat (go_big_quiet_step ((go_at_call 69; exact Calls.quiet_ext (hq.out _))))); refine wpQuiet_nil ?_; rintro _ ⟨zq, rfl⟩))
            go_wp2_with ((first | (go_at_call 69; refine (hq.out _).mono ?_; rintro e w' ⟨rfl, z1, rfl⟩) | (go_at_call 70; refine (impl_withNode (twL xs i) _ m w.heap.size _ (own_ext Ho.out (X2.out.trans (by repeat' (first | exact Ext.refl _ | assumption | refine Ext.alloc ?_ _ | refine Ext.ext ?_ _ | refine Ext.drew ?_ | refine Ext.drewN ?_ _)))) Ha.out (show Ext w _ from Hx.out.trans (X2.out.trans (by repeat' (first | exact Ext.refl _ | assumption | refine Ext.alloc ?_ _ | refine Ext.ext ?_ _ | refine Ext.drew ?_ | refine Ext.drewN ?_ _)))).size Hmx.out).mono ?_; rintro e w5 ⟨r5, rfl, ho5, hg5, hj5⟩)))
            have hx5 : Ext w w5 := Ext.grown (Hx.out.trans (X2.out.trans (by repeat' (first | exact Ext.refl _ | assumption | refine Ext.alloc ?_ _ | refine Ext.ext ?_ _ | refine Ext.drew ?_ | refine Ext.drewN ?_ _)))) hg5 (fun j hj => (Ho.out.lt j hj).1)
            go_roundw
            case rel => exact ⟨i + 1, by omega, by go_num, by rw [hT.out]; exact ho5, hx5⟩
            case measure => simp [intOf]; omega
      · obtain rfl : i = xs.length := by omega
        go_wp2
        go_ret2
        exact ⟨_, rfl, by rw [hR.out]; exact own_ext Ho.out (by repeat' (first | exact Ext.refl _ | assumption | refine Ext.alloc ?_ _ | refine Ext.ext ?_ _ | refine Ext.drew ?_ | refine Ext.drewN ?_ _)), Hx.out.trans (by repeat' (first | exact Ext.refl _ | assumption | refine Ext.alloc ?_ _ | refine Ext.ext ?_ _ | refine Ext.drew ?_ | refine Ext.drewN ?_ _))⟩
end Go.Proofs.YtljknhocfjpolaaGreatDoor
namespace Go.Proofs.YtljknhocfjpolaaGreatDoor
open Go.RowKit
set_option maxHeartbeats 400000
theorem insR_perm (x : Cap) : ∀ S, (insR x S).Perm (x :: S)
  | [] => List.Perm.refl _
  | z :: S => by
    rw [insR]
    split
    · exact ((insR_perm x S).cons z).trans (List.Perm.swap x z S)
    · exact List.Perm.refl _
theorem insTo_perm (xs : List Cap) : ∀ k, k ≤ xs.length → (insTo xs k).Perm (xs.take k)
  | 0, _ => by rw [List.take_zero]; exact List.Perm.refl _
  | k + 1, hk => by
    rw [insTo, take_snoc xs .z k (by omega)]
    exact (insR_perm _ _).trans (((insTo_perm xs k (by omega)).cons _).trans (List.perm_append_singleton _ _).symm)
theorem mg_perm {a b : List Cap} (ha : capB a = true) (hb : capB b = true) : (mg a b).Perm (a ++ b) := by
  rw [← insTo_all a b (srt_of ha) (srt_of hb)]
  have := insTo_perm (a ++ b) (a ++ b).length (Nat.le_refl _)
  rwa [List.take_length] at this
theorem mg_len {a b : List Cap} (ha : capB a = true) (hb : capB b = true) : (mg a b).length = a.length + b.length := by
  rw [(mg_perm ha hb).length_eq, List.length_append]
theorem capB_of {xs : List Cap} (h1 : xs.length ≤ 10) (h2 : ∀ x ∈ xs, okC x = true) (h3 : xs.Pairwise (fun a b => a.t ≤ b.t)) : capB xs = true := by
  rw [cap_all, decide_eq_true h1]
  intro i hi
  rw [Bool.and_eq_true]
  refine ⟨h2 _ (mem_cap hi), ?_⟩
  rw [ordC]
  by_cases h0 : i = 0
  · subst h0; rfl
  · rw [Bool.or_eq_true, decide_eq_true_eq]
    right
    rw [List.pairwise_iff_getElem] at h3
    have := h3 (i - 1) i (by omega) hi (by omega)
    rwa [List.getD_eq_getElem?_getD, List.getD_eq_getElem?_getD, List.getElem?_eq_getElem hi, List.getElem?_eq_getElem (by omega)]
theorem cap_mem {xs : List Cap} (h : capB xs = true) : ∀ x ∈ xs, okC x = true := fun x hx => by
  obtain ⟨i, hi, rfl⟩ := List.mem_iff_getElem.1 hx
  have := ((cap_iff h).2 i hi).1
  rwa [List.getD_eq_getElem?_getD, List.getElem?_eq_getElem hi] at this
theorem capB_mg {a b : List Cap} (ha : capB a = true) (hb : capB b = true) (hl : a.length + b.length ≤ 10) : capB (mg a b) = true := by
  have hp := mg_perm ha hb
  refine capB_of (by rw [mg_len ha hb]; exact hl) (fun x hx => ?_) ?_
  · rcases List.mem_append.1 (hp.subset hx) with h | h
    · exact cap_mem ha x h
    · exact cap_mem hb x h
  · rw [← insTo_all a b (srt_of ha) (srt_of hb)]
    exact insTo_sorted _ _
/-- The octets of all, as a sum. -/
def octs (xs : List Cap) : Int := (xs.map fun x => 10 + (x.d.size : Int)).sum
theorem seenTo_sum (xs : List Cap) : ∀ k, k ≤ xs.length → seenTo xs k = octs (xs.take k)
  | 0, _ => by simp [seenTo, octs]
  | k + 1, hk => by
    rw [seenTo, seenTo_sum xs k (by omega), take_snoc xs .z k (by omega)]
    simp [octs]
theorem seen_sum {xs : List Cap} (h : capB xs = true) : seen xs = octs xs := by
  rw [seen_yes h, seenTo_sum xs _ (Nat.le_refl _), List.take_length]
theorem octs_perm {xs ys : List Cap} (h : xs.Perm ys) : octs xs = octs ys := by
  induction h with
  | nil => rfl
  | cons x _ ih => simp only [octs, List.map_cons, List.sum_cons] at *; omega
  | swap x y l => simp only [octs, List.map_cons, List.sum_cons]; omega
  | trans _ _ a b => exact a.trans b
theorem octs_app (xs ys : List Cap) : octs (xs ++ ys) = octs xs + octs ys := by simp [octs]
theorem seen_mg {a b : List Cap} (ha : capB a = true) (hb : capB b = true) (hl : a.length + b.length ≤ 10) : seen a + seen b = seen (mg a b) := by
  rw [seen_sum ha, seen_sum hb, seen_sum (capB_mg ha hb hl), octs_perm (mg_perm ha hb), octs_app]
/-- A number that was requested twice belongs to a request on its way up. -/
theorem twL_in (xs : List Cap) : ∀ i, i ≤ xs.length → ∀ y ∈ twL xs i, ∃ x ∈ xs, x.c = 3 ∧ x.u = true ∧ x.m = y
  | 0, _, y, hy => by cases hy
  | i + 1, hi, y, hy => by
    rw [twL] at hy
    split at hy
    · rename_i h
      rcases (put_mem _ _ _).1 hy with h2 | rfl
      · exact twL_in xs i (by omega) y h2
      · simp only [twB, Bool.and_eq_true, beq_iff_eq] at h
        exact ⟨_, mem_cap (by omega), h.1.1, h.1.2, rfl⟩
    · exact twL_in xs i (by omega) y hy
theorem twR_in {xs : List Cap} (h : capB xs = true) : ∀ y ∈ twR xs, ∃ x ∈ xs.filter (fun x => x.c == 3), x.u = true ∧ x.m = y := by
  intro y hy
  rw [twR_yes h] at hy
  obtain ⟨x, hx, h1, h2, h3⟩ := twL_in xs _ (Nat.le_refl _) y hy
  exact ⟨x, List.mem_filter.2 ⟨hx, by rw [h1]; rfl⟩, h2, h3⟩
theorem repN_pos (xs : List Cap) (q : Int) : 0 ≤ repN xs q := by
  cases h : repB xs q
  · rw [rep_no h]; exact Int.le_refl _
  · rw [rep_yes h]
    have h9 := h
    simp only [repB, Bool.and_eq_true, decide_eq_true_eq] at h9
    obtain ⟨i, hi, e1, -⟩ := hitC_lt (p := isReq q) (xs := xs) h9.2.2.1
    have hr : reqI xs q = i := e1
    have h4 := h9.2.2.2
    rw [repI, hr, Int.toNat_natCast] at h4
    obtain ⟨k, hk, e2, -⟩ := hitC_lt h4
    rw [repI, hr, Int.toNat_natCast, e2, Int.toNat_natCast]
    rw [List.length_drop] at hk
    have := srt_of h9.1 i (i + k) (by omega) (by omega)
    omega
end Go.Proofs.YtljknhocfjpolaaGreatDoor
