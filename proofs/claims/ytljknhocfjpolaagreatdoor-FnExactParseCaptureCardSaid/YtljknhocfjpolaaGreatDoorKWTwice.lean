/- Numbers requested twice: what is computed; the program's closure. -/
import Derived.Test.YtljknhocfjpolaaGreatDoorKWRepair2
import Derived.Test.YtljknhocfjpolaaGreatDoorKWPut2
namespace Go.Proofs.YtljknhocfjpolaaGreatDoor
open Go.RowKit
set_option maxHeartbeats 1000000
set_option maxRecDepth 100000
def sameReq (node q : Int) (x : Cap) : Bool := (x.c == 3 && x.u) && (x.n == node && x.m == q)
def twB (xs : List Cap) (i k : Nat) : Bool := ((xs.getD i .z).c == 3 && (xs.getD i .z).u) && (xs.take k).any (sameReq (xs.getD i .z).n (xs.getD i .z).m)
def twL (xs : List Cap) : Nat → List Int
  | 0 => []
  | i + 1 => if twB xs i i then put (twL xs i) (xs.getD i .z).m else twL xs i
def twIn (xs : List Cap) (i k : Nat) : List Int := if twB xs i k then put (twL xs i) (xs.getD i .z).m else twL xs i
def twR (xs : List Cap) : List Int := if capB xs then twL xs xs.length else []
theorem twR_no {xs : List Cap} (h : capB xs = false) : twR xs = [] := by rw [twR, h]; rfl
theorem twR_yes {xs : List Cap} (h : capB xs = true) : twR xs = twL xs xs.length := by rw [twR, h]; rfl
theorem twL_asc (xs : List Cap) : ∀ i, asc (twL xs i)
  | 0 => List.Pairwise.nil
  | i + 1 => by
    unfold twL
    split
    · exact put_asc (twL_asc xs i) _
    · exact twL_asc xs i
theorem twL_len (xs : List Cap) : ∀ i, (twL xs i).length ≤ i
  | 0 => Nat.le_refl _
  | i + 1 => by
    have := twL_len xs i
    unfold twL
    split
    · have := put_len (twL xs i) (xs.getD i .z).m; omega
    · omega
theorem twIn_asc (xs : List Cap) (i k : Nat) : asc (twIn xs i k) := by
  unfold twIn
  split
  · exact put_asc (twL_asc xs i) _
  · exact twL_asc xs i
theorem twIn_len (xs : List Cap) (i k : Nat) : (twIn xs i k).length ≤ i + 1 := by
  have := twL_len xs i
  unfold twIn
  split
  · have := put_len (twL xs i) (xs.getD i .z).m; omega
  · omega
theorem twIn_zero (xs : List Cap) (i : Nat) : twIn xs i 0 = twL xs i := by
  unfold twIn twB
  rw [List.take_zero, List.any_nil, Bool.and_false]
  rfl
theorem twIn_end (xs : List Cap) (i : Nat) : twIn xs i i = twL xs (i + 1) := rfl
theorem twB_succ (xs : List Cap) (i k : Nat) (hk : k < xs.length) : twB xs i (k + 1) = (twB xs i k || (((xs.getD i .z).c == 3 && (xs.getD i .z).u) && sameReq (xs.getD i .z).n (xs.getD i .z).m (xs.getD k .z))) := by
  unfold twB
  rw [take_snoc xs .z k hk, List.any_append, List.any_cons, List.any_nil, Bool.or_false, Bool.and_or_distrib_left]
theorem twIn_no (xs : List Cap) (i k : Nat) (hk : k < xs.length) (h : (((xs.getD i .z).c == 3 && (xs.getD i .z).u) && sameReq (xs.getD i .z).n (xs.getD i .z).m (xs.getD k .z)) = false) : twIn xs i (k + 1) = twIn xs i k := by
  unfold twIn
  rw [twB_succ xs i k hk, h, Bool.or_false]
theorem twIn_yes (xs : List Cap) (i k : Nat) (hk : k < xs.length) (h : (((xs.getD i .z).c == 3 && (xs.getD i .z).u) && sameReq (xs.getD i .z).n (xs.getD i .z).m (xs.getD k .z)) = true) : twIn xs i (k + 1) = put (twIn xs i k) (xs.getD i .z).m := by
  have e : twIn xs i (k + 1) = put (twL xs i) (xs.getD i .z).m := by
    unfold twIn
    rw [twB_succ xs i k hk, h, Bool.or_true]
    rfl
  rw [e]
  unfold twIn
  split
  · exact (put_in (put_asc (twL_asc xs i) _) ((put_mem _ _ _).2 (.inr rfl))).symm
  · rfl
theorem rd_takeC {w : World} {p : Option Addr} {cap : Nat} {xs : List Cap} (h : Rd w 8 (.slice p xs.length cap) xs.length (xs.flatMap Cap.cs)) (i : Nat) (hi : i ≤ xs.length) :
    Rd w 8 (.slice p i cap) (xs.take i).length ((xs.take i).flatMap Cap.cs) := by
  have hl : (xs.take i).length = i := by rw [List.length_take, Nat.min_eq_left hi]
  obtain ⟨-, p', c', e, h4⟩ := h
  cases e
  refine ⟨by rw [caps_len], p, cap, by rw [hl], ?_⟩
  rcases h4 with h0 | ⟨b, off, rfl, h6⟩
  · exact .inl (by omega)
  · refine .inr ⟨b, off, rfl, fun j hj => ?_⟩
    have e : xs.flatMap Cap.cs = (xs.take i).flatMap Cap.cs ++ (xs.drop i).flatMap Cap.cs := by rw [← List.flatMap_append, List.take_append_drop]
    have hj' : j < (xs.flatMap Cap.cs).length := by rw [e, List.length_append]; omega
    rw [h6 j hj']
    congr 1
    simp only [e, List.getElem_append_left hj]
theorem impl_TwiceRequested_1 (node q : Int) (t n : Int) (u : Bool) (c m r l : Int) (d : ByteArray) (B : Nat) (w : World) (hN : w.cell? ⟨B, 1, none⟩ = some (.int .i64 node)) (hM : w.cell? ⟨B, 4, none⟩ = some (.int .i64 q)) :
    Calls Tryz.prog 68 (#[.agg #[.int .i64 t, .int .i64 n, .bool u, .int .i64 c, .int .i64 m, .int .i64 r, .int .i64 l, .string d]] ++ #[.pointer (some ⟨B, 0, none⟩)]) w fun e w' => e = .returned (.bool (sameReq node q ⟨t, n, u, c, m, r, l, d⟩)) ∧ Ext w w' := by
  have hq := hid (fun w => impl_isRequestUp t n u c m r l d w)
  have hf : Hid (sameReq node q ⟨t, n, u, c, m, r, l, d⟩ = ((c == 3 && u) && (n == node && m == q))) := rfl
  cases hk : (c == 3 && u)
  · rw [hk] at hq
    have Hk := hid hk
    clear hk
    go_enter Tryz.func68, Tryz.ntmps68
    repeat (first | (go_wp2_with ((go_at_call 69; refine (hq.out _).mono ?_; rintro e w' ⟨rfl, z1, rfl⟩)); refine wp_region_ext (by kernel_rfl) (by kernel_rfl) ?_; (repeat (go_big_quiet_step ((go_at_call 69; exact Calls.quiet_ext (hq.out _))))); refine wpQuiet_nil ?_; rintro _ ⟨zq, rfl⟩))
    go_wp2_with ((go_at_call 69; refine (hq.out _).mono ?_; rintro e w' ⟨rfl, z1, rfl⟩))
    go_ret
    exact ⟨by rw [hf.out, Hk.out]; rfl, (by repeat' (first | exact Ext.refl _ | assumption | refine Ext.alloc ?_ _ | refine Ext.ext ?_ _ | refine Ext.drew ?_ | refine Ext.drewN ?_ _))⟩
  · rw [hk] at hq
    have Hk := hid hk
    clear hk
    by_cases hn : n = node
    · subst hn
      by_cases hm : m = q
      · subst hm
        go_enter Tryz.func68, Tryz.ntmps68
        repeat (first | (go_wp2_with ((go_at_call 69; refine (hq.out _).mono ?_; rintro e w' ⟨rfl, z1, rfl⟩)); refine wp_region_ext (by kernel_rfl) (by kernel_rfl) ?_; (repeat (go_big_quiet_step ((go_at_call 69; exact Calls.quiet_ext (hq.out _))))); refine wpQuiet_nil ?_; rintro _ ⟨zq, rfl⟩))
        go_wp2_with ((go_at_call 69; refine (hq.out _).mono ?_; rintro e w' ⟨rfl, z1, rfl⟩))
        go_ret
        exact ⟨by rw [hf.out, Hk.out, beq_self_eq_true, beq_self_eq_true]; rfl, (by repeat' (first | exact Ext.refl _ | assumption | refine Ext.alloc ?_ _ | refine Ext.ext ?_ _ | refine Ext.drew ?_ | refine Ext.drewN ?_ _))⟩
      · have t0 : (m == q) = false := by simp [hm]
        have T0 := hid t0
        go_enter Tryz.func68, Tryz.ntmps68
        repeat (first | (go_wp2_with ((go_at_call 69; refine (hq.out _).mono ?_; rintro e w' ⟨rfl, z1, rfl⟩)); refine wp_region_ext (by kernel_rfl) (by kernel_rfl) ?_; (repeat (go_big_quiet_step ((go_at_call 69; exact Calls.quiet_ext (hq.out _))))); refine wpQuiet_nil ?_; rintro _ ⟨zq, rfl⟩))
        go_wp2_with ((go_at_call 69; refine (hq.out _).mono ?_; rintro e w' ⟨rfl, z1, rfl⟩))
        go_ret
        exact ⟨by rw [hf.out, Hk.out, T0.out, Bool.and_false]; rfl, (by repeat' (first | exact Ext.refl _ | assumption | refine Ext.alloc ?_ _ | refine Ext.ext ?_ _ | refine Ext.drew ?_ | refine Ext.drewN ?_ _))⟩
    · have t0 : (n == node) = false := by simp [hn]
      have T0 := hid t0
      go_enter Tryz.func68, Tryz.ntmps68
      repeat (first | (go_wp2_with ((go_at_call 69; refine (hq.out _).mono ?_; rintro e w' ⟨rfl, z1, rfl⟩)); refine wp_region_ext (by kernel_rfl) (by kernel_rfl) ?_; (repeat (go_big_quiet_step ((go_at_call 69; exact Calls.quiet_ext (hq.out _))))); refine wpQuiet_nil ?_; rintro _ ⟨zq, rfl⟩))
      go_wp2_with ((go_at_call 69; refine (hq.out _).mono ?_; rintro e w' ⟨rfl, z1, rfl⟩))
      go_ret
      exact ⟨by rw [hf.out, Hk.out, T0.out]; rfl, (by repeat' (first | exact Ext.refl _ | assumption | refine Ext.alloc ?_ _ | refine Ext.ext ?_ _ | refine Ext.drew ?_ | refine Ext.drewN ?_ _))⟩
end Go.Proofs.YtljknhocfjpolaaGreatDoor
