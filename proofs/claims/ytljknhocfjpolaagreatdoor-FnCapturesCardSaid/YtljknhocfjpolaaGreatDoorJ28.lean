/- Numbers requested twice: what is computed; the program's closure. Numbers requested twice: the reference's walk. -/
import Derived.Test.YtljknhocfjpolaaGreatDoorKWRepair2
import Derived.Test.YtljknhocfjpolaaGreatDoorKWPut2
namespace Go.Proofs.YtljknhocfjpolaaGreatDoor
open Go.RowKit
set_option maxHeartbeats 1000000
set_option maxRecDepth 100000
def sameReq (node q : Int) (x : Cap) : Bool := (x.c == 3 && x.u) && (x.n == node && x.m == q)
def twB (xs : List Cap) (i k : Nat) : Bool := ((xs.getD i .z).c == 3 && (xs.getD i .z).u) && (xs.take k).any (sameReq (xs.getD i .z).n (xs.getD i .z).m)
def twL (xs : List Cap) : Nat → List Int
  | 0 => []
  | i + 1 => if twB xs i i then put (twL xs i) (xs.getD i .z).m else twL xs i
def twIn (xs : List Cap) (i k : Nat) : List Int := if twB xs i k then put (twL xs i) (xs.getD i .z).m else twL xs i
def twR (xs : List Cap) : List Int := if capB xs then twL xs xs.length else []
theorem twR_no {xs : List Cap} (h : capB xs = false) : twR xs = [] := by rw [twR, h]; rfl
theorem twR_yes {xs : List Cap} (h : capB xs = true) : twR xs = twL xs xs.length := by rw [twR, h]; rfl
theorem twL_asc (xs : List Cap) : ∀ i, asc (twL xs i)
  | 0 => List.Pairwise.nil
  | i + 1 => by
    unfold twL
    split
    · exact put_asc (twL_asc xs i) _
    · exact twL_asc xs i
theorem twL_len (xs : List Cap) : ∀ i, (twL xs i).length ≤ i
  | 0 => Nat.le_refl _
  | i + 1 => by
    have := twL_len xs i
    unfold twL
    split
    · have := put_len (twL xs i) (xs.getD i .z).m; omega
    · omega
theorem twIn_asc (xs : List Cap) (i k : Nat) : asc (twIn xs i k) := by
  unfold twIn
  split
  · exact put_asc (twL_asc xs i) _
  · exact twL_asc xs i
theorem twIn_len (xs : List Cap) (i k : Nat) : (twIn xs i k).length ≤ i + 1 := by
  have := twL_len xs i
  unfold twIn
  split
  · have := put_len (twL xs i) (xs.getD i .z).m; omega
  · omega
theorem twIn_zero (xs : List Cap) (i : Nat) : twIn xs i 0 = twL xs i := by
  unfold twIn twB
  rw [List.take_zero, List.any_nil, Bool.and_false]
  rfl
theorem twIn_end (xs : List Cap) (i : Nat) : twIn xs i i = twL xs (i + 1) := rfl
theorem twB_succ (xs : List Cap) (i k : Nat) (hk : k < xs.length) : twB xs i (k + 1) = (twB xs i k || (((xs.getD i .z).c == 3 && (xs.getD i .z).u) && sameReq (xs.getD i .z).n (xs.getD i .z).m (xs.getD k .z))) := by
  unfold twB
  rw [take_snoc xs .z k hk, List.any_append, List.any_cons, List.any_nil, Bool.or_false, Bool.and_or_distrib_left]
theorem twIn_no (xs : List Cap) (i k : Nat) (hk : k < xs.length) (h : (((xs.getD i .z).c == 3 && (xs.getD i .z).u) && sameReq (xs.getD i .z).n (xs.getD i .z).m (xs.getD k .z)) = false) : twIn xs i (k + 1) = twIn xs i k := by
  unfold twIn
  rw [twB_succ xs i k hk, h, Bool.or_false]
theorem twIn_yes (xs : List Cap) (i k : Nat) (hk : k < xs.length) (h : (((xs.getD i .z).c == 3 && (xs.getD i .z).u) && sameReq (xs.getD i .z).n (xs.getD i .z).m (xs.getD k .z)) = true) : twIn xs i (k + 1) = put (twIn xs i k) (xs.getD i .z).m := by
  have e : twIn xs i (k + 1) = put (twL xs i) (xs.getD i .z).m := by
    unfold twIn
    rw [twB_succ xs i k hk, h, Bool.or_true]
    rfl
  rw [e]
  unfold twIn
  split
  · exact (put_in (put_asc (twL_asc xs i) _) ((put_mem _ _ _).2 (.inr rfl))).symm
  · rfl
theorem rd_takeC {w : World} {p : Option Addr} {cap : Nat} {xs : List Cap} (h : Rd w 8 (.slice p xs.length cap) xs.length (xs.flatMap Cap.cs)) (i : Nat) (hi : i ≤ xs.length) :
    Rd w 8 (.slice p i cap) (xs.take i).length ((xs.take i).flatMap Cap.cs) := by
  have hl : (xs.take i).length = i := by rw [List.length_take, Nat.min_eq_left hi]
  obtain ⟨-, p', c', e, h4⟩ := h
  cases e
  refine ⟨by rw [caps_len], p, cap, by rw [hl], ?_⟩
  rcases h4 with h0 | ⟨b, off, rfl, h6⟩
  · exact .inl (by omega)
  · refine .inr ⟨b, off, rfl, fun j hj => ?_⟩
    have e : xs.flatMap Cap.cs = (xs.take i).flatMap Cap.cs ++ (xs.drop i).flatMap Cap.cs := by rw [← List.flatMap_append, List.take_append_drop]
    have hj' : j < (xs.flatMap Cap.cs).length := by rw [e, List.length_append]; omega
    rw [h6 j hj']
    congr 1
    simp only [e, List.getElem_append_left hj]
theorem impl_TwiceRequested_1 (node q : Int) (t n : Int) (u : Bool) (c m r l : Int) (d : ByteArray) (B : Nat) (w : World) (hN : w.cell? ⟨B, 1, none⟩ = some (.int .i64 node)) (hM : w.cell? ⟨B, 4, none⟩ = some (.int .i64 q)) :
    Calls Tryz.prog 68 (#[.agg #[.int .i64 t, .int .i64 n, .bool u, .int .i64 c, .int .i64 m, .int .i64 r, .int .i64 l, .string d]] ++ #[.pointer (some ⟨B, 0, none⟩)]) w fun e w' => e = .returned (.bool (sameReq node q ⟨t, n, u, c, m, r, l, d⟩)) ∧ Ext w w' := by
  have hq := hid (fun w => impl_isRequestUp t n u c m r l d w)
  have hf : Hid (sameReq node q ⟨t, n, u, c, m, r, l, d⟩ = ((c == 3 && u) && (n == node && m == q))) := rfl
  cases hk : (c == 3 && u)
  · rw [hk] at hq
    have Hk := hid hk
    clear hk
    go_enter Tryz.func68, Tryz.ntmps68
    repeat (first | (go_wp2_with ((go_at_call 69; refine (hq.out _).mono ?_; rintro e w' ⟨rfl, z1, rfl⟩)); refine wp_region_ext (by kernel_rfl) (by kernel_rfl) ?_; (repeat (go_big_quiet_step ((go_at_call 69; exact Calls.quiet_ext (hq.out _))))); refine wpQuiet_nil ?_; rintro _ ⟨zq, rfl⟩))
    go_wp2_with ((go_at_call 69; refine (hq.out _).mono ?_; rintro e w' ⟨rfl, z1, rfl⟩))
    go_ret
    exact ⟨by rw [hf.out, Hk.out]; rfl, (by repeat' (first | exact Ext.refl _ | assumption | refine Ext.alloc ?_ _ | refine Ext.ext ?_ _ | refine Ext.drew ?_ | refine Ext.drewN ?_ _))⟩
  · rw [hk] at hq
    have Hk := hid hk
    clear hk
    by_cases hn : n = node
    · subst hn
      by_cases hm : m = q
      · subst hm
        go_enter Tryz.func68, Tryz.ntmps68
        repeat (first | (go_wp2_with ((go_at_call 69; refine (hq.out _).mono ?_; rintro e w' ⟨rfl, z1, rfl⟩)); refine wp_region_ext (by kernel_rfl) (by kernel_rfl) ?_; (repeat (go_big_quiet_step ((go_at_call 69; exact Calls.quiet_ext (hq.out _))))); refine wpQuiet_nil ?_; rintro _ ⟨zq, rfl⟩))
        go_wp2_with ((go_at_call 69; refine (hq.out _).mono ?_; rintro e w' ⟨rfl, z1, rfl⟩))
        go_ret
        exact ⟨by rw [hf.out, Hk.out, beq_self_eq_true, beq_self_eq_true]; rfl, (by repeat' (first | exact Ext.refl _ | assumption | refine Ext.alloc ?_ _ | refine Ext.ext ?_ _ | refine Ext.drew ?_ | refine Ext.drewN ?_ _))⟩
      · have t0 : (m == q) = false := by simp [hm]
        have T0 := hid t0
        go_enter Tryz.func68, Tryz.ntmps68
        repeat (first | (go_wp2_with ((go_at_call 69; refine (hq.out _).mono ?_; rintro e w' ⟨rfl, z1, rfl⟩)); refine wp_region_ext (by kernel_rfl) (by kernel_rfl) ?_; (repeat (go_big_quiet_step ((go_at_call 69; exact Calls.quiet_ext (hq.out _))))); refine wpQuiet_nil ?_; rintro _ ⟨zq, rfl⟩))
        go_wp2_with ((go_at_call 69; refine (hq.out _).mono ?_; rintro e w' ⟨rfl, z1, rfl⟩))
        go_ret
        exact ⟨by rw [hf.out, Hk.out, T0.out, Bool.and_false]; rfl, (by repeat' (first | exact Ext.refl _ | assumption | refine Ext.alloc ?_ _ | refine Ext.ext ?_ _ | refine Ext.drew ?_ | refine Ext.drewN ?_ _))⟩
    · have t0 : (n == node) = false := by simp [hn]
      have T0 := hid t0
      go_enter Tryz.func68, Tryz.ntmps68
      repeat (first | (go_wp2_with ((go_at_call 69; refine (hq.out _).mono ?_; rintro e w' ⟨rfl, z1, rfl⟩)); refine wp_region_ext (by kernel_rfl) (by kernel_rfl) ?_; (repeat (go_big_quiet_step ((go_at_call 69; exact Calls.quiet_ext (hq.out _))))); refine wpQuiet_nil ?_; rintro _ ⟨zq, rfl⟩))
      go_wp2_with ((go_at_call 69; refine (hq.out _).mono ?_; rintro e w' ⟨rfl, z1, rfl⟩))
      go_ret
      exact ⟨by rw [hf.out, Hk.out, T0.out]; rfl, (by repeat' (first | exact Ext.refl _ | assumption | refine Ext.alloc ?_ _ | refine Ext.ext ?_ _ | refine Ext.drew ?_ | refine Ext.drewN ?_ _))⟩
end Go.Proofs.YtljknhocfjpolaaGreatDoor
namespace Go.Proofs.YtljknhocfjpolaaGreatDoor
open Go.RowKit
set_option maxHeartbeats 1000000
set_option maxRecDepth 100000
theorem tw_cond (x y : Cap) : ((x.c == 3 && x.u) && sameReq x.n x.m y) = ((y.n == x.n) && (isReq x.m x && isReq x.m y)) := by
  unfold sameReq isReq
  rw [beq_self_eq_true]
  generalize (x.c == 3) = a
  generalize (y.c == 3) = b
  generalize (y.n == x.n) = c
  generalize (y.m == x.m) = d
  generalize x.u = e
  generalize y.u = f
  cases a <;> cases b <;> cases c <;> cases d <;> cases e <;> cases f <;> rfl
theorem spec_TwiceRequested (xs : List Cap) (v : Value) (w : World) (h : Rd w 8 v xs.length (xs.flatMap Cap.cs)) (h2 : xs.length ≤ 1048576) (h3 : Cap.chars xs ≤ 1048576) :
    Calls Tryz.prog 29 #[v] w fun e w' => ∃ r, e = .returned (.tuple #[r, .bool (capB xs)]) ∧ w'.ownsRow w.heap.size 3 1 r (twR xs).length (vInts (twR xs)) ∧ Ext w w' := by
  have Hr := hid h
  obtain ⟨h1, p, cap, rfl, h4⟩ := h
  have H4 := hid h4
  have hg : Hid (∀ w, Rd w 8 (.slice p xs.length cap) xs.length (xs.flatMap Cap.cs) → Calls Tryz.prog 40 #[.slice p xs.length cap] w fun e w' => e = .returned (.bool (capB xs)) ∧ Ext w w') := fun w h => spec_l25Good xs _ w h h2 h3
  have ho0 := World.ownsRow_lit (base := w.heap.size) (e := 3) (size := 1) w #[] 0 (Nat.le_refl _) (Nat.zero_le _) rfl
  have Ho0 := hid ho0
  clear ho0 h1 h4
  cases e1 : capB xs
  · rw [twR_no e1]
    rw [e1] at hg
    clear e1
    go_enter Tryz.func29, Tryz.ntmps29
    go_wp2_with (go_at_call 40; (refine (hg.out _ (Hr.out.ext (by repeat' (first | exact Ext.refl _ | assumption | refine Ext.alloc ?_ _ | refine Ext.ext ?_ _ | refine Ext.drew ?_ | refine Ext.drewN ?_ _)))).mono ?_); rintro e w1 ⟨rfl, z1, rfl⟩)
    go_ret2
    exact ⟨_, rfl, own_ext Ho0.out (by repeat' (first | exact Ext.refl _ | assumption | refine Ext.alloc ?_ _ | refine Ext.ext ?_ _ | refine Ext.drew ?_ | refine Ext.drewN ?_ _)), (by repeat' (first | exact Ext.refl _ | assumption | refine Ext.alloc ?_ _ | refine Ext.ext ?_ _ | refine Ext.drew ?_ | refine Ext.drewN ?_ _))⟩
  · have hR := hid (twR_yes e1)
    rw [e1] at hg
    clear e1
    go_enter Tryz.func29, Tryz.ntmps29
    go_wp2_with (go_at_call 40; (refine (hg.out _ (Hr.out.ext (by repeat' (first | exact Ext.refl _ | assumption | refine Ext.alloc ?_ _ | refine Ext.ext ?_ _ | refine Ext.drew ?_ | refine Ext.drewN ?_ _)))).mono ?_); rintro e w1 ⟨rfl, z1, rfl⟩)
    go_loopw [5, 4] (fun v5 v4 wr => ∃ i : Nat, i ≤ xs.length ∧ v5 = .int .i64 i ∧ wr.ownsRow w.heap.size 3 1 v4 (twL xs i).length (vInts (twL xs i)) ∧ Ext w wr) (fun v5 _ _ => xs.length - (intOf v5).toNat)
    case atStart => exact ⟨0, Nat.zero_le _, rfl, own_ext Ho0.out (by repeat' (first | exact Ext.refl _ | assumption | refine Ext.alloc ?_ _ | refine Ext.ext ?_ _ | refine Ext.drew ?_ | refine Ext.drewN ?_ _)), (by repeat' (first | exact Ext.refl _ | assumption | refine Ext.alloc ?_ _ | refine Ext.ext ?_ _ | refine Ext.drew ?_ | refine Ext.drewN ?_ _))⟩
    case round =>
      obtain ⟨i, hi, rfl, ho, hx⟩ := hrel
      have Hx := hid hx
      have Ho := hid ho
      clear hx ho hg
      by_cases hlt : i < xs.length
      · obtain ⟨b, off, rfl, h6⟩ := H4.out.resolve_left (by omega)
        have H6 := hid h6
        have c4 := Hx.out.cell (Cap.at xs h6 i hlt).2.2.2.2.1
        clear h6
        have H0 := hid (twIn_zero xs i)
        have Hend := hid (twIn_end xs i)
        have Hasc := hid (fun k => twIn_asc xs i k)
        have Hlen := hid (fun k => twIn_len xs i k)
        have Hstep := hid (fun k (hk : k < xs.length) => And.intro (twIn_no xs i k hk) (twIn_yes xs i k hk))
        have hc := fun y => tw_cond (xs.getD i .z) y
        have Hc := hid hc
        have Hat := hid (Cap.at xs H6.out i hlt)
        clear hc
        generalize xs.getD i .z = x at *
        obtain ⟨t, n, u, c, m, r, l, d⟩ := x
        dsimp only at c4
        repeat (first | (go_wp2_with (fail); refine wp_region_ext (by kernel_rfl) (by kernel_rfl) ?_; (repeat (go_big_quiet_step (fail))); refine wpQuiet_nil ?_; rintro _ ⟨zq, rfl⟩))
        go_wp2_with (fail)
        go_loopw [7, 4] (fun v7 v4 wq => ∃ k : Nat, k ≤ i ∧ v7 = .int .i64 k ∧ wq.ownsRow w.heap.size 3 1 v4 (twIn xs i k).length (vInts (twIn xs i k)) ∧ Ext w wq) (fun v7 _ _ => i - (intOf v7).toNat)
        case atStart => exact ⟨0, Nat.zero_le _, rfl, by rw [H0.out]; exact own_ext Ho.out (by repeat' (first | exact Ext.refl _ | assumption | refine Ext.alloc ?_ _ | refine Ext.ext ?_ _ | refine Ext.drew ?_ | refine Ext.drewN ?_ _)), Hx.out.trans (by repeat' (first | exact Ext.refl _ | assumption | refine Ext.alloc ?_ _ | refine Ext.ext ?_ _ | refine Ext.drew ?_ | refine Ext.drewN ?_ _))⟩
        case round =>
          obtain ⟨k, hk, rfl, ho, hx2⟩ := hrel
          have Hx2 := hid hx2
          have Ho2 := hid ho
          clear ho hx2
          by_cases hlt2 : k < i
          · obtain ⟨c0, c1, c2, c3, c4, c5, c6, c7⟩ := Hat.out
            replace c0 := Hx2.out.cell c0
            replace c1 := Hx2.out.cell c1
            replace c2 := Hx2.out.cell c2
            replace c3 := Hx2.out.cell c3
            replace c4 := Hx2.out.cell c4
            replace c5 := Hx2.out.cell c5
            replace c6 := Hx2.out.cell c6
            replace c7 := Hx2.out.cell c7
            obtain ⟨e0, e1, e2, e3, e4, e5, e6, e7⟩ := Cap.at xs H6.out k (by omega)
            replace e0 := Hx2.out.cell e0
            replace e1 := Hx2.out.cell e1
            replace e2 := Hx2.out.cell e2
            replace e3 := Hx2.out.cell e3
            replace e4 := Hx2.out.cell e4
            replace e5 := Hx2.out.cell e5
            replace e6 := Hx2.out.cell e6
            replace e7 := Hx2.out.cell e7
            have hst := Hstep.out k (by omega)
            have hk1 : k + 1 ≤ i := hlt2
            rw [Hc.out] at hst
            have Ha := hid (Hasc.out k)
            have Hl := hid (Hlen.out k)
            have Hs := hid hst
            clear hst
            generalize xs.getD k .z = y at *
            obtain ⟨t', n', u', c', m', r', l', d'⟩ := y
            dsimp only at e0 e1 e2 e3 e4 e5 e6 e7
            have ha := hid (fun w => spec_l25Is 3 m true t n u c m r l d w)
            have hb := hid (fun w => spec_l25Is 3 m true t' n' u' c' m' r' l' d' w)
            have hs' : Hid (((n' == n && (isIs 3 m true ⟨t, n, u, c, m, r, l, d⟩ && isIs 3 m true ⟨t', n', u', c', m', r', l', d'⟩)) = false → twIn xs i (k + 1) = twIn xs i k) ∧ ((n' == n && (isIs 3 m true ⟨t, n, u, c, m, r, l, d⟩ && isIs 3 m true ⟨t', n', u', c', m', r', l', d'⟩)) = true → twIn xs i (k + 1) = put (twIn xs i k) m)) := by
              rw [isIs_req, isIs_req]
              exact Hs.out
            clear Hs
            generalize isIs 3 m true ⟨t, n, u, c, m, r, l, d⟩ = A at *
            generalize isIs 3 m true ⟨t', n', u', c', m', r', l', d'⟩ = B at *
            have hmx : (twIn xs i k).length ≤ 1048576 := by have := Hl.out; omega
            have Hmx := hid hmx
            clear hmx
            by_cases hn : n' = n
            · subst hn
              cases A
              · have hT := hid (hs'.out.1 (by rw [Bool.false_and, Bool.and_false]))
                repeat (first | (go_wp2_with (fail); refine wp_region_ext (by kernel_rfl) (by kernel_rfl) ?_; (repeat (go_big_quiet_step ((go_at_call 71; first | (with_reducible exact Calls.quiet_ext (ha.out _)) | (with_reducible exact Calls.quiet_ext (hb.out _)))))); refine wpQuiet_nil ?_; rintro _ ⟨zq, rfl⟩))
                go_wp2_with (fail)
                go_roundw
                case rel => exact ⟨k + 1, hk1, by go_num, by rw [hT.out]; exact own_ext Ho2.out (by repeat' (first | exact Ext.refl _ | assumption | refine Ext.alloc ?_ _ | refine Ext.ext ?_ _ | refine Ext.drew ?_ | refine Ext.drewN ?_ _)), Hx2.out.trans (by repeat' (first | exact Ext.refl _ | assumption | refine Ext.alloc ?_ _ | refine Ext.ext ?_ _ | refine Ext.drew ?_ | refine Ext.drewN ?_ _))⟩
                case measure => simp [intOf]; omega
              · cases B
                · have hT := hid (hs'.out.1 (by rw [Bool.and_false, Bool.and_false]))
                  repeat (first | (go_wp2_with (fail); refine wp_region_ext (by kernel_rfl) (by kernel_rfl) ?_; (repeat (go_big_quiet_step ((go_at_call 71; first | (with_reducible exact Calls.quiet_ext (ha.out _)) | (with_reducible exact Calls.quiet_ext (hb.out _)))))); refine wpQuiet_nil ?_; rintro _ ⟨zq, rfl⟩))
                  go_wp2_with (fail)
                  go_roundw
                  case rel => exact ⟨k + 1, hk1, by go_num, by rw [hT.out]; exact own_ext Ho2.out (by repeat' (first | exact Ext.refl _ | assumption | refine Ext.alloc ?_ _ | refine Ext.ext ?_ _ | refine Ext.drew ?_ | refine Ext.drewN ?_ _)), Hx2.out.trans (by repeat' (first | exact Ext.refl _ | assumption | refine Ext.alloc ?_ _ | refine Ext.ext ?_ _ | refine Ext.drew ?_ | refine Ext.drewN ?_ _))⟩
                  case measure => simp [intOf]; omega
                · have hT := hid (hs'.out.2 (by rw [beq_self_eq_true]; rfl))
                  repeat (first | (go_wp2_with ((go_at_call 72; refine (spec_l1Put _ _ m w.heap.size _ (own_ext Ho2.out (by repeat' (first | exact Ext.refl _ | assumption | refine Ext.alloc ?_ _ | refine Ext.ext ?_ _ | refine Ext.drew ?_ | refine Ext.drewN ?_ _))) Ha.out (show Ext w _ from Hx2.out.trans (by repeat' (first | exact Ext.refl _ | assumption | refine Ext.alloc ?_ _ | refine Ext.ext ?_ _ | refine Ext.drew ?_ | refine Ext.drewN ?_ _))).size Hmx.out).mono ?_; rintro e w5 ⟨r5, rfl, ho5, z5, rfl⟩)); refine wp_region_ext (by kernel_rfl) (by kernel_rfl) ?_; (repeat (go_big_quiet_step ((go_at_call 71; first | (with_reducible exact Calls.quiet_ext (ha.out _)) | (with_reducible exact Calls.quiet_ext (hb.out _)))))); refine wpQuiet_nil ?_; rintro _ ⟨zq, rfl⟩))
                  go_wp2_with ((go_at_call 72; refine (spec_l1Put _ _ m w.heap.size _ (own_ext Ho2.out (by repeat' (first | exact Ext.refl _ | assumption | refine Ext.alloc ?_ _ | refine Ext.ext ?_ _ | refine Ext.drew ?_ | refine Ext.drewN ?_ _))) Ha.out (show Ext w _ from Hx2.out.trans (by repeat' (first | exact Ext.refl _ | assumption | refine Ext.alloc ?_ _ | refine Ext.ext ?_ _ | refine Ext.drew ?_ | refine Ext.drewN ?_ _))).size Hmx.out).mono ?_; rintro e w5 ⟨r5, rfl, ho5, z5, rfl⟩))
                  go_roundw
                  case rel => exact ⟨k + 1, hk1, by go_num, by rw [hT.out]; exact own_ext ho5 (by repeat' (first | exact Ext.refl _ | assumption | refine Ext.alloc ?_ _ | refine Ext.ext ?_ _ | refine Ext.drew ?_ | refine Ext.drewN ?_ _)), Hx2.out.trans (by repeat' (first | exact Ext.refl _ | assumption | refine Ext.alloc ?_ _ | refine Ext.ext ?_ _ | refine Ext.drew ?_ | refine Ext.drewN ?_ _))⟩
                  case measure => simp [intOf]; omega
            · have t0 : (n' == n) = false := by simp [hn]
              have hT := hid (hs'.out.1 (by rw [t0]; rfl))
              repeat (first | (go_wp2_with (fail); refine wp_region_ext (by kernel_rfl) (by kernel_rfl) ?_; (repeat (go_big_quiet_step ((go_at_call 71; first | (with_reducible exact Calls.quiet_ext (ha.out _)) | (with_reducible exact Calls.quiet_ext (hb.out _)))))); refine wpQuiet_nil ?_; rintro _ ⟨zq, rfl⟩))
              go_wp2_with (fail)
              go_roundw
              case rel => exact ⟨k + 1, hk1, by go_num, by rw [hT.out]; exact own_ext Ho2.out (by repeat' (first | exact Ext.refl _ | assumption | refine Ext.alloc ?_ _ | refine Ext.ext ?_ _ | refine Ext.drew ?_ | refine Ext.drewN ?_ _)), Hx2.out.trans (by repeat' (first | exact Ext.refl _ | assumption | refine Ext.alloc ?_ _ | refine Ext.ext ?_ _ | refine Ext.drew ?_ | refine Ext.drewN ?_ _))⟩
              case measure => simp [intOf]; omega
          · obtain rfl : k = i := by omega
            go_wp2
            go_roundw
            case rel => exact ⟨k + 1, by omega, by go_num, by rw [← Hend.out]; exact own_ext Ho2.out (by repeat' (first | exact Ext.refl _ | assumption | refine Ext.alloc ?_ _ | refine Ext.ext ?_ _ | refine Ext.drew ?_ | refine Ext.drewN ?_ _)), Hx2.out.trans (by repeat' (first | exact Ext.refl _ | assumption | refine Ext.alloc ?_ _ | refine Ext.ext ?_ _ | refine Ext.drew ?_ | refine Ext.drewN ?_ _))⟩
            case measure => simp [intOf]; omega
      · obtain rfl : i = xs.length := by omega
        go_wp2
        go_ret2
        exact ⟨_, rfl, by rw [hR.out]; exact own_ext Ho.out (by repeat' (first | exact Ext.refl _ | assumption | refine Ext.alloc ?_ _ | refine Ext.ext ?_ _ | refine Ext.drew ?_ | refine Ext.drewN ?_ _)), Hx.out.trans (by repeat' (first | exact Ext.refl _ | assumption | refine Ext.alloc ?_ _ | refine Ext.ext ?_ _ | refine Ext.drew ?_ | refine Ext.drewN ?_ _))⟩
end Go.Proofs.YtljknhocfjpolaaGreatDoor
