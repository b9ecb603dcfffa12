/- Nodes of a tree that are drawn. -/
import Derived.Test.YtppdbnopgcjgjaaWCurL
import Derived.Maps.AppendAt
namespace Go.Proofs.Ytppdbnopgcjgjaa
open Go.RowKit
set_option maxHeartbeats 2000000
set_option maxRecDepth 100000
theorem spec_treeNode {bs : List Int} (hb : Bts bs) {lo B A : Nat} {v : Value} (p : Option Addr) (n cap : Nat) (w : World) (h : Cs w lo B v bs A) (hn : 1 ≤ n ∧ n ≤ 100) (hA : A ≤ 800000) :
    Calls Try.prog 40 #[.pointer (some ⟨B, 0, none⟩), .agg #[.slice p n cap]] w fun e w' => ∃ x : Int, e = .returned (.int .i64 x) ∧ Cs w' lo B v bs (A + 3) ∧ w.grownBy w' (some B) := by
  have Hb := hid hb
  have H0 : Hid (Dr w (w.alloc (.cells #[.slice p n cap] 26)) lo B v bs A ∧ (w.alloc (.cells #[.slice p n cap] 26)).heap[w.heap.size]? = some (.cells #[.slice p n cap] 26 (0, 0))) := ⟨(Dr.start h).ext (by repeat' (first | exact Ext.refl _ | assumption | refine Ext.alloc ?_ _ | refine Ext.ext ?_ _ | refine Ext.drew ?_ | refine Ext.drewN ?_ _)), heap_at _ rfl⟩
  clear h hb
  go_enter Try.func40, Try.ntmps40
  go_wp2_with fail
  generalize (w.alloc (.cells #[.slice p n cap] 26)) = w0 at *
  obtain ⟨c0, g0, hT0⟩ := box1 H0.out.2
  have X0 : Ext w0 w0.drew := (by repeat' (first | exact Ext.refl _ | assumption | refine Ext.alloc ?_ _ | refine Ext.ext ?_ _ | refine Ext.drew ?_ | refine Ext.drewN ?_ _))
  have d0 := X0.cell c0
  have HD : Hid (Dr w w0.drew lo B v bs A ∧ w0.drew.heap[w.heap.size]? = some (.cells #[.slice p n cap] 26 (0, 0))) := ⟨H0.out.1.ext X0, blk_ext H0.out.2 X0⟩
  have hC0 := HD.out.1.1
  have e0 : IntKind.i64.wrap ((n : Int) + 1) = (n : Int) + 1 := IntWalk.i64_in _ (by omega)
  have a0 : A ≤ 900000 := by omega
  have a1 : A + 1 ≤ 900000 := by omega
  have a2 : A + 1 + 1 ≤ 900000 := by omega
  have n2 : 1 ≤ (2 : Int) ∧ (2 : Int) ≤ 200 := by omega
  have n30 : 1 ≤ (30 : Int) ∧ (30 : Int) ≤ 200 := by omega
  go_region_held3 (fun w' => w'.cell? ⟨w.heap.size, 0, none⟩ = some (.slice p n cap)) (first | exact c0 | exact d0 | exact c1 | exact c2 | exact c3)
    (first
      | (go_at_call 72; (with_reducible refine (spec_pick Hb.out 2 _ hC0 a0 n2).mono ?_); rintro e w1 ⟨x1, rfl, hx0, hx1, hc, hg⟩; have H1 := hid (And.intro (HD.out.1.step hc hg) (blk_step HD.out.1 HD.out.2 (Nat.le_refl _) hg)); clear hc hg; have n1 : 1 ≤ (n : Int) + 1 - x1 ∧ (n : Int) + 1 - x1 ≤ 200 := (by omega); have n9 : -9223372036854775808 ≤ (n : Int) + 1 - x1 ∧ (n : Int) + 1 - x1 ≤ 9223372036854775807 := (by omega); obtain ⟨c1, g1, hT1⟩ := box1 H1.out.2; have hC1 := H1.out.1.1; have e1 : IntKind.i64.wrap ((n : Int) + 1 - x1) = (n : Int) + 1 - x1 := IntWalk.i64_in _ n9)
      | (go_at_call 72; (with_reducible refine (spec_pick Hb.out ((n : Int) + 1 - x1) _ hC1 a1 n1).mono ?_); rintro e w2 ⟨x2, rfl, hy0, hy1, hc, hg⟩; have H2 := hid (And.intro (H1.out.1.step hc hg) (blk_step H1.out.1 H1.out.2 (Nat.le_refl _) hg)); clear hc hg; obtain ⟨c2, g2, hT2⟩ := box1 H2.out.2; have hC2 := H2.out.1.1)
      | (go_at_call 72; (with_reducible refine (spec_pick Hb.out 30 _ hC2 a2 n30).mono ?_); rintro e w3 ⟨x3, rfl, hz0, hz1, hc, hg⟩; have H3 := hid (And.intro (H2.out.1.step hc hg) (blk_step H2.out.1 H2.out.2 (Nat.le_refl _) hg)); clear hc hg; obtain ⟨c3, g3, hT3⟩ := box1 H3.out.2)
      | fail)
  all_goals
    clear c0 c1 c2 c3 d0
    go_wp2
    go_ret
    exact ⟨_, rfl, H3.out.1.fin⟩
theorem spec_treeNodes {bs : List Int} (hb : Bts bs) {lo B A : Nat} {v : Value} (p : Option Addr) (n cap : Nat) (w : World) (h : Cs w lo B v bs A) (hn : n ≤ 20) (hA : A ≤ 800000) :
    Calls Try.prog 47 #[.pointer (some ⟨B, 0, none⟩), .agg #[.slice p n cap]] w fun e w' => ∃ (r : Value) (xs : List Int), e = .returned r ∧ xs.length ≤ 21 ∧ w'.ownsRow w.heap.size 3 1 r xs.length (vInts xs) ∧ Cs w' lo B v bs (A + 22) ∧ w.grownBy w' (some B) := by
  have Hb := hid hb
  have H0 : Hid ((Dr w ((w.alloc (.cells #[.slice p n cap] 26)).alloc (.cells #[] 3)) lo B v bs A ∧ ((w.alloc (.cells #[.slice p n cap] 26)).alloc (.cells #[] 3)).heap[w.heap.size]? = some (.cells #[.slice p n cap] 26 (0, 0))) ∧ ((w.alloc (.cells #[.slice p n cap] 26)).alloc (.cells #[] 3)).ownsRow (w.heap.size + 1) 3 1 (.slice (some ⟨w.heap.size + 1, 0, none⟩) 0 0) 0 []) := by
    refine ⟨⟨(Dr.start h).ext (by repeat' (first | exact Ext.refl _ | assumption | refine Ext.alloc ?_ _ | refine Ext.ext ?_ _ | refine Ext.drew ?_ | refine Ext.drewN ?_ _)), heap_old (heap_at _ rfl) _⟩, ?_⟩
    have := World.ownsRow_lit (base := w.heap.size + 1) (e := 3) (size := 1) (w.alloc (.cells #[.slice p n cap] 26)) #[] 0 (by simp) (Nat.zero_le _) rfl
    simpa using this
  clear h hb
  obtain ⟨i0, hi, hz0, hz1, hz2⟩ := info_parts infoInt
  go_enter Try.func47, Try.ntmps47
  go_wp2
  generalize ((w.alloc (.cells #[.slice p n cap] 26)).alloc (.cells #[] 3)) = w0 at *
  go_loopw [6, 5] (fun v6 v5 wr => ∃ (k : Nat) (xs : List Int), k ≤ n ∧ v6 = .int .i64 k ∧ xs.length ≤ k ∧ Hid ((Dr w wr lo B v bs (A + k) ∧ wr.heap[w.heap.size]? = some (.cells #[.slice p n cap] 26 (0, 0))) ∧ wr.ownsRow (w.heap.size + 1) 3 1 v5 xs.length (vInts xs))) (fun v6 _ _ => n - (intOf v6).toNat)
  case atStart => exact ⟨0, [], Nat.zero_le _, rfl, by simp, H0.out⟩
  case round =>
    obtain ⟨k, xs, hk, rfl, hxl, HR⟩ := hrel
    obtain ⟨up, uc, rfl⟩ := own_shape HR.out.2
    obtain ⟨c0, g0, hT0⟩ := box1 HR.out.1.2
    by_cases hlt : k < n
    · have t0 : (k : Int) < (n : Int) := by omega
      go_wp2_with fail
      go_at_call 83
      refine (spec_one Hb.out 2 _ HR.out.1.1.1 (by omega) (by omega)).mono ?_
      rintro e wq ⟨y, rfl, hc, hg⟩
      have H1 := hid (And.intro (And.intro (HR.out.1.1.step hc hg) (blk_step HR.out.1.1 HR.out.1.2 (Nat.le_refl _) hg)) (own_step HR.out.1.1 HR.out.2 (by omega) hg))
      clear hc hg HR c0 g0
      obtain ⟨c1, g1, hT1⟩ := box1 H1.out.1.2
      cases y
      · go_wp2
        go_roundw
        case rel => exact ⟨k + 1, xs, by omega, by go_num, by omega, ⟨⟨H1.out.1.1.more (by omega), H1.out.1.2⟩, H1.out.2⟩⟩
        case measure => simp [intOf]; omega
      · go_wp2_with (at_builtin; refine wpList_append_own _ rfl _ _ 24 rfl (w.heap.size + 1) 3 i0 (.int .i64 0) 1 8 Try.underlying24 hi hz0 hz1 hz2 rfl (by decide) _ _ _ rfl ((own_ext H1.out.2 (by repeat' (first | exact Ext.refl _ | assumption | refine Ext.alloc ?_ _ | refine Ext.ext ?_ _ | refine Ext.drew ?_ | refine Ext.drewN ?_ _)))) ⟨_, 0, none⟩ 1 1 [.int .i64 k] rfl ?a0A ?a1A ?a2A ?a3A ?a4A ?a5A ?_)
        (try case a0A => rfl)
        case a1A => (intro j u hj; rw [Addr.add_lit, Nat.zero_add, cell_of_row _ _ j _ _ (0, 0) (heap_at _ rfl)]; first | (simpa using hj) | (simpa [hwb.out] using hj))
        case a2A => simp [Value.oneCell']
        case a3A => (unfold maxLen; simp; omega)
        case a4A => (first | omega | (simp; omega))
        case a5A => (have := (H1.out.1.1.size); first | omega | (simp at *; omega))
        intro v' w1 hown' hgrow hat
        have H2 := hid (And.intro (And.intro ((H1.out.1.1.ext (show Ext wq (wq.alloc (.cells #[.int .i64 k] 3)) from (by repeat' (first | exact Ext.refl _ | assumption | refine Ext.alloc ?_ _ | refine Ext.ext ?_ _ | refine Ext.drew ?_ | refine Ext.drewN ?_ _)))).grow hgrow (fun j e => Nat.le_trans (by omega) (own_row H1.out.2 j e).1)) (blk_grow (blk_ext H1.out.1.2 (show Ext wq (wq.alloc (.cells #[.int .i64 k] 3)) from (by repeat' (first | exact Ext.refl _ | assumption | refine Ext.alloc ?_ _ | refine Ext.ext ?_ _ | refine Ext.drew ?_ | refine Ext.drewN ?_ _)))) hgrow (own_not H1.out.2 (by omega)))) hown')
        clear hown' hgrow hat H1 c1 g1
        go_wp2
        go_roundw
        case rel => exact ⟨k + 1, xs ++ [(k : Int)], by omega, by go_num, by simp; omega, ⟨⟨H2.out.1.1.more (by omega), H2.out.1.2⟩, by simpa [vInts] using H2.out.2⟩⟩
        case measure => simp [intOf]; omega
    · obtain rfl : k = n := by omega
      go_wp2_with fail
      go_at_call 83
      refine (spec_one Hb.out 16 _ HR.out.1.1.1 (by omega) (by omega)).mono ?_
      rintro e wq ⟨y, rfl, hc, hg⟩
      have H1 := hid (And.intro (And.intro (HR.out.1.1.step hc hg) (blk_step HR.out.1.1 HR.out.1.2 (Nat.le_refl _) hg)) (own_step HR.out.1.1 HR.out.2 (by omega) hg))
      clear hc hg HR c0 g0
      obtain ⟨c1, g1, hT1⟩ := box1 H1.out.1.2
      cases y
      · go_wp2
        go_ret
        exact ⟨_, xs, rfl, by omega, own_mono H1.out.2 (by omega), (H1.out.1.1.more (by omega)).fin⟩
      · go_wp2_with fail
        go_at_call 71
        refine (spec_amongLit Hb.out _ _ _ wq _ H1.out.1.1.1 (by repeat' (first | exact Ext.refl _ | assumption | refine Ext.alloc ?_ _ | refine Ext.ext ?_ _ | refine Ext.drew ?_ | refine Ext.drewN ?_ _)) (by simp) (by rfl) (by omega) (by omega) (by simp)).mono ?_
        rintro e w2 ⟨x, rfl, hc, hg⟩
        have H2 := hid (And.intro (H1.out.1.1.step hc hg) (own_step H1.out.1.1 H1.out.2 (by omega) hg))
        clear hc hg H1 c1 g1
        go_wp2_with (at_builtin; refine wpList_append_own _ rfl _ _ 24 rfl (w.heap.size + 1) 3 i0 (.int .i64 0) 1 8 Try.underlying24 hi hz0 hz1 hz2 rfl (by decide) _ _ _ rfl ((own_ext H2.out.2 (by repeat' (first | exact Ext.refl _ | assumption | refine Ext.alloc ?_ _ | refine Ext.ext ?_ _ | refine Ext.drew ?_ | refine Ext.drewN ?_ _)))) ⟨_, 0, none⟩ 1 1 [.int .i64 x] rfl ?a0B ?a1B ?a2B ?a3B ?a4B ?a5B ?_)
        (try case a0B => rfl)
        case a1B => (intro j u hj; rw [Addr.add_lit, Nat.zero_add, cell_of_row _ _ j _ _ (0, 0) (heap_at _ rfl)]; first | (simpa using hj) | (simpa [hwb.out] using hj))
        case a2B => simp [Value.oneCell']
        case a3B => (unfold maxLen; simp; omega)
        case a4B => (first | omega | (simp; omega))
        case a5B => (have := (H2.out.1.size); first | omega | (simp at *; omega))
        intro v' w1 hown' hgrow hat
        have H3 := hid (And.intro ((H2.out.1.ext (show Ext w2 (w2.alloc (.cells #[.int .i64 x] 3)) from (by repeat' (first | exact Ext.refl _ | assumption | refine Ext.alloc ?_ _ | refine Ext.ext ?_ _ | refine Ext.drew ?_ | refine Ext.drewN ?_ _)))).grow hgrow (fun j e => Nat.le_trans (by omega) (own_row H2.out.2 j e).1)) hown')
        clear hown' hgrow hat H2
        go_wp2
        go_ret
        exact ⟨_, xs ++ [x], rfl, by simp; omega, own_mono (by simpa [vInts] using H3.out.2) (by omega), (H3.out.1.more (by omega)).fin⟩
end Go.Proofs.Ytppdbnopgcjgjaa
