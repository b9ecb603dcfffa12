/- Names and members of groups that are drawn. -/
import Derived.Test.YtlaochpkelbchaaGreatDoorKWCurS
import Derived.Test.YtlaochpkelbchaaGreatDoorKWPut2
import Derived.Maps.AppendAt
namespace Go.Proofs.YtlaochpkelbchaaGreatDoor
open Go.RowKit
set_option maxHeartbeats 2000000
set_option maxRecDepth 100000
theorem spec_groupName {bs : List Int} (hb : Bts bs) {lo B A : Nat} {v : Value} (w : World) (h : Cs w lo B v bs A) (hA : A ≤ 600000) :
    Calls Tryz.prog 22 #[.pointer (some ⟨B, 0, none⟩)] w fun e w' => ∃ s : ByteArray, e = .returned (.string s) ∧ s.size ≤ 9 ∧ Cs w' lo B v bs (A + 2) ∧ w.grownBy w' (some B) := by
  have Hb := hid hb
  have H0 := hid (Dr.start h)
  clear h hb
  go_enter Tryz.func22, Tryz.ntmps22
  go_wp2_with fail
  go_at_call 20
  refine (spec_one Hb.out 24 _ (H0.out.1.ext (by repeat' (first | exact Ext.refl _ | assumption | refine Ext.alloc ?_ _ | refine Ext.ext ?_ _ | refine Ext.drew ?_ | refine Ext.drewN ?_ _))) (by omega) (by omega)).mono ?_
  rintro e w1 ⟨y, rfl, hc, hg⟩
  have H1 := hid (H0.out.step hc hg)
  clear hc hg H0
  cases y
  · go_wp2_with fail
    go_at_call 49
    refine (spec_ofLit Hb.out _ _ _ w1 _ H1.out.1 (by repeat' (first | exact Ext.refl _ | assumption | refine Ext.alloc ?_ _ | refine Ext.ext ?_ _ | refine Ext.drew ?_ | refine Ext.drewN ?_ _)) (by simp) (by rfl) (by omega) (by omega) (fun s => decide (s.size ≤ 9)) (by kernel_rfl)).mono ?_
    rintro e w2 ⟨s, rfl, hi, hc, hg⟩
    have H2 := hid (H1.out.step hc hg)
    have hs : s.size ≤ 9 := by simpa using hi
    clear hc hg H1 hi
    go_wp2
    go_ret
    exact ⟨s, rfl, hs, (H2.out.more (by omega)).fin⟩
  · go_wp2_with fail
    go_at_call 49
    refine (spec_ofLit Hb.out _ _ _ w1 _ H1.out.1 (by repeat' (first | exact Ext.refl _ | assumption | refine Ext.alloc ?_ _ | refine Ext.ext ?_ _ | refine Ext.drew ?_ | refine Ext.drewN ?_ _)) (by simp) (by rfl) (by omega) (by omega) (fun s => decide (s.size ≤ 9)) (by kernel_rfl)).mono ?_
    rintro e w2 ⟨s, rfl, hi, hc, hg⟩
    have H2 := hid (H1.out.step hc hg)
    have hs : s.size ≤ 9 := by simpa using hi
    clear hc hg H1 hi
    go_wp2
    go_ret
    exact ⟨s, rfl, hs, (H2.out.more (by omega)).fin⟩
/-- While members are drawn. -/
def MbD (w W : World) (lo B : Nat) (v : Value) (bs : List Int) (A : Nat) (u : Value) (xs : List Int) : Prop := Dr w W lo B v bs A ∧ W.ownsRow w.heap.size 3 1 u xs.length (vInts xs)
theorem MbD.step {w W W' : World} {lo B A A' : Nat} {v u : Value} {bs xs : List Int} (h : MbD w W lo B v bs A u xs) (hc : Cs W' lo B v bs A') (hg : W.grownBy W' (some B)) : MbD w W' lo B v bs A' u xs := ⟨h.1.step hc hg, own_step h.1 h.2 (Nat.le_refl _) hg⟩
theorem MbD.ext {w W W' : World} {lo B A : Nat} {v u : Value} {bs xs : List Int} (h : MbD w W lo B v bs A u xs) (hx : Ext W W') : MbD w W' lo B v bs A u xs := h.step (h.1.1.ext hx) (hx.grownBy _)
theorem MbD.more {w W : World} {lo B A A' : Nat} {v u : Value} {bs xs : List Int} (h : MbD w W lo B v bs A u xs) (hA : A ≤ A') : MbD w W lo B v bs A' u xs := ⟨h.1.more hA, h.2⟩
theorem MbD.grow {w W W' : World} {lo B A : Nat} {v u u' : Value} {bs xs : List Int} {x : Int} (h : MbD w W lo B v bs A u xs) (hg : W.grownBy W' u.ownBlock) (ho : W'.ownsRow w.heap.size 3 1 u' (xs.length + 1) (vInts xs ++ [.int .i64 x])) : MbD w W' lo B v bs A u' (xs ++ [x]) := by
  refine ⟨h.1.grow hg (fun j e => (own_row h.2 j e).1), ?_⟩
  rw [List.length_append, show vInts (xs ++ [x]) = vInts xs ++ [.int .i64 x] by simp [vInts]]
  exact ho
theorem spec_members {bs : List Int} (hb : Bts bs) {lo B A : Nat} {v : Value} (n : Nat) (z : Int) (hz : z = n) (w : World) (h : Cs w lo B v bs A) (hn : n ≤ 20) (hA : A ≤ 500000) :
    Calls Tryz.prog 23 #[.pointer (some ⟨B, 0, none⟩), .int .i64 z] w fun e w' => ∃ (r : Value) (xs : List Int), e = .returned r ∧ xs.length ≤ 21 ∧ w'.ownsRow w.heap.size 3 1 r xs.length (vInts xs) ∧ Cs w' lo B v bs (A + 22) ∧ w.grownBy w' (some B) := by
  subst hz
  have Hb := hid hb
  have hl0 : (w.alloc (.cells #[] 3)).ownsRow w.heap.size 3 1 (.slice (some ⟨w.heap.size, 0, none⟩) 0 0) 0 [] := World.ownsRow_lit w #[] 0 (Nat.le_refl _) (Nat.zero_le _) rfl
  have H0 : Hid (MbD w (w.alloc (.cells #[] 3)) lo B v bs A (.slice (some ⟨w.heap.size, 0, none⟩) 0 0) []) := ⟨(Dr.start h).ext (by repeat' (first | exact Ext.refl _ | assumption | refine Ext.alloc ?_ _ | refine Ext.ext ?_ _ | refine Ext.drew ?_ | refine Ext.drewN ?_ _)), hl0⟩
  clear h hb hl0
  obtain ⟨i0, hi, hz0, hz1, hz2⟩ := info_parts infoInt
  go_enter Tryz.func23, Tryz.ntmps23
  go_wp2
  go_loopw [6, 5] (fun v6 v5 wr => ∃ (k : Nat) (u : Value) (xs : List Int), 1 ≤ k ∧ k ≤ 21 ∧ v6 = .int .i64 k ∧ v5 = u ∧ xs.length + 1 ≤ k ∧ Hid (MbD w wr lo B v bs (A + k) u xs)) (fun v6 _ _ => 21 - (intOf v6).toNat)
  case atStart => exact ⟨1, _, [], by omega, by omega, rfl, rfl, by simp, H0.out.more (by omega)⟩
  case round =>
    obtain ⟨k, u, xs, hk1, hk, rfl, rfl, hxl, HR⟩ := hrel
    clear H0
    obtain ⟨up, uc, rfl⟩ := own_shape HR.out.2
    by_cases hlt : k < n
    · have t0 : (k : Int) < (n : Int) := by omega
      go_wp2_with fail
      go_at_call 20
      refine (spec_one Hb.out 2 _ HR.out.1.1 (by omega) (by omega)).mono ?_
      rintro e wq ⟨y, rfl, hc, hg⟩
      have H1 := hid (HR.out.step hc hg)
      clear hc hg HR
      cases y
      · go_wp2
        go_roundw
        case rel => exact ⟨k + 1, _, xs, by omega, by omega, by go_num, rfl, by omega, H1.out.more (by omega)⟩
        case measure => simp [intOf]; omega
      · skip
        go_wp2_with (at_builtin; refine wpList_append_own _ rfl _ _ 24 rfl w.heap.size 3 i0 (.int .i64 0) 1 8 Tryz.underlying24 hi hz0 hz1 hz2 rfl (by decide) _ _ _ rfl ((own_ext H1.out.2 (by repeat' (first | exact Ext.refl _ | assumption | refine Ext.alloc ?_ _ | refine Ext.ext ?_ _ | refine Ext.drew ?_ | refine Ext.drewN ?_ _)))) ⟨_, 0, none⟩ 1 1 [.int .i64 k] rfl ?a0A ?a1A ?a2A ?a3A ?a4A ?a5A ?_)
        (try case a0A => rfl)
        case a1A => (intro j u hj; rw [Addr.add_lit, Nat.zero_add, cell_of_row _ _ j _ _ (0, 0) (heap_at _ rfl)]; first | (simpa using hj) | (simpa [hwb.out] using hj))
        case a2A => simp [Value.oneCell']
        case a3A => (first | (unfold maxLen; simp; done) | (unfold maxLen; simp; omega))
        case a4A => (first | omega | (simp; omega))
        case a5A => (have := (H1.out.1.size); first | omega | (simp at *; omega))
        intro v' w1 hown' hgrow hat
        have H2 := hid ((H1.out.ext (show Ext wq (wq.alloc (.cells #[.int .i64 k] 3)) from (by repeat' (first | exact Ext.refl _ | assumption | refine Ext.alloc ?_ _ | refine Ext.ext ?_ _ | refine Ext.drew ?_ | refine Ext.drewN ?_ _)))).grow hgrow hown')
        obtain ⟨vp, vc, rfl⟩ := own_shape hown'
        clear hown' hgrow hat
        clear H1
        go_wp2
        go_roundw
        case rel => exact ⟨k + 1, _, xs ++ [(k : Int)], by omega, by omega, by go_num, rfl, by simp; omega, H2.out.more (by omega)⟩
        case measure => simp [intOf]; omega
    · have t0 : ¬ (k : Int) < (n : Int) := by omega
      have HRm := hid (HR.out.more (show A + k ≤ A + 21 by omega))
      clear HR
      by_cases he : xs.length = 0
      · obtain rfl : xs = [] := List.eq_nil_of_length_eq_zero he
        clear he
        go_wp2_with fail
        go_at_call 20
        refine (spec_one Hb.out 12 _ HRm.out.1.1 (by omega) (by omega)).mono ?_
        rintro e wq ⟨y, rfl, hc, hg⟩
        have H1 := hid (HRm.out.step hc hg)
        clear hc hg HRm
        cases y
        · skip
          go_wp2_with (at_builtin; refine wpList_append_own _ rfl _ _ 24 rfl w.heap.size 3 i0 (.int .i64 0) 1 8 Tryz.underlying24 hi hz0 hz1 hz2 rfl (by decide) _ _ _ rfl ((own_ext H1.out.2 (by repeat' (first | exact Ext.refl _ | assumption | refine Ext.alloc ?_ _ | refine Ext.ext ?_ _ | refine Ext.drew ?_ | refine Ext.drewN ?_ _)))) ⟨_, 0, none⟩ 1 1 [.int .i64 1] rfl ?a0B ?a1B ?a2B ?a3B ?a4B ?a5B ?_)
          (try case a0B => rfl)
          case a1B => (intro j u hj; rw [Addr.add_lit, Nat.zero_add, cell_of_row _ _ j _ _ (0, 0) (heap_at _ rfl)]; first | (simpa using hj) | (simpa [hwb.out] using hj))
          case a2B => simp [Value.oneCell']
          case a3B => (first | (unfold maxLen; simp; done) | (unfold maxLen; simp; omega))
          case a4B => (first | omega | (simp; omega))
          case a5B => (have := (H1.out.1.size); first | omega | (simp at *; omega))
          intro v' w1 hown' hgrow hat
          have H2 := hid ((H1.out.ext (show Ext wq (wq.alloc (.cells #[.int .i64 1] 3)) from (by repeat' (first | exact Ext.refl _ | assumption | refine Ext.alloc ?_ _ | refine Ext.ext ?_ _ | refine Ext.drew ?_ | refine Ext.drewN ?_ _)))).grow hgrow hown')
          obtain ⟨vp, vc, rfl⟩ := own_shape hown'
          clear hown' hgrow hat
          clear H1
          go_wp2
          go_ret
          first | exact ⟨_, [1], rfl, by simp, H2.out.2, H2.out.1.fin⟩ | exact ⟨_, rfl, [1], by simp, H2.out.2, H2.out.1.fin⟩
        · go_wp2
          go_ret
          first | exact ⟨_, [], rfl, by simp, H1.out.2, H1.out.1.fin⟩ | exact ⟨_, rfl, [], by simp, H1.out.2, H1.out.1.fin⟩
      · have t1 : ((xs.length : Int) == 0) = false := by rw [beq_eq_false_iff_ne]; omega
        go_wp2
        go_ret
        first | exact ⟨_, xs, rfl, by omega, HRm.out.2, (HRm.out.1.more (by omega)).fin⟩ | exact ⟨_, rfl, xs, by omega, HRm.out.2, (HRm.out.1.more (by omega)).fin⟩
end Go.Proofs.YtlaochpkelbchaaGreatDoor
