/- Trees: what one call of each function gives. -/
import Derived.Test.YtlaochpkelbchaaGreatDoorJ2
namespace Go.Proofs.YtlaochpkelbchaaGreatDoor
open Go.RowKit
set_option maxHeartbeats 400000
def nodeOk (ps : List Int) (i : Nat) : Bool := if i = 0 then ps.getD 0 0 == -1 else inB (ps.getD i 0) 0 ((i : Int) - 1)
def parentsOk (ps : List Int) : Bool := (List.range ps.length).all (nodeOk ps)
def goodT (ps : List Int) : Bool := parentsOk ps && inB ps.length 2 8
theorem goodT_len {ps : List Int} (h : goodT ps = true) : 2 ≤ ps.length ∧ ps.length ≤ 8 := by
  rw [goodT, Bool.and_eq_true, inB_iff] at h
  omega
theorem goodT_node {ps : List Int} (h : goodT ps = true) (i : Nat) (hi : i < ps.length) : nodeOk ps i = true := by
  rw [goodT, Bool.and_eq_true] at h
  exact (List.all_eq_true.1 h.1) i (List.mem_range.2 hi)
theorem goodT_root {ps : List Int} (h : goodT ps = true) : ps.getD 0 0 = -1 := by
  have := goodT_node h 0 (by have := goodT_len h; omega)
  simpa [nodeOk] using this
theorem goodT_get {ps : List Int} (h : goodT ps = true) (i : Nat) (hi : i < ps.length) (h0 : 0 < i) : 0 ≤ ps.getD i 0 ∧ ps.getD i 0 < i := by
  have := goodT_node h i hi
  rw [nodeOk, if_neg (by omega), inB_iff] at this
  omega
theorem impl_IsValidTree (ps : List Int) (v : Value) (w : World) (h : Rd w 1 v ps.length (vInts ps)) (h2 : ps.length ≤ 1048576) :
    Calls Tryz.prog 53 #[.agg #[v]] w fun e w' => e = .returned (.bool (goodT ps)) ∧ Ext w w' := by
  obtain ⟨h1, p, cap, rfl, h4⟩ := h
  have H1 := hid h1; clear h1
  have H4 := hid h4; clear h4
  have hnot : ∀ (x : Bool) (w : World), (Op.unary .not (.bool x)).run Tryz.prog w = .ok (.bool (!x)) w := fun _ _ => rfl
  go_enter Tryz.func53, Tryz.ntmps53
  go_wp2
  go_loopw [8] (fun v8 wr => ∃ k : Nat, k ≤ ps.length ∧ v8 = .int .i64 k ∧ (∀ i, i < k → nodeOk ps i = true) ∧ Ext (w.alloc (.cells #[.slice p ps.length cap] 26)) wr) (fun v8 _ => ps.length - (intOf v8).toNat)
  case atStart => exact ⟨0, Nat.zero_le _, rfl, fun _ h => absurd h (Nat.not_lt_zero _), Ext.refl _⟩
  case round =>
    obtain ⟨k, hk, rfl, hall, z, rfl⟩ := hrel
    have Hall := hid hall; clear hall
    by_cases hlt : k < ps.length
    · obtain ⟨b, off, rfl, h6⟩ := H4.out.resolve_left (by omega)
      have c0 := elem1 (Value.int .i64) 0 ps h6 k hlt
      have H6 := hid h6; clear h6 H4
      have next : nodeOk ps k = true → ∀ i, i < k + 1 → nodeOk ps i = true := fun h => upTo_succ Hall.out h
      have bad : nodeOk ps k = false → parentsOk ps = false := fun h => allUpto hlt h
      have hdef : nodeOk ps k = if k = 0 then ps.getD k 0 == -1 else inB (ps.getD k 0) 0 ((k : Int) - 1) := by
        unfold nodeOk; by_cases h : k = 0
        · subst h; rfl
        · rw [if_neg h, if_neg h]
      generalize ps.getD k 0 = x at c0 hdef
      generalize nodeOk ps k = y at next bad hdef
      have Next := hid next; clear next
      have Bad := hid bad; clear bad
      by_cases hk0 : k = 0
      · rw [if_pos hk0] at hdef
        have Hdef := hid hdef; clear hdef
        have s0 : ((k : Int) == 0) = true := by simp [hk0]
        have s1 : decide (0 < (k : Int)) = false := by simp; omega
        have s2 : decide (0 < k) = false := by simp; omega
        have Hk0 := hid hk0; clear hk0
        cases hx : (x == -1)
        · have t0 : (x != -1) = true := by simp [bne, hx]
          have Hx := hid hx; clear hx
          go_wp2
          go_ret
          exact ⟨by rw [goodT, Bad.out (Hdef.out.trans Hx.out)]; rfl, (by repeat' (first | exact Ext.refl _ | assumption | refine Ext.alloc ?_ _ | refine Ext.ext ?_ _ | refine Ext.drew ?_ | refine Ext.drewN ?_ _))⟩
        · have t0 : (x != -1) = false := by simp [bne, hx]
          have Hx := hid hx; clear hx
          go_wp2
          go_roundw
          case rel => exact ⟨k + 1, by omega, by go_num, Next.out (Hdef.out.trans Hx.out), (by repeat' (first | exact Ext.refl _ | assumption | refine Ext.alloc ?_ _ | refine Ext.ext ?_ _ | refine Ext.drew ?_ | refine Ext.drewN ?_ _))⟩
          case measure => simp [intOf]; omega
      · rw [if_neg hk0] at hdef
        have Hdef := hid hdef; clear hdef
        have t0 : ((k : Int) == 0) = false := by rw [beq_eq_false_iff_ne]; omega
        have t1 : decide (0 < (k : Int)) = true := by simp; omega
        have t2 : 0 < k := by omega
        cases hx : inB x 0 ((k : Int) - 1)
        · have Hx := hid hx
          go_wp2_with (go_at_call 56; refine (impl_within _ _ _ _).mono ?_; rintro e w' ⟨rfl, rfl⟩)
          go_ret
          exact ⟨by rw [goodT, Bad.out (Hdef.out.trans Hx.out)]; rfl, (by repeat' (first | exact Ext.refl _ | assumption | refine Ext.alloc ?_ _ | refine Ext.ext ?_ _ | refine Ext.drew ?_ | refine Ext.drewN ?_ _))⟩
        · have Hx := hid hx
          go_wp2_with (go_at_call 56; refine (impl_within _ _ _ _).mono ?_; rintro e w' ⟨rfl, rfl⟩)
          go_roundw
          case rel => exact ⟨k + 1, by omega, by go_num, Next.out (Hdef.out.trans Hx.out), (by repeat' (first | exact Ext.refl _ | assumption | refine Ext.alloc ?_ _ | refine Ext.ext ?_ _ | refine Ext.drew ?_ | refine Ext.drewN ?_ _))⟩
          case measure => simp [intOf]; omega
    · have hf : parentsOk ps = true := allTo (fun i hi => Hall.out i (by omega))
      have Hf := hid hf; clear hf
      go_wp2_with (go_at_call 56; refine (impl_within _ _ _ _).mono ?_; rintro e w' ⟨rfl, rfl⟩)
      go_ret
      exact ⟨by rw [goodT, Hf.out]; rfl, (by repeat' (first | exact Ext.refl _ | assumption | refine Ext.alloc ?_ _ | refine Ext.ext ?_ _ | refine Ext.drew ?_ | refine Ext.drewN ?_ _))⟩
theorem spec_l6Good (ps : List Int) (v : Value) (w : World) (h : Rd w 1 v ps.length (vInts ps)) (h2 : ps.length ≤ 1048576) :
    Calls Tryz.prog 60 #[.agg #[v]] w fun e w' => e = .returned (.bool (goodT ps)) ∧ Ext w w' := by
  obtain ⟨h1, p, cap, rfl, h4⟩ := h
  have H1 := hid h1; clear h1
  have H4 := hid h4; clear h4
  cases hn : inB ps.length 2 8
  · have Hn := hid hn
    go_enter Tryz.func60, Tryz.ntmps60
    go_wp2_with (go_at_call 65; refine (spec_l1In _ _ _ _).mono ?_; rintro e w' ⟨rfl, rfl⟩)
    go_ret
    exact ⟨by rw [goodT, Hn.out, Bool.and_false]; rfl, (by repeat' (first | exact Ext.refl _ | assumption | refine Ext.alloc ?_ _ | refine Ext.ext ?_ _ | refine Ext.drew ?_ | refine Ext.drewN ?_ _))⟩
  · have hb := inB_iff.1 hn
    have hl : 2 ≤ ps.length ∧ ps.length ≤ 8 := by omega
    obtain ⟨b, off, rfl, h6⟩ := H4.out.resolve_left (by omega)
    clear H4
    have c0 := elem1 (Value.int .i64) 0 ps h6 0 (by omega)
    have H6 := hid h6; clear h6
    have hd0 : nodeOk ps 0 = (ps.getD 0 0 == -1) := rfl
    generalize hx0 : ps.getD 0 0 = x0 at c0 hd0
    have Hn := hid hn
    simp only [Nat.add_zero] at c0
    clear hx0 hb
    cases hx : (x0 == -1)
    · have t0 : (x0 != -1) = true := by simp [bne, hx]
      have hbad : parentsOk ps = false := allUpto (k := 0) (by omega) (hd0.trans hx)
      have Hbad := hid hbad; clear hbad hx hd0
      go_enter Tryz.func60, Tryz.ntmps60
      go_wp2_with (go_at_call 65; refine (spec_l1In _ _ _ _).mono ?_; rintro e w' ⟨rfl, rfl⟩)
      go_ret
      exact ⟨by rw [goodT, Hbad.out]; rfl, (by repeat' (first | exact Ext.refl _ | assumption | refine Ext.alloc ?_ _ | refine Ext.ext ?_ _ | refine Ext.drew ?_ | refine Ext.drewN ?_ _))⟩
    · have t0 : (x0 != -1) = false := by simp [bne, hx]
      have Hd0 := hid (hd0.trans hx); clear hd0 hx
      go_enter Tryz.func60, Tryz.ntmps60
      go_wp2_with (go_at_call 65; refine (spec_l1In _ _ _ _).mono ?_; rintro e w' ⟨rfl, rfl⟩)
      go_loopw [4] (fun v4 wr => ∃ k : Nat, 1 ≤ k ∧ k ≤ ps.length ∧ v4 = .int .i64 k ∧ (∀ i, i < k → nodeOk ps i = true) ∧ Ext (w.alloc (.cells #[.slice (some ⟨b, off, none⟩) ps.length cap] 26)) wr) (fun v4 _ => ps.length - (intOf v4).toNat)
      case atStart => exact ⟨1, by omega, by omega, rfl, fun i h => (show i = 0 by omega) ▸ Hd0.out, Ext.refl _⟩
      case round =>
        obtain ⟨k, hk1, hk, rfl, hall, z, rfl⟩ := hrel
        by_cases hlt : k < ps.length
        · have c1 := elem1 (Value.int .i64) 0 ps H6.out k hlt
          have next : nodeOk ps k = true → ∀ i, i < k + 1 → nodeOk ps i = true := fun h => upTo_succ hall h
          have bad : nodeOk ps k = false → parentsOk ps = false := fun h => allUpto hlt h
          have hdef : nodeOk ps k = inB (ps.getD k 0) 0 ((k : Int) - 1) := by rw [nodeOk, if_neg (by omega)]
          generalize ps.getD k 0 = x at c1 hdef
          generalize nodeOk ps k = y at next bad hdef
          have Next := hid next; clear next hall
          have Bad := hid bad; clear bad
          have Hdef := hid hdef; clear hdef
          cases hx : inB x 0 ((k : Int) - 1)
          · have Hx := hid hx
            go_wp2_with (go_at_call 65; refine (spec_l1In _ _ _ _).mono ?_; rintro e w' ⟨rfl, rfl⟩)
            go_ret
            exact ⟨by rw [goodT, Bad.out (Hdef.out.trans Hx.out)]; rfl, (by repeat' (first | exact Ext.refl _ | assumption | refine Ext.alloc ?_ _ | refine Ext.ext ?_ _ | refine Ext.drew ?_ | refine Ext.drewN ?_ _))⟩
          · have Hx := hid hx
            go_wp2_with (go_at_call 65; refine (spec_l1In _ _ _ _).mono ?_; rintro e w' ⟨rfl, rfl⟩)
            go_roundw
            case rel => exact ⟨k + 1, by omega, by omega, by go_num, Next.out (Hdef.out.trans Hx.out), (by repeat' (first | exact Ext.refl _ | assumption | refine Ext.alloc ?_ _ | refine Ext.ext ?_ _ | refine Ext.drew ?_ | refine Ext.drewN ?_ _))⟩
            case measure => simp [intOf]; omega
        · have hf : parentsOk ps = true := allTo (fun i hi => hall i (by omega))
          have Hf := hid hf; clear hf hall
          go_wp2
          go_ret
          exact ⟨by rw [goodT, Hf.out, Hn.out]; rfl, (by repeat' (first | exact Ext.refl _ | assumption | refine Ext.alloc ?_ _ | refine Ext.ext ?_ _ | refine Ext.drew ?_ | refine Ext.drewN ?_ _))⟩
end Go.Proofs.YtlaochpkelbchaaGreatDoor
