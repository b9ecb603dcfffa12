/- Valid groups and their texts: both sides. -/
import Derived.Test.YtlaochpkelbchaaGreatDoorJ19
import Derived.Test.YtlaochpkelbchaaGreatDoorJ5
import Derived.Test.YtlaochpkelbchaaGreatDoorJ20
import Derived.Test.YtlaochpkelbchaaGreatDoorJ21
namespace Go.Proofs.YtlaochpkelbchaaGreatDoor
open Go.RowKit
set_option maxHeartbeats 400000
set_option maxRecDepth 100000
def gnm (s : ByteArray) : Bool := inB s.size 1 8 && lets s.data.toList
def okG (s : ByteArray) (xs : List Int) : Bool := gnm s && (decide (0 < (xs.length : Int)) && risB xs 1 7)
theorem okG_all {s : ByteArray} {xs : List Int} (h : okG s xs = true) : gnm s = true ∧ 0 < xs.length ∧ risB xs 1 7 = true := by
  simp only [okG, Bool.and_eq_true, decide_eq_true_eq] at h
  exact ⟨h.1, by omega, h.2.2⟩
theorem risB_in {xs : List Int} {lo hi : Int} (h : risB xs lo hi = true) (i : Nat) (hi' : i < xs.length) : lo ≤ xs.getD i 0 ∧ xs.getD i 0 ≤ hi := by
  have := (List.all_eq_true.1 h) i (List.mem_range.2 hi')
  rw [Bool.and_eq_true] at this
  exact inB_iff.1 this.1
theorem risB_mem {xs : List Int} {lo hi : Int} (h : risB xs lo hi = true) (y : Int) (hy : y ∈ xs) : lo ≤ y ∧ y ≤ hi := by
  obtain ⟨i, hi', rfl⟩ := List.mem_iff_getElem.1 hy
  have := risB_in h i hi'
  rwa [List.getD_eq_getElem?_getD, List.getElem?_eq_getElem hi'] at this
theorem risB_asc {xs : List Int} {lo hi : Int} (h : risB xs lo hi = true) : asc xs := by
  refine ascB_asc ?_
  unfold risB at h
  rw [all_and, Bool.and_eq_true] at h
  exact h.2
theorem gnm_size {s : ByteArray} (h : gnm s = true) : 1 ≤ s.size ∧ s.size ≤ 8 := by
  simp only [gnm, Bool.and_eq_true] at h
  have := inB_iff.1 h.1
  omega
theorem impl_isGroupName (s : ByteArray) (w : World) (h : s.size ≤ 1048576) :
    Calls Tryz.prog 51 #[.string s] w fun e w' => e = .returned (.bool (gnm s)) ∧ Ext w w' := by
  have h1 := hid (fun w => impl_within s.size 1 8 w)
  cases e1 : inB s.size 1 8
  · rw [e1] at h1
    have hi : gnm s = false := by simp [gnm, e1]
    rw [hi]
    clear hi e1
    go_enter Tryz.func51, Tryz.ntmps51
    go_wp2_with (go_at_call 56; refine (h1.out _).mono ?_; rintro e w' ⟨rfl, rfl⟩)
    go_ret
    exact ⟨rfl, (by repeat' (first | exact Ext.refl _ | assumption | refine Ext.alloc ?_ _ | refine Ext.ext ?_ _ | refine Ext.drew ?_ | refine Ext.drewN ?_ _))⟩
  · rw [e1] at h1
    have hi : gnm s = lets s.data.toList := by simp [gnm, e1]
    have ht := strings_Trim s
    have hn := trim_nil s.data.toList
    rw [hi]
    generalize Lib.trimS s.data.toList az.data.toList = l at ht hn
    have Hn := hid hn
    clear hn hi e1
    cases hl : l.isEmpty
    · have t0 : ((⟨l.toArray⟩ : ByteArray).toList.isEmpty) = false := by rw [Lib.toList_data]; exact hl
      have t1 : (!(⟨l.toArray⟩ : ByteArray).toList.isEmpty) = true := by rw [t0]; rfl
      have hlt : lets s.data.toList = false := by
        cases h : lets s.data.toList
        · rfl
        · rw [Hn.out.2 h] at hl; simp at hl
      rw [hlt]
      have Ht := hid ht
      have Hl := hid hl
      clear ht hl hlt
      go_enter Tryz.func51, Tryz.ntmps51
      go_wp2_with (go_at_call 56; refine (h1.out _).mono ?_; rintro e w' ⟨rfl, rfl⟩)
      go_at_call 74
      refine (Ht.out w h).mono ?_
      rintro e w' ⟨rfl, z, rfl⟩
      go_wp2
      go_ret
      exact ⟨by rw [Hl.out]; rfl, (by repeat' (first | exact Ext.refl _ | assumption | refine Ext.alloc ?_ _ | refine Ext.ext ?_ _ | refine Ext.drew ?_ | refine Ext.drewN ?_ _))⟩
    · have hl0 : l = [] := by simpa using hl
      have hlt : lets s.data.toList = true := Hn.out.1 hl0
      subst hl0
      rw [hlt]
      have Ht := hid ht
      clear ht hl hlt
      go_enter Tryz.func51, Tryz.ntmps51
      go_wp2_with (go_at_call 56; refine (h1.out _).mono ?_; rintro e w' ⟨rfl, rfl⟩)
      go_at_call 74
      refine (Ht.out w h).mono ?_
      rintro e w' ⟨rfl, z, rfl⟩
      go_wp2
      go_ret
      exact ⟨rfl, (by repeat' (first | exact Ext.refl _ | assumption | refine Ext.alloc ?_ _ | refine Ext.ext ?_ _ | refine Ext.drew ?_ | refine Ext.drewN ?_ _))⟩
theorem spec_l21Name (s : ByteArray) (w : World) (h : s.size ≤ 1048576) :
    Calls Tryz.prog 68 #[.string s] w fun e w' => e = .returned (.bool (gnm s)) ∧ Ext w w' := by
  go_enter Tryz.func68, Tryz.ntmps68
  go_wp2
  go_loopw [3] (fun v3 wr => ∃ k : Nat, k ≤ s.size ∧ v3 = .int .i64 k ∧ (∀ i, i < k → isLet (s.data.toList.getD i 0) = true) ∧ Ext w wr) (fun v3 _ => s.size - (intOf v3).toNat)
  case atStart => exact ⟨0, Nat.zero_le _, rfl, fun _ h => absurd h (Nat.not_lt_zero _), Ext.refl _⟩
  case round =>
    obtain ⟨k, hk, rfl, hall, z, rfl⟩ := hrel
    by_cases hlt : k < s.size
    · have hb := byte_at s k hlt
      have next : isLet (s.data.toList.getD k 0) = true → ∀ i, i < k + 1 → isLet (s.data.toList.getD i 0) = true := fun h => upTo_succ hall h
      have bad : isLet (s.data.toList.getD k 0) = false → gnm s = false := fun h => by
        have : lets s.data.toList = false := allUpto (by simpa using hlt) h
        simp [gnm, this]
      rw [← hb] at next bad
      have hd : isLet s[k] = (decide (97 ≤ s[k].toNat) && decide (s[k].toNat ≤ 122)) := rfl
      clear hb hall
      have Next := hid next
      have Bad := hid bad
      clear next bad
      by_cases h1 : 97 ≤ s[k].toNat
      · have t1 : decide ((s[k].toNat : Int) < 97) = false := by simp; omega
        by_cases h2 : s[k].toNat ≤ 122
        · have t2 : decide ((122 : Int) < (s[k].toNat : Int)) = false := by simp; omega
          have hy : isLet s[k] = true := by simp [hd, h1, h2]
          have Hy := hid hy
          clear hy hd h1 h2
          go_wp2
          go_roundw
          case rel => exact ⟨k + 1, by omega, by go_num, Next.out Hy.out, (by repeat' (first | exact Ext.refl _ | assumption | refine Ext.alloc ?_ _ | refine Ext.ext ?_ _ | refine Ext.drew ?_ | refine Ext.drewN ?_ _))⟩
          case measure => simp [intOf]; omega
        · have t2 : decide ((122 : Int) < (s[k].toNat : Int)) = true := by simp; omega
          have hy : isLet s[k] = false := by simp [hd, h2]
          have Hy := hid hy
          clear hy hd h1 h2
          go_wp2
          go_ret
          exact ⟨by rw [Bad.out Hy.out]; rfl, (by repeat' (first | exact Ext.refl _ | assumption | refine Ext.alloc ?_ _ | refine Ext.ext ?_ _ | refine Ext.drew ?_ | refine Ext.drewN ?_ _))⟩
      · have t1 : decide ((s[k].toNat : Int) < 97) = true := by simp; omega
        have hy : isLet s[k] = false := by simp [hd, h1]
        have Hy := hid hy
        clear hy hd h1
        go_wp2
        go_ret
        exact ⟨by rw [Bad.out Hy.out]; rfl, (by repeat' (first | exact Ext.refl _ | assumption | refine Ext.alloc ?_ _ | refine Ext.ext ?_ _ | refine Ext.drew ?_ | refine Ext.drewN ?_ _))⟩
    · have hf : lets s.data.toList = true := allTo (fun i hi => hall i (by simp at hi; omega))
      have hr : gnm s = inB s.size 1 8 := by simp [gnm, hf]
      have Hr := hid hr
      clear hr hf hall
      go_wp2_with (go_at_call 65; refine (spec_l1In _ _ _ _).mono ?_; rintro e w' ⟨rfl, rfl⟩)
      go_ret
      exact ⟨by rw [Hr.out]; rfl, (by repeat' (first | exact Ext.refl _ | assumption | refine Ext.alloc ?_ _ | refine Ext.ext ?_ _ | refine Ext.drew ?_ | refine Ext.drewN ?_ _))⟩
theorem impl_areFaces (xs : List Int) (v : Value) (w : World) (h : Rd w 1 v xs.length (vInts xs)) (h2 : xs.length ≤ 1048576) :
    Calls Tryz.prog 52 #[v] w fun e w' => e = .returned (.bool (risB xs 1 7)) ∧ Ext w w' := by
  obtain ⟨h1, p, cap, rfl, h4⟩ := h
  have H4 := hid h4; clear h4 h1
  go_enter Tryz.func52, Tryz.ntmps52
  go_wp2
  go_loopw [7] (fun v7 wr => ∃ k : Nat, k ≤ xs.length ∧ v7 = .int .i64 k ∧ (∀ i, i < k → (inB (xs.getD i 0) 1 7 && (i == 0 || decide (xs.getD (i - 1) 0 < xs.getD i 0))) = true) ∧ Ext w wr) (fun v7 _ => xs.length - (intOf v7).toNat)
  case atStart => exact ⟨0, by omega, rfl, fun i hi => absurd hi (Nat.not_lt_zero _), Ext.refl _⟩
  case round =>
    obtain ⟨k, hk, rfl, hall, z, rfl⟩ := hrel
    by_cases hlt : k < xs.length
    · obtain ⟨b, off, rfl, h6⟩ := H4.out.resolve_left (by omega)
      have c1 := elem1 (Value.int .i64) 0 xs h6 k hlt
      have next : (inB (xs.getD k 0) 1 7 && (k == 0 || decide (xs.getD (k - 1) 0 < xs.getD k 0))) = true → ∀ i, i < k + 1 → (inB (xs.getD i 0) 1 7 && (i == 0 || decide (xs.getD (i - 1) 0 < xs.getD i 0))) = true := fun h => upTo_succ hall h
      have bad : (inB (xs.getD k 0) 1 7 && (k == 0 || decide (xs.getD (k - 1) 0 < xs.getD k 0))) = false → risB xs 1 7 = false := fun h => allUpto hlt h
      clear hall
      have n1 : (k : Int) < (xs.length : Int) := by omega
      cases hin : inB (xs.getD k 0) 1 7
      · have hno := bad (by rw [hin]; rfl)
        have hc := impl_isFace (xs.getD k 0)
        rw [hin] at hc
        generalize xs.getD k 0 = y at c1 hc
        have Hc := hid hc
        have Hno := hid hno
        clear bad next hin hc hno h6
        go_wp2_with (go_at_call 75; refine (Hc.out _).mono ?_; rintro e w' ⟨rfl, rfl⟩)
        go_ret
        exact ⟨by rw [Hno.out]; rfl, (by repeat' (first | exact Ext.refl _ | assumption | refine Ext.alloc ?_ _ | refine Ext.ext ?_ _ | refine Ext.drew ?_ | refine Ext.drewN ?_ _))⟩
      · have hc := impl_isFace (xs.getD k 0)
        rw [hin] at hc next bad
        simp only [Bool.true_and] at next bad
        by_cases hk0 : k = 0
        · have hnx := next (by simp [hk0])
          have hgt : decide (0 < (k : Int)) = false := by simp; omega
          have hgn : decide (0 < k) = false := by simp; omega
          generalize hy : xs.getD k 0 = y at c1 hc
          have Hc := hid hc
          have Hnx := hid hnx
          have Hk0 := hid hk0
          clear bad next hin hc hnx h6 hy hk0
          go_wp2_with (go_at_call 75; refine (Hc.out _).mono ?_; rintro e w' ⟨rfl, rfl⟩)
          go_roundw
          case rel => exact ⟨k + 1, by omega, by go_num, Hnx.out, (by repeat' (first | exact Ext.refl _ | assumption | refine Ext.alloc ?_ _ | refine Ext.ext ?_ _ | refine Ext.drew ?_ | refine Ext.drewN ?_ _))⟩
          case measure => simp [intOf]; omega
        · obtain ⟨j, rfl⟩ : ∃ j, k = j + 1 := ⟨k - 1, by omega⟩
          have c0 := elem1 (Value.int .i64) 0 xs h6 j (by omega)
          have t0 : decide ((0 : Int) < (j : Int) + 1) = true := by apply decide_eq_true; omega
          have t00 : decide (0 < j + 1) = true := by simp
          simp only [Nat.add_sub_cancel] at next bad
          have e0 : ((j + 1 == 0) = false) := by simp
          rw [e0, Bool.false_or] at next bad
          generalize xs.getD (j + 1) 0 = y at c1 hc next bad
          generalize xs.getD j 0 = x at c0 next bad
          have Next := hid next
          have Bad := hid bad
          have Hc := hid hc
          clear bad next hin hc h6 e0 hk0
          have n2 : IntKind.i64.wrap ((j : Int) + 1 - 1) = j := by rw [IntWalk.i64_in _ (by omega)]; omega
          cases hd : decide (x < y)
          · have tn : decide (y ≤ x) = true := by have := of_decide_eq_false hd; simp; omega
            have Hd := hid hd
            clear hd
            go_wp2_with (go_at_call 75; refine (Hc.out _).mono ?_; rintro e w' ⟨rfl, rfl⟩)
            go_ret
            exact ⟨by rw [Bad.out Hd.out]; rfl, (by repeat' (first | exact Ext.refl _ | assumption | refine Ext.alloc ?_ _ | refine Ext.ext ?_ _ | refine Ext.drew ?_ | refine Ext.drewN ?_ _))⟩
          · have tn : decide (y ≤ x) = false := by have := of_decide_eq_true hd; simp; omega
            have Hd := hid hd
            clear hd
            go_wp2_with (go_at_call 75; refine (Hc.out _).mono ?_; rintro e w' ⟨rfl, rfl⟩)
            go_roundw
            case rel => exact ⟨j + 1 + 1, by omega, by go_num, Next.out Hd.out, (by repeat' (first | exact Ext.refl _ | assumption | refine Ext.alloc ?_ _ | refine Ext.ext ?_ _ | refine Ext.drew ?_ | refine Ext.drewN ?_ _))⟩
            case measure => simp [intOf]; omega
    · have hf : risB xs 1 7 = true := allTo (fun i hi => hall i (by omega))
      have Hf := hid hf
      clear hf hall
      go_wp2
      go_ret
      exact ⟨by rw [Hf.out]; rfl, (by repeat' (first | exact Ext.refl _ | assumption | refine Ext.alloc ?_ _ | refine Ext.ext ?_ _ | refine Ext.drew ?_ | refine Ext.drewN ?_ _))⟩
theorem impl_isGroup (s : ByteArray) (xs : List Int) (v : Value) (w : World) (hs : s.size ≤ 1048576) (h : Rd w 1 v xs.length (vInts xs)) (h2 : xs.length ≤ 1048576) :
    Calls Tryz.prog 25 #[.agg #[.string s, v]] w fun e w' => e = .returned (.bool (okG s xs)) ∧ Ext w w' := by
  have Hr := hid h
  clear h
  obtain ⟨-, p, cap, rfl, -⟩ := id Hr.out
  have a1 := hid (fun w => impl_isGroupName s w hs)
  have a2 := hid (fun (w : World) (h : Rd w 1 (.slice p xs.length cap) xs.length (vInts xs)) => impl_areFaces xs _ w h h2)
  cases e1 : gnm s
  · have f : okG s xs = false := by simp only [okG, e1, Bool.false_and]
    rw [f]
    rw [e1] at a1
    clear f e1
    go_enter Tryz.func25, Tryz.ntmps25
    go_wp2_with (go_at_call 51; refine (a1.out _).mono ?_; rintro e w' ⟨rfl, z1, rfl⟩)
    go_ret
    exact ⟨rfl, (by repeat' (first | exact Ext.refl _ | assumption | refine Ext.alloc ?_ _ | refine Ext.ext ?_ _ | refine Ext.drew ?_ | refine Ext.drewN ?_ _))⟩
  rw [e1] at a1
  cases e2 : decide (0 < (xs.length : Int))
  · have f : okG s xs = false := by simp only [okG, e1, e2, Bool.false_and, Bool.and_false]
    rw [f]
    have e3 : decide (0 < xs.length) = false := by simpa using e2
    clear f e1
    go_enter Tryz.func25, Tryz.ntmps25
    go_wp2_with (go_at_call 51; refine (a1.out _).mono ?_; rintro e w' ⟨rfl, z1, rfl⟩)
    go_ret
    exact ⟨rfl, (by repeat' (first | exact Ext.refl _ | assumption | refine Ext.alloc ?_ _ | refine Ext.ext ?_ _ | refine Ext.drew ?_ | refine Ext.drewN ?_ _))⟩
  have f : okG s xs = risB xs 1 7 := by simp only [okG, e1, e2, Bool.true_and]
  rw [f]
  have e3 : decide (0 < xs.length) = true := by simpa using e2
  clear f e1
  go_enter Tryz.func25, Tryz.ntmps25
  go_wp2_with (first | (go_at_call 51; refine (a1.out _).mono ?_; rintro e w' ⟨rfl, z1, rfl⟩) | (go_at_call 52; refine (a2.out _ (Hr.out.ext (by repeat' (first | exact Ext.refl _ | assumption | refine Ext.alloc ?_ _ | refine Ext.ext ?_ _ | refine Ext.drew ?_ | refine Ext.drewN ?_ _)))).mono ?_; rintro e w' ⟨rfl, z1, rfl⟩))
  go_ret
  exact ⟨rfl, (by repeat' (first | exact Ext.refl _ | assumption | refine Ext.alloc ?_ _ | refine Ext.ext ?_ _ | refine Ext.drew ?_ | refine Ext.drewN ?_ _))⟩
theorem spec_l21One (s : ByteArray) (xs : List Int) (v : Value) (w : World) (hs : s.size ≤ 1048576) (h : Rd w 1 v xs.length (vInts xs)) (h2 : xs.length ≤ 1048576) :
    Calls Tryz.prog 40 #[.agg #[.string s, v]] w fun e w' => e = .returned (.bool (okG s xs)) ∧ Ext w w' := by
  have Hr := hid h
  clear h
  obtain ⟨-, p, cap, rfl, -⟩ := id Hr.out
  have a1 := hid (fun w => spec_l21Name s w hs)
  have a2 := hid (fun (w : World) (h : Rd w 1 (.slice p xs.length cap) xs.length (vInts xs)) => spec_l1Rising xs _ 1 7 w h h2)
  cases e1 : gnm s
  · have f : okG s xs = false := by simp only [okG, e1, Bool.false_and]
    rw [f]
    rw [e1] at a1
    clear f e1
    go_enter Tryz.func40, Tryz.ntmps40
    go_wp2_with (go_at_call 68; refine (a1.out _).mono ?_; rintro e w' ⟨rfl, z1, rfl⟩)
    go_ret
    exact ⟨rfl, (by repeat' (first | exact Ext.refl _ | assumption | refine Ext.alloc ?_ _ | refine Ext.ext ?_ _ | refine Ext.drew ?_ | refine Ext.drewN ?_ _))⟩
  rw [e1] at a1
  cases e2 : decide (0 < (xs.length : Int))
  · have f : okG s xs = false := by simp only [okG, e1, e2, Bool.false_and, Bool.and_false]
    rw [f]
    have e3 : decide (0 < xs.length) = false := by simpa using e2
    clear f e1
    go_enter Tryz.func40, Tryz.ntmps40
    go_wp2_with (go_at_call 68; refine (a1.out _).mono ?_; rintro e w' ⟨rfl, z1, rfl⟩)
    go_ret
    exact ⟨rfl, (by repeat' (first | exact Ext.refl _ | assumption | refine Ext.alloc ?_ _ | refine Ext.ext ?_ _ | refine Ext.drew ?_ | refine Ext.drewN ?_ _))⟩
  have f : okG s xs = risB xs 1 7 := by simp only [okG, e1, e2, Bool.true_and]
  rw [f]
  have e3 : decide (0 < xs.length) = true := by simpa using e2
  clear f e1
  go_enter Tryz.func40, Tryz.ntmps40
  go_wp2_with (first | (go_at_call 68; refine (a1.out _).mono ?_; rintro e w' ⟨rfl, z1, rfl⟩) | (go_at_call 69; refine (a2.out _ (Hr.out.ext (by repeat' (first | exact Ext.refl _ | assumption | refine Ext.alloc ?_ _ | refine Ext.ext ?_ _ | refine Ext.drew ?_ | refine Ext.drewN ?_ _)))).mono ?_; rintro e w' ⟨rfl, z1, rfl⟩))
  go_ret
  exact ⟨rfl, (by repeat' (first | exact Ext.refl _ | assumption | refine Ext.alloc ?_ _ | refine Ext.ext ?_ _ | refine Ext.drew ?_ | refine Ext.drewN ?_ _))⟩
end Go.Proofs.YtlaochpkelbchaaGreatDoor
