/- Blocks of items: which are valid, and their parity. -/
import Derived.Test.YthnfdgbmmiddlaaDoorWAdd
import Derived.Test.YthnfdgbmmiddlaaDoorWStrS
namespace Go.Proofs.YthnfdgbmmiddlaaDoor
open Go.RowKit
set_option maxHeartbeats 400000
set_option maxRecDepth 100000
def allS (xs : List ByteArray) : Bool := (List.range xs.length).all (fun i => itm 8 (xs.getD i ByteArray.empty))
def badS (xs : List ByteArray) : Int := if allS xs then -1 else ((List.range xs.length).findIdx (fun i => !itm 8 (xs.getD i ByteArray.empty)) : Nat)
theorem badS_at {xs : List ByteArray} {k : Nat} (hk : k < xs.length) (hall : ∀ i, i < k → itm 8 (xs.getD i ByteArray.empty) = true) (h : itm 8 (xs.getD k ByteArray.empty) = false) : badS xs = k := by
  have h1 : allS xs = false := allUpto hk h
  rw [badS, h1]
  have : (List.range xs.length).findIdx (fun i => !itm 8 (xs.getD i ByteArray.empty)) = k := by
    rw [List.findIdx_eq (by simpa using hk)]
    constructor
    · rw [List.getElem_range, h]; rfl
    · intro j hj
      rw [List.getElem_range, hall j hj]; rfl
  rw [if_neg Bool.false_ne_true, this]
theorem badS_ge (xs : List ByteArray) : decide (0 ≤ badS xs) = !allS xs := by
  unfold badS
  cases allS xs <;> simp
theorem size_of {xs : List ByteArray} (h2 : chars xs ≤ 1048576) {k : Nat} (hk : k < xs.length) : (xs.getD k ByteArray.empty).size ≤ 1048576 := by
  have h1 := chars_take xs k hk
  have h3 := chars_le xs (k + 1)
  omega
theorem impl_areItems_1 (s : ByteArray) (w : World) (h : s.size ≤ 1048576) : Calls Tryd.prog 78 #[.string s] w fun e w' => e = .returned (.bool (!itm 8 s)) ∧ Ext w w' := by
  have hnot : ∀ (x : Bool) (w : World), (Op.unary .not (.bool x)).run Tryd.prog w = .ok (.bool (!x)) w := fun _ _ => rfl
  have hI := hid (fun w => impl_isItem s w h)
  go_enter Tryd.func78, Tryd.ntmps78
  go_wp2_with (go_at_call 33; refine (hI.out _).mono ?_; rintro e w' ⟨rfl, z1, rfl⟩)
  go_ret
  exact ⟨rfl, (by repeat' (first | exact Ext.refl _ | assumption | refine Ext.alloc ?_ _ | refine Ext.ext ?_ _ | refine Ext.drew ?_ | refine Ext.drewN ?_ _))⟩
theorem impl_IndexFuncS (xs : List ByteArray) (v : Value) (w : World) (h : Rd w 1 v xs.length (vStrs xs)) (h2 : xs.length ≤ 1048576) (h3 : chars xs ≤ 1048576) :
    Calls Tryd.prog 88 #[v, .func (.func 78) #[] #[]] w fun e w' => e = .returned (.int .i64 (badS xs)) ∧ Ext w w' := by
  obtain ⟨h1, p, cap, rfl, h4⟩ := h
  have H1 := hid h1; clear h1
  have H4 := hid h4; clear h4
  go_enter Tryd.func88, Tryd.ntmps88
  go_wp2
  go_loopw [8] (fun v8 wr => ∃ k : Nat, k ≤ xs.length ∧ v8 = .int .i64 k ∧ (∀ i, i < k → itm 8 (xs.getD i ByteArray.empty) = true) ∧ Ext w wr) (fun v8 _ => xs.length - (intOf v8).toNat)
  case atStart => exact ⟨0, Nat.zero_le _, rfl, fun _ h => absurd h (Nat.not_lt_zero _), Ext.refl _⟩
  case round =>
    obtain ⟨k, hk, rfl, hall, z, rfl⟩ := hrel
    by_cases hlt : k < xs.length
    · obtain ⟨b, off, rfl, h6⟩ := H4.out.resolve_left (by omega)
      have c0 := elem1 Value.string ByteArray.empty xs h6 k hlt
      have H6 := hid h6; clear h6 H4
      have next : itm 8 (xs.getD k ByteArray.empty) = true → ∀ i, i < k + 1 → itm 8 (xs.getD i ByteArray.empty) = true := fun h => upTo_succ hall h
      have bad : itm 8 (xs.getD k ByteArray.empty) = false → badS xs = k := fun h => badS_at hlt hall h
      have hsz := size_of h3 hlt
      clear hall
      generalize xs.getD k ByteArray.empty = x at c0 next bad hsz
      have Next := hid next; clear next
      have Bad := hid bad; clear bad
      have h1 := hid (fun w => impl_areItems_1 x w hsz)
      cases hx : itm 8 x
      · have Hx := hid hx
        rw [hx] at h1
        go_wp2_with (go_at_call 78; refine (h1.out _).mono ?_; rintro e w' ⟨rfl, z1, rfl⟩)
        go_ret
        exact ⟨by rw [Bad.out Hx.out]; rfl, (by repeat' (first | exact Ext.refl _ | assumption | refine Ext.alloc ?_ _ | refine Ext.ext ?_ _ | refine Ext.drew ?_ | refine Ext.drewN ?_ _))⟩
      · have Hx := hid hx
        rw [hx] at h1
        go_wp2_with (go_at_call 78; refine (h1.out _).mono ?_; rintro e w' ⟨rfl, z1, rfl⟩)
        go_roundw
        case rel => exact ⟨k + 1, by omega, by go_num, Next.out Hx.out, (by repeat' (first | exact Ext.refl _ | assumption | refine Ext.alloc ?_ _ | refine Ext.ext ?_ _ | refine Ext.drew ?_ | refine Ext.drewN ?_ _))⟩
        case measure => simp [intOf]; omega
    · have hf : allS xs = true := allTo (fun i hi => hall i (by omega))
      have Hf := hid hf; clear hf hall
      go_wp2
      go_ret
      exact ⟨by rw [badS, Hf.out]; rfl, (by repeat' (first | exact Ext.refl _ | assumption | refine Ext.alloc ?_ _ | refine Ext.ext ?_ _ | refine Ext.drew ?_ | refine Ext.drewN ?_ _))⟩
theorem impl_ContainsFuncS (xs : List ByteArray) (v : Value) (w : World) (h : Rd w 1 v xs.length (vStrs xs)) (h2 : xs.length ≤ 1048576) (h3 : chars xs ≤ 1048576) :
    Calls Tryd.prog 77 #[v, .func (.func 78) #[] #[]] w fun e w' => e = .returned (.bool (!allS xs)) ∧ Ext w w' := by
  have Hr := hid h; clear h
  have hg := badS_ge xs
  have hi := impl_IndexFuncS xs
  generalize badS xs = r at hg hi
  have Hg := hid hg; clear hg
  have Hi := hid hi; clear hi
  go_enter Tryd.func77, Tryd.ntmps77
  go_wp2_with (go_at_call 88; refine (Hi.out _ _ Hr.out h2 h3).mono ?_; rintro e w' ⟨rfl, z1, rfl⟩)
  go_ret
  exact ⟨by rw [← Hg.out]; rfl, (by repeat' (first | exact Ext.refl _ | assumption | refine Ext.alloc ?_ _ | refine Ext.ext ?_ _ | refine Ext.drew ?_ | refine Ext.drewN ?_ _))⟩
theorem impl_areItems (xs : List ByteArray) (v : Value) (w : World) (h : Rd w 1 v xs.length (vStrs xs)) (h2 : xs.length ≤ 1048576) (h3 : chars xs ≤ 1048576) :
    Calls Tryd.prog 62 #[v] w fun e w' => e = .returned (.bool (allS xs)) ∧ Ext w w' := by
  have Hr := hid h; clear h
  have hnot : ∀ (x : Bool) (w : World), (Op.unary .not (.bool x)).run Tryd.prog w = .ok (.bool (!x)) w := fun _ _ => rfl
  go_enter Tryd.func62, Tryd.ntmps62
  go_wp2_with (go_at_call 77; refine (impl_ContainsFuncS xs _ _ Hr.out h2 h3).mono ?_; rintro e w' ⟨rfl, z1, rfl⟩)
  go_ret
  exact ⟨by simp, (by repeat' (first | exact Ext.refl _ | assumption | refine Ext.alloc ?_ _ | refine Ext.ext ?_ _ | refine Ext.drew ?_ | refine Ext.drewN ?_ _))⟩
def blk (xs : List ByteArray) : Bool := inB xs.length 1 6 && allS xs
theorem impl_isBlock (xs : List ByteArray) (v : Value) (w : World) (h : Rd w 1 v xs.length (vStrs xs)) (h2 : xs.length ≤ 1048576) (h3 : chars xs ≤ 1048576) :
    Calls Tryd.prog 55 #[v] w fun e w' => e = .returned (.bool (blk xs)) ∧ Ext w w' := by
  have hr := h
  obtain ⟨h1, p, cap, rfl, h4⟩ := h
  clear h1 h4
  have Hr := hid hr; clear hr
  have hw := fun w => impl_within xs.length 1 6 w
  have hb : blk xs = (inB xs.length 1 6 && allS xs) := rfl
  have Hb := hid hb; clear hb
  cases hi : inB xs.length 1 6
  all_goals
    rw [hi] at hw
    have Hi := hid hi
    have Hw := hid hw
    clear hi hw
    go_enter Tryd.func55, Tryd.ntmps55
    go_wp2_with (first | (go_at_call 59; refine (Hw.out _).mono ?_; rintro e w' ⟨rfl, rfl⟩) | (go_at_call 62; refine (impl_areItems xs _ _ (Hr.out.ext (by repeat' (first | exact Ext.refl _ | assumption | refine Ext.alloc ?_ _ | refine Ext.ext ?_ _ | refine Ext.drew ?_ | refine Ext.drewN ?_ _))) h2 h3).mono ?_; rintro e w' ⟨rfl, z1, rfl⟩))
    go_ret
    exact ⟨by rw [Hb.out, Hi.out]; first | rfl | simp, (by repeat' (first | exact Ext.refl _ | assumption | refine Ext.alloc ?_ _ | refine Ext.ext ?_ _ | refine Ext.drew ?_ | refine Ext.drewN ?_ _))⟩
theorem blk_no {xs : List ByteArray} {k : Nat} (hk : k < xs.length) (h : itm 8 (xs.getD k ByteArray.empty) = false) : blk xs = false := by
  have h1 : allS xs = false := allUpto hk h
  rw [blk, h1, Bool.and_false]
theorem blk_yes {xs : List ByteArray} {k : Nat} (hk : ¬ (k < xs.length ∧ k ≤ 6)) (hk2 : k ≤ xs.length) (hall : ∀ i, i < k → itm 8 (xs.getD i ByteArray.empty) = true) : blk xs = inB xs.length 1 6 := by
  cases hi : inB xs.length 1 6
  · rw [blk, hi]; rfl
  · rw [inB_iff] at hi
    have : allS xs = true := allTo (fun i h => hall i (by omega))
    rw [blk, this, Bool.and_true, inB_iff.2 hi]
theorem spec_l24Block (xs : List ByteArray) (v : Value) (w : World) (h : Rd w 1 v xs.length (vStrs xs)) (_h2 : xs.length ≤ 1048576) (h3 : chars xs ≤ 1048576) :
    Calls Tryd.prog 57 #[v] w fun e w' => e = .returned (.bool (blk xs)) ∧ Ext w w' := by
  obtain ⟨h1, p, cap, rfl, h4⟩ := h
  have H1 := hid h1; clear h1
  have H4 := hid h4; clear h4
  have hw := hid (fun w => spec_l1In xs.length 1 6 w)
  go_enter Tryd.func57, Tryd.ntmps57
  go_wp2
  go_loopw [3] (fun v3 wr => ∃ k : Nat, k ≤ xs.length ∧ k ≤ 7 ∧ v3 = .int .i64 k ∧ (∀ i, i < k → itm 8 (xs.getD i ByteArray.empty) = true) ∧ Ext w wr) (fun v3 _ => xs.length - (intOf v3).toNat)
  case atStart => exact ⟨0, Nat.zero_le _, by omega, rfl, fun _ h => absurd h (Nat.not_lt_zero _), Ext.refl _⟩
  case round =>
    obtain ⟨k, hk, hk7, rfl, hall, z, rfl⟩ := hrel
    by_cases hlt : k < xs.length
    · by_cases h6k : k ≤ 6
      · have t6 : decide ((k : Int) ≤ 6) = true := by simp; omega
        obtain ⟨b, off, rfl, h6⟩ := H4.out.resolve_left (by omega)
        have c0 := elem1 Value.string ByteArray.empty xs h6 k hlt
        have H6 := hid h6; clear h6 H4
        have next : itm 8 (xs.getD k ByteArray.empty) = true → ∀ i, i < k + 1 → itm 8 (xs.getD i ByteArray.empty) = true := fun h => upTo_succ hall h
        have bad : itm 8 (xs.getD k ByteArray.empty) = false → blk xs = false := fun h => blk_no hlt h
        have hsz := size_of h3 hlt
        clear hall
        generalize xs.getD k ByteArray.empty = x at c0 next bad hsz
        have Next := hid next; clear next
        have Bad := hid bad; clear bad
        have h1 := hid (fun w => spec_l24Item x w hsz)
        cases hx : itm 8 x
        · have Hx := hid hx
          rw [hx] at h1
          go_wp2_with (go_at_call 38; refine (h1.out _).mono ?_; rintro e w' ⟨rfl, z1, rfl⟩)
          go_ret
          exact ⟨by rw [Bad.out Hx.out]; rfl, (by repeat' (first | exact Ext.refl _ | assumption | refine Ext.alloc ?_ _ | refine Ext.ext ?_ _ | refine Ext.drew ?_ | refine Ext.drewN ?_ _))⟩
        · have Hx := hid hx
          rw [hx] at h1
          go_wp2_with (go_at_call 38; refine (h1.out _).mono ?_; rintro e w' ⟨rfl, z1, rfl⟩)
          go_roundw
          case rel => exact ⟨k + 1, by omega, by omega, by go_num, Next.out Hx.out, (by repeat' (first | exact Ext.refl _ | assumption | refine Ext.alloc ?_ _ | refine Ext.ext ?_ _ | refine Ext.drew ?_ | refine Ext.drewN ?_ _))⟩
          case measure => simp [intOf]; omega
      · have t6 : decide ((k : Int) ≤ 6) = false := by simp; omega
        have hy := hid (blk_yes (k := k) (by omega) hk hall); clear hall
        go_wp2_with (go_at_call 52; refine (hw.out _).mono ?_; rintro e w' ⟨rfl, rfl⟩)
        go_ret
        exact ⟨by rw [hy.out]; rfl, (by repeat' (first | exact Ext.refl _ | assumption | refine Ext.alloc ?_ _ | refine Ext.ext ?_ _ | refine Ext.drew ?_ | refine Ext.drewN ?_ _))⟩
    · have hy := hid (blk_yes (k := k) (by omega) hk hall); clear hall
      go_wp2_with (go_at_call 52; refine (hw.out _).mono ?_; rintro e w' ⟨rfl, rfl⟩)
      go_ret
      exact ⟨by rw [hy.out]; rfl, (by repeat' (first | exact Ext.refl _ | assumption | refine Ext.alloc ?_ _ | refine Ext.ext ?_ _ | refine Ext.drew ?_ | refine Ext.drewN ?_ _))⟩
end Go.Proofs.YthnfdgbmmiddlaaDoor
