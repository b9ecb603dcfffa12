/- Parities: what one call of each function gives. -/
import Derived.Test.YthnfdgbmmiddlaaDoorWL
import Derived.Test.YthnfdgbmmiddlaaDoorWStr
namespace Go.Proofs.YthnfdgbmmiddlaaDoor
open Go.RowKit
set_option maxHeartbeats 400000
/-- A parity: eight numbers from 0 to 26. -/
def isPar (xs : List Int) : Bool := decide (xs.length = 8) && xs.all (fun n => inB n 0 26)
def allIn (xs : List Int) : Bool := (List.range xs.length).all (fun i => inB (xs.getD i 0) 0 26)
theorem allIn_eq (xs : List Int) : allIn xs = xs.all (fun n => inB n 0 26) := by
  unfold allIn
  rw [Bool.eq_iff_iff, List.all_eq_true, List.all_eq_true]
  constructor
  · intro h x hx
    obtain ⟨i, hi, rfl⟩ := List.mem_iff_getElem.1 hx
    have := h i (List.mem_range.2 hi)
    simpa [List.getD_eq_getElem?_getD, hi] using this
  · intro h i hi
    have hi' := List.mem_range.1 hi
    have := h xs[i] (List.getElem_mem hi')
    simpa [List.getD_eq_getElem?_getD, hi'] using this
theorem isPar_get {xs : List Int} (h : isPar xs = true) (i : Nat) (hi : i < xs.length) : 0 ≤ xs.getD i 0 ∧ xs.getD i 0 ≤ 26 := by
  unfold isPar at h
  rw [← allIn_eq, Bool.and_eq_true] at h
  exact inB_iff.1 ((List.all_eq_true.1 h.2) i (List.mem_range.2 hi))
theorem isPar_len {xs : List Int} (h : isPar xs = true) : xs.length = 8 := by
  unfold isPar at h
  rw [Bool.and_eq_true] at h
  simpa using h.1
theorem isPar_mk (xs : List Int) : isPar xs = (((xs.length : Int) == 8) && allIn xs) := by
  rw [isPar, ← allIn_eq]
  congr 1
  rw [Bool.eq_iff_iff]; simp; omega
theorem spec_l24Good (xs : List Int) (v : Value) (w : World) (h : Rd w 1 v xs.length (vInts xs)) (h2 : xs.length ≤ 1048576) :
    Calls Tryd.prog 44 #[v] w fun e w' => e = .returned (.bool (isPar xs)) ∧ Ext w w' := by
  obtain ⟨h1, p, cap, rfl, h4⟩ := h
  have H1 := hid h1; clear h1
  have H4 := hid h4; clear h4
  go_enter Tryd.func44, Tryd.ntmps44
  go_wp2
  go_loopw [3] (fun v3 wr => ∃ k : Nat, k ≤ xs.length ∧ v3 = .int .i64 k ∧ (∀ i, i < k → inB (xs.getD i 0) 0 26 = true) ∧ Ext w wr) (fun v3 _ => xs.length - (intOf v3).toNat)
  case atStart => exact ⟨0, Nat.zero_le _, rfl, fun _ h => absurd h (Nat.not_lt_zero _), Ext.refl _⟩
  case round =>
    obtain ⟨k, hk, rfl, hall, z, rfl⟩ := hrel
    have Hall := hid hall; clear hall
    by_cases hlt : k < xs.length
    · obtain ⟨b, off, rfl, h6⟩ := H4.out.resolve_left (by omega)
      have c0 := elem1 (Value.int .i64) 0 xs h6 k hlt
      have H6 := hid h6; clear h6 H4
      have next : inB (xs.getD k 0) 0 26 = true → ∀ i, i < k + 1 → inB (xs.getD i 0) 0 26 = true := fun h => upTo_succ Hall.out h
      have bad : inB (xs.getD k 0) 0 26 = false → allIn xs = false := fun h => allUpto hlt h
      generalize xs.getD k 0 = x at c0 next bad
      have Next := hid next; clear next
      have Bad := hid bad; clear bad
      cases hx : inB x 0 26
      · have Hx := hid hx
        go_wp2_with (go_at_call 52; refine (spec_l1In _ _ _ _).mono ?_; rintro e w' ⟨rfl, rfl⟩)
        go_ret
        exact ⟨by rw [isPar_mk, Bad.out Hx.out]; simp, (by repeat' (first | exact Ext.refl _ | assumption | refine Ext.alloc ?_ _ | refine Ext.ext ?_ _ | refine Ext.drew ?_ | refine Ext.drewN ?_ _))⟩
      · have Hx := hid hx
        go_wp2_with (go_at_call 52; refine (spec_l1In _ _ _ _).mono ?_; rintro e w' ⟨rfl, rfl⟩)
        go_roundw
        case rel => exact ⟨k + 1, by omega, by go_num, Next.out Hx.out, (by repeat' (first | exact Ext.refl _ | assumption | refine Ext.alloc ?_ _ | refine Ext.ext ?_ _ | refine Ext.drew ?_ | refine Ext.drewN ?_ _))⟩
        case measure => simp [intOf]; omega
    · have hf : allIn xs = true := allTo (fun i hi => Hall.out i (by omega))
      have Hf := hid hf; clear hf
      go_wp2
      go_ret
      exact ⟨by rw [isPar_mk, Hf.out]; simp, (by repeat' (first | exact Ext.refl _ | assumption | refine Ext.alloc ?_ _ | refine Ext.ext ?_ _ | refine Ext.drew ?_ | refine Ext.drewN ?_ _))⟩
def firstBad (xs : List Int) : Int := if allIn xs then -1 else (xs.findIdx (fun n => !inB n 0 26) : Int)
theorem firstBad_ge (xs : List Int) : decide (0 ≤ firstBad xs) = !allIn xs := by
  unfold firstBad
  cases allIn xs <;> simp
theorem firstBad_at {xs : List Int} {k : Nat} (hk : k < xs.length) (hall : ∀ i, i < k → inB (xs.getD i 0) 0 26 = true) (hx : inB (xs.getD k 0) 0 26 = false) : firstBad xs = k := by
  unfold firstBad
  have h0 : allIn xs = false := allUpto hk hx
  rw [h0]
  have : xs.findIdx (fun n => !inB n 0 26) = k := by
    rw [List.findIdx_eq hk]
    constructor
    · rw [List.getD_eq_getElem?_getD, List.getElem?_eq_getElem hk] at hx
      simpa using hx
    · intro j hj
      have := hall j hj
      rw [List.getD_eq_getElem?_getD, List.getElem?_eq_getElem (by omega)] at this
      simpa using this
  simp [this]
theorem impl_isParity_1 (x : Int) (w : World) : Calls Tryd.prog 69 #[.int .i64 x] w fun e w' => e = .returned (.bool (!inB x 0 26)) ∧ w = w' := by
  have hnot : ∀ (x : Bool) (w : World), (Op.unary .not (.bool x)).run Tryd.prog w = .ok (.bool (!x)) w := fun _ _ => rfl
  go_enter Tryd.func69, Tryd.ntmps69
  go_wp2_with (go_at_call 59; refine (impl_within _ _ _ _).mono ?_; rintro e w' ⟨rfl, rfl⟩)
  go_ret
  exact ⟨rfl, rfl⟩
theorem impl_IndexFunc (xs : List Int) (v : Value) (w : World) (h : Rd w 1 v xs.length (vInts xs)) (h2 : xs.length ≤ 1048576) :
    Calls Tryd.prog 83 #[v, .func (.func 69) #[] #[]] w fun e w' => e = .returned (.int .i64 (firstBad xs)) ∧ Ext w w' := by
  obtain ⟨h1, p, cap, rfl, h4⟩ := h
  have H1 := hid h1; clear h1
  have H4 := hid h4; clear h4
  go_enter Tryd.func83, Tryd.ntmps83
  go_wp2
  go_loopw [8] (fun v8 wr => ∃ k : Nat, k ≤ xs.length ∧ v8 = .int .i64 k ∧ (∀ i, i < k → inB (xs.getD i 0) 0 26 = true) ∧ Ext w wr) (fun v8 _ => xs.length - (intOf v8).toNat)
  case atStart => exact ⟨0, Nat.zero_le _, rfl, fun _ h => absurd h (Nat.not_lt_zero _), Ext.refl _⟩
  case round =>
    obtain ⟨k, hk, rfl, hall, z, rfl⟩ := hrel
    by_cases hlt : k < xs.length
    · obtain ⟨b, off, rfl, h6⟩ := H4.out.resolve_left (by omega)
      have c0 := elem1 (Value.int .i64) 0 xs h6 k hlt
      have H6 := hid h6; clear h6 H4
      have next : inB (xs.getD k 0) 0 26 = true → ∀ i, i < k + 1 → inB (xs.getD i 0) 0 26 = true := fun h => upTo_succ hall h
      have bad : inB (xs.getD k 0) 0 26 = false → firstBad xs = k := fun h => firstBad_at hlt hall h
      clear hall
      generalize xs.getD k 0 = x at c0 next bad
      have Next := hid next; clear next
      have Bad := hid bad; clear bad
      cases hx : inB x 0 26
      · have Hx := hid hx
        go_wp2_with (go_at_call 69; refine (impl_isParity_1 _ _).mono ?_; rintro e w' ⟨rfl, rfl⟩)
        go_ret
        exact ⟨by rw [Bad.out Hx.out]; rfl, (by repeat' (first | exact Ext.refl _ | assumption | refine Ext.alloc ?_ _ | refine Ext.ext ?_ _ | refine Ext.drew ?_ | refine Ext.drewN ?_ _))⟩
      · have Hx := hid hx
        go_wp2_with (go_at_call 69; refine (impl_isParity_1 _ _).mono ?_; rintro e w' ⟨rfl, rfl⟩)
        go_roundw
        case rel => exact ⟨k + 1, by omega, by go_num, Next.out Hx.out, (by repeat' (first | exact Ext.refl _ | assumption | refine Ext.alloc ?_ _ | refine Ext.ext ?_ _ | refine Ext.drew ?_ | refine Ext.drewN ?_ _))⟩
        case measure => simp [intOf]; omega
    · have hf : allIn xs = true := allTo (fun i hi => hall i (by omega))
      have Hf := hid hf; clear hf hall
      go_wp2
      go_ret
      exact ⟨by rw [firstBad, Hf.out]; rfl, (by repeat' (first | exact Ext.refl _ | assumption | refine Ext.alloc ?_ _ | refine Ext.ext ?_ _ | refine Ext.drew ?_ | refine Ext.drewN ?_ _))⟩
theorem impl_ContainsFunc (xs : List Int) (v : Value) (w : World) (h : Rd w 1 v xs.length (vInts xs)) (h2 : xs.length ≤ 1048576) :
    Calls Tryd.prog 68 #[v, .func (.func 69) #[] #[]] w fun e w' => e = .returned (.bool (!allIn xs)) ∧ Ext w w' := by
  have Hr := hid h; clear h
  have hg := firstBad_ge xs
  have hi := impl_IndexFunc xs
  generalize firstBad xs = r at hg hi
  have Hg := hid hg; clear hg
  have Hi := hid hi; clear hi
  go_enter Tryd.func68, Tryd.ntmps68
  go_wp2_with (go_at_call 83; refine (Hi.out _ _ Hr.out h2).mono ?_; rintro e w' ⟨rfl, z1, rfl⟩)
  go_ret
  exact ⟨by rw [← Hg.out]; rfl, (by repeat' (first | exact Ext.refl _ | assumption | refine Ext.alloc ?_ _ | refine Ext.ext ?_ _ | refine Ext.drew ?_ | refine Ext.drewN ?_ _))⟩
theorem impl_isParity (xs : List Int) (v : Value) (w : World) (h : Rd w 1 v xs.length (vInts xs)) (h2 : xs.length ≤ 1048576) :
    Calls Tryd.prog 35 #[v] w fun e w' => e = .returned (.bool (isPar xs)) ∧ Ext w w' := by
  have hr := h
  obtain ⟨h1, p, cap, rfl, h4⟩ := h
  clear h1 h4
  have Hr := hid hr; clear hr
  have hnot : ∀ (x : Bool) (w : World), (Op.unary .not (.bool x)).run Tryd.prog w = .ok (.bool (!x)) w := fun _ _ => rfl
  have hd := isPar_mk xs
  cases h8 : ((xs.length : Int) == 8)
  · rw [h8] at hd
    have Hd := hid hd; clear hd
    go_enter Tryd.func35, Tryd.ntmps35
    go_wp2
    go_ret
    exact ⟨by rw [Hd.out]; rfl, Ext.refl _⟩
  · rw [h8] at hd
    have Hd := hid hd; clear hd
    go_enter Tryd.func35, Tryd.ntmps35
    go_wp2_with (go_at_call 68; refine (impl_ContainsFunc xs _ _ Hr.out h2).mono ?_; rintro e w' ⟨rfl, z1, rfl⟩)
    go_ret
    exact ⟨by rw [Hd.out]; simp, (by repeat' (first | exact Ext.refl _ | assumption | refine Ext.alloc ?_ _ | refine Ext.ext ?_ _ | refine Ext.drew ?_ | refine Ext.drewN ?_ _))⟩
end Go.Proofs.YthnfdgbmmiddlaaDoor
