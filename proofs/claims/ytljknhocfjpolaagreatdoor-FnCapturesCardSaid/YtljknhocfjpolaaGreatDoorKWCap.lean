/- Elements of captures, valid ones, and library functions on slices of them. -/
import Derived.Test.YtljknhocfjpolaaGreatDoorKWPkt2
import Derived.Test.YtljknhocfjpolaaGreatDoorKWFCaptured
import Derived.Shelf.Small.Wraps
namespace Go.Proofs.YtljknhocfjpolaaGreatDoor
open Go.RowKit
set_option maxHeartbeats 400000
set_option maxRecDepth 100000
def okC (x : Cap) : Bool := inB x.t 0 10000 && (inB x.n 1 7 && okPk x.c x.m x.r x.l x.d)
def allC (xs : List Cap) : Bool := (List.range xs.length).all (fun i => okC (xs.getD i .z))
def ordC (xs : List Cap) (i : Nat) : Bool := i == 0 || decide ((xs.getD (i - 1) .z).t ≤ (xs.getD i .z).t)
def sortC (xs : List Cap) : Bool := (List.range xs.length).all (ordC xs)
def capB (xs : List Cap) : Bool := decide (xs.length ≤ 10) && (sortC xs && allC xs)
theorem impl_isTick (x : Int) (w : World) : Calls Tryz.prog 52 #[.int .i64 x] w fun e w' => e = .returned (.bool (inB x 0 10000)) ∧ w = w' := by
  go_enter Tryz.func52, Tryz.ntmps52
  go_wp2_with (go_at_call 60; refine (impl_within _ _ _ _).mono ?_; rintro e w' ⟨rfl, rfl⟩)
  go_ret
  simp
theorem spec_l8Tick (x : Int) (w : World) : Calls Tryz.prog 115 #[.int .i64 x] w fun e w' => e = .returned (.bool (inB x 0 10000)) ∧ w = w' := by
  go_enter Tryz.func115, Tryz.ntmps115
  go_wp2_with (go_at_call 63; refine (spec_l1In _ _ _ _).mono ?_; rintro e w' ⟨rfl, rfl⟩)
  go_ret
  simp
theorem impl_IsCapture_1 (t n : Int) (u : Bool) (c m r l : Int) (d : ByteArray) (w : World) (h : d.size ≤ 1048576) :
    Calls Tryz.prog 51 #[.agg #[.int .i64 t, .int .i64 n, .bool u, .int .i64 c, .int .i64 m, .int .i64 r, .int .i64 l, .string d]] w fun e w' => e = .returned (.bool (!okC ⟨t, n, u, c, m, r, l, d⟩)) ∧ Ext w w' := by
  have a1 := hid (fun w => impl_isTick t w)
  have a2 := hid (fun w => impl_isFace n w)
  have a3 := hid (fun w => impl_IsValidPacket c m r l d w h)
  have hnot : ∀ (x : Bool) (w : World), (Op.unary .not (.bool x)).run Tryz.prog w = .ok (.bool (!x)) w := fun _ _ => rfl
  cases e1 : inB t 0 10000
  · have f : okC ⟨t, n, u, c, m, r, l, d⟩ = false := by simp only [okC, e1, Bool.false_and]
    rw [f]
    rw [e1] at a1
    clear f e1 a2 a3
    go_enter Tryz.func51, Tryz.ntmps51
    repeat (first | (go_wp2_with ((go_at_call 52; refine (a1.out _).mono ?_; rintro e w' ⟨rfl, rfl⟩)); refine wp_region_ext (by kernel_rfl) (by kernel_rfl) ?_; (repeat (go_big_quiet_step ((go_at_call 52; exact Calls.quiet_same (a1.out _))))); refine wpQuiet_nil ?_; rintro _ ⟨zq, rfl⟩))
    go_wp2_with ((go_at_call 52; refine (a1.out _).mono ?_; rintro e w' ⟨rfl, rfl⟩))
    go_ret
    exact ⟨rfl, (by repeat' (first | exact Ext.refl _ | assumption | refine Ext.alloc ?_ _ | refine Ext.ext ?_ _ | refine Ext.drew ?_ | refine Ext.drewN ?_ _))⟩
  rw [e1] at a1
  cases e2 : inB n 1 7
  · have f : okC ⟨t, n, u, c, m, r, l, d⟩ = false := by simp only [okC, e2, Bool.false_and, Bool.and_false]
    rw [f]
    rw [e2] at a2
    clear f e1 e2 a3
    go_enter Tryz.func51, Tryz.ntmps51
    repeat (first | (go_wp2_with (first | (go_at_call 52; refine (a1.out _).mono ?_; rintro e w' ⟨rfl, rfl⟩) | (go_at_call 53; refine (a2.out _).mono ?_; rintro e w' ⟨rfl, rfl⟩)); refine wp_region_ext (by kernel_rfl) (by kernel_rfl) ?_; (repeat (go_big_quiet_step (first | (go_at_call 52; exact Calls.quiet_same (a1.out _)) | (go_at_call 53; exact Calls.quiet_same (a2.out _))))); refine wpQuiet_nil ?_; rintro _ ⟨zq, rfl⟩))
    go_wp2_with (first | (go_at_call 52; refine (a1.out _).mono ?_; rintro e w' ⟨rfl, rfl⟩) | (go_at_call 53; refine (a2.out _).mono ?_; rintro e w' ⟨rfl, rfl⟩))
    go_ret
    exact ⟨rfl, (by repeat' (first | exact Ext.refl _ | assumption | refine Ext.alloc ?_ _ | refine Ext.ext ?_ _ | refine Ext.drew ?_ | refine Ext.drewN ?_ _))⟩
  rw [e2] at a2
  have f : okC ⟨t, n, u, c, m, r, l, d⟩ = okPk c m r l d := by simp only [okC, e1, e2, Bool.true_and]
  rw [f]
  clear f e1 e2
  generalize okPk c m r l d = K at *
  cases K
  all_goals
    go_enter Tryz.func51, Tryz.ntmps51
    repeat (first | (go_wp2_with (first | (go_at_call 52; refine (a1.out _).mono ?_; rintro e w' ⟨rfl, rfl⟩) | (go_at_call 53; refine (a2.out _).mono ?_; rintro e w' ⟨rfl, rfl⟩) | (go_at_call 54; refine (a3.out _).mono ?_; rintro e w' ⟨rfl, z1, rfl⟩)); refine wp_region_ext (by kernel_rfl) (by kernel_rfl) ?_; (repeat (go_big_quiet_step (first | (go_at_call 52; exact Calls.quiet_same (a1.out _)) | (go_at_call 53; exact Calls.quiet_same (a2.out _)) | (go_at_call 54; exact Calls.quiet_ext (a3.out _))))); refine wpQuiet_nil ?_; rintro _ ⟨zq, rfl⟩))
    go_wp2_with (first | (go_at_call 52; refine (a1.out _).mono ?_; rintro e w' ⟨rfl, rfl⟩) | (go_at_call 53; refine (a2.out _).mono ?_; rintro e w' ⟨rfl, rfl⟩) | (go_at_call 54; refine (a3.out _).mono ?_; rintro e w' ⟨rfl, z1, rfl⟩))
    go_ret
    exact ⟨rfl, (by repeat' (first | exact Ext.refl _ | assumption | refine Ext.alloc ?_ _ | refine Ext.ext ?_ _ | refine Ext.drew ?_ | refine Ext.drewN ?_ _))⟩
theorem spec_l25One (t n : Int) (u : Bool) (c m r l : Int) (d : ByteArray) (w : World) (h : d.size ≤ 1048576) :
    Calls Tryz.prog 82 #[.agg #[.int .i64 t, .int .i64 n, .bool u, .int .i64 c, .int .i64 m, .int .i64 r, .int .i64 l, .string d]] w fun e w' => e = .returned (.bool (okC ⟨t, n, u, c, m, r, l, d⟩)) ∧ Ext w w' := by
  have a1 := hid (fun w => spec_l8Tick t w)
  have a2 := hid (fun w => spec_l21Node n w)
  have a3 := hid (fun w => spec_l4Good c m r l d w h)
  have hnot : ∀ (x : Bool) (w : World), (Op.unary .not (.bool x)).run Tryz.prog w = .ok (.bool (!x)) w := fun _ _ => rfl
  cases e1 : inB t 0 10000
  · have f : okC ⟨t, n, u, c, m, r, l, d⟩ = false := by simp only [okC, e1, Bool.false_and]
    rw [f]
    rw [e1] at a1
    clear f e1 a2 a3
    go_enter Tryz.func82, Tryz.ntmps82
    repeat (first | (go_wp2_with ((go_at_call 115; refine (a1.out _).mono ?_; rintro e w' ⟨rfl, rfl⟩)); refine wp_region_ext (by kernel_rfl) (by kernel_rfl) ?_; (repeat (go_big_quiet_step ((go_at_call 115; exact Calls.quiet_same (a1.out _))))); refine wpQuiet_nil ?_; rintro _ ⟨zq, rfl⟩))
    go_wp2_with ((go_at_call 115; refine (a1.out _).mono ?_; rintro e w' ⟨rfl, rfl⟩))
    go_ret
    exact ⟨rfl, (by repeat' (first | exact Ext.refl _ | assumption | refine Ext.alloc ?_ _ | refine Ext.ext ?_ _ | refine Ext.drew ?_ | refine Ext.drewN ?_ _))⟩
  rw [e1] at a1
  cases e2 : inB n 1 7
  · have f : okC ⟨t, n, u, c, m, r, l, d⟩ = false := by simp only [okC, e2, Bool.false_and, Bool.and_false]
    rw [f]
    rw [e2] at a2
    clear f e1 e2 a3
    go_enter Tryz.func82, Tryz.ntmps82
    repeat (first | (go_wp2_with (first | (go_at_call 115; refine (a1.out _).mono ?_; rintro e w' ⟨rfl, rfl⟩) | (go_at_call 65; refine (a2.out _).mono ?_; rintro e w' ⟨rfl, rfl⟩)); refine wp_region_ext (by kernel_rfl) (by kernel_rfl) ?_; (repeat (go_big_quiet_step (first | (go_at_call 115; exact Calls.quiet_same (a1.out _)) | (go_at_call 65; exact Calls.quiet_same (a2.out _))))); refine wpQuiet_nil ?_; rintro _ ⟨zq, rfl⟩))
    go_wp2_with (first | (go_at_call 115; refine (a1.out _).mono ?_; rintro e w' ⟨rfl, rfl⟩) | (go_at_call 65; refine (a2.out _).mono ?_; rintro e w' ⟨rfl, rfl⟩))
    go_ret
    exact ⟨rfl, (by repeat' (first | exact Ext.refl _ | assumption | refine Ext.alloc ?_ _ | refine Ext.ext ?_ _ | refine Ext.drew ?_ | refine Ext.drewN ?_ _))⟩
  rw [e2] at a2
  have f : okC ⟨t, n, u, c, m, r, l, d⟩ = okPk c m r l d := by simp only [okC, e1, e2, Bool.true_and]
  rw [f]
  clear f e1 e2
  generalize okPk c m r l d = K at *
  cases K
  all_goals
    go_enter Tryz.func82, Tryz.ntmps82
    repeat (first | (go_wp2_with (first | (go_at_call 115; refine (a1.out _).mono ?_; rintro e w' ⟨rfl, rfl⟩) | (go_at_call 65; refine (a2.out _).mono ?_; rintro e w' ⟨rfl, rfl⟩) | (go_at_call 113; refine (a3.out _).mono ?_; rintro e w' ⟨rfl, z1, rfl⟩)); refine wp_region_ext (by kernel_rfl) (by kernel_rfl) ?_; (repeat (go_big_quiet_step (first | (go_at_call 115; exact Calls.quiet_same (a1.out _)) | (go_at_call 65; exact Calls.quiet_same (a2.out _)) | (go_at_call 113; exact Calls.quiet_ext (a3.out _))))); refine wpQuiet_nil ?_; rintro _ ⟨zq, rfl⟩))
    go_wp2_with (first | (go_at_call 115; refine (a1.out _).mono ?_; rintro e w' ⟨rfl, rfl⟩) | (go_at_call 65; refine (a2.out _).mono ?_; rintro e w' ⟨rfl, rfl⟩) | (go_at_call 113; refine (a3.out _).mono ?_; rintro e w' ⟨rfl, z1, rfl⟩))
    go_ret
    exact ⟨rfl, (by repeat' (first | exact Ext.refl _ | assumption | refine Ext.alloc ?_ _ | refine Ext.ext ?_ _ | refine Ext.drew ?_ | refine Ext.drewN ?_ _))⟩
/-! ### Library functions at slices of elements -/
def hitC (p : Cap → Bool) (xs : List Cap) : Int := if xs.any p then (xs.findIdx p : Int) else -1
theorem mem_cap {xs : List Cap} {k : Nat} (h : k < xs.length) : xs.getD k .z ∈ xs := by
  rw [List.getD_eq_getElem?_getD, List.getElem?_eq_getElem h]
  exact List.getElem_mem h
theorem hitC_at {p : Cap → Bool} {xs : List Cap} {k : Nat} (hk : k < xs.length) (hall : ∀ i, i < k → p (xs.getD i .z) = false) (hx : p (xs.getD k .z) = true) : hitC p xs = k := by
  unfold hitC
  have ha : xs.any p = true := List.any_eq_true.2 ⟨_, mem_cap hk, hx⟩
  rw [if_pos ha]
  have : xs.findIdx p = k := by
    rw [List.findIdx_eq hk]
    constructor
    · rw [List.getD_eq_getElem?_getD, List.getElem?_eq_getElem hk] at hx; exact hx
    · intro j hj
      have := hall j hj
      rwa [List.getD_eq_getElem?_getD, List.getElem?_eq_getElem (by omega)] at this
  rw [this]
theorem hitC_no {p : Cap → Bool} {xs : List Cap} (hall : ∀ i, i < xs.length → p (xs.getD i .z) = false) : hitC p xs = -1 ∧ xs.any p = false := by
  have ha : xs.any p = false := by
    cases h : xs.any p
    · rfl
    · obtain ⟨x, hx, hp⟩ := List.any_eq_true.1 h
      obtain ⟨i, hi, rfl⟩ := List.mem_iff_getElem.1 hx
      have := hall i hi
      rw [List.getD_eq_getElem?_getD, List.getElem?_eq_getElem hi] at this
      rw [Option.getD_some, hp] at this
      cases this
  refine ⟨?_, ha⟩
  unfold hitC
  rw [ha]
  rfl
theorem hitC_ge (p : Cap → Bool) (xs : List Cap) : decide (0 ≤ hitC p xs) = xs.any p := by
  unfold hitC
  cases xs.any p <;> simp
theorem hitC_lt {p : Cap → Bool} {xs : List Cap} (h : 0 ≤ hitC p xs) : ∃ i : Nat, i < xs.length ∧ hitC p xs = i ∧ p (xs.getD i .z) = true ∧ ∀ j, j < i → p (xs.getD j .z) = false := by
  unfold hitC at h ⊢
  cases ha : xs.any p
  · rw [ha] at h; simp at h
  · have hl : xs.findIdx p < xs.length := List.findIdx_lt_length_of_exists (List.any_eq_true.1 ha)
    refine ⟨xs.findIdx p, hl, by simp, ?_, fun j hj => ?_⟩
    · rw [List.getD_eq_getElem?_getD, List.getElem?_eq_getElem hl]
      exact List.findIdx_getElem
    · have := List.not_of_lt_findIdx hj
      rw [List.getD_eq_getElem?_getD, List.getElem?_eq_getElem (by omega)]
      simpa using this
theorem slices_IndexFunc_cap (xs : List Cap) (p : Cap → Bool) (g : Nat) (lb : Array Value) (eg : ∀ args w, (callFunc g args).run Tryz.prog w = .ok (.enter g args) w) (v : Value) (w0 w : World) (h : Rd w 8 v xs.length (xs.flatMap Cap.cs)) (hx0 : Ext w0 w) (h2 : xs.length ≤ 1048576)
    (hF : ∀ t n u c m r l d w', (⟨t, n, u, c, m, r, l, d⟩ : Cap) ∈ xs → Ext w0 w' → Calls Tryz.prog g (#[.agg #[.int .i64 t, .int .i64 n, .bool u, .int .i64 c, .int .i64 m, .int .i64 r, .int .i64 l, .string d]] ++ lb) w' fun e w'' => e = .returned (.bool (p ⟨t, n, u, c, m, r, l, d⟩)) ∧ Ext w' w'') :
    Calls Tryz.prog 74 #[v, .func (.func g) #[] lb] w fun e w' => e = .returned (.int .i64 (hitC p xs)) ∧ Ext w w' := by
  obtain ⟨h1, p', cap', rfl, h4⟩ := h
  have H4 := hid h4
  have HF := hid hF
  clear h1 h4 hF
  go_enter Tryz.func74, Tryz.ntmps74
  go_wp2
  go_loopw [8] (fun v8 wr => ∃ k : Nat, k ≤ xs.length ∧ v8 = .int .i64 k ∧ (∀ i, i < k → p (xs.getD i .z) = false) ∧ Ext w wr) (fun v8 _ => xs.length - (intOf v8).toNat)
  case atStart => exact ⟨0, Nat.zero_le _, rfl, fun _ h => absurd h (Nat.not_lt_zero _), Ext.refl _⟩
  case round =>
    obtain ⟨k, hk, rfl, hall, z, rfl⟩ := hrel
    by_cases hlt : k < xs.length
    · obtain ⟨b, off, rfl, h6⟩ := H4.out.resolve_left (by omega)
      obtain ⟨c0, c1, c2, c3, c4, c5, c6, c7⟩ := Cap.at xs h6 k hlt
      have hxo := mem_cap hlt
      have next : p (xs.getD k .z) = false → ∀ i, i < k + 1 → p (xs.getD i .z) = false := fun h => upTo_succ hall h
      have bad : p (xs.getD k .z) = true → hitC p xs = k := fun h => hitC_at hlt hall h
      clear hall h6
      generalize xs.getD k .z = x at c0 c1 c2 c3 c4 c5 c6 c7 next bad hxo
      obtain ⟨t, n, u, c, m, r, l, d⟩ := x
      dsimp only at c0 c1 c2 c3 c4 c5 c6 c7
      have hf := HF.out t n u c m r l d (w.ext z) hxo (hx0.trans ⟨z, rfl⟩)
      have Next := hid next
      have Bad := hid bad
      clear next bad hxo
      cases hx : p ⟨t, n, u, c, m, r, l, d⟩
      · rw [hx] at hf
        have Hx := hid hx
        have Hf := hid hf
        clear hx hf
        go_wp2_with (go_at_fn g; refine (Hf.out).mono ?_; rintro e w' ⟨rfl, z1, rfl⟩)
        go_roundw
        case rel => exact ⟨k + 1, by omega, by go_num, Next.out Hx.out, (by repeat' (first | exact Ext.refl _ | assumption | refine Ext.alloc ?_ _ | refine Ext.ext ?_ _ | refine Ext.drew ?_ | refine Ext.drewN ?_ _))⟩
        case measure => simp [intOf]; omega
      · rw [hx] at hf
        have Hx := hid hx
        have Hf := hid hf
        clear hx hf
        go_wp2_with (go_at_fn g; refine (Hf.out).mono ?_; rintro e w' ⟨rfl, z1, rfl⟩)
        go_ret
        exact ⟨by rw [Bad.out Hx.out]; rfl, (by repeat' (first | exact Ext.refl _ | assumption | refine Ext.alloc ?_ _ | refine Ext.ext ?_ _ | refine Ext.drew ?_ | refine Ext.drewN ?_ _))⟩
    · have hf : hitC p xs = -1 := (hitC_no (fun i hi => hall i (by omega))).1
      have Hf := hid hf
      clear hf hall
      go_wp2
      go_ret
      exact ⟨by rw [Hf.out]; rfl, (by repeat' (first | exact Ext.refl _ | assumption | refine Ext.alloc ?_ _ | refine Ext.ext ?_ _ | refine Ext.drew ?_ | refine Ext.drewN ?_ _))⟩
theorem slices_ContainsFunc_cap (xs : List Cap) (p : Cap → Bool) (g : Nat) (lb : Array Value) (eg : ∀ args w, (callFunc g args).run Tryz.prog w = .ok (.enter g args) w) (v : Value) (w0 w : World) (h : Rd w 8 v xs.length (xs.flatMap Cap.cs)) (hx0 : Ext w0 w) (h2 : xs.length ≤ 1048576)
    (hF : ∀ t n u c m r l d w', (⟨t, n, u, c, m, r, l, d⟩ : Cap) ∈ xs → Ext w0 w' → Calls Tryz.prog g (#[.agg #[.int .i64 t, .int .i64 n, .bool u, .int .i64 c, .int .i64 m, .int .i64 r, .int .i64 l, .string d]] ++ lb) w' fun e w'' => e = .returned (.bool (p ⟨t, n, u, c, m, r, l, d⟩)) ∧ Ext w' w'') :
    Calls Tryz.prog 50 #[v, .func (.func g) #[] lb] w fun e w' => e = .returned (.bool (xs.any p)) ∧ Ext w w' := by
  have hi := hid (fun w h hx => slices_IndexFunc_cap xs p g lb eg v w0 w h hx h2 hF)
  have hg := hid (hitC_ge p xs)
  have Hr := hid h
  clear h hF eg
  generalize hitC p xs = H at *
  go_enter Tryz.func50, Tryz.ntmps50
  go_wp2_with (go_at_call 74; refine (hi.out _ Hr.out hx0).mono ?_; rintro e w' ⟨rfl, z1, rfl⟩)
  go_ret
  exact ⟨by rw [← hg.out]; rfl, (by repeat' (first | exact Ext.refl _ | assumption | refine Ext.alloc ?_ _ | refine Ext.ext ?_ _ | refine Ext.drew ?_ | refine Ext.drewN ?_ _))⟩
def ren122 : Go.Shelf.Ren := ⟨fun x => if x = 122 then 93 else if x = 215 then 122 else x, fun x => if x = 3 then 3 else if x = 4 then 4 else x, fun x => x⟩
theorem lays122 : Go.Proofs.Lays.n122 Tryz.prog ren122 := by constructor <;> first | kernel_rfl | (intro w; kernel_rfl)
theorem cmp_Compare (x y : Int) (w : World) : Calls Tryz.prog 93 #[.int .i64 x, .int .i64 y] w fun e w' => e = .returned (.int .i64 (Lib.compareInt x y)) ∧ w = w' :=
  (Any.cmp_Compare_int lays122 x y w).mono fun _ _ ⟨a, b⟩ => ⟨a, b.symm⟩
theorem compare_neg (x y : Int) : (Lib.compareInt x y < 0) = (x < y) := by
  unfold Lib.compareInt
  apply propext
  (repeat' split) <;> omega
theorem impl_byTick (t n : Int) (u : Bool) (c m r l : Int) (d : ByteArray) (t' n' : Int) (u' : Bool) (c' m' r' l' : Int) (d' : ByteArray) (w : World) :
    Calls Tryz.prog 49 #[.agg #[.int .i64 t, .int .i64 n, .bool u, .int .i64 c, .int .i64 m, .int .i64 r, .int .i64 l, .string d], .agg #[.int .i64 t', .int .i64 n', .bool u', .int .i64 c', .int .i64 m', .int .i64 r', .int .i64 l', .string d']] w fun e w' => e = .returned (.int .i64 (Lib.compareInt t t')) ∧ Ext w w' := by
  have hc := hid (fun w => cmp_Compare t t' w)
  generalize Lib.compareInt t t' = K at *
  go_enter Tryz.func49, Tryz.ntmps49
  repeat (first | (go_wp2_with ((go_at_call 93; refine (hc.out _).mono ?_; rintro e w' ⟨rfl, rfl⟩)); refine wp_region_ext (by kernel_rfl) (by kernel_rfl) ?_; (repeat (go_big_quiet_step ((go_at_call 93; exact Calls.quiet_same (hc.out _))))); refine wpQuiet_nil ?_; rintro _ ⟨zq, rfl⟩))
  go_wp2_with ((go_at_call 93; refine (hc.out _).mono ?_; rintro e w' ⟨rfl, rfl⟩))
  go_ret
  exact ⟨rfl, (by repeat' (first | exact Ext.refl _ | assumption | refine Ext.alloc ?_ _ | refine Ext.ext ?_ _ | refine Ext.drew ?_ | refine Ext.drewN ?_ _))⟩
end Go.Proofs.YtljknhocfjpolaaGreatDoor
