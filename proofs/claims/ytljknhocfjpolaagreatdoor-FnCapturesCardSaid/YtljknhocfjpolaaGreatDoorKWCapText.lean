/- The text of a capture: both sides. -/
import Derived.Test.YtljknhocfjpolaaGreatDoorJ18
import Derived.Test.YtljknhocfjpolaaGreatDoorJ19
namespace Go.Proofs.YtljknhocfjpolaaGreatDoor
open Go.RowKit
set_option maxHeartbeats 1000000
set_option maxRecDepth 100000
def wayT (u : Bool) : ByteArray := if u then ⟨#[32, 117, 112, 32]⟩ else ⟨#[32, 100, 111, 119, 110, 32]⟩
def capL (x : Cap) : ByteArray := itoaS x.t ++ ⟨#[32]⟩ ++ itoaS x.n ++ wayT x.u ++ hexT (octL x.c x.m x.r x.l x.d)
def capTo (xs : List Cap) : Nat → ByteArray
  | 0 => ⟨#[]⟩
  | k + 1 => capTo xs k ++ capL (xs.getD k .z) ++ ⟨#[10]⟩
def ctT (xs : List Cap) : ByteArray := if capB xs then capTo xs xs.length else ⟨#[]⟩
theorem ct_no {xs : List Cap} (h : capB xs = false) : ctT xs = ⟨#[]⟩ := by rw [ctT, h]; rfl
theorem ct_yes {xs : List Cap} (h : capB xs = true) : ctT xs = capTo xs xs.length := by rw [ctT, h]; rfl
theorem hexT_size {c m r l : Int} {d : ByteArray} (h : okPk c m r l d = true) : (hexT (octL c m r l d)).size ≤ 36 := by
  have h8 := (octB_small h).2
  rw [hexT, hexTo_size, octL_len]
  omega
theorem okC_all {t n : Int} {u : Bool} {c m r l : Int} {d : ByteArray} (h : okC ⟨t, n, u, c, m, r, l, d⟩ = true) : (0 ≤ t ∧ t ≤ 10000) ∧ (1 ≤ n ∧ n ≤ 7) ∧ okPk c m r l d = true := by
  simp only [okC, Bool.and_eq_true] at h
  exact ⟨inB_iff.1 h.1, inB_iff.1 h.2.1, h.2.2⟩
theorem capL_size {x : Cap} (h : okC x = true) : (capL x).size ≤ 100 := by
  obtain ⟨⟨a, b⟩, ⟨c, d⟩, e⟩ := okC_all (t := x.t) (n := x.n) (u := x.u) h
  have h1 := itoaS_size x.t (by omega) (by omega)
  have h2 := itoaS_size x.n (by omega) (by omega)
  have h3 := hexT_size e
  have h4 : (wayT x.u).size ≤ 6 := by cases x.u <;> decide
  unfold capL
  simp only [ByteArray.size_append]
  show _ + 1 + _ + _ + _ ≤ 100
  omega
theorem capTo_size {xs : List Cap} (h : capB xs = true) : ∀ k, k ≤ xs.length → (capTo xs k).size ≤ 101 * k
  | 0, _ => Nat.le_refl _
  | k + 1, hk => by
    have h1 := capTo_size h k (by omega)
    have h2 := capL_size ((cap_iff h).2 k (by omega)).1
    rw [capTo, ByteArray.size_append, ByteArray.size_append]
    show _ + _ + 1 ≤ _
    omega
theorem spec_l25Line (t n : Int) (u : Bool) (c m r l : Int) (d : ByteArray) (w : World) (h : okC ⟨t, n, u, c, m, r, l, d⟩ = true) :
    Calls Tryz.prog 83 #[.agg #[.int .i64 t, .int .i64 n, .bool u, .int .i64 c, .int .i64 m, .int .i64 r, .int .i64 l, .string d]] w fun e w' => e = .returned (.string (capL ⟨t, n, u, c, m, r, l, d⟩)) ∧ Ext w w' := by
  obtain ⟨⟨a, b⟩, ⟨c1, d1⟩, hp⟩ := okC_all h
  have s1 := itoaS_size t (by omega) (by omega)
  have s2 := itoaS_size n (by omega) (by omega)
  have s3 := hexT_size hp
  have k1 := hid (fun w => spec_l1Num t w (by omega) (by omega))
  have k2 := hid (fun w => spec_l1Num n w (by omega) (by omega))
  have k3 := hid (fun w => spec_l4Encode c m r l d w hp)
  have hL : Hid (capL ⟨t, n, u, c, m, r, l, d⟩ = itoaS t ++ ⟨#[32]⟩ ++ itoaS n ++ wayT u ++ hexT (octL c m r l d)) := rfl
  clear h hp
  generalize hexT (octL c m r l d) = X at *
  cases u
  all_goals
    go_enter Tryz.func83, Tryz.ntmps83
    repeat (first | (go_wp2_with (fail); refine wp_region_ext (by kernel_rfl) (by kernel_rfl) ?_; (repeat (go_big_quiet_step (first | (go_at_call 111; (first | (with_reducible exact Calls.quiet_ext (k1.out _)) | (with_reducible exact Calls.quiet_ext (k2.out _)))) | (go_at_call 114; exact Calls.quiet_ext (k3.out _))))); refine wpQuiet_nil ?_; rintro _ ⟨zq, rfl⟩))
    go_wp2_with (fail)
    go_ret
    exact ⟨by rw [hL.out]; rfl, (by repeat' (first | exact Ext.refl _ | assumption | refine Ext.alloc ?_ _ | refine Ext.ext ?_ _ | refine Ext.drew ?_ | refine Ext.drewN ?_ _))⟩
theorem spec_l25Text (xs : List Cap) (v : Value) (w : World) (h : Rd w 8 v xs.length (xs.flatMap Cap.cs)) (h2 : xs.length ≤ 1048576) (ha : capB xs = true) :
    Calls Tryz.prog 47 #[v] w fun e w' => e = .returned (.string (capTo xs xs.length)) ∧ Ext w w' := by
  obtain ⟨h1, p, cap, rfl, h4⟩ := h
  have H4 := hid h4
  have hle := (cap_iff ha).1
  have hok := hid (fun i hi => ((cap_iff ha).2 i hi).1)
  have hsz := hid (capTo_size ha)
  clear h1 h4 ha
  go_enter Tryz.func47, Tryz.ntmps47
  go_wp2
  go_loopw [4, 3] (fun v4 v3 wr => ∃ k : Nat, k ≤ xs.length ∧ v4 = .int .i64 k ∧ v3 = .string (capTo xs k) ∧ Ext w wr) (fun v4 _ _ => xs.length - (intOf v4).toNat)
  case atStart => exact ⟨0, Nat.zero_le _, rfl, rfl, Ext.refl _⟩
  case round =>
    obtain ⟨k, hk, rfl, rfl, hx⟩ := hrel
    have Hx := hid hx
    clear hx
    have hs1 := hsz.out k hk
    by_cases hlt : k < xs.length
    · obtain ⟨b, off, rfl, h6⟩ := H4.out.resolve_left (by omega)
      obtain ⟨c0, c1, c2, c3, c4, c5, c6, c7⟩ := Cap.at xs h6 k hlt
      have o1 := hok.out k hlt
      have hst : Hid (capTo xs (k + 1) = capTo xs k ++ capL (xs.getD k .z) ++ ⟨#[10]⟩) := rfl
      clear h6
      generalize xs.getD k .z = x at c0 c1 c2 c3 c4 c5 c6 c7 o1 hst
      obtain ⟨t, n, u, c, m, r, l, d⟩ := x
      dsimp only at c0 c1 c2 c3 c4 c5 c6 c7
      replace c0 := Hx.out.cell c0
      replace c1 := Hx.out.cell c1
      replace c2 := Hx.out.cell c2
      replace c3 := Hx.out.cell c3
      replace c4 := Hx.out.cell c4
      replace c5 := Hx.out.cell c5
      replace c6 := Hx.out.cell c6
      replace c7 := Hx.out.cell c7
      have hs2 := capL_size o1
      have kl := hid (fun w => spec_l25Line t n u c m r l d w o1)
      clear o1
      generalize capL ⟨t, n, u, c, m, r, l, d⟩ = L at *
      generalize capTo xs k = T at *
      go_wp2_with (go_at_call 83; refine (kl.out _).mono ?_; rintro e w' ⟨rfl, z1, rfl⟩)
      go_roundw
      case rel => exact ⟨k + 1, by omega, by go_num, by rw [hst.out], Hx.out.trans (by repeat' (first | exact Ext.refl _ | assumption | refine Ext.alloc ?_ _ | refine Ext.ext ?_ _ | refine Ext.drew ?_ | refine Ext.drewN ?_ _))⟩
      case measure => simp [intOf]; omega
    · obtain rfl : k = xs.length := by omega
      go_wp2
      go_ret
      exact ⟨rfl, Hx.out⟩
theorem spec_CaptureText (xs : List Cap) (v : Value) (w : World) (h : Rd w 8 v xs.length (xs.flatMap Cap.cs)) (h2 : xs.length ≤ 1048576) (h3 : Cap.chars xs ≤ 1048576) :
    Calls Tryz.prog 14 #[v] w fun e w' => e = .returned (.tuple #[.string (ctT xs), .bool (capB xs)]) ∧ Ext w w' := by
  have Hr := hid h
  have hg : Hid (∀ w, Rd w 8 v xs.length (xs.flatMap Cap.cs) → Calls Tryz.prog 40 #[v] w fun e w' => e = .returned (.bool (capB xs)) ∧ Ext w w') := fun w h => spec_l25Good xs v w h h2 h3
  clear h
  cases e1 : capB xs
  · rw [ct_no e1]
    rw [e1] at hg
    clear e1
    go_enter Tryz.func14, Tryz.ntmps14
    go_wp2_with (go_at_call 40; (refine (hg.out _ (Hr.out.ext (by repeat' (first | exact Ext.refl _ | assumption | refine Ext.alloc ?_ _ | refine Ext.ext ?_ _ | refine Ext.drew ?_ | refine Ext.drewN ?_ _)))).mono ?_); rintro e w1 ⟨rfl, z1, rfl⟩)
    go_ret2
    exact ⟨rfl, (by repeat' (first | exact Ext.refl _ | assumption | refine Ext.alloc ?_ _ | refine Ext.ext ?_ _ | refine Ext.drew ?_ | refine Ext.drewN ?_ _))⟩
  · rw [ct_yes e1]
    rw [e1] at hg
    have hx := hid (fun w h => spec_l25Text xs v w h h2 e1)
    clear e1
    generalize capTo xs xs.length = T at *
    go_enter Tryz.func14, Tryz.ntmps14
    go_wp2_with (first | (go_at_call 40; (refine (hg.out _ (Hr.out.ext (by repeat' (first | exact Ext.refl _ | assumption | refine Ext.alloc ?_ _ | refine Ext.ext ?_ _ | refine Ext.drew ?_ | refine Ext.drewN ?_ _)))).mono ?_); rintro e w1 ⟨rfl, z1, rfl⟩) | (go_at_call 47; (refine (hx.out _ (Hr.out.ext (by repeat' (first | exact Ext.refl _ | assumption | refine Ext.alloc ?_ _ | refine Ext.ext ?_ _ | refine Ext.drew ?_ | refine Ext.drewN ?_ _)))).mono ?_); rintro e w2 ⟨rfl, z2, rfl⟩))
    go_ret2
    exact ⟨rfl, (by repeat' (first | exact Ext.refl _ | assumption | refine Ext.alloc ?_ _ | refine Ext.ext ?_ _ | refine Ext.drew ?_ | refine Ext.drewN ?_ _))⟩
theorem impl_captureText (xs : List Cap) (v : Value) (w : World) (h : Rd w 8 v xs.length (xs.flatMap Cap.cs)) (h2 : xs.length ≤ 1048576) (ha : capB xs = true) (ht : Tab w) :
    Calls Tryz.prog 43 #[v] w fun e w' => e = .returned (.string (capTo xs xs.length)) ∧ Ext w w' := by
  have Ht := hid ht
  obtain ⟨h1, p, cap, rfl, h4⟩ := h
  have H4 := hid h4
  have hle := (cap_iff ha).1
  have hok := hid (fun i hi => ((cap_iff ha).2 i hi).1)
  have hsz := hid (capTo_size ha)
  clear h1 h4 ha ht
  go_enter Tryz.func43, Tryz.ntmps43
  go_wp2
  go_loopw [11, 3] (fun v11 v3 wr => ∃ k : Nat, k ≤ xs.length ∧ v11 = .int .i64 k ∧ v3 = .string (capTo xs k) ∧ Ext w wr) (fun v11 _ _ => xs.length - (intOf v11).toNat)
  case atStart => exact ⟨0, Nat.zero_le _, rfl, rfl, Ext.refl _⟩
  case round =>
    obtain ⟨k, hk, rfl, rfl, hx⟩ := hrel
    have Hx := hid hx
    clear hx
    have hs1 := hsz.out k hk
    by_cases hlt : k < xs.length
    · obtain ⟨b, off, rfl, h6⟩ := H4.out.resolve_left (by omega)
      obtain ⟨c0, c1, c2, c3, c4, c5, c6, c7⟩ := Cap.at xs h6 k hlt
      have o1 := hok.out k hlt
      have hst : capTo xs (k + 1) = capTo xs k ++ capL (xs.getD k .z) ++ ⟨#[10]⟩ := rfl
      clear h6
      generalize xs.getD k .z = x at c0 c1 c2 c3 c4 c5 c6 c7 o1 hst
      obtain ⟨t, n, u, c, m, r, l, d⟩ := x
      dsimp only at c0 c1 c2 c3 c4 c5 c6 c7
      replace c0 := Hx.out.cell c0
      replace c1 := Hx.out.cell c1
      replace c2 := Hx.out.cell c2
      replace c3 := Hx.out.cell c3
      replace c4 := Hx.out.cell c4
      replace c5 := Hx.out.cell c5
      replace c6 := Hx.out.cell c6
      replace c7 := Hx.out.cell c7
      obtain ⟨⟨a, b'⟩, ⟨p1, p2⟩, hp⟩ := okC_all o1
      have s1 := itoaS_size t (by omega) (by omega)
      have s2 := itoaS_size n (by omega) (by omega)
      have s3 := hexT_size hp
      have k1 := hid (fun w (ht : Tab w) => strconv_Itoa t w (by omega) (by omega) ht)
      have k2 := hid (fun w (ht : Tab w) => strconv_Itoa n w (by omega) (by omega) ht)
      have k3 := hid (fun w => impl_EncodePacket c m r l d w hp)
      have hL : capL ⟨t, n, u, c, m, r, l, d⟩ = itoaS t ++ ⟨#[32]⟩ ++ itoaS n ++ wayT u ++ hexT (octL c m r l d) := rfl
      rw [hL] at hst
      have Hst := hid hst
      clear o1 hp hL hst
      generalize hexT (octL c m r l d) = X at *
      generalize capTo xs k = T at *
      cases u
      all_goals
        repeat (first | (go_wp2_with ((go_at_call 90; refine (k3.out _).mono ?_; rintro e w' ⟨rfl, z3, rfl⟩)); refine wp_region_ext (by kernel_rfl) (by kernel_rfl) ?_; (repeat (go_big_quiet_step (first | (go_at_call 91; (first | (with_reducible exact Calls.quiet_ext (k1.out _ (Ht.out.ext (Hx.out.trans (by repeat' (first | exact Ext.refl _ | assumption | refine Ext.alloc ?_ _ | refine Ext.ext ?_ _ | refine Ext.drew ?_ | refine Ext.drewN ?_ _)))))) | (with_reducible exact Calls.quiet_ext (k2.out _ (Ht.out.ext (Hx.out.trans (by repeat' (first | exact Ext.refl _ | assumption | refine Ext.alloc ?_ _ | refine Ext.ext ?_ _ | refine Ext.drew ?_ | refine Ext.drewN ?_ _))))))))))); refine wpQuiet_nil ?_; rintro _ ⟨zq, rfl⟩))
        go_wp2_with ((go_at_call 90; refine (k3.out _).mono ?_; rintro e w' ⟨rfl, z3, rfl⟩))
        go_roundw
        case rel => exact ⟨k + 1, by omega, by go_num, congrArg Value.string (by rw [Hst.out]; simp only [wayT, ByteArray.append_assoc]; rfl), Hx.out.trans (by repeat' (first | exact Ext.refl _ | assumption | refine Ext.alloc ?_ _ | refine Ext.ext ?_ _ | refine Ext.drew ?_ | refine Ext.drewN ?_ _))⟩
        case measure => simp [intOf]; omega
    · obtain rfl : k = xs.length := by omega
      go_wp2
      go_ret
      exact ⟨rfl, Hx.out⟩
theorem impl_CaptureText (xs : List Cap) (v : Value) (w : World) (h : Rd w 8 v xs.length (xs.flatMap Cap.cs)) (h2 : xs.length ≤ 1048576) (h3 : Cap.chars xs ≤ 1048576) (ht : Tab w) :
    Calls Tryz.prog 13 #[v] w fun e w' => e = .returned (.tuple #[.string (ctT xs), .bool (capB xs)]) ∧ Ext w w' := by
  have Hr := hid h
  have Ht := hid ht
  have hg : Hid (∀ w, Rd w 8 v xs.length (xs.flatMap Cap.cs) → Calls Tryz.prog 15 #[v] w fun e w' => e = .returned (.bool (capB xs)) ∧ Ext w w') := fun w h => impl_IsCapture xs v w h h2 h3
  clear h ht
  cases e1 : capB xs
  · rw [ct_no e1]
    rw [e1] at hg
    clear e1
    go_enter Tryz.func13, Tryz.ntmps13
    go_wp2_with (go_at_call 15; (refine (hg.out _ (Hr.out.ext (by repeat' (first | exact Ext.refl _ | assumption | refine Ext.alloc ?_ _ | refine Ext.ext ?_ _ | refine Ext.drew ?_ | refine Ext.drewN ?_ _)))).mono ?_); rintro e w1 ⟨rfl, z1, rfl⟩)
    go_ret2
    exact ⟨rfl, (by repeat' (first | exact Ext.refl _ | assumption | refine Ext.alloc ?_ _ | refine Ext.ext ?_ _ | refine Ext.drew ?_ | refine Ext.drewN ?_ _))⟩
  · rw [ct_yes e1]
    rw [e1] at hg
    have hx := hid (fun w h ht => impl_captureText xs v w h h2 e1 ht)
    clear e1
    generalize capTo xs xs.length = T at *
    go_enter Tryz.func13, Tryz.ntmps13
    go_wp2_with (first | (go_at_call 15; (refine (hg.out _ (Hr.out.ext (by repeat' (first | exact Ext.refl _ | assumption | refine Ext.alloc ?_ _ | refine Ext.ext ?_ _ | refine Ext.drew ?_ | refine Ext.drewN ?_ _)))).mono ?_); rintro e w1 ⟨rfl, z1, rfl⟩) | (go_at_call 43; (refine (hx.out _ (Hr.out.ext (by repeat' (first | exact Ext.refl _ | assumption | refine Ext.alloc ?_ _ | refine Ext.ext ?_ _ | refine Ext.drew ?_ | refine Ext.drewN ?_ _))) (Ht.out.ext (by repeat' (first | exact Ext.refl _ | assumption | refine Ext.alloc ?_ _ | refine Ext.ext ?_ _ | refine Ext.drew ?_ | refine Ext.drewN ?_ _)))).mono ?_); rintro e w2 ⟨rfl, z2, rfl⟩))
    go_ret2
    exact ⟨rfl, (by repeat' (first | exact Ext.refl _ | assumption | refine Ext.alloc ?_ _ | refine Ext.ext ?_ _ | refine Ext.drew ?_ | refine Ext.drewN ?_ _))⟩
end Go.Proofs.YtljknhocfjpolaaGreatDoor
