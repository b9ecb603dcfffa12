/- The octets that a capture saw: both sides. -/
import Derived.Test.YtljknhocfjpolaaGreatDoorKWOct2
namespace Go.Proofs.YtljknhocfjpolaaGreatDoor
open Go.RowKit
set_option maxHeartbeats 400000
set_option maxRecDepth 100000
def seenTo (xs : List Cap) : Nat → Int
  | 0 => 0
  | k + 1 => seenTo xs k + (10 + ((xs.getD k .z).d.size : Int))
def seen (xs : List Cap) : Int := if capB xs then seenTo xs xs.length else 0
theorem seen_no {xs : List Cap} (h : capB xs = false) : seen xs = 0 := by rw [seen, h]; rfl
theorem seen_yes {xs : List Cap} (h : capB xs = true) : seen xs = seenTo xs xs.length := by rw [seen, h]; rfl
theorem okC_pk {t n : Int} {u : Bool} {c m r l : Int} {d : ByteArray} (h : okC ⟨t, n, u, c, m, r, l, d⟩ = true) : okPk c m r l d = true := by
  simp only [okC, Bool.and_eq_true] at h
  exact h.2.2
theorem okPk_size {c m r l : Int} {d : ByteArray} (h : okPk c m r l d = true) : d.size ≤ 8 := (octB_small h).2
theorem okC_size {x : Cap} (h : okC x = true) : x.d.size ≤ 8 := okPk_size (okC_pk (t := x.t) (n := x.n) (u := x.u) h)
theorem seenTo_bd {xs : List Cap} (h : capB xs = true) : ∀ k, k ≤ xs.length → 0 ≤ seenTo xs k ∧ seenTo xs k ≤ 18 * k
  | 0, _ => by simp [seenTo]
  | k + 1, hk => by
    have h1 := seenTo_bd h k (by omega)
    have h2 := okC_size ((cap_iff h).2 k (by omega)).1
    rw [seenTo]
    omega
theorem spec_BytesSeen (xs : List Cap) (v : Value) (w : World) (h : Rd w 8 v xs.length (xs.flatMap Cap.cs)) (h2 : xs.length ≤ 1048576) (h3 : Cap.chars xs ≤ 1048576) :
    Calls Tryz.prog 37 #[v] w fun e w' => e = .returned (.tuple #[.int .i64 (seen xs), .bool (capB xs)]) ∧ Ext w w' := by
  have Hr := hid h
  obtain ⟨h1, p, cap, rfl, h4⟩ := h
  have hg : Hid (∀ w, Rd w 8 (.slice p xs.length cap) xs.length (xs.flatMap Cap.cs) → Calls Tryz.prog 40 #[.slice p xs.length cap] w fun e w' => e = .returned (.bool (capB xs)) ∧ Ext w w') := fun w h => spec_l25Good xs _ w h h2 h3
  cases e1 : capB xs
  · rw [seen_no e1]
    rw [e1] at hg
    clear e1 h1 h4
    go_enter Tryz.func37, Tryz.ntmps37
    go_wp2_with (go_at_call 40; (refine (hg.out _ (Hr.out.ext (by repeat' (first | exact Ext.refl _ | assumption | refine Ext.alloc ?_ _ | refine Ext.ext ?_ _ | refine Ext.drew ?_ | refine Ext.drewN ?_ _)))).mono ?_); rintro e w1 ⟨rfl, z1, rfl⟩)
    go_ret2
    exact ⟨rfl, (by repeat' (first | exact Ext.refl _ | assumption | refine Ext.alloc ?_ _ | refine Ext.ext ?_ _ | refine Ext.drew ?_ | refine Ext.drewN ?_ _))⟩
  rw [seen_yes e1]
  rw [e1] at hg
  have hle := (cap_iff e1).1
  have hok := hid (fun i hi => ((cap_iff e1).2 i hi).1)
  have hbd := hid (seenTo_bd e1)
  have H4 := hid h4
  clear e1 h1 h4
  go_enter Tryz.func37, Tryz.ntmps37
  go_wp2_with (go_at_call 40; (refine (hg.out _ (Hr.out.ext (by repeat' (first | exact Ext.refl _ | assumption | refine Ext.alloc ?_ _ | refine Ext.ext ?_ _ | refine Ext.drew ?_ | refine Ext.drewN ?_ _)))).mono ?_); rintro e w1 ⟨rfl, z1, rfl⟩)
  go_loopw [5, 4] (fun vi vs wr => ∃ k : Nat, k ≤ xs.length ∧ vi = .int .i64 k ∧ vs = .int .i64 (seenTo xs k) ∧ Ext w wr) (fun vi _ _ => xs.length - (intOf vi).toNat)
  case atStart => exact ⟨0, Nat.zero_le _, rfl, rfl, (by repeat' (first | exact Ext.refl _ | assumption | refine Ext.alloc ?_ _ | refine Ext.ext ?_ _ | refine Ext.drew ?_ | refine Ext.drewN ?_ _))⟩
  case round =>
    obtain ⟨k, hk, rfl, rfl, hx⟩ := hrel
    have Hx := hid hx
    clear hx hg
    obtain ⟨g0, g1⟩ := hbd.out k hk
    by_cases hlt : k < xs.length
    · obtain ⟨b, off, rfl, h6⟩ := H4.out.resolve_left (by omega)
      obtain ⟨c0, c1, c2, c3, c4, c5, c6, c7⟩ := Cap.at xs h6 k hlt
      obtain ⟨-, -, -, -, d4, d5, d6, d7⟩ := Cap.atn xs h6 k hlt
      have o1 := hok.out k hlt
      have hst : Hid (seenTo xs (k + 1) = seenTo xs k + (10 + ((xs.getD k .z).d.size : Int))) := rfl
      clear h6
      generalize xs.getD k .z = x at c0 c1 c2 c3 c4 c5 c6 c7 d4 d5 d6 d7 o1 hst
      obtain ⟨t, n, u, c, m, r, l, d⟩ := x
      dsimp only at c0 c1 c2 c3 c4 c5 c6 c7 d4 d5 d6 d7
      replace c0 := Hx.out.cell c0
      replace c1 := Hx.out.cell c1
      replace c2 := Hx.out.cell c2
      replace c3 := Hx.out.cell c3
      replace c4 := Hx.out.cell c4
      replace c5 := Hx.out.cell c5
      replace c6 := Hx.out.cell c6
      replace c7 := Hx.out.cell c7
      replace d4 := Hx.out.cell d4
      replace d5 := Hx.out.cell d5
      replace d6 := Hx.out.cell d6
      replace d7 := Hx.out.cell d7
      have hpk := okC_pk o1
      have hd8 := okPk_size hpk
      have hol := octL_len c m r l d
      have hoc := hid (fun w => spec_l4Octets c m r l d w hpk)
      have Hol := hid hol
      clear o1 hpk hol
      generalize octL c m r l d = Q at *
      generalize seenTo xs k = S at *
      go_wp2_with (go_at_call 79; (refine (hoc.out _).mono ?_); rintro e w2 ⟨v2, rfl, ho2, hx2⟩; obtain ⟨q2, cp2, rfl⟩ := own_shape ho2; rw [Hol.out]; have Hx2 := hid hx2; clear ho2 hx2)
      go_roundw
      case rel => exact ⟨k + 1, by omega, by go_num, by rw [hst.out], Hx.out.trans ((show Ext wr _ from (by repeat' (first | exact Ext.refl _ | assumption | refine Ext.alloc ?_ _ | refine Ext.ext ?_ _ | refine Ext.drew ?_ | refine Ext.drewN ?_ _))).trans Hx2.out)⟩
      case measure => simp [intOf]; omega
    · obtain rfl : k = xs.length := by omega
      go_wp2
      go_ret2
      exact ⟨rfl, Hx.out⟩
theorem impl_BytesSeen (xs : List Cap) (v : Value) (w : World) (h : Rd w 8 v xs.length (xs.flatMap Cap.cs)) (h2 : xs.length ≤ 1048576) (h3 : Cap.chars xs ≤ 1048576) :
    Calls Tryz.prog 35 #[v] w fun e w' => e = .returned (.tuple #[.int .i64 (seen xs), .bool (capB xs)]) ∧ Ext w w' := by
  have Hr := hid h
  obtain ⟨h1, p, cap, rfl, h4⟩ := h
  have hg : Hid (∀ w, Rd w 8 (.slice p xs.length cap) xs.length (xs.flatMap Cap.cs) → Calls Tryz.prog 15 #[.slice p xs.length cap] w fun e w' => e = .returned (.bool (capB xs)) ∧ Ext w w') := fun w h => impl_IsCapture xs _ w h h2 h3
  cases e1 : capB xs
  · rw [seen_no e1]
    rw [e1] at hg
    clear e1 h1 h4
    go_enter Tryz.func35, Tryz.ntmps35
    go_wp2_with (go_at_call 15; (refine (hg.out _ (Hr.out.ext (by repeat' (first | exact Ext.refl _ | assumption | refine Ext.alloc ?_ _ | refine Ext.ext ?_ _ | refine Ext.drew ?_ | refine Ext.drewN ?_ _)))).mono ?_); rintro e w1 ⟨rfl, z1, rfl⟩)
    go_ret2
    exact ⟨rfl, (by repeat' (first | exact Ext.refl _ | assumption | refine Ext.alloc ?_ _ | refine Ext.ext ?_ _ | refine Ext.drew ?_ | refine Ext.drewN ?_ _))⟩
  rw [seen_yes e1]
  rw [e1] at hg
  have hle := (cap_iff e1).1
  have hok := hid (fun i hi => ((cap_iff e1).2 i hi).1)
  have hbd := hid (seenTo_bd e1)
  have H4 := hid h4
  clear e1 h1 h4
  go_enter Tryz.func35, Tryz.ntmps35
  go_wp2_with (go_at_call 15; (refine (hg.out _ (Hr.out.ext (by repeat' (first | exact Ext.refl _ | assumption | refine Ext.alloc ?_ _ | refine Ext.ext ?_ _ | refine Ext.drew ?_ | refine Ext.drewN ?_ _)))).mono ?_); rintro e w1 ⟨rfl, z1, rfl⟩)
  go_loopw [12, 4] (fun vi vs wr => ∃ k : Nat, k ≤ xs.length ∧ vi = .int .i64 k ∧ vs = .int .i64 (seenTo xs k) ∧ Ext w wr) (fun vi _ _ => xs.length - (intOf vi).toNat)
  case atStart => exact ⟨0, Nat.zero_le _, rfl, rfl, (by repeat' (first | exact Ext.refl _ | assumption | refine Ext.alloc ?_ _ | refine Ext.ext ?_ _ | refine Ext.drew ?_ | refine Ext.drewN ?_ _))⟩
  case round =>
    obtain ⟨k, hk, rfl, rfl, hx⟩ := hrel
    have Hx := hid hx
    clear hx hg
    obtain ⟨g0, g1⟩ := hbd.out k hk
    by_cases hlt : k < xs.length
    · obtain ⟨b, off, rfl, h6⟩ := H4.out.resolve_left (by omega)
      obtain ⟨c0, c1, c2, c3, c4, c5, c6, c7⟩ := Cap.at xs h6 k hlt
      obtain ⟨-, -, -, -, d4, d5, d6, d7⟩ := Cap.atn xs h6 k hlt
      have o1 := hok.out k hlt
      have hst : Hid (seenTo xs (k + 1) = seenTo xs k + (10 + ((xs.getD k .z).d.size : Int))) := rfl
      clear h6
      generalize xs.getD k .z = x at c0 c1 c2 c3 c4 c5 c6 c7 d4 d5 d6 d7 o1 hst
      obtain ⟨t, n, u, c, m, r, l, d⟩ := x
      dsimp only at c0 c1 c2 c3 c4 c5 c6 c7 d4 d5 d6 d7
      replace c0 := Hx.out.cell c0
      replace c1 := Hx.out.cell c1
      replace c2 := Hx.out.cell c2
      replace c3 := Hx.out.cell c3
      replace c4 := Hx.out.cell c4
      replace c5 := Hx.out.cell c5
      replace c6 := Hx.out.cell c6
      replace c7 := Hx.out.cell c7
      replace d4 := Hx.out.cell d4
      replace d5 := Hx.out.cell d5
      replace d6 := Hx.out.cell d6
      replace d7 := Hx.out.cell d7
      have hpk := okC_pk o1
      have hd8 := okPk_size hpk
      have hol := octL_len c m r l d
      have hoc := hid (fun w => impl_octetsOf c m r l d w hpk)
      have Hol := hid hol
      clear o1 hpk hol
      generalize octL c m r l d = Q at *
      generalize seenTo xs k = S at *
      go_wp2_with (go_at_call 78; (refine (hoc.out _).mono ?_); rintro e w2 ⟨v2, rfl, ho2, hx2⟩; obtain ⟨q2, cp2, rfl⟩ := own_shape ho2; rw [Hol.out]; have Hx2 := hid hx2; clear ho2 hx2)
      go_roundw
      case rel => exact ⟨k + 1, by omega, by go_num, by rw [hst.out], Hx.out.trans ((show Ext wr _ from (by repeat' (first | exact Ext.refl _ | assumption | refine Ext.alloc ?_ _ | refine Ext.ext ?_ _ | refine Ext.drew ?_ | refine Ext.drewN ?_ _))).trans Hx2.out)⟩
      case measure => simp [intOf]; omega
    · obtain rfl : k = xs.length := by omega
      go_wp2
      go_ret2
      exact ⟨rfl, Hx.out⟩
end Go.Proofs.YtljknhocfjpolaaGreatDoor
