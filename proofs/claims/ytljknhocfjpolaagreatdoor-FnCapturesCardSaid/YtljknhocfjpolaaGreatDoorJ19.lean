/- Texts of numbers: the reference's and the library's. The table of powers of ten, carried along. The octets that a capture saw: both sides. -/
import Derived.Test.YtljknhocfjpolaaGreatDoorJ2
import Derived.Shelf.Strconv.Itoa3
import Derived.Test.YtljknhocfjpolaaGreatDoorProg
import Derived.BarOnce
import Derived.Lib.LaidTab
import Derived.Lib.ItoaNum
import Derived.Stop.LaidErr
import Derived.Test.YtljknhocfjpolaaGreatDoorRows
import Derived.Test.YtljknhocfjpolaaGreatDoorKWOct2
namespace Go.Proofs.YtljknhocfjpolaaGreatDoor
open Go.RowKit
set_option maxHeartbeats 400000
set_option maxRecDepth 100000
def itoaS (n : Int) : ByteArray := ⟨(Lib.itoa n).toArray⟩
def dgb (n : Nat) : UInt8 := UInt8.ofNat (48 + n)
def digs : ByteArray := ⟨#[48, 49, 50, 51, 52, 53, 54, 55, 56, 57]⟩
theorem digs_all : ((List.range 10).all fun n => (digs.extract n (n + 1)).data.toList == [dgb n]) = true := by decide +kernel
theorem digs_at (n : Nat) (h : n < 10) : digs.extract n (n + 1) = ⟨#[dgb n]⟩ := by
  have h1 := (List.all_eq_true.1 digs_all) n (List.mem_range.2 h)
  have h2 : (digs.extract n (n + 1)).data.toList = [dgb n] := by simpa using h1
  apply ByteArray.ext
  apply Array.ext'
  rw [h2]
theorem itoaS_nat (n : Nat) : itoaS (n : Int) = ⟨(Lib.decDigits n).toArray⟩ := by
  rw [itoaS, Lib.itoa, if_neg (by omega), Int.toNat_natCast]
theorem itoaS_small {n : Nat} (h : n < 10) : itoaS (n : Int) = ⟨#[dgb n]⟩ := by rw [itoaS_nat, Lib.decDigits_one h]; rfl
theorem itoaS_big {n : Nat} (h : 10 ≤ n) : itoaS (n : Int) = itoaS ((n / 10 : Nat) : Int) ++ ⟨#[dgb (n % 10)]⟩ := by
  rw [itoaS_nat, itoaS_nat, Lib.decDigits, dif_neg (by omega)]
  apply ByteArray.ext
  apply Array.ext'
  simp [dgb]
theorem itoaS_neg {n : Nat} (h : 0 < n) : itoaS (-(n : Int)) = ⟨#[45]⟩ ++ itoaS (n : Int) := by
  rw [itoaS_nat, itoaS, Lib.itoa, if_pos (by omega), Int.natAbs_neg, Int.natAbs_natCast]
  apply ByteArray.ext
  apply Array.ext'
  simp
theorem decDigits_le : ∀ (k u : Nat), u < 10 ^ (k + 1) → (Lib.decDigits u).length ≤ k + 1
  | 0, u, h => by rw [Lib.decDigits_one (by omega)]; simp
  | k + 1, u, h => by
    rw [Lib.decDigits]
    split
    · simp
    · have := decDigits_le k (u / 10) (by rw [Nat.pow_succ] at h; omega)
      rw [List.length_append, List.length_singleton]
      omega
theorem itoaS_size (n : Int) (h : -9223372036854775808 ≤ n) (h1 : n ≤ 9223372036854775807) : (itoaS n).size ≤ 21 := by
  show (Lib.itoa n).toArray.size ≤ 21
  rw [List.size_toArray, Lib.itoa]
  split
  · have := decDigits_le 19 n.natAbs (by omega)
    rw [List.length_cons]
    omega
  · have := decDigits_le 19 n.toNat (by omega)
    omega
theorem itoaS_pos (n : Int) : 0 < (itoaS n).size := by
  show 0 < (Lib.itoa n).toArray.size
  rw [List.size_toArray, Lib.itoa]
  have h : ∀ u, 0 < (Lib.decDigits u).length := fun u => by
    rw [Lib.decDigits]
    split <;> simp
  split
  · simp
  · exact h _
theorem digs_slice (n : Nat) (h : n < 10) (w : World) : (Instr.slice 9 (.string ⟨#[48, 49, 50, 51, 52, 53, 54, 55, 56, 57]⟩) (some (.int .i64 (n : Int))) (some (.int .i64 ((n : Int) + 1))) none).run Tryz.prog w = .ok (.string ⟨#[dgb n]⟩) w := by
  have := run_slice_string (P := Tryz.prog) w 9 digs .i64 .i64 (n : Int) ((n : Int) + 1) Tryz.underlying9 (by omega) (by omega) (by show (n : Int) + 1 ≤ 10; omega)
  rw [show digs = (⟨#[48, 49, 50, 51, 52, 53, 54, 55, 56, 57]⟩ : ByteArray) from rfl] at this
  rw [this]
  have e := digs_at n h
  rw [show digs = (⟨#[48, 49, 50, 51, 52, 53, 54, 55, 56, 57]⟩ : ByteArray) from rfl] at e
  rw [show ((n : Int) + 1).toNat = n + 1 by omega, show ((n : Int)).toNat = n by omega, e]
theorem spec_l1Num_nat (k : Nat) : ∀ (n : Nat) (w : World), n ≤ k → n ≤ 9223372036854775807 →
    Calls Tryz.prog 111 #[.int .i64 (n : Int)] w fun e w' => e = .returned (.string (itoaS n)) ∧ Ext w w' := by
  induction k with
  | zero =>
    intro n w hk hn
    have hsl := digs_slice n (by omega)
    have he := hid (itoaS_small (n := n) (by omega))
    have t1 : decide ((n : Int) < 10) = true := by simp; omega
    go_enter Tryz.func111, Tryz.ntmps111
    go_wp2_with fail
    go_ret
    exact ⟨by rw [he.out]; rfl, (by repeat' (first | exact Ext.refl _ | assumption | refine Ext.alloc ?_ _ | refine Ext.ext ?_ _ | refine Ext.drew ?_ | refine Ext.drewN ?_ _))⟩
  | succ k ih =>
    intro n w hk hn
    by_cases h10 : n < 10
    · have hsl := digs_slice n h10
      have he := hid (itoaS_small h10)
      have t1 : decide ((n : Int) < 10) = true := by simp; omega
      go_enter Tryz.func111, Tryz.ntmps111
      go_wp2_with fail
      go_ret
      exact ⟨by rw [he.out]; rfl, (by repeat' (first | exact Ext.refl _ | assumption | refine Ext.alloc ?_ _ | refine Ext.ext ?_ _ | refine Ext.drew ?_ | refine Ext.drewN ?_ _))⟩
    · have hsl := digs_slice (n % 10) (by omega)
      simp only [Int.natCast_emod, Int.cast_ofNat_Int] at hsl
      have he := hid (itoaS_big (n := n) (by omega))
      have hs := itoaS_size ((n / 10 : Nat) : Int) (by omega) (by omega)
      have h1 := hid (fun w => ih (n / 10) w (by omega) (by omega))
      simp only [Int.natCast_ediv, Int.cast_ofNat_Int] at h1 hs he
      have t1 : decide ((n : Int) < 10) = false := by simp; omega
      have hsz1 : (⟨#[dgb (n % 10)]⟩ : ByteArray).size = 1 := rfl
      have w1 : IntKind.i64.wrap ((n : Int) % 10 + 1) = (n : Int) % 10 + 1 := IntWalk.i64_in _ (by omega)
      have b0 : (0 : Int) ≤ (n : Int) := by omega
      clear ih
      go_enter Tryz.func111, Tryz.ntmps111
      go_wp2_with fail
      refine wp_region_ext (by kernel_rfl) (by kernel_rfl) ?_
      repeat (go_big_quiet_step ((first | (go_at_call 111; exact Calls.quiet_ext (h1.out _)))))
      refine wpQuiet_nil ?_
      rintro _ ⟨zq, rfl⟩
      go_wp2
      go_ret
      exact ⟨by rw [he.out]; rfl, (by repeat' (first | exact Ext.refl _ | assumption | refine Ext.alloc ?_ _ | refine Ext.ext ?_ _ | refine Ext.drew ?_ | refine Ext.drewN ?_ _))⟩
theorem spec_l1Num (n : Int) (w : World) (h : -9223372036854775807 ≤ n) (h1 : n ≤ 9223372036854775807) :
    Calls Tryz.prog 111 #[.int .i64 n] w fun e w' => e = .returned (.string (itoaS n)) ∧ Ext w w' := by
  by_cases h0 : 0 ≤ n
  · obtain ⟨m, rfl⟩ := Int.eq_ofNat_of_zero_le h0
    exact spec_l1Num_nat m m w (Nat.le_refl _) (by omega)
  · obtain ⟨m, hm⟩ := Int.eq_ofNat_of_zero_le (show 0 ≤ -n by omega)
    obtain rfl : n = -(m : Int) := by omega
    have he := hid (itoaS_neg (n := m) (by omega))
    have hs := itoaS_size (m : Int) (by omega) (by omega)
    have hc := hid (fun w => spec_l1Num_nat m m w (Nat.le_refl _) (by omega))
    have w1 : IntKind.i64.wrap (-(-(m : Int))) = m := by rw [Int.neg_neg]; exact IntWalk.i64_in _ (by omega)
    have t1 : decide (-(m : Int) < 0) = true := by simp; omega
    have hsz1 : (⟨#[45]⟩ : ByteArray).size = 1 := rfl
    clear hm
    go_enter Tryz.func111, Tryz.ntmps111
    go_wp2_with (go_at_call 111; refine (hc.out _).mono ?_; rintro e w' ⟨rfl, z1, rfl⟩)
    go_ret
    exact ⟨by rw [he.out]; rfl, (by repeat' (first | exact Ext.refl _ | assumption | refine Ext.alloc ?_ _ | refine Ext.ext ?_ _ | refine Ext.drew ?_ | refine Ext.drewN ?_ _))⟩
theorem ext_grow (w : World) (k : Nat) (os : Array Obj) : Ext w (Sort.grow (w.drewN k) os) := ⟨⟨os, w.drawn + k⟩, rfl⟩
def renM171 : Go.Shelf.Ren := ⟨fun x => if x = 129 then 176 else if x = 171 then 91 else if x = 243 then 121 else if x = 246 then 141 else if x = 283 then 157 else if x = 284 then 158 else if x = 285 then 159 else if x = 286 then 160 else if x = 317 then 175 else if x = 318 then 177 else if x = 319 then 178 else if x = 320 then 179 else if x = 337 then 186 else if x = 338 then 187 else x, fun x => if x = 0 then 0 else if x = 2 then 2 else if x = 3 then 3 else if x = 4 then 4 else if x = 5 then 5 else if x = 9 then 9 else if x = 20 then 20 else if x = 37 then 28 else if x = 46 then 103 else if x = 51 then 149 else if x = 53 then 70 else if x = 171 then 133 else if x = 173 then 136 else if x = 212 then 148 else if x = 213 then 150 else if x = 232 then 172 else if x = 233 then 173 else x, fun x => if x = 17 then 1 else if x = 18 then 6 else if x = 19 then 7 else x⟩
theorem laysM171_0 : Go.Proofs.Lays.n171 Tryz.prog renM171 := by constructor <;> first | kernel_rfl | (intro w; kernel_rfl)
theorem laysM171 : Go.Proofs.LaysM.n171 Tryz.prog renM171 := by constructor <;> first | exact laysM171_0 | kernel_rfl | (intro w; kernel_rfl)
theorem strconv_Itoa (n : Int) (w : World) (h0 : -9223372036854775808 ≤ n) (h1 : n ≤ 9223372036854775807) (ht : Lib.TabIs Tryz.prog w "internal/strconv.uint64pow10" .u64 Lib.pow10Tab) :
    Calls Tryz.prog 91 #[.int .i64 n] w fun e w' => e = .returned (.string (itoaS n)) ∧ Ext w w' :=
  (Any.strconv_Itoa laysM171 n h0 h1 w ht).mono fun _ _ ⟨a, k, os, b⟩ => ⟨a, b ▸ ext_grow w k os⟩
theorem strconv_Itoa_lt (n : Int) (w : World) (h0 : 0 ≤ n) (h1 : n < 100) :
    Calls Tryz.prog 91 #[.int .i64 n] w fun e w' => e = .returned (.string (itoaS n)) ∧ w = w' := by
  obtain ⟨m, rfl⟩ := Int.eq_ofNat_of_zero_le h0
  rw [itoaS_nat]
  exact (Any.strconv_Itoa_small laysM171_0 m (by omega) w).mono fun _ _ ⟨a, b⟩ => ⟨a, b.symm⟩
end Go.Proofs.YtljknhocfjpolaaGreatDoor
namespace Go.Proofs.YtljknhocfjpolaaGreatDoor
open Go.RowKit
/-- The library's table reads as it is laid. -/
def Tab (w : World) : Prop := Lib.TabIs Tryz.prog w "internal/strconv.uint64pow10" .u64 Lib.pow10Tab
theorem Tab.ext {w w' : World} (h : Tab w) (hx : Ext w w') : Tab w' := by
  obtain ⟨z, rfl⟩ := hx
  exact World.var?_append (bs := z.x) rfl h
theorem laidPow : (Rows.laid_internal_strconv_uint64pow10 : DataW Unit) = Lib.tabData .u64 Lib.pow10Tab := by kernel_rfl
theorem tab_of {W : World} {rest : List (String × DataW Unit)} (h : laidMet Tryz.prog (("internal/strconv.uint64pow10", Rows.laid_internal_strconv_uint64pow10) :: rest) W) : Tab W := by
  rw [laidPow] at h
  exact Lib.tabIs_of_head (g := 1) (t := 148) (e := 70) (n := 20) (by kernel_rfl) (by kernel_rfl) (by kernel_rfl) (by kernel_rfl) (by kernel_rfl) (by kernel_rfl) h
end Go.Proofs.YtljknhocfjpolaaGreatDoor
namespace Go.Proofs.YtljknhocfjpolaaGreatDoor
open Go.RowKit
set_option maxHeartbeats 400000
set_option maxRecDepth 100000
def seenTo (xs : List Cap) : Nat → Int
  | 0 => 0
  | k + 1 => seenTo xs k + (10 + ((xs.getD k .z).d.size : Int))
def seen (xs : List Cap) : Int := if capB xs then seenTo xs xs.length else 0
theorem seen_no {xs : List Cap} (h : capB xs = false) : seen xs = 0 := by rw [seen, h]; rfl
theorem seen_yes {xs : List Cap} (h : capB xs = true) : seen xs = seenTo xs xs.length := by rw [seen, h]; rfl
theorem okC_pk {t n : Int} {u : Bool} {c m r l : Int} {d : ByteArray} (h : okC ⟨t, n, u, c, m, r, l, d⟩ = true) : okPk c m r l d = true := by
  simp only [okC, Bool.and_eq_true] at h
  exact h.2.2
theorem okPk_size {c m r l : Int} {d : ByteArray} (h : okPk c m r l d = true) : d.size ≤ 8 := (octB_small h).2
theorem okC_size {x : Cap} (h : okC x = true) : x.d.size ≤ 8 := okPk_size (okC_pk (t := x.t) (n := x.n) (u := x.u) h)
theorem seenTo_bd {xs : List Cap} (h : capB xs = true) : ∀ k, k ≤ xs.length → 0 ≤ seenTo xs k ∧ seenTo xs k ≤ 18 * k
  | 0, _ => by simp [seenTo]
  | k + 1, hk => by
    have h1 := seenTo_bd h k (by omega)
    have h2 := okC_size ((cap_iff h).2 k (by omega)).1
    rw [seenTo]
    omega
theorem spec_BytesSeen (xs : List Cap) (v : Value) (w : World) (h : Rd w 8 v xs.length (xs.flatMap Cap.cs)) (h2 : xs.length ≤ 1048576) (h3 : Cap.chars xs ≤ 1048576) :
    Calls Tryz.prog 37 #[v] w fun e w' => e = .returned (.tuple #[.int .i64 (seen xs), .bool (capB xs)]) ∧ Ext w w' := by
  have Hr := hid h
  obtain ⟨h1, p, cap, rfl, h4⟩ := h
  have hg : Hid (∀ w, Rd w 8 (.slice p xs.length cap) xs.length (xs.flatMap Cap.cs) → Calls Tryz.prog 40 #[.slice p xs.length cap] w fun e w' => e = .returned (.bool (capB xs)) ∧ Ext w w') := fun w h => spec_l25Good xs _ w h h2 h3
  cases e1 : capB xs
  · rw [seen_no e1]
    rw [e1] at hg
    clear e1 h1 h4
    go_enter Tryz.func37, Tryz.ntmps37
    go_wp2_with (go_at_call 40; (refine (hg.out _ (Hr.out.ext (by repeat' (first | exact Ext.refl _ | assumption | refine Ext.alloc ?_ _ | refine Ext.ext ?_ _ | refine Ext.drew ?_ | refine Ext.drewN ?_ _)))).mono ?_); rintro e w1 ⟨rfl, z1, rfl⟩)
    go_ret2
    exact ⟨rfl, (by repeat' (first | exact Ext.refl _ | assumption | refine Ext.alloc ?_ _ | refine Ext.ext ?_ _ | refine Ext.drew ?_ | refine Ext.drewN ?_ _))⟩
  rw [seen_yes e1]
  rw [e1] at hg
  have hle := (cap_iff e1).1
  have hok := hid (fun i hi => ((cap_iff e1).2 i hi).1)
  have hbd := hid (seenTo_bd e1)
  have H4 := hid h4
  clear e1 h1 h4
  go_enter Tryz.func37, Tryz.ntmps37
  go_wp2_with (go_at_call 40; (refine (hg.out _ (Hr.out.ext (by repeat' (first | exact Ext.refl _ | assumption | refine Ext.alloc ?_ _ | refine Ext.ext ?_ _ | refine Ext.drew ?_ | refine Ext.drewN ?_ _)))).mono ?_); rintro e w1 ⟨rfl, z1, rfl⟩)
  go_loopw [5, 4] (fun vi vs wr => ∃ k : Nat, k ≤ xs.length ∧ vi = .int .i64 k ∧ vs = .int .i64 (seenTo xs k) ∧ Ext w wr) (fun vi _ _ => xs.length - (intOf vi).toNat)
  case atStart => exact ⟨0, Nat.zero_le _, rfl, rfl, (by repeat' (first | exact Ext.refl _ | assumption | refine Ext.alloc ?_ _ | refine Ext.ext ?_ _ | refine Ext.drew ?_ | refine Ext.drewN ?_ _))⟩
  case round =>
    obtain ⟨k, hk, rfl, rfl, hx⟩ := hrel
    have Hx := hid hx
    clear hx hg
    obtain ⟨g0, g1⟩ := hbd.out k hk
    by_cases hlt : k < xs.length
    · obtain ⟨b, off, rfl, h6⟩ := H4.out.resolve_left (by omega)
      obtain ⟨c0, c1, c2, c3, c4, c5, c6, c7⟩ := Cap.at xs h6 k hlt
      obtain ⟨-, -, -, -, d4, d5, d6, d7⟩ := Cap.atn xs h6 k hlt
      have o1 := hok.out k hlt
      have hst : Hid (seenTo xs (k + 1) = seenTo xs k + (10 + ((xs.getD k .z).d.size : Int))) := rfl
      clear h6
      generalize xs.getD k .z = x at c0 c1 c2 c3 c4 c5 c6 c7 d4 d5 d6 d7 o1 hst
      obtain ⟨t, n, u, c, m, r, l, d⟩ := x
      dsimp only at c0 c1 c2 c3 c4 c5 c6 c7 d4 d5 d6 d7
      replace c0 := Hx.out.cell c0
      replace c1 := Hx.out.cell c1
      replace c2 := Hx.out.cell c2
      replace c3 := Hx.out.cell c3
      replace c4 := Hx.out.cell c4
      replace c5 := Hx.out.cell c5
      replace c6 := Hx.out.cell c6
      replace c7 := Hx.out.cell c7
      replace d4 := Hx.out.cell d4
      replace d5 := Hx.out.cell d5
      replace d6 := Hx.out.cell d6
      replace d7 := Hx.out.cell d7
      have hpk := okC_pk o1
      have hd8 := okPk_size hpk
      have hol := octL_len c m r l d
      have hoc := hid (fun w => spec_l4Octets c m r l d w hpk)
      have Hol := hid hol
      clear o1 hpk hol
      generalize octL c m r l d = Q at *
      generalize seenTo xs k = S at *
      go_wp2_with (go_at_call 79; (refine (hoc.out _).mono ?_); rintro e w2 ⟨v2, rfl, ho2, hx2⟩; obtain ⟨q2, cp2, rfl⟩ := own_shape ho2; rw [Hol.out]; have Hx2 := hid hx2; clear ho2 hx2)
      go_roundw
      case rel => exact ⟨k + 1, by omega, by go_num, by rw [hst.out], Hx.out.trans ((show Ext wr _ from (by repeat' (first | exact Ext.refl _ | assumption | refine Ext.alloc ?_ _ | refine Ext.ext ?_ _ | refine Ext.drew ?_ | refine Ext.drewN ?_ _))).trans Hx2.out)⟩
      case measure => simp [intOf]; omega
    · obtain rfl : k = xs.length := by omega
      go_wp2
      go_ret2
      exact ⟨rfl, Hx.out⟩
theorem impl_BytesSeen (xs : List Cap) (v : Value) (w : World) (h : Rd w 8 v xs.length (xs.flatMap Cap.cs)) (h2 : xs.length ≤ 1048576) (h3 : Cap.chars xs ≤ 1048576) :
    Calls Tryz.prog 35 #[v] w fun e w' => e = .returned (.tuple #[.int .i64 (seen xs), .bool (capB xs)]) ∧ Ext w w' := by
  have Hr := hid h
  obtain ⟨h1, p, cap, rfl, h4⟩ := h
  have hg : Hid (∀ w, Rd w 8 (.slice p xs.length cap) xs.length (xs.flatMap Cap.cs) → Calls Tryz.prog 15 #[.slice p xs.length cap] w fun e w' => e = .returned (.bool (capB xs)) ∧ Ext w w') := fun w h => impl_IsCapture xs _ w h h2 h3
  cases e1 : capB xs
  · rw [seen_no e1]
    rw [e1] at hg
    clear e1 h1 h4
    go_enter Tryz.func35, Tryz.ntmps35
    go_wp2_with (go_at_call 15; (refine (hg.out _ (Hr.out.ext (by repeat' (first | exact Ext.refl _ | assumption | refine Ext.alloc ?_ _ | refine Ext.ext ?_ _ | refine Ext.drew ?_ | refine Ext.drewN ?_ _)))).mono ?_); rintro e w1 ⟨rfl, z1, rfl⟩)
    go_ret2
    exact ⟨rfl, (by repeat' (first | exact Ext.refl _ | assumption | refine Ext.alloc ?_ _ | refine Ext.ext ?_ _ | refine Ext.drew ?_ | refine Ext.drewN ?_ _))⟩
  rw [seen_yes e1]
  rw [e1] at hg
  have hle := (cap_iff e1).1
  have hok := hid (fun i hi => ((cap_iff e1).2 i hi).1)
  have hbd := hid (seenTo_bd e1)
  have H4 := hid h4
  clear e1 h1 h4
  go_enter Tryz.func35, Tryz.ntmps35
  go_wp2_with (go_at_call 15; (refine (hg.out _ (Hr.out.ext (by repeat' (first | exact Ext.refl _ | assumption | refine Ext.alloc ?_ _ | refine Ext.ext ?_ _ | refine Ext.drew ?_ | refine Ext.drewN ?_ _)))).mono ?_); rintro e w1 ⟨rfl, z1, rfl⟩)
  go_loopw [12, 4] (fun vi vs wr => ∃ k : Nat, k ≤ xs.length ∧ vi = .int .i64 k ∧ vs = .int .i64 (seenTo xs k) ∧ Ext w wr) (fun vi _ _ => xs.length - (intOf vi).toNat)
  case atStart => exact ⟨0, Nat.zero_le _, rfl, rfl, (by repeat' (first | exact Ext.refl _ | assumption | refine Ext.alloc ?_ _ | refine Ext.ext ?_ _ | refine Ext.drew ?_ | refine Ext.drewN ?_ _))⟩
  case round =>
    obtain ⟨k, hk, rfl, rfl, hx⟩ := hrel
    have Hx := hid hx
    clear hx hg
    obtain ⟨g0, g1⟩ := hbd.out k hk
    by_cases hlt : k < xs.length
    · obtain ⟨b, off, rfl, h6⟩ := H4.out.resolve_left (by omega)
      obtain ⟨c0, c1, c2, c3, c4, c5, c6, c7⟩ := Cap.at xs h6 k hlt
      obtain ⟨-, -, -, -, d4, d5, d6, d7⟩ := Cap.atn xs h6 k hlt
      have o1 := hok.out k hlt
      have hst : Hid (seenTo xs (k + 1) = seenTo xs k + (10 + ((xs.getD k .z).d.size : Int))) := rfl
      clear h6
      generalize xs.getD k .z = x at c0 c1 c2 c3 c4 c5 c6 c7 d4 d5 d6 d7 o1 hst
      obtain ⟨t, n, u, c, m, r, l, d⟩ := x
      dsimp only at c0 c1 c2 c3 c4 c5 c6 c7 d4 d5 d6 d7
      replace c0 := Hx.out.cell c0
      replace c1 := Hx.out.cell c1
      replace c2 := Hx.out.cell c2
      replace c3 := Hx.out.cell c3
      replace c4 := Hx.out.cell c4
      replace c5 := Hx.out.cell c5
      replace c6 := Hx.out.cell c6
      replace c7 := Hx.out.cell c7
      replace d4 := Hx.out.cell d4
      replace d5 := Hx.out.cell d5
      replace d6 := Hx.out.cell d6
      replace d7 := Hx.out.cell d7
      have hpk := okC_pk o1
      have hd8 := okPk_size hpk
      have hol := octL_len c m r l d
      have hoc := hid (fun w => impl_octetsOf c m r l d w hpk)
      have Hol := hid hol
      clear o1 hpk hol
      generalize octL c m r l d = Q at *
      generalize seenTo xs k = S at *
      go_wp2_with (go_at_call 78; (refine (hoc.out _).mono ?_); rintro e w2 ⟨v2, rfl, ho2, hx2⟩; obtain ⟨q2, cp2, rfl⟩ := own_shape ho2; rw [Hol.out]; have Hx2 := hid hx2; clear ho2 hx2)
      go_roundw
      case rel => exact ⟨k + 1, by omega, by go_num, by rw [hst.out], Hx.out.trans ((show Ext wr _ from (by repeat' (first | exact Ext.refl _ | assumption | refine Ext.alloc ?_ _ | refine Ext.ext ?_ _ | refine Ext.drew ?_ | refine Ext.drewN ?_ _))).trans Hx2.out)⟩
      case measure => simp [intOf]; omega
    · obtain rfl : k = xs.length := by omega
      go_wp2
      go_ret2
      exact ⟨rfl, Hx.out⟩
end Go.Proofs.YtljknhocfjpolaaGreatDoor
