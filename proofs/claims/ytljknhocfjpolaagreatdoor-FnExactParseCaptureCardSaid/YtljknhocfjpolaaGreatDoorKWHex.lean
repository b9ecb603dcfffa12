/- Packets as digits: the reference's side. -/
import Derived.Test.YtljknhocfjpolaaGreatDoorKWOct2
namespace Go.Proofs.YtljknhocfjpolaaGreatDoor
open Go.RowKit
set_option maxHeartbeats 1000000
set_option maxRecDepth 100000
def hxb (n : Nat) : UInt8 := if n < 10 then UInt8.ofNat (48 + n) else UInt8.ofNat (55 + n)
def HEX : ByteArray := ⟨#[48, 49, 50, 51, 52, 53, 54, 55, 56, 57, 65, 66, 67, 68, 69, 70]⟩
theorem hex_all : ((List.range 16).all fun n => (HEX.extract n (n + 1)).data.toList == [hxb n]) = true := by decide +kernel
theorem hex_at (n : Nat) (h : n < 16) : HEX.extract n (n + 1) = ⟨#[hxb n]⟩ := by
  have h1 := (List.all_eq_true.1 hex_all) n (List.mem_range.2 h)
  have h2 : (HEX.extract n (n + 1)).data.toList = [hxb n] := by simpa using h1
  apply ByteArray.ext
  apply Array.ext'
  rw [h2]
theorem hex_slice (n : Nat) (h : n < 16) (w : World) : (Instr.slice 9 (.string ⟨#[48, 49, 50, 51, 52, 53, 54, 55, 56, 57, 65, 66, 67, 68, 69, 70]⟩) (some (.int .i64 (n : Int))) (some (.int .i64 ((n : Int) + 1))) none).run Tryz.prog w = .ok (.string ⟨#[hxb n]⟩) w := by
  have := run_slice_string (P := Tryz.prog) w 9 HEX .i64 .i64 (n : Int) ((n : Int) + 1) Tryz.underlying9 (by omega) (by omega) (by show (n : Int) + 1 ≤ 16; omega)
  rw [show HEX = (⟨#[48, 49, 50, 51, 52, 53, 54, 55, 56, 57, 65, 66, 67, 68, 69, 70]⟩ : ByteArray) from rfl] at this
  rw [this]
  have e := hex_at n h
  rw [show HEX = (⟨#[48, 49, 50, 51, 52, 53, 54, 55, 56, 57, 65, 66, 67, 68, 69, 70]⟩ : ByteArray) from rfl] at e
  rw [show ((n : Int) + 1).toNat = n + 1 by omega, show ((n : Int)).toNat = n by omega, e]
def hexTo (L : List Int) : Nat → ByteArray
  | 0 => ⟨#[]⟩
  | k + 1 => hexTo L k ++ ⟨#[hxb ((L.getD k 0).toNat / 16)]⟩ ++ ⟨#[hxb ((L.getD k 0).toNat % 16)]⟩
def hexT (L : List Int) : ByteArray := hexTo L L.length
theorem hexTo_size (L : List Int) : ∀ k, (hexTo L k).size = 2 * k
  | 0 => rfl
  | k + 1 => by
    rw [hexTo, ByteArray.size_append, ByteArray.size_append, hexTo_size L k]
    show 2 * k + 1 + 1 = _
    omega
theorem octL_small {c m r l : Int} {d : ByteArray} (h : okPk c m r l d = true) : small (octL c m r l d) := by
  obtain ⟨hs, h8⟩ := octB_small h
  have h18 : (octB c m r l d d.size).length ≤ 18 := by rw [octB_len _ _ _ _ _ _ (Nat.le_refl _)]; omega
  have hk := chk_bd hs h18
  refine small_mem fun x hx => ?_
  rw [octL, List.mem_append] at hx
  rcases hx with hx | hx
  · obtain ⟨i, hi, rfl⟩ := List.mem_iff_getElem.1 hx
    have := hs i hi
    rwa [List.getD_eq_getElem?_getD, List.getElem?_eq_getElem hi] at this
  · simp only [List.mem_cons, List.not_mem_nil, or_false] at hx
    rcases hx with rfl | rfl <;> omega
theorem spec_l4Encode (c m r l : Int) (d : ByteArray) (w : World) (h : okPk c m r l d = true) :
    Calls Tryz.prog 114 #[.agg #[.int .i64 c, .int .i64 m, .int .i64 r, .int .i64 l, .string d]] w fun e w' => e = .returned (.string (hexT (octL c m r l d))) ∧ Ext w w' := by
  have hoc := hid (fun w => spec_l4Octets c m r l d w h)
  have hsm := hid (octL_small h)
  have hln := octL_len c m r l d
  have h8 := (octB_small h).2
  have hT : Hid (hexT (octL c m r l d) = hexTo (octL c m r l d) (octL c m r l d).length) := rfl
  clear h
  generalize octL c m r l d = Q at *
  have hq : Q.length ≤ 18 := by omega
  clear hln h8
  go_enter Tryz.func114, Tryz.ntmps114
  go_wp2_with (go_at_call 79; (refine (hoc.out _).mono ?_); rintro e w1 ⟨v, rfl, ho, hx⟩)
  have Hx := hid ((show Ext w _ from (by repeat' (first | exact Ext.refl _ | assumption | refine Ext.alloc ?_ _ | refine Ext.ext ?_ _ | refine Ext.drew ?_ | refine Ext.drewN ?_ _))).trans hx)
  obtain ⟨q, cp, rfl⟩ := own_shape ho
  have Ho := hid ho
  clear ho hx hoc
  go_loopw [5, 3] (fun v5 v3 wr => ∃ k : Nat, k ≤ Q.length ∧ v5 = .int .i64 k ∧ v3 = .string (hexTo Q k) ∧ Ext w1 wr) (fun v5 _ _ => Q.length - (intOf v5).toNat)
  case atStart => exact ⟨0, Nat.zero_le _, rfl, rfl, (by repeat' (first | exact Ext.refl _ | assumption | refine Ext.alloc ?_ _ | refine Ext.ext ?_ _ | refine Ext.drew ?_ | refine Ext.drewN ?_ _))⟩
  case round =>
    obtain ⟨k, hk, rfl, rfl, hx⟩ := hrel
    have Hx2 := hid hx
    clear hx
    have hsz := hexTo_size Q k
    by_cases hlt : k < Q.length
    · obtain ⟨-, p', c', e, h4⟩ := Rd.own Ho.out
      cases e
      obtain ⟨b, off, rfl, h6⟩ := h4.resolve_left (by omega)
      have c0 := Hx2.out.cell (elem1 (Value.int .i64) 0 Q h6 k hlt)
      obtain ⟨x0, x1⟩ := hsm.out k hlt
      have hst : Hid (hexTo Q (k + 1) = hexTo Q k ++ ⟨#[hxb ((Q.getD k 0).toNat / 16)]⟩ ++ ⟨#[hxb ((Q.getD k 0).toNat % 16)]⟩) := rfl
      clear h6 h4
      generalize Q.getD k 0 = x at c0 x0 x1 hst
      obtain ⟨n, rfl⟩ := Int.eq_ofNat_of_zero_le x0
      rw [Int.toNat_natCast] at hst
      have s1 := hex_slice (n / 16) (by omega)
      have s2 := hex_slice (n % 16) (by omega)
      simp only [Int.natCast_ediv, Int.natCast_emod, Int.cast_ofNat_Int] at s1 s2
      have w2 : IntKind.i64.wrap ((n : Int) / 16 + 1) = (n : Int) / 16 + 1 := IntWalk.i64_in _ (by omega)
      have w3 : IntKind.i64.wrap ((n : Int) % 16 + 1) = (n : Int) % 16 + 1 := IntWalk.i64_in _ (by omega)
      have z1 : (⟨#[hxb (n / 16)]⟩ : ByteArray).size = 1 := rfl
      have z2 : (⟨#[hxb (n % 16)]⟩ : ByteArray).size = 1 := rfl
      generalize hexTo Q k = H at *
      generalize hxb (n / 16) = h1 at *
      generalize hxb (n % 16) = h2 at *
      repeat (first | (go_wp2_with (fail); refine wp_region_ext (by kernel_rfl) (by kernel_rfl) ?_; (repeat (go_big_quiet_step (fail))); refine wpQuiet_nil ?_; rintro _ ⟨zq, rfl⟩))
      go_wp2_with (fail)
      go_roundw
      case rel => exact ⟨k + 1, by omega, by go_num, by rw [hst.out], Hx2.out.trans (by repeat' (first | exact Ext.refl _ | assumption | refine Ext.alloc ?_ _ | refine Ext.ext ?_ _ | refine Ext.drew ?_ | refine Ext.drewN ?_ _))⟩
      case measure => simp [intOf]; omega
    · obtain rfl : k = Q.length := by omega
      go_wp2
      go_ret
      exact ⟨by rw [hT.out]; rfl, Hx.out.trans (Hx2.out.trans (by repeat' (first | exact Ext.refl _ | assumption | refine Ext.alloc ?_ _ | refine Ext.ext ?_ _ | refine Ext.drew ?_ | refine Ext.drewN ?_ _)))⟩
end Go.Proofs.YtljknhocfjpolaaGreatDoor
