/- Packets as digits: the reference's side. Packets as digits: the program's side. -/
import Derived.Test.YtljknhocfjpolaaGreatDoorKWOct2
import Derived.Deep.AppendLies
namespace Go.Proofs.YtljknhocfjpolaaGreatDoor
open Go.RowKit
set_option maxHeartbeats 1000000
set_option maxRecDepth 100000
def hxb (n : Nat) : UInt8 := if n < 10 then UInt8.ofNat (48 + n) else UInt8.ofNat (55 + n)
def HEX : ByteArray := ⟨#[48, 49, 50, 51, 52, 53, 54, 55, 56, 57, 65, 66, 67, 68, 69, 70]⟩
theorem hex_all : ((List.range 16).all fun n => (HEX.extract n (n + 1)).data.toList == [hxb n]) = true := by decide +kernel
theorem hex_at (n : Nat) (h : n < 16) : HEX.extract n (n + 1) = ⟨#[hxb n]⟩ := by
  have h1 := (List.all_eq_true.1 hex_all) n (List.mem_range.2 h)
  have h2 : (HEX.extract n (n + 1)).data.toList = [hxb n] := by simpa using h1
  apply ByteArray.ext
  apply Array.ext'
  rw [h2]
theorem hex_slice (n : Nat) (h : n < 16) (w : World) : (Instr.slice 9 (.string ⟨#[48, 49, 50, 51, 52, 53, 54, 55, 56, 57, 65, 66, 67, 68, 69, 70]⟩) (some (.int .i64 (n : Int))) (some (.int .i64 ((n : Int) + 1))) none).run Tryz.prog w = .ok (.string ⟨#[hxb n]⟩) w := by
  have := run_slice_string (P := Tryz.prog) w 9 HEX .i64 .i64 (n : Int) ((n : Int) + 1) Tryz.underlying9 (by omega) (by omega) (by show (n : Int) + 1 ≤ 16; omega)
  rw [show HEX = (⟨#[48, 49, 50, 51, 52, 53, 54, 55, 56, 57, 65, 66, 67, 68, 69, 70]⟩ : ByteArray) from rfl] at this
  rw [this]
  have e := hex_at n h
  rw [show HEX = (⟨#[48, 49, 50, 51, 52, 53, 54, 55, 56, 57, 65, 66, 67, 68, 69, 70]⟩ : ByteArray) from rfl] at e
  rw [show ((n : Int) + 1).toNat = n + 1 by omega, show ((n : Int)).toNat = n by omega, e]
def hexTo (L : List Int) : Nat → ByteArray
  | 0 => ⟨#[]⟩
  | k + 1 => hexTo L k ++ ⟨#[hxb ((L.getD k 0).toNat / 16)]⟩ ++ ⟨#[hxb ((L.getD k 0).toNat % 16)]⟩
def hexT (L : List Int) : ByteArray := hexTo L L.length
theorem hexTo_size (L : List Int) : ∀ k, (hexTo L k).size = 2 * k
  | 0 => rfl
  | k + 1 => by
    rw [hexTo, ByteArray.size_append, ByteArray.size_append, hexTo_size L k]
    show 2 * k + 1 + 1 = _
    omega
theorem octL_small {c m r l : Int} {d : ByteArray} (h : okPk c m r l d = true) : small (octL c m r l d) := by
  obtain ⟨hs, h8⟩ := octB_small h
  have h18 : (octB c m r l d d.size).length ≤ 18 := by rw [octB_len _ _ _ _ _ _ (Nat.le_refl _)]; omega
  have hk := chk_bd hs h18
  refine small_mem fun x hx => ?_
  rw [octL, List.mem_append] at hx
  rcases hx with hx | hx
  · obtain ⟨i, hi, rfl⟩ := List.mem_iff_getElem.1 hx
    have := hs i hi
    rwa [List.getD_eq_getElem?_getD, List.getElem?_eq_getElem hi] at this
  · simp only [List.mem_cons, List.not_mem_nil, or_false] at hx
    rcases hx with rfl | rfl <;> omega
theorem spec_l4Encode (c m r l : Int) (d : ByteArray) (w : World) (h : okPk c m r l d = true) :
    Calls Tryz.prog 114 #[.agg #[.int .i64 c, .int .i64 m, .int .i64 r, .int .i64 l, .string d]] w fun e w' => e = .returned (.string (hexT (octL c m r l d))) ∧ Ext w w' := by
  have hoc := hid (fun w => spec_l4Octets c m r l d w h)
  have hsm := hid (octL_small h)
  have hln := octL_len c m r l d
  have h8 := (octB_small h).2
  have hT : Hid (hexT (octL c m r l d) = hexTo (octL c m r l d) (octL c m r l d).length) := rfl
  clear h
  generalize octL c m r l d = Q at *
  have hq : Q.length ≤ 18 := by omega
  clear hln h8
  go_enter Tryz.func114, Tryz.ntmps114
  go_wp2_with (go_at_call 79; (refine (hoc.out _).mono ?_); rintro e w1 ⟨v, rfl, ho, hx⟩)
  have Hx := hid ((show Ext w _ from (by repeat' (first | exact Ext.refl _ | assumption | refine Ext.alloc ?_ _ | refine Ext.ext ?_ _ | refine Ext.drew ?_ | refine Ext.drewN ?_ _))).trans hx)
  obtain ⟨q, cp, rfl⟩ := own_shape ho
  have Ho := hid ho
  clear ho hx hoc
  go_loopw [5, 3] (fun v5 v3 wr => ∃ k : Nat, k ≤ Q.length ∧ v5 = .int .i64 k ∧ v3 = .string (hexTo Q k) ∧ Ext w1 wr) (fun v5 _ _ => Q.length - (intOf v5).toNat)
  case atStart => exact ⟨0, Nat.zero_le _, rfl, rfl, (by repeat' (first | exact Ext.refl _ | assumption | refine Ext.alloc ?_ _ | refine Ext.ext ?_ _ | refine Ext.drew ?_ | refine Ext.drewN ?_ _))⟩
  case round =>
    obtain ⟨k, hk, rfl, rfl, hx⟩ := hrel
    have Hx2 := hid hx
    clear hx
    have hsz := hexTo_size Q k
    by_cases hlt : k < Q.length
    · obtain ⟨-, p', c', e, h4⟩ := Rd.own Ho.out
      cases e
      obtain ⟨b, off, rfl, h6⟩ := h4.resolve_left (by omega)
      have c0 := Hx2.out.cell (elem1 (Value.int .i64) 0 Q h6 k hlt)
      obtain ⟨x0, x1⟩ := hsm.out k hlt
      have hst : Hid (hexTo Q (k + 1) = hexTo Q k ++ ⟨#[hxb ((Q.getD k 0).toNat / 16)]⟩ ++ ⟨#[hxb ((Q.getD k 0).toNat % 16)]⟩) := rfl
      clear h6 h4
      generalize Q.getD k 0 = x at c0 x0 x1 hst
      obtain ⟨n, rfl⟩ := Int.eq_ofNat_of_zero_le x0
      rw [Int.toNat_natCast] at hst
      have s1 := hex_slice (n / 16) (by omega)
      have s2 := hex_slice (n % 16) (by omega)
      simp only [Int.natCast_ediv, Int.natCast_emod, Int.cast_ofNat_Int] at s1 s2
      have w2 : IntKind.i64.wrap ((n : Int) / 16 + 1) = (n : Int) / 16 + 1 := IntWalk.i64_in _ (by omega)
      have w3 : IntKind.i64.wrap ((n : Int) % 16 + 1) = (n : Int) % 16 + 1 := IntWalk.i64_in _ (by omega)
      have z1 : (⟨#[hxb (n / 16)]⟩ : ByteArray).size = 1 := rfl
      have z2 : (⟨#[hxb (n % 16)]⟩ : ByteArray).size = 1 := rfl
      generalize hexTo Q k = H at *
      generalize hxb (n / 16) = h1 at *
      generalize hxb (n % 16) = h2 at *
      repeat (first | (go_wp2_with (fail); refine wp_region_ext (by kernel_rfl) (by kernel_rfl) ?_; (repeat (go_big_quiet_step (fail))); refine wpQuiet_nil ?_; rintro _ ⟨zq, rfl⟩))
      go_wp2_with (fail)
      go_roundw
      case rel => exact ⟨k + 1, by omega, by go_num, by rw [hst.out], Hx2.out.trans (by repeat' (first | exact Ext.refl _ | assumption | refine Ext.alloc ?_ _ | refine Ext.ext ?_ _ | refine Ext.drew ?_ | refine Ext.drewN ?_ _))⟩
      case measure => simp [intOf]; omega
    · obtain rfl : k = Q.length := by omega
      go_wp2
      go_ret
      exact ⟨by rw [hT.out]; rfl, Hx.out.trans (Hx2.out.trans (by repeat' (first | exact Ext.refl _ | assumption | refine Ext.alloc ?_ _ | refine Ext.ext ?_ _ | refine Ext.drew ?_ | refine Ext.drewN ?_ _)))⟩
end Go.Proofs.YtljknhocfjpolaaGreatDoor
namespace Go.Proofs.YtljknhocfjpolaaGreatDoor
open Go.RowKit
set_option maxHeartbeats 1000000
set_option maxRecDepth 100000
theorem and15 (x : Int) (h : 0 ≤ x) (h1 : x ≤ 9223372036854775807) : bits .and .i64 x 15 = x % 16 := by
  obtain ⟨a, rfl⟩ := Int.eq_ofNat_of_zero_le h
  have e1 : (BitVec.ofInt 64 (a : Int)).toNat = a := by
    rw [BitVec.ofInt_natCast, BitVec.toNat_ofNat]; exact Nat.mod_eq_of_lt (by omega)
  have e2 : (BitVec.ofInt 64 (15 : Int)).toNat = 15 := by decide
  show IntKind.i64.wrap ((BitVec.ofInt 64 (a : Int) &&& BitVec.ofInt 64 (15 : Int)).toNat : Int) = _
  have e3 : a &&& 15 = a % 16 := Nat.and_two_pow_sub_one_eq_mod a 4
  rw [BitVec.toNat_and, e1, e2, e3]
  exact IntWalk.i64_in _ (by omega)
theorem hex_byte_all : ((List.range 16).all fun n => HEX.data.toList.getD n 0 == hxb n) = true := by decide +kernel
theorem hex_index (n : Nat) (h : n < 16) (w : World) : (Instr.index 9 (.string ⟨#[48, 49, 50, 51, 52, 53, 54, 55, 56, 57, 65, 66, 67, 68, 69, 70]⟩) (.int .i64 (n : Int))).run Tryz.prog w = .ok (.int .u8 ((hxb n).toNat : Int)) w := by
  have h1 := (List.all_eq_true.1 hex_byte_all) n (List.mem_range.2 h)
  have h2 : HEX.data.toList.getD n 0 = hxb n := by simpa using h1
  have h3 : HEX.size = 16 := rfl
  have h4 : ((HEX[((n : Int)).toNat]'(by rw [Int.toNat_natCast]; omega)).toNat : Int) = ((hxb n).toNat : Int) := by
    rw [← h2, List.getD_eq_getElem?_getD, List.getElem?_eq_getElem (by show n < HEX.size; omega)]
    rfl
  have h5 := run_index_string (P := Tryz.prog) w 9 HEX .i64 (n : Int) Tryz.underlying9
  rw [dif_pos ⟨by omega, by omega⟩, h4] at h5
  exact h5
theorem impl_EncodePacket (c m r l : Int) (d : ByteArray) (w : World) (h : okPk c m r l d = true) :
    Calls Tryz.prog 90 #[.agg #[.int .i64 c, .int .i64 m, .int .i64 r, .int .i64 l, .string d]] w fun e w' => e = .returned (.tuple #[.string (hexT (octL c m r l d)), .bool true]) ∧ Ext w w' := by
  have hoc := hid (fun w => impl_octetsOf c m r l d w h)
  have h8 := (octB_small h).2
  have hv : Hid (∀ w, Calls Tryz.prog 54 #[.agg #[.int .i64 c, .int .i64 m, .int .i64 r, .int .i64 l, .string d]] w fun e w' => e = .returned (.bool true) ∧ Ext w w') := fun w => by rw [← h]; exact impl_IsValidPacket c m r l d w (by omega)
  have hsm := hid (octL_small h)
  have hln := octL_len c m r l d
  have hT : Hid (hexT (octL c m r l d) = hexTo (octL c m r l d) (octL c m r l d).length) := rfl
  clear h
  generalize octL c m r l d = Q at *
  have hq : Q.length ≤ 18 := by omega
  obtain ⟨i0, hi, hz0, hz1, hz2⟩ := info_parts infoU8
  clear hln h8
  go_enter Tryz.func90, Tryz.ntmps90
  go_wp2_with (first
    | (go_at_call 54; refine (hv.out _).mono ?_; rintro e w' ⟨rfl, z1, rfl⟩)
    | (go_at_call 78; (refine (hoc.out _).mono ?_); rintro e w1 ⟨v, rfl, ho, hx⟩; obtain ⟨q, cp, rfl⟩ := own_shape ho))
  have Hx := hid ((show Ext w _ from (by repeat' (first | exact Ext.refl _ | assumption | refine Ext.alloc ?_ _ | refine Ext.ext ?_ _ | refine Ext.drew ?_ | refine Ext.drewN ?_ _))).trans hx)
  have Ho := hid ho
  clear ho hx hoc hv
  go_loopw [13, 4] (fun v13 v4 wr => ∃ k : Nat, k ≤ Q.length ∧ v13 = .int .i64 k ∧ wr.ownsRow w1.heap.size 5 1 v4 (2 * k) (vBytes (hexTo Q k).data.toList) ∧ Ext w1 wr) (fun v13 _ _ => Q.length - (intOf v13).toNat)
  case atStart => exact ⟨0, Nat.zero_le _, rfl, World.ownsRow_nil _ _ _ _, (by repeat' (first | exact Ext.refl _ | assumption | refine Ext.alloc ?_ _ | refine Ext.ext ?_ _ | refine Ext.drew ?_ | refine Ext.drewN ?_ _))⟩
  case round =>
    obtain ⟨k, hk, rfl, hown, hx⟩ := hrel
    have Hx2 := hid hx
    have Hown := hid hown
    clear hx hown
    by_cases hlt : k < Q.length
    · obtain ⟨-, p', c', e, h4⟩ := Rd.own Ho.out
      cases e
      obtain ⟨b, off, rfl, h6⟩ := h4.resolve_left (by omega)
      have c0 := Hx2.out.cell (elem1 (Value.int .i64) 0 Q h6 k hlt)
      obtain ⟨x0, x1⟩ := hsm.out k hlt
      have hst : hexTo Q (k + 1) = hexTo Q k ++ ⟨#[hxb ((Q.getD k 0).toNat / 16)]⟩ ++ ⟨#[hxb ((Q.getD k 0).toNat % 16)]⟩ := rfl
      clear h6 h4
      generalize Q.getD k 0 = x at c0 x0 x1 hst
      obtain ⟨n, rfl⟩ := Int.eq_ofNat_of_zero_le x0
      rw [Int.toNat_natCast] at hst
      have s1 := hex_index (n / 16) (by omega)
      have s2 := hex_index (n % 16) (by omega)
      simp only [Int.natCast_ediv, Int.natCast_emod, Int.cast_ofNat_Int] at s1 s2
      have hand := and15 (n : Int) x0 (by omega)
      have hvb : vBytes (hexTo Q (k + 1)).data.toList = vBytes (hexTo Q k).data.toList ++ [.int .u8 ((hxb (n / 16)).toNat : Int), .int .u8 ((hxb (n % 16)).toNat : Int)] := by
        rw [hst]
        simp [vBytes]
      have Hvb := hid hvb
      clear hst hvb
      generalize hxb (n / 16) = h1 at *
      generalize hxb (n % 16) = h2 at *
      generalize vBytes (hexTo Q k).data.toList = V at *
      go_wp2
      have XA : Ext wr (wr.alloc (.cells #[.int .u8 (h1.toNat : Int), .int .u8 (h2.toNat : Int)] 5)).drew := ((Ext.refl wr).alloc _).drew
      go_region_held3 (fun _ => True) (trivial)
        ((refine step_append_lies _ (by rfl) _ _ _ (by rfl) w1.heap.size 5 i0 _ 1 1 Tryz.underlying28 hi hz0 hz1 hz2 rfl (by omega) _ (2 * k) V (by rfl) ((Hown.out.alloc _).drew) ⟨wr.heap.size, 0, none⟩ 2 2 [.int .u8 (h1.toNat : Int), .int .u8 (h2.toNat : Int)] (by rfl) (by rfl) (World.news_of_block (cs := #[.int .u8 (h1.toNat : Int), .int .u8 (h2.toNat : Int)]) (t := 5) (fr := (0, 0)) (heap_alloc_new wr _)) (by simp [Value.oneCell']) (by omega) (by unfold maxLen; omega) (by omega) (by have := Hx2.out.size; simp; omega) (wr.heap.size + 1) (by simp) ?_; intro gg cap5 w5 hown' hgrow hat hlt5))
      all_goals
        have hx5 := Ext.grown (Hx2.out.trans XA) hgrow (fun j hj => (Hown.out.lt j hj).1)
        have K5 := hid (And.intro hown' hx5)
        clear hown' hx5 hgrow hat hlt5 XA
        go_wp2
        go_roundw
        case rel => exact ⟨k + 1, by omega, by go_num, by rw [Hvb.out]; exact K5.out.1, K5.out.2⟩
        case measure => simp [intOf]; omega
    · obtain rfl : k = Q.length := by omega
      have hcv := conv_rd (P := Tryz.prog) Tryz.underlying28 Tryz.underlying5 Tryz.underlying9 (Rd.own Hown.out)
      go_wp2
      go_ret2
      exact ⟨by rw [hT.out]; rfl, Hx.out.trans (Hx2.out.trans (by repeat' (first | exact Ext.refl _ | assumption | refine Ext.alloc ?_ _ | refine Ext.ext ?_ _ | refine Ext.drew ?_ | refine Ext.drewN ?_ _)))⟩
end Go.Proofs.YtljknhocfjpolaaGreatDoor
