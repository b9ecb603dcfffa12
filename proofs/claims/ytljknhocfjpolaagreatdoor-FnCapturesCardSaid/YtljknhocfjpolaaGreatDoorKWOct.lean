/- The octets of packets: both sides. -/
import Derived.Test.YtljknhocfjpolaaGreatDoorJ11
import Derived.Laws.Bits64b
namespace Go.Proofs.YtljknhocfjpolaaGreatDoor
open Go.RowKit
set_option maxHeartbeats 400000
set_option maxRecDepth 100000
theorem and255 (x : Int) (h : 0 ≤ x) (h1 : x ≤ 9223372036854775807) : bits .and .i64 x 255 = x % 256 := by
  obtain ⟨a, rfl⟩ := Int.eq_ofNat_of_zero_le h
  have e1 : (BitVec.ofInt 64 (a : Int)).toNat = a := by
    rw [BitVec.ofInt_natCast, BitVec.toNat_ofNat]; exact Nat.mod_eq_of_lt (by omega)
  have e2 : (BitVec.ofInt 64 (255 : Int)).toNat = 255 := by decide
  show IntKind.i64.wrap ((BitVec.ofInt 64 (a : Int) &&& BitVec.ofInt 64 (255 : Int)).toNat : Int) = _
  have e3 : a &&& 255 = a % 256 := Nat.and_two_pow_sub_one_eq_mod a 8
  rw [BitVec.toNat_and, e1, e2, e3]
  exact IntWalk.i64_in _ (by omega)
def octH (c m r l : Int) (d : ByteArray) : List Int := [c, m / 256, m % 256, r / 256, r % 256, l / 256, l % 256, (d.size : Int)]
def bys (d : ByteArray) (k : Nat) : List Int := (d.data.toList.take k).map (fun b => (b.toNat : Int))
def octB (c m r l : Int) (d : ByteArray) (k : Nat) : List Int := octH c m r l d ++ bys d k
def chkTo (L : List Int) : Nat → Int
  | 0 => 0
  | k + 1 => chkTo L k + ((k : Int) + 1) * L.getD k 0
def chk (L : List Int) : Int := chkTo L L.length % 65521
def octL (c m r l : Int) (d : ByteArray) : List Int := octB c m r l d d.size ++ [chk (octB c m r l d d.size) / 256, chk (octB c m r l d d.size) % 256]
theorem bys_len (d : ByteArray) (k : Nat) (h : k ≤ d.size) : (bys d k).length = k := by
  have : d.data.toList.length = d.size := by simp
  rw [bys, List.length_map, List.length_take]
  omega
theorem bys_snoc (d : ByteArray) (k : Nat) (h : k < d.size) : bys d (k + 1) = bys d k ++ [(d[k].toNat : Int)] := by
  have hl : k < d.data.toList.length := by simpa using h
  rw [bys, take_snoc d.data.toList 0 k hl, List.map_append, ← byte_at d k h]
  rfl
theorem octB_len (c m r l : Int) (d : ByteArray) (k : Nat) (h : k ≤ d.size) : (octB c m r l d k).length = 8 + k := by
  rw [octB, List.length_append, bys_len d k h]; rfl
theorem octB_snoc (c m r l : Int) (d : ByteArray) (k : Nat) (h : k < d.size) : octB c m r l d (k + 1) = octB c m r l d k ++ [(d[k].toNat : Int)] := by
  rw [octB, bys_snoc d k h, octB, List.append_assoc]
theorem octL_len (c m r l : Int) (d : ByteArray) : (octL c m r l d).length = 10 + d.size := by
  rw [octL, List.length_append, octB_len _ _ _ _ _ _ (Nat.le_refl _)]
  simp
  omega
def small (L : List Int) : Prop := ∀ i, i < L.length → 0 ≤ L.getD i 0 ∧ L.getD i 0 ≤ 255
theorem small_mem {L : List Int} (h : ∀ x ∈ L, 0 ≤ x ∧ x ≤ 255) : small L := fun i hi => by
  rw [List.getD_eq_getElem?_getD, List.getElem?_eq_getElem hi]
  exact h _ (List.getElem_mem hi)
theorem octB_small {c m r l : Int} {d : ByteArray} (h : okPk c m r l d = true) : small (octB c m r l d d.size) ∧ d.size ≤ 8 := by
  simp only [okPk, Bool.and_eq_true] at h
  obtain ⟨hc, hm, hr, hl, hi, -⟩ := h
  have hc := inB_iff.1 hc
  have hm := srl_bd hm
  have hr := srl_bd hr
  have hl := srl_bd hl
  have hd : d.size ≤ 8 := by
    simp only [itm, Bool.and_eq_true, decide_eq_true_eq] at hi
    exact hi.2
  refine ⟨small_mem fun x hx => ?_, hd⟩
  rw [octB, List.mem_append] at hx
  rcases hx with hx | hx
  · simp only [octH, List.mem_cons, List.not_mem_nil, or_false] at hx
    rcases hx with rfl | rfl | rfl | rfl | rfl | rfl | rfl | rfl <;> omega
  · rw [bys, List.mem_map] at hx
    obtain ⟨b, -, rfl⟩ := hx
    have := b.toNat_lt
    omega
theorem prod_bd {k : Nat} {x : Int} (hk : k < 18) (h0 : 0 ≤ x) (h1 : x ≤ 255) : 0 ≤ ((k : Int) + 1) * x ∧ ((k : Int) + 1) * x ≤ 4590 := by
  obtain ⟨n, rfl⟩ := Int.eq_ofNat_of_zero_le h0
  have h : (k + 1) * n ≤ 18 * 255 := Nat.mul_le_mul (by omega) (by omega)
  have e : ((k : Int) + 1) * (n : Int) = (((k + 1) * n : Nat) : Int) := by simp
  rw [e]
  omega
theorem chkTo_bd {L : List Int} (hs : small L) (h18 : L.length ≤ 18) : ∀ k, k ≤ L.length → 0 ≤ chkTo L k ∧ chkTo L k ≤ 4590 * k
  | 0, _ => by simp [chkTo]
  | k + 1, h => by
    have h1 := chkTo_bd hs h18 k (by omega)
    have h2 := hs k (by omega)
    have h3 := prod_bd (k := k) (by omega) h2.1 h2.2
    rw [chkTo]
    omega
theorem spec_l4Check (L : List Int) (v : Value) (w : World) (h : Rd w 1 v L.length (vInts L)) (hs : small L) (h18 : L.length ≤ 18) :
    Calls Tryz.prog 110 #[v] w fun e w' => e = .returned (.int .i64 (chk L)) ∧ Ext w w' := by
  obtain ⟨h1, p, cap, rfl, h4⟩ := h
  have H4 := hid h4
  have Hs := hid hs
  have hbd := hid (chkTo_bd hs h18)
  clear h1 h4 hs
  go_enter Tryz.func110, Tryz.ntmps110
  go_wp2
  go_loopw [4, 3] (fun vi vs wr => ∃ k : Nat, k ≤ L.length ∧ vi = .int .i64 k ∧ vs = .int .i64 (chkTo L k) ∧ Ext w wr) (fun vi _ _ => L.length - (intOf vi).toNat)
  case atStart => exact ⟨0, Nat.zero_le _, rfl, rfl, Ext.refl _⟩
  case round =>
    obtain ⟨k, hk, rfl, rfl, z, rfl⟩ := hrel
    obtain ⟨g0, g1⟩ := hbd.out k hk
    by_cases hlt : k < L.length
    · obtain ⟨b, off, rfl, h6⟩ := H4.out.resolve_left (by omega)
      have c0 := elem1 (Value.int .i64) 0 L h6 k hlt
      obtain ⟨b0, b1⟩ := Hs.out k hlt
      have hst : Hid (chkTo L (k + 1) = chkTo L k + ((k : Int) + 1) * L.getD k 0) := rfl
      clear h6
      generalize L.getD k 0 = x at c0 b0 b1 hst
      obtain ⟨p0, p1⟩ := prod_bd (k := k) (by omega) b0 b1
      have hcm : ((k : Int) + 1) * x = x * ((k : Int) + 1) := Int.mul_comm _ _
      have Hcm := hid hcm
      have w1 : IntKind.i64.wrap (((k : Int) + 1) * x) = ((k : Int) + 1) * x := IntWalk.i64_in _ (by omega)
      clear hcm
      generalize chkTo L k = S at *
      go_wp2
      go_roundw
      case rel => exact ⟨k + 1, by omega, by go_num, by first | (rw [hst.out]; done) | (rw [hst.out, Hcm.out]), (by repeat' (first | exact Ext.refl _ | assumption | refine Ext.alloc ?_ _ | refine Ext.ext ?_ _ | refine Ext.drew ?_ | refine Ext.drewN ?_ _))⟩
      case measure => simp [intOf]; omega
    · obtain rfl : k = L.length := by omega
      have hc : Hid (chk L = chkTo L L.length % 65521) := rfl
      generalize chkTo L L.length = S at *
      go_wp2
      go_ret
      exact ⟨by rw [hc.out]; rfl, (by repeat' (first | exact Ext.refl _ | assumption | refine Ext.alloc ?_ _ | refine Ext.ext ?_ _ | refine Ext.drew ?_ | refine Ext.drewN ?_ _))⟩
theorem impl_octetCheck (L : List Int) (v : Value) (w : World) (h : Rd w 1 v L.length (vInts L)) (hs : small L) (h18 : L.length ≤ 18) :
    Calls Tryz.prog 109 #[v] w fun e w' => e = .returned (.int .i64 (chk L)) ∧ Ext w w' := by
  obtain ⟨h1, p, cap, rfl, h4⟩ := h
  have H4 := hid h4
  have Hs := hid hs
  have hbd := hid (chkTo_bd hs h18)
  clear h1 h4 hs
  go_enter Tryz.func109, Tryz.ntmps109
  go_wp2
  go_loopw [8, 3] (fun vi vs wr => ∃ k : Nat, k ≤ L.length ∧ vi = .int .i64 k ∧ vs = .int .i64 (chkTo L k) ∧ Ext w wr) (fun vi _ _ => L.length - (intOf vi).toNat)
  case atStart => exact ⟨0, Nat.zero_le _, rfl, rfl, Ext.refl _⟩
  case round =>
    obtain ⟨k, hk, rfl, rfl, z, rfl⟩ := hrel
    obtain ⟨g0, g1⟩ := hbd.out k hk
    by_cases hlt : k < L.length
    · obtain ⟨b, off, rfl, h6⟩ := H4.out.resolve_left (by omega)
      have c0 := elem1 (Value.int .i64) 0 L h6 k hlt
      obtain ⟨b0, b1⟩ := Hs.out k hlt
      have hst : Hid (chkTo L (k + 1) = chkTo L k + ((k : Int) + 1) * L.getD k 0) := rfl
      clear h6
      generalize L.getD k 0 = x at c0 b0 b1 hst
      obtain ⟨p0, p1⟩ := prod_bd (k := k) (by omega) b0 b1
      have hcm : ((k : Int) + 1) * x = x * ((k : Int) + 1) := Int.mul_comm _ _
      have Hcm := hid hcm
      rw [hcm] at p0 p1; have w1 : IntKind.i64.wrap (x * ((k : Int) + 1)) = x * ((k : Int) + 1) := IntWalk.i64_in _ (by omega)
      clear hcm
      generalize chkTo L k = S at *
      go_wp2
      go_roundw
      case rel => exact ⟨k + 1, by omega, by go_num, by first | (rw [hst.out]; done) | (rw [hst.out, Hcm.out]), (by repeat' (first | exact Ext.refl _ | assumption | refine Ext.alloc ?_ _ | refine Ext.ext ?_ _ | refine Ext.drew ?_ | refine Ext.drewN ?_ _))⟩
      case measure => simp [intOf]; omega
    · obtain rfl : k = L.length := by omega
      have hc : Hid (chk L = chkTo L L.length % 65521) := rfl
      generalize chkTo L L.length = S at *
      go_wp2
      go_ret
      exact ⟨by rw [hc.out]; rfl, (by repeat' (first | exact Ext.refl _ | assumption | refine Ext.alloc ?_ _ | refine Ext.ext ?_ _ | refine Ext.drew ?_ | refine Ext.drewN ?_ _))⟩
end Go.Proofs.YtljknhocfjpolaaGreatDoor
