/- A digit's value: the reference's walk. Readings where a row turns. -/
import Derived.Test.YtljknhocfjpolaaGreatDoorJ24
import Derived.Test.YtljknhocfjpolaaGreatDoorKWHex2
import Derived.Test.YtljknhocfjpolaaGreatDoorJ3
namespace Go.Proofs.YtljknhocfjpolaaGreatDoor
open Go.RowKit
set_option maxHeartbeats 1000000
set_option maxRecDepth 100000
theorem hexV_none {b : UInt8} (h : ∀ i, i < 16 → ¬ hxb i = b) : hexV b = -1 := by
  have h1 := (hexV_bd b).1
  by_cases h2 : hexV b = -1
  · exact h2
  · obtain ⟨o, ho⟩ : ∃ o : Nat, Lib.indexByte HEX.data.toList b = o := ⟨(hexV b).toNat, by have : hexV b = Lib.indexByte HEX.data.toList b := rfl; omega⟩
    have h3 := (Lib.indexByte_some ho).1
    have h4 : o < 16 := (List.getElem?_eq_some_iff.1 h3).1
    have h5 := (List.all_eq_true.1 hex_byte_all) o (List.mem_range.2 h4)
    have h6 : HEX.data.toList.getD o 0 = hxb o := by simpa using h5
    rw [List.getD_eq_getElem?_getD, h3] at h6
    exact absurd h6.symm (h o h4)
theorem spec_l4Digit (b : UInt8) (w : World) : Calls Tryz.prog 112 #[.int .u8 (b.toNat : Int)] w fun e w' => e = .returned (.int .i64 (hexV b)) ∧ Ext w w' := by
  go_enter Tryz.func112, Tryz.ntmps112
  go_wp2
  go_loopw [3] (fun v2 wr => ∃ k : Nat, k ≤ 16 ∧ v2 = .int .i64 k ∧ Hid (∀ i, i < k → ¬ hxb i = b) ∧ Ext w wr) (fun v2 _ => 16 - (intOf v2).toNat)
  case atStart => exact ⟨0, Nat.zero_le _, rfl, fun i hi => absurd hi (Nat.not_lt_zero _), (by repeat' (first | exact Ext.refl _ | assumption | refine Ext.alloc ?_ _ | refine Ext.ext ?_ _ | refine Ext.drew ?_ | refine Ext.drewN ?_ _))⟩
  case round =>
    obtain ⟨k, hk, rfl, Hall, hx⟩ := hrel
    have HX := hid hx
    clear hx
    by_cases hlt : k < 16
    · have hix := hex_index k hlt
      by_cases he : hxb k = b
      · have tb := byte_test he
        have hv : hexV b = k := by rw [← he, hexV_hxb hlt]
        have Hv := hid hv
        clear he hv
        go_wp2
        go_ret
        exact ⟨by rw [Hv.out]; rfl, HX.out.trans (by repeat' (first | exact Ext.refl _ | assumption | refine Ext.alloc ?_ _ | refine Ext.ext ?_ _ | refine Ext.drew ?_ | refine Ext.drewN ?_ _))⟩
      · have tb := byte_test_no he
        have Hn := hid he
        clear he
        go_wp2
        go_roundw
        case rel => exact ⟨k + 1, by omega, by go_num, upTo_succ Hall.out Hn.out, HX.out.trans (by repeat' (first | exact Ext.refl _ | assumption | refine Ext.alloc ?_ _ | refine Ext.ext ?_ _ | refine Ext.drew ?_ | refine Ext.drewN ?_ _))⟩
        case measure => simp [intOf]; omega
    · obtain rfl : k = 16 := by omega
      have hv := hexV_none Hall.out
      have Hv := hid hv
      clear hv
      go_wp2
      go_ret
      exact ⟨by rw [Hv.out]; rfl, HX.out.trans (by repeat' (first | exact Ext.refl _ | assumption | refine Ext.alloc ?_ _ | refine Ext.ext ?_ _ | refine Ext.drew ?_ | refine Ext.drewN ?_ _))⟩
end Go.Proofs.YtljknhocfjpolaaGreatDoor
namespace Go.Proofs.YtljknhocfjpolaaGreatDoor
open Go.RowKit
theorem rd_lt {w : World} {k n b o m c : Nat} {u : Value} {cs : List Value} (h : Rd w k u n cs) (hk : 0 < k) (e : u = .slice (some ⟨b, o, none⟩) m c) (hm : 0 < m) : b < w.heap.size := by
  obtain ⟨h1, p, cap, e2, h4⟩ := h
  rw [e] at e2
  cases e2
  obtain ⟨b', o', e3, h6⟩ := h4.resolve_left (by omega)
  cases e3
  have := World.block_lt_of_cell? _ _ (h6 0 (by rw [h1]; exact Nat.mul_pos hm hk))
  exact this
theorem rd_turn {w w' : World} {k n : Nat} {u : Value} {cs : List Value} {row : Option Nat} (h : Rd w k u n cs) (hg : w.grownBy w' row) (hs : ∀ b o m c, u = .slice (some ⟨b, o, none⟩) m c → 0 < m → row ≠ some b) : Rd w' k u n cs := by
  obtain ⟨h1, p, cap, e, h4⟩ := h
  refine ⟨h1, p, cap, e, ?_⟩
  rcases h4 with h4 | ⟨b, o, e2, h6⟩
  · exact .inl h4
  · by_cases h0 : n = 0
    · exact .inl h0
    · subst e2
      exact .inr ⟨b, o, rfl, fun j hj => hg.cell (h6 j hj) (fun e3 => hs b o n cap e (by omega) e3.symm)⟩
end Go.Proofs.YtljknhocfjpolaaGreatDoor
