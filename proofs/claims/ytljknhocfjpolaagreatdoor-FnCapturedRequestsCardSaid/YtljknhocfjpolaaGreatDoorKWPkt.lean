/- Valid packets: both sides. -/
import Derived.Test.YtljknhocfjpolaaGreatDoorKWItem
namespace Go.Proofs.YtljknhocfjpolaaGreatDoor
open Go.RowKit
set_option maxHeartbeats 400000
set_option maxRecDepth 100000
def srl (x : Int) : Bool := inB x 0 65535
def aftI (b n : Int) : Int := (b + n) % 65536
def gapI (a b : Int) : Int := aftI b (-a)
def okPk (c m r l : Int) (d : ByteArray) : Bool :=
  inB c 1 5 && (srl m && (srl r && (srl l && (itm 8 d && (decide (gapI r l ≤ 32767) && (d.data.toList.isEmpty || (c == 1 || c == 2)))))))
theorem impl_IsSerial (x : Int) (w : World) : Calls Tryz.prog 73 #[.int .i64 x] w fun e w' => e = .returned (.bool (srl x)) ∧ w = w' := by
  go_enter Tryz.func73, Tryz.ntmps73
  go_wp2_with (go_at_call 60; refine (impl_within _ _ _ _).mono ?_; rintro e w' ⟨rfl, rfl⟩)
  go_ret
  exact ⟨rfl, rfl⟩
theorem spec_l2Good (x : Int) (w : World) : Calls Tryz.prog 77 #[.int .i64 x] w fun e w' => e = .returned (.bool (srl x)) ∧ w = w' := by
  go_enter Tryz.func77, Tryz.ntmps77
  go_wp2_with (go_at_call 63; refine (spec_l1In _ _ _ _).mono ?_; rintro e w' ⟨rfl, rfl⟩)
  go_ret
  exact ⟨rfl, rfl⟩
theorem aft_eq (b n : Int) (h : 0 ≤ b) (h1 : b ≤ 65535) (h2 : -65535 ≤ n) (h3 : n ≤ 0) : ((b + n).tmod 65536) % 65536 = aftI b n ∧ -65536 ≤ (b + n).tmod 65536 ∧ (b + n).tmod 65536 ≤ 65536 := by
  unfold aftI
  by_cases hp : 0 ≤ b + n
  · rw [Int.tmod_eq_emod_of_nonneg hp]
    omega
  · have h9 : (-(b + n)).tmod 65536 = -(b + n) := by
      rw [Int.tmod_eq_emod_of_nonneg (by omega)]
      omega
    rw [Int.neg_tmod] at h9
    omega
theorem impl_after (b n : Int) (w : World) (h : 0 ≤ b) (h1 : b ≤ 65535) (h2 : -65535 ≤ n) (h3 : n ≤ 0) : Calls Tryz.prog 124 #[.int .i64 b, .int .i64 n] w fun e w' => e = .returned (.int .i64 (aftI b n)) ∧ w = w' := by
  obtain ⟨he, hb1, hb2⟩ := aft_eq b n h h1 h2 h3
  have He := hid he
  have He2 : Hid (((b + n).tmod 65536 + 65536) % 65536 = aftI b n) := by show _ = _; rw [← he]; omega
  clear he
  go_enter Tryz.func124, Tryz.ntmps124
  go_wp2
  go_ret
  exact ⟨by first | (rw [← He.out]; rfl) | (rw [← He2.out]; rfl), rfl⟩
theorem impl_gap (a b : Int) (w : World) (h : 0 ≤ a) (h1 : a ≤ 65535) (h2 : 0 ≤ b) (h3 : b ≤ 65535) : Calls Tryz.prog 95 #[.int .i64 a, .int .i64 b] w fun e w' => e = .returned (.int .i64 (gapI a b)) ∧ w = w' := by
  have w1 : IntKind.i64.wrap (-a) = -a := IntWalk.i64_in _ (by omega)
  have hc := hid (fun w => impl_after b (-a) w h2 h3 (by omega) (by omega))
  go_enter Tryz.func95, Tryz.ntmps95
  go_wp2_with (go_at_call 124; refine (hc.out _).mono ?_; rintro e w' ⟨rfl, rfl⟩)
  go_ret
  exact ⟨rfl, rfl⟩
theorem spec_l2Gap (a b : Int) (w : World) (h : 0 ≤ a) (h1 : a ≤ 65535) (h2 : 0 ≤ b) (h3 : b ≤ 65535) : Calls Tryz.prog 133 #[.int .i64 a, .int .i64 b] w fun e w' => e = .returned (.int .i64 (gapI a b)) ∧ w = w' := by
  have he : Hid ((b - a) % 65536 = gapI a b ∧ (b - a + 65536) % 65536 = gapI a b) := by
    show _ ∧ _
    unfold gapI aftI
    omega
  go_enter Tryz.func133, Tryz.ntmps133
  go_wp2
  go_ret
  exact ⟨by first | (rw [← he.out.1]; rfl) | (rw [← he.out.2]; rfl), rfl⟩
end Go.Proofs.YtljknhocfjpolaaGreatDoor
