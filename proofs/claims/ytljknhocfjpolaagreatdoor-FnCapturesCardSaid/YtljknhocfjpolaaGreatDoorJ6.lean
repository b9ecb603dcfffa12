/- Valid packets: both sides. The laws' texts of marks, exactly. -/
import Derived.Test.YtljknhocfjpolaaGreatDoorJ4
import Derived.Test.YtljknhocfjpolaaGreatDoorJ2
namespace Go.Proofs.YtljknhocfjpolaaGreatDoor
open Go.RowKit
set_option maxHeartbeats 400000
set_option maxRecDepth 100000
def srl (x : Int) : Bool := inB x 0 65535
def aftI (b n : Int) : Int := (b + n) % 65536
def gapI (a b : Int) : Int := aftI b (-a)
def okPk (c m r l : Int) (d : ByteArray) : Bool :=
  inB c 1 5 && (srl m && (srl r && (srl l && (itm 8 d && (decide (gapI r l ≤ 32767) && (d.data.toList.isEmpty || (c == 1 || c == 2)))))))
theorem impl_IsSerial (x : Int) (w : World) : Calls Tryz.prog 73 #[.int .i64 x] w fun e w' => e = .returned (.bool (srl x)) ∧ w = w' := by
  go_enter Tryz.func73, Tryz.ntmps73
  go_wp2_with (go_at_call 60; refine (impl_within _ _ _ _).mono ?_; rintro e w' ⟨rfl, rfl⟩)
  go_ret
  exact ⟨rfl, rfl⟩
theorem spec_l2Good (x : Int) (w : World) : Calls Tryz.prog 77 #[.int .i64 x] w fun e w' => e = .returned (.bool (srl x)) ∧ w = w' := by
  go_enter Tryz.func77, Tryz.ntmps77
  go_wp2_with (go_at_call 63; refine (spec_l1In _ _ _ _).mono ?_; rintro e w' ⟨rfl, rfl⟩)
  go_ret
  exact ⟨rfl, rfl⟩
theorem aft_eq (b n : Int) (h : 0 ≤ b) (h1 : b ≤ 65535) (h2 : -65535 ≤ n) (h3 : n ≤ 0) : ((b + n).tmod 65536) % 65536 = aftI b n ∧ -65536 ≤ (b + n).tmod 65536 ∧ (b + n).tmod 65536 ≤ 65536 := by
  unfold aftI
  by_cases hp : 0 ≤ b + n
  · rw [Int.tmod_eq_emod_of_nonneg hp]
    omega
  · have h9 : (-(b + n)).tmod 65536 = -(b + n) := by
      rw [Int.tmod_eq_emod_of_nonneg (by omega)]
      omega
    rw [Int.neg_tmod] at h9
    omega
theorem impl_after (b n : Int) (w : World) (h : 0 ≤ b) (h1 : b ≤ 65535) (h2 : -65535 ≤ n) (h3 : n ≤ 0) : Calls Tryz.prog 124 #[.int .i64 b, .int .i64 n] w fun e w' => e = .returned (.int .i64 (aftI b n)) ∧ w = w' := by
  obtain ⟨he, hb1, hb2⟩ := aft_eq b n h h1 h2 h3
  have He := hid he
  have He2 : Hid (((b + n).tmod 65536 + 65536) % 65536 = aftI b n) := by show _ = _; rw [← he]; omega
  clear he
  go_enter Tryz.func124, Tryz.ntmps124
  go_wp2
  go_ret
  exact ⟨by first | (rw [← He.out]; rfl) | (rw [← He2.out]; rfl), rfl⟩
theorem impl_gap (a b : Int) (w : World) (h : 0 ≤ a) (h1 : a ≤ 65535) (h2 : 0 ≤ b) (h3 : b ≤ 65535) : Calls Tryz.prog 95 #[.int .i64 a, .int .i64 b] w fun e w' => e = .returned (.int .i64 (gapI a b)) ∧ w = w' := by
  have w1 : IntKind.i64.wrap (-a) = -a := IntWalk.i64_in _ (by omega)
  have hc := hid (fun w => impl_after b (-a) w h2 h3 (by omega) (by omega))
  go_enter Tryz.func95, Tryz.ntmps95
  go_wp2_with (go_at_call 124; refine (hc.out _).mono ?_; rintro e w' ⟨rfl, rfl⟩)
  go_ret
  exact ⟨rfl, rfl⟩
theorem spec_l2Gap (a b : Int) (w : World) (h : 0 ≤ a) (h1 : a ≤ 65535) (h2 : 0 ≤ b) (h3 : b ≤ 65535) : Calls Tryz.prog 133 #[.int .i64 a, .int .i64 b] w fun e w' => e = .returned (.int .i64 (gapI a b)) ∧ w = w' := by
  have he : Hid ((b - a) % 65536 = gapI a b ∧ (b - a + 65536) % 65536 = gapI a b) := by
    show _ ∧ _
    unfold gapI aftI
    omega
  go_enter Tryz.func133, Tryz.ntmps133
  go_wp2
  go_ret
  exact ⟨by first | (rw [← he.out.1]; rfl) | (rw [← he.out.2]; rfl), rfl⟩
end Go.Proofs.YtljknhocfjpolaaGreatDoor
namespace Go.Proofs.YtljknhocfjpolaaGreatDoor
open Go.RowKit
set_option maxHeartbeats 400000
set_option maxRecDepth 100000
def mgb (n : Nat) : UInt8 := UInt8.ofNat (48 + n)
def dgs : Nat → Nat → ByteArray → ByteArray
  | 0, _, a => a
  | f + 1, k, a => if k = 0 then a else dgs f (k / 10) (⟨#[mgb (k % 10)]⟩ ++ a)
/-- The text of a mark. -/
def mtext (k : Int) : ByteArray := ⟨#[109]⟩ ++ dgs k.toNat k.toNat ByteArray.empty
theorem dgs_zero (f : Nat) (a : ByteArray) : dgs f 0 a = a := by cases f <;> rfl
theorem laws_mtext (k : Int) (w : World) (hk : 0 < k) (hk1 : k ≤ 1099511627776) :
    Calls Tryz.prog 45 #[.int .i64 k] w fun e w' => e = .returned (.string (mtext k)) ∧ Ext w w' := by
  have t0 : decide (k ≤ 0) = false := by simp; omega
  obtain ⟨n, rfl⟩ := Int.eq_ofNat_of_zero_le (show 0 ≤ k by omega)
  have hT : mtext (n : Int) = ⟨#[109]⟩ ++ dgs n n ByteArray.empty := by rw [mtext, Int.toNat_natCast]
  rw [hT]
  generalize hD : dgs n n ByteArray.empty = D
  have HD := hid hD
  clear hT hD
  go_enter Tryz.func45, Tryz.ntmps45
  go_wp2
  go_loopw [0, 3] (fun v0 v3 wr => ∃ (f m : Nat) (s : ByteArray), m ≤ f ∧ dgs f m s = D ∧ s.size + m ≤ 1099511627776 ∧ v0 = .int .i64 m ∧ v3 = .string s ∧ Ext w wr) (fun v0 _ _ => (intOf v0).toNat)
  case atStart => exact ⟨n, n, ByteArray.empty, Nat.le_refl _, HD.out, by simp; omega, rfl, rfl, Ext.refl _⟩
  case round =>
    obtain ⟨f, m, s, hf, hd, hm, rfl, rfl, hx⟩ := hrel
    have Hx := hid hx
    have Hd := hid hd
    clear hx hd
    have hs1 : ¬ 9223372036854775807 < 1 + s.size := by omega
    by_cases h0 : 0 < m
    · have t1 : decide ((0 : Int) < m) = true := by simp; omega
      have w1 : IntKind.i64.wrap (48 + (m : Int) % 10) = 48 + (m : Int) % 10 := IntWalk.i64_in _ (by omega)
      have w2 : IntKind.u8.wrap (48 + (m : Int) % 10) = 48 + (m : Int) % 10 := by
        exact IntWalk.u8_in _ (by omega)
      have hb : ((mgb (m % 10)).toNat : Int) = 48 + (m : Int) % 10 := by
        rw [mgb, UInt8.toNat_ofNat_of_lt' (by show _ < 256; omega)]
        omega
      have hr : Rd (wr.alloc (.cells #[.int .u8 (48 + (m : Int) % 10)] 5)) 1 (.slice (some ⟨wr.heap.size, 0, none⟩) 1 1) 1 (vBytes [mgb (m % 10)]) := by
        have := Rd.own (World.ownsRow_lit (base := 0) (e := 5) (size := 1) wr #[.int .u8 (48 + (m : Int) % 10)] 1 (Nat.zero_le _) (by decide) rfl)
        have e : vBytes [mgb (m % 10)] = [.int .u8 (48 + (m : Int) % 10)] := by simp only [vBytes, List.map_cons, List.map_nil, hb]
        rw [e]
        simpa using this
      have hcv := conv_rd (P := Tryz.prog) Tryz.underlying28 Tryz.underlying5 Tryz.underlying9 hr
      have hn : ∃ f', m / 10 ≤ f' ∧ dgs f' (m / 10) (⟨#[mgb (m % 10)]⟩ ++ s) = D := by
        cases f with
        | zero => omega
        | succ f =>
          refine ⟨f, by omega, ?_⟩
          have := Hd.out
          rw [dgs, if_neg (by omega)] at this
          exact this
      have Hn := hid hn
      clear hr hb hn hf
      go_wp2
      go_roundw
      case rel =>
        obtain ⟨f', h1, h2⟩ := Hn.out
        refine ⟨f', m / 10, _, h1, h2, ?_, by go_num, rfl, Hx.out.alloc _⟩
        rw [ByteArray.size_append]
        show 1 + s.size + m / 10 ≤ _
        omega
      case measure => simp [intOf]; omega
    · obtain rfl : m = 0 := by omega
      have he : s = D := by have := Hd.out; rw [dgs_zero] at this; exact this
      subst he
      go_wp2
      go_ret
      exact ⟨rfl, Hx.out⟩
end Go.Proofs.YtljknhocfjpolaaGreatDoor
