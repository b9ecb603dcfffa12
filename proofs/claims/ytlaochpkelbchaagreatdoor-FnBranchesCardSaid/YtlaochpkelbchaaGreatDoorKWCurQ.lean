/- Texts that are spoilt. -/
import Derived.Test.YtlaochpkelbchaaGreatDoorKWCurS
import Derived.Deep.DeepCutAuto
namespace Go.Proofs.YtlaochpkelbchaaGreatDoor
open Go.RowKit
set_option maxHeartbeats 2000000
set_option maxRecDepth 100000
theorem str_from (s : ByteArray) (i : Nat) (h : i ≤ s.size) : ∀ w, (Instr.slice 9 (.string s) (some (.int .i64 i)) none none).run Tryz.prog w = .ok (.string (s.extract i s.size)) w := fun w => by
  have := run_slice_string_l (P := Tryz.prog) w 9 s Tryz.underlying9 .i64 (i : Int) (by omega) (by omega)
  rwa [Int.toNat_natCast] at this
theorem str_upto (s : ByteArray) (i : Nat) (h : i ≤ s.size) : ∀ w, (Instr.slice 9 (.string s) none (some (.int .i64 i)) none).run Tryz.prog w = .ok (.string (s.extract 0 i)) w := fun w => by
  have := run_slice_string_h (P := Tryz.prog) w 9 s Tryz.underlying9 .i64 (i : Int) (by omega) (by omega)
  rwa [Int.toNat_natCast] at this
theorem str_one (s : ByteArray) (h : 1 ≤ s.size) : ∀ w, (Instr.slice 9 (.string s) none (some (.int .i64 1)) none).run Tryz.prog w = .ok (.string (s.extract 0 1)) w := str_upto s 1 h
theorem ext_size (s : ByteArray) (i j : Nat) (h : j ≤ s.size) : (s.extract i j).size = j - i := by
  rw [ByteArray.size_extract]; omega
theorem spec_spoilt {bs : List Int} (hb : Bts bs) {lo B A : Nat} {v : Value} (t q : ByteArray) (w : World) (h : Cs w lo B v bs A) (ht : t.size ≤ 200) (hq : 1 ≤ q.size ∧ q.size ≤ 200) (hA : A ≤ 700000) :
    Calls Tryz.prog 45 #[.pointer (some ⟨B, 0, none⟩), .string t, .string q] w fun e w' => ∃ s : ByteArray, e = .returned (.string s) ∧ s.size ≤ t.size + 1 ∧ Cs w' lo B v bs (A + 3) ∧ w.grownBy w' (some B) := by
  have Hb := hid hb
  have H0 := hid (Dr.start h)
  clear h hb
  by_cases h0 : t.size = 0
  · obtain rfl : t = ⟨#[]⟩ := by
      apply ByteArray.ext
      exact Array.eq_empty_of_size_eq_zero h0
    have hs1 := str_one q hq.1
    have hz := ext_size q 0 1 hq.1
    generalize q.extract 0 1 = c at *
    have Hz := hid hz
    clear hz h0
    go_enter Tryz.func45, Tryz.ntmps45
    go_wp2
    go_ret
    exact ⟨c, rfl, by have := Hz.out; simp; omega, (H0.out.more (by omega)).fin⟩
  · have hne : (t.toList == []) = false := by
      rw [beq_eq_false_iff_ne]
      intro e
      have : t.size = 0 := by rw [← ByteArray.size_data, ← Array.length_toList, ← ByteArray.toList_eq, e]; rfl
      exact h0 this
    go_enter Tryz.func45, Tryz.ntmps45
    go_wp2_with fail
    go_at_call 24
    refine (spec_pick Hb.out (t.size : Int) _ H0.out.1 (by omega) (by omega)).mono ?_
    rintro e w1 ⟨x, rfl, hx0, hx1, hc, hg⟩
    have H1 := hid (H0.out.step hc hg)
    clear hc hg H0
    obtain ⟨i, rfl⟩ : ∃ k : Nat, x = k := ⟨x.toNat, by omega⟩
    go_wp2_with fail
    go_at_call 24
    refine (spec_pick Hb.out (q.size : Int) _ H1.out.1 (by omega) (by omega)).mono ?_
    rintro e w2 ⟨x, rfl, hy0, hy1, hc, hg⟩
    have H2 := hid (H1.out.step hc hg)
    clear hc hg H1
    obtain ⟨j, rfl⟩ : ∃ k : Nat, x = k := ⟨x.toNat, by omega⟩
    have hs1 := str_from q j (by omega)
    have hz1 := ext_size q j q.size (Nat.le_refl _)
    generalize q.extract j q.size = q1 at *
    have hs2 := str_one q1 (by omega)
    have hz2 := ext_size q1 0 1 (by omega)
    generalize q1.extract 0 1 = c at *
    have hc1 : c.size ≤ 1 := by omega
    have Hz := hid hz2
    clear hz1 hz2
    go_wp2_with fail
    go_at_call 24
    refine (spec_pick Hb.out 3 _ H2.out.1 (by omega) (by omega)).mono ?_
    rintro e w3 ⟨z, rfl, hz0, hz1, hc, hg⟩
    have H3 := hid (H2.out.step hc hg)
    clear hc hg H2 hs1 hs2
    have ha1 := str_upto t i (by omega)
    have hl1 := ext_size t 0 i (by omega)
    have e1 : IntKind.i64.wrap ((i : Int) + 1) = (i : Int) + 1 := IntWalk.i64_in _ (by omega)
    have ha2 := str_from t i (by omega)
    have hl2 := ext_size t i t.size (Nat.le_refl _)
    have ha3 := str_from t (i + 1) (by omega)
    rw [show ((i + 1 : Nat) : Int) = (i : Int) + 1 by omega] at ha3
    have hl3 := ext_size t (i + 1) t.size (Nat.le_refl _)
    generalize t.extract 0 i = a1 at *
    generalize t.extract i t.size = a2 at *
    generalize t.extract (i + 1) t.size = a3 at *
    have b1 : a1.size ≤ 200 := by omega
    have b2 : a2.size ≤ 200 := by omega
    have b3 : a3.size ≤ 200 := by omega
    have s12 : a1.size + a2.size = t.size := by omega
    have s13 : a1.size + a3.size + 1 = t.size := by omega
    have HS := hid (And.intro s12 s13)
    clear s12 s13 hl1 hl2 hl3
    by_cases z0 : z = 0
    · subst z0
      go_wp2
      go_region
      go_wp2
      go_ret
      exact ⟨_, rfl, by simp only [ByteArray.size_append]; have := HS.out; omega, (H3.out.ext (by repeat' (first | exact Ext.refl _ | assumption | refine Ext.alloc ?_ _ | refine Ext.ext ?_ _ | refine Ext.drew ?_ | refine Ext.drewN ?_ _))).fin⟩
    by_cases z1 : z = 1
    · subst z1
      go_wp2
      go_region
      go_wp2
      go_ret
      exact ⟨_, rfl, by simp only [ByteArray.size_append]; have := HS.out; omega, (H3.out.ext (by repeat' (first | exact Ext.refl _ | assumption | refine Ext.alloc ?_ _ | refine Ext.ext ?_ _ | refine Ext.drew ?_ | refine Ext.drewN ?_ _))).fin⟩
    have t0 : (z == 0) = false := by rw [beq_eq_false_iff_ne]; omega
    have t1 : (z == 1) = false := by rw [beq_eq_false_iff_ne]; omega
    go_wp2
    go_region
    go_wp2
    go_ret
    exact ⟨_, rfl, by simp only [ByteArray.size_append]; have := HS.out; omega, (H3.out.ext (by repeat' (first | exact Ext.refl _ | assumption | refine Ext.alloc ?_ _ | refine Ext.ext ?_ _ | refine Ext.drew ?_ | refine Ext.drewN ?_ _))).fin⟩
end Go.Proofs.YtlaochpkelbchaaGreatDoor
