/- slices.MinFunc and others at ints, whatever the function value. -/
import Derived.Test.YtppdbnopgcjgjaaWShr
import Derived.Lib.Walk
namespace Go.Proofs.Ytppdbnopgcjgjaa
open Go.RowKit
set_option maxHeartbeats 400000
theorem slices_MinFunc_int (xs : List Int) (cmp : Int → Int → Int) (g : Nat) (lb : Array Value) (eg : ∀ args w, (callFunc g args).run Try.prog w = .ok (.enter g args) w) (v : Value) (w : World) (h : Rd w 1 v xs.length (vInts xs)) (h0 : ¬ xs.length = 0) (h2 : xs.length ≤ 1048576)
    (hF : ∀ a b w', a ∈ xs → b ∈ xs → Ext w w' → Calls Try.prog g (#[.int .i64 a, .int .i64 b] ++ lb) w' fun e w'' => e = .returned (.int .i64 (cmp a b)) ∧ Ext w' w'') :
    Calls Try.prog 49 #[v, .func (.func g) #[] lb] w fun e w' => e = .returned (.int .i64 (bestI cmp xs (xs.length - 1))) ∧ Ext w w' := by
  obtain ⟨h1, p, cap, rfl, h4⟩ := h
  have H1 := hid h1; clear h1
  have hpos : 0 < xs.length := by omega
  obtain ⟨b, off, rfl, h6⟩ := h4.resolve_left (by omega)
  clear h4 h0
  have H6 := hid h6; clear h6
  have HF := hid hF; clear hF
  have c0 := elem1 (Value.int .i64) 0 xs H6.out 0 hpos
  have hb0 : bestI cmp xs 0 = xs.getD 0 0 := rfl
  have Hb0 := hid hb0; clear hb0
  generalize xs.getD 0 0 = d0 at c0 Hb0
  have t0 : decide ((xs.length : Int) < 1) = false := by simp; omega
  simp only [Nat.add_zero] at c0
  go_enter Try.func49, Try.ntmps49
  go_wp2
  go_loopw [6, 5] (fun v6 v5 wr => ∃ k : Nat, k < xs.length ∧ v6 = .int .i64 (k + 1) ∧ v5 = .int .i64 (bestI cmp xs k) ∧ Ext w wr) (fun v6 _ _ => xs.length - (intOf v6).toNat)
  case atStart => exact ⟨0, hpos, rfl, by rw [Hb0.out], Ext.refl _⟩
  case round =>
    obtain ⟨k, hk, rfl, rfl, z, rfl⟩ := hrel
    have hmo := bestI_mem cmp xs k hk
    by_cases hlt : k + 1 < xs.length
    · have hbest : bestI cmp xs (k + 1) = if decide (cmp (xs.getD (k + 1) 0) (bestI cmp xs k) < 0) then xs.getD (k + 1) 0 else bestI cmp xs k := rfl
      have c1 := elem1 (Value.int .i64) 0 xs H6.out (k + 1) hlt
      have hxo := mem_getD (L := xs) hlt
      generalize xs.getD (k + 1) 0 = x at c1 hbest hxo
      generalize bestI cmp xs k = m at *
      have hf := fun w' hw => HF.out x m w' hxo hmo hw
      generalize cmp x m = c at hf hbest
      have Hf := hid hf
      have Hbest := hid hbest
      clear hf hbest hxo hmo
      cases t1 : decide (c < 0)
      · have T1 := hid t1
        go_wp2_with (go_at_fn g; refine (Hf.out _ ⟨_, rfl⟩).mono ?_; rintro e w' ⟨rfl, z1, rfl⟩)
        go_roundw
        case rel => exact ⟨k + 1, hlt, by go_num, by rw [Hbest.out, T1.out]; rfl, (by repeat' (first | exact Ext.refl _ | assumption | refine Ext.alloc ?_ _ | refine Ext.ext ?_ _ | refine Ext.drew ?_ | refine Ext.drewN ?_ _))⟩
        case measure => simp [intOf]; omega
      · have T1 := hid t1
        go_wp2_with (go_at_fn g; refine (Hf.out _ ⟨_, rfl⟩).mono ?_; rintro e w' ⟨rfl, z1, rfl⟩)
        go_roundw
        case rel => exact ⟨k + 1, hlt, by go_num, by rw [Hbest.out, T1.out]; rfl, (by repeat' (first | exact Ext.refl _ | assumption | refine Ext.alloc ?_ _ | refine Ext.ext ?_ _ | refine Ext.drew ?_ | refine Ext.drewN ?_ _))⟩
        case measure => simp [intOf]; omega
    · have hlen : xs.length - 1 = k := by omega
      have Hlen := hid hlen; clear hlen
      go_wp2
      go_ret
      exact ⟨by rw [Hlen.out]; rfl, (by repeat' (first | exact Ext.refl _ | assumption | refine Ext.alloc ?_ _ | refine Ext.ext ?_ _ | refine Ext.drew ?_ | refine Ext.drewN ?_ _))⟩
end Go.Proofs.Ytppdbnopgcjgjaa
