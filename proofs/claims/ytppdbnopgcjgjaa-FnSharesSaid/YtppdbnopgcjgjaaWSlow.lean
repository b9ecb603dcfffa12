/- The slowest receiver. -/
import Derived.Test.YtppdbnopgcjgjaaWDelay2
import Derived.Test.YtppdbnopgcjgjaaWLeaves2
namespace Go.Proofs.Ytppdbnopgcjgjaa
open Go.RowKit
set_option maxHeartbeats 400000
/-- The first of the least, by a comparison. -/
def bestI (cmp : Int → Int → Int) (xs : List Int) : Nat → Int
  | 0 => xs.getD 0 0
  | k + 1 => if decide (cmp (xs.getD (k + 1) 0) (bestI cmp xs k) < 0) then xs.getD (k + 1) 0 else bestI cmp xs k
theorem bestI_mem (cmp : Int → Int → Int) (xs : List Int) : ∀ k, k < xs.length → bestI cmp xs k ∈ xs
  | 0, h => mem_getD h
  | k + 1, h => by
    unfold bestI
    split
    · exact mem_getD h
    · exact bestI_mem cmp xs k (by omega)
theorem min_slowest (xs : List Int) (cmp : Int → Int → Int) (v p1 p2 : Value) (w : World) (h : Rd w 1 v xs.length (vInts xs)) (h0 : ¬ xs.length = 0) (h2 : xs.length ≤ 1048576)
    (hF : ∀ a b w', a ∈ xs → b ∈ xs → Ext w w' → Calls Try.prog 54 #[.int .i64 a, .int .i64 b, p1, p2] w' fun e w'' => e = .returned (.int .i64 (cmp a b)) ∧ Ext w' w'') :
    Calls Try.prog 49 #[v, .func (.func 54) #[] #[p1, p2]] w fun e w' => e = .returned (.int .i64 (bestI cmp xs (xs.length - 1))) ∧ Ext w w' := by
  obtain ⟨h1, p, cap, rfl, h4⟩ := h
  have H1 := hid h1; clear h1
  have hpos : 0 < xs.length := by omega
  obtain ⟨b, off, rfl, h6⟩ := h4.resolve_left (by omega)
  clear h4 h0
  have H6 := hid h6; clear h6
  have HF := hid hF; clear hF
  have c0 := elem1 (Value.int .i64) 0 xs H6.out 0 hpos
  have hb0 : bestI cmp xs 0 = xs.getD 0 0 := rfl
  have Hb0 := hid hb0; clear hb0
  generalize xs.getD 0 0 = d0 at c0 Hb0
  have t0 : decide ((xs.length : Int) < 1) = false := by simp; omega
  simp only [Nat.add_zero] at c0
  go_enter Try.func49, Try.ntmps49
  go_wp2
  go_loopw [6, 5] (fun v6 v5 wr => ∃ k : Nat, k < xs.length ∧ v6 = .int .i64 (k + 1) ∧ v5 = .int .i64 (bestI cmp xs k) ∧ Ext w wr) (fun v6 _ _ => xs.length - (intOf v6).toNat)
  case atStart => exact ⟨0, hpos, rfl, by rw [Hb0.out], Ext.refl _⟩
  case round =>
    obtain ⟨k, hk, rfl, rfl, z, rfl⟩ := hrel
    have hmo := bestI_mem cmp xs k hk
    by_cases hlt : k + 1 < xs.length
    · have hbest : bestI cmp xs (k + 1) = if decide (cmp (xs.getD (k + 1) 0) (bestI cmp xs k) < 0) then xs.getD (k + 1) 0 else bestI cmp xs k := rfl
      have c1 := elem1 (Value.int .i64) 0 xs H6.out (k + 1) hlt
      have hxo := mem_getD (L := xs) hlt
      generalize xs.getD (k + 1) 0 = x at c1 hbest hxo
      generalize bestI cmp xs k = m at *
      have hf := fun w' hw => HF.out x m w' hxo hmo hw
      generalize cmp x m = c at hf hbest
      have Hf := hid hf
      have Hbest := hid hbest
      clear hf hbest hxo hmo
      cases t1 : decide (c < 0)
      · have T1 := hid t1
        go_wp2_with (go_at_call 54; refine (Hf.out _ ⟨_, rfl⟩).mono ?_; rintro e w' ⟨rfl, z1, rfl⟩)
        go_roundw
        case rel => exact ⟨k + 1, hlt, by go_num, by rw [Hbest.out, T1.out]; rfl, (by repeat' (first | exact Ext.refl _ | assumption | refine Ext.alloc ?_ _ | refine Ext.ext ?_ _ | refine Ext.drew ?_ | refine Ext.drewN ?_ _))⟩
        case measure => simp [intOf]; omega
      · have T1 := hid t1
        go_wp2_with (go_at_call 54; refine (Hf.out _ ⟨_, rfl⟩).mono ?_; rintro e w' ⟨rfl, z1, rfl⟩)
        go_roundw
        case rel => exact ⟨k + 1, hlt, by go_num, by rw [Hbest.out, T1.out]; rfl, (by repeat' (first | exact Ext.refl _ | assumption | refine Ext.alloc ?_ _ | refine Ext.ext ?_ _ | refine Ext.drew ?_ | refine Ext.drewN ?_ _))⟩
        case measure => simp [intOf]; omega
    · have hlen : xs.length - 1 = k := by omega
      have Hlen := hid hlen; clear hlen
      go_wp2
      go_ret
      exact ⟨by rw [Hlen.out]; rfl, (by repeat' (first | exact Ext.refl _ | assumption | refine Ext.alloc ?_ _ | refine Ext.ext ?_ _ | refine Ext.drew ?_ | refine Ext.drewN ?_ _))⟩
theorem impl_SlowestReceiver_1 (ps ls ds : List Int) (v u u' : Value) (Bt Bc : Nat) (a b : Int) (w : World) (h : Rd w 1 v ps.length (vInts ps)) (k : Rd w 1 u' ds.length (vInts ds)) (hg : goodC ps ls ds = true) (ha : 0 ≤ a ∧ a < ps.length) (hb : 0 ≤ b ∧ b < ps.length)
    (c0 : w.cell? ⟨Bt, 0, none⟩ = some v) (c1 : w.cell? ⟨Bc, 0, none⟩ = some u) (c2 : w.cell? ⟨Bc, 1, none⟩ = some u') :
    Calls Try.prog 54 #[.int .i64 a, .int .i64 b, .pointer (some ⟨Bc, 0, none⟩), .pointer (some ⟨Bt, 0, none⟩)] w fun e w' => e = .returned (.int .i64 (del ps ds b - del ps ds a)) ∧ Ext w w' := by
  have ba := del_bd hg ha.2
  have bb := del_bd hg hb.2
  have hd := fun x w' (hx : 0 ≤ x ∧ x < (ps.length : Int)) (e : Ext w w') => impl_delayTo ps ls ds v u u' x w' (h.ext e) (k.ext e) hg (by omega) hx.2
  have Hd := hid hd
  clear hd h k hg
  go_enter Try.func54, Try.ntmps54
  go_wp2
  refine wp_region_ext (by kernel_rfl) (by kernel_rfl) ?_
  repeat (go_big_quiet_step ((first | (go_at_call 46; exact Calls.quiet_ext (Hd.out _ _ (by first | exact ha | exact hb) ⟨_, rfl⟩)))))
  refine wpQuiet_nil ?_
  rintro _ ⟨zq, rfl⟩
  go_wp2
  go_ret
  exact ⟨rfl, (by repeat' (first | exact Ext.refl _ | assumption | refine Ext.alloc ?_ _ | refine Ext.ext ?_ _ | refine Ext.drew ?_ | refine Ext.drewN ?_ _))⟩
end Go.Proofs.Ytppdbnopgcjgjaa
