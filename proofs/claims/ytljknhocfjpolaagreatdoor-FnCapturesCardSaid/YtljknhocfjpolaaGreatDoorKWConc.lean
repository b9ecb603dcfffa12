/- slices.Grow and slices.Concat at the elements of a capture. -/
import Derived.Test.YtljknhocfjpolaaGreatDoorKWSel
import Derived.Shelf.Spec.SlicesGrow
import Derived.Test.YtljknhocfjpolaaGreatDoorKWPut2
namespace Go.Proofs.YtljknhocfjpolaaGreatDoor
open Go.RowKit Go.Shelf
set_option maxHeartbeats 1000000
set_option maxRecDepth 100000
theorem slices_Grow_caps (n : Nat) (w : World) (h0 : 0 < n) (h1 : n ≤ 20) :
    Calls Tryz.prog 105 #[.slice none 0 0, .int .i64 (n : Int)] w fun e w' => ∃ cap, e = .returned (.slice (some ⟨w.heap.size, 0, none⟩) 0 cap) ∧ w'.ownsRow w.heap.size 48 8 (.slice (some ⟨w.heap.size, 0, none⟩) 0 cap) 0 [] ∧ Ext w w' := by
  obtain ⟨i0, hi, hz0, hz1, hz2⟩ := info_parts infoCap
  have hrz : ∀ ty, (Builtin.append_ #[22, 3] ty #[.slice none 0 0, .int .i64 (n : Int)]).run Tryz.prog w =
      .ok (.slice (some ⟨w.heap.size, 0, none⟩) n (grownCap w n 0 48)) (w.drew.alloc (.cells (#[] ++ Builtin.zeroCells (Value.agg #[.int .i64 0, .int .i64 0, .bool false, .int .i64 0, .int .i64 0, .int .i64 0, .int .i64 0, .string ByteArray.empty]).cells n ++ Builtin.zeroCells (Value.agg #[.int .i64 0, .int .i64 0, .bool false, .int .i64 0, .int .i64 0, .int .i64 0, .int .i64 0, .string ByteArray.empty]).cells (grownCap w n 0 48 - n)) 48)) := fun ty => by
    have h := Lib.run_append_grow_zeros w 22 3 ty 48 i0 _ .i64 .i64 Tryz.underlying22 Tryz.underlying3 hi hz0 none 0 0 [] (run_firstCells_none w.drew i0.size 0 0 0) n h0 (by omega) (by omega) (by omega) (by rw [hz2]; omega)
      (by rw [Nat.zero_add]; exact growslice_fits (by omega) (by rw [hz2]; omega))
    rw [Nat.zero_add] at h
    exact h
  have hGn : n ≤ grownCap w n 0 48 := grownCap_ge w _ _ _
  have hG63 := grownCap_le_maxLen w n 0 48 (by unfold maxLen; omega)
  have HG := hid (And.intro hGn hG63)
  generalize grownCap w n 0 48 = G at *
  have t0 : decide ((n : Int) < 0) = false := by simp
  go_enter Tryz.func105, Tryz.ntmps105
  go_wp2_with (at_builtin; refine Lib.wpList_append_run _ rfl _ _ _ _ rfl _ _ rfl rfl _ _ (hrz _) ?_)
  all_goals
    go_ret
    refine ⟨G, rfl, ⟨rfl, .inr ⟨w.heap.size, G, _, rfl, Nat.le_refl _, heap_at _ rfl, Nat.zero_le _, HG.out.2, ?_, ?_⟩⟩, (by repeat' (first | exact Ext.refl _ | assumption | refine Ext.alloc ?_ _ | refine Ext.ext ?_ _ | refine Ext.drew ?_ | refine Ext.drewN ?_ _))⟩
    · have := HG.out.1
      simp [size_zeroCells]
      omega
    · simp
theorem slices_Grow_caps0 (w : World) :
    Calls Tryz.prog 105 #[.slice none 0 0, .int .i64 0] w fun e w' => e = .returned (.slice none 0 0) ∧ w = w' := by
  go_enter Tryz.func105, Tryz.ntmps105
  go_wp2
  go_ret
  exact ⟨rfl, rfl⟩
theorem slices_Grow_any (n : Nat) (w : World) (h1 : n ≤ 20) :
    Calls Tryz.prog 105 #[.slice none 0 0, .int .i64 (n : Int)] w fun e w' => ∃ v, e = .returned v ∧ w'.ownsRow w.heap.size 48 8 v 0 [] ∧ Ext w w' := by
  by_cases h0 : 0 < n
  · exact (slices_Grow_caps n w h0 h1).mono fun e w' ⟨c, e1, e2, e3⟩ => ⟨_, e1, e2, e3⟩
  · obtain rfl : n = 0 := by omega
    exact (slices_Grow_caps0 w).mono fun e w' ⟨e1, e2⟩ => ⟨_, e1, World.ownsRow_nil _ _ _ _, e2 ▸ Ext.refl _⟩
def ccL (a b : List Cap) (k : Nat) : List Cap := if k = 0 then [] else if k = 1 then a else a ++ b
/-- While they are joined. -/
def CcW (w wr : World) (v : Value) (L : List Cap) : Prop := wr.ownsRow w.heap.size 48 8 v L.length (L.flatMap Cap.cs) ∧ Ext w wr
theorem slices_Concat_caps (a b : List Cap) (va vb : Value) (q off : Nat) (w : World) (ha : Rd w 8 va a.length (a.flatMap Cap.cs)) (hb : Rd w 8 vb b.length (b.flatMap Cap.cs))
    (hq0 : w.cell? ⟨q, off, none⟩ = some va) (hq1 : w.cell? ⟨q, off + 1, none⟩ = some vb) (hl : a.length + b.length ≤ 10) :
    Calls Tryz.prog 66 #[.slice (some ⟨q, off, none⟩) 2 2] w fun e w' => ∃ r, e = .returned r ∧ w'.ownsRow w.heap.size 48 8 r (a ++ b).length ((a ++ b).flatMap Cap.cs) ∧ Ext w w' := by
  have Ha := hid ha
  have Hb := hid hb
  obtain ⟨-, pa, ca, rfl, -⟩ := ha
  obtain ⟨-, pb, cb, rfl, -⟩ := hb
  have Q0 := hid hq0
  have Q1 := hid hq1
  have w1 : IntKind.i64.wrap ((a.length : Int)) = (a.length : Int) := IntWalk.i64_in _ (by omega)
  have w2 : IntKind.i64.wrap ((a.length : Int) + (b.length : Int)) = (a.length : Int) + (b.length : Int) := IntWalk.i64_in _ (by omega)
  have t1 : decide ((a.length : Int) < 0) = false := by simp
  have t2 : decide ((a.length : Int) + (b.length : Int) < 0) = false := by simp; omega
  have hg := hid (fun w => slices_Grow_any (a.length + b.length) w (by omega))
  obtain ⟨i0, hi, hz0, hz1, hz2⟩ := info_parts infoCap
  clear hq0 hq1
  go_enter Tryz.func66, Tryz.ntmps66
  go_wp2
  go_loopw [11, 3] (fun v11 v3 wr => ∃ k : Nat, k ≤ 2 ∧ v11 = .int .i64 k ∧ v3 = .int .i64 ((ccL a b k).length : Int) ∧ Ext w wr) (fun v11 _ _ => 2 - (intOf v11).toNat)
  case atStart => exact ⟨0, by omega, rfl, rfl, Ext.refl _⟩
  case round =>
    obtain ⟨k, hk, rfl, rfl, hx⟩ := hrel
    have c0 := hx.cell Q0.out
    have c1 := hx.cell Q1.out
    have Hx := hid hx
    clear hx
    have hk3 : k = 0 ∨ k = 1 ∨ k = 2 := by omega
    rcases hk3 with rfl | rfl | rfl
    · have e0 : ((ccL a b 0).length : Int) = 0 := rfl
      rw [e0]
      go_wp2
      go_roundw
      case rel => exact ⟨1, by omega, rfl, by simp [ccL], Hx.out⟩
      case measure => simp [intOf]
    · have e0 : ((ccL a b 1).length : Int) = (a.length : Int) := rfl
      rw [e0]
      go_wp2
      go_roundw
      case rel => exact ⟨2, by omega, rfl, by simp [ccL], Hx.out⟩
      case measure => simp [intOf]
    · have e0 : ((ccL a b 2).length : Int) = ((a.length + b.length : Nat) : Int) := by simp [ccL]
      rw [e0]
      clear c0 c1
      go_wp2_with fail
      go_at_call 105
      refine (hg.out _).mono ?_
      rintro e w3 ⟨v, rfl, ho, hx⟩
      have H0 : Hid (CcW w w3 v []) := ⟨own_mono ho Hx.out.size, Hx.out.trans hx⟩
      clear ho hx Hx hg
      go_wp2
      go_loopw [27, 6] (fun v27 v6 wr => ∃ (k : Nat) (x : Value) (yr : World), k ≤ 2 ∧ v27 = .int .i64 k ∧ x = v6 ∧ yr = wr ∧ Hid (CcW w yr x (ccL a b k))) (fun v27 _ _ => 2 - (intOf v27).toNat)
      case atStart => exact ⟨0, _, _, by omega, rfl, rfl, rfl, H0.out⟩
      case round =>
        obtain ⟨k, v6, wr, hk, rfl, rfl, rfl, HW⟩ := hrel
        have c0 := HW.out.2.cell Q0.out
        have c1 := HW.out.2.cell Q1.out
        have hk3 : k = 0 ∨ k = 1 ∨ k = 2 := by omega
        rcases hk3 with rfl | rfl | rfl
        · have Ho := hid (show wr.ownsRow w.heap.size 48 8 v6 [].length ([].flatMap Cap.cs) from HW.out.1)
          have Hx := hid HW.out.2
          clear HW
          go_wp2_with (at_builtin; refine wpList_append_rd _ rfl _ _ 22 rfl w.heap.size 48 i0 (.agg #[.int .i64 0, .int .i64 0, .bool false, .int .i64 0, .int .i64 0, .int .i64 0, .int .i64 0, .string ByteArray.empty]) 8 72 Tryz.underlying22 hi hz0 hz1 hz2 rfl (by decide) _ _ _ rfl (own_ext Ho.out (by repeat' (first | exact Ext.refl _ | assumption | refine Ext.alloc ?_ _ | refine Ext.ext ?_ _ | refine Ext.drew ?_ | refine Ext.drewN ?_ _))) _ a.length (a.flatMap Cap.cs) rfl (Ha.out.ext (Hx.out.trans (by repeat' (first | exact Ext.refl _ | assumption | refine Ext.alloc ?_ _ | refine Ext.ext ?_ _ | refine Ext.drew ?_ | refine Ext.drewN ?_ _)))) ?c2 ?c3 ?c4 ?c5 ?_)
          case c2 =>
            intro u hu
            obtain ⟨x, -, hx⟩ := List.mem_flatMap.1 hu
            simp only [Cap.cs, List.mem_cons, List.not_mem_nil, or_false] at hx
            rcases hx with rfl | rfl | rfl | rfl | rfl | rfl | rfl | rfl <;> rfl
          case c3 => unfold maxLen; simp; omega
          case c4 => first | omega | (simp; omega)
          case c5 => exact (show Ext w _ from Hx.out.trans (by repeat' (first | exact Ext.refl _ | assumption | refine Ext.alloc ?_ _ | refine Ext.ext ?_ _ | refine Ext.drew ?_ | refine Ext.drewN ?_ _))).size
          intro v' w4 hown' hgrow
          have HR : Hid (CcW w w4 v' (ccL a b 1)) := ⟨by simpa [ccL] using hown', (Hx.out.trans (by repeat' (first | exact Ext.refl _ | assumption | refine Ext.alloc ?_ _ | refine Ext.ext ?_ _ | refine Ext.drew ?_ | refine Ext.drewN ?_ _))).grown hgrow (fun j hj => (Ho.out.lt j hj).1)⟩
          clear hown' hgrow
          go_wp2
          go_roundw
          case rel => exact ⟨1, _, _, by omega, rfl, rfl, rfl, HR⟩
          case measure => simp [intOf]
        · have Ho := hid (show wr.ownsRow w.heap.size 48 8 v6 a.length (a.flatMap Cap.cs) from HW.out.1)
          have Hx := hid HW.out.2
          clear HW
          go_wp2_with (at_builtin; refine wpList_append_rd _ rfl _ _ 22 rfl w.heap.size 48 i0 (.agg #[.int .i64 0, .int .i64 0, .bool false, .int .i64 0, .int .i64 0, .int .i64 0, .int .i64 0, .string ByteArray.empty]) 8 72 Tryz.underlying22 hi hz0 hz1 hz2 rfl (by decide) _ _ _ rfl (own_ext Ho.out (by repeat' (first | exact Ext.refl _ | assumption | refine Ext.alloc ?_ _ | refine Ext.ext ?_ _ | refine Ext.drew ?_ | refine Ext.drewN ?_ _))) _ b.length (b.flatMap Cap.cs) rfl (Hb.out.ext (Hx.out.trans (by repeat' (first | exact Ext.refl _ | assumption | refine Ext.alloc ?_ _ | refine Ext.ext ?_ _ | refine Ext.drew ?_ | refine Ext.drewN ?_ _)))) ?c2 ?c3 ?c4 ?c5 ?_)
          case c2 =>
            intro u hu
            obtain ⟨x, -, hx⟩ := List.mem_flatMap.1 hu
            simp only [Cap.cs, List.mem_cons, List.not_mem_nil, or_false] at hx
            rcases hx with rfl | rfl | rfl | rfl | rfl | rfl | rfl | rfl <;> rfl
          case c3 => unfold maxLen; simp; omega
          case c4 => first | omega | (simp; omega)
          case c5 => exact (show Ext w _ from Hx.out.trans (by repeat' (first | exact Ext.refl _ | assumption | refine Ext.alloc ?_ _ | refine Ext.ext ?_ _ | refine Ext.drew ?_ | refine Ext.drewN ?_ _))).size
          intro v' w4 hown' hgrow
          have HR : Hid (CcW w w4 v' (ccL a b 2)) := ⟨by simpa [ccL] using hown', (Hx.out.trans (by repeat' (first | exact Ext.refl _ | assumption | refine Ext.alloc ?_ _ | refine Ext.ext ?_ _ | refine Ext.drew ?_ | refine Ext.drewN ?_ _))).grown hgrow (fun j hj => (Ho.out.lt j hj).1)⟩
          clear hown' hgrow
          go_wp2
          go_roundw
          case rel => exact ⟨2, _, _, by omega, rfl, rfl, rfl, HR⟩
          case measure => simp [intOf]
        · go_wp2
          go_ret
          exact ⟨_, rfl, HW.out⟩
end Go.Proofs.YtljknhocfjpolaaGreatDoor
