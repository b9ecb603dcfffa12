/- The law FnExactShareTo. -/
import Derived.Test.YthpeicpfaonkdaaWShare
import Derived.Test.YthpeicpfaonkdaaKit2
import Derived.Test.YthpeicpfaonkdaaWCOpen
import Derived.Test.YthpeicpfaonkdaaWCM
import Derived.Test.YthpeicpfaonkdaaRows
namespace Go.Proofs.Ythpeicpfaonkdaa.xShareTo
open Go.ChangeShapes Go.WideShapes Go.ChangeAt Go.RowKit
set_option maxHeartbeats 400000
set_option maxRecDepth 10000
theorem walk (ps ls ds : List Int) (v u u' : Value) (x : Int) (w : World) (h : Rd w 1 v ps.length (vInts ps)) (k : Rd w 1 u ls.length (vInts ls)) (l : Rd w 1 u' ds.length (vInts ds))
    (hm : ps.length ≤ maxLen) (km : ls.length ≤ maxLen) (lm : ds.length ≤ maxLen) :
    Calls Try.prog 11 #[.agg #[v], .agg #[u, u'], .int .i64 x] w fun e w' => e = .returned (.bool true) ∧ Ext w w' := by
  by_cases h2 : ps.length ≤ 1048576
  · have t0 : decide ((1048576 : Int) - ps.length < 0) = false := by simp; omega
    by_cases hs : (ls.length : Int) + ds.length ≤ 1048576 - ps.length
    · have k2 : ls.length ≤ 1048576 := by omega
      have l2 : ds.length ≤ 1048576 := by omega
      have t1 : decide ((1048576 : Int) - ps.length - ls.length - ds.length < 0) = false := by simp; omega
      have cs := fun v u u' w h k l => spec_ShareTo ps ls ds v u u' x w h k l h2 k2 l2
      have ci := fun v u u' w h k l => impl_ShareTo ps ls ds v u u' x w h k l h2 k2 l2
      generalize hasC ps ls ds x = D0 at cs ci
      generalize shareNum ps ls ds [x] = D1 at cs ci
      generalize shareDen ps ls ds [x] = D2 at cs ci
      go_enter Try.func11, Try.ntmps11
      go_wp2_with fail
      have XB : Ext w ((w.alloc (.cells #[v] 24)).alloc (.cells #[u, u'] 26)) := (by repeat' (first | exact Ext.refl _ | assumption | refine Ext.alloc ?_ _ | refine Ext.ext ?_ _ | refine Ext.drew ?_ | refine Ext.drewN ?_ _))
      have b0_0 : ((w.alloc (.cells #[v] 24)).alloc (.cells #[u, u'] 26)).cell? ⟨w.heap.size, 0, none⟩ = some v := by rw [cell_of_row _ _ 0 _ _ (0, 0) (heap_old (heap_at _ (by simp)) _)]; rfl
      have b0_1 : ((w.alloc (.cells #[v] 24)).alloc (.cells #[u, u'] 26)).cell? ⟨w.heap.size + 1, 0, none⟩ = some u := by rw [cell_of_row _ _ 0 _ _ (0, 0) (heap_at _ (by simp))]; rfl
      have b0_2 : ((w.alloc (.cells #[v] 24)).alloc (.cells #[u, u'] 26)).cell? ⟨w.heap.size + 1, 1, none⟩ = some u' := by rw [cell_of_row _ _ 1 _ _ (0, 0) (heap_at _ (by simp))]; rfl
      replace h := h.ext XB
      replace k := k.ext XB
      replace l := l.ext XB
      have hlw : w.heap.size + 2 ≤ ((w.alloc (.cells #[v] 24)).alloc (.cells #[u, u'] 26)).heap.size := by simp
      generalize ((w.alloc (.cells #[v] 24)).alloc (.cells #[u, u'] 26)) = w0 at *
      go_at_call 15; refine (laws_szTree _ _ 1048576 _ _ _ (h.ext ((Ext.refl _))) (by omega) (by decide)).mono ?_; rintro e w1 ⟨rfl, hx1⟩
      have b1_0 := hx1.cell b0_0
      have b1_1 := hx1.cell b0_1
      have b1_2 := hx1.cell b0_2
      clear b0_0 b0_1 b0_2
      (go_wp2_with fail)
      go_at_call 16; refine (laws_szPathCosts _ _ _ _ (1048576 - ps.length) _ _ _ _ _ (k.ext (hx1)) (l.ext (hx1)) (by omega) (by omega)).mono ?_; rintro e w2 ⟨rfl, hx2⟩
      have b2_0 := hx2.cell b1_0
      have b2_1 := hx2.cell b1_1
      have b2_2 := hx2.cell b1_2
      clear b1_0 b1_1 b1_2
      (go_wp2_with fail)
      have hx3 : Ext w2 w2.drew := (Ext.refl _).drew
      have b3_0 := hx3.cell b2_0
      have b3_1 := hx3.cell b2_1
      have b3_2 := hx3.cell b2_2
      go_region_held3 (fun w' => w'.cell? ⟨w.heap.size, 0, none⟩ = some (v) ∧ w'.cell? ⟨w.heap.size + 1, 0, none⟩ = some (u) ∧ w'.cell? ⟨w.heap.size + 1, 1, none⟩ = some (u')) (first | exact ⟨b3_0, b3_1, b3_2⟩ | exact ⟨b4_0, b4_1, b4_2⟩ | exact ⟨b5_0, b5_1, b5_2⟩ | exact ⟨b6_0, b6_1, b6_2⟩)
        (first | (go_at_call 18; have X0_2 := hx1.trans hx2; have X0_3 := X0_2.trans hx3; refine (laws_toTree ps _ _ (h.ext (X0_3)) h2).mono ?_; rintro e w4 ⟨g4_0, rfl, ho4_0, hx4⟩; have b4_0 := hx4.cell b3_0; have b4_1 := hx4.cell b3_1; have b4_2 := hx4.cell b3_2) | (go_at_call 19; have X0_4 := X0_3.trans hx4; refine (laws_toPathCosts ls ds _ _ _ (k.ext (X0_4)) (l.ext (X0_4)) k2 l2).mono ?_; rintro e w5 ⟨g5_0, g5_1, rfl, ho5_0, ho5_1, hx5⟩; have b5_0 := hx5.cell b4_0; have b5_1 := hx5.cell b4_1; have b5_2 := hx5.cell b4_2) | (go_at_call 44; have o1 := own_ext ho4_0 (hx5); refine (cs _ _ _ _ (Rd.own o1) (Rd.own ho5_0) (Rd.own ho5_1)).mono ?_; rintro e w6 ⟨rfl, hx6⟩; have b6_0 := hx6.cell b5_0; have b6_1 := hx6.cell b5_1; have b6_2 := hx6.cell b5_2))
      clear b2_0 b2_1 b2_2 b3_0 b3_1 b3_2 b4_0 b4_1 b4_2 b5_0 b5_1 b5_2
      (go_wp2_with fail)
      have X0_5 := X0_4.trans hx5
      have X0_6 := X0_5.trans hx6
      go_at_call 18; refine (laws_toTree ps _ _ (h.ext (X0_6)) h2).mono ?_; rintro e w7 ⟨g7_0, rfl, ho7_0, hx7⟩
      have b7_0 := hx7.cell b6_0
      have b7_1 := hx7.cell b6_1
      have b7_2 := hx7.cell b6_2
      clear b6_0 b6_1 b6_2
      (go_wp2_with fail)
      have hx8 : Ext w7 (w7.alloc (.cells #[.slice (some ⟨g7_0, 0, none⟩) (ps).length (ps).length] 30)) := (Ext.refl _).alloc _
      have hs8 : w7.heap.size < (w7.alloc (.cells #[.slice (some ⟨g7_0, 0, none⟩) (ps).length (ps).length] 30)).heap.size := by simp
      have b8_3 : (w7.alloc (.cells #[.slice (some ⟨g7_0, 0, none⟩) (ps).length (ps).length] 30)).cell? ⟨w7.heap.size, 0, none⟩ = some (.slice (some ⟨g7_0, 0, none⟩) (ps).length (ps).length) := by rw [cell_of_row _ _ 0 _ _ (0, 0) (heap_at _ rfl)]; rfl
      have b8_0 := hx8.cell b7_0
      have b8_1 := hx8.cell b7_1
      have b8_2 := hx8.cell b7_2
      clear b7_0 b7_1 b7_2
      generalize (w7.alloc (.cells #[.slice (some ⟨g7_0, 0, none⟩) (ps).length (ps).length] 30)) = w8 at *
      have X0_7 := X0_6.trans hx7
      have X0_8 := X0_7.trans hx8
      go_at_call 19; refine (laws_toPathCosts ls ds _ _ _ (k.ext (X0_8)) (l.ext (X0_8)) k2 l2).mono ?_; rintro e w9 ⟨g9_0, g9_1, rfl, ho9_0, ho9_1, hx9⟩
      have b9_0 := hx9.cell b8_0
      have b9_1 := hx9.cell b8_1
      have b9_2 := hx9.cell b8_2
      have b9_3 := hx9.cell b8_3
      clear b8_0 b8_1 b8_2 b8_3
      have hd9 := dis_of ho9_0 ho9_1 (fun j hj => by cases hj; exact Nat.lt_succ_self _)
      replace ho9_1 := own_mono ho9_1 (Nat.le_succ_of_le (own_size ho9_0).1)
      (go_wp2_with fail)
      have hx10 : Ext w9 (w9.alloc (.cells #[.slice (some ⟨g9_0, 0, none⟩) (ls).length (ls).length, .slice (some ⟨g9_1, 0, none⟩) (ds).length (ds).length] 32)) := (Ext.refl _).alloc _
      have hs10 : w9.heap.size < (w9.alloc (.cells #[.slice (some ⟨g9_0, 0, none⟩) (ls).length (ls).length, .slice (some ⟨g9_1, 0, none⟩) (ds).length (ds).length] 32)).heap.size := by simp
      have b10_4 : (w9.alloc (.cells #[.slice (some ⟨g9_0, 0, none⟩) (ls).length (ls).length, .slice (some ⟨g9_1, 0, none⟩) (ds).length (ds).length] 32)).cell? ⟨w9.heap.size, 0, none⟩ = some (.slice (some ⟨g9_0, 0, none⟩) (ls).length (ls).length) := by rw [cell_of_row _ _ 0 _ _ (0, 0) (heap_at _ rfl)]; rfl
      have b10_5 : (w9.alloc (.cells #[.slice (some ⟨g9_0, 0, none⟩) (ls).length (ls).length, .slice (some ⟨g9_1, 0, none⟩) (ds).length (ds).length] 32)).cell? ⟨w9.heap.size, 1, none⟩ = some (.slice (some ⟨g9_1, 0, none⟩) (ds).length (ds).length) := by rw [cell_of_row _ _ 1 _ _ (0, 0) (heap_at _ rfl)]; rfl
      have b10_0 := hx10.cell b9_0
      have b10_1 := hx10.cell b9_1
      have b10_2 := hx10.cell b9_2
      have b10_3 := hx10.cell b9_3
      clear b9_0 b9_1 b9_2 b9_3
      generalize (w9.alloc (.cells #[.slice (some ⟨g9_0, 0, none⟩) (ls).length (ls).length, .slice (some ⟨g9_1, 0, none⟩) (ds).length (ds).length] 32)) = w10 at *
      have X7_9 := hx8.trans hx9
      have X7_10 := X7_9.trans hx10
      have o2 := own_ext ho7_0 (X7_10)
      have o3 := own_ext ho9_0 (hx10)
      have o4 := own_ext ho9_1 (hx10)
      go_at_call 45; refine (ci _ _ _ _ (Rd.own o2) (Rd.own o3) (Rd.own o4)).mono ?_; rintro e w11 ⟨rfl, hx11⟩
      have b11_0 := hx11.cell b10_0
      have b11_1 := hx11.cell b10_1
      have b11_2 := hx11.cell b10_2
      have b11_3 := hx11.cell b10_3
      have b11_4 := hx11.cell b10_4
      have b11_5 := hx11.cell b10_5
      clear b10_0 b10_1 b10_2 b10_3 b10_4 b10_5
      (go_wp2_with fail)
      have hx12 : Ext w11 w11.drew := (Ext.refl _).drew
      have b12_0 := hx12.cell b11_0
      have b12_1 := hx12.cell b11_1
      have b12_2 := hx12.cell b11_2
      have b12_3 := hx12.cell b11_3
      have b12_4 := hx12.cell b11_4
      have b12_5 := hx12.cell b11_5
      go_region_held3 (fun w' => w'.cell? ⟨w.heap.size, 0, none⟩ = some (v) ∧ w'.cell? ⟨w.heap.size + 1, 0, none⟩ = some (u) ∧ w'.cell? ⟨w.heap.size + 1, 1, none⟩ = some (u') ∧ w'.cell? ⟨w7.heap.size, 0, none⟩ = some (.slice (some ⟨g7_0, 0, none⟩) (ps).length (ps).length) ∧ w'.cell? ⟨w9.heap.size, 0, none⟩ = some (.slice (some ⟨g9_0, 0, none⟩) (ls).length (ls).length) ∧ w'.cell? ⟨w9.heap.size, 1, none⟩ = some (.slice (some ⟨g9_1, 0, none⟩) (ds).length (ds).length)) (first | exact ⟨b12_0, b12_1, b12_2, b12_3, b12_4, b12_5⟩ | exact ⟨b13_0, b13_1, b13_2, b13_3, b13_4, b13_5⟩ | exact ⟨b14_0, b14_1, b14_2, b14_3, b14_4, b14_5⟩)
        (first | (go_at_call 18; have X0_9 := X0_8.trans hx9; have X0_10 := X0_9.trans hx10; have X0_11 := X0_10.trans hx11; have X0_12 := X0_11.trans hx12; refine (laws_toTree ps _ _ (h.ext (X0_12)) h2).mono ?_; rintro e w13 ⟨g13_0, rfl, ho13_0, hx13⟩; have b13_0 := hx13.cell b12_0; have b13_1 := hx13.cell b12_1; have b13_2 := hx13.cell b12_2; have b13_3 := hx13.cell b12_3; have b13_4 := hx13.cell b12_4; have b13_5 := hx13.cell b12_5) | (go_at_call 21; have X10_12 := hx11.trans hx12; have X10_13 := X10_12.trans hx13; have o5 := own_ext o2 (X10_13); refine (laws_eqTree ps _ _ _ (Rd.own o5) (Rd.own ho13_0) h2).mono ?_; rintro e w14 ⟨rfl, hx14⟩; have b14_0 := hx14.cell b13_0; have b14_1 := hx14.cell b13_1; have b14_2 := hx14.cell b13_2; have b14_3 := hx14.cell b13_3; have b14_4 := hx14.cell b13_4; have b14_5 := hx14.cell b13_5))
      clear b11_0 b11_1 b11_2 b11_3 b11_4 b11_5 b12_0 b12_1 b12_2 b12_3 b12_4 b12_5 b13_0 b13_1 b13_2 b13_3 b13_4 b13_5
      (go_wp2_with fail)
      have hx15 : Ext w14 w14.drew := (Ext.refl _).drew
      have b15_0 := hx15.cell b14_0
      have b15_1 := hx15.cell b14_1
      have b15_2 := hx15.cell b14_2
      have b15_3 := hx15.cell b14_3
      have b15_4 := hx15.cell b14_4
      have b15_5 := hx15.cell b14_5
      go_region_held3 (fun w' => w'.cell? ⟨w.heap.size, 0, none⟩ = some (v) ∧ w'.cell? ⟨w.heap.size + 1, 0, none⟩ = some (u) ∧ w'.cell? ⟨w.heap.size + 1, 1, none⟩ = some (u') ∧ w'.cell? ⟨w7.heap.size, 0, none⟩ = some (.slice (some ⟨g7_0, 0, none⟩) (ps).length (ps).length) ∧ w'.cell? ⟨w9.heap.size, 0, none⟩ = some (.slice (some ⟨g9_0, 0, none⟩) (ls).length (ls).length) ∧ w'.cell? ⟨w9.heap.size, 1, none⟩ = some (.slice (some ⟨g9_1, 0, none⟩) (ds).length (ds).length)) (first | exact ⟨b15_0, b15_1, b15_2, b15_3, b15_4, b15_5⟩ | exact ⟨b16_0, b16_1, b16_2, b16_3, b16_4, b16_5⟩ | exact ⟨b17_0, b17_1, b17_2, b17_3, b17_4, b17_5⟩)
        (first | (go_at_call 19; have X0_13 := X0_12.trans hx13; have X0_14 := X0_13.trans hx14; have X0_15 := X0_14.trans hx15; refine (laws_toPathCosts ls ds _ _ _ (k.ext (X0_15)) (l.ext (X0_15)) k2 l2).mono ?_; rintro e w16 ⟨g16_0, g16_1, rfl, ho16_0, ho16_1, hx16⟩; have b16_0 := hx16.cell b15_0; have b16_1 := hx16.cell b15_1; have b16_2 := hx16.cell b15_2; have b16_3 := hx16.cell b15_3; have b16_4 := hx16.cell b15_4; have b16_5 := hx16.cell b15_5) | (go_at_call 22; have X10_14 := X10_13.trans hx14; have X10_15 := X10_14.trans hx15; have X10_16 := X10_15.trans hx16; have o6 := own_ext o3 (X10_16); have o7 := own_ext o4 (X10_16); refine (laws_eqPathCosts ls ds _ _ _ _ _ (Rd.own o6) (Rd.own o7) (Rd.own ho16_0) (Rd.own ho16_1) k2 l2).mono ?_; rintro e w17 ⟨rfl, hx17⟩; have b17_0 := hx17.cell b16_0; have b17_1 := hx17.cell b16_1; have b17_2 := hx17.cell b16_2; have b17_3 := hx17.cell b16_3; have b17_4 := hx17.cell b16_4; have b17_5 := hx17.cell b16_5))
      clear b14_0 b14_1 b14_2 b14_3 b14_4 b14_5 b15_0 b15_1 b15_2 b15_3 b15_4 b15_5 b16_0 b16_1 b16_2 b16_3 b16_4 b16_5
      go_wp2
      go_returns
      have X0_16 := X0_15.trans hx16
      have X0_17 := X0_16.trans hx17
      exact ⟨rfl, XB.trans (X0_17)⟩
    · go_enter Try.func11, Try.ntmps11
      go_wp2_with fail
      have XB : Ext w ((w.alloc (.cells #[v] 24)).alloc (.cells #[u, u'] 26)) := (by repeat' (first | exact Ext.refl _ | assumption | refine Ext.alloc ?_ _ | refine Ext.ext ?_ _ | refine Ext.drew ?_ | refine Ext.drewN ?_ _))
      have b0_0 : ((w.alloc (.cells #[v] 24)).alloc (.cells #[u, u'] 26)).cell? ⟨w.heap.size, 0, none⟩ = some v := by rw [cell_of_row _ _ 0 _ _ (0, 0) (heap_old (heap_at _ (by simp)) _)]; rfl
      have b0_1 : ((w.alloc (.cells #[v] 24)).alloc (.cells #[u, u'] 26)).cell? ⟨w.heap.size + 1, 0, none⟩ = some u := by rw [cell_of_row _ _ 0 _ _ (0, 0) (heap_at _ (by simp))]; rfl
      have b0_2 : ((w.alloc (.cells #[v] 24)).alloc (.cells #[u, u'] 26)).cell? ⟨w.heap.size + 1, 1, none⟩ = some u' := by rw [cell_of_row _ _ 1 _ _ (0, 0) (heap_at _ (by simp))]; rfl
      replace h := h.ext XB
      replace k := k.ext XB
      replace l := l.ext XB
      have hlw : w.heap.size + 2 ≤ ((w.alloc (.cells #[v] 24)).alloc (.cells #[u, u'] 26)).heap.size := by simp
      generalize ((w.alloc (.cells #[v] 24)).alloc (.cells #[u, u'] 26)) = w0 at *
      go_at_call 15; refine (laws_szTree _ _ 1048576 _ _ _ h (by omega) (by decide)).mono ?_; rintro e w' ⟨rfl, hx1⟩
      have c0 := hx1.cell b0_0
      have c1 := hx1.cell b0_1
      have c2 := hx1.cell b0_2
      (go_wp2_with fail); go_at_call 16; refine (laws_szPathCosts_big _ _ _ _ (1048576 - ps.length) _ _ _ _ _ (k.ext hx1) (l.ext hx1) (by omega) (by omega) (by omega) km lm).mono ?_; rintro e w' ⟨rfl, hx2⟩
      go_wp2
      go_returns
      exact ⟨rfl, XB.trans (hx1.trans hx2)⟩
  · go_enter Try.func11, Try.ntmps11
    go_wp2_with fail
    have XB : Ext w ((w.alloc (.cells #[v] 24)).alloc (.cells #[u, u'] 26)) := (by repeat' (first | exact Ext.refl _ | assumption | refine Ext.alloc ?_ _ | refine Ext.ext ?_ _ | refine Ext.drew ?_ | refine Ext.drewN ?_ _))
    have b0_0 : ((w.alloc (.cells #[v] 24)).alloc (.cells #[u, u'] 26)).cell? ⟨w.heap.size, 0, none⟩ = some v := by rw [cell_of_row _ _ 0 _ _ (0, 0) (heap_old (heap_at _ (by simp)) _)]; rfl
    have b0_1 : ((w.alloc (.cells #[v] 24)).alloc (.cells #[u, u'] 26)).cell? ⟨w.heap.size + 1, 0, none⟩ = some u := by rw [cell_of_row _ _ 0 _ _ (0, 0) (heap_at _ (by simp))]; rfl
    have b0_2 : ((w.alloc (.cells #[v] 24)).alloc (.cells #[u, u'] 26)).cell? ⟨w.heap.size + 1, 1, none⟩ = some u' := by rw [cell_of_row _ _ 1 _ _ (0, 0) (heap_at _ (by simp))]; rfl
    replace h := h.ext XB
    replace k := k.ext XB
    replace l := l.ext XB
    have hlw : w.heap.size + 2 ≤ ((w.alloc (.cells #[v] 24)).alloc (.cells #[u, u'] 26)).heap.size := by simp
    generalize ((w.alloc (.cells #[v] 24)).alloc (.cells #[u, u'] 26)) = w0 at *
    go_at_call 15; refine (laws_szTree_big _ _ 1048576 _ _ _ h (by omega) (by decide) hm).mono ?_; rintro e w' ⟨rfl, hx1⟩
    go_wp2
    go_returns
    exact ⟨rfl, XB.trans hx1⟩
theorem own : ownKnob Try.prog.godebug = none := by kernel_rfl
theorem laidOut : laidOutB Try.prog = true := by kernel_rfl
theorem lifted (os : Os) (started : os.Started) (H : Type) (enc : TypeId × Value → H) :
    ReturnsInHanded {} Try.checked os 11 .any (Rows.fnExactShareToSpec.pre6 enc Try.prog Try.f11 Rows.fnExactShareToRow.domain false) (Rows.fnExactShareToSpec.post enc Try.prog Try.f11 false true false false) := by
  refine returnsInHanded_of_change (C := Try.checked) own started (by kernel_rfl) Try.func11
    (ChangeSpec.witness6 (enc := enc) (C := Try.checked) false ⟨#[], #[.agg #[.slice none 0 0], .agg #[.slice none 0 0, .slice none 0 0], .int .i64 0], []⟩ 8 (by kernel_rfl) (by kernel_rfl) (by kernel_rfl) (by kernel_rfl)) ?_
  intro W base args ds gs before hval0 hW _ _
  have hval : ∀ (j : Nat) t v, Try.f11.params[j]? = some t → args[j]? = some v → Value.okWide Try.prog W .any base t v := hval0
  have hW' := hW
  obtain ⟨p, q, hA0, hV, rfl, hfz, hnd⟩ := hW
  have hA : DataW.TrodAll enc Try.prog W 0 (fun _ => true) true Try.f11.params.toList args.toList ds p := hA0
  rw [Try.params11] at hA hval
  obtain ⟨v0, vs0, d0, ds0, p0, q0, hargs, rfl, rfl, h0, r0⟩ := trodAll_cons hA
  obtain ⟨v1, vs1, d1, ds1, p1, q1, rfl, rfl, rfl, h1, r1⟩ := trodAll_cons r0
  obtain ⟨v2, vs2, d2, ds2, p2, q2, rfl, rfl, rfl, h2, r2⟩ := trodAll_cons r1
  obtain ⟨rfl, rfl, rfl⟩ := trodAll_nil r2
  obtain rfl : args = #[v0, v1, v2] := by cases args; simp_all
  clear hA0 hval0 hfz hnd hV
  obtain ⟨ps, v, rfl, hr, hlen⟩ := opened_tree (hval 0 _ v0 rfl rfl) h0
  obtain ⟨ls, ds, u, u', rfl, kr, klen, lr, llen⟩ := opened_costs (hval 1 _ v1 rfl rfl) h1
  obtain ⟨x, rfl⟩ := opened_int (hval 2 _ v2 rfl rfl)
  refine (walk ps ls ds _ _ _ x W hr kr lr hlen klen llen).mono fun e W' ⟨he, hx⟩ => ?_
  subst he
  exact ⟨_, rfl, law_post laidOut (by rw [Try.params11]; simp only [List.forall_mem_cons, List.not_mem_nil, false_implies, implies_true, and_true]; repeat' apply And.intro; all_goals first | kernel_rfl | exact of_decide_eq_true (by kernel_rfl)) rfl Try.underlying4 rfl ⟨rfl, rfl, rfl⟩ hW' hx.below⟩
theorem proved : Rows.FnExactShareToSaid :=
  OpenClaim.holds_of_wide 11 Try.f11 rfl rfl rfl rfl rfl rfl rfl ⟨rfl, rfl, rfl, rfl, rfl⟩ rfl rfl rfl rfl rfl (by kernel_rfl) Try.func11 (by kernel_rfl)
    (of_decide_eq_true (by kernel_rfl)) (by unfold Func.isWrapper; first | (rw [if_pos (by decide +kernel)]; kernel_rfl) | (rw [if_neg (by decide +kernel)]; exact ⟨rfl, rfl⟩))
    (fun os started H enc _ => lifted os started H enc)
#print axioms proved
end Go.Proofs.Ythpeicpfaonkdaa.xShareTo
