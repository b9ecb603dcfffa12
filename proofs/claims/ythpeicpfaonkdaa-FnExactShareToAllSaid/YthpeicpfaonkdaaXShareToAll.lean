/- The law FnExactShareToAll. -/
import Derived.Test.YthpeicpfaonkdaaWShare
import Derived.Test.YthpeicpfaonkdaaKit2
import Derived.Test.YthpeicpfaonkdaaWCOpen
import Derived.Test.YthpeicpfaonkdaaWCM
import Derived.Test.YthpeicpfaonkdaaRows
namespace Go.Proofs.Ythpeicpfaonkdaa.xShareToAll
open Go.ChangeShapes Go.WideShapes Go.ChangeAt Go.RowKit
set_option maxHeartbeats 400000
set_option maxRecDepth 10000
theorem walk (ps ls ds ns : List Int) (v u u' y : Value) (w : World) (h : Rd w 1 v ps.length (vInts ps)) (k : Rd w 1 u ls.length (vInts ls)) (l : Rd w 1 u' ds.length (vInts ds))
    (hn : Rd w 1 y ns.length (vInts ns))
    (hm : ps.length ≤ maxLen) (km : ls.length ≤ maxLen) (lm : ds.length ≤ maxLen) :
    Calls Try.prog 12 #[.agg #[v], .agg #[u, u'], y] w fun e w' => e = .returned (.bool true) ∧ Ext w w' := by
  have hn' := hn
  obtain ⟨-, yp, yc, rfl, -⟩ := hn'
  by_cases n2 : ns.length ≤ 1048576
  · have tn : decide ((1048576 : Int) < ns.length) = false := by simp; omega
    have tn' : decide (1048576 < ns.length) = false := by simp; omega
    by_cases h2 : ps.length ≤ 1048576
    · have t0 : decide ((1048576 : Int) - ps.length < 0) = false := by simp; omega
      by_cases hs : (ls.length : Int) + ds.length ≤ 1048576 - ps.length
      · have k2 : ls.length ≤ 1048576 := by omega
        have l2 : ds.length ≤ 1048576 := by omega
        have t1 : decide ((1048576 : Int) - ps.length - ls.length - ds.length < 0) = false := by simp; omega
        have cs := fun v u u' y w h k l m => spec_ShareToAll ps ls ds ns v u u' y w h k l m h2 k2 l2 n2
        have ci := fun v u u' y w h k l m => impl_ShareToAll ps ls ds ns v u u' y w h k l m h2 k2 l2 n2
        generalize shareB ps ls ds ns = D0 at cs ci
        generalize shareNum ps ls ds ns = D1 at cs ci
        generalize shareDen ps ls ds ns = D2 at cs ci
        go_enter Try.func12, Try.ntmps12
        go_wp2_with fail
        have XB : Ext w ((w.alloc (.cells #[v] 24)).alloc (.cells #[u, u'] 26)) := (by repeat' (first | exact Ext.refl _ | assumption | refine Ext.alloc ?_ _ | refine Ext.ext ?_ _ | refine Ext.drew ?_ | refine Ext.drewN ?_ _))
        have b0_0 : ((w.alloc (.cells #[v] 24)).alloc (.cells #[u, u'] 26)).cell? ⟨w.heap.size, 0, none⟩ = some v := by rw [cell_of_row _ _ 0 _ _ (0, 0) (heap_old (heap_at _ (by simp)) _)]; rfl
        have b0_1 : ((w.alloc (.cells #[v] 24)).alloc (.cells #[u, u'] 26)).cell? ⟨w.heap.size + 1, 0, none⟩ = some u := by rw [cell_of_row _ _ 0 _ _ (0, 0) (heap_at _ (by simp))]; rfl
        have b0_2 : ((w.alloc (.cells #[v] 24)).alloc (.cells #[u, u'] 26)).cell? ⟨w.heap.size + 1, 1, none⟩ = some u' := by rw [cell_of_row _ _ 1 _ _ (0, 0) (heap_at _ (by simp))]; rfl
        replace h := h.ext XB
        replace k := k.ext XB
        replace l := l.ext XB
        replace hn := hn.ext XB
        have hlw : w.heap.size + 2 ≤ ((w.alloc (.cells #[v] 24)).alloc (.cells #[u, u'] 26)).heap.size := by simp
        generalize ((w.alloc (.cells #[v] 24)).alloc (.cells #[u, u'] 26)) = w0 at *
        go_at_call 15; refine (laws_szTree _ _ 1048576 _ _ _ (h.ext ((Ext.refl _))) (by omega) (by decide)).mono ?_; rintro e w1 ⟨rfl, hx1⟩
        have b1_0 := hx1.cell b0_0
        have b1_1 := hx1.cell b0_1
        have b1_2 := hx1.cell b0_2
        clear b0_0 b0_1 b0_2
        (go_wp2_with fail)
        go_at_call 16; refine (laws_szPathCosts _ _ _ _ (1048576 - ps.length) _ _ _ _ _ (k.ext (hx1)) (l.ext (hx1)) (by omega) (by omega)).mono ?_; rintro e w2 ⟨rfl, hx2⟩
        have b2_0 := hx2.cell b1_0
        have b2_1 := hx2.cell b1_1
        have b2_2 := hx2.cell b1_2
        clear b1_0 b1_1 b1_2
        (go_wp2_with fail)
        have hx3 : Ext w2 w2.drew := (Ext.refl _).drew
        have b3_0 := hx3.cell b2_0
        have b3_1 := hx3.cell b2_1
        have b3_2 := hx3.cell b2_2
        go_region_held3 (fun w' => w'.cell? ⟨w.heap.size, 0, none⟩ = some (v) ∧ w'.cell? ⟨w.heap.size + 1, 0, none⟩ = some (u) ∧ w'.cell? ⟨w.heap.size + 1, 1, none⟩ = some (u')) (first | exact ⟨b3_0, b3_1, b3_2⟩ | exact ⟨b4_0, b4_1, b4_2⟩ | exact ⟨b5_0, b5_1, b5_2⟩ | exact ⟨b6_0, b6_1, b6_2⟩ | exact ⟨b7_0, b7_1, b7_2⟩)
          (first | (go_at_call 18; have X0_2 := hx1.trans hx2; have X0_3 := X0_2.trans hx3; refine (laws_toTree ps _ _ (h.ext (X0_3)) h2).mono ?_; rintro e w4 ⟨g4_0, rfl, ho4_0, hx4⟩; have b4_0 := hx4.cell b3_0; have b4_1 := hx4.cell b3_1; have b4_2 := hx4.cell b3_2) | (go_at_call 19; have X0_4 := X0_3.trans hx4; refine (laws_toPathCosts ls ds _ _ _ (k.ext (X0_4)) (l.ext (X0_4)) k2 l2).mono ?_; rintro e w5 ⟨g5_0, g5_1, rfl, ho5_0, ho5_1, hx5⟩; have b5_0 := hx5.cell b4_0; have b5_1 := hx5.cell b4_1; have b5_2 := hx5.cell b4_2) | (go_at_call 37; have X0_5 := X0_4.trans hx5; refine (laws_toIntS ns _ _ (hn.ext (X0_5)) n2).mono ?_; rintro e w6 ⟨g6_0, rfl, ho6_0, hx6⟩; have b6_0 := hx6.cell b5_0; have b6_1 := hx6.cell b5_1; have b6_2 := hx6.cell b5_2) | (go_at_call 46; have X4_6 := hx5.trans hx6; have o1 := own_ext ho4_0 (X4_6); have o2 := own_ext ho5_0 (hx6); have o3 := own_ext ho5_1 (hx6); refine (cs _ _ _ _ _ (Rd.own o1) (Rd.own o2) (Rd.own o3) (Rd.own ho6_0)).mono ?_; rintro e w7 ⟨rfl, hx7⟩; have b7_0 := hx7.cell b6_0; have b7_1 := hx7.cell b6_1; have b7_2 := hx7.cell b6_2))
        clear b2_0 b2_1 b2_2 b3_0 b3_1 b3_2 b4_0 b4_1 b4_2 b5_0 b5_1 b5_2 b6_0 b6_1 b6_2
        (go_wp2_with fail)
        have X0_6 := X0_5.trans hx6
        have X0_7 := X0_6.trans hx7
        go_at_call 18; refine (laws_toTree ps _ _ (h.ext (X0_7)) h2).mono ?_; rintro e w8 ⟨g8_0, rfl, ho8_0, hx8⟩
        have b8_0 := hx8.cell b7_0
        have b8_1 := hx8.cell b7_1
        have b8_2 := hx8.cell b7_2
        clear b7_0 b7_1 b7_2
        (go_wp2_with fail)
        have hx9 : Ext w8 (w8.alloc (.cells #[.slice (some ⟨g8_0, 0, none⟩) (ps).length (ps).length] 30)) := (Ext.refl _).alloc _
        have hs9 : w8.heap.size < (w8.alloc (.cells #[.slice (some ⟨g8_0, 0, none⟩) (ps).length (ps).length] 30)).heap.size := by simp
        have b9_3 : (w8.alloc (.cells #[.slice (some ⟨g8_0, 0, none⟩) (ps).length (ps).length] 30)).cell? ⟨w8.heap.size, 0, none⟩ = some (.slice (some ⟨g8_0, 0, none⟩) (ps).length (ps).length) := by rw [cell_of_row _ _ 0 _ _ (0, 0) (heap_at _ rfl)]; rfl
        have b9_0 := hx9.cell b8_0
        have b9_1 := hx9.cell b8_1
        have b9_2 := hx9.cell b8_2
        clear b8_0 b8_1 b8_2
        generalize (w8.alloc (.cells #[.slice (some ⟨g8_0, 0, none⟩) (ps).length (ps).length] 30)) = w9 at *
        have X0_8 := X0_7.trans hx8
        have X0_9 := X0_8.trans hx9
        go_at_call 19; refine (laws_toPathCosts ls ds _ _ _ (k.ext (X0_9)) (l.ext (X0_9)) k2 l2).mono ?_; rintro e w10 ⟨g10_0, g10_1, rfl, ho10_0, ho10_1, hx10⟩
        have b10_0 := hx10.cell b9_0
        have b10_1 := hx10.cell b9_1
        have b10_2 := hx10.cell b9_2
        have b10_3 := hx10.cell b9_3
        clear b9_0 b9_1 b9_2 b9_3
        have hd10 := dis_of ho10_0 ho10_1 (fun j hj => by cases hj; exact Nat.lt_succ_self _)
        replace ho10_1 := own_mono ho10_1 (Nat.le_succ_of_le (own_size ho10_0).1)
        (go_wp2_with fail)
        have hx11 : Ext w10 (w10.alloc (.cells #[.slice (some ⟨g10_0, 0, none⟩) (ls).length (ls).length, .slice (some ⟨g10_1, 0, none⟩) (ds).length (ds).length] 32)) := (Ext.refl _).alloc _
        have hs11 : w10.heap.size < (w10.alloc (.cells #[.slice (some ⟨g10_0, 0, none⟩) (ls).length (ls).length, .slice (some ⟨g10_1, 0, none⟩) (ds).length (ds).length] 32)).heap.size := by simp
        have b11_4 : (w10.alloc (.cells #[.slice (some ⟨g10_0, 0, none⟩) (ls).length (ls).length, .slice (some ⟨g10_1, 0, none⟩) (ds).length (ds).length] 32)).cell? ⟨w10.heap.size, 0, none⟩ = some (.slice (some ⟨g10_0, 0, none⟩) (ls).length (ls).length) := by rw [cell_of_row _ _ 0 _ _ (0, 0) (heap_at _ rfl)]; rfl
        have b11_5 : (w10.alloc (.cells #[.slice (some ⟨g10_0, 0, none⟩) (ls).length (ls).length, .slice (some ⟨g10_1, 0, none⟩) (ds).length (ds).length] 32)).cell? ⟨w10.heap.size, 1, none⟩ = some (.slice (some ⟨g10_1, 0, none⟩) (ds).length (ds).length) := by rw [cell_of_row _ _ 1 _ _ (0, 0) (heap_at _ rfl)]; rfl
        have b11_0 := hx11.cell b10_0
        have b11_1 := hx11.cell b10_1
        have b11_2 := hx11.cell b10_2
        have b11_3 := hx11.cell b10_3
        clear b10_0 b10_1 b10_2 b10_3
        generalize (w10.alloc (.cells #[.slice (some ⟨g10_0, 0, none⟩) (ls).length (ls).length, .slice (some ⟨g10_1, 0, none⟩) (ds).length (ds).length] 32)) = w11 at *
        have X0_10 := X0_9.trans hx10
        have X0_11 := X0_10.trans hx11
        go_at_call 37; refine (laws_toIntS ns _ _ (hn.ext (X0_11)) n2).mono ?_; rintro e w12 ⟨g12_0, rfl, ho12_0, hx12⟩
        have b12_0 := hx12.cell b11_0
        have b12_1 := hx12.cell b11_1
        have b12_2 := hx12.cell b11_2
        have b12_3 := hx12.cell b11_3
        have b12_4 := hx12.cell b11_4
        have b12_5 := hx12.cell b11_5
        clear b11_0 b11_1 b11_2 b11_3 b11_4 b11_5
        (go_wp2_with fail)
        have X8_10 := hx9.trans hx10
        have X8_11 := X8_10.trans hx11
        have X8_12 := X8_11.trans hx12
        have o4 := own_ext ho8_0 (X8_12)
        have X10_12 := hx11.trans hx12
        have o5 := own_ext ho10_0 (X10_12)
        have o6 := own_ext ho10_1 (X10_12)
        go_at_call 47; refine (ci _ _ _ _ _ (Rd.own o4) (Rd.own o5) (Rd.own o6) (Rd.own ho12_0)).mono ?_; rintro e w13 ⟨rfl, hx13⟩
        have b13_0 := hx13.cell b12_0
        have b13_1 := hx13.cell b12_1
        have b13_2 := hx13.cell b12_2
        have b13_3 := hx13.cell b12_3
        have b13_4 := hx13.cell b12_4
        have b13_5 := hx13.cell b12_5
        clear b12_0 b12_1 b12_2 b12_3 b12_4 b12_5
        (go_wp2_with fail)
        have hx14 : Ext w13 w13.drew := (Ext.refl _).drew
        have b14_0 := hx14.cell b13_0
        have b14_1 := hx14.cell b13_1
        have b14_2 := hx14.cell b13_2
        have b14_3 := hx14.cell b13_3
        have b14_4 := hx14.cell b13_4
        have b14_5 := hx14.cell b13_5
        go_region_held3 (fun w' => w'.cell? ⟨w.heap.size, 0, none⟩ = some (v) ∧ w'.cell? ⟨w.heap.size + 1, 0, none⟩ = some (u) ∧ w'.cell? ⟨w.heap.size + 1, 1, none⟩ = some (u') ∧ w'.cell? ⟨w8.heap.size, 0, none⟩ = some (.slice (some ⟨g8_0, 0, none⟩) (ps).length (ps).length) ∧ w'.cell? ⟨w10.heap.size, 0, none⟩ = some (.slice (some ⟨g10_0, 0, none⟩) (ls).length (ls).length) ∧ w'.cell? ⟨w10.heap.size, 1, none⟩ = some (.slice (some ⟨g10_1, 0, none⟩) (ds).length (ds).length)) (first | exact ⟨b14_0, b14_1, b14_2, b14_3, b14_4, b14_5⟩ | exact ⟨b15_0, b15_1, b15_2, b15_3, b15_4, b15_5⟩ | exact ⟨b16_0, b16_1, b16_2, b16_3, b16_4, b16_5⟩)
          (first | (go_at_call 18; have X0_12 := X0_11.trans hx12; have X0_13 := X0_12.trans hx13; have X0_14 := X0_13.trans hx14; refine (laws_toTree ps _ _ (h.ext (X0_14)) h2).mono ?_; rintro e w15 ⟨g15_0, rfl, ho15_0, hx15⟩; have b15_0 := hx15.cell b14_0; have b15_1 := hx15.cell b14_1; have b15_2 := hx15.cell b14_2; have b15_3 := hx15.cell b14_3; have b15_4 := hx15.cell b14_4; have b15_5 := hx15.cell b14_5) | (go_at_call 21; have X12_14 := hx13.trans hx14; have X12_15 := X12_14.trans hx15; have o7 := own_ext o4 (X12_15); refine (laws_eqTree ps _ _ _ (Rd.own o7) (Rd.own ho15_0) h2).mono ?_; rintro e w16 ⟨rfl, hx16⟩; have b16_0 := hx16.cell b15_0; have b16_1 := hx16.cell b15_1; have b16_2 := hx16.cell b15_2; have b16_3 := hx16.cell b15_3; have b16_4 := hx16.cell b15_4; have b16_5 := hx16.cell b15_5))
        clear b13_0 b13_1 b13_2 b13_3 b13_4 b13_5 b14_0 b14_1 b14_2 b14_3 b14_4 b14_5 b15_0 b15_1 b15_2 b15_3 b15_4 b15_5
        (go_wp2_with fail)
        have hx17 : Ext w16 w16.drew := (Ext.refl _).drew
        have b17_0 := hx17.cell b16_0
        have b17_1 := hx17.cell b16_1
        have b17_2 := hx17.cell b16_2
        have b17_3 := hx17.cell b16_3
        have b17_4 := hx17.cell b16_4
        have b17_5 := hx17.cell b16_5
        go_region_held3 (fun w' => w'.cell? ⟨w.heap.size, 0, none⟩ = some (v) ∧ w'.cell? ⟨w.heap.size + 1, 0, none⟩ = some (u) ∧ w'.cell? ⟨w.heap.size + 1, 1, none⟩ = some (u') ∧ w'.cell? ⟨w8.heap.size, 0, none⟩ = some (.slice (some ⟨g8_0, 0, none⟩) (ps).length (ps).length) ∧ w'.cell? ⟨w10.heap.size, 0, none⟩ = some (.slice (some ⟨g10_0, 0, none⟩) (ls).length (ls).length) ∧ w'.cell? ⟨w10.heap.size, 1, none⟩ = some (.slice (some ⟨g10_1, 0, none⟩) (ds).length (ds).length)) (first | exact ⟨b17_0, b17_1, b17_2, b17_3, b17_4, b17_5⟩ | exact ⟨b18_0, b18_1, b18_2, b18_3, b18_4, b18_5⟩ | exact ⟨b19_0, b19_1, b19_2, b19_3, b19_4, b19_5⟩)
          (first | (go_at_call 19; have X0_15 := X0_14.trans hx15; have X0_16 := X0_15.trans hx16; have X0_17 := X0_16.trans hx17; refine (laws_toPathCosts ls ds _ _ _ (k.ext (X0_17)) (l.ext (X0_17)) k2 l2).mono ?_; rintro e w18 ⟨g18_0, g18_1, rfl, ho18_0, ho18_1, hx18⟩; have b18_0 := hx18.cell b17_0; have b18_1 := hx18.cell b17_1; have b18_2 := hx18.cell b17_2; have b18_3 := hx18.cell b17_3; have b18_4 := hx18.cell b17_4; have b18_5 := hx18.cell b17_5) | (go_at_call 22; have X12_16 := X12_15.trans hx16; have X12_17 := X12_16.trans hx17; have X12_18 := X12_17.trans hx18; have o8 := own_ext o5 (X12_18); have o9 := own_ext o6 (X12_18); refine (laws_eqPathCosts ls ds _ _ _ _ _ (Rd.own o8) (Rd.own o9) (Rd.own ho18_0) (Rd.own ho18_1) k2 l2).mono ?_; rintro e w19 ⟨rfl, hx19⟩; have b19_0 := hx19.cell b18_0; have b19_1 := hx19.cell b18_1; have b19_2 := hx19.cell b18_2; have b19_3 := hx19.cell b18_3; have b19_4 := hx19.cell b18_4; have b19_5 := hx19.cell b18_5))
        clear b16_0 b16_1 b16_2 b16_3 b16_4 b16_5 b17_0 b17_1 b17_2 b17_3 b17_4 b17_5 b18_0 b18_1 b18_2 b18_3 b18_4 b18_5
        (go_wp2_with fail)
        have X0_18 := X0_17.trans hx18
        have X0_19 := X0_18.trans hx19
        go_at_call 37; refine (laws_toIntS ns _ _ (hn.ext (X0_19)) n2).mono ?_; rintro e w20 ⟨g20_0, rfl, ho20_0, hx20⟩
        have b20_0 := hx20.cell b19_0
        have b20_1 := hx20.cell b19_1
        have b20_2 := hx20.cell b19_2
        have b20_3 := hx20.cell b19_3
        have b20_4 := hx20.cell b19_4
        have b20_5 := hx20.cell b19_5
        clear b19_0 b19_1 b19_2 b19_3 b19_4 b19_5
        (go_wp2_with fail)
        have X12_19 := X12_18.trans hx19
        have X12_20 := X12_19.trans hx20
        have o10 := own_ext ho12_0 (X12_20)
        go_at_call 39; refine (laws_eqIntS ns _ _ _ (Rd.own o10) (Rd.own ho20_0) (Nat.le_trans n2 (by decide))).mono ?_; rintro e w21 ⟨rfl, hx21⟩
        have b21_0 := hx21.cell b20_0
        have b21_1 := hx21.cell b20_1
        have b21_2 := hx21.cell b20_2
        have b21_3 := hx21.cell b20_3
        have b21_4 := hx21.cell b20_4
        have b21_5 := hx21.cell b20_5
        clear b20_0 b20_1 b20_2 b20_3 b20_4 b20_5
        go_wp2
        go_returns
        have X0_20 := X0_19.trans hx20
        have X0_21 := X0_20.trans hx21
        exact ⟨rfl, XB.trans (X0_21)⟩
      · go_enter Try.func12, Try.ntmps12
        go_wp2_with fail
        have XB : Ext w ((w.alloc (.cells #[v] 24)).alloc (.cells #[u, u'] 26)) := (by repeat' (first | exact Ext.refl _ | assumption | refine Ext.alloc ?_ _ | refine Ext.ext ?_ _ | refine Ext.drew ?_ | refine Ext.drewN ?_ _))
        have b0_0 : ((w.alloc (.cells #[v] 24)).alloc (.cells #[u, u'] 26)).cell? ⟨w.heap.size, 0, none⟩ = some v := by rw [cell_of_row _ _ 0 _ _ (0, 0) (heap_old (heap_at _ (by simp)) _)]; rfl
        have b0_1 : ((w.alloc (.cells #[v] 24)).alloc (.cells #[u, u'] 26)).cell? ⟨w.heap.size + 1, 0, none⟩ = some u := by rw [cell_of_row _ _ 0 _ _ (0, 0) (heap_at _ (by simp))]; rfl
        have b0_2 : ((w.alloc (.cells #[v] 24)).alloc (.cells #[u, u'] 26)).cell? ⟨w.heap.size + 1, 1, none⟩ = some u' := by rw [cell_of_row _ _ 1 _ _ (0, 0) (heap_at _ (by simp))]; rfl
        replace h := h.ext XB
        replace k := k.ext XB
        replace l := l.ext XB
        replace hn := hn.ext XB
        have hlw : w.heap.size + 2 ≤ ((w.alloc (.cells #[v] 24)).alloc (.cells #[u, u'] 26)).heap.size := by simp
        generalize ((w.alloc (.cells #[v] 24)).alloc (.cells #[u, u'] 26)) = w0 at *
        go_at_call 15; refine (laws_szTree _ _ 1048576 _ _ _ h (by omega) (by decide)).mono ?_; rintro e w' ⟨rfl, hx1⟩
        have c0 := hx1.cell b0_0
        have c1 := hx1.cell b0_1
        have c2 := hx1.cell b0_2
        (go_wp2_with fail); go_at_call 16; refine (laws_szPathCosts_big _ _ _ _ (1048576 - ps.length) _ _ _ _ _ (k.ext hx1) (l.ext hx1) (by omega) (by omega) (by omega) km lm).mono ?_; rintro e w' ⟨rfl, hx2⟩
        go_wp2
        go_returns
        exact ⟨rfl, XB.trans (hx1.trans hx2)⟩
    · go_enter Try.func12, Try.ntmps12
      go_wp2_with fail
      have XB : Ext w ((w.alloc (.cells #[v] 24)).alloc (.cells #[u, u'] 26)) := (by repeat' (first | exact Ext.refl _ | assumption | refine Ext.alloc ?_ _ | refine Ext.ext ?_ _ | refine Ext.drew ?_ | refine Ext.drewN ?_ _))
      have b0_0 : ((w.alloc (.cells #[v] 24)).alloc (.cells #[u, u'] 26)).cell? ⟨w.heap.size, 0, none⟩ = some v := by rw [cell_of_row _ _ 0 _ _ (0, 0) (heap_old (heap_at _ (by simp)) _)]; rfl
      have b0_1 : ((w.alloc (.cells #[v] 24)).alloc (.cells #[u, u'] 26)).cell? ⟨w.heap.size + 1, 0, none⟩ = some u := by rw [cell_of_row _ _ 0 _ _ (0, 0) (heap_at _ (by simp))]; rfl
      have b0_2 : ((w.alloc (.cells #[v] 24)).alloc (.cells #[u, u'] 26)).cell? ⟨w.heap.size + 1, 1, none⟩ = some u' := by rw [cell_of_row _ _ 1 _ _ (0, 0) (heap_at _ (by simp))]; rfl
      replace h := h.ext XB
      replace k := k.ext XB
      replace l := l.ext XB
      replace hn := hn.ext XB
      have hlw : w.heap.size + 2 ≤ ((w.alloc (.cells #[v] 24)).alloc (.cells #[u, u'] 26)).heap.size := by simp
      generalize ((w.alloc (.cells #[v] 24)).alloc (.cells #[u, u'] 26)) = w0 at *
      go_at_call 15; refine (laws_szTree_big _ _ 1048576 _ _ _ h (by omega) (by decide) hm).mono ?_; rintro e w' ⟨rfl, hx1⟩
      go_wp2
      go_returns
      exact ⟨rfl, XB.trans hx1⟩
  · have tn : decide ((1048576 : Int) < ns.length) = true := by simp; omega
    have tn' : decide (1048576 < ns.length) = true := by simp; omega
    go_enter Try.func12, Try.ntmps12
    go_wp2
    go_returns
    exact ⟨rfl, (by repeat' (first | exact Ext.refl _ | assumption | refine Ext.alloc ?_ _ | refine Ext.ext ?_ _ | refine Ext.drew ?_ | refine Ext.drewN ?_ _))⟩
theorem own : ownKnob Try.prog.godebug = none := by kernel_rfl
theorem laidOut : laidOutB Try.prog = true := by kernel_rfl
theorem lifted (os : Os) (started : os.Started) (H : Type) (enc : TypeId × Value → H) :
    ReturnsInHanded {} Try.checked os 12 .any (Rows.fnExactShareToAllSpec.pre6 enc Try.prog Try.f12 Rows.fnExactShareToAllRow.domain false) (Rows.fnExactShareToAllSpec.post enc Try.prog Try.f12 false true false false) := by
  refine returnsInHanded_of_change (C := Try.checked) own started (by kernel_rfl) Try.func12
    (ChangeSpec.witness6 (enc := enc) (C := Try.checked) false ⟨#[], #[.agg #[.slice none 0 0], .agg #[.slice none 0 0, .slice none 0 0], .slice none 0 0], []⟩ 8 (by kernel_rfl) (by kernel_rfl) (by kernel_rfl) (by kernel_rfl)) ?_
  intro W base args ds gs before hval0 hW _ _
  have hval : ∀ (j : Nat) t v, Try.f12.params[j]? = some t → args[j]? = some v → Value.okWide Try.prog W .any base t v := hval0
  have hW' := hW
  obtain ⟨p, q, hA0, hV, rfl, hfz, hnd⟩ := hW
  have hA : DataW.TrodAll enc Try.prog W 0 (fun _ => true) true Try.f12.params.toList args.toList ds p := hA0
  rw [Try.params12] at hA hval
  obtain ⟨v0, vs0, d0, ds0, p0, q0, hargs, rfl, rfl, h0, r0⟩ := trodAll_cons hA
  obtain ⟨v1, vs1, d1, ds1, p1, q1, rfl, rfl, rfl, h1, r1⟩ := trodAll_cons r0
  obtain ⟨v2, vs2, d2, ds2, p2, q2, rfl, rfl, rfl, h2, r2⟩ := trodAll_cons r1
  obtain ⟨rfl, rfl, rfl⟩ := trodAll_nil r2
  obtain rfl : args = #[v0, v1, v2] := by cases args; simp_all
  clear hA0 hval0 hfz hnd hV
  obtain ⟨ps, v, rfl, hr, hlen⟩ := opened_tree (hval 0 _ v0 rfl rfl) h0
  obtain ⟨ls, ds, u, u', rfl, kr, klen, lr, llen⟩ := opened_costs (hval 1 _ v1 rfl rfl) h1
  obtain ⟨ns, hn, nlen⟩ := opened_ints (hval 2 _ v2 rfl rfl) h2
  refine (walk ps ls ds ns _ _ _ _ W hr kr lr hn hlen klen llen).mono fun e W' ⟨he, hx⟩ => ?_
  subst he
  exact ⟨_, rfl, law_post laidOut (by rw [Try.params12]; simp only [List.forall_mem_cons, List.not_mem_nil, false_implies, implies_true, and_true]; repeat' apply And.intro; all_goals first | kernel_rfl | exact of_decide_eq_true (by kernel_rfl)) rfl Try.underlying4 rfl ⟨rfl, rfl, rfl⟩ hW' hx.below⟩
theorem proved : Rows.FnExactShareToAllSaid :=
  OpenClaim.holds_of_wide 12 Try.f12 rfl rfl rfl rfl rfl rfl rfl ⟨rfl, rfl, rfl, rfl, rfl⟩ rfl rfl rfl rfl rfl (by kernel_rfl) Try.func12 (by kernel_rfl)
    (of_decide_eq_true (by kernel_rfl)) (by unfold Func.isWrapper; first | (rw [if_pos (by decide +kernel)]; kernel_rfl) | (rw [if_neg (by decide +kernel)]; exact ⟨rfl, rfl⟩))
    (fun os started H enc _ => lifted os started H enc)
#print axioms proved
end Go.Proofs.Ythpeicpfaonkdaa.xShareToAll
