/- The law FnExactBranchesFor. -/
import Derived.Test.YthjklcodgcojbaaDoorWBr
import Derived.Test.YthjklcodgcojbaaDoorKit2
import Derived.Test.YthjklcodgcojbaaDoorWCOpen
import Derived.Test.YthjklcodgcojbaaDoorWGrp
import Derived.Test.YthjklcodgcojbaaDoorRows
import Derived.Test.YthjklcodgcojbaaDoorTie
import Derived.Test.YthjklcodgcojbaaDoorCards
import Derived.Lay
import Derived.SevenTiedAt
namespace Go.Proofs.YthjklcodgcojbaaDoor.xBranchesFor
open Go.ChangeShapes Go.WideShapes Go.ChangeAt Go.RowKit
set_option maxHeartbeats 400000
set_option maxRecDepth 100000
theorem walk (ps : List Int) (s : ByteArray) (ms : List Int) (v u : Value) (x : Int) (w : World) (h : Rd w 1 v ps.length (vInts ps)) (k : Rd w 1 u ms.length (vInts ms)) (hm : ps.length ≤ maxLen) (hsm : s.size ≤ maxLen) (km : ms.length ≤ maxLen) :
    Calls Tryd.prog 7 #[.agg #[v], .agg #[.string s, u], .int .i64 x] w fun e w' => e = .returned (.bool true) ∧ Ext w w' := by
  by_cases h2 : ps.length ≤ 1048576
  · have t0 : decide ((1048576 : Int) - ps.length < 0) = false := by simp; omega
    by_cases hs : (s.size : Int) + ms.length ≤ 1048576 - ps.length
    · have k2 : ms.length ≤ 1048576 := by omega
      have s2 : s.size ≤ 1048576 := by omega
      have t1 : decide ((1048576 : Int) - ps.length - s.size - ms.length < 0) = false := by simp; omega
      have cs := fun v u w h k => spec_BranchesFor ps s ms v u x w h k h2 s2 k2
      have ci := fun v u w h k => impl_BranchesFor ps s ms v u x w h k h2 s2 k2
      have hD : (brL ps s ms x).length ≤ 1048576 := Nat.le_trans (brL_len ps s ms x) (by decide)
      generalize brL ps s ms x = D at cs ci hD
      generalize brB ps s ms x = b at cs ci
      have tk : decide ((1 : Int) + ps.length + ms.length < 0) = false := by simp; omega
      have tm : decide ((1 : Int) + D.length < 0) = false := by simp; omega
      go_enter Tryd.func7, Tryd.ntmps7
      go_wp2_with fail
      have XB : Ext w ((w.alloc (.cells #[v] 38)).alloc (.cells #[(.string s), u] 40)) := (by repeat' (first | exact Ext.refl _ | assumption | refine Ext.alloc ?_ _ | refine Ext.ext ?_ _ | refine Ext.drew ?_ | refine Ext.drewN ?_ _))
      have b0_0 : ((w.alloc (.cells #[v] 38)).alloc (.cells #[(.string s), u] 40)).cell? ⟨w.heap.size, 0, none⟩ = some v := by rw [cell_of_row _ _ 0 _ _ (0, 0) (heap_old (heap_at _ (by simp)) _)]; rfl
      have b0_1 : ((w.alloc (.cells #[v] 38)).alloc (.cells #[(.string s), u] 40)).cell? ⟨w.heap.size + 1, 0, none⟩ = some (.string s) := by rw [cell_of_row _ _ 0 _ _ (0, 0) (heap_at _ (by simp))]; rfl
      have b0_2 : ((w.alloc (.cells #[v] 38)).alloc (.cells #[(.string s), u] 40)).cell? ⟨w.heap.size + 1, 1, none⟩ = some u := by rw [cell_of_row _ _ 1 _ _ (0, 0) (heap_at _ (by simp))]; rfl
      replace h := h.ext XB
      replace k := k.ext XB
      have hlw : w.heap.size + 2 ≤ ((w.alloc (.cells #[v] 38)).alloc (.cells #[(.string s), u] 40)).heap.size := by simp
      generalize ((w.alloc (.cells #[v] 38)).alloc (.cells #[(.string s), u] 40)) = w0 at *
      go_at_call 23; refine (laws_szTree _ _ 1048576 _ _ _ (h.ext ((Ext.refl w0))) (by omega) (by decide)).mono ?_; rintro e w1 ⟨rfl, hx1⟩
      have b1_0 := hx1.cell b0_0
      have b1_1 := hx1.cell b0_1
      have b1_2 := hx1.cell b0_2
      clear b0_0 b0_1 b0_2
      (go_wp2_with fail)
      go_at_call 24; refine (laws_szGroup s _ _ (1048576 - ps.length) _ _ _ (k.ext (hx1)) (by omega) (by omega)).mono ?_; rintro e w2 ⟨rfl, hx2⟩
      have b2_0 := hx2.cell b1_0
      have b2_1 := hx2.cell b1_1
      have b2_2 := hx2.cell b1_2
      clear b1_0 b1_1 b1_2
      (go_wp2_with fail)
      have hx3 : Ext w2 w2.drew := (Ext.refl _).drew
      have b3_0 := hx3.cell b2_0
      have b3_1 := hx3.cell b2_1
      have b3_2 := hx3.cell b2_2
      go_region_held3 (fun w' => w'.cell? ⟨w.heap.size, 0, none⟩ = some (v) ∧ w'.cell? ⟨w.heap.size + 1, 0, none⟩ = some ((.string s)) ∧ w'.cell? ⟨w.heap.size + 1, 1, none⟩ = some (u)) (first | exact ⟨b3_0, b3_1, b3_2⟩ | exact ⟨b4_0, b4_1, b4_2⟩ | exact ⟨b5_0, b5_1, b5_2⟩ | exact ⟨b6_0, b6_1, b6_2⟩)
        (first | (go_at_call 26; have X0_2 := hx1.trans hx2; have X0_3 := X0_2.trans hx3; refine (laws_toTree ps _ _ (h.ext (X0_3)) h2).mono ?_; rintro e w4 ⟨g4_0, rfl, ho4_0, hx4⟩; have b4_0 := hx4.cell b3_0; have b4_1 := hx4.cell b3_1; have b4_2 := hx4.cell b3_2) | (go_at_call 27; have X0_4 := X0_3.trans hx4; refine (laws_toGroup ms _ _ (k.ext (X0_4)) k2).mono ?_; rintro e w5 ⟨g5_0, rfl, ho5_0, hx5⟩; have b5_0 := hx5.cell b4_0; have b5_1 := hx5.cell b4_1; have b5_2 := hx5.cell b4_2) | (go_at_call 35; have o1 := own_ext ho4_0 (hx5); refine (cs _ _ _ (Rd.own o1) (Rd.own ho5_0)).mono ?_; rintro e w6 ⟨r6_0_0, rfl, ho6_0_0, hx6⟩; have b6_0 := hx6.cell b5_0; have b6_1 := hx6.cell b5_1; have b6_2 := hx6.cell b5_2))
      clear b2_0 b2_1 b2_2 b3_0 b3_1 b3_2 b4_0 b4_1 b4_2 b5_0 b5_1 b5_2
      (go_wp2_with fail)
      have X0_5 := X0_4.trans hx5
      have X0_6 := X0_5.trans hx6
      go_at_call 26; refine (laws_toTree ps _ _ (h.ext (X0_6)) h2).mono ?_; rintro e w7 ⟨g7_0, rfl, ho7_0, hx7⟩
      have b7_0 := hx7.cell b6_0
      have b7_1 := hx7.cell b6_1
      have b7_2 := hx7.cell b6_2
      clear b6_0 b6_1 b6_2
      (go_wp2_with fail)
      have hx8 : Ext w7 (w7.alloc (.cells #[.slice (some ⟨g7_0, 0, none⟩) (ps).length (ps).length] 44)) := (Ext.refl _).alloc _
      have hs8 : w7.heap.size < (w7.alloc (.cells #[.slice (some ⟨g7_0, 0, none⟩) (ps).length (ps).length] 44)).heap.size := by simp
      have b8_3 : (w7.alloc (.cells #[.slice (some ⟨g7_0, 0, none⟩) (ps).length (ps).length] 44)).cell? ⟨w7.heap.size, 0, none⟩ = some (.slice (some ⟨g7_0, 0, none⟩) (ps).length (ps).length) := by rw [cell_of_row _ _ 0 _ _ (0, 0) (heap_at _ rfl)]; rfl
      have b8_0 := hx8.cell b7_0
      have b8_1 := hx8.cell b7_1
      have b8_2 := hx8.cell b7_2
      clear b7_0 b7_1 b7_2
      generalize (w7.alloc (.cells #[.slice (some ⟨g7_0, 0, none⟩) (ps).length (ps).length] 44)) = w8 at *
      have X0_7 := X0_6.trans hx7
      have X0_8 := X0_7.trans hx8
      go_at_call 27; refine (laws_toGroup ms _ _ (k.ext (X0_8)) k2).mono ?_; rintro e w9 ⟨g9_0, rfl, ho9_0, hx9⟩
      have b9_0 := hx9.cell b8_0
      have b9_1 := hx9.cell b8_1
      have b9_2 := hx9.cell b8_2
      have b9_3 := hx9.cell b8_3
      clear b8_0 b8_1 b8_2 b8_3
      (go_wp2_with fail)
      have hx10 : Ext w9 (w9.alloc (.cells #[(.string s), .slice (some ⟨g9_0, 0, none⟩) (ms).length (ms).length] 46)) := (Ext.refl _).alloc _
      have hs10 : w9.heap.size < (w9.alloc (.cells #[(.string s), .slice (some ⟨g9_0, 0, none⟩) (ms).length (ms).length] 46)).heap.size := by simp
      have b10_4 : (w9.alloc (.cells #[(.string s), .slice (some ⟨g9_0, 0, none⟩) (ms).length (ms).length] 46)).cell? ⟨w9.heap.size, 0, none⟩ = some ((.string s)) := by rw [cell_of_row _ _ 0 _ _ (0, 0) (heap_at _ rfl)]; rfl
      have b10_5 : (w9.alloc (.cells #[(.string s), .slice (some ⟨g9_0, 0, none⟩) (ms).length (ms).length] 46)).cell? ⟨w9.heap.size, 1, none⟩ = some (.slice (some ⟨g9_0, 0, none⟩) (ms).length (ms).length) := by rw [cell_of_row _ _ 1 _ _ (0, 0) (heap_at _ rfl)]; rfl
      have b10_0 := hx10.cell b9_0
      have b10_1 := hx10.cell b9_1
      have b10_2 := hx10.cell b9_2
      have b10_3 := hx10.cell b9_3
      clear b9_0 b9_1 b9_2 b9_3
      generalize (w9.alloc (.cells #[(.string s), .slice (some ⟨g9_0, 0, none⟩) (ms).length (ms).length] 46)) = w10 at *
      have X7_9 := hx8.trans hx9
      have X7_10 := X7_9.trans hx10
      have o2 := own_ext ho7_0 (X7_10)
      have o3 := own_ext ho9_0 (hx10)
      go_at_call 36; refine (ci _ _ _ (Rd.own o2) (Rd.own o3)).mono ?_; rintro e w11 ⟨r11_0_0, rfl, ho11_0_0, hx11⟩
      have b11_0 := hx11.cell b10_0
      have b11_1 := hx11.cell b10_1
      have b11_2 := hx11.cell b10_2
      have b11_3 := hx11.cell b10_3
      have b11_4 := hx11.cell b10_4
      have b11_5 := hx11.cell b10_5
      clear b10_0 b10_1 b10_2 b10_3 b10_4 b10_5
      (go_wp2_with fail)
      have X6_8 := hx7.trans hx8
      have X6_9 := X6_8.trans hx9
      have X6_10 := X6_9.trans hx10
      have X6_11 := X6_10.trans hx11
      have o4 := own_ext ho6_0_0 (X6_11)
      go_at_call 15; refine (laws_eqIntS D _ _ _ (Rd.own ho11_0_0) (Rd.own o4) (Nat.le_trans hD (by decide))).mono ?_; rintro e w12 ⟨rfl, hx12⟩
      have b12_0 := hx12.cell b11_0
      have b12_1 := hx12.cell b11_1
      have b12_2 := hx12.cell b11_2
      have b12_3 := hx12.cell b11_3
      have b12_4 := hx12.cell b11_4
      have b12_5 := hx12.cell b11_5
      clear b11_0 b11_1 b11_2 b11_3 b11_4 b11_5
      (go_wp2_with fail)
      have hx13 : Ext w12 w12.drew := (Ext.refl _).drew
      have b13_0 := hx13.cell b12_0
      have b13_1 := hx13.cell b12_1
      have b13_2 := hx13.cell b12_2
      have b13_3 := hx13.cell b12_3
      have b13_4 := hx13.cell b12_4
      have b13_5 := hx13.cell b12_5
      go_region_held3 (fun w' => w'.cell? ⟨w.heap.size, 0, none⟩ = some (v) ∧ w'.cell? ⟨w.heap.size + 1, 0, none⟩ = some ((.string s)) ∧ w'.cell? ⟨w.heap.size + 1, 1, none⟩ = some (u) ∧ w'.cell? ⟨w7.heap.size, 0, none⟩ = some (.slice (some ⟨g7_0, 0, none⟩) (ps).length (ps).length) ∧ w'.cell? ⟨w9.heap.size, 0, none⟩ = some ((.string s)) ∧ w'.cell? ⟨w9.heap.size, 1, none⟩ = some (.slice (some ⟨g9_0, 0, none⟩) (ms).length (ms).length)) (first | exact ⟨b13_0, b13_1, b13_2, b13_3, b13_4, b13_5⟩ | exact ⟨b14_0, b14_1, b14_2, b14_3, b14_4, b14_5⟩ | exact ⟨b15_0, b15_1, b15_2, b15_3, b15_4, b15_5⟩)
        (first | (go_at_call 26; have X0_9 := X0_8.trans hx9; have X0_10 := X0_9.trans hx10; have X0_11 := X0_10.trans hx11; have X0_12 := X0_11.trans hx12; have X0_13 := X0_12.trans hx13; refine (laws_toTree ps _ _ (h.ext (X0_13)) h2).mono ?_; rintro e w14 ⟨g14_0, rfl, ho14_0, hx14⟩; have b14_0 := hx14.cell b13_0; have b14_1 := hx14.cell b13_1; have b14_2 := hx14.cell b13_2; have b14_3 := hx14.cell b13_3; have b14_4 := hx14.cell b13_4; have b14_5 := hx14.cell b13_5) | (go_at_call 29; have X10_12 := hx11.trans hx12; have X10_13 := X10_12.trans hx13; have X10_14 := X10_13.trans hx14; have o5 := own_ext o2 (X10_14); refine (laws_eqTree ps _ _ _ (Rd.own o5) (Rd.own ho14_0) h2).mono ?_; rintro e w15 ⟨rfl, hx15⟩; have b15_0 := hx15.cell b14_0; have b15_1 := hx15.cell b14_1; have b15_2 := hx15.cell b14_2; have b15_3 := hx15.cell b14_3; have b15_4 := hx15.cell b14_4; have b15_5 := hx15.cell b14_5))
      clear b12_0 b12_1 b12_2 b12_3 b12_4 b12_5 b13_0 b13_1 b13_2 b13_3 b13_4 b13_5 b14_0 b14_1 b14_2 b14_3 b14_4 b14_5
      (go_wp2_with fail)
      have hx16 : Ext w15 w15.drew := (Ext.refl _).drew
      have b16_0 := hx16.cell b15_0
      have b16_1 := hx16.cell b15_1
      have b16_2 := hx16.cell b15_2
      have b16_3 := hx16.cell b15_3
      have b16_4 := hx16.cell b15_4
      have b16_5 := hx16.cell b15_5
      go_region_held3 (fun w' => w'.cell? ⟨w.heap.size, 0, none⟩ = some (v) ∧ w'.cell? ⟨w.heap.size + 1, 0, none⟩ = some ((.string s)) ∧ w'.cell? ⟨w.heap.size + 1, 1, none⟩ = some (u) ∧ w'.cell? ⟨w7.heap.size, 0, none⟩ = some (.slice (some ⟨g7_0, 0, none⟩) (ps).length (ps).length) ∧ w'.cell? ⟨w9.heap.size, 0, none⟩ = some ((.string s)) ∧ w'.cell? ⟨w9.heap.size, 1, none⟩ = some (.slice (some ⟨g9_0, 0, none⟩) (ms).length (ms).length)) (first | exact ⟨b16_0, b16_1, b16_2, b16_3, b16_4, b16_5⟩ | exact ⟨b17_0, b17_1, b17_2, b17_3, b17_4, b17_5⟩ | exact ⟨b18_0, b18_1, b18_2, b18_3, b18_4, b18_5⟩)
        (first | (go_at_call 27; have X0_14 := X0_13.trans hx14; have X0_15 := X0_14.trans hx15; have X0_16 := X0_15.trans hx16; refine (laws_toGroup ms _ _ (k.ext (X0_16)) k2).mono ?_; rintro e w17 ⟨g17_0, rfl, ho17_0, hx17⟩; have b17_0 := hx17.cell b16_0; have b17_1 := hx17.cell b16_1; have b17_2 := hx17.cell b16_2; have b17_3 := hx17.cell b16_3; have b17_4 := hx17.cell b16_4; have b17_5 := hx17.cell b16_5) | (go_at_call 30; have X10_15 := X10_14.trans hx15; have X10_16 := X10_15.trans hx16; have X10_17 := X10_16.trans hx17; have o6 := own_ext o3 (X10_17); refine (laws_eqGroup ms _ _ _ (Rd.own o6) (Rd.own ho17_0) k2).mono ?_; rintro e w18 ⟨rfl, hx18⟩; have b18_0 := hx18.cell b17_0; have b18_1 := hx18.cell b17_1; have b18_2 := hx18.cell b17_2; have b18_3 := hx18.cell b17_3; have b18_4 := hx18.cell b17_4; have b18_5 := hx18.cell b17_5))
      clear b15_0 b15_1 b15_2 b15_3 b15_4 b15_5 b16_0 b16_1 b16_2 b16_3 b16_4 b16_5 b17_0 b17_1 b17_2 b17_3 b17_4 b17_5
      (go_wp2_with fail)
      have X14_16 := hx15.trans hx16
      have X14_17 := X14_16.trans hx17
      have X14_18 := X14_17.trans hx18
      have o7 := own_ext o5 (X14_18)
      have hl19 := own_row o7
      go_at_call 31; refine (laws_markTree _ _ _ 1 _ _ o7 (Nat.le_trans h2 (by decide)) (by omega) (by omega)).mono ?_; rintro e w19 ⟨rfl, -, hg19⟩
      have b19_0 := hg19.cell b18_0 (fun e => by have h9 := hl19 _ e.symm; have h8 := (X0_6).size; dsimp only at h9; omega)
      have b19_1 := hg19.cell b18_1 (fun e => by have h9 := hl19 _ e.symm; have h8 := (X0_6).size; dsimp only at h9; omega)
      have b19_2 := hg19.cell b18_2 (fun e => by have h9 := hl19 _ e.symm; have h8 := (X0_6).size; dsimp only at h9; omega)
      have b19_3 := hg19.cell b18_3 (fun e => by have h9 := own_row ho7_0 _ e.symm; have h8 := ((Ext.refl w7)).size; dsimp only at h9; omega)
      have b19_4 := hg19.cell b18_4 (fun e => by have h9 := own_row ho7_0 _ e.symm; have h8 := (X7_9).size; dsimp only at h9; omega)
      have b19_5 := hg19.cell b18_5 (fun e => by have h9 := own_row ho7_0 _ e.symm; have h8 := (X7_9).size; dsimp only at h9; omega)
      clear b18_0 b18_1 b18_2 b18_3 b18_4 b18_5
      (go_wp2_with fail)
      have o8 := own_ext o6 (hx18)
      have o9 := own_behind o8 hg19 (fun j hj => Nat.lt_of_lt_of_le (own_row ho7_0 j hj).2 (hx8).size)
      have hl20 := own_row o9
      go_at_call 32; refine (laws_markGroup _ _ _ (1 + (ps).length) _ _ o9 (Nat.le_trans k2 (by decide)) (by omega) (by omega)).mono ?_; rintro e w20 ⟨rfl, hm20_0, hg20⟩
      have b20_0 := hg20.cell b19_0 (fun e => by have h9 := hl20 _ e.symm; have h8 := (X0_8).size; dsimp only at h9; omega)
      have b20_1 := hg20.cell b19_1 (fun e => by have h9 := hl20 _ e.symm; have h8 := (X0_8).size; dsimp only at h9; omega)
      have b20_2 := hg20.cell b19_2 (fun e => by have h9 := hl20 _ e.symm; have h8 := (X0_8).size; dsimp only at h9; omega)
      have b20_3 := hg20.cell b19_3 (fun e => by have h9 := hl20 _ e.symm; have h8 := ((Ext.refl w8)).size; have h7 := hs8; dsimp only at h9; omega)
      have b20_4 := hg20.cell b19_4 (fun e => by have h9 := own_row ho9_0 _ e.symm; have h8 := ((Ext.refl w9)).size; dsimp only at h9; omega)
      have b20_5 := hg20.cell b19_5 (fun e => by have h9 := own_row ho9_0 _ e.symm; have h8 := ((Ext.refl w9)).size; dsimp only at h9; omega)
      clear b19_0 b19_1 b19_2 b19_3 b19_4 b19_5
      (go_wp2_with fail)
      have X11_13 := hx12.trans hx13
      have X11_14 := X11_13.trans hx14
      have X11_15 := X11_14.trans hx15
      have X11_16 := X11_15.trans hx16
      have X11_17 := X11_16.trans hx17
      have X11_18 := X11_17.trans hx18
      have o10 := own_ext ho11_0_0 (X11_18)
      have o11 := own_behind o10 hg19 (fun j hj => Nat.lt_of_lt_of_le (own_row ho7_0 j hj).2 (X7_10).size)
      have o12 := own_behind o11 hg20 (fun j hj => Nat.lt_of_lt_of_le (own_row ho9_0 j hj).2 (hx10).size)
      have o13 := own_ext o4 (X11_18)
      have X6_12 := X6_11.trans hx12
      have X6_13 := X6_12.trans hx13
      have X6_14 := X6_13.trans hx14
      have X6_15 := X6_14.trans hx15
      have X6_16 := X6_15.trans hx16
      have X6_17 := X6_16.trans hx17
      have X6_18 := X6_17.trans hx18
      have X6_19 := (X6_18).grown hg19 (fun j hj => Nat.le_trans ((Ext.refl w6)).size (hl19 j hj).1)
      have o14 := own_ext ho6_0_0 (X6_19)
      have X6_20 := (X6_19).grown hg20 (fun j hj => Nat.le_trans (X6_8).size (hl20 j hj).1)
      have o15 := own_ext ho6_0_0 (X6_20)
      go_at_call 15; refine (laws_eqIntS D _ _ _ (Rd.own o12) (Rd.own o15) (Nat.le_trans hD (by decide))).mono ?_; rintro e w21 ⟨rfl, hx21⟩
      have b21_0 := hx21.cell b20_0
      have b21_1 := hx21.cell b20_1
      have b21_2 := hx21.cell b20_2
      have b21_3 := hx21.cell b20_3
      have b21_4 := hx21.cell b20_4
      have b21_5 := hx21.cell b20_5
      clear b20_0 b20_1 b20_2 b20_3 b20_4 b20_5
      (go_wp2_with fail)
      have o16 := own_ext o12 (hx21)
      have hl22 := own_row o16
      go_at_call 18; refine (laws_markIntS _ _ _ 1 _ _ o16 (Nat.le_trans hD (by decide)) (by omega) (by omega)).mono ?_; rintro e w22 ⟨rfl, hm22_0, hg22⟩
      have b22_0 := hg22.cell b21_0 (fun e => by have h9 := hl22 _ e.symm; have h8 := (X0_10).size; dsimp only at h9; omega)
      have b22_1 := hg22.cell b21_1 (fun e => by have h9 := hl22 _ e.symm; have h8 := (X0_10).size; dsimp only at h9; omega)
      have b22_2 := hg22.cell b21_2 (fun e => by have h9 := hl22 _ e.symm; have h8 := (X0_10).size; dsimp only at h9; omega)
      have X8_10 := hx9.trans hx10
      have b22_3 := hg22.cell b21_3 (fun e => by have h9 := hl22 _ e.symm; have h8 := (X8_10).size; have h7 := hs8; dsimp only at h9; omega)
      have b22_4 := hg22.cell b21_4 (fun e => by have h9 := hl22 _ e.symm; have h8 := ((Ext.refl w10)).size; have h7 := hs10; dsimp only at h9; omega)
      have b22_5 := hg22.cell b21_5 (fun e => by have h9 := hl22 _ e.symm; have h8 := ((Ext.refl w10)).size; have h7 := hs10; dsimp only at h9; omega)
      clear b21_0 b21_1 b21_2 b21_3 b21_4 b21_5
      (go_wp2_with fail)
      go_at_call 19; refine (laws_heldIntS _ _ 1 _ (Rd.own hm22_0) (Nat.le_trans hD (by decide)) (by decide) (by decide)).mono ?_; rintro e w23 ⟨rfl, hx23⟩
      have b23_0 := hx23.cell b22_0
      have b23_1 := hx23.cell b22_1
      have b23_2 := hx23.cell b22_2
      have b23_3 := hx23.cell b22_3
      have b23_4 := hx23.cell b22_4
      have b23_5 := hx23.cell b22_5
      clear b22_0 b22_1 b22_2 b22_3 b22_4 b22_5
      (go_wp2_with fail)
      have hx24 : Ext w23 w23.drew := (Ext.refl _).drew
      have b24_0 := hx24.cell b23_0
      have b24_1 := hx24.cell b23_1
      have b24_2 := hx24.cell b23_2
      have b24_3 := hx24.cell b23_3
      have b24_4 := hx24.cell b23_4
      have b24_5 := hx24.cell b23_5
      go_region_held3 (fun w' => w'.cell? ⟨w.heap.size, 0, none⟩ = some (v) ∧ w'.cell? ⟨w.heap.size + 1, 0, none⟩ = some ((.string s)) ∧ w'.cell? ⟨w.heap.size + 1, 1, none⟩ = some (u) ∧ w'.cell? ⟨w7.heap.size, 0, none⟩ = some (.slice (some ⟨g7_0, 0, none⟩) (ps).length (ps).length) ∧ w'.cell? ⟨w9.heap.size, 0, none⟩ = some ((.string s)) ∧ w'.cell? ⟨w9.heap.size, 1, none⟩ = some (.slice (some ⟨g9_0, 0, none⟩) (ms).length (ms).length)) (first | exact ⟨b24_0, b24_1, b24_2, b24_3, b24_4, b24_5⟩ | exact ⟨b25_0, b25_1, b25_2, b25_3, b25_4, b25_5⟩ | exact ⟨b26_0, b26_1, b26_2, b26_3, b26_4, b26_5⟩ | exact ⟨b27_0, b27_1, b27_2, b27_3, b27_4, b27_5⟩)
        (first | (go_at_call 26; have X0_17 := X0_16.trans hx17; have X0_18 := X0_17.trans hx18; have X0_19 := (X0_18).grown hg19 (fun j hj => Nat.le_trans (X0_6).size (hl19 j hj).1); have X0_20 := (X0_19).grown hg20 (fun j hj => Nat.le_trans (X0_8).size (hl20 j hj).1); have X0_21 := X0_20.trans hx21; have X0_22 := (X0_21).grown hg22 (fun j hj => Nat.le_trans (X0_10).size (hl22 j hj).1); have X0_23 := X0_22.trans hx23; have X0_24 := X0_23.trans hx24; refine (laws_toTree ps _ _ (h.ext (X0_24)) h2).mono ?_; rintro e w25 ⟨g25_0, rfl, ho25_0, hx25⟩; have b25_0 := hx25.cell b24_0; have b25_1 := hx25.cell b24_1; have b25_2 := hx25.cell b24_2; have b25_3 := hx25.cell b24_3; have b25_4 := hx25.cell b24_4; have b25_5 := hx25.cell b24_5) | (go_at_call 27; have X0_25 := X0_24.trans hx25; refine (laws_toGroup ms _ _ (k.ext (X0_25)) k2).mono ?_; rintro e w26 ⟨g26_0, rfl, ho26_0, hx26⟩; have b26_0 := hx26.cell b25_0; have b26_1 := hx26.cell b25_1; have b26_2 := hx26.cell b25_2; have b26_3 := hx26.cell b25_3; have b26_4 := hx26.cell b25_4; have b26_5 := hx26.cell b25_5) | (go_at_call 36; have o17 := own_ext ho25_0 (hx26); refine (ci _ _ _ (Rd.own o17) (Rd.own ho26_0)).mono ?_; rintro e w27 ⟨r27_0_0, rfl, ho27_0_0, hx27⟩; have b27_0 := hx27.cell b26_0; have b27_1 := hx27.cell b26_1; have b27_2 := hx27.cell b26_2; have b27_3 := hx27.cell b26_3; have b27_4 := hx27.cell b26_4; have b27_5 := hx27.cell b26_5))
      clear b23_0 b23_1 b23_2 b23_3 b23_4 b23_5 b24_0 b24_1 b24_2 b24_3 b24_4 b24_5 b25_0 b25_1 b25_2 b25_3 b25_4 b25_5 b26_0 b26_1 b26_2 b26_3 b26_4 b26_5
      (go_wp2_with fail)
      have o18 := own_ext o15 (hx21)
      have X6_21 := X6_20.trans hx21
      have X6_22 := (X6_21).grown hg22 (fun j hj => Nat.le_trans (X6_10).size (hl22 j hj).1)
      have o19 := own_ext ho6_0_0 (X6_22)
      have X22_24 := hx23.trans hx24
      have X22_25 := X22_24.trans hx25
      have X22_26 := X22_25.trans hx26
      have X22_27 := X22_26.trans hx27
      have o20 := own_ext o19 (X22_27)
      go_at_call 15; refine (laws_eqIntS D _ _ _ (Rd.own ho27_0_0) (Rd.own o20) (Nat.le_trans hD (by decide))).mono ?_; rintro e w28 ⟨rfl, hx28⟩
      have b28_0 := hx28.cell b27_0
      have b28_1 := hx28.cell b27_1
      have b28_2 := hx28.cell b27_2
      have b28_3 := hx28.cell b27_3
      have b28_4 := hx28.cell b27_4
      have b28_5 := hx28.cell b27_5
      clear b27_0 b27_1 b27_2 b27_3 b27_4 b27_5
      (go_wp2_with fail)
      have X22_28 := X22_27.trans hx28
      have o21 := own_ext hm22_0 (X22_28)
      go_at_call 19; refine (laws_heldIntS _ _ 1 _ (Rd.own o21) (Nat.le_trans hD (by decide)) (by decide) (by decide)).mono ?_; rintro e w29 ⟨rfl, hx29⟩
      have b29_0 := hx29.cell b28_0
      have b29_1 := hx29.cell b28_1
      have b29_2 := hx29.cell b28_2
      have b29_3 := hx29.cell b28_3
      have b29_4 := hx29.cell b28_4
      have b29_5 := hx29.cell b28_5
      clear b28_0 b28_1 b28_2 b28_3 b28_4 b28_5
      go_wp2
      go_returns
      have X0_26 := X0_25.trans hx26
      have X0_27 := X0_26.trans hx27
      have X0_28 := X0_27.trans hx28
      have X0_29 := X0_28.trans hx29
      exact ⟨rfl, XB.trans (X0_29)⟩
    · go_enter Tryd.func7, Tryd.ntmps7
      go_wp2_with fail
      have XB : Ext w ((w.alloc (.cells #[v] 38)).alloc (.cells #[(.string s), u] 40)) := (by repeat' (first | exact Ext.refl _ | assumption | refine Ext.alloc ?_ _ | refine Ext.ext ?_ _ | refine Ext.drew ?_ | refine Ext.drewN ?_ _))
      have b0_0 : ((w.alloc (.cells #[v] 38)).alloc (.cells #[(.string s), u] 40)).cell? ⟨w.heap.size, 0, none⟩ = some v := by rw [cell_of_row _ _ 0 _ _ (0, 0) (heap_old (heap_at _ (by simp)) _)]; rfl
      have b0_1 : ((w.alloc (.cells #[v] 38)).alloc (.cells #[(.string s), u] 40)).cell? ⟨w.heap.size + 1, 0, none⟩ = some (.string s) := by rw [cell_of_row _ _ 0 _ _ (0, 0) (heap_at _ (by simp))]; rfl
      have b0_2 : ((w.alloc (.cells #[v] 38)).alloc (.cells #[(.string s), u] 40)).cell? ⟨w.heap.size + 1, 1, none⟩ = some u := by rw [cell_of_row _ _ 1 _ _ (0, 0) (heap_at _ (by simp))]; rfl
      replace h := h.ext XB
      replace k := k.ext XB
      have hlw : w.heap.size + 2 ≤ ((w.alloc (.cells #[v] 38)).alloc (.cells #[(.string s), u] 40)).heap.size := by simp
      generalize ((w.alloc (.cells #[v] 38)).alloc (.cells #[(.string s), u] 40)) = w0 at *
      go_at_call 23; refine (laws_szTree _ _ 1048576 _ _ _ h (by omega) (by decide)).mono ?_; rintro e w' ⟨rfl, hx1⟩
      have c0 := hx1.cell b0_0
      have c1 := hx1.cell b0_1
      have c2 := hx1.cell b0_2
      go_wp2_with fail
      go_at_call 24; refine (laws_szGroup_big s _ _ (1048576 - ps.length) _ _ _ (k.ext hx1) (by omega) hsm (by omega) (by omega) km).mono ?_; rintro e w' ⟨rfl, hx2⟩
      go_wp2
      go_returns
      exact ⟨rfl, XB.trans (hx1.trans hx2)⟩
  · go_enter Tryd.func7, Tryd.ntmps7
    go_wp2_with fail
    have XB : Ext w ((w.alloc (.cells #[v] 38)).alloc (.cells #[(.string s), u] 40)) := (by repeat' (first | exact Ext.refl _ | assumption | refine Ext.alloc ?_ _ | refine Ext.ext ?_ _ | refine Ext.drew ?_ | refine Ext.drewN ?_ _))
    have b0_0 : ((w.alloc (.cells #[v] 38)).alloc (.cells #[(.string s), u] 40)).cell? ⟨w.heap.size, 0, none⟩ = some v := by rw [cell_of_row _ _ 0 _ _ (0, 0) (heap_old (heap_at _ (by simp)) _)]; rfl
    have b0_1 : ((w.alloc (.cells #[v] 38)).alloc (.cells #[(.string s), u] 40)).cell? ⟨w.heap.size + 1, 0, none⟩ = some (.string s) := by rw [cell_of_row _ _ 0 _ _ (0, 0) (heap_at _ (by simp))]; rfl
    have b0_2 : ((w.alloc (.cells #[v] 38)).alloc (.cells #[(.string s), u] 40)).cell? ⟨w.heap.size + 1, 1, none⟩ = some u := by rw [cell_of_row _ _ 1 _ _ (0, 0) (heap_at _ (by simp))]; rfl
    replace h := h.ext XB
    replace k := k.ext XB
    have hlw : w.heap.size + 2 ≤ ((w.alloc (.cells #[v] 38)).alloc (.cells #[(.string s), u] 40)).heap.size := by simp
    generalize ((w.alloc (.cells #[v] 38)).alloc (.cells #[(.string s), u] 40)) = w0 at *
    go_at_call 23; refine (laws_szTree_big _ _ 1048576 _ _ _ h (by omega) (by decide) hm).mono ?_; rintro e w' ⟨rfl, hx1⟩
    go_wp2
    go_returns
    exact ⟨rfl, XB.trans hx1⟩
theorem own : ownKnob Tryd.prog.godebug = none := by kernel_rfl
theorem laidOut : laidOutB Tryd.prog = true := by kernel_rfl
set_option maxRecDepth 100000 in
theorem lifted (os : Os) (started : os.Started) (H : Type) (enc : TypeId × Value → H) :
    ReturnsInHanded {} Tryd.checked os 7 .any (fun w args => (Rows.fnExactBranchesForSpec.pre enc Tryd.prog Tryd.f7 [] false w args ∧ laidMetH Tryd.prog Rows.fnExactBranchesForRow.laid w) ∧ sizedMet enc Tryd.prog Tryd.f7 (OpenSpec.ofChange Rows.fnExactBranchesForSpec) false w args)
      (Rows.fnExactBranchesForSpec.post enc Tryd.prog Tryd.f7 false true false false) := by
  refine returnsInHanded_of_change_and (C := Tryd.checked) (X := fun w _ => laidMetH Tryd.prog Rows.fnExactBranchesForRow.laid w) (fun _ _ _ hh h => h.of_heap hh) own started (by kernel_rfl) Tryd.func7
    (ChangeSpec.witness_shaped (enc := enc) (C := Tryd.checked) (os := os) (X := fun w _ => laidMetH Tryd.prog Rows.fnExactBranchesForRow.laid w) false (World.laidAll Tryd.prog os Rows.fnExactBranchesForRow.laid) #[.agg #[.slice none 0 0], .agg #[.string ByteArray.empty, .slice none 0 0], .int .i64 0] 8 (World.laidAll_os _ _ _)
      (World.shaped_of_ZipB (by kernel_rfl) (by kernel_rfl)) (by kernel_rfl) (by kernel_rfl) (by kernel_rfl)
      (by rw [MakeChecks.laidMetH_plain _ _ _ (by kernel_rfl)]; exact laidMet_laidAll _ (by kernel_rfl) (by kernel_rfl))) ?_
  intro W base args ds gs before hval0 hW _ _ hL _
  have hval : ∀ (j : Nat) t v, Tryd.f7.params[j]? = some t → args[j]? = some v → Value.okWide Tryd.prog W .any base t v := hval0
  have hW' := hW
  obtain ⟨p, q, hA0, hV, rfl, hfz, hnd⟩ := hW
  have hA : DataW.TrodAll enc Tryd.prog W 0 (fun _ => true) true Tryd.f7.params.toList args.toList ds p := hA0
  rw [Tryd.params7] at hA hval
  rw [MakeChecks.laidMetH_plain _ _ _ (by kernel_rfl)] at hL
  obtain ⟨v0, vs0, d0, ds0, p0, q0, hargs, rfl, rfl, h0, r0⟩ := trodAll_cons hA
  obtain ⟨v1, vs1, d1, ds1, p1, q1, rfl, rfl, rfl, h1, r1⟩ := trodAll_cons r0
  obtain ⟨v2, vs2, d2, ds2, p2, q2, rfl, rfl, rfl, h2, r2⟩ := trodAll_cons r1
  obtain ⟨rfl, rfl, rfl⟩ := trodAll_nil r2
  obtain rfl : args = #[v0, v1, v2] := by cases args; simp_all
  clear hA0 hval0 hfz hnd hV
  obtain ⟨ps, v, rfl, hr, hlen⟩ := opened_tree (hval 0 _ v0 rfl rfl) h0
  obtain ⟨s, ms, u, rfl, hsz, kr, klen⟩ := opened_group (hval 1 _ v1 rfl rfl) h1
  obtain ⟨x, rfl⟩ := opened_int (hval 2 _ v2 rfl rfl)
  refine (walk ps s ms _ _ x W hr kr hlen hsz klen).mono fun e W' ⟨he, hx⟩ => ?_
  subst he
  exact ⟨_, rfl, law_post laidOut (by rw [Tryd.params7]; simp only [List.forall_mem_cons, List.not_mem_nil, false_implies, implies_true, and_true]; repeat' apply And.intro; all_goals first | kernel_rfl | exact of_decide_eq_true (by kernel_rfl)) rfl Tryd.underlying4 rfl ⟨rfl, rfl, rfl⟩ hW' hx.below⟩
theorem holdsRow : Rows.FnExactBranchesForSaid :=
  OpenClaim.holds_of_wide 7 Tryd.f7 rfl rfl rfl rfl rfl rfl rfl ⟨rfl, rfl, rfl, rfl, rfl⟩ rfl rfl rfl rfl rfl (by kernel_rfl) Tryd.func7 (by kernel_rfl)
    (of_decide_eq_true (by kernel_rfl)) (by unfold Func.isWrapper; first | (rw [if_pos (by decide +kernel)]; kernel_rfl) | (rw [if_neg (by decide +kernel)]; exact ⟨rfl, rfl⟩))
    (fun os started H enc _ => lifted os started H enc)
theorem proved : Rows.FnExactBranchesForCardSaid :=
  Claim7.holds_tied_plain_at .later [] [.data, .pinned] true (true, "d98e5ea9d9d979f90cee05b80b49c8468416582bf15d8a58d4a96a3bf1021c7b") true holdsRow (fun _ h => by cases h) (by kernel_rfl) (fun _ h => by cases h) fnExactBranchesFor_row_tie rfl ⟨rfl, rfl⟩ (by kernel_rfl) rfl
    (fun f fn hf hfn => by
      obtain rfl : f = 7 := Option.some.inj ((show Tryd.prog.funcNamed "loop.example/g00840/laws.FnExactBranchesFor" = some 7 by kernel_rfl).symm.trans hf) |>.symm
      obtain rfl : fn = Tryd.f7 := (Option.some.inj (Tryd.func7.symm.trans hfn)).symm
      exact ⟨by kernel_rfl, fun j t ht => by
        rw [Tryd.params7] at ht
        have hm : t ∈ [38, 40, 3] := by simpa using Array.mem_of_getElem? ht
        have hall : ([38, 40, 3].all fun u => !Tryd.prog.wantsStandIn u) = true := by kernel_rfl
        exact (show Tryd.prog.wantsStandIn t = false by simpa using List.all_eq_true.1 hall t hm)⟩)
    (by kernel_rfl)
#print axioms proved
end Go.Proofs.YthjklcodgcojbaaDoor.xBranchesFor
