/- The law FnExactWorsenLink. -/
import Derived.Test.YthpeicpfaonkdaaWCut
import Derived.Test.YthpeicpfaonkdaaKit2
import Derived.Test.YthpeicpfaonkdaaWCOpen
import Derived.Test.YthpeicpfaonkdaaWCM
import Derived.Test.YthpeicpfaonkdaaRows
namespace Go.Proofs.Ythpeicpfaonkdaa.xWorsenLink
open Go.ChangeShapes Go.WideShapes Go.ChangeAt Go.RowKit
set_option maxHeartbeats 4000000
set_option maxRecDepth 10000
theorem walk (ps ls ds : List Int) (v u u' : Value) (x : Int) (y : Int) (w : World) (h : Rd w 1 v ps.length (vInts ps)) (k : Rd w 1 u ls.length (vInts ls)) (l : Rd w 1 u' ds.length (vInts ds))
    (hm : ps.length ≤ maxLen) (km : ls.length ≤ maxLen) (lm : ds.length ≤ maxLen) :
    Calls Try.prog 5 #[.agg #[v], .agg #[u, u'], .int .i64 x, .int .i64 y] w fun e w' => e = .returned (.bool true) ∧ Ext w w' := by
  by_cases h2 : ps.length ≤ 1048576
  · have t0 : decide ((1048576 : Int) - ps.length < 0) = false := by simp; omega
    by_cases hs : (ls.length : Int) + ds.length ≤ 1048576 - ps.length
    · have k2 : ls.length ≤ 1048576 := by omega
      have l2 : ds.length ≤ 1048576 := by omega
      have t1 : decide ((1048576 : Int) - ps.length - ls.length - ds.length < 0) = false := by simp; omega
      have cs := fun v u u' w h k l => spec_WorsenLink' ps ls ds v u u' x y w h k l h2 k2 l2
      have ci := fun v u u' w h k l => impl_WorsenLink' ps ls ds v u u' x y w h k l h2 k2 l2
      have hL : (worsenL ps ls ds x y).length ≤ 1048576 := Nat.le_trans (worsenL_len ps ls ds x y) k2
      have hD : (worsenD ps ls ds x y).length ≤ 1048576 := Nat.le_trans (worsenD_len ps ls ds x y) l2
      generalize worsenL ps ls ds x y = L at cs ci hL
      generalize worsenD ps ls ds x y = D at cs ci hD
      generalize worsenB ps ls ds x y = b at cs ci
      have tk : decide ((1 : Int) + ps.length + ls.length + ds.length < 0) = false := by simp; omega
      have tm : decide ((1 : Int) + L.length + D.length < 0) = false := by simp; omega
      go_enter Try.func5, Try.ntmps5
      go_wp2_with fail
      have XB : Ext w ((w.alloc (.cells #[v] 24)).alloc (.cells #[u, u'] 26)) := (by repeat' (first | exact Ext.refl _ | assumption | refine Ext.alloc ?_ _ | refine Ext.ext ?_ _ | refine Ext.drew ?_ | refine Ext.drewN ?_ _))
      have b0_0 : ((w.alloc (.cells #[v] 24)).alloc (.cells #[u, u'] 26)).cell? ⟨w.heap.size, 0, none⟩ = some v := by rw [cell_of_row _ _ 0 _ _ (0, 0) (heap_old (heap_at _ (by simp)) _)]; rfl
      have b0_1 : ((w.alloc (.cells #[v] 24)).alloc (.cells #[u, u'] 26)).cell? ⟨w.heap.size + 1, 0, none⟩ = some u := by rw [cell_of_row _ _ 0 _ _ (0, 0) (heap_at _ (by simp))]; rfl
      have b0_2 : ((w.alloc (.cells #[v] 24)).alloc (.cells #[u, u'] 26)).cell? ⟨w.heap.size + 1, 1, none⟩ = some u' := by rw [cell_of_row _ _ 1 _ _ (0, 0) (heap_at _ (by simp))]; rfl
      replace h := h.ext XB
      replace k := k.ext XB
      replace l := l.ext XB
      have hlw : w.heap.size + 2 ≤ ((w.alloc (.cells #[v] 24)).alloc (.cells #[u, u'] 26)).heap.size := by simp
      generalize ((w.alloc (.cells #[v] 24)).alloc (.cells #[u, u'] 26)) = w0 at *
      go_at_call 15; refine (laws_szTree _ _ 1048576 _ _ _ (h.ext ((Ext.refl w0))) (by omega) (by decide)).mono ?_; rintro e w1 ⟨rfl, hx1⟩
      have b1_0 := hx1.cell b0_0
      have b1_1 := hx1.cell b0_1
      have b1_2 := hx1.cell b0_2
      clear b0_0 b0_1 b0_2
      (go_wp2_with fail)
      go_at_call 16; refine (laws_szPathCosts _ _ _ _ (1048576 - ps.length) _ _ _ _ _ (k.ext (hx1)) (l.ext (hx1)) (by omega) (by omega)).mono ?_; rintro e w2 ⟨rfl, hx2⟩
      have b2_0 := hx2.cell b1_0
      have b2_1 := hx2.cell b1_1
      have b2_2 := hx2.cell b1_2
      clear b1_0 b1_1 b1_2
      have X0_2 := hx1.trans hx2
      (go_upto_region 8 with fail)
      go_cut [10, 11] (fun s10 s11 wx => ∃ p r r', s10 = .pointer (some ⟨p, 0, none⟩) ∧ s11 = .bool b ∧ RCut w2 wx p r r' L D)
      case first =>
        go_region_held3 (fun w' => w'.cell? ⟨w.heap.size, 0, none⟩ = some (v) ∧ w'.cell? ⟨w.heap.size + 1, 0, none⟩ = some (u) ∧ w'.cell? ⟨w.heap.size + 1, 1, none⟩ = some (u')) (first | exact ⟨b2_0, b2_1, b2_2⟩ | exact ⟨(show Ext w2 _ from (by repeat' (first | exact Ext.refl _ | assumption | refine Ext.alloc ?_ _ | refine Ext.ext ?_ _ | refine Ext.drew ?_ | (refine Ext.setCell ?_ (by first | exact Ext.size (by assumption) | (simp; done) | (simp; omega)) _)))).cell b2_0, (show Ext w2 _ from (by repeat' (first | exact Ext.refl _ | assumption | refine Ext.alloc ?_ _ | refine Ext.ext ?_ _ | refine Ext.drew ?_ | (refine Ext.setCell ?_ (by first | exact Ext.size (by assumption) | (simp; done) | (simp; omega)) _)))).cell b2_1, (show Ext w2 _ from (by repeat' (first | exact Ext.refl _ | assumption | refine Ext.alloc ?_ _ | refine Ext.ext ?_ _ | refine Ext.drew ?_ | (refine Ext.setCell ?_ (by first | exact Ext.size (by assumption) | (simp; done) | (simp; omega)) _)))).cell b2_2⟩)
          (first | (go_at_call 18; refine (laws_toTree ps _ _ (h.ext ((X0_2).trans (show Ext w2 _ from (by repeat' (first | exact Ext.refl _ | assumption | refine Ext.alloc ?_ _ | refine Ext.ext ?_ _ | refine Ext.drew ?_ | (refine Ext.setCell ?_ (by first | exact Ext.size (by assumption) | (simp; done) | (simp; omega)) _)))))) h2).mono ?_; rintro e wA ⟨gA, rfl, oA, xA⟩; have YA : Ext w2 wA := (show Ext w2 _ from (by repeat' (first | exact Ext.refl _ | assumption | refine Ext.alloc ?_ _ | refine Ext.ext ?_ _ | refine Ext.drew ?_ | (refine Ext.setCell ?_ (by first | exact Ext.size (by assumption) | (simp; done) | (simp; omega)) _)))).trans xA; have SA := YA.size; (try (have HBA := hid ((xA.heap (by simp)).trans (heap_at (w := w2.drew) (k := w2.heap.size) (.cells #[.slice none 0 0, .slice none 0 0] 32 (0, 0)) rfl)); have lA := (Array.getElem?_eq_some_iff.1 HBA.out).1; obtain ⟨⟨m0, m1⟩, ⟨m2, m3⟩, -⟩ := box2 HBA.out))) | (go_at_call 19; refine (laws_toPathCosts ls ds _ _ _ (k.ext ((X0_2).trans (show Ext w2 _ from (by repeat' (first | exact Ext.refl _ | assumption | refine Ext.alloc ?_ _ | refine Ext.ext ?_ _ | refine Ext.drew ?_ | (refine Ext.setCell ?_ (by first | exact Ext.size (by assumption) | (simp; done) | (simp; omega)) _)))))) (l.ext ((X0_2).trans (show Ext w2 _ from (by repeat' (first | exact Ext.refl _ | assumption | refine Ext.alloc ?_ _ | refine Ext.ext ?_ _ | refine Ext.drew ?_ | (refine Ext.setCell ?_ (by first | exact Ext.size (by assumption) | (simp; done) | (simp; omega)) _)))))) k2 l2).mono ?_; rintro e wB ⟨gB, gB', rfl, oB, oB', xB⟩; have ZB : Ext wA wB := (show Ext wA _ from (by repeat' (first | exact Ext.refl _ | assumption | refine Ext.alloc ?_ _ | refine Ext.ext ?_ _ | refine Ext.drew ?_ | (refine Ext.setCell ?_ (by first | exact Ext.size (by assumption) | (simp; done) | (simp; omega)) _)))).trans xB; have YB : Ext w2 wB := YA.trans ZB; have SB := ZB.size; (try (have HBB := hid ((xB.heap (by simp)).trans (heap_at (w := wA) (.cells #[.slice none 0 0, .slice none 0 0] 32 (0, 0)) rfl)); have lB := (Array.getElem?_eq_some_iff.1 HBB.out).1; obtain ⟨⟨m0, m1⟩, ⟨m2, m3⟩, -⟩ := box2 HBB.out)); (try (have HBB := hid ((xB.heap (Array.getElem?_eq_some_iff.1 HBA.out).1).trans HBA.out); obtain ⟨⟨m0, m1⟩, ⟨m2, m3⟩, -⟩ := box2 HBB.out))) | (go_at_call 25; refine (cs _ _ _ _ ((Rd.own oA).ext (ZB.trans (by repeat' (first | exact Ext.refl _ | assumption | refine Ext.alloc ?_ _ | refine Ext.ext ?_ _ | refine Ext.drew ?_ | (refine Ext.setCell ?_ (by first | exact Ext.size (by assumption) | (simp; done) | (simp; omega)) _))))) ((Rd.own oB).ext (by repeat' (first | exact Ext.refl _ | assumption | refine Ext.alloc ?_ _ | refine Ext.ext ?_ _ | refine Ext.drew ?_ | (refine Ext.setCell ?_ (by first | exact Ext.size (by assumption) | (simp; done) | (simp; omega)) _)))) ((Rd.own oB').ext (by repeat' (first | exact Ext.refl _ | assumption | refine Ext.alloc ?_ _ | refine Ext.ext ?_ _ | refine Ext.drew ?_ | (refine Ext.setCell ?_ (by first | exact Ext.size (by assumption) | (simp; done) | (simp; omega)) _))))).mono ?_; rintro e wC ⟨rC, rC', rfl, oC, oC', dC, xC⟩; obtain ⟨p1, c1, rfl⟩ := own_shape oC; obtain ⟨p2, c2, rfl⟩ := own_shape oC'; have YC : Ext w2 wC := (show Ext w2 _ from (by repeat' (first | exact Ext.refl _ | assumption | refine Ext.alloc ?_ _ | refine Ext.ext ?_ _ | refine Ext.drew ?_ | (refine Ext.setCell ?_ (by first | exact Ext.size (by assumption) | (simp; done) | (simp; omega)) _)))).trans xC; (try (have HBC := hid ((xC.heap (by simp)).trans (heap_at (w := wB) (.cells #[.slice none 0 0, .slice none 0 0] 32 (0, 0)) rfl)); obtain ⟨⟨m0, m1⟩, ⟨m2, m3⟩, -⟩ := box2 HBC.out)); (try (have HBC := hid ((xC.heap (Array.getElem?_eq_some_iff.1 HBB.out).1).trans HBB.out); obtain ⟨⟨m0, m1⟩, ⟨m2, m3⟩, -⟩ := box2 HBC.out))))
        all_goals (go_wp2_with fail; go_meet; exact ⟨_, _, _, rfl, rfl, by first | exact cutL YC YB.size oC oC' dC | exact cutW HBC.out YC (by omega) (by first | omega | (simp; done) | (simp; omega)) oC oC' dC⟩)
      obtain ⟨p3, r3_0_0, r3_0_1, rfl, rfl, RC3⟩ := hcut
      generalize wc = w3 at *
      obtain ⟨hx3, hB3, hs3, ho3_0_0, ho3_0_1, hd3⟩ := RC3
      obtain ⟨⟨b3_3, b3_4⟩, -, -⟩ := box2 hB3
      have HB3 := hid hB3; clear hB3
      have b3_0 := hx3.cell b2_0
      have b3_1 := hx3.cell b2_1
      have b3_2 := hx3.cell b2_2
      clear b2_0 b2_1 b2_2
      (go_wp2_with fail)
      have X0_3 := X0_2.trans hx3
      go_at_call 18; refine (laws_toTree ps _ _ (h.ext (X0_3)) h2).mono ?_; rintro e w4 ⟨g4_0, rfl, ho4_0, hx4⟩
      have b4_0 := hx4.cell b3_0
      have b4_1 := hx4.cell b3_1
      have b4_2 := hx4.cell b3_2
      have b4_3 := hx4.cell b3_3
      have b4_4 := hx4.cell b3_4
      clear b3_0 b3_1 b3_2 b3_3 b3_4
      (go_wp2_with fail)
      have hx5 : Ext w4 (w4.alloc (.cells #[.slice (some ⟨g4_0, 0, none⟩) (ps).length (ps).length] 30)) := (Ext.refl _).alloc _
      have hs5 : w4.heap.size < (w4.alloc (.cells #[.slice (some ⟨g4_0, 0, none⟩) (ps).length (ps).length] 30)).heap.size := by simp
      have b5_5 : (w4.alloc (.cells #[.slice (some ⟨g4_0, 0, none⟩) (ps).length (ps).length] 30)).cell? ⟨w4.heap.size, 0, none⟩ = some (.slice (some ⟨g4_0, 0, none⟩) (ps).length (ps).length) := by rw [cell_of_row _ _ 0 _ _ (0, 0) (heap_at _ rfl)]; rfl
      have b5_0 := hx5.cell b4_0
      have b5_1 := hx5.cell b4_1
      have b5_2 := hx5.cell b4_2
      have b5_3 := hx5.cell b4_3
      have b5_4 := hx5.cell b4_4
      clear b4_0 b4_1 b4_2 b4_3 b4_4
      generalize (w4.alloc (.cells #[.slice (some ⟨g4_0, 0, none⟩) (ps).length (ps).length] 30)) = w5 at *
      have X0_4 := X0_3.trans hx4
      have X0_5 := X0_4.trans hx5
      go_at_call 19; refine (laws_toPathCosts ls ds _ _ _ (k.ext (X0_5)) (l.ext (X0_5)) k2 l2).mono ?_; rintro e w6 ⟨g6_0, g6_1, rfl, ho6_0, ho6_1, hx6⟩
      have b6_0 := hx6.cell b5_0
      have b6_1 := hx6.cell b5_1
      have b6_2 := hx6.cell b5_2
      have b6_3 := hx6.cell b5_3
      have b6_4 := hx6.cell b5_4
      have b6_5 := hx6.cell b5_5
      clear b5_0 b5_1 b5_2 b5_3 b5_4 b5_5
      have hd6 := dis_of ho6_0 ho6_1 (fun j hj => by cases hj; exact Nat.lt_succ_self _)
      replace ho6_1 := own_mono ho6_1 (Nat.le_succ_of_le (own_size ho6_0).1)
      (go_wp2_with fail)
      have hx7 : Ext w6 (w6.alloc (.cells #[.slice (some ⟨g6_0, 0, none⟩) (ls).length (ls).length, .slice (some ⟨g6_1, 0, none⟩) (ds).length (ds).length] 32)) := (Ext.refl _).alloc _
      have hs7 : w6.heap.size < (w6.alloc (.cells #[.slice (some ⟨g6_0, 0, none⟩) (ls).length (ls).length, .slice (some ⟨g6_1, 0, none⟩) (ds).length (ds).length] 32)).heap.size := by simp
      have b7_6 : (w6.alloc (.cells #[.slice (some ⟨g6_0, 0, none⟩) (ls).length (ls).length, .slice (some ⟨g6_1, 0, none⟩) (ds).length (ds).length] 32)).cell? ⟨w6.heap.size, 0, none⟩ = some (.slice (some ⟨g6_0, 0, none⟩) (ls).length (ls).length) := by rw [cell_of_row _ _ 0 _ _ (0, 0) (heap_at _ rfl)]; rfl
      have b7_7 : (w6.alloc (.cells #[.slice (some ⟨g6_0, 0, none⟩) (ls).length (ls).length, .slice (some ⟨g6_1, 0, none⟩) (ds).length (ds).length] 32)).cell? ⟨w6.heap.size, 1, none⟩ = some (.slice (some ⟨g6_1, 0, none⟩) (ds).length (ds).length) := by rw [cell_of_row _ _ 1 _ _ (0, 0) (heap_at _ rfl)]; rfl
      have b7_0 := hx7.cell b6_0
      have b7_1 := hx7.cell b6_1
      have b7_2 := hx7.cell b6_2
      have b7_3 := hx7.cell b6_3
      have b7_4 := hx7.cell b6_4
      have b7_5 := hx7.cell b6_5
      clear b6_0 b6_1 b6_2 b6_3 b6_4 b6_5
      generalize (w6.alloc (.cells #[.slice (some ⟨g6_0, 0, none⟩) (ls).length (ls).length, .slice (some ⟨g6_1, 0, none⟩) (ds).length (ds).length] 32)) = w7 at *
      have X4_6 := hx5.trans hx6
      have X4_7 := X4_6.trans hx7
      have o1 := own_ext ho4_0 (X4_7)
      have o2 := own_ext ho6_0 (hx7)
      have o3 := own_ext ho6_1 (hx7)
      go_at_call 26; refine (ci _ _ _ _ (Rd.own o1) (Rd.own o2) (Rd.own o3)).mono ?_; rintro e w8 ⟨r8_0_0, r8_0_1, rfl, ho8_0_0, ho8_0_1, hd8, hx8⟩
      have b8_0 := hx8.cell b7_0
      have b8_1 := hx8.cell b7_1
      have b8_2 := hx8.cell b7_2
      have b8_3 := hx8.cell b7_3
      have b8_4 := hx8.cell b7_4
      have b8_5 := hx8.cell b7_5
      have b8_6 := hx8.cell b7_6
      have b8_7 := hx8.cell b7_7
      clear b7_0 b7_1 b7_2 b7_3 b7_4 b7_5 b7_6 b7_7
      obtain ⟨q8_0_0, c8_0_0, rfl⟩ := own_shape ho8_0_0
      obtain ⟨q8_0_1, c8_0_1, rfl⟩ := own_shape ho8_0_1
      (go_wp2_with fail)
      have hx9 : Ext w8 (w8.alloc (.cells #[.slice q8_0_0 (L).length c8_0_0, .slice q8_0_1 (D).length c8_0_1] 32)) := (Ext.refl _).alloc _
      have hs9 : w8.heap.size < (w8.alloc (.cells #[.slice q8_0_0 (L).length c8_0_0, .slice q8_0_1 (D).length c8_0_1] 32)).heap.size := by simp
      have b9_8 : (w8.alloc (.cells #[.slice q8_0_0 (L).length c8_0_0, .slice q8_0_1 (D).length c8_0_1] 32)).cell? ⟨w8.heap.size, 0, none⟩ = some (.slice q8_0_0 (L).length c8_0_0) := by rw [cell_of_row _ _ 0 _ _ (0, 0) (heap_at _ rfl)]; rfl
      have b9_9 : (w8.alloc (.cells #[.slice q8_0_0 (L).length c8_0_0, .slice q8_0_1 (D).length c8_0_1] 32)).cell? ⟨w8.heap.size, 1, none⟩ = some (.slice q8_0_1 (D).length c8_0_1) := by rw [cell_of_row _ _ 1 _ _ (0, 0) (heap_at _ rfl)]; rfl
      have b9_0 := hx9.cell b8_0
      have b9_1 := hx9.cell b8_1
      have b9_2 := hx9.cell b8_2
      have b9_3 := hx9.cell b8_3
      have b9_4 := hx9.cell b8_4
      have b9_5 := hx9.cell b8_5
      have b9_6 := hx9.cell b8_6
      have b9_7 := hx9.cell b8_7
      clear b8_0 b8_1 b8_2 b8_3 b8_4 b8_5 b8_6 b8_7
      generalize (w8.alloc (.cells #[.slice q8_0_0 (L).length c8_0_0, .slice q8_0_1 (D).length c8_0_1] 32)) = w9 at *
      have o4 := own_ext ho8_0_0 (hx9)
      have o5 := own_ext ho8_0_1 (hx9)
      have X3_5 := hx4.trans hx5
      have X3_6 := X3_5.trans hx6
      have X3_7 := X3_6.trans hx7
      have X3_8 := X3_7.trans hx8
      have X3_9 := X3_8.trans hx9
      have o6 := own_ext ho3_0_0 (X3_9)
      have o7 := own_ext ho3_0_1 (X3_9)
      go_at_call 22; refine (laws_eqPathCosts L D _ _ _ _ _ (Rd.own o4) (Rd.own o5) (Rd.own o6) (Rd.own o7) hL hD).mono ?_; rintro e w10 ⟨rfl, hx10⟩
      have b10_0 := hx10.cell b9_0
      have b10_1 := hx10.cell b9_1
      have b10_2 := hx10.cell b9_2
      have b10_3 := hx10.cell b9_3
      have b10_4 := hx10.cell b9_4
      have b10_5 := hx10.cell b9_5
      have b10_6 := hx10.cell b9_6
      have b10_7 := hx10.cell b9_7
      have b10_8 := hx10.cell b9_8
      have b10_9 := hx10.cell b9_9
      clear b9_0 b9_1 b9_2 b9_3 b9_4 b9_5 b9_6 b9_7 b9_8 b9_9
      (go_wp2_with fail)
      have hx11 : Ext w10 w10.drew := (Ext.refl _).drew
      have b11_0 := hx11.cell b10_0
      have b11_1 := hx11.cell b10_1
      have b11_2 := hx11.cell b10_2
      have b11_3 := hx11.cell b10_3
      have b11_4 := hx11.cell b10_4
      have b11_5 := hx11.cell b10_5
      have b11_6 := hx11.cell b10_6
      have b11_7 := hx11.cell b10_7
      have b11_8 := hx11.cell b10_8
      have b11_9 := hx11.cell b10_9
      go_region_held3 (fun w' => w'.cell? ⟨w.heap.size, 0, none⟩ = some (v) ∧ w'.cell? ⟨w.heap.size + 1, 0, none⟩ = some (u) ∧ w'.cell? ⟨w.heap.size + 1, 1, none⟩ = some (u') ∧ w'.cell? ⟨p3, 0, none⟩ = some (r3_0_0) ∧ w'.cell? ⟨p3, 1, none⟩ = some (r3_0_1) ∧ w'.cell? ⟨w4.heap.size, 0, none⟩ = some (.slice (some ⟨g4_0, 0, none⟩) (ps).length (ps).length) ∧ w'.cell? ⟨w6.heap.size, 0, none⟩ = some (.slice (some ⟨g6_0, 0, none⟩) (ls).length (ls).length) ∧ w'.cell? ⟨w6.heap.size, 1, none⟩ = some (.slice (some ⟨g6_1, 0, none⟩) (ds).length (ds).length) ∧ w'.cell? ⟨w8.heap.size, 0, none⟩ = some (.slice q8_0_0 (L).length c8_0_0) ∧ w'.cell? ⟨w8.heap.size, 1, none⟩ = some (.slice q8_0_1 (D).length c8_0_1)) (first | exact ⟨b11_0, b11_1, b11_2, b11_3, b11_4, b11_5, b11_6, b11_7, b11_8, b11_9⟩ | exact ⟨b12_0, b12_1, b12_2, b12_3, b12_4, b12_5, b12_6, b12_7, b12_8, b12_9⟩ | exact ⟨b13_0, b13_1, b13_2, b13_3, b13_4, b13_5, b13_6, b13_7, b13_8, b13_9⟩)
        (first | (go_at_call 18; have X0_6 := X0_5.trans hx6; have X0_7 := X0_6.trans hx7; have X0_8 := X0_7.trans hx8; have X0_9 := X0_8.trans hx9; have X0_10 := X0_9.trans hx10; have X0_11 := X0_10.trans hx11; refine (laws_toTree ps _ _ (h.ext (X0_11)) h2).mono ?_; rintro e w12 ⟨g12_0, rfl, ho12_0, hx12⟩; have b12_0 := hx12.cell b11_0; have b12_1 := hx12.cell b11_1; have b12_2 := hx12.cell b11_2; have b12_3 := hx12.cell b11_3; have b12_4 := hx12.cell b11_4; have b12_5 := hx12.cell b11_5; have b12_6 := hx12.cell b11_6; have b12_7 := hx12.cell b11_7; have b12_8 := hx12.cell b11_8; have b12_9 := hx12.cell b11_9) | (go_at_call 21; have X7_9 := hx8.trans hx9; have X7_10 := X7_9.trans hx10; have X7_11 := X7_10.trans hx11; have X7_12 := X7_11.trans hx12; have o8 := own_ext o1 (X7_12); refine (laws_eqTree ps _ _ _ (Rd.own o8) (Rd.own ho12_0) h2).mono ?_; rintro e w13 ⟨rfl, hx13⟩; have b13_0 := hx13.cell b12_0; have b13_1 := hx13.cell b12_1; have b13_2 := hx13.cell b12_2; have b13_3 := hx13.cell b12_3; have b13_4 := hx13.cell b12_4; have b13_5 := hx13.cell b12_5; have b13_6 := hx13.cell b12_6; have b13_7 := hx13.cell b12_7; have b13_8 := hx13.cell b12_8; have b13_9 := hx13.cell b12_9))
      clear b10_0 b10_1 b10_2 b10_3 b10_4 b10_5 b10_6 b10_7 b10_8 b10_9 b11_0 b11_1 b11_2 b11_3 b11_4 b11_5 b11_6 b11_7 b11_8 b11_9 b12_0 b12_1 b12_2 b12_3 b12_4 b12_5 b12_6 b12_7 b12_8 b12_9
      (go_wp2_with fail)
      have hx14 : Ext w13 w13.drew := (Ext.refl _).drew
      have b14_0 := hx14.cell b13_0
      have b14_1 := hx14.cell b13_1
      have b14_2 := hx14.cell b13_2
      have b14_3 := hx14.cell b13_3
      have b14_4 := hx14.cell b13_4
      have b14_5 := hx14.cell b13_5
      have b14_6 := hx14.cell b13_6
      have b14_7 := hx14.cell b13_7
      have b14_8 := hx14.cell b13_8
      have b14_9 := hx14.cell b13_9
      go_region_held3 (fun w' => w'.cell? ⟨w.heap.size, 0, none⟩ = some (v) ∧ w'.cell? ⟨w.heap.size + 1, 0, none⟩ = some (u) ∧ w'.cell? ⟨w.heap.size + 1, 1, none⟩ = some (u') ∧ w'.cell? ⟨p3, 0, none⟩ = some (r3_0_0) ∧ w'.cell? ⟨p3, 1, none⟩ = some (r3_0_1) ∧ w'.cell? ⟨w4.heap.size, 0, none⟩ = some (.slice (some ⟨g4_0, 0, none⟩) (ps).length (ps).length) ∧ w'.cell? ⟨w6.heap.size, 0, none⟩ = some (.slice (some ⟨g6_0, 0, none⟩) (ls).length (ls).length) ∧ w'.cell? ⟨w6.heap.size, 1, none⟩ = some (.slice (some ⟨g6_1, 0, none⟩) (ds).length (ds).length) ∧ w'.cell? ⟨w8.heap.size, 0, none⟩ = some (.slice q8_0_0 (L).length c8_0_0) ∧ w'.cell? ⟨w8.heap.size, 1, none⟩ = some (.slice q8_0_1 (D).length c8_0_1)) (first | exact ⟨b14_0, b14_1, b14_2, b14_3, b14_4, b14_5, b14_6, b14_7, b14_8, b14_9⟩ | exact ⟨b15_0, b15_1, b15_2, b15_3, b15_4, b15_5, b15_6, b15_7, b15_8, b15_9⟩ | exact ⟨b16_0, b16_1, b16_2, b16_3, b16_4, b16_5, b16_6, b16_7, b16_8, b16_9⟩)
        (first | (go_at_call 19; have X0_12 := X0_11.trans hx12; have X0_13 := X0_12.trans hx13; have X0_14 := X0_13.trans hx14; refine (laws_toPathCosts ls ds _ _ _ (k.ext (X0_14)) (l.ext (X0_14)) k2 l2).mono ?_; rintro e w15 ⟨g15_0, g15_1, rfl, ho15_0, ho15_1, hx15⟩; have b15_0 := hx15.cell b14_0; have b15_1 := hx15.cell b14_1; have b15_2 := hx15.cell b14_2; have b15_3 := hx15.cell b14_3; have b15_4 := hx15.cell b14_4; have b15_5 := hx15.cell b14_5; have b15_6 := hx15.cell b14_6; have b15_7 := hx15.cell b14_7; have b15_8 := hx15.cell b14_8; have b15_9 := hx15.cell b14_9) | (go_at_call 22; have X7_13 := X7_12.trans hx13; have X7_14 := X7_13.trans hx14; have X7_15 := X7_14.trans hx15; have o9 := own_ext o2 (X7_15); have o10 := own_ext o3 (X7_15); refine (laws_eqPathCosts ls ds _ _ _ _ _ (Rd.own o9) (Rd.own o10) (Rd.own ho15_0) (Rd.own ho15_1) k2 l2).mono ?_; rintro e w16 ⟨rfl, hx16⟩; have b16_0 := hx16.cell b15_0; have b16_1 := hx16.cell b15_1; have b16_2 := hx16.cell b15_2; have b16_3 := hx16.cell b15_3; have b16_4 := hx16.cell b15_4; have b16_5 := hx16.cell b15_5; have b16_6 := hx16.cell b15_6; have b16_7 := hx16.cell b15_7; have b16_8 := hx16.cell b15_8; have b16_9 := hx16.cell b15_9))
      clear b13_0 b13_1 b13_2 b13_3 b13_4 b13_5 b13_6 b13_7 b13_8 b13_9 b14_0 b14_1 b14_2 b14_3 b14_4 b14_5 b14_6 b14_7 b14_8 b14_9 b15_0 b15_1 b15_2 b15_3 b15_4 b15_5 b15_6 b15_7 b15_8 b15_9
      (go_wp2_with fail)
      have X12_14 := hx13.trans hx14
      have X12_15 := X12_14.trans hx15
      have X12_16 := X12_15.trans hx16
      have o11 := own_ext o8 (X12_16)
      have hl17 := own_row o11
      go_at_call 27; refine (laws_markTree _ _ _ 1 _ _ o11 (Nat.le_trans h2 (by decide)) (by omega) (by omega)).mono ?_; rintro e w17 ⟨rfl, -, hg17⟩
      have b17_0 := hg17.cell b16_0 (fun e => by have h9 := hl17 _ e.symm; have h8 := (X0_3).size; dsimp only at h9; omega)
      have b17_1 := hg17.cell b16_1 (fun e => by have h9 := hl17 _ e.symm; have h8 := (X0_3).size; dsimp only at h9; omega)
      have b17_2 := hg17.cell b16_2 (fun e => by have h9 := hl17 _ e.symm; have h8 := (X0_3).size; dsimp only at h9; omega)
      have b17_3 := hg17.cell b16_3 (fun e => by have h9 := hl17 _ e.symm; have h8 := ((Ext.refl w3)).size; have h7 := hs3; dsimp only at h9; omega)
      have b17_4 := hg17.cell b16_4 (fun e => by have h9 := hl17 _ e.symm; have h8 := ((Ext.refl w3)).size; have h7 := hs3; dsimp only at h9; omega)
      have b17_5 := hg17.cell b16_5 (fun e => by have h9 := own_row ho4_0 _ e.symm; have h8 := ((Ext.refl w4)).size; dsimp only at h9; omega)
      have b17_6 := hg17.cell b16_6 (fun e => by have h9 := own_row ho4_0 _ e.symm; have h8 := (X4_6).size; dsimp only at h9; omega)
      have b17_7 := hg17.cell b16_7 (fun e => by have h9 := own_row ho4_0 _ e.symm; have h8 := (X4_6).size; dsimp only at h9; omega)
      have X4_8 := X4_7.trans hx8
      have b17_8 := hg17.cell b16_8 (fun e => by have h9 := own_row ho4_0 _ e.symm; have h8 := (X4_8).size; dsimp only at h9; omega)
      have b17_9 := hg17.cell b16_9 (fun e => by have h9 := own_row ho4_0 _ e.symm; have h8 := (X4_8).size; dsimp only at h9; omega)
      clear b16_0 b16_1 b16_2 b16_3 b16_4 b16_5 b16_6 b16_7 b16_8 b16_9
      (go_wp2_with fail)
      have o12 := own_ext o9 (hx16)
      have o13 := own_behind o12 hg17 (fun j hj => Nat.lt_of_lt_of_le (own_row ho4_0 j hj).2 (hx5).size)
      have o14 := own_ext o10 (hx16)
      have o15 := own_behind o14 hg17 (fun j hj => Nat.lt_of_lt_of_le (own_row ho4_0 j hj).2 (hx5).size)
      have hl18 := own_row o13
      have hl19 := own_row o15
      go_at_call 28; refine (laws_markPathCosts _ _ _ _ _ _ (1 + (ps).length) _ _ _ o13 o15 hd6 k2 l2 (by omega) (by omega)).mono ?_; rintro e w19 ⟨rfl, hm19_0, hm19_1, w18, hg18, hg19⟩
      have b18_0 := hg18.cell b17_0 (fun e => by have h9 := hl18 _ e.symm; have h8 := (X0_5).size; dsimp only at h9; omega)
      have b18_1 := hg18.cell b17_1 (fun e => by have h9 := hl18 _ e.symm; have h8 := (X0_5).size; dsimp only at h9; omega)
      have b18_2 := hg18.cell b17_2 (fun e => by have h9 := hl18 _ e.symm; have h8 := (X0_5).size; dsimp only at h9; omega)
      have b18_3 := hg18.cell b17_3 (fun e => by have h9 := hl18 _ e.symm; have h8 := (X3_5).size; have h7 := hs3; dsimp only at h9; omega)
      have b18_4 := hg18.cell b17_4 (fun e => by have h9 := hl18 _ e.symm; have h8 := (X3_5).size; have h7 := hs3; dsimp only at h9; omega)
      have b18_5 := hg18.cell b17_5 (fun e => by have h9 := hl18 _ e.symm; have h8 := ((Ext.refl w5)).size; have h7 := hs5; dsimp only at h9; omega)
      have b18_6 := hg18.cell b17_6 (fun e => by have h9 := own_row ho6_0 _ e.symm; have h8 := ((Ext.refl w6)).size; dsimp only at h9; omega)
      have b18_7 := hg18.cell b17_7 (fun e => by have h9 := own_row ho6_0 _ e.symm; have h8 := ((Ext.refl w6)).size; dsimp only at h9; omega)
      have X6_8 := hx7.trans hx8
      have b18_8 := hg18.cell b17_8 (fun e => by have h9 := own_row ho6_0 _ e.symm; have h8 := (X6_8).size; dsimp only at h9; omega)
      have b18_9 := hg18.cell b17_9 (fun e => by have h9 := own_row ho6_0 _ e.symm; have h8 := (X6_8).size; dsimp only at h9; omega)
      clear b17_0 b17_1 b17_2 b17_3 b17_4 b17_5 b17_6 b17_7 b17_8 b17_9
      have b19_0 := hg19.cell b18_0 (fun e => by have h9 := hl19 _ e.symm; have h8 := (X0_5).size; dsimp only at h9; omega)
      have b19_1 := hg19.cell b18_1 (fun e => by have h9 := hl19 _ e.symm; have h8 := (X0_5).size; dsimp only at h9; omega)
      have b19_2 := hg19.cell b18_2 (fun e => by have h9 := hl19 _ e.symm; have h8 := (X0_5).size; dsimp only at h9; omega)
      have b19_3 := hg19.cell b18_3 (fun e => by have h9 := hl19 _ e.symm; have h8 := (X3_5).size; have h7 := hs3; dsimp only at h9; omega)
      have b19_4 := hg19.cell b18_4 (fun e => by have h9 := hl19 _ e.symm; have h8 := (X3_5).size; have h7 := hs3; dsimp only at h9; omega)
      have b19_5 := hg19.cell b18_5 (fun e => by have h9 := hl19 _ e.symm; have h8 := ((Ext.refl w5)).size; have h7 := hs5; dsimp only at h9; omega)
      have b19_6 := hg19.cell b18_6 (fun e => by have h9 := own_row ho6_1 _ e.symm; have h8 := ((Ext.refl w6)).size; dsimp only at h9; omega)
      have b19_7 := hg19.cell b18_7 (fun e => by have h9 := own_row ho6_1 _ e.symm; have h8 := ((Ext.refl w6)).size; dsimp only at h9; omega)
      have b19_8 := hg19.cell b18_8 (fun e => by have h9 := own_row ho6_1 _ e.symm; have h8 := (X6_8).size; dsimp only at h9; omega)
      have b19_9 := hg19.cell b18_9 (fun e => by have h9 := own_row ho6_1 _ e.symm; have h8 := (X6_8).size; dsimp only at h9; omega)
      clear b18_0 b18_1 b18_2 b18_3 b18_4 b18_5 b18_6 b18_7 b18_8 b18_9
      (go_wp2_with fail)
      have X9_11 := hx10.trans hx11
      have X9_12 := X9_11.trans hx12
      have X9_13 := X9_12.trans hx13
      have X9_14 := X9_13.trans hx14
      have X9_15 := X9_14.trans hx15
      have X9_16 := X9_15.trans hx16
      have o16 := own_ext o4 (X9_16)
      have o17 := own_behind o16 hg17 (fun j hj => Nat.lt_of_lt_of_le (own_row ho4_0 j hj).2 (X4_7).size)
      have o18 := own_behind o17 hg18 (fun j hj => Nat.lt_of_lt_of_le (own_row ho6_0 j hj).2 (hx7).size)
      have o19 := own_behind o18 hg19 (fun j hj => Nat.lt_of_lt_of_le (own_row ho6_1 j hj).2 (hx7).size)
      have o20 := own_ext o5 (X9_16)
      have o21 := own_behind o20 hg17 (fun j hj => Nat.lt_of_lt_of_le (own_row ho4_0 j hj).2 (X4_7).size)
      have o22 := own_behind o21 hg18 (fun j hj => Nat.lt_of_lt_of_le (own_row ho6_0 j hj).2 (hx7).size)
      have o23 := own_behind o22 hg19 (fun j hj => Nat.lt_of_lt_of_le (own_row ho6_1 j hj).2 (hx7).size)
      have o24 := own_ext o6 (X9_16)
      have X3_10 := X3_9.trans hx10
      have X3_11 := X3_10.trans hx11
      have X3_12 := X3_11.trans hx12
      have X3_13 := X3_12.trans hx13
      have X3_14 := X3_13.trans hx14
      have X3_15 := X3_14.trans hx15
      have X3_16 := X3_15.trans hx16
      have X3_17 := (X3_16).grown hg17 (fun j hj => Nat.le_trans ((Ext.refl w3)).size (hl17 j hj).1)
      have o25 := own_ext ho3_0_0 (X3_17)
      have X3_18 := (X3_17).grown hg18 (fun j hj => Nat.le_trans (X3_5).size (hl18 j hj).1)
      have o26 := own_ext ho3_0_0 (X3_18)
      have X3_19 := (X3_18).grown hg19 (fun j hj => Nat.le_trans (X3_5).size (hl19 j hj).1)
      have o27 := own_ext ho3_0_0 (X3_19)
      have o28 := own_ext o7 (X9_16)
      have o29 := own_ext ho3_0_1 (X3_17)
      have o30 := own_ext ho3_0_1 (X3_18)
      have o31 := own_ext ho3_0_1 (X3_19)
      go_at_call 22; refine (laws_eqPathCosts L D _ _ _ _ _ (Rd.own o19) (Rd.own o23) (Rd.own o27) (Rd.own o31) hL hD).mono ?_; rintro e w20 ⟨rfl, hx20⟩
      have b20_0 := hx20.cell b19_0
      have b20_1 := hx20.cell b19_1
      have b20_2 := hx20.cell b19_2
      have b20_3 := hx20.cell b19_3
      have b20_4 := hx20.cell b19_4
      have b20_5 := hx20.cell b19_5
      have b20_6 := hx20.cell b19_6
      have b20_7 := hx20.cell b19_7
      have b20_8 := hx20.cell b19_8
      have b20_9 := hx20.cell b19_9
      clear b19_0 b19_1 b19_2 b19_3 b19_4 b19_5 b19_6 b19_7 b19_8 b19_9
      (go_wp2_with fail)
      have o32 := own_ext o19 (hx20)
      have o33 := own_ext o23 (hx20)
      have hl21 := own_row o32
      have hl22 := own_row o33
      go_at_call 28; refine (laws_markPathCosts _ _ _ _ _ _ 1 _ _ _ o32 o33 hd8 hL hD (by omega) (by omega)).mono ?_; rintro e w22 ⟨rfl, hm22_0, hm22_1, w21, hg21, hg22⟩
      have b21_0 := hg21.cell b20_0 (fun e => by have h9 := hl21 _ e.symm; have h8 := (X0_7).size; dsimp only at h9; omega)
      have b21_1 := hg21.cell b20_1 (fun e => by have h9 := hl21 _ e.symm; have h8 := (X0_7).size; dsimp only at h9; omega)
      have b21_2 := hg21.cell b20_2 (fun e => by have h9 := hl21 _ e.symm; have h8 := (X0_7).size; dsimp only at h9; omega)
      have b21_3 := hg21.cell b20_3 (fun e => by have h9 := hl21 _ e.symm; have h8 := (X3_7).size; have h7 := hs3; dsimp only at h9; omega)
      have b21_4 := hg21.cell b20_4 (fun e => by have h9 := hl21 _ e.symm; have h8 := (X3_7).size; have h7 := hs3; dsimp only at h9; omega)
      have X5_7 := hx6.trans hx7
      have b21_5 := hg21.cell b20_5 (fun e => by have h9 := hl21 _ e.symm; have h8 := (X5_7).size; have h7 := hs5; dsimp only at h9; omega)
      have b21_6 := hg21.cell b20_6 (fun e => by have h9 := hl21 _ e.symm; have h8 := ((Ext.refl w7)).size; have h7 := hs7; dsimp only at h9; omega)
      have b21_7 := hg21.cell b20_7 (fun e => by have h9 := hl21 _ e.symm; have h8 := ((Ext.refl w7)).size; have h7 := hs7; dsimp only at h9; omega)
      have b21_8 := hg21.cell b20_8 (fun e => by have h9 := own_row ho8_0_0 _ e.symm; have h8 := ((Ext.refl w8)).size; dsimp only at h9; omega)
      have b21_9 := hg21.cell b20_9 (fun e => by have h9 := own_row ho8_0_0 _ e.symm; have h8 := ((Ext.refl w8)).size; dsimp only at h9; omega)
      clear b20_0 b20_1 b20_2 b20_3 b20_4 b20_5 b20_6 b20_7 b20_8 b20_9
      have b22_0 := hg22.cell b21_0 (fun e => by have h9 := hl22 _ e.symm; have h8 := (X0_7).size; dsimp only at h9; omega)
      have b22_1 := hg22.cell b21_1 (fun e => by have h9 := hl22 _ e.symm; have h8 := (X0_7).size; dsimp only at h9; omega)
      have b22_2 := hg22.cell b21_2 (fun e => by have h9 := hl22 _ e.symm; have h8 := (X0_7).size; dsimp only at h9; omega)
      have b22_3 := hg22.cell b21_3 (fun e => by have h9 := hl22 _ e.symm; have h8 := (X3_7).size; have h7 := hs3; dsimp only at h9; omega)
      have b22_4 := hg22.cell b21_4 (fun e => by have h9 := hl22 _ e.symm; have h8 := (X3_7).size; have h7 := hs3; dsimp only at h9; omega)
      have b22_5 := hg22.cell b21_5 (fun e => by have h9 := hl22 _ e.symm; have h8 := (X5_7).size; have h7 := hs5; dsimp only at h9; omega)
      have b22_6 := hg22.cell b21_6 (fun e => by have h9 := hl22 _ e.symm; have h8 := ((Ext.refl w7)).size; have h7 := hs7; dsimp only at h9; omega)
      have b22_7 := hg22.cell b21_7 (fun e => by have h9 := hl22 _ e.symm; have h8 := ((Ext.refl w7)).size; have h7 := hs7; dsimp only at h9; omega)
      have b22_8 := hg22.cell b21_8 (fun e => by have h9 := own_row ho8_0_1 _ e.symm; have h8 := ((Ext.refl w8)).size; dsimp only at h9; omega)
      have b22_9 := hg22.cell b21_9 (fun e => by have h9 := own_row ho8_0_1 _ e.symm; have h8 := ((Ext.refl w8)).size; dsimp only at h9; omega)
      clear b21_0 b21_1 b21_2 b21_3 b21_4 b21_5 b21_6 b21_7 b21_8 b21_9
      (go_wp2_with fail)
      go_at_call 29; refine (laws_heldPathCosts _ _ _ _ 1 _ (Rd.own hm22_0) (Rd.own hm22_1) hL hD (by decide) (by decide)).mono ?_; rintro e w23 ⟨rfl, hx23⟩
      have b23_0 := hx23.cell b22_0
      have b23_1 := hx23.cell b22_1
      have b23_2 := hx23.cell b22_2
      have b23_3 := hx23.cell b22_3
      have b23_4 := hx23.cell b22_4
      have b23_5 := hx23.cell b22_5
      have b23_6 := hx23.cell b22_6
      have b23_7 := hx23.cell b22_7
      have b23_8 := hx23.cell b22_8
      have b23_9 := hx23.cell b22_9
      clear b22_0 b22_1 b22_2 b22_3 b22_4 b22_5 b22_6 b22_7 b22_8 b22_9
      have X0_15 := X0_14.trans hx15
      have X0_16 := X0_15.trans hx16
      have X0_17 := (X0_16).grown hg17 (fun j hj => Nat.le_trans (X0_3).size (hl17 j hj).1)
      have X0_18 := (X0_17).grown hg18 (fun j hj => Nat.le_trans (X0_5).size (hl18 j hj).1)
      have X0_19 := (X0_18).grown hg19 (fun j hj => Nat.le_trans (X0_5).size (hl19 j hj).1)
      have X0_20 := X0_19.trans hx20
      have X0_21 := (X0_20).grown hg21 (fun j hj => Nat.le_trans (X0_7).size (hl21 j hj).1)
      have X0_22 := (X0_21).grown hg22 (fun j hj => Nat.le_trans (X0_7).size (hl22 j hj).1)
      have X0_23 := X0_22.trans hx23
      (go_upto_region 31 with fail)
      go_cut [19, 20] (fun s10 s11 wx => ∃ p r r', s10 = .pointer (some ⟨p, 0, none⟩) ∧ s11 = .bool b ∧ RCut w23 wx p r r' L D)
      case first =>
        go_region_held3 (fun w' => w'.cell? ⟨w.heap.size, 0, none⟩ = some (v) ∧ w'.cell? ⟨w.heap.size + 1, 0, none⟩ = some (u) ∧ w'.cell? ⟨w.heap.size + 1, 1, none⟩ = some (u') ∧ w'.cell? ⟨p3, 0, none⟩ = some (r3_0_0) ∧ w'.cell? ⟨p3, 1, none⟩ = some (r3_0_1) ∧ w'.cell? ⟨w4.heap.size, 0, none⟩ = some (.slice (some ⟨g4_0, 0, none⟩) (ps).length (ps).length) ∧ w'.cell? ⟨w6.heap.size, 0, none⟩ = some (.slice (some ⟨g6_0, 0, none⟩) (ls).length (ls).length) ∧ w'.cell? ⟨w6.heap.size, 1, none⟩ = some (.slice (some ⟨g6_1, 0, none⟩) (ds).length (ds).length) ∧ w'.cell? ⟨w8.heap.size, 0, none⟩ = some (.slice q8_0_0 (L).length c8_0_0) ∧ w'.cell? ⟨w8.heap.size, 1, none⟩ = some (.slice q8_0_1 (D).length c8_0_1)) (first | exact ⟨b23_0, b23_1, b23_2, b23_3, b23_4, b23_5, b23_6, b23_7, b23_8, b23_9⟩ | exact ⟨(show Ext w23 _ from (by repeat' (first | exact Ext.refl _ | assumption | refine Ext.alloc ?_ _ | refine Ext.ext ?_ _ | refine Ext.drew ?_ | (refine Ext.setCell ?_ (by first | exact Ext.size (by assumption) | (simp; done) | (simp; omega)) _)))).cell b23_0, (show Ext w23 _ from (by repeat' (first | exact Ext.refl _ | assumption | refine Ext.alloc ?_ _ | refine Ext.ext ?_ _ | refine Ext.drew ?_ | (refine Ext.setCell ?_ (by first | exact Ext.size (by assumption) | (simp; done) | (simp; omega)) _)))).cell b23_1, (show Ext w23 _ from (by repeat' (first | exact Ext.refl _ | assumption | refine Ext.alloc ?_ _ | refine Ext.ext ?_ _ | refine Ext.drew ?_ | (refine Ext.setCell ?_ (by first | exact Ext.size (by assumption) | (simp; done) | (simp; omega)) _)))).cell b23_2, (show Ext w23 _ from (by repeat' (first | exact Ext.refl _ | assumption | refine Ext.alloc ?_ _ | refine Ext.ext ?_ _ | refine Ext.drew ?_ | (refine Ext.setCell ?_ (by first | exact Ext.size (by assumption) | (simp; done) | (simp; omega)) _)))).cell b23_3, (show Ext w23 _ from (by repeat' (first | exact Ext.refl _ | assumption | refine Ext.alloc ?_ _ | refine Ext.ext ?_ _ | refine Ext.drew ?_ | (refine Ext.setCell ?_ (by first | exact Ext.size (by assumption) | (simp; done) | (simp; omega)) _)))).cell b23_4, (show Ext w23 _ from (by repeat' (first | exact Ext.refl _ | assumption | refine Ext.alloc ?_ _ | refine Ext.ext ?_ _ | refine Ext.drew ?_ | (refine Ext.setCell ?_ (by first | exact Ext.size (by assumption) | (simp; done) | (simp; omega)) _)))).cell b23_5, (show Ext w23 _ from (by repeat' (first | exact Ext.refl _ | assumption | refine Ext.alloc ?_ _ | refine Ext.ext ?_ _ | refine Ext.drew ?_ | (refine Ext.setCell ?_ (by first | exact Ext.size (by assumption) | (simp; done) | (simp; omega)) _)))).cell b23_6, (show Ext w23 _ from (by repeat' (first | exact Ext.refl _ | assumption | refine Ext.alloc ?_ _ | refine Ext.ext ?_ _ | refine Ext.drew ?_ | (refine Ext.setCell ?_ (by first | exact Ext.size (by assumption) | (simp; done) | (simp; omega)) _)))).cell b23_7, (show Ext w23 _ from (by repeat' (first | exact Ext.refl _ | assumption | refine Ext.alloc ?_ _ | refine Ext.ext ?_ _ | refine Ext.drew ?_ | (refine Ext.setCell ?_ (by first | exact Ext.size (by assumption) | (simp; done) | (simp; omega)) _)))).cell b23_8, (show Ext w23 _ from (by repeat' (first | exact Ext.refl _ | assumption | refine Ext.alloc ?_ _ | refine Ext.ext ?_ _ | refine Ext.drew ?_ | (refine Ext.setCell ?_ (by first | exact Ext.size (by assumption) | (simp; done) | (simp; omega)) _)))).cell b23_9⟩)
          (first | (go_at_call 18; refine (laws_toTree ps _ _ (h.ext ((X0_23).trans (show Ext w23 _ from (by repeat' (first | exact Ext.refl _ | assumption | refine Ext.alloc ?_ _ | refine Ext.ext ?_ _ | refine Ext.drew ?_ | (refine Ext.setCell ?_ (by first | exact Ext.size (by assumption) | (simp; done) | (simp; omega)) _)))))) h2).mono ?_; rintro e wA ⟨gA, rfl, oA, xA⟩; have YA : Ext w23 wA := (show Ext w23 _ from (by repeat' (first | exact Ext.refl _ | assumption | refine Ext.alloc ?_ _ | refine Ext.ext ?_ _ | refine Ext.drew ?_ | (refine Ext.setCell ?_ (by first | exact Ext.size (by assumption) | (simp; done) | (simp; omega)) _)))).trans xA; have SA := YA.size; (try (have HBA := hid ((xA.heap (by simp)).trans (heap_at (w := w23.drew) (k := w23.heap.size) (.cells #[.slice none 0 0, .slice none 0 0] 32 (0, 0)) rfl)); have lA := (Array.getElem?_eq_some_iff.1 HBA.out).1; obtain ⟨⟨m0, m1⟩, ⟨m2, m3⟩, -⟩ := box2 HBA.out))) | (go_at_call 19; refine (laws_toPathCosts ls ds _ _ _ (k.ext ((X0_23).trans (show Ext w23 _ from (by repeat' (first | exact Ext.refl _ | assumption | refine Ext.alloc ?_ _ | refine Ext.ext ?_ _ | refine Ext.drew ?_ | (refine Ext.setCell ?_ (by first | exact Ext.size (by assumption) | (simp; done) | (simp; omega)) _)))))) (l.ext ((X0_23).trans (show Ext w23 _ from (by repeat' (first | exact Ext.refl _ | assumption | refine Ext.alloc ?_ _ | refine Ext.ext ?_ _ | refine Ext.drew ?_ | (refine Ext.setCell ?_ (by first | exact Ext.size (by assumption) | (simp; done) | (simp; omega)) _)))))) k2 l2).mono ?_; rintro e wB ⟨gB, gB', rfl, oB, oB', xB⟩; have ZB : Ext wA wB := (show Ext wA _ from (by repeat' (first | exact Ext.refl _ | assumption | refine Ext.alloc ?_ _ | refine Ext.ext ?_ _ | refine Ext.drew ?_ | (refine Ext.setCell ?_ (by first | exact Ext.size (by assumption) | (simp; done) | (simp; omega)) _)))).trans xB; have YB : Ext w23 wB := YA.trans ZB; have SB := ZB.size; (try (have HBB := hid ((xB.heap (by simp)).trans (heap_at (w := wA) (.cells #[.slice none 0 0, .slice none 0 0] 32 (0, 0)) rfl)); have lB := (Array.getElem?_eq_some_iff.1 HBB.out).1; obtain ⟨⟨m0, m1⟩, ⟨m2, m3⟩, -⟩ := box2 HBB.out)); (try (have HBB := hid ((xB.heap (Array.getElem?_eq_some_iff.1 HBA.out).1).trans HBA.out); obtain ⟨⟨m0, m1⟩, ⟨m2, m3⟩, -⟩ := box2 HBB.out))) | (go_at_call 26; refine (ci _ _ _ _ ((Rd.own oA).ext (ZB.trans (by repeat' (first | exact Ext.refl _ | assumption | refine Ext.alloc ?_ _ | refine Ext.ext ?_ _ | refine Ext.drew ?_ | (refine Ext.setCell ?_ (by first | exact Ext.size (by assumption) | (simp; done) | (simp; omega)) _))))) ((Rd.own oB).ext (by repeat' (first | exact Ext.refl _ | assumption | refine Ext.alloc ?_ _ | refine Ext.ext ?_ _ | refine Ext.drew ?_ | (refine Ext.setCell ?_ (by first | exact Ext.size (by assumption) | (simp; done) | (simp; omega)) _)))) ((Rd.own oB').ext (by repeat' (first | exact Ext.refl _ | assumption | refine Ext.alloc ?_ _ | refine Ext.ext ?_ _ | refine Ext.drew ?_ | (refine Ext.setCell ?_ (by first | exact Ext.size (by assumption) | (simp; done) | (simp; omega)) _))))).mono ?_; rintro e wC ⟨rC, rC', rfl, oC, oC', dC, xC⟩; obtain ⟨p1, c1, rfl⟩ := own_shape oC; obtain ⟨p2, c2, rfl⟩ := own_shape oC'; have YC : Ext w23 wC := (show Ext w23 _ from (by repeat' (first | exact Ext.refl _ | assumption | refine Ext.alloc ?_ _ | refine Ext.ext ?_ _ | refine Ext.drew ?_ | (refine Ext.setCell ?_ (by first | exact Ext.size (by assumption) | (simp; done) | (simp; omega)) _)))).trans xC; (try (have HBC := hid ((xC.heap (by simp)).trans (heap_at (w := wB) (.cells #[.slice none 0 0, .slice none 0 0] 32 (0, 0)) rfl)); obtain ⟨⟨m0, m1⟩, ⟨m2, m3⟩, -⟩ := box2 HBC.out)); (try (have HBC := hid ((xC.heap (Array.getElem?_eq_some_iff.1 HBB.out).1).trans HBB.out); obtain ⟨⟨m0, m1⟩, ⟨m2, m3⟩, -⟩ := box2 HBC.out))))
        all_goals (go_wp2_with fail; go_meet; exact ⟨_, _, _, rfl, rfl, by first | exact cutL YC YB.size oC oC' dC | exact cutW HBC.out YC (by omega) (by first | omega | (simp; done) | (simp; omega)) oC oC' dC⟩)
      obtain ⟨p24, r24_0_0, r24_0_1, rfl, rfl, RC24⟩ := hcut
      generalize wc = w24 at *
      obtain ⟨hx24, hB24, hs24, ho24_0_0, ho24_0_1, hd24⟩ := RC24
      obtain ⟨⟨b24_10, b24_11⟩, -, -⟩ := box2 hB24
      have HB24 := hid hB24; clear hB24
      have b24_0 := hx24.cell b23_0
      have b24_1 := hx24.cell b23_1
      have b24_2 := hx24.cell b23_2
      have b24_3 := hx24.cell b23_3
      have b24_4 := hx24.cell b23_4
      have b24_5 := hx24.cell b23_5
      have b24_6 := hx24.cell b23_6
      have b24_7 := hx24.cell b23_7
      have b24_8 := hx24.cell b23_8
      have b24_9 := hx24.cell b23_9
      clear b23_0 b23_1 b23_2 b23_3 b23_4 b23_5 b23_6 b23_7 b23_8 b23_9
      (go_wp2_with fail)
      have o34 := own_ext o27 (hx20)
      have X3_20 := X3_19.trans hx20
      have X3_21 := (X3_20).grown hg21 (fun j hj => Nat.le_trans (X3_7).size (hl21 j hj).1)
      have o35 := own_ext ho3_0_0 (X3_21)
      have X3_22 := (X3_21).grown hg22 (fun j hj => Nat.le_trans (X3_7).size (hl22 j hj).1)
      have o36 := own_ext ho3_0_0 (X3_22)
      have X22_24 := hx23.trans hx24
      have o37 := own_ext o36 (X22_24)
      have o38 := own_ext o31 (hx20)
      have o39 := own_ext ho3_0_1 (X3_21)
      have o40 := own_ext ho3_0_1 (X3_22)
      have o41 := own_ext o40 (X22_24)
      go_at_call 22; refine (laws_eqPathCosts L D _ _ _ _ _ (Rd.own ho24_0_0) (Rd.own ho24_0_1) (Rd.own o37) (Rd.own o41) hL hD).mono ?_; rintro e w25 ⟨rfl, hx25⟩
      have b25_0 := hx25.cell b24_0
      have b25_1 := hx25.cell b24_1
      have b25_2 := hx25.cell b24_2
      have b25_3 := hx25.cell b24_3
      have b25_4 := hx25.cell b24_4
      have b25_5 := hx25.cell b24_5
      have b25_6 := hx25.cell b24_6
      have b25_7 := hx25.cell b24_7
      have b25_8 := hx25.cell b24_8
      have b25_9 := hx25.cell b24_9
      have b25_10 := hx25.cell b24_10
      have b25_11 := hx25.cell b24_11
      clear b24_0 b24_1 b24_2 b24_3 b24_4 b24_5 b24_6 b24_7 b24_8 b24_9 b24_10 b24_11
      (go_wp2_with fail)
      have X22_25 := X22_24.trans hx25
      have o42 := own_ext hm22_0 (X22_25)
      have o43 := own_ext hm22_1 (X22_25)
      go_at_call 29; refine (laws_heldPathCosts _ _ _ _ 1 _ (Rd.own o42) (Rd.own o43) hL hD (by decide) (by decide)).mono ?_; rintro e w26 ⟨rfl, hx26⟩
      have b26_0 := hx26.cell b25_0
      have b26_1 := hx26.cell b25_1
      have b26_2 := hx26.cell b25_2
      have b26_3 := hx26.cell b25_3
      have b26_4 := hx26.cell b25_4
      have b26_5 := hx26.cell b25_5
      have b26_6 := hx26.cell b25_6
      have b26_7 := hx26.cell b25_7
      have b26_8 := hx26.cell b25_8
      have b26_9 := hx26.cell b25_9
      have b26_10 := hx26.cell b25_10
      have b26_11 := hx26.cell b25_11
      clear b25_0 b25_1 b25_2 b25_3 b25_4 b25_5 b25_6 b25_7 b25_8 b25_9 b25_10 b25_11
      go_wp2
      go_returns
      have X0_24 := X0_23.trans hx24
      have X0_25 := X0_24.trans hx25
      have X0_26 := X0_25.trans hx26
      exact ⟨rfl, XB.trans (X0_26)⟩
    · go_enter Try.func5, Try.ntmps5
      go_wp2_with fail
      have XB : Ext w ((w.alloc (.cells #[v] 24)).alloc (.cells #[u, u'] 26)) := (by repeat' (first | exact Ext.refl _ | assumption | refine Ext.alloc ?_ _ | refine Ext.ext ?_ _ | refine Ext.drew ?_ | refine Ext.drewN ?_ _))
      have b0_0 : ((w.alloc (.cells #[v] 24)).alloc (.cells #[u, u'] 26)).cell? ⟨w.heap.size, 0, none⟩ = some v := by rw [cell_of_row _ _ 0 _ _ (0, 0) (heap_old (heap_at _ (by simp)) _)]; rfl
      have b0_1 : ((w.alloc (.cells #[v] 24)).alloc (.cells #[u, u'] 26)).cell? ⟨w.heap.size + 1, 0, none⟩ = some u := by rw [cell_of_row _ _ 0 _ _ (0, 0) (heap_at _ (by simp))]; rfl
      have b0_2 : ((w.alloc (.cells #[v] 24)).alloc (.cells #[u, u'] 26)).cell? ⟨w.heap.size + 1, 1, none⟩ = some u' := by rw [cell_of_row _ _ 1 _ _ (0, 0) (heap_at _ (by simp))]; rfl
      replace h := h.ext XB
      replace k := k.ext XB
      replace l := l.ext XB
      have hlw : w.heap.size + 2 ≤ ((w.alloc (.cells #[v] 24)).alloc (.cells #[u, u'] 26)).heap.size := by simp
      generalize ((w.alloc (.cells #[v] 24)).alloc (.cells #[u, u'] 26)) = w0 at *
      go_at_call 15; refine (laws_szTree _ _ 1048576 _ _ _ h (by omega) (by decide)).mono ?_; rintro e w' ⟨rfl, hx1⟩
      have c0 := hx1.cell b0_0
      have c1 := hx1.cell b0_1
      have c2 := hx1.cell b0_2
      (go_wp2_with fail); go_at_call 16; refine (laws_szPathCosts_big _ _ _ _ (1048576 - ps.length) _ _ _ _ _ (k.ext hx1) (l.ext hx1) (by omega) (by omega) (by omega) km lm).mono ?_; rintro e w' ⟨rfl, hx2⟩
      go_wp2
      go_returns
      exact ⟨rfl, XB.trans (hx1.trans hx2)⟩
  · go_enter Try.func5, Try.ntmps5
    go_wp2_with fail
    have XB : Ext w ((w.alloc (.cells #[v] 24)).alloc (.cells #[u, u'] 26)) := (by repeat' (first | exact Ext.refl _ | assumption | refine Ext.alloc ?_ _ | refine Ext.ext ?_ _ | refine Ext.drew ?_ | refine Ext.drewN ?_ _))
    have b0_0 : ((w.alloc (.cells #[v] 24)).alloc (.cells #[u, u'] 26)).cell? ⟨w.heap.size, 0, none⟩ = some v := by rw [cell_of_row _ _ 0 _ _ (0, 0) (heap_old (heap_at _ (by simp)) _)]; rfl
    have b0_1 : ((w.alloc (.cells #[v] 24)).alloc (.cells #[u, u'] 26)).cell? ⟨w.heap.size + 1, 0, none⟩ = some u := by rw [cell_of_row _ _ 0 _ _ (0, 0) (heap_at _ (by simp))]; rfl
    have b0_2 : ((w.alloc (.cells #[v] 24)).alloc (.cells #[u, u'] 26)).cell? ⟨w.heap.size + 1, 1, none⟩ = some u' := by rw [cell_of_row _ _ 1 _ _ (0, 0) (heap_at _ (by simp))]; rfl
    replace h := h.ext XB
    replace k := k.ext XB
    replace l := l.ext XB
    have hlw : w.heap.size + 2 ≤ ((w.alloc (.cells #[v] 24)).alloc (.cells #[u, u'] 26)).heap.size := by simp
    generalize ((w.alloc (.cells #[v] 24)).alloc (.cells #[u, u'] 26)) = w0 at *
    go_at_call 15; refine (laws_szTree_big _ _ 1048576 _ _ _ h (by omega) (by decide) hm).mono ?_; rintro e w' ⟨rfl, hx1⟩
    go_wp2
    go_returns
    exact ⟨rfl, XB.trans hx1⟩
theorem own : ownKnob Try.prog.godebug = none := by kernel_rfl
theorem laidOut : laidOutB Try.prog = true := by kernel_rfl
theorem lifted (os : Os) (started : os.Started) (H : Type) (enc : TypeId × Value → H) :
    ReturnsInHanded {} Try.checked os 5 .any (Rows.fnExactWorsenLinkSpec.pre6 enc Try.prog Try.f5 Rows.fnExactWorsenLinkRow.domain false) (Rows.fnExactWorsenLinkSpec.post enc Try.prog Try.f5 false true false false) := by
  refine returnsInHanded_of_change (C := Try.checked) own started (by kernel_rfl) Try.func5
    (ChangeSpec.witness6 (enc := enc) (C := Try.checked) false ⟨#[], #[.agg #[.slice none 0 0], .agg #[.slice none 0 0, .slice none 0 0], .int .i64 0, .int .i64 0], []⟩ 8 (by kernel_rfl) (by kernel_rfl) (by kernel_rfl) (by kernel_rfl)) ?_
  intro W base args ds gs before hval0 hW _ _
  have hval : ∀ (j : Nat) t v, Try.f5.params[j]? = some t → args[j]? = some v → Value.okWide Try.prog W .any base t v := hval0
  have hW' := hW
  obtain ⟨p, q, hA0, hV, rfl, hfz, hnd⟩ := hW
  have hA : DataW.TrodAll enc Try.prog W 0 (fun _ => true) true Try.f5.params.toList args.toList ds p := hA0
  rw [Try.params5] at hA hval
  obtain ⟨v0, vs0, d0, ds0, p0, q0, hargs, rfl, rfl, h0, r0⟩ := trodAll_cons hA
  obtain ⟨v1, vs1, d1, ds1, p1, q1, rfl, rfl, rfl, h1, r1⟩ := trodAll_cons r0
  obtain ⟨v2, vs2, d2, ds2, p2, q2, rfl, rfl, rfl, h2, r2⟩ := trodAll_cons r1
  obtain ⟨v3, vs3, d3, ds3, p3, q3, rfl, rfl, rfl, h3, r3⟩ := trodAll_cons r2
  obtain ⟨rfl, rfl, rfl⟩ := trodAll_nil r3
  obtain rfl : args = #[v0, v1, v2, v3] := by cases args; simp_all
  clear hA0 hval0 hfz hnd hV
  obtain ⟨ps, v, rfl, hr, hlen⟩ := opened_tree (hval 0 _ v0 rfl rfl) h0
  obtain ⟨ls, ds, u, u', rfl, kr, klen, lr, llen⟩ := opened_costs (hval 1 _ v1 rfl rfl) h1
  obtain ⟨x, rfl⟩ := opened_int (hval 2 _ v2 rfl rfl)
  obtain ⟨y, rfl⟩ := opened_int (hval 3 _ v3 rfl rfl)
  refine (walk ps ls ds _ _ _ x y W hr kr lr hlen klen llen).mono fun e W' ⟨he, hx⟩ => ?_
  subst he
  exact ⟨_, rfl, law_post laidOut (by rw [Try.params5]; simp only [List.forall_mem_cons, List.not_mem_nil, false_implies, implies_true, and_true]; repeat' apply And.intro; all_goals first | kernel_rfl | exact of_decide_eq_true (by kernel_rfl)) rfl Try.underlying4 rfl ⟨rfl, rfl, rfl⟩ hW' hx.below⟩
theorem proved : Rows.FnExactWorsenLinkSaid :=
  OpenClaim.holds_of_wide 5 Try.f5 rfl rfl rfl rfl rfl rfl rfl ⟨rfl, rfl, rfl, rfl, rfl⟩ rfl rfl rfl rfl rfl (by kernel_rfl) Try.func5 (by kernel_rfl)
    (of_decide_eq_true (by kernel_rfl)) (by unfold Func.isWrapper; first | (rw [if_pos (by decide +kernel)]; kernel_rfl) | (rw [if_neg (by decide +kernel)]; exact ⟨rfl, rfl⟩))
    (fun os started H enc _ => lifted os started H enc)
#print axioms proved
end Go.Proofs.Ythpeicpfaonkdaa.xWorsenLink
