/- The law FnExactTakeFragment. -/
import Derived.Test.YtnngklclehffhaaDoorWPt5
import Derived.Test.YtnngklclehffhaaDoorKit2
import Derived.Test.YtnngklclehffhaaDoorWCOpen
import Derived.Test.YtnngklclehffhaaDoorWPx
import Derived.Test.YtnngklclehffhaaDoorRows
import Derived.Test.YtnngklclehffhaaDoorTie
import Derived.Test.YtnngklclehffhaaDoorCards
import Derived.Lay
import Derived.SevenTiedAt
namespace Go.Proofs.YtnngklclehffhaaDoor.xTakeFragment
open Go.ChangeShapes Go.WideShapes Go.ChangeAt Go.RowKit
set_option maxHeartbeats 400000
set_option maxRecDepth 100000
theorem openedF {H : Type} {enc : TypeId × Value → H} {W : World} {v : Value} {d : DataW H} {ps : List MemPlace} {r : Reach} {b : Nat} (hval : Value.okWide Tryd.prog W r b 39 v)
    (h : DataW.Trod enc Tryd.prog W 0 (fun _ => true) true 39 v d ps) : ∃ x : Fra, v = .agg x.cs.toArray ∧ x.d.size ≤ maxLen := by
  obtain ⟨cs, rfl, -, -⟩ : ∃ cs, v = .agg cs ∧ cs.size = Tryd.prog.cellsOf 39 ∧ Row.okWide Tryd.prog W r b 39 cs := by
    simpa only [Value.okWide, Tryd.underlying39] using hval
  obtain ⟨fuel, h⟩ := h
  have h2 := cks_of_trod 3 _ [.i .i64, .i .i64, .i .i64, .s] _ _ _ (by kernel_rfl) h
  obtain ⟨l⟩ := cs
  obtain ⟨a, b, c, d, rfl, ⟨a, rfl, -⟩, ⟨b, rfl, -⟩, ⟨c, rfl, -⟩, ⟨d, rfl, hd⟩⟩ := h2.four
  exact ⟨⟨a, b, c, d⟩, rfl, hd⟩
theorem walk (ps : List Pnd) (cz : List Pe) (v : Value) (n p q : Int) (d : ByteArray) (w : World) (hd : d.size ≤ maxLen) (h : PRd w v ps cz) (hlen : ps.length ≤ maxLen) (hsz : ∀ i, i < ps.length → (ps.getD i .z).d.length ≤ maxLen ∧ (ps.getD i .z).h.length ≤ maxLen ∧ ∀ x ∈ (ps.getD i .z).d, x.size ≤ maxLen) :
    Calls Tryd.prog 6 #[v, .agg #[.int .i64 n, .int .i64 p, .int .i64 q, .string d]] w fun e w' => e = .returned (.bool true) ∧ Ext w w' := by
  by_cases hs : (ps.length : Int) + Pnd.sum ps ≤ 1048576
  · have h2 : ps.length ≤ 1048576 := by omega
    have h3 : Pnd.sum ps ≤ 1048576 := by omega
    have hq := pnd_small h3
    have hm : ∀ i, i < ps.length → (ps.getD i .z).d.length ≤ 1048576 ∧ (ps.getD i .z).h.length ≤ 1048576 := fun i hi => ⟨(hq i hi).1, (hq i hi).2.1⟩
    have ht : ptot ps ≤ 2097152 := by have := ptot_sum ps; omega
    have tk : decide ((1 : Int) + ptot ps < 0) = false := by simp; omega
    have t1 : decide ((1048576 : Int) - ps.length - Pnd.sum ps < 0) = false := by simp; omega
    by_cases hs2 : (d.size : Int) ≤ 1048576 - ps.length - Pnd.sum ps
    · have hdz : d.size ≤ 1048576 := by omega
      have t2 : decide ((1048576 : Int) - ps.length - Pnd.sum ps - d.size < 0) = false := by simp; omega
      have cs := fun ds v w h => spec_TakeFragment ps ds v n p q d w h h2 hq hdz
      have ci := fun ds g w h => impl_TakeFragment ps ds (some ⟨g, 0, none⟩) ps.length n p q d w h (Nat.le_refl _) h2 hq hdz
      obtain ⟨hD5, hD9⟩ := tkO_small ps n p q d
      have hD2 : (tkO ps n p q d).length ≤ 1048576 := Nat.le_trans hD5 (by decide)
      have hDm : ∀ i, i < (tkO ps n p q d).length → ((tkO ps n p q d).getD i .z).d.length ≤ 1048576 ∧ ((tkO ps n p q d).getD i .z).h.length ≤ 1048576 := fun i hi => by have := hD9 _ (getD_mem' (z := .z) hi); omega
      have hDt : ptot (tkO ps n p q d) ≤ 2097152 := by have := ptot_small hD9; omega
      clear hD5 hD9
      generalize tkO ps n p q d = D at *
      generalize tkS ps n p q d = S' at *
      generalize tkW ps n p q d = Wh at *
      generalize tkB ps n p q d = bb at *
      have tm : decide ((1 : Int) + ptot D < 0) = false := by simp; omega
      go_enter Tryd.func6, Tryd.ntmps6
      go_wp2_with fail
      have XB : Ext w (w.alloc (.cells #[(.int .i64 n), (.int .i64 p), (.int .i64 q), (.string d)] 39)) := (by repeat' (first | exact Ext.refl _ | assumption | refine Ext.alloc ?_ _ | refine Ext.ext ?_ _ | refine Ext.drew ?_ | refine Ext.drewN ?_ _))
      have b0_0 : (w.alloc (.cells #[(.int .i64 n), (.int .i64 p), (.int .i64 q), (.string d)] 39)).cell? ⟨w.heap.size, 0, none⟩ = some (.int .i64 n) := by rw [cell_of_row _ _ 0 _ _ (0, 0) (heap_at _ (by simp))]; rfl
      have b0_1 : (w.alloc (.cells #[(.int .i64 n), (.int .i64 p), (.int .i64 q), (.string d)] 39)).cell? ⟨w.heap.size, 1, none⟩ = some (.int .i64 p) := by rw [cell_of_row _ _ 1 _ _ (0, 0) (heap_at _ (by simp))]; rfl
      have b0_2 : (w.alloc (.cells #[(.int .i64 n), (.int .i64 p), (.int .i64 q), (.string d)] 39)).cell? ⟨w.heap.size, 2, none⟩ = some (.int .i64 q) := by rw [cell_of_row _ _ 2 _ _ (0, 0) (heap_at _ (by simp))]; rfl
      have b0_3 : (w.alloc (.cells #[(.int .i64 n), (.int .i64 p), (.int .i64 q), (.string d)] 39)).cell? ⟨w.heap.size, 3, none⟩ = some (.string d) := by rw [cell_of_row _ _ 3 _ _ (0, 0) (heap_at _ (by simp))]; rfl
      replace h := h.ext XB
      have hlw : w.heap.size + 1 ≤ (w.alloc (.cells #[(.int .i64 n), (.int .i64 p), (.int .i64 q), (.string d)] 39)).heap.size := by simp
      generalize (w.alloc (.cells #[(.int .i64 n), (.int .i64 p), (.int .i64 q), (.string d)] 39)) = w0 at *
      go_at_call 9; refine (laws_szPendingS ps _ _ 1048576 _ (h.ext ((Ext.refl w0))) (by omega) (by decide)).mono ?_; rintro e w1 ⟨rfl, hx1⟩
      have b1_0 := hx1.cell b0_0
      have b1_1 := hx1.cell b0_1
      have b1_2 := hx1.cell b0_2
      have b1_3 := hx1.cell b0_3
      clear b0_0 b0_1 b0_2 b0_3
      (go_wp2_with fail)
      go_at_call 23; refine (laws_szFragment n p q d (1048576 - ps.length - Pnd.sum ps) _ (by omega) (by omega)).mono ?_; rintro e w2 ⟨rfl, hx2⟩
      have b2_0 := hx2.cell b1_0
      have b2_1 := hx2.cell b1_1
      have b2_2 := hx2.cell b1_2
      have b2_3 := hx2.cell b1_3
      clear b1_0 b1_1 b1_2 b1_3
      (go_wp2_with fail)
      have hx3 : Ext w2 w2.drew := (Ext.refl _).drew
      have b3_0 := hx3.cell b2_0
      have b3_1 := hx3.cell b2_1
      have b3_2 := hx3.cell b2_2
      have b3_3 := hx3.cell b2_3
      go_region_held3 (fun w' => w'.cell? ⟨w.heap.size, 0, none⟩ = some ((.int .i64 n)) ∧ w'.cell? ⟨w.heap.size, 1, none⟩ = some ((.int .i64 p)) ∧ w'.cell? ⟨w.heap.size, 2, none⟩ = some ((.int .i64 q)) ∧ w'.cell? ⟨w.heap.size, 3, none⟩ = some ((.string d))) (first | exact ⟨b3_0, b3_1, b3_2, b3_3⟩ | exact ⟨b4_0, b4_1, b4_2, b4_3⟩ | exact ⟨b5_0, b5_1, b5_2, b5_3⟩ | exact ⟨b6_0, b6_1, b6_2, b6_3⟩)
        (first | (go_at_call 11; have X0_2 := hx1.trans hx2; have X0_3 := X0_2.trans hx3; refine (laws_toPendingS ps _ _ _ (h.ext (X0_3)) h2 hm).mono ?_; rintro e w4 ⟨g4_0, d4_0, rfl, ho4_0, hx4⟩; have b4_0 := hx4.cell b3_0; have b4_1 := hx4.cell b3_1; have b4_2 := hx4.cell b3_2; have b4_3 := hx4.cell b3_3) | (go_at_call 25; refine (laws_toFragment n p q d _).mono ?_; rintro e w5 ⟨rfl, hx5⟩; have b5_0 := hx5.cell b4_0; have b5_1 := hx5.cell b4_1; have b5_2 := hx5.cell b4_2; have b5_3 := hx5.cell b4_3) | (go_at_call 24; have o1 := ho4_0.ext (hx5); refine (cs _ _ _ o1.rd).mono ?_; rintro e w6 ⟨r6_0_0, d6_0_0, rfl, ho6_0_0, hx6⟩; have b6_0 := hx6.cell b5_0; have b6_1 := hx6.cell b5_1; have b6_2 := hx6.cell b5_2; have b6_3 := hx6.cell b5_3))
      clear b2_0 b2_1 b2_2 b2_3 b3_0 b3_1 b3_2 b3_3 b4_0 b4_1 b4_2 b4_3 b5_0 b5_1 b5_2 b5_3
      (go_wp2_with fail)
      have X0_4 := X0_3.trans hx4
      have X0_5 := X0_4.trans hx5
      have X0_6 := X0_5.trans hx6
      go_at_call 11; refine (laws_toPendingS ps _ _ _ (h.ext (X0_6)) h2 hm).mono ?_; rintro e w7 ⟨g7_0, d7_0, rfl, ho7_0, hx7⟩
      have b7_0 := hx7.cell b6_0
      have b7_1 := hx7.cell b6_1
      have b7_2 := hx7.cell b6_2
      have b7_3 := hx7.cell b6_3
      clear b6_0 b6_1 b6_2 b6_3
      (go_wp2_with fail)
      go_at_call 25; refine (laws_toFragment n p q d _).mono ?_; rintro e w8 ⟨rfl, hx8⟩
      have b8_0 := hx8.cell b7_0
      have b8_1 := hx8.cell b7_1
      have b8_2 := hx8.cell b7_2
      have b8_3 := hx8.cell b7_3
      clear b7_0 b7_1 b7_2 b7_3
      (go_wp2_with fail)
      have o2 := ho7_0.ext (hx8)
      go_at_call 26; refine (ci _ _ _ o2.rd).mono ?_; rintro e w9 ⟨r9_0_0, d9_0_0, rfl, ho9_0_0, hx9⟩
      have b9_0 := hx9.cell b8_0
      have b9_1 := hx9.cell b8_1
      have b9_2 := hx9.cell b8_2
      have b9_3 := hx9.cell b8_3
      clear b8_0 b8_1 b8_2 b8_3
      (go_wp2_with fail)
      have X6_8 := hx7.trans hx8
      have X6_9 := X6_8.trans hx9
      have o3 := ho6_0_0.ext (X6_9)
      go_at_call 13; refine (laws_eqPendingS D _ _ _ _ _ ho9_0_0.rd o3 hD2 hDm).mono ?_; rintro e w10 ⟨rfl, hx10⟩
      have b10_0 := hx10.cell b9_0
      have b10_1 := hx10.cell b9_1
      have b10_2 := hx10.cell b9_2
      have b10_3 := hx10.cell b9_3
      clear b9_0 b9_1 b9_2 b9_3
      (go_wp2_with fail)
      have X0_7 := X0_6.trans hx7
      have X0_8 := X0_7.trans hx8
      have X0_9 := X0_8.trans hx9
      have X0_10 := X0_9.trans hx10
      go_at_call 11; refine (laws_toPendingS ps _ _ _ (h.ext (X0_10)) h2 hm).mono ?_; rintro e w11 ⟨g11_0, d11_0, rfl, ho11_0, hx11⟩
      have b11_0 := hx11.cell b10_0
      have b11_1 := hx11.cell b10_1
      have b11_2 := hx11.cell b10_2
      have b11_3 := hx11.cell b10_3
      clear b10_0 b10_1 b10_2 b10_3
      (go_wp2_with fail)
      have X8_10 := hx9.trans hx10
      have X8_11 := X8_10.trans hx11
      have o4 := o2.ext (X8_11)
      go_at_call 13; refine (laws_eqPendingS ps _ _ _ _ _ o4.rd ho11_0.rd h2 hm).mono ?_; rintro e w12 ⟨rfl, hx12⟩
      have b12_0 := hx12.cell b11_0
      have b12_1 := hx12.cell b11_1
      have b12_2 := hx12.cell b11_2
      have b12_3 := hx12.cell b11_3
      clear b11_0 b11_1 b11_2 b11_3
      (go_wp2_with fail)
      have o5 := o4.ext (hx12)
      go_at_call 17; refine (laws_markPendingS _ _ _ 1 _ _ _ o5 h2 ht (by omega) (by omega)).mono ?_; rintro e w13 ⟨d13_m, rfl, hm13_0, hT13⟩
      have b13_0 := hT13.cell b12_0 (fun h9 => by have h8 := (X0_6).size; dsimp only at h9; omega)
      have b13_1 := hT13.cell b12_1 (fun h9 => by have h8 := (X0_6).size; dsimp only at h9; omega)
      have b13_2 := hT13.cell b12_2 (fun h9 => by have h8 := (X0_6).size; dsimp only at h9; omega)
      have b13_3 := hT13.cell b12_3 (fun h9 => by have h8 := (X0_6).size; dsimp only at h9; omega)
      clear b12_0 b12_1 b12_2 b12_3
      (go_wp2_with fail)
      have X9_11 := hx10.trans hx11
      have X9_12 := X9_11.trans hx12
      have o6 := ho9_0_0.ext (X9_12)
      have o7 := o6.turned hT13 (.inl (hx8).size)
      have X6_10 := X6_9.trans hx10
      have X6_11 := X6_10.trans hx11
      have X6_12 := X6_11.trans hx12
      have X6_13 := (X6_12).turned hT13 ((Ext.refl w6)).size
      have o8 := ho6_0_0.ext (X6_13)
      go_at_call 13; refine (laws_eqPendingS D _ _ _ _ _ o7.rd o8 hD2 hDm).mono ?_; rintro e w14 ⟨rfl, hx14⟩
      have b14_0 := hx14.cell b13_0
      have b14_1 := hx14.cell b13_1
      have b14_2 := hx14.cell b13_2
      have b14_3 := hx14.cell b13_3
      clear b13_0 b13_1 b13_2 b13_3
      (go_wp2_with fail)
      have o9 := o7.ext (hx14)
      go_at_call 17; refine (laws_markPendingS _ _ _ 1 _ _ _ o9 hD2 hDt (by omega) (by omega)).mono ?_; rintro e w15 ⟨d15_m, rfl, hm15_0, hT15⟩
      have b15_0 := hT15.cell b14_0 (fun h9 => by have h8 := (X0_8).size; dsimp only at h9; omega)
      have b15_1 := hT15.cell b14_1 (fun h9 => by have h8 := (X0_8).size; dsimp only at h9; omega)
      have b15_2 := hT15.cell b14_2 (fun h9 => by have h8 := (X0_8).size; dsimp only at h9; omega)
      have b15_3 := hT15.cell b14_3 (fun h9 => by have h8 := (X0_8).size; dsimp only at h9; omega)
      clear b14_0 b14_1 b14_2 b14_3
      (go_wp2_with fail)
      go_at_call 22; refine (laws_heldPendingS D _ _ 1 _ hm15_0.rd hD2 hDt (by omega) (by omega)).mono ?_; rintro e w16 ⟨rfl, hx16⟩
      have b16_0 := hx16.cell b15_0
      have b16_1 := hx16.cell b15_1
      have b16_2 := hx16.cell b15_2
      have b16_3 := hx16.cell b15_3
      clear b15_0 b15_1 b15_2 b15_3
      (go_wp2_with fail)
      have hx17 : Ext w16 w16.drew := (Ext.refl _).drew
      have b17_0 := hx17.cell b16_0
      have b17_1 := hx17.cell b16_1
      have b17_2 := hx17.cell b16_2
      have b17_3 := hx17.cell b16_3
      go_region_held3 (fun w' => w'.cell? ⟨w.heap.size, 0, none⟩ = some ((.int .i64 n)) ∧ w'.cell? ⟨w.heap.size, 1, none⟩ = some ((.int .i64 p)) ∧ w'.cell? ⟨w.heap.size, 2, none⟩ = some ((.int .i64 q)) ∧ w'.cell? ⟨w.heap.size, 3, none⟩ = some ((.string d))) (first | exact ⟨b17_0, b17_1, b17_2, b17_3⟩ | exact ⟨b18_0, b18_1, b18_2, b18_3⟩ | exact ⟨b19_0, b19_1, b19_2, b19_3⟩ | exact ⟨b20_0, b20_1, b20_2, b20_3⟩)
        (first | (go_at_call 11; have X0_11 := X0_10.trans hx11; have X0_12 := X0_11.trans hx12; have X0_13 := (X0_12).turned hT13 (X0_6).size; have X0_14 := X0_13.trans hx14; have X0_15 := (X0_14).turned hT15 (X0_8).size; have X0_16 := X0_15.trans hx16; have X0_17 := X0_16.trans hx17; refine (laws_toPendingS ps _ _ _ (h.ext (X0_17)) h2 hm).mono ?_; rintro e w18 ⟨g18_0, d18_0, rfl, ho18_0, hx18⟩; have b18_0 := hx18.cell b17_0; have b18_1 := hx18.cell b17_1; have b18_2 := hx18.cell b17_2; have b18_3 := hx18.cell b17_3) | (go_at_call 25; refine (laws_toFragment n p q d _).mono ?_; rintro e w19 ⟨rfl, hx19⟩; have b19_0 := hx19.cell b18_0; have b19_1 := hx19.cell b18_1; have b19_2 := hx19.cell b18_2; have b19_3 := hx19.cell b18_3) | (go_at_call 26; have o10 := ho18_0.ext (hx19); refine (ci _ _ _ o10.rd).mono ?_; rintro e w20 ⟨r20_0_0, d20_0_0, rfl, ho20_0_0, hx20⟩; have b20_0 := hx20.cell b19_0; have b20_1 := hx20.cell b19_1; have b20_2 := hx20.cell b19_2; have b20_3 := hx20.cell b19_3))
      clear b16_0 b16_1 b16_2 b16_3 b17_0 b17_1 b17_2 b17_3 b18_0 b18_1 b18_2 b18_3 b19_0 b19_1 b19_2 b19_3
      (go_wp2_with fail)
      have X6_14 := X6_13.trans hx14
      have X6_15 := (X6_14).turned hT15 (X6_8).size
      have X6_16 := X6_15.trans hx16
      have X6_17 := X6_16.trans hx17
      have X6_18 := X6_17.trans hx18
      have X6_19 := X6_18.trans hx19
      have X6_20 := X6_19.trans hx20
      have o11 := ho6_0_0.ext (X6_20)
      go_at_call 13; refine (laws_eqPendingS D _ _ _ _ _ ho20_0_0.rd o11 hD2 hDm).mono ?_; rintro e w21 ⟨rfl, hx21⟩
      have b21_0 := hx21.cell b20_0
      have b21_1 := hx21.cell b20_1
      have b21_2 := hx21.cell b20_2
      have b21_3 := hx21.cell b20_3
      clear b20_0 b20_1 b20_2 b20_3
      (go_wp2_with fail)
      have X15_17 := hx16.trans hx17
      have X15_18 := X15_17.trans hx18
      have X15_19 := X15_18.trans hx19
      have X15_20 := X15_19.trans hx20
      have X15_21 := X15_20.trans hx21
      have o12 := hm15_0.ext (X15_21)
      go_at_call 22; refine (laws_heldPendingS D _ _ 1 _ o12.rd hD2 hDt (by omega) (by omega)).mono ?_; rintro e w22 ⟨rfl, hx22⟩
      have b22_0 := hx22.cell b21_0
      have b22_1 := hx22.cell b21_1
      have b22_2 := hx22.cell b21_2
      have b22_3 := hx22.cell b21_3
      clear b21_0 b21_1 b21_2 b21_3
      go_wp2
      go_returns
      have X0_18 := X0_17.trans hx18
      have X0_19 := X0_18.trans hx19
      have X0_20 := X0_19.trans hx20
      have X0_21 := X0_20.trans hx21
      have X0_22 := X0_21.trans hx22
      exact ⟨rfl, XB.trans (X0_22)⟩
    · go_enter Tryd.func6, Tryd.ntmps6
      go_wp2_with fail
      go_at_call 9; refine (laws_szPendingS ps _ _ 1048576 _ (h.ext (by repeat' (first | exact Ext.refl _ | assumption | refine Ext.alloc ?_ _ | refine Ext.ext ?_ _ | refine Ext.drew ?_ | refine Ext.drewN ?_ _))) (by omega) (by decide)).mono ?_; rintro e w1 ⟨rfl, hx1⟩
      have XZ : Ext w w1 := (show Ext w _ from (by repeat' (first | exact Ext.refl _ | assumption | refine Ext.alloc ?_ _ | refine Ext.ext ?_ _ | refine Ext.drew ?_ | refine Ext.drewN ?_ _))).trans hx1
      have b0 := hx1.cell (show (w.alloc (.cells #[.int .i64 n, .int .i64 p, .int .i64 q, .string d] 39)).cell? ⟨w.heap.size, 0, none⟩ = some (.int .i64 n) by rw [cell_of_row _ _ 0 _ _ (0, 0) (heap_at _ (by simp))]; rfl)
      have b1 := hx1.cell (show (w.alloc (.cells #[.int .i64 n, .int .i64 p, .int .i64 q, .string d] 39)).cell? ⟨w.heap.size, 1, none⟩ = some (.int .i64 p) by rw [cell_of_row _ _ 1 _ _ (0, 0) (heap_at _ (by simp))]; rfl)
      have b2 := hx1.cell (show (w.alloc (.cells #[.int .i64 n, .int .i64 p, .int .i64 q, .string d] 39)).cell? ⟨w.heap.size, 2, none⟩ = some (.int .i64 q) by rw [cell_of_row _ _ 2 _ _ (0, 0) (heap_at _ (by simp))]; rfl)
      have b3 := hx1.cell (show (w.alloc (.cells #[.int .i64 n, .int .i64 p, .int .i64 q, .string d] 39)).cell? ⟨w.heap.size, 3, none⟩ = some (.string d) by rw [cell_of_row _ _ 3 _ _ (0, 0) (heap_at _ (by simp))]; rfl)
      go_wp2_with fail
      go_at_call 23; refine (laws_szFragment_big n p q d (1048576 - ps.length - Pnd.sum ps) _ (by omega) ⟨by omega, by omega, hd⟩).mono ?_; rintro e w2 ⟨rfl, hx2⟩
      go_wp2
      go_returns
      exact ⟨rfl, XZ.trans hx2⟩
  · go_enter Tryd.func6, Tryd.ntmps6
    go_wp2_with fail
    go_at_call 9; refine (laws_szPendingS_big ps cz _ 1048576 _ (h.ext (by repeat' (first | exact Ext.refl _ | assumption | refine Ext.alloc ?_ _ | refine Ext.ext ?_ _ | refine Ext.drew ?_ | refine Ext.drewN ?_ _))) (by omega) (by decide) (by decide) hlen hsz).mono ?_; rintro e w' ⟨rfl, hx2⟩
    go_wp2
    go_returns
    exact ⟨rfl, (show Ext w _ from (by repeat' (first | exact Ext.refl _ | assumption | refine Ext.alloc ?_ _ | refine Ext.ext ?_ _ | refine Ext.drew ?_ | refine Ext.drewN ?_ _))).trans hx2⟩
theorem own : ownKnob Tryd.prog.godebug = none := by kernel_rfl
theorem laidOut : laidOutB Tryd.prog = true := by kernel_rfl
set_option maxRecDepth 100000 in
theorem lifted (os : Os) (started : os.Started) (H : Type) (enc : TypeId × Value → H) :
    ReturnsInHanded {} Tryd.checked os 6 .any (fun w args => (Rows.fnExactTakeFragmentSpec.pre enc Tryd.prog Tryd.f6 [] false w args ∧ laidMetH Tryd.prog Rows.fnExactTakeFragmentRow.laid w) ∧ sizedMet enc Tryd.prog Tryd.f6 (OpenSpec.ofChange Rows.fnExactTakeFragmentSpec) false w args)
      (Rows.fnExactTakeFragmentSpec.post enc Tryd.prog Tryd.f6 false true false false) := by
  refine returnsInHanded_of_change_and (C := Tryd.checked) (X := fun w _ => laidMetH Tryd.prog Rows.fnExactTakeFragmentRow.laid w) (fun _ _ _ hh h => h.of_heap hh) own started (by kernel_rfl) Tryd.func6
    (ChangeSpec.witness_shaped (enc := enc) (C := Tryd.checked) (os := os) (X := fun w _ => laidMetH Tryd.prog Rows.fnExactTakeFragmentRow.laid w) false (World.laidAll Tryd.prog os Rows.fnExactTakeFragmentRow.laid) #[.slice none 0 0, .agg #[.int .i64 0, .int .i64 0, .int .i64 0, .string ⟨#[]⟩]] 8 (World.laidAll_os _ _ _)
      (World.shaped_of_ZipB (by kernel_rfl) (by kernel_rfl)) (by kernel_rfl) (by kernel_rfl) (by kernel_rfl)
      (by rw [MakeChecks.laidMetH_plain _ _ _ (by kernel_rfl)]; exact laidMet_laidAll _ (by kernel_rfl) (by kernel_rfl))) ?_
  intro W base args ds gs before hval0 hW _ _ hL _
  have hval : ∀ (j : Nat) t v, Tryd.f6.params[j]? = some t → args[j]? = some v → Value.okWide Tryd.prog W .any base t v := hval0
  have hW' := hW
  obtain ⟨p, q, hA0, hV, rfl, hfz, hnd⟩ := hW
  have hA : DataW.TrodAll enc Tryd.prog W 0 (fun _ => true) true Tryd.f6.params.toList args.toList ds p := hA0
  rw [Tryd.params6] at hA hval
  rw [MakeChecks.laidMetH_plain _ _ _ (by kernel_rfl)] at hL
  obtain ⟨v0, vs0, d0, ds0, p0, q0, hargs, rfl, rfl, h0, r0⟩ := trodAll_cons hA
  obtain ⟨v1, vs1, d1, ds1, p1, q1, rfl, rfl, rfl, h1, r1⟩ := trodAll_cons r0
  obtain ⟨rfl, rfl, rfl⟩ := trodAll_nil r1
  obtain rfl : args = #[v0, v1] := by cases args; simp_all
  clear hA0 hval0 hfz hnd hV
  obtain ⟨ps, cz, hr, hlen, hsz⟩ := opened_pendings (hval 0 _ v0 rfl rfl) h0
  obtain ⟨x, rfl, hd⟩ := openedF (hval 1 _ v1 rfl rfl) h1
  refine (walk ps cz _ x.n x.p x.q x.d W hd hr hlen hsz).mono fun e W' ⟨he, hx⟩ => ?_
  subst he
  exact ⟨_, rfl, law_post laidOut (by rw [Tryd.params6]; simp only [List.forall_mem_cons, List.not_mem_nil, false_implies, implies_true, and_true]; repeat' apply And.intro; all_goals first | kernel_rfl | exact of_decide_eq_true (by kernel_rfl)) rfl Tryd.underlying4 rfl ⟨rfl, rfl, rfl⟩ hW' hx.below⟩
theorem holdsRow : Rows.FnExactTakeFragmentSaid :=
  OpenClaim.holds_of_wide 6 Tryd.f6 rfl rfl rfl rfl rfl rfl rfl ⟨rfl, rfl, rfl, rfl, rfl⟩ rfl rfl rfl rfl rfl (by kernel_rfl) Tryd.func6 (by kernel_rfl)
    (of_decide_eq_true (by kernel_rfl)) (by unfold Func.isWrapper; first | (rw [if_pos (by decide +kernel)]; kernel_rfl) | (rw [if_neg (by decide +kernel)]; exact ⟨rfl, rfl⟩))
    (fun os started H enc _ => lifted os started H enc)
theorem proved : Rows.FnExactTakeFragmentCardSaid :=
  Claim7.holds_tied_plain_at .later [] [.data, .pinned] true (true, "efc0d91b0d9b52de2fe9985696acb5fb8069c6dad42c031a285957a89e66ef60") true holdsRow (fun _ h => by cases h) (by kernel_rfl) (fun _ h => by cases h) fnExactTakeFragment_row_tie rfl ⟨rfl, rfl⟩ (by kernel_rfl) rfl
    (fun f fn hf hfn => by
      obtain rfl : f = 6 := Option.some.inj ((show Tryd.prog.funcNamed "loop.example/g00840/laws.FnExactTakeFragment" = some 6 by kernel_rfl).symm.trans hf) |>.symm
      obtain rfl : fn = Tryd.f6 := (Option.some.inj (Tryd.func6.symm.trans hfn)).symm
      exact ⟨by kernel_rfl, fun j t ht => by
        rw [Tryd.params6] at ht
        have hm : t ∈ [22, 39] := by simpa using Array.mem_of_getElem? ht
        have hall : ([22, 39].all fun u => !Tryd.prog.wantsStandIn u) = true := by kernel_rfl
        exact (show Tryd.prog.wantsStandIn t = false by simpa using List.all_eq_true.1 hall t hm)⟩)
    (by kernel_rfl)
#print axioms proved
end Go.Proofs.YtnngklclehffhaaDoor.xTakeFragment
