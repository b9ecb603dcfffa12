/- The worst receiver, both sides. -/
import Derived.Test.YtppdbnopgcjgjaaWFn
namespace Go.Proofs.Ytppdbnopgcjgjaa
open Go.RowKit
set_option maxHeartbeats 400000
set_option maxRecDepth 100000
def worst (ps ls : List Int) : Int := bestI (fun a b => sh ps ls a - sh ps ls b) (leavesL ps) ((leavesL ps).length - 1)
def worstN (ps ls ds : List Int) : Int := if goodC ps ls ds then worst ps ls else 0
theorem worst_no {ps ls ds : List Int} (h : goodC ps ls ds = false) : worstN ps ls ds = 0 := by simp [worstN, h]
theorem worst_yes {ps ls ds : List Int} (h : goodC ps ls ds = true) : worstN ps ls ds = worst ps ls := by simp [worstN, h]
theorem impl_WorstReceiver_1 (ps ls ds : List Int) (v u u' : Value) (Bt Bc : Nat) (a b : Int) (w : World) (h : Rd w 1 v ps.length (vInts ps)) (k : Rd w 1 u ls.length (vInts ls)) (hg : goodC ps ls ds = true) (ha : 0 ≤ a ∧ a < ps.length) (hb : 0 ≤ b ∧ b < ps.length)
    (c0 : w.cell? ⟨Bt, 0, none⟩ = some v) (c1 : w.cell? ⟨Bc, 0, none⟩ = some u) (c2 : w.cell? ⟨Bc, 1, none⟩ = some u') :
    Calls Try.prog 68 #[.int .i64 a, .int .i64 b, .pointer (some ⟨Bc, 0, none⟩), .pointer (some ⟨Bt, 0, none⟩)] w fun e w' => e = .returned (.int .i64 (sh ps ls a - sh ps ls b)) ∧ Ext w w' := by
  have ba := sh_bd hg ha.2
  have bb := sh_bd hg hb.2
  have hd := fun x w' (hx : 0 ≤ x ∧ x < (ps.length : Int)) (e : Ext w w') => impl_shareTo ps ls ds v u u' x w' (h.ext e) (k.ext e) hg hx.1 hx.2
  have Hd := hid hd
  clear hd h k hg
  go_enter Try.func68, Try.ntmps68
  go_wp2
  refine wp_region_ext (by kernel_rfl) (by kernel_rfl) ?_
  repeat (go_big_quiet_step ((first | (go_at_call 69; exact Calls.quiet_ext (Hd.out _ _ (by first | exact ha | exact hb) ⟨_, rfl⟩)))))
  refine wpQuiet_nil ?_
  rintro _ ⟨zq, rfl⟩
  go_wp2
  go_ret
  exact ⟨rfl, (by repeat' (first | exact Ext.refl _ | assumption | refine Ext.alloc ?_ _ | refine Ext.ext ?_ _ | refine Ext.drew ?_ | refine Ext.drewN ?_ _))⟩
theorem impl_WorstReceiver (ps ls ds : List Int) (v u u' : Value) (w : World) (h : Rd w 1 v ps.length (vInts ps)) (k : Rd w 1 u ls.length (vInts ls)) (l : Rd w 1 u' ds.length (vInts ds))
    (h2 : ps.length ≤ 1048576) (k2 : ls.length ≤ 1048576) (l2 : ds.length ≤ 1048576) :
    Calls Try.prog 27 #[.agg #[v], .agg #[u, u']] w fun e w' => e = .returned (.tuple #[.int .i64 (worstN ps ls ds), .bool (goodC ps ls ds)]) ∧ Ext w w' := by
  have Hr := hid h
  have Kr := hid k
  have Lr := hid l
  clear h k l
  have hmf : ∀ (fn : Fn) (first cap : Array Value) (w : World), (Instr.makeFunc fn first cap).run Try.prog w = .ok (.func fn first cap) w := fun _ _ _ _ => rfl
  cases hg : goodC ps ls ds
  · have Hg := hid hg
    go_enter Try.func27, Try.ntmps27
    go_wp2_with (go_at_call 29; refine (impl_IsValidCosts ps ls ds _ _ _ _ (Hr.out.ext (by repeat' (first | exact Ext.refl _ | assumption | refine Ext.alloc ?_ _ | refine Ext.ext ?_ _ | refine Ext.drew ?_ | refine Ext.drewN ?_ _))) (Kr.out.ext (by repeat' (first | exact Ext.refl _ | assumption | refine Ext.alloc ?_ _ | refine Ext.ext ?_ _ | refine Ext.drew ?_ | refine Ext.drewN ?_ _))) (Lr.out.ext (by repeat' (first | exact Ext.refl _ | assumption | refine Ext.alloc ?_ _ | refine Ext.ext ?_ _ | refine Ext.drew ?_ | refine Ext.drewN ?_ _))) h2 k2 l2).mono ?_; rintro e w' ⟨rfl, z1, rfl⟩)
    go_ret2
    rw [worst_no Hg.out]
    exact ⟨rfl, (by repeat' (first | exact Ext.refl _ | assumption | refine Ext.alloc ?_ _ | refine Ext.ext ?_ _ | refine Ext.drew ?_ | refine Ext.drewN ?_ _))⟩
  · have Hg := hid hg
    have hT := (goodC_all hg).1
    have HT := hid hT
    have hlen := goodT_len hT
    clear hT
    go_enter Try.func27, Try.ntmps27
    go_wp2_with fail
    have b0 : ((w.alloc (.cells #[v] 26)).alloc (.cells #[u, u'] 28)).cell? ⟨w.heap.size, 0, none⟩ = some v := by rw [cell_of_row _ _ 0 _ _ (0, 0) (heap_old (heap_at _ rfl) _)]; rfl
    have b1 : ((w.alloc (.cells #[v] 26)).alloc (.cells #[u, u'] 28)).cell? ⟨w.heap.size + 1, 0, none⟩ = some u := by rw [cell_of_row _ _ 0 _ _ (0, 0) (heap_at _ (by simp))]; rfl
    have b2 : ((w.alloc (.cells #[v] 26)).alloc (.cells #[u, u'] 28)).cell? ⟨w.heap.size + 1, 1, none⟩ = some u' := by rw [cell_of_row _ _ 1 _ _ (0, 0) (heap_at _ (by simp))]; rfl
    have XB : Ext w ((w.alloc (.cells #[v] 26)).alloc (.cells #[u, u'] 28)) := (by repeat' (first | exact Ext.refl _ | assumption | refine Ext.alloc ?_ _ | refine Ext.ext ?_ _ | refine Ext.drew ?_ | refine Ext.drewN ?_ _))
    generalize ((w.alloc (.cells #[v] 26)).alloc (.cells #[u, u'] 28)) = w0 at *
    go_at_call 29
    refine (impl_IsValidCosts ps ls ds _ _ _ _ (Hr.out.ext XB) (Kr.out.ext XB) (Lr.out.ext XB) h2 k2 l2).mono ?_
    rintro e w1 ⟨rfl, hx1⟩
    have X1 := XB.trans hx1
    have c0 := hx1.cell b0
    have c1 := hx1.cell b1
    have c2 := hx1.cell b2
    clear b0 b1 b2 hx1 XB
    rw [hg]
    go_wp2_with fail
    go_at_call 53
    refine (impl_leaves ps _ _ (Hr.out.ext X1) hlen.2).mono ?_
    rintro e w2 ⟨r, rfl, ho, hx2⟩
    have X2 := X1.trans hx2
    have d0 := hx2.cell c0
    have d1 := hx2.cell c1
    have d2 := hx2.cell c2
    clear c0 c1 c2 hx2 X1
    have hm := slices_MinFunc_int (leavesL ps) (fun a b => sh ps ls a - sh ps ls b) 68 #[.pointer (some ⟨w.heap.size + 1, 0, none⟩), .pointer (some ⟨w.heap.size, 0, none⟩)] (enters_of Try.func68 (by kernel_rfl) rfl) r w2 (Rd.own ho) (leaves_ne HT.out) (by have := leaves_len HT.out; omega)
      (fun a b w' ha hb e => impl_WorstReceiver_1 ps ls ds v u u' _ _ a b w' (Hr.out.ext (X2.trans e)) (Kr.out.ext (X2.trans e)) Hg.out (leaves_in a ha) (leaves_in b hb) (e.cell d0) (e.cell d1) (e.cell d2))
    have Hm := hid hm
    clear hm ho
    go_wp2_with fail
    go_at_call 49
    refine (Hm.out).mono ?_
    rintro e w3 ⟨rfl, hx3⟩
    have hsd : bestI (fun a b => sh ps ls a - sh ps ls b) (leavesL ps) ((leavesL ps).length - 1) = worst ps ls := rfl
    rw [hsd]
    have Hy := hid (worst_yes Hg.out)
    generalize worst ps ls = s at *
    clear hsd
    go_wp2
    go_ret2
    rw [Hy.out]
    exact ⟨rfl, X2.trans hx3⟩
theorem spec_WorstReceiver (ps ls ds : List Int) (v u u' : Value) (w : World) (h : Rd w 1 v ps.length (vInts ps)) (k : Rd w 1 u ls.length (vInts ls)) (l : Rd w 1 u' ds.length (vInts ds))
    (h2 : ps.length ≤ 1048576) (k2 : ls.length ≤ 1048576) (l2 : ds.length ≤ 1048576) :
    Calls Try.prog 28 #[.agg #[v], .agg #[u, u']] w fun e w' => e = .returned (.tuple #[.int .i64 (worstN ps ls ds), .bool (goodC ps ls ds)]) ∧ Ext w w' := by
  have Hr := hid h
  have Kr := hid k
  have Lr := hid l
  clear h k l
  cases hg : goodC ps ls ds
  · have Hg := hid hg
    go_enter Try.func28, Try.ntmps28
    go_wp2_with (go_at_call 55; refine (spec_l22Good ps ls ds _ _ _ _ (Hr.out.ext (by repeat' (first | exact Ext.refl _ | assumption | refine Ext.alloc ?_ _ | refine Ext.ext ?_ _ | refine Ext.drew ?_ | refine Ext.drewN ?_ _))) (Kr.out.ext (by repeat' (first | exact Ext.refl _ | assumption | refine Ext.alloc ?_ _ | refine Ext.ext ?_ _ | refine Ext.drew ?_ | refine Ext.drewN ?_ _))) (Lr.out.ext (by repeat' (first | exact Ext.refl _ | assumption | refine Ext.alloc ?_ _ | refine Ext.ext ?_ _ | refine Ext.drew ?_ | refine Ext.drewN ?_ _))) h2 k2 l2).mono ?_; rintro e w' ⟨rfl, z1, rfl⟩)
    go_ret2
    rw [worst_no Hg.out]
    exact ⟨rfl, (by repeat' (first | exact Ext.refl _ | assumption | refine Ext.alloc ?_ _ | refine Ext.ext ?_ _ | refine Ext.drew ?_ | refine Ext.drewN ?_ _))⟩
  · have Hg := hid hg
    have HT := hid (goodC_all hg).1
    go_enter Try.func28, Try.ntmps28
    go_wp2_with fail
    have b0 : ((w.alloc (.cells #[v] 26)).alloc (.cells #[u, u'] 28)).cell? ⟨w.heap.size, 0, none⟩ = some v := by rw [cell_of_row _ _ 0 _ _ (0, 0) (heap_old (heap_at _ rfl) _)]; rfl
    have b1 : ((w.alloc (.cells #[v] 26)).alloc (.cells #[u, u'] 28)).cell? ⟨w.heap.size + 1, 0, none⟩ = some u := by rw [cell_of_row _ _ 0 _ _ (0, 0) (heap_at _ (by simp))]; rfl
    have b2 : ((w.alloc (.cells #[v] 26)).alloc (.cells #[u, u'] 28)).cell? ⟨w.heap.size + 1, 1, none⟩ = some u' := by rw [cell_of_row _ _ 1 _ _ (0, 0) (heap_at _ (by simp))]; rfl
    have XB : Ext w ((w.alloc (.cells #[v] 26)).alloc (.cells #[u, u'] 28)) := (by repeat' (first | exact Ext.refl _ | assumption | refine Ext.alloc ?_ _ | refine Ext.ext ?_ _ | refine Ext.drew ?_ | refine Ext.drewN ?_ _))
    generalize ((w.alloc (.cells #[v] 26)).alloc (.cells #[u, u'] 28)) = w0 at *
    go_at_call 55
    refine (spec_l22Good ps ls ds _ _ _ _ (Hr.out.ext XB) (Kr.out.ext XB) (Lr.out.ext XB) h2 k2 l2).mono ?_
    rintro e w1 ⟨rfl, hx1⟩
    have X1 := XB.trans hx1
    have c0 := hx1.cell b0
    have c1 := hx1.cell b1
    have c2 := hx1.cell b2
    clear b0 b1 b2 hx1 XB
    rw [hg]
    go_wp2_with fail
    go_at_call 56
    refine (spec_l6Leaves ps _ _ (Hr.out.ext X1) HT.out).mono ?_
    rintro e w2 ⟨r, rfl, ho, hx2⟩
    have X2 := X1.trans hx2
    have D := hid (And.intro (hx2.cell c0) (And.intro (hx2.cell c1) (hx2.cell c2)))
    clear c0 c1 c2 hx2 X1
    have hne := leaves_ne HT.out
    have hle := leaves_len HT.out
    have hin := fun y hy => leaves_in (ps := ps) y hy
    have hsl : worst ps ls = bestI (fun a b => sh ps ls a - sh ps ls b) (leavesL ps) ((leavesL ps).length - 1) := rfl
    have hbm := bestI_mem (fun a b => sh ps ls a - sh ps ls b) (leavesL ps)
    generalize leavesL ps = L at *
    obtain ⟨-, p, cap, rfl, q4⟩ := Rd.own ho
    obtain ⟨b, off, rfl, q6⟩ := q4.resolve_left hne
    have Q6 := hid q6
    have a0 := elem1 (Value.int .i64) 0 L q6 0 (by omega)
    simp only [Nat.add_zero] at a0
    have hb0 : bestI (fun a b => sh ps ls a - sh ps ls b) L 0 = L.getD 0 0 := rfl
    have Hb0 := hid hb0
    have Hin := hid hin
    have Hbm := hid hbm
    have Hsl := hid hsl
    have hpos : 0 < L.length := by omega
    have hpa := fun x w' (hx : 0 ≤ x ∧ x < (ps.length : Int)) (e : Ext w w') => spec_l6Path ps v x w' (Hr.out.ext e) HT.out (by omega) hx.2
    have hshr := fun x y w' (hx : 0 ≤ x ∧ x < (ps.length : Int)) (h : Rd w' 1 y (path ps x).length (vInts (path ps x))) (e : Ext w w') => spec_l22Share ps ls ds (path ps x) u u' y w' h (Kr.out.ext e) Hg.out (path_mem HT.out hx.2) (by have := path_len HT.out hx.2; omega)
    have hshd : ∀ x, shr ls (path ps x) = sh ps ls x := fun _ => rfl
    simp only [hshd] at hshr
    have Hpa := hid hpa
    have Hshr := hid hshr
    generalize L.getD 0 0 = d9 at a0 Hb0
    have d0 := D.out.1
    have d1 := D.out.2.1
    have d2 := D.out.2.2
    clear hin hbm hsl hb0 q4 q6 ho hpa hshr hne hshd
    go_wp2
    clear d0 d1 d2
    go_loopw [8, 7] (fun v9 v8 wr => ∃ k : Nat, k < L.length ∧ v9 = .int .i64 (k + 1) ∧ v8 = .int .i64 (bestI (fun a b => sh ps ls a - sh ps ls b) L k) ∧ Ext w2 wr) (fun v9 _ _ => L.length - (intOf v9).toNat)
    case atStart => exact ⟨0, hpos, rfl, by rw [Hb0.out], Ext.refl _⟩
    case round =>
      obtain ⟨k, hk, rfl, rfl, hx⟩ := hrel
      have hmo := Hin.out _ (Hbm.out k hk)
      by_cases hlt : k + 1 < L.length
      · have hbest : bestI (fun a b => sh ps ls a - sh ps ls b) L (k + 1) = if decide (sh ps ls (L.getD (k + 1) 0) - sh ps ls (bestI (fun a b => sh ps ls a - sh ps ls b) L k) < 0) then L.getD (k + 1) 0 else bestI (fun a b => sh ps ls a - sh ps ls b) L k := rfl
        have a1 := hx.cell (elem1 (Value.int .i64) 0 L Q6.out (k + 1) hlt)
        have hxo := Hin.out _ (mem_getD (L := L) hlt)
        generalize L.getD (k + 1) 0 = x at a1 hbest hxo
        generalize bestI (fun a b => sh ps ls a - sh ps ls b) L k = m at *
        have Hbest := hid hbest
        clear hbest
        have c0 := hx.cell D.out.1
        have c1 := hx.cell D.out.2.1
        have c2 := hx.cell D.out.2.2
        have X3 := X2.trans hx
        have Hx := hid hx
        clear hx
        generalize hs1 : sh ps ls x = s1 at *
        generalize hs2 : sh ps ls m = s2 at *
        have Hs1 := hid hs1
        have Hs2 := hid hs2
        clear hs1 hs2
        have hp1 := fun w' e => Hpa.out x w' hxo e
        have hp2 := fun w' e => Hpa.out m w' hmo e
        have hq1 := fun y w' h e => Hshr.out x y w' hxo h e
        have hq2 := fun y w' h e => Hshr.out m y w' hmo h e
        rw [Hs1.out] at hq1
        rw [Hs2.out] at hq2
        have HH := hid (And.intro hp1 (And.intro hp2 (And.intro hq1 hq2)))
        clear hp1 hp2 hq1 hq2
        have TT : Hid (decide (s1 - s2 < 0) = decide (s1 < s2)) := decide_eq_decide.2 (by omega)
        cases t1 : decide (s1 < s2)
        all_goals
          have T1 := hid t1
          go_wp2
          have n0 : (0 : Int) ≤ (k : Int) + 1 := by omega
          have n1 : (k : Int) + 1 < (L.length : Int) := by omega
          have n2 : ((k : Int) + 1).toNat = k + 1 := by omega
          have X4 : Ext w wr.drew := X3.drew
          have e0 := (Ext.refl wr).drew.cell c0
          have e1 := (Ext.refl wr).drew.cell c1
          have e2 := (Ext.refl wr).drew.cell c2
          have e3 := (Ext.refl wr).drew.cell a1
          go_region_held3 (fun w' => w'.cell? ⟨w.heap.size, 0, none⟩ = some v ∧ w'.cell? ⟨w.heap.size + 1, 0, none⟩ = some u ∧ w'.cell? ⟨w.heap.size + 1, 1, none⟩ = some u' ∧ w'.cell? ⟨b, off + (k + 1), none⟩ = some (.int .i64 x)) (first | exact ⟨c0, c1, c2, a1⟩ | exact ⟨e0, e1, e2, e3⟩ | exact ⟨f0, f1, f2, f3⟩ | exact ⟨g0, g1, g2, g3⟩ | exact ⟨i0, i1, i2, i3⟩ | exact ⟨j0, j1, j2, j3⟩)
            (first
              | (go_at_call 61; (with_reducible refine (HH.out.1 _ X4).mono ?_); rintro e w3 ⟨r3, rfl, ho3, hx3⟩; have f0 := hx3.cell e0; have f1 := hx3.cell e1; have f2 := hx3.cell e2; have f3 := hx3.cell e3)
              | (go_at_call 60; (with_reducible refine (HH.out.2.2.1 _ _ (Rd.own ho3) (X4.trans hx3)).mono ?_); rintro e w4 ⟨rfl, hx4⟩; have g0 := hx4.cell f0; have g1 := hx4.cell f1; have g2 := hx4.cell f2; have g3 := hx4.cell f3)
              | (go_at_call 61; (with_reducible refine (HH.out.2.1 _ (X4.trans (hx3.trans hx4))).mono ?_); rintro e w5 ⟨r5, rfl, ho5, hx5⟩; have i0 := hx5.cell g0; have i1 := hx5.cell g1; have i2 := hx5.cell g2; have i3 := hx5.cell g3)
              | (go_at_call 60; (with_reducible refine (HH.out.2.2.2 _ _ (Rd.own ho5) (X4.trans (hx3.trans (hx4.trans hx5)))).mono ?_); rintro e w6 ⟨rfl, hx6⟩; have j0 := hx6.cell i0; have j1 := hx6.cell i1; have j2 := hx6.cell i2; have j3 := hx6.cell i3))
          have X6 := hid (Hx.out.drew.trans (hx3.trans (hx4.trans (hx5.trans hx6))))
          clear ho3 ho5 hx3 hx4 hx5 hx6 n0 n1 n2
          go_wp2
          go_roundw
          case rel => exact ⟨k + 1, hlt, by go_num, by rw [Hbest.out, TT.out, T1.out]; rfl, X6.out⟩
          case measure => simp [intOf]; omega
      · have hk1 : k = L.length - 1 := by omega
        have hs : bestI (fun a b => sh ps ls a - sh ps ls b) L k = worst ps ls := by rw [Hsl.out, ← hk1]
        rw [hs]
        have Hy := hid (worst_yes Hg.out)
        generalize worst ps ls = s at *
        have Hx := hid hx
        clear hs hx
        go_wp2
        go_ret2
        rw [Hy.out]
        exact ⟨rfl, X2.trans Hx.out⟩
end Go.Proofs.Ytppdbnopgcjgjaa
