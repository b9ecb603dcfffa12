/- FnPendings: the walk. -/
import Derived.Test.YtnngklclehffhaaDoorKWPgF
namespace Go.Proofs.YtnngklclehffhaaDoor
open Go.RowKit
set_option maxHeartbeats 4000000
set_option maxRecDepth 100000
-- part 1
theorem pendings_law (bs : List Int) (v : Value) (w : World) (h : Rd w 1 v bs.length (vBytes bs)) (hm : bs.length ≤ maxLen) (hbb : ∀ x ∈ bs, 0 ≤ x ∧ x ≤ 255) :
    Calls Tryd.prog 7 #[v] w fun e w' => e = .returned (.bool true) ∧ Ext w w' := by
  have Hr := hid h
  unfold maxLen at hm
  obtain ⟨-, p, cap, rfl, -⟩ := h
  by_cases h2 : 65536 < bs.length
  · have t0 : (65536 : Int) < (bs.length : Int) := by omega
    go_enter Tryd.func7, Tryd.ntmps7
    go_wp2
    go_ret
    exact ⟨rfl, (by repeat' (first | exact Ext.refl _ | assumption | refine Ext.alloc ?_ _ | refine Ext.ext ?_ _ | refine Ext.drew ?_ | refine Ext.drewN ?_ _))⟩
  have hb : Bts bs := ⟨by omega, hbb⟩
  have dd := hid (fun w h => spec_DrawTakeFragment hb (v := .slice p bs.length cap) w h)
  have hn : Hid (PgTail 13 p bs.length cap w) := pend_p2 hb Hr (pend_p3 hb Hr)
  clear hb hbb
  go_enter Tryd.func7, Tryd.ntmps7
  go_wp2_with fail
  go_at_call 27
  refine (laws_vBig bs.length p cap _).mono ?_
  rintro e w' ⟨rfl, rfl⟩
  have t1 : decide ((65536 : Int) < (bs.length : Int)) = false := by simp; omega
  go_wp2_with fail
  go_at_call 28
  refine (dd.out _ Hr.out).mono ?_
  rintro e w1 ⟨q, c, ps, es, f, rfl, ⟨hsm, hcap, hfd⟩, hP, hx⟩
  obtain ⟨n, i, k, d⟩ := f
  dsimp only at hfd
  have X1 : Ext w1 (w1.alloc (.cells #[.int .i64 n, .int .i64 i, .int .i64 k, .string d] 43)) := (by repeat' (first | exact Ext.refl _ | assumption | refine Ext.alloc ?_ _ | refine Ext.ext ?_ _ | refine Ext.drew ?_ | refine Ext.drewN ?_ _))
  have hF := hid (show (w1.alloc (.cells #[.int .i64 n, .int .i64 i, .int .i64 k, .string d] 43)).heap[w1.heap.size]? = some (.cells #[.int .i64 n, .int .i64 i, .int .i64 k, .string d] 43 (0, 0)) from heap_at _ rfl)
  have L0 := hid (And.intro (hx.trans X1) (hP.ext X1))
  clear hx hP dd t1 X1
  have hso := hid (SmP.tk ps n i k d)
  have cl := hid (fun h => take_law (ps := ps) (n := n) (p := i) (q := k) (d := d) h)
  have hll := lkL_len ps n
  have hml := lkL_len (tkO ps n i k d) n
  have ci := hid (fun W h => impl_TakeFragment ps es q c n i k d W h hcap hsm.big.1 hsm.big.2 (by omega))
  have cs := hid (fun W h => spec_TakeFragment ps es (.slice q ps.length c) n i k d W h hsm.big.1 hsm.big.2 (by omega))
  have cv1 := hid (fun W h => impl_IsValidPending ps es q c W h hcap hsm.big.1 hsm.big.2)
  have cv2 := hid (fun W h => spec_IsValidPending ps es (.slice q ps.length c) W h hsm.big.1 hsm.big.2)
  have cl1 := hid (fun W h => impl_LackingParts ps es q c n W h hcap hsm.big.1 hsm.big.2)
  obtain ⟨O, hO⟩ : ∃ o, tkO ps n i k d = o := ⟨_, rfl⟩
  obtain ⟨TS, hTS⟩ : ∃ o, tkS ps n i k d = o := ⟨_, rfl⟩
  obtain ⟨Wh, hWh⟩ : ∃ o, tkW ps n i k d = o := ⟨_, rfl⟩
  obtain ⟨B, hB⟩ : ∃ o, tkB ps n i k d = o := ⟨_, rfl⟩
  obtain ⟨V, hV⟩ : ∃ o, okL ps = o := ⟨_, rfl⟩
  obtain ⟨LB, hLB⟩ : ∃ o, lkB ps n = o := ⟨_, rfl⟩
  obtain ⟨LL, hLL⟩ : ∃ o, lkL ps n = o := ⟨_, rfl⟩
  rw [hO, hTS, hWh, hB] at ci cs
  rw [hV] at cv1 cv2
  rw [hLB, hLL] at cl1
  rw [hO] at hso hml
  rw [hLL] at hll
  rw [hO, hWh, hB, hLB, hLL] at cl
  clear hO hTS hWh hB hV hLB hLL hsm hcap hfd
  have hO1 := hid (fun i (hi : i < O.length) => And.intro (hso.out.big.2 i hi).1 (hso.out.big.2 i hi).2.1)
  obtain ⟨MB, hMB⟩ : ∃ o, lkB O n = o := ⟨_, rfl⟩
  obtain ⟨ML, hML⟩ : ∃ o, lkL O n = o := ⟨_, rfl⟩
  obtain ⟨OK, hOK⟩ : ∃ o, okL O = o := ⟨_, rfl⟩
  rw [hMB, hML, hOK] at cl
  rw [hML] at hml
  go_upto_region 4 with fail
  generalize (w1.alloc (.cells #[.int .i64 n, .int .i64 i, .int .i64 k, .string d] 43)) = W1 at *
  generalize w1.heap.size = FX at *
  obtain ⟨⟨c0, c1, c2, c3⟩, -, -⟩ := box4 hF.out
  go_wp2_with fail
  go_at_call 26
  refine (ci.out _ L0.out.2).mono ?_
  rintro e w2 ⟨z, ds, rfl, ho, hx⟩
  obtain ⟨zp, zc, rfl, hzc⟩ := ho.sl
  have hF2 := hid (blk_ext hF.out hx)
  have L1 := hid (And.intro (L0.out.1.trans hx) (And.intro (L0.out.2.ext hx) ho.rd))
  have cl2 := hid (fun W h => impl_LackingParts O ds zp zc n W h hzc hso.out.big.1 hso.out.big.2)
  have cv3 := hid (fun W h => impl_IsValidPending O ds zp zc W h hzc hso.out.big.1 hso.out.big.2)
  rw [hMB, hML] at cl2
  rw [hOK] at cv3
  clear hx ho L0 ci hF c0 c1 c2 c3 hMB hML hOK hzc
  obtain ⟨⟨c0, c1, c2, c3⟩, -, -⟩ := box4 hF2.out
  go_wp2_with fail
  go_at_call 24
  refine (cs.out _ L1.out.2.1).mono ?_
  rintro e w3 ⟨y, ds', rfl, ho, hx⟩
  obtain ⟨yp, yc, rfl⟩ := ho.sl
  have hF3 := hid (blk_ext hF2.out hx)
  have L2 := hid (And.intro (L1.out.1.trans hx) (And.intro (L1.out.2.1.ext hx) (And.intro (L1.out.2.2.ext hx) ho)))
  have cv := hid (fun W h h' => laws_vPendings O ds ds' (.slice zp O.length zc) (.slice yp O.length yc) W h h' hso.out.big.1 hO1.out)
  clear hx ho L1 cs hF2 c0 c1 c2 c3 hO1 hso
  go_wp2_with fail
  go_at_call 29
  refine (cv.out _ L2.out.2.2.1 L2.out.2.2.2).mono ?_
  rintro e w4 ⟨rfl, hx⟩
  have hF4 := hid (blk_ext hF3.out hx)
  have L3 := hid (And.intro (L2.out.1.trans hx) (And.intro (L2.out.2.1.ext hx) (L2.out.2.2.1.ext hx)))
  clear hx L2 cv hF3
  go_wp2_with fail
  go_at_call 12
  refine (cv1.out _ L3.out.2.1).mono ?_
  rintro e w5 ⟨rfl, hx⟩
  have hF5 := hid (blk_ext hF4.out hx)
  have L4 := hid (And.intro (L3.out.1.trans hx) (And.intro (L3.out.2.1.ext hx) (L3.out.2.2.ext hx)))
  clear hx L3 cv1 hF4
  go_wp2_with fail
  go_at_call 10
  refine (cv2.out _ L4.out.2.1).mono ?_
  rintro e w6 ⟨rfl, hx⟩
  have hF6 := hid (blk_ext hF5.out hx)
  have L5 := hid (And.intro (L4.out.1.trans hx) (And.intro (L4.out.2.1.ext hx) (L4.out.2.2.ext hx)))
  clear hx L4 cv2 hF5
  go_upto_if 80 with fail
  go_cut [] from 3 (fun wc => Ext w wc)
  case first =>
    cases B
    · go_wp2_with fail
      go_meet
      exact L5.out.1
    · obtain ⟨rfl, e1, e2⟩ := cl.out rfl
      have E1 := hid e1
      have E2 := hid e2
      clear cl e1 e2
      obtain ⟨⟨c0, c1, c2, c3⟩, -, -⟩ := box4 hF6.out
      go_wp2_with fail
      go_at_call 15
      refine (cl1.out _ L5.out.2.1).mono ?_
      rintro e w7 ⟨z2, rfl, ho, hx⟩
      obtain ⟨bp, bc, rfl⟩ := own_shape ho
      have hF7 := hid (blk_ext hF6.out hx)
      have L6 := hid (And.intro (L5.out.1.trans hx) (And.intro (L5.out.2.2.ext hx) (Rd.own ho)))
      clear hx ho L5 cl1 hF6 c0 c1 c2 c3
      obtain ⟨⟨c0, c1, c2, c3⟩, -, -⟩ := box4 hF7.out
      go_wp2_with fail
      go_at_call 15
      refine (cl2.out _ L6.out.2.1).mono ?_
      rintro e w8 ⟨z3, rfl, ho, hx⟩
      obtain ⟨ap, ac, rfl⟩ := own_shape ho
      have hF8 := hid (blk_ext hF7.out hx)
      have L7 := hid (And.intro (L6.out.1.trans hx) (And.intro (L6.out.2.1.ext hx) (And.intro (L6.out.2.2.ext hx) (Rd.own ho))))
      clear hx ho L6 cl2 hF7 c0 c1 c2 c3
      obtain ⟨⟨c0, c1, c2, c3⟩, -, -⟩ := box4 hF8.out
      cases Wh
      · obtain ⟨rfl, e4⟩ := E2.out rfl
        have ch := hid (fun W h => laws_vHas ML (.slice ap ML.length ac) i W h (by omega))
        rw [e4] at ch
        clear e4 E1 E2
        go_upto_region 11 with fail
        refine wp_region_ext (by kernel_rfl) (by kernel_rfl) ?_
        repeat (go_big_quiet_step ((first | (first | (go_at_call 12; exact Calls.quiet_ext (cv3.out _ (L7.out.2.1.ext (by repeat' (first | exact Ext.refl _ | assumption | refine Ext.alloc ?_ _ | refine Ext.ext ?_ _ | refine Ext.drew ?_ | refine Ext.drewN ?_ _))))) | (go_at_call 30; exact Calls.quiet_ext (ch.out _ (L7.out.2.2.2.ext (by repeat' (first | exact Ext.refl _ | assumption | refine Ext.alloc ?_ _ | refine Ext.ext ?_ _ | refine Ext.drew ?_ | refine Ext.drewN ?_ _)))))))))
        refine wpQuiet_nil ?_
        rintro _ ⟨zq, rfl⟩
        go_wp2_with fail
        go_meet
        exact L7.out.1.trans (by repeat' (first | exact Ext.refl _ | assumption | refine Ext.alloc ?_ _ | refine Ext.ext ?_ _ | refine Ext.drew ?_ | refine Ext.drewN ?_ _))
      · obtain ⟨rfl, e4⟩ := E1.out rfl
        by_cases h1 : 1 < k
        · obtain ⟨rfl, rfl⟩ := e4 h1
          obtain ⟨-, bp', bc', eb, h4⟩ := L7.out.2.2.1
          cases eb
          obtain ⟨bb, bo, rfl, h6⟩ := h4.resolve_left (by simp)
          have m0 := elem1 (Value.int .i64) 0 [i] h6 0 (by simp)
          simp only [List.getD_cons_zero, Nat.add_zero] at m0
          clear h4 h6 E1 E2 e4
          go_upto_region 11 with fail
          refine wp_region_ext (by kernel_rfl) (by kernel_rfl) ?_
          repeat (go_big_quiet_step ((first | (go_at_call 12; exact Calls.quiet_ext (cv3.out _ (L7.out.2.1.ext (by repeat' (first | exact Ext.refl _ | assumption | refine Ext.alloc ?_ _ | refine Ext.ext ?_ _ | refine Ext.drew ?_ | refine Ext.drewN ?_ _))))))))
          refine wpQuiet_nil ?_
          rintro _ ⟨zq, rfl⟩
          go_wp2_with fail
          go_meet
          exact L7.out.1.trans (by repeat' (first | exact Ext.refl _ | assumption | refine Ext.alloc ?_ _ | refine Ext.ext ?_ _ | refine Ext.drew ?_ | refine Ext.drewN ?_ _))
        · have t9 : decide ((1 : Int) < k) = false := by simp; omega
          have t8 : k ≤ 1 := by omega
          clear e4 E1 E2 h1
          go_upto_region 11 with fail
          refine wp_region_ext (by kernel_rfl) (by kernel_rfl) ?_
          repeat (go_big_quiet_step ((first | (go_at_call 12; exact Calls.quiet_ext (cv3.out _ (L7.out.2.1.ext (by repeat' (first | exact Ext.refl _ | assumption | refine Ext.alloc ?_ _ | refine Ext.ext ?_ _ | refine Ext.drew ?_ | refine Ext.drewN ?_ _))))))))
          refine wpQuiet_nil ?_
          rintro _ ⟨zq, rfl⟩
          go_wp2_with fail
          go_meet
          exact L7.out.1.trans (by repeat' (first | exact Ext.refl _ | assumption | refine Ext.alloc ?_ _ | refine Ext.ext ?_ _ | refine Ext.drew ?_ | refine Ext.drewN ?_ _))
  case rest =>
    go_step
    exact hn.out _ _ hcut rfl rfl rfl
end Go.Proofs.YtnngklclehffhaaDoor
