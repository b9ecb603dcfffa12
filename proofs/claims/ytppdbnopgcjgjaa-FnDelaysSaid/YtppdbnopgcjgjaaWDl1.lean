/- FnDelays: the walk, part 1. -/
import Derived.Test.YtppdbnopgcjgjaaWDlF
import Derived.Test.YtppdbnopgcjgjaaWDl2
import Derived.Test.YtppdbnopgcjgjaaWDl3
import Derived.Test.YtppdbnopgcjgjaaWDl4
import Derived.Test.YtppdbnopgcjgjaaWCurZ
import Derived.Deep.DeepCutAuto
namespace Go.Proofs.Ytppdbnopgcjgjaa
open Go.RowKit
set_option maxHeartbeats 4000000
set_option maxRecDepth 100000
theorem delays_law (bs : List Int) (v : Value) (w : World) (h : Rd w 1 v bs.length (vBytes bs)) (hm : bs.length ≤ maxLen) (hbb : ∀ x ∈ bs, 0 ≤ x ∧ x ≤ 255) :
    Calls Try.prog 3 #[v] w fun e w' => e = .returned (.bool true) ∧ Ext w w' := by
  have Hr := hid h
  unfold maxLen at hm
  obtain ⟨-, p, cap, rfl, -⟩ := h
  by_cases h2 : 65536 < bs.length
  · have t0 : (65536 : Int) < (bs.length : Int) := by omega
    go_enter Try.func3, Try.ntmps3
    go_wp2
    go_ret
    exact ⟨rfl, (by repeat' (first | exact Ext.refl _ | assumption | refine Ext.alloc ?_ _ | refine Ext.ext ?_ _ | refine Ext.drew ?_ | refine Ext.drewN ?_ _))⟩
  have hb : Bts bs := ⟨by omega, hbb⟩
  have d1 := hid (fun w h => spec_DrawDelayBetween hb (v := .slice p bs.length cap) w h)
  have hn : Hid (DlTail 15 p bs.length cap w) := delays_p2 hb Hr (delays_p3 hb Hr (delays_p4 hb Hr))
  clear hb hbb
  go_enter Try.func3, Try.ntmps3
  go_wp2_with fail
  go_at_call 5
  refine (laws_rBig bs.length p cap _).mono ?_
  rintro e w' ⟨rfl, rfl⟩
  have t1 : decide ((65536 : Int) < (bs.length : Int)) = false := by simp; omega
  go_wp2_with fail
  go_at_call 6
  refine (d1.out _ Hr.out).mono ?_
  rintro e w1 ⟨t, l, d, ps, ls, ds, a, b, rfl, ho, hx⟩
  obtain ⟨tp, tc, rfl⟩ := rd_form ho.2.1
  obtain ⟨lp, lc, rfl⟩ := rd_form ho.2.2.1
  obtain ⟨dp, dc, rfl⟩ := rd_form ho.2.2.2
  have L0 := hid (LS.mk ho hx)
  clear ho hx d1 t1
  obtain ⟨n, hn⟩ : ∃ n, betweenN ps ls ds a b = n := ⟨_, rfl⟩
  obtain ⟨ok, hok⟩ : ∃ ok, hasC2 ps ls ds a b = ok := ⟨_, rfl⟩
  have c1 := hid (fun W (h : TCo W (.slice tp ps.length tc) (.slice lp ls.length lc) (.slice dp ds.length dc) ps ls ds) => tco_iDB h a b n ok hn hok)
  have c2 := hid (fun W (h : TCo W (.slice tp ps.length tc) (.slice lp ls.length lc) (.slice dp ds.length dc) ps ls ds) => tco_iDB h b a n ok (by rw [between_comm, hn]) (by rw [hasC2_comm, hok]))
  have c3 := hid (fun W (h : TCo W (.slice tp ps.length tc) (.slice lp ls.length lc) (.slice dp ds.length dc) ps ls ds) => tco_sDB h a b n ok hn hok)
  have cl := hid (fun h : ok = true => delays_law1 (ps := ps) (ls := ls) (ds := ds) (a := a) (b := b) (hok.trans h))
  clear hn hok
  go_upto_region 4 with fail
  generalize (w1.alloc (.cells #[.slice tp ps.length tc] 26)).alloc (.cells #[.slice lp ls.length lc, .slice dp ds.length dc] 28) = V at *
  generalize w1.heap.size = T at *
  obtain ⟨b0, x0, x1⟩ := L0.out.cells
  go_wp2_with fail
  go_at_call 7
  refine (c1.out _ L0.out.1).mono ?_
  rintro e w2 ⟨rfl, hx⟩
  have L1 := hid (L0.out.ext hx)
  clear hx L0 b0 x0 x1
  obtain ⟨b0, x0, x1⟩ := L1.out.cells
  go_wp2_with fail
  go_at_call 7
  refine (c2.out _ L1.out.1).mono ?_
  rintro e w3 ⟨rfl, hx⟩
  have L2 := hid (L1.out.ext hx)
  clear hx L1 b0 x0 x1
  obtain ⟨b0, x0, x1⟩ := L2.out.cells
  go_wp2_with fail
  go_at_call 8
  refine (c3.out _ L2.out.1).mono ?_
  rintro e w4 ⟨rfl, hx⟩
  have L3 := hid (L2.out.ext hx)
  clear hx L2 b0 x0 x1
  obtain ⟨b0, x0, x1⟩ := L3.out.cells
  clear c1 c2 c3
  go_upto_if 105 with fail
  have HX := hid L3.out.2.2.2
  go_cut [] from 3 (fun wc => Ext w wc)
  case first =>
    cases ok
    · clear b0 x0 x1 L3
      go_wp2_with fail
      go_meet
      exact HX.out
    · obtain ⟨⟨e1, e2⟩, ⟨e3, e4⟩, ⟨e5, e6⟩⟩ := cl.out rfl
      generalize del ps ds b = m at *
      have c1 := hid (fun W (h : TCo W (.slice tp ps.length tc) (.slice lp ls.length lc) (.slice dp ds.length dc) ps ls ds) => tco_iDB h a a 0 true e2 e1)
      have c2 := hid (fun W (h : TCo W (.slice tp ps.length tc) (.slice lp ls.length lc) (.slice dp ds.length dc) ps ls ds) => tco_iDB h 0 b m true e4 e3)
      have c3 := hid (fun W (h : TCo W (.slice tp ps.length tc) (.slice lp ls.length lc) (.slice dp ds.length dc) ps ls ds) => tco_iDT h b m true e6 e5)
      clear e1 e2 e3 e4 e5 e6 cl HX
      go_wp2_with fail
      go_at_call 7
      refine (c1.out _ L3.out.1).mono ?_
      rintro e w5 ⟨rfl, hx⟩
      have L4 := hid (L3.out.ext hx)
      clear hx L3 b0 x0 x1
      obtain ⟨b0, x0, x1⟩ := L4.out.cells
      go_wp2_with fail
      go_at_call 7
      refine (c2.out _ L4.out.1).mono ?_
      rintro e w6 ⟨rfl, hx⟩
      have L5 := hid (L4.out.ext hx)
      clear hx L4 b0 x0 x1
      obtain ⟨b0, x0, x1⟩ := L5.out.cells
      go_wp2_with fail
      go_at_call 9
      refine (c3.out _ L5.out.1).mono ?_
      rintro e w7 ⟨rfl, hx⟩
      have L6 := hid (L5.out.ext hx)
      clear hx L5 b0 x0 x1
      obtain ⟨b0, x0, x1⟩ := L6.out.cells
      clear c1 c2 c3 b0 x0 x1
      go_wp2_with fail
      go_meet
      exact L6.out.2.2.2
  case rest =>
    go_step
    exact hn.out _ _ hcut rfl rfl rfl
end Go.Proofs.Ytppdbnopgcjgjaa
