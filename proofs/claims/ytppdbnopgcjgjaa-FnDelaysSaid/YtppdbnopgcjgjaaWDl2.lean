/- FnDelays: the walk, part 2. -/
import Derived.Test.YtppdbnopgcjgjaaWDlF
import Derived.Test.YtppdbnopgcjgjaaWCurZ
import Derived.Deep.DeepCutAuto
namespace Go.Proofs.Ytppdbnopgcjgjaa
open Go.RowKit
set_option maxHeartbeats 4000000
set_option maxRecDepth 100000
theorem delays_p2 {bs : List Int} (hb : Bts bs) {p : Option Addr} {cap : Nat} {w : World} (Hr : Hid (Rd w 1 (.slice p bs.length cap) bs.length (vBytes bs))) (hn : Hid (DlTail 30 p bs.length cap w)) : DlTail 15 p bs.length cap w := by
  intro a wc hx h1 h2 h3
  obtain ⟨u, rfl⟩ := frame332 a _ h1 h2 h3
  clear h1 h2 h3
  have HY := hid hx
  clear hx
  have dd := hid (fun w h => spec_DrawNearestHolder hb (v := .slice p bs.length cap) w h)
  clear hb
  unfold dlTl DlPost
  conv => arg 2; whnf
  go_wp2_with fail
  go_at_call 10
  refine (dd.out _ (Hr.out.ext HY.out)).mono ?_
  rintro e w1 ⟨t, l, d, ps, ls, ds, a, y, ns, rfl, ho, ⟨hns, hy⟩, hx⟩
  obtain ⟨tp, tc, rfl⟩ := rd_form ho.2.1
  obtain ⟨lp, lc, rfl⟩ := rd_form ho.2.2.1
  obtain ⟨dp, dc, rfl⟩ := rd_form ho.2.2.2
  obtain ⟨yp, yc, rfl⟩ := rd_form hy
  have L0 : Hid (LN w ((w1.alloc (.cells #[.slice tp ps.length tc] 26)).alloc (.cells #[.slice lp ls.length lc, .slice dp ds.length dc] 28)) w1.heap.size (w1.heap.size + 1) (.slice tp ps.length tc) (.slice lp ls.length lc) (.slice dp ds.length dc) (.slice yp ns.length yc) ps ls ds ns) := ⟨LS.mk ho (HY.out.trans hx), hy.ext (by repeat' (first | exact Ext.refl _ | assumption | refine Ext.alloc ?_ _ | refine Ext.ext ?_ _ | refine Ext.drew ?_ | refine Ext.drewN ?_ _))⟩
  clear ho hx hy dd HY
  obtain ⟨n, hn⟩ : ∃ n, nearN ps ls ds ns a = n := ⟨_, rfl⟩
  obtain ⟨ok, hok⟩ : ∃ ok, nearB ps ls ds ns a = ok := ⟨_, rfl⟩
  have c1 := hid (fun W (h : TCo W (.slice tp ps.length tc) (.slice lp ls.length lc) (.slice dp ds.length dc) ps ls ds) hy => tco_iNH h (y := .slice yp ns.length yc) hy hns a n ok hn hok)
  have c2 := hid (fun W (h : TCo W (.slice tp ps.length tc) (.slice lp ls.length lc) (.slice dp ds.length dc) ps ls ds) hy => tco_sNH h (y := .slice yp ns.length yc) hy hns a n ok hn hok)
  have cl : Hid (ok = true → (hasC2 ps ls ds a n = true ∧ betweenN ps ls ds a n = btw ps ds a n) ∧ ns.contains n = true ∧ ∀ i, i < ns.length → (hasC2 ps ls ds a (ns.getD i 0) = true ∧ betweenN ps ls ds a (ns.getD i 0) = btw ps ds a (ns.getD i 0)) ∧ ¬ btw ps ds a (ns.getD i 0) < btw ps ds a n) := fun h => by
    have hq : nearest ps ds ns a = n := by rw [← hn, near_yes (hok.trans h)]
    have := delays_law2 (hok.trans h)
    rwa [hq] at this
  clear hn hok
  go_upto_region 16 with fail
  generalize (w1.alloc (.cells #[.slice tp ps.length tc] 26)).alloc (.cells #[.slice lp ls.length lc, .slice dp ds.length dc] 28) = V at *
  generalize w1.heap.size = T at *
  obtain ⟨b0, x0, x1⟩ := L0.out.cells
  go_wp2_with fail
  go_at_call 11
  refine (c1.out _ L0.out.1.1 L0.out.2).mono ?_
  rintro e w2 ⟨rfl, hx⟩
  have L1 := hid (L0.out.ext hx)
  clear hx L0 b0 x0 x1
  obtain ⟨b0, x0, x1⟩ := L1.out.cells
  go_wp2_with fail
  go_at_call 12
  refine (c2.out _ L1.out.1.1 L1.out.2).mono ?_
  rintro e w3 ⟨rfl, hx⟩
  have L2 := hid (L1.out.ext hx)
  clear hx L1 b0 x0 x1
  obtain ⟨b0, x0, x1⟩ := L2.out.cells
  clear c1 c2
  go_upto_if 178 with fail
  have HX := hid L2.out.1.2.2.2
  go_cut [] from 3 (fun wc => Ext w wc)
  case first =>
    cases ok
    · clear b0 x0 x1 L2
      go_wp2_with fail
      go_meet
      exact HX.out
    · obtain ⟨⟨e1, e2⟩, e3, e4⟩ := cl.out rfl
      generalize btw ps ds a n = m at *
      have c1 := hid (fun W (h : TCo W (.slice tp ps.length tc) (.slice lp ls.length lc) (.slice dp ds.length dc) ps ls ds) => tco_iDB h a n m true e2 e1)
      have ch := hid (fun W h => laws_rHas ns (.slice yp ns.length yc) n W h (by omega))
      rw [e3] at ch
      have Hall := hid e4
      clear e1 e2 e3 e4 cl HX
      go_wp2_with fail
      go_at_call 7
      refine (c1.out _ L2.out.1.1).mono ?_
      rintro e w4 ⟨rfl, hx⟩
      have L3 := hid (L2.out.ext hx)
      clear hx L2 b0 x0 x1
      obtain ⟨b0, x0, x1⟩ := L3.out.cells
      go_wp2_with fail
      go_at_call 13
      refine (ch.out _ L3.out.2).mono ?_
      rintro e w5 ⟨rfl, hx⟩
      have L4 := hid (L3.out.ext hx)
      clear hx L3 b0 x0 x1
      obtain ⟨b0, x0, x1⟩ := L4.out.cells
      clear c1 ch b0 x0 x1
      go_wp2_with fail
      go_loopw [29] (fun v29 wr => ∃ i : Nat, i ≤ ns.length ∧ v29 = .int .i64 i ∧ Ext w5 wr) (fun v29 _ => ns.length - (intOf v29).toNat)
      case atStart => exact ⟨0, Nat.zero_le _, rfl, Ext.refl _⟩
      case round =>
        obtain ⟨i, hi, rfl, hx⟩ := hrel
        have L5 := hid (L4.out.ext hx)
        have Hx := hid hx
        clear hx
        by_cases hlt : i < ns.length
        · obtain ⟨⟨e1, e2⟩, e3⟩ := Hall.out i hlt
          obtain ⟨yb, yo, rfl⟩ := L5.out.spot (by omega)
          have y0 := L5.out.at i hlt
          obtain ⟨b0, x0, x1⟩ := L5.out.cells
          generalize ns.getD i 0 = z at *
          have c1 := hid (fun W (h : TCo W (.slice tp ps.length tc) (.slice lp ls.length lc) (.slice dp ds.length dc) ps ls ds) => tco_iDB h a z _ true e2 e1)
          generalize btw ps ds a z = mz at *
          have i0 : (0 : Int) ≤ (i : Int) := by omega
          have i1 : (i : Int) < (ns.length : Int) := by omega
          clear e1 e2
          go_wp2
          refine wp_region_ext (by kernel_rfl) (by kernel_rfl) ?_
          repeat (go_big_quiet_step ((first | (go_at_call 7; exact Calls.quiet_ext (c1.out _ (L5.out.1.1.ext ((Ext.refl _).ext _)))))))
          refine wpQuiet_nil ?_
          rintro _ ⟨zq, rfl⟩
          go_wp2
          go_roundw
          case rel => exact ⟨i + 1, by omega, by go_num, Hx.out.trans (by repeat' (first | exact Ext.refl _ | assumption | refine Ext.alloc ?_ _ | refine Ext.ext ?_ _ | refine Ext.drew ?_ | refine Ext.drewN ?_ _))⟩
          case measure => simp [intOf]; omega
        · obtain rfl : i = ns.length := by omega
          go_wp2_with fail
          go_meet
          exact L5.out.1.2.2.2
  case rest =>
    go_step
    exact hn.out _ _ hcut rfl rfl rfl
end Go.Proofs.Ytppdbnopgcjgjaa
