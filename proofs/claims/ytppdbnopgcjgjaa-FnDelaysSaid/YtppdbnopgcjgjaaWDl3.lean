/- FnDelays: the walk, part 3. -/
import Derived.Test.YtppdbnopgcjgjaaWDlF
import Derived.Test.YtppdbnopgcjgjaaWCurZ
import Derived.Deep.DeepCutAuto
namespace Go.Proofs.Ytppdbnopgcjgjaa
open Go.RowKit
set_option maxHeartbeats 4000000
set_option maxRecDepth 100000
theorem delays_p3 {bs : List Int} (hb : Bts bs) {p : Option Addr} {cap : Nat} {w : World} (Hr : Hid (Rd w 1 (.slice p bs.length cap) bs.length (vBytes bs))) (hn : Hid (DlTail 46 p bs.length cap w)) : DlTail 30 p bs.length cap w := by
  intro a wc hx h1 h2 h3
  obtain ⟨u, rfl⟩ := frame332 a _ h1 h2 h3
  clear h1 h2 h3
  have HY := hid hx
  clear hx
  have dd := hid (fun w h => spec_DrawSlowestReceiver hb (v := .slice p bs.length cap) w h)
  clear hb
  unfold dlTl DlPost
  conv => arg 2; whnf
  go_wp2_with fail
  go_at_call 14
  refine (dd.out _ (Hr.out.ext HY.out)).mono ?_
  rintro e w1 ⟨t, l, d, ps, ls, ds, rfl, ho, hx⟩
  obtain ⟨tp, tc, rfl⟩ := rd_form ho.2.1
  obtain ⟨lp, lc, rfl⟩ := rd_form ho.2.2.1
  obtain ⟨dp, dc, rfl⟩ := rd_form ho.2.2.2
  have L0 := hid (LS.mk ho (HY.out.trans hx))
  clear ho hx dd HY
  obtain ⟨n, hn⟩ : ∃ n, slowN ps ls ds = n := ⟨_, rfl⟩
  obtain ⟨m, hm2⟩ : ∃ n, slowD ps ls ds = n := ⟨_, rfl⟩
  obtain ⟨ok, hok⟩ : ∃ ok, goodC ps ls ds = ok := ⟨_, rfl⟩
  have c1 := hid (fun W (h : TCo W (.slice tp ps.length tc) (.slice lp ls.length lc) (.slice dp ds.length dc) ps ls ds) => tco_iSR h n m ok hn hm2 hok)
  have c2 := hid (fun W (h : TCo W (.slice tp ps.length tc) (.slice lp ls.length lc) (.slice dp ds.length dc) ps ls ds) => tco_sSR h n m ok hn hm2 hok)
  have cl : Hid (ok = true → goodC ps ls ds = true ∧ (hasC ps ls ds n = true ∧ delayTo ps ls ds n = m) ∧ (leavesL ps).contains n = true ∧ ((leavesL ps).length ≤ 8) ∧ ∀ i, i < (leavesL ps).length → (hasC ps ls ds ((leavesL ps).getD i 0) = true ∧ delayTo ps ls ds ((leavesL ps).getD i 0) = del ps ds ((leavesL ps).getD i 0)) ∧ ¬ m < del ps ds ((leavesL ps).getD i 0)) := fun h => by
    have hg := hok.trans h
    have hq : slowest ps ds = n := by rw [← hn, (slow_yes hg).1]
    have hq2 : del ps ds n = m := by rw [← hm2, (slow_yes hg).2, hq]
    have := delays_law3 hg
    rw [hq, hq2] at this
    exact ⟨hg, this.1, this.2.1, leaves_len (goodC_all hg).1, this.2.2⟩
  clear hn hok hm2
  go_upto_region 31 with fail
  generalize (w1.alloc (.cells #[.slice tp ps.length tc] 26)).alloc (.cells #[.slice lp ls.length lc, .slice dp ds.length dc] 28) = V at *
  generalize w1.heap.size = T at *
  obtain ⟨b0, x0, x1⟩ := L0.out.cells
  go_wp2_with fail
  go_at_call 15
  refine (c1.out _ L0.out.1).mono ?_
  rintro e w2 ⟨rfl, hx⟩
  have L1 := hid (L0.out.ext hx)
  clear hx L0 b0 x0 x1
  obtain ⟨b0, x0, x1⟩ := L1.out.cells
  go_wp2_with fail
  go_at_call 16
  refine (c2.out _ L1.out.1).mono ?_
  rintro e w3 ⟨rfl, hx⟩
  have L2 := hid (L1.out.ext hx)
  clear hx L1 b0 x0 x1
  obtain ⟨b0, x0, x1⟩ := L2.out.cells
  clear c1 c2
  go_upto_if 251 with fail
  have HX := hid L2.out.2.2.2
  go_cut [] from 3 (fun wc => Ext w wc)
  case first =>
    cases ok
    · clear b0 x0 x1 L2
      go_wp2_with fail
      go_meet
      exact HX.out
    · obtain ⟨hg, ⟨e1, e2⟩, e3, e5, e4⟩ := cl.out rfl
      have c1 := hid (fun W (h : TCo W (.slice tp ps.length tc) (.slice lp ls.length lc) (.slice dp ds.length dc) ps ls ds) => tco_iDT h n m true e2 e1)
      have c2 := hid (fun W (h : TCo W (.slice tp ps.length tc) (.slice lp ls.length lc) (.slice dp ds.length dc) ps ls ds) => tco_iLO h hg)
      have ch := hid (fun y W h => laws_rHas (leavesL ps) y n W h (by omega))
      rw [e3] at ch
      have Hall := hid e4
      have Hq : Hid (∀ z mz, hasC ps ls ds z = true → delayTo ps ls ds z = mz → ∀ W, TCo W (.slice tp ps.length tc) (.slice lp ls.length lc) (.slice dp ds.length dc) ps ls ds → Calls Try.prog 9 #[.agg #[.slice tp ps.length tc], .agg #[.slice lp ls.length lc, .slice dp ds.length dc], .int .i64 z] W fun e w' => e = .returned (.tuple #[.int .i64 mz, .bool true]) ∧ Ext W w') := fun z mz a b W h => tco_iDT h z mz true b a
      clear e1 e2 e3 e4 cl HX hg
      go_wp2_with fail
      go_at_call 9
      refine (c1.out _ L2.out.1).mono ?_
      rintro e w4 ⟨rfl, hx⟩
      have L3 := hid (L2.out.ext hx)
      clear hx L2 b0 x0 x1
      obtain ⟨b0, x0, x1⟩ := L3.out.cells
      go_wp2_with fail
      go_at_call 17
      refine (c2.out _ L3.out.1).mono ?_
      rintro e w5 ⟨y, rfl, hy, hx⟩
      obtain ⟨yp, yc, rfl⟩ := rd_form hy
      have L4 : Hid (LN w w5 T (T + 1) (.slice tp ps.length tc) (.slice lp ls.length lc) (.slice dp ds.length dc) (.slice yp (leavesL ps).length yc) ps ls ds (leavesL ps)) := ⟨L3.out.ext hx, hy⟩
      clear hx hy L3 b0 x0 x1 c1 c2
      generalize leavesL ps = ns at *
      obtain ⟨b0, x0, x1⟩ := L4.out.cells
      go_wp2_with fail
      go_at_call 13
      refine (ch.out _ _ L4.out.2).mono ?_
      rintro e w6 ⟨rfl, hx⟩
      have L5 := hid (L4.out.ext hx)
      clear hx L4 b0 x0 x1
      obtain ⟨b0, x0, x1⟩ := L5.out.cells
      clear ch b0 x0 x1
      go_wp2_with fail
      go_loopw [44] (fun v44 wr => ∃ i : Nat, i ≤ ns.length ∧ v44 = .int .i64 i ∧ Ext w6 wr) (fun v44 _ => ns.length - (intOf v44).toNat)
      case atStart => exact ⟨0, Nat.zero_le _, rfl, Ext.refl _⟩
      case round =>
        obtain ⟨i, hi, rfl, hx⟩ := hrel
        have L6 := hid (L5.out.ext hx)
        have Hx := hid hx
        clear hx
        by_cases hlt : i < ns.length
        · obtain ⟨⟨e1, e2⟩, e3⟩ := Hall.out i hlt
          obtain ⟨yb, yo, rfl⟩ := L6.out.spot (by omega)
          have y0 := L6.out.at i hlt
          obtain ⟨b0, x0, x1⟩ := L6.out.cells
          generalize ns.getD i 0 = z at *
          have c1 := hid (Hq.out z _ e1 e2)
          generalize del ps ds z = mz at *
          have i0 : (0 : Int) ≤ (i : Int) := by omega
          have i1 : (i : Int) < (ns.length : Int) := by omega
          clear e1 e2
          go_wp2
          refine wp_region_ext (by kernel_rfl) (by kernel_rfl) ?_
          repeat (go_big_quiet_step ((first | (go_at_call 9; exact Calls.quiet_ext (c1.out _ (L6.out.1.1.ext ((Ext.refl _).ext _)))))))
          refine wpQuiet_nil ?_
          rintro _ ⟨zq, rfl⟩
          go_wp2
          go_roundw
          case rel => exact ⟨i + 1, by omega, by go_num, Hx.out.trans (by repeat' (first | exact Ext.refl _ | assumption | refine Ext.alloc ?_ _ | refine Ext.ext ?_ _ | refine Ext.drew ?_ | refine Ext.drewN ?_ _))⟩
          case measure => simp [intOf]; omega
        · obtain rfl : i = ns.length := by omega
          go_wp2_with fail
          go_meet
          exact L6.out.1.2.2.2
  case rest =>
    go_step
    exact hn.out _ _ hcut rfl rfl rfl
end Go.Proofs.Ytppdbnopgcjgjaa
