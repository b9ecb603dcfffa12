/- FnDelays: the walk, part 4. -/
import Derived.Test.YtppdbnopgcjgjaaWDlF
import Derived.Test.YtppdbnopgcjgjaaWCurZ
import Derived.Deep.DeepCutAuto
namespace Go.Proofs.Ytppdbnopgcjgjaa
open Go.RowKit
set_option maxHeartbeats 4000000
set_option maxRecDepth 100000
theorem delays_p4 {bs : List Int} (hb : Bts bs) {p : Option Addr} {cap : Nat} {w : World} (Hr : Hid (Rd w 1 (.slice p bs.length cap) bs.length (vBytes bs))) : DlTail 46 p bs.length cap w := by
  intro a wc hx h1 h2 h3
  obtain ⟨u, rfl⟩ := frame332 a _ h1 h2 h3
  clear h1 h2 h3
  have HY := hid hx
  clear hx
  have dd := hid (fun w h => spec_DrawDelayTo hb (v := .slice p bs.length cap) w h)
  clear hb
  unfold dlTl DlPost
  conv => arg 2; whnf
  go_wp2_with fail
  go_at_call 18
  refine (dd.out _ (Hr.out.ext HY.out)).mono ?_
  rintro e w1 ⟨t, l, d, ps, ls, ds, a, rfl, ho, hx⟩
  obtain ⟨tp, tc, rfl⟩ := rd_form ho.2.1
  obtain ⟨lp, lc, rfl⟩ := rd_form ho.2.2.1
  obtain ⟨dp, dc, rfl⟩ := rd_form ho.2.2.2
  have L0 := hid (LS.mk ho (HY.out.trans hx))
  clear ho hx dd HY
  obtain ⟨n, hn⟩ : ∃ n, delayTo ps ls ds a = n := ⟨_, rfl⟩
  obtain ⟨ok, hok⟩ : ∃ ok, hasC ps ls ds a = ok := ⟨_, rfl⟩
  have c1 := hid (fun W (h : TCo W (.slice tp ps.length tc) (.slice lp ls.length lc) (.slice dp ds.length dc) ps ls ds) => tco_iDT h a n ok hn hok)
  have c2 := hid (fun W (h : TCo W (.slice tp ps.length tc) (.slice lp ls.length lc) (.slice dp ds.length dc) ps ls ds) => tco_sDT h a n ok hn hok)
  clear hn hok
  go_upto_region 47 with fail
  generalize (w1.alloc (.cells #[.slice tp ps.length tc] 26)).alloc (.cells #[.slice lp ls.length lc, .slice dp ds.length dc] 28) = V at *
  generalize w1.heap.size = T at *
  obtain ⟨b0, x0, x1⟩ := L0.out.cells
  go_wp2_with fail
  go_at_call 9
  refine (c1.out _ L0.out.1).mono ?_
  rintro e w2 ⟨rfl, hx⟩
  have L1 := hid (L0.out.ext hx)
  clear hx L0 b0 x0 x1
  obtain ⟨b0, x0, x1⟩ := L1.out.cells
  go_wp2_with fail
  go_at_call 19
  refine (c2.out _ L1.out.1).mono ?_
  rintro e w3 ⟨rfl, hx⟩
  have L2 := hid (L1.out.ext hx)
  clear hx L1 b0 x0 x1
  obtain ⟨b0, x0, x1⟩ := L2.out.cells
  clear c1 c2 b0 x0 x1
  go_wp2
  go_ret
  exact ⟨rfl, L2.out.2.2.2⟩
end Go.Proofs.Ytppdbnopgcjgjaa
