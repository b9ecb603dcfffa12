/- FnShares: the walk. -/
import Derived.Test.YtppdbnopgcjgjaaWShF
import Derived.Test.YtppdbnopgcjgjaaWCurM
import Derived.Deep.DeepCutAuto
namespace Go.Proofs.Ytppdbnopgcjgjaa
open Go.RowKit
set_option maxHeartbeats 4000000
set_option maxRecDepth 100000
theorem shares_p5 {bs : List Int} (hb : Bts bs) {p : Option Addr} {cap : Nat} {w : World} (Hr : Hid (Rd w 1 (.slice p bs.length cap) bs.length (vBytes bs))) : ShTail 38 p bs.length cap w := by
  intro a wc hx h1 h2 h3
  obtain ⟨u, rfl⟩ := frame311 a _ h1 h2 h3
  clear h1 h2 h3
  have HY := hid hx
  clear hx
  have dd := hid (fun w h => spec_DrawWorsenLink hb (v := .slice p bs.length cap) w h)
  clear hb
  unfold shTl ShPost
  conv => arg 2; whnf
  go_wp2_with fail
  go_at_call 34
  refine (dd.out _ (Hr.out.ext HY.out)).mono ?_
  rintro e w1 ⟨t, l, d, ps, ls, ds, a, b, rfl, ho, hx⟩
  obtain ⟨tp, tc, rfl⟩ := rd_form ho.2.1
  obtain ⟨lp, lc, rfl⟩ := rd_form ho.2.2.1
  obtain ⟨dp, dc, rfl⟩ := rd_form ho.2.2.2
  have L0 := hid (LS.mk ho (HY.out.trans hx))
  clear ho hx dd HY
  obtain ⟨xs, hn1⟩ : ∃ n, worsenL ps ls ds a b = n := ⟨_, rfl⟩
  obtain ⟨ys, hn2⟩ : ∃ n, worsenD ps ls ds a b = n := ⟨_, rfl⟩
  obtain ⟨ok, hok⟩ : ∃ ok, worsenB ps ls ds a b = ok := ⟨_, rfl⟩
  have c1 := hid (fun W (h : TCo W (.slice tp ps.length tc) (.slice lp ls.length lc) (.slice dp ds.length dc) ps ls ds) => tco_iWL h a b xs ys ok hn1 hn2 hok)
  have c2 := hid (fun W (h : TCo W (.slice tp ps.length tc) (.slice lp ls.length lc) (.slice dp ds.length dc) ps ls ds) => tco_sWL h a b xs ys ok hn1 hn2 hok)
  have hlen := hid L0.out.1.1
  have hlx : xs.length ≤ 30 := by have := hlen.out; have := worsenL_len ps ls ds a b; rw [hn1] at this; omega
  have hly : ys.length ≤ 30 := by have := hlen.out; have := worsenD_len ps ls ds a b; rw [hn2] at this; omega
  have cl : Hid (ok = true → goodC ps xs ys = true ∧ (0 ≤ a ∧ a.toNat < ls.length ∧ a.toNat < xs.length) ∧ ¬ xs.getD a.toNat 0 < ls.getD a.toNat 0) := fun h => by
    have := shares_law3 (hok.trans h)
    rwa [hn1, hn2] at this
  clear hn1 hn2 hok
  go_upto_region 39 with fail
  generalize (w1.alloc (.cells #[.slice tp ps.length tc] 26)).alloc (.cells #[.slice lp ls.length lc, .slice dp ds.length dc] 28) = V at *
  generalize w1.heap.size = T at *
  obtain ⟨b0, x0, x1⟩ := L0.out.cells
  go_wp2_with fail
  go_at_call 35
  refine (c1.out _ L0.out.1).mono ?_
  rintro e w2 ⟨r, r', rfl, ⟨hr1, hr2⟩, hx⟩
  obtain ⟨rp, rc, rfl⟩ := rd_form hr1
  obtain ⟨rp', rc', rfl⟩ := rd_form hr2
  have XA : Ext w2 (w2.alloc (.cells #[.slice rp xs.length rc, .slice rp' ys.length rc'] 28)) := (by repeat' (first | exact Ext.refl _ | assumption | refine Ext.alloc ?_ _ | refine Ext.ext ?_ _ | refine Ext.drew ?_ | refine Ext.drewN ?_ _))
  have L1 : Hid (LS w (w2.alloc (.cells #[.slice rp xs.length rc, .slice rp' ys.length rc'] 28)) T (T + 1) (.slice tp ps.length tc) (.slice lp ls.length lc) (.slice dp ds.length dc) ps ls ds ∧
    (w2.alloc (.cells #[.slice rp xs.length rc, .slice rp' ys.length rc'] 28)).heap[w2.heap.size]? = some (.cells #[.slice rp xs.length rc, .slice rp' ys.length rc'] 28 (0, 0)) ∧
    Rd (w2.alloc (.cells #[.slice rp xs.length rc, .slice rp' ys.length rc'] 28)) 1 (.slice rp xs.length rc) xs.length (vInts xs) ∧ Rd (w2.alloc (.cells #[.slice rp xs.length rc, .slice rp' ys.length rc'] 28)) 1 (.slice rp' ys.length rc') ys.length (vInts ys)) :=
    ⟨(L0.out.ext hx).ext XA, heap_at _ rfl, hr1.ext XA, hr2.ext XA⟩
  clear hx hr1 hr2 L0 b0 x0 x1 c1 XA
  go_upto_region 40 with fail
  generalize w2.alloc (.cells #[.slice rp xs.length rc, .slice rp' ys.length rc'] 28) = V1 at *
  generalize w2.heap.size = Y1 at *
  obtain ⟨b0, x0, x1⟩ := L1.out.1.cells
  go_wp2_with fail
  go_at_call 36
  refine (c2.out _ L1.out.1.1).mono ?_
  rintro e w3 ⟨s, s', rfl, ⟨hr1, hr2⟩, hx⟩
  obtain ⟨sp, sc, rfl⟩ := rd_form hr1
  obtain ⟨sp', sc', rfl⟩ := rd_form hr2
  have XA : Ext w3 (w3.alloc (.cells #[.slice sp xs.length sc, .slice sp' ys.length sc'] 28)) := (by repeat' (first | exact Ext.refl _ | assumption | refine Ext.alloc ?_ _ | refine Ext.ext ?_ _ | refine Ext.drew ?_ | refine Ext.drewN ?_ _))
  have L2 : Hid (LS w (w3.alloc (.cells #[.slice sp xs.length sc, .slice sp' ys.length sc'] 28)) T (T + 1) (.slice tp ps.length tc) (.slice lp ls.length lc) (.slice dp ds.length dc) ps ls ds ∧
    (w3.alloc (.cells #[.slice sp xs.length sc, .slice sp' ys.length sc'] 28)).heap[Y1]? = some (.cells #[.slice rp xs.length rc, .slice rp' ys.length rc'] 28 (0, 0)) ∧
    (w3.alloc (.cells #[.slice sp xs.length sc, .slice sp' ys.length sc'] 28)).heap[w3.heap.size]? = some (.cells #[.slice sp xs.length sc, .slice sp' ys.length sc'] 28 (0, 0)) ∧
    (Rd (w3.alloc (.cells #[.slice sp xs.length sc, .slice sp' ys.length sc'] 28)) 1 (.slice rp xs.length rc) xs.length (vInts xs) ∧ Rd (w3.alloc (.cells #[.slice sp xs.length sc, .slice sp' ys.length sc'] 28)) 1 (.slice rp' ys.length rc') ys.length (vInts ys)) ∧
    (Rd (w3.alloc (.cells #[.slice sp xs.length sc, .slice sp' ys.length sc'] 28)) 1 (.slice sp xs.length sc) xs.length (vInts xs) ∧ Rd (w3.alloc (.cells #[.slice sp xs.length sc, .slice sp' ys.length sc'] 28)) 1 (.slice sp' ys.length sc') ys.length (vInts ys))) :=
    ⟨(L1.out.1.ext hx).ext XA, blk_ext (blk_ext L1.out.2.1 hx) XA, heap_at _ rfl, ⟨(L1.out.2.2.1.ext hx).ext XA, (L1.out.2.2.2.ext hx).ext XA⟩, ⟨hr1.ext XA, hr2.ext XA⟩⟩
  clear hx hr1 hr2 L1 b0 x0 x1 c2 XA
  go_upto_region 41 with fail
  generalize w3.alloc (.cells #[.slice sp xs.length sc, .slice sp' ys.length sc'] 28) = V2 at *
  generalize w3.heap.size = Y2 at *
  obtain ⟨b0, x0, x1⟩ := L2.out.1.cells
  obtain ⟨⟨y0, y1⟩, -, -⟩ := box2 L2.out.2.1
  obtain ⟨⟨z0, z1⟩, -, -⟩ := box2 L2.out.2.2.1
  have cr := hid (fun W h1 h2 h3 h4 => laws_rCosts xs ys (.slice rp xs.length rc) (.slice rp' ys.length rc') (.slice sp xs.length sc) (.slice sp' ys.length sc') W h1 h2 h3 h4 (by omega) (by omega))
  cases ok
  · clear cl
    refine wp_region_ext (by kernel_rfl) (by kernel_rfl) ?_
    repeat (go_big_quiet_step ((first | (go_at_call 37; exact Calls.quiet_ext (cr.out _ (L2.out.2.2.2.1.1.ext ((Ext.refl _).ext _)) (L2.out.2.2.2.1.2.ext ((Ext.refl _).ext _)) (L2.out.2.2.2.2.1.ext ((Ext.refl _).ext _)) (L2.out.2.2.2.2.2.ext ((Ext.refl _).ext _)))))))
    refine wpQuiet_nil ?_
    rintro _ ⟨zq, rfl⟩
    go_wp2
    go_ret
    exact ⟨rfl, L2.out.1.2.2.2.trans (by repeat' (first | exact Ext.refl _ | assumption | refine Ext.alloc ?_ _ | refine Ext.ext ?_ _ | refine Ext.drew ?_ | refine Ext.drewN ?_ _))⟩
  · obtain ⟨e1, ⟨e2, e3, e4⟩, e5⟩ := cl.out rfl
    obtain ⟨i, rfl⟩ : ∃ i : Nat, a = i := ⟨a.toNat, by omega⟩
    rw [Int.toNat_natCast] at e3 e4 e5
    have ci := hid (fun W (h : TCo W (.slice tp ps.length tc) (.slice lp ls.length lc) (.slice dp ds.length dc) ps ls ds) h1 h2 => impl_IsValidCosts ps xs ys (.slice tp ps.length tc) (.slice rp xs.length rc) (.slice rp' ys.length rc') W h.2.1 h1 h2 h.lens.1 (by omega) (by omega))
    rw [e1] at ci
    have hq1 := L2.out.2.2.2.1.1
    obtain ⟨-, q, qc, eq, h4⟩ := hq1
    cases eq
    obtain ⟨yb, yo, rfl, h6⟩ := h4.resolve_left (by omega)
    have v0 := elem1 (Value.int .i64) 0 xs h6 i e4
    have hq2 := L2.out.1.1.2.2.1
    obtain ⟨-, q2, qc2, eq2, h42⟩ := hq2
    cases eq2
    obtain ⟨zb, zo, rfl, h62⟩ := h42.resolve_left (by omega)
    have v1 := elem1 (Value.int .i64) 0 ls h62 i e3
    clear h4 h6 h42 h62 e1 cl
    generalize xs.getD i 0 = xa at *
    generalize ls.getD i 0 = xb at *
    have i0 : (0 : Int) ≤ (i : Int) := by omega
    have i1 : (i : Int) < (xs.length : Int) := by omega
    have i2 : (i : Int) < (ls.length : Int) := by omega
    have e6 : xb ≤ xa := by omega
    clear e3 e4
    refine wp_region_ext (by kernel_rfl) (by kernel_rfl) ?_
    repeat (go_big_quiet_step ((first | (first | (go_at_call 37; exact Calls.quiet_ext (cr.out _ (L2.out.2.2.2.1.1.ext ((Ext.refl _).ext _)) (L2.out.2.2.2.1.2.ext ((Ext.refl _).ext _)) (L2.out.2.2.2.2.1.ext ((Ext.refl _).ext _)) (L2.out.2.2.2.2.2.ext ((Ext.refl _).ext _)))) | (go_at_call 29; exact Calls.quiet_ext (ci.out _ (L2.out.1.1.ext ((Ext.refl _).ext _)) (L2.out.2.2.2.1.1.ext ((Ext.refl _).ext _)) (L2.out.2.2.2.1.2.ext ((Ext.refl _).ext _))))))))
    refine wpQuiet_nil ?_
    rintro _ ⟨zq, rfl⟩
    go_wp2
    go_ret
    exact ⟨rfl, L2.out.1.2.2.2.trans (by repeat' (first | exact Ext.refl _ | assumption | refine Ext.alloc ?_ _ | refine Ext.ext ?_ _ | refine Ext.drew ?_ | refine Ext.drewN ?_ _))⟩
end Go.Proofs.Ytppdbnopgcjgjaa
namespace Go.Proofs.Ytppdbnopgcjgjaa
open Go.RowKit
set_option maxHeartbeats 4000000
set_option maxRecDepth 100000
theorem shares_p4 {bs : List Int} (hb : Bts bs) {p : Option Addr} {cap : Nat} {w : World} (Hr : Hid (Rd w 1 (.slice p bs.length cap) bs.length (vBytes bs))) (hn : Hid (ShTail 38 p bs.length cap w)) : ShTail 22 p bs.length cap w := by
  intro a wc hx h1 h2 h3
  obtain ⟨u, rfl⟩ := frame311 a _ h1 h2 h3
  clear h1 h2 h3
  have HY := hid hx
  clear hx
  have dd := hid (fun w h => spec_DrawWellReached hb (v := .slice p bs.length cap) w h)
  clear hb
  unfold shTl ShPost
  conv => arg 2; whnf
  go_wp2_with fail
  go_at_call 30
  refine (dd.out _ (Hr.out.ext HY.out)).mono ?_
  rintro e w1 ⟨t, l, d, ps, ls, ds, a, rfl, ho, hx⟩
  obtain ⟨tp, tc, rfl⟩ := rd_form ho.2.1
  obtain ⟨lp, lc, rfl⟩ := rd_form ho.2.2.1
  obtain ⟨dp, dc, rfl⟩ := rd_form ho.2.2.2
  have L0 := hid (LS.mk ho (HY.out.trans hx))
  clear ho hx dd HY
  obtain ⟨ns, hn1⟩ : ∃ n, wellL ps ls ds a = n := ⟨_, rfl⟩
  obtain ⟨ok, hok⟩ : ∃ ok, wellB ps ls ds a = ok := ⟨_, rfl⟩
  have hns : ns.length ≤ 8 := by rw [← hn1]; exact wellL_len ps ls ds a
  have c1 := hid (fun W (h : TCo W (.slice tp ps.length tc) (.slice lp ls.length lc) (.slice dp ds.length dc) ps ls ds) => tco_iWE h a ns ok hn1 hok)
  have c2 := hid (fun W (h : TCo W (.slice tp ps.length tc) (.slice lp ls.length lc) (.slice dp ds.length dc) ps ls ds) => tco_sWE h a ns ok hn1 hok)
  have cr := hid (fun y z W h1 h2 => laws_rInts ns y z W h1 h2 (by omega))
  have cl : Hid (ok = true → (a = 0 → ns = leavesL ps ∧ goodC ps ls ds = true) ∧ ∀ i, i < ns.length →
      hasC ps ls ds (ns.getD i 0) = true ∧ (0 ≤ shareNum ps ls ds [ns.getD i 0] ∧ shareNum ps ls ds [ns.getD i 0] ≤ 100000000000000) ∧ (0 ≤ shareDen ps ls ds [ns.getD i 0] ∧ shareDen ps ls ds [ns.getD i 0] ≤ 100000000000000) ∧ (0 ≤ a ∧ a ≤ 100) ∧
      ¬ 100 * shareNum ps ls ds [ns.getD i 0] < a * shareDen ps ls ds [ns.getD i 0]) := fun h => by
    have hB := hok.trans h
    refine ⟨fun e => ?_, ?_⟩
    · subst e
      have hg : goodC ps ls ds = true := by rw [wellB, Bool.and_eq_true] at hB; exact hB.1
      exact ⟨by rw [← hn1, well_zero hB], hg⟩
    · rw [← hn1]; exact shares_law2 hB
  clear hn1 hok
  go_upto_region 23 with fail
  generalize (w1.alloc (.cells #[.slice tp ps.length tc] 26)).alloc (.cells #[.slice lp ls.length lc, .slice dp ds.length dc] 28) = V at *
  generalize w1.heap.size = T at *
  obtain ⟨b0, x0, x1⟩ := L0.out.cells
  go_wp2_with fail
  go_at_call 31
  refine (c1.out _ L0.out.1).mono ?_
  rintro e w2 ⟨y, rfl, hy, hx⟩
  obtain ⟨yp, yc, rfl⟩ := rd_form hy
  have L1 : Hid (LN w w2 T (T + 1) (.slice tp ps.length tc) (.slice lp ls.length lc) (.slice dp ds.length dc) (.slice yp ns.length yc) ps ls ds ns) := ⟨L0.out.ext hx, hy⟩
  clear hx hy L0 b0 x0 x1
  obtain ⟨b0, x0, x1⟩ := L1.out.cells
  go_wp2_with fail
  go_at_call 32
  refine (c2.out _ L1.out.1.1).mono ?_
  rintro e w3 ⟨z, rfl, hz, hx⟩
  obtain ⟨zp, zc, rfl⟩ := rd_form hz
  have L2 := hid (And.intro (L1.out.ext hx) hz)
  clear hx hz L1 b0 x0 x1
  go_wp2_with fail
  go_at_call 33
  refine (cr.out _ _ _ L2.out.1.2 L2.out.2).mono ?_
  rintro e w4 ⟨rfl, hx⟩
  have L3 := hid (L2.out.1.ext hx)
  clear hx L2 c1 c2
  go_upto_if 215 with fail
  have HX := hid L3.out.1.2.2.2
  go_cut [] from 3 (fun wc => Ext w wc)
  case first =>
    cases ok
    · clear L3
      go_wp2_with fail
      go_meet
      exact HX.out
    · obtain ⟨e0, e4⟩ := cl.out rfl
      have Hall := hid e4
      have Hq : Hid (∀ z n m, shareNum ps ls ds [z] = n → shareDen ps ls ds [z] = m → hasC ps ls ds z = true → ∀ W, TCo W (.slice tp ps.length tc) (.slice lp ls.length lc) (.slice dp ds.length dc) ps ls ds → Calls Try.prog 21 #[.agg #[.slice tp ps.length tc], .agg #[.slice lp ls.length lc, .slice dp ds.length dc], .int .i64 z] W fun e w' => e = .returned (.tuple #[.int .i64 n, .int .i64 m, .bool true]) ∧ Ext W w') := fun z n m a b c W h => tco_iST h z n m true a b c
      have Hl : Hid (a = 0 → ∀ W, TCo W (.slice tp ps.length tc) (.slice lp ls.length lc) (.slice dp ds.length dc) ps ls ds → Calls Try.prog 17 #[.agg #[.slice tp ps.length tc]] W fun e w' => ∃ r, e = .returned (.tuple #[r, .bool true]) ∧ Rd w' 1 r ns.length (vInts ns) ∧ Ext W w') := fun e W h => by
        obtain ⟨e1, e2⟩ := e0 e
        rw [e1]
        exact tco_iLO h e2
      clear e0 e4 cl
      go_upto_if 217 with fail
      go_cut [] from 215 (fun wc => LN w wc T (T + 1) (.slice tp ps.length tc) (.slice lp ls.length lc) (.slice dp ds.length dc) (.slice yp ns.length yc) ps ls ds ns)
      case first =>
        by_cases ha : a = 0
        · have hl := hid (Hl.out ha)
          subst ha
          obtain ⟨b0, x0, x1⟩ := L3.out.cells
          go_wp2_with fail
          go_at_call 17
          refine (hl.out _ L3.out.1.1).mono ?_
          rintro e w5 ⟨z, rfl, hz, hx⟩
          obtain ⟨zp, zc, rfl⟩ := rd_form hz
          have L4 := hid (And.intro (L3.out.ext hx) hz)
          clear hx hz b0 x0 x1
          go_wp2_with fail
          go_at_call 33
          refine (cr.out _ _ _ L4.out.2 L4.out.1.2).mono ?_
          rintro e w6 ⟨rfl, hx⟩
          have L5 := hid (L4.out.1.ext hx)
          clear hx L4
          go_wp2_with fail
          go_meet
          exact L5.out
        · have ta : (a == 0) = false := by rw [beq_eq_false_iff_ne]; exact ha
          go_wp2_with fail
          go_meet
          exact L3.out
      case rest =>
        have L4 := hid hcut
        clear hcut L3 Hl cr HX
        go_wp2_with fail
        go_loopw [39] (fun v39 wr => ∃ i : Nat, i ≤ ns.length ∧ v39 = .int .i64 i ∧ Ext wc wr) (fun v39 _ => ns.length - (intOf v39).toNat)
        case atStart => exact ⟨0, Nat.zero_le _, rfl, Ext.refl _⟩
        case round =>
          obtain ⟨i, hi, rfl, hx⟩ := hrel
          have L6 := hid (L4.out.ext hx)
          have Hx := hid hx
          clear hx
          by_cases hlt : i < ns.length
          · obtain ⟨e1, e2, e3, e4, e5⟩ := Hall.out i hlt
            obtain ⟨yb, yo, rfl⟩ := L6.out.spot (by omega)
            have y0 := L6.out.at i hlt
            obtain ⟨b0, x0, x1⟩ := L6.out.cells
            generalize ns.getD i 0 = z at *
            have c1 := hid (Hq.out z _ _ rfl rfl e1)
            generalize shareNum ps ls ds [z] = n at *
            generalize shareDen ps ls ds [z] = m at *
            have i0 : (0 : Int) ≤ (i : Int) := by omega
            have i1 : (i : Int) < (ns.length : Int) := by omega
            have bb := mulBd100 e4 e3
            have k1 : IntKind.i64.wrap (100 * n) = 100 * n := IntWalk.i64_in _ (by omega)
            have k2 : IntKind.i64.wrap (a * m) = a * m := IntWalk.i64_in _ (by omega)
            clear e1 e2 e3 e4 bb
            go_wp2
            refine wp_region_ext (by kernel_rfl) (by kernel_rfl) ?_
            repeat (go_big_quiet_step ((first | (go_at_call 21; exact Calls.quiet_ext (c1.out _ (L6.out.1.1.ext ((Ext.refl _).ext _)))))))
            refine wpQuiet_nil ?_
            rintro _ ⟨zq, rfl⟩
            go_wp2
            go_roundw
            case rel => exact ⟨i + 1, by omega, by go_num, Hx.out.trans (by repeat' (first | exact Ext.refl _ | assumption | refine Ext.alloc ?_ _ | refine Ext.ext ?_ _ | refine Ext.drew ?_ | refine Ext.drewN ?_ _))⟩
            case measure => simp [intOf]; omega
          · obtain rfl : i = ns.length := by omega
            go_wp2_with fail
            go_meet
            exact L6.out.1.2.2.2
  case rest =>
    go_step
    exact hn.out _ _ hcut rfl rfl rfl
end Go.Proofs.Ytppdbnopgcjgjaa
namespace Go.Proofs.Ytppdbnopgcjgjaa
open Go.RowKit
set_option maxHeartbeats 4000000
set_option maxRecDepth 100000
theorem shares_p3 {bs : List Int} (hb : Bts bs) {p : Option Addr} {cap : Nat} {w : World} (Hr : Hid (Rd w 1 (.slice p bs.length cap) bs.length (vBytes bs))) (hn : Hid (ShTail 22 p bs.length cap w)) : ShTail 17 p bs.length cap w := by
  intro a wc hx h1 h2 h3
  obtain ⟨u, rfl⟩ := frame311 a _ h1 h2 h3
  clear h1 h2 h3
  have HY := hid hx
  clear hx
  have dd := hid (fun w h => spec_DrawWorstReceiver hb (v := .slice p bs.length cap) w h)
  clear hb
  unfold shTl ShPost
  conv => arg 2; whnf
  go_wp2_with fail
  go_at_call 26
  refine (dd.out _ (Hr.out.ext HY.out)).mono ?_
  rintro e w1 ⟨t, l, d, ps, ls, ds, rfl, ho, hx⟩
  obtain ⟨tp, tc, rfl⟩ := rd_form ho.2.1
  obtain ⟨lp, lc, rfl⟩ := rd_form ho.2.2.1
  obtain ⟨dp, dc, rfl⟩ := rd_form ho.2.2.2
  have L0 := hid (LS.mk ho (HY.out.trans hx))
  clear ho hx dd HY
  obtain ⟨n, hn1⟩ : ∃ n, worstN ps ls ds = n := ⟨_, rfl⟩
  obtain ⟨ok, hok⟩ : ∃ ok, goodC ps ls ds = ok := ⟨_, rfl⟩
  have c1 := hid (fun W (h : TCo W (.slice tp ps.length tc) (.slice lp ls.length lc) (.slice dp ds.length dc) ps ls ds) => tco_iWR h n ok hn1 hok)
  have c2 := hid (fun W (h : TCo W (.slice tp ps.length tc) (.slice lp ls.length lc) (.slice dp ds.length dc) ps ls ds) => tco_sWR h n ok hn1 hok)
  have c3 := hid (fun W (h : TCo W (.slice tp ps.length tc) (.slice lp ls.length lc) (.slice dp ds.length dc) ps ls ds) => tco_iVC h ok hok)
  clear hn1 hok
  go_upto_region 18 with fail
  generalize (w1.alloc (.cells #[.slice tp ps.length tc] 26)).alloc (.cells #[.slice lp ls.length lc, .slice dp ds.length dc] 28) = V at *
  generalize w1.heap.size = T at *
  obtain ⟨b0, x0, x1⟩ := L0.out.cells
  go_wp2_with fail
  go_at_call 27
  refine (c1.out _ L0.out.1).mono ?_
  rintro e w2 ⟨rfl, hx⟩
  have L1 := hid (L0.out.ext hx)
  clear hx L0 b0 x0 x1
  obtain ⟨b0, x0, x1⟩ := L1.out.cells
  go_wp2_with fail
  go_at_call 28
  refine (c2.out _ L1.out.1).mono ?_
  rintro e w3 ⟨rfl, hx⟩
  have L2 := hid (L1.out.ext hx)
  clear hx L1 b0 x0 x1
  obtain ⟨b0, x0, x1⟩ := L2.out.cells
  go_wp2_with fail
  go_at_call 29
  refine (c3.out _ L2.out.1).mono ?_
  rintro e w4 ⟨rfl, hx⟩
  have L3 := hid (L2.out.ext hx)
  clear hx L2 b0 x0 x1
  obtain ⟨b0, x0, x1⟩ := L3.out.cells
  clear c1 c2 c3 b0 x0 x1
  go_upto_if 185 with fail
  have HX := hid L3.out.2.2.2
  clear L3
  go_cut [] from 3 (fun wc => Ext w wc)
  case first =>
    go_wp2_with fail
    go_meet
    exact HX.out
  case rest =>
    go_step
    exact hn.out _ _ hcut rfl rfl rfl
end Go.Proofs.Ytppdbnopgcjgjaa
namespace Go.Proofs.Ytppdbnopgcjgjaa
open Go.RowKit
set_option maxHeartbeats 4000000
set_option maxRecDepth 100000
theorem shares_p2 {bs : List Int} (hb : Bts bs) {p : Option Addr} {cap : Nat} {w : World} (Hr : Hid (Rd w 1 (.slice p bs.length cap) bs.length (vBytes bs))) (hn : Hid (ShTail 17 p bs.length cap w)) : ShTail 12 p bs.length cap w := by
  intro a wc hx h1 h2 h3
  obtain ⟨u, rfl⟩ := frame311 a _ h1 h2 h3
  clear h1 h2 h3
  have HY := hid hx
  clear hx
  have dd := hid (fun w h => spec_DrawShareToAll hb (v := .slice p bs.length cap) w h)
  clear hb
  unfold shTl ShPost
  conv => arg 2; whnf
  go_wp2_with fail
  go_at_call 24
  refine (dd.out _ (Hr.out.ext HY.out)).mono ?_
  rintro e w1 ⟨t, l, d, ps, ls, ds, y, ns, rfl, ho, ⟨hns, hy⟩, hx⟩
  obtain ⟨tp, tc, rfl⟩ := rd_form ho.2.1
  obtain ⟨lp, lc, rfl⟩ := rd_form ho.2.2.1
  obtain ⟨dp, dc, rfl⟩ := rd_form ho.2.2.2
  obtain ⟨yp, yc, rfl⟩ := rd_form hy
  have L0 : Hid (LN w ((w1.alloc (.cells #[.slice tp ps.length tc] 26)).alloc (.cells #[.slice lp ls.length lc, .slice dp ds.length dc] 28)) w1.heap.size (w1.heap.size + 1) (.slice tp ps.length tc) (.slice lp ls.length lc) (.slice dp ds.length dc) (.slice yp ns.length yc) ps ls ds ns) := ⟨LS.mk ho (HY.out.trans hx), hy.ext (by repeat' (first | exact Ext.refl _ | assumption | refine Ext.alloc ?_ _ | refine Ext.ext ?_ _ | refine Ext.drew ?_ | refine Ext.drewN ?_ _))⟩
  clear ho hx hy dd HY
  obtain ⟨n, hn1⟩ : ∃ n, shareNum ps ls ds ns = n := ⟨_, rfl⟩
  obtain ⟨m, hn2⟩ : ∃ n, shareDen ps ls ds ns = n := ⟨_, rfl⟩
  obtain ⟨ok, hok⟩ : ∃ ok, shareB ps ls ds ns = ok := ⟨_, rfl⟩
  have c1 := hid (fun W (h : TCo W (.slice tp ps.length tc) (.slice lp ls.length lc) (.slice dp ds.length dc) ps ls ds) hy => tco_iSA h (y := .slice yp ns.length yc) hy hns n m ok hn1 hn2 hok)
  have c2 := hid (fun W (h : TCo W (.slice tp ps.length tc) (.slice lp ls.length lc) (.slice dp ds.length dc) ps ls ds) hy => tco_sSA h (y := .slice yp ns.length yc) hy hns n m ok hn1 hn2 hok)
  clear hn1 hn2 hok
  go_upto_region 13 with fail
  generalize (w1.alloc (.cells #[.slice tp ps.length tc] 26)).alloc (.cells #[.slice lp ls.length lc, .slice dp ds.length dc] 28) = V at *
  generalize w1.heap.size = T at *
  obtain ⟨b0, x0, x1⟩ := L0.out.cells
  go_wp2_with fail
  go_at_call 23
  refine (c1.out _ L0.out.1.1 L0.out.2).mono ?_
  rintro e w2 ⟨rfl, hx⟩
  have L1 := hid (L0.out.ext hx)
  clear hx L0 b0 x0 x1
  obtain ⟨b0, x0, x1⟩ := L1.out.cells
  go_wp2_with fail
  go_at_call 25
  refine (c2.out _ L1.out.1.1 L1.out.2).mono ?_
  rintro e w3 ⟨rfl, hx⟩
  have L2 := hid (L1.out.ext hx)
  clear hx L1 b0 x0 x1
  obtain ⟨b0, x0, x1⟩ := L2.out.cells
  clear c1 c2 b0 x0 x1
  go_upto_if 153 with fail
  have HX := hid L2.out.1.2.2.2
  clear L2
  go_cut [] from 3 (fun wc => Ext w wc)
  case first =>
    go_wp2_with fail
    go_meet
    exact HX.out
  case rest =>
    go_step
    exact hn.out _ _ hcut rfl rfl rfl
end Go.Proofs.Ytppdbnopgcjgjaa
namespace Go.Proofs.Ytppdbnopgcjgjaa
open Go.RowKit
set_option maxHeartbeats 4000000
set_option maxRecDepth 100000
theorem shares_law (bs : List Int) (v : Value) (w : World) (h : Rd w 1 v bs.length (vBytes bs)) (hm : bs.length ≤ maxLen) (hbb : ∀ x ∈ bs, 0 ≤ x ∧ x ≤ 255) :
    Calls Try.prog 4 #[v] w fun e w' => e = .returned (.bool true) ∧ Ext w w' := by
  have Hr := hid h
  unfold maxLen at hm
  obtain ⟨-, p, cap, rfl, -⟩ := h
  by_cases h2 : 65536 < bs.length
  · have t0 : (65536 : Int) < (bs.length : Int) := by omega
    go_enter Try.func4, Try.ntmps4
    go_wp2
    go_ret
    exact ⟨rfl, (by repeat' (first | exact Ext.refl _ | assumption | refine Ext.alloc ?_ _ | refine Ext.ext ?_ _ | refine Ext.drew ?_ | refine Ext.drewN ?_ _))⟩
  have hb : Bts bs := ⟨by omega, hbb⟩
  have d1 := hid (fun w h => spec_DrawShareTo hb (v := .slice p bs.length cap) w h)
  have hn : Hid (ShTail 12 p bs.length cap w) := shares_p2 hb Hr (shares_p3 hb Hr (shares_p4 hb Hr (shares_p5 hb Hr)))
  clear hb hbb
  go_enter Try.func4, Try.ntmps4
  go_wp2_with fail
  go_at_call 5
  refine (laws_rBig bs.length p cap _).mono ?_
  rintro e w' ⟨rfl, rfl⟩
  have t1 : decide ((65536 : Int) < (bs.length : Int)) = false := by simp; omega
  go_wp2_with fail
  go_at_call 20
  refine (d1.out _ Hr.out).mono ?_
  rintro e w1 ⟨t, l, d, ps, ls, ds, a, rfl, ho, hx⟩
  obtain ⟨tp, tc, rfl⟩ := rd_form ho.2.1
  obtain ⟨lp, lc, rfl⟩ := rd_form ho.2.2.1
  obtain ⟨dp, dc, rfl⟩ := rd_form ho.2.2.2
  have L0 := hid (LS.mk ho hx)
  clear ho hx d1 t1
  obtain ⟨n, hn1⟩ : ∃ n, shareNum ps ls ds [a] = n := ⟨_, rfl⟩
  obtain ⟨m, hn2⟩ : ∃ n, shareDen ps ls ds [a] = n := ⟨_, rfl⟩
  obtain ⟨ok, hok⟩ : ∃ ok, hasC ps ls ds a = ok := ⟨_, rfl⟩
  have c1 := hid (fun W (h : TCo W (.slice tp ps.length tc) (.slice lp ls.length lc) (.slice dp ds.length dc) ps ls ds) => tco_iST h a n m ok hn1 hn2 hok)
  have c2 := hid (fun W (h : TCo W (.slice tp ps.length tc) (.slice lp ls.length lc) (.slice dp ds.length dc) ps ls ds) => tco_sST h a n m ok hn1 hn2 hok)
  have cl : Hid (ok = true → (∀ W (h : TCo W (.slice tp ps.length tc) (.slice lp ls.length lc) (.slice dp ds.length dc) ps ls ds) y, Rd W 1 y 1 (vInts [a]) → Calls Try.prog 23 #[.agg #[.slice tp ps.length tc], .agg #[.slice lp ls.length lc, .slice dp ds.length dc], y] W fun e w' => e = .returned (.tuple #[.int .i64 n, .int .i64 m, .bool true]) ∧ Ext W w') ∧ ¬ n < 0 ∧ ¬ m < n) := fun h => by
    have := shares_law1 (hok.trans h)
    rw [hn1, hn2] at this
    exact ⟨fun W h y hy => tco_iSA h (ns := [a]) hy (by simp) n m true hn1 hn2 this.1, this.2⟩
  clear hn1 hn2 hok
  go_upto_region 4 with fail
  generalize (w1.alloc (.cells #[.slice tp ps.length tc] 26)).alloc (.cells #[.slice lp ls.length lc, .slice dp ds.length dc] 28) = V at *
  generalize w1.heap.size = T at *
  obtain ⟨b0, x0, x1⟩ := L0.out.cells
  go_wp2_with fail
  go_at_call 21
  refine (c1.out _ L0.out.1).mono ?_
  rintro e w2 ⟨rfl, hx⟩
  have L1 := hid (L0.out.ext hx)
  clear hx L0 b0 x0 x1
  obtain ⟨b0, x0, x1⟩ := L1.out.cells
  go_wp2_with fail
  go_at_call 22
  refine (c2.out _ L1.out.1).mono ?_
  rintro e w3 ⟨rfl, hx⟩
  have L2 := hid (L1.out.ext hx)
  clear hx L1 b0 x0 x1
  obtain ⟨b0, x0, x1⟩ := L2.out.cells
  clear c1 c2
  go_upto_if 88 with fail
  have HX := hid L2.out.2.2.2
  go_cut [] from 3 (fun wc => Ext w wc)
  case first =>
    cases ok
    · clear b0 x0 x1 L2
      go_wp2_with fail
      go_meet
      exact HX.out
    · obtain ⟨e1, e2, e3⟩ := cl.out rfl
      have C := hid e1
      clear e1 cl HX
      have XA : Ext w3 (w3.alloc (.cells #[.int .i64 a] 3)) := (by repeat' (first | exact Ext.refl _ | assumption | refine Ext.alloc ?_ _ | refine Ext.ext ?_ _ | refine Ext.drew ?_ | refine Ext.drewN ?_ _))
      have hl := rd_litC w3 3 #[.int .i64 a]
      have L3 := hid (And.intro (L2.out.ext XA) hl)
      clear hl L2 XA
      go_wp2_with fail
      go_at_call 23
      refine (C.out _ L3.out.1.1 _ L3.out.2).mono ?_
      rintro e w4 ⟨rfl, hx⟩
      have HX := hid (L3.out.1.2.2.2.trans hx)
      clear hx L3 C b0 x0 x1
      go_wp2_with fail
      go_meet
      exact HX.out
  case rest =>
    go_step
    exact hn.out _ _ hcut rfl rfl rfl
end Go.Proofs.Ytppdbnopgcjgjaa
