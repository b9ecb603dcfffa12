/- A fragment taken: the reference's TakeFragment; its result can be appended to. -/
import Derived.Test.YtnngklclehffhaaDoorKWPap
namespace Go.Proofs.YtnngklclehffhaaDoor
open Go.RowKit
set_option maxHeartbeats 1000000
set_option maxRecDepth 100000
theorem NotB.of {g b o m c : Nat} (h : b ≠ g) : NotB g (.slice (some ⟨b, o, none⟩) m c) := fun b' o' m' c' e _ => by
  injection e with e1
  injection e1 with e2
  injection e2 with e3
  omega
theorem PAp.lit0 {w : World} {lo g : Nat} (h : w.heap[g]? = some (.cells #[] 62 (0, 0))) (hg : lo ≤ g) : PAp w lo (.slice (some ⟨g, 0, none⟩) 0 0) [] [] :=
  PAp.ofRow (es := []) (own_lit_at h hg rfl) (fun e he => by cases he) (fun g _ e he => by cases he)
theorem PAp.erased {w w' : World} {lo k : Nat} {v : Value} {ps : List Pnd} {ds : List Pe} (h1 : ds.map Pe.p = ps) {lo2 : Nat} (h2 : ∀ e ∈ ds, RdB w lo2 e.u e.d.length (vStrs e.d) ∧ RdB w lo2 e.v e.h.length (vBools e.h)) (hx : Ext w w')
    (ho : w'.ownsRow w.heap.size 62 3 v ((ds.take k).length + (ds.drop (k + 1)).length) ((ds.take k).flatMap Pe.cs ++ (ds.drop (k + 1)).flatMap Pe.cs)) (hl : lo ≤ w.heap.size) (hl2 : lo ≤ lo2) : PAp w' lo v (ers ps k) (ers ds k) := by
  have e1 : (ers ds k).length = (ds.take k).length + (ds.drop (k + 1)).length := by rw [ers, List.length_append]
  have e2 : (ers ds k).flatMap Pe.cs = (ds.take k).flatMap Pe.cs ++ (ds.drop (k + 1)).flatMap Pe.cs := by rw [ers, List.flatMap_append]
  rw [← e1, ← e2] at ho
  rw [← h1, ← ers_map]
  exact PAp.ofRow (own_mono ho hl) (fun e he => ⟨((h2 e (ers_mem he)).1.ext hx).low hl2, ((h2 e (ers_mem he)).2.ext hx).low hl2⟩) (fun g eg e he => ⟨rd_under (h2 e (ers_mem he)).1 (own_row ho g eg).1, rd_under (h2 e (ers_mem he)).2 (own_row ho g eg).1⟩)
theorem spec_TakeFragmentA (ps : List Pnd) (es : List Pe) (v : Value) (n p q : Int) (d : ByteArray) (w : World) (h : PRd w v ps es) (h2 : ps.length ≤ 1048576) (hs : ∀ i, i < ps.length → (ps.getD i .z).d.length ≤ 1048576 ∧ (ps.getD i .z).h.length ≤ 1048576 ∧ ∀ j, j < (ps.getD i .z).d.length → ((ps.getD i .z).d.getD j ByteArray.empty).size ≤ 1048576) (hdz : d.size ≤ 1048576) :
    Calls Tryd.prog 24 #[v, .agg #[.int .i64 n, .int .i64 p, .int .i64 q, .string d]] w fun e w' => ∃ r ds, e = .returned (.tuple #[r, .string (tkS ps n p q d), .bool (tkW ps n p q d), .bool (tkB ps n p q d)]) ∧ PAp w' w.heap.size r (tkO ps n p q d) ds ∧ Ext w w' := by
  have Hv := hid h
  have hg := hid (fun w h => spec_l23Good ps es v w h h2 hs)
  have hfr := hid (fun w => spec_l23Fragment n p q d w hdz)
  have hB0 : (w.alloc (.cells #[.int .i64 n, .int .i64 p, .int .i64 q, .string d] 43)).heap[w.heap.size]? = some (.cells #[.int .i64 n, .int .i64 p, .int .i64 q, .string d] 43 (0, 0)) := heap_at _ rfl
  have X0 : Ext w (w.alloc (.cells #[.int .i64 n, .int .i64 p, .int .i64 q, .string d] 43)) := (by repeat' (first | exact Ext.refl _ | assumption | refine Ext.alloc ?_ _ | refine Ext.ext ?_ _ | refine Ext.drew ?_ | refine Ext.drewN ?_ _))
  cases e1 : okL ps
  · have hno : tkB ps n p q d = false := by rw [tkB, e1]; rfl
    rw [(tk_no hno).1, (tk_no hno).2.1, (tk_no hno).2.2, hno]
    rw [e1] at hg
    clear h hs e1 hno
    go_enter Tryd.func24, Tryd.ntmps24
    go_wp2_with (go_at_call 38; refine (hg.out _ (Hv.out.ext (by repeat' (first | exact Ext.refl _ | assumption | refine Ext.alloc ?_ _ | refine Ext.ext ?_ _ | refine Ext.drew ?_ | refine Ext.drewN ?_ _)))).mono ?_; rintro e w' ⟨rfl, z1, rfl⟩)
    ((try simp only [Exit.inBlock, Exit.then]); refine bodyPost_ret (results_tmp4 rfl _ _ _) rfl ?_)
    exact ⟨_, _, rfl, PAp.lit0 (by first | exact heap_at _ rfl | exact heap_at _ (by simp)) (show Ext w _ from (by repeat' (first | exact Ext.refl _ | assumption | refine Ext.alloc ?_ _ | refine Ext.ext ?_ _ | refine Ext.drew ?_ | refine Ext.drewN ?_ _))).size, (by repeat' (first | exact Ext.refl _ | assumption | refine Ext.alloc ?_ _ | refine Ext.ext ?_ _ | refine Ext.drew ?_ | refine Ext.drewN ?_ _))⟩
  rw [e1] at hg
  cases e2 : okF ⟨n, p, q, d⟩
  · have hno : tkB ps n p q d = false := by rw [tkB, e1, e2]; rfl
    rw [(tk_no hno).1, (tk_no hno).2.1, (tk_no hno).2.2, hno]
    rw [e2] at hfr
    clear h hs e1 e2 hno
    go_enter Tryd.func24, Tryd.ntmps24
    go_wp2_with (first | (go_at_call 38; refine (hg.out _ (Hv.out.ext (by repeat' (first | exact Ext.refl _ | assumption | refine Ext.alloc ?_ _ | refine Ext.ext ?_ _ | refine Ext.drew ?_ | refine Ext.drewN ?_ _)))).mono ?_; rintro e w' ⟨rfl, z1, rfl⟩) | (go_at_call 51; refine (hfr.out _).mono ?_; rintro e w' ⟨rfl, z2, rfl⟩))
    ((try simp only [Exit.inBlock, Exit.then]); refine bodyPost_ret (results_tmp4 rfl _ _ _) rfl ?_)
    exact ⟨_, _, rfl, PAp.lit0 (by first | exact heap_at _ rfl | exact heap_at _ (by simp)) (show Ext w _ from (by repeat' (first | exact Ext.refl _ | assumption | refine Ext.alloc ?_ _ | refine Ext.ext ?_ _ | refine Ext.drew ?_ | refine Ext.drewN ?_ _))).size, (by repeat' (first | exact Ext.refl _ | assumption | refine Ext.alloc ?_ _ | refine Ext.ext ?_ _ | refine Ext.drew ?_ | refine Ext.drewN ?_ _))⟩
  rw [e2] at hfr
  have hyes : tkB ps n p q d = true := by rw [tkB, e1, e2]; rfl
  have hc := hid (fun w a => spec_l23Own ps es v w a h2 (fun i hi => ⟨(hs i hi).1, (hs i hi).2.1⟩))
  have hf := hid (fun w h => spec_l23Find ps es v n w h h2)
  obtain ⟨I, Q, rfl, rfl, hQ1, hQ9, hIQ, hit⟩ := frag_nat e2
  have hl4 := okL_len e1
  obtain ⟨ty1, ty2, ty3⟩ := tk_yes hyes
  rw [hyes]
  have hb9 : ofQ (nxP ps n I Q d) Q ∧ (bsP ps n).d.length = (bsP ps n).h.length ∧ (nxP ps n I Q d).n = n := by
    have hb : (bsP ps n).d.length = (bsP ps n).h.length ∧ ∀ x ∈ (bsP ps n).d, itm 8 x = true := by
      rw [bsP]
      rcases hitG_cases (fun p : Pnd => p.n == n) ps .z with ⟨h1, -⟩ | ⟨k, h0, h1, -⟩
      · rw [show fndP ps n = -1 from h1, if_neg (by decide)]
        exact ⟨rfl, fun x hx => by cases hx⟩
      · rw [show fndP ps n = (k : Int) from h1, if_pos (by omega), Int.toNat_natCast]
        have hk := (okL_at e1 k h0).1
        exact ⟨by have := okS_len hk; omega, okS_all hk⟩
    exact ⟨wF_ofQ hb.1 hb.2 hit, hb.1, wF_n _ _ _ _ _⟩
  have htr : tkR ps n I Q d = if 0 ≤ fndP ps n then (if whP (nxP ps n I Q d) then ers ps (fndP ps n).toNat else ps.set (fndP ps n).toNat (nxP ps n I Q d))
      else if whP (nxP ps n I Q d) then ps else (if ps.length = 4 then ps.drop 1 else ps) ++ [nxP ps n I Q d] := rfl
  have hnx : nxP ps n I Q d = wF (bsP ps n) n I Q d := rfl
  have hbs : bsP ps n = if 0 ≤ fndP ps n then ps.getD (fndP ps n).toNat .z else .z := rfl
  have hjs := ofQ_join hb9.1
  generalize tkO ps n I Q d = O at *
  generalize tkS ps n I Q d = S' at *
  generalize tkW ps n I Q d = Wh at *
  generalize tkR ps n I Q d = TR at *
  have HO := hid (And.intro ty1 (And.intro ty2 ty3))
  clear ty1 ty2 ty3 hyes
  generalize nxP ps n I Q d = N at *
  generalize bsP ps n = BS at *
  have hsz : ∀ i, i < ps.length → Hid ((ps.getD i .z).d.length = (ps.getD i .z).h.length) := fun i hi => by (show _ = _; have := okS_len (okL_at e1 i hi).1; omega)
  have Hnx := hid (And.intro hnx (And.intro hbs (And.intro htr hb9)))
  have Hjs := hid hjs
  have hwh : Hid (∀ wq u v, Rd wq 1 u Q (vStrs N.d) → Rd wq 1 v Q (vBools N.h) → Calls Tryd.prog 53 #[.agg #[.int .i64 n, u, v]] wq fun e w' => e = .returned (.tuple #[.string S', .bool Wh]) ∧ Ext wq w') := fun wq u v hu hv => by
    have h9 := hb9
    have h8 := spec_l23Whole N u v wq (by rw [h9.1.1]; exact hu) (by rw [h9.1.2.1]; exact hv) (by rw [h9.1.1, h9.1.2.1]) (by rw [h9.1.2.1]; omega) (by omega)
    rw [h9.2.2, ← HO.out.2.1, show (if Wh = true then joinS N.d ⟨#[]⟩ else ⟨#[]⟩) = S' from by rw [HO.out.2.1]; exact HO.out.2.2.symm] at h8
    exact h8
  clear hnx hbs htr hb9 hjs e1 e2 h hs
  go_enter Tryd.func24, Tryd.ntmps24
  go_wp2_with (first | (go_at_call 38; refine (hg.out _ (Hv.out.ext (by repeat' (first | exact Ext.refl _ | assumption | refine Ext.alloc ?_ _ | refine Ext.ext ?_ _ | refine Ext.drew ?_ | refine Ext.drewN ?_ _)))).mono ?_; rintro e w' ⟨rfl, z1, rfl⟩) | (go_at_call 51; refine (hfr.out _).mono ?_; rintro e w' ⟨rfl, z2, rfl⟩) | fail)
  have XW : Ext w ((((w.alloc (.cells #[.int .i64 n, .int .i64 I, .int .i64 Q, .string d] 43)).ext z1)).ext z2) := (by repeat' (first | exact Ext.refl _ | assumption | refine Ext.alloc ?_ _ | refine Ext.ext ?_ _ | refine Ext.drew ?_ | refine Ext.drewN ?_ _))
  have HB : ((((w.alloc (.cells #[.int .i64 n, .int .i64 I, .int .i64 Q, .string d] 43)).ext z1)).ext z2).heap[w.heap.size]? = some (.cells #[.int .i64 n, .int .i64 I, .int .i64 Q, .string d] 43 (0, 0)) := blk3 hB0 (by repeat' (first | exact Ext.refl _ | assumption | refine Ext.alloc ?_ _ | refine Ext.ext ?_ _ | refine Ext.drew ?_ | refine Ext.drewN ?_ _))
  have hwW : w.heap.size ≤ _ := XW.size
  generalize ((((w.alloc (.cells #[.int .i64 n, .int .i64 I, .int .i64 Q, .string d] 43)).ext z1)).ext z2) = W at *
  clear hB0 X0 hg hfr
  go_at_call 46
  refine (hc.out _ (Hv.out.ext XW)).mono ?_
  rintro e w3 ⟨r, ds, rfl, ho, hx⟩
  have H3 := hid ho
  have hlw3 := hx.size
  have X3 := hid (XW.trans hx)
  have HB3 := blk3 HB hx
  obtain ⟨⟨b0, b1, b2, b3⟩, -, hbl⟩ := box4 HB3
  clear ho hx HB hc XW
  go_wp2_with fail
  go_at_call 43
  refine (hf.out _ (Hv.out.ext X3.out)).mono ?_
  rintro e w4 ⟨rfl, hx⟩
  have H4 := hid (H3.out.ext hx)
  have X4 := hid (X3.out.trans hx)
  have HB4 := hid (blk3 HB3 hx)
  have hs34 := hx.size
  have hlw4 := Nat.le_trans hlw3 hs34
  clear H3 X3 HB3 b0 b1 b2 b3 hx hf
  obtain ⟨⟨b0, b1, b2, b3⟩, -, hbl⟩ := box4 HB4.out
  have hZ : ((w4.alloc (.cells #[.int .i64 0, .slice none 0 0, .slice none 0 0] 62))).heap[w4.heap.size]? = some (.cells #[.int .i64 0, .slice none 0 0, .slice none 0 0] 62 (0, 0)) := heap_at _ rfl
  rcases hitG_cases (fun p : Pnd => p.n == n) ps .z with ⟨h1, -⟩ | ⟨k, h0, h1, hkn, -⟩
  · have hFn : fndP ps n = -1 := h1
    have hBS : BS = .z := by rw [Hnx.out.2.1, hFn, if_neg (by decide)]
    subst hBS
    rw [hFn]
    have hwt : Hid (∀ wq, Ext w wq → Calls Tryd.prog 52 #[.agg #[.int .i64 0, .slice none 0 0, .slice none 0 0], .agg #[.int .i64 n, .int .i64 I, .int .i64 Q, .string d]] wq fun e w' => ∃ g1 g2, e = .returned (.agg #[.int .i64 n, .slice (some ⟨g1, 0, none⟩) Q Q, .slice (some ⟨g2, 0, none⟩) Q Q]) ∧
      (w'.ownsRow wq.heap.size 9 1 (.slice (some ⟨g1, 0, none⟩) Q Q) Q (vStrs N.d) ∧ w'.ownsRow wq.heap.size 4 1 (.slice (some ⟨g2, 0, none⟩) Q Q) Q (vBools N.h)) ∧ (g1 ≠ g2 ∧ g1 < w'.heap.size ∧ g2 < w'.heap.size) ∧ Ext wq w') := fun wq _ => by
      rw [Hnx.out.1]
      exact spec_l23With 0 [] [] (.slice none 0 0) (.slice none 0 0) n I Q d wq (Rd.nil _ _ _ _) (Rd.nil _ _ _ _) rfl hQ9 hIQ
    have hTR : Hid (TR = if whP N then ps else (if ps.length = 4 then ps.drop 1 else ps) ++ [N]) := by
      show _ = _
      rw [Hnx.out.2.2.1, hFn, if_neg (by decide)]
    have XA : Ext w4 (w4.alloc (.cells #[.int .i64 0, .slice none 0 0, .slice none 0 0] 62)) := (by repeat' (first | exact Ext.refl _ | assumption | refine Ext.alloc ?_ _ | refine Ext.ext ?_ _ | refine Ext.drew ?_ | refine Ext.drewN ?_ _))
    have hlw : W.heap.size ≤ (w4.alloc (.cells #[.int .i64 0, .slice none 0 0, .slice none 0 0] 62)).heap.size := Nat.le_trans hlw4 XA.size
    have hA4 : w4.heap.size ≤ (w4.alloc (.cells #[.int .i64 0, .slice none 0 0, .slice none 0 0] 62)).heap.size := XA.size
    clear h1 hFn hZ
    have tF : decide ((0 : Int) ≤ -1) = false := rfl
    go_wp2_with fail
    go_at_call 52
    refine (hwt.out _ (X4.out.trans XA)).mono ?_
    rintro e w5 ⟨g1, g2, rfl, ⟨o1, o2⟩, ⟨hg12, hgb1, hgb2⟩, hx5⟩
    have hga1 := (own_row o1 g1 rfl).1
    have hga2 := (own_row o2 g2 rfl).1
    have H5 := hid (And.intro (((H4.out.ext XA)).ext hx5) (((X4.out.trans XA)).trans hx5))
    have hs5 : ((w4.alloc (.cells #[.int .i64 0, .slice none 0 0, .slice none 0 0] 62))).heap.size ≤ w5.heap.size := hx5.size
    have hN : (w5.alloc (.cells #[.int .i64 n, .slice (some ⟨g1, 0, none⟩) Q Q, .slice (some ⟨g2, 0, none⟩) Q Q] 62)).heap[w5.heap.size]? = some (.cells #[.int .i64 n, .slice (some ⟨g1, 0, none⟩) Q Q, .slice (some ⟨g2, 0, none⟩) Q Q] 62 (0, 0)) := heap_at _ rfl
    clear hx5 hwt
    go_wp2_with fail
    go_at_call 53
    refine (hwh.out _ _ _ (Rd.own (own_ext o1 (by repeat' (first | exact Ext.refl _ | assumption | refine Ext.alloc ?_ _ | refine Ext.ext ?_ _ | refine Ext.drew ?_ | refine Ext.drewN ?_ _)))) (Rd.own (own_ext o2 (by repeat' (first | exact Ext.refl _ | assumption | refine Ext.alloc ?_ _ | refine Ext.ext ?_ _ | refine Ext.drew ?_ | refine Ext.drewN ?_ _))))).mono ?_
    rintro e w6 ⟨rfl, hx6⟩
    have X56 : Ext w5 w6 := (show Ext w5 (w5.alloc _) from (by repeat' (first | exact Ext.refl _ | assumption | refine Ext.alloc ?_ _ | refine Ext.ext ?_ _ | refine Ext.drew ?_ | refine Ext.drewN ?_ _))).trans hx6
    have hs6 : w5.heap.size < w6.heap.size := Nat.lt_of_lt_of_le (by simp) hx6.size
    have H6 := hid (And.intro (H5.out.1.ext X56) (H5.out.2.trans X56))
    replace hN := blk3 hN hx6
    replace o1 := own_ext o1 X56
    replace o2 := own_ext o2 X56
    have HW6 := hid (And.intro o1 o2)
    clear H5 hx6 X56 o1 o2 hwh
    obtain ⟨⟨n0', n1', n2'⟩, -, -⟩ := box3 hN
    cases Wh
    · have hw0 : whP N = false := HO.out.2.1.symm
      have HS : Hid (S' = ⟨#[]⟩ ∧ O = (if ps.length = 4 then ps.drop 1 else ps) ++ [N]) := ⟨by rw [HO.out.2.2, hw0]; rfl, by rw [HO.out.1, hTR.out, hw0]; rfl⟩
      have HN : Hid ((N.d.length = Q ∧ N.h.length = Q) ∧ N.n = n) := ⟨⟨Hnx.out.2.2.2.1.1, Hnx.out.2.2.2.1.2.1⟩, Hnx.out.2.2.2.2.2⟩
      obtain ⟨i0, hi, hz0, hz1, hz2⟩ := info_parts infoPnd
      have XL : Ext w6 (w6.alloc (.cells #[.int .i64 n, .slice (some ⟨g1, 0, none⟩) Q Q, .slice (some ⟨g2, 0, none⟩) Q Q] 62)) := (by repeat' (first | exact Ext.refl _ | assumption | refine Ext.alloc ?_ _ | refine Ext.ext ?_ _ | refine Ext.drew ?_ | refine Ext.drewN ?_ _))
      have hO6 : Hid (w6.ownsRow W.heap.size 9 1 (nxE N Q g1 g2).u (nxE N Q g1 g2).d.length (vStrs (nxE N Q g1 g2).d) ∧ w6.ownsRow W.heap.size 4 1 (nxE N Q g1 g2).v (nxE N Q g1 g2).h.length (vBools (nxE N Q g1 g2).h)) := by
        refine ⟨?_, ?_⟩
        · show w6.ownsRow _ _ _ _ N.d.length _
          rw [HN.out.1.1]
          exact own_mono HW6.out.1 hlw
        · show w6.ownsRow _ _ _ _ N.h.length _
          rw [HN.out.1.2]
          exact own_mono HW6.out.2 hlw
      have hxc : (nxE N Q g1 g2).cs = [.int .i64 n, .slice (some ⟨g1, 0, none⟩) Q Q, .slice (some ⟨g2, 0, none⟩) Q Q] := by rw [← HN.out.2]; rfl
      clear hw0 hTR HO Hnx
      by_cases h4 : ps.length = 4
      · rcases H6.out.1.form with ⟨-, e⟩ | ⟨g, c, rfl, hlc, hg0, hg1, hg2⟩
        · rw [e] at h4; simp at h4
        have t4 : ((ps.length : Int) == 4) = true := by simp; omega
        have r3 : ∀ w, (Instr.slice 25 (.slice (some ⟨g, 0, none⟩) ps.length c) (some (.int .i64 1)) none none).run Tryd.prog w = .ok (.slice (some ⟨g, 3, none⟩) (ps.length - 1) (c - 1)) w := fun w => by
          have := run_from3 (some ⟨g, 0, none⟩) ps.length 1 c (by omega) w
          rw [slc3, if_neg (by omega)] at this
          simpa [Addr.add_lit] using this
        have r4 : ∀ w, (Instr.sliceAt 25 (.slice (some ⟨g, 0, none⟩) ps.length c) (some (.int .i64 1)) none none).run Tryd.prog w = .ok (.slice (some ⟨g, 3, none⟩) (ps.length - 1) (c - 1)) w := fun w => by
          have := run_fromAt3 (some ⟨g, 0, none⟩) ps.length 1 c (by omega) w
          rw [slc3, if_neg (by omega)] at this
          simpa [Addr.add_lit] using this
        have hHS : Hid (S' = ⟨#[]⟩ ∧ O = ps.drop 1 ++ [N]) := by (have h9 := HS.out; rw [if_pos h4] at h9; exact h9)
        have H4n := hid h4
        have p1 : 1 ≤ ps.length := by omega
        have hP := (PAp.ofOw (H6.out.1.ext XL)).drop1 (g := g) (off := 0) p1
        obtain ⟨v7, w7, hrun, hPA, hg7⟩ := hP.append_run (by have := XL.size; omega) (by rw [List.length_drop, H6.out.1.len]; omega) (nxE N Q g1 g2) w6.heap.size (by rw [hxc]; exact heap_at _ rfl) (by rw [hxc]; simp [Value.oneCell']) (RdB.own (own_ext hO6.out.1 XL)) (RdB.own (own_ext hO6.out.2 XL)) (fun g9 e9 => by cases e9; exact ⟨NotB.of (by dsimp only; omega), NotB.of (by dsimp only; omega)⟩) 25
        have hrun' : (Builtin.append_ #[25, 25] 25 #[.slice (some ⟨g, 3, none⟩) (ps.length - 1) (c - 1), .slice (some ⟨w6.heap.size, 0, none⟩) 1 1]).run Tryd.prog (w6.alloc (.cells #[.int .i64 n, .slice (some ⟨g1, 0, none⟩) Q Q, .slice (some ⟨g2, 0, none⟩) Q Q] 62)) = .ok v7 w7 := hrun
        have K := hid (And.intro (hPA.low hwW) (Ext.grown (H6.out.2.trans XL) hg7 (fun j e => by cases e; dsimp only; omega)))
        clear hrun hPA hg7 hP h4 HS
        go_wp2_with (at_builtin; refine Lib.wpList_append_run _ rfl _ _ _ _ rfl _ _ rfl rfl _ _ hrun' ?_)
        clear hrun'
        go_wp2
        ((try simp only [Exit.inBlock, Exit.then]); refine bodyPost_ret (results_tmp4 rfl _ _ _) rfl ?_)
        obtain ⟨q1, q2⟩ := hHS.out
        subst q1
        subst q2
        exact ⟨_, _, rfl, K.out⟩
      · have t4 : ((ps.length : Int) == 4) = false := by simp; omega
        have hHS : Hid (S' = ⟨#[]⟩ ∧ O = ps ++ [N]) := by (have h9 := HS.out; rw [if_neg h4] at h9; exact h9)
        obtain ⟨rp, rc, rfl⟩ : ∃ rp rc, r = .slice rp ps.length rc := by rw [← H6.out.1.len]; exact own_shape H6.out.1.2.own
        obtain ⟨v7, w7, hrun, hPA, hg7⟩ := (PAp.ofOw (H6.out.1.ext XL)).append_run (by have := XL.size; omega) (by rw [H6.out.1.len]; omega) (nxE N Q g1 g2) w6.heap.size (by rw [hxc]; exact heap_at _ rfl) (by rw [hxc]; simp [Value.oneCell']) (RdB.own (own_ext hO6.out.1 XL)) (RdB.own (own_ext hO6.out.2 XL)) (fun g9 e9 => by have h9 := (H6.out.1.2.lt e9).2.1; exact ⟨NotB.of (by omega), NotB.of (by omega)⟩) 25
        have K := hid (And.intro (hPA.low hwW) (Ext.grown (H6.out.2.trans XL) hg7 (fun j e => by have := (H6.out.1.2.lt e).1; omega)))
        clear hPA hg7 h4 HS
        go_wp2_with (at_builtin; refine Lib.wpList_append_run _ rfl _ _ _ _ rfl _ _ rfl rfl _ _ hrun ?_)
        clear hrun
        go_wp2
        ((try simp only [Exit.inBlock, Exit.then]); refine bodyPost_ret (results_tmp4 rfl _ _ _) rfl ?_)
        obtain ⟨q1, q2⟩ := hHS.out
        subst q1
        subst q2
        exact ⟨_, _, rfl, K.out⟩
    · have hw1 : Hid (whP N = true) := HO.out.2.1.symm
      go_wp2
      ((try simp only [Exit.inBlock, Exit.then]); refine bodyPost_ret (results_tmp4 rfl _ _ _) rfl ?_)
      have hO : O = ps := by rw [HO.out.1, hTR.out, if_pos hw1.out]
      subst hO
      exact ⟨_, _, rfl, (PAp.ofOw H6.out.1).low hwW, H6.out.2⟩
  · have hFn : fndP ps n = (k : Int) := h1
    have hBS : BS = ps.getD k .z := by rw [Hnx.out.2.1, hFn, if_pos (by omega), Int.toNat_natCast]
    have hTR : Hid (TR = if whP N then ers ps k else ps.set k N) := by
      show _ = _
      rw [Hnx.out.2.2.1, hFn, if_pos (by omega), Int.toNat_natCast]
    obtain ⟨vp, vcap, rfl, hvv⟩ := Hv.out.form
    obtain ⟨b, off, rfl⟩ := hvv.resolve_left (by omega)
    obtain ⟨⟨c0, c1, c2⟩, ru, rv⟩ := Hv.out.at k h0
    cases hp : ps.getD k .z with
    | mk pn pd ph =>
    rw [hp] at c0 ru rv hBS
    subst hBS
    dsimp only at c0 ru rv
    obtain ⟨pu, cu, eu, -⟩ := rd_block ru
    obtain ⟨pv, cv, ev, -⟩ := rd_block rv
    rw [eu] at c1 ru
    rw [ev] at c2 rv
    have hwt : Hid (∀ wq, Ext w wq → Calls Tryd.prog 52 #[.agg #[.int .i64 pn, .slice pu pd.length cu, .slice pv ph.length cv], .agg #[.int .i64 n, .int .i64 I, .int .i64 Q, .string d]] wq fun e w' => ∃ g1 g2, e = .returned (.agg #[.int .i64 n, .slice (some ⟨g1, 0, none⟩) Q Q, .slice (some ⟨g2, 0, none⟩) Q Q]) ∧
      (w'.ownsRow wq.heap.size 9 1 (.slice (some ⟨g1, 0, none⟩) Q Q) Q (vStrs N.d) ∧ w'.ownsRow wq.heap.size 4 1 (.slice (some ⟨g2, 0, none⟩) Q Q) Q (vBools N.h)) ∧ (g1 ≠ g2 ∧ g1 < w'.heap.size ∧ g2 < w'.heap.size) ∧ Ext wq w') := fun wq hq => by
      rw [Hnx.out.1]
      exact spec_l23With pn pd ph _ _ n I Q d wq (ru.ext hq) (rv.ext hq) Hnx.out.2.2.2.2.1 hQ9 hIQ
    have HN : Hid ((N.d.length = Q ∧ N.h.length = Q) ∧ N.n = n) := ⟨⟨Hnx.out.2.2.2.1.1, Hnx.out.2.2.2.1.2.1⟩, Hnx.out.2.2.2.2.2⟩
    have XA : Ext w4 (w4.alloc (.cells #[.int .i64 0, .slice none 0 0, .slice none 0 0] 62)) := (by repeat' (first | exact Ext.refl _ | assumption | refine Ext.alloc ?_ _ | refine Ext.ext ?_ _ | refine Ext.drew ?_ | refine Ext.drewN ?_ _))
    have a0 := X4.out.cell c0
    have a1 := X4.out.cell c1
    have a2 := X4.out.cell c2
    replace c0 := XA.cell a0
    replace c1 := XA.cell a1
    replace c2 := XA.cell a2
    obtain ⟨⟨z0, z1, z2⟩, ⟨y0, y1, y2⟩, -⟩ := box3 hZ
    have n0 : (0 : Int) ≤ (k : Int) := by omega
    have n1 : (k : Int) < (ps.length : Int) := by omega
    have tF : decide ((0 : Int) ≤ (k : Int)) = true := by simp
    rw [hFn]
    clear h1 hFn ru rv eu ev hp hkn Hnx a0 a1 a2 hZ
    have XB : Ext w4 (w4.alloc (.cells #[.int .i64 pn, .slice pu pd.length cu, .slice pv ph.length cv] 62)) := (by repeat' (first | exact Ext.refl _ | assumption | refine Ext.alloc ?_ _ | refine Ext.ext ?_ _ | refine Ext.drew ?_ | refine Ext.drewN ?_ _))
    have hA4 : w4.heap.size ≤ (w4.alloc (.cells #[.int .i64 pn, .slice pu pd.length cu, .slice pv ph.length cv] 62)).heap.size := XB.size
    have hlw : W.heap.size ≤ (w4.alloc (.cells #[.int .i64 pn, .slice pu pd.length cu, .slice pv ph.length cv] 62)).heap.size := Nat.le_trans hlw4 hA4
    go_wp2_with fail
    go_at_call 52
    refine (hwt.out _ (X4.out.trans XB)).mono ?_
    rintro e w5 ⟨g1, g2, rfl, ⟨o1, o2⟩, ⟨hg12, hgb1, hgb2⟩, hx5⟩
    have hga1 := (own_row o1 g1 rfl).1
    have hga2 := (own_row o2 g2 rfl).1
    have H5 := hid (And.intro (((H4.out.ext XB)).ext hx5) (((X4.out.trans XB)).trans hx5))
    have hs5 : ((w4.alloc (.cells #[.int .i64 pn, .slice pu pd.length cu, .slice pv ph.length cv] 62))).heap.size ≤ w5.heap.size := hx5.size
    have hN : (w5.alloc (.cells #[.int .i64 n, .slice (some ⟨g1, 0, none⟩) Q Q, .slice (some ⟨g2, 0, none⟩) Q Q] 62)).heap[w5.heap.size]? = some (.cells #[.int .i64 n, .slice (some ⟨g1, 0, none⟩) Q Q, .slice (some ⟨g2, 0, none⟩) Q Q] 62 (0, 0)) := heap_at _ rfl
    clear hx5 hwt
    go_wp2_with fail
    go_at_call 53
    refine (hwh.out _ _ _ (Rd.own (own_ext o1 (by repeat' (first | exact Ext.refl _ | assumption | refine Ext.alloc ?_ _ | refine Ext.ext ?_ _ | refine Ext.drew ?_ | refine Ext.drewN ?_ _)))) (Rd.own (own_ext o2 (by repeat' (first | exact Ext.refl _ | assumption | refine Ext.alloc ?_ _ | refine Ext.ext ?_ _ | refine Ext.drew ?_ | refine Ext.drewN ?_ _))))).mono ?_
    rintro e w6 ⟨rfl, hx6⟩
    have X56 : Ext w5 w6 := (show Ext w5 (w5.alloc _) from (by repeat' (first | exact Ext.refl _ | assumption | refine Ext.alloc ?_ _ | refine Ext.ext ?_ _ | refine Ext.drew ?_ | refine Ext.drewN ?_ _))).trans hx6
    have hs6 : w5.heap.size < w6.heap.size := Nat.lt_of_lt_of_le (by simp) hx6.size
    have H6 := hid (And.intro (H5.out.1.ext X56) (H5.out.2.trans X56))
    replace hN := blk3 hN hx6
    replace o1 := own_ext o1 X56
    replace o2 := own_ext o2 X56
    have HW6 := hid (And.intro o1 o2)
    clear H5 hx6 X56 o1 o2 hwh
    obtain ⟨⟨n0', n1', n2'⟩, -, -⟩ := box3 hN
    rcases H6.out.1.form with ⟨-, e⟩ | ⟨g, c, rfl, hle, hg0, hg1, hg2⟩
    · rw [e] at h0; simp at h0
    have hdl := H6.out.1.len
    cases Wh
    · have hw0 : whP N = false := HO.out.2.1.symm
      have HS : Hid (S' = ⟨#[]⟩ ∧ O = ps.set k N) := ⟨by rw [HO.out.2.2, hw0]; rfl, by rw [HO.out.1, hTR.out, hw0]; rfl⟩
      have hO6 : w6.ownsRow W.heap.size 9 1 (nxE N Q g1 g2).u (nxE N Q g1 g2).d.length (vStrs (nxE N Q g1 g2).d) ∧ w6.ownsRow W.heap.size 4 1 (nxE N Q g1 g2).v (nxE N Q g1 g2).h.length (vBools (nxE N Q g1 g2).h) := by
        refine ⟨?_, ?_⟩
        · show w6.ownsRow _ _ _ _ N.d.length _
          rw [HN.out.1.1]
          exact own_mono HW6.out.1 hlw
        · show w6.ownsRow _ _ _ _ N.h.length _
          rw [HN.out.1.2]
          exact own_mono HW6.out.2 hlw
      obtain ⟨⟨m0, m1, m2⟩, f0, f1, f2⟩ := H6.out.1.2.cells hdl.symm k (by omega)
      have hput := PFe.putNew (hi' := w6.heap.size) H6.out.1.2 hdl.symm (by omega) k (by omega) (nxE N Q g1 g2) hO6.1 hO6.2 (fun j e => by cases e; dsimp only; omega) (fun j e => by cases e; dsimp only; omega) (fun j e e2 => by cases e; cases e2; exact hg12 rfl)
      have hmp : (ds.set k (nxE N Q g1 g2)).map Pe.p = ps.set k N := by rw [List.map_set, H6.out.1.1]; rfl
      have hNn : (nxE N Q g1 g2).n = n := HN.out.2
      rw [hNn] at hput
      have K := hid (And.intro ((PAp.ofOw ⟨hmp, hput⟩).low hwW) (((H6.out.2.setCell (p := ⟨g, k * 3, none⟩) (by dsimp only; omega) (.int .i64 n)).setCell (p := ⟨g, k * 3 + 1, none⟩) (by dsimp only; omega) (nxE N Q g1 g2).u).setCell (p := ⟨g, k * 3 + 2, none⟩) (by dsimp only; omega) (nxE N Q g1 g2).v))
      have hkl : k < ds.length := by omega
      clear hw0 HO hTR hput hmp hNn hO6 hdl
      go_wp2
      ((try simp only [Exit.inBlock, Exit.then]); refine bodyPost_ret (results_tmp4 rfl _ _ _) rfl ?_)
      obtain ⟨q1, q2⟩ := HS.out
      subst q1
      subst q2
      exact ⟨_, _, rfl, K.out⟩
    · have hO : Hid (O = ers ps k) := by
        show _ = _
        rw [HO.out.1, hTR.out, if_pos HO.out.2.1.symm]
      have HR := hid H6.out.1.rd
      have HI := hid (PAp.ofOw H6.out.1).2.1
      have XX := hid H6.out.2
      have r1 := run_upto3 (some ⟨g, 0, none⟩) ps.length k c (by omega)
      have r2 := run_uptoAt3 (some ⟨g, 0, none⟩) ps.length k c (by omega)
      have r3 : ∀ w, (Instr.slice 25 (.slice (some ⟨g, 0, none⟩) ps.length c) (some (.int .i64 ((k : Int) + 1))) none none).run Tryd.prog w = .ok (slc3 (some ⟨g, 0, none⟩) (k + 1) ps.length c) w := run_from3 (some ⟨g, 0, none⟩) ps.length (k + 1) c (by omega)
      have r4 : ∀ w, (Instr.sliceAt 25 (.slice (some ⟨g, 0, none⟩) ps.length c) (some (.int .i64 ((k : Int) + 1))) none none).run Tryd.prog w = .ok (slc3 (some ⟨g, 0, none⟩) (k + 1) ps.length c) w := run_fromAt3 (some ⟨g, 0, none⟩) ps.length (k + 1) c (by omega)
      have hlt1 : Hid ((ds.take k).length ≤ 1048576) := by (show _ ≤ _; rw [List.length_take]; omega)
      have hld1 : Hid ((ds.drop (k + 1)).length ≤ 1048576) := by (show _ ≤ _; rw [List.length_drop, hdl]; omega)
      obtain ⟨i0, hi, hz0, hz1, hz2⟩ := info_parts infoPnd
      have w1 : IntKind.i64.wrap ((k : Int) + 1) = (k : Int) + 1 := IntWalk.i64_in _ (by omega)
      have p0 : (0 : Int) ≤ (k : Int) + 1 := by omega
      have p1 : (k : Int) + 1 ≤ (ps.length : Int) := by omega
      have p2 : k + 1 ≤ ps.length := h0
      have p3 : k + 1 ≤ c := by omega
      have p4 : k ≤ c := by omega
      have hwW6 : w.heap.size ≤ w6.heap.size := by omega
      clear HO hTR hdl H6 HW6 hN n0' n1' n2'
      have hR1 := hid ((HR.out.take k (by omega)).2.1)
      have hR2 := hid ((HR.out.drop hle (k + 1) (by omega)).2.1)
      have hO1 := hid (pes_one (HR.out.take k (by omega)).2)
      have hO2 := hid (pes_one (HR.out.drop hle (k + 1) (by omega)).2)
      go_wp2
      go_region_held3 (fun _ => True) (trivial)
        (first
        | (refine step_append_rdAt _ (by rfl) _ _ _ (by rfl) w6.heap.size 62 i0 _ 3 56 Tryd.underlying25 hi hz0 hz1 hz2 rfl (by omega) _ 0 [] (by rfl) (own_lit_at (by first | exact heap_at _ (by simp) | exact heap_at_d _ (by simp)) (by first | exact Nat.le_refl _ | exact Nat.le_succ _ | omega | (simp; done) | (simp; omega)) rfl) _ (ds.take k).length ((ds.take k).flatMap Pe.cs) (by rfl) (hR1.out.ext (show Ext w6 _ from (by repeat' (first | exact Ext.refl _ | assumption | refine Ext.alloc ?_ _ | refine Ext.ext ?_ _ | refine Ext.drew ?_ | refine Ext.drewN ?_ _)))) hO1.out (by have := hlt1.out; have := hld1.out; unfold maxLen; omega) (by have := hlt1.out; have := hld1.out; omega) (by first | exact Nat.le_refl _ | exact Nat.le_succ _ | omega | (simp; done) | (simp; omega)) ?_; intro v1 w4 ho1 hg1 hat1; (try simp only [Nat.zero_add, List.nil_append] at ho1); obtain ⟨v1p, v1c, rfl⟩ := own_shape ho1; have Y1 : Ext w6 w4 := Ext.grown (show Ext w6 _ from (by repeat' (first | exact Ext.refl _ | assumption | refine Ext.alloc ?_ _ | refine Ext.ext ?_ _ | refine Ext.drew ?_ | refine Ext.drewN ?_ _))) hg1 (fun j e => by cases e; exact (by first | exact Nat.le_refl _ | exact Nat.le_succ _ | omega | (simp; done) | (simp; omega))))
        | (refine step_append_rdAt _ (by rfl) _ _ _ (by rfl) w6.heap.size 62 i0 _ 3 56 Tryd.underlying25 hi hz0 hz1 hz2 rfl (by omega) _ (ds.take k).length ((ds.take k).flatMap Pe.cs) (by rfl) ho1 _ (ds.drop (k + 1)).length ((ds.drop (k + 1)).flatMap Pe.cs) (by rfl) (hR2.out.ext (show Ext w6 _ from (by repeat' (first | exact Ext.refl _ | assumption | refine Ext.alloc ?_ _ | refine Ext.ext ?_ _ | refine Ext.drew ?_ | refine Ext.drewN ?_ _)))) hO2.out (by have := hlt1.out; have := hld1.out; unfold maxLen; omega) (by have := hlt1.out; have := hld1.out; omega) Y1.size ?_; intro v2 w5 ho2 hg2 hat2; have Y2 : Ext w6 w5 := Ext.grown Y1 hg2 (fun j e => (own_row ho1 j e).1)))
      all_goals
        have hpr := PAp.erased (k := k) HR.out.1 (fun e he => HI.out e he) Y2 ho2 hwW6 hwW
        have K := hid (And.intro hpr (XX.out.trans Y2))
        clear hpr ho1 ho2 hg1 hg2 hat1 hat2 Y1 Y2
        go_wp2
        ((try simp only [Exit.inBlock, Exit.then]); refine bodyPost_ret (results_tmp4 rfl _ _ _) rfl ?_)
        have hO9 := hO.out
        subst hO9
        exact ⟨_, _, rfl, K.out⟩
end Go.Proofs.YtnngklclehffhaaDoor
