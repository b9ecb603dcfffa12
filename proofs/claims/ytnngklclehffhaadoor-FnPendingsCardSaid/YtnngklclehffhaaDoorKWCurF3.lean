/- What the law of pendings draws. -/
import Derived.Test.YtnngklclehffhaaDoorKWCurF2
import Derived.Deep.DeepCutAuto
namespace Go
section
variable {P : Program} {fn : Func} {p u : Tmp} {ty : TypeId} {tmps : Array Value} {w : World} {g : Nat} {t : TypeId} {cs : Array Value} {d : TypeDesc} {a : Value}
/-- Two results: a value, and a struct in a variable. -/
theorem results_tc (hp : tmps.getD p undef = .pointer (some ⟨g, 0, none⟩)) (hg : w.heap[g]? = some (.cells cs t (0, 0))) (hu : P.underlying ty = some d) (hd : (match d with | .struct _ | .array _ _ => true | _ => false) = true) (hi : (P.info? ty).map (·.size) = some cs.size)
    (h : fn.results = #[.tmp u, .cell p ty]) (ha : tmps.getD u undef = a) : (results fn tmps).run P w = .ok (.tuple #[a, .agg cs]) w := by
  simp only [Array.getD_eq_getD_getElem?] at hp ha
  simp only [results, h]
  simp [Result.andThen, hp, ha, asAddr, run_loadVar_row w g t ty cs (0, 0) d hg hu hd hi]
end
end Go
namespace Go.Proofs.YtnngklclehffhaaDoor
open Go.RowKit
set_option maxHeartbeats 1000000
set_option maxRecDepth 100000
/-- A function's own cursor. -/
def C1 (w : World) (v : Value) : World := w.alloc (.cells #[v, .int .i64 0, .int .u64 0] 80)
theorem cur_start {w : World} {v : Value} {bs : List Int} (h : Rd w 1 v bs.length (vBytes bs)) : Dr (C1 w v) (C1 w v) w.heap.size w.heap.size v bs 0 ∧ Ext w (C1 w v) ∧ (C1 w v).heap.size = w.heap.size + 1 := by
  have hx : Ext w (C1 w v) := by unfold C1; exact (by repeat' (first | exact Ext.refl _ | assumption | refine Ext.alloc ?_ _ | refine Ext.ext ?_ _ | refine Ext.drew ?_ | refine Ext.drewN ?_ _))
  exact ⟨Dr.start ⟨⟨h.ext hx, fun b o m c e hm => rd_lt h (by decide) e hm⟩, 0, 0, by omega, by omega, World.ownsRow_lit w #[v, .int .i64 0, .int .u64 0] 1 (Nat.le_refl _) (by decide) rfl⟩, hx, by unfold C1; simp⟩
theorem cur_fin {w W W' : World} {lo B A : Nat} {v : Value} {bs : List Int} (hx : Ext w W) (h : Dr W W' lo B v bs A) (hB : w.heap.size ≤ B) : Ext w W' := hx.grown h.2.1 (fun j e => by have := Option.some.inj e; omega)
theorem spec_DrawLackingParts {bs : List Int} (hb : Bts bs) {v : Value} (w : World) (h : Rd w 1 v bs.length (vBytes bs)) :
    Calls Tryd.prog 32 #[v] w fun e w' => ∃ (q : Option Addr) (c : Nat) (ps : List Pnd) (es : List Pe) (x : Int), e = .returned (.tuple #[.slice q ps.length c, .int .i64 x]) ∧ (SmP ps ∧ ps.length ≤ c) ∧ PRd w' (.slice q ps.length c) ps es ∧ Ext w w' := by
  have HS := hid (cur_start h)
  have Hb := hid hb
  obtain ⟨-, p, cap, rfl, -⟩ := h
  clear hb
  go_enter Tryd.func32, Tryd.ntmps32
  go_wp2_with fail
  go_at_call 58
  change Calls _ _ _ (C1 w (.slice p bs.length cap)) _
  generalize C1 w (.slice p bs.length cap) = W0 at *
  have H0 := hid HS.out.1
  refine (spec_pending Hb.out _ H0.out.1 (by omega)).mono ?_
  rintro e w1 ⟨r, ps, es, rfl, hsm, hPA, hc, hg⟩
  have H1 := hid (And.intro (H0.out.step hc hg) hPA)
  clear hc hg H0 hPA
  obtain ⟨rp, rc, rfl, hcap⟩ := H1.out.2.form
  go_wp2_with fail
  go_at_call 64
  refine (spec_amongLit Hb.out _ _ _ w1 _ H1.out.1.1 (by repeat' (first | exact Ext.refl _ | assumption | refine Ext.alloc ?_ _ | refine Ext.ext ?_ _ | refine Ext.drew ?_ | refine Ext.drewN ?_ _)) (by simp) (by rfl) (by omega) (by omega) (by simp)).mono ?_
  rintro e w2 ⟨x, rfl, hc, hg⟩
  have H2 : Hid (PnD _ w2 _ _ _ _ _ _ _ _) := hid (PnD.step H1.out hc hg)
  clear hc hg H1
  go_wp2
  go_ret2
  exact ⟨rp, rc, ps, es, x, rfl, ⟨hsm, hcap⟩, H2.out.2.rd, cur_fin HS.out.2.1 H2.out.1 (Nat.le_refl _)⟩
theorem spec_DrawDropMessage {bs : List Int} (hb : Bts bs) {v : Value} (w : World) (h : Rd w 1 v bs.length (vBytes bs)) :
    Calls Tryd.prog 31 #[v] w fun e w' => ∃ (q : Option Addr) (c : Nat) (ps : List Pnd) (es : List Pe) (x : Int), e = .returned (.tuple #[.slice q ps.length c, .int .i64 x]) ∧ (SmP ps ∧ ps.length ≤ c) ∧ PRd w' (.slice q ps.length c) ps es ∧ Ext w w' := by
  have hd := hid (spec_DrawLackingParts hb w h)
  obtain ⟨-, p, cap, rfl, -⟩ := h
  go_enter Tryd.func31, Tryd.ntmps31
  go_wp2_with fail
  go_at_call 32
  refine (hd.out).mono ?_
  rintro e w1 ⟨rp, rc, ps, es, x, rfl, hsm, hP, hx⟩
  have K := hid (And.intro hsm (And.intro hP hx))
  clear hsm hP hx hd
  go_wp2
  go_ret2
  exact ⟨rp, rc, ps, es, x, rfl, K.out⟩
theorem PnD.set4 {w W : World} {lo B A R : Nat} {v u : Value} {bs : List Int} {ps : List Pnd} {es : List Pe} (h : PnD w W lo B v bs A u ps es) (hR : R < w.heap.size) (a b c d : Value) :
    PRd ((((W.setCell ⟨R, 0, none⟩ a).setCell ⟨R, 1, none⟩ b).setCell ⟨R, 2, none⟩ c).setCell ⟨R, 3, none⟩ d) u ps es :=
  ((((h.2.grown (grownBy_set _ ⟨R, 0, none⟩ a) (fun b e => by cases e; exact hR)).grown (grownBy_set _ ⟨R, 1, none⟩ b) (fun b e => by cases e; exact hR)).grown (grownBy_set _ ⟨R, 2, none⟩ c) (fun b e => by cases e; exact hR)).grown (grownBy_set _ ⟨R, 3, none⟩ d) (fun b e => by cases e; exact hR)).rd
/-- A fragment is put into the box at FX. -/
def FrBx (W0 W : World) (lo FX : Nat) (v u : Value) (bs : List Int) (ps : List Pnd) (es : List Pe) : Prop :=
  ∃ f' : Fra, f'.d.size ≤ 9 ∧ W.heap[FX]? = some (.cells #[.int .i64 f'.n, .int .i64 f'.p, .int .i64 f'.q, .string f'.d] 43 (0, 0)) ∧ PnD W0 W lo lo v bs 100 u ps es
theorem spec_DrawTakeFragment {bs : List Int} (hb : Bts bs) {v : Value} (w : World) (h : Rd w 1 v bs.length (vBytes bs)) :
    Calls Tryd.prog 28 #[v] w fun e w' => ∃ (q : Option Addr) (c : Nat) (ps : List Pnd) (es : List Pe) (f : Fra), e = .returned (.tuple #[.slice q ps.length c, .agg #[.int .i64 f.n, .int .i64 f.p, .int .i64 f.q, .string f.d]]) ∧ (SmP ps ∧ ps.length ≤ c ∧ f.d.size ≤ 9) ∧ PRd w' (.slice q ps.length c) ps es ∧ Ext w w' := by
  have Hb := hid hb
  have hx0 : Ext w (w.alloc (.cells #[.int .i64 0, .int .i64 0, .int .i64 0, .string ⟨#[]⟩] 43)) := (by repeat' (first | exact Ext.refl _ | assumption | refine Ext.alloc ?_ _ | refine Ext.ext ?_ _ | refine Ext.drew ?_ | refine Ext.drewN ?_ _))
  have hR0 : (w.alloc (.cells #[.int .i64 0, .int .i64 0, .int .i64 0, .string ⟨#[]⟩] 43)).heap[w.heap.size]? = some (.cells #[.int .i64 0, .int .i64 0, .int .i64 0, .string ⟨#[]⟩] 43 (0, 0)) := heap_at _ rfl
  have HS := hid (cur_start (h.ext hx0))
  have hR := blk3 hR0 HS.out.2.1
  have hsB : (w.alloc (.cells #[.int .i64 0, .int .i64 0, .int .i64 0, .string ⟨#[]⟩] 43)).heap.size = w.heap.size + 1 := by simp
  have XW := hid (hx0.trans HS.out.2.1)
  obtain ⟨-, p, cap, rfl, -⟩ := h
  clear hb hR0 hx0
  go_enter Tryd.func28, Tryd.ntmps28
  go_wp2_with fail
  go_at_call 58
  change Calls _ _ _ (C1 (w.alloc (.cells #[.int .i64 0, .int .i64 0, .int .i64 0, .string ⟨#[]⟩] 43)) (.slice p bs.length cap)) _
  rw [hsB] at HS
  generalize C1 (w.alloc (.cells #[.int .i64 0, .int .i64 0, .int .i64 0, .string ⟨#[]⟩] 43)) (.slice p bs.length cap) = W0 at *
  have H0 := hid HS.out.1
  have HB := hid HS.out.2.2
  clear HS hsB
  refine (spec_pending Hb.out _ H0.out.1 (by omega)).mono ?_
  rintro e w1 ⟨r, ps, es, rfl, hsm, hPA, hc, hg⟩
  have H1 : Hid (PnD W0 w1 _ _ _ _ _ r ps es) := hid (And.intro (H0.out.step hc hg) hPA)
  clear hc hg H0 hPA
  obtain ⟨rp, rc, rfl, hcap⟩ := H1.out.2.form
  go_wp2_with fail
  go_at_call 59
  refine (spec_fragment Hb.out _ H1.out.1.1 (by omega)).mono ?_
  rintro e w2 ⟨f, rfl, hfd, hc, hg⟩
  have H2 := hid (H1.out.step hc hg)
  clear hc hg H1
  have X3 : Ext w2 (w2.alloc (.cells #[.int .i64 f.n, .int .i64 f.p, .int .i64 f.q, .string f.d] 43)) := (by repeat' (first | exact Ext.refl _ | assumption | refine Ext.alloc ?_ _ | refine Ext.ext ?_ _ | refine Ext.drew ?_ | refine Ext.drewN ?_ _))
  have hF : (w2.alloc (.cells #[.int .i64 f.n, .int .i64 f.p, .int .i64 f.q, .string f.d] 43)).heap[w2.heap.size]? = some (.cells #[.int .i64 f.n, .int .i64 f.p, .int .i64 f.q, .string f.d] 43 (0, 0)) := heap_at _ rfl
  have H3 := hid (H2.out.ext X3)
  have hs2 := H2.out.1.size
  have HP2 := hid H2.out
  have G3 := hid (X3.grownBy (some (w.heap.size + 1)))
  have hBs := hid (show w.heap.size + 1 < w2.heap.size by have := H2.out.1.2.2.2; have := H2.out.1.size; omega)
  clear H2 X3
  by_cases hne : ps.length = 0
  · obtain rfl : ps = [] := List.eq_nil_of_length_eq_zero hne
    clear hne
    (go_upto_region 9 with fail)
    generalize (w2.alloc (.cells #[.int .i64 f.n, .int .i64 f.p, .int .i64 f.q, .string f.d] 43)) = W3 at *
    generalize w2.heap.size = FX at *
    clear hs2
    obtain ⟨⟨c0, c1, c2, c3⟩, -, -⟩ := box4 hF
    have hRN := blk_grow hR H3.out.1.2.1 (fun e => by have := Option.some.inj e; omega)
    obtain ⟨⟨r0, r1, r2, r3⟩, ⟨q0, q1, q2, q3⟩, -⟩ := box4 hRN
    have hRW : w.heap.size < W0.heap.size := by have := HB.out; omega
    have XN := hid (cur_fin XW.out H3.out.1 (by omega))
    have HRN := hid hRN
    clear hRN
    go_region
    go_wp2
    refine bodyPost_ret (results_tc rfl (blk3 (box4_set (t := 43) HRN.out _ _ _ _) (Ext.refl _).drew) Tryd.underlying43 rfl (by kernel_rfl) rfl rfl) rfl ?_
    exact ⟨_, _, _, es, f, rfl, ⟨hsm, hcap, hfd⟩, (H3.out.set4 hRW _ _ _ _).ext (Ext.refl _).drew, ((((XN.out.setCell (p := ⟨w.heap.size, 0, none⟩) (Nat.le_refl _) _).setCell (p := ⟨w.heap.size, 1, none⟩) (Nat.le_refl _) _).setCell (p := ⟨w.heap.size, 2, none⟩) (Nat.le_refl _) _).setCell (p := ⟨w.heap.size, 3, none⟩) (Nat.le_refl _) _).drew⟩
  · have tl : decide ((0 : Int) < (ps.length : Int)) = true := by simp; omega
    go_wp2_with fail
    go_at_call 60
    refine (spec_one Hb.out 3 _ H3.out.1.1 (by omega) (by omega)).mono ?_
    rintro e w4 ⟨y, rfl, hc, hg⟩
    have H4 := hid (H3.out.step hc hg)
    have hF4 := blk_step H3.out.1 hF hs2 hg
    have G4 := hid (grownBy_trans G3.out hg)
    clear hc hg H3 hF G3
    have hF := hF4
    clear hF4
    cases y
    · go_wp2_with fail
      go_at_call 61
      refine (spec_pick Hb.out (ps.length : Int) _ H4.out.1.1 (by omega) (by have := hsm.1; omega)).mono ?_
      rintro e w5 ⟨x, rfl, hx0, hx1, hc, hg⟩
      have H5 := hid (H4.out.step hc hg)
      have hF5 := blk_step H4.out.1 hF hs2 hg
      have G5 := hid (grownBy_trans G4.out hg)
      clear hc hg H4 hF G4
      obtain ⟨k, rfl⟩ : ∃ k : Nat, x = k := ⟨x.toNat, by omega⟩
      have hk : k < ps.length := by omega
      obtain ⟨p', c', e, hpp⟩ := H5.out.2.rd.form
      injection e with e1 e2 e3
      subst e1
      subst e3
      obtain ⟨b, off, rfl⟩ := hpp.resolve_left hne
      obtain ⟨⟨c0, c1, c2⟩, ru, rv⟩ := H5.out.2.rd.at k hk
      have hh9 := (hsm.2 _ (getD_mem' (z := .z) hk)).2.1
      obtain ⟨pu, cu, eu, -⟩ := rd_block ru
      obtain ⟨pv, cv, ev, -⟩ := rd_block rv
      rw [eu] at c1
      rw [ev] at c2
      clear ru rv eu ev
      generalize (ps.getD k .z).d.length = dl at *
      generalize (ps.getD k .z).h.length = m at *
      generalize (ps.getD k .z).n = pn at *
      have X6 : Ext w5 (w5.alloc (.cells #[.int .i64 pn, .slice pu dl cu, .slice pv m cv] 62)) := (by repeat' (first | exact Ext.refl _ | assumption | refine Ext.alloc ?_ _ | refine Ext.ext ?_ _ | refine Ext.drew ?_ | refine Ext.drewN ?_ _))
      have H6 := hid (H5.out.ext X6)
      have hF := blk3 hF5 X6
      have hP6 : (w5.alloc (.cells #[.int .i64 pn, .slice pu dl cu, .slice pv m cv] 62)).heap[w5.heap.size]? = some (.cells #[.int .i64 pn, .slice pu dl cu, .slice pv m cv] 62 (0, 0)) := heap_at _ rfl
      have hs5 := H5.out.1.size
      by_cases hm : m = 0
      · subst hm
        (go_upto_region 9 with fail)
        generalize (w5.alloc (.cells #[.int .i64 pn, .slice pu dl cu, .slice pv 0 cv] 62)) = w6 at *
        generalize w2.heap.size = FX at *
        clear c0 c1 c2
        obtain ⟨⟨c0, c1, c2, c3⟩, -, -⟩ := box4 hF
        have hRN := blk_grow hR H6.out.1.2.1 (fun e => by have := Option.some.inj e; omega)
        obtain ⟨⟨r0, r1, r2, r3⟩, ⟨q0, q1, q2, q3⟩, -⟩ := box4 hRN
        have hRW : w.heap.size < W0.heap.size := by have := HB.out; omega
        have XN := hid (cur_fin XW.out H6.out.1 (by omega))
        have HRN := hid hRN
        clear hRN
        go_region
        go_wp2
        refine bodyPost_ret (results_tc rfl (blk3 (box4_set (t := 43) HRN.out _ _ _ _) (Ext.refl _).drew) Tryd.underlying43 rfl (by kernel_rfl) rfl rfl) rfl ?_
        exact ⟨_, _, _, es, f, rfl, ⟨hsm, hcap, hfd⟩, (H6.out.set4 hRW _ _ _ _).ext (Ext.refl _).drew, ((((XN.out.setCell (p := ⟨w.heap.size, 0, none⟩) (Nat.le_refl _) _).setCell (p := ⟨w.heap.size, 1, none⟩) (Nat.le_refl _) _).setCell (p := ⟨w.heap.size, 2, none⟩) (Nat.le_refl _) _).setCell (p := ⟨w.heap.size, 3, none⟩) (Nat.le_refl _) _).drew⟩
      · have tm : decide ((0 : Int) < (m : Int)) = true := by simp; omega
        (go_upto_region 8 with fail)
        generalize hw6 : (w5.alloc (.cells #[.int .i64 pn, .slice pu dl cu, .slice pv m cv] 62)) = w6 at *
        have hs5' : W0.heap.size ≤ w5.heap.size := hs5
        have G6 := hid (grownBy_trans G5.out ((X6.drew).grownBy (some (w.heap.size + 1))))
        have hBs2 := hid (Nat.lt_of_lt_of_le hBs.out (Nat.le_refl _))
        generalize hFX : w2.heap.size = FX at *
        have hFX2 := hid hFX
        generalize w5.heap.size = PX at *
        clear hw6 c0 c1 c2 X6 H5 hF5 hpp hFX G5
        go_cut [] (fun wc => FrBx W0 wc (w.heap.size + 1) FX (.slice p bs.length cap) (.slice (some ⟨b, off, none⟩) ps.length rc) bs ps es)
        case first =>
          have XD : Ext w6 w6.drew := (by repeat' (first | exact Ext.refl _ | assumption | refine Ext.alloc ?_ _ | refine Ext.ext ?_ _ | refine Ext.drew ?_ | refine Ext.drewN ?_ _))
          have H6d := hid (H6.out.ext XD)
          have hFd := hid (blk3 hF XD)
          have hPd := hid (blk3 hP6 XD)
          have m0 := (box3 hP6).1.1
          have m1 := (box3 hPd.out).1.1
          have hC6 := hid H6d.out.1.1
          have h33 : Hid ((3 : Int) = ((3 : Nat) : Int)) := rfl
          have hs2' := hid hs2
          have hs5'' := hid hs5'
          clear XD H6 hF hP6 hR hs2 hs5' hsm hcap hfd hne tl hm tm e2 hx0 hx1 hk
          go_region_with (first
            | (go_at_call 61; (with_reducible refine (spec_pick Hb.out (m : Int) _ hC6.out (by omega) (by omega)).mono ?_); rintro e w7 ⟨x3, rfl, -, -, hc, hg⟩; have H7 := hid (H6d.out.step hc hg); have G7 := hid (grownBy_trans G6.out hg); have hC7 := hid H7.out.1.1; have hF7 := hid (blk_step H6d.out.1 hFd.out hs2'.out hg); have hP7 := hid (blk_step H6d.out.1 hPd.out hs5''.out hg); have m7 := (box3 hP7.out).1.1; clear hc hg m0)
            | (go_at_call 62; (with_reducible refine (spec_letters Hb.out 3 3 h33.out _ hC7.out (by omega) (by omega)).mono ?_); rintro e w8 ⟨s, rfl, hi, hc, hg⟩; have H8 := hid (H7.out.step hc hg); have G8 := hid (grownBy_trans G7.out hg); have hF8 := hid (blk_step H7.out.1 hF7.out hs2'.out hg); have hP8 := hid (blk_step H7.out.1 hP7.out hs5''.out hg); have m8 := (box3 hP8.out).1.1; obtain ⟨⟨k0, k1, k2, k3⟩, ⟨j0, j1, j2, j3⟩, -⟩ := box4 hF8.out; have hds := hid (show s.size ≤ 9 by (have := (itm_iff6 hi); omega)); clear hc hg hi))
          all_goals
            have D8 : Dr w2 w8 (w.heap.size + 1) (w.heap.size + 1) (.slice p bs.length cap) bs 100 := ⟨H8.out.1.1.more (by omega), G8.out, Nat.le_refl _, by have := hFX2.out; have := hBs2.out; omega⟩
            have hf := hFX2.out
            have D9 := hid ((((D8.set (p := ⟨FX, 0, none⟩) (by dsimp only; omega) (.int .i64 pn)).set (p := ⟨FX, 1, none⟩) (by dsimp only; omega) (.int .i64 x3)).set (p := ⟨FX, 2, none⟩) (by dsimp only; omega) (.int .i64 (m : Int))).set (p := ⟨FX, 3, none⟩) (by dsimp only; omega) (.string s))
            have R8 : FrBx W0 ((((w8.setCell ⟨FX, 0, none⟩ (.int .i64 pn)).setCell ⟨FX, 1, none⟩ (.int .i64 x3)).setCell ⟨FX, 2, none⟩ (.int .i64 (m : Int))).setCell ⟨FX, 3, none⟩ (.string s)) (w.heap.size + 1) FX (.slice p bs.length cap) (.slice (some ⟨b, off, none⟩) ps.length rc) bs ps es :=
              ⟨⟨pn, x3, m, s⟩, hds.out, box4_set hF8.out _ _ _ _, HP2.out.step D9.out.1 D9.out.2.1⟩
            clear D8 D9 hf m1 m7 m8 k0 k1 k2 k3 j0 j1 j2 j3
            go_wp2_with fail
            go_meet
            exact R8
        case rest =>
          obtain ⟨f', hfd, hF, H9⟩ := hcut
          have H9 := hid H9
          (go_upto_region 9 with fail)
          obtain ⟨⟨c0, c1, c2, c3⟩, -, -⟩ := box4 hF
          have hRN := blk_grow hR H9.out.1.2.1 (fun e => by have := Option.some.inj e; omega)
          obtain ⟨⟨r0, r1, r2, r3⟩, ⟨q0, q1, q2, q3⟩, -⟩ := box4 hRN
          have hRW : w.heap.size < W0.heap.size := by have := HB.out; omega
          have XN := hid (cur_fin XW.out H9.out.1 (by omega))
          have HRN := hid hRN
          clear hRN
          go_region
          go_wp2
          refine bodyPost_ret (results_tc rfl (blk3 (box4_set (t := 43) HRN.out _ _ _ _) (Ext.refl _).drew) Tryd.underlying43 rfl (by kernel_rfl) rfl rfl) rfl ?_
          exact ⟨_, _, _, es, f', rfl, ⟨hsm, hcap, hfd⟩, (H9.out.set4 hRW _ _ _ _).ext (Ext.refl _).drew, ((((XN.out.setCell (p := ⟨w.heap.size, 0, none⟩) (Nat.le_refl _) _).setCell (p := ⟨w.heap.size, 1, none⟩) (Nat.le_refl _) _).setCell (p := ⟨w.heap.size, 2, none⟩) (Nat.le_refl _) _).setCell (p := ⟨w.heap.size, 3, none⟩) (Nat.le_refl _) _).drew⟩
    · (go_upto_region 9 with fail)
      generalize w2.heap.size = FX at *
      obtain ⟨⟨c0, c1, c2, c3⟩, -, -⟩ := box4 hF
      have hRN := blk_grow hR H4.out.1.2.1 (fun e => by have := Option.some.inj e; omega)
      obtain ⟨⟨r0, r1, r2, r3⟩, ⟨q0, q1, q2, q3⟩, -⟩ := box4 hRN
      have hRW : w.heap.size < W0.heap.size := by have := HB.out; omega
      have XN := hid (cur_fin XW.out H4.out.1 (by omega))
      have HRN := hid hRN
      clear hRN
      go_region
      go_wp2
      refine bodyPost_ret (results_tc rfl (blk3 (box4_set (t := 43) HRN.out _ _ _ _) (Ext.refl _).drew) Tryd.underlying43 rfl (by kernel_rfl) rfl rfl) rfl ?_
      exact ⟨_, _, _, es, f, rfl, ⟨hsm, hcap, hfd⟩, (H4.out.set4 hRW _ _ _ _).ext (Ext.refl _).drew, ((((XN.out.setCell (p := ⟨w.heap.size, 0, none⟩) (Nat.le_refl _) _).setCell (p := ⟨w.heap.size, 1, none⟩) (Nat.le_refl _) _).setCell (p := ⟨w.heap.size, 2, none⟩) (Nat.le_refl _) _).setCell (p := ⟨w.heap.size, 3, none⟩) (Nat.le_refl _) _).drew⟩
end Go.Proofs.YtnngklclehffhaaDoor
