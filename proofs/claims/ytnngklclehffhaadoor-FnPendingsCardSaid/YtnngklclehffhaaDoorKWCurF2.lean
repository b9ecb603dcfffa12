/- Lists of pendings that are drawn. -/
import Derived.Test.YtnngklclehffhaaDoorKWPt6
import Derived.Test.YtnngklclehffhaaDoorKWTfP
import Derived.Test.YtnngklclehffhaaDoorKWCurF
namespace Go.Proofs.YtnngklclehffhaaDoor
open Go.RowKit
set_option maxHeartbeats 2000000
set_option maxRecDepth 100000
def SmP (ps : List Pnd) : Prop := ps.length ≤ 9 ∧ ∀ p ∈ ps, p.d.length ≤ 9 ∧ p.h.length ≤ 9 ∧ ∀ x ∈ p.d, x.size ≤ 9
theorem SmP.big {ps : List Pnd} (h : SmP ps) : ps.length ≤ 1048576 ∧ ∀ i, i < ps.length → (ps.getD i .z).d.length ≤ 1048576 ∧ (ps.getD i .z).h.length ≤ 1048576 ∧ ∀ j, j < (ps.getD i .z).d.length → ((ps.getD i .z).d.getD j ByteArray.empty).size ≤ 1048576 := by
  refine ⟨Nat.le_trans h.1 (by decide), fun i hi => ?_⟩
  obtain ⟨a, b, c⟩ := h.2 _ (getD_mem' (z := .z) hi)
  exact ⟨by omega, by omega, fun j hj => Nat.le_trans (c _ (getD_mem' hj)) (by decide)⟩
theorem SmP.ok {ps : List Pnd} (h : okL ps = true) : SmP ps := by
  obtain ⟨o1, -, o3⟩ := (okL_iff ps).1 h
  refine ⟨by omega, fun p hp => ?_⟩
  have hl := okS_len (o1 p hp)
  exact ⟨hl.1, hl.2.1, fun x hx => Nat.le_trans (itm_size (okS_all (o1 p hp) x hx)) (by decide)⟩
theorem SmP.snoc {ps : List Pnd} {x : Pnd} (h : okL ps = true) (hx : x.d.length ≤ 9 ∧ x.h.length ≤ 9 ∧ ∀ s ∈ x.d, s.size ≤ 9) : SmP (ps ++ [x]) := by
  refine ⟨by rw [List.length_append]; have := okL_len h; show _ + 1 ≤ 9; omega, fun p hp => ?_⟩
  rcases List.mem_append.1 hp with h9 | h9
  · exact (SmP.ok h).2 p h9
  · rw [List.mem_singleton.1 h9]; exact hx
theorem PAp.lt {w : World} {lo : Nat} {v : Value} {ps : List Pnd} {es : List Pe} (h : PAp w lo v ps es) {g : Nat} (e : v.ownBlock = some g) : lo ≤ g ∧ g < w.heap.size := by
  rcases h.2.2 with ⟨rfl, -⟩ | ⟨g', k, N, C, rfl, hk, ho, -⟩
  · cases e
  · cases e
    exact own_row ho _ rfl
theorem PAp.notB {w : World} {lo : Nat} {v : Value} {ps : List Pnd} {es : List Pe} (h : PAp w lo v ps es) {g : Nat} (e : v.ownBlock = some g) : ∀ x ∈ es, NotB g x.u ∧ NotB g x.v := by
  rcases h.2.2 with ⟨rfl, -⟩ | ⟨g', k, N, C, rfl, hk, ho, -, hn⟩
  · cases e
  · cases e
    exact hn
/-- While pendings are drawn. -/
def PnD (w W : World) (lo B : Nat) (v : Value) (bs : List Int) (A : Nat) (u : Value) (ps : List Pnd) (es : List Pe) : Prop := Dr w W lo B v bs A ∧ PAp W w.heap.size u ps es
theorem PnD.step {w W W' : World} {lo B A A' : Nat} {v u : Value} {bs : List Int} {ps : List Pnd} {es : List Pe} (h : PnD w W lo B v bs A u ps es) (hc : Cs W' lo B v bs A') (hg : W.grownBy W' (some B)) : PnD w W' lo B v bs A' u ps es :=
  ⟨h.1.step hc hg, h.2.grown hg (fun b e => by have := Option.some.inj e; have := h.1.2.2.2; omega)⟩
theorem PnD.ext {w W W' : World} {lo B A : Nat} {v u : Value} {bs : List Int} {ps : List Pnd} {es : List Pe} (h : PnD w W lo B v bs A u ps es) (hx : Ext W W') : PnD w W' lo B v bs A u ps es := ⟨h.1.ext hx, h.2.ext hx⟩
theorem spec_pending {bs : List Int} (hb : Bts bs) {lo B A : Nat} {v : Value} (w : World) (h : Cs w lo B v bs A) (hA : A ≤ 500000) :
    Calls Tryd.prog 58 #[.pointer (some ⟨B, 0, none⟩)] w fun e w' => ∃ r ps es, e = .returned r ∧ SmP ps ∧ PAp w' w.heap.size r ps es ∧ Cs w' lo B v bs (A + 70) ∧ w.grownBy w' (some B) := by
  have Hb := hid hb
  have H0 : Hid (PnD w (w.alloc (.cells #[] 62)) lo B v bs A (.slice (some ⟨w.heap.size, 0, none⟩) 0 0) [] []) := ⟨(Dr.start h).ext (by repeat' (first | exact Ext.refl _ | assumption | refine Ext.alloc ?_ _ | refine Ext.ext ?_ _ | refine Ext.drew ?_ | refine Ext.drewN ?_ _)), PAp.lit0 (heap_at _ rfl) (Nat.le_refl _)⟩
  clear h hb
  go_enter Tryd.func58, Tryd.ntmps58
  go_wp2_with fail
  go_at_call 61
  refine (spec_pick Hb.out 8 _ H0.out.1.1 (by omega) (by omega)).mono ?_
  rintro e w1 ⟨z, rfl, hz0, hz1, hc, hg⟩
  have H1 := hid (H0.out.step hc hg)
  clear hc hg H0
  obtain ⟨K, rfl⟩ : ∃ K : Nat, z = K := ⟨z.toNat, by omega⟩
  have hK : K ≤ 7 := by omega
  clear hz0 hz1
  go_wp2_with fail
  go_loopw [4, 3] (fun v4 v3 wr => ∃ (k : Nat) (ps : List Pnd) (es : List Pe) (x3 : Value) (y3 : World), k ≤ 7 ∧ v4 = .int .i64 k ∧ x3 = v3 ∧ y3 = wr ∧ Hid (okL ps = true ∧ PnD w y3 lo B v bs (A + 1 + (7 - k) * 9) x3 ps es)) (fun v4 _ _ => (intOf v4).toNat)
  case atStart => exact ⟨K, [], [], _, _, hK, rfl, rfl, rfl, rfl, H1.out.1.more (by omega), H1.out.2⟩
  case round =>
    obtain ⟨k, ps, es, v3, wr, hk, rfl, rfl, rfl, HP⟩ := hrel
    by_cases hlt : 0 < k
    · have tg : decide ((0 : Int) < (k : Int)) = true := by simp; omega
      go_wp2_with fail
      go_at_call 59
      refine (spec_fragment Hb.out _ HP.out.2.1.1 (by omega)).mono ?_
      rintro e w2 ⟨f, rfl, hfd, hc, hg⟩
      have H2 := hid (And.intro HP.out.1 (HP.out.2.step hc hg))
      clear hc hg HP
      go_wp2_with fail
      have hSm := SmP.big (SmP.ok H2.out.1)
      go_at_call 24
      have key := spec_TakeFragmentA ps es v3 f.n f.p f.q f.d w2 H2.out.2.2.rd hSm.1 hSm.2 (by omega)
      have hok9 : tkB ps f.n f.p f.q f.d = true → okL (tkO ps f.n f.p f.q f.d) = true := take_ok
      generalize tkO ps f.n f.p f.q f.d = O at *
      generalize tkS ps f.n f.p f.q f.d = S' at *
      generalize tkW ps f.n f.p f.q f.d = Wh at *
      generalize tkB ps f.n f.p f.q f.d = bb at *
      refine key.mono ?_
      clear key
      rintro e w3 ⟨r, ds, rfl, hPA, hx⟩
      have Hok := hid hok9
      clear hok9
      cases bb
      · have H3 := hid (And.intro H2.out.1 (H2.out.2.ext hx))
        clear H2 hPA hx hSm
        go_wp2
        go_roundw
        case rel => exact ⟨k - 1, ps, es, _, _, by omega, by go_num, rfl, rfl, H3.out.1, H3.out.2.1.more (by omega), H3.out.2.2⟩
        case measure => simp [intOf]; omega
      · have hs2 := H2.out.2.1.size
        have H3 : Hid (okL O = true ∧ PnD w w3 lo B v bs (A + 1 + (7 - k) * 9 + 9) r O ds) := ⟨Hok.out rfl, H2.out.2.1.ext hx, hPA.low hs2⟩
        clear H2 hPA hx hSm
        go_wp2
        go_roundw
        case rel => exact ⟨k - 1, O, ds, _, _, by omega, by go_num, rfl, rfl, H3.out.1, H3.out.2.1.more (by omega), H3.out.2.2⟩
        case measure => simp [intOf]; omega
    · obtain rfl : k = 0 := by omega
      have H2 : Hid (okL ps = true ∧ PnD w wr lo B v bs (A + 64) v3 ps es) := ⟨HP.out.1, HP.out.2.1.more (by omega), HP.out.2.2⟩
      clear HP
      go_wp2_with fail
      go_at_call 61
      refine (spec_pick Hb.out 24 _ H2.out.2.1.1 (by omega) (by omega)).mono ?_
      rintro e w4 ⟨z, rfl, hz0, hz1, hc, hg⟩
      have H4 := hid (And.intro H2.out.1 (H2.out.2.step hc hg))
      clear hc hg H2
      by_cases z0 : z = 0
      · subst z0
        have XA : Ext w4 (w4.alloc (.cells #[.string ⟨#[97]⟩, .string ⟨#[]⟩] 9)) := (by repeat' (first | exact Ext.refl _ | assumption | refine Ext.alloc ?_ _ | refine Ext.ext ?_ _ | refine Ext.drew ?_ | refine Ext.drewN ?_ _))
        have hL : (w4.alloc (.cells #[.string ⟨#[97]⟩, .string ⟨#[]⟩] 9)).heap[w4.heap.size]? = some (.cells #[.string ⟨#[97]⟩, .string ⟨#[]⟩] 9 (0, 0)) := heap_at _ rfl
        have hv4 := hid (fun g e => (H4.out.2.2.lt (g := g) e))
        have hs4 := H4.out.2.1.size
        go_wp2_with fail
        go_at_call 60
        refine (spec_one Hb.out 2 _ (H4.out.2.ext XA).1.1 (by omega) (by omega)).mono ?_
        rintro e w5 ⟨y1, rfl, hc, hg⟩
        have H5 := hid (And.intro H4.out.1 ((H4.out.2.ext XA).step hc hg))
        have hL5 := blk_step (H4.out.2.ext XA).1 hL hs4 hg
        clear hc hg H4 hL XA
        go_wp2_with fail
        go_at_call 60
        refine (spec_one Hb.out 2 _ H5.out.2.1.1 (by omega) (by omega)).mono ?_
        rintro e w6 ⟨y2, rfl, hc, hg⟩
        have H6 := hid (And.intro H5.out.1 (H5.out.2.step hc hg))
        have hL6 := blk_step H5.out.2.1 hL5 hs4 hg
        have hs6 : w4.heap.size < w6.heap.size := (Array.getElem?_eq_some_iff.1 hL6).1
        clear hc hg H5 hL5
        have XB : Ext w6 ((w6.alloc (.cells #[.bool y1, .bool y2] 4)).alloc (.cells #[.int .i64 50, .slice (some ⟨w4.heap.size, 0, none⟩) 2 2, .slice (some ⟨w6.heap.size, 0, none⟩) 2 2] 62)) := (by repeat' (first | exact Ext.refl _ | assumption | refine Ext.alloc ?_ _ | refine Ext.ext ?_ _ | refine Ext.drew ?_ | (refine Ext.setCell ?_ (by first | exact Ext.size (by assumption) | (simp; done) | (simp; omega)) _)))
        have hb7 : ((w6.alloc (.cells #[.bool y1, .bool y2] 4)).alloc (.cells #[.int .i64 50, .slice (some ⟨w4.heap.size, 0, none⟩) 2 2, .slice (some ⟨w6.heap.size, 0, none⟩) 2 2] 62)).heap[w6.heap.size]? = some (.cells #[.bool y1, .bool y2] 4 (0, 0)) := heap_old (heap_at _ rfl) _
        have hp7 : ((w6.alloc (.cells #[.bool y1, .bool y2] 4)).alloc (.cells #[.int .i64 50, .slice (some ⟨w4.heap.size, 0, none⟩) 2 2, .slice (some ⟨w6.heap.size, 0, none⟩) 2 2] 62)).heap[w6.heap.size + 1]? = some (.cells #[.int .i64 50, .slice (some ⟨w4.heap.size, 0, none⟩) 2 2, .slice (some ⟨w6.heap.size, 0, none⟩) 2 2] 62 (0, 0)) := heap_at _ (by simp)
        obtain ⟨v7, w7, hrun, hPA, hg7⟩ := (H6.out.2.2.ext XB).append_run (by have := XB.size; have := H6.out.2.1.size; omega) (by rw [H6.out.2.2.len]; have := okL_len H6.out.1; omega) ⟨50, [⟨#[97]⟩, ⟨#[]⟩], [y1, y2], .slice (some ⟨w4.heap.size, 0, none⟩) 2 2, .slice (some ⟨w6.heap.size, 0, none⟩) 2 2⟩ (w6.heap.size + 1) hp7 (by simp [Pe.cs, Value.oneCell'])
          (RdB.own (own_full_at (cs := [.string ⟨#[97]⟩, .string ⟨#[]⟩]) (blk3 hL6 XB) hs4 rfl (by decide))) (RdB.own (own_full_at (cs := [.bool y1, .bool y2]) hb7 (by omega) rfl (by decide)))
          (fun g e => by have := hv4.out g e; exact ⟨NotB.of (by omega), NotB.of (by omega)⟩) 25
        have KS := hid (SmP.snoc (x := ⟨50, [⟨#[97]⟩, ⟨#[]⟩], [y1, y2]⟩) H6.out.1 ⟨by show 2 ≤ 9; decide, by show 2 ≤ 9; decide, fun s hs => by simp at hs; rcases hs with rfl | rfl <;> decide⟩)
        have K := hid (And.intro hPA ((H6.out.2.1.ext XB).grow hg7 (fun j e => (hv4.out j e).1)))
        clear H6 hPA hg7 hb7 hp7 hL6 XB
        go_wp2_with (at_builtin; refine Lib.wpList_append_run _ rfl _ _ _ _ rfl _ _ rfl rfl _ _ hrun ?_)
        clear hrun
        go_wp2
        go_ret
        exact ⟨_, _, _, rfl, KS.out, K.out.1, (K.out.2.more (by omega)).fin⟩
      by_cases z1 : z = 1
      · subst z1
        by_cases hne : ps.length = 0
        · obtain rfl : ps = [] := List.eq_nil_of_length_eq_zero hne
          obtain ⟨p, cap, rfl, -⟩ := H4.out.2.2.form
          clear hne
          go_wp2
          go_ret
          exact ⟨_, _, es, rfl, SmP.ok H4.out.1, H4.out.2.2, (H4.out.2.1.more (by omega)).fin⟩
        · have tl : decide ((0 : Int) < (ps.length : Int)) = true := by simp; omega
          have n1 : (0 : Int) < (ps.length : Int) := by omega
          have hx0 : es.getD 0 .z ∈ es := getD_mem' (by rw [H4.out.2.2.len]; omega)
          have hep := pes_p es 0
          rw [H4.out.2.2.1] at hep
          obtain ⟨p, cap, rfl, hpp⟩ := H4.out.2.2.rd.form
          obtain ⟨b, off, rfl⟩ := hpp.resolve_left hne
          obtain ⟨⟨c0, c1, c2⟩, -⟩ := H4.out.2.2.rd.at 0 (by omega)
          simp only [Nat.zero_mul, Nat.add_zero] at c0 c1 c2
          rw [hep] at c0
          have hsm9 := (SmP.ok H4.out.1).2 _ (getD_mem' (z := .z) (show 0 < ps.length by omega))
          rw [hep] at hsm9
          generalize es.getD 0 .z = x at *
          obtain ⟨xn, xd, xh, xu, xv⟩ := x
          obtain ⟨hru, hrv⟩ := H4.out.2.2.2.1 _ hx0
          dsimp only [Pe.p] at c0 c1 c2 hru hrv hsm9
          obtain ⟨pu, cu, eu, -⟩ := rd_block hru.1
          obtain ⟨pv, cv, ev, -⟩ := rd_block hrv.1
          subst eu
          subst ev
          have XB : Ext w4 (w4.alloc (.cells #[.int .i64 xn, .slice pu xd.length cu, .slice pv xh.length cv] 62)) := (by repeat' (first | exact Ext.refl _ | assumption | refine Ext.alloc ?_ _ | refine Ext.ext ?_ _ | refine Ext.drew ?_ | refine Ext.drewN ?_ _))
          have hp7 : (w4.alloc (.cells #[.int .i64 xn, .slice pu xd.length cu, .slice pv xh.length cv] 62)).heap[w4.heap.size]? = some (.cells #[.int .i64 xn, .slice pu xd.length cu, .slice pv xh.length cv] 62 (0, 0)) := heap_at _ rfl
          obtain ⟨v7, w7, hrun, hPA, hg7⟩ := (H4.out.2.2.ext XB).append_run (by have := XB.size; have := H4.out.2.1.size; omega) (by rw [H4.out.2.2.len]; have := okL_len H4.out.1; omega) ⟨xn, xd, xh, .slice pu xd.length cu, .slice pv xh.length cv⟩ w4.heap.size hp7 (by simp [Pe.cs, Value.oneCell'])
            (hru.ext XB) (hrv.ext XB) (fun g e => H4.out.2.2.notB e _ hx0) 25
          have KS := hid (SmP.snoc (x := ⟨xn, xd, xh⟩) H4.out.1 hsm9)
          have K := hid (And.intro hPA ((H4.out.2.1.ext XB).grow hg7 (fun j e => (H4.out.2.2.lt e).1)))
          clear H4 hPA hg7 hp7 XB hru hrv hsm9 hep hx0 hne
          go_wp2_with (at_builtin; refine Lib.wpList_append_run _ rfl _ _ _ _ rfl _ _ rfl rfl _ _ hrun ?_)
          clear hrun
          go_wp2
          go_ret
          exact ⟨_, _, _, rfl, KS.out, K.out.1, (K.out.2.more (by omega)).fin⟩
      have t0 : (z == 0) = false := by rw [beq_eq_false_iff_ne]; omega
      have t1 : (z == 1) = false := by rw [beq_eq_false_iff_ne]; omega
      go_wp2
      go_ret
      exact ⟨_, ps, es, rfl, SmP.ok H4.out.1, H4.out.2.2, (H4.out.2.1.more (by omega)).fin⟩
end Go.Proofs.YtnngklclehffhaaDoor
