/- Trees with costs that are drawn, whatever tree. -/
import Derived.Test.YtppdbnopgcjgjaaWCurX
import Derived.Laws.ResultCell
namespace Go.Proofs.Ytppdbnopgcjgjaa
open Go.RowKit
set_option maxHeartbeats 2000000
set_option maxRecDepth 100000
def TCT (w W0 W : World) (v : Value) (bs : List Int) (A T : Nat) (t : Value) (ps : List Int) : Prop :=
  TCP w W0 W v bs A ∧ W0.heap.size ≤ T ∧ W.heap[T]? = some (.cells #[t] 26 (0, 0)) ∧ ps.length ≤ 30 ∧ RdB W W0.heap.size t ps.length (vInts ps)
theorem TCT.step {w W0 W W' : World} {v : Value} {bs : List Int} {A A' T : Nat} {t : Value} {ps : List Int} (h : TCT w W0 W v bs A T t ps) (hc : Cs W' w.heap.size (w.heap.size + 2) v bs A') (hg : W.grownBy W' (some (w.heap.size + 2))) : TCT w W0 W' v bs A' T t ps := by
  have := h.1.low
  exact ⟨h.1.step hc hg, h.2.1, blk_grow h.2.2.1 hg (fun e => by have := Option.some.inj e; have := h.2.1; omega), h.2.2.2.1, h.2.2.2.2.step (by omega) hg⟩
theorem TCT.ext {w W0 W W' : World} {v : Value} {bs : List Int} {A T : Nat} {t : Value} {ps : List Int} (h : TCT w W0 W v bs A T t ps) (hx : Ext W W') : TCT w W0 W' v bs A T t ps := h.step (h.1.1.1.1.ext hx) (hx.grownBy _)
/-- Another tree laid into the variable. -/
theorem TCT.put {w W0 W : World} {v : Value} {bs : List Int} {A T : Nat} {t u : Value} {ps qs : List Int} (h : TCT w W0 W v bs A T t ps) (hq : qs.length ≤ 30) (hu : RdB W W0.heap.size u qs.length (vInts qs)) (hne : ∀ b o m c, u = .slice (some ⟨b, o, none⟩) m c → 0 < m → b ≠ T) : TCT w W0 (W.setCell ⟨T, 0, none⟩ u) v bs A T u qs := by
  obtain ⟨h1, h2, h3, h4, h5⟩ := h
  have hlow := h1.low
  refine ⟨⟨⟨h1.1.1.set h2 u, h1.1.2⟩, blk_far h1.2.1 (by omega), blk_far h1.2.2 (by omega)⟩, h2, box1_set h3 u, hq, ?_⟩
  exact hu.away (grownBy_set W ⟨T, 0, none⟩ u) (fun b o m c e hm e2 => hne b o m c e hm (Option.some.inj e2).symm)
theorem TCT.fin {w W0 W : World} {v : Value} {bs : List Int} {A T : Nat} {t l d : Value} {ps ls ds : List Int} (h : TCT w W0 W v bs A T t ps) (hl : ls.length ≤ 30 ∧ ds.length ≤ 30) (r1 : RdB W W0.heap.size l ls.length (vInts ls)) (r2 : RdB W W0.heap.size d ds.length (vInts ds)) (t' l' d' : Value) :
    (((W.setCell ⟨w.heap.size, 0, none⟩ t').setCell ⟨w.heap.size + 1, 0, none⟩ l').setCell ⟨w.heap.size + 1, 1, none⟩ d').heap[w.heap.size]? = some (.cells #[t'] 26 (0, 0)) ∧
    (((W.setCell ⟨w.heap.size, 0, none⟩ t').setCell ⟨w.heap.size + 1, 0, none⟩ l').setCell ⟨w.heap.size + 1, 1, none⟩ d').heap[w.heap.size + 1]? = some (.cells #[l', d'] 28 (0, 0)) ∧
    TCo (((W.setCell ⟨w.heap.size, 0, none⟩ t').setCell ⟨w.heap.size + 1, 0, none⟩ l').setCell ⟨w.heap.size + 1, 1, none⟩ d') t l d ps ls ds ∧ Ext w (((W.setCell ⟨w.heap.size, 0, none⟩ t').setCell ⟨w.heap.size + 1, 0, none⟩ l').setCell ⟨w.heap.size + 1, 1, none⟩ d') := by
  have hlow := h.1.low
  have hw : Ext w W := h.1.1.2.1.grown h.1.1.1.2.1 (fun k e => by have := Option.some.inj e; omega)
  have far : ∀ {u : Value} {n : Nat} {cs : List Value} {W1 : World}, RdB W1 W0.heap.size u n cs → ∀ (j k : Nat) (x : Value), j < W0.heap.size → RdB (W1.setCell ⟨j, k, none⟩ x) W0.heap.size u n cs := fun hr j k x hj =>
    hr.away (grownBy_set _ ⟨j, k, none⟩ x) (fun b o m c e hm e2 => by have := hr.2 b o m c e hm; have e3 : j = b := Option.some.inj e2; omega)
  have all : ∀ {u : Value} {n : Nat} {cs : List Value}, RdB W W0.heap.size u n cs → Rd (((W.setCell ⟨w.heap.size, 0, none⟩ t').setCell ⟨w.heap.size + 1, 0, none⟩ l').setCell ⟨w.heap.size + 1, 1, none⟩ d') 1 u n cs := fun hr =>
    (far (far (far hr _ 0 t' (by omega)) _ 0 l' (by omega)) _ 1 d' (by omega)).1
  refine ⟨blk_far (blk_far (box1_set h.1.2.1 _) (by omega)) (by omega), box2_set (blk_far h.1.2.2 (by omega)) _ _, ⟨⟨h.2.2.2.1, hl.1, hl.2⟩, all h.2.2.2.2, all r1, all r2⟩, ?_⟩
  exact ((hw.setCell (Nat.le_refl _) _).setCell (by dsimp only; omega) _).setCell (by dsimp only; omega) _
theorem spec_DrawIsValidCosts {bs : List Int} (hb : Bts bs) {v : Value} (w : World) (h : Rd w 1 v bs.length (vBytes bs)) :
    Calls Try.prog 52 #[v] w fun e w' => ∃ (t l d : Value) (ps ls ds : List Int), e = .returned (.tuple #[.agg #[t], .agg #[l, d]]) ∧ TCo w' t l d ps ls ds ∧ Ext w w' := by
  have H0 := hid (tc_start h)
  have Hb := hid hb
  obtain ⟨-, p, cap, rfl, -⟩ := h
  clear hb
  go_enter Try.func52, Try.ntmps52
  go_wp2_with fail
  go_at_call 38
  change Calls _ _ _ (W3 w (.slice p bs.length cap)) _
  generalize W3 w (.slice p bs.length cap) = W0 at *
  refine (spec_tree Hb.out _ H0.out.1.1.1 (by omega)).mono ?_
  rintro e w1 ⟨r, ps, rfl, hp2, hp8, ho, hc, hg⟩
  have X1 : Ext w1 (w1.alloc (.cells #[r] 26)) := (by repeat' (first | exact Ext.refl _ | assumption | refine Ext.alloc ?_ _ | refine Ext.ext ?_ _ | refine Ext.drew ?_ | refine Ext.drewN ?_ _))
  have H1 : Hid (TCT w W0 (w1.alloc (.cells #[r] 26)) (.slice p bs.length cap) bs 7 w1.heap.size r ps) := ⟨(H0.out.step hc hg).ext X1, (H0.out.step hc hg).low.2, heap_at _ rfl, by omega, (RdB.own ho).ext X1⟩
  obtain ⟨tp, tc, rfl⟩ := own_shape ho
  clear hc hg H0 ho
  go_upto_region 3 with fail
  generalize (w1.alloc (.cells #[.slice tp ps.length tc] 26)) = V at *
  generalize w1.heap.size = T at *
  clear X1
  go_wp2_with fail
  go_at_call 83
  refine (spec_one Hb.out 12 _ H1.out.1.1.1.1 (by omega) (by omega)).mono ?_
  rintro e w2 ⟨y, rfl, hc, hg⟩
  have H2 := hid (H1.out.step hc hg)
  clear hc hg H1
  cases y
  · go_upto_region 5 with fail
    have X0 : Ext w2 w2.drew := (by repeat' (first | exact Ext.refl _ | assumption | refine Ext.alloc ?_ _ | refine Ext.ext ?_ _ | refine Ext.drew ?_ | refine Ext.drewN ?_ _))
    have HD := hid (H2.out.ext X0)
    obtain ⟨b0, f0, hT0⟩ := box1 H2.out.2.2.1
    have d0 := X0.cell b0
    have hpc : Hid (Calls Try.prog 39 #[.pointer (some ⟨w.heap.size + 1 + 1, 0, none⟩), .agg #[.slice tp ps.length tc]] w2.drew fun e w' => ∃ (l d : Value) (ls ds : List Int), e = .returned (.agg #[l, d]) ∧ (ls.length ≤ 30 ∧ ds.length ≤ 30) ∧ RdB w' w2.drew.heap.size l ls.length (vInts ls) ∧ RdB w' w2.drew.heap.size d ds.length (vInts ds) ∧ TCT w W0 w' (.slice p bs.length cap) bs 1000 T (.slice tp ps.length tc) ps) := (spec_pathCosts Hb.out (lo := w.heap.size) (B := w.heap.size + 2) tp ps.length tc w2.drew HD.out.1.1.1.1 (by omega) (by omega)).mono fun e w' ⟨l, d, ls, ds, a1, a2, a3, a4, a5, a6⟩ => ⟨l, d, ls, ds, a1, a2, a3, a4, HD.out.step (a5.more (by omega)) a6⟩
    have hvs : W0.heap.size ≤ w2.drew.heap.size := HD.out.1.low.2
    go_region_held3 (fun w' => w'.cell? ⟨T, 0, none⟩ = some (.slice tp ps.length tc)) (first | exact b0 | exact d0 | exact c3 | exact c4 | exact c5)
      (first
        | (go_at_call 39; (with_reducible refine hpc.out.mono ?_); rintro e w5 ⟨l, d, ls, ds, rfl, hl, r1, r2, h5⟩; obtain ⟨lp, lc, rfl⟩ := rdb_form r1; obtain ⟨dp, dc, rfl⟩ := rdb_form r2; have H5 := hid (And.intro h5 (And.intro hl (And.intro (r1.low hvs) (r2.low hvs)))); clear h5 hl r1 r2; obtain ⟨c3, c3f, hT5⟩ := box1 H5.out.1.2.2.1; obtain ⟨r0, q0, hR0⟩ := box1 H5.out.1.1.2.1; obtain ⟨⟨s0, s1⟩, ⟨u0, u1⟩, hS0⟩ := box2 H5.out.1.1.2.2; have hTT := H5.out.1.2.1; have hlw := H5.out.1.1.low; have c4 := (grownBy_set w5 ⟨w.heap.size, 0, none⟩ (.slice tp ps.length tc)).cell c3 (fun e => (by have := Option.some.inj e; dsimp only at this; omega)); have c4b := (grownBy_set (w5.setCell ⟨w.heap.size, 0, none⟩ (.slice tp ps.length tc)) ⟨w.heap.size + 1, 0, none⟩ (.slice lp ls.length lc)).cell c4 (fun e => (by have := Option.some.inj e; dsimp only at this; omega)); have c5 := (grownBy_set ((w5.setCell ⟨w.heap.size, 0, none⟩ (.slice tp ps.length tc)).setCell ⟨w.heap.size + 1, 0, none⟩ (.slice lp ls.length lc)) ⟨w.heap.size + 1, 1, none⟩ (.slice dp ds.length dc)).cell c4b (fun e => (by have := Option.some.inj e; dsimp only at this; omega)))
        | fail)
    clear b0 d0 f0 c3 c3f c4 c4b c5 r0 q0 s0 s1 u0 u1 hpc HD H2
    have K := hid (H5.out.1.fin H5.out.2.1 H5.out.2.2.1 H5.out.2.2.2 (.slice tp ps.length tc) (.slice lp ls.length lc) (.slice dp ds.length dc))
    go_wp2
    refine bodyPost_ret (results_cc _ _ w.heap.size 26 _ _ (w.heap.size + 1) 28 _ _ rfl K.out.1 Try.underlying26 rfl (by kernel_rfl) rfl K.out.2.1 Try.underlying28 rfl (by kernel_rfl) rfl) rfl ?_
    exact ⟨_, _, _, ps, ls, ds, rfl, K.out.2.2⟩
  · go_wp2_with fail
    go_at_call 84
    refine (spec_anyTree Hb.out _ H2.out.1.1.1.1 (by omega)).mono ?_
    rintro e w3 ⟨u, qs, rfl, hq, hu, hc, hg⟩
    have hT2 := (Array.getElem?_eq_some_iff.1 H2.out.2.2.1).1
    have H3 := hid ((H2.out.step hc hg).put (by omega) ((RdB.own hu).low H2.out.1.low.2) (fun b o m c e hm e2 => by have := (RdB.own hu).2 b o m c e hm; omega))
    obtain ⟨b3, f3, hT3⟩ := box1 (H2.out.step hc hg).2.2.1
    obtain ⟨up, uc, rfl⟩ := own_shape hu
    clear hu hc hg H2
    go_upto_region 5 with fail
    generalize w3.setCell ⟨T, 0, none⟩ (.slice up qs.length uc) = V2 at H3 ⊢
    clear b3 f3 hp2 hp8
    have X0 : Ext V2 V2.drew := (by repeat' (first | exact Ext.refl _ | assumption | refine Ext.alloc ?_ _ | refine Ext.ext ?_ _ | refine Ext.drew ?_ | refine Ext.drewN ?_ _))
    have HD := hid (H3.out.ext X0)
    obtain ⟨b0, f0, hT0⟩ := box1 H3.out.2.2.1
    have d0 := X0.cell b0
    have hpc : Hid (Calls Try.prog 39 #[.pointer (some ⟨w.heap.size + 1 + 1, 0, none⟩), .agg #[.slice up qs.length uc]] V2.drew fun e w' => ∃ (l d : Value) (ls ds : List Int), e = .returned (.agg #[l, d]) ∧ (ls.length ≤ 30 ∧ ds.length ≤ 30) ∧ RdB w' V2.drew.heap.size l ls.length (vInts ls) ∧ RdB w' V2.drew.heap.size d ds.length (vInts ds) ∧ TCT w W0 w' (.slice p bs.length cap) bs 1000 T (.slice up qs.length uc) qs) := (spec_pathCosts Hb.out (lo := w.heap.size) (B := w.heap.size + 2) up qs.length uc V2.drew HD.out.1.1.1.1 (by omega) (by omega)).mono fun e w' ⟨l, d, ls, ds, a1, a2, a3, a4, a5, a6⟩ => ⟨l, d, ls, ds, a1, a2, a3, a4, HD.out.step (a5.more (by omega)) a6⟩
    have hvs : W0.heap.size ≤ V2.drew.heap.size := HD.out.1.low.2
    go_region_held3 (fun w' => w'.cell? ⟨T, 0, none⟩ = some (.slice up qs.length uc)) (first | exact b0 | exact d0 | exact c3 | exact c4 | exact c5)
      (first
        | (go_at_call 39; (with_reducible refine hpc.out.mono ?_); rintro e w5 ⟨l, d, ls, ds, rfl, hl, r1, r2, h5⟩; obtain ⟨lp, lc, rfl⟩ := rdb_form r1; obtain ⟨dp, dc, rfl⟩ := rdb_form r2; have H5 := hid (And.intro h5 (And.intro hl (And.intro (r1.low hvs) (r2.low hvs)))); clear h5 hl r1 r2; obtain ⟨c3, c3f, hT5⟩ := box1 H5.out.1.2.2.1; obtain ⟨r0, q0, hR0⟩ := box1 H5.out.1.1.2.1; obtain ⟨⟨s0, s1⟩, ⟨u0, u1⟩, hS0⟩ := box2 H5.out.1.1.2.2; have hTT := H5.out.1.2.1; have hlw := H5.out.1.1.low; have c4 := (grownBy_set w5 ⟨w.heap.size, 0, none⟩ (.slice up qs.length uc)).cell c3 (fun e => (by have := Option.some.inj e; dsimp only at this; omega)); have c4b := (grownBy_set (w5.setCell ⟨w.heap.size, 0, none⟩ (.slice up qs.length uc)) ⟨w.heap.size + 1, 0, none⟩ (.slice lp ls.length lc)).cell c4 (fun e => (by have := Option.some.inj e; dsimp only at this; omega)); have c5 := (grownBy_set ((w5.setCell ⟨w.heap.size, 0, none⟩ (.slice up qs.length uc)).setCell ⟨w.heap.size + 1, 0, none⟩ (.slice lp ls.length lc)) ⟨w.heap.size + 1, 1, none⟩ (.slice dp ds.length dc)).cell c4b (fun e => (by have := Option.some.inj e; dsimp only at this; omega)))
        | fail)
    clear b0 d0 f0 c3 c3f c4 c4b c5 r0 q0 s0 s1 u0 u1 hpc HD H3
    have K := hid (H5.out.1.fin H5.out.2.1 H5.out.2.2.1 H5.out.2.2.2 (.slice up qs.length uc) (.slice lp ls.length lc) (.slice dp ds.length dc))
    go_wp2
    refine bodyPost_ret (results_cc _ _ w.heap.size 26 _ _ (w.heap.size + 1) 28 _ _ rfl K.out.1 Try.underlying26 rfl (by kernel_rfl) rfl K.out.2.1 Try.underlying28 rfl (by kernel_rfl) rfl) rfl ?_
    exact ⟨_, _, _, qs, ls, ds, rfl, K.out.2.2⟩
theorem rd_not {w : World} {u : Value} {xs : List Int} (h : Rd w 1 u xs.length (vInts xs)) {T t : Nat} {cs : Array Value} (hT : w.heap[T]? = some (.cells cs t (0, 0))) (hc : ∀ (k : Nat) (x : Int), cs[k]? ≠ some (.int .i64 x)) : ∀ b o m c, u = .slice (some ⟨b, o, none⟩) m c → 0 < m → b ≠ T := by
  intro b o m c e hm e2
  obtain ⟨-, p, cap, e3, h4⟩ := h
  rw [e] at e3
  cases e3
  obtain ⟨b', off, e5, h6⟩ := h4.resolve_left (by omega)
  cases e5
  subst e2
  have h0 := elem1 (Value.int .i64) 0 xs h6 0 hm
  rw [cell_of_row w b _ cs t (0, 0) hT] at h0
  exact hc _ _ h0
theorem nil1_no (k : Nat) (x : Int) : (#[Value.slice none 0 0] : Array Value)[k]? ≠ some (.int .i64 x) := by
  match k with
  | 0 => simp
  | k + 1 => simp
theorem nil2_no (k : Nat) (x : Int) : (#[Value.slice none 0 0, Value.slice none 0 0] : Array Value)[k]? ≠ some (.int .i64 x) := by
  match k with
  | 0 => simp
  | 1 => simp
  | k + 2 => simp
/-- What another drew, laid into results of one's own. -/
theorem TCo.laid {w W : World} {t l d : Value} {ps ls ds : List Int} (h : TCo W t l d ps ls ds) (hx : Ext ((w.alloc (.cells #[.slice none 0 0] 26)).alloc (.cells #[.slice none 0 0, .slice none 0 0] 28)) W) (t' l' d' : Value) :
    (((W.setCell ⟨w.heap.size, 0, none⟩ t').setCell ⟨w.heap.size + 1, 0, none⟩ l').setCell ⟨w.heap.size + 1, 1, none⟩ d').heap[w.heap.size]? = some (.cells #[t'] 26 (0, 0)) ∧
    (((W.setCell ⟨w.heap.size, 0, none⟩ t').setCell ⟨w.heap.size + 1, 0, none⟩ l').setCell ⟨w.heap.size + 1, 1, none⟩ d').heap[w.heap.size + 1]? = some (.cells #[l', d'] 28 (0, 0)) ∧
    TCo (((W.setCell ⟨w.heap.size, 0, none⟩ t').setCell ⟨w.heap.size + 1, 0, none⟩ l').setCell ⟨w.heap.size + 1, 1, none⟩ d') t l d ps ls ds ∧ Ext w (((W.setCell ⟨w.heap.size, 0, none⟩ t').setCell ⟨w.heap.size + 1, 0, none⟩ l').setCell ⟨w.heap.size + 1, 1, none⟩ d') ∧
    (W.heap[w.heap.size]? = some (.cells #[.slice none 0 0] 26 (0, 0)) ∧ W.heap[w.heap.size + 1]? = some (.cells #[.slice none 0 0, .slice none 0 0] 28 (0, 0))) := by
  have k1 : W.heap[w.heap.size]? = some (.cells #[.slice none 0 0] 26 (0, 0)) := blk_ext (heap_old (heap_at _ rfl) _) hx
  have k2 : W.heap[w.heap.size + 1]? = some (.cells #[.slice none 0 0, .slice none 0 0] 28 (0, 0)) := blk_ext (heap_at _ (by simp)) hx
  have hw : Ext w W := (show Ext w _ from (by repeat' (first | exact Ext.refl _ | assumption | refine Ext.alloc ?_ _ | refine Ext.ext ?_ _ | refine Ext.drew ?_ | refine Ext.drewN ?_ _))).trans hx
  have far : ∀ {u : Value} {xs : List Int}, Rd W 1 u xs.length (vInts xs) → Rd (((W.setCell ⟨w.heap.size, 0, none⟩ t').setCell ⟨w.heap.size + 1, 0, none⟩ l').setCell ⟨w.heap.size + 1, 1, none⟩ d') 1 u xs.length (vInts xs) := fun hr => by
    have n1 := rd_not hr k1 nil1_no
    have n2 := rd_not hr k2 nil2_no
    refine rd_turn (rd_turn (rd_turn hr (grownBy_set _ ⟨w.heap.size, 0, none⟩ t') ?_) (grownBy_set _ ⟨w.heap.size + 1, 0, none⟩ l') ?_) (grownBy_set _ ⟨w.heap.size + 1, 1, none⟩ d') ?_
    · exact fun b o m c e hm e2 => n1 b o m c e hm (Option.some.inj e2).symm
    · exact fun b o m c e hm e2 => n2 b o m c e hm (Option.some.inj e2).symm
    · exact fun b o m c e hm e2 => n2 b o m c e hm (Option.some.inj e2).symm
  exact ⟨blk_far (blk_far (box1_set k1 _) (by omega)) (by omega), box2_set (blk_far k2 (by omega)) _ _, ⟨h.1, far h.2.1, far h.2.2.1, far h.2.2.2⟩, ((hw.setCell (Nat.le_refl _) _).setCell (by dsimp only; omega) _).setCell (by dsimp only; omega) _, k1, k2⟩
theorem rd_form {w : World} {k n : Nat} {v : Value} {cs : List Value} (h : Rd w k v n cs) : ∃ p c, v = .slice p n c := by
  obtain ⟨-, p, c, e, -⟩ := h
  exact ⟨p, c, e⟩
theorem spec_DrawSlowestReceiver {bs : List Int} (hb : Bts bs) {v : Value} (w : World) (h : Rd w 1 v bs.length (vBytes bs)) :
    Calls Try.prog 14 #[v] w fun e w' => ∃ (t l d : Value) (ps ls ds : List Int), e = .returned (.tuple #[.agg #[t], .agg #[l, d]]) ∧ TCo w' t l d ps ls ds ∧ Ext w w' := by
  have Hc := hid (fun w h => spec_DrawIsValidCosts hb (v := v) w h)
  have Hr := hid h
  obtain ⟨-, p, cap, rfl, -⟩ := h
  clear hb
  go_enter Try.func14, Try.ntmps14
  go_wp2_with fail
  go_at_call 52
  have XA : Ext w ((w.alloc (.cells #[.slice none 0 0] 26)).alloc (.cells #[.slice none 0 0, .slice none 0 0] 28)) := (by repeat' (first | exact Ext.refl _ | assumption | refine Ext.alloc ?_ _ | refine Ext.ext ?_ _ | refine Ext.drew ?_ | refine Ext.drewN ?_ _))
  refine (Hc.out _ (Hr.out.ext XA)).mono ?_
  rintro e w1 ⟨t, l, d, ps, ls, ds, rfl, ho, hx⟩
  obtain ⟨tp, tc, rfl⟩ := rd_form ho.2.1
  obtain ⟨lp, lc, rfl⟩ := rd_form ho.2.2.1
  obtain ⟨dp, dc, rfl⟩ := rd_form ho.2.2.2
  have K := hid (ho.laid hx (.slice tp ps.length tc) (.slice lp ls.length lc) (.slice dp ds.length dc))
  obtain ⟨r0, q0, hR0⟩ := box1 K.out.2.2.2.2.1
  obtain ⟨⟨s0, s1⟩, ⟨u0, u1⟩, hS0⟩ := box2 K.out.2.2.2.2.2
  clear ho hx XA Hc Hr
  go_wp2
  refine bodyPost_ret (results_cc _ _ w.heap.size 26 _ _ (w.heap.size + 1) 28 _ _ rfl K.out.1 Try.underlying26 rfl (by kernel_rfl) rfl K.out.2.1 Try.underlying28 rfl (by kernel_rfl) rfl) rfl ?_
  exact ⟨_, _, _, ps, ls, ds, rfl, K.out.2.2.1, K.out.2.2.2.1⟩
theorem spec_DrawWorstReceiver {bs : List Int} (hb : Bts bs) {v : Value} (w : World) (h : Rd w 1 v bs.length (vBytes bs)) :
    Calls Try.prog 26 #[v] w fun e w' => ∃ (t l d : Value) (ps ls ds : List Int), e = .returned (.tuple #[.agg #[t], .agg #[l, d]]) ∧ TCo w' t l d ps ls ds ∧ Ext w w' := by
  have Hc := hid (fun w h => spec_DrawIsValidCosts hb (v := v) w h)
  have Hr := hid h
  obtain ⟨-, p, cap, rfl, -⟩ := h
  clear hb
  go_enter Try.func26, Try.ntmps26
  go_wp2_with fail
  go_at_call 52
  have XA : Ext w ((w.alloc (.cells #[.slice none 0 0] 26)).alloc (.cells #[.slice none 0 0, .slice none 0 0] 28)) := (by repeat' (first | exact Ext.refl _ | assumption | refine Ext.alloc ?_ _ | refine Ext.ext ?_ _ | refine Ext.drew ?_ | refine Ext.drewN ?_ _))
  refine (Hc.out _ (Hr.out.ext XA)).mono ?_
  rintro e w1 ⟨t, l, d, ps, ls, ds, rfl, ho, hx⟩
  obtain ⟨tp, tc, rfl⟩ := rd_form ho.2.1
  obtain ⟨lp, lc, rfl⟩ := rd_form ho.2.2.1
  obtain ⟨dp, dc, rfl⟩ := rd_form ho.2.2.2
  have K := hid (ho.laid hx (.slice tp ps.length tc) (.slice lp ls.length lc) (.slice dp ds.length dc))
  obtain ⟨r0, q0, hR0⟩ := box1 K.out.2.2.2.2.1
  obtain ⟨⟨s0, s1⟩, ⟨u0, u1⟩, hS0⟩ := box2 K.out.2.2.2.2.2
  clear ho hx XA Hc Hr
  go_wp2
  refine bodyPost_ret (results_cc _ _ w.heap.size 26 _ _ (w.heap.size + 1) 28 _ _ rfl K.out.1 Try.underlying26 rfl (by kernel_rfl) rfl K.out.2.1 Try.underlying28 rfl (by kernel_rfl) rfl) rfl ?_
  exact ⟨_, _, _, ps, ls, ds, rfl, K.out.2.2.1, K.out.2.2.2.1⟩
theorem spec_DrawShareTo {bs : List Int} (hb : Bts bs) {v : Value} (w : World) (h : Rd w 1 v bs.length (vBytes bs)) :
    Calls Try.prog 20 #[v] w fun e w' => ∃ (t l d : Value) (ps ls ds : List Int) (a : Int), e = .returned (.tuple #[.agg #[t], .agg #[l, d], .int .i64 a]) ∧ TCo w' t l d ps ls ds ∧ Ext w w' := by
  have Hc := hid (fun w h => spec_DrawDelayTo hb (v := v) w h)
  have Hr := hid h
  obtain ⟨-, p, cap, rfl, -⟩ := h
  clear hb
  go_enter Try.func20, Try.ntmps20
  go_wp2_with fail
  go_at_call 18
  have XA : Ext w ((w.alloc (.cells #[.slice none 0 0] 26)).alloc (.cells #[.slice none 0 0, .slice none 0 0] 28)) := (by repeat' (first | exact Ext.refl _ | assumption | refine Ext.alloc ?_ _ | refine Ext.ext ?_ _ | refine Ext.drew ?_ | refine Ext.drewN ?_ _))
  refine (Hc.out _ (Hr.out.ext XA)).mono ?_
  rintro e w1 ⟨t, l, d, ps, ls, ds, a, rfl, ho, hx⟩
  obtain ⟨tp, tc, rfl⟩ := rd_form ho.2.1
  obtain ⟨lp, lc, rfl⟩ := rd_form ho.2.2.1
  obtain ⟨dp, dc, rfl⟩ := rd_form ho.2.2.2
  have K := hid (ho.laid hx (.slice tp ps.length tc) (.slice lp ls.length lc) (.slice dp ds.length dc))
  obtain ⟨r0, q0, hR0⟩ := box1 K.out.2.2.2.2.1
  obtain ⟨⟨s0, s1⟩, ⟨u0, u1⟩, hS0⟩ := box2 K.out.2.2.2.2.2
  clear ho hx XA Hc Hr
  go_wp2
  refine bodyPost_ret (results_cct _ _ w.heap.size 26 _ _ (w.heap.size + 1) 28 _ _ _ rfl K.out.1 Try.underlying26 rfl (by kernel_rfl) rfl K.out.2.1 Try.underlying28 rfl (by kernel_rfl) rfl rfl) rfl ?_
  exact ⟨_, _, _, ps, ls, ds, a, rfl, K.out.2.2.1, K.out.2.2.2.1⟩
end Go.Proofs.Ytppdbnopgcjgjaa
