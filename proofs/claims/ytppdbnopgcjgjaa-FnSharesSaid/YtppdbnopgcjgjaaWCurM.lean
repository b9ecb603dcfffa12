/- Trees with costs that are drawn: all that a law draws. -/
import Derived.Test.YtppdbnopgcjgjaaWCurT
import Derived.Test.YtppdbnopgcjgjaaWCurU
import Derived.Test.YtppdbnopgcjgjaaWCurV
import Derived.Test.YtppdbnopgcjgjaaWCurW
import Derived.Laws.ResultCell
import Derived.Deep.RegionHeld3
import Derived.Test.YtppdbnopgcjgjaaWPut2
namespace Go.Proofs.Ytppdbnopgcjgjaa
open Go.RowKit
set_option maxHeartbeats 2000000
set_option maxRecDepth 100000
section
variable {P : Program} {fn : Func} {p q u x : Tmp} {ty ty2 : TypeId} (tmps : Array Value) (w : World) (g : Nat) (t : TypeId) (cs : Array Value) (d : TypeDesc) (g2 : Nat) (t2 : TypeId) (cs2 : Array Value) (d2 : TypeDesc) (a b : Value)
  (hp : tmps.getD p undef = .pointer (some ⟨g, 0, none⟩)) (hg : w.heap[g]? = some (.cells cs t (0, 0))) (hu : P.underlying ty = some d) (hd : (match d with | .struct _ | .array _ _ => true | _ => false) = true) (hi : (P.info? ty).map (·.size) = some cs.size)
  (hq : tmps.getD q undef = .pointer (some ⟨g2, 0, none⟩)) (hg2 : w.heap[g2]? = some (.cells cs2 t2 (0, 0))) (hu2 : P.underlying ty2 = some d2) (hd2 : (match d2 with | .struct _ | .array _ _ => true | _ => false) = true) (hi2 : (P.info? ty2).map (·.size) = some cs2.size)
include hp hg hu hd hi hq hg2 hu2 hd2 hi2
theorem results_cc (h : fn.results = #[.cell p ty, .cell q ty2]) : (results fn tmps).run P w = .ok (.tuple #[.agg cs, .agg cs2]) w := by
  simp only [Array.getD_eq_getD_getElem?] at hp hq
  simp only [results, h]
  simp [Sem.run_bind, Result.andThen, hp, hq, asAddr, run_loadVar_row w g t ty cs (0, 0) d hg hu hd hi, run_loadVar_row w g2 t2 ty2 cs2 (0, 0) d2 hg2 hu2 hd2 hi2]
theorem results_cct (h : fn.results = #[.cell p ty, .cell q ty2, .tmp u]) (ha : tmps.getD u undef = a) : (results fn tmps).run P w = .ok (.tuple #[.agg cs, .agg cs2, a]) w := by
  simp only [Array.getD_eq_getD_getElem?] at hp hq ha
  simp only [results, h]
  simp [Sem.run_bind, Result.andThen, hp, hq, ha, asAddr, run_loadVar_row w g t ty cs (0, 0) d hg hu hd hi, run_loadVar_row w g2 t2 ty2 cs2 (0, 0) d2 hg2 hu2 hd2 hi2]
theorem results_cctt (h : fn.results = #[.cell p ty, .cell q ty2, .tmp u, .tmp x]) (ha : tmps.getD u undef = a) (hb : tmps.getD x undef = b) : (results fn tmps).run P w = .ok (.tuple #[.agg cs, .agg cs2, a, b]) w := by
  simp only [Array.getD_eq_getD_getElem?] at hp hq ha hb
  simp only [results, h]
  simp [Sem.run_bind, Result.andThen, hp, hq, ha, hb, asAddr, run_loadVar_row w g t ty cs (0, 0) d hg hu hd hi, run_loadVar_row w g2 t2 ty2 cs2 (0, 0) d2 hg2 hu2 hd2 hi2]
end
/-- What is drawn: a tree and costs. -/
def TCo (w : World) (t l d : Value) (ps ls ds : List Int) : Prop :=
  (ps.length ≤ 30 ∧ ls.length ≤ 30 ∧ ds.length ≤ 30) ∧ Rd w 1 t ps.length (vInts ps) ∧ Rd w 1 l ls.length (vInts ls) ∧ Rd w 1 d ds.length (vInts ds)
theorem TCo.ext {w w' : World} {t l d : Value} {ps ls ds : List Int} (h : TCo w t l d ps ls ds) (hx : Ext w w') : TCo w' t l d ps ls ds := ⟨h.1, h.2.1.ext hx, h.2.2.1.ext hx, h.2.2.2.ext hx⟩
def zT : Obj := .cells #[.slice none 0 0] 26
/-- The results' boxes and the cursor's. -/
def W3 (w : World) (v : Value) : World := ((w.alloc (.cells #[.slice none 0 0] 26)).alloc (.cells #[.slice none 0 0, .slice none 0 0] 28)).alloc (.cells #[v, .int .i64 0, .int .u64 0] 60)
/-- While it is drawn, from the cursor on. -/
def TCP (w W0 W : World) (v : Value) (bs : List Int) (A : Nat) : Prop :=
  (Dr W0 W w.heap.size (w.heap.size + 2) v bs A ∧ Ext w W0 ∧ w.heap.size + 3 ≤ W0.heap.size) ∧
  (W.heap[w.heap.size]? = some (.cells #[.slice none 0 0] 26 (0, 0)) ∧ W.heap[w.heap.size + 1]? = some (.cells #[.slice none 0 0, .slice none 0 0] 28 (0, 0)))
theorem tc_start {w : World} {v : Value} {bs : List Int} (h : Rd w 1 v bs.length (vBytes bs)) : TCP w (W3 w v) (W3 w v) v bs 0 := by
  have hx : Ext w (W3 w v) := by unfold W3; exact (by repeat' (first | exact Ext.refl _ | assumption | refine Ext.alloc ?_ _ | refine Ext.ext ?_ _ | refine Ext.drew ?_ | refine Ext.drewN ?_ _))
  refine ⟨⟨Dr.start ⟨⟨h.ext hx, fun b o m c e hm => rd_lt h (by decide) e hm⟩, 0, 0, by omega, by omega, ?_⟩, hx, by unfold W3; simp⟩, heap_old (heap_old (heap_at _ rfl) _) _, heap_old (heap_at _ (by simp)) _⟩
  have := World.ownsRow_lit (base := w.heap.size) (e := 60) (size := 3) ((w.alloc (.cells #[.slice none 0 0] 26)).alloc (.cells #[.slice none 0 0, .slice none 0 0] 28)) #[v, .int .i64 0, .int .u64 0] 1 (by simp; omega) (by decide) rfl
  simp at this
  exact this
theorem TCP.step {w W0 W W' : World} {v : Value} {bs : List Int} {A A' : Nat} (h : TCP w W0 W v bs A) (hc : Cs W' w.heap.size (w.heap.size + 2) v bs A') (hg : W.grownBy W' (some (w.heap.size + 2))) : TCP w W0 W' v bs A' :=
  ⟨⟨h.1.1.step hc hg, h.1.2⟩, blk_grow h.2.1 hg (fun e => by have := Option.some.inj e; omega), blk_grow h.2.2 hg (fun e => by have := Option.some.inj e; omega)⟩
theorem TCP.ext {w W0 W W' : World} {v : Value} {bs : List Int} {A : Nat} (h : TCP w W0 W v bs A) (hx : Ext W W') : TCP w W0 W' v bs A := h.step (h.1.1.1.ext hx) (hx.grownBy _)
theorem TCP.low {w W0 W : World} {v : Value} {bs : List Int} {A : Nat} (h : TCP w W0 W v bs A) : w.heap.size + 2 < W0.heap.size ∧ W0.heap.size ≤ W.heap.size := ⟨by have := h.1.2.2; omega, h.1.1.size⟩
def TCS (w W0 W : World) (v : Value) (bs : List Int) (A T X : Nat) (t l d : Value) (ps ls ds : List Int) : Prop :=
  TCP w W0 W v bs A ∧ (W0.heap.size ≤ T ∧ W0.heap.size ≤ X) ∧ (W.heap[T]? = some (.cells #[t] 26 (0, 0)) ∧ W.heap[X]? = some (.cells #[l, d] 28 (0, 0))) ∧
  (ps.length ≤ 30 ∧ ls.length ≤ 30 ∧ ds.length ≤ 30) ∧ RdB W W0.heap.size t ps.length (vInts ps) ∧ RdB W W0.heap.size l ls.length (vInts ls) ∧ RdB W W0.heap.size d ds.length (vInts ds)
theorem TCS.step {w W0 W W' : World} {v : Value} {bs : List Int} {A A' T X : Nat} {t l d : Value} {ps ls ds : List Int} (h : TCS w W0 W v bs A T X t l d ps ls ds) (hc : Cs W' w.heap.size (w.heap.size + 2) v bs A') (hg : W.grownBy W' (some (w.heap.size + 2))) :
    TCS w W0 W' v bs A' T X t l d ps ls ds := by
  have := h.1.low
  exact ⟨h.1.step hc hg, h.2.1, ⟨blk_grow h.2.2.1.1 hg (fun e => by have := Option.some.inj e; have := h.2.1; omega), blk_grow h.2.2.1.2 hg (fun e => by have := Option.some.inj e; have := h.2.1; omega)⟩, h.2.2.2.1, h.2.2.2.2.1.step (by omega) hg, h.2.2.2.2.2.1.step (by omega) hg, h.2.2.2.2.2.2.step (by omega) hg⟩
theorem TCS.ext {w W0 W W' : World} {v : Value} {bs : List Int} {A T X : Nat} {t l d : Value} {ps ls ds : List Int} (h : TCS w W0 W v bs A T X t l d ps ls ds) (hx : Ext W W') : TCS w W0 W' v bs A T X t l d ps ls ds := h.step (h.1.1.1.1.ext hx) (hx.grownBy _)
/-- The results laid down. -/
theorem TCS.fin {w W0 W : World} {v : Value} {bs : List Int} {A T X : Nat} {t l d : Value} {ps ls ds : List Int} (h : TCS w W0 W v bs A T X t l d ps ls ds) (t' l' d' : Value) :
    (((W.setCell ⟨w.heap.size, 0, none⟩ t').setCell ⟨w.heap.size + 1, 0, none⟩ l').setCell ⟨w.heap.size + 1, 1, none⟩ d').heap[w.heap.size]? = some (.cells #[t'] 26 (0, 0)) ∧
    (((W.setCell ⟨w.heap.size, 0, none⟩ t').setCell ⟨w.heap.size + 1, 0, none⟩ l').setCell ⟨w.heap.size + 1, 1, none⟩ d').heap[w.heap.size + 1]? = some (.cells #[l', d'] 28 (0, 0)) ∧
    TCo (((W.setCell ⟨w.heap.size, 0, none⟩ t').setCell ⟨w.heap.size + 1, 0, none⟩ l').setCell ⟨w.heap.size + 1, 1, none⟩ d') t l d ps ls ds ∧ Ext w (((W.setCell ⟨w.heap.size, 0, none⟩ t').setCell ⟨w.heap.size + 1, 0, none⟩ l').setCell ⟨w.heap.size + 1, 1, none⟩ d') := by
  have hlow := h.1.low
  have hw : Ext w W := h.1.1.2.1.grown h.1.1.1.2.1 (fun k e => by have := Option.some.inj e; omega)
  have far : ∀ {u : Value} {n : Nat} {cs : List Value} {W1 : World}, RdB W1 W0.heap.size u n cs → ∀ (j k : Nat) (x : Value), j < W0.heap.size → RdB (W1.setCell ⟨j, k, none⟩ x) W0.heap.size u n cs := fun hr j k x hj =>
    hr.away (grownBy_set _ ⟨j, k, none⟩ x) (fun b o m c e hm e2 => by have := hr.2 b o m c e hm; have e3 : j = b := Option.some.inj e2; omega)
  have all : ∀ {u : Value} {n : Nat} {cs : List Value}, RdB W W0.heap.size u n cs → Rd (((W.setCell ⟨w.heap.size, 0, none⟩ t').setCell ⟨w.heap.size + 1, 0, none⟩ l').setCell ⟨w.heap.size + 1, 1, none⟩ d') 1 u n cs := fun hr =>
    (far (far (far hr _ 0 t' (by omega)) _ 0 l' (by omega)) _ 1 d' (by omega)).1
  refine ⟨blk_far (blk_far (box1_set h.1.2.1 _) (by omega)) (by omega), box2_set (blk_far h.1.2.2 (by omega)) _ _, ⟨h.2.2.2.1, all h.2.2.2.2.1, all h.2.2.2.2.2.1, all h.2.2.2.2.2.2⟩, ?_⟩
  exact ((hw.setCell (Nat.le_refl _) _).setCell (by dsimp only; omega) _).setCell (by dsimp only; omega) _
/-- Behind the tree, and behind the costs. -/
theorem tcs_mk {w W0 w1 w2 : World} {v l d : Value} {bs ps ls ds : List Int} {A A' n : Nat} {p : Option Addr} {cap : Nat} (h : TCP w W0 w1 v bs A) (hn : ps.length = n) (hb : ps.length ≤ 30) (ho : w1.ownsRow W0.heap.size 3 1 (.slice p n cap) n (vInts ps))
    (hl : (ls.length ≤ 30 ∧ ds.length ≤ 30)) (r1 : RdB w2 (w1.alloc (.cells #[.slice p n cap] 26)).heap.size l ls.length (vInts ls)) (r2 : RdB w2 (w1.alloc (.cells #[.slice p n cap] 26)).heap.size d ds.length (vInts ds))
    (hc : Cs w2 w.heap.size (w.heap.size + 2) v bs A') (hg : (w1.alloc (.cells #[.slice p n cap] 26)).grownBy w2 (some (w.heap.size + 2))) :
    TCS w W0 (w2.alloc (.cells #[l, d] 28)) v bs A' w1.heap.size w2.heap.size (.slice p n cap) l d ps ls ds := by
  subst hn
  have hx1 : Ext w1 (w1.alloc (.cells #[.slice p ps.length cap] 26)) := (by repeat' (first | exact Ext.refl _ | assumption | refine Ext.alloc ?_ _ | refine Ext.ext ?_ _ | refine Ext.drew ?_ | refine Ext.drewN ?_ _))
  have hx2 : Ext w2 (w2.alloc (.cells #[l, d] 28)) := (by repeat' (first | exact Ext.refl _ | assumption | refine Ext.alloc ?_ _ | refine Ext.ext ?_ _ | refine Ext.drew ?_ | refine Ext.drewN ?_ _))
  have h1 := h.low
  have h2 : w1.heap.size + 1 ≤ w2.heap.size := by have := hg.size; simpa using this
  have k1 := (h.ext hx1).step hc hg
  have hs : (w1.alloc (.cells #[.slice p ps.length cap] 26)).heap.size = w1.heap.size + 1 := by simp
  have hT := blk_grow (heap_at (w := w1) (k := w1.heap.size) (.cells #[.slice p ps.length cap] 26) rfl) hg (fun e => by have := Option.some.inj e; omega)
  have hR : RdB w2 W0.heap.size (.slice p ps.length cap) ps.length (vInts ps) := ((RdB.own ho).ext hx1).step (by omega) hg
  exact ⟨k1.ext hx2, ⟨by omega, by omega⟩, ⟨blk_ext hT hx2, heap_at _ rfl⟩, ⟨hb, hl.1, hl.2⟩, hR.ext hx2, (r1.low (by omega)).ext hx2, (r2.low (by omega)).ext hx2⟩
theorem rdb_form {w : World} {lo2 n : Nat} {v : Value} {cs : List Value} (h : RdB w lo2 v n cs) : ∃ p c, v = .slice p n c := by
  obtain ⟨⟨-, p, c, e, -⟩, -⟩ := h
  exact ⟨p, c, e⟩
/-- The cells that the last statement reads, there and behind its stores. -/
theorem TCS.cells {w W0 W : World} {v : Value} {bs : List Int} {A T X : Nat} {t l d : Value} {ps ls ds : List Int} (h : TCS w W0 W v bs A T X t l d ps ls ds) :
    (W.cell? ⟨T, 0, none⟩ = some t ∧ W.cell? ⟨X, 0, none⟩ = some l ∧ W.cell? ⟨X, 1, none⟩ = some d) ∧
    (W.cell? ⟨w.heap.size, 0, none⟩ = some (.slice none 0 0) ∧ W.frozen? ⟨w.heap.size, 0, none⟩ = false) ∧
    ((W.cell? ⟨w.heap.size + 1, 0, none⟩ = some (.slice none 0 0) ∧ W.cell? ⟨w.heap.size + 1, 1, none⟩ = some (.slice none 0 0)) ∧ W.frozen? ⟨w.heap.size + 1, 0, none⟩ = false ∧ W.frozen? ⟨w.heap.size + 1, 1, none⟩ = false) := by
  obtain ⟨b0, -, -⟩ := box1 h.2.2.1.1
  obtain ⟨⟨x0, x1⟩, -, -⟩ := box2 h.2.2.1.2
  obtain ⟨r0, q0, -⟩ := box1 h.1.2.1
  obtain ⟨⟨s0, s1⟩, ⟨u0, u1⟩, -⟩ := box2 h.1.2.2
  exact ⟨⟨b0, x0, x1⟩, ⟨r0, q0⟩, ⟨s0, s1⟩, u0, u1⟩
/-- A store into the results. -/
theorem TCS.keep {w W0 W W' : World} {v : Value} {bs : List Int} {A T X : Nat} {t l d : Value} {ps ls ds : List Int} (h : TCS w W0 W v bs A T X t l d ps ls ds) (j k : Nat) (x : Value) (hj : j < w.heap.size + 2)
    (h1 : W'.cell? ⟨T, 0, none⟩ = some t ∧ W'.cell? ⟨X, 0, none⟩ = some l ∧ W'.cell? ⟨X, 1, none⟩ = some d) : (W'.setCell ⟨j, k, none⟩ x).cell? ⟨T, 0, none⟩ = some t ∧ (W'.setCell ⟨j, k, none⟩ x).cell? ⟨X, 0, none⟩ = some l ∧ (W'.setCell ⟨j, k, none⟩ x).cell? ⟨X, 1, none⟩ = some d := by
  have hlow := h.1.low
  have hT := h.2.1
  have hg := grownBy_set W' ⟨j, k, none⟩ x
  exact ⟨hg.cell h1.1 (fun e => by have := Option.some.inj e; dsimp only at this; omega), hg.cell h1.2.1 (fun e => by have := Option.some.inj e; dsimp only at this; omega), hg.cell h1.2.2 (fun e => by have := Option.some.inj e; dsimp only at this; omega)⟩
/-- A row of its own, behind the stores into the results. -/
theorem TCS.far {w W0 W : World} {v : Value} {bs : List Int} {A T X : Nat} {t l d : Value} {ps ls ds : List Int} (h : TCS w W0 W v bs A T X t l d ps ls ds) (t' l' d' : Value) {u : Value} {n : Nat} {cs : List Value} (hr : RdB W W0.heap.size u n cs) :
    Rd (((W.setCell ⟨w.heap.size, 0, none⟩ t').setCell ⟨w.heap.size + 1, 0, none⟩ l').setCell ⟨w.heap.size + 1, 1, none⟩ d') 1 u n cs := by
  have hlow := h.1.low
  have far : ∀ {u : Value} {n : Nat} {cs : List Value} {W1 : World}, RdB W1 W0.heap.size u n cs → ∀ (j k : Nat) (x : Value), j < W0.heap.size → RdB (W1.setCell ⟨j, k, none⟩ x) W0.heap.size u n cs := fun hr j k x hj =>
    hr.away (grownBy_set _ ⟨j, k, none⟩ x) (fun b o m c e hm e2 => by have := hr.2 b o m c e hm; have e3 : j = b := Option.some.inj e2; omega)
  exact (far (far (far hr _ 0 t' (by omega)) _ 0 l' (by omega)) _ 1 d' (by omega)).1
theorem quo11 (x : Int) (h0 : 0 ≤ x) (h1 : x < 24) : ∃ q : Nat, q ≤ 2 ∧ x.tdiv 11 = q := by
  rw [Int.tdiv_eq_ediv_of_nonneg h0]
  exact ⟨(x / 11).toNat, by omega, by omega⟩
/-- One of the first numbers of a literal that lies there. -/
theorem TCS.rd {W W' : World} {G B n : Nat} {lits : List Int} (h : Rd W 1 (.slice (some ⟨G, 0, none⟩) n n) lits.length (vInts lits)) (hg : W.grownBy W' (some B)) (hne : G ≠ B) : Rd W' 1 (.slice (some ⟨G, 0, none⟩) n n) lits.length (vInts lits) :=
  rd_turn h hg (fun b o m c e _ e2 => by cases e; exact hne (Option.some.inj e2).symm)
theorem rd_takeI {w : World} {p : Option Addr} {n cap : Nat} {L : List Int} (h : Rd w 1 (.slice p n cap) n (vInts L)) (k : Nat) (hk : k ≤ n) : Rd w 1 (.slice p k cap) k (vInts (L.take k)) := by
  have := rd_take h k hk
  rwa [show (vInts L).take k = vInts (L.take k) by simp [vInts, List.map_take]] at this
theorem spec_DrawDelayTo {bs : List Int} (hb : Bts bs) {v : Value} (w : World) (h : Rd w 1 v bs.length (vBytes bs)) :
    Calls Try.prog 18 #[v] w fun e w' => ∃ (t l d : Value) (ps ls ds : List Int) (a : Int), e = .returned (.tuple #[.agg #[t], .agg #[l, d], .int .i64 a]) ∧ TCo w' t l d ps ls ds ∧ Ext w w' := by
  have H0 := hid (tc_start h)
  have Hb := hid hb
  obtain ⟨-, p, cap, rfl, -⟩ := h
  clear hb
  go_enter Try.func18, Try.ntmps18
  go_wp2_with fail
  go_at_call 38
  change Calls _ _ _ (W3 w (.slice p bs.length cap)) _
  generalize W3 w (.slice p bs.length cap) = W0 at *
  refine (spec_tree Hb.out _ H0.out.1.1.1 (by omega)).mono ?_
  rintro e w1 ⟨r, ps, rfl, hp2, hp8, ho, hc, hg⟩
  have H1 := hid (H0.out.step hc hg)
  clear hc hg H0
  obtain ⟨tp, tc, rfl⟩ := own_shape ho
  have HO := hid ho
  clear ho
  go_wp2_with fail
  go_at_call 39
  refine (spec_pathCosts Hb.out tp ps.length tc _ ((H1.out.ext (show Ext w1 (w1.alloc (.cells #[.slice tp ps.length tc] 26)) from (by repeat' (first | exact Ext.refl _ | assumption | refine Ext.alloc ?_ _ | refine Ext.ext ?_ _ | refine Ext.drew ?_ | refine Ext.drewN ?_ _)))).1.1.1) (by omega) (by omega)).mono ?_
  rintro e w2 ⟨l, d, ls, ds, rfl, hl, r1, r2, hc, hg⟩
  obtain ⟨lp, lc, rfl⟩ := rdb_form r1
  obtain ⟨dp, dc, rfl⟩ := rdb_form r2
  have H2 := hid (tcs_mk H1.out rfl (by omega) HO.out hl r1 r2 hc hg)
  clear hl r1 r2 hc hg H1 HO
  go_upto_region 4 with fail
  generalize w2.alloc (.cells #[.slice lp ls.length lc, .slice dp ds.length dc] 28) = V at *
  generalize w1.heap.size = T at *
  generalize w2.heap.size = X at *
  have X0 : Ext V V.drew := (by repeat' (first | exact Ext.refl _ | assumption | refine Ext.alloc ?_ _ | refine Ext.ext ?_ _ | refine Ext.drew ?_ | refine Ext.drewN ?_ _))
  have HD := hid (H2.out.ext X0)
  have hcV := H2.out.cells.1
  have hcD := HD.out.cells.1
  have htn : Hid (∀ (A : Nat) (W : World), A ≤ 1000 → TCS w W0 W (.slice p bs.length cap) bs A T X (.slice tp ps.length tc) (.slice lp ls.length lc) (.slice dp ds.length dc) ps ls ds → Calls Try.prog 40 #[.pointer (some ⟨w.heap.size + 1 + 1, 0, none⟩), .agg #[.slice tp ps.length tc]] W fun e w' => ∃ x : Int, e = .returned (.int .i64 x) ∧ TCS w W0 w' (.slice p bs.length cap) bs (A + 3) T X (.slice tp ps.length tc) (.slice lp ls.length lc) (.slice dp ds.length dc) ps ls ds) := fun A W hA h => (spec_treeNode Hb.out (lo := w.heap.size) (B := w.heap.size + 2) tp ps.length tc W h.1.1.1.1 (by omega) (by omega)).mono fun e w' ⟨x, a1, a2, a3⟩ => ⟨x, a1, h.step (a2.more (by omega)) a3⟩
  go_region_held3 (fun w' => w'.cell? ⟨T, 0, none⟩ = some (.slice tp ps.length tc) ∧ w'.cell? ⟨X, 0, none⟩ = some (.slice lp ls.length lc) ∧ w'.cell? ⟨X, 1, none⟩ = some (.slice dp ds.length dc)) (first | exact hcV | exact hcD | exact hc3 | exact hc4 | exact hc5)
    (first
      | (go_at_call 40; (with_reducible refine (htn.out 57 V.drew (by omega) HD.out).mono ?_); rintro e w3 ⟨a, rfl, h3⟩; have H3 := hid h3; clear h3; obtain ⟨hc3, ⟨r0, q0⟩, ⟨⟨s0, s1⟩, u0, u1⟩⟩ := H3.out.cells; have hc4 := H3.out.keep w.heap.size 0 (.slice tp ps.length tc) (by omega) hc3; have hc5 := H3.out.keep (w.heap.size + 1) 1 (.slice dp ds.length dc) (by omega) (H3.out.keep (w.heap.size + 1) 0 (.slice lp ls.length lc) (by omega) hc4))
      | fail)
  clear hcV hcD hc3 hc4 hc5 r0 q0 s0 s1 u0 u1 htn HD H2
  have K := hid (H3.out.fin (.slice tp ps.length tc) (.slice lp ls.length lc) (.slice dp ds.length dc))
  go_wp2
  refine bodyPost_ret (results_cct _ _ w.heap.size 26 _ _ (w.heap.size + 1) 28 _ _ _ rfl K.out.1 Try.underlying26 rfl (by kernel_rfl) rfl K.out.2.1 Try.underlying28 rfl (by kernel_rfl) rfl rfl) rfl ?_
  exact ⟨_, _, _, ps, ls, ds, a, rfl, K.out.2.2⟩
theorem spec_DrawDelayBetween {bs : List Int} (hb : Bts bs) {v : Value} (w : World) (h : Rd w 1 v bs.length (vBytes bs)) :
    Calls Try.prog 6 #[v] w fun e w' => ∃ (t l d : Value) (ps ls ds : List Int) (a b : Int), e = .returned (.tuple #[.agg #[t], .agg #[l, d], .int .i64 a, .int .i64 b]) ∧ TCo w' t l d ps ls ds ∧ Ext w w' := by
  have H0 := hid (tc_start h)
  have Hb := hid hb
  obtain ⟨-, p, cap, rfl, -⟩ := h
  clear hb
  go_enter Try.func6, Try.ntmps6
  go_wp2_with fail
  go_at_call 38
  change Calls _ _ _ (W3 w (.slice p bs.length cap)) _
  generalize W3 w (.slice p bs.length cap) = W0 at *
  refine (spec_tree Hb.out _ H0.out.1.1.1 (by omega)).mono ?_
  rintro e w1 ⟨r, ps, rfl, hp2, hp8, ho, hc, hg⟩
  have H1 := hid (H0.out.step hc hg)
  clear hc hg H0
  obtain ⟨tp, tc, rfl⟩ := own_shape ho
  have HO := hid ho
  clear ho
  go_wp2_with fail
  go_at_call 39
  refine (spec_pathCosts Hb.out tp ps.length tc _ ((H1.out.ext (show Ext w1 (w1.alloc (.cells #[.slice tp ps.length tc] 26)) from (by repeat' (first | exact Ext.refl _ | assumption | refine Ext.alloc ?_ _ | refine Ext.ext ?_ _ | refine Ext.drew ?_ | refine Ext.drewN ?_ _)))).1.1.1) (by omega) (by omega)).mono ?_
  rintro e w2 ⟨l, d, ls, ds, rfl, hl, r1, r2, hc, hg⟩
  obtain ⟨lp, lc, rfl⟩ := rdb_form r1
  obtain ⟨dp, dc, rfl⟩ := rdb_form r2
  have H2 := hid (tcs_mk H1.out rfl (by omega) HO.out hl r1 r2 hc hg)
  clear hl r1 r2 hc hg H1 HO
  go_upto_region 4 with fail
  generalize w2.alloc (.cells #[.slice lp ls.length lc, .slice dp ds.length dc] 28) = V at *
  generalize w1.heap.size = T at *
  generalize w2.heap.size = X at *
  have X0 : Ext V V.drew := (by repeat' (first | exact Ext.refl _ | assumption | refine Ext.alloc ?_ _ | refine Ext.ext ?_ _ | refine Ext.drew ?_ | refine Ext.drewN ?_ _))
  have HD := hid (H2.out.ext X0)
  have hcV := H2.out.cells.1
  have hcD := HD.out.cells.1
  have htn : Hid (∀ (A : Nat) (W : World), A ≤ 1000 → TCS w W0 W (.slice p bs.length cap) bs A T X (.slice tp ps.length tc) (.slice lp ls.length lc) (.slice dp ds.length dc) ps ls ds → Calls Try.prog 40 #[.pointer (some ⟨w.heap.size + 1 + 1, 0, none⟩), .agg #[.slice tp ps.length tc]] W fun e w' => ∃ x : Int, e = .returned (.int .i64 x) ∧ TCS w W0 w' (.slice p bs.length cap) bs (A + 3) T X (.slice tp ps.length tc) (.slice lp ls.length lc) (.slice dp ds.length dc) ps ls ds) := fun A W hA h => (spec_treeNode Hb.out (lo := w.heap.size) (B := w.heap.size + 2) tp ps.length tc W h.1.1.1.1 (by omega) (by omega)).mono fun e w' ⟨x, a1, a2, a3⟩ => ⟨x, a1, h.step (a2.more (by omega)) a3⟩
  go_region_held3 (fun w' => w'.cell? ⟨T, 0, none⟩ = some (.slice tp ps.length tc) ∧ w'.cell? ⟨X, 0, none⟩ = some (.slice lp ls.length lc) ∧ w'.cell? ⟨X, 1, none⟩ = some (.slice dp ds.length dc)) (first | exact hcV | exact hcD | exact hc3 | exact hc4 | exact hc5 | exact hb3)
    (first
      | (go_at_call 40; (with_reducible refine (htn.out 57 V.drew (by omega) HD.out).mono ?_); rintro e w3 ⟨a, rfl, h3⟩; have H3 := hid h3; clear h3; have hb3 := H3.out.cells.1)
      | (go_at_call 40; (with_reducible refine (htn.out 60 w3 (by omega) H3.out).mono ?_); rintro e w4 ⟨b, rfl, h4⟩; have H4 := hid h4; clear h4; obtain ⟨hc3, ⟨r0, q0⟩, ⟨⟨s0, s1⟩, u0, u1⟩⟩ := H4.out.cells; have hc4 := H4.out.keep w.heap.size 0 (.slice tp ps.length tc) (by omega) hc3; have hc5 := H4.out.keep (w.heap.size + 1) 1 (.slice dp ds.length dc) (by omega) (H4.out.keep (w.heap.size + 1) 0 (.slice lp ls.length lc) (by omega) hc4))
      | fail)
  clear hcV hcD hc3 hc4 hc5 hb3 r0 q0 s0 s1 u0 u1 htn HD H2 H3
  have K := hid (H4.out.fin (.slice tp ps.length tc) (.slice lp ls.length lc) (.slice dp ds.length dc))
  go_wp2
  refine bodyPost_ret (results_cctt _ _ w.heap.size 26 _ _ (w.heap.size + 1) 28 _ _ _ _ rfl K.out.1 Try.underlying26 rfl (by kernel_rfl) rfl K.out.2.1 Try.underlying28 rfl (by kernel_rfl) rfl rfl rfl) rfl ?_
  exact ⟨_, _, _, ps, ls, ds, a, b, rfl, K.out.2.2⟩
theorem spec_DrawNearestHolder {bs : List Int} (hb : Bts bs) {v : Value} (w : World) (h : Rd w 1 v bs.length (vBytes bs)) :
    Calls Try.prog 10 #[v] w fun e w' => ∃ (t l d : Value) (ps ls ds : List Int) (a : Int) (y : Value) (ns : List Int), e = .returned (.tuple #[.agg #[t], .agg #[l, d], .int .i64 a, y]) ∧ TCo w' t l d ps ls ds ∧ (ns.length ≤ 30 ∧ Rd w' 1 y ns.length (vInts ns)) ∧ Ext w w' := by
  have H0 := hid (tc_start h)
  have Hb := hid hb
  obtain ⟨-, p, cap, rfl, -⟩ := h
  clear hb
  go_enter Try.func10, Try.ntmps10
  go_wp2_with fail
  go_at_call 38
  change Calls _ _ _ (W3 w (.slice p bs.length cap)) _
  generalize W3 w (.slice p bs.length cap) = W0 at *
  refine (spec_tree Hb.out _ H0.out.1.1.1 (by omega)).mono ?_
  rintro e w1 ⟨r, ps, rfl, hp2, hp8, ho, hc, hg⟩
  have H1 := hid (H0.out.step hc hg)
  clear hc hg H0
  obtain ⟨tp, tc, rfl⟩ := own_shape ho
  have HO := hid ho
  clear ho
  go_wp2_with fail
  go_at_call 39
  refine (spec_pathCosts Hb.out tp ps.length tc _ ((H1.out.ext (show Ext w1 (w1.alloc (.cells #[.slice tp ps.length tc] 26)) from (by repeat' (first | exact Ext.refl _ | assumption | refine Ext.alloc ?_ _ | refine Ext.ext ?_ _ | refine Ext.drew ?_ | refine Ext.drewN ?_ _)))).1.1.1) (by omega) (by omega)).mono ?_
  rintro e w2 ⟨l, d, ls, ds, rfl, hl, r1, r2, hc, hg⟩
  obtain ⟨lp, lc, rfl⟩ := rdb_form r1
  obtain ⟨dp, dc, rfl⟩ := rdb_form r2
  have H2 := hid (tcs_mk H1.out rfl (by omega) HO.out hl r1 r2 hc hg)
  clear hl r1 r2 hc hg H1 HO
  go_upto_region 4 with fail
  generalize w2.alloc (.cells #[.slice lp ls.length lc, .slice dp ds.length dc] 28) = V at *
  generalize w1.heap.size = T at *
  generalize w2.heap.size = X at *
  have htn : Hid (∀ (A : Nat) (W : World), A ≤ 1000 → TCS w W0 W (.slice p bs.length cap) bs A T X (.slice tp ps.length tc) (.slice lp ls.length lc) (.slice dp ds.length dc) ps ls ds → Calls Try.prog 40 #[.pointer (some ⟨w.heap.size + 1 + 1, 0, none⟩), .agg #[.slice tp ps.length tc]] W fun e w' => ∃ x : Int, e = .returned (.int .i64 x) ∧ TCS w W0 w' (.slice p bs.length cap) bs (A + 3) T X (.slice tp ps.length tc) (.slice lp ls.length lc) (.slice dp ds.length dc) ps ls ds) := fun A W hA h => (spec_treeNode Hb.out (lo := w.heap.size) (B := w.heap.size + 2) tp ps.length tc W h.1.1.1.1 (by omega) (by omega)).mono fun e w' ⟨x, a1, a2, a3⟩ => ⟨x, a1, h.step (a2.more (by omega)) a3⟩
  have htl : Hid (∀ (A : Nat) (W : World), A ≤ 1000 → TCS w W0 W (.slice p bs.length cap) bs A T X (.slice tp ps.length tc) (.slice lp ls.length lc) (.slice dp ds.length dc) ps ls ds → Calls Try.prog 47 #[.pointer (some ⟨w.heap.size + 1 + 1, 0, none⟩), .agg #[.slice tp ps.length tc]] W fun e w' => ∃ (x : Value) (xs : List Int), e = .returned x ∧ xs.length ≤ 30 ∧ RdB w' W0.heap.size x xs.length (vInts xs) ∧ TCS w W0 w' (.slice p bs.length cap) bs (A + 22) T X (.slice tp ps.length tc) (.slice lp ls.length lc) (.slice dp ds.length dc) ps ls ds) := fun A W hA h => (spec_treeNodes Hb.out (lo := w.heap.size) (B := w.heap.size + 2) tp ps.length tc W h.1.1.1.1 (by omega) (by omega)).mono fun e w' ⟨x, xs, a1, a2, a3, a4, a5⟩ => ⟨x, xs, a1, by omega, RdB.low (RdB.own a3) h.1.low.2, h.step (a4.more (by omega)) a5⟩
  obtain ⟨⟨b0, x0, x1⟩, -⟩ := H2.out.cells
  go_wp2_with fail
  go_at_call 40
  refine (htn.out 57 V (by omega) H2.out).mono ?_
  rintro e w3 ⟨a, rfl, h3⟩
  have H3 := hid h3
  clear h3 H2 htn b0 x0 x1
  go_upto_region 5 with fail
  have X0 : Ext w3 w3.drew := (by repeat' (first | exact Ext.refl _ | assumption | refine Ext.alloc ?_ _ | refine Ext.ext ?_ _ | refine Ext.drew ?_ | refine Ext.drewN ?_ _))
  have HD := hid (H3.out.ext X0)
  have hcV := H3.out.cells.1
  have hcD := HD.out.cells.1
  go_region_held3 (fun w' => w'.cell? ⟨T, 0, none⟩ = some (.slice tp ps.length tc) ∧ w'.cell? ⟨X, 0, none⟩ = some (.slice lp ls.length lc) ∧ w'.cell? ⟨X, 1, none⟩ = some (.slice dp ds.length dc)) (first | exact hcV | exact hcD | exact hc3 | exact hc4 | exact hc5)
    (first
      | (go_at_call 47; (with_reducible refine (htl.out 60 w3.drew (by omega) HD.out).mono ?_); rintro e w4 ⟨y, ns, rfl, hn1, hn2, h4⟩; obtain ⟨yp, yc, rfl⟩ := rdb_form hn2; have H4 := hid h4; have HN := hid (And.intro hn1 hn2); clear h4 hn1 hn2; obtain ⟨hc3, ⟨r0, q0⟩, ⟨⟨s0, s1⟩, u0, u1⟩⟩ := H4.out.cells; have hc4 := H4.out.keep w.heap.size 0 (.slice tp ps.length tc) (by omega) hc3; have hc5 := H4.out.keep (w.heap.size + 1) 1 (.slice dp ds.length dc) (by omega) (H4.out.keep (w.heap.size + 1) 0 (.slice lp ls.length lc) (by omega) hc4))
      | fail)
  clear hcV hcD hc3 hc4 hc5 r0 q0 s0 s1 u0 u1 htl HD H3
  have K := hid (H4.out.fin (.slice tp ps.length tc) (.slice lp ls.length lc) (.slice dp ds.length dc))
  go_wp2
  refine bodyPost_ret (results_cctt _ _ w.heap.size 26 _ _ (w.heap.size + 1) 28 _ _ _ _ rfl K.out.1 Try.underlying26 rfl (by kernel_rfl) rfl K.out.2.1 Try.underlying28 rfl (by kernel_rfl) rfl rfl rfl) rfl ?_
  exact ⟨_, _, _, ps, ls, ds, a, _, ns, rfl, K.out.2.2.1, ⟨HN.out.1, H4.out.far _ _ _ HN.out.2⟩, K.out.2.2.2⟩
theorem spec_DrawShareToAll {bs : List Int} (hb : Bts bs) {v : Value} (w : World) (h : Rd w 1 v bs.length (vBytes bs)) :
    Calls Try.prog 24 #[v] w fun e w' => ∃ (t l d : Value) (ps ls ds : List Int) (y : Value) (ns : List Int), e = .returned (.tuple #[.agg #[t], .agg #[l, d], y]) ∧ TCo w' t l d ps ls ds ∧ (ns.length ≤ 30 ∧ Rd w' 1 y ns.length (vInts ns)) ∧ Ext w w' := by
  have H0 := hid (tc_start h)
  have Hb := hid hb
  obtain ⟨-, p, cap, rfl, -⟩ := h
  clear hb
  go_enter Try.func24, Try.ntmps24
  go_wp2_with fail
  go_at_call 38
  change Calls _ _ _ (W3 w (.slice p bs.length cap)) _
  generalize W3 w (.slice p bs.length cap) = W0 at *
  refine (spec_tree Hb.out _ H0.out.1.1.1 (by omega)).mono ?_
  rintro e w1 ⟨r, ps, rfl, hp2, hp8, ho, hc, hg⟩
  have H1 := hid (H0.out.step hc hg)
  clear hc hg H0
  obtain ⟨tp, tc, rfl⟩ := own_shape ho
  have HO := hid ho
  clear ho
  go_wp2_with fail
  go_at_call 39
  refine (spec_pathCosts Hb.out tp ps.length tc _ ((H1.out.ext (show Ext w1 (w1.alloc (.cells #[.slice tp ps.length tc] 26)) from (by repeat' (first | exact Ext.refl _ | assumption | refine Ext.alloc ?_ _ | refine Ext.ext ?_ _ | refine Ext.drew ?_ | refine Ext.drewN ?_ _)))).1.1.1) (by omega) (by omega)).mono ?_
  rintro e w2 ⟨l, d, ls, ds, rfl, hl, r1, r2, hc, hg⟩
  obtain ⟨lp, lc, rfl⟩ := rdb_form r1
  obtain ⟨dp, dc, rfl⟩ := rdb_form r2
  have H2 := hid (tcs_mk H1.out rfl (by omega) HO.out hl r1 r2 hc hg)
  clear hl r1 r2 hc hg H1 HO
  go_upto_region 4 with fail
  generalize w2.alloc (.cells #[.slice lp ls.length lc, .slice dp ds.length dc] 28) = V at *
  generalize w1.heap.size = T at *
  generalize w2.heap.size = X at *
  have X0 : Ext V V.drew := (by repeat' (first | exact Ext.refl _ | assumption | refine Ext.alloc ?_ _ | refine Ext.ext ?_ _ | refine Ext.drew ?_ | refine Ext.drewN ?_ _))
  have HD := hid (H2.out.ext X0)
  have hcV := H2.out.cells.1
  have hcD := HD.out.cells.1
  have htl : Hid (∀ (A : Nat) (W : World), A ≤ 1000 → TCS w W0 W (.slice p bs.length cap) bs A T X (.slice tp ps.length tc) (.slice lp ls.length lc) (.slice dp ds.length dc) ps ls ds → Calls Try.prog 47 #[.pointer (some ⟨w.heap.size + 1 + 1, 0, none⟩), .agg #[.slice tp ps.length tc]] W fun e w' => ∃ (x : Value) (xs : List Int), e = .returned x ∧ xs.length ≤ 30 ∧ RdB w' W0.heap.size x xs.length (vInts xs) ∧ TCS w W0 w' (.slice p bs.length cap) bs (A + 22) T X (.slice tp ps.length tc) (.slice lp ls.length lc) (.slice dp ds.length dc) ps ls ds) := fun A W hA h => (spec_treeNodes Hb.out (lo := w.heap.size) (B := w.heap.size + 2) tp ps.length tc W h.1.1.1.1 (by omega) (by omega)).mono fun e w' ⟨x, xs, a1, a2, a3, a4, a5⟩ => ⟨x, xs, a1, by omega, RdB.low (RdB.own a3) h.1.low.2, h.step (a4.more (by omega)) a5⟩
  go_region_held3 (fun w' => w'.cell? ⟨T, 0, none⟩ = some (.slice tp ps.length tc) ∧ w'.cell? ⟨X, 0, none⟩ = some (.slice lp ls.length lc) ∧ w'.cell? ⟨X, 1, none⟩ = some (.slice dp ds.length dc)) (first | exact hcV | exact hcD | exact hc3 | exact hc4 | exact hc5)
    (first
      | (go_at_call 47; (with_reducible refine (htl.out 57 V.drew (by omega) HD.out).mono ?_); rintro e w4 ⟨y, ns, rfl, hn1, hn2, h4⟩; obtain ⟨yp, yc, rfl⟩ := rdb_form hn2; have H4 := hid h4; have HN := hid (And.intro hn1 hn2); clear h4 hn1 hn2; obtain ⟨hc3, ⟨r0, q0⟩, ⟨⟨s0, s1⟩, u0, u1⟩⟩ := H4.out.cells; have hc4 := H4.out.keep w.heap.size 0 (.slice tp ps.length tc) (by omega) hc3; have hc5 := H4.out.keep (w.heap.size + 1) 1 (.slice dp ds.length dc) (by omega) (H4.out.keep (w.heap.size + 1) 0 (.slice lp ls.length lc) (by omega) hc4))
      | fail)
  clear hcV hcD hc3 hc4 hc5 r0 q0 s0 s1 u0 u1 htl HD H2
  have K := hid (H4.out.fin (.slice tp ps.length tc) (.slice lp ls.length lc) (.slice dp ds.length dc))
  go_wp2
  refine bodyPost_ret (results_cct _ _ w.heap.size 26 _ _ (w.heap.size + 1) 28 _ _ _ rfl K.out.1 Try.underlying26 rfl (by kernel_rfl) rfl K.out.2.1 Try.underlying28 rfl (by kernel_rfl) rfl rfl) rfl ?_
  exact ⟨_, _, _, ps, ls, ds, _, ns, rfl, K.out.2.2.1, ⟨HN.out.1, H4.out.far _ _ _ HN.out.2⟩, K.out.2.2.2⟩
end Go.Proofs.Ytppdbnopgcjgjaa
namespace Go.Proofs.Ytppdbnopgcjgjaa
open Go.RowKit
set_option maxHeartbeats 2000000
set_option maxRecDepth 100000
theorem spec_DrawWorsenLink {bs : List Int} (hb : Bts bs) {v : Value} (w : World) (h : Rd w 1 v bs.length (vBytes bs)) :
    Calls Try.prog 34 #[v] w fun e w' => ∃ (t l d : Value) (ps ls ds : List Int) (a b : Int), e = .returned (.tuple #[.agg #[t], .agg #[l, d], .int .i64 a, .int .i64 b]) ∧ TCo w' t l d ps ls ds ∧ Ext w w' := by
  have H0 := hid (tc_start h)
  have Hb := hid hb
  obtain ⟨-, p, cap, rfl, -⟩ := h
  clear hb
  go_enter Try.func34, Try.ntmps34
  go_wp2_with fail
  go_at_call 38
  change Calls _ _ _ (W3 w (.slice p bs.length cap)) _
  generalize W3 w (.slice p bs.length cap) = W0 at *
  refine (spec_tree Hb.out _ H0.out.1.1.1 (by omega)).mono ?_
  rintro e w1 ⟨r, ps, rfl, hp2, hp8, ho, hc, hg⟩
  have H1 := hid (H0.out.step hc hg)
  clear hc hg H0
  obtain ⟨tp, tc, rfl⟩ := own_shape ho
  have HO := hid ho
  clear ho
  go_wp2_with fail
  go_at_call 39
  refine (spec_pathCosts Hb.out tp ps.length tc _ ((H1.out.ext (show Ext w1 (w1.alloc (.cells #[.slice tp ps.length tc] 26)) from (by repeat' (first | exact Ext.refl _ | assumption | refine Ext.alloc ?_ _ | refine Ext.ext ?_ _ | refine Ext.drew ?_ | refine Ext.drewN ?_ _)))).1.1.1) (by omega) (by omega)).mono ?_
  rintro e w2 ⟨l, d, ls, ds, rfl, hl, r1, r2, hc, hg⟩
  obtain ⟨lp, lc, rfl⟩ := rdb_form r1
  obtain ⟨dp, dc, rfl⟩ := rdb_form r2
  have H2 := hid (tcs_mk H1.out rfl (by omega) HO.out hl r1 r2 hc hg)
  clear hl r1 r2 hc hg H1 HO
  go_upto_region 4 with fail
  generalize w2.alloc (.cells #[.slice lp ls.length lc, .slice dp ds.length dc] 28) = V at *
  generalize w1.heap.size = T at *
  generalize w2.heap.size = X at *
  have htn : Hid (∀ (A : Nat) (W : World), A ≤ 1000 → TCS w W0 W (.slice p bs.length cap) bs A T X (.slice tp ps.length tc) (.slice lp ls.length lc) (.slice dp ds.length dc) ps ls ds → Calls Try.prog 40 #[.pointer (some ⟨w.heap.size + 1 + 1, 0, none⟩), .agg #[.slice tp ps.length tc]] W fun e w' => ∃ x : Int, e = .returned (.int .i64 x) ∧ TCS w W0 w' (.slice p bs.length cap) bs (A + 3) T X (.slice tp ps.length tc) (.slice lp ls.length lc) (.slice dp ds.length dc) ps ls ds) := fun A W hA h => (spec_treeNode Hb.out (lo := w.heap.size) (B := w.heap.size + 2) tp ps.length tc W h.1.1.1.1 (by omega) (by omega)).mono fun e w' ⟨x, a1, a2, a3⟩ => ⟨x, a1, h.step (a2.more (by omega)) a3⟩
  obtain ⟨⟨b0, x0, x1⟩, -⟩ := H2.out.cells
  go_wp2_with fail
  go_at_call 40
  refine (htn.out 57 V (by omega) H2.out).mono ?_
  rintro e w3 ⟨a, rfl, h3⟩
  have H3 := hid h3
  clear h3 H2 htn b0 x0 x1
  go_upto_region 5 with fail
  have XL : Ext w3 (w3.alloc (.cells #[.int .i64 0, .int .i64 1, .int .i64 50, .int .i64 100, .int .i64 (-1), .int .i64 101] 3)).drew := (by repeat' (first | exact Ext.refl _ | assumption | refine Ext.alloc ?_ _ | refine Ext.ext ?_ _ | refine Ext.drew ?_ | refine Ext.drewN ?_ _))
  have HL := hid (And.intro (H3.out.ext XL) (show Rd (w3.alloc (.cells #[.int .i64 0, .int .i64 1, .int .i64 50, .int .i64 100, .int .i64 (-1), .int .i64 101] 3)).drew 1 (.slice (some ⟨w3.heap.size, 0, none⟩) 6 6) [0, 1, 50, 100, -1, 101].length (vInts [0, 1, 50, 100, -1, 101]) from (rd_litC w3 3 #[.int .i64 0, .int .i64 1, .int .i64 50, .int .i64 100, .int .i64 (-1), .int .i64 101]).ext (by repeat' (first | exact Ext.refl _ | assumption | refine Ext.alloc ?_ _ | refine Ext.ext ?_ _ | refine Ext.drew ?_ | refine Ext.drewN ?_ _))))
  have htp : Hid (∀ (A : Nat) (W : World), A ≤ 1000 → TCS w W0 W (.slice p bs.length cap) bs A T X (.slice tp ps.length tc) (.slice lp ls.length lc) (.slice dp ds.length dc) ps ls ds → Calls Try.prog 72 #[.pointer (some ⟨w.heap.size + 1 + 1, 0, none⟩), .int .i64 24] W fun e w' => ∃ x : Int, e = .returned (.int .i64 x) ∧ (0 ≤ x ∧ x < 24) ∧ W.grownBy w' (some (w.heap.size + 2)) ∧ TCS w W0 w' (.slice p bs.length cap) bs (A + 1) T X (.slice tp ps.length tc) (.slice lp ls.length lc) (.slice dp ds.length dc) ps ls ds) := fun A W hA h => (spec_pick Hb.out (lo := w.heap.size) (B := w.heap.size + 2) 24 W h.1.1.1.1 (by omega) (by omega)).mono fun e w' ⟨x, a1, b1, b2, a2, a3⟩ => ⟨x, a1, ⟨b1, b2⟩, a3, h.step a2 a3⟩
  have hta : Hid (∀ (A : Nat) (W : World) (G k c : Nat) (L : List Int), A ≤ 1000 → TCS w W0 W (.slice p bs.length cap) bs A T X (.slice tp ps.length tc) (.slice lp ls.length lc) (.slice dp ds.length dc) ps ls ds → Rd W 1 (.slice (some ⟨G, 0, none⟩) k c) k (vInts L) → L.length = k → G ≠ w.heap.size + 2 → 1 ≤ k ∧ k ≤ 200 → Calls Try.prog 71 #[.pointer (some ⟨w.heap.size + 1 + 1, 0, none⟩), .slice (some ⟨G, 0, none⟩) k c] W fun e w' => ∃ x : Int, e = .returned (.int .i64 x) ∧ TCS w W0 w' (.slice p bs.length cap) bs (A + 1) T X (.slice tp ps.length tc) (.slice lp ls.length lc) (.slice dp ds.length dc) ps ls ds) := fun A W G k c L hA h hr hl hne hk => by
    subst hl
    exact (spec_among Hb.out (lo := w.heap.size) (B := w.heap.size + 2) L _ W h.1.1.1.1 hr (fun b o m c e _ => by cases e; exact hne) (by omega) hk).mono fun e w' ⟨x, a1, _, a2, a3⟩ => ⟨x, a1, h.step a2 a3⟩
  have hne : w3.heap.size ≠ w.heap.size + 2 := by have := H3.out.1.low; omega
  have hcV := H3.out.cells.1
  have hcA := (H3.out.ext (show Ext w3 (w3.alloc (.cells #[.int .i64 0, .int .i64 1, .int .i64 50, .int .i64 100, .int .i64 (-1), .int .i64 101] 3)) from (by repeat' (first | exact Ext.refl _ | assumption | refine Ext.alloc ?_ _ | refine Ext.ext ?_ _ | refine Ext.drew ?_ | refine Ext.drewN ?_ _)))).cells.1
  have HE := hid (H3.out.ext (show Ext w3 w3.drew from (by repeat' (first | exact Ext.refl _ | assumption | refine Ext.alloc ?_ _ | refine Ext.ext ?_ _ | refine Ext.drew ?_ | refine Ext.drewN ?_ _))))
  have hcE := HE.out.cells.1
  have hcD := HL.out.1.cells.1
  go_region_held3 (fun w' => w'.cell? ⟨T, 0, none⟩ = some (.slice tp ps.length tc) ∧ w'.cell? ⟨X, 0, none⟩ = some (.slice lp ls.length lc) ∧ w'.cell? ⟨X, 1, none⟩ = some (.slice dp ds.length dc)) (first | exact hcV | exact hcA | exact hcE | exact hcD | exact hc3 | exact hc4 | exact hc5 | exact hb4 | exact hb5)
    (first
      | (go_at_call 72; (with_reducible refine (htp.out 60 _ (by omega) HL.out.1).mono ?_); rintro e w4 ⟨x, rfl, ⟨hx0, hx1⟩, hg4, h4⟩; obtain ⟨q, hq, eq0⟩ := quo11 x hx0 hx1; have e0 : IntKind.i64.wrap (x.tdiv 11) = (q : Int) := (by rw [eq0]; exact IntWalk.i64_in _ (by omega)); have e1 : IntKind.i64.wrap (4 + (q : Int)) = ((q + 4 : Nat) : Int) := (by rw [IntWalk.i64_in _ (by omega)]; omega); have hrl := rd_takeI (n := 6) (TCS.rd HL.out.2 hg4 hne) (q + 4) (by omega); have hs1 := run_upto (some ⟨w3.heap.size, 0, none⟩) 6 (q + 4) 6 (by omega); have hs2 := run_uptoAt (some ⟨w3.heap.size, 0, none⟩) 6 (q + 4) 6 (by omega); have hlk : (([0, 1, 50, 100, -1, 101] : List Int).take (q + 4)).length = q + 4 := (by rw [List.length_take]; exact Nat.min_eq_left (by simp; omega)); have H4 := hid h4; have HR := hid (And.intro hrl hlk); have hk1 : 1 ≤ q + 4 ∧ q + 4 ≤ 200 := (by omega); clear h4 hrl hlk eq0 hx0 hx1; have hb4 := H4.out.cells.1; generalize q + 4 = k at *)
      | (go_at_call 72; (with_reducible refine (htp.out 60 w3.drew (by omega) HE.out).mono ?_); rintro e w4 ⟨x, rfl, ⟨hx0, hx1⟩, hg4, h4⟩; obtain ⟨q, hq, eq0⟩ := quo11 x hx0 hx1; have e0 : IntKind.i64.wrap (x.tdiv 11) = (q : Int) := (by rw [eq0]; exact IntWalk.i64_in _ (by omega)); have e1 : IntKind.i64.wrap (4 + (q : Int)) = ((q + 4 : Nat) : Int) := (by rw [IntWalk.i64_in _ (by omega)]; omega); have XM : Ext w4 (w4.alloc (.cells #[.int .i64 0, .int .i64 1, .int .i64 50, .int .i64 100, .int .i64 (-1), .int .i64 101] 3)) := ((by repeat' (first | exact Ext.refl _ | assumption | refine Ext.alloc ?_ _ | refine Ext.ext ?_ _ | refine Ext.drew ?_ | refine Ext.drewN ?_ _))); have hrl := rd_takeI (n := 6) (p := some ⟨w4.heap.size, 0, none⟩) (cap := 6) (L := [0, 1, 50, 100, -1, 101]) (w := w4.alloc (.cells #[.int .i64 0, .int .i64 1, .int .i64 50, .int .i64 100, .int .i64 (-1), .int .i64 101] 3)) (rd_litC w4 3 #[.int .i64 0, .int .i64 1, .int .i64 50, .int .i64 100, .int .i64 (-1), .int .i64 101]) (q + 4) (by omega); have hs1 := run_upto (some ⟨w4.heap.size, 0, none⟩) 6 (q + 4) 6 (by omega); have hs2 := run_uptoAt (some ⟨w4.heap.size, 0, none⟩) 6 (q + 4) 6 (by omega); have hlk : (([0, 1, 50, 100, -1, 101] : List Int).take (q + 4)).length = q + 4 := (by rw [List.length_take]; exact Nat.min_eq_left (by simp; omega)); have H4 := hid (h4.ext XM); have HR := hid (And.intro hrl hlk); have hk1 : 1 ≤ q + 4 ∧ q + 4 ≤ 200 := (by omega); have hb4 := h4.cells.1; have hne4 : w4.heap.size ≠ w.heap.size + 2 := (by have := h4.1.low; omega); clear h4 hrl hlk eq0 hx0 hx1; have hb5 := H4.out.cells.1; generalize q + 4 = k at *)
      | (go_at_call 71; (with_reducible refine (hta.out 61 w4 w3.heap.size k 6 (([0, 1, 50, 100, -1, 101] : List Int).take k) (by omega) H4.out HR.out.1 HR.out.2 hne hk1).mono ?_); rintro e w5 ⟨b, rfl, h5⟩; have H5 := hid h5; clear h5; obtain ⟨hc3, ⟨r0, q0⟩, ⟨⟨s0, s1⟩, u0, u1⟩⟩ := H5.out.cells; have hc4 := H5.out.keep w.heap.size 0 (.slice tp ps.length tc) (by omega) hc3; have hc5 := H5.out.keep (w.heap.size + 1) 1 (.slice dp ds.length dc) (by omega) (H5.out.keep (w.heap.size + 1) 0 (.slice lp ls.length lc) (by omega) hc4))
      | (go_at_call 71; (with_reducible refine (hta.out 61 (w4.alloc (.cells #[.int .i64 0, .int .i64 1, .int .i64 50, .int .i64 100, .int .i64 (-1), .int .i64 101] 3)) w4.heap.size k 6 (([0, 1, 50, 100, -1, 101] : List Int).take k) (by omega) H4.out HR.out.1 HR.out.2 hne4 hk1).mono ?_); rintro e w5 ⟨b, rfl, h5⟩; have H5 := hid h5; clear h5; obtain ⟨hc3, ⟨r0, q0⟩, ⟨⟨s0, s1⟩, u0, u1⟩⟩ := H5.out.cells; have hc4 := H5.out.keep w.heap.size 0 (.slice tp ps.length tc) (by omega) hc3; have hc5 := H5.out.keep (w.heap.size + 1) 1 (.slice dp ds.length dc) (by omega) (H5.out.keep (w.heap.size + 1) 0 (.slice lp ls.length lc) (by omega) hc4))
      | fail)
  all_goals
    clear hcV hcA hcE hcD hc3 hc4 hc5 hb4 r0 q0 s0 s1 u0 u1 htp hta HL H3 HE H4 HR hs1 hs2 e0 e1 XL hg4
    have K := hid (H5.out.fin (.slice tp ps.length tc) (.slice lp ls.length lc) (.slice dp ds.length dc))
    go_wp2
    refine bodyPost_ret (results_cctt _ _ w.heap.size 26 _ _ (w.heap.size + 1) 28 _ _ _ _ rfl K.out.1 Try.underlying26 rfl (by kernel_rfl) rfl K.out.2.1 Try.underlying28 rfl (by kernel_rfl) rfl rfl rfl) rfl ?_
    exact ⟨_, _, _, ps, ls, ds, a, b, rfl, K.out.2.2⟩
theorem spec_DrawWellReached {bs : List Int} (hb : Bts bs) {v : Value} (w : World) (h : Rd w 1 v bs.length (vBytes bs)) :
    Calls Try.prog 30 #[v] w fun e w' => ∃ (t l d : Value) (ps ls ds : List Int) (b : Int), e = .returned (.tuple #[.agg #[t], .agg #[l, d], .int .i64 b]) ∧ TCo w' t l d ps ls ds ∧ Ext w w' := by
  have H0 := hid (tc_start h)
  have Hb := hid hb
  obtain ⟨-, p, cap, rfl, -⟩ := h
  clear hb
  go_enter Try.func30, Try.ntmps30
  go_wp2_with fail
  go_at_call 38
  change Calls _ _ _ (W3 w (.slice p bs.length cap)) _
  generalize W3 w (.slice p bs.length cap) = W0 at *
  refine (spec_tree Hb.out _ H0.out.1.1.1 (by omega)).mono ?_
  rintro e w1 ⟨r, ps, rfl, hp2, hp8, ho, hc, hg⟩
  have H1 := hid (H0.out.step hc hg)
  clear hc hg H0
  obtain ⟨tp, tc, rfl⟩ := own_shape ho
  have HO := hid ho
  clear ho
  go_wp2_with fail
  go_at_call 39
  refine (spec_pathCosts Hb.out tp ps.length tc _ ((H1.out.ext (show Ext w1 (w1.alloc (.cells #[.slice tp ps.length tc] 26)) from (by repeat' (first | exact Ext.refl _ | assumption | refine Ext.alloc ?_ _ | refine Ext.ext ?_ _ | refine Ext.drew ?_ | refine Ext.drewN ?_ _)))).1.1.1) (by omega) (by omega)).mono ?_
  rintro e w2 ⟨l, d, ls, ds, rfl, hl, r1, r2, hc, hg⟩
  obtain ⟨lp, lc, rfl⟩ := rdb_form r1
  obtain ⟨dp, dc, rfl⟩ := rdb_form r2
  have H2 := hid (tcs_mk H1.out rfl (by omega) HO.out hl r1 r2 hc hg)
  clear hl r1 r2 hc hg H1 HO
  go_upto_region 4 with fail
  generalize w2.alloc (.cells #[.slice lp ls.length lc, .slice dp ds.length dc] 28) = V at *
  generalize w1.heap.size = T at *
  generalize w2.heap.size = X at *
  have H3 := H2
  clear H2
  have XL : Ext V (V.alloc (.cells #[.int .i64 0, .int .i64 1, .int .i64 50, .int .i64 81, .int .i64 99, .int .i64 100, .int .i64 (-1), .int .i64 101] 3)).drew := (by repeat' (first | exact Ext.refl _ | assumption | refine Ext.alloc ?_ _ | refine Ext.ext ?_ _ | refine Ext.drew ?_ | refine Ext.drewN ?_ _))
  have HL := hid (And.intro (H3.out.ext XL) (show Rd (V.alloc (.cells #[.int .i64 0, .int .i64 1, .int .i64 50, .int .i64 81, .int .i64 99, .int .i64 100, .int .i64 (-1), .int .i64 101] 3)).drew 1 (.slice (some ⟨V.heap.size, 0, none⟩) 8 8) [0, 1, 50, 81, 99, 100, -1, 101].length (vInts [0, 1, 50, 81, 99, 100, -1, 101]) from (rd_litC V 3 #[.int .i64 0, .int .i64 1, .int .i64 50, .int .i64 81, .int .i64 99, .int .i64 100, .int .i64 (-1), .int .i64 101]).ext (by repeat' (first | exact Ext.refl _ | assumption | refine Ext.alloc ?_ _ | refine Ext.ext ?_ _ | refine Ext.drew ?_ | refine Ext.drewN ?_ _))))
  have htp : Hid (∀ (A : Nat) (W : World), A ≤ 1000 → TCS w W0 W (.slice p bs.length cap) bs A T X (.slice tp ps.length tc) (.slice lp ls.length lc) (.slice dp ds.length dc) ps ls ds → Calls Try.prog 72 #[.pointer (some ⟨w.heap.size + 1 + 1, 0, none⟩), .int .i64 24] W fun e w' => ∃ x : Int, e = .returned (.int .i64 x) ∧ (0 ≤ x ∧ x < 24) ∧ W.grownBy w' (some (w.heap.size + 2)) ∧ TCS w W0 w' (.slice p bs.length cap) bs (A + 1) T X (.slice tp ps.length tc) (.slice lp ls.length lc) (.slice dp ds.length dc) ps ls ds) := fun A W hA h => (spec_pick Hb.out (lo := w.heap.size) (B := w.heap.size + 2) 24 W h.1.1.1.1 (by omega) (by omega)).mono fun e w' ⟨x, a1, b1, b2, a2, a3⟩ => ⟨x, a1, ⟨b1, b2⟩, a3, h.step a2 a3⟩
  have hta : Hid (∀ (A : Nat) (W : World) (G k c : Nat) (L : List Int), A ≤ 1000 → TCS w W0 W (.slice p bs.length cap) bs A T X (.slice tp ps.length tc) (.slice lp ls.length lc) (.slice dp ds.length dc) ps ls ds → Rd W 1 (.slice (some ⟨G, 0, none⟩) k c) k (vInts L) → L.length = k → G ≠ w.heap.size + 2 → 1 ≤ k ∧ k ≤ 200 → Calls Try.prog 71 #[.pointer (some ⟨w.heap.size + 1 + 1, 0, none⟩), .slice (some ⟨G, 0, none⟩) k c] W fun e w' => ∃ x : Int, e = .returned (.int .i64 x) ∧ TCS w W0 w' (.slice p bs.length cap) bs (A + 1) T X (.slice tp ps.length tc) (.slice lp ls.length lc) (.slice dp ds.length dc) ps ls ds) := fun A W G k c L hA h hr hl hne hk => by
    subst hl
    exact (spec_among Hb.out (lo := w.heap.size) (B := w.heap.size + 2) L _ W h.1.1.1.1 hr (fun b o m c e _ => by cases e; exact hne) (by omega) hk).mono fun e w' ⟨x, a1, _, a2, a3⟩ => ⟨x, a1, h.step a2 a3⟩
  have hne : V.heap.size ≠ w.heap.size + 2 := by have := H3.out.1.low; omega
  have hcV := H3.out.cells.1
  have hcA := (H3.out.ext (show Ext V (V.alloc (.cells #[.int .i64 0, .int .i64 1, .int .i64 50, .int .i64 81, .int .i64 99, .int .i64 100, .int .i64 (-1), .int .i64 101] 3)) from (by repeat' (first | exact Ext.refl _ | assumption | refine Ext.alloc ?_ _ | refine Ext.ext ?_ _ | refine Ext.drew ?_ | refine Ext.drewN ?_ _)))).cells.1
  have HE := hid (H3.out.ext (show Ext V V.drew from (by repeat' (first | exact Ext.refl _ | assumption | refine Ext.alloc ?_ _ | refine Ext.ext ?_ _ | refine Ext.drew ?_ | refine Ext.drewN ?_ _))))
  have hcE := HE.out.cells.1
  have hcD := HL.out.1.cells.1
  go_region_held3 (fun w' => w'.cell? ⟨T, 0, none⟩ = some (.slice tp ps.length tc) ∧ w'.cell? ⟨X, 0, none⟩ = some (.slice lp ls.length lc) ∧ w'.cell? ⟨X, 1, none⟩ = some (.slice dp ds.length dc)) (first | exact hcV | exact hcA | exact hcE | exact hcD | exact hc3 | exact hc4 | exact hc5 | exact hb4 | exact hb5)
    (first
      | (go_at_call 72; (with_reducible refine (htp.out 57 _ (by omega) HL.out.1).mono ?_); rintro e w4 ⟨x, rfl, ⟨hx0, hx1⟩, hg4, h4⟩; obtain ⟨q, hq, eq0⟩ := quo11 x hx0 hx1; have e0 : IntKind.i64.wrap (x.tdiv 11) = (q : Int) := (by rw [eq0]; exact IntWalk.i64_in _ (by omega)); have e1 : IntKind.i64.wrap (6 + (q : Int)) = ((q + 6 : Nat) : Int) := (by rw [IntWalk.i64_in _ (by omega)]; omega); have hrl := rd_takeI (n := 8) (TCS.rd HL.out.2 hg4 hne) (q + 6) (by omega); have hs1 := run_upto (some ⟨V.heap.size, 0, none⟩) 8 (q + 6) 8 (by omega); have hs2 := run_uptoAt (some ⟨V.heap.size, 0, none⟩) 8 (q + 6) 8 (by omega); have hlk : (([0, 1, 50, 81, 99, 100, -1, 101] : List Int).take (q + 6)).length = q + 6 := (by rw [List.length_take]; exact Nat.min_eq_left (by simp; omega)); have H4 := hid h4; have HR := hid (And.intro hrl hlk); have hk1 : 1 ≤ q + 6 ∧ q + 6 ≤ 200 := (by omega); clear h4 hrl hlk eq0 hx0 hx1; have hb4 := H4.out.cells.1; generalize q + 6 = k at *)
      | (go_at_call 72; (with_reducible refine (htp.out 57 V.drew (by omega) HE.out).mono ?_); rintro e w4 ⟨x, rfl, ⟨hx0, hx1⟩, hg4, h4⟩; obtain ⟨q, hq, eq0⟩ := quo11 x hx0 hx1; have e0 : IntKind.i64.wrap (x.tdiv 11) = (q : Int) := (by rw [eq0]; exact IntWalk.i64_in _ (by omega)); have e1 : IntKind.i64.wrap (6 + (q : Int)) = ((q + 6 : Nat) : Int) := (by rw [IntWalk.i64_in _ (by omega)]; omega); have XM : Ext w4 (w4.alloc (.cells #[.int .i64 0, .int .i64 1, .int .i64 50, .int .i64 81, .int .i64 99, .int .i64 100, .int .i64 (-1), .int .i64 101] 3)) := ((by repeat' (first | exact Ext.refl _ | assumption | refine Ext.alloc ?_ _ | refine Ext.ext ?_ _ | refine Ext.drew ?_ | refine Ext.drewN ?_ _))); have hrl := rd_takeI (n := 8) (p := some ⟨w4.heap.size, 0, none⟩) (cap := 8) (L := [0, 1, 50, 81, 99, 100, -1, 101]) (w := w4.alloc (.cells #[.int .i64 0, .int .i64 1, .int .i64 50, .int .i64 81, .int .i64 99, .int .i64 100, .int .i64 (-1), .int .i64 101] 3)) (rd_litC w4 3 #[.int .i64 0, .int .i64 1, .int .i64 50, .int .i64 81, .int .i64 99, .int .i64 100, .int .i64 (-1), .int .i64 101]) (q + 6) (by omega); have hs1 := run_upto (some ⟨w4.heap.size, 0, none⟩) 8 (q + 6) 8 (by omega); have hs2 := run_uptoAt (some ⟨w4.heap.size, 0, none⟩) 8 (q + 6) 8 (by omega); have hlk : (([0, 1, 50, 81, 99, 100, -1, 101] : List Int).take (q + 6)).length = q + 6 := (by rw [List.length_take]; exact Nat.min_eq_left (by simp; omega)); have H4 := hid (h4.ext XM); have HR := hid (And.intro hrl hlk); have hk1 : 1 ≤ q + 6 ∧ q + 6 ≤ 200 := (by omega); have hb4 := h4.cells.1; have hne4 : w4.heap.size ≠ w.heap.size + 2 := (by have := h4.1.low; omega); clear h4 hrl hlk eq0 hx0 hx1; have hb5 := H4.out.cells.1; generalize q + 6 = k at *)
      | (go_at_call 71; (with_reducible refine (hta.out 58 w4 V.heap.size k 8 (([0, 1, 50, 81, 99, 100, -1, 101] : List Int).take k) (by omega) H4.out HR.out.1 HR.out.2 hne hk1).mono ?_); rintro e w5 ⟨b, rfl, h5⟩; have H5 := hid h5; clear h5; obtain ⟨hc3, ⟨r0, q0⟩, ⟨⟨s0, s1⟩, u0, u1⟩⟩ := H5.out.cells; have hc4 := H5.out.keep w.heap.size 0 (.slice tp ps.length tc) (by omega) hc3; have hc5 := H5.out.keep (w.heap.size + 1) 1 (.slice dp ds.length dc) (by omega) (H5.out.keep (w.heap.size + 1) 0 (.slice lp ls.length lc) (by omega) hc4))
      | (go_at_call 71; (with_reducible refine (hta.out 58 (w4.alloc (.cells #[.int .i64 0, .int .i64 1, .int .i64 50, .int .i64 81, .int .i64 99, .int .i64 100, .int .i64 (-1), .int .i64 101] 3)) w4.heap.size k 8 (([0, 1, 50, 81, 99, 100, -1, 101] : List Int).take k) (by omega) H4.out HR.out.1 HR.out.2 hne4 hk1).mono ?_); rintro e w5 ⟨b, rfl, h5⟩; have H5 := hid h5; clear h5; obtain ⟨hc3, ⟨r0, q0⟩, ⟨⟨s0, s1⟩, u0, u1⟩⟩ := H5.out.cells; have hc4 := H5.out.keep w.heap.size 0 (.slice tp ps.length tc) (by omega) hc3; have hc5 := H5.out.keep (w.heap.size + 1) 1 (.slice dp ds.length dc) (by omega) (H5.out.keep (w.heap.size + 1) 0 (.slice lp ls.length lc) (by omega) hc4))
      | fail)
  all_goals
    clear hcV hcA hcE hcD hc3 hc4 hc5 hb4 r0 q0 s0 s1 u0 u1 htp hta HL H3 HE H4 HR hs1 hs2 e0 e1 XL hg4
    have K := hid (H5.out.fin (.slice tp ps.length tc) (.slice lp ls.length lc) (.slice dp ds.length dc))
    go_wp2
    refine bodyPost_ret (results_cct _ _ w.heap.size 26 _ _ (w.heap.size + 1) 28 _ _ _ rfl K.out.1 Try.underlying26 rfl (by kernel_rfl) rfl K.out.2.1 Try.underlying28 rfl (by kernel_rfl) rfl rfl) rfl ?_
    exact ⟨_, _, _, ps, ls, ds, b, rfl, K.out.2.2⟩
end Go.Proofs.Ytppdbnopgcjgjaa
namespace Go.Proofs.Ytppdbnopgcjgjaa
open Go.RowKit
set_option maxHeartbeats 2000000
set_option maxRecDepth 100000
def TCT (w W0 W : World) (v : Value) (bs : List Int) (A T : Nat) (t : Value) (ps : List Int) : Prop :=
  TCP w W0 W v bs A ∧ W0.heap.size ≤ T ∧ W.heap[T]? = some (.cells #[t] 26 (0, 0)) ∧ ps.length ≤ 30 ∧ RdB W W0.heap.size t ps.length (vInts ps)
theorem TCT.step {w W0 W W' : World} {v : Value} {bs : List Int} {A A' T : Nat} {t : Value} {ps : List Int} (h : TCT w W0 W v bs A T t ps) (hc : Cs W' w.heap.size (w.heap.size + 2) v bs A') (hg : W.grownBy W' (some (w.heap.size + 2))) : TCT w W0 W' v bs A' T t ps := by
  have := h.1.low
  exact ⟨h.1.step hc hg, h.2.1, blk_grow h.2.2.1 hg (fun e => by have := Option.some.inj e; have := h.2.1; omega), h.2.2.2.1, h.2.2.2.2.step (by omega) hg⟩
theorem TCT.ext {w W0 W W' : World} {v : Value} {bs : List Int} {A T : Nat} {t : Value} {ps : List Int} (h : TCT w W0 W v bs A T t ps) (hx : Ext W W') : TCT w W0 W' v bs A T t ps := h.step (h.1.1.1.1.ext hx) (hx.grownBy _)
/-- Another tree laid into the variable. -/
theorem TCT.put {w W0 W : World} {v : Value} {bs : List Int} {A T : Nat} {t u : Value} {ps qs : List Int} (h : TCT w W0 W v bs A T t ps) (hq : qs.length ≤ 30) (hu : RdB W W0.heap.size u qs.length (vInts qs)) (hne : ∀ b o m c, u = .slice (some ⟨b, o, none⟩) m c → 0 < m → b ≠ T) : TCT w W0 (W.setCell ⟨T, 0, none⟩ u) v bs A T u qs := by
  obtain ⟨h1, h2, h3, h4, h5⟩ := h
  have hlow := h1.low
  refine ⟨⟨⟨h1.1.1.set h2 u, h1.1.2⟩, blk_far h1.2.1 (by omega), blk_far h1.2.2 (by omega)⟩, h2, box1_set h3 u, hq, ?_⟩
  exact hu.away (grownBy_set W ⟨T, 0, none⟩ u) (fun b o m c e hm e2 => hne b o m c e hm (Option.some.inj e2).symm)
theorem TCT.fin {w W0 W : World} {v : Value} {bs : List Int} {A T : Nat} {t l d : Value} {ps ls ds : List Int} (h : TCT w W0 W v bs A T t ps) (hl : ls.length ≤ 30 ∧ ds.length ≤ 30) (r1 : RdB W W0.heap.size l ls.length (vInts ls)) (r2 : RdB W W0.heap.size d ds.length (vInts ds)) (t' l' d' : Value) :
    (((W.setCell ⟨w.heap.size, 0, none⟩ t').setCell ⟨w.heap.size + 1, 0, none⟩ l').setCell ⟨w.heap.size + 1, 1, none⟩ d').heap[w.heap.size]? = some (.cells #[t'] 26 (0, 0)) ∧
    (((W.setCell ⟨w.heap.size, 0, none⟩ t').setCell ⟨w.heap.size + 1, 0, none⟩ l').setCell ⟨w.heap.size + 1, 1, none⟩ d').heap[w.heap.size + 1]? = some (.cells #[l', d'] 28 (0, 0)) ∧
    TCo (((W.setCell ⟨w.heap.size, 0, none⟩ t').setCell ⟨w.heap.size + 1, 0, none⟩ l').setCell ⟨w.heap.size + 1, 1, none⟩ d') t l d ps ls ds ∧ Ext w (((W.setCell ⟨w.heap.size, 0, none⟩ t').setCell ⟨w.heap.size + 1, 0, none⟩ l').setCell ⟨w.heap.size + 1, 1, none⟩ d') := by
  have hlow := h.1.low
  have hw : Ext w W := h.1.1.2.1.grown h.1.1.1.2.1 (fun k e => by have := Option.some.inj e; omega)
  have far : ∀ {u : Value} {n : Nat} {cs : List Value} {W1 : World}, RdB W1 W0.heap.size u n cs → ∀ (j k : Nat) (x : Value), j < W0.heap.size → RdB (W1.setCell ⟨j, k, none⟩ x) W0.heap.size u n cs := fun hr j k x hj =>
    hr.away (grownBy_set _ ⟨j, k, none⟩ x) (fun b o m c e hm e2 => by have := hr.2 b o m c e hm; have e3 : j = b := Option.some.inj e2; omega)
  have all : ∀ {u : Value} {n : Nat} {cs : List Value}, RdB W W0.heap.size u n cs → Rd (((W.setCell ⟨w.heap.size, 0, none⟩ t').setCell ⟨w.heap.size + 1, 0, none⟩ l').setCell ⟨w.heap.size + 1, 1, none⟩ d') 1 u n cs := fun hr =>
    (far (far (far hr _ 0 t' (by omega)) _ 0 l' (by omega)) _ 1 d' (by omega)).1
  refine ⟨blk_far (blk_far (box1_set h.1.2.1 _) (by omega)) (by omega), box2_set (blk_far h.1.2.2 (by omega)) _ _, ⟨⟨h.2.2.2.1, hl.1, hl.2⟩, all h.2.2.2.2, all r1, all r2⟩, ?_⟩
  exact ((hw.setCell (Nat.le_refl _) _).setCell (by dsimp only; omega) _).setCell (by dsimp only; omega) _
theorem spec_DrawIsValidCosts {bs : List Int} (hb : Bts bs) {v : Value} (w : World) (h : Rd w 1 v bs.length (vBytes bs)) :
    Calls Try.prog 52 #[v] w fun e w' => ∃ (t l d : Value) (ps ls ds : List Int), e = .returned (.tuple #[.agg #[t], .agg #[l, d]]) ∧ TCo w' t l d ps ls ds ∧ Ext w w' := by
  have H0 := hid (tc_start h)
  have Hb := hid hb
  obtain ⟨-, p, cap, rfl, -⟩ := h
  clear hb
  go_enter Try.func52, Try.ntmps52
  go_wp2_with fail
  go_at_call 38
  change Calls _ _ _ (W3 w (.slice p bs.length cap)) _
  generalize W3 w (.slice p bs.length cap) = W0 at *
  refine (spec_tree Hb.out _ H0.out.1.1.1 (by omega)).mono ?_
  rintro e w1 ⟨r, ps, rfl, hp2, hp8, ho, hc, hg⟩
  have X1 : Ext w1 (w1.alloc (.cells #[r] 26)) := (by repeat' (first | exact Ext.refl _ | assumption | refine Ext.alloc ?_ _ | refine Ext.ext ?_ _ | refine Ext.drew ?_ | refine Ext.drewN ?_ _))
  have H1 : Hid (TCT w W0 (w1.alloc (.cells #[r] 26)) (.slice p bs.length cap) bs 7 w1.heap.size r ps) := ⟨(H0.out.step hc hg).ext X1, (H0.out.step hc hg).low.2, heap_at _ rfl, by omega, (RdB.own ho).ext X1⟩
  obtain ⟨tp, tc, rfl⟩ := own_shape ho
  clear hc hg H0 ho
  go_upto_region 3 with fail
  generalize (w1.alloc (.cells #[.slice tp ps.length tc] 26)) = V at *
  generalize w1.heap.size = T at *
  clear X1
  go_wp2_with fail
  go_at_call 83
  refine (spec_one Hb.out 12 _ H1.out.1.1.1.1 (by omega) (by omega)).mono ?_
  rintro e w2 ⟨y, rfl, hc, hg⟩
  have H2 := hid (H1.out.step hc hg)
  clear hc hg H1
  cases y
  · go_upto_region 5 with fail
    have X0 : Ext w2 w2.drew := (by repeat' (first | exact Ext.refl _ | assumption | refine Ext.alloc ?_ _ | refine Ext.ext ?_ _ | refine Ext.drew ?_ | refine Ext.drewN ?_ _))
    have HD := hid (H2.out.ext X0)
    obtain ⟨b0, f0, hT0⟩ := box1 H2.out.2.2.1
    have d0 := X0.cell b0
    have hpc : Hid (Calls Try.prog 39 #[.pointer (some ⟨w.heap.size + 1 + 1, 0, none⟩), .agg #[.slice tp ps.length tc]] w2.drew fun e w' => ∃ (l d : Value) (ls ds : List Int), e = .returned (.agg #[l, d]) ∧ (ls.length ≤ 30 ∧ ds.length ≤ 30) ∧ RdB w' w2.drew.heap.size l ls.length (vInts ls) ∧ RdB w' w2.drew.heap.size d ds.length (vInts ds) ∧ TCT w W0 w' (.slice p bs.length cap) bs 1000 T (.slice tp ps.length tc) ps) := (spec_pathCosts Hb.out (lo := w.heap.size) (B := w.heap.size + 2) tp ps.length tc w2.drew HD.out.1.1.1.1 (by omega) (by omega)).mono fun e w' ⟨l, d, ls, ds, a1, a2, a3, a4, a5, a6⟩ => ⟨l, d, ls, ds, a1, a2, a3, a4, HD.out.step (a5.more (by omega)) a6⟩
    have hvs : W0.heap.size ≤ w2.drew.heap.size := HD.out.1.low.2
    go_region_held3 (fun w' => w'.cell? ⟨T, 0, none⟩ = some (.slice tp ps.length tc)) (first | exact b0 | exact d0 | exact c3 | exact c4 | exact c5)
      (first
        | (go_at_call 39; (with_reducible refine hpc.out.mono ?_); rintro e w5 ⟨l, d, ls, ds, rfl, hl, r1, r2, h5⟩; obtain ⟨lp, lc, rfl⟩ := rdb_form r1; obtain ⟨dp, dc, rfl⟩ := rdb_form r2; have H5 := hid (And.intro h5 (And.intro hl (And.intro (r1.low hvs) (r2.low hvs)))); clear h5 hl r1 r2; obtain ⟨c3, c3f, hT5⟩ := box1 H5.out.1.2.2.1; obtain ⟨r0, q0, hR0⟩ := box1 H5.out.1.1.2.1; obtain ⟨⟨s0, s1⟩, ⟨u0, u1⟩, hS0⟩ := box2 H5.out.1.1.2.2; have hTT := H5.out.1.2.1; have hlw := H5.out.1.1.low; have c4 := (grownBy_set w5 ⟨w.heap.size, 0, none⟩ (.slice tp ps.length tc)).cell c3 (fun e => (by have := Option.some.inj e; dsimp only at this; omega)); have c4b := (grownBy_set (w5.setCell ⟨w.heap.size, 0, none⟩ (.slice tp ps.length tc)) ⟨w.heap.size + 1, 0, none⟩ (.slice lp ls.length lc)).cell c4 (fun e => (by have := Option.some.inj e; dsimp only at this; omega)); have c5 := (grownBy_set ((w5.setCell ⟨w.heap.size, 0, none⟩ (.slice tp ps.length tc)).setCell ⟨w.heap.size + 1, 0, none⟩ (.slice lp ls.length lc)) ⟨w.heap.size + 1, 1, none⟩ (.slice dp ds.length dc)).cell c4b (fun e => (by have := Option.some.inj e; dsimp only at this; omega)))
        | fail)
    clear b0 d0 f0 c3 c3f c4 c4b c5 r0 q0 s0 s1 u0 u1 hpc HD H2
    have K := hid (H5.out.1.fin H5.out.2.1 H5.out.2.2.1 H5.out.2.2.2 (.slice tp ps.length tc) (.slice lp ls.length lc) (.slice dp ds.length dc))
    go_wp2
    refine bodyPost_ret (results_cc _ _ w.heap.size 26 _ _ (w.heap.size + 1) 28 _ _ rfl K.out.1 Try.underlying26 rfl (by kernel_rfl) rfl K.out.2.1 Try.underlying28 rfl (by kernel_rfl) rfl) rfl ?_
    exact ⟨_, _, _, ps, ls, ds, rfl, K.out.2.2⟩
  · go_wp2_with fail
    go_at_call 84
    refine (spec_anyTree Hb.out _ H2.out.1.1.1.1 (by omega)).mono ?_
    rintro e w3 ⟨u, qs, rfl, hq, hu, hc, hg⟩
    have hT2 := (Array.getElem?_eq_some_iff.1 H2.out.2.2.1).1
    have H3 := hid ((H2.out.step hc hg).put (by omega) ((RdB.own hu).low H2.out.1.low.2) (fun b o m c e hm e2 => by have := (RdB.own hu).2 b o m c e hm; omega))
    obtain ⟨b3, f3, hT3⟩ := box1 (H2.out.step hc hg).2.2.1
    obtain ⟨up, uc, rfl⟩ := own_shape hu
    clear hu hc hg H2
    go_upto_region 5 with fail
    generalize w3.setCell ⟨T, 0, none⟩ (.slice up qs.length uc) = V2 at H3 ⊢
    clear b3 f3 hp2 hp8
    have X0 : Ext V2 V2.drew := (by repeat' (first | exact Ext.refl _ | assumption | refine Ext.alloc ?_ _ | refine Ext.ext ?_ _ | refine Ext.drew ?_ | refine Ext.drewN ?_ _))
    have HD := hid (H3.out.ext X0)
    obtain ⟨b0, f0, hT0⟩ := box1 H3.out.2.2.1
    have d0 := X0.cell b0
    have hpc : Hid (Calls Try.prog 39 #[.pointer (some ⟨w.heap.size + 1 + 1, 0, none⟩), .agg #[.slice up qs.length uc]] V2.drew fun e w' => ∃ (l d : Value) (ls ds : List Int), e = .returned (.agg #[l, d]) ∧ (ls.length ≤ 30 ∧ ds.length ≤ 30) ∧ RdB w' V2.drew.heap.size l ls.length (vInts ls) ∧ RdB w' V2.drew.heap.size d ds.length (vInts ds) ∧ TCT w W0 w' (.slice p bs.length cap) bs 1000 T (.slice up qs.length uc) qs) := (spec_pathCosts Hb.out (lo := w.heap.size) (B := w.heap.size + 2) up qs.length uc V2.drew HD.out.1.1.1.1 (by omega) (by omega)).mono fun e w' ⟨l, d, ls, ds, a1, a2, a3, a4, a5, a6⟩ => ⟨l, d, ls, ds, a1, a2, a3, a4, HD.out.step (a5.more (by omega)) a6⟩
    have hvs : W0.heap.size ≤ V2.drew.heap.size := HD.out.1.low.2
    go_region_held3 (fun w' => w'.cell? ⟨T, 0, none⟩ = some (.slice up qs.length uc)) (first | exact b0 | exact d0 | exact c3 | exact c4 | exact c5)
      (first
        | (go_at_call 39; (with_reducible refine hpc.out.mono ?_); rintro e w5 ⟨l, d, ls, ds, rfl, hl, r1, r2, h5⟩; obtain ⟨lp, lc, rfl⟩ := rdb_form r1; obtain ⟨dp, dc, rfl⟩ := rdb_form r2; have H5 := hid (And.intro h5 (And.intro hl (And.intro (r1.low hvs) (r2.low hvs)))); clear h5 hl r1 r2; obtain ⟨c3, c3f, hT5⟩ := box1 H5.out.1.2.2.1; obtain ⟨r0, q0, hR0⟩ := box1 H5.out.1.1.2.1; obtain ⟨⟨s0, s1⟩, ⟨u0, u1⟩, hS0⟩ := box2 H5.out.1.1.2.2; have hTT := H5.out.1.2.1; have hlw := H5.out.1.1.low; have c4 := (grownBy_set w5 ⟨w.heap.size, 0, none⟩ (.slice up qs.length uc)).cell c3 (fun e => (by have := Option.some.inj e; dsimp only at this; omega)); have c4b := (grownBy_set (w5.setCell ⟨w.heap.size, 0, none⟩ (.slice up qs.length uc)) ⟨w.heap.size + 1, 0, none⟩ (.slice lp ls.length lc)).cell c4 (fun e => (by have := Option.some.inj e; dsimp only at this; omega)); have c5 := (grownBy_set ((w5.setCell ⟨w.heap.size, 0, none⟩ (.slice up qs.length uc)).setCell ⟨w.heap.size + 1, 0, none⟩ (.slice lp ls.length lc)) ⟨w.heap.size + 1, 1, none⟩ (.slice dp ds.length dc)).cell c4b (fun e => (by have := Option.some.inj e; dsimp only at this; omega)))
        | fail)
    clear b0 d0 f0 c3 c3f c4 c4b c5 r0 q0 s0 s1 u0 u1 hpc HD H3
    have K := hid (H5.out.1.fin H5.out.2.1 H5.out.2.2.1 H5.out.2.2.2 (.slice up qs.length uc) (.slice lp ls.length lc) (.slice dp ds.length dc))
    go_wp2
    refine bodyPost_ret (results_cc _ _ w.heap.size 26 _ _ (w.heap.size + 1) 28 _ _ rfl K.out.1 Try.underlying26 rfl (by kernel_rfl) rfl K.out.2.1 Try.underlying28 rfl (by kernel_rfl) rfl) rfl ?_
    exact ⟨_, _, _, qs, ls, ds, rfl, K.out.2.2⟩
theorem rd_not {w : World} {u : Value} {xs : List Int} (h : Rd w 1 u xs.length (vInts xs)) {T t : Nat} {cs : Array Value} (hT : w.heap[T]? = some (.cells cs t (0, 0))) (hc : ∀ (k : Nat) (x : Int), cs[k]? ≠ some (.int .i64 x)) : ∀ b o m c, u = .slice (some ⟨b, o, none⟩) m c → 0 < m → b ≠ T := by
  intro b o m c e hm e2
  obtain ⟨-, p, cap, e3, h4⟩ := h
  rw [e] at e3
  cases e3
  obtain ⟨b', off, e5, h6⟩ := h4.resolve_left (by omega)
  cases e5
  subst e2
  have h0 := elem1 (Value.int .i64) 0 xs h6 0 hm
  rw [cell_of_row w b _ cs t (0, 0) hT] at h0
  exact hc _ _ h0
theorem nil1_no (k : Nat) (x : Int) : (#[Value.slice none 0 0] : Array Value)[k]? ≠ some (.int .i64 x) := by
  match k with
  | 0 => simp
  | k + 1 => simp
theorem nil2_no (k : Nat) (x : Int) : (#[Value.slice none 0 0, Value.slice none 0 0] : Array Value)[k]? ≠ some (.int .i64 x) := by
  match k with
  | 0 => simp
  | 1 => simp
  | k + 2 => simp
/-- What another drew, laid into results of one's own. -/
theorem TCo.laid {w W : World} {t l d : Value} {ps ls ds : List Int} (h : TCo W t l d ps ls ds) (hx : Ext ((w.alloc (.cells #[.slice none 0 0] 26)).alloc (.cells #[.slice none 0 0, .slice none 0 0] 28)) W) (t' l' d' : Value) :
    (((W.setCell ⟨w.heap.size, 0, none⟩ t').setCell ⟨w.heap.size + 1, 0, none⟩ l').setCell ⟨w.heap.size + 1, 1, none⟩ d').heap[w.heap.size]? = some (.cells #[t'] 26 (0, 0)) ∧
    (((W.setCell ⟨w.heap.size, 0, none⟩ t').setCell ⟨w.heap.size + 1, 0, none⟩ l').setCell ⟨w.heap.size + 1, 1, none⟩ d').heap[w.heap.size + 1]? = some (.cells #[l', d'] 28 (0, 0)) ∧
    TCo (((W.setCell ⟨w.heap.size, 0, none⟩ t').setCell ⟨w.heap.size + 1, 0, none⟩ l').setCell ⟨w.heap.size + 1, 1, none⟩ d') t l d ps ls ds ∧ Ext w (((W.setCell ⟨w.heap.size, 0, none⟩ t').setCell ⟨w.heap.size + 1, 0, none⟩ l').setCell ⟨w.heap.size + 1, 1, none⟩ d') ∧
    (W.heap[w.heap.size]? = some (.cells #[.slice none 0 0] 26 (0, 0)) ∧ W.heap[w.heap.size + 1]? = some (.cells #[.slice none 0 0, .slice none 0 0] 28 (0, 0))) := by
  have k1 : W.heap[w.heap.size]? = some (.cells #[.slice none 0 0] 26 (0, 0)) := blk_ext (heap_old (heap_at _ rfl) _) hx
  have k2 : W.heap[w.heap.size + 1]? = some (.cells #[.slice none 0 0, .slice none 0 0] 28 (0, 0)) := blk_ext (heap_at _ (by simp)) hx
  have hw : Ext w W := (show Ext w _ from (by repeat' (first | exact Ext.refl _ | assumption | refine Ext.alloc ?_ _ | refine Ext.ext ?_ _ | refine Ext.drew ?_ | refine Ext.drewN ?_ _))).trans hx
  have far : ∀ {u : Value} {xs : List Int}, Rd W 1 u xs.length (vInts xs) → Rd (((W.setCell ⟨w.heap.size, 0, none⟩ t').setCell ⟨w.heap.size + 1, 0, none⟩ l').setCell ⟨w.heap.size + 1, 1, none⟩ d') 1 u xs.length (vInts xs) := fun hr => by
    have n1 := rd_not hr k1 nil1_no
    have n2 := rd_not hr k2 nil2_no
    refine rd_turn (rd_turn (rd_turn hr (grownBy_set _ ⟨w.heap.size, 0, none⟩ t') ?_) (grownBy_set _ ⟨w.heap.size + 1, 0, none⟩ l') ?_) (grownBy_set _ ⟨w.heap.size + 1, 1, none⟩ d') ?_
    · exact fun b o m c e hm e2 => n1 b o m c e hm (Option.some.inj e2).symm
    · exact fun b o m c e hm e2 => n2 b o m c e hm (Option.some.inj e2).symm
    · exact fun b o m c e hm e2 => n2 b o m c e hm (Option.some.inj e2).symm
  exact ⟨blk_far (blk_far (box1_set k1 _) (by omega)) (by omega), box2_set (blk_far k2 (by omega)) _ _, ⟨h.1, far h.2.1, far h.2.2.1, far h.2.2.2⟩, ((hw.setCell (Nat.le_refl _) _).setCell (by dsimp only; omega) _).setCell (by dsimp only; omega) _, k1, k2⟩
theorem rd_form {w : World} {k n : Nat} {v : Value} {cs : List Value} (h : Rd w k v n cs) : ∃ p c, v = .slice p n c := by
  obtain ⟨-, p, c, e, -⟩ := h
  exact ⟨p, c, e⟩
theorem spec_DrawSlowestReceiver {bs : List Int} (hb : Bts bs) {v : Value} (w : World) (h : Rd w 1 v bs.length (vBytes bs)) :
    Calls Try.prog 14 #[v] w fun e w' => ∃ (t l d : Value) (ps ls ds : List Int), e = .returned (.tuple #[.agg #[t], .agg #[l, d]]) ∧ TCo w' t l d ps ls ds ∧ Ext w w' := by
  have Hc := hid (fun w h => spec_DrawIsValidCosts hb (v := v) w h)
  have Hr := hid h
  obtain ⟨-, p, cap, rfl, -⟩ := h
  clear hb
  go_enter Try.func14, Try.ntmps14
  go_wp2_with fail
  go_at_call 52
  have XA : Ext w ((w.alloc (.cells #[.slice none 0 0] 26)).alloc (.cells #[.slice none 0 0, .slice none 0 0] 28)) := (by repeat' (first | exact Ext.refl _ | assumption | refine Ext.alloc ?_ _ | refine Ext.ext ?_ _ | refine Ext.drew ?_ | refine Ext.drewN ?_ _))
  refine (Hc.out _ (Hr.out.ext XA)).mono ?_
  rintro e w1 ⟨t, l, d, ps, ls, ds, rfl, ho, hx⟩
  obtain ⟨tp, tc, rfl⟩ := rd_form ho.2.1
  obtain ⟨lp, lc, rfl⟩ := rd_form ho.2.2.1
  obtain ⟨dp, dc, rfl⟩ := rd_form ho.2.2.2
  have K := hid (ho.laid hx (.slice tp ps.length tc) (.slice lp ls.length lc) (.slice dp ds.length dc))
  obtain ⟨r0, q0, hR0⟩ := box1 K.out.2.2.2.2.1
  obtain ⟨⟨s0, s1⟩, ⟨u0, u1⟩, hS0⟩ := box2 K.out.2.2.2.2.2
  clear ho hx XA Hc Hr
  go_wp2
  refine bodyPost_ret (results_cc _ _ w.heap.size 26 _ _ (w.heap.size + 1) 28 _ _ rfl K.out.1 Try.underlying26 rfl (by kernel_rfl) rfl K.out.2.1 Try.underlying28 rfl (by kernel_rfl) rfl) rfl ?_
  exact ⟨_, _, _, ps, ls, ds, rfl, K.out.2.2.1, K.out.2.2.2.1⟩
theorem spec_DrawWorstReceiver {bs : List Int} (hb : Bts bs) {v : Value} (w : World) (h : Rd w 1 v bs.length (vBytes bs)) :
    Calls Try.prog 26 #[v] w fun e w' => ∃ (t l d : Value) (ps ls ds : List Int), e = .returned (.tuple #[.agg #[t], .agg #[l, d]]) ∧ TCo w' t l d ps ls ds ∧ Ext w w' := by
  have Hc := hid (fun w h => spec_DrawIsValidCosts hb (v := v) w h)
  have Hr := hid h
  obtain ⟨-, p, cap, rfl, -⟩ := h
  clear hb
  go_enter Try.func26, Try.ntmps26
  go_wp2_with fail
  go_at_call 52
  have XA : Ext w ((w.alloc (.cells #[.slice none 0 0] 26)).alloc (.cells #[.slice none 0 0, .slice none 0 0] 28)) := (by repeat' (first | exact Ext.refl _ | assumption | refine Ext.alloc ?_ _ | refine Ext.ext ?_ _ | refine Ext.drew ?_ | refine Ext.drewN ?_ _))
  refine (Hc.out _ (Hr.out.ext XA)).mono ?_
  rintro e w1 ⟨t, l, d, ps, ls, ds, rfl, ho, hx⟩
  obtain ⟨tp, tc, rfl⟩ := rd_form ho.2.1
  obtain ⟨lp, lc, rfl⟩ := rd_form ho.2.2.1
  obtain ⟨dp, dc, rfl⟩ := rd_form ho.2.2.2
  have K := hid (ho.laid hx (.slice tp ps.length tc) (.slice lp ls.length lc) (.slice dp ds.length dc))
  obtain ⟨r0, q0, hR0⟩ := box1 K.out.2.2.2.2.1
  obtain ⟨⟨s0, s1⟩, ⟨u0, u1⟩, hS0⟩ := box2 K.out.2.2.2.2.2
  clear ho hx XA Hc Hr
  go_wp2
  refine bodyPost_ret (results_cc _ _ w.heap.size 26 _ _ (w.heap.size + 1) 28 _ _ rfl K.out.1 Try.underlying26 rfl (by kernel_rfl) rfl K.out.2.1 Try.underlying28 rfl (by kernel_rfl) rfl) rfl ?_
  exact ⟨_, _, _, ps, ls, ds, rfl, K.out.2.2.1, K.out.2.2.2.1⟩
theorem spec_DrawShareTo {bs : List Int} (hb : Bts bs) {v : Value} (w : World) (h : Rd w 1 v bs.length (vBytes bs)) :
    Calls Try.prog 20 #[v] w fun e w' => ∃ (t l d : Value) (ps ls ds : List Int) (a : Int), e = .returned (.tuple #[.agg #[t], .agg #[l, d], .int .i64 a]) ∧ TCo w' t l d ps ls ds ∧ Ext w w' := by
  have Hc := hid (fun w h => spec_DrawDelayTo hb (v := v) w h)
  have Hr := hid h
  obtain ⟨-, p, cap, rfl, -⟩ := h
  clear hb
  go_enter Try.func20, Try.ntmps20
  go_wp2_with fail
  go_at_call 18
  have XA : Ext w ((w.alloc (.cells #[.slice none 0 0] 26)).alloc (.cells #[.slice none 0 0, .slice none 0 0] 28)) := (by repeat' (first | exact Ext.refl _ | assumption | refine Ext.alloc ?_ _ | refine Ext.ext ?_ _ | refine Ext.drew ?_ | refine Ext.drewN ?_ _))
  refine (Hc.out _ (Hr.out.ext XA)).mono ?_
  rintro e w1 ⟨t, l, d, ps, ls, ds, a, rfl, ho, hx⟩
  obtain ⟨tp, tc, rfl⟩ := rd_form ho.2.1
  obtain ⟨lp, lc, rfl⟩ := rd_form ho.2.2.1
  obtain ⟨dp, dc, rfl⟩ := rd_form ho.2.2.2
  have K := hid (ho.laid hx (.slice tp ps.length tc) (.slice lp ls.length lc) (.slice dp ds.length dc))
  obtain ⟨r0, q0, hR0⟩ := box1 K.out.2.2.2.2.1
  obtain ⟨⟨s0, s1⟩, ⟨u0, u1⟩, hS0⟩ := box2 K.out.2.2.2.2.2
  clear ho hx XA Hc Hr
  go_wp2
  refine bodyPost_ret (results_cct _ _ w.heap.size 26 _ _ (w.heap.size + 1) 28 _ _ _ rfl K.out.1 Try.underlying26 rfl (by kernel_rfl) rfl K.out.2.1 Try.underlying28 rfl (by kernel_rfl) rfl rfl) rfl ?_
  exact ⟨_, _, _, ps, ls, ds, a, rfl, K.out.2.2.1, K.out.2.2.2.1⟩
end Go.Proofs.Ytppdbnopgcjgjaa
