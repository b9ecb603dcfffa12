/- What the law of branches draws. -/
import Derived.Test.YtlaochpkelbchaaGreatDoorJ13
import Derived.Test.YtlaochpkelbchaaGreatDoorKWCurT
import Derived.Test.YtlaochpkelbchaaGreatDoorKWCurW
import Derived.Test.YtlaochpkelbchaaGreatDoorKWCurQ
import Derived.Test.YtlaochpkelbchaaGreatDoorKWGrpT
import Derived.Deep.RegionHeld3
namespace Go
section
variable {P : Program} {fn : Func} {p q u : Tmp} {ty ty2 : TypeId} {tmps : Array Value} {w : World} {g g2 : Nat} {t t2 : TypeId} {cs cs2 : Array Value} {d d2 : TypeDesc} {a : Value}
theorem results_gg (hp : tmps.getD p undef = .pointer (some ⟨g, 0, none⟩)) (hg : w.heap[g]? = some (.cells cs t (0, 0))) (hu : P.underlying ty = some d) (hd : (match d with | .struct _ | .array _ _ => true | _ => false) = true) (hi : (P.info? ty).map (·.size) = some cs.size)
    (hq : tmps.getD q undef = .pointer (some ⟨g2, 0, none⟩)) (hg2 : w.heap[g2]? = some (.cells cs2 t2 (0, 0))) (hu2 : P.underlying ty2 = some d2) (hd2 : (match d2 with | .struct _ | .array _ _ => true | _ => false) = true) (hi2 : (P.info? ty2).map (·.size) = some cs2.size)
    (h : fn.results = #[.cell p ty, .cell q ty2]) : (results fn tmps).run P w = .ok (.tuple #[.agg cs, .agg cs2]) w := by
  simp only [Array.getD_eq_getD_getElem?] at hp hq
  simp only [results, h]
  simp [Sem.run_bind, Result.andThen, hp, hq, asAddr, run_loadVar_row w g t ty cs (0, 0) d hg hu hd hi, run_loadVar_row w g2 t2 ty2 cs2 (0, 0) d2 hg2 hu2 hd2 hi2]
theorem results_ggt (hp : tmps.getD p undef = .pointer (some ⟨g, 0, none⟩)) (hg : w.heap[g]? = some (.cells cs t (0, 0))) (hu : P.underlying ty = some d) (hd : (match d with | .struct _ | .array _ _ => true | _ => false) = true) (hi : (P.info? ty).map (·.size) = some cs.size)
    (hq : tmps.getD q undef = .pointer (some ⟨g2, 0, none⟩)) (hg2 : w.heap[g2]? = some (.cells cs2 t2 (0, 0))) (hu2 : P.underlying ty2 = some d2) (hd2 : (match d2 with | .struct _ | .array _ _ => true | _ => false) = true) (hi2 : (P.info? ty2).map (·.size) = some cs2.size)
    (h : fn.results = #[.cell p ty, .cell q ty2, .tmp u]) (ha : tmps.getD u undef = a) : (results fn tmps).run P w = .ok (.tuple #[.agg cs, .agg cs2, a]) w := by
  simp only [Array.getD_eq_getD_getElem?] at hp hq ha
  simp only [results, h]
  simp [Sem.run_bind, Result.andThen, hp, hq, ha, asAddr, run_loadVar_row w g t ty cs (0, 0) d hg hu hd hi, run_loadVar_row w g2 t2 ty2 cs2 (0, 0) d2 hg2 hu2 hd2 hi2]
end
end Go
namespace Go.Proofs.YtlaochpkelbchaaGreatDoor
open Go.RowKit
set_option maxHeartbeats 4000000
set_option maxRecDepth 100000
theorem blkFar {W : World} {T D : Nat} {o : Obj} {i : Nat} {x : Value} (ho : W.heap[T]? = some o) (hne : T ≠ D) : (W.setCell ⟨D, i, none⟩ x).heap[T]? = some o := set_other ho (by dsimp only; exact hne) _
theorem rdbForm {w : World} {lo2 n : Nat} {v : Value} {cs : List Value} (h : RdB w lo2 v n cs) : ∃ p c, v = .slice p n c := by
  obtain ⟨⟨-, p, c, e, -⟩, -⟩ := h
  exact ⟨p, c, e⟩
/-- The results' boxes and the cursor's. -/
def G3 (w : World) (v : Value) : World := ((w.alloc (.cells #[.slice none 0 0] 26)).alloc (.cells #[.string ⟨#[]⟩, .slice none 0 0] 28)).alloc (.cells #[v, .int .i64 0, .int .u64 0] 47)
/-- While they are drawn, from the cursor on. -/
def TGP (w W0 W : World) (v : Value) (bs : List Int) (A : Nat) : Prop :=
  (Dr W0 W w.heap.size (w.heap.size + 2) v bs A ∧ Ext w W0 ∧ w.heap.size + 3 ≤ W0.heap.size) ∧
  (W.heap[w.heap.size]? = some (.cells #[.slice none 0 0] 26 (0, 0)) ∧ W.heap[w.heap.size + 1]? = some (.cells #[.string ⟨#[]⟩, .slice none 0 0] 28 (0, 0)))
theorem tg_start {w : World} {v : Value} {bs : List Int} (h : Rd w 1 v bs.length (vBytes bs)) : TGP w (G3 w v) (G3 w v) v bs 0 := by
  have hx : Ext w (G3 w v) := by unfold G3; exact (by repeat' (first | exact Ext.refl _ | assumption | refine Ext.alloc ?_ _ | refine Ext.ext ?_ _ | refine Ext.drew ?_ | refine Ext.drewN ?_ _))
  refine ⟨⟨Dr.start ⟨⟨h.ext hx, fun b o m c e hm => rd_lt h (by decide) e hm⟩, 0, 0, by omega, by omega, ?_⟩, hx, by unfold G3; simp⟩, heap_old (heap_old (heap_at _ rfl) _) _, heap_old (heap_at _ (by simp)) _⟩
  have := World.ownsRow_lit (base := w.heap.size) (e := 47) (size := 3) ((w.alloc (.cells #[.slice none 0 0] 26)).alloc (.cells #[.string ⟨#[]⟩, .slice none 0 0] 28)) #[v, .int .i64 0, .int .u64 0] 1 (by simp; omega) (by decide) rfl
  simp at this
  exact this
theorem TGP.step {w W0 W W' : World} {v : Value} {bs : List Int} {A A' : Nat} (h : TGP w W0 W v bs A) (hc : Cs W' w.heap.size (w.heap.size + 2) v bs A') (hg : W.grownBy W' (some (w.heap.size + 2))) : TGP w W0 W' v bs A' :=
  ⟨⟨h.1.1.step hc hg, h.1.2⟩, blk_grow h.2.1 hg (fun e => by have := Option.some.inj e; omega), blk_grow h.2.2 hg (fun e => by have := Option.some.inj e; omega)⟩
theorem TGP.ext {w W0 W W' : World} {v : Value} {bs : List Int} {A : Nat} (h : TGP w W0 W v bs A) (hx : Ext W W') : TGP w W0 W' v bs A := h.step (h.1.1.1.ext hx) (hx.grownBy _)
theorem TGP.low {w W0 W : World} {v : Value} {bs : List Int} {A : Nat} (h : TGP w W0 W v bs A) : w.heap.size + 2 < W0.heap.size ∧ W0.heap.size ≤ W.heap.size := ⟨by have := h.1.2.2; omega, h.1.1.size⟩
/-- Another block of its own turned, behind all of these. -/
theorem TGP.own {w W0 W W' : World} {v : Value} {bs : List Int} {A : Nat} {row : Option Nat} (h : TGP w W0 W v bs A) (hg : W.grownBy W' row) (hr : ∀ j, row = some j → W0.heap.size ≤ j) : TGP w W0 W' v bs A :=
  ⟨⟨h.1.1.grow hg hr, h.1.2⟩, blk_grow h.2.1 hg (fun e => by have := hr _ e; have := h.1.2.2; omega), blk_grow h.2.2 hg (fun e => by have := hr _ e; have := h.1.2.2; omega)⟩
/-- .. and the tree's variable at T. -/
def TGT (w W0 W : World) (v : Value) (bs : List Int) (A T : Nat) (t : Value) (ps : List Int) : Prop :=
  TGP w W0 W v bs A ∧ W0.heap.size ≤ T ∧ W.heap[T]? = some (.cells #[t] 26 (0, 0)) ∧ ps.length ≤ 9 ∧ RdB W W0.heap.size t ps.length (vInts ps)
theorem TGT.step {w W0 W W' : World} {v : Value} {bs : List Int} {A A' T : Nat} {t : Value} {ps : List Int} (h : TGT w W0 W v bs A T t ps) (hc : Cs W' w.heap.size (w.heap.size + 2) v bs A') (hg : W.grownBy W' (some (w.heap.size + 2))) : TGT w W0 W' v bs A' T t ps := by
  have := h.1.low
  exact ⟨h.1.step hc hg, h.2.1, blk_grow h.2.2.1 hg (fun e => by have := Option.some.inj e; have := h.2.1; omega), h.2.2.2.1, h.2.2.2.2.step (by omega) hg⟩
theorem TGT.ext {w W0 W W' : World} {v : Value} {bs : List Int} {A T : Nat} {t : Value} {ps : List Int} (h : TGT w W0 W v bs A T t ps) (hx : Ext W W') : TGT w W0 W' v bs A T t ps := h.step (h.1.1.1.1.ext hx) (hx.grownBy _)
/-- Another tree laid into its variable. -/
theorem TGT.put {w W0 W : World} {v : Value} {bs : List Int} {A T : Nat} {t t' : Value} {ps qs : List Int} (h : TGT w W0 W v bs A T t ps) (hq : qs.length ≤ 9) (hr : RdB W (T + 1) t' qs.length (vInts qs)) : TGT w W0 (W.setCell ⟨T, 0, none⟩ t') v bs A T t' qs := by
  have hg := grownBy_set W ⟨T, 0, none⟩ t'
  refine ⟨h.1.own hg (fun j e => by cases e; exact h.2.1), h.2.1, box1_set h.2.2.1 _, hq, (hr.away hg (fun b o m c e hm e2 => ?_)).low (by have := h.2.1; omega)⟩
  have := hr.2 b o m c e hm
  have e3 : T = b := Option.some.inj e2
  omega
/-- .. and the group's variable at X. -/
def TGS (w W0 W : World) (v : Value) (bs : List Int) (A T X : Nat) (t : Value) (s : ByteArray) (u : Value) (ps ms : List Int) : Prop :=
  TGT w W0 W v bs A T t ps ∧ W0.heap.size ≤ X ∧ W.heap[X]? = some (.cells #[.string s, u] 28 (0, 0)) ∧ (s.size ≤ 9 ∧ ms.length ≤ 21) ∧ RdB W W0.heap.size u ms.length (vInts ms)
theorem TGS.step {w W0 W W' : World} {v : Value} {bs : List Int} {A A' T X : Nat} {t u : Value} {s : ByteArray} {ps ms : List Int} (h : TGS w W0 W v bs A T X t s u ps ms) (hc : Cs W' w.heap.size (w.heap.size + 2) v bs A') (hg : W.grownBy W' (some (w.heap.size + 2))) : TGS w W0 W' v bs A' T X t s u ps ms := by
  have := h.1.1.low
  exact ⟨h.1.step hc hg, h.2.1, blk_grow h.2.2.1 hg (fun e => by have := Option.some.inj e; have := h.2.1; omega), h.2.2.2.1, h.2.2.2.2.step (by omega) hg⟩
theorem TGS.ext {w W0 W W' : World} {v : Value} {bs : List Int} {A T X : Nat} {t u : Value} {s : ByteArray} {ps ms : List Int} (h : TGS w W0 W v bs A T X t s u ps ms) (hx : Ext W W') : TGS w W0 W' v bs A T X t s u ps ms := h.step (h.1.1.1.1.1.ext hx) (hx.grownBy _)
/-- What is drawn: a tree and a group. -/
def TGo (w : World) (t : Value) (s : ByteArray) (u : Value) (ps ms : List Int) : Prop :=
  (ps.length ≤ 9 ∧ s.size ≤ 9 ∧ ms.length ≤ 21) ∧ Rd w 1 t ps.length (vInts ps) ∧ Rd w 1 u ms.length (vInts ms)
theorem TGo.ext {w w' : World} {t u : Value} {s : ByteArray} {ps ms : List Int} (h : TGo w t s u ps ms) (hx : Ext w w') : TGo w' t s u ps ms := ⟨h.1, h.2.1.ext hx, h.2.2.ext hx⟩
theorem TGS.far {w W0 W : World} {v : Value} {bs : List Int} {A T X : Nat} {t u : Value} {s : ByteArray} {ps ms : List Int} (h : TGS w W0 W v bs A T X t s u ps ms) (t' l' d' : Value) {x : Value} {n : Nat} {cs : List Value} (hr : RdB W W0.heap.size x n cs) :
    Rd (((W.setCell ⟨w.heap.size, 0, none⟩ t').setCell ⟨w.heap.size + 1, 0, none⟩ l').setCell ⟨w.heap.size + 1, 1, none⟩ d') 1 x n cs := by
  have hlow := h.1.1.low
  have far : ∀ {u : Value} {n : Nat} {cs : List Value} {W1 : World}, RdB W1 W0.heap.size u n cs → ∀ (j k : Nat) (x : Value), j < W0.heap.size → RdB (W1.setCell ⟨j, k, none⟩ x) W0.heap.size u n cs := fun hr j k x hj =>
    hr.away (grownBy_set _ ⟨j, k, none⟩ x) (fun b o m c e hm e2 => by have := hr.2 b o m c e hm; have e3 : j = b := Option.some.inj e2; omega)
  exact (far (far (far hr _ 0 t' (by omega)) _ 0 l' (by omega)) _ 1 d' (by omega)).1
/-- The results laid down. -/
theorem TGS.fin {w W0 W : World} {v : Value} {bs : List Int} {A T X : Nat} {t u : Value} {s : ByteArray} {ps ms : List Int} (h : TGS w W0 W v bs A T X t s u ps ms) (t' l' d' : Value) :
    (((W.setCell ⟨w.heap.size, 0, none⟩ t').setCell ⟨w.heap.size + 1, 0, none⟩ l').setCell ⟨w.heap.size + 1, 1, none⟩ d').heap[w.heap.size]? = some (.cells #[t'] 26 (0, 0)) ∧
    (((W.setCell ⟨w.heap.size, 0, none⟩ t').setCell ⟨w.heap.size + 1, 0, none⟩ l').setCell ⟨w.heap.size + 1, 1, none⟩ d').heap[w.heap.size + 1]? = some (.cells #[l', d'] 28 (0, 0)) ∧
    TGo (((W.setCell ⟨w.heap.size, 0, none⟩ t').setCell ⟨w.heap.size + 1, 0, none⟩ l').setCell ⟨w.heap.size + 1, 1, none⟩ d') t s u ps ms ∧ Ext w (((W.setCell ⟨w.heap.size, 0, none⟩ t').setCell ⟨w.heap.size + 1, 0, none⟩ l').setCell ⟨w.heap.size + 1, 1, none⟩ d') := by
  have hlow := h.1.1.low
  have hw : Ext w W := h.1.1.1.2.1.grown h.1.1.1.1.2.1 (fun k e => by have := Option.some.inj e; omega)
  refine ⟨blkFar (blkFar (box1_set h.1.1.2.1 _) (by omega)) (by omega), box2_set (blkFar h.1.1.2.2 (by omega)) _ _, ⟨⟨h.1.2.2.2.1, h.2.2.2.1⟩, h.far _ _ _ h.1.2.2.2.2, h.far _ _ _ h.2.2.2.2⟩, ?_⟩
  exact ((hw.setCell (Nat.le_refl _) _).setCell (by dsimp only; omega) _).setCell (by dsimp only; omega) _
/-- The cells that the last statement reads, and those that it lays. -/
theorem TGS.cells {w W0 W : World} {v : Value} {bs : List Int} {A T X : Nat} {t u : Value} {s : ByteArray} {ps ms : List Int} (h : TGS w W0 W v bs A T X t s u ps ms) :
    (W.cell? ⟨T, 0, none⟩ = some t ∧ W.cell? ⟨X, 0, none⟩ = some (.string s) ∧ W.cell? ⟨X, 1, none⟩ = some u) ∧
    (W.cell? ⟨w.heap.size, 0, none⟩ = some (.slice none 0 0) ∧ W.frozen? ⟨w.heap.size, 0, none⟩ = false) ∧
    ((W.cell? ⟨w.heap.size + 1, 0, none⟩ = some (.string ⟨#[]⟩) ∧ W.cell? ⟨w.heap.size + 1, 1, none⟩ = some (.slice none 0 0)) ∧ W.frozen? ⟨w.heap.size + 1, 0, none⟩ = false ∧ W.frozen? ⟨w.heap.size + 1, 1, none⟩ = false) := by
  obtain ⟨b0, -, -⟩ := box1 h.1.2.2.1
  obtain ⟨⟨x0, x1⟩, -, -⟩ := box2 h.2.2.1
  obtain ⟨r0, q0, -⟩ := box1 h.1.1.2.1
  obtain ⟨⟨s0, s1⟩, ⟨u0, u1⟩, -⟩ := box2 h.1.1.2.2
  exact ⟨⟨b0, x0, x1⟩, ⟨r0, q0⟩, ⟨s0, s1⟩, u0, u1⟩
/-- A store into the results. -/
theorem TGS.keep {w W0 W W' : World} {v : Value} {bs : List Int} {A T X : Nat} {t u : Value} {s : ByteArray} {ps ms : List Int} (h : TGS w W0 W v bs A T X t s u ps ms) (j k : Nat) (x : Value) (hj : j < w.heap.size + 2)
    (h1 : W'.cell? ⟨T, 0, none⟩ = some t ∧ W'.cell? ⟨X, 0, none⟩ = some (.string s) ∧ W'.cell? ⟨X, 1, none⟩ = some u) : (W'.setCell ⟨j, k, none⟩ x).cell? ⟨T, 0, none⟩ = some t ∧ (W'.setCell ⟨j, k, none⟩ x).cell? ⟨X, 0, none⟩ = some (.string s) ∧ (W'.setCell ⟨j, k, none⟩ x).cell? ⟨X, 1, none⟩ = some u := by
  have hlow := h.1.1.low
  have hT := h.1.2.1
  have hX := h.2.1
  have hg := grownBy_set W' ⟨j, k, none⟩ x
  exact ⟨hg.cell h1.1 (fun e => by have := Option.some.inj e; dsimp only at this; omega), hg.cell h1.2.1 (fun e => by have := Option.some.inj e; dsimp only at this; omega), hg.cell h1.2.2 (fun e => by have := Option.some.inj e; dsimp only at this; omega)⟩
end Go.Proofs.YtlaochpkelbchaaGreatDoor
