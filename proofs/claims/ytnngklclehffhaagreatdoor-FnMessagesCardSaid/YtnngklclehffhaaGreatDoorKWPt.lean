/- A fragment's place in a list of pendings: the program's side. -/
import Derived.Test.YtnngklclehffhaaGreatDoorKWPd2
import Derived.Test.YtnngklclehffhaaGreatDoorJ13
import Derived.Laws.MakeOwn
import Derived.Deep.DeepCutAuto
namespace Go.Proofs.YtnngklclehffhaaGreatDoor
open Go.RowKit
set_option maxHeartbeats 1000000
set_option maxRecDepth 100000
def RS (q : Nat) : Array Value := (vStrs (List.replicate q ByteArray.empty)).toArray
def RB (q : Nat) : Array Value := (vBools (List.replicate q false)).toArray
theorem made_rep (z : Value) (n : Nat) : madeCells #[z] (n * 1) = (List.replicate n z).toArray := by
  apply Array.ext'
  apply List.ext_getElem?
  intro j
  simp only [madeCells, Nat.mul_one]
  by_cases h : j < n
  · simp [h, Nat.mod_one]
  · simp [h]
theorem RS_made (q : Nat) : madeCells #[.string ByteArray.empty] (q * 1) = RS q := by rw [made_rep, RS, vStrs, List.map_replicate]
theorem RB_made (q : Nat) : madeCells #[.bool false] (q * 1) = RB q := by rw [made_rep, RB, vBools, List.map_replicate]
theorem own_full_at {w : World} {base e g n : Nat} {cs : List Value} (h : w.heap[g]? = some (.cells cs.toArray e (0, 0))) (hb : base ≤ g) (hl : cs.length = n) (hm : n ≤ maxLen) : w.ownsRow base e 1 (.slice (some ⟨g, 0, none⟩) n n) n cs :=
  ⟨by rw [hl, Nat.mul_one], .inr ⟨g, n, cs.toArray, rfl, hb, h, Nat.le_refl _, hm, by simp [hl], by rw [Nat.mul_one, ← hl]; simp⟩⟩
/-- A fresh pending: its variable at B, its rows at g1 and g2. -/
def FrS (W wx : World) (n : Int) (q B g1 g2 : Nat) : Prop :=
  Ext W wx ∧ wx.heap[B]? = some (.cells #[.int .i64 n, .slice (some ⟨g1, 0, none⟩) q q, .slice (some ⟨g2, 0, none⟩) q q] 62 (0, 0)) ∧ (wx.heap[g1]? = some (.cells (RS q) 9 (0, 0)) ∧ wx.heap[g2]? = some (.cells (RB q) 4 (0, 0))) ∧
  (W.heap.size ≤ B ∧ W.heap.size ≤ g1 ∧ W.heap.size ≤ g2) ∧ (B ≠ g1 ∧ B ≠ g2 ∧ g1 ≠ g2)
theorem run_mkS (q : Nat) (hq : q ≤ 1048576) : ∀ w, (Instr.makeSlice 59 (.int .i64 q) (.int .i64 q)).run Tryz.prog w = .ok (.slice (some ⟨w.heap.size, 0, none⟩) q q) (w.alloc (.cells (RS q) 9)) := fun w => by
  obtain ⟨i0, hi, hz0, hz1, hz2⟩ := info_parts infoStr
  have := run_make (P := Tryz.prog) w 59 9 i0 _ Tryz.underlying59 hi hz0 .i64 .i64 q q (by omega) (Int.le_refl _) (by rw [hz2]; omega) (by omega)
  rw [hz1, Int.toNat_natCast] at this
  rw [this, ← RS_made]; rfl
theorem run_mkB (q : Nat) (hq : q ≤ 1048576) : ∀ w, (Instr.makeSlice 60 (.int .i64 q) (.int .i64 q)).run Tryz.prog w = .ok (.slice (some ⟨w.heap.size, 0, none⟩) q q) (w.alloc (.cells (RB q) 4)) := fun w => by
  obtain ⟨i0, hi, hz0, hz1, hz2⟩ := info_parts infoBool
  have := run_make (P := Tryz.prog) w 60 4 i0 _ Tryz.underlying60 hi hz0 .i64 .i64 q q (by omega) (Int.le_refl _) (by rw [hz2]; omega) (by omega)
  rw [hz1, Int.toNat_natCast] at this
  rw [this, ← RB_made]; rfl
/-- The same, where the list may have turned. -/
def FrB (w wx : World) (n : Int) (q B g1 g2 : Nat) : Prop :=
  wx.heap[B]? = some (.cells #[.int .i64 n, .slice (some ⟨g1, 0, none⟩) q q, .slice (some ⟨g2, 0, none⟩) q q] 62 (0, 0)) ∧ (wx.heap[g1]? = some (.cells (RS q) 9 (0, 0)) ∧ wx.heap[g2]? = some (.cells (RB q) 4 (0, 0))) ∧
  (w.heap.size ≤ B ∧ w.heap.size ≤ g1 ∧ w.heap.size ≤ g2) ∧ (B ≠ g1 ∧ B ≠ g2 ∧ g1 ≠ g2)
theorem FrB.ext {w wx wy : World} {n : Int} {q B g1 g2 : Nat} (h : FrB w wx n q B g1 g2) (hx : Ext wx wy) : FrB w wy n q B g1 g2 := ⟨blk3 h.1 hx, ⟨blk3 h.2.1.1 hx, blk3 h.2.1.2 hx⟩, h.2.2⟩
theorem blk_grown {W W' : World} {k : Nat} {o : Obj} {row : Option Nat} (ho : W.heap[k]? = some o) (hg : W.grownBy W' row) (hr : row ≠ some k) : W'.heap[k]? = some o :=
  (hg.block k (Array.getElem?_eq_some_iff.1 ho).1 (fun e => hr (by first | exact e | exact e.symm))).trans ho
theorem FrB.grown {w wx wy : World} {n : Int} {q B g1 g2 : Nat} {row : Option Nat} (h : FrB w wx n q B g1 g2) (hg : wx.grownBy wy row) (hr : ∀ j, row = some j → j < w.heap.size) : FrB w wy n q B g1 g2 := by
  obtain ⟨h1, ⟨h2, h3⟩, ⟨h4, h5, h6⟩, h7⟩ := h
  exact ⟨blk_grown h1 hg (fun e => by have := hr _ e; omega), ⟨blk_grown h2 hg (fun e => by have := hr _ e; omega), blk_grown h3 hg (fun e => by have := hr _ e; omega)⟩, ⟨h4, h5, h6⟩, h7⟩
theorem FrB.rows {w wx : World} {n : Int} {q B g1 g2 lo : Nat} (h : FrB w wx n q B g1 g2) (hq : q ≤ 9) (hlo : lo ≤ w.heap.size) :
    (wx.ownsRow lo 9 1 (.slice (some ⟨g1, 0, none⟩) q q) (frP n q).d.length (vStrs (frP n q).d) ∧ wx.ownsRow lo 4 1 (.slice (some ⟨g2, 0, none⟩) q q) (frP n q).h.length (vBools (frP n q).h)) ∧ (g1 < wx.heap.size ∧ g2 < wx.heap.size) := by
  have e1 : (frP n q).d.length = q := List.length_replicate ..
  have e2 : (frP n q).h.length = q := List.length_replicate ..
  rw [e1, e2]
  refine ⟨⟨own_full_at h.2.1.1 (by have := h.2.2.1.2.1; omega) (by rw [vStrs_len]; exact e1) (by unfold maxLen; omega), own_full_at h.2.1.2 (by have := h.2.2.1.2.2; omega) (by rw [vBools_len]; exact e2) (by unfold maxLen; omega)⟩, (Array.getElem?_eq_some_iff.1 h.2.1.1).1, (Array.getElem?_eq_some_iff.1 h.2.1.2).1⟩
def frE (n : Int) (q g1 g2 : Nat) : Pe := ⟨n, (frP n q).d, (frP n q).h, .slice (some ⟨g1, 0, none⟩) q q, .slice (some ⟨g2, 0, none⟩) q q⟩
theorem slices_Delete_first {w : World} {lo hi g cap : Nat} {ps : List Pnd} {es : List Pe} (h : POw w lo hi (.slice (some ⟨g, 0, none⟩) ps.length cap) ps es) (hil : 0 < ps.length) (h2 : ps.length ≤ 1048576) :
    Calls Tryz.prog 31 #[.slice (some ⟨g, 0, none⟩) ps.length cap, .int .i64 0, .int .i64 1] w fun e w' => e = .returned (.slice (some ⟨g, 0, none⟩) (ps.length - 1) cap) ∧
      POw w' lo hi (.slice (some ⟨g, 0, none⟩) (ps.length - 1) cap) (ers ps 0) (ers es 0) ∧ w.grownBy w' (some g) := by
  have := slices_Delete_pnd h 0 hil h2
  rw [show ((0 : Nat) : Int) = 0 from rfl, show (0 : Int) + 1 = 1 from rfl] at this
  exact this
theorem impl_place (ps : List Pnd) (es : List Pe) (v : Value) (n p : Int) (q : Nat) (d : ByteArray) (lo : Nat) (w : World) (ho : POw w lo w.heap.size v ps es) (hlo : lo ≤ w.heap.size) (hq : q ≤ 9) (h2 : ps.length ≤ 4) :
    Calls Tryz.prog 27 #[v, .agg #[.int .i64 n, .int .i64 p, .int .i64 q, .string d]] w fun e w' => ∃ r ds, e = .returned (.tuple #[r, .int .i64 (plI ps n q)]) ∧ POw w' lo w'.heap.size r (plL ps n q) ds ∧ Turn lo w.heap.size w w' := by
  have Ho := hid ho
  obtain ⟨vp, vc, ev⟩ : ∃ vp vc, v = .slice vp ps.length vc := by rw [← ho.len]; exact own_shape ho.2.own
  subst ev
  have mk1 := run_mkS q (by omega)
  have mk2 := run_mkB q (by omega)
  have HB : (w.alloc (.cells #[.int .i64 n, .int .i64 p, .int .i64 q, .string d] 31)).heap[w.heap.size]? = some (.cells #[.int .i64 n, .int .i64 p, .int .i64 q, .string d] 31 (0, 0)) := heap_at _ rfl
  have X0 : Ext w (w.alloc (.cells #[.int .i64 n, .int .i64 p, .int .i64 q, .string d] 31)) := (by repeat' (first | exact Ext.refl _ | assumption | refine Ext.alloc ?_ _ | refine Ext.ext ?_ _ | refine Ext.drew ?_ | refine Ext.drewN ?_ _))
  obtain ⟨L, I, hLI⟩ : ∃ L I, plL ps n q = L ∧ plI ps n q = I := ⟨_, _, rfl, rfl⟩
  have HLI := hid hLI
  rw [hLI.1, hLI.2]
  clear ho hLI
  go_enter Tryz.func27, Tryz.ntmps27
  (go_upto_region 1 with fail)
  generalize hW : (w.alloc (.cells #[.int .i64 n, .int .i64 p, .int .i64 q, .string d] 31)) = W at *
  obtain ⟨⟨b0, b1, b2, b3⟩, -, -⟩ := box4 HB
  go_cut [6] (fun s6 wx => ∃ B g1 g2, s6 = .pointer (some ⟨B, 0, none⟩) ∧ Hid (FrS W wx n q B g1 g2))
  case first =>
    go_region_held3 (fun w' => w'.cell? ⟨w.heap.size, 0, none⟩ = some (.int .i64 n) ∧ w'.cell? ⟨w.heap.size, 2, none⟩ = some (.int .i64 q))
      (first | exact ⟨b0, b2⟩ | exact ⟨(show Ext W _ from (by repeat' (first | exact Ext.refl _ | assumption | refine Ext.alloc ?_ _ | refine Ext.ext ?_ _ | refine Ext.drew ?_ | (refine Ext.setCell ?_ (by first | exact Ext.size (by assumption) | (simp; done) | (simp; omega)) _)))).cell b0, (show Ext W _ from (by repeat' (first | exact Ext.refl _ | assumption | refine Ext.alloc ?_ _ | refine Ext.ext ?_ _ | refine Ext.drew ?_ | (refine Ext.setCell ?_ (by first | exact Ext.size (by assumption) | (simp; done) | (simp; omega)) _)))).cell b2⟩) (fail)
    all_goals
      go_wp2_with fail
      go_meet
      exact ⟨_, _, _, rfl, ⟨(by repeat' (first | exact Ext.refl _ | assumption | refine Ext.alloc ?_ _ | refine Ext.ext ?_ _ | refine Ext.drew ?_ | refine Ext.drewN ?_ _)), (by first | exact heap_at_d _ (by simp) | exact heap_old_d (heap_at _ (by simp)) _ | exact heap_old_d (heap_old (heap_at _ (by simp)) _) _), ⟨(by first | exact heap_at_d _ (by simp) | exact heap_old_d (heap_at _ (by simp)) _ | exact heap_old_d (heap_old (heap_at _ (by simp)) _) _), (by first | exact heap_at_d _ (by simp) | exact heap_old_d (heap_at _ (by simp)) _ | exact heap_old_d (heap_old (heap_at _ (by simp)) _) _)⟩, ⟨by omega, by omega, by omega⟩, ⟨by omega, by omega, by omega⟩⟩⟩
  obtain ⟨B, g1, g2, rfl, HF⟩ := hcut
  generalize wc = w1 at *
  have hWs : W.heap.size = w.heap.size + 1 := by rw [← hW]; simp
  have hF1 := HF.out.1
  replace b0 := hF1.cell b0
  replace b2 := hF1.cell b2
  clear b1 b3 hW
  have HS : Hid (POw w1 lo w.heap.size (.slice vp ps.length vc) ps es ∧ Turn lo w.heap.size w w1 ∧ FrB w w1 n q B g1 g2) :=
    ⟨(Ho.out.ext X0).ext hF1, (Turn.refl _ _ _).ext (X0.trans hF1), HF.out.2.1, HF.out.2.2.1, ⟨by have := HF.out.2.2.2.1; omega, by have := HF.out.2.2.2.1; omega, by have := HF.out.2.2.2.1; omega⟩, HF.out.2.2.2.2⟩
  have Hel : Hid (es.length = ps.length) := Ho.out.len
  have hf := hid (fun w h => impl_findPending ps es (.slice vp ps.length vc) n w h (by omega))
  clear HF Ho hF1 mk1 mk2
  have hsz1 : w.heap.size ≤ w1.heap.size := HS.out.2.1.size
  go_wp2_with fail
  go_at_call 32
  refine (hf.out _ HS.out.1.rd).mono ?_
  rintro e w2 ⟨rfl, hx⟩
  replace b0 := hx.cell b0
  replace b2 := hx.cell b2
  have H2 : Hid (POw w2 lo w.heap.size (.slice vp ps.length vc) ps es ∧ Turn lo w.heap.size w w2 ∧ FrB w w2 n q B g1 g2) := ⟨HS.out.1.ext hx, HS.out.2.1.ext hx, HS.out.2.2.ext hx⟩
  clear hx HS hf
  rcases hitG_cases (fun p : Pnd => p.n == n) ps .z with ⟨h1, -⟩ | ⟨k, h0, h1, hkn, -⟩
  · have hFn : fndP ps n = -1 := h1
    obtain ⟨ea, eb⟩ := pl_no (ps := ps) (n := n) (q := q) (by rw [hFn]; decide)
    have EL : Hid (L = plF ps q ++ [frP n q] ∧ I = (plF ps q).length) := ⟨HLI.out.1.symm.trans ea, HLI.out.2.symm.trans eb⟩
    rw [hFn]
    clear ea eb HLI hFn h1
    have tF : decide ((-1 : Int) < 0) = true := rfl
    by_cases h4 : ps.length = 4 ∧ 1 < q
    · have t4 : ((ps.length : Int) == 4) = true := by simp; omega
      have t1 : decide ((1 : Int) < (q : Int)) = true := by simp; omega
      have t1' : decide (1 < q) = true := by simp; omega
      have hpf : plF ps q = ers ps 0 := by rw [plF, if_pos h4]
      rcases H2.out.1.form with ⟨e, e2⟩ | ⟨g, c, e, -, hg0, hg1, -⟩
      · rw [e2] at h4; simp at h4
      have hvp : vp = some ⟨g, 0, none⟩ ∧ vc = c := by
        injection e with e3 e4 e5
        exact ⟨e3, e5⟩
      obtain ⟨rfl, rfl⟩ := hvp
      have hde := hid (slices_Delete_first H2.out.1 (by omega) (by omega))
      rw [← hpf] at hde
      have hpl : ps.length - 1 = (plF ps q).length := by rw [plF_len, if_pos h4]
      rw [hpl] at hde
      clear e hpl h4
      go_wp2_with fail
      go_at_call 31
      refine (hde.out).mono ?_
      rintro e w3 ⟨rfl, ho3, hg3⟩
      replace b0 := hg3.cell b0 (fun e => by have := Option.some.inj e; dsimp only at this; omega)
      replace b2 := hg3.cell b2 (fun e => by have := Option.some.inj e; dsimp only at this; omega)
      have H3 : Hid (POw w3 lo w.heap.size (.slice (some ⟨g, 0, none⟩) (plF ps q).length vc) (plF ps q) (ers es 0) ∧ Turn lo w.heap.size w w3 ∧ FrB w w3 n q B g1 g2) :=
        ⟨ho3, H2.out.2.1.grown hg3 (fun j e => by cases e; exact ⟨hg0, hg1⟩), H2.out.2.2.grown hg3 (fun j e => by cases e; exact hg1)⟩
      obtain ⟨i0, hi, hz0, hz1, hz2⟩ := info_parts infoPnd
      clear ho3 hg3 H2 hde hpf
      obtain ⟨⟨B0, B1, B2⟩, -, -⟩ := box3 H3.out.2.2.1
      have hs3 := H3.out.2.1.size
      have he3 : (ers es 0).length ≤ 4 := by rw [H3.out.1.len, plF_len]; split <;> omega
      have X3 : Ext w3 (w3.alloc (.cells #[.int .i64 n, .slice (some ⟨g1, 0, none⟩) q q, .slice (some ⟨g2, 0, none⟩) q q] 62)) := (by repeat' (first | exact Ext.refl _ | assumption | refine Ext.alloc ?_ _ | refine Ext.ext ?_ _ | refine Ext.drew ?_ | refine Ext.drewN ?_ _))
      go_wp2_with (at_builtin; refine wpList_append_own_at _ rfl _ _ 29 rfl lo 62 i0 (.agg #[.int .i64 0, .slice none 0 0, .slice none 0 0]) 3 56 Tryz.underlying29 hi hz0 hz1 hz2 rfl (by decide) _ _ _ rfl ((own_ext H3.out.1.2.own (by repeat' (first | exact Ext.refl _ | assumption | refine Ext.alloc ?_ _ | refine Ext.ext ?_ _ | refine Ext.drew ?_ | refine Ext.drewN ?_ _)))) ⟨_, 0, none⟩ 1 1 [.int .i64 n, .slice (some ⟨g1, 0, none⟩) q q, .slice (some ⟨g2, 0, none⟩) q q] rfl ?a0A ?a1A ?a2A ?a3A ?a4A ?a5A ?_)
      (try case a0A => rfl)
      case a1A => (intro j u hj; rw [Addr.add_lit, Nat.zero_add, cell_of_row _ _ j _ _ (0, 0) (heap_at _ rfl)]; first | (simpa using hj) | (simpa [hwb.out] using hj))
      case a2A => simp [Value.oneCell']
      case a3A => (unfold maxLen; simp; omega)
      case a4A => (first | omega | (simp; omega))
      case a5A => (have := hs3; first | omega | (simp at *; omega))
      intro v' w1 hown' hgrow hat
      intro hat2
      have hfr := (H3.out.2.2.ext X3).rows hq hlo
      have hbd := H3.out.2.2.2.2.1
      have hne := H3.out.2.2.2.2.2
      have hgs : w3.heap.size + 1 ≤ w1.heap.size := by (have := hgrow.size; simp at this; omega)
      have hX3s : (w3.alloc (.cells #[.int .i64 n, .slice (some ⟨g1, 0, none⟩) q q, .slice (some ⟨g2, 0, none⟩) q q] 62)).heap.size = w3.heap.size + 1 := by simp
      have h5 := PFe.snoc (x := frE n q g1 g2) (hi' := w1.heap.size) (H3.out.1.2.ext X3) (by omega) hgrow hown' (hat2.imp id (fun e j e2 => by rw [e] at e2; have := Option.some.inj e2; (try simp at this); omega)) (by omega) (fun j e => (own_row hown' j e).2) hfr.1.1 hfr.1.2 (fun j e => by cases e; have := hfr.2.1; exact ⟨hbd.2.1, by dsimp only; omega⟩) (fun j e => by cases e; have := hfr.2.2; exact ⟨hbd.2.2, by dsimp only; omega⟩) (fun j e e2 => by cases e; cases e2; exact hne.2.2 rfl)
      have hT5 := (H3.out.2.1.ext X3).grown hgrow (fun j e => ⟨(own_row H3.out.1.2.own j e).1, (H3.out.1.2.lt e).2.1⟩)
      have hmp : (ers es 0 ++ [frE n q g1 g2]).map Pe.p = L := by rw [List.map_append, H3.out.1.1, EL.out.1]; rfl
      have K := hid (And.intro hmp (And.intro h5 hT5))
      clear h5 hT5 hmp hfr hbd hne hown' hgrow hat hat2 hgs hX3s X3 he3
      go_wp2
      go_ret2
      exact ⟨_, ers es 0 ++ [frE n q g1 g2], by rw [EL.out.2]; rfl, ⟨K.out.1, K.out.2.1⟩, K.out.2.2⟩
    · have hpf : plF ps q = ps := by rw [plF, if_neg h4]
      have H3 : Hid (POw w2 lo w.heap.size (.slice vp ps.length vc) (plF ps q) es ∧ Turn lo w.heap.size w w2 ∧ FrB w w2 n q B g1 g2) := by (show POw _ _ _ _ _ _ ∧ _; rw [hpf]; exact H2.out)
      have hpn : Hid ((plF ps q).length = ps.length) := by (show _ = _; rw [hpf])
      obtain ⟨i0, hi, hz0, hz1, hz2⟩ := info_parts infoPnd
      have EL3 : Hid (L = plF ps q ++ [frP n q] ∧ I = ps.length) := ⟨EL.out.1, by rw [EL.out.2, hpn.out]⟩
      clear H2 hpf EL
      have EL := EL3
      clear EL3
      by_cases h5 : ps.length = 4
      · have t4 : ((ps.length : Int) == 4) = true := by simp; omega
        have t1 : decide ((1 : Int) < (q : Int)) = false := by simp; omega
        have t1' : decide (1 < q) = false := by simp; omega
        clear h4 h5
        obtain ⟨⟨B0, B1, B2⟩, -, -⟩ := box3 H3.out.2.2.1
        have hs3 := H3.out.2.1.size
        have he3 : (es).length ≤ 4 := by rw [H3.out.1.len, plF_len]; split <;> omega
        have X3 : Ext w2 (w2.alloc (.cells #[.int .i64 n, .slice (some ⟨g1, 0, none⟩) q q, .slice (some ⟨g2, 0, none⟩) q q] 62)) := (by repeat' (first | exact Ext.refl _ | assumption | refine Ext.alloc ?_ _ | refine Ext.ext ?_ _ | refine Ext.drew ?_ | refine Ext.drewN ?_ _))
        go_wp2_with (at_builtin; refine wpList_append_own_at _ rfl _ _ 29 rfl lo 62 i0 (.agg #[.int .i64 0, .slice none 0 0, .slice none 0 0]) 3 56 Tryz.underlying29 hi hz0 hz1 hz2 rfl (by decide) _ _ _ rfl ((own_ext H3.out.1.2.own (by repeat' (first | exact Ext.refl _ | assumption | refine Ext.alloc ?_ _ | refine Ext.ext ?_ _ | refine Ext.drew ?_ | refine Ext.drewN ?_ _)))) ⟨_, 0, none⟩ 1 1 [.int .i64 n, .slice (some ⟨g1, 0, none⟩) q q, .slice (some ⟨g2, 0, none⟩) q q] rfl ?a0A ?a1A ?a2A ?a3A ?a4A ?a5A ?_)
        (try case a0A => rfl)
        case a1A => (intro j u hj; rw [Addr.add_lit, Nat.zero_add, cell_of_row _ _ j _ _ (0, 0) (heap_at _ rfl)]; first | (simpa using hj) | (simpa [hwb.out] using hj))
        case a2A => simp [Value.oneCell']
        case a3A => (unfold maxLen; simp; omega)
        case a4A => (first | omega | (simp; omega))
        case a5A => (have := hs3; first | omega | (simp at *; omega))
        intro v' w1 hown' hgrow hat
        intro hat2
        have hfr := (H3.out.2.2.ext X3).rows hq hlo
        have hbd := H3.out.2.2.2.2.1
        have hne := H3.out.2.2.2.2.2
        have hgs : w2.heap.size + 1 ≤ w1.heap.size := by (have := hgrow.size; simp at this; omega)
        have hX3s : (w2.alloc (.cells #[.int .i64 n, .slice (some ⟨g1, 0, none⟩) q q, .slice (some ⟨g2, 0, none⟩) q q] 62)).heap.size = w2.heap.size + 1 := by simp
        have h5 := PFe.snoc (x := frE n q g1 g2) (hi' := w1.heap.size) (H3.out.1.2.ext X3) (by omega) hgrow hown' (hat2.imp id (fun e j e2 => by rw [e] at e2; have := Option.some.inj e2; (try simp at this); omega)) (by omega) (fun j e => (own_row hown' j e).2) hfr.1.1 hfr.1.2 (fun j e => by cases e; have := hfr.2.1; exact ⟨hbd.2.1, by dsimp only; omega⟩) (fun j e => by cases e; have := hfr.2.2; exact ⟨hbd.2.2, by dsimp only; omega⟩) (fun j e e2 => by cases e; cases e2; exact hne.2.2 rfl)
        have hT5 := (H3.out.2.1.ext X3).grown hgrow (fun j e => ⟨(own_row H3.out.1.2.own j e).1, (H3.out.1.2.lt e).2.1⟩)
        have hmp : (es ++ [frE n q g1 g2]).map Pe.p = L := by rw [List.map_append, H3.out.1.1, EL.out.1]; rfl
        have K := hid (And.intro hmp (And.intro h5 hT5))
        clear h5 hT5 hmp hfr hbd hne hown' hgrow hat hat2 hgs hX3s X3 he3
        go_wp2
        go_ret2
        exact ⟨_, es ++ [frE n q g1 g2], by rw [EL.out.2]; rfl, ⟨K.out.1, K.out.2.1⟩, K.out.2.2⟩
      · have t4 : ((ps.length : Int) == 4) = false := by simp; omega
        clear h4 h5
        obtain ⟨⟨B0, B1, B2⟩, -, -⟩ := box3 H3.out.2.2.1
        have hs3 := H3.out.2.1.size
        have he3 : (es).length ≤ 4 := by rw [H3.out.1.len, plF_len]; split <;> omega
        have X3 : Ext w2 (w2.alloc (.cells #[.int .i64 n, .slice (some ⟨g1, 0, none⟩) q q, .slice (some ⟨g2, 0, none⟩) q q] 62)) := (by repeat' (first | exact Ext.refl _ | assumption | refine Ext.alloc ?_ _ | refine Ext.ext ?_ _ | refine Ext.drew ?_ | refine Ext.drewN ?_ _))
        go_wp2_with (at_builtin; refine wpList_append_own_at _ rfl _ _ 29 rfl lo 62 i0 (.agg #[.int .i64 0, .slice none 0 0, .slice none 0 0]) 3 56 Tryz.underlying29 hi hz0 hz1 hz2 rfl (by decide) _ _ _ rfl ((own_ext H3.out.1.2.own (by repeat' (first | exact Ext.refl _ | assumption | refine Ext.alloc ?_ _ | refine Ext.ext ?_ _ | refine Ext.drew ?_ | refine Ext.drewN ?_ _)))) ⟨_, 0, none⟩ 1 1 [.int .i64 n, .slice (some ⟨g1, 0, none⟩) q q, .slice (some ⟨g2, 0, none⟩) q q] rfl ?a0A ?a1A ?a2A ?a3A ?a4A ?a5A ?_)
        (try case a0A => rfl)
        case a1A => (intro j u hj; rw [Addr.add_lit, Nat.zero_add, cell_of_row _ _ j _ _ (0, 0) (heap_at _ rfl)]; first | (simpa using hj) | (simpa [hwb.out] using hj))
        case a2A => simp [Value.oneCell']
        case a3A => (unfold maxLen; simp; omega)
        case a4A => (first | omega | (simp; omega))
        case a5A => (have := hs3; first | omega | (simp at *; omega))
        intro v' w1 hown' hgrow hat
        intro hat2
        have hfr := (H3.out.2.2.ext X3).rows hq hlo
        have hbd := H3.out.2.2.2.2.1
        have hne := H3.out.2.2.2.2.2
        have hgs : w2.heap.size + 1 ≤ w1.heap.size := by (have := hgrow.size; simp at this; omega)
        have hX3s : (w2.alloc (.cells #[.int .i64 n, .slice (some ⟨g1, 0, none⟩) q q, .slice (some ⟨g2, 0, none⟩) q q] 62)).heap.size = w2.heap.size + 1 := by simp
        have h5 := PFe.snoc (x := frE n q g1 g2) (hi' := w1.heap.size) (H3.out.1.2.ext X3) (by omega) hgrow hown' (hat2.imp id (fun e j e2 => by rw [e] at e2; have := Option.some.inj e2; (try simp at this); omega)) (by omega) (fun j e => (own_row hown' j e).2) hfr.1.1 hfr.1.2 (fun j e => by cases e; have := hfr.2.1; exact ⟨hbd.2.1, by dsimp only; omega⟩) (fun j e => by cases e; have := hfr.2.2; exact ⟨hbd.2.2, by dsimp only; omega⟩) (fun j e e2 => by cases e; cases e2; exact hne.2.2 rfl)
        have hT5 := (H3.out.2.1.ext X3).grown hgrow (fun j e => ⟨(own_row H3.out.1.2.own j e).1, (H3.out.1.2.lt e).2.1⟩)
        have hmp : (es ++ [frE n q g1 g2]).map Pe.p = L := by rw [List.map_append, H3.out.1.1, EL.out.1]; rfl
        have K := hid (And.intro hmp (And.intro h5 hT5))
        clear h5 hT5 hmp hfr hbd hne hown' hgrow hat hat2 hgs hX3s X3 he3
        go_wp2
        go_ret2
        exact ⟨_, es ++ [frE n q g1 g2], by rw [EL.out.2]; rfl, ⟨K.out.1, K.out.2.1⟩, K.out.2.2⟩
  · have hFn : fndP ps n = (k : Int) := h1
    obtain ⟨ea, eb⟩ := pl_yes (q := q) hFn
    rw [hFn]
    have EL : Hid (L = (if (ps.getD k .z).d.length = q then ps else ps.set k (frP n q)) ∧ I = k) := ⟨HLI.out.1.symm.trans ea, HLI.out.2.symm.trans eb⟩
    clear ea eb HLI hFn h1 hkn
    have tF : decide ((k : Int) < 0) = false := by simp
    have n0 : (0 : Int) ≤ (k : Int) := by omega
    have n1 : (k : Int) < (ps.length : Int) := by omega
    have hdk : k < es.length := by have := Hel.out; omega
    have n2 : (k : Int) < (es.length : Int) := by omega
    rcases H2.out.1.form with ⟨e, e2⟩ | ⟨g, c, e, -, hg0, hg1, -⟩
    · rw [e2] at h0; simp at h0
    have hvp : vp = some ⟨g, 0, none⟩ ∧ vc = c := by
      injection e with e3 e4 e5
      exact ⟨e3, e5⟩
    obtain ⟨rfl, rfl⟩ := hvp
    obtain ⟨⟨c0, c1, c2⟩, f0, f1, f2⟩ := H2.out.1.2.cells Hel.out.symm k hdk
    have hin := (H2.out.1.2.inner (getD_mem' (z := .z) hdk)).1
    obtain ⟨xp, xc, ex⟩ := own_shape hin.1
    have hep : (es.getD k .z).p = ps.getD k .z := by rw [← pes_p, H2.out.1.1]
    have hdl : (es.getD k .z).d.length = (ps.getD k .z).d.length := congrArg (fun p => p.d.length) hep
    rw [ex, hdl] at c1
    generalize (ps.getD k .z).d.length = m at *
    clear e ex hin hep hdl
    by_cases hm : m = q
    · have tm : ((m : Int) != (q : Int)) = false := by simp; omega
      have EL2 : Hid (L = ps ∧ I = k) := ⟨by rw [EL.out.1, if_pos hm], EL.out.2⟩
      clear EL
      clear c0 c2 f0 f1 f2
      go_wp2
      refine wp_region_ext (by kernel_rfl) (by kernel_rfl) ?_
      repeat (go_big_quiet_step ((first | fail)))
      refine wpQuiet_nil ?_
      rintro _ ⟨zq, rfl⟩
      go_wp2
      go_ret2
      exact ⟨_, es, by rw [EL2.out.2]; rfl, by rw [EL2.out.1]; exact (H2.out.1.ext (by repeat' (first | exact Ext.refl _ | assumption | refine Ext.alloc ?_ _ | refine Ext.ext ?_ _ | refine Ext.drew ?_ | refine Ext.drewN ?_ _))).wide (Nat.le_refl _) (H2.out.2.1.ext (show Ext w2 _ from (by repeat' (first | exact Ext.refl _ | assumption | refine Ext.alloc ?_ _ | refine Ext.ext ?_ _ | refine Ext.drew ?_ | refine Ext.drewN ?_ _)))).size, H2.out.2.1.ext (by repeat' (first | exact Ext.refl _ | assumption | refine Ext.alloc ?_ _ | refine Ext.ext ?_ _ | refine Ext.drew ?_ | refine Ext.drewN ?_ _))⟩
    · have tm : ((m : Int) != (q : Int)) = true := by simp; omega
      have EL2 : Hid (L = ps.set k (frP n q) ∧ I = k) := ⟨by rw [EL.out.1, if_neg hm], EL.out.2⟩
      clear EL
      obtain ⟨⟨B0, B1, B2⟩, -, -⟩ := box3 H2.out.2.2.1
      have hgw := (H2.out.1.2.lt (j := g) rfl).2.2
      go_wp2
      refine wp_region_ext (by kernel_rfl) (by kernel_rfl) ?_
      repeat (go_big_quiet_step ((first | fail)))
      refine wpQuiet_nil ?_
      rintro _ ⟨zq, rfl⟩
      have X3 : Ext w2 (w2.ext zq) := (by repeat' (first | exact Ext.refl _ | assumption | refine Ext.alloc ?_ _ | refine Ext.ext ?_ _ | refine Ext.drew ?_ | refine Ext.drewN ?_ _))
      have hfr := (H2.out.2.2.ext X3).rows hq hlo
      have hbd := H2.out.2.2.2.2.1
      have hne := H2.out.2.2.2.2.2
      have h3 := (H2.out.1.2.ext X3).putNew (hi' := (w2.ext zq).heap.size) Hel.out.symm (Nat.le_trans H2.out.2.1.size X3.size) k hdk (frE n q g1 g2) hfr.1.1 hfr.1.2
        (fun j e => by cases e; exact ⟨hbd.2.1, hfr.2.1⟩) (fun j e => by cases e; exact ⟨hbd.2.2, hfr.2.2⟩) (fun j e e2 => by cases e; cases e2; exact hne.2.2 rfl)
      have hT3 := (((H2.out.2.1.ext X3).grown (grownBy_set _ ⟨g, k * 3, none⟩ (.int .i64 n)) (fun j e => by cases e; exact ⟨hg0, hg1⟩)).grown (grownBy_set _ ⟨g, k * 3 + 1, none⟩ (.slice (some ⟨g1, 0, none⟩) q q)) (fun j e => by cases e; exact ⟨hg0, hg1⟩)).grown (grownBy_set _ ⟨g, k * 3 + 2, none⟩ (.slice (some ⟨g2, 0, none⟩) q q)) (fun j e => by cases e; exact ⟨hg0, hg1⟩)
      have hmp : (es.set k (frE n q g1 g2)).map Pe.p = L := by rw [map_set_p, H2.out.1.1, EL2.out.1]; rfl
      have K := hid (And.intro hmp (And.intro h3 hT3))
      clear h3 hT3 hmp hfr hbd hne
      go_wp2
      go_ret2
      exact ⟨_, es.set k (frE n q g1 g2), by rw [EL2.out.2]; rfl, ⟨K.out.1, K.out.2.1.wide (Nat.le_refl _) (by simp)⟩, K.out.2.2⟩
end Go.Proofs.YtnngklclehffhaaGreatDoor
