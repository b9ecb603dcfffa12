/- A fragment taken: the program's side. -/
import Derived.Test.YtnngklclehffhaaGreatDoorKWPt
import Derived.Test.YtnngklclehffhaaGreatDoorKWTfM
import Derived.Test.YtnngklclehffhaaGreatDoorJ13
namespace Go
theorem results_tmp4 {fn : Func} {t u v x : Tmp} (h : fn.results = #[.tmp t, .tmp u, .tmp v, .tmp x]) (tmps : Array Value) (P : Program) (w : World) :
    (results fn tmps).run P w = .ok (.tuple #[tmps.getD t undef, tmps.getD u undef, tmps.getD v undef, tmps.getD x undef]) w := by
  simp [results, h]
end Go
namespace Go.Proofs.YtnngklclehffhaaGreatDoor
open Go.RowKit
set_option maxHeartbeats 1000000
set_option maxRecDepth 100000
theorem vStrs_set (l : List ByteArray) (i : Nat) (x : ByteArray) : vStrs (l.set i x) = (vStrs l).set i (.string x) := List.map_set ..
theorem vBools_set (l : List Bool) (i : Nat) (x : Bool) : vBools (l.set i x) = (vBools l).set i (.bool x) := List.map_set ..
theorem blk_turn {w w' : World} {lo hi k : Nat} {o : Obj} (h : w.heap[k]? = some o) (ht : Turn lo hi w w') (hk : k < lo) : w'.heap[k]? = some o := (ht.block (Array.getElem?_eq_some_iff.1 h).1 (fun e => by omega)).trans h
/-- An element's rows, where it has parts. -/
theorem POw.elem {w : World} {lo hi g n cap : Nat} {ps : List Pnd} {es : List Pe} (h : POw w lo hi (.slice (some ⟨g, 0, none⟩) n cap) ps es) (hn : n = ps.length) (k : Nat) (hk : k < ps.length) (q : Nat) (hq : 1 ≤ q) (h1 : (ps.getD k .z).d.length = q) (h2 : (ps.getD k .z).h.length = q) :
    ∃ gu uc gv vc, ((es.getD k .z).u = .slice (some ⟨gu, 0, none⟩) q uc ∧ (es.getD k .z).v = .slice (some ⟨gv, 0, none⟩) q vc) ∧ (w.cell? ⟨g, k * 3 + 1, none⟩ = some (.slice (some ⟨gu, 0, none⟩) q uc) ∧ w.cell? ⟨g, k * 3 + 2, none⟩ = some (.slice (some ⟨gv, 0, none⟩) q vc)) ∧
      (w.ownsRow lo 9 1 (.slice (some ⟨gu, 0, none⟩) q uc) q (vStrs (ps.getD k .z).d) ∧ w.ownsRow lo 4 1 (.slice (some ⟨gv, 0, none⟩) q vc) q (vBools (ps.getD k .z).h)) ∧ (gu < hi ∧ gv < hi ∧ lo ≤ gu ∧ lo ≤ gv ∧ g ≠ gu ∧ g ≠ gv) := by
  have hl := h.len
  have hke : k < es.length := by omega
  obtain ⟨⟨c0, c1, c2⟩, -⟩ := h.2.cells (by omega) k hke
  obtain ⟨⟨o1, o2⟩, b1, b2⟩ := h.2.inner (getD_mem' (z := .z) hke)
  have hep : (es.getD k .z).p = ps.getD k .z := by rw [← pes_p, h.1]
  have e1 : (es.getD k .z).d = (ps.getD k .z).d := congrArg Pnd.d hep
  have e2 : (es.getD k .z).h = (ps.getD k .z).h := congrArg Pnd.h hep
  rw [e1, h1] at o1
  rw [e2, h2] at o2
  obtain ⟨gu, uc, eu, hu1, -⟩ := World.ownsRow.form o1 (by omega)
  obtain ⟨gv, vc, ev, hv1, -⟩ := World.ownsRow.form o2 (by omega)
  rw [eu] at o1 c1 b1
  rw [ev] at o2 c2 b2
  exact ⟨gu, uc, gv, vc, ⟨eu, ev⟩, ⟨c1, c2⟩, ⟨o1, o2⟩, (b1 gu rfl).1, (b2 gv rfl).1, hu1, hv1, fun e => (b1 gu rfl).2 (by rw [e]; rfl), fun e => (b2 gv rfl).2 (by rw [e]; rfl)⟩
theorem POw.turnH {w w' : World} {lo hi : Nat} {v : Value} {ps : List Pnd} {es : List Pe} (h : POw w lo hi v ps es) (k : Nat) (hk : k < ps.length) (h' : List Bool) (hg : w.grownBy w' (es.getD k .z).v.ownBlock) (ho : w'.ownsRow lo 4 1 (es.getD k .z).v h'.length (vBools h')) :
    ∃ es', POw w' lo hi v (ps.set k ⟨(ps.getD k .z).n, (ps.getD k .z).d, h'⟩) es' := by
  have hke : k < es.length := by rw [h.len]; exact hk
  have hep : (es.getD k .z).p = ps.getD k .z := by rw [← pes_p, h.1]
  refine ⟨_, ?_, h.2.turnH k hke h' hg ho⟩
  rw [map_set_p, h.1, ← hep]
  rfl
theorem POw.turnD {w w' : World} {lo hi : Nat} {v : Value} {ps : List Pnd} {es : List Pe} (h : POw w lo hi v ps es) (k : Nat) (hk : k < ps.length) (d' : List ByteArray) (hg : w.grownBy w' (es.getD k .z).u.ownBlock) (ho : w'.ownsRow lo 9 1 (es.getD k .z).u d'.length (vStrs d')) :
    ∃ es', POw w' lo hi v (ps.set k ⟨(ps.getD k .z).n, d', (ps.getD k .z).h⟩) es' := by
  have hke : k < es.length := by rw [h.len]; exact hk
  have hep : (es.getD k .z).p = ps.getD k .z := by rw [← pes_p, h.1]
  refine ⟨_, ?_, h.2.turnD k hke d' hg ho⟩
  rw [map_set_p, h.1, ← hep]
  rfl
theorem containsB_at {w : World} {n : Nat} {v : Value} {xs : List Bool} (x : Bool) (hn : xs.length = n) (h : Rd w 1 v n (vBools xs)) (h2 : n ≤ 1048576) :
    Calls Tryz.prog 29 #[v, .bool x] w fun e w' => e = .returned (.bool (xs.contains x)) ∧ Ext w w' := by
  subst hn
  exact slices_Contains_bool xs v x w h h2
theorem join_at {w : World} {n B : Nat} {v : Value} {L : List ByteArray} (hn : L.length = n) (ho : w.ownsRow B 9 1 v n (vStrs L)) (h2 : n ≤ 1048576) (hl : (joinS L ⟨#[]⟩).size ≤ 140737488355328) :
    Calls Tryz.prog 30 #[v, .string ⟨#[]⟩] w fun e w' => e = .returned (.string (joinS L ⟨#[]⟩)) ∧ Ext w w' := by
  subst hn
  exact strings_Join L ⟨#[]⟩ v B w ho h2 hl
theorem delete_at {w : World} {lo hi g n cap : Nat} {ps : List Pnd} {es : List Pe} (h : POw w lo hi (.slice (some ⟨g, 0, none⟩) n cap) ps es) (hn : n = ps.length) (i : Nat) (hil : i < n) (h2 : n ≤ 1048576) :
    Calls Tryz.prog 31 #[.slice (some ⟨g, 0, none⟩) n cap, .int .i64 i, .int .i64 ((i : Int) + 1)] w fun e w' => ∃ r, e = .returned r ∧
      POw w' lo hi r (ers ps i) (ers es i) ∧ w.grownBy w' (some g) := by
  subst hn
  exact (slices_Delete_pnd h i hil h2).mono fun e w' ⟨a, b, c⟩ => ⟨_, a, b, c⟩
theorem impl_TakeFragment (ps : List Pnd) (es : List Pe) (qq : Option Addr) (cap : Nat) (n p q : Int) (d : ByteArray) (w : World) (h : PRd w (.slice qq ps.length cap) ps es) (hcap : ps.length ≤ cap) (h2 : ps.length ≤ 1048576) (hs : ∀ i, i < ps.length → (ps.getD i .z).d.length ≤ 1048576 ∧ (ps.getD i .z).h.length ≤ 1048576 ∧ ∀ j, j < (ps.getD i .z).d.length → ((ps.getD i .z).d.getD j ByteArray.empty).size ≤ 1048576) (hdz : d.size ≤ 1048576) :
    Calls Tryz.prog 9 #[.slice qq ps.length cap, .agg #[.int .i64 n, .int .i64 p, .int .i64 q, .string d]] w fun e w' => ∃ r ds, e = .returned (.tuple #[r, .string (tkS ps n p q d), .bool (tkW ps n p q d), .bool (tkB ps n p q d)]) ∧ POw w' w.heap.size w'.heap.size r (tkO ps n p q d) ds ∧ Ext w w' := by
  have Hv := hid h
  have hg := hid (fun w h => impl_IsValidPending ps es qq cap w h hcap h2 hs)
  have hfr := hid (fun w => impl_IsValidFragment n p q d w hdz)
  have hB0 : (w.alloc (.cells #[.int .i64 n, .int .i64 p, .int .i64 q, .string d] 31)).heap[w.heap.size]? = some (.cells #[.int .i64 n, .int .i64 p, .int .i64 q, .string d] 31 (0, 0)) := heap_at _ rfl
  have X0 : Ext w (w.alloc (.cells #[.int .i64 n, .int .i64 p, .int .i64 q, .string d] 31)) := (by repeat' (first | exact Ext.refl _ | assumption | refine Ext.alloc ?_ _ | refine Ext.ext ?_ _ | refine Ext.drew ?_ | refine Ext.drewN ?_ _))
  cases e1 : okL ps
  · have hno : tkB ps n p q d = false := by rw [tkB, e1]; rfl
    rw [(tk_no hno).1, (tk_no hno).2.1, (tk_no hno).2.2, hno]
    rw [e1] at hg
    clear h hs e1 hno
    go_enter Tryz.func9, Tryz.ntmps9
    go_wp2_with (go_at_call 26; refine (hg.out _ (Hv.out.ext (by repeat' (first | exact Ext.refl _ | assumption | refine Ext.alloc ?_ _ | refine Ext.ext ?_ _ | refine Ext.drew ?_ | refine Ext.drewN ?_ _)))).mono ?_; rintro e w' ⟨rfl, z1, rfl⟩)
    ((try simp only [Exit.inBlock, Exit.then]); refine bodyPost_ret (results_tmp4 rfl _ _ _) rfl ?_)
    exact ⟨_, _, rfl, POw.nil _ _ _, (by repeat' (first | exact Ext.refl _ | assumption | refine Ext.alloc ?_ _ | refine Ext.ext ?_ _ | refine Ext.drew ?_ | refine Ext.drewN ?_ _))⟩
  rw [e1] at hg
  cases e2 : okF ⟨n, p, q, d⟩
  · have hno : tkB ps n p q d = false := by rw [tkB, e1, e2]; rfl
    rw [(tk_no hno).1, (tk_no hno).2.1, (tk_no hno).2.2, hno]
    rw [e2] at hfr
    clear h hs e1 e2 hno
    go_enter Tryz.func9, Tryz.ntmps9
    go_wp2_with (first | (go_at_call 26; refine (hg.out _ (Hv.out.ext (by repeat' (first | exact Ext.refl _ | assumption | refine Ext.alloc ?_ _ | refine Ext.ext ?_ _ | refine Ext.drew ?_ | refine Ext.drewN ?_ _)))).mono ?_; rintro e w' ⟨rfl, z1, rfl⟩) | (go_at_call 8; refine (hfr.out _).mono ?_; rintro e w' ⟨rfl, z2, rfl⟩))
    ((try simp only [Exit.inBlock, Exit.then]); refine bodyPost_ret (results_tmp4 rfl _ _ _) rfl ?_)
    exact ⟨_, _, rfl, POw.nil _ _ _, (by repeat' (first | exact Ext.refl _ | assumption | refine Ext.alloc ?_ _ | refine Ext.ext ?_ _ | refine Ext.drew ?_ | refine Ext.drewN ?_ _))⟩
  rw [e2] at hfr
  have hyes : tkB ps n p q d = true := by rw [tkB, e1, e2]; rfl
  have hc := hid (fun w a => impl_clonePending ps es (.slice qq ps.length cap) w a h2 (fun i hi => ⟨(hs i hi).1, (hs i hi).2.1⟩))
  obtain ⟨I, Q, rfl, rfl, hQ1, hQ9, hIQ, hit⟩ := frag_nat e2
  have hl4 := okL_len e1
  have hofq := tf_ofQ (n := n) (i := I) (q := Q) e1 hit
  have hofp := pl_ofQ (n := n) (q := Q) e1
  have htl := tf_list (n := n) (i := I) (q := Q) (d := d) e1 hQ1 hIQ
  have htn := tf_next (n := n) (i := I) (q := Q) (d := d) e1 hQ1
  have hKL := plI_lt (ps := ps) (n := n) (q := Q)
  have hL5 := plL_len (n := n) (q := Q) hl4
  have htd : tfL ps n I Q d = (plL ps n Q).set (plI ps n Q) (tfN ps n I Q d) := rfl
  have htd2 : tfN ps n I Q d = stF ((plL ps n Q).getD (plI ps n Q) .z) I d := rfl
  obtain ⟨ty1, ty2, ty3⟩ := tk_yes hyes
  rw [← htl, ← htn] at ty1
  rw [← htn] at ty2 ty3
  rw [hyes]
  generalize tkO ps n I Q d = O at *
  generalize tkS ps n I Q d = S' at *
  generalize tkW ps n I Q d = Wh at *
  have HO := hid (And.intro ty1 (And.intro ty2 ty3))
  clear ty1 ty2 ty3 htl htn
  have hpl := hid (fun r ds lo w ho hlo => impl_place ps ds r n I Q d lo w ho hlo hQ9 hl4)
  generalize tfL ps n I Q d = TL at *
  generalize tfN ps n I Q d = TN at *
  generalize plI ps n Q = K at *
  generalize plL ps n Q = L at *
  have Htd := hid (And.intro htd htd2)
  have Hof := hid (And.intro hofp hofq)
  clear htd htd2 hofp hofq hyes e1 e2 h hs
  go_enter Tryz.func9, Tryz.ntmps9
  go_wp2_with (first | (go_at_call 26; refine (hg.out _ (Hv.out.ext (by repeat' (first | exact Ext.refl _ | assumption | refine Ext.alloc ?_ _ | refine Ext.ext ?_ _ | refine Ext.drew ?_ | refine Ext.drewN ?_ _)))).mono ?_; rintro e w' ⟨rfl, z1, rfl⟩) | (go_at_call 8; refine (hfr.out _).mono ?_; rintro e w' ⟨rfl, z2, rfl⟩))
  have XW : Ext w ((((w.alloc (.cells #[.int .i64 n, .int .i64 I, .int .i64 Q, .string d] 31)).ext z1)).ext z2) := (by repeat' (first | exact Ext.refl _ | assumption | refine Ext.alloc ?_ _ | refine Ext.ext ?_ _ | refine Ext.drew ?_ | refine Ext.drewN ?_ _))
  have HB : ((((w.alloc (.cells #[.int .i64 n, .int .i64 I, .int .i64 Q, .string d] 31)).ext z1)).ext z2).heap[w.heap.size]? = some (.cells #[.int .i64 n, .int .i64 I, .int .i64 Q, .string d] 31 (0, 0)) := blk3 hB0 (by repeat' (first | exact Ext.refl _ | assumption | refine Ext.alloc ?_ _ | refine Ext.ext ?_ _ | refine Ext.drew ?_ | refine Ext.drewN ?_ _))
  generalize ((((w.alloc (.cells #[.int .i64 n, .int .i64 I, .int .i64 Q, .string d] 31)).ext z1)).ext z2) = W at *
  clear hB0 X0 hg hfr
  obtain ⟨⟨b0, b1, b2, b3⟩, -, hbl⟩ := box4 HB
  have XD : Ext W W.drew := (by repeat' (first | exact Ext.refl _ | assumption | refine Ext.alloc ?_ _ | refine Ext.ext ?_ _ | refine Ext.drew ?_ | refine Ext.drewN ?_ _))
  have d0 := XD.cell b0
  have d1 := XD.cell b1
  have d2 := XD.cell b2
  have d3 := XD.cell b3
  have hwl : w.heap.size < W.heap.size := hbl
  go_region_held3 (fun w' => w'.cell? ⟨w.heap.size, 0, none⟩ = some (.int .i64 n) ∧ w'.cell? ⟨w.heap.size, 1, none⟩ = some (.int .i64 I) ∧ w'.cell? ⟨w.heap.size, 2, none⟩ = some (.int .i64 Q) ∧ w'.cell? ⟨w.heap.size, 3, none⟩ = some (.string d))
    (first | exact ⟨b0, b1, b2, b3⟩ | exact ⟨d0, d1, d2, d3⟩ | exact ⟨e0, e1, e2, e3⟩ | exact ⟨f0, f1, f2, f3⟩)
    (first
    | (go_at_call 28; (with_reducible refine (hc.out _ (Hv.out.ext (XW.trans (by repeat' (first | exact Ext.refl _ | assumption | refine Ext.alloc ?_ _ | refine Ext.ext ?_ _ | refine Ext.drew ?_ | refine Ext.drewN ?_ _))))).mono ?_); rintro e w3 ⟨r, ds, rfl, ho, hx⟩; have Y1 : Ext W w3 := (show Ext W _ from (by repeat' (first | exact Ext.refl _ | assumption | refine Ext.alloc ?_ _ | refine Ext.ext ?_ _ | refine Ext.drew ?_ | refine Ext.drewN ?_ _))).trans hx; have e0 := Y1.cell b0; have e1 := Y1.cell b1; have e2 := Y1.cell b2; have e3 := Y1.cell b3; have hho : Hid (POw w3 W.heap.size w3.heap.size r ps ds) := ho; obtain ⟨rp, rc, rfl⟩ := own_shape ho.2.own; clear ho hx)
    | (go_at_call 27; (with_reducible refine (hpl.out _ _ W.heap.size _ hho.out Y1.size).mono ?_); rintro e w4 ⟨r2, ds2, rfl, ho2, hT⟩; have f0 := hT.cell e0 (fun h => by dsimp only at h; omega); have f1 := hT.cell e1 (fun h => by dsimp only at h; omega); have f2 := hT.cell e2 (fun h => by dsimp only at h; omega); have f3 := hT.cell e3 (fun h => by dsimp only at h; omega)))
  have X4 := hid ((XW.trans Y1).turned hT (Nat.le_of_lt hwl))
  have HB4 := hid (blk_turn (blk3 HB Y1) hT hwl)
  have H4 := hid ho2
  clear hT ho2 hho Y1 e0 e1 e2 e3 d0 d1 d2 d3 b0 b1 b2 b3 XD HB hc hpl
  rcases H4.out.form with ⟨-, e⟩ | ⟨g, c, rfl, hLc, hg0, hg1, hg2⟩
  · rw [e] at hKL; simp at hKL
  obtain ⟨gu, uc, gv, vc, ⟨eu, ev⟩, ⟨c1, c2⟩, ⟨o1, o2⟩, hb1, hb2, hb3, hb4, hb5', hb6'⟩ := H4.out.elem rfl K hKL Q hQ1 Hof.out.1.1 Hof.out.1.2.1
  have n0 : (0 : Int) ≤ (K : Int) := by omega
  have n1 : (K : Int) < (L.length : Int) := by omega
  have n2 : (0 : Int) ≤ (I : Int) := by omega
  have n3 : (I : Int) < (Q : Int) := by omega
  have cb : w4.cell? ⟨gv, I, none⟩ = some (.bool ((L.getD K .z).h.getD I false)) := (o2.cellAt I (by omega)).trans (vBools_get _ I (by rw [Hof.out.1.2.1]; exact hIQ))
  cases hb : (L.getD K .z).h.getD I false
  · rw [hb] at cb
    have hTN : Hid (TN = ⟨(L.getD K .z).n, (L.getD K .z).d.set I d, (L.getD K .z).h.set I true⟩) := by (show _ = _; rw [Htd.out.2, stF, hb]; rfl)
    go_wp2
    refine wp_region_ext (by kernel_rfl) (by kernel_rfl) ?_
    repeat (go_big_quiet_step ((first | fail)))
    refine wpQuiet_nil ?_
    rintro _ ⟨zq, rfl⟩
    have X5 : Ext w4 (w4.ext zq) := (by repeat' (first | exact Ext.refl _ | assumption | refine Ext.alloc ?_ _ | refine Ext.ext ?_ _ | refine Ext.drew ?_ | refine Ext.drewN ?_ _))
    go_wp2
    generalize w4.ext zq = W5 at *
    have H5 := hid (H4.out.ext X5)
    have XX5 := hid (X4.out.trans X5)
    have HB5 := blk3 HB4.out X5
    have hs5 := X5.size
    replace c1 := X5.cell c1
    replace c2 := X5.cell c2
    replace cb := X5.cell cb
    replace o2 := own_ext o2 X5
    have fb := o2.frozenAt I
    clear o1 H4 X4 HB4
    obtain ⟨⟨b0, b1, b2, b3⟩, -, -⟩ := box4 HB5
    have XD : Ext W5 W5.drew := (by repeat' (first | exact Ext.refl _ | assumption | refine Ext.alloc ?_ _ | refine Ext.ext ?_ _ | refine Ext.drew ?_ | refine Ext.drewN ?_ _))
    have d1 := XD.cell b1
    have d2 := XD.cell c2
    have hst := World.ownsRow.stored o2 I (.bool true)
    have hgr := hst.2
    have hb5 : w.heap.size ≠ gv := by omega
    obtain ⟨es6, h6⟩ := H5.out.turnH K hKL ((L.getD K .z).h.set I true) (by rw [ev]; exact hgr) (by rw [ev, List.length_set, Hof.out.1.2.1, vBools_set]; exact hst.1)
    have HB6 : (W5.setCell ⟨gv, I, none⟩ (.bool true)).heap[w.heap.size]? = some (.cells #[.int .i64 n, .int .i64 I, .int .i64 Q, .string d] 31 (0, 0)) := set_other HB5 hb5 _
    have XX6 : Ext w (W5.setCell ⟨gv, I, none⟩ (.bool true)) := XX5.out.setCell (by dsimp only; omega) _
    have hs6 := hgr.size
    clear hst hgr
    have k2 := (grownBy_set W5 ⟨gv, I, none⟩ (.bool true)).cell c2 (fun e => by have := Option.some.inj e; dsimp only at this; omega)
    obtain ⟨⟨k0', k1, k2', k3'⟩, -, -⟩ := box4 HB6
    go_region_held3 (fun w' => w'.cell? ⟨g, K * 3 + 2, none⟩ = some (.slice (some ⟨gv, 0, none⟩) Q vc) ∧ w'.cell? ⟨w.heap.size, 1, none⟩ = some (.int .i64 I)) (first | exact ⟨c2, b1⟩ | exact ⟨d2, d1⟩ | exact ⟨k2, k1⟩) (fail)
    have XE : Ext (W5.setCell ⟨gv, I, none⟩ (.bool true)) (W5.setCell ⟨gv, I, none⟩ (.bool true)).drew := (by repeat' (first | exact Ext.refl _ | assumption | refine Ext.alloc ?_ _ | refine Ext.ext ?_ _ | refine Ext.drew ?_ | refine Ext.drewN ?_ _))
    have H6 := hid (h6.ext XE)
    have XX6' := hid (XX6.trans XE)
    have HB6' := blk3 HB6 XE
    have hs6' : Hid (w4.heap.size ≤ (W5.setCell ⟨gv, I, none⟩ (.bool true)).drew.heap.size) := Nat.le_trans hs5 hs6
    clear h6 XX6 HB6 hs6 k0' k1 k2 k2' k3' c1 c2 cb fb o2 d1 d2 b0 b1 b2 b3 XD H5 XX5 HB5 hs5 XE X5
    generalize (W5.setCell ⟨gv, I, none⟩ (.bool true)).drew = W6 at *
    clear eu ev hb1 hb2 hb3 hb4 hb5' hb6' hb5 hb
    have hg6 : (L.set K ⟨(L.getD K .z).n, (L.getD K .z).d, (L.getD K .z).h.set I true⟩).getD K .z = ⟨(L.getD K .z).n, (L.getD K .z).d, (L.getD K .z).h.set I true⟩ := getD_set_self _ _ _ _ hKL
    have hl6 : L.length = (L.set K ⟨(L.getD K .z).n, (L.getD K .z).d, (L.getD K .z).h.set I true⟩).length := by rw [List.length_set]
    have hel := H6.out.elem hl6 K (by rw [← hl6]; exact hKL) Q hQ1 (by rw [hg6]; exact Hof.out.1.1) (by rw [hg6, List.length_set]; exact Hof.out.1.2.1)
    obtain ⟨gu, uc, gv2, vc2, ⟨eu, -⟩, ⟨c1, -⟩, ⟨o1, -⟩, hb1, hb2, hb3, hb4, hb5, hb6⟩ := hel
    rw [hg6] at o1
    dsimp only at o1
    obtain ⟨⟨u0, cu⟩, fu⟩ := own_cell o1 I (by omega)
    obtain ⟨⟨b0, b1, b2, b3⟩, -, -⟩ := box4 HB6'
    have XD : Ext W6 W6.drew := (by repeat' (first | exact Ext.refl _ | assumption | refine Ext.alloc ?_ _ | refine Ext.ext ?_ _ | refine Ext.drew ?_ | refine Ext.drewN ?_ _))
    have d1 := XD.cell b1
    have d3 := XD.cell b3
    have dc := XD.cell c1
    have hst := World.ownsRow.stored o1 I (.string d)
    have hgr := hst.2
    have hb7 : w.heap.size ≠ gu := by omega
    obtain ⟨es7, h7⟩ := H6.out.turnD K (by rw [← hl6]; exact hKL) ((L.getD K .z).d.set I d) (by rw [eu]; exact hgr) (by rw [eu, List.length_set, Hof.out.1.1, vStrs_set]; exact hst.1)
    have hTL : (L.set K ⟨(L.getD K .z).n, (L.getD K .z).d, (L.getD K .z).h.set I true⟩).set K ⟨((L.set K ⟨(L.getD K .z).n, (L.getD K .z).d, (L.getD K .z).h.set I true⟩).getD K .z).n, (L.getD K .z).d.set I d, ((L.set K ⟨(L.getD K .z).n, (L.getD K .z).d, (L.getD K .z).h.set I true⟩).getD K .z).h⟩ = TL := by
      rw [hg6, List.set_set, Htd.out.1, hTN.out]
    rw [hTL] at h7
    have HB7 : (W6.setCell ⟨gu, I, none⟩ (.string d)).heap[w.heap.size]? = some (.cells #[.int .i64 n, .int .i64 I, .int .i64 Q, .string d] 31 (0, 0)) := set_other HB6' hb7 _
    have XX7 : Ext w (W6.setCell ⟨gu, I, none⟩ (.string d)) := XX6'.out.setCell (by dsimp only; omega) _
    have hs7 := hgr.size
    clear hst hgr hTL hg6 hl6 o1
    have kc := (grownBy_set W6 ⟨gu, I, none⟩ (.string d)).cell c1 (fun e => by have := Option.some.inj e; dsimp only at this; omega)
    obtain ⟨⟨k0', k1, k2', k3⟩, -, -⟩ := box4 HB7
    go_wp2
    go_region_held3 (fun w' => w'.cell? ⟨g, K * 3 + 1, none⟩ = some (.slice (some ⟨gu, 0, none⟩) Q uc) ∧ w'.cell? ⟨w.heap.size, 1, none⟩ = some (.int .i64 I) ∧ w'.cell? ⟨w.heap.size, 3, none⟩ = some (.string d)) (first | exact ⟨c1, b1, b3⟩ | exact ⟨dc, d1, d3⟩ | exact ⟨kc, k1, k3⟩) (fail)
    have XE : Ext (W6.setCell ⟨gu, I, none⟩ (.string d)) (W6.setCell ⟨gu, I, none⟩ (.string d)).drew := (by repeat' (first | exact Ext.refl _ | assumption | refine Ext.alloc ?_ _ | refine Ext.ext ?_ _ | refine Ext.drew ?_ | refine Ext.drewN ?_ _))
    have H7 := hid (h7.ext XE)
    have XX7' := hid (XX7.trans XE)
    have hs7' : Hid (w4.heap.size ≤ (W6.setCell ⟨gu, I, none⟩ (.string d)).drew.heap.size) := Nat.le_trans hs6'.out hs7
    clear h7 XX7 HB7 hs7 k0' k1 k2' k3 kc c1 cu fu d1 d3 dc b0 b1 b2 b3 XD H6 XX6' HB6' hs6' XE eu hTN hb1 hb2 hb3 hb4 hb5 hb6 hb7
    generalize (W6.setCell ⟨gu, I, none⟩ (.string d)).drew = W7 at *
    have hTK : K < TL.length := by (rw [Htd.out.1, List.length_set]; exact hKL)
    have hTN : TL.getD K .z = TN := by (rw [Htd.out.1]; exact getD_set_self _ _ _ _ hKL)
    have hTn : L.length = TL.length := by rw [Htd.out.1, List.length_set]
    have hel := H7.out.elem hTn K hTK Q hQ1 (by rw [hTN]; exact Hof.out.2.1) (by rw [hTN]; exact Hof.out.2.2.1)
    rw [hTN] at hel
    obtain ⟨gu2, uc2, gv2, vc2, -, ⟨c1, c2⟩, ⟨o1, o2⟩, -⟩ := hel
    have hcn := hid (containsB_at false Hof.out.2.2.1 (Rd.own o2) (by omega))
    have HTn := hid (And.intro hTn hTK)
    have hwh : Hid (whP TN = !TN.h.contains false) := (by rfl)
    clear hTK hTN hTn
    generalize TN.h.contains false = cc at hcn hwh
    go_wp2_with fail
    go_at_call 29
    refine (hcn.out).mono ?_
    rintro e w8 ⟨rfl, hx8⟩
    replace c1 := hx8.cell c1
    replace o1 := own_ext o1 hx8
    have H8 := hid (H7.out.ext hx8)
    have X8 := hid (XX7'.out.trans hx8)
    have hs8 := Nat.le_trans hs7'.out hx8.size
    clear hx8 hcn c2 o2
    cases cc
    · have hw1 : Hid (whP TN = true) := hwh.out
      have hjn := hid (join_at Hof.out.2.1 o1 (by omega) (by have := ofQ_join Hof.out.2; omega))
      clear hwh o1
      go_wp2_with fail
      go_at_call 30
      refine (hjn.out).mono ?_
      rintro e w9 ⟨rfl, hx9⟩
      have H9 := hid (H8.out.ext hx9)
      have X9 := hid (X8.out.trans hx9)
      have hs9 := Nat.le_trans hs8 hx9.size
      clear hx9 hjn H8 X8 c1
      have hdl := hid (delete_at H9.out HTn.out.1 K hKL (by omega))
      go_wp2_with fail
      go_at_call 31
      refine (hdl.out).mono ?_
      rintro e wA ⟨rA, rfl, hoA, hgA⟩
      have HA := hid (And.intro (hoA.wide (lo' := w.heap.size) (hi' := wA.heap.size) (Nat.le_of_lt hwl) (Nat.le_trans hs9 hgA.size)) (Ext.grown X9.out hgA (fun j e => by cases e; omega)))
      clear hoA hgA H9 X9 hdl
      go_wp2
      ((try simp only [Exit.inBlock, Exit.then]); refine bodyPost_ret (results_tmp4 rfl _ _ _) rfl ?_)
      obtain ⟨q1, q2, q3⟩ := HO.out
      rw [hw1.out] at q1 q2 q3
      subst q1 q2 q3
      exact ⟨_, _, rfl, HA.out.1, HA.out.2⟩
    · have hw1 : Hid (whP TN = false) := hwh.out
      clear hwh o1 c1
      go_wp2
      ((try simp only [Exit.inBlock, Exit.then]); refine bodyPost_ret (results_tmp4 rfl _ _ _) rfl ?_)
      obtain ⟨q1, q2, q3⟩ := HO.out
      rw [hw1.out] at q1 q2 q3
      subst q1 q2 q3
      exact ⟨_, _, rfl, H8.out.wide (Nat.le_of_lt hwl) hs8, X8.out⟩
  · rw [hb] at cb
    have hTN : Hid (TL = L) := by
      show _ = _
      rw [Htd.out.1, Htd.out.2, stF, hb]
      show L.set K (L.getD K .z) = L
      rw [List.getD_eq_getElem?_getD, List.getElem?_eq_getElem hKL]
      exact List.set_getElem_self hKL
    go_wp2
    refine wp_region_ext (by kernel_rfl) (by kernel_rfl) ?_
    repeat (go_big_quiet_step ((first | fail)))
    refine wpQuiet_nil ?_
    rintro _ ⟨zq, rfl⟩
    have X5 : Ext w4 (w4.ext zq) := (by repeat' (first | exact Ext.refl _ | assumption | refine Ext.alloc ?_ _ | refine Ext.ext ?_ _ | refine Ext.drew ?_ | refine Ext.drewN ?_ _))
    have H5 : Hid (POw (w4.ext zq) W.heap.size w4.heap.size (.slice (some ⟨g, 0, none⟩) L.length c) TL ds2) := by (show POw _ _ _ _ _ _; rw [hTN.out]; exact H4.out.ext X5)
    have XX5 := hid (X4.out.trans X5)
    have hs5 := hid X5.size
    generalize w4.ext zq = W5 at *
    clear H4 X4 HB4 c1 c2 o1 o2 cb X5 hb hTN
    have hTK : K < TL.length := by (rw [Htd.out.1, List.length_set]; exact hKL)
    have hTN : TL.getD K .z = TN := by (rw [Htd.out.1]; exact getD_set_self _ _ _ _ hKL)
    have hTn : L.length = TL.length := by rw [Htd.out.1, List.length_set]
    have hel := H5.out.elem hTn K hTK Q hQ1 (by rw [hTN]; exact Hof.out.2.1) (by rw [hTN]; exact Hof.out.2.2.1)
    rw [hTN] at hel
    obtain ⟨gu2, uc2, gv2, vc2, -, ⟨c1, c2⟩, ⟨o1, o2⟩, -⟩ := hel
    have hcn := hid (containsB_at false Hof.out.2.2.1 (Rd.own o2) (by omega))
    have HTn := hid (And.intro hTn hTK)
    have hwh : Hid (whP TN = !TN.h.contains false) := (by rfl)
    clear hTK hTN hTn
    generalize TN.h.contains false = cc at hcn hwh
    go_wp2_with fail
    go_at_call 29
    refine (hcn.out).mono ?_
    rintro e w8 ⟨rfl, hx8⟩
    replace c1 := hx8.cell c1
    replace o1 := own_ext o1 hx8
    have H8 := hid (H5.out.ext hx8)
    have X8 := hid (XX5.out.trans hx8)
    have hs8 := Nat.le_trans hs5.out hx8.size
    clear hx8 hcn c2 o2
    cases cc
    · have hw1 : Hid (whP TN = true) := hwh.out
      have hjn := hid (join_at Hof.out.2.1 o1 (by omega) (by have := ofQ_join Hof.out.2; omega))
      clear hwh o1
      go_wp2_with fail
      go_at_call 30
      refine (hjn.out).mono ?_
      rintro e w9 ⟨rfl, hx9⟩
      have H9 := hid (H8.out.ext hx9)
      have X9 := hid (X8.out.trans hx9)
      have hs9 := Nat.le_trans hs8 hx9.size
      clear hx9 hjn H8 X8 c1
      have hdl := hid (delete_at H9.out HTn.out.1 K hKL (by omega))
      go_wp2_with fail
      go_at_call 31
      refine (hdl.out).mono ?_
      rintro e wA ⟨rA, rfl, hoA, hgA⟩
      have HA := hid (And.intro (hoA.wide (lo' := w.heap.size) (hi' := wA.heap.size) (Nat.le_of_lt hwl) (Nat.le_trans hs9 hgA.size)) (Ext.grown X9.out hgA (fun j e => by cases e; omega)))
      clear hoA hgA H9 X9 hdl
      go_wp2
      ((try simp only [Exit.inBlock, Exit.then]); refine bodyPost_ret (results_tmp4 rfl _ _ _) rfl ?_)
      obtain ⟨q1, q2, q3⟩ := HO.out
      rw [hw1.out] at q1 q2 q3
      subst q1 q2 q3
      exact ⟨_, _, rfl, HA.out.1, HA.out.2⟩
    · have hw1 : Hid (whP TN = false) := hwh.out
      clear hwh o1 c1
      go_wp2
      ((try simp only [Exit.inBlock, Exit.then]); refine bodyPost_ret (results_tmp4 rfl _ _ _) rfl ?_)
      obtain ⟨q1, q2, q3⟩ := HO.out
      rw [hw1.out] at q1 q2 q3
      subst q1 q2 q3
      exact ⟨_, _, rfl, H8.out.wide (Nat.le_of_lt hwl) hs8, X8.out⟩
end Go.Proofs.YtnngklclehffhaaGreatDoor
