/- A link that worsens: the reference's side. -/
import Derived.Test.YtppdbnopgcjgjaaWWorsen
import Derived.Test.YtppdbnopgcjgjaaWDelay
namespace Go.Proofs.Ytppdbnopgcjgjaa
open Go.RowKit
set_option maxHeartbeats 4000000
set_option maxRecDepth 100000
theorem worsenL_len (ps ls ds : List Int) (x y : Int) : (worsenL ps ls ds x y).length ≤ ls.length := by
  unfold worsenL
  split
  · rw [List.length_set]; exact Nat.le_refl _
  · exact Nat.zero_le _
theorem worsenD_len (ps ls ds : List Int) (x y : Int) : (worsenD ps ls ds x y).length ≤ ds.length := by
  unfold worsenD
  split
  · exact Nat.le_refl _
  · exact Nat.zero_le _
theorem spec_l1Least (a b : Int) (w : World) : Calls Try.prog 78 #[.int .i64 a, .int .i64 b] w fun e w' => e = .returned (.int .i64 (min a b)) ∧ w = w' := by
  cases h : decide (a < b)
  · have e : min a b = b := Int.min_eq_right (by have := of_decide_eq_false h; omega)
    rw [e]
    go_enter Try.func78, Try.ntmps78
    go_wp2
    go_returns
    exact ⟨rfl, rfl⟩
  · have e : min a b = a := Int.min_eq_left (by have := of_decide_eq_true h; omega)
    rw [e]
    go_enter Try.func78, Try.ntmps78
    go_wp2
    go_returns
    exact ⟨rfl, rfl⟩
theorem spec_WorsenLink (ps ls ds : List Int) (v u u' : Value) (x y : Int) (w : World) (h : Rd w 1 v ps.length (vInts ps)) (k : Rd w 1 u ls.length (vInts ls)) (l : Rd w 1 u' ds.length (vInts ds))
    (h2 : ps.length ≤ 1048576) (k2 : ls.length ≤ 1048576) (l2 : ds.length ≤ 1048576) :
    Calls Try.prog 36 #[.agg #[v], .agg #[u, u'], .int .i64 x, .int .i64 y] w (WorsenPost ps ls ds x y w) := by
  have Hr := hid h
  have Kr := hid k
  have Lr := hid l
  have hc : Hid (∀ (v u u' : Value) (w : World), Rd w 1 v ps.length (vInts ps) → Rd w 1 u ls.length (vInts ls) → Rd w 1 u' ds.length (vInts ds) →
      Calls Try.prog 43 #[.agg #[v], .agg #[u, u'], .int .i64 x] w fun e w' => e = .returned (.bool (hasC ps ls ds x)) ∧ Ext w w') :=
    fun v u u' w h k l => spec_l22Node ps ls ds v u u' x w h k l h2 k2 l2
  have hwi : Hid (∀ w, Calls Try.prog 75 #[.int .i64 y, .int .i64 0, .int .i64 100] w fun e w' => e = .returned (.bool (inB y 0 100)) ∧ w = w') := fun w => spec_l1In y 0 100 w
  have hc1 : Hid (∀ (w : World), Rd w 1 u ls.length (vInts ls) → Calls Try.prog 77 #[u] w fun e w' => ∃ r, e = .returned r ∧ w'.ownsRow w.heap.size 3 1 r ls.length (vInts ls) ∧ Ext w w') := fun w h => spec_l1Own ls u w h k2
  have hc2 : Hid (∀ (w : World), Rd w 1 u' ds.length (vInts ds) → Calls Try.prog 77 #[u'] w fun e w' => ∃ r, e = .returned r ∧ w'.ownsRow w.heap.size 3 1 r ds.length (vInts ds) ∧ Ext w w') := fun w h => spec_l1Own ds u' w h l2
  clear h k l
  cases hg : worsenB ps ls ds x y
  · have Hno := hid hg
    have hP : ∀ w', Ext w w' → WorsenPost ps ls ds x y w (.returned (.tuple #[.agg #[.slice none 0 0, .slice none 0 0], .bool false])) w' := fun w' hx => worsen_no hg hx
    have HP := hid hP
    rw [worsenB] at hg
    clear hP
    generalize WorsenPost ps ls ds x y w = Post at *
    by_cases g2 : x = 0
    · subst g2
      cases g1 : hasC ps ls ds 0
      all_goals
        rw [g1] at hc
        clear g1 hg
        go_enter Try.func36, Try.ntmps36
        go_wp2_with (first | (go_at_call 43; refine (hc.out _ _ _ _ (Hr.out.ext (by repeat' (first | exact Ext.refl _ | assumption | refine Ext.alloc ?_ _ | refine Ext.ext ?_ _ | refine Ext.drew ?_ | refine Ext.drewN ?_ _))) (Kr.out.ext (by repeat' (first | exact Ext.refl _ | assumption | refine Ext.alloc ?_ _ | refine Ext.ext ?_ _ | refine Ext.drew ?_ | refine Ext.drewN ?_ _))) (Lr.out.ext (by repeat' (first | exact Ext.refl _ | assumption | refine Ext.alloc ?_ _ | refine Ext.ext ?_ _ | refine Ext.drew ?_ | refine Ext.drewN ?_ _)))).mono ?_; rintro e w' ⟨rfl, z1, rfl⟩) | (go_at_call 75; refine (hwi.out _).mono ?_; rintro e w' ⟨rfl, rfl⟩))
        refine bodyPost_ret (results_cell_row2 rfl _ _ (w.heap.size + 1 + 1) _ _ (0, 0) _ (.bool false) rfl rfl (box2_set (t := 28) (a := .slice none 0 0) (b := .slice none 0 0) (heap_extd (heap_at _ (by simp)) _) _ _) Try.underlying28 rfl (by kernel_rfl)) rfl (HP.out _ (Ext.setCell (Ext.setCell (by repeat' (first | exact Ext.refl _ | assumption | refine Ext.alloc ?_ _ | refine Ext.ext ?_ _ | refine Ext.drew ?_ | refine Ext.drewN ?_ _)) (by simp; omega) _) (by simp; omega) _))
    · have t1 : decide (x = 0) = false := by simpa using g2
      cases g3 : inB y 0 100
      all_goals
        rw [g3] at hwi
        cases g1 : hasC ps ls ds x
        all_goals
          try (rw [g1, g3] at hg; simp [g2] at hg; done)
      all_goals
        rw [g1] at hc
        clear g1 hg g3
        go_enter Try.func36, Try.ntmps36
        go_wp2_with (first | (go_at_call 43; refine (hc.out _ _ _ _ (Hr.out.ext (by repeat' (first | exact Ext.refl _ | assumption | refine Ext.alloc ?_ _ | refine Ext.ext ?_ _ | refine Ext.drew ?_ | refine Ext.drewN ?_ _))) (Kr.out.ext (by repeat' (first | exact Ext.refl _ | assumption | refine Ext.alloc ?_ _ | refine Ext.ext ?_ _ | refine Ext.drew ?_ | refine Ext.drewN ?_ _))) (Lr.out.ext (by repeat' (first | exact Ext.refl _ | assumption | refine Ext.alloc ?_ _ | refine Ext.ext ?_ _ | refine Ext.drew ?_ | refine Ext.drewN ?_ _)))).mono ?_; rintro e w' ⟨rfl, z1, rfl⟩) | (go_at_call 75; refine (hwi.out _).mono ?_; rintro e w' ⟨rfl, rfl⟩))
        refine bodyPost_ret (results_cell_row2 rfl _ _ (w.heap.size + 1 + 1) _ _ (0, 0) _ (.bool false) rfl rfl (box2_set (t := 28) (a := .slice none 0 0) (b := .slice none 0 0) (heap_extd (heap_at _ (by simp)) _) _ _) Try.underlying28 rfl (by kernel_rfl)) rfl (HP.out _ (Ext.setCell (Ext.setCell (by repeat' (first | exact Ext.refl _ | assumption | refine Ext.alloc ?_ _ | refine Ext.ext ?_ _ | refine Ext.drew ?_ | refine Ext.drewN ?_ _)) (by simp; omega) _) (by simp; omega) _))
  · have Hyes := hid hg
    rw [worsenB, Bool.and_eq_true, Bool.and_eq_true] at hg
    obtain ⟨⟨g1, g2⟩, g3⟩ := hg
    have g2' : ¬ x = 0 := by simpa using g2
    have t1 : decide (x = 0) = false := by simpa using g2'
    rw [g1] at hc
    rw [g3] at hwi
    obtain ⟨h3, h4, h5⟩ := hasC_iff g1
    have h6 := (goodC_all h3).2.1
    rw [inB_iff] at g3
    have hn : 0 < ls.length := by omega
    have hk3 := (goodC_all h3).2.2.2.1
    obtain ⟨i, rfl⟩ := Int.eq_ofNat_of_zero_le h4
    have hin : i < ls.length := by omega
    have hlo : 0 ≤ ls.getD i 0 ∧ ls.getD i 0 ≤ 100 := by
      have := List.all_eq_true.1 hk3 i (List.mem_range.2 (by omega))
      rw [costOk, Bool.and_eq_true, inB_iff] at this
      exact this.1
    have hwr : IntKind.i64.wrap (ls.getD i 0 + y) = ls.getD i 0 + y := IntWalk.i64_in _ (by omega)
    have H6 := hid h6; clear h6 hk3
    have hP : ∀ r r' w', w'.ownsRow w.heap.size 3 1 r ls.length (vInts (ls.set i (min 100 (ls.getD i 0 + y)))) → w'.ownsRow w.heap.size 3 1 r' ds.length (vInts ds) → Dis r r' → Ext w w' →
        WorsenPost ps ls ds i y w (.returned (.tuple #[.agg #[r, r'], .bool true])) w' := fun r r' w' o1 o2 hd hx => worsen_yes Hyes.out o1 o2 hd hx
    have HP := hid hP
    have hL : ∀ w, Calls Try.prog 78 #[.int .i64 100, .int .i64 (ls.getD i 0 + y)] w fun e w' => e = .returned (.int .i64 (min 100 (ls.getD i 0 + y))) ∧ w = w' := fun w => spec_l1Least _ _ w
    have HL := hid hL
    clear hL
    have HE := hid (vInts_get ls i hin)
    clear hP
    generalize WorsenPost ps ls ds i y w = Post at *
    generalize ls.getD i 0 = x0 at *
    clear g1 g2
    go_enter Try.func36, Try.ntmps36
    go_wp2_with (first | (go_at_call 43; refine (hc.out _ _ _ _ (Hr.out.ext (by repeat' (first | exact Ext.refl _ | assumption | refine Ext.alloc ?_ _ | refine Ext.ext ?_ _ | refine Ext.drew ?_ | refine Ext.drewN ?_ _))) (Kr.out.ext (by repeat' (first | exact Ext.refl _ | assumption | refine Ext.alloc ?_ _ | refine Ext.ext ?_ _ | refine Ext.drew ?_ | refine Ext.drewN ?_ _))) (Lr.out.ext (by repeat' (first | exact Ext.refl _ | assumption | refine Ext.alloc ?_ _ | refine Ext.ext ?_ _ | refine Ext.drew ?_ | refine Ext.drewN ?_ _)))).mono ?_; rintro e w' ⟨rfl, z1, rfl⟩) | (go_at_call 75; refine (hwi.out _).mono ?_; rintro e w' ⟨rfl, rfl⟩))
    generalize hW0 : ((((w.alloc (.cells #[v] 26)).alloc (.cells #[u, u'] 28)).alloc (.cells #[.slice none 0 0, .slice none 0 0] 28)).ext z1) = w0 at *
    have XB : Ext w w0 := by rw [← hW0]; exact (by repeat' (first | exact Ext.refl _ | assumption | refine Ext.alloc ?_ _ | refine Ext.ext ?_ _ | refine Ext.drew ?_ | refine Ext.drewN ?_ _))
    have b0 : w0.heap[w.heap.size + 1]? = some (.cells #[u, u'] 28 (0, 0)) := by rw [← hW0]; exact heap_extd (heap_old (heap_at _ (by simp)) _) _
    have r0 : w0.heap[w.heap.size + 1 + 1]? = some (.cells #[.slice none 0 0, .slice none 0 0] 28 (0, 0)) := by rw [← hW0]; exact heap_extd (heap_at _ (by simp)) _
    obtain ⟨⟨c0, c1⟩, -, -⟩ := box2 b0
    have hs0 := (Array.getElem?_eq_some_iff.1 r0).1
    have R0 := hid r0
    clear hW0 b0 r0
    have X1 : Ext w w0.drew := XB.drew
    have d0 := (Ext.refl w0).drew.cell c0
    have d1 := (Ext.refl w0).drew.cell c1
    go_region_held3 (fun w' => w'.cell? ⟨w.heap.size + 1, 0, none⟩ = some u ∧ w'.cell? ⟨w.heap.size + 1, 1, none⟩ = some u') (first | exact ⟨c0, c1⟩ | exact ⟨(show Ext w0 _ from (by repeat' (first | exact Ext.refl _ | assumption | refine Ext.alloc ?_ _ | refine Ext.ext ?_ _ | refine Ext.drew ?_ | (refine Ext.setCell ?_ (by first | exact Ext.size (by assumption) | (simp; done) | (simp; omega)) _)))).cell c0, (show Ext w0 _ from (by repeat' (first | exact Ext.refl _ | assumption | refine Ext.alloc ?_ _ | refine Ext.ext ?_ _ | refine Ext.drew ?_ | (refine Ext.setCell ?_ (by first | exact Ext.size (by assumption) | (simp; done) | (simp; omega)) _)))).cell c1⟩)
      (first
        | (go_at_call 77; (with_reducible refine (hc1.out _ (Kr.out.ext (XB.trans (by repeat' (first | exact Ext.refl _ | assumption | refine Ext.alloc ?_ _ | refine Ext.ext ?_ _ | refine Ext.drew ?_ | (refine Ext.setCell ?_ (by first | exact Ext.size (by assumption) | (simp; done) | (simp; omega)) _)))))).mono ?_); rintro e w1 ⟨r1, rfl, ho1, hx1⟩; obtain ⟨g, cap, rfl⟩ := own_form ho1 hn; have Y1 : Ext w0 w1 := (show Ext w0 _ from (by repeat' (first | exact Ext.refl _ | assumption | refine Ext.alloc ?_ _ | refine Ext.ext ?_ _ | refine Ext.drew ?_ | (refine Ext.setCell ?_ (by first | exact Ext.size (by assumption) | (simp; done) | (simp; omega)) _)))).trans hx1; (try (have HB1 := hid ((hx1.heap (by simp)).trans (heap_at (w := w0.drew) (k := w0.heap.size) (.cells #[.slice none 0 0, .slice none 0 0] 28 (0, 0)) rfl)); obtain ⟨⟨m0, m1⟩, ⟨m2, m3⟩, -⟩ := box2 HB1.out)))
        | (go_at_call 77; (with_reducible refine (hc2.out _ (Lr.out.ext (XB.trans (by repeat' (first | exact Ext.refl _ | assumption | refine Ext.alloc ?_ _ | refine Ext.ext ?_ _ | refine Ext.drew ?_ | (refine Ext.setCell ?_ (by first | exact Ext.size (by assumption) | (simp; done) | (simp; omega)) _)))))).mono ?_); rintro e w2 ⟨r2, rfl, ho2, hx2⟩; obtain ⟨p2, cap2, rfl⟩ := own_shape ho2; have Y2 : Ext w0 w2 := (show Ext w0 _ from (by repeat' (first | exact Ext.refl _ | assumption | refine Ext.alloc ?_ _ | refine Ext.ext ?_ _ | refine Ext.drew ?_ | (refine Ext.setCell ?_ (by first | exact Ext.size (by assumption) | (simp; done) | (simp; omega)) _)))).trans hx2; (try (have HB2 := hid ((hx2.heap (by simp)).trans (heap_at (w := w1) (.cells #[.slice none 0 0, .slice none 0 0] 28 (0, 0)) rfl)); obtain ⟨⟨m0, m1⟩, ⟨m2, m3⟩, -⟩ := box2 HB2.out)); (try (have HB2 := hid ((hx2.heap (Array.getElem?_eq_some_iff.1 HB1.out).1).trans HB1.out); obtain ⟨⟨m0, m1⟩, ⟨m2, m3⟩, -⟩ := box2 HB2.out))))
    · have HB := heap_at (w := w2) (k := w2.heap.size) (.cells #[.slice (some ⟨g, 0, none⟩) ls.length cap, .slice p2 ds.length cap2] 28) rfl
      have q1 := own_size ho1
      have q2 := own_row ho2
      have q3 := hx2.size
      have q4 := Y2.size
      simp at q1 q2 q3
      have K := hid (wf_mk HB ((XB.trans Y2).alloc _) (Y2.alloc _) (own_mono (own_ext (own_ext ho1 hx2) ((Ext.refl _).alloc _)) (by simp)) (own_mono (own_ext ho2 ((Ext.refl _).alloc _)) Y1.size) (by omega) (fun j hj => by have := q2 j hj; omega) (by omega))
      clear ho1 ho2 hx1 hx2 Y1 Y2 q1 q2 q3 q4 HB
      generalize (w2.alloc (.cells #[.slice (some ⟨g, 0, none⟩) ls.length cap, .slice p2 ds.length cap2] 28)) = W at K ⊢
      obtain ⟨HB, XW, YW, o1, o2, hn1, hn2, hp⟩ := K.out
      obtain ⟨⟨a0, a1⟩, ⟨a2, a3⟩, -⟩ := box2 HB
      have ec := (o1.cellAt i (by omega)).trans HE.out
      have fz := (own_cell o1 i (by omega)).2
      have n0 : (0 : Int) ≤ (i : Int) := by omega
      have n1 : (i : Int) < (ls.length : Int) := by omega
      have RW := (YW.heap hs0).trans R0.out
      go_wp2
      go_region_with (go_at_call 78; (with_reducible refine (HL.out _).mono ?_); rintro e w' ⟨rfl, rfl⟩)
      all_goals
        have o1' := (own_at (min 100 (x0 + y)) o1 hin).drew
        have o2' : (W.setCell ⟨g, i, none⟩ (.int .i64 (min 100 (x0 + y)))).drew.ownsRow _ _ _ _ _ _ := (own_away o2 (fun j hj => fun e => (hn2 j hj).2 (by subst e; rfl)) (.int .i64 (min 100 (x0 + y)))).drew
        have HB' : (W.setCell ⟨g, i, none⟩ (.int .i64 (min 100 (x0 + y)))).drew.heap[_]? = _ := set_other (p := ⟨g, i, none⟩) HB (fun e => hn1 (by rw [e]; rfl)) (.int .i64 (min 100 (x0 + y)))
        have hgg := (own_size o1).1
        have RW' : (W.setCell ⟨g, i, none⟩ (.int .i64 (min 100 (x0 + y)))).drew.heap[_]? = _ := set_other (p := ⟨g, i, none⟩) RW (by show _ ≠ g; omega) (.int .i64 (min 100 (x0 + y)))
        have XW' := (XW.setCell (p := ⟨g, i, none⟩) (by have := XB.size; show _ ≤ g; omega) (.int .i64 (min 100 (x0 + y)))).drew
        have hdis : Dis (.slice (some ⟨g, 0, none⟩) ls.length cap) (.slice p2 ds.length cap2) := .inr (fun e => (hn2 g e.symm).2 rfl)
        clear K HB RW XW YW o1 o2 a0 a1 a2 a3 ec fz hn1 hn2
        generalize (W.setCell ⟨g, i, none⟩ (.int .i64 (min 100 (x0 + y)))).drew = W2 at *
        obtain ⟨⟨a0, a1⟩, -, -⟩ := box2 HB'
        obtain ⟨⟨a2, a3⟩, ⟨a4, a5⟩, l5⟩ := box2 RW'
        have K2 := hid (And.intro o1' (And.intro o2' (And.intro RW' (And.intro XW' hdis))))
        clear o1' o2' RW' XW' HB' hdis
        go_wp2
        obtain ⟨o1', o2', RW', XW', hdis⟩ := K2.out
        refine bodyPost_ret (results_cell_row2 rfl _ _ (w.heap.size + 1 + 1) _ _ (0, 0) _ (.bool true) rfl rfl (box2_set RW' _ _) Try.underlying28 rfl (by kernel_rfl)) rfl (HP.out _ _ _ ?_ ?_ hdis ?_)
        · exact own_mono (own_set (own_set o1' (by show _ < _; omega) _) (by show _ < _; omega) _) XB.size
        · exact own_mono (own_set (own_set o2' (by show _ < _; omega) _) (by show _ < _; omega) _) XB.size
        · exact (XW'.setCell (p := ⟨w.heap.size + 1 + 1, 0, none⟩) (by show w.heap.size ≤ w.heap.size + 1 + 1; omega) _).setCell (p := ⟨w.heap.size + 1 + 1, 1, none⟩) (by show w.heap.size ≤ w.heap.size + 1 + 1; omega) _
    · have HB := box2_set (t := 28) HB2.out (.slice (some ⟨g, 0, none⟩) ls.length cap) (.slice p2 ds.length cap2)
      have q1 := own_size ho1
      have q2 := own_row ho2
      have q3 := hx2.size
      have q4 := Y1.size
      have q5 := XB.size
      simp at q1 q2 q3
      have K := hid (wf_mk HB (((XB.trans Y2).setCell (by simp; omega) _).setCell (by simp; omega) _) ((Y2.setCell (by simp; omega) _).setCell (by simp; omega) _)
        (own_apart (own_mono (own_ext ho1 (((Ext.refl _).alloc _).trans hx2)) (by simp)) (by intro j hj; cases hj; show g ≠ _; omega)) (own_apart (own_mono ho2 (by simp; omega)) (by intro j hj; have := q2 j hj; omega))
        (by omega) (fun j hj => by have := q2 j hj; omega) (by omega))
      clear ho1 ho2 hx1 hx2 Y1 Y2 q1 q2 q3 q4 HB
      generalize ((w2.setCell ⟨w1.heap.size, 0, none⟩ (.slice (some ⟨g, 0, none⟩) ls.length cap)).setCell ⟨w1.heap.size, 1, none⟩ (.slice p2 ds.length cap2)) = W at K ⊢
      obtain ⟨HB, XW, YW, o1, o2, hn1, hn2, hp⟩ := K.out
      obtain ⟨⟨a0, a1⟩, ⟨a2, a3⟩, -⟩ := box2 HB
      have ec := (o1.cellAt i (by omega)).trans HE.out
      have fz := (own_cell o1 i (by omega)).2
      have n0 : (0 : Int) ≤ (i : Int) := by omega
      have n1 : (i : Int) < (ls.length : Int) := by omega
      have RW := (YW.heap hs0).trans R0.out
      go_wp2
      go_region_with (go_at_call 78; (with_reducible refine (HL.out _).mono ?_); rintro e w' ⟨rfl, rfl⟩)
      all_goals
        have o1' := (own_at (min 100 (x0 + y)) o1 hin).drew
        have o2' : (W.setCell ⟨g, i, none⟩ (.int .i64 (min 100 (x0 + y)))).drew.ownsRow _ _ _ _ _ _ := (own_away o2 (fun j hj => fun e => (hn2 j hj).2 (by subst e; rfl)) (.int .i64 (min 100 (x0 + y)))).drew
        have HB' : (W.setCell ⟨g, i, none⟩ (.int .i64 (min 100 (x0 + y)))).drew.heap[_]? = _ := set_other (p := ⟨g, i, none⟩) HB (fun e => hn1 (by rw [e]; rfl)) (.int .i64 (min 100 (x0 + y)))
        have hgg := (own_size o1).1
        have RW' : (W.setCell ⟨g, i, none⟩ (.int .i64 (min 100 (x0 + y)))).drew.heap[_]? = _ := set_other (p := ⟨g, i, none⟩) RW (by show _ ≠ g; omega) (.int .i64 (min 100 (x0 + y)))
        have XW' := (XW.setCell (p := ⟨g, i, none⟩) (by have := XB.size; show _ ≤ g; omega) (.int .i64 (min 100 (x0 + y)))).drew
        have hdis : Dis (.slice (some ⟨g, 0, none⟩) ls.length cap) (.slice p2 ds.length cap2) := .inr (fun e => (hn2 g e.symm).2 rfl)
        clear K HB RW XW YW o1 o2 a0 a1 a2 a3 ec fz hn1 hn2
        generalize (W.setCell ⟨g, i, none⟩ (.int .i64 (min 100 (x0 + y)))).drew = W2 at *
        obtain ⟨⟨a0, a1⟩, -, -⟩ := box2 HB'
        obtain ⟨⟨a2, a3⟩, ⟨a4, a5⟩, l5⟩ := box2 RW'
        have K2 := hid (And.intro o1' (And.intro o2' (And.intro RW' (And.intro XW' hdis))))
        clear o1' o2' RW' XW' HB' hdis
        go_wp2
        obtain ⟨o1', o2', RW', XW', hdis⟩ := K2.out
        refine bodyPost_ret (results_cell_row2 rfl _ _ (w.heap.size + 1 + 1) _ _ (0, 0) _ (.bool true) rfl rfl (box2_set RW' _ _) Try.underlying28 rfl (by kernel_rfl)) rfl (HP.out _ _ _ ?_ ?_ hdis ?_)
        · exact own_mono (own_set (own_set o1' (by show _ < _; omega) _) (by show _ < _; omega) _) XB.size
        · exact own_mono (own_set (own_set o2' (by show _ < _; omega) _) (by show _ < _; omega) _) XB.size
        · exact (XW'.setCell (p := ⟨w.heap.size + 1 + 1, 0, none⟩) (by show w.heap.size ≤ w.heap.size + 1 + 1; omega) _).setCell (p := ⟨w.heap.size + 1 + 1, 1, none⟩) (by show w.heap.size ≤ w.heap.size + 1 + 1; omega) _
    · have HB := box2_set (t := 28) HB2.out (.slice (some ⟨g, 0, none⟩) ls.length cap) (.slice p2 ds.length cap2)
      have q1 := own_size ho1
      have q2 := own_row ho2
      have q3 := hx2.size
      have q4 := Y1.size
      have q5 := XB.size
      simp at q1 q2 q3
      have K := hid (wf_mk HB (((XB.trans Y2).setCell (by simp; omega) _).setCell (by simp; omega) _) ((Y2.setCell (by simp) _).setCell (by simp) _)
        (own_apart (own_mono (own_ext ho1 hx2) (by simp)) (by intro j hj; cases hj; show g ≠ _; omega)) (own_apart (own_mono ho2 Y1.size) (by intro j hj; have := q2 j hj; omega))
        (by omega) (fun j hj => by have := q2 j hj; omega) (by omega))
      clear ho1 ho2 hx1 hx2 Y1 Y2 q1 q2 q3 q4 HB
      generalize ((w2.setCell ⟨w0.heap.size, 0, none⟩ (.slice (some ⟨g, 0, none⟩) ls.length cap)).setCell ⟨w0.heap.size, 1, none⟩ (.slice p2 ds.length cap2)) = W at K ⊢
      obtain ⟨HB, XW, YW, o1, o2, hn1, hn2, hp⟩ := K.out
      obtain ⟨⟨a0, a1⟩, ⟨a2, a3⟩, -⟩ := box2 HB
      have ec := (o1.cellAt i (by omega)).trans HE.out
      have fz := (own_cell o1 i (by omega)).2
      have n0 : (0 : Int) ≤ (i : Int) := by omega
      have n1 : (i : Int) < (ls.length : Int) := by omega
      have RW := (YW.heap hs0).trans R0.out
      go_wp2
      go_region_with (go_at_call 78; (with_reducible refine (HL.out _).mono ?_); rintro e w' ⟨rfl, rfl⟩)
      all_goals
        have o1' := (own_at (min 100 (x0 + y)) o1 hin).drew
        have o2' : (W.setCell ⟨g, i, none⟩ (.int .i64 (min 100 (x0 + y)))).drew.ownsRow _ _ _ _ _ _ := (own_away o2 (fun j hj => fun e => (hn2 j hj).2 (by subst e; rfl)) (.int .i64 (min 100 (x0 + y)))).drew
        have HB' : (W.setCell ⟨g, i, none⟩ (.int .i64 (min 100 (x0 + y)))).drew.heap[_]? = _ := set_other (p := ⟨g, i, none⟩) HB (fun e => hn1 (by rw [e]; rfl)) (.int .i64 (min 100 (x0 + y)))
        have hgg := (own_size o1).1
        have RW' : (W.setCell ⟨g, i, none⟩ (.int .i64 (min 100 (x0 + y)))).drew.heap[_]? = _ := set_other (p := ⟨g, i, none⟩) RW (by show _ ≠ g; omega) (.int .i64 (min 100 (x0 + y)))
        have XW' := (XW.setCell (p := ⟨g, i, none⟩) (by have := XB.size; show _ ≤ g; omega) (.int .i64 (min 100 (x0 + y)))).drew
        have hdis : Dis (.slice (some ⟨g, 0, none⟩) ls.length cap) (.slice p2 ds.length cap2) := .inr (fun e => (hn2 g e.symm).2 rfl)
        clear K HB RW XW YW o1 o2 a0 a1 a2 a3 ec fz hn1 hn2
        generalize (W.setCell ⟨g, i, none⟩ (.int .i64 (min 100 (x0 + y)))).drew = W2 at *
        obtain ⟨⟨a0, a1⟩, -, -⟩ := box2 HB'
        obtain ⟨⟨a2, a3⟩, ⟨a4, a5⟩, l5⟩ := box2 RW'
        have K2 := hid (And.intro o1' (And.intro o2' (And.intro RW' (And.intro XW' hdis))))
        clear o1' o2' RW' XW' HB' hdis
        go_wp2
        obtain ⟨o1', o2', RW', XW', hdis⟩ := K2.out
        refine bodyPost_ret (results_cell_row2 rfl _ _ (w.heap.size + 1 + 1) _ _ (0, 0) _ (.bool true) rfl rfl (box2_set RW' _ _) Try.underlying28 rfl (by kernel_rfl)) rfl (HP.out _ _ _ ?_ ?_ hdis ?_)
        · exact own_mono (own_set (own_set o1' (by show _ < _; omega) _) (by show _ < _; omega) _) XB.size
        · exact own_mono (own_set (own_set o2' (by show _ < _; omega) _) (by show _ < _; omega) _) XB.size
        · exact (XW'.setCell (p := ⟨w.heap.size + 1 + 1, 0, none⟩) (by show w.heap.size ≤ w.heap.size + 1 + 1; omega) _).setCell (p := ⟨w.heap.size + 1 + 1, 1, none⟩) (by show w.heap.size ≤ w.heap.size + 1 + 1; omega) _
theorem spec_WorsenLink' (ps ls ds : List Int) (v u u' : Value) (x y : Int) (w : World) (h : Rd w 1 v ps.length (vInts ps)) (k : Rd w 1 u ls.length (vInts ls)) (l : Rd w 1 u' ds.length (vInts ds))
    (h2 : ps.length ≤ 1048576) (k2 : ls.length ≤ 1048576) (l2 : ds.length ≤ 1048576) :
    Calls Try.prog 36 #[.agg #[v], .agg #[u, u'], .int .i64 x, .int .i64 y] w fun e w' => ∃ r r', e = .returned (.tuple #[.agg #[r, r'], .bool (worsenB ps ls ds x y)]) ∧ w'.ownsRow w.heap.size 3 1 r (worsenL ps ls ds x y).length (vInts (worsenL ps ls ds x y)) ∧
      w'.ownsRow w.heap.size 3 1 r' (worsenD ps ls ds x y).length (vInts (worsenD ps ls ds x y)) ∧ Dis r r' ∧ Ext w w' := spec_WorsenLink ps ls ds v u u' x y w h k l h2 k2 l2
theorem impl_WorsenLink' (ps ls ds : List Int) (v u u' : Value) (x y : Int) (w : World) (h : Rd w 1 v ps.length (vInts ps)) (k : Rd w 1 u ls.length (vInts ls)) (l : Rd w 1 u' ds.length (vInts ds))
    (h2 : ps.length ≤ 1048576) (k2 : ls.length ≤ 1048576) (l2 : ds.length ≤ 1048576) :
    Calls Try.prog 35 #[.agg #[v], .agg #[u, u'], .int .i64 x, .int .i64 y] w fun e w' => ∃ r r', e = .returned (.tuple #[.agg #[r, r'], .bool (worsenB ps ls ds x y)]) ∧ w'.ownsRow w.heap.size 3 1 r (worsenL ps ls ds x y).length (vInts (worsenL ps ls ds x y)) ∧
      w'.ownsRow w.heap.size 3 1 r' (worsenD ps ls ds x y).length (vInts (worsenD ps ls ds x y)) ∧ Dis r r' ∧ Ext w w' := impl_WorsenLink ps ls ds v u u' x y w h k l h2 k2 l2
end Go.Proofs.Ytppdbnopgcjgjaa
