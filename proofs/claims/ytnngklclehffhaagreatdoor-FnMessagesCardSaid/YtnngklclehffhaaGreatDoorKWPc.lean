/- Copies of lists of pendings: the program's side. -/
import Derived.Test.YtnngklclehffhaaGreatDoorJ30
import Derived.Test.YtnngklclehffhaaGreatDoorKWPn5
import Derived.Test.YtnngklclehffhaaGreatDoorKWApp
import Derived.Deep.RegionHeld3
import Derived.Lib.SliceRun
namespace Go.Proofs.YtnngklclehffhaaGreatDoor
open Go.RowKit
set_option maxHeartbeats 1000000
set_option maxRecDepth 100000
theorem one_strs (L : List ByteArray) : ∀ u ∈ vStrs L, u.oneCell' = true := by
  intro u hu
  obtain ⟨x, -, rfl⟩ := List.mem_map.1 hu
  rfl
theorem one_bools (L : List Bool) : ∀ u ∈ vBools L, u.oneCell' = true := by
  intro u hu
  obtain ⟨x, -, rfl⟩ := List.mem_map.1 hu
  rfl
theorem slices_Clone_s (L : List ByteArray) (v : Value) (w : World) (h : Rd w 1 v L.length (vStrs L)) (h2 : L.length ≤ 1048576) :
    Calls Tryz.prog 53 #[v] w fun e w' => ∃ r, e = .returned r ∧ w'.ownsRow w.heap.size 9 1 r L.length (vStrs L) ∧ Ext w w' := by
  obtain ⟨i0, hi, hz0, hz1, hz2⟩ := info_parts infoStr
  have q : ∀ (w : World) (a : Option Addr) (n c n' c' : Nat), (binOp .eql 59 (.slice a n c) (.slice none n' c')).run Tryz.prog w = .ok (.bool a.isNone) w := fun w a n c n' c' => Lib.run_eql_slice_nil w _ _ a n c n' c' Tryz.underlying59
  have Hr := hid h
  obtain ⟨h1, p, cap, rfl, h4⟩ := h
  cases p with
  | none =>
    have h0 : L.length = 0 := h4.resolve_right (fun ⟨b, off, e, _⟩ => by cases e)
    have e : L = [] := List.eq_nil_of_length_eq_zero h0
    subst e
    clear h1 h4 Hr h0
    go_enter Tryz.func53, Tryz.ntmps53
    go_wp2
    go_ret
    exact ⟨_, rfl, World.ownsRow_nil _ _ _ _, (by repeat' (first | exact Ext.refl _ | assumption | refine Ext.alloc ?_ _ | refine Ext.ext ?_ _ | refine Ext.drew ?_ | refine Ext.drewN ?_ _))⟩
  | some a =>
    have hl : (w.alloc (.cells #[] 9)).ownsRow w.heap.size 9 1 (.slice (some ⟨w.heap.size, 0, none⟩) 0 0) 0 [] := World.ownsRow_lit w #[] 0 (Nat.le_refl _) (Nat.zero_le _) rfl
    have Hl := hid hl
    clear h1 h4 hl
    go_enter Tryz.func53, Tryz.ntmps53
    go_wp2_with (at_builtin; refine wpList_append_rd _ rfl _ _ 59 rfl w.heap.size 9 i0 (.string ByteArray.empty) 1 16 Tryz.underlying59 hi hz0 hz1 hz2 rfl (by decide) _ 0 [] rfl Hl.out _ L.length (vStrs L) rfl (Hr.out.ext (by repeat' (first | exact Ext.refl _ | assumption | refine Ext.alloc ?_ _ | refine Ext.ext ?_ _ | refine Ext.drew ?_ | refine Ext.drewN ?_ _))) (one_strs L) (by unfold maxLen; omega) (by omega) (by simp) ?_)
    intro v' w' ho hg
    have hx : Ext w w' := Ext.grown (by repeat' (first | exact Ext.refl _ | assumption | refine Ext.alloc ?_ _ | refine Ext.ext ?_ _ | refine Ext.drew ?_ | refine Ext.drewN ?_ _)) hg (fun j hj => (own_row Hl.out j hj).1)
    have K := hid (And.intro ho hx)
    clear ho hg hx
    go_wp2
    go_ret
    exact ⟨_, rfl, K.out⟩
theorem slices_Clone_b (L : List Bool) (v : Value) (w : World) (h : Rd w 1 v L.length (vBools L)) (h2 : L.length ≤ 1048576) :
    Calls Tryz.prog 54 #[v] w fun e w' => ∃ r, e = .returned r ∧ w'.ownsRow w.heap.size 4 1 r L.length (vBools L) ∧ Ext w w' := by
  obtain ⟨i0, hi, hz0, hz1, hz2⟩ := info_parts infoBool
  have q : ∀ (w : World) (a : Option Addr) (n c n' c' : Nat), (binOp .eql 60 (.slice a n c) (.slice none n' c')).run Tryz.prog w = .ok (.bool a.isNone) w := fun w a n c n' c' => Lib.run_eql_slice_nil w _ _ a n c n' c' Tryz.underlying60
  have Hr := hid h
  obtain ⟨h1, p, cap, rfl, h4⟩ := h
  cases p with
  | none =>
    have h0 : L.length = 0 := h4.resolve_right (fun ⟨b, off, e, _⟩ => by cases e)
    have e : L = [] := List.eq_nil_of_length_eq_zero h0
    subst e
    clear h1 h4 Hr h0
    go_enter Tryz.func54, Tryz.ntmps54
    go_wp2
    go_ret
    exact ⟨_, rfl, World.ownsRow_nil _ _ _ _, (by repeat' (first | exact Ext.refl _ | assumption | refine Ext.alloc ?_ _ | refine Ext.ext ?_ _ | refine Ext.drew ?_ | refine Ext.drewN ?_ _))⟩
  | some a =>
    have hl : (w.alloc (.cells #[] 4)).ownsRow w.heap.size 4 1 (.slice (some ⟨w.heap.size, 0, none⟩) 0 0) 0 [] := World.ownsRow_lit w #[] 0 (Nat.le_refl _) (Nat.zero_le _) rfl
    have Hl := hid hl
    clear h1 h4 hl
    go_enter Tryz.func54, Tryz.ntmps54
    go_wp2_with (at_builtin; refine wpList_append_rd _ rfl _ _ 60 rfl w.heap.size 4 i0 (.bool false) 1 1 Tryz.underlying60 hi hz0 hz1 hz2 rfl (by decide) _ 0 [] rfl Hl.out _ L.length (vBools L) rfl (Hr.out.ext (by repeat' (first | exact Ext.refl _ | assumption | refine Ext.alloc ?_ _ | refine Ext.ext ?_ _ | refine Ext.drew ?_ | refine Ext.drewN ?_ _))) (one_bools L) (by unfold maxLen; omega) (by omega) (by simp) ?_)
    intro v' w' ho hg
    have hx : Ext w w' := Ext.grown (by repeat' (first | exact Ext.refl _ | assumption | refine Ext.alloc ?_ _ | refine Ext.ext ?_ _ | refine Ext.drew ?_ | refine Ext.drewN ?_ _)) hg (fun j hj => (own_row Hl.out j hj).1)
    have K := hid (And.intro ho hx)
    clear ho hg hx
    go_wp2
    go_ret
    exact ⟨_, rfl, K.out⟩
theorem impl_clonePending (ps : List Pnd) (es : List Pe) (v : Value) (w : World) (h : PRd w v ps es) (h2 : ps.length ≤ 1048576) (hm : ∀ i, i < ps.length → (ps.getD i .z).d.length ≤ 1048576 ∧ (ps.getD i .z).h.length ≤ 1048576) :
    Calls Tryz.prog 28 #[v] w fun e w' => ∃ r ds, e = .returned r ∧ POw w' w.heap.size w'.heap.size r ps ds ∧ Ext w w' := by
  have Hv := hid h
  have Hm := hid hm
  obtain ⟨p, cap, rfl, h4⟩ := h.form
  have H4 := hid h4
  have H0 : Hid (POw w w.heap.size w.heap.size (.slice none 0 0) (ps.take 0) [] ∧ Ext w w) := ⟨POw.nil _ _ _, Ext.refl _⟩
  obtain ⟨i0, hi, hz0, hz1, hz2⟩ := info_parts infoPnd
  clear h4 h hm
  go_enter Tryz.func28, Tryz.ntmps28
  go_wp2
  go_loopw [8, 3] (fun v8 v3 wr => ∃ (k : Nat) (ds : List Pe), k ≤ ps.length ∧ v8 = .int .i64 k ∧ Hid (POw wr w.heap.size wr.heap.size v3 (ps.take k) ds ∧ Ext w wr)) (fun v8 _ _ => ps.length - (intOf v8).toNat)
  case atStart => exact ⟨0, [], Nat.zero_le _, rfl, H0⟩
  case round =>
    obtain ⟨k, ds, hk, rfl, HP⟩ := hrel
    clear H0
    have Hdl : Hid (ds.length = k) := by (show _ = _; rw [HP.out.1.len, List.length_take]; omega)
    obtain ⟨up, uc, rfl⟩ := own_shape HP.out.1.2.own
    by_cases hlt : k < ps.length
    · obtain ⟨b, off, rfl⟩ := H4.out.resolve_left (by omega)
      obtain ⟨⟨c0, c1, c2⟩, hcr⟩ := Hv.out.at k hlt
      have hml := Hm.out k hlt
      have hsn := take_snoc ps .z k hlt
      replace c0 := HP.out.2.cell c0
      replace c1 := HP.out.2.cell c1
      replace c2 := HP.out.2.cell c2
      obtain ⟨xp, xc, ex, -⟩ := rd_block hcr.1
      obtain ⟨yp, yc, ey, -⟩ := rd_block hcr.2
      generalize ps.getD k .z = G at *
      generalize (es.getD k .z).u = x at *
      generalize (es.getD k .z).v = x' at *
      subst ex ey
      obtain ⟨n, d, h⟩ := G
      dsimp only at c0 c1 c2 hcr hml
      have Hsn := hid hsn
      have hc1 := hid (fun w a => slices_Clone_s d (.slice xp d.length xc) w a hml.1)
      have hc2 := hid (fun w a => slices_Clone_b h (.slice yp h.length yc) w a hml.2)
      have HB : (wr.alloc (.cells #[.int .i64 n, .slice xp d.length xc, .slice yp h.length yc] 62)).heap[wr.heap.size]? = some (.cells #[.int .i64 n, .slice xp d.length xc, .slice yp h.length yc] 62 (0, 0)) := heap_at _ rfl
      have X0 : Ext wr (wr.alloc (.cells #[.int .i64 n, .slice xp d.length xc, .slice yp h.length yc] 62)) := (by repeat' (first | exact Ext.refl _ | assumption | refine Ext.alloc ?_ _ | refine Ext.ext ?_ _ | refine Ext.drew ?_ | refine Ext.drewN ?_ _))
      have hQ : wr.heap.size < (wr.alloc (.cells #[.int .i64 n, .slice xp d.length xc, .slice yp h.length yc] 62)).heap.size := by simp
      have Hcr := hid (And.intro (hcr.1.ext (HP.out.2.trans X0)) (hcr.2.ext (HP.out.2.trans X0)))
      clear hcr hsn
      go_wp2
      generalize (wr.alloc (.cells #[.int .i64 n, .slice xp d.length xc, .slice yp h.length yc] 62)) = W at *
      obtain ⟨⟨d0, d1, d2⟩, -, -⟩ := box3 HB
      have XD : Ext W W.drew := (by repeat' (first | exact Ext.refl _ | assumption | refine Ext.alloc ?_ _ | refine Ext.ext ?_ _ | refine Ext.drew ?_ | refine Ext.drewN ?_ _))
      have e0 := XD.cell d0
      have e1 := XD.cell d1
      have e2 := XD.cell d2
      clear c0 c1 c2
      have hup : ∀ j, (Value.slice up ds.length uc).ownBlock = some j → j < wr.heap.size := fun j e => (HP.out.1.2.lt e).2.1
      have hlo : w.heap.size ≤ W.heap.size := (HP.out.2.trans X0).size
      go_region_held3 (fun w' => w'.cell? ⟨wr.heap.size, 0, none⟩ = some (.int .i64 n) ∧ w'.cell? ⟨wr.heap.size, 1, none⟩ = some (.slice xp d.length xc) ∧ w'.cell? ⟨wr.heap.size, 2, none⟩ = some (.slice yp h.length yc))
        (first | exact ⟨d0, d1, d2⟩ | exact ⟨e0, e1, e2⟩ | exact ⟨f0, f1, f2⟩ | exact ⟨g0, g1, g2⟩ | exact ⟨k0, k1, k2⟩ | exact ⟨l0, l1, l2⟩)
        (first
        | (go_at_call 53; (with_reducible refine (hc1.out _ (Hcr.out.1.ext (by repeat' (first | exact Ext.refl _ | assumption | refine Ext.alloc ?_ _ | refine Ext.ext ?_ _ | refine Ext.drew ?_ | refine Ext.drewN ?_ _)))).mono ?_); rintro e w1 ⟨r1, rfl, ho1, hx1⟩; obtain ⟨r1p, r1c, rfl⟩ := own_shape ho1; have Y1 : Ext W w1 := (show Ext W W.drew from (by repeat' (first | exact Ext.refl _ | assumption | refine Ext.alloc ?_ _ | refine Ext.ext ?_ _ | refine Ext.drew ?_ | refine Ext.drewN ?_ _))).trans hx1; have f0 := Y1.cell d0; have f1 := Y1.cell d1; have f2 := Y1.cell d2; have Ho1 := hid ho1; clear ho1 hx1)
        | (go_at_call 54; (with_reducible refine (hc2.out _ (Hcr.out.2.ext (Y1.trans (by repeat' (first | exact Ext.refl _ | assumption | refine Ext.alloc ?_ _ | refine Ext.ext ?_ _ | refine Ext.drew ?_ | refine Ext.drewN ?_ _))))).mono ?_); rintro e w2 ⟨r2, rfl, ho2, hx2⟩; obtain ⟨r2p, r2c, rfl⟩ := own_shape ho2; have Y2 : Ext w1 w2 := (show Ext w1 _ from (by repeat' (first | exact Ext.refl _ | assumption | refine Ext.alloc ?_ _ | refine Ext.ext ?_ _ | refine Ext.drew ?_ | refine Ext.drewN ?_ _))).trans hx2; have g0 := Y2.cell f0; have g1 := Y2.cell f1; have g2 := Y2.cell f2; have Ho2 := hid ho2; have X3 : Ext w2 (w2.alloc (.cells #[.int .i64 n, .slice r1p d.length r1c, .slice r2p h.length r2c] 62)) := (by repeat' (first | exact Ext.refl _ | assumption | refine Ext.alloc ?_ _ | refine Ext.ext ?_ _ | refine Ext.drew ?_ | refine Ext.drewN ?_ _)); have k0 := X3.cell g0; have k1 := X3.cell g1; have k2 := X3.cell g2; have HP3 := hid ((HP.out.1.2.ext X0).ext (Y1.trans (Y2.trans X3))); clear ho2 hx2)
        | (refine step_append_lies _ (by rfl) _ _ _ (by rfl) w.heap.size 62 i0 _ 3 56 Tryz.underlying29 hi hz0 hz1 hz2 rfl (by omega) _ ds.length (ds.flatMap Pe.cs) (by rfl) HP3.out.own ⟨w2.heap.size, 0, none⟩ 1 1 [.int .i64 n, .slice r1p d.length r1c, .slice r2p h.length r2c] (by rfl) (by rfl) (World.news_of_block (cs := #[.int .i64 n, .slice r1p d.length r1c, .slice r2p h.length r2c]) (t := 62) (fr := (0, 0)) (heap_alloc_new w2 _)) (by simp [Value.oneCell']) (by omega) (by have := Hdl.out; unfold maxLen; omega) (by have := Hdl.out; omega) (by have := Y1.size; have := Y2.size; simp; omega) (w2.heap.size + 1) (by simp) ?_; intro gg cap5 w5 hown' hgrow hat hlt5; have l0 := hgrow.cell k0 (fun e => by have := hup _ e.symm; dsimp only at this; omega); have l1 := hgrow.cell k1 (fun e => by have := hup _ e.symm; dsimp only at this; omega); have l2 := hgrow.cell k2 (fun e => by have := hup _ e.symm; dsimp only at this; omega)))
      all_goals
        have hY1 := Y1.size
        have hY2 := Y2.size
        have hX3 : (w2.alloc (.cells #[.int .i64 n, .slice r1p d.length r1c, .slice r2p h.length r2c] 62)).heap.size = w2.heap.size + 1 := by simp
        have hgs := hgrow.size
        have hr1 : ∀ j, (Value.slice r1p d.length r1c).ownBlock = some j → W.heap.size ≤ j ∧ j < w1.heap.size := fun j e => own_row Ho1.out j e
        have hr2 : ∀ j, (Value.slice r2p h.length r2c).ownBlock = some j → w1.heap.size ≤ j ∧ j < w2.heap.size := fun j e => own_row Ho2.out j e
        have o1 := own_mono (base' := w.heap.size) (own_ext Ho1.out (Y2.trans X3)) hlo
        have o2 := own_mono (base' := w.heap.size) (own_ext Ho2.out X3) (Nat.le_trans hlo hY1)
        have h5 := PFe.snoc (x := ⟨n, d, h, .slice r1p d.length r1c, .slice r2p h.length r2c⟩) (hi' := w5.heap.size) HP3.out (by omega) hgrow hown' (by
          rcases hat with e | e
          · exact .inl e.symm
          · exact .inr (fun j e2 => by cases e2; dsimp only; omega)) (by omega) (fun j e => by cases e; exact hlt5) o1 o2 (fun j e => by have := hr1 j e; omega) (fun j e => by have := hr2 j e; omega) (fun j e e2 => by have := hr1 j e; have := hr2 j e2; omega)
        have hx5 : Ext w w5 := Ext.grown (HP.out.2.trans (X0.trans (Y1.trans (Y2.trans X3)))) hgrow (fun j e => (own_row HP3.out.own j e).1)
        have hmap : (ds ++ [(⟨n, d, h, .slice r1p d.length r1c, .slice r2p h.length r2c⟩ : Pe)]).map Pe.p = ps.take (k + 1) := by rw [List.map_append, HP.out.1.1, Hsn.out]; rfl
        have HPO : POw w5 w.heap.size w5.heap.size (.slice (some ⟨gg, 0, none⟩) (ds.length + 1) cap5) (ps.take (k + 1)) (ds ++ [⟨n, d, h, .slice r1p d.length r1c, .slice r2p h.length r2c⟩]) := ⟨hmap, h5⟩
        have K := hid (And.intro HPO hx5)
        clear h5 hx5 hmap HPO o1 o2 hown' hgrow hat HP3
        go_wp2
        go_roundw
        case rel => exact ⟨k + 1, _, by omega, by go_num, K⟩
        case measure => simp [intOf]; omega
    · obtain rfl : k = ps.length := by omega
      have K := hid HP.out
      rw [List.take_length] at K
      go_wp2
      go_ret
      exact ⟨_, _, rfl, K.out⟩
end Go.Proofs.YtnngklclehffhaaGreatDoor
