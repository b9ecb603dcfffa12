/- The group of a text: the reference's walk. -/
import Derived.Test.YtlaochpkelbchaaGreatDoorJ43
import Derived.Test.YtlaochpkelbchaaGreatDoorJ2
import Derived.Maps.AppendAt
import Derived.Deep.AppendLies
namespace Go.Proofs.YtlaochpkelbchaaGreatDoor
open Go.RowKit
set_option maxHeartbeats 2000000
set_option maxRecDepth 100000
/-- While members are read: the result's box, the group's box at Q, its row, and the words. -/
def PgS (w W : World) (m Q qb qc : Nat) (N : ByteArray) (u : Value) (vs : List Int) (L : List ByteArray) : Prop :=
  (Ext w W ∧ W.heap[w.heap.size]? = some (.cells #[.string ⟨#[]⟩, .slice none 0 0] 28 (0, 0)) ∧ W.heap[Q]? = some (.cells #[.string N, u] 28 (0, 0))) ∧
  (W.ownsRow m 3 1 u vs.length (vInts vs) ∧ w.heap.size < Q ∧ Q < m) ∧
  (Rd W 1 (.slice (some ⟨qb, 0, none⟩) L.length qc) L.length (vStrs L) ∧ qb ≠ Q ∧ qb < m ∧ m ≤ W.heap.size)
theorem PgS.ext {w W W' : World} {m Q qb qc : Nat} {N : ByteArray} {u : Value} {vs : List Int} {L : List ByteArray} (h : PgS w W m Q qb qc N u vs L) (hx : Ext W W') : PgS w W' m Q qb qc N u vs L :=
  ⟨⟨h.1.1.trans hx, blkx h.1.2.1 hx, blkx h.1.2.2 hx⟩, ⟨own_ext h.2.1.1 hx, h.2.1.2⟩, ⟨h.2.2.1.ext hx, h.2.2.2.1, h.2.2.2.2.1, Nat.le_trans h.2.2.2.2.2 hx.size⟩⟩
theorem PgS.turn {w W W' : World} {m Q qb qc : Nat} {N : ByteArray} {u : Value} {vs : List Int} {L : List ByteArray} (h : PgS w W m Q qb qc N u vs L) (hg : W.grownBy W' u.ownBlock) :
    W'.heap[Q]? = some (.cells #[.string N, u] 28 (0, 0)) := by
  obtain ⟨⟨h1, h2, h3⟩, ⟨h4, h5, h6⟩, h7, h8, h9, h10⟩ := h
  exact (hg.block _ (Array.getElem?_eq_some_iff.1 h3).1 (fun e => by have := (own_row h4 _ e.symm).1; omega)).trans h3
theorem PgS.grow {w W W' : World} {m Q qb qc : Nat} {N : ByteArray} {u u' : Value} {vs : List Int} {x : Int} {L : List ByteArray} (h : PgS w W m Q qb qc N u vs L) (hg : W.grownBy W' u.ownBlock)
    (ho : W'.ownsRow m 3 1 u' (vs.length + 1) (vInts vs ++ [.int .i64 x])) : PgS w (W'.setCell ⟨Q, 1, none⟩ u') m Q qb qc N u' (vs ++ [x]) L := by
  have h3' := PgS.turn h hg
  obtain ⟨⟨h1, h2, h3⟩, ⟨h4, h5, h6⟩, h7, h8, h9, h10⟩ := h
  have hw := (Array.getElem?_eq_some_iff.1 h2).1
  have h2' : W'.heap[w.heap.size]? = some (.cells #[.string ⟨#[]⟩, .slice none 0 0] 28 (0, 0)) := (hg.block _ hw (fun e => by have := (own_row h4 _ e.symm).1; omega)).trans h2
  have h7' : Rd W' 1 (.slice (some ⟨qb, 0, none⟩) L.length qc) L.length (vStrs L) := rd_turn h7 hg (fun b o m' c e _ e2 => by cases e; have := (own_row h4 _ e2).1; omega)
  have hgs := grownBy_set W' ⟨Q, 1, none⟩ u'
  refine ⟨⟨(h1.grown hg (fun j e => by have := (own_row h4 j e).1; omega)).setCell (Nat.le_of_lt h5) _, set_other h2' (by dsimp only; omega) _, ?_⟩, ⟨?_, h5, h6⟩, rd_turn h7' hgs (fun b o m' c e _ e2 => by cases e; exact h8 (Option.some.inj e2).symm), h8, h9, by (have := hg.size; simp; omega)⟩
  · have := heap_setCell_same _ Q 1 _ _ u' h3'
    simpa using this
  · rw [List.length_append, show vInts (vs ++ [x]) = vInts vs ++ [.int .i64 x] by simp [vInts]]
    exact own_set ho h6 _
theorem rdL_snoc (L : List ByteArray) (k : Nat) (h : k < L.length) : rdL (L.take (k + 1)) = rdL (L.take k) ++ [(pI (L.getD k ByteArray.empty)).getD 0] := by
  rw [rdL, take_snoc L ByteArray.empty k h, List.map_append]; rfl
theorem rdS2_at {W : World} {b o c n : Nat} {L : List ByteArray} (h : Rd W 1 (.slice (some ⟨b, o, none⟩) n c) L.length (vStrs L)) (i : Nat) (hi : i < L.length) : W.cell? ⟨b, o + i, none⟩ = some (.string (L.getD i ByteArray.empty)) := by
  obtain ⟨-, p, cap, e, h4⟩ := h
  cases e
  obtain ⟨b', o', e2, h6⟩ := h4.resolve_left (by omega)
  cases e2
  exact elem1 Value.string ByteArray.empty L h6 i hi
theorem spec_ParseGroup (s : ByteArray) (w : World) (h : s.size ≤ 1048576) :
    Calls Tryz.prog 18 #[.string s] w fun e w' => ∃ r, e = .returned (.tuple #[.agg #[.string (pgN (PGs s)), r], .bool (PGs s).isSome]) ∧ w'.ownsRow w.heap.size 3 1 r (pgM (PGs s)).length (vInts (pgM (PGs s))) ∧ Ext w w' := by
  have hs1 := hid (fun w => spec_l1Split s 58 58 rfl w h)
  have hdef : PGs s = if PGb s && okP s (PGn s) (PGm s) then some (PGn s, PGm s) else none := rfl
  have hbdef : PGb s = (decide (s.size ≤ 40) && (decide ((splS s 58).length = 2) && decide (2 ≤ ((splS s 58).getD 1 ByteArray.empty).size))) := rfl
  have hndef : PGn s = (splS s 58).getD 0 ByteArray.empty := rfl
  have hmdef : PGm s = rdL (splS (((splS s 58).getD 1 ByteArray.empty).extract 1 ((splS s 58).getD 1 ByteArray.empty).size) 44) := rfl
  have hok : okP s (PGn s) (PGm s) = (okG (PGn s) (PGm s) && decide (grpT (PGn s) (PGm s) = s)) := rfl
  have hsz := fun i hi => splS_at (s := s) (b := 58) i hi
  have hll := splS_len s 58
  generalize PGs s = O at *
  generalize PGb s = B at *
  generalize PGn s = N at *
  generalize PGm s = M at *
  generalize okP s N M = K at *
  generalize splS s 58 = P at *
  have Hdef := hid hdef
  have Hb := hid hbdef
  have Hn := hid hndef
  have Hm := hid hmdef
  have Hok := hid hok
  clear hdef hbdef hndef hmdef hok
  have hB0 : Hid ((w.alloc (.cells #[.string ⟨#[]⟩, .slice none 0 0] 28)).heap[w.heap.size]? = some (.cells #[.string ⟨#[]⟩, .slice none 0 0] 28 (0, 0))) := heap_at _ rfl
  have HX0 : Hid (Ext w (w.alloc (.cells #[.string ⟨#[]⟩, .slice none 0 0] 28))) := (by repeat' (first | exact Ext.refl _ | assumption | refine Ext.alloc ?_ _ | refine Ext.ext ?_ _ | refine Ext.drew ?_ | refine Ext.drewN ?_ _))
  have hW0 : (w.alloc (.cells #[.string ⟨#[]⟩, .slice none 0 0] 28)).heap.size = w.heap.size + 1 := by simp
  obtain ⟨i0, hi, hz0, hz1, hz2⟩ := info_parts infoInt
  go_enter Tryz.func18, Tryz.ntmps18
  go_wp2_with fail
  generalize w.alloc (.cells #[.string ⟨#[]⟩, .slice none 0 0] 28) = W0 at *
  go_at_call 46
  refine (hs1.out _).mono ?_
  rintro e w1 ⟨r, rfl, ho, hx⟩
  rw [hW0] at ho
  obtain ⟨rp, rc, rfl⟩ := own_shape ho
  have X1 := hid (And.intro (And.intro (HX0.out.trans hx) (blkx hB0.out hx)) (Rd.own ho))
  clear ho hx hs1 hB0 HX0 hW0
  by_cases h40 : s.size ≤ 40
  · have t0 : ¬ (40 : Int) < (s.size : Int) := by omega
    by_cases hl2 : P.length = 2
    · have t1 : ((P.length : Int) == 2) = true := by rw [beq_iff_eq]; omega
      have t1' : ((P.length : Int) != 2) = false := by rw [bne, t1]; rfl
      obtain ⟨pb, po, rfl⟩ : ∃ b o, rp = some ⟨b, o, none⟩ := by
        obtain ⟨-, p, c, e, h4⟩ := X1.out.2
        cases e
        obtain ⟨b, o, e2, -⟩ := h4.resolve_left (by omega)
        exact ⟨b, o, e2⟩
      have c0 := rdS2_at X1.out.2 0 (by omega)
      have c1 := rdS2_at X1.out.2 1 (by omega)
      rw [Nat.add_zero] at c0
      have hz1' := hsz 1 (by omega)
      have hz0' := hsz 0 (by omega)
      rw [← Hn.out] at c0 hz0'
      obtain ⟨S1, hS1⟩ : ∃ S1, P.getD 1 ByteArray.empty = S1 := ⟨_, rfl⟩
      have hb2 := Hb.out
      have hm2 := Hm.out
      rw [hS1] at c1 hz1' hb2 hm2
      by_cases h22 : 2 ≤ S1.size
      · have t2 : ¬ (S1.size : Int) < 2 := by omega
        have hB : B = true := by rw [hb2, decide_eq_true h40, decide_eq_true hl2, decide_eq_true h22]; rfl
        have hO : O = if okG N M && decide (grpT N M = s) then some (N, M) else none := by rw [Hdef.out, hB, Hok.out, Bool.true_and]
        have HO0 := hid hO
        have Hm2 := hid hm2
        have hw1 := (Array.getElem?_eq_some_iff.1 X1.out.1.2).1
        have hs2 := hid (fun w (h : (S1.extract 1 S1.size).size ≤ 1048576) => spec_l1Split (S1.extract 1 S1.size) 44 44 rfl w h)
        have hxs : (S1.extract 1 S1.size).size ≤ S1.size - 1 := by simp
        have hll2 := splS_len (S1.extract 1 S1.size) 44
        have hsz2 := fun i hi => splS_at (s := S1.extract 1 S1.size) (b := 44) i hi
        have Hs2 := hid (hs2.out · (by omega))
        clear hs2 hb2 hm2 hB hO Hb Hdef Hn Hm Hok
        have hx2 : Ext w1 (w1.alloc (.cells #[.string N, .slice none 0 0] 28)) := (by repeat' (first | exact Ext.refl _ | assumption | refine Ext.alloc ?_ _ | refine Ext.ext ?_ _ | refine Ext.drew ?_ | refine Ext.drewN ?_ _))
        have hpos2 := splS_pos (S1.extract 1 S1.size) 44
        have HB := hid (And.intro (X1.out.1.1.trans hx2) (And.intro (blkx X1.out.1.2 hx2) (show (w1.alloc (.cells #[.string N, .slice none 0 0] 28)).heap[w1.heap.size]? = some (.cells #[.string N, .slice none 0 0] 28 (0, 0)) from heap_at _ rfl)))
        clear hx2
        go_wp2_with fail
        generalize w1.alloc (.cells #[.string N, .slice none 0 0] 28) = W2 at *
        generalize w1.heap.size = Q at *
        go_at_call 46
        refine (Hs2.out _).mono ?_
        rintro e w3 ⟨r2, rfl, ho, hx⟩
        obtain ⟨qb, qc, rfl, hq1, hq2⟩ := ho.form hpos2
        have hQ2 := (Array.getElem?_eq_some_iff.1 HB.out.2.2).1
        have HS : Hid (PgS w w3 w3.heap.size Q qb qc N (.slice none 0 0) [] (splS (S1.extract 1 S1.size) 44)) := ⟨⟨HB.out.1.trans hx, blkx HB.out.2.1 hx, blkx HB.out.2.2 hx⟩, ⟨World.ownsRow_nil _ _ _ _, hw1, by have := hx.size; omega⟩, Rd.own ho, by omega, (own_row ho qb rfl).2, Nat.le_refl _⟩
        clear ho hx Hs2 X1 c0 c1 HB
        generalize splS (S1.extract 1 S1.size) 44 = L at *
        go_wp2
        go_loopw [7] (fun v7 wr => ∃ (k : Nat) (u : Value), k ≤ L.length ∧ v7 = .int .i64 k ∧ Hid (PgS w wr w3.heap.size Q qb qc N u (rdL (L.take k)) L)) (fun v7 _ => L.length - (intOf v7).toNat)
        case atStart => exact ⟨0, _, Nat.zero_le _, rfl, HS.out⟩
        case round =>
          obtain ⟨k, u, hk, rfl, HR⟩ := hrel
          clear HS
          by_cases hlt : k < L.length
          · have c0 := rdS2_at HR.out.2.2.1 k hlt
            rw [Nat.zero_add] at c0
            have hz := hsz2 k hlt
            have hsn := rdL_snoc L k hlt
            have hrl : (rdL (L.take k)).length ≤ k := by rw [rdL, List.length_map, List.length_take]; omega
            generalize rdL (L.take k) = vs at *
            generalize L.getD k ByteArray.empty = S2 at *
            have hc := hid (fun w => spec_l1Read S2 w (by omega))
            generalize (pI S2).getD 0 = x at *
            generalize (pI S2).isSome = xo at *
            have Hsn := hid hsn
            have k0 : (0 : Int) ≤ (k : Int) := by omega
            have k1 : (k : Int) < (L.length : Int) := by omega
            have hkl : L.length ≤ 42 := by omega
            clear hsn
            go_wp2_with fail
            go_at_call 47
            refine (hc.out _).mono ?_
            rintro e wq ⟨rfl, hx⟩
            have H1 := hid (HR.out.ext hx)
            obtain ⟨up, uc, rfl⟩ := own_shape H1.out.2.1.1
            obtain ⟨⟨b0, b1⟩, ⟨f0, f1⟩, hbl⟩ := box2 H1.out.1.2.2
            clear hx HR c0
            go_wp2_with (at_builtin; refine wpList_append_own_at _ rfl _ _ 24 rfl w3.heap.size 3 i0 (.int .i64 0) 1 8 Tryz.underlying24 hi hz0 hz1 hz2 rfl (by decide) _ _ _ rfl ((own_ext H1.out.2.1.1 (by repeat' (first | exact Ext.refl _ | assumption | refine Ext.alloc ?_ _ | refine Ext.ext ?_ _ | refine Ext.drew ?_ | refine Ext.drewN ?_ _)))) ⟨_, 0, none⟩ 1 1 [.int .i64 x] rfl ?a0A ?a1A ?a2A ?a3A ?a4A ?a5A ?_)
            (try case a0A => rfl)
            case a1A => (intro j u hj; rw [Addr.add_lit, Nat.zero_add, cell_of_row _ _ j _ _ (0, 0) (heap_at _ rfl)]; simpa using hj)
            case a2A => simp [Value.oneCell']
            case a3A => (unfold maxLen; simp; omega)
            case a4A => (first | omega | (simp; omega))
            case a5A => (have := H1.out.1.1.size; have := H1.out.2.2.2.2.2; first | omega | (simp at *; omega))
            intro v' w1 hown' hgrow hat
            intro _
            have h1x := H1.out.ext (show Ext wq (wq.alloc (.cells #[.int .i64 x] 3)) from (by repeat' (first | exact Ext.refl _ | assumption | refine Ext.alloc ?_ _ | refine Ext.ext ?_ _ | refine Ext.drew ?_ | refine Ext.drewN ?_ _)))
            have hbq := PgS.turn h1x hgrow
            have H2 := hid (h1x.grow hgrow hown')
            obtain ⟨⟨d0, d1⟩, ⟨e0, e1⟩, hbl2⟩ := box2 hbq
            obtain ⟨vp, vc, rfl⟩ := own_shape hown'
            clear hown' hgrow hat h1x hbq H1 b0 b1 f0 f1 hbl
            go_wp2
            go_roundw
            case rel => exact ⟨k + 1, _, by omega, by go_num, by rw [Hsn.out]; exact H2.out⟩
            case measure => simp [intOf]; omega
          · obtain rfl : k = L.length := by omega
            have hM := Hm2.out
            rw [List.take_length] at HR
            rw [← hM] at HR
            have hml : M.length ≤ 42 := by rw [hM, rdL, List.length_map]; omega
            obtain ⟨up, uc, rfl⟩ := own_shape HR.out.2.1.1
            obtain ⟨⟨b0, b1⟩, ⟨f0, f1⟩, hbl⟩ := box2 HR.out.1.2.2
            have hg := hid (fun w k => spec_l21One N M (.slice up M.length uc) w (by omega) k (by omega))
            clear hM hlt
            cases e1 : okG N M
            · rw [e1] at hg
              have HO : Hid (O = none) := by (show _ = _; rw [HO0.out, e1]; rfl)
              clear e1 HO0
              go_wp2_with fail
              go_at_call 40
              refine (hg.out _ (Rd.own HR.out.2.1.1)).mono ?_
              rintro e w5 ⟨rfl, hx⟩
              have H5 := hid (HR.out.ext hx)
              clear hx HR b0 b1 f0 f1 hbl
              obtain ⟨⟨b0, b1⟩, ⟨f0, f1⟩, hbl⟩ := box2 H5.out.1.2.1
              go_wp2
              refine bodyPost_ret (results_ct rfl (box2_set (t := 28) H5.out.1.2.1 _ _) Tryz.underlying28 rfl (by kernel_rfl) rfl rfl) rfl ⟨_, (by rw [HO.out]; rfl), ?_, ?_⟩
              · rw [HO.out]; exact World.ownsRow_nil _ _ _ _
              · exact ((H5.out.1.1).setCell (Nat.le_refl _) _).setCell (Nat.le_refl _) _
            · rw [e1] at hg
              have hn7 := ok_nat e1
              have ht := hid (fun w k => spec_l21Text N M (.slice up M.length uc) w k (by omega) (by omega) (fun i hi => by have := hn7 i hi; omega))
              have HO1 : Hid (O = if decide (grpT N M = s) then some (N, M) else none) := by (show _ = _; rw [HO0.out, e1, Bool.true_and])
              clear e1 HO0 hn7
              go_wp2_with fail
              go_at_call 40
              refine (hg.out _ (Rd.own HR.out.2.1.1)).mono ?_
              rintro e w5 ⟨rfl, hx⟩
              have H5 := hid (HR.out.ext hx)
              clear hx HR b0 b1 f0 f1 hbl hg
              obtain ⟨⟨b0, b1⟩, ⟨f0, f1⟩, hbl⟩ := box2 H5.out.1.2.2
              go_wp2_with fail
              go_at_call 41
              refine (ht.out _ (Rd.own H5.out.2.1.1)).mono ?_
              rintro e w6 ⟨rfl, hx⟩
              have H6 := hid (H5.out.ext hx)
              clear hx H5 b0 b1 f0 f1 hbl ht
              obtain ⟨⟨b0, b1⟩, ⟨f0, f1⟩, hbl⟩ := box2 H6.out.1.2.2
              obtain ⟨⟨g0, g1⟩, ⟨q0, q1⟩, hgl⟩ := box2 H6.out.1.2.1
              have hQw := H6.out.2.1.2.1
              by_cases he : grpT N M = s
              · have te := str_yes he
                have HO : Hid (O = some (N, M)) := by (show _ = _; rw [HO1.out, if_pos (by simpa using he)])
                clear he HO1
                go_wp2
                refine bodyPost_ret (results_ct rfl (box2_set (t := 28) H6.out.1.2.1 _ _) Tryz.underlying28 rfl (by kernel_rfl) rfl rfl) rfl ⟨_, (by rw [HO.out]; rfl), ?_, ?_⟩
                · rw [HO.out]; exact own_mono (own_set (own_set H6.out.2.1.1 (by have := H6.out.2.1.2; dsimp only; omega) _) (by have := H6.out.2.1.2; dsimp only; omega) _) (by have := H6.out.2.1.2; omega)
                · exact ((H6.out.1.1).setCell (Nat.le_refl _) _).setCell (Nat.le_refl _) _
              · have te := str_no he
                have HO : Hid (O = none) := by (show _ = _; rw [HO1.out, if_neg (by simpa using he)])
                clear he HO1
                go_wp2
                refine bodyPost_ret (results_ct rfl (box2_set (t := 28) H6.out.1.2.1 _ _) Tryz.underlying28 rfl (by kernel_rfl) rfl rfl) rfl ⟨_, (by rw [HO.out]; rfl), ?_, ?_⟩
                · rw [HO.out]; exact World.ownsRow_nil _ _ _ _
                · exact ((H6.out.1.1).setCell (Nat.le_refl _) _).setCell (Nat.le_refl _) _
      · have t2 : (S1.size : Int) < 2 := by omega
        have HO : Hid (O = none) := by (show _ = _; rw [Hdef.out, hb2, decide_eq_false h22, Bool.and_false, Bool.and_false]; rfl)
        obtain ⟨⟨b0, b1⟩, ⟨f0, f1⟩, hbl⟩ := box2 X1.out.1.2
        clear Hb Hdef Hn Hm Hok hsz
        go_wp2
        refine bodyPost_ret (results_ct rfl (box2_set (t := 28) X1.out.1.2 _ _) Tryz.underlying28 rfl (by kernel_rfl) rfl rfl) rfl ⟨_, (by rw [HO.out]; rfl), ?_, ?_⟩
        · rw [HO.out]; exact World.ownsRow_nil _ _ _ _
        · exact ((X1.out.1.1).setCell (Nat.le_refl _) _).setCell (Nat.le_refl _) _
    · have t1 : ((P.length : Int) == 2) = false := by rw [beq_eq_false_iff_ne]; omega
      have t1' : ((P.length : Int) != 2) = true := by rw [bne, t1]; rfl
      have HO : Hid (O = none) := by (show _ = _; rw [Hdef.out, Hb.out, decide_eq_false hl2, Bool.false_and, Bool.and_false]; rfl)
      obtain ⟨⟨b0, b1⟩, ⟨f0, f1⟩, hbl⟩ := box2 X1.out.1.2
      clear Hb Hdef Hn Hm Hok hsz
      go_wp2
      refine bodyPost_ret (results_ct rfl (box2_set (t := 28) X1.out.1.2 _ _) Tryz.underlying28 rfl (by kernel_rfl) rfl rfl) rfl ⟨_, (by rw [HO.out]; rfl), ?_, ?_⟩
      · rw [HO.out]; exact World.ownsRow_nil _ _ _ _
      · exact ((X1.out.1.1).setCell (Nat.le_refl _) _).setCell (Nat.le_refl _) _
  · have t0 : (40 : Int) < (s.size : Int) := by omega
    have HO : Hid (O = none) := by (show _ = _; rw [Hdef.out, Hb.out, show decide (s.size ≤ 40) = false from decide_eq_false h40]; rfl)
    obtain ⟨⟨b0, b1⟩, ⟨f0, f1⟩, hbl⟩ := box2 X1.out.1.2
    clear h40 Hb Hdef Hn Hm Hok hsz
    go_wp2
    refine bodyPost_ret (results_ct rfl (box2_set (t := 28) X1.out.1.2 _ _) Tryz.underlying28 rfl (by kernel_rfl) rfl rfl) rfl ⟨_, (by rw [HO.out]; rfl), ?_, ?_⟩
    · rw [HO.out]; exact World.ownsRow_nil _ _ _ _
    · exact ((X1.out.1.1).setCell (Nat.le_refl _) _).setCell (Nat.le_refl _) _
end Go.Proofs.YtlaochpkelbchaaGreatDoor
