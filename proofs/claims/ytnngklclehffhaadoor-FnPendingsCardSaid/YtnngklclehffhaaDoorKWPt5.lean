/- A fragment taken: the reference's TakeFragment. -/
import Derived.Test.YtnngklclehffhaaDoorKWPt3
import Derived.Test.YtnngklclehffhaaDoorKWPt4
import Derived.Test.YtnngklclehffhaaDoorKWPv3
import Derived.ArgAppend
namespace Go.Proofs.YtnngklclehffhaaDoor
open Go.RowKit
set_option maxHeartbeats 1000000
set_option maxRecDepth 100000
theorem wF_ofQ {p : Pnd} {n : Int} {i q : Nat} {d : ByteArray} (h : p.d.length = p.h.length) (hp : ∀ x ∈ p.d, itm 8 x = true) (hd : itm 8 d = true) : ofQ (wF p n i q d) q := by
  rw [wF]
  refine ofQ_st ?_ hd
  split
  · rename_i e
    exact ⟨by show p.d.length = q; omega, e, hp⟩
  · exact ofQ_fr n q
theorem own_full3 {w : World} {base e n g cap : Nat} {cs : List Value} (h : w.ownsRow base e 3 (.slice (some ⟨g, 0, none⟩) n cap) n cs) :
    n ≤ cap ∧ cap ≤ maxLen ∧ ∃ rest, w.ownsRow base e 3 (.slice (some ⟨g, 0, none⟩) cap cap) cap (cs ++ rest) := by
  obtain ⟨h1, ⟨h2, -⟩ | ⟨g', c, cur, h2, hB, hh, hn, hc, hs, ht⟩⟩ := h
  · cases h2
  · cases h2
    refine ⟨hn, hc, cur.toList.drop (n * 3), by simp [h1]; omega, .inr ⟨g, cap, cur, rfl, hB, hh, Nat.le_refl _, hc, hs, ?_⟩⟩
    rw [← ht, List.take_append_drop]
    exact List.take_of_length_le (by simp [hs])
/-- A pending put behind a row in place. -/
theorem own_room3 {w : World} {base e n g cap : Nat} {cs ys : List Value} (h : w.ownsRow base e 3 (.slice (some ⟨g, 0, none⟩) n cap) n cs) (hr : n + 1 ≤ cap) (hy : ys.length = 3) :
    (w.setCells g (n * 3) ys).ownsRow base e 3 (.slice (some ⟨g, 0, none⟩) (n + 1) cap) (n + 1) (cs ++ ys) ∧ w.grownBy (w.setCells g (n * 3) ys) (some g) ∧
      ∀ j, j < 3 → (w.cell? ⟨g, n * 3 + j, none⟩).isSome = true ∧ w.frozen? ⟨g, n * 3 + j, none⟩ = false := by
  have hl := h.1
  obtain ⟨h1, h2, rest, hf⟩ := own_full3 h
  have hs := own_setCells ys w (cs ++ rest) (n * 3) hf (by rw [hf.1]; omega)
  have ht := own_trunc3 hs.1 hr
  have e : ((cs ++ rest).take (n * 3) ++ ys ++ (cs ++ rest).drop (n * 3 + ys.length)).take ((n + 1) * 3) = cs ++ ys := by
    rw [List.take_left' hl]
    exact List.take_left' (by rw [List.length_append, hl, hy]; omega)
  rw [e] at ht
  refine ⟨ht, hs.2, fun j hj => ⟨?_, h.frozenAt _⟩⟩
  rw [hf.cellAt _ (by omega), List.getElem?_eq_getElem (by rw [hf.1]; omega)]
  rfl
theorem tf_room {w : World} {lo hi g n c : Nat} {ps : List Pnd} {ds : List Pe} {x : Pe} (h : POw w lo hi (.slice (some ⟨g, 0, none⟩) n c) ps ds) (hn : n = ps.length) (h1 : 1 ≤ n) (hr : n + 1 ≤ c)
    (o1 : w.ownsRow lo 9 1 x.u x.d.length (vStrs x.d)) (o2 : w.ownsRow lo 4 1 x.v x.h.length (vBools x.h)) (b1 : ∀ j, x.u.ownBlock = some j → j ≠ g) (b2 : ∀ j, x.v.ownBlock = some j → j ≠ g) :
    (PRd (w.setCells g (n * 3) x.cs) (.slice (some ⟨g, 3, none⟩) n (c - 1)) (ps.drop 1 ++ [x.p]) (ds.drop 1 ++ [x]) ∧ w.grownBy (w.setCells g (n * 3) x.cs) (some g)) ∧ ∀ j, j < 3 → (w.cell? ⟨g, n * 3 + j, none⟩).isSome = true ∧ w.frozen? ⟨g, n * 3 + j, none⟩ = false := by
  have hdl := h.len
  have hown := h.2.own
  rw [hdl, ← hn] at hown
  obtain ⟨k1, k2, k3⟩ := own_room3 (ys := x.cs) hown hr rfl
  refine ⟨⟨?_, k2⟩, k3⟩
  have e1 : (ds ++ [x]).flatMap Pe.cs = ds.flatMap Pe.cs ++ x.cs := by simp
  have e2 : (ds ++ [x]).length = n + 1 := by rw [List.length_append, hdl, hn]; rfl
  have hP : PRd (w.setCells g (n * 3) x.cs) (.slice (some ⟨g, 0, none⟩) (n + 1) c) (ps ++ [x.p]) (ds ++ [x]) := by
    refine ⟨by rw [List.map_append, h.1]; rfl, by rw [e1, e2]; exact Rd.own k1, fun e he => ?_⟩
    rcases List.mem_append.1 he with he | he
    · obtain ⟨⟨a1, a2⟩, c1, c2⟩ := h.2.inner he
      exact ⟨Rd.own (own_kept a1 k2 (fun j e e2 => (c1 j e).2 e2)), Rd.own (own_kept a2 k2 (fun j e e2 => (c2 j e).2 e2))⟩
    · obtain rfl := List.mem_singleton.1 he
      exact ⟨Rd.own (own_kept o1 k2 (fun j e e2 => b1 j e (Option.some.inj e2).symm)), Rd.own (own_kept o2 k2 (fun j e e2 => b2 j e (Option.some.inj e2).symm))⟩
  have hD := hP.drop (by omega) 1 (by simp)
  have ev : slc3 (some ⟨g, 0, none⟩) 1 (n + 1) c = .slice (some ⟨g, 3, none⟩) n (c - 1) := by
    rw [slc3, if_neg (by omega), show n + 1 - 1 = n by omega]; simp [Addr.add_lit]
  rw [ev, List.drop_append_of_le_length (by omega), List.drop_append_of_le_length (by omega)] at hD
  exact hD
theorem tf_grow {w w' : World} {lo hi B n : Nat} {v v' : Value} {ps : List Pnd} {ds : List Pe} {x : Pe} (h : POw w lo hi v ps ds) (hn : n = ps.length) (h1 : 1 ≤ n)
    (hrow : w'.ownsRow B 62 3 v' n ((ds.drop 1).flatMap Pe.cs ++ x.cs)) (hx : Ext w w')
    (o1 : w.ownsRow lo 9 1 x.u x.d.length (vStrs x.d)) (o2 : w.ownsRow lo 4 1 x.v x.h.length (vBools x.h)) :
    PRd w' v' (ps.drop 1 ++ [x.p]) (ds.drop 1 ++ [x]) := by
  have e1 : (ds.drop 1 ++ [x]).flatMap Pe.cs = (ds.drop 1).flatMap Pe.cs ++ x.cs := by simp
  have e2 : (ds.drop 1 ++ [x]).length = n := by rw [List.length_append, List.length_drop, h.len, ← hn]; show n - 1 + 1 = n; omega
  refine ⟨by rw [List.map_append, List.map_drop, h.1]; rfl, by rw [e1, e2]; exact Rd.own hrow, fun e he => ?_⟩
  rcases List.mem_append.1 he with he | he
  · obtain ⟨⟨a1, a2⟩, -⟩ := h.2.inner (List.mem_of_mem_drop he)
    exact ⟨(Rd.own a1).ext hx, (Rd.own a2).ext hx⟩
  · obtain rfl := List.mem_singleton.1 he
    exact ⟨(Rd.own o1).ext hx, (Rd.own o2).ext hx⟩
theorem rd_cells3 {w : World} {n m c b off : Nat} {cs : List Value} (h : Rd w 3 (.slice (some ⟨b, off, none⟩) m c) n cs) (hn : 0 < n) : ∀ j u, cs[j]? = some u → w.cell? ⟨b, off + j, none⟩ = some u := by
  obtain ⟨hl, p, c', e, h4⟩ := h
  cases e
  intro j u hu
  obtain ⟨b', off', e, hc⟩ := h4.resolve_left (by omega)
  cases e
  obtain ⟨hj, rfl⟩ := List.getElem?_eq_some_iff.1 hu
  exact hc j hj
theorem PRd.mk9 {w : World} {v : Value} {ps : List Pnd} {es : List Pe} (h : es.map Pe.p = ps) (h2 : PRe w v es) : PRd w v ps es := ⟨h, h2⟩
def nxE (N : Pnd) (Q g1 g2 : Nat) : Pe := ⟨N.n, N.d, N.h, .slice (some ⟨g1, 0, none⟩) Q Q, .slice (some ⟨g2, 0, none⟩) Q Q⟩
theorem spec_TakeFragment (ps : List Pnd) (es : List Pe) (v : Value) (n p q : Int) (d : ByteArray) (w : World) (h : PRd w v ps es) (h2 : ps.length ≤ 1048576) (hs : ∀ i, i < ps.length → (ps.getD i .z).d.length ≤ 1048576 ∧ (ps.getD i .z).h.length ≤ 1048576 ∧ ∀ j, j < (ps.getD i .z).d.length → ((ps.getD i .z).d.getD j ByteArray.empty).size ≤ 1048576) (hdz : d.size ≤ 1048576) :
    Calls Tryd.prog 24 #[v, .agg #[.int .i64 n, .int .i64 p, .int .i64 q, .string d]] w fun e w' => ∃ r ds, e = .returned (.tuple #[r, .string (tkS ps n p q d), .bool (tkW ps n p q d), .bool (tkB ps n p q d)]) ∧ PRd w' r (tkO ps n p q d) ds ∧ Ext w w' := by
  have Hv := hid h
  have hg := hid (fun w h => spec_l23Good ps es v w h h2 hs)
  have hfr := hid (fun w => spec_l23Fragment n p q d w hdz)
  have hB0 : (w.alloc (.cells #[.int .i64 n, .int .i64 p, .int .i64 q, .string d] 43)).heap[w.heap.size]? = some (.cells #[.int .i64 n, .int .i64 p, .int .i64 q, .string d] 43 (0, 0)) := heap_at _ rfl
  have X0 : Ext w (w.alloc (.cells #[.int .i64 n, .int .i64 p, .int .i64 q, .string d] 43)) := (by repeat' (first | exact Ext.refl _ | assumption | refine Ext.alloc ?_ _ | refine Ext.ext ?_ _ | refine Ext.drew ?_ | refine Ext.drewN ?_ _))
  cases e1 : okL ps
  · have hno : tkB ps n p q d = false := by rw [tkB, e1]; rfl
    rw [(tk_no hno).1, (tk_no hno).2.1, (tk_no hno).2.2, hno]
    rw [e1] at hg
    clear h hs e1 hno
    go_enter Tryd.func24, Tryd.ntmps24
    go_wp2_with (go_at_call 38; refine (hg.out _ (Hv.out.ext (by repeat' (first | exact Ext.refl _ | assumption | refine Ext.alloc ?_ _ | refine Ext.ext ?_ _ | refine Ext.drew ?_ | refine Ext.drewN ?_ _)))).mono ?_; rintro e w' ⟨rfl, z1, rfl⟩)
    ((try simp only [Exit.inBlock, Exit.then]); refine bodyPost_ret (results_tmp4 rfl _ _ _) rfl ?_)
    exact ⟨_, _, rfl, PRd.empty _ _ _, (by repeat' (first | exact Ext.refl _ | assumption | refine Ext.alloc ?_ _ | refine Ext.ext ?_ _ | refine Ext.drew ?_ | refine Ext.drewN ?_ _))⟩
  rw [e1] at hg
  cases e2 : okF ⟨n, p, q, d⟩
  · have hno : tkB ps n p q d = false := by rw [tkB, e1, e2]; rfl
    rw [(tk_no hno).1, (tk_no hno).2.1, (tk_no hno).2.2, hno]
    rw [e2] at hfr
    clear h hs e1 e2 hno
    go_enter Tryd.func24, Tryd.ntmps24
    go_wp2_with (first | (go_at_call 38; refine (hg.out _ (Hv.out.ext (by repeat' (first | exact Ext.refl _ | assumption | refine Ext.alloc ?_ _ | refine Ext.ext ?_ _ | refine Ext.drew ?_ | refine Ext.drewN ?_ _)))).mono ?_; rintro e w' ⟨rfl, z1, rfl⟩) | (go_at_call 51; refine (hfr.out _).mono ?_; rintro e w' ⟨rfl, z2, rfl⟩))
    ((try simp only [Exit.inBlock, Exit.then]); refine bodyPost_ret (results_tmp4 rfl _ _ _) rfl ?_)
    exact ⟨_, _, rfl, PRd.empty _ _ _, (by repeat' (first | exact Ext.refl _ | assumption | refine Ext.alloc ?_ _ | refine Ext.ext ?_ _ | refine Ext.drew ?_ | refine Ext.drewN ?_ _))⟩
  rw [e2] at hfr
  have hyes : tkB ps n p q d = true := by rw [tkB, e1, e2]; rfl
  have hc := hid (fun w a => spec_l23Own ps es v w a h2 (fun i hi => ⟨(hs i hi).1, (hs i hi).2.1⟩))
  have hf := hid (fun w h => spec_l23Find ps es v n w h h2)
  obtain ⟨I, Q, rfl, rfl, hQ1, hQ9, hIQ, hit⟩ := frag_nat e2
  have hl4 := okL_len e1
  obtain ⟨ty1, ty2, ty3⟩ := tk_yes hyes
  rw [hyes]
  have hb9 : ofQ (nxP ps n I Q d) Q ∧ (bsP ps n).d.length = (bsP ps n).h.length ∧ (nxP ps n I Q d).n = n := by
    have hb : (bsP ps n).d.length = (bsP ps n).h.length ∧ ∀ x ∈ (bsP ps n).d, itm 8 x = true := by
      rw [bsP]
      rcases hitG_cases (fun p : Pnd => p.n == n) ps .z with ⟨h1, -⟩ | ⟨k, h0, h1, -⟩
      · rw [show fndP ps n = -1 from h1, if_neg (by decide)]
        exact ⟨rfl, fun x hx => by cases hx⟩
      · rw [show fndP ps n = (k : Int) from h1, if_pos (by omega), Int.toNat_natCast]
        have hk := (okL_at e1 k h0).1
        exact ⟨by have := okS_len hk; omega, okS_all hk⟩
    exact ⟨wF_ofQ hb.1 hb.2 hit, hb.1, wF_n _ _ _ _ _⟩
  have htr : tkR ps n I Q d = if 0 ≤ fndP ps n then (if whP (nxP ps n I Q d) then ers ps (fndP ps n).toNat else ps.set (fndP ps n).toNat (nxP ps n I Q d))
      else if whP (nxP ps n I Q d) then ps else (if ps.length = 4 then ps.drop 1 else ps) ++ [nxP ps n I Q d] := rfl
  have hnx : nxP ps n I Q d = wF (bsP ps n) n I Q d := rfl
  have hbs : bsP ps n = if 0 ≤ fndP ps n then ps.getD (fndP ps n).toNat .z else .z := rfl
  have hjs := ofQ_join hb9.1
  generalize tkO ps n I Q d = O at *
  generalize tkS ps n I Q d = S' at *
  generalize tkW ps n I Q d = Wh at *
  generalize tkR ps n I Q d = TR at *
  have HO := hid (And.intro ty1 (And.intro ty2 ty3))
  clear ty1 ty2 ty3 hyes
  generalize nxP ps n I Q d = N at *
  generalize bsP ps n = BS at *
  have hsz : ∀ i, i < ps.length → Hid ((ps.getD i .z).d.length = (ps.getD i .z).h.length) := fun i hi => by (show _ = _; have := okS_len (okL_at e1 i hi).1; omega)
  have Hnx := hid (And.intro hnx (And.intro hbs (And.intro htr hb9)))
  have Hjs := hid hjs
  have hwh : Hid (∀ wq u v, Rd wq 1 u Q (vStrs N.d) → Rd wq 1 v Q (vBools N.h) → Calls Tryd.prog 53 #[.agg #[.int .i64 n, u, v]] wq fun e w' => e = .returned (.tuple #[.string S', .bool Wh]) ∧ Ext wq w') := fun wq u v hu hv => by
    have h9 := hb9
    have h8 := spec_l23Whole N u v wq (by rw [h9.1.1]; exact hu) (by rw [h9.1.2.1]; exact hv) (by rw [h9.1.1, h9.1.2.1]) (by rw [h9.1.2.1]; omega) (by omega)
    rw [h9.2.2, ← HO.out.2.1, show (if Wh = true then joinS N.d ⟨#[]⟩ else ⟨#[]⟩) = S' from by rw [HO.out.2.1]; exact HO.out.2.2.symm] at h8
    exact h8
  clear hnx hbs htr hb9 hjs e1 e2 h hs
  go_enter Tryd.func24, Tryd.ntmps24
  go_wp2_with (first | (go_at_call 38; refine (hg.out _ (Hv.out.ext (by repeat' (first | exact Ext.refl _ | assumption | refine Ext.alloc ?_ _ | refine Ext.ext ?_ _ | refine Ext.drew ?_ | refine Ext.drewN ?_ _)))).mono ?_; rintro e w' ⟨rfl, z1, rfl⟩) | (go_at_call 51; refine (hfr.out _).mono ?_; rintro e w' ⟨rfl, z2, rfl⟩) | fail)
  have XW : Ext w ((((w.alloc (.cells #[.int .i64 n, .int .i64 I, .int .i64 Q, .string d] 43)).ext z1)).ext z2) := (by repeat' (first | exact Ext.refl _ | assumption | refine Ext.alloc ?_ _ | refine Ext.ext ?_ _ | refine Ext.drew ?_ | refine Ext.drewN ?_ _))
  have HB : ((((w.alloc (.cells #[.int .i64 n, .int .i64 I, .int .i64 Q, .string d] 43)).ext z1)).ext z2).heap[w.heap.size]? = some (.cells #[.int .i64 n, .int .i64 I, .int .i64 Q, .string d] 43 (0, 0)) := blk3 hB0 (by repeat' (first | exact Ext.refl _ | assumption | refine Ext.alloc ?_ _ | refine Ext.ext ?_ _ | refine Ext.drew ?_ | refine Ext.drewN ?_ _))
  have hwW : w.heap.size ≤ _ := XW.size
  generalize ((((w.alloc (.cells #[.int .i64 n, .int .i64 I, .int .i64 Q, .string d] 43)).ext z1)).ext z2) = W at *
  clear hB0 X0 hg hfr
  go_at_call 46
  refine (hc.out _ (Hv.out.ext XW)).mono ?_
  rintro e w3 ⟨r, ds, rfl, ho, hx⟩
  have H3 := hid ho
  have hlw3 := hx.size
  have X3 := hid (XW.trans hx)
  have HB3 := blk3 HB hx
  obtain ⟨⟨b0, b1, b2, b3⟩, -, hbl⟩ := box4 HB3
  clear ho hx HB hc XW
  go_wp2_with fail
  go_at_call 43
  refine (hf.out _ (Hv.out.ext X3.out)).mono ?_
  rintro e w4 ⟨rfl, hx⟩
  have H4 := hid (H3.out.ext hx)
  have X4 := hid (X3.out.trans hx)
  have HB4 := hid (blk3 HB3 hx)
  have hs34 := hx.size
  have hlw4 := Nat.le_trans hlw3 hs34
  clear H3 X3 HB3 b0 b1 b2 b3 hx hf
  obtain ⟨⟨b0, b1, b2, b3⟩, -, hbl⟩ := box4 HB4.out
  have hZ : ((w4.alloc (.cells #[.int .i64 0, .slice none 0 0, .slice none 0 0] 62))).heap[w4.heap.size]? = some (.cells #[.int .i64 0, .slice none 0 0, .slice none 0 0] 62 (0, 0)) := heap_at _ rfl
  rcases hitG_cases (fun p : Pnd => p.n == n) ps .z with ⟨h1, -⟩ | ⟨k, h0, h1, hkn, -⟩
  · have hFn : fndP ps n = -1 := h1
    have hBS : BS = .z := by rw [Hnx.out.2.1, hFn, if_neg (by decide)]
    subst hBS
    rw [hFn]
    have hwt : Hid (∀ wq, Ext w wq → Calls Tryd.prog 52 #[.agg #[.int .i64 0, .slice none 0 0, .slice none 0 0], .agg #[.int .i64 n, .int .i64 I, .int .i64 Q, .string d]] wq fun e w' => ∃ g1 g2, e = .returned (.agg #[.int .i64 n, .slice (some ⟨g1, 0, none⟩) Q Q, .slice (some ⟨g2, 0, none⟩) Q Q]) ∧
      (w'.ownsRow wq.heap.size 9 1 (.slice (some ⟨g1, 0, none⟩) Q Q) Q (vStrs N.d) ∧ w'.ownsRow wq.heap.size 4 1 (.slice (some ⟨g2, 0, none⟩) Q Q) Q (vBools N.h)) ∧ (g1 ≠ g2 ∧ g1 < w'.heap.size ∧ g2 < w'.heap.size) ∧ Ext wq w') := fun wq _ => by
      rw [Hnx.out.1]
      exact spec_l23With 0 [] [] (.slice none 0 0) (.slice none 0 0) n I Q d wq (Rd.nil _ _ _ _) (Rd.nil _ _ _ _) rfl hQ9 hIQ
    have hTR : Hid (TR = if whP N then ps else (if ps.length = 4 then ps.drop 1 else ps) ++ [N]) := by
      show _ = _
      rw [Hnx.out.2.2.1, hFn, if_neg (by decide)]
    have XA : Ext w4 (w4.alloc (.cells #[.int .i64 0, .slice none 0 0, .slice none 0 0] 62)) := (by repeat' (first | exact Ext.refl _ | assumption | refine Ext.alloc ?_ _ | refine Ext.ext ?_ _ | refine Ext.drew ?_ | refine Ext.drewN ?_ _))
    have hlw : W.heap.size ≤ (w4.alloc (.cells #[.int .i64 0, .slice none 0 0, .slice none 0 0] 62)).heap.size := Nat.le_trans hlw4 XA.size
    have hA4 : w4.heap.size ≤ (w4.alloc (.cells #[.int .i64 0, .slice none 0 0, .slice none 0 0] 62)).heap.size := XA.size
    clear h1 hFn hZ
    have tF : decide ((0 : Int) ≤ -1) = false := rfl
    go_wp2_with fail
    go_at_call 52
    refine (hwt.out _ (X4.out.trans XA)).mono ?_
    rintro e w5 ⟨g1, g2, rfl, ⟨o1, o2⟩, ⟨hg12, hgb1, hgb2⟩, hx5⟩
    have hga1 := (own_row o1 g1 rfl).1
    have hga2 := (own_row o2 g2 rfl).1
    have H5 := hid (And.intro (((H4.out.ext XA)).ext hx5) (((X4.out.trans XA)).trans hx5))
    have hs5 : ((w4.alloc (.cells #[.int .i64 0, .slice none 0 0, .slice none 0 0] 62))).heap.size ≤ w5.heap.size := hx5.size
    have hN : (w5.alloc (.cells #[.int .i64 n, .slice (some ⟨g1, 0, none⟩) Q Q, .slice (some ⟨g2, 0, none⟩) Q Q] 62)).heap[w5.heap.size]? = some (.cells #[.int .i64 n, .slice (some ⟨g1, 0, none⟩) Q Q, .slice (some ⟨g2, 0, none⟩) Q Q] 62 (0, 0)) := heap_at _ rfl
    clear hx5 hwt
    go_wp2_with fail
    go_at_call 53
    refine (hwh.out _ _ _ (Rd.own (own_ext o1 (by repeat' (first | exact Ext.refl _ | assumption | refine Ext.alloc ?_ _ | refine Ext.ext ?_ _ | refine Ext.drew ?_ | refine Ext.drewN ?_ _)))) (Rd.own (own_ext o2 (by repeat' (first | exact Ext.refl _ | assumption | refine Ext.alloc ?_ _ | refine Ext.ext ?_ _ | refine Ext.drew ?_ | refine Ext.drewN ?_ _))))).mono ?_
    rintro e w6 ⟨rfl, hx6⟩
    have X56 : Ext w5 w6 := (show Ext w5 (w5.alloc _) from (by repeat' (first | exact Ext.refl _ | assumption | refine Ext.alloc ?_ _ | refine Ext.ext ?_ _ | refine Ext.drew ?_ | refine Ext.drewN ?_ _))).trans hx6
    have hs6 : w5.heap.size < w6.heap.size := Nat.lt_of_lt_of_le (by simp) hx6.size
    have H6 := hid (And.intro (H5.out.1.ext X56) (H5.out.2.trans X56))
    replace hN := blk3 hN hx6
    replace o1 := own_ext o1 X56
    replace o2 := own_ext o2 X56
    have HW6 := hid (And.intro o1 o2)
    clear H5 hx6 X56 o1 o2 hwh
    obtain ⟨⟨n0', n1', n2'⟩, -, -⟩ := box3 hN
    cases Wh
    · have hw0 : whP N = false := HO.out.2.1.symm
      have HS : Hid (S' = ⟨#[]⟩ ∧ O = (if ps.length = 4 then ps.drop 1 else ps) ++ [N]) := ⟨by rw [HO.out.2.2, hw0]; rfl, by rw [HO.out.1, hTR.out, hw0]; rfl⟩
      have HN : Hid ((N.d.length = Q ∧ N.h.length = Q) ∧ N.n = n) := ⟨⟨Hnx.out.2.2.2.1.1, Hnx.out.2.2.2.1.2.1⟩, Hnx.out.2.2.2.2.2⟩
      obtain ⟨i0, hi, hz0, hz1, hz2⟩ := info_parts infoPnd
      have XL : Ext w6 (w6.alloc (.cells #[.int .i64 n, .slice (some ⟨g1, 0, none⟩) Q Q, .slice (some ⟨g2, 0, none⟩) Q Q] 62)) := (by repeat' (first | exact Ext.refl _ | assumption | refine Ext.alloc ?_ _ | refine Ext.ext ?_ _ | refine Ext.drew ?_ | refine Ext.drewN ?_ _))
      have hO6 : Hid (w6.ownsRow W.heap.size 9 1 (nxE N Q g1 g2).u (nxE N Q g1 g2).d.length (vStrs (nxE N Q g1 g2).d) ∧ w6.ownsRow W.heap.size 4 1 (nxE N Q g1 g2).v (nxE N Q g1 g2).h.length (vBools (nxE N Q g1 g2).h)) := by
        refine ⟨?_, ?_⟩
        · show w6.ownsRow _ _ _ _ N.d.length _
          rw [HN.out.1.1]
          exact own_mono HW6.out.1 hlw
        · show w6.ownsRow _ _ _ _ N.h.length _
          rw [HN.out.1.2]
          exact own_mono HW6.out.2 hlw
      clear hw0 hTR HO Hnx
      by_cases h4 : ps.length = 4
      · rcases H6.out.1.form with ⟨-, e⟩ | ⟨g, c, rfl, hlc, hg0, hg1, hg2⟩
        · rw [e] at h4; simp at h4
        have t4 : ((ps.length : Int) == 4) = true := by simp; omega
        have r3 : ∀ w, (Instr.slice 25 (.slice (some ⟨g, 0, none⟩) ps.length c) (some (.int .i64 1)) none none).run Tryd.prog w = .ok (.slice (some ⟨g, 3, none⟩) (ps.length - 1) (c - 1)) w := fun w => by
          have := run_from3 (some ⟨g, 0, none⟩) ps.length 1 c (by omega) w
          rw [slc3, if_neg (by omega)] at this
          simpa [Addr.add_lit] using this
        have r4 : ∀ w, (Instr.sliceAt 25 (.slice (some ⟨g, 0, none⟩) ps.length c) (some (.int .i64 1)) none none).run Tryd.prog w = .ok (.slice (some ⟨g, 3, none⟩) (ps.length - 1) (c - 1)) w := fun w => by
          have := run_fromAt3 (some ⟨g, 0, none⟩) ps.length 1 c (by omega) w
          rw [slc3, if_neg (by omega)] at this
          simpa [Addr.add_lit] using this
        have hHS : Hid (S' = ⟨#[]⟩ ∧ O = ps.drop 1 ++ [N]) := by (have h9 := HS.out; rw [if_pos h4] at h9; exact h9)
        have H4n := hid h4
        have p1 : 1 ≤ ps.length := by omega
        have HL := hid (H6.out.1.ext XL)
        have hOL := hid (And.intro (own_ext hO6.out.1 XL) (own_ext hO6.out.2 XL))
        have hdl := HL.out.len
        have hRd : Rd (w6.alloc (.cells #[.int .i64 n, .slice (some ⟨g1, 0, none⟩) Q Q, .slice (some ⟨g2, 0, none⟩) Q Q] 62)) 3 (.slice (some ⟨g, 3, none⟩) (ps.length - 1) (c - 1)) (ds.drop 1).length ((ds.drop 1).flatMap Pe.cs) := by
          have := (PRd.drop HL.out.rd hlc 1 p1).2.1
          rw [slc3, if_neg (by omega)] at this
          simpa [Addr.add_lit] using this
        have holds := rd_cells3 hRd (by rw [List.length_drop, hdl]; omega)
        have hlo : ((ds.drop 1).flatMap Pe.cs).length = (ps.length - 1) * 3 := by rw [pes_len, List.length_drop, hdl]
        have hxc : (nxE N Q g1 g2).cs = [.int .i64 n, .slice (some ⟨g1, 0, none⟩) Q Q, .slice (some ⟨g2, 0, none⟩) Q Q] := by rw [← HN.out.2]; rfl
        have hroom := hid (fun hr => tf_room (x := nxE N Q g1 g2) HL.out rfl p1 hr hOL.out.1 hOL.out.2 (fun j e => by cases e; dsimp only; omega) (fun j e => by cases e; dsimp only; omega))
        have hgr := hid (fun v' w' B hrow hx => tf_grow (w' := w') (v' := v') (B := B) (x := nxE N Q g1 g2) HL.out rfl p1 hrow hx hOL.out.1 hOL.out.2)
        rw [hxc] at hroom hgr
        have hidx : 3 + (ps.length - 1) * 3 = ps.length * 3 := by omega
        obtain ⟨OL, hOL2⟩ : ∃ OL, (ds.drop 1).flatMap Pe.cs = OL := ⟨_, rfl⟩
        rw [hOL2] at hgr holds hlo
        have XX6 := hid (H6.out.2.trans XL)
        have Hidx := hid hidx
        have hplm : ps.length - 1 + 1 ≤ 4 := by omega
        clear h4 hRd hdl hOL2 hidx HS
        go_wp2_with (at_builtin; refine wpList_append_arg _ rfl _ _ 25 rfl 62 i0 (.agg #[.int .i64 0, .slice none 0 0, .slice none 0 0]) 3 56 Tryd.underlying25 hi hz0 hz1 hz2 rfl (by decide) g 3 (ps.length - 1) (c - 1) OL rfl hlo holds ⟨_, 0, none⟩ 1 1 [.int .i64 n, .slice (some ⟨g1, 0, none⟩) Q Q, .slice (some ⟨g2, 0, none⟩) Q Q] rfl rfl ?ac ?a2 ?asp ?a3 ?a4 ?aroom ?agrow)
        case ac => (intro j u hj; rw [Addr.add_lit, Nat.zero_add, cell_of_row _ _ j _ _ (0, 0) (heap_at _ rfl)]; simpa using hj)
        case a2 => simp [Value.oneCell']
        case asp =>
          intro hr j hj
          rw [Hidx.out]
          exact (hroom.out (by omega)).2 j hj
        case a3 => (unfold maxLen; omega)
        case a4 => omega
        case aroom =>
          intro hr
          rw [Hidx.out]
          have hrm := hroom.out (by omega)
          have K := hid (And.intro hrm.1.1 (Ext.grown XX6.out hrm.1.2 (fun j e => by cases e; omega)))
          clear hrm hroom hgr holds hlo
          go_wp2
          ((try simp only [Exit.inBlock, Exit.then]); refine bodyPost_ret (results_tmp4 rfl _ _ _) rfl ?_)
          obtain ⟨q1, q2⟩ := hHS.out
          subst q1
          subst q2
          exact ⟨_, _, rfl, K.out⟩
        case agrow =>
          intro hr v' w7 hrow hg7
          have hx7 := Ext.grown (Ext.refl _) hg7 (fun j e => by cases e)
          have K := hid (And.intro (hgr.out v' w7 _ hrow hx7) (XX6.out.trans hx7))
          clear hrow hg7 hx7 hroom hgr holds hlo
          go_wp2
          ((try simp only [Exit.inBlock, Exit.then]); refine bodyPost_ret (results_tmp4 rfl _ _ _) rfl ?_)
          obtain ⟨q1, q2⟩ := hHS.out
          subst q1
          subst q2
          exact ⟨_, _, rfl, K.out⟩
      · have t4 : ((ps.length : Int) == 4) = false := by simp; omega
        have hHS : Hid (S' = ⟨#[]⟩ ∧ O = ps ++ [N]) := by (have h9 := HS.out; rw [if_neg h4] at h9; exact h9)
        obtain ⟨rp, rc, rfl⟩ : ∃ rp rc, r = .slice rp ps.length rc := by rw [← H6.out.1.len]; exact own_shape H6.out.1.2.own
        have hdl := H6.out.1.len
        have hs6' : W.heap.size ≤ w6.heap.size := by omega
        have hd4 : ds.length ≤ 4 := by omega
        have hxc : (nxE N Q g1 g2).cs = [.int .i64 n, .slice (some ⟨g1, 0, none⟩) Q Q, .slice (some ⟨g2, 0, none⟩) Q Q] := by rw [← HN.out.2]; rfl
        have hXs : (w6.alloc (.cells #[.int .i64 n, .slice (some ⟨g1, 0, none⟩) Q Q, .slice (some ⟨g2, 0, none⟩) Q Q] 62)).heap.size = w6.heap.size + 1 := by simp
        have hhi := hid (fun j e => (H6.out.1.2.lt (j := j) e).2.1)
        have Hdl := hid hdl
        clear h4 HS hdl
        go_wp2_with (at_builtin; refine wpList_append_own_at _ rfl _ _ 25 rfl W.heap.size 62 i0 (.agg #[.int .i64 0, .slice none 0 0, .slice none 0 0]) 3 56 Tryd.underlying25 hi hz0 hz1 hz2 rfl (by decide) _ _ _ rfl ((own_ext H6.out.1.2.own (by repeat' (first | exact Ext.refl _ | assumption | refine Ext.alloc ?_ _ | refine Ext.ext ?_ _ | refine Ext.drew ?_ | refine Ext.drewN ?_ _)))) ⟨_, 0, none⟩ 1 1 [.int .i64 n, .slice (some ⟨g1, 0, none⟩) Q Q, .slice (some ⟨g2, 0, none⟩) Q Q] rfl ?a0A ?a1A ?a2A ?a3A ?a4A ?a5A ?_)
        (try case a0A => rfl)
        case a1A => (intro j u hj; rw [Addr.add_lit, Nat.zero_add, cell_of_row _ _ j _ _ (0, 0) (heap_at _ rfl)]; first | (simpa using hj) | (simpa [hwb.out] using hj))
        case a2A => simp [Value.oneCell']
        case a3A => (unfold maxLen; simp; omega)
        case a4A => (first | omega | (simp; omega))
        case a5A => (have := hs6'; first | omega | (simp at *; omega))
        intro v' w1 hown' hgrow hat
        intro hat2
        have hgs : w6.heap.size + 1 ≤ w1.heap.size := by (have := hgrow.size; simp at this; omega)
        rw [← hxc] at hown'
        have h5 := PFe.snoc (x := nxE N Q g1 g2) (hi' := w1.heap.size) (H6.out.1.2.ext XL) (by omega) hgrow hown' (hat2.imp id (fun e j e2 => by rw [e] at e2; have := Option.some.inj e2; (try simp at this); omega)) (by omega) (fun j e => (own_row hown' j e).2) (own_ext hO6.out.1 XL) (own_ext hO6.out.2 XL) (fun j e => by cases e; dsimp only; omega) (fun j e => by cases e; dsimp only; omega) (fun j e e2 => by cases e; cases e2; exact hg12 rfl)
        have hmp : (ds ++ [nxE N Q g1 g2]).map Pe.p = ps ++ [N] := by rw [List.map_append, H6.out.1.1]; rfl
        have hxx : Ext w w1 := Ext.grown (H6.out.2.trans XL) hgrow (fun j e => by have := (own_row H6.out.1.2.own j e).1; omega)
        have K := hid (And.intro (PRd.mk9 hmp h5.rd) hxx)
        clear h5 hmp hxx hown' hgrow hat hat2 hgs hXs
        go_wp2
        ((try simp only [Exit.inBlock, Exit.then]); refine bodyPost_ret (results_tmp4 rfl _ _ _) rfl ?_)
        obtain ⟨q1, q2⟩ := hHS.out
        subst q1
        subst q2
        exact ⟨_, _, rfl, K.out⟩
    · have hw1 : Hid (whP N = true) := HO.out.2.1.symm
      go_wp2
      ((try simp only [Exit.inBlock, Exit.then]); refine bodyPost_ret (results_tmp4 rfl _ _ _) rfl ?_)
      have hO : O = ps := by rw [HO.out.1, hTR.out, if_pos hw1.out]
      subst hO
      exact ⟨_, _, rfl, H6.out.1.rd, H6.out.2⟩
  · have hFn : fndP ps n = (k : Int) := h1
    have hBS : BS = ps.getD k .z := by rw [Hnx.out.2.1, hFn, if_pos (by omega), Int.toNat_natCast]
    have hTR : Hid (TR = if whP N then ers ps k else ps.set k N) := by
      show _ = _
      rw [Hnx.out.2.2.1, hFn, if_pos (by omega), Int.toNat_natCast]
    obtain ⟨vp, vcap, rfl, hvv⟩ := Hv.out.form
    obtain ⟨b, off, rfl⟩ := hvv.resolve_left (by omega)
    obtain ⟨⟨c0, c1, c2⟩, ru, rv⟩ := Hv.out.at k h0
    cases hp : ps.getD k .z with
    | mk pn pd ph =>
    rw [hp] at c0 ru rv hBS
    subst hBS
    dsimp only at c0 ru rv
    obtain ⟨pu, cu, eu, -⟩ := rd_block ru
    obtain ⟨pv, cv, ev, -⟩ := rd_block rv
    rw [eu] at c1 ru
    rw [ev] at c2 rv
    have hwt : Hid (∀ wq, Ext w wq → Calls Tryd.prog 52 #[.agg #[.int .i64 pn, .slice pu pd.length cu, .slice pv ph.length cv], .agg #[.int .i64 n, .int .i64 I, .int .i64 Q, .string d]] wq fun e w' => ∃ g1 g2, e = .returned (.agg #[.int .i64 n, .slice (some ⟨g1, 0, none⟩) Q Q, .slice (some ⟨g2, 0, none⟩) Q Q]) ∧
      (w'.ownsRow wq.heap.size 9 1 (.slice (some ⟨g1, 0, none⟩) Q Q) Q (vStrs N.d) ∧ w'.ownsRow wq.heap.size 4 1 (.slice (some ⟨g2, 0, none⟩) Q Q) Q (vBools N.h)) ∧ (g1 ≠ g2 ∧ g1 < w'.heap.size ∧ g2 < w'.heap.size) ∧ Ext wq w') := fun wq hq => by
      rw [Hnx.out.1]
      exact spec_l23With pn pd ph _ _ n I Q d wq (ru.ext hq) (rv.ext hq) Hnx.out.2.2.2.2.1 hQ9 hIQ
    have HN : Hid ((N.d.length = Q ∧ N.h.length = Q) ∧ N.n = n) := ⟨⟨Hnx.out.2.2.2.1.1, Hnx.out.2.2.2.1.2.1⟩, Hnx.out.2.2.2.2.2⟩
    have XA : Ext w4 (w4.alloc (.cells #[.int .i64 0, .slice none 0 0, .slice none 0 0] 62)) := (by repeat' (first | exact Ext.refl _ | assumption | refine Ext.alloc ?_ _ | refine Ext.ext ?_ _ | refine Ext.drew ?_ | refine Ext.drewN ?_ _))
    have a0 := X4.out.cell c0
    have a1 := X4.out.cell c1
    have a2 := X4.out.cell c2
    replace c0 := XA.cell a0
    replace c1 := XA.cell a1
    replace c2 := XA.cell a2
    obtain ⟨⟨z0, z1, z2⟩, ⟨y0, y1, y2⟩, -⟩ := box3 hZ
    have n0 : (0 : Int) ≤ (k : Int) := by omega
    have n1 : (k : Int) < (ps.length : Int) := by omega
    have tF : decide ((0 : Int) ≤ (k : Int)) = true := by simp
    rw [hFn]
    clear h1 hFn ru rv eu ev hp hkn Hnx a0 a1 a2 hZ
    have XB : Ext w4 (w4.alloc (.cells #[.int .i64 pn, .slice pu pd.length cu, .slice pv ph.length cv] 62)) := (by repeat' (first | exact Ext.refl _ | assumption | refine Ext.alloc ?_ _ | refine Ext.ext ?_ _ | refine Ext.drew ?_ | refine Ext.drewN ?_ _))
    have hA4 : w4.heap.size ≤ (w4.alloc (.cells #[.int .i64 pn, .slice pu pd.length cu, .slice pv ph.length cv] 62)).heap.size := XB.size
    have hlw : W.heap.size ≤ (w4.alloc (.cells #[.int .i64 pn, .slice pu pd.length cu, .slice pv ph.length cv] 62)).heap.size := Nat.le_trans hlw4 hA4
    go_wp2_with fail
    go_at_call 52
    refine (hwt.out _ (X4.out.trans XB)).mono ?_
    rintro e w5 ⟨g1, g2, rfl, ⟨o1, o2⟩, ⟨hg12, hgb1, hgb2⟩, hx5⟩
    have hga1 := (own_row o1 g1 rfl).1
    have hga2 := (own_row o2 g2 rfl).1
    have H5 := hid (And.intro (((H4.out.ext XB)).ext hx5) (((X4.out.trans XB)).trans hx5))
    have hs5 : ((w4.alloc (.cells #[.int .i64 pn, .slice pu pd.length cu, .slice pv ph.length cv] 62))).heap.size ≤ w5.heap.size := hx5.size
    have hN : (w5.alloc (.cells #[.int .i64 n, .slice (some ⟨g1, 0, none⟩) Q Q, .slice (some ⟨g2, 0, none⟩) Q Q] 62)).heap[w5.heap.size]? = some (.cells #[.int .i64 n, .slice (some ⟨g1, 0, none⟩) Q Q, .slice (some ⟨g2, 0, none⟩) Q Q] 62 (0, 0)) := heap_at _ rfl
    clear hx5 hwt
    go_wp2_with fail
    go_at_call 53
    refine (hwh.out _ _ _ (Rd.own (own_ext o1 (by repeat' (first | exact Ext.refl _ | assumption | refine Ext.alloc ?_ _ | refine Ext.ext ?_ _ | refine Ext.drew ?_ | refine Ext.drewN ?_ _)))) (Rd.own (own_ext o2 (by repeat' (first | exact Ext.refl _ | assumption | refine Ext.alloc ?_ _ | refine Ext.ext ?_ _ | refine Ext.drew ?_ | refine Ext.drewN ?_ _))))).mono ?_
    rintro e w6 ⟨rfl, hx6⟩
    have X56 : Ext w5 w6 := (show Ext w5 (w5.alloc _) from (by repeat' (first | exact Ext.refl _ | assumption | refine Ext.alloc ?_ _ | refine Ext.ext ?_ _ | refine Ext.drew ?_ | refine Ext.drewN ?_ _))).trans hx6
    have hs6 : w5.heap.size < w6.heap.size := Nat.lt_of_lt_of_le (by simp) hx6.size
    have H6 := hid (And.intro (H5.out.1.ext X56) (H5.out.2.trans X56))
    replace hN := blk3 hN hx6
    replace o1 := own_ext o1 X56
    replace o2 := own_ext o2 X56
    have HW6 := hid (And.intro o1 o2)
    clear H5 hx6 X56 o1 o2 hwh
    obtain ⟨⟨n0', n1', n2'⟩, -, -⟩ := box3 hN
    rcases H6.out.1.form with ⟨-, e⟩ | ⟨g, c, rfl, hle, hg0, hg1, hg2⟩
    · rw [e] at h0; simp at h0
    have hdl := H6.out.1.len
    cases Wh
    · have hw0 : whP N = false := HO.out.2.1.symm
      have HS : Hid (S' = ⟨#[]⟩ ∧ O = ps.set k N) := ⟨by rw [HO.out.2.2, hw0]; rfl, by rw [HO.out.1, hTR.out, hw0]; rfl⟩
      have hO6 : w6.ownsRow W.heap.size 9 1 (nxE N Q g1 g2).u (nxE N Q g1 g2).d.length (vStrs (nxE N Q g1 g2).d) ∧ w6.ownsRow W.heap.size 4 1 (nxE N Q g1 g2).v (nxE N Q g1 g2).h.length (vBools (nxE N Q g1 g2).h) := by
        refine ⟨?_, ?_⟩
        · show w6.ownsRow _ _ _ _ N.d.length _
          rw [HN.out.1.1]
          exact own_mono HW6.out.1 hlw
        · show w6.ownsRow _ _ _ _ N.h.length _
          rw [HN.out.1.2]
          exact own_mono HW6.out.2 hlw
      obtain ⟨⟨m0, m1, m2⟩, f0, f1, f2⟩ := H6.out.1.2.cells hdl.symm k (by omega)
      have hput := PFe.putNew (hi' := w6.heap.size) H6.out.1.2 hdl.symm (by omega) k (by omega) (nxE N Q g1 g2) hO6.1 hO6.2 (fun j e => by cases e; dsimp only; omega) (fun j e => by cases e; dsimp only; omega) (fun j e e2 => by cases e; cases e2; exact hg12 rfl)
      have hmp : (ds.set k (nxE N Q g1 g2)).map Pe.p = ps.set k N := by rw [List.map_set, H6.out.1.1]; rfl
      have hNn : (nxE N Q g1 g2).n = n := HN.out.2
      rw [hNn] at hput
      have K := hid (And.intro (PRd.mk9 hmp hput.rd) (((H6.out.2.setCell (p := ⟨g, k * 3, none⟩) (by dsimp only; omega) (.int .i64 n)).setCell (p := ⟨g, k * 3 + 1, none⟩) (by dsimp only; omega) (nxE N Q g1 g2).u).setCell (p := ⟨g, k * 3 + 2, none⟩) (by dsimp only; omega) (nxE N Q g1 g2).v))
      have hkl : k < ds.length := by omega
      clear hw0 HO hTR hput hmp hNn hO6 hdl
      go_wp2
      ((try simp only [Exit.inBlock, Exit.then]); refine bodyPost_ret (results_tmp4 rfl _ _ _) rfl ?_)
      obtain ⟨q1, q2⟩ := HS.out
      subst q1
      subst q2
      exact ⟨_, _, rfl, K.out⟩
    · have hO : Hid (O = ers ps k) := by
        show _ = _
        rw [HO.out.1, hTR.out, if_pos HO.out.2.1.symm]
      have HR := hid H6.out.1.rd
      have XX := hid H6.out.2
      have r1 := run_upto3 (some ⟨g, 0, none⟩) ps.length k c (by omega)
      have r2 := run_uptoAt3 (some ⟨g, 0, none⟩) ps.length k c (by omega)
      have r3 : ∀ w, (Instr.slice 25 (.slice (some ⟨g, 0, none⟩) ps.length c) (some (.int .i64 ((k : Int) + 1))) none none).run Tryd.prog w = .ok (slc3 (some ⟨g, 0, none⟩) (k + 1) ps.length c) w := run_from3 (some ⟨g, 0, none⟩) ps.length (k + 1) c (by omega)
      have r4 : ∀ w, (Instr.sliceAt 25 (.slice (some ⟨g, 0, none⟩) ps.length c) (some (.int .i64 ((k : Int) + 1))) none none).run Tryd.prog w = .ok (slc3 (some ⟨g, 0, none⟩) (k + 1) ps.length c) w := run_fromAt3 (some ⟨g, 0, none⟩) ps.length (k + 1) c (by omega)
      have hlt1 : Hid ((ds.take k).length ≤ 1048576) := by (show _ ≤ _; rw [List.length_take]; omega)
      have hld1 : Hid ((ds.drop (k + 1)).length ≤ 1048576) := by (show _ ≤ _; rw [List.length_drop, hdl]; omega)
      obtain ⟨i0, hi, hz0, hz1, hz2⟩ := info_parts infoPnd
      have w1 : IntKind.i64.wrap ((k : Int) + 1) = (k : Int) + 1 := IntWalk.i64_in _ (by omega)
      have p0 : (0 : Int) ≤ (k : Int) + 1 := by omega
      have p1 : (k : Int) + 1 ≤ (ps.length : Int) := by omega
      have p2 : k + 1 ≤ ps.length := h0
      have p3 : k + 1 ≤ c := by omega
      have p4 : k ≤ c := by omega
      clear HO hTR hdl H6 HW6 hN n0' n1' n2'
      have hR1 := hid ((HR.out.take k (by omega)).2.1)
      have hR2 := hid ((HR.out.drop hle (k + 1) (by omega)).2.1)
      have hO1 := hid (pes_one (HR.out.take k (by omega)).2)
      have hO2 := hid (pes_one (HR.out.drop hle (k + 1) (by omega)).2)
      go_wp2
      go_region_held3 (fun _ => True) (trivial)
        (first
        | (refine step_append_rdAt _ (by rfl) _ _ _ (by rfl) w6.heap.size 62 i0 _ 3 56 Tryd.underlying25 hi hz0 hz1 hz2 rfl (by omega) _ 0 [] (by rfl) (own_lit_at (by first | exact heap_at _ (by simp) | exact heap_at_d _ (by simp)) (by first | exact Nat.le_refl _ | exact Nat.le_succ _ | omega | (simp; done) | (simp; omega)) rfl) _ (ds.take k).length ((ds.take k).flatMap Pe.cs) (by rfl) (hR1.out.ext (show Ext w6 _ from (by repeat' (first | exact Ext.refl _ | assumption | refine Ext.alloc ?_ _ | refine Ext.ext ?_ _ | refine Ext.drew ?_ | refine Ext.drewN ?_ _)))) hO1.out (by have := hlt1.out; have := hld1.out; unfold maxLen; omega) (by have := hlt1.out; have := hld1.out; omega) (by first | exact Nat.le_refl _ | exact Nat.le_succ _ | omega | (simp; done) | (simp; omega)) ?_; intro v1 w4 ho1 hg1 hat1; (try simp only [Nat.zero_add, List.nil_append] at ho1); obtain ⟨v1p, v1c, rfl⟩ := own_shape ho1; have Y1 : Ext w6 w4 := Ext.grown (show Ext w6 _ from (by repeat' (first | exact Ext.refl _ | assumption | refine Ext.alloc ?_ _ | refine Ext.ext ?_ _ | refine Ext.drew ?_ | refine Ext.drewN ?_ _))) hg1 (fun j e => by cases e; exact (by first | exact Nat.le_refl _ | exact Nat.le_succ _ | omega | (simp; done) | (simp; omega))))
        | (refine step_append_rdAt _ (by rfl) _ _ _ (by rfl) w6.heap.size 62 i0 _ 3 56 Tryd.underlying25 hi hz0 hz1 hz2 rfl (by omega) _ (ds.take k).length ((ds.take k).flatMap Pe.cs) (by rfl) ho1 _ (ds.drop (k + 1)).length ((ds.drop (k + 1)).flatMap Pe.cs) (by rfl) (hR2.out.ext (show Ext w6 _ from (by repeat' (first | exact Ext.refl _ | assumption | refine Ext.alloc ?_ _ | refine Ext.ext ?_ _ | refine Ext.drew ?_ | refine Ext.drewN ?_ _)))) hO2.out (by have := hlt1.out; have := hld1.out; unfold maxLen; omega) (by have := hlt1.out; have := hld1.out; omega) Y1.size ?_; intro v2 w5 ho2 hg2 hat2; have Y2 : Ext w6 w5 := Ext.grown Y1 hg2 (fun j e => (own_row ho1 j e).1)))
      all_goals
        have hpr := (PRd.ersOwn (ps := ps) (k := k) HR.out.1 (fun e he => ⟨(HR.out.2.2 e he).1.ext Y2, (HR.out.2.2 e he).2.ext Y2⟩) ho2).1
        have K := hid (And.intro hpr (XX.out.trans Y2))
        clear hpr ho1 ho2 hg1 hg2 hat1 hat2 Y1 Y2
        go_wp2
        ((try simp only [Exit.inBlock, Exit.then]); refine bodyPost_ret (results_tmp4 rfl _ _ _) rfl ?_)
        have hO9 := hO.out
        subst hO9
        exact ⟨_, _, rfl, K.out⟩
end Go.Proofs.YtnngklclehffhaaDoor
