/- Copies of lists of pendings: the reference's side. -/
import Derived.Test.YtnngklclehffhaaDoorKWPc
namespace Go.Proofs.YtnngklclehffhaaDoor
open Go.RowKit
set_option maxHeartbeats 1000000
set_option maxRecDepth 100000
section
variable {P : Program} (w : World)
/-- append onto a row of the call's own, from whatever reads as a slice. -/
theorem run_append_rdAt (base : Nat) (t ty e : TypeId) (i : TypeInfo) (z : Value) (size bytes : Nat) (ht : P.underlying t = some (.slice e)) (hi : P.info? e = some i) (hz : i.zero = some z)
    (hsize : i.size = size) (hby : i.bytes = bytes) (hzs : z.cells.size = size) (hsz : 0 < size)
    (v : Value) (n : Nat) (xs : List Value) (hown : w.ownsRow base e size v n xs) (x : Value) (m : Nat) (news : List Value) (hr : Rd w size x m news) (h1 : ∀ u ∈ news, u.oneCell' = true)
    (h63 : n + m ≤ maxLen) (hbytes : (n + m) * bytes ≤ 140737488355328) (hbase : base ≤ w.heap.size) :
    ∃ v' w', (Builtin.append_ #[t, t] ty #[v, x]).run P w = .ok v' w' ∧ w'.ownsRow base e size v' (n + m) (xs ++ news) ∧ w.grownBy w' v.ownBlock ∧ (v'.ownBlock = v.ownBlock ∨ v'.ownBlock = some w.heap.size) := by
  obtain ⟨hl, p, c, rfl, h4⟩ := hr
  cases p with
  | none =>
    have hm : m = 0 := by
      rcases h4 with h | ⟨b, off, h, _⟩
      · exact h
      · cases h
    subst hm
    have hn : news = [] := List.eq_nil_of_length_eq_zero (by simpa using hl)
    subst hn
    refine ⟨v, w, ?_, by simpa using hown, World.grownBy.refl w _, .inl rfl⟩
    rcases hown.2 with ⟨rfl, rfl⟩ | ⟨g, cap, cur, rfl, _, _, hnc, _⟩
    · simp [Builtin.append_, run_underlying ht, sizeOf, typeInfo, hi, Builtin.lenOf, Builtin.firstCells]
    · simp [Builtin.append_, run_underlying ht, sizeOf, typeInfo, hi, Builtin.lenOf, Builtin.firstCells, hnc, storeCells]
  | some ad =>
    have hcells : ∀ j u, news[j]? = some u → w.cell? (ad.add j) = some u := by
      intro j u hu
      rcases h4 with h0 | ⟨b, off, h, hc⟩
      · subst h0
        have hn : news = [] := List.eq_nil_of_length_eq_zero (by simpa using hl)
        subst hn
        simp at hu
      · cases h
        obtain ⟨hj, rfl⟩ := List.getElem?_eq_some_iff.1 hu
        rw [Addr.add_lit]
        exact hc j hj
    obtain ⟨v', w', hrun, h2, h3, _, h4'⟩ := run_append_own_at (P := P) w base t ty e i z size bytes ht hi hz hsize hby hzs hsz v n xs hown ad m c news hl hcells h1 h63 hbytes hbase
    exact ⟨v', w', hrun, h2, h3, h4'⟩
theorem wp_append_rdAt {o : Oper} {a : Act} {K : Act → World → Prop} {Q : Exit → Act → World → Prop} (s x : Operand) (t : TypeId)
    (ho : o.op = .call { callee := .builtin .append, args := #[s, x], argTypes := #[t, t] })
    (base : Nat) (e : TypeId) (i : TypeInfo) (z : Value) (size bytes : Nat) (ht : P.underlying t = some (.slice e)) (hi : P.info? e = some i) (hz : i.zero = some z)
    (hsize : i.size = size) (hby : i.bytes = bytes) (hzs : z.cells.size = size) (hsz : 0 < size)
    (v : Value) (n : Nat) (xs : List Value) (hs : a.eval s = v) (hown : w.ownsRow base e size v n xs)
    (xv : Value) (m : Nat) (news : List Value) (hx : a.eval x = xv) (hr : Rd w size xv m news) (h1 : ∀ u ∈ news, u.oneCell' = true)
    (h63 : n + m ≤ maxLen) (hbytes : (n + m) * bytes ≤ 140737488355328) (hbase : base ≤ w.heap.size)
    (h : ∀ v' w', w'.ownsRow base e size v' (n + m) (xs ++ news) → w.grownBy w' v.ownBlock → (v'.ownBlock = v.ownBlock ∨ v'.ownBlock = some w.heap.size) → K (a.put o.dst v') w') : o.wp P a w K Q := by
  obtain ⟨v', w', hrun, h2, h3, h4⟩ := run_append_rdAt (P := P) w base t o.type e i z size bytes ht hi hz hsize hby hzs hsz v n xs hown xv m news hr h1 h63 hbytes hbase
  unfold Oper.wp execOp
  simp only [ho, resolve, invoke, builtin, Sem.run_bind, Sem.run_pure, Result.andThen_ok, List.map_toArray, List.map_cons, List.map_nil, hs, hx, hrun]
  exact h v' w' h2 h3 h4
theorem step_append_rdAt {ops : Array Oper} {o : Oper} {a : Act} {K : Act → World → Prop} {Q : Exit → Act → World → Prop} {E : Prop} (hgd : o.guard = none) (s x : Operand) (t : TypeId)
    (ho : o.op = .call { callee := .builtin .append, args := #[s, x], argTypes := #[t, t] })
    (base : Nat) (e : TypeId) (i : TypeInfo) (z : Value) (size bytes : Nat) (ht : P.underlying t = some (.slice e)) (hi : P.info? e = some i) (hz : i.zero = some z)
    (hsize : i.size = size) (hby : i.bytes = bytes) (hzs : z.cells.size = size) (hsz : 0 < size)
    (v : Value) (n : Nat) (xs : List Value) (hs : a.eval s = v) (hown : w.ownsRow base e size v n xs)
    (xv : Value) (m : Nat) (news : List Value) (hx : a.eval x = xv) (hr : Rd w size xv m news) (h1 : ∀ u ∈ news, u.oneCell' = true)
    (h63 : n + m ≤ maxLen) (hbytes : (n + m) * bytes ≤ 140737488355328) (hbase : base ≤ w.heap.size)
    (h : ∀ v' w', w'.ownsRow base e size v' (n + m) (xs ++ news) → w.grownBy w' v.ownBlock → (v'.ownBlock = v.ownBlock ∨ v'.ownBlock = some w.heap.size) → K (a.put o.dst v') w') :
    if Region.wanted o (yielded ops a.tmps) = true then Oper.wp P o a w K Q else E := by
  have hw : Region.wanted o (yielded ops a.tmps) = true := by simp [Region.wanted, hgd]
  rw [if_pos hw]
  exact wp_append_rdAt w s x t ho base e i z size bytes ht hi hz hsize hby hzs hsz v n xs hs hown xv m news hx hr h1 h63 hbytes hbase h
end
theorem heap_at_d {w : World} {k : Nat} (o : Obj) (h : k = w.heap.size) : (w.alloc o).drew.heap[k]? = some o := heap_at o h
theorem heap_old_d {w : World} {k : Nat} {o : Obj} (h : w.heap[k]? = some o) (u : Obj) : (w.alloc u).drew.heap[k]? = some o := heap_old h u
theorem own_lit_at {w : World} {base e k c : Nat} {g : Nat} (h : w.heap[g]? = some (.cells #[] e (0, 0))) (hb : base ≤ g) (hc : c = 0) : w.ownsRow base e k (.slice (some ⟨g, 0, none⟩) 0 c) 0 [] := by
  subst hc
  refine ⟨by simp, .inr ⟨g, 0, #[], rfl, hb, h, Nat.le_refl _, Nat.zero_le _, by simp, by simp⟩⟩
theorem own_kept {w w' : World} {base e k n : Nat} {v : Value} {cs : List Value} {row : Option Nat} (h : w.ownsRow base e k v n cs) (hg : w.grownBy w' row) (hne : ∀ j, v.ownBlock = some j → row ≠ some j) : w'.ownsRow base e k v n cs :=
  h.kept hg (by
    cases hv : v.ownBlock with
    | none => exact .inl rfl
    | some j => exact .inr (fun e => hne j hv (by first | exact e | exact e.symm)))
theorem spec_l23Own (ps : List Pnd) (es : List Pe) (v : Value) (w : World) (h : PRd w v ps es) (h2 : ps.length ≤ 1048576) (hm : ∀ i, i < ps.length → (ps.getD i .z).d.length ≤ 1048576 ∧ (ps.getD i .z).h.length ≤ 1048576) :
    Calls Tryd.prog 46 #[v] w fun e w' => ∃ r ds, e = .returned r ∧ POw w' w.heap.size w'.heap.size r ps ds ∧ Ext w w' := by
  have Hv := hid h
  have Hm := hid hm
  obtain ⟨p, cap, rfl, h4⟩ := h.form
  have H4 := hid h4
  have H0 : Hid (POw (w.alloc (.cells #[] 62)) w.heap.size (w.alloc (.cells #[] 62)).heap.size (.slice (some ⟨w.heap.size, 0, none⟩) 0 0) (ps.take 0) [] ∧ Ext w (w.alloc (.cells #[] 62))) :=
    ⟨⟨rfl, fam_cons.2 ⟨⟨own_lit_at (heap_at _ rfl) (Nat.le_refl _) rfl, fun j e => by cases e; simp⟩, Fam.nil _ _ _, fun y hy => by cases hy⟩⟩, (by repeat' (first | exact Ext.refl _ | assumption | refine Ext.alloc ?_ _ | refine Ext.ext ?_ _ | refine Ext.drew ?_ | refine Ext.drewN ?_ _))⟩
  obtain ⟨i0, hi, hz0, hz1, hz2⟩ := info_parts infoPnd
  clear h4 h hm
  go_enter Tryd.func46, Tryd.ntmps46
  go_wp2
  go_loopw [4, 3] (fun v4 v3 wr => ∃ (k : Nat) (ds : List Pe), k ≤ ps.length ∧ v4 = .int .i64 k ∧ Hid (POw wr w.heap.size wr.heap.size v3 (ps.take k) ds ∧ Ext w wr)) (fun v4 _ _ => ps.length - (intOf v4).toNat)
  case atStart => exact ⟨0, [], Nat.zero_le _, rfl, H0⟩
  case round =>
    obtain ⟨k, ds, hk, rfl, HP⟩ := hrel
    clear H0
    have Hdl : Hid (ds.length = k) := by (show _ = _; rw [HP.out.1.len, List.length_take]; omega)
    obtain ⟨up, uc, rfl⟩ := own_shape HP.out.1.2.own
    by_cases hlt : k < ps.length
    · obtain ⟨b, off, rfl⟩ := H4.out.resolve_left (by omega)
      obtain ⟨⟨c0, c1, c2⟩, hcr⟩ := Hv.out.at k hlt
      have hml := Hm.out k hlt
      have hsn := take_snoc ps .z k hlt
      replace c0 := HP.out.2.cell c0
      replace c1 := HP.out.2.cell c1
      replace c2 := HP.out.2.cell c2
      obtain ⟨xp, xc, ex, -⟩ := rd_block hcr.1
      obtain ⟨yp, yc, ey, -⟩ := rd_block hcr.2
      generalize ps.getD k .z = G at *
      generalize (es.getD k .z).u = x at *
      generalize (es.getD k .z).v = x' at *
      subst ex ey
      obtain ⟨n, d, h⟩ := G
      dsimp only at c0 c1 c2 hcr hml
      have Hsn := hid hsn
      have HB : (wr.alloc (.cells #[.int .i64 n, .slice xp d.length xc, .slice yp h.length yc] 62)).heap[wr.heap.size]? = some (.cells #[.int .i64 n, .slice xp d.length xc, .slice yp h.length yc] 62 (0, 0)) := heap_at _ rfl
      have X0 : Ext wr (wr.alloc (.cells #[.int .i64 n, .slice xp d.length xc, .slice yp h.length yc] 62)) := (by repeat' (first | exact Ext.refl _ | assumption | refine Ext.alloc ?_ _ | refine Ext.ext ?_ _ | refine Ext.drew ?_ | refine Ext.drewN ?_ _))
      have hQ : wr.heap.size < (wr.alloc (.cells #[.int .i64 n, .slice xp d.length xc, .slice yp h.length yc] 62)).heap.size := by simp
      have Hcr := hid (And.intro (hcr.1.ext (HP.out.2.trans X0)) (hcr.2.ext (HP.out.2.trans X0)))
      clear hcr hsn
      go_wp2
      generalize (wr.alloc (.cells #[.int .i64 n, .slice xp d.length xc, .slice yp h.length yc] 62)) = W at *
      obtain ⟨⟨d0, d1, d2⟩, -, -⟩ := box3 HB
      have hup : ∀ j, (Value.slice up ds.length uc).ownBlock = some j → j < wr.heap.size := fun j e => (HP.out.1.2.lt e).2.1
      have hlo : w.heap.size ≤ W.heap.size := (HP.out.2.trans X0).size
      clear c0 c1 c2
      obtain ⟨is0, his, hzs0, hzs1, hzs2⟩ := info_parts infoStr
      obtain ⟨ib0, hib, hzb0, hzb1, hzb2⟩ := info_parts infoBool
      go_region_held3 (fun w' => w'.cell? ⟨wr.heap.size, 0, none⟩ = some (.int .i64 n) ∧ w'.cell? ⟨wr.heap.size, 1, none⟩ = some (.slice xp d.length xc) ∧ w'.cell? ⟨wr.heap.size, 2, none⟩ = some (.slice yp h.length yc))
        (first | exact ⟨d0, d1, d2⟩ | exact ⟨l0, l1, l2⟩ | exact ⟨(show Ext W _ from (by repeat' (first | exact Ext.refl _ | assumption | refine Ext.alloc ?_ _ | refine Ext.ext ?_ _ | refine Ext.drew ?_ | refine Ext.drewN ?_ _))).cell d0, (show Ext W _ from (by repeat' (first | exact Ext.refl _ | assumption | refine Ext.alloc ?_ _ | refine Ext.ext ?_ _ | refine Ext.drew ?_ | refine Ext.drewN ?_ _))).cell d1, (show Ext W _ from (by repeat' (first | exact Ext.refl _ | assumption | refine Ext.alloc ?_ _ | refine Ext.ext ?_ _ | refine Ext.drew ?_ | refine Ext.drewN ?_ _))).cell d2⟩)
        (first
        | (refine step_append_rdAt _ (by rfl) _ _ _ (by rfl) W.heap.size 9 is0 _ 1 16 Tryd.underlying58 his hzs0 hzs1 hzs2 rfl (by omega) _ 0 [] (by rfl) (own_lit_at (by first | exact q2 | exact heap_at _ (by simp) | exact heap_at_d _ (by simp) | exact heap_old (heap_at _ (by simp)) _ | exact heap_old_d (heap_at _ (by simp)) _) (by first | exact Nat.le_refl _ | exact Nat.le_succ _ | omega | (simp; done) | (simp; omega)) rfl) _ d.length (vStrs d) (by rfl) (Hcr.out.1.ext (show Ext W _ from (by repeat' (first | exact Ext.refl _ | assumption | refine Ext.alloc ?_ _ | refine Ext.ext ?_ _ | refine Ext.drew ?_ | refine Ext.drewN ?_ _)))) (one_strs d) (by unfold maxLen; omega) (by omega) (by first | exact Nat.le_refl _ | exact Nat.le_succ _ | omega | (simp; done) | (simp; omega)) ?_; intro v1 w1 ho1 hg1 hat1; (try simp only [Nat.zero_add, List.nil_append] at ho1); obtain ⟨v1p, v1c, rfl⟩ := own_shape ho1; have Y1 : Ext W w1 := Ext.grown (show Ext W _ from (by repeat' (first | exact Ext.refl _ | assumption | refine Ext.alloc ?_ _ | refine Ext.ext ?_ _ | refine Ext.drew ?_ | refine Ext.drewN ?_ _))) hg1 (fun j e => by cases e; exact (by first | exact Nat.le_refl _ | exact Nat.le_succ _ | omega | (simp; done) | (simp; omega))); (first | (have q2 : w1.heap[W.heap.size + 1]? = some (.cells #[] 4 (0, 0)) := (hg1.block _ (by first | (simp; done) | (simp; omega)) (fun e => by have := Option.some.inj e; dsimp only at this; omega)).trans (by first | exact heap_at _ (by simp) | exact heap_at_d _ (by simp) | exact heap_old (heap_at _ (by simp)) _ | exact heap_old_d (heap_at _ (by simp)) _)) | skip); (first | (have q2 : w1.heap[W.heap.size]? = some (.cells #[] 4 (0, 0)) := (hg1.block _ (by first | (simp; done) | (simp; omega)) (fun e => by have := Option.some.inj e; dsimp only at this; omega)).trans (by first | exact heap_at _ (by simp) | exact heap_at_d _ (by simp) | exact heap_old (heap_at _ (by simp)) _ | exact heap_old_d (heap_at _ (by simp)) _)) | skip))
        | (refine step_append_rdAt _ (by rfl) _ _ _ (by rfl) W.heap.size 4 ib0 _ 1 1 Tryd.underlying59 hib hzb0 hzb1 hzb2 rfl (by omega) _ 0 [] (by rfl) (own_lit_at (by first | exact q2 | exact heap_at _ (by simp) | exact heap_at_d _ (by simp) | exact heap_old (heap_at _ (by simp)) _ | exact heap_old_d (heap_at _ (by simp)) _) (by have := Y1.size; first | exact Nat.le_refl _ | exact Nat.le_succ _ | omega) rfl) _ h.length (vBools h) (by rfl) (Hcr.out.2.ext (show Ext W _ from (by repeat' (first | exact Ext.refl _ | assumption | refine Ext.alloc ?_ _ | refine Ext.ext ?_ _ | refine Ext.drew ?_ | refine Ext.drewN ?_ _)))) (one_bools h) (by unfold maxLen; omega) (by omega) (by have := Y1.size; first | exact this | (simp; omega)) ?_; intro v2 w2 ho2 hg2 hat2; (try simp only [Nat.zero_add, List.nil_append] at ho2); obtain ⟨v2p, v2c, rfl⟩ := own_shape ho2; have Y2 : Ext W w2 := Ext.grown (show Ext W _ from (by repeat' (first | exact Ext.refl _ | assumption | refine Ext.alloc ?_ _ | refine Ext.ext ?_ _ | refine Ext.drew ?_ | refine Ext.drewN ?_ _))) hg2 (fun j e => by cases e; have := Y1.size; first | exact Nat.le_refl _ | exact Nat.le_succ _ | omega); have X3 : Ext w2 (w2.alloc (.cells #[.int .i64 n, .slice v1p d.length v1c, .slice v2p h.length v2c] 62)) := (by repeat' (first | exact Ext.refl _ | assumption | refine Ext.alloc ?_ _ | refine Ext.ext ?_ _ | refine Ext.drew ?_ | refine Ext.drewN ?_ _)); have HP3 := hid ((HP.out.1.2.ext X0).ext (Y2.trans X3)); have k0 := (Y2.trans X3).cell d0; have k1 := (Y2.trans X3).cell d1; have k2 := (Y2.trans X3).cell d2)
        | (refine step_append_lies _ (by rfl) _ _ _ (by rfl) w.heap.size 62 i0 _ 3 56 Tryd.underlying25 hi hz0 hz1 hz2 rfl (by omega) _ ds.length (ds.flatMap Pe.cs) (by rfl) HP3.out.own ⟨w2.heap.size, 0, none⟩ 1 1 [.int .i64 n, .slice v1p d.length v1c, .slice v2p h.length v2c] (by rfl) (by rfl) (World.news_of_block (cs := #[.int .i64 n, .slice v1p d.length v1c, .slice v2p h.length v2c]) (t := 62) (fr := (0, 0)) (heap_alloc_new w2 _)) (by simp [Value.oneCell']) (by omega) (by have := Hdl.out; unfold maxLen; omega) (by have := Hdl.out; omega) (by have := Y2.size; simp; omega) (w2.heap.size + 1) (by simp) ?_; intro gg cap5 w5 hown' hgrow hat hlt5; have l0 := hgrow.cell k0 (fun e => by have := hup _ e.symm; dsimp only at this; omega); have l1 := hgrow.cell k1 (fun e => by have := hup _ e.symm; dsimp only at this; omega); have l2 := hgrow.cell k2 (fun e => by have := hup _ e.symm; dsimp only at this; omega)))
      all_goals
        have hY1 := Y1.size
        have hY2 := Y2.size
        have hX3 : (w2.alloc (.cells #[.int .i64 n, .slice v1p d.length v1c, .slice v2p h.length v2c] 62)).heap.size = w2.heap.size + 1 := by simp
        have hgs := hgrow.size
        have hg1s := hg1.size
        have hg2s := hg2.size
        have o1' := own_kept (own_ext ho1 (show Ext w1 _ from (by repeat' (first | exact Ext.refl _ | assumption | refine Ext.alloc ?_ _ | refine Ext.ext ?_ _ | refine Ext.drew ?_ | refine Ext.drewN ?_ _)))) hg2 (fun j e e2 => by
          have h2 := Option.some.inj e2
          have h3 := own_row ho1 j e
          rw [e] at hat1
          (try dsimp only at h2)
          rcases hat1 with h1 | h1 <;> (have h1 := Option.some.inj h1; (try dsimp only at h1); (try simp at h1); (try simp at hg1s); omega))
        have hap : ∀ j, (Value.slice v1p d.length v1c).ownBlock = some j → (Value.slice v2p h.length v2c).ownBlock ≠ some j := fun j e e2 => by
          have h3 := own_row ho1 j e
          have h4 := own_row ho2 j e2
          rw [e] at hat1
          rw [e2] at hat2
          rcases hat1 with h1 | h1 <;> rcases hat2 with h2 | h2 <;> (have h1 := Option.some.inj h1; have h2 := Option.some.inj h2; (try dsimp only at h1); (try simp at h1); (try dsimp only at h2); (try simp at h2); omega)
        have hr1 : ∀ j, (Value.slice v1p d.length v1c).ownBlock = some j → W.heap.size ≤ j ∧ j < w2.heap.size := fun j e => own_row o1' j e
        have hr2 : ∀ j, (Value.slice v2p h.length v2c).ownBlock = some j → W.heap.size ≤ j ∧ j < w2.heap.size := fun j e => own_row ho2 j e
        have o1 := own_mono (base' := w.heap.size) (own_ext o1' X3) hlo
        have o2 := own_mono (base' := w.heap.size) (own_ext ho2 X3) hlo
        have h5 := PFe.snoc (x := ⟨n, d, h, .slice v1p d.length v1c, .slice v2p h.length v2c⟩) (hi' := w5.heap.size) HP3.out (by omega) hgrow hown' (by
          rcases hat with e | e
          · exact .inl e.symm
          · exact .inr (fun j e2 => by cases e2; dsimp only; omega)) (by omega) (fun j e => by cases e; exact hlt5) o1 o2 (fun j e => by have := hr1 j e; omega) (fun j e => by have := hr2 j e; omega) hap
        have hx5 : Ext w w5 := Ext.grown (HP.out.2.trans (X0.trans (Y2.trans X3))) hgrow (fun j e => (own_row HP3.out.own j e).1)
        have hmap : (ds ++ [(⟨n, d, h, .slice v1p d.length v1c, .slice v2p h.length v2c⟩ : Pe)]).map Pe.p = ps.take (k + 1) := by rw [List.map_append, HP.out.1.1, Hsn.out]; rfl
        have HPO : POw w5 w.heap.size w5.heap.size (.slice (some ⟨gg, 0, none⟩) (ds.length + 1) cap5) (ps.take (k + 1)) (ds ++ [⟨n, d, h, .slice v1p d.length v1c, .slice v2p h.length v2c⟩]) := ⟨hmap, h5⟩
        have K := hid (And.intro HPO hx5)
        clear h5 hx5 hmap o1 o2 hown' hgrow hat HP3 HPO hat1 hat2 hg1 hg2 ho1 ho2 o1'
        go_wp2
        go_roundw
        case rel => exact ⟨k + 1, _, by omega, by go_num, K⟩
        case measure => simp [intOf]; omega
    · obtain rfl : k = ps.length := by omega
      have K := hid HP.out
      rw [List.take_length] at K
      go_wp2
      go_ret
      exact ⟨_, _, rfl, K.out⟩
end Go.Proofs.YtnngklclehffhaaDoor
