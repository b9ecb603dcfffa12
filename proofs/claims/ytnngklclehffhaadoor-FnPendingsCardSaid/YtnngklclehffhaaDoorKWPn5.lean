/- Lists of pendings in the laws' own words: marks. -/
import Derived.Test.YtnngklclehffhaaDoorKWPn4
namespace Go.Proofs.YtnngklclehffhaaDoor
open Go.RowKit
set_option maxHeartbeats 400000
set_option maxRecDepth 100000
theorem flatMap_at {α β : Type} (f : α → List β) (l : List α) (i : Nat) (z : α) (h : i < l.length) : l.flatMap f = (l.take i).flatMap f ++ (f (l.getD i z) ++ (l.drop (i + 1)).flatMap f) := by
  conv => lhs; rw [split_at l i z h]
  rw [List.flatMap_append, List.flatMap_cons]
theorem flatMap_set {α β : Type} (f : α → List β) (l : List α) (i : Nat) (x : α) (h : i < l.length) : (l.set i x).flatMap f = (l.take i).flatMap f ++ (f x ++ (l.drop (i + 1)).flatMap f) := by
  rw [set_at l i x h, List.flatMap_append, List.flatMap_cons]
theorem Pe.main_set (v : Value) (es : List Pe) (i : Nat) (x : Pe) (hi : i < es.length) (hc : x.cs = (es.getD i .z).cs) : Pe.main v (es.set i x) = Pe.main v es := by
  unfold Pe.main
  rw [List.length_set, flatMap_set _ _ _ _ hi, flatMap_at Pe.cs es i .z hi, hc]
/-- A pending's texts have turned in place. -/
theorem PFe.turnD {w w' : World} {lo hi : Nat} {v : Value} {es : List Pe} (h : PFe w lo hi v es) (i : Nat) (hi1 : i < es.length) (d' : List ByteArray) (hg : w.grownBy w' (es.getD i .z).u.ownBlock)
    (ho : w'.ownsRow lo 9 1 (es.getD i .z).u d'.length (vStrs d')) : PFe w' lo hi v (es.set i ⟨(es.getD i .z).n, d', (es.getD i .z).h, (es.getD i .z).u, (es.getD i .z).v⟩) := by
  have hb := (h.inner (getD_mem' (z := .z) hi1)).2.1
  unfold PFe at h ⊢
  rw [Pe.main_set _ _ _ _ hi1 (by rfl), flatMap_set _ _ _ _ hi1]
  rw [flatMap_at Pe.rows es i .z hi1] at h
  exact Fam.turn (A := Pe.main v es :: (es.take i).flatMap Pe.rows) (x := ⟨9, 1, (es.getD i .z).u, (es.getD i .z).d.length, vStrs (es.getD i .z).d⟩) (y := ⟨9, 1, (es.getD i .z).u, d'.length, vStrs d'⟩) h (Nat.le_refl _) hg ho (fun j e => ⟨.inl e, (hb j e).1⟩)
/-- A pending's truth values have turned in place. -/
theorem PFe.turnH {w w' : World} {lo hi : Nat} {v : Value} {es : List Pe} (h : PFe w lo hi v es) (i : Nat) (hi1 : i < es.length) (h' : List Bool) (hg : w.grownBy w' (es.getD i .z).v.ownBlock)
    (ho : w'.ownsRow lo 4 1 (es.getD i .z).v h'.length (vBools h')) : PFe w' lo hi v (es.set i ⟨(es.getD i .z).n, (es.getD i .z).d, h', (es.getD i .z).u, (es.getD i .z).v⟩) := by
  have hb := (h.inner (getD_mem' (z := .z) hi1)).2.2
  unfold PFe at h ⊢
  rw [Pe.main_set _ _ _ _ hi1 (by rfl), flatMap_set _ _ _ _ hi1]
  rw [flatMap_at Pe.rows es i .z hi1] at h
  have e : ∀ (r1 r2 : Row) (A B : List Row), A ++ ([r1, r2] ++ B) = (A ++ [r1]) ++ r2 :: B := fun r1 r2 A B => by simp
  have h2 := e ⟨9, 1, (es.getD i .z).u, (es.getD i .z).d.length, vStrs (es.getD i .z).d⟩ ⟨4, 1, (es.getD i .z).v, (es.getD i .z).h.length, vBools (es.getD i .z).h⟩ (Pe.main v es :: (es.take i).flatMap Pe.rows) ((es.drop (i + 1)).flatMap Pe.rows)
  have h3 := e ⟨9, 1, (es.getD i .z).u, (es.getD i .z).d.length, vStrs (es.getD i .z).d⟩ ⟨4, 1, (es.getD i .z).v, h'.length, vBools h'⟩ (Pe.main v es :: (es.take i).flatMap Pe.rows) ((es.drop (i + 1)).flatMap Pe.rows)
  have h4 : Fam w lo hi ((Pe.main v es :: (es.take i).flatMap Pe.rows) ++ ([⟨9, 1, (es.getD i .z).u, (es.getD i .z).d.length, vStrs (es.getD i .z).d⟩, ⟨4, 1, (es.getD i .z).v, (es.getD i .z).h.length, vBools (es.getD i .z).h⟩] ++ (es.drop (i + 1)).flatMap Pe.rows)) := h
  rw [h2] at h4
  have h5 := Fam.turn (y := ⟨4, 1, (es.getD i .z).v, h'.length, vBools h'⟩) h4 (Nat.le_refl _) hg ho (fun j e => ⟨.inl e, (hb j e).1⟩)
  rw [← h3] at h5
  exact h5
/-- A new number. -/
theorem PFe.setN {w : World} {lo hi g n cap : Nat} {es : List Pe} (h : PFe w lo hi (.slice (some ⟨g, 0, none⟩) n cap) es) (hn : n = es.length) (i : Nat) (hi1 : i < es.length) (x : Int) :
    PFe (w.setCell ⟨g, i * 3, none⟩ (.int .i64 x)) lo hi (.slice (some ⟨g, 0, none⟩) n cap) (es.set i ⟨x, (es.getD i .z).d, (es.getD i .z).h, (es.getD i .z).u, (es.getD i .z).v⟩) := by
  subst hn
  have hst := World.ownsRow.stored h.own (i * 3) (.int .i64 x)
  have hlt := h.lt (j := g) rfl
  have hget := pes_get es i hi1
  have he : (es.set i ⟨x, (es.getD i .z).d, (es.getD i .z).h, (es.getD i .z).u, (es.getD i .z).v⟩).flatMap Pe.cs = (es.flatMap Pe.cs).set (i * 3) (.int .i64 x) := by
    rw [flat_set3 _ _ _ hi1]
    apply List.ext_getElem?
    intro k
    have hl := pes_len es
    by_cases e1 : k = i * 3 + 2
    · subst e1
      rw [List.getElem?_set_self (by simp only [List.length_set, pes_len]; omega), List.getElem?_set_ne (by omega)]
      exact hget.2.2.symm
    · rw [List.getElem?_set_ne (by omega)]
      by_cases e2 : k = i * 3 + 1
      · subst e2
        rw [List.getElem?_set_self (by simp only [List.length_set, pes_len]; omega), List.getElem?_set_ne (by omega)]
        exact hget.2.1.symm
      · rw [List.getElem?_set_ne (by omega)]
  unfold PFe at h ⊢
  have e5 : (es.set i ⟨x, (es.getD i .z).d, (es.getD i .z).h, (es.getD i .z).u, (es.getD i .z).v⟩).flatMap Pe.rows = es.flatMap Pe.rows := by
    rw [flatMap_set _ _ _ _ hi1, flatMap_at Pe.rows es i .z hi1]; rfl
  rw [e5]
  refine Fam.turn (A := []) (x := Pe.main (.slice (some ⟨g, 0, none⟩) es.length cap) es) h (Nat.le_refl _) hst.2 ?_ (fun j e => ⟨.inl e, by cases e; exact hlt.2.1⟩)
  show (w.setCell ⟨g, i * 3, none⟩ (.int .i64 x)).ownsRow lo 62 3 _ (es.set i _).length ((es.set i _).flatMap Pe.cs)
  rw [List.length_set, he]
  exact hst.1
/-- How many marks a list of pendings takes. -/
def ptot (ps : List Pnd) : Nat := (ps.map (fun p => 1 + p.d.length + p.h.length)).sum
theorem ptot_take (ps : List Pnd) (k : Nat) (h : k < ps.length) : ptot (ps.take (k + 1)) = ptot (ps.take k) + (1 + (ps.getD k .z).d.length + (ps.getD k .z).h.length) := by
  rw [take_snoc ps .z k h]
  simp [ptot]
theorem ptot_le (ps : List Pnd) (k : Nat) : ptot (ps.take k) ≤ ptot ps := by
  have : ptot ps = ptot (ps.take k) + ptot (ps.drop k) := by
    unfold ptot
    rw [← List.sum_append, ← List.map_append, List.take_append_drop]
  omega
theorem ptot_sum (ps : List Pnd) : ptot ps ≤ ps.length + Pnd.sum ps := by
  induction ps with
  | nil => simp [ptot, Pnd.sum]
  | cons g ps ih =>
    simp only [ptot, Pnd.sum, Pnd.sz, List.map_cons, List.sum_cons, List.length_cons] at *
    omega
def mkP (k0 : Int) : List Pnd → List Pnd
  | [] => []
  | p :: ps => ⟨k0, smarks p.d.length (k0 + 1), bmarks p.h.length (k0 + 1 + p.d.length)⟩ :: mkP (k0 + (1 + p.d.length + p.h.length : Nat)) ps
theorem mkP_len (k0 : Int) (ps : List Pnd) : (mkP k0 ps).length = ps.length := by
  induction ps generalizing k0 with
  | nil => rfl
  | cons p ps ih => simp [mkP, ih]
theorem mkP_at (ps : List Pnd) : ∀ (k0 : Int) (i : Nat), i < ps.length → (mkP k0 ps).getD i .z = ⟨k0 + ptot (ps.take i), smarks (ps.getD i .z).d.length (k0 + ptot (ps.take i) + 1), bmarks (ps.getD i .z).h.length (k0 + ptot (ps.take i) + 1 + (ps.getD i .z).d.length)⟩ := by
  induction ps with
  | nil => intro k0 i h; simp at h
  | cons p ps ih =>
    intro k0 i h
    cases i with
    | zero => simp [mkP, ptot]
    | succ i =>
      have e : k0 + (1 + p.d.length + p.h.length : Nat) + (ptot (ps.take i) : Int) = k0 + (ptot ((p :: ps).take (i + 1)) : Int) := by
        simp only [List.take_succ_cons, ptot, List.map_cons, List.sum_cons]
        omega
      rw [mkP, List.getD_cons_succ, ih _ i (by simpa using h), List.getD_cons_succ, e]
/-- The first k pendings marked. -/
def mpTo (k0 : Int) (ps : List Pnd) (k : Nat) : List Pnd := (mkP k0 ps).take k ++ ps.drop k
theorem mpTo_len (k0 : Int) (ps : List Pnd) (k : Nat) (h : k ≤ ps.length) : (mpTo k0 ps k).length = ps.length := by
  rw [mpTo, List.length_append, List.length_take, List.length_drop, mkP_len]
  omega
theorem mpTo_zero (k0 : Int) (ps : List Pnd) : mpTo k0 ps 0 = ps := by simp [mpTo]
theorem mpTo_all (k0 : Int) (ps : List Pnd) : mpTo k0 ps ps.length = mkP k0 ps := by
  rw [mpTo, List.drop_length, List.append_nil, List.take_of_length_le (by rw [mkP_len]; omega)]
theorem mpTo_at (k0 : Int) (ps : List Pnd) (k : Nat) (h : k < ps.length) : (mpTo k0 ps k).getD k .z = ps.getD k .z := by
  rw [mpTo, List.getD_eq_getElem?_getD, List.getElem?_append_right (by rw [List.length_take, mkP_len]; omega), List.length_take, mkP_len, Nat.min_eq_left (by omega), Nat.sub_self, List.getElem?_drop, Nat.add_zero, List.getD_eq_getElem?_getD]
theorem mpTo_set (k0 : Int) (ps : List Pnd) (k : Nat) (h : k < ps.length) : (mpTo k0 ps k).set k ((mkP k0 ps).getD k .z) = mpTo k0 ps (k + 1) := by
  unfold mpTo
  have hl : ((mkP k0 ps).take k).length = k := by rw [List.length_take, mkP_len]; omega
  rw [List.set_append_right _ _ (by omega), hl, Nat.sub_self, take_snoc (mkP k0 ps) .z k (by rw [mkP_len]; exact h), List.append_assoc]
  rw [List.drop_eq_getElem_cons h]
  rfl
theorem map_set_p (es : List Pe) (k : Nat) (x : Pe) : (es.set k x).map Pe.p = (es.map Pe.p).set k x.p := List.map_set ..
theorem laws_markPendingS (ps : List Pnd) (es : List Pe) (v : Value) (k0 : Int) (w : World) (lo hi : Nat) (ho : POw w lo hi v ps es) (hn : ps.length ≤ 1048576) (ht : ptot ps ≤ 2097152) (hk0 : 0 < k0) (hk1 : k0 ≤ 1073741824) :
    Calls Tryd.prog 17 #[v, .int .i64 k0] w fun e w' => ∃ ds, e = .returned (.int .i64 (k0 + ptot ps)) ∧ POw w' lo hi v (mkP k0 ps) ds ∧ Turn lo hi w w' := by
  rcases ho.form with ⟨rfl, rfl⟩ | ⟨g, cap, rfl, -, hlg, hgh, -⟩
  · have Ho := hid ho; clear ho
    go_enter Tryd.func17, Tryd.ntmps17
    go_wp2
    refine wp_loop_rounds 1 ?_
    rw [rounds_succ]
    go_wp2
    go_ret
    exact ⟨_, by simp [ptot], Ho.out, Turn.refl _ _ _⟩
  · have hgl := hid (And.intro hlg hgh)
    have Ho := hid ho; clear ho
    go_enter Tryd.func17, Tryd.ntmps17
    go_wp2
    go_loopw [5, 1] (fun v5 v1 wr => ∃ (k : Nat) (ds : List Pe), k ≤ ps.length ∧ v5 = .int .i64 k ∧ v1 = .int .i64 (k0 + ptot (ps.take k)) ∧ POw wr lo hi (.slice (some ⟨g, 0, none⟩) ps.length cap) (mpTo k0 ps k) ds ∧ Turn lo hi w wr) (fun v5 _ _ => ps.length - (intOf v5).toNat)
    case atStart => exact ⟨0, es, Nat.zero_le _, rfl, by simp [ptot], by rw [mpTo_zero]; exact Ho.out, Turn.refl _ _ _⟩
    case round =>
      obtain ⟨k, ds, hk, rfl, rfl, hown, hT⟩ := hrel
      by_cases hlt : k < ps.length
      · have hml := mpTo_len k0 ps k hk
        have hle := ptot_take ps k hlt
        have hl2 := ptot_le ps (k + 1)
        have hst0 := mpTo_set k0 ps k hlt
        rw [mkP_at ps k0 k hlt] at hst0
        have hdl : ds.length = ps.length := hown.len.trans hml
        have hdk : k < ds.length := by omega
        obtain ⟨⟨e0, e1, e2⟩, f0, f1, f2⟩ := hown.2.cells hdl.symm k hdk
        have hep : (ds.getD k .z).p = ps.getD k .z := by rw [← pes_p, hown.1, mpTo_at k0 ps k hlt]
        generalize hG : ps.getD k .z = G at *
        have hdd : (ds.getD k .z).d.length = G.d.length := congrArg (fun p => p.d.length) hep
        have hhh : (ds.getD k .z).h.length = G.h.length := congrArg (fun p => p.h.length) hep
        generalize hTk : ptot (ps.take k) = T at *
        have hTb : T + (1 + G.d.length + G.h.length) ≤ 2097152 := by omega
        have h1 := hown.2.setN hdl.symm k hdk (k0 + T)
        have hT1 := hT.grown (grownBy_set wr ⟨g, k * 3, none⟩ (.int .i64 (k0 + T))) (fun j hj => by cases hj; exact hgl.out)
        have hmap : (ds.set k ⟨k0 + T, (ds.getD k .z).d, (ds.getD k .z).h, (ds.getD k .z).u, (ds.getD k .z).v⟩).map Pe.p = (mpTo k0 ps k).set k ⟨k0 + T, (ds.getD k .z).d, (ds.getD k .z).h⟩ := by rw [map_set_p, hown.1]; rfl
        obtain ⟨ds1, hds1⟩ : ∃ ds1, ds1 = ds.set k ⟨k0 + T, (ds.getD k .z).d, (ds.getD k .z).h, (ds.getD k .z).u, (ds.getD k .z).v⟩ := ⟨_, rfl⟩
        have hk1 : k < ds1.length := by rw [hds1, List.length_set]; exact hdk
        have hat1 : ds1.getD k .z = ⟨k0 + T, (ds.getD k .z).d, (ds.getD k .z).h, (ds.getD k .z).u, (ds.getD k .z).v⟩ := by rw [hds1, getD_set' _ _ _ _ _ hdk, if_pos rfl]
        rw [← hds1] at h1 hmap
        have hin := (h1.inner (getD_mem' (z := .z) hk1))
        rw [hat1] at hin
        have hds1l : ds1.length = ps.length := by rw [hds1, List.length_set]; exact hdl
        clear hds1
        generalize (ds.getD k .z).d = D at *
        generalize (ds.getD k .z).h = Hh at *
        generalize (ds.getD k .z).u = U at *
        generalize (ds.getD k .z).v = V at *
        (try dsimp only at hin)
        (try dsimp only at hdd)
        (try dsimp only at hhh)
        rw [← hdd, ← hhh] at hle hst0 hTb
        have K1 := hid (And.intro h1 (And.intro hin (And.intro hT1 (And.intro hmap (And.intro hat1 hds1l)))))
        have Hst0 := hid hst0
        have Hle := hid hle
        clear h1 hin hT1 hmap hat1 hds1l hst0 hle hown hT hG hep hTk hdd hhh hdl hml hl2
        go_wp2_with fail
        go_at_call 44
        refine (laws_smarkS D.length (vStrs D) U (k0 + T + 1) _ lo K1.out.2.1.1.1 (by omega) (by omega) (by omega)).mono ?_
        rintro e w3 ⟨rfl, hm3, hg3⟩
        have h2 := K1.out.1.turnD k hk1 (smarks D.length (k0 + T + 1)) (by rw [K1.out.2.2.2.2.1]; exact hg3) (by rw [K1.out.2.2.2.2.1, smarks_len]; exact hm3)
        rw [K1.out.2.2.2.2.1] at h2
        dsimp only at h2
        have hT2 := K1.out.2.2.1.grown hg3 (fun j hj => ⟨(own_row K1.out.2.1.1.1 j hj).1, (K1.out.2.1.2.1 j hj).1⟩)
        have hm2 : (ds1.set k ⟨k0 + T, smarks D.length (k0 + T + 1), Hh, U, V⟩).map Pe.p = (mpTo k0 ps k).set k ⟨k0 + T, smarks D.length (k0 + T + 1), Hh⟩ := by rw [map_set_p, K1.out.2.2.2.1, List.set_set]; rfl
        have hk2 : k < (ds1.set k ⟨k0 + T, smarks D.length (k0 + T + 1), Hh, U, V⟩).length := by rw [List.length_set]; exact hk1
        have hat2 : (ds1.set k ⟨k0 + T, smarks D.length (k0 + T + 1), Hh, U, V⟩).getD k .z = ⟨k0 + T, smarks D.length (k0 + T + 1), Hh, U, V⟩ := by rw [getD_set' _ _ _ _ _ hk1, if_pos rfl]
        have hl2 : (ds1.set k ⟨k0 + T, smarks D.length (k0 + T + 1), Hh, U, V⟩).length = ps.length := by rw [List.length_set]; exact K1.out.2.2.2.2.2
        generalize ds1.set k ⟨k0 + T, smarks D.length (k0 + T + 1), Hh, U, V⟩ = ds2 at *
        have hin := h2.inner (getD_mem' (z := .z) hk2)
        rw [hat2] at hin
        obtain ⟨⟨-, -, a2⟩, -, -, -⟩ := h2.cells hl2.symm k hk2
        rw [hat2] at a2
        dsimp only at hin a2
        have K2 := hid (And.intro h2 (And.intro hin (And.intro hT2 (And.intro hm2 (And.intro hat2 hl2)))))
        clear h2 hin hT2 hm2 hat2 hl2 hm3 hg3 K1 e0 e1 e2 f0 f1 f2
        go_wp2_with fail
        go_at_call 45
        refine (laws_markBoolS Hh.length (vBools Hh) V (k0 + T + 1 + D.length) _ lo K2.out.2.1.1.2 (by omega) (by omega) (by omega)).mono ?_
        rintro e w4 ⟨rfl, hm4, hg4⟩
        have h3 := K2.out.1.turnH k hk2 (bmarks Hh.length (k0 + T + 1 + D.length)) (by rw [K2.out.2.2.2.2.1]; exact hg4) (by rw [K2.out.2.2.2.2.1, bmarks_len]; exact hm4)
        rw [K2.out.2.2.2.2.1] at h3
        dsimp only at h3
        have hT3 := K2.out.2.2.1.grown hg4 (fun j hj => ⟨(own_row K2.out.2.1.1.2 j hj).1, (K2.out.2.1.2.2 j hj).1⟩)
        have hm3 : (ds2.set k ⟨k0 + T, smarks D.length (k0 + T + 1), bmarks Hh.length (k0 + T + 1 + D.length), U, V⟩).map Pe.p = mpTo k0 ps (k + 1) := by rw [map_set_p, K2.out.2.2.2.1, List.set_set]; exact Hst0.out
        have K3 := hid (And.intro (And.intro hm3 h3) hT3)
        clear h3 hT3 hm3 hm4 hg4 K2 a2
        go_wp2
        go_roundw
        case rel => exact ⟨k + 1, _, by omega, by go_num, by rw [Hle.out]; congr 1; omega, K3.out.1, K3.out.2⟩
        case measure => simp [intOf]; omega
      · obtain rfl : k = ps.length := by omega
        rw [mpTo_all] at hown
        rw [List.take_length]
        have Hown := hid hown
        have HT := hid hT
        clear hown hT
        go_wp2
        go_ret
        exact ⟨_, rfl, Hown.out, HT.out⟩
theorem laws_heldPendingS (ps : List Pnd) (es : List Pe) (v : Value) (k0 : Int) (w : World) (hv : PRd w v (mkP k0 ps) es) (hn : ps.length ≤ 1048576) (ht : ptot ps ≤ 2097152) (hk0 : 0 < k0) (hk1 : k0 ≤ 1073741824) :
    Calls Tryd.prog 22 #[v, .int .i64 k0] w fun e w' => e = .returned (.int .i64 (k0 + ptot ps)) ∧ Ext w w' := by
  have Hv := hid hv
  obtain ⟨p, cap, rfl, h4⟩ := hv.form
  rw [mkP_len] at h4 Hv ⊢
  have H4 := hid h4
  clear h4 hv
  go_enter Tryd.func22, Tryd.ntmps22
  go_wp2
  go_loopw [5, 1] (fun v5 v1 wr => ∃ (k : Nat), k ≤ ps.length ∧ v5 = .int .i64 k ∧ v1 = .int .i64 (k0 + ptot (ps.take k)) ∧ Ext w wr) (fun v5 _ _ => ps.length - (intOf v5).toNat)
  case atStart => exact ⟨0, Nat.zero_le _, rfl, by simp [ptot], Ext.refl _⟩
  case round =>
    obtain ⟨k, hk, rfl, rfl, z, rfl⟩ := hrel
    by_cases hlt : k < ps.length
    · obtain ⟨b, off, rfl⟩ := H4.out.resolve_left (by omega)
      have hlm : k < (mkP k0 ps).length := by rw [mkP_len]; exact hlt
      have hat := Hv.out.at k hlm
      have hle := ptot_take ps k hlt
      have hl2 := ptot_le ps (k + 1)
      rw [mkP_at ps k0 k hlt] at hat
      obtain ⟨⟨c0, c1, c2⟩, hcr, hcr'⟩ := hat
      dsimp only at c0 hcr hcr'
      generalize (es.getD k .z).u = u at *
      generalize (es.getD k .z).v = u' at *
      generalize (ps.getD k .z).d.length = n at *
      generalize (ps.getD k .z).h.length = m at *
      rw [smarks_len] at hcr
      rw [bmarks_len] at hcr'
      have Hcr := hid (And.intro hcr hcr')
      generalize ptot (ps.take k) = T at *
      have Hle := hid hle
      have hTb : T + (1 + n + m) ≤ 2097152 := by omega
      have hh := hid (fun w h => laws_sheldS n u (k0 + T + 1) w h (by omega) (by omega) (by omega))
      have hh' := hid (fun w h => laws_heldBoolS m u' (k0 + T + 1 + n) w h (by omega) (by omega) (by omega))
      have t0 : decide (k0 + (T : Int) + 1 + n < 0) = false := by simp; omega
      have t1 : decide (k0 + (T : Int) + 1 + n + m < 0) = false := by simp; omega
      clear hcr hcr' hle
      go_wp2_with fail
      go_at_call 49
      refine (hh.out _ (Hcr.out.1.ext (by repeat' (first | exact Ext.refl _ | assumption | refine Ext.alloc ?_ _ | refine Ext.ext ?_ _ | refine Ext.drew ?_ | refine Ext.drewN ?_ _)))).mono ?_
      rintro e w' ⟨rfl, z1, rfl⟩
      go_wp2_with fail
      go_at_call 50
      refine (hh'.out _ (Hcr.out.2.ext (by repeat' (first | exact Ext.refl _ | assumption | refine Ext.alloc ?_ _ | refine Ext.ext ?_ _ | refine Ext.drew ?_ | refine Ext.drewN ?_ _)))).mono ?_
      rintro e w' ⟨rfl, z2, rfl⟩
      go_wp2
      go_roundw
      case rel => exact ⟨k + 1, by omega, by go_num, by rw [Hle.out]; congr 1; omega, (by repeat' (first | exact Ext.refl _ | assumption | refine Ext.alloc ?_ _ | refine Ext.ext ?_ _ | refine Ext.drew ?_ | refine Ext.drewN ?_ _))⟩
      case measure => simp [intOf]; omega
    · obtain rfl : k = ps.length := by omega
      go_wp2
      go_ret
      exact ⟨by rw [List.take_length]; rfl, (by repeat' (first | exact Ext.refl _ | assumption | refine Ext.alloc ?_ _ | refine Ext.ext ?_ _ | refine Ext.drew ?_ | refine Ext.drewN ?_ _))⟩
end Go.Proofs.YtnngklclehffhaaDoor
