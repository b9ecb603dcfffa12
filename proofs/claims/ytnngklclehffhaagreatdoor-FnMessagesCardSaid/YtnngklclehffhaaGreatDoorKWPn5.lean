/- Lists of pendings in the laws' own words: marks. -/
import Derived.Test.YtnngklclehffhaaGreatDoorJ27
namespace Go.Proofs.YtnngklclehffhaaGreatDoor
open Go.RowKit
set_option maxHeartbeats 400000
set_option maxRecDepth 100000
theorem flatMap_at {α β : Type} (f : α → List β) (l : List α) (i : Nat) (z : α) (h : i < l.length) : l.flatMap f = (l.take i).flatMap f ++ (f (l.getD i z) ++ (l.drop (i + 1)).flatMap f) := by
  conv => lhs; rw [split_at l i z h]
  rw [List.flatMap_append, List.flatMap_cons]
theorem flatMap_set {α β : Type} (f : α → List β) (l : List α) (i : Nat) (x : α) (h : i < l.length) : (l.set i x).flatMap f = (l.take i).flatMap f ++ (f x ++ (l.drop (i + 1)).flatMap f) := by
  rw [set_at l i x h, List.flatMap_append, List.flatMap_cons]
theorem Pe.main_set (v : Value) (es : List Pe) (i : Nat) (x : Pe) (hi : i < es.length) (hc : x.cs = (es.getD i .z).cs) : Pe.main v (es.set i x) = Pe.main v es := by
  unfold Pe.main
  rw [List.length_set, flatMap_set _ _ _ _ hi, flatMap_at Pe.cs es i .z hi, hc]
/-- A pending's texts have turned in place. -/
theorem PFe.turnD {w w' : World} {lo hi : Nat} {v : Value} {es : List Pe} (h : PFe w lo hi v es) (i : Nat) (hi1 : i < es.length) (d' : List ByteArray) (hg : w.grownBy w' (es.getD i .z).u.ownBlock)
    (ho : w'.ownsRow lo 9 1 (es.getD i .z).u d'.length (vStrs d')) : PFe w' lo hi v (es.set i ⟨(es.getD i .z).n, d', (es.getD i .z).h, (es.getD i .z).u, (es.getD i .z).v⟩) := by
  have hb := (h.inner (getD_mem' (z := .z) hi1)).2.1
  unfold PFe at h ⊢
  rw [Pe.main_set _ _ _ _ hi1 (by rfl), flatMap_set _ _ _ _ hi1]
  rw [flatMap_at Pe.rows es i .z hi1] at h
  exact Fam.turn (A := Pe.main v es :: (es.take i).flatMap Pe.rows) (x := ⟨9, 1, (es.getD i .z).u, (es.getD i .z).d.length, vStrs (es.getD i .z).d⟩) (y := ⟨9, 1, (es.getD i .z).u, d'.length, vStrs d'⟩) h (Nat.le_refl _) hg ho (fun j e => ⟨.inl e, (hb j e).1⟩)
/-- A pending's truth values have turned in place. -/
theorem PFe.turnH {w w' : World} {lo hi : Nat} {v : Value} {es : List Pe} (h : PFe w lo hi v es) (i : Nat) (hi1 : i < es.length) (h' : List Bool) (hg : w.grownBy w' (es.getD i .z).v.ownBlock)
    (ho : w'.ownsRow lo 4 1 (es.getD i .z).v h'.length (vBools h')) : PFe w' lo hi v (es.set i ⟨(es.getD i .z).n, (es.getD i .z).d, h', (es.getD i .z).u, (es.getD i .z).v⟩) := by
  have hb := (h.inner (getD_mem' (z := .z) hi1)).2.2
  unfold PFe at h ⊢
  rw [Pe.main_set _ _ _ _ hi1 (by rfl), flatMap_set _ _ _ _ hi1]
  rw [flatMap_at Pe.rows es i .z hi1] at h
  have e : ∀ (r1 r2 : Row) (A B : List Row), A ++ ([r1, r2] ++ B) = (A ++ [r1]) ++ r2 :: B := fun r1 r2 A B => by simp
  have h2 := e ⟨9, 1, (es.getD i .z).u, (es.getD i .z).d.length, vStrs (es.getD i .z).d⟩ ⟨4, 1, (es.getD i .z).v, (es.getD i .z).h.length, vBools (es.getD i .z).h⟩ (Pe.main v es :: (es.take i).flatMap Pe.rows) ((es.drop (i + 1)).flatMap Pe.rows)
  have h3 := e ⟨9, 1, (es.getD i .z).u, (es.getD i .z).d.length, vStrs (es.getD i .z).d⟩ ⟨4, 1, (es.getD i .z).v, h'.length, vBools h'⟩ (Pe.main v es :: (es.take i).flatMap Pe.rows) ((es.drop (i + 1)).flatMap Pe.rows)
  have h4 : Fam w lo hi ((Pe.main v es :: (es.take i).flatMap Pe.rows) ++ ([⟨9, 1, (es.getD i .z).u, (es.getD i .z).d.length, vStrs (es.getD i .z).d⟩, ⟨4, 1, (es.getD i .z).v, (es.getD i .z).h.length, vBools (es.getD i .z).h⟩] ++ (es.drop (i + 1)).flatMap Pe.rows)) := h
  rw [h2] at h4
  have h5 := Fam.turn (y := ⟨4, 1, (es.getD i .z).v, h'.length, vBools h'⟩) h4 (Nat.le_refl _) hg ho (fun j e => ⟨.inl e, (hb j e).1⟩)
  rw [← h3] at h5
  exact h5
/-- A new number. -/
theorem PFe.setN {w : World} {lo hi g n cap : Nat} {es : List Pe} (h : PFe w lo hi (.slice (some ⟨g, 0, none⟩) n cap) es) (hn : n = es.length) (i : Nat) (hi1 : i < es.length) (x : Int) :
    PFe (w.setCell ⟨g, i * 3, none⟩ (.int .i64 x)) lo hi (.slice (some ⟨g, 0, none⟩) n cap) (es.set i ⟨x, (es.getD i .z).d, (es.getD i .z).h, (es.getD i .z).u, (es.getD i .z).v⟩) := by
  subst hn
  have hst := World.ownsRow.stored h.own (i * 3) (.int .i64 x)
  have hlt := h.lt (j := g) rfl
  have hget := pes_get es i hi1
  have he : (es.set i ⟨x, (es.getD i .z).d, (es.getD i .z).h, (es.getD i .z).u, (es.getD i .z).v⟩).flatMap Pe.cs = (es.flatMap Pe.cs).set (i * 3) (.int .i64 x) := by
    rw [flat_set3 _ _ _ hi1]
    apply List.ext_getElem?
    intro k
    have hl := pes_len es
    by_cases e1 : k = i * 3 + 2
    · subst e1
      rw [List.getElem?_set_self (by simp only [List.length_set, pes_len]; omega), List.getElem?_set_ne (by omega)]
      exact hget.2.2.symm
    · rw [List.getElem?_set_ne (by omega)]
      by_cases e2 : k = i * 3 + 1
      · subst e2
        rw [List.getElem?_set_self (by simp only [List.length_set, pes_len]; omega), List.getElem?_set_ne (by omega)]
        exact hget.2.1.symm
      · rw [List.getElem?_set_ne (by omega)]
  unfold PFe at h ⊢
  have e5 : (es.set i ⟨x, (es.getD i .z).d, (es.getD i .z).h, (es.getD i .z).u, (es.getD i .z).v⟩).flatMap Pe.rows = es.flatMap Pe.rows := by
    rw [flatMap_set _ _ _ _ hi1, flatMap_at Pe.rows es i .z hi1]; rfl
  rw [e5]
  refine Fam.turn (A := []) (x := Pe.main (.slice (some ⟨g, 0, none⟩) es.length cap) es) h (Nat.le_refl _) hst.2 ?_ (fun j e => ⟨.inl e, by cases e; exact hlt.2.1⟩)
  show (w.setCell ⟨g, i * 3, none⟩ (.int .i64 x)).ownsRow lo 62 3 _ (es.set i _).length ((es.set i _).flatMap Pe.cs)
  rw [List.length_set, he]
  exact hst.1
/-- How many marks a list of pendings takes. -/
def ptot (ps : List Pnd) : Nat := (ps.map (fun p => 1 + p.d.length + p.h.length)).sum
theorem ptot_take (ps : List Pnd) (k : Nat) (h : k < ps.length) : ptot (ps.take (k + 1)) = ptot (ps.take k) + (1 + (ps.getD k .z).d.length + (ps.getD k .z).h.length) := by
  rw [take_snoc ps .z k h]
  simp [ptot]
theorem ptot_le (ps : List Pnd) (k : Nat) : ptot (ps.take k) ≤ ptot ps := by
  have : ptot ps = ptot (ps.take k) + ptot (ps.drop k) := by
    unfold ptot
    rw [← List.sum_append, ← List.map_append, List.take_append_drop]
  omega
theorem ptot_sum (ps : List Pnd) : ptot ps ≤ ps.length + Pnd.sum ps := by
  induction ps with
  | nil => simp [ptot, Pnd.sum]
  | cons g ps ih =>
    simp only [ptot, Pnd.sum, Pnd.sz, List.map_cons, List.sum_cons, List.length_cons] at *
    omega
def mkP (k0 : Int) : List Pnd → List Pnd
  | [] => []
  | p :: ps => ⟨k0, smarks p.d.length (k0 + 1), bmarks p.h.length (k0 + 1 + p.d.length)⟩ :: mkP (k0 + (1 + p.d.length + p.h.length : Nat)) ps
theorem mkP_len (k0 : Int) (ps : List Pnd) : (mkP k0 ps).length = ps.length := by
  induction ps generalizing k0 with
  | nil => rfl
  | cons p ps ih => simp [mkP, ih]
theorem mkP_at (ps : List Pnd) : ∀ (k0 : Int) (i : Nat), i < ps.length → (mkP k0 ps).getD i .z = ⟨k0 + ptot (ps.take i), smarks (ps.getD i .z).d.length (k0 + ptot (ps.take i) + 1), bmarks (ps.getD i .z).h.length (k0 + ptot (ps.take i) + 1 + (ps.getD i .z).d.length)⟩ := by
  induction ps with
  | nil => intro k0 i h; simp at h
  | cons p ps ih =>
    intro k0 i h
    cases i with
    | zero => simp [mkP, ptot]
    | succ i =>
      have e : k0 + (1 + p.d.length + p.h.length : Nat) + (ptot (ps.take i) : Int) = k0 + (ptot ((p :: ps).take (i + 1)) : Int) := by
        simp only [List.take_succ_cons, ptot, List.map_cons, List.sum_cons]
        omega
      rw [mkP, List.getD_cons_succ, ih _ i (by simpa using h), List.getD_cons_succ, e]
/-- The first k pendings marked. -/
def mpTo (k0 : Int) (ps : List Pnd) (k : Nat) : List Pnd := (mkP k0 ps).take k ++ ps.drop k
theorem mpTo_len (k0 : Int) (ps : List Pnd) (k : Nat) (h : k ≤ ps.length) : (mpTo k0 ps k).length = ps.length := by
  rw [mpTo, List.length_append, List.length_take, List.length_drop, mkP_len]
  omega
theorem mpTo_zero (k0 : Int) (ps : List Pnd) : mpTo k0 ps 0 = ps := by simp [mpTo]
theorem mpTo_all (k0 : Int) (ps : List Pnd) : mpTo k0 ps ps.length = mkP k0 ps := by
  rw [mpTo, List.drop_length, List.append_nil, List.take_of_length_le (by rw [mkP_len]; omega)]
theorem mpTo_at (k0 : Int) (ps : List Pnd) (k : Nat) (h : k < ps.length) : (mpTo k0 ps k).getD k .z = ps.getD k .z := by
  rw [mpTo, List.getD_eq_getElem?_getD, List.getElem?_append_right (by rw [List.length_take, mkP_len]; omega), List.length_take, mkP_len, Nat.min_eq_left (by omega), Nat.sub_self, List.getElem?_drop, Nat.add_zero, List.getD_eq_getElem?_getD]
theorem mpTo_set (k0 : Int) (ps : List Pnd) (k : Nat) (h : k < ps.length) : (mpTo k0 ps k).set k ((mkP k0 ps).getD k .z) = mpTo k0 ps (k + 1) := by
  unfold mpTo
  have hl : ((mkP k0 ps).take k).length = k := by rw [List.length_take, mkP_len]; omega
  rw [List.set_append_right _ _ (by omega), hl, Nat.sub_self, take_snoc (mkP k0 ps) .z k (by rw [mkP_len]; exact h), List.append_assoc]
  rw [List.drop_eq_getElem_cons h]
  rfl
theorem map_set_p (es : List Pe) (k : Nat) (x : Pe) : (es.set k x).map Pe.p = (es.map Pe.p).set k x.p := List.map_set ..
end Go.Proofs.YtnngklclehffhaaGreatDoor
