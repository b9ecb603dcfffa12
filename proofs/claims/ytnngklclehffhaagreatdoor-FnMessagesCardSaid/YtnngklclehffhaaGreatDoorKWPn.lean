/- Lists of pendings: readings, and lists that the call owns. -/
import Derived.Test.YtnngklclehffhaaGreatDoorJ9
import Derived.Test.YtnngklclehffhaaGreatDoorJ5
import Derived.Test.YtnngklclehffhaaGreatDoorJ3
namespace Go.Proofs.YtnngklclehffhaaGreatDoor
open Go.RowKit
set_option maxHeartbeats 400000
set_option maxRecDepth 100000
def vBools (l : List Bool) : List Value := l.map Value.bool
theorem vBools_len (l : List Bool) : (vBools l).length = l.length := by simp [vBools]
theorem vBools_get (l : List Bool) (i : Nat) (h : i < l.length) : (vBools l)[i]? = some (.bool (l.getD i false)) := by
  simp [vBools, h]
structure Pnd where
  n : Int
  d : List ByteArray
  h : List Bool
def Pnd.z : Pnd := ⟨0, [], []⟩
/-- A pending with the two slices of its cells. -/
structure Pe where
  n : Int
  d : List ByteArray
  h : List Bool
  u : Value
  v : Value
def Pe.z : Pe := ⟨0, [], [], .slice none 0 0, .slice none 0 0⟩
def Pe.p (e : Pe) : Pnd := ⟨e.n, e.d, e.h⟩
def Pe.cs (e : Pe) : List Value := [.int .i64 e.n, e.u, e.v]
theorem Pe.cs_len (e : Pe) : e.cs.length = 3 := rfl
theorem pes_len (es : List Pe) : (es.flatMap Pe.cs).length = es.length * 3 := flat_len Pe.cs 3 Pe.cs_len es
theorem pes_get (es : List Pe) (i : Nat) (hi : i < es.length) : (es.flatMap Pe.cs)[i * 3]? = some (.int .i64 (es.getD i .z).n) ∧ (es.flatMap Pe.cs)[i * 3 + 1]? = some (es.getD i .z).u ∧ (es.flatMap Pe.cs)[i * 3 + 2]? = some (es.getD i .z).v :=
  ⟨flat_get Pe.cs .z 3 Pe.cs_len es i 0 hi (by omega), flat_get Pe.cs .z 3 Pe.cs_len es i 1 hi (by omega), flat_get Pe.cs .z 3 Pe.cs_len es i 2 hi (by omega)⟩
theorem pes_p (es : List Pe) (i : Nat) : (es.map Pe.p).getD i .z = (es.getD i .z).p := by
  rw [List.getD_eq_getElem?_getD, List.getElem?_map, List.getD_eq_getElem?_getD]
  cases es[i]? <;> rfl
theorem getD_mem' {α : Type} {l : List α} {i : Nat} {z : α} (h : i < l.length) : l.getD i z ∈ l := by
  rw [List.getD_eq_getElem?_getD, List.getElem?_eq_getElem h]; exact List.getElem_mem h
theorem split_at {α : Type} (l : List α) (i : Nat) (z : α) (h : i < l.length) : l = l.take i ++ l.getD i z :: l.drop (i + 1) := by
  have e : l.getD i z = l[i] := by rw [List.getD_eq_getElem?_getD, List.getElem?_eq_getElem h]; rfl
  rw [e, ← List.drop_eq_getElem_cons h, List.take_append_drop]
theorem set_at {α : Type} (l : List α) (i : Nat) (x : α) (h : i < l.length) : l.set i x = l.take i ++ x :: l.drop (i + 1) := by
  have hl : (l.take i).length = i := by rw [List.length_take]; omega
  conv => lhs; rw [← List.take_append_drop i l]
  rw [List.set_append_right _ _ (by omega), hl, Nat.sub_self, List.drop_eq_getElem_cons h, List.set_cons_zero]
theorem getD_set' {α : Type} (l : List α) (i j : Nat) (x z : α) (hi : i < l.length) : (l.set i x).getD j z = if j = i then x else l.getD j z := by
  rw [List.getD_eq_getElem?_getD, List.getElem?_set, List.getD_eq_getElem?_getD]
  by_cases h : i = j
  · subst h; rw [if_pos rfl, if_pos hi, if_pos rfl]; rfl
  · rw [if_neg h, if_neg (fun e => h e.symm)]
/-! ### Readings -/
def PRe (w : World) (v : Value) (es : List Pe) : Prop :=
  Rd w 3 v es.length (es.flatMap Pe.cs) ∧ ∀ e ∈ es, Rd w 1 e.u e.d.length (vStrs e.d) ∧ Rd w 1 e.v e.h.length (vBools e.h)
/-- A slice of pendings that can be read. -/
def PRd (w : World) (v : Value) (ps : List Pnd) (es : List Pe) : Prop := es.map Pe.p = ps ∧ PRe w v es
theorem PRe.ext {w w' : World} {v : Value} {es : List Pe} (h : PRe w v es) (hx : Ext w w') : PRe w' v es :=
  ⟨h.1.ext hx, fun e he => ⟨(h.2 e he).1.ext hx, (h.2 e he).2.ext hx⟩⟩
theorem PRd.ext {w w' : World} {v : Value} {ps : List Pnd} {es : List Pe} (h : PRd w v ps es) (hx : Ext w w') : PRd w' v ps es := ⟨h.1, h.2.ext hx⟩
theorem PRd.len {w : World} {v : Value} {ps : List Pnd} {es : List Pe} (h : PRd w v ps es) : es.length = ps.length := by rw [← h.1, List.length_map]
theorem PRe.form {w : World} {v : Value} {es : List Pe} (h : PRe w v es) : ∃ p cap, v = .slice p es.length cap ∧ (es.length = 0 ∨ ∃ b off, p = some ⟨b, off, none⟩) := by
  obtain ⟨⟨-, p, cap, e, h4⟩, -⟩ := h
  refine ⟨p, cap, e, h4.imp id ?_⟩
  rintro ⟨b, off, e, -⟩
  exact ⟨b, off, e⟩
theorem PRe.at {w : World} {es : List Pe} {b off n cap : Nat} (h : PRe w (.slice (some ⟨b, off, none⟩) n cap) es) (i : Nat) (hi : i < es.length) :
    (w.cell? ⟨b, off + i * 3, none⟩ = some (.int .i64 (es.getD i .z).n) ∧ w.cell? ⟨b, off + i * 3 + 1, none⟩ = some (es.getD i .z).u ∧ w.cell? ⟨b, off + i * 3 + 2, none⟩ = some (es.getD i .z).v) ∧
    Rd w 1 (es.getD i .z).u (es.getD i .z).d.length (vStrs (es.getD i .z).d) ∧ Rd w 1 (es.getD i .z).v (es.getD i .z).h.length (vBools (es.getD i .z).h) := by
  obtain ⟨⟨h1, p, c, e, h4⟩, h3⟩ := h
  cases e
  obtain ⟨b', off', e, h6⟩ := h4.resolve_left (by omega)
  cases e
  have hc := flat_cell Pe.cs .z 3 Pe.cs_len es h6 i
  exact ⟨⟨hc 0 (by omega) (by omega), hc 1 (by omega) (by omega), hc 2 (by omega) (by omega)⟩, h3 _ (getD_mem' hi)⟩
theorem PRd.form {w : World} {v : Value} {ps : List Pnd} {es : List Pe} (h : PRd w v ps es) : ∃ p cap, v = .slice p ps.length cap ∧ (ps.length = 0 ∨ ∃ b off, p = some ⟨b, off, none⟩) := by
  rw [← h.len]; exact h.2.form
/-- An element's cells, and its rows. -/
theorem PRd.at {w : World} {ps : List Pnd} {es : List Pe} {b off n cap : Nat} (h : PRd w (.slice (some ⟨b, off, none⟩) n cap) ps es) (i : Nat) (hi : i < ps.length) :
    (w.cell? ⟨b, off + i * 3, none⟩ = some (.int .i64 (ps.getD i .z).n) ∧ w.cell? ⟨b, off + i * 3 + 1, none⟩ = some (es.getD i .z).u ∧ w.cell? ⟨b, off + i * 3 + 2, none⟩ = some (es.getD i .z).v) ∧
    Rd w 1 (es.getD i .z).u (ps.getD i .z).d.length (vStrs (ps.getD i .z).d) ∧ Rd w 1 (es.getD i .z).v (ps.getD i .z).h.length (vBools (ps.getD i .z).h) := by
  have h2 := h.2.at i (by rw [h.len]; exact hi)
  have e := pes_p es i
  rw [h.1] at e
  rw [e]
  exact h2
/-! ### Lists of the call's own -/
def Pe.rows (e : Pe) : List Row := [⟨9, 1, e.u, e.d.length, vStrs e.d⟩, ⟨4, 1, e.v, e.h.length, vBools e.h⟩]
def Pe.main (v : Value) (es : List Pe) : Row := ⟨62, 3, v, es.length, es.flatMap Pe.cs⟩
theorem fam_cons {w : World} {lo hi : Nat} {x : Row} {B : List Row} : Fam w lo hi (x :: B) ↔ (x.own w lo ∧ ∀ j, x.v.ownBlock = some j → j < hi) ∧ Fam w lo hi B ∧ ∀ y ∈ B, y.apart x := by
  constructor
  · intro h
    exact ⟨h.1 x (by simp), (Fam.mid (A := []) h).1, (Fam.mid (A := []) h).2⟩
  · rintro ⟨h1, h2, h3⟩
    exact Fam.put (A := []) h2 h1.1 h1.2 h3
/-- The blocks of the list lie from lo to hi, each apart from the others. -/
def PFe (w : World) (lo hi : Nat) (v : Value) (es : List Pe) : Prop := Fam w lo hi (Pe.main v es :: es.flatMap Pe.rows)
def POw (w : World) (lo hi : Nat) (v : Value) (ps : List Pnd) (es : List Pe) : Prop := es.map Pe.p = ps ∧ PFe w lo hi v es
theorem PFe.own {w : World} {lo hi : Nat} {v : Value} {es : List Pe} (h : PFe w lo hi v es) : w.ownsRow lo 62 3 v es.length (es.flatMap Pe.cs) := (h.1 _ (List.mem_cons_self ..)).1
theorem PFe.lt {w : World} {lo hi : Nat} {v : Value} {es : List Pe} (h : PFe w lo hi v es) {j : Nat} (e : v.ownBlock = some j) : lo ≤ j ∧ j < hi ∧ j < w.heap.size := Fam.lt (r := Pe.main v es) h (List.mem_cons_self ..) e
theorem PFe.inner {w : World} {lo hi : Nat} {v : Value} {es : List Pe} (h : PFe w lo hi v es) {e : Pe} (he : e ∈ es) : (w.ownsRow lo 9 1 e.u e.d.length (vStrs e.d) ∧ w.ownsRow lo 4 1 e.v e.h.length (vBools e.h)) ∧
    (∀ j, e.u.ownBlock = some j → j < hi ∧ v.ownBlock ≠ some j) ∧ (∀ j, e.v.ownBlock = some j → j < hi ∧ v.ownBlock ≠ some j) := by
  have h1 : (⟨9, 1, e.u, e.d.length, vStrs e.d⟩ : Row) ∈ es.flatMap Pe.rows := List.mem_flatMap.2 ⟨e, he, by simp [Pe.rows]⟩
  have h2 : (⟨4, 1, e.v, e.h.length, vBools e.h⟩ : Row) ∈ es.flatMap Pe.rows := List.mem_flatMap.2 ⟨e, he, by simp [Pe.rows]⟩
  obtain ⟨-, k2, k3⟩ := fam_cons.1 h
  exact ⟨⟨(k2.1 _ h1).1, (k2.1 _ h2).1⟩, fun j e => ⟨(k2.1 _ h1).2 j e, k3 _ h1 j e⟩, fun j e => ⟨(k2.1 _ h2).2 j e, k3 _ h2 j e⟩⟩
theorem PFe.ext {w w' : World} {lo hi : Nat} {v : Value} {es : List Pe} (h : PFe w lo hi v es) (hx : Ext w w') : PFe w' lo hi v es := Fam.ext h hx
theorem PFe.wide {w : World} {lo lo' hi hi' : Nat} {v : Value} {es : List Pe} (h : PFe w lo hi v es) (h1 : lo' ≤ lo) (h2 : hi ≤ hi') : PFe w lo' hi' v es := Fam.wide h h1 h2
theorem PFe.rd {w : World} {lo hi : Nat} {v : Value} {es : List Pe} (h : PFe w lo hi v es) : PRe w v es :=
  ⟨Rd.own h.own, fun _ he => ⟨Rd.own (h.inner he).1.1, Rd.own (h.inner he).1.2⟩⟩
theorem POw.rd {w : World} {lo hi : Nat} {v : Value} {ps : List Pnd} {es : List Pe} (h : POw w lo hi v ps es) : PRd w v ps es := ⟨h.1, h.2.rd⟩
theorem POw.len {w : World} {lo hi : Nat} {v : Value} {ps : List Pnd} {es : List Pe} (h : POw w lo hi v ps es) : es.length = ps.length := h.rd.len
theorem POw.ext {w w' : World} {lo hi : Nat} {v : Value} {ps : List Pnd} {es : List Pe} (h : POw w lo hi v ps es) (hx : Ext w w') : POw w' lo hi v ps es := ⟨h.1, Fam.ext h.2 hx⟩
theorem POw.wide {w : World} {lo lo' hi hi' : Nat} {v : Value} {ps : List Pnd} {es : List Pe} (h : POw w lo hi v ps es) (h1 : lo' ≤ lo) (h2 : hi ≤ hi') : POw w lo' hi' v ps es := ⟨h.1, Fam.wide h.2 h1 h2⟩
theorem POw.turned {w w' : World} {lo hi lo' hi' : Nat} {v : Value} {ps : List Pnd} {es : List Pe} (h : POw w lo hi v ps es) (ht : Turn lo' hi' w w') (hd : hi' ≤ lo ∨ hi ≤ lo') : POw w' lo hi v ps es := ⟨h.1, Fam.turned h.2 ht hd⟩
theorem POw.form {w : World} {lo hi : Nat} {v : Value} {ps : List Pnd} {es : List Pe} (h : POw w lo hi v ps es) : (v = .slice none 0 0 ∧ ps = []) ∨ ∃ g cap, v = .slice (some ⟨g, 0, none⟩) ps.length cap ∧ ps.length ≤ cap ∧ lo ≤ g ∧ g < hi ∧ g < w.heap.size := by
  obtain ⟨rfl, k2⟩ := h
  obtain ⟨-, ⟨rfl, h0⟩ | ⟨g, cap, cur, rfl, h2, h3, h4, -⟩⟩ := k2.own
  · exact .inl ⟨rfl, by rw [List.eq_nil_of_length_eq_zero h0]; rfl⟩
  · have := k2.lt (j := g) rfl
    exact .inr ⟨g, cap, by rw [List.length_map], by rw [List.length_map]; exact h4, this.1, this.2.1, this.2.2⟩
theorem POw.nil (w : World) (lo hi : Nat) : POw w lo hi (.slice none 0 0) [] [] :=
  ⟨rfl, fam_cons.2 ⟨⟨World.ownsRow_nil _ _ _ _, fun j e => by cases e⟩, Fam.nil _ _ _, fun y hy => by cases hy⟩⟩
/-- The cells of an element, for a load or a store. -/
theorem PFe.cells {w : World} {lo hi g n cap : Nat} {es : List Pe} (h : PFe w lo hi (.slice (some ⟨g, 0, none⟩) n cap) es) (hn : n = es.length) (k : Nat) (hk : k < es.length) :
    (w.cell? ⟨g, k * 3, none⟩ = some (.int .i64 (es.getD k .z).n) ∧ w.cell? ⟨g, k * 3 + 1, none⟩ = some (es.getD k .z).u ∧ w.cell? ⟨g, k * 3 + 2, none⟩ = some (es.getD k .z).v) ∧
    w.frozen? ⟨g, k * 3, none⟩ = false ∧ w.frozen? ⟨g, k * 3 + 1, none⟩ = false ∧ w.frozen? ⟨g, k * 3 + 2, none⟩ = false := by
  subst hn
  have ho := h.own
  have hg := pes_get es k hk
  exact ⟨⟨(ho.cellAt _ (by omega)).trans hg.1, (ho.cellAt _ (by omega)).trans hg.2.1, (ho.cellAt _ (by omega)).trans hg.2.2⟩, ho.frozenAt _, ho.frozenAt _, ho.frozenAt _⟩
theorem PFe.one {w : World} {lo hi : Nat} {v : Value} {es : List Pe} (h : PFe w lo hi v es) : ∀ u ∈ es.flatMap Pe.cs, u.oneCell' = true := by
  intro u hu
  obtain ⟨x, hx0, hx⟩ := List.mem_flatMap.1 hu
  have hi := h.inner hx0
  simp only [Pe.cs, List.mem_cons, List.not_mem_nil, or_false] at hx
  rcases hx with rfl | rfl | rfl
  · rfl
  · obtain ⟨p, c, e⟩ := own_shape hi.1.1
    rw [e]; rfl
  · obtain ⟨p, c, e⟩ := own_shape hi.1.2
    rw [e]; rfl
theorem flat_set3 (es : List Pe) (i : Nat) (x : Pe) (hi : i < es.length) : (es.set i x).flatMap Pe.cs = (((es.flatMap Pe.cs).set (i * 3) (.int .i64 x.n)).set (i * 3 + 1) x.u).set (i * 3 + 2) x.v := by
  induction es generalizing i with
  | nil => simp at hi
  | cons c es ih =>
    cases i with
    | zero => simp [Pe.cs]
    | succ i =>
      rw [List.set_cons_succ, List.flatMap_cons, List.flatMap_cons, ih i (by simpa using hi)]
      have e1 : (i + 1) * 3 = i * 3 + 1 + 1 + 1 := by omega
      rw [e1]
      simp [Pe.cs]
/-- The row's cells laid anew: the inner rows are others, as 'hin' says. -/
theorem PFe.lay {w w' : World} {lo hi hi' g n cap : Nat} {es fs : List Pe} (h : PFe w lo hi (.slice (some ⟨g, 0, none⟩) n cap) es) (hrow : w'.ownsRow lo 62 3 (.slice (some ⟨g, 0, none⟩) n cap) fs.length (fs.flatMap Pe.cs)) (hg : w.grownBy w' (some g)) (hh : hi ≤ hi')
    (hin : Fam w lo hi' (fs.flatMap Pe.rows)) (hne : ∀ r ∈ fs.flatMap Pe.rows, r.v.ownBlock ≠ some g) : PFe w' lo hi' (.slice (some ⟨g, 0, none⟩) n cap) fs := by
  refine fam_cons.2 ⟨⟨hrow, fun j e => Nat.lt_of_lt_of_le (h.lt e).2.1 hh⟩, hin.grown hg (fun r hr j e e2 => hne r hr (e.trans e2.symm)), fun y hy j e e2 => hne y hy ?_⟩
  rw [e]
  exact e2.symm
/-- One element's three cells laid anew. -/
theorem PFe.setE {w : World} {lo hi hi' g n cap : Nat} {es : List Pe} (h : PFe w lo hi (.slice (some ⟨g, 0, none⟩) n cap) es) (hn : n = es.length) (hh : hi ≤ hi') (i : Nat) (hi1 : i < es.length) (x : Pe)
    (hin : Fam w lo hi' ((es.set i x).flatMap Pe.rows)) (hne : ∀ r ∈ x.rows, r.v.ownBlock ≠ some g) :
    PFe (((w.setCell ⟨g, i * 3, none⟩ (.int .i64 x.n)).setCell ⟨g, i * 3 + 1, none⟩ x.u).setCell ⟨g, i * 3 + 2, none⟩ x.v) lo hi' (.slice (some ⟨g, 0, none⟩) n cap) (es.set i x) := by
  subst hn
  have ho := h.own
  have s1 := World.ownsRow.stored ho (i * 3) (.int .i64 x.n)
  have s2 := World.ownsRow.stored s1.1 (i * 3 + 1) x.u
  have s3 := World.ownsRow.stored s2.1 (i * 3 + 2) x.v
  refine h.lay ?_ (grownBy_trans (grownBy_trans s1.2 s2.2) s3.2) hh hin (fun r hr => ?_)
  · rw [List.length_set, flat_set3 _ _ _ hi1]; exact s3.1
  · obtain ⟨e, he, hr2⟩ := List.mem_flatMap.1 hr
    rcases List.mem_or_eq_of_mem_set he with h1 | rfl
    · have := h.inner h1
      simp only [Pe.rows, List.mem_cons, List.not_mem_nil, or_false] at hr2
      rcases hr2 with rfl | rfl
      · exact fun e2 => (this.2.1 g e2).2 rfl
      · exact fun e2 => (this.2.2 g e2).2 rfl
    · exact hne r hr2
/-- The inner family where one element's rows are put in the place of another's. -/
theorem fam_two {w : World} {lo hi hi' : Nat} {A B : List Row} {y1 y2 : Row} (h : Fam w lo hi (A ++ B)) (hh : hi ≤ hi') (o1 : y1.own w lo) (o2 : y2.own w lo) (b1 : ∀ j, y1.v.ownBlock = some j → hi ≤ j ∧ j < hi') (b2 : ∀ j, y2.v.ownBlock = some j → hi ≤ j ∧ j < hi') (ha : y1.apart y2) :
    Fam w lo hi' (A ++ y1 :: y2 :: B) := by
  have k2 : Fam w lo hi' (A ++ y2 :: B) := h.putNew hh o2 b2
  refine k2.put o1 (fun j e => (b1 j e).2) (fun r hr j hj e => ?_)
  rcases List.mem_append.1 hr with h1 | h1
  · have := (h.1 r (by simp [h1])).2 j hj
    have := (b1 j e).1
    omega
  · rcases List.mem_cons.1 h1 with rfl | h1
    · exact ha j e hj
    · have := (h.1 r (by simp [h1])).2 j hj
      have := (b1 j e).1
      omega
theorem PFe.innerFam {w : World} {lo hi : Nat} {v : Value} {es : List Pe} (h : PFe w lo hi v es) : Fam w lo hi (es.flatMap Pe.rows) := (fam_cons.1 h).2.1
/-- A new element laid in the place of another, its rows behind all others. -/
theorem PFe.putNew {w : World} {lo hi hi' g n cap : Nat} {es : List Pe} (h : PFe w lo hi (.slice (some ⟨g, 0, none⟩) n cap) es) (hn : n = es.length) (hh : hi ≤ hi') (i : Nat) (hi1 : i < es.length) (x : Pe)
    (o1 : w.ownsRow lo 9 1 x.u x.d.length (vStrs x.d)) (o2 : w.ownsRow lo 4 1 x.v x.h.length (vBools x.h)) (b1 : ∀ j, x.u.ownBlock = some j → hi ≤ j ∧ j < hi') (b2 : ∀ j, x.v.ownBlock = some j → hi ≤ j ∧ j < hi') (ha : ∀ j, x.u.ownBlock = some j → x.v.ownBlock ≠ some j) :
    PFe (((w.setCell ⟨g, i * 3, none⟩ (.int .i64 x.n)).setCell ⟨g, i * 3 + 1, none⟩ x.u).setCell ⟨g, i * 3 + 2, none⟩ x.v) lo hi' (.slice (some ⟨g, 0, none⟩) n cap) (es.set i x) := by
  have hf := h.innerFam
  have hgh := (h.lt (j := g) rfl).2.1
  rw [split_at es i .z hi1, List.flatMap_append, List.flatMap_cons] at hf
  refine h.setE hn hh i hi1 x ?_ (fun r hr => ?_)
  · rw [set_at es i x hi1, List.flatMap_append, List.flatMap_cons]
    exact fam_two (y1 := ⟨9, 1, x.u, x.d.length, vStrs x.d⟩) (y2 := ⟨4, 1, x.v, x.h.length, vBools x.h⟩) (hf.sub (by simp)) hh o1 o2 b1 b2 ha
  · simp only [Pe.rows, List.mem_cons, List.not_mem_nil, or_false] at hr
    rcases hr with rfl | rfl
    · exact fun e => by have := (b1 g e).1; omega
    · exact fun e => by have := (b2 g e).1; omega
/-- One element more behind a row that has grown. -/
theorem PFe.snoc {w w' : World} {lo hi hi' : Nat} {v v' : Value} {es : List Pe} {x : Pe} (h : PFe w lo hi v es) (_hhs : hi ≤ w.heap.size) (hg : w.grownBy w' v.ownBlock) (hrow : w'.ownsRow lo 62 3 v' (es.length + 1) (es.flatMap Pe.cs ++ x.cs)) (hat : v'.ownBlock = v.ownBlock ∨ ∀ j, v'.ownBlock = some j → w.heap.size ≤ j) (hh : hi ≤ hi') (hs : ∀ j, v'.ownBlock = some j → j < hi')
    (o1 : w.ownsRow lo 9 1 x.u x.d.length (vStrs x.d)) (o2 : w.ownsRow lo 4 1 x.v x.h.length (vBools x.h)) (b1 : ∀ j, x.u.ownBlock = some j → hi ≤ j ∧ j < hi') (b2 : ∀ j, x.v.ownBlock = some j → hi ≤ j ∧ j < hi') (ha : ∀ j, x.u.ownBlock = some j → x.v.ownBlock ≠ some j) :
    PFe w' lo hi' v' (es ++ [x]) := by
  have hf := h.innerFam
  have hnew : Fam w lo hi' ((es ++ [x]).flatMap Pe.rows) := by
    rw [List.flatMap_append]
    show Fam w lo hi' (es.flatMap Pe.rows ++ [⟨9, 1, x.u, x.d.length, vStrs x.d⟩, ⟨4, 1, x.v, x.h.length, vBools x.h⟩])
    exact fam_two (B := []) (by rw [List.append_nil]; exact hf) hh o1 o2 b1 b2 ha
  have hoff : ∀ r ∈ (es ++ [x]).flatMap Pe.rows, ∀ j, r.v.ownBlock = some j → v.ownBlock ≠ some j := by
    intro r hr j hj
    rw [List.flatMap_append] at hr
    rcases List.mem_append.1 hr with h1 | h1
    · exact (fam_cons.1 h).2.2 r h1 j hj
    · intro e
      have h3 := (h.lt e).2.1
      have h4 : hi ≤ j := by
        rw [List.flatMap_cons, List.flatMap_nil, List.append_nil] at h1
        simp only [Pe.rows, List.mem_cons, List.not_mem_nil, or_false] at h1
        rcases h1 with rfl | rfl
        · exact (b1 j hj).1
        · exact (b2 j hj).1
      omega
  refine fam_cons.2 ⟨⟨?_, hs⟩, hnew.grown hg hoff, fun y hy j e e2 => ?_⟩
  · show w'.ownsRow lo 62 3 v' (es ++ [x]).length ((es ++ [x]).flatMap Pe.cs)
    rw [List.length_append, List.flatMap_append]
    simpa using hrow
  · rcases hat with e3 | e3
    · exact hoff y hy j e (e3.symm.trans e2)
    · have h1 := e3 j e2
      have := ((hnew.1 y hy).1.lt j e).2
      omega
end Go.Proofs.YtnngklclehffhaaGreatDoor
