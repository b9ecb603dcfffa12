/- Lists of groups: readings, rows of the call's own, and what stores make of them. -/
import Derived.Test.YtmblofcaiaeiaaaGreatDoorKWGrp2
import Derived.Test.YtmblofcaiaeiaaaGreatDoorJ10
namespace Go.Proofs.YtmblofcaiaeiaaaGreatDoor
open Go.RowKit
set_option maxHeartbeats 400000
set_option maxRecDepth 100000
structure Grp where
  s : ByteArray
  xs : List Int
def Grp.z : Grp := ⟨ByteArray.empty, []⟩
/-- The two cells of a group. -/
structure Gc where
  s : ByteArray
  u : Value
def Gc.z : Gc := ⟨ByteArray.empty, .slice none 0 0⟩
def Gc.cs (x : Gc) : List Value := [.string x.s, x.u]
theorem Gc.cs_len (x : Gc) : x.cs.length = 2 := rfl
theorem gcs_len (cs : List Gc) : (cs.flatMap Gc.cs).length = cs.length * 2 := flat_len Gc.cs 2 Gc.cs_len cs
theorem gcs_get (cs : List Gc) (i : Nat) (hi : i < cs.length) : (cs.flatMap Gc.cs)[i * 2]? = some (.string (cs.getD i .z).s) ∧ (cs.flatMap Gc.cs)[i * 2 + 1]? = some (cs.getD i .z).u := by
  have h0 := flat_get Gc.cs .z 2 Gc.cs_len cs i 0 hi (by omega)
  have h1 := flat_get Gc.cs .z 2 Gc.cs_len cs i 1 hi (by omega)
  exact ⟨h0, h1⟩
/-- A slice of groups that can be read. -/
def GRd (w : World) (v : Value) (gs : List Grp) (cs : List Gc) : Prop :=
  cs.length = gs.length ∧ Rd w 2 v gs.length (cs.flatMap Gc.cs) ∧ ∀ i, i < gs.length → (cs.getD i .z).s = (gs.getD i .z).s ∧ Rd w 1 (cs.getD i .z).u (gs.getD i .z).xs.length (vInts (gs.getD i .z).xs)
theorem GRd.ext {w w' : World} {v : Value} {gs : List Grp} {cs : List Gc} (h : GRd w v gs cs) (hx : Ext w w') : GRd w' v gs cs :=
  ⟨h.1, h.2.1.ext hx, fun i hi => ⟨(h.2.2 i hi).1, (h.2.2 i hi).2.ext hx⟩⟩
theorem GRd.at {w : World} {gs : List Grp} {cs : List Gc} {b off cap : Nat} (h : GRd w (.slice (some ⟨b, off, none⟩) gs.length cap) gs cs) (i : Nat) (hi : i < gs.length) :
    w.cell? ⟨b, off + i * 2, none⟩ = some (.string (gs.getD i .z).s) ∧ w.cell? ⟨b, off + i * 2 + 1, none⟩ = some (cs.getD i .z).u := by
  obtain ⟨hl, ⟨h1, p, c, e, h4⟩, h3⟩ := h
  cases e
  obtain ⟨b', off', e, h6⟩ := h4.resolve_left (by omega)
  cases e
  have hc := flat_cell Gc.cs .z 2 Gc.cs_len cs h6 i
  have h0 := hc 0 (by omega) (by omega)
  have h1 := hc 1 (by omega) (by omega)
  rw [← (h3 i hi).1]
  exact ⟨h0, h1⟩
/-- A slice of groups that the call owns: its blocks lie from lo to hi, each apart from the others. -/
def GOw (w : World) (lo hi : Nat) (v : Value) (gs : List Grp) (cs : List Gc) : Prop :=
  cs.length = gs.length ∧ w.ownsRow lo 42 2 v gs.length (cs.flatMap Gc.cs) ∧ (∀ b, v.ownBlock = some b → b < hi) ∧
  ∀ i, i < gs.length → (cs.getD i .z).s = (gs.getD i .z).s ∧ w.ownsRow lo 3 1 (cs.getD i .z).u (gs.getD i .z).xs.length (vInts (gs.getD i .z).xs) ∧
    ∀ b, (cs.getD i .z).u.ownBlock = some b → b < hi ∧ v.ownBlock ≠ some b ∧ ∀ j, j < gs.length → j ≠ i → (cs.getD j .z).u.ownBlock ≠ some b
theorem GOw.rd {w : World} {lo hi : Nat} {v : Value} {gs : List Grp} {cs : List Gc} (h : GOw w lo hi v gs cs) : GRd w v gs cs :=
  ⟨h.1, Rd.own h.2.1, fun i hi => ⟨(h.2.2.2 i hi).1, Rd.own (h.2.2.2 i hi).2.1⟩⟩
theorem GOw.ext {w w' : World} {lo hi : Nat} {v : Value} {gs : List Grp} {cs : List Gc} (h : GOw w lo hi v gs cs) (hx : Ext w w') : GOw w' lo hi v gs cs :=
  ⟨h.1, own_ext h.2.1 hx, h.2.2.1, fun i hi => ⟨(h.2.2.2 i hi).1, own_ext (h.2.2.2 i hi).2.1 hx, (h.2.2.2 i hi).2.2⟩⟩
theorem GOw.wide {w : World} {lo lo' hi hi' : Nat} {v : Value} {gs : List Grp} {cs : List Gc} (h : GOw w lo hi v gs cs) (h1 : lo' ≤ lo) (h2 : hi ≤ hi') : GOw w lo' hi' v gs cs :=
  ⟨h.1, own_mono h.2.1 h1, fun b hb => Nat.lt_of_lt_of_le (h.2.2.1 b hb) h2, fun i hi => ⟨(h.2.2.2 i hi).1, own_mono (h.2.2.2 i hi).2.1 h1, fun b hb => ⟨Nat.lt_of_lt_of_le ((h.2.2.2 i hi).2.2 b hb).1 h2, ((h.2.2.2 i hi).2.2 b hb).2⟩⟩⟩
theorem GOw.turned {w w' : World} {lo hi lo' hi' : Nat} {v : Value} {gs : List Grp} {cs : List Gc} (h : GOw w lo hi v gs cs) (ht : Turn lo' hi' w w') (hd : hi' ≤ lo ∨ hi ≤ lo') : GOw w' lo hi v gs cs :=
  ⟨h.1, own_turned h.2.1 ht (fun j hj => by have := h.2.2.1 j hj; have := (own_row h.2.1 j hj).1; omega), h.2.2.1,
    fun i hi => ⟨(h.2.2.2 i hi).1, own_turned (h.2.2.2 i hi).2.1 ht (fun j hj => by have := ((h.2.2.2 i hi).2.2 j hj).1; have := (own_row (h.2.2.2 i hi).2.1 j hj).1; omega), (h.2.2.2 i hi).2.2⟩⟩
theorem getD_set {α : Type} (l : List α) (i j : Nat) (x z : α) (hi : i < l.length) : (l.set i x).getD j z = if j = i then x else l.getD j z := by
  rw [List.getD_eq_getElem?_getD, List.getElem?_set, List.getD_eq_getElem?_getD]
  by_cases h : i = j
  · subst h; rw [if_pos rfl, if_pos hi, if_pos rfl]; rfl
  · rw [if_neg h, if_neg (fun e => h e.symm)]
theorem flat_set2 (cs : List Gc) (i : Nat) (x : Gc) (hi : i < cs.length) : (cs.set i x).flatMap Gc.cs = ((cs.flatMap Gc.cs).set (i * 2) (.string x.s)).set (i * 2 + 1) x.u := by
  induction cs generalizing i with
  | nil => simp at hi
  | cons c cs ih =>
    cases i with
    | zero => simp [Gc.cs]
    | succ i =>
      rw [List.set_cons_succ, List.flatMap_cons, List.flatMap_cons, ih i (by simpa using hi)]
      have e1 : (i + 1) * 2 = i * 2 + 1 + 1 := by omega
      rw [e1]
      simp [Gc.cs]
/-- A new name. -/
theorem GOw.setName {w : World} {lo hi g n cap : Nat} {gs : List Grp} {cs : List Gc} (h : GOw w lo hi (.slice (some ⟨g, 0, none⟩) n cap) gs cs) (hn : n = gs.length) (i : Nat) (hi' : i < gs.length) (s : ByteArray) :
    GOw (w.setCell ⟨g, i * 2, none⟩ (.string s)) lo hi (.slice (some ⟨g, 0, none⟩) n cap) (gs.set i ⟨s, (gs.getD i .z).xs⟩) (cs.set i ⟨s, (cs.getD i .z).u⟩) := by
  subst hn
  obtain ⟨hl, ho, hv, hm⟩ := h
  have hst := World.ownsRow.stored ho (i * 2) (.string s)
  have hget := gcs_get cs i (by omega)
  have he : (cs.set i ⟨s, (cs.getD i .z).u⟩).flatMap Gc.cs = (cs.flatMap Gc.cs).set (i * 2) (.string s) := by
    rw [flat_set2 _ _ _ (by omega)]
    apply List.ext_getElem?
    intro k
    rw [List.getElem?_set]
    split
    · rename_i e
      subst e
      rw [if_pos (by rw [List.length_set, gcs_len]; omega), List.getElem?_set_ne (by omega), hget.2]
    · rfl
  refine ⟨by rw [List.length_set, List.length_set]; exact hl, by rw [List.length_set, he]; exact hst.1, hv, fun k hk => ?_⟩
  rw [List.length_set] at hk
  rw [getD_set _ _ _ _ _ (by omega), getD_set _ _ _ _ _ hi']
  have hk' := hm k hk
  have hcu : ∀ j, ((cs.set i ⟨s, (cs.getD i .z).u⟩).getD j .z).u = (cs.getD j .z).u := fun j => by
    rw [getD_set _ _ _ _ _ (by omega)]
    split
    · rename_i e; subst e; rfl
    · rfl
  have hkeep : (w.setCell ⟨g, i * 2, none⟩ (.string s)).ownsRow lo 3 1 (cs.getD k .z).u (gs.getD k .z).xs.length (vInts (gs.getD k .z).xs) :=
    hk'.2.1.kept hst.2 (by
      cases hu : (cs.getD k .z).u.ownBlock with
      | none => exact .inl rfl
      | some b => exact .inr (fun e => (hk'.2.2 b hu).2.1 e.symm))
  have hap : ∀ b, (cs.getD k .z).u.ownBlock = some b → b < hi ∧ (Value.slice (some ⟨g, 0, none⟩) gs.length cap).ownBlock ≠ some b ∧ ∀ j, j < (gs.set i ⟨s, (gs.getD i .z).xs⟩).length → j ≠ k → ((cs.set i ⟨s, (cs.getD i .z).u⟩).getD j .z).u.ownBlock ≠ some b := fun b hb =>
    ⟨(hk'.2.2 b hb).1, (hk'.2.2 b hb).2.1, fun j hj hjk => by rw [hcu]; exact (hk'.2.2 b hb).2.2 j (by simpa using hj) hjk⟩
  by_cases e : k = i
  · subst e
    rw [if_pos rfl, if_pos rfl]
    exact ⟨rfl, hkeep, hap⟩
  · rw [if_neg e, if_neg e]
    exact ⟨hk'.1, hkeep, hap⟩
/-- A group's members have turned in place. -/
theorem GOw.turnMembers {w w' : World} {lo hi : Nat} {v : Value} {gs : List Grp} {cs : List Gc} (h : GOw w lo hi v gs cs) (i : Nat) (hi' : i < gs.length) (ys : List Int)
    (hg : w.grownBy w' (cs.getD i .z).u.ownBlock) (ho : w'.ownsRow lo 3 1 (cs.getD i .z).u ys.length (vInts ys)) : GOw w' lo hi v (gs.set i ⟨(gs.getD i .z).s, ys⟩) cs := by
  obtain ⟨hl, hr, hv, hm⟩ := h
  refine ⟨by rw [List.length_set]; exact hl, ?_, hv, fun k hk => ?_⟩
  · rw [List.length_set]
    refine hr.kept hg ?_
    cases hb : v.ownBlock with
    | none => exact .inl rfl
    | some b => exact .inr (fun e => ((hm i hi').2.2 b e.symm).2.1 hb)
  rw [List.length_set] at hk
  rw [getD_set _ _ _ _ _ hi']
  have hk' := hm k hk
  have hap : ∀ b, (cs.getD k .z).u.ownBlock = some b → b < hi ∧ v.ownBlock ≠ some b ∧ ∀ j, j < (gs.set i ⟨(gs.getD i .z).s, ys⟩).length → j ≠ k → (cs.getD j .z).u.ownBlock ≠ some b := fun b hb =>
    ⟨(hk'.2.2 b hb).1, (hk'.2.2 b hb).2.1, fun j hj hjk => (hk'.2.2 b hb).2.2 j (by simpa using hj) hjk⟩
  by_cases e : k = i
  · subst e
    rw [if_pos rfl]
    exact ⟨hk'.1, ho, hap⟩
  · rw [if_neg e]
    refine ⟨hk'.1, hk'.2.1.kept hg ?_, hap⟩
    cases hb : (cs.getD k .z).u.ownBlock with
    | none => exact .inl rfl
    | some b => exact .inr (fun e' => ((hm i hi').2.2 b e'.symm).2.2 k hk e hb)
end Go.Proofs.YtmblofcaiaeiaaaGreatDoor
