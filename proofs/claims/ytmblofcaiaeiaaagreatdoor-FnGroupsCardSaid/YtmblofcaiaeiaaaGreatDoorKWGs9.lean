/- Lists of groups: what becomes of them as wholes. -/
import Derived.Test.YtmblofcaiaeiaaaGreatDoorKWGs8
namespace Go.Proofs.YtmblofcaiaeiaaaGreatDoor
open Go.RowKit
set_option maxHeartbeats 400000
set_option maxRecDepth 100000
theorem GOw.nil (w : World) (lo hi : Nat) : GOw w lo hi (.slice none 0 0) [] [] := ⟨rfl, World.ownsRow_nil _ _ _ _, fun b hb => (by cases hb), fun i hi => absurd hi (Nat.not_lt_zero _)⟩
/-- The row itself is kept where another block turns. -/
theorem GOw.rowKept {w w2 : World} {lo hi : Nat} {v : Value} {gs : List Grp} {cs : List Gc} (h : GOw w lo hi v gs cs) (i : Nat) (hi' : i < gs.length) (hg : w.grownBy w2 (cs.getD i .z).u.ownBlock) : w2.ownsRow lo 42 2 v gs.length (cs.flatMap Gc.cs) := by
  refine h.2.1.kept hg ?_
  cases hb : v.ownBlock with
  | none => exact .inl rfl
  | some b => exact .inr (fun e => ((h.2.2.2 i hi').2.2 b e.symm).2.1 hb)
/-- A group's members have become another row, in their block or in a new one. -/
theorem GOw.swap {w w2 : World} {lo hi hi' g n cap : Nat} {gs : List Grp} {cs : List Gc} (h : GOw w lo hi (.slice (some ⟨g, 0, none⟩) n cap) gs cs) (hn : n = gs.length) (hhi : hi ≤ w.heap.size) (i : Nat) (hil : i < gs.length) (r : Value) (ys : List Int)
    (hg : w.grownBy w2 (cs.getD i .z).u.ownBlock) (ho : w2.ownsRow lo 3 1 r ys.length (vInts ys)) (hb : ∀ b, r.ownBlock = some b → (cs.getD i .z).u.ownBlock = some b ∨ w.heap.size ≤ b) (h1 : hi ≤ hi') (h2 : w2.heap.size ≤ hi') :
    GOw (w2.setCell ⟨g, i * 2 + 1, none⟩ r) lo hi' (.slice (some ⟨g, 0, none⟩) n cap) (gs.set i ⟨(gs.getD i .z).s, ys⟩) (cs.set i ⟨(cs.getD i .z).s, r⟩) := by
  subst hn
  have hrow := h.rowKept i hil hg
  obtain ⟨hl, hr, hv, hm⟩ := h
  have hgh : g < hi := hv g rfl
  have hst := World.ownsRow.stored hrow (i * 2 + 1) r
  have hget := gcs_get cs i (by omega)
  have he : (cs.set i ⟨(cs.getD i .z).s, r⟩).flatMap Gc.cs = (cs.flatMap Gc.cs).set (i * 2 + 1) r := by
    rw [flat_set2 _ _ _ (by omega)]
    congr 1
    apply List.ext_getElem?
    intro k
    rw [List.getElem?_set]
    split
    · rename_i e
      subst e
      rw [if_pos (by rw [gcs_len]; omega), hget.1]
    · rfl
  have hrb : ∀ b, r.ownBlock = some b → b ≠ g := fun b e => by
    rcases hb b e with e1 | e1
    · intro e2; subst e2; exact ((hm i hil).2.2 _ e1).2.1 rfl
    · omega
  have hkeep : ∀ (x : Value) (m : Nat) (ds : List Value), w2.ownsRow lo 3 1 x m ds → (∀ b, x.ownBlock = some b → b ≠ g) → (w2.setCell ⟨g, i * 2 + 1, none⟩ r).ownsRow lo 3 1 x m ds := fun x m ds hx hne =>
    hx.kept hst.2 (by
      cases hb : x.ownBlock with
      | none => exact .inl rfl
      | some b => exact .inr (fun e => by simp at e; exact hne b hb e))
  refine ⟨by rw [List.length_set, List.length_set]; exact hl, by rw [List.length_set, he]; exact hst.1, fun b e => Nat.lt_of_lt_of_le (hv b e) h1, fun k hk => ?_⟩
  rw [List.length_set] at hk
  rw [getD_set _ _ _ _ _ (by omega), getD_set _ _ _ _ _ hil]
  have hmk := hm k hk
  by_cases e : k = i
  · subst e
    rw [if_pos rfl, if_pos rfl]
    refine ⟨hmk.1, hkeep _ _ _ ho hrb, fun b e => ⟨Nat.lt_of_lt_of_le (own_row ho b e).2 h2, fun e2 => hrb b e (Option.some.inj e2).symm, fun j hj hjk => ?_⟩⟩
    rw [getD_set _ _ _ _ _ (by omega), if_neg hjk]
    intro e3
    rw [List.length_set] at hj
    rcases hb b e with e1 | e1
    · exact (hmk.2.2 b e1).2.2 j hj hjk e3
    · have := ((hm j hj).2.2 b e3).1
      omega
  · rw [if_neg e, if_neg e]
    have hk2 : w2.ownsRow lo 3 1 (cs.getD k .z).u (gs.getD k .z).xs.length (vInts (gs.getD k .z).xs) := hmk.2.1.kept hg (by
      cases hb : (cs.getD k .z).u.ownBlock with
      | none => exact .inl rfl
      | some b => exact .inr (fun e' => ((hm i hil).2.2 b e'.symm).2.2 k hk e hb))
    refine ⟨hmk.1, hkeep _ _ _ hk2 (fun b hb e2 => by subst e2; exact (hmk.2.2 _ hb).2.1 rfl), fun b hb' => ⟨Nat.lt_of_lt_of_le (hmk.2.2 b hb').1 h1, (hmk.2.2 b hb').2.1, fun j hj hjk => ?_⟩⟩
    rw [getD_set _ _ _ _ _ (by omega)]
    split
    · rename_i e2
      subst e2
      intro e3
      rcases hb b e3 with e1 | e1
      · exact (hmk.2.2 b hb').2.2 j hil hjk e1
      · have := (hmk.2.2 b hb').1
        omega
    · exact (hmk.2.2 b hb').2.2 j (by simpa using hj) hjk
/-- A list without its i-th element. -/
def ers {α : Type} (l : List α) (i : Nat) : List α := l.take i ++ l.drop (i + 1)
theorem ers_len {α : Type} (l : List α) (i : Nat) (h : i < l.length) : (ers l i).length = l.length - 1 := by
  rw [ers, List.length_append, List.length_take, List.length_drop]; omega
theorem ers_getD {α : Type} (l : List α) (i j : Nat) (z : α) (h : i < l.length) : (ers l i).getD j z = if j < i then l.getD j z else l.getD (j + 1) z := by
  rw [ers, List.getD_eq_getElem?_getD]
  split
  · rename_i hj
    rw [List.getElem?_append_left (by rw [List.length_take]; omega), List.getElem?_take, if_pos hj, List.getD_eq_getElem?_getD]
  · rename_i hj
    rw [List.getElem?_append_right (by rw [List.length_take]; omega), List.length_take, List.getElem?_drop, List.getD_eq_getElem?_getD, show i + 1 + (j - min i l.length) = j + 1 by omega]
theorem GOw.erase {w w2 : World} {lo hi g n cap : Nat} {gs : List Grp} {cs : List Gc} (h : GOw w lo hi (.slice (some ⟨g, 0, none⟩) n cap) gs cs) (hn : n = gs.length) (i : Nat) (hil : i < gs.length)
    (ho : w2.ownsRow lo 42 2 (.slice (some ⟨g, 0, none⟩) (n - 1) cap) (n - 1) ((ers cs i).flatMap Gc.cs)) (hg : w.grownBy w2 (some g)) : GOw w2 lo hi (.slice (some ⟨g, 0, none⟩) (n - 1) cap) (ers gs i) (ers cs i) := by
  subst hn
  obtain ⟨hl, hr, hv, hm⟩ := h
  have hlg := ers_len gs i hil
  refine ⟨by rw [hlg, ers_len cs i (by omega), hl], by rw [hlg]; exact ho, hv, fun k hk => ?_⟩
  rw [hlg] at hk
  have key : ∀ j, j < gs.length - 1 → (ers gs i).getD j .z = gs.getD (if j < i then j else j + 1) .z ∧ (ers cs i).getD j .z = cs.getD (if j < i then j else j + 1) .z := fun j _ => by
    rw [ers_getD gs i j .z hil, ers_getD cs i j .z (by omega)]
    split <;> exact ⟨rfl, rfl⟩
  rw [(key k hk).1, (key k hk).2]
  have hml : (if k < i then k else k + 1) < gs.length := by split <;> omega
  have hmk := hm _ hml
  refine ⟨hmk.1, hmk.2.1.kept hg (by
      cases hb : (cs.getD (if k < i then k else k + 1) .z).u.ownBlock with
      | none => exact .inl rfl
      | some b => exact .inr (fun e => (hmk.2.2 b hb).2.1 e.symm)), fun b hb => ⟨(hmk.2.2 b hb).1, fun e => (hmk.2.2 b hb).2.1 e, fun j hj hjk => ?_⟩⟩
  rw [hlg] at hj
  rw [(key j hj).2]
  refine (hmk.2.2 b hb).2.2 _ (by split <;> omega) ?_
  split <;> split <;> omega
theorem GOw.one {w : World} {lo hi : Nat} {v : Value} {gs : List Grp} {cs : List Gc} (h : GOw w lo hi v gs cs) : ∀ u ∈ cs.flatMap Gc.cs, u.oneCell' = true := by
  intro u hu
  obtain ⟨x, hx0, hx⟩ := List.mem_flatMap.1 hu
  obtain ⟨i, hi', rfl⟩ := List.mem_iff_getElem.1 hx0
  simp only [Gc.cs, List.mem_cons, List.not_mem_nil, or_false] at hx
  rcases hx with rfl | rfl
  · rfl
  · have := (h.2.2.2 i (by rw [← h.1]; exact hi')).2.1
    rw [List.getD_eq_getElem?_getD, List.getElem?_eq_getElem hi', Option.getD_some] at this
    obtain ⟨p, c, e⟩ := own_shape this
    rw [e]; rfl
/-- slices.Delete at a list that the call owns. -/
theorem slices_Delete_grp {w : World} {lo hi g cap : Nat} {gs : List Grp} {cs : List Gc} (h : GOw w lo hi (.slice (some ⟨g, 0, none⟩) gs.length cap) gs cs) (i : Nat) (hil : i < gs.length) (h2 : gs.length ≤ 1048576) :
    Calls Tryz.prog 42 #[.slice (some ⟨g, 0, none⟩) gs.length cap, .int .i64 i, .int .i64 ((i : Int) + 1)] w fun e w' => e = .returned (.slice (some ⟨g, 0, none⟩) (gs.length - 1) cap) ∧
      GOw w' lo hi (.slice (some ⟨g, 0, none⟩) (gs.length - 1) cap) (ers gs i) (ers cs i) ∧ w.grownBy w' (some g) := by
  have hl := h.1
  have := slices_Delete_row cs g cap i lo w (by rw [hl]; exact h.2.1) (by omega) (by omega) h.one
  rw [hl] at this
  exact this.mono fun e w' ⟨a, b, c⟩ => ⟨a, h.erase rfl i hil b c, c⟩
/-- The cells of one group in a row of the call's own. -/
theorem grp_cells {w : World} {lo g cap : Nat} {gs : List Grp} {cs : List Gc} (h : w.ownsRow lo 42 2 (.slice (some ⟨g, 0, none⟩) gs.length cap) gs.length (cs.flatMap Gc.cs)) (k : Nat) (hk : k < gs.length) :
    (w.cell? ⟨g, k * 2, none⟩ = some (.string (cs.getD k .z).s) ∧ w.cell? ⟨g, k * 2 + 1, none⟩ = some (cs.getD k .z).u) ∧ w.frozen? ⟨g, k * 2, none⟩ = false ∧ w.frozen? ⟨g, k * 2 + 1, none⟩ = false := by
  have hl : cs.length = gs.length := by have := h.1; rw [gcs_len] at this; omega
  have hg := gcs_get cs k (by omega)
  exact ⟨⟨(h.cellAt _ (by omega)).trans hg.1, (h.cellAt _ (by omega)).trans hg.2⟩, h.frozenAt _, h.frozenAt _⟩
end Go.Proofs.YtmblofcaiaeiaaaGreatDoor
