/- Lists of groups in the laws' own words. -/
import Derived.Test.YtmblofcaiaeiaaaGreatDoorKWGs
namespace Go.Proofs.YtmblofcaiaeiaaaGreatDoor
open Go.RowKit
set_option maxHeartbeats 400000
set_option maxRecDepth 100000
theorem infoGrp : (Tryz.prog.info? 42).map (fun i => (i.zero, i.size, i.bytes)) = some (some (.agg #[.string ByteArray.empty, .slice none 0 0]), 2, 40) := by kernel_rfl
theorem GRd.form {w : World} {v : Value} {gs : List Grp} {cs : List Gc} (h : GRd w v gs cs) : ∃ p cap, v = .slice p gs.length cap ∧ (gs.length = 0 ∨ ∃ b off, p = some ⟨b, off, none⟩) := by
  obtain ⟨-, ⟨-, p, cap, e, h4⟩, -⟩ := h
  refine ⟨p, cap, e, h4.imp id ?_⟩
  rintro ⟨b, off, e, -⟩
  exact ⟨b, off, e⟩
/-- A group's members lie in another block. -/
theorem GOw.setU {w : World} {lo hi g n cap : Nat} {gs : List Grp} {cs : List Gc} (h : GOw w lo hi (.slice (some ⟨g, 0, none⟩) n cap) gs cs) (hn : n = gs.length) (i : Nat) (hi' : i < gs.length) (u : Value) (ys : List Int)
    (hu : w.ownsRow lo 3 1 u ys.length (vInts ys)) (hap : ∀ b, u.ownBlock = some b → b < hi ∧ b ≠ g ∧ ∀ j, j < gs.length → j ≠ i → (cs.getD j .z).u.ownBlock ≠ some b) :
    GOw (w.setCell ⟨g, i * 2 + 1, none⟩ u) lo hi (.slice (some ⟨g, 0, none⟩) n cap) (gs.set i ⟨(gs.getD i .z).s, ys⟩) (cs.set i ⟨(cs.getD i .z).s, u⟩) := by
  subst hn
  obtain ⟨hl, ho, hv, hm⟩ := h
  have hst := World.ownsRow.stored ho (i * 2 + 1) u
  have hget := gcs_get cs i (by omega)
  have he : (cs.set i ⟨(cs.getD i .z).s, u⟩).flatMap Gc.cs = (cs.flatMap Gc.cs).set (i * 2 + 1) u := by
    rw [flat_set2 _ _ _ (by omega)]
    congr 1
    apply List.ext_getElem?
    intro k
    rw [List.getElem?_set]
    split
    · rename_i e
      subst e
      rw [if_pos (by rw [gcs_len]; omega), hget.1]
    · rfl
  refine ⟨by rw [List.length_set, List.length_set]; exact hl, by rw [List.length_set, he]; exact hst.1, hv, fun k hk => ?_⟩
  rw [List.length_set] at hk
  rw [getD_set _ _ _ _ _ (by omega), getD_set _ _ _ _ _ hi']
  have hk' := hm k hk
  have hkeep : ∀ (x : Value) (m : Nat) (ds : List Value), w.ownsRow lo 3 1 x m ds → (∀ b, x.ownBlock = some b → b ≠ g) → (w.setCell ⟨g, i * 2 + 1, none⟩ u).ownsRow lo 3 1 x m ds := fun x m ds hx hne =>
    hx.kept hst.2 (by
      cases hb : x.ownBlock with
      | none => exact .inl rfl
      | some b => exact .inr (fun e => by simp at e; exact hne b hb e))
  have hne : ∀ b, (cs.getD k .z).u.ownBlock = some b → b ≠ g := fun b hb e => by
    subst e
    exact (hk'.2.2 _ hb).2.1 rfl
  by_cases e : k = i
  · subst e
    rw [if_pos rfl, if_pos rfl]
    refine ⟨hk'.1, hkeep _ _ _ hu (fun b hb => (hap b hb).2.1), fun b hb => ⟨(hap b hb).1, fun e => (hap b hb).2.1 (by simpa [Value.ownBlock] using e.symm), fun j hj hjk => ?_⟩⟩
    rw [getD_set _ _ _ _ _ (by omega), if_neg hjk]
    exact (hap b hb).2.2 j (by simpa using hj) hjk
  · rw [if_neg e, if_neg e]
    refine ⟨hk'.1, hkeep _ _ _ hk'.2.1 hne, fun b hb => ⟨(hk'.2.2 b hb).1, (hk'.2.2 b hb).2.1, fun j hj hjk => ?_⟩⟩
    rw [getD_set _ _ _ _ _ (by omega)]
    split
    · rename_i e2
      subst e2
      exact fun e3 => (hap b e3).2.2 k hk e hb
    · exact (hk'.2.2 b hb).2.2 j (by simpa using hj) hjk
/-- The first k groups, and blanks behind them. -/
def pad (gs : List Grp) (k : Nat) : List Grp := gs.take k ++ List.replicate (gs.length - k) Grp.z
theorem pad_len (gs : List Grp) (k : Nat) (h : k ≤ gs.length) : (pad gs k).length = gs.length := by
  simp [pad]; omega
theorem pad_zero (gs : List Grp) : pad gs 0 = List.replicate gs.length Grp.z := by simp [pad]
theorem pad_all (gs : List Grp) : pad gs gs.length = gs := by simp [pad]
theorem pad_set (gs : List Grp) (k : Nat) (h : k < gs.length) : (pad gs k).set k (gs.getD k .z) = pad gs (k + 1) := by
  unfold pad
  rw [List.set_append_right _ _ (by rw [List.length_take]; omega), List.length_take, Nat.min_eq_left (by omega), Nat.sub_self, take_snoc gs .z k h]
  obtain ⟨m, hm⟩ : ∃ m, gs.length - k = m + 1 := ⟨gs.length - k - 1, by omega⟩
  rw [hm, show gs.length - (k + 1) = m by omega, List.replicate_succ, List.set_cons_zero, List.append_assoc]
  rfl
theorem rep_getD {α : Type} (n i : Nat) (z : α) : (List.replicate n z).getD i z = z := by
  rw [List.getD_eq_getElem?_getD, List.getElem?_replicate]
  split <;> rfl
theorem blank_cells : ∀ n : Nat, (List.replicate n Gc.z).flatMap Gc.cs = (madeCells #[.string ByteArray.empty, .slice none 0 0] (n * 2)).toList := by
  intro n
  apply List.ext_getElem?
  intro j
  by_cases hj : j < n * 2
  · have hr : (List.replicate n Gc.z).length = n := by simp
    have hc := gcs_get (List.replicate n Gc.z) (j / 2) (by rw [hr]; omega)
    rw [rep_getD] at hc
    have h2 : j % 2 = 0 ∨ j % 2 = 1 := by omega
    rcases h2 with h2 | h2
    · have : j = j / 2 * 2 := by omega
      rw [this, hc.1, ← this]
      simp [madeCells, hj, h2, Gc.z]
    · have : j = j / 2 * 2 + 1 := by omega
      rw [this, hc.2, ← this]
      simp [madeCells, hj, h2, Gc.z]
  · rw [List.getElem?_eq_none (by rw [gcs_len]; simp; omega), List.getElem?_eq_none (by simp [madeCells]; omega)]
/-- A row of blanks. -/
theorem GOw.blank {w : World} {lo g n cap : Nat} (h : w.ownsRow lo 42 2 (.slice (some ⟨g, 0, none⟩) n cap) n ((List.replicate n Gc.z).flatMap Gc.cs)) : GOw w lo w.heap.size (.slice (some ⟨g, 0, none⟩) n cap) (List.replicate n .z) (List.replicate n .z) := by
  refine ⟨by simp, by rw [List.length_replicate]; exact h, fun b hb => (own_row h b hb).2, fun i hi => ?_⟩
  rw [rep_getD, rep_getD]
  exact ⟨rfl, World.ownsRow_nil _ _ _ _, fun b hb => by cases hb⟩
end Go.Proofs.YtmblofcaiaeiaaaGreatDoor
