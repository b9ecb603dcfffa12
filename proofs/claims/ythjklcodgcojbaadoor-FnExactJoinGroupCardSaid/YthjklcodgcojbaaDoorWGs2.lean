/- Lists of groups in the laws' own words. -/
import Derived.Test.YthjklcodgcojbaaDoorWGs
namespace Go.Proofs.YthjklcodgcojbaaDoor
open Go.RowKit
set_option maxHeartbeats 400000
set_option maxRecDepth 100000
theorem infoGrp : (Tryd.prog.info? 46).map (fun i => (i.zero, i.size, i.bytes)) = some (some (.agg #[.string ByteArray.empty, .slice none 0 0]), 2, 40) := by kernel_rfl
theorem GRd.form {w : World} {v : Value} {gs : List Grp} {cs : List Gc} (h : GRd w v gs cs) : ∃ p cap, v = .slice p gs.length cap ∧ (gs.length = 0 ∨ ∃ b off, p = some ⟨b, off, none⟩) := by
  obtain ⟨-, ⟨-, p, cap, e, h4⟩, -⟩ := h
  refine ⟨p, cap, e, h4.imp id ?_⟩
  rintro ⟨b, off, e, -⟩
  exact ⟨b, off, e⟩
/-- A group's members lie in another block. -/
theorem GOw.setU {w : World} {lo hi g n cap : Nat} {gs : List Grp} {cs : List Gc} (h : GOw w lo hi (.slice (some ⟨g, 0, none⟩) n cap) gs cs) (hn : n = gs.length) (i : Nat) (hi' : i < gs.length) (u : Value) (ys : List Int)
    (hu : w.ownsRow lo 3 1 u ys.length (vInts ys)) (hap : ∀ b, u.ownBlock = some b → b < hi ∧ b ≠ g ∧ ∀ j, j < gs.length → j ≠ i → (cs.getD j .z).u.ownBlock ≠ some b) :
    GOw (w.setCell ⟨g, i * 2 + 1, none⟩ u) lo hi (.slice (some ⟨g, 0, none⟩) n cap) (gs.set i ⟨(gs.getD i .z).s, ys⟩) (cs.set i ⟨(cs.getD i .z).s, u⟩) := by
  subst hn
  obtain ⟨hl, ho, hv, hm⟩ := h
  have hst := World.ownsRow.stored ho (i * 2 + 1) u
  have hget := gcs_get cs i (by omega)
  have he : (cs.set i ⟨(cs.getD i .z).s, u⟩).flatMap Gc.cs = (cs.flatMap Gc.cs).set (i * 2 + 1) u := by
    rw [flat_set2 _ _ _ (by omega)]
    congr 1
    apply List.ext_getElem?
    intro k
    rw [List.getElem?_set]
    split
    · rename_i e
      subst e
      rw [if_pos (by rw [gcs_len]; omega), hget.1]
    · rfl
  refine ⟨by rw [List.length_set, List.length_set]; exact hl, by rw [List.length_set, he]; exact hst.1, hv, fun k hk => ?_⟩
  rw [List.length_set] at hk
  rw [getD_set _ _ _ _ _ (by omega), getD_set _ _ _ _ _ hi']
  have hk' := hm k hk
  have hkeep : ∀ (x : Value) (m : Nat) (ds : List Value), w.ownsRow lo 3 1 x m ds → (∀ b, x.ownBlock = some b → b ≠ g) → (w.setCell ⟨g, i * 2 + 1, none⟩ u).ownsRow lo 3 1 x m ds := fun x m ds hx hne =>
    hx.kept hst.2 (by
      cases hb : x.ownBlock with
      | none => exact .inl rfl
      | some b => exact .inr (fun e => by simp at e; exact hne b hb e))
  have hne : ∀ b, (cs.getD k .z).u.ownBlock = some b → b ≠ g := fun b hb e => by
    subst e
    exact (hk'.2.2 _ hb).2.1 rfl
  by_cases e : k = i
  · subst e
    rw [if_pos rfl, if_pos rfl]
    refine ⟨hk'.1, hkeep _ _ _ hu (fun b hb => (hap b hb).2.1), fun b hb => ⟨(hap b hb).1, fun e => (hap b hb).2.1 (by simpa [Value.ownBlock] using e.symm), fun j hj hjk => ?_⟩⟩
    rw [getD_set _ _ _ _ _ (by omega), if_neg hjk]
    exact (hap b hb).2.2 j (by simpa using hj) hjk
  · rw [if_neg e, if_neg e]
    refine ⟨hk'.1, hkeep _ _ _ hk'.2.1 hne, fun b hb => ⟨(hk'.2.2 b hb).1, (hk'.2.2 b hb).2.1, fun j hj hjk => ?_⟩⟩
    rw [getD_set _ _ _ _ _ (by omega)]
    split
    · rename_i e2
      subst e2
      exact fun e3 => (hap b e3).2.2 k hk e hb
    · exact (hk'.2.2 b hb).2.2 j (by simpa using hj) hjk
/-- The first k groups, and blanks behind them. -/
def pad (gs : List Grp) (k : Nat) : List Grp := gs.take k ++ List.replicate (gs.length - k) Grp.z
theorem pad_len (gs : List Grp) (k : Nat) (h : k ≤ gs.length) : (pad gs k).length = gs.length := by
  simp [pad]; omega
theorem pad_zero (gs : List Grp) : pad gs 0 = List.replicate gs.length Grp.z := by simp [pad]
theorem pad_all (gs : List Grp) : pad gs gs.length = gs := by simp [pad]
theorem pad_set (gs : List Grp) (k : Nat) (h : k < gs.length) : (pad gs k).set k (gs.getD k .z) = pad gs (k + 1) := by
  unfold pad
  rw [List.set_append_right _ _ (by rw [List.length_take]; omega), List.length_take, Nat.min_eq_left (by omega), Nat.sub_self, take_snoc gs .z k h]
  obtain ⟨m, hm⟩ : ∃ m, gs.length - k = m + 1 := ⟨gs.length - k - 1, by omega⟩
  rw [hm, show gs.length - (k + 1) = m by omega, List.replicate_succ, List.set_cons_zero, List.append_assoc]
  rfl
theorem rep_getD {α : Type} (n i : Nat) (z : α) : (List.replicate n z).getD i z = z := by
  rw [List.getD_eq_getElem?_getD, List.getElem?_replicate]
  split <;> rfl
theorem blank_cells : ∀ n : Nat, (List.replicate n Gc.z).flatMap Gc.cs = (madeCells #[.string ByteArray.empty, .slice none 0 0] (n * 2)).toList := by
  intro n
  apply List.ext_getElem?
  intro j
  by_cases hj : j < n * 2
  · have hr : (List.replicate n Gc.z).length = n := by simp
    have hc := gcs_get (List.replicate n Gc.z) (j / 2) (by rw [hr]; omega)
    rw [rep_getD] at hc
    have h2 : j % 2 = 0 ∨ j % 2 = 1 := by omega
    rcases h2 with h2 | h2
    · have : j = j / 2 * 2 := by omega
      rw [this, hc.1, ← this]
      simp [madeCells, hj, h2, Gc.z]
    · have : j = j / 2 * 2 + 1 := by omega
      rw [this, hc.2, ← this]
      simp [madeCells, hj, h2, Gc.z]
  · rw [List.getElem?_eq_none (by rw [gcs_len]; simp; omega), List.getElem?_eq_none (by simp [madeCells]; omega)]
/-- A row of blanks. -/
theorem GOw.blank {w : World} {lo g n cap : Nat} (h : w.ownsRow lo 46 2 (.slice (some ⟨g, 0, none⟩) n cap) n ((List.replicate n Gc.z).flatMap Gc.cs)) : GOw w lo w.heap.size (.slice (some ⟨g, 0, none⟩) n cap) (List.replicate n .z) (List.replicate n .z) := by
  refine ⟨by simp, by rw [List.length_replicate]; exact h, fun b hb => (own_row h b hb).2, fun i hi => ?_⟩
  rw [rep_getD, rep_getD]
  exact ⟨rfl, World.ownsRow_nil _ _ _ _, fun b hb => by cases hb⟩
theorem laws_toGroupS (gs : List Grp) (cs : List Gc) (v : Value) (w : World) (hr : GRd w v gs cs) (hn : gs.length ≤ 1048576) (hm : ∀ i, i < gs.length → (gs.getD i .z).xs.length ≤ 1048576) :
    Calls Tryd.prog 13 #[v] w fun e w' => ∃ g ds, e = .returned (.slice (some ⟨g, 0, none⟩) gs.length gs.length) ∧ GOw w' w.heap.size w'.heap.size (.slice (some ⟨g, 0, none⟩) gs.length gs.length) gs ds ∧ Ext w w' := by
  have Hr := hid hr
  have Hm := hid hm
  obtain ⟨p, cap, rfl, h4⟩ := hr.form
  have H4 := hid h4; clear h4 hr hm
  obtain ⟨i0, hi, hz0, hz1, hz2⟩ := info_parts infoGrp
  obtain ⟨w1, hmk, hown0, hg0⟩ := run_make_full (P := Tryd.prog) w w.heap.size 27 46 i0 (.agg #[.string ByteArray.empty, .slice none 0 0]) 2 Tryd.underlying27 hi hz0 hz1 .i64 .i64 gs.length (by rw [hz2]; omega) (by unfold maxLen; omega) (Nat.le_refl _)
  have hx1 : Ext w w1 := (Ext.refl w).grown hg0 (fun k h => by cases h)
  have hown1 : w1.ownsRow w.heap.size 46 2 (.slice (some ⟨w.heap.size, 0, none⟩) gs.length gs.length) gs.length ((List.replicate gs.length Gc.z).flatMap Gc.cs) := by rw [blank_cells]; exact hown0
  have Hown := hid (GOw.blank hown1)
  have Hx := hid hx1; clear hx1 hg0 hown0 hown1
  go_enter Tryd.func13, Tryd.ntmps13
  go_wp2
  go_loopw [4] (fun v4 wr => ∃ (k : Nat) (ds : List Gc), k ≤ gs.length ∧ v4 = .int .i64 k ∧ GOw wr w.heap.size wr.heap.size (.slice (some ⟨w.heap.size, 0, none⟩) gs.length gs.length) (pad gs k) ds ∧ Ext w wr) (fun v4 _ => gs.length - (intOf v4).toNat)
  case atStart => exact ⟨0, _, Nat.zero_le _, rfl, by rw [pad_zero]; exact Hown.out, Hx.out⟩
  case round =>
    obtain ⟨k, ds, hk, rfl, hown, hx⟩ := hrel
    have Hown1 := hid hown
    have Hx1 := hid hx
    clear hown hx
    by_cases hlt : k < gs.length
    · obtain ⟨b, off, rfl⟩ := H4.out.resolve_left (by omega)
      obtain ⟨c0, c1⟩ := Hr.out.at k hlt
      have hru := ((Hr.out.2.2 k hlt).2).ext Hx1.out
      have hml := Hm.out k hlt
      have hps := pad_set gs k hlt
      have hpl := pad_len gs k hk
      have c0 := Hx1.out.cell c0
      have c1 := Hx1.out.cell c1
      generalize hG : gs.getD k .z = G at c0 hru hml hps
      generalize (cs.getD k .z).u = u at c1 hru
      obtain ⟨s, xs⟩ := G
      dsimp only at c0 hru hml
      have hgb := (own_size (by simpa [hpl] using Hown1.out.2.1)).2
      obtain ⟨⟨u0, e0⟩, f0⟩ := own_cell (by simpa [hpl] using Hown1.out.2.1) (k * 2) (by omega)
      obtain ⟨⟨u1, e1⟩, f1⟩ := own_cell (by simpa [hpl] using Hown1.out.2.1) (k * 2 + 1) (by omega)
      have Hps := hid hps
      have Hpl := hid hpl
      clear hps hpl
      go_wp2_with fail
      go_at_call 27
      refine (laws_toGroup xs _ _ hru hml).mono ?_
      rintro e w2 ⟨g', rfl, ho2, hx2⟩
      have e0 := hx2.cell e0
      have e1 := hx2.cell e1
      have f0' := f0
      have K2 := hid (And.intro ho2 hx2)
      have hgb2 := hx2.size
      have f0 : w2.frozen? ⟨w.heap.size, k * 2, none⟩ = false := by rw [World.frozen?_of_block (hx2.heap hgb)]; exact f0
      have f1 : w2.frozen? ⟨w.heap.size, k * 2 + 1, none⟩ = false := by rw [World.frozen?_of_block (hx2.heap hgb)]; exact f1
      clear ho2 hx2 hru f0'
      go_wp2
      go_roundw
      case rel =>
        obtain ⟨ho2, hx2⟩ := K2.out
        have hg2 := own_size ho2
        have h1 := (Hown1.out.ext hx2).wide (Nat.le_refl _) hx2.size
        have h2 := h1.setName Hpl.out.symm k (by rw [Hpl.out]; exact hlt) s
        have ho3 : (w2.setCell ⟨w.heap.size, k * 2, none⟩ (.string s)).ownsRow w.heap.size 3 1 (.slice (some ⟨g', 0, none⟩) xs.length xs.length) xs.length (vInts xs) :=
          own_mono (own_set ho2 (by exact hgb) _) (Hx1.out).size
        have h3 := h2.setU (by rw [List.length_set]; exact Hpl.out.symm) k (by rw [List.length_set, Hpl.out]; exact hlt) (.slice (some ⟨g', 0, none⟩) xs.length xs.length) xs ho3 (fun b hb => by
          obtain rfl : g' = b := Option.some.inj hb
          refine ⟨hg2.2, by omega, fun j hj hjk => ?_⟩
          rw [getD_set _ _ _ _ _ (by rw [h1.1, Hpl.out]; exact hlt), if_neg hjk]
          intro e
          rw [List.length_set] at hj
          have := ((Hown1.out.2.2.2 j hj).2.2 _ e).1
          omega)
        have e5 : ((pad gs k).set k ⟨s, ((pad gs k).getD k .z).xs⟩).set k ⟨(((pad gs k).set k ⟨s, ((pad gs k).getD k .z).xs⟩).getD k .z).s, xs⟩ = pad gs (k + 1) := by
          rw [getD_set _ _ _ _ _ (by rw [Hpl.out]; exact hlt), if_pos rfl, List.set_set]
          exact Hps.out
        rw [e5] at h3
        have h4 := h3.wide (hi' := ((w2.setCell ⟨w.heap.size, k * 2, none⟩ (.string s)).setCell ⟨w.heap.size, k * 2 + 1, none⟩ (.slice (some ⟨g', 0, none⟩) xs.length xs.length)).heap.size) (Nat.le_refl _) (by simp)
        exact ⟨k + 1, _, by omega, by go_num, h4, ((Hx1.out.trans hx2).setCell (by exact Nat.le_refl _) _).setCell (by exact Nat.le_refl _) _⟩
      case measure => simp [intOf]; omega
    · obtain rfl : k = gs.length := by omega
      rw [pad_all] at Hown1
      go_wp2
      go_ret
      exact ⟨_, _, rfl, Hown1.out, Hx1.out⟩
end Go.Proofs.YthjklcodgcojbaaDoor
