/- Lists of pendings in the laws' own words: whole lists copied, compared, measured. -/
import Derived.Test.YtnngklclehffhaaDoorKWPn2
namespace Go.Proofs.YtnngklclehffhaaDoor
open Go.RowKit
set_option maxHeartbeats 400000
set_option maxRecDepth 100000
theorem fam_nils {w : World} {lo hi : Nat} : ∀ {rs : List Row}, (∀ r ∈ rs, r.own w lo ∧ r.v.ownBlock = none) → Fam w lo hi rs
  | [], _ => Fam.nil _ _ _
  | r :: rs, h => by
    have h1 := h r (by simp)
    refine fam_cons.2 ⟨⟨h1.1, fun j e => ?_⟩, fam_nils (fun q hq => h q (by simp [hq])), fun y _ j _ e => ?_⟩
    · rw [h1.2] at e; cases e
    · rw [h1.2] at e; cases e
def padP (ps : List Pnd) (k : Nat) : List Pnd := ps.take k ++ List.replicate (ps.length - k) Pnd.z
theorem padP_len (ps : List Pnd) (k : Nat) (h : k ≤ ps.length) : (padP ps k).length = ps.length := by
  simp [padP]; omega
theorem padP_zero (ps : List Pnd) : padP ps 0 = List.replicate ps.length Pnd.z := by simp [padP]
theorem padP_all (ps : List Pnd) : padP ps ps.length = ps := by simp [padP]
theorem padP_set (ps : List Pnd) (k : Nat) (h : k < ps.length) : (padP ps k).set k (ps.getD k .z) = padP ps (k + 1) := by
  unfold padP
  rw [List.set_append_right _ _ (by rw [List.length_take]; omega), List.length_take, Nat.min_eq_left (by omega), Nat.sub_self, take_snoc ps .z k h]
  obtain ⟨m, hm⟩ : ∃ m, ps.length - k = m + 1 := ⟨ps.length - k - 1, by omega⟩
  rw [hm, show ps.length - (k + 1) = m by omega, List.replicate_succ, List.set_cons_zero, List.append_assoc]
  rfl
theorem repP_getD {α : Type} (n i : Nat) (z : α) : (List.replicate n z).getD i z = z := by
  rw [List.getD_eq_getElem?_getD, List.getElem?_replicate]
  split <;> rfl
theorem blankP_cells : ∀ n : Nat, (List.replicate n Pe.z).flatMap Pe.cs = (madeCells #[.int .i64 0, .slice none 0 0, .slice none 0 0] (n * 3)).toList := by
  intro n
  apply List.ext_getElem?
  intro j
  by_cases hj : j < n * 3
  · have hr : (List.replicate n Pe.z).length = n := by simp
    have hc := pes_get (List.replicate n Pe.z) (j / 3) (by rw [hr]; omega)
    rw [repP_getD] at hc
    have h2 : j % 3 = 0 ∨ j % 3 = 1 ∨ j % 3 = 2 := by omega
    rcases h2 with h2 | h2 | h2
    · have : j = j / 3 * 3 := by omega
      rw [this, hc.1, ← this]
      simp [madeCells, hj, h2, Pe.z]
    · have : j = j / 3 * 3 + 1 := by omega
      rw [this, hc.2.1, ← this]
      simp [madeCells, hj, h2, Pe.z]
    · have : j = j / 3 * 3 + 2 := by omega
      rw [this, hc.2.2, ← this]
      simp [madeCells, hj, h2, Pe.z]
  · rw [List.getElem?_eq_none (by rw [pes_len]; simp; omega), List.getElem?_eq_none (by simp [madeCells]; omega)]
/-- A row of blanks. -/
theorem POw.blank {w : World} {lo g n cap : Nat} (h : w.ownsRow lo 62 3 (.slice (some ⟨g, 0, none⟩) n cap) n ((List.replicate n Pe.z).flatMap Pe.cs)) : POw w lo w.heap.size (.slice (some ⟨g, 0, none⟩) n cap) (List.replicate n .z) (List.replicate n .z) := by
  have hnil : ∀ r ∈ (List.replicate n Pe.z).flatMap Pe.rows, r.own w lo ∧ r.v.ownBlock = none := by
    intro r hr
    obtain ⟨e, he, hr2⟩ := List.mem_flatMap.1 hr
    obtain rfl := (List.mem_replicate.1 he).2
    simp only [Pe.rows, List.mem_cons, List.not_mem_nil, or_false] at hr2
    rcases hr2 with rfl | rfl
    · exact ⟨World.ownsRow_nil _ _ _ _, rfl⟩
    · exact ⟨World.ownsRow_nil _ _ _ _, rfl⟩
  refine ⟨by rw [List.map_replicate]; rfl, fam_cons.2 ⟨⟨?_, fun j e => (own_row h j e).2⟩, fam_nils hnil, fun y hy j e => ?_⟩⟩
  · show w.ownsRow lo 62 3 _ (List.replicate n Pe.z).length _
    rw [List.length_replicate]
    exact h
  · rw [(hnil y hy).2] at e; cases e
theorem laws_toPendingS (ps : List Pnd) (es : List Pe) (v : Value) (w : World) (hr : PRd w v ps es) (hn : ps.length ≤ 1048576) (hm : ∀ i, i < ps.length → (ps.getD i .z).d.length ≤ 1048576 ∧ (ps.getD i .z).h.length ≤ 1048576) :
    Calls Tryd.prog 11 #[v] w fun e w' => ∃ g ds, e = .returned (.slice (some ⟨g, 0, none⟩) ps.length ps.length) ∧ POw w' w.heap.size w'.heap.size (.slice (some ⟨g, 0, none⟩) ps.length ps.length) ps ds ∧ Ext w w' := by
  have Hr := hid hr
  have Hm := hid hm
  obtain ⟨p, cap, rfl, h4⟩ := hr.form
  have H4 := hid h4; clear h4 hr hm
  obtain ⟨i0, hi, hz0, hz1, hz2⟩ := info_parts infoPnd
  obtain ⟨w1, hmk, hown0, hg0⟩ := run_make_full (P := Tryd.prog) w w.heap.size 25 62 i0 (.agg #[.int .i64 0, .slice none 0 0, .slice none 0 0]) 3 Tryd.underlying25 hi hz0 hz1 .i64 .i64 ps.length (by rw [hz2]; omega) (by unfold maxLen; omega) (Nat.le_refl _)
  have hx1 : Ext w w1 := (Ext.refl w).grown hg0 (fun k h => by cases h)
  have hown1 : w1.ownsRow w.heap.size 62 3 (.slice (some ⟨w.heap.size, 0, none⟩) ps.length ps.length) ps.length ((List.replicate ps.length Pe.z).flatMap Pe.cs) := by rw [blankP_cells]; exact hown0
  have Hown := hid (POw.blank hown1)
  have Hx := hid hx1; clear hx1 hg0 hown0 hown1
  go_enter Tryd.func11, Tryd.ntmps11
  go_wp2
  go_loopw [4] (fun v4 wr => ∃ (k : Nat) (ds : List Pe), k ≤ ps.length ∧ v4 = .int .i64 k ∧ POw wr w.heap.size wr.heap.size (.slice (some ⟨w.heap.size, 0, none⟩) ps.length ps.length) (padP ps k) ds ∧ Ext w wr) (fun v4 _ => ps.length - (intOf v4).toNat)
  case atStart => exact ⟨0, _, Nat.zero_le _, rfl, by rw [padP_zero]; exact Hown.out, Hx.out⟩
  case round =>
    obtain ⟨k, ds, hk, rfl, hown, hx⟩ := hrel
    have Hown1 := hid hown
    have Hx1 := hid hx
    clear hown hx
    by_cases hlt : k < ps.length
    · obtain ⟨b, off, rfl⟩ := H4.out.resolve_left (by omega)
      obtain ⟨⟨c0, c1, c2⟩, hru, hrv⟩ := Hr.out.at k hlt
      have hml := Hm.out k hlt
      have hps := padP_set ps k hlt
      have hpl := padP_len ps k hk
      have hdl := Hown1.out.len
      have c0 := Hx1.out.cell c0
      have c1 := Hx1.out.cell c1
      have c2 := Hx1.out.cell c2
      replace hru := hru.ext Hx1.out
      replace hrv := hrv.ext Hx1.out
      generalize hG : ps.getD k .z = G at c0 hru hrv hml hps
      generalize (es.getD k .z).u = u at c1 hru
      generalize (es.getD k .z).v = u' at c2 hrv
      obtain ⟨n, d, h⟩ := G
      dsimp only at c0 hru hrv hml
      obtain ⟨⟨e0, e1, e2⟩, f0, f1, f2⟩ := Hown1.out.2.cells (by omega) k (by omega)
      have hgb := (Hown1.out.2.lt (j := w.heap.size) rfl).2.2
      have Hps := hid hps
      have Hpl := hid hpl
      have hdk : k < ds.length := by omega
      clear hps hpl
      go_wp2_with fail
      go_at_call 39
      refine (laws_toPending n d h _ _ _ hru hrv hml.1 hml.2).mono ?_
      rintro e w2 ⟨g, g', rfl, ⟨ho, ho', hgg⟩, hx2⟩
      have e0 := hx2.cell e0
      have e1 := hx2.cell e1
      have e2 := hx2.cell e2
      have K2 := hid (And.intro ho (And.intro ho' (And.intro hgg hx2)))
      have f0 : w2.frozen? ⟨w.heap.size, k * 3, none⟩ = false := by rw [World.frozen?_of_block (hx2.heap hgb)]; exact f0
      have f1 : w2.frozen? ⟨w.heap.size, k * 3 + 1, none⟩ = false := by rw [World.frozen?_of_block (hx2.heap hgb)]; exact f1
      have f2 : w2.frozen? ⟨w.heap.size, k * 3 + 2, none⟩ = false := by rw [World.frozen?_of_block (hx2.heap hgb)]; exact f2
      clear ho ho' hgg hx2 hru hrv
      go_wp2
      go_roundw
      case rel =>
        obtain ⟨ho, ho', hgg, hx2⟩ := K2.out
        have hg1 := own_size ho
        have hg2 := own_size ho'
        have h1 := (Hown1.out.ext hx2)
        have h3 := h1.2.putNew (hi' := w2.heap.size) (Hpl.out.symm.trans hdl.symm) hx2.size k hdk ⟨n, d, h, .slice (some ⟨g, 0, none⟩) d.length d.length, .slice (some ⟨g', 0, none⟩) h.length h.length⟩ (own_mono ho (Hx1.out).size) (own_mono ho' (Hx1.out).size)
          (fun j e => by cases e; exact hg1) (fun j e => by cases e; exact hg2) (fun j e e2 => by cases e; cases e2; exact hgg rfl)
        have e5 : (ds.set k ⟨n, d, h, .slice (some ⟨g, 0, none⟩) d.length d.length, .slice (some ⟨g', 0, none⟩) h.length h.length⟩).map Pe.p = padP ps (k + 1) := by
          rw [List.map_set, h1.1]
          exact Hps.out
        refine ⟨k + 1, _, by omega, by go_num, ⟨e5, ?_⟩, ?_⟩
        · exact h3.wide (Nat.le_refl _) (by simp)
        · exact ((((Hx1.out.trans hx2).setCell (by exact Nat.le_refl _) _).setCell (by exact Nat.le_refl _) _).setCell (by exact Nat.le_refl _) _)
      case measure => simp [intOf]; omega
    · obtain rfl : k = ps.length := by omega
      rw [padP_all] at Hown1
      go_wp2
      go_ret
      exact ⟨_, _, rfl, Hown1.out, Hx1.out⟩
end Go.Proofs.YtnngklclehffhaaDoor
