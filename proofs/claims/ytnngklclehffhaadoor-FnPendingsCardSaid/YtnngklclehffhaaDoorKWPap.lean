/- Lists of pendings that can be appended to. -/
import Derived.Test.YtnngklclehffhaaDoorKWPt5
import Derived.Test.YtnngklclehffhaaDoorKWCurL
namespace Go.Proofs.YtnngklclehffhaaDoor
open Go.RowKit
set_option maxHeartbeats 1000000
set_option maxRecDepth 100000
def NotB (g : Nat) (v : Value) : Prop := ∀ b o m c, v = .slice (some ⟨b, o, none⟩) m c → 0 < m → b ≠ g
/-- A list in a row of the call's own, that may begin behind the row's head. -/
def PAp (w : World) (lo : Nat) (v : Value) (ps : List Pnd) (es : List Pe) : Prop :=
  es.map Pe.p = ps ∧ (∀ e ∈ es, RdB w lo e.u e.d.length (vStrs e.d) ∧ RdB w lo e.v e.h.length (vBools e.h)) ∧
  ((v = .slice none 0 0 ∧ es = []) ∨ ∃ g k N C, v = .slice (some ⟨g, k * 3, none⟩) es.length (N - k) ∧ k + es.length ≤ N ∧ w.ownsRow lo 62 3 (.slice (some ⟨g, 0, none⟩) N N) N C ∧
    (C.drop (k * 3)).take (es.length * 3) = es.flatMap Pe.cs ∧ ∀ e ∈ es, NotB g e.u ∧ NotB g e.v)
theorem PAp.len {w : World} {lo : Nat} {v : Value} {ps : List Pnd} {es : List Pe} (h : PAp w lo v ps es) : es.length = ps.length := by rw [← h.1, List.length_map]
theorem PAp.rd {w : World} {lo : Nat} {v : Value} {ps : List Pnd} {es : List Pe} (h : PAp w lo v ps es) : PRd w v ps es := by
  obtain ⟨h1, h2, h3⟩ := h
  refine ⟨h1, ?_, fun e he => ⟨(h2 e he).1.1, (h2 e he).2.1⟩⟩
  rcases h3 with ⟨rfl, rfl⟩ | ⟨g, k, N, C, rfl, hk, ho, hC, -⟩
  · exact Rd.nil _ _ _ _
  · refine ⟨pes_len es, _, _, rfl, .inr ⟨g, k * 3, rfl, fun j hj => ?_⟩⟩
    have hj2 := hj
    rw [pes_len] at hj2
    rw [ho.cellAt _ (by omega)]
    have : (es.flatMap Pe.cs)[j]? = C[k * 3 + j]? := by rw [← hC, List.getElem?_take_of_lt hj2, List.getElem?_drop]
    rw [← this, List.getElem?_eq_getElem hj]
theorem PAp.form {w : World} {lo : Nat} {v : Value} {ps : List Pnd} {es : List Pe} (h : PAp w lo v ps es) : ∃ p cap, v = .slice p ps.length cap ∧ ps.length ≤ cap := by
  have hl := h.len
  obtain ⟨-, -, ⟨rfl, rfl⟩ | ⟨g, k, N, C, rfl, hk, -⟩⟩ := h
  · exact ⟨none, 0, by rw [← hl]; rfl, by rw [← hl]; exact Nat.le_refl _⟩
  · exact ⟨_, _, by rw [hl], by omega⟩
theorem PAp.low {w : World} {lo lo2 : Nat} {v : Value} {ps : List Pnd} {es : List Pe} (h : PAp w lo v ps es) (hl : lo2 ≤ lo) : PAp w lo2 v ps es := by
  obtain ⟨h1, h2, h3⟩ := h
  refine ⟨h1, fun e he => ⟨(h2 e he).1.low hl, (h2 e he).2.low hl⟩, h3.imp id ?_⟩
  rintro ⟨g, k, N, C, e, hk, ho, hC, hn⟩
  exact ⟨g, k, N, C, e, hk, own_mono ho hl, hC, hn⟩
theorem PAp.grown {w w' : World} {lo : Nat} {v : Value} {ps : List Pnd} {es : List Pe} {row : Option Nat} (h : PAp w lo v ps es) (hg : w.grownBy w' row) (hr : ∀ b, row = some b → b < lo) : PAp w' lo v ps es := by
  obtain ⟨h1, h2, h3⟩ := h
  refine ⟨h1, fun e he => ⟨(h2 e he).1.away hg (fun b o m c e1 hm e2 => ?_), (h2 e he).2.away hg (fun b o m c e1 hm e2 => ?_)⟩, h3.imp id ?_⟩
  · have := (h2 e he).1.2 b o m c e1 hm
    have := hr b e2
    omega
  · have := (h2 e he).2.2 b o m c e1 hm
    have := hr b e2
    omega
  · rintro ⟨g, k, N, C, e, hk, ho, hC, hn⟩
    exact ⟨g, k, N, C, e, hk, own_kept ho hg (fun j e1 e2 => by have := (own_row ho j e1).1; have := hr j e2; omega), hC, hn⟩
theorem PAp.ext {w w' : World} {lo : Nat} {v : Value} {ps : List Pnd} {es : List Pe} (h : PAp w lo v ps es) (hx : Ext w w') : PAp w' lo v ps es := h.grown (hx.grownBy none) (fun b e => by cases e)
theorem PAp.ofOw {w : World} {lo hi : Nat} {v : Value} {ps : List Pnd} {es : List Pe} (h : POw w lo hi v ps es) : PAp w lo v ps es := by
  have hl := h.len
  refine ⟨h.1, fun e he => ⟨RdB.own (h.2.inner he).1.1, RdB.own (h.2.inner he).1.2⟩, ?_⟩
  rcases h.form with ⟨e, e2⟩ | ⟨g, c, e, hlc, hg0, hg1, hg2⟩
  · exact .inl ⟨e, List.eq_nil_of_length_eq_zero (by rw [hl, e2]; rfl)⟩
  · right
    subst e
    have ho := h.2.own
    rw [← hl] at ho
    obtain ⟨h1, h2, rest, hf⟩ := own_full3 ho
    refine ⟨g, 0, c, _, by rw [hl]; rfl, by omega, hf, ?_, fun e he => ?_⟩
    · rw [Nat.zero_mul, List.drop_zero, ← pes_len, List.take_left]
    · obtain ⟨-, a, b⟩ := h.2.inner he
      exact ⟨fun b2 o m c2 e1 hm e2 => by subst e2; exact (a b2 (by rw [e1]; rfl)).2 rfl, fun b2 o m c2 e1 hm e2 => by subst e2; exact (b b2 (by rw [e1]; rfl)).2 rfl⟩
theorem PAp.drop1 {w : World} {lo g off n cap : Nat} {ps : List Pnd} {es : List Pe} (h : PAp w lo (.slice (some ⟨g, off, none⟩) n cap) ps es) (h1 : 1 ≤ n) : PAp w lo (.slice (some ⟨g, off + 3, none⟩) (n - 1) (cap - 1)) (ps.drop 1) (es.drop 1) := by
  obtain ⟨k1, k2, k3⟩ := h
  refine ⟨by rw [List.map_drop, k1], fun e he => k2 e (List.mem_of_mem_drop he), .inr ?_⟩
  rcases k3 with ⟨e, -⟩ | ⟨g', k, N, C, e, hk, ho, hC, hn⟩
  · cases e
  · injection e with e1 e2 e3
    injection e1 with e4
    injection e4 with e5 e6
    subst e2 e3 e5 e6
    refine ⟨g, k + 1, N, C, ?_, by rw [List.length_drop]; omega, ho, ?_, fun e he => hn e (List.mem_of_mem_drop he)⟩
    · rw [List.length_drop, Nat.sub_sub]
      congr 3
      omega
    · have e9 : (C.drop ((k + 1) * 3)).take ((es.drop 1).length * 3) = ((C.drop (k * 3)).take (es.length * 3)).drop 3 := by
        rw [List.drop_take, List.drop_drop, List.length_drop]
        congr 1 <;> first | omega | (congr 1; omega)
      rw [e9, hC]
      cases es with
      | nil => simp at h1
      | cons x r => rfl
theorem PAp.ofRow {w : World} {lo : Nat} {v : Value} {es : List Pe} (ho : w.ownsRow lo 62 3 v es.length (es.flatMap Pe.cs)) (hi : ∀ e ∈ es, RdB w lo e.u e.d.length (vStrs e.d) ∧ RdB w lo e.v e.h.length (vBools e.h))
    (hn : ∀ g, v.ownBlock = some g → ∀ e ∈ es, NotB g e.u ∧ NotB g e.v) : PAp w lo v (es.map Pe.p) es := by
  refine ⟨rfl, hi, ?_⟩
  obtain ⟨-, ⟨rfl, h0⟩ | ⟨g, cap, cur, rfl, -⟩⟩ := id ho
  · exact .inl ⟨rfl, List.eq_nil_of_length_eq_zero h0⟩
  · right
    obtain ⟨h1, h2, rest, hf⟩ := own_full3 ho
    refine ⟨g, 0, cap, _, rfl, by omega, hf, ?_, fun e he => hn g rfl e he⟩
    rw [Nat.zero_mul, List.drop_zero, ← pes_len, List.take_left]
theorem rd_under {w : World} {lo n : Nat} {v : Value} {cs : List Value} (h : RdB w lo v n cs) {g : Nat} (hg : w.heap.size ≤ g) : NotB g v := by
  intro b o m c e hm e2
  obtain ⟨⟨h1, p, c', e3, h4⟩, -⟩ := h
  rw [e] at e3
  injection e3 with e4 e5 e6
  subst e4 e5 e6
  rcases h4 with h0 | ⟨b', o', e7, hc⟩
  · omega
  · injection e7 with e8
    injection e8 with e9 e10
    subst e9 e10
    have := World.block_lt_of_cell? w _ (hc 0 (by omega))
    dsimp only at this
    omega
theorem seg_put (C ys : List Value) (a n : Nat) (h : a + n + ys.length ≤ C.length) : ((C.take (a + n) ++ ys ++ C.drop (a + n + ys.length)).drop a).take (n + ys.length) = (C.drop a).take n ++ ys := by
  rw [List.append_assoc, List.drop_append_of_le_length (by rw [List.length_take]; omega), List.drop_take, Nat.add_sub_cancel_left]
  have hl : ((C.drop a).take n).length = n := by rw [List.length_take, List.length_drop]; omega
  rw [← List.append_assoc]
  exact List.take_left' (by rw [List.length_append, hl])
theorem grownBy_none_any {w w' : World} (h : w.grownBy w' none) (row : Option Nat) : w.grownBy w' row := ⟨h.os, h.tape, h.output, h.size, fun k hk _ => h.block k hk (fun e => by cases e)⟩
/-- append of one pending. -/
theorem PAp.append_run {w : World} {lo : Nat} {v : Value} {ps : List Pnd} {es : List Pe} (h : PAp w lo v ps es) (hlo : lo ≤ w.heap.size) (h2 : es.length ≤ 1048576) (x : Pe) (lb : Nat) (hl : w.heap[lb]? = some (.cells x.cs.toArray 62 (0, 0))) (h1 : ∀ u ∈ x.cs, u.oneCell' = true)
    (ru : RdB w lo x.u x.d.length (vStrs x.d)) (rv : RdB w lo x.v x.h.length (vBools x.h)) (hn : ∀ g, v.ownBlock = some g → NotB g x.u ∧ NotB g x.v) (ty : TypeId) :
    ∃ v' w', (Builtin.append_ #[25, 25] ty #[v, .slice (some ⟨lb, 0, none⟩) 1 1]).run Tryd.prog w = .ok v' w' ∧ PAp w' lo v' (ps ++ [x.p]) (es ++ [x]) ∧ w.grownBy w' v.ownBlock := by
  obtain ⟨i0, hi, hz0, hz1, hz2⟩ := info_parts infoPnd
  have hps : ps ++ [x.p] = (es ++ [x]).map Pe.p := by rw [List.map_append, h.1]; rfl
  have hcs : (es ++ [x]).flatMap Pe.cs = es.flatMap Pe.cs ++ x.cs := by simp
  have hle : (es ++ [x]).length = es.length + 1 := by rw [List.length_append]; rfl
  have hnews : ∀ j u, x.cs[j]? = some u → w.cell? ((⟨lb, 0, none⟩ : Addr).add j) = some u := fun j u hj => by
    rw [Addr.add_lit, Nat.zero_add, cell_of_row _ _ j _ _ (0, 0) hl]; simpa using hj
  have hml : maxLen = 9223372036854775807 := rfl
  have old : ∀ (w' : World) (row : Option Nat), w.grownBy w' row → (∀ g, row = some g → ∀ e ∈ es ++ [x], NotB g e.u ∧ NotB g e.v) → ∀ e ∈ es ++ [x], RdB w' lo e.u e.d.length (vStrs e.d) ∧ RdB w' lo e.v e.h.length (vBools e.h) := fun w' row hg hno e he => by
    have hb : RdB w lo e.u e.d.length (vStrs e.d) ∧ RdB w lo e.v e.h.length (vBools e.h) := by
      rcases List.mem_append.1 he with h9 | h9
      · exact h.2.1 e h9
      · rw [List.mem_singleton.1 h9]; exact ⟨ru, rv⟩
    exact ⟨hb.1.away hg (fun b o m c e1 hm e2 => (hno b e2 e he).1 b o m c e1 hm rfl), hb.2.away hg (fun b o m c e1 hm e2 => (hno b e2 e he).2 b o m c e1 hm rfl)⟩
  have fresh : ∀ g, w.heap.size ≤ g → ∀ e ∈ es ++ [x], NotB g e.u ∧ NotB g e.v := fun g hg e he => by
    rcases List.mem_append.1 he with h9 | h9
    · exact ⟨rd_under (h.2.1 e h9).1 hg, rd_under (h.2.1 e h9).2 hg⟩
    · rw [List.mem_singleton.1 h9]; exact ⟨rd_under ru hg, rd_under rv hg⟩
  rw [hps]
  rcases h.2.2 with ⟨rfl, rfl⟩ | ⟨g, k, N, C, rfl, hk, ho, hC, hno⟩
  · obtain ⟨v', w', hrun, h3, h4, -, h5⟩ := run_append_own_at (P := Tryd.prog) w w.heap.size 25 ty 62 i0 (.agg #[.int .i64 0, .slice none 0 0, .slice none 0 0]) 3 56 Tryd.underlying25 hi hz0 hz1 hz2 rfl (by decide) (.slice none 0 0) 0 [] (World.ownsRow_nil _ _ _ _) ⟨lb, 0, none⟩ 1 1 x.cs rfl hnews h1 (by omega) (by omega) (Nat.le_refl _)
    refine ⟨v', w', hrun, PAp.ofRow (own_mono (by simpa using h3) hlo) (old w' none h4 (fun g e => by cases e)) (fun g e => fresh g (own_row h3 g e).1), h4⟩
  · have hmy : ∀ j, (Value.slice (some ⟨g, 0, none⟩) N N).ownBlock = some j → j = g := fun j e => by cases e; rfl
    have hall : ∀ e ∈ es ++ [x], NotB g e.u ∧ NotB g e.v := fun e he => by
      rcases List.mem_append.1 he with h9 | h9
      · exact hno e h9
      · rw [List.mem_singleton.1 h9]; exact hn g rfl
    by_cases hr : es.length + 1 ≤ N - k
    · have hCl := ho.1
      have hst := own_setCells x.cs w C (k * 3 + es.length * 3) ho (by show _ + 3 ≤ _; omega)
      have hrun := run_append_room_cells (P := Tryd.prog) (w := w) 25 ty 62 i0 Tryd.underlying25 hi g (k * 3) es.length (N - k) ⟨lb, 0, none⟩ 1 1 x.cs (by rw [hz1]; rfl) hnews h1 hr
        (fun j hj => by rw [hz1]; have hj : j < 3 := hj; rw [ho.cellAt _ (by omega), List.getElem?_eq_getElem (by omega)]; rfl) (fun j _ => ho.frozenAt _)
      rw [hz1] at hrun
      refine ⟨_, _, hrun, ⟨rfl, old _ (some g) hst.2 (fun g2 e => by cases e; exact hall), .inr ⟨g, k, N, _, by rw [hle], by omega, hst.1, ?_, hall⟩⟩, hst.2⟩
      rw [hle, hcs, show (es.length + 1) * 3 = es.length * 3 + x.cs.length by rw [Nat.add_mul]; rfl, seg_put _ _ _ _ (by show _ + 3 ≤ _; omega), hC]
    · have hold : ∀ j u, (es.flatMap Pe.cs)[j]? = some u → w.cell? ((⟨g, k * 3, none⟩ : Addr).add j) = some u := fun j u hj => by
        have hjl := (List.getElem?_eq_some_iff.1 hj).1
        rw [pes_len] at hjl
        rw [Addr.add_lit, ho.cellAt _ (by omega), ← hj, ← hC, List.getElem?_take_of_lt hjl, List.getElem?_drop]
      obtain ⟨v', w', hrun, h3, h4⟩ := run_append_arg_grows (P := Tryd.prog) (w := w) 25 ty 62 i0 (.agg #[.int .i64 0, .slice none 0 0, .slice none 0 0]) 3 56 Tryd.underlying25 hi hz0 hz1 hz2 rfl (by decide) ⟨g, k * 3, none⟩ es.length (N - k) (es.flatMap Pe.cs) (pes_len es) hold ⟨lb, 0, none⟩ 1 1 x.cs rfl hnews (by omega) (by omega) (by omega)
      refine ⟨v', w', hrun, PAp.ofRow (own_mono (by rw [hle, hcs]; exact h3) hlo) (old w' none h4 (fun g e => by cases e)) (fun g e => fresh g (own_row h3 g e).1), grownBy_none_any h4 _⟩
end Go.Proofs.YtnngklclehffhaaDoor
