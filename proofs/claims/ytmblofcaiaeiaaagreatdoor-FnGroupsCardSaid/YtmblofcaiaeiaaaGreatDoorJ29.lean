/- Readings where a row turns. A group put into a list: the reference's. -/
import Derived.Test.YtmblofcaiaeiaaaGreatDoorJ3
import Derived.Test.YtmblofcaiaeiaaaGreatDoorKWGs9
import Derived.Maps.AppendAt
namespace Go.Proofs.YtmblofcaiaeiaaaGreatDoor
open Go.RowKit
theorem rd_lt {w : World} {k n b o m c : Nat} {u : Value} {cs : List Value} (h : Rd w k u n cs) (hk : 0 < k) (e : u = .slice (some ⟨b, o, none⟩) m c) (hm : 0 < m) : b < w.heap.size := by
  obtain ⟨h1, p, cap, e2, h4⟩ := h
  rw [e] at e2
  cases e2
  obtain ⟨b', o', e3, h6⟩ := h4.resolve_left (by omega)
  cases e3
  have := World.block_lt_of_cell? _ _ (h6 0 (by rw [h1]; exact Nat.mul_pos hm hk))
  exact this
theorem rd_turn {w w' : World} {k n : Nat} {u : Value} {cs : List Value} {row : Option Nat} (h : Rd w k u n cs) (hg : w.grownBy w' row) (hs : ∀ b o m c, u = .slice (some ⟨b, o, none⟩) m c → 0 < m → row ≠ some b) : Rd w' k u n cs := by
  obtain ⟨h1, p, cap, e, h4⟩ := h
  refine ⟨h1, p, cap, e, ?_⟩
  rcases h4 with h4 | ⟨b, o, e2, h6⟩
  · exact .inl h4
  · by_cases h0 : n = 0
    · exact .inl h0
    · subst e2
      exact .inr ⟨b, o, rfl, fun j hj => hg.cell (h6 j hj) (fun e3 => hs b o n cap e (by omega) e3.symm)⟩
end Go.Proofs.YtmblofcaiaeiaaaGreatDoor
namespace Go.Proofs.YtmblofcaiaeiaaaGreatDoor
open Go.RowKit
set_option maxHeartbeats 400000
set_option maxRecDepth 100000
theorem spec_l21Copy (s : ByteArray) (xs : List Int) (u : Value) (w : World) (h : Rd w 1 u xs.length (vInts xs)) (h2 : xs.length ≤ 1048576) :
    Calls Tryz.prog 69 #[.agg #[.string s, u]] w fun e w' => ∃ r, e = .returned (.agg #[.string s, r]) ∧ w'.ownsRow w.heap.size 3 1 r xs.length (vInts xs) ∧ Ext w w' := by
  have Hr := hid h
  have ho := hid (fun w h => spec_l1Own xs u w h h2)
  clear h
  go_enter Tryz.func69, Tryz.ntmps69
  go_wp2_with fail
  have XB : Ext w ((w.alloc (.cells #[.string s, u] 42)).alloc (.cells #[.string ⟨#[]⟩, .slice none 0 0] 42)) := (by repeat' (first | exact Ext.refl _ | assumption | refine Ext.alloc ?_ _ | refine Ext.ext ?_ _ | refine Ext.drew ?_ | refine Ext.drewN ?_ _))
  have b0 : ((w.alloc (.cells #[.string s, u] 42)).alloc (.cells #[.string ⟨#[]⟩, .slice none 0 0] 42)).cell? ⟨w.heap.size, 0, none⟩ = some (.string s) := by rw [cell_of_row _ _ 0 _ _ (0, 0) (heap_old (heap_at _ rfl) _)]; rfl
  have b1 : ((w.alloc (.cells #[.string s, u] 42)).alloc (.cells #[.string ⟨#[]⟩, .slice none 0 0] 42)).cell? ⟨w.heap.size, 1, none⟩ = some u := by rw [cell_of_row _ _ 1 _ _ (0, 0) (heap_old (heap_at _ rfl) _)]; rfl
  have hb2 := heap_at (w := (w.alloc (.cells #[.string s, u] 42))) (k := w.heap.size + 1) (.cells #[.string ⟨#[]⟩, .slice none 0 0] 42) (by simp)
  have hWs : ((w.alloc (.cells #[.string s, u] 42)).alloc (.cells #[.string ⟨#[]⟩, .slice none 0 0] 42)).heap.size = w.heap.size + 2 := by simp
  generalize ((w.alloc (.cells #[.string s, u] 42)).alloc (.cells #[.string ⟨#[]⟩, .slice none 0 0] 42)) = W at *
  have X1 := XB.drew
  have e0 := (Ext.refl W).drew.cell b0
  have e1 := (Ext.refl W).drew.cell b1
  have hb3 := ((Ext.refl W).drew.heap (Array.getElem?_eq_some_iff.1 hb2).1).trans hb2
  have hDs : W.drew.heap.size = w.heap.size + 2 := hWs
  clear hb2
  go_region_held3 (fun w' => w'.cell? ⟨w.heap.size, 0, none⟩ = some (.string s) ∧ w'.cell? ⟨w.heap.size, 1, none⟩ = some u) (first | exact ⟨b0, b1⟩ | exact ⟨e0, e1⟩ | exact ⟨f0, f1⟩ | exact ⟨q0, q1⟩)
    (first | (go_at_call 66; (refine (ho.out _ (Hr.out.ext X1)).mono ?_); rintro e w1 ⟨r, rfl, ho1, hx1⟩; have f0 := hx1.cell e0; have f1 := hx1.cell e1; have hb4 := (hx1.heap (Array.getElem?_eq_some_iff.1 hb3).1).trans hb3; obtain ⟨⟨g0, g1⟩, ⟨d0, d1⟩, l1⟩ := box2 hb4; obtain ⟨rp, rc, rfl⟩ := own_shape ho1; have HB := hid hb4; clear hb4; have q0 := (grownBy_set (w1.setCell ⟨w.heap.size + 1, 0, none⟩ (.string s)) ⟨w.heap.size + 1, 1, none⟩ (.slice rp xs.length rc)).cell ((grownBy_set w1 ⟨w.heap.size + 1, 0, none⟩ (.string s)).cell f0 (fun e => by have h9 := Option.some.inj e; dsimp only at h9; omega)) (fun e => by have h9 := Option.some.inj e; dsimp only at h9; omega); have q1 := (grownBy_set (w1.setCell ⟨w.heap.size + 1, 0, none⟩ (.string s)) ⟨w.heap.size + 1, 1, none⟩ (.slice rp xs.length rc)).cell ((grownBy_set w1 ⟨w.heap.size + 1, 0, none⟩ (.string s)).cell f1 (fun e => by have h9 := Option.some.inj e; dsimp only at h9; omega)) (fun e => by have h9 := Option.some.inj e; dsimp only at h9; omega)))
  all_goals
    have K := hid (And.intro ho1 (X1.trans hx1))
    rw [hDs] at K
    clear ho1 hx1 q0 q1 f0 f1 g0 g1 d0 d1 e0 e1 b0 b1
    go_wp2
    refine bodyPost_ret (results_cell_row rfl _ _ (w.heap.size + 1) _ _ (0, 0) _ rfl (box2_set (t := 42) (a := .string ⟨#[]⟩) (b := .slice none 0 0) HB.out _ _) Tryz.underlying42 rfl (by kernel_rfl)) rfl ⟨_, rfl, ?_, ?_⟩
    · exact own_mono (own_set (own_set K.out.1 (by dsimp only; omega) _) (by dsimp only; omega) _) (by omega)
    · exact (K.out.2.setCell (by dsimp only; omega) _).setCell (by dsimp only; omega) _
/-- The walk through a list: what stands there after k groups, and whether the new one is in. -/
def putSt (gs : List Grp) (g : Grp) : Nat → List Grp × Bool
  | 0 => ([], g.xs.length == 0)
  | k + 1 =>
    let o := putSt gs g k
    let x := gs.getD k .z
    let b := !o.2 && !bl x.s g.s
    ((if b then o.1 ++ [g] else o.1) ++ (if x.s = g.s then [] else [x]), o.2 || b)
def putG (gs : List Grp) (g : Grp) : List Grp := (putSt gs g gs.length).1 ++ (if (putSt gs g gs.length).2 then [] else [g])
theorem putSt_len (gs : List Grp) (g : Grp) : ∀ k, (putSt gs g k).1.length ≤ 2 * k
  | 0 => Nat.le_refl _
  | k + 1 => by
    have := putSt_len gs g k
    rw [putSt]
    dsimp only
    rw [List.length_append]
    split <;> split <;> simp <;> omega
/-- Groups in a row that grows: each can be read, and lies apart from the row. -/
def PRd (lo2 : Nat) (w : World) (v : Value) (gs : List Grp) (ds : List Gc) : Prop :=
  ds.length = gs.length ∧ (∀ i, i < gs.length → (ds.getD i .z).s = (gs.getD i .z).s ∧ Rd w 1 (ds.getD i .z).u (gs.getD i .z).xs.length (vInts (gs.getD i .z).xs) ∧
    ∀ b o m c, (ds.getD i .z).u = .slice (some ⟨b, o, none⟩) m c → 0 < m → lo2 ≤ b ∧ v.ownBlock ≠ some b) ∧ ∃ g, v.ownBlock = some g
theorem PRd.nil (lo2 : Nat) (w : World) (v : Value) {g : Nat} (h : v.ownBlock = some g) : PRd lo2 w v [] [] := ⟨rfl, fun _ hi => absurd hi (Nat.not_lt_zero _), g, h⟩
theorem PRd.ext {lo2 : Nat} {w w' : World} {v : Value} {gs : List Grp} {ds : List Gc} (h : PRd lo2 w v gs ds) (hx : Ext w w') : PRd lo2 w' v gs ds :=
  ⟨h.1, fun i hi => ⟨(h.2.1 i hi).1, (h.2.1 i hi).2.1.ext hx, (h.2.1 i hi).2.2⟩, h.2.2⟩
theorem PRd.rd {lo2 lo : Nat} {w : World} {v : Value} {gs : List Grp} {ds : List Gc} (h : PRd lo2 w v gs ds) (ho : w.ownsRow lo 42 2 v gs.length (ds.flatMap Gc.cs)) : GRd w v gs ds :=
  ⟨h.1, Rd.own ho, fun i hi => ⟨(h.2.1 i hi).1, (h.2.1 i hi).2.1⟩⟩
theorem PRd.form {lo2 lo : Nat} {w : World} {v : Value} {gs : List Grp} {ds : List Gc} (h : PRd lo2 w v gs ds) (ho : w.ownsRow lo 42 2 v gs.length (ds.flatMap Gc.cs)) : ∃ g cap, v = .slice (some ⟨g, 0, none⟩) gs.length cap := by
  obtain ⟨-, -, g, hg⟩ := h
  obtain ⟨-, ⟨rfl, -⟩ | ⟨g', cap, cur, rfl, -⟩⟩ := ho
  · cases hg
  · exact ⟨g', cap, rfl⟩
theorem PRd.grown {lo2 : Nat} {w w' : World} {v v' : Value} {gs : List Grp} {ds : List Gc} (h : PRd lo2 w v gs ds) (hg : w.grownBy w' v.ownBlock) (hat : v'.ownBlock = v.ownBlock ∨ v'.ownBlock = some w.heap.size) : PRd lo2 w' v' gs ds := by
  refine ⟨h.1, fun i hi => ?_, ?_⟩
  · obtain ⟨h1, h2, h3⟩ := h.2.1 i hi
    refine ⟨h1, rd_turn h2 hg (fun b o m c e hm => (h3 b o m c e hm).2), fun b o m c e hm => ⟨(h3 b o m c e hm).1, ?_⟩⟩
    rcases hat with h5 | h5
    · rw [h5]; exact (h3 b o m c e hm).2
    · rw [h5]
      have := rd_lt h2 (by decide) e hm
      intro e2
      cases e2
      omega
  · obtain ⟨g, hgv⟩ := h.2.2
    rcases hat with h5 | h5
    · exact ⟨g, by rw [h5, hgv]⟩
    · exact ⟨_, h5⟩
/-- Where another block turns, that lies lower. -/
theorem PRd.step {lo2 B : Nat} {w w' : World} {v : Value} {gs : List Grp} {ds : List Gc} (h : PRd lo2 w v gs ds) (hg : w.grownBy w' (some B)) (hB : B < lo2) : PRd lo2 w' v gs ds :=
  ⟨h.1, fun i hi => ⟨(h.2.1 i hi).1, rd_turn (h.2.1 i hi).2.1 hg (fun b o m c e hm e2 => by
    have := ((h.2.1 i hi).2.2 b o m c e hm).1
    cases e2
    omega), (h.2.1 i hi).2.2⟩, h.2.2⟩
theorem getD_snoc {α : Type} (l : List α) (x z : α) (i : Nat) (h : i < l.length + 1) : (l ++ [x]).getD i z = if i < l.length then l.getD i z else x := by
  rw [List.getD_eq_getElem?_getD]
  split
  · rename_i hi
    rw [List.getElem?_append_left hi, List.getD_eq_getElem?_getD]
  · rename_i hi
    obtain rfl : i = l.length := by omega
    rw [List.getElem?_append_right (Nat.le_refl _), Nat.sub_self]; rfl
theorem PRd.snoc {lo2 : Nat} {w : World} {v : Value} {gs : List Grp} {ds : List Gc} (h : PRd lo2 w v gs ds) (g : Grp) (u : Value) (hr : Rd w 1 u g.xs.length (vInts g.xs)) (hs : ∀ b o m c, u = .slice (some ⟨b, o, none⟩) m c → 0 < m → lo2 ≤ b ∧ v.ownBlock ≠ some b) : PRd lo2 w v (gs ++ [g]) (ds ++ [⟨g.s, u⟩]) := by
  refine ⟨by simp [h.1], fun i hi => ?_, h.2.2⟩
  rw [List.length_append] at hi
  rw [getD_snoc _ _ _ _ hi, getD_snoc _ _ _ _ (by rw [h.1]; exact hi), h.1]
  split
  · rename_i hl
    exact h.2.1 i hl
  · exact ⟨rfl, hr, hs⟩
end Go.Proofs.YtmblofcaiaeiaaaGreatDoor
