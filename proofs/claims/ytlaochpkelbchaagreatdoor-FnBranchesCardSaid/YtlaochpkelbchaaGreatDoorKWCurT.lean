/- Trees that are drawn. -/
import Derived.Test.YtlaochpkelbchaaGreatDoorKWCurL
import Derived.Deep.RegionLaw
import Derived.Maps.AppendAt
namespace Go.Proofs.YtlaochpkelbchaaGreatDoor
open Go.RowKit
set_option maxHeartbeats 2000000
set_option maxRecDepth 100000
/-- While a tree is drawn: its variable lies at T, its row behind m. -/
def TrD (w W : World) (m lo B : Nat) (v : Value) (bs : List Int) (A T : Nat) (u : Value) (xs : List Int) : Prop :=
  Dr w W lo B v bs A ∧ W.heap[T]? = some (.cells #[u] 26 (0, 0)) ∧ W.ownsRow m 3 1 u xs.length (vInts xs) ∧ w.heap.size ≤ T ∧ u.ownBlock ≠ some T ∧ w.heap.size ≤ m
theorem TrD.step {w W W' : World} {m lo B A A' T : Nat} {v u : Value} {bs xs : List Int} (h : TrD w W m lo B v bs A T u xs) (hc : Cs W' lo B v bs A') (hg : W.grownBy W' (some B)) : TrD w W' m lo B v bs A' T u xs :=
  ⟨h.1.step hc hg, blk_step h.1 h.2.1 h.2.2.2.1 hg, own_step h.1 h.2.2.1 h.2.2.2.2.2 hg, h.2.2.2⟩
theorem TrD.ext {w W W' : World} {m lo B A T : Nat} {v u : Value} {bs xs : List Int} (h : TrD w W m lo B v bs A T u xs) (hx : Ext W W') : TrD w W' m lo B v bs A T u xs :=
  h.step (h.1.1.ext hx) (hx.grownBy _)
theorem TrD.more {w W : World} {m lo B A A' T : Nat} {v u : Value} {bs xs : List Int} (h : TrD w W m lo B v bs A T u xs) (hA : A ≤ A') : TrD w W m lo B v bs A' T u xs := ⟨h.1.more hA, h.2⟩
/-- Another value laid into the variable. -/
theorem TrD.put {w W' : World} {m lo B A T : Nat} {v u u' : Value} {bs ys : List Int} (h1 : Dr w W' lo B v bs A) (h2 : W'.heap[T]? = some (.cells #[u] 26 (0, 0))) (h4 : w.heap.size ≤ T) (hm : w.heap.size ≤ m) (ho : W'.ownsRow m 3 1 u' ys.length (vInts ys)) (hne : u'.ownBlock ≠ some T) :
    TrD w (W'.setCell ⟨T, 0, none⟩ u') m lo B v bs A T u' ys := ⟨h1.set h4 _, box1_set h2 _, own_off ho hne, h4, hne, hm⟩
/-- The row grown, and laid back into the variable. -/
theorem TrD.grow {w W W' : World} {m lo B A T : Nat} {v u u' : Value} {bs xs ys : List Int} (h : TrD w W m lo B v bs A T u xs) (hg : W.grownBy W' u.ownBlock) (ho : W'.ownsRow m 3 1 u' ys.length (vInts ys))
    (hat : ∀ j, u'.ownBlock = some j → u.ownBlock = some j ∨ W.heap.size ≤ j) : TrD w (W'.setCell ⟨T, 0, none⟩ u') m lo B v bs A T u' ys := by
  obtain ⟨h1, h2, h3, h4, h5, h6⟩ := h
  have hT := (Array.getElem?_eq_some_iff.1 h2).1
  have hne : u'.ownBlock ≠ some T := fun e => by
    rcases hat T e with e2 | e2
    · exact h5 e2
    · omega
  exact TrD.put (h1.grow hg (fun j e => Nat.le_trans h6 (own_row h3 j e).1)) (blk_grow h2 hg h5) h4 h6 ho hne
theorem spec_tree {bs : List Int} (hb : Bts bs) {lo B A : Nat} {v : Value} (w : World) (h : Cs w lo B v bs A) (hA : A ≤ 800000) :
    Calls Tryz.prog 19 #[.pointer (some ⟨B, 0, none⟩)] w fun e w' => ∃ (r : Value) (xs : List Int), e = .returned (.agg #[r]) ∧ 2 ≤ xs.length ∧ xs.length ≤ 8 ∧ w'.ownsRow w.heap.size 3 1 r xs.length (vInts xs) ∧ Cs w' lo B v bs (A + 7) ∧ w.grownBy w' (some B) := by
  have Hb := hid hb
  have hl0 : ((w.alloc (.cells #[.slice none 0 0] 26)).alloc (.cells #[.int .i64 (-1), .int .i64 0] 3)).ownsRow (w.heap.size + 1) 3 1 (.slice (some ⟨w.heap.size + 1, 0, none⟩) 2 2) 2 (vInts [-1, 0]) := by
    have := World.ownsRow_lit (base := w.heap.size + 1) (e := 3) (size := 1) (w.alloc (.cells #[.slice none 0 0] 26)) #[.int .i64 (-1), .int .i64 0] 2 (by simp) (by decide) rfl
    simpa [vInts] using this
  have hR : Hid (((w.alloc (.cells #[.slice none 0 0] 26)).alloc (.cells #[.int .i64 (-1), .int .i64 0] 3)).alloc (.cells #[.slice (some ⟨w.heap.size + 1, 0, none⟩) 2 2] 26) |>.heap[w.heap.size]? = some (.cells #[.slice none 0 0] 26 (0, 0))) := heap_old (heap_old (heap_at _ rfl) _) _
  have H0 : Hid (TrD w (((w.alloc (.cells #[.slice none 0 0] 26)).alloc (.cells #[.int .i64 (-1), .int .i64 0] 3)).alloc (.cells #[.slice (some ⟨w.heap.size + 1, 0, none⟩) 2 2] 26)) (w.heap.size + 1) lo B v bs A (w.heap.size + 2) (.slice (some ⟨w.heap.size + 1, 0, none⟩) 2 2) [-1, 0]) :=
    ⟨(Dr.start h).ext (by repeat' (first | exact Ext.refl _ | assumption | refine Ext.alloc ?_ _ | refine Ext.ext ?_ _ | refine Ext.drew ?_ | refine Ext.drewN ?_ _)), heap_at _ (by simp), own_ext hl0 (by repeat' (first | exact Ext.refl _ | assumption | refine Ext.alloc ?_ _ | refine Ext.ext ?_ _ | refine Ext.drew ?_ | refine Ext.drewN ?_ _)), by omega, fun e => by have e2 : w.heap.size + 1 = w.heap.size + 2 := Option.some.inj e; omega, by omega⟩
  clear h hl0 hb
  obtain ⟨i0, hi, hz0, hz1, hz2⟩ := info_parts infoInt
  go_enter Tryz.func19, Tryz.ntmps19
  go_wp2_with fail
  generalize (((w.alloc (.cells #[.slice none 0 0] 26)).alloc (.cells #[.int .i64 (-1), .int .i64 0] 3)).alloc (.cells #[.slice (some ⟨w.heap.size + 1, 0, none⟩) 2 2] 26)) = W at *
  go_at_call 24
  refine (spec_pick Hb.out 7 _ H0.out.1.1 (by omega) (by omega)).mono ?_
  rintro e w1 ⟨x, rfl, hx0, hx1, hc, hg⟩
  have H1 := hid (And.intro (H0.out.step hc hg) (blk_step H0.out.1 hR.out (Nat.le_refl _) hg))
  clear hc hg H0 hR
  obtain ⟨n, rfl⟩ : ∃ n : Nat, x = n := ⟨x.toNat, by omega⟩
  go_wp2
  go_loopw [4] (fun v4 wr => ∃ (k : Nat) (u : Value) (xs : List Int), k ≤ 6 ∧ v4 = .int .i64 k ∧ 2 ≤ xs.length ∧ xs.length + k ≤ 8 ∧ Hid (TrD w wr (w.heap.size + 1) lo B v bs (A + 7 - k) (w.heap.size + 2) u xs ∧ wr.heap[w.heap.size]? = some (.cells #[.slice none 0 0] 26 (0, 0)))) (fun v4 _ => (intOf v4).toNat)
  case atStart => exact ⟨n, _, [-1, 0], by omega, rfl, by simp, by simp; omega, ⟨H1.out.1.more (by omega), H1.out.2⟩⟩
  case round =>
    obtain ⟨k, u, xs, hk, rfl, hl1, hl2, HT⟩ := hrel
    obtain ⟨b0, f0, hT⟩ := box1 HT.out.1.2.1
    obtain ⟨ug, ucap, rfl, hug0, hug1⟩ := HT.out.1.2.2.1.form (by omega)
    by_cases hlt : 0 < k
    · obtain ⟨k, rfl⟩ : ∃ j, k = j + 1 := ⟨k - 1, by omega⟩
      have t0 : (0 : Int) < ((k + 1 : Nat) : Int) := by omega
      go_wp2
      go_region_law (first
        | (go_simp; go_at_call 24; (refine (spec_pick Hb.out (xs.length : Int) _ (HT.out.1.1.1.ext (by repeat' (first | exact Ext.refl _ | assumption | refine Ext.alloc ?_ _ | refine Ext.ext ?_ _ | refine Ext.drew ?_ | refine Ext.drewN ?_ _))) (by omega) (by omega)).mono ?_); rintro e w2 ⟨x, rfl, hx0, hx1, hc, hg⟩; have H2 := hid (And.intro ((HT.out.1.ext (show Ext wr wr.drew from (by repeat' (first | exact Ext.refl _ | assumption | refine Ext.alloc ?_ _ | refine Ext.ext ?_ _ | refine Ext.drew ?_ | refine Ext.drewN ?_ _)))).step hc hg) (blk_step (HT.out.1.1.ext (show Ext wr wr.drew from (by repeat' (first | exact Ext.refl _ | assumption | refine Ext.alloc ?_ _ | refine Ext.ext ?_ _ | refine Ext.drew ?_ | refine Ext.drewN ?_ _)))) (blk_ext HT.out.2 (show Ext wr wr.drew from (by repeat' (first | exact Ext.refl _ | assumption | refine Ext.alloc ?_ _ | refine Ext.ext ?_ _ | refine Ext.drew ?_ | refine Ext.drewN ?_ _)))) (Nat.le_refl _) hg)); clear hc hg; obtain ⟨c0, g0, hT2⟩ := box1 H2.out.1.2.1)
        | (refine step_append_lies _ (by rfl) _ _ _ (by rfl) (w.heap.size + 1) 3 i0 _ 1 8 Tryz.underlying24 hi hz0 hz1 hz2 rfl (by omega) _ xs.length (vInts xs) (by rfl) (own_ext H2.out.1.2.2.1 (by repeat' (first | exact Ext.refl _ | assumption | refine Ext.alloc ?_ _ | refine Ext.ext ?_ _ | refine Ext.drew ?_ | refine Ext.drewN ?_ _))) ⟨w2.heap.size, 0, none⟩ 1 1 [.int .i64 x] (by rfl) (by rfl) (World.news_of_block (cs := #[.int .i64 x]) (t := 3) (fr := (0, 0)) (heap_alloc_new w2 _)) (by simp [Value.oneCell']) (by omega) (by unfold maxLen; omega) (by omega) (by have := H2.out.1.1.size; simp; omega) (w2.heap.size + 1) (by simp) ?_; intro gg cap5 w5 hown' hgrow hat hlt5; have hb5 := blk_grow (blk_ext H2.out.1.2.1 (show Ext w2 (w2.alloc (.cells #[.int .i64 x] 3)) from (by repeat' (first | exact Ext.refl _ | assumption | refine Ext.alloc ?_ _ | refine Ext.ext ?_ _ | refine Ext.drew ?_ | refine Ext.drewN ?_ _)))) hgrow H2.out.1.2.2.2.2.1; obtain ⟨d0, e0, hT5⟩ := box1 hb5))
      all_goals
        have H3 := hid ((H2.out.1.ext (show Ext w2 (w2.alloc (.cells #[.int .i64 x] 3)) from (by repeat' (first | exact Ext.refl _ | assumption | refine Ext.alloc ?_ _ | refine Ext.ext ?_ _ | refine Ext.drew ?_ | refine Ext.drewN ?_ _)))).grow (ys := xs ++ [x]) (u' := .slice (some ⟨gg, 0, none⟩) (xs.length + 1) cap5) hgrow (by simpa [vInts] using hown') (fun j e => by
          cases e
          rcases hat with h | h
          · exact .inl h
          · exact .inr (by simp; omega)))
        have hR3 : Hid ((w5.setCell ⟨w.heap.size + 2, 0, none⟩ (.slice (some ⟨gg, 0, none⟩) (xs.length + 1) cap5)).heap[w.heap.size]? = some (.cells #[.slice none 0 0] 26 (0, 0))) := set_other (blk_grow (blk_ext H2.out.2 (show Ext w2 (w2.alloc (.cells #[.int .i64 x] 3)) from (by repeat' (first | exact Ext.refl _ | assumption | refine Ext.alloc ?_ _ | refine Ext.ext ?_ _ | refine Ext.drew ?_ | refine Ext.drewN ?_ _)))) hgrow (own_not H2.out.1.2.2.1 (by omega))) (by dsimp only; omega) _
        clear hown' hgrow hat hb5 d0 e0 c0 g0 H2
        go_wp2
        go_roundw
        case rel => exact ⟨k, _, xs ++ [x], by omega, by go_num, by simp; omega, by simp; omega, ⟨H3.out.more (by omega), hR3.out⟩⟩
        case measure => simp [intOf]
    · obtain rfl : k = 0 := by omega
      obtain ⟨r0, q0, hT0⟩ := box1 HT.out.2
      go_wp2
      refine bodyPost_ret (results_cell_row rfl _ _ w.heap.size _ _ (0, 0) _ rfl (box1_set (t := 26) HT.out.2 _) Tryz.underlying26 rfl (by kernel_rfl)) rfl ⟨_, xs, rfl, hl1, by omega, ?_⟩
      have hK := (HT.out.1.1.more (show A + 7 - 0 ≤ A + 7 by omega)).set (p := ⟨w.heap.size, 0, none⟩) (Nat.le_refl _) (.slice (some ⟨ug, 0, none⟩) xs.length ucap)
      exact ⟨own_mono (own_off HT.out.1.2.2.1 (own_not HT.out.1.2.2.1 (by omega))) (by omega), hK.fin⟩
end Go.Proofs.YtlaochpkelbchaaGreatDoor
