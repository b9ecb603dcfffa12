/- Trees that may be invalid. -/
import Derived.Test.YtlaochpkelbchaaGreatDoorKWCurT
import Derived.Test.YtlaochpkelbchaaGreatDoorKWPut2
import Derived.Test.YtlaochpkelbchaaGreatDoorKWDel
import Derived.Deep.RegionLaw
import Derived.Deep.DeepCutAuto
import Derived.Deep.LoopGhost
namespace Go.Proofs.YtlaochpkelbchaaGreatDoor
open Go.RowKit
set_option maxHeartbeats 2000000
set_option maxRecDepth 100000
/-- A cell of the row turned. -/
theorem TrD.at {w W : World} {m lo B A T g cap : Nat} {v : Value} {bs xs : List Int} (h : TrD w W m lo B v bs A T (.slice (some ⟨g, 0, none⟩) xs.length cap) xs) (j : Nat) (x : Int) :
    TrD w (W.setCell ⟨g, j, none⟩ (.int .i64 x)) m lo B v bs A T (.slice (some ⟨g, 0, none⟩) xs.length cap) (xs.set j x) := by
  obtain ⟨h1, h2, h3, h4, h5, h6⟩ := h
  have hg := (own_row h3 g rfl).1
  have s1 := World.ownsRow.stored h3 j (.int .i64 x)
  refine ⟨h1.set (by dsimp only; omega) _, set_other h2 (by dsimp only; intro e; exact h5 (by rw [e]; rfl)) _, ?_, h4, h5, h6⟩
  rw [List.length_set, show vInts (xs.set j x) = (vInts xs).set j (.int .i64 x) by simp [vInts, List.map_set]]
  exact s1.1
theorem TrD.fin {w W : World} {lo B A A' T : Nat} {v u : Value} {bs xs : List Int} (h : TrD w W (w.heap.size + 1) lo B v bs A T u xs) (hA : A ≤ A') (a : Value) :
    (W.setCell ⟨w.heap.size, 0, none⟩ a).ownsRow w.heap.size 3 1 u xs.length (vInts xs) ∧ Cs (W.setCell ⟨w.heap.size, 0, none⟩ a) lo B v bs A' ∧ w.grownBy (W.setCell ⟨w.heap.size, 0, none⟩ a) (some B) :=
  ⟨own_mono (own_off h.2.2.1 (own_not h.2.2.1 (by omega))) (by omega), ((h.1.more hA).set (p := ⟨w.heap.size, 0, none⟩) (Nat.le_refl _) a).fin⟩
theorem spec_anyTree {bs : List Int} (hb : Bts bs) {lo B A : Nat} {v : Value} (w : World) (h : Cs w lo B v bs A) (hA : A ≤ 700000) :
    Calls Tryz.prog 21 #[.pointer (some ⟨B, 0, none⟩)] w fun e w' => ∃ (r : Value) (xs : List Int), e = .returned (.agg #[r]) ∧ xs.length ≤ 9 ∧ w'.ownsRow w.heap.size 3 1 r xs.length (vInts xs) ∧ Cs w' lo B v bs (A + 30) ∧ w.grownBy w' (some B) := by
  have Hb := hid hb
  have H0 : Hid (Dr w (w.alloc (.cells #[.slice none 0 0] 26)) lo B v bs A ∧ (w.alloc (.cells #[.slice none 0 0] 26)).heap[w.heap.size]? = some (.cells #[.slice none 0 0] 26 (0, 0))) := ⟨(Dr.start h).ext (by repeat' (first | exact Ext.refl _ | assumption | refine Ext.alloc ?_ _ | refine Ext.ext ?_ _ | refine Ext.drew ?_ | refine Ext.drewN ?_ _)), heap_at _ rfl⟩
  have hs0 : (w.alloc (.cells #[.slice none 0 0] 26)).heap.size = w.heap.size + 1 := by simp
  have Ht := hid (fun w h => spec_tree hb (lo := lo) (B := B) (A := A) (v := v) w h (by omega))
  clear h hb
  obtain ⟨i0, hi, hz0, hz1, hz2⟩ := info_parts infoInt
  go_enter Tryz.func21, Tryz.ntmps21
  go_wp2_with fail
  go_at_call 19
  generalize (w.alloc (.cells #[.slice none 0 0] 26)) = w0 at *
  refine (Ht.out _ H0.out.1.1).mono ?_
  rintro e w1 ⟨u, xs, rfl, hx2, hx8, ho, hc, hg⟩
  rw [hs0] at ho
  obtain ⟨ug, ucap, rfl, -, hug⟩ := ho.form (by omega)
  have hD1 := H0.out.1.step hc hg
  have H1 : Hid (TrD w (w1.alloc (.cells #[.slice (some ⟨ug, 0, none⟩) xs.length ucap] 26)) (w.heap.size + 1) lo B v bs (A + 7) w1.heap.size (.slice (some ⟨ug, 0, none⟩) xs.length ucap) xs ∧ (w1.alloc (.cells #[.slice (some ⟨ug, 0, none⟩) xs.length ucap] 26)).heap[w.heap.size]? = some (.cells #[.slice none 0 0] 26 (0, 0))) :=
    ⟨⟨hD1.ext (by repeat' (first | exact Ext.refl _ | assumption | refine Ext.alloc ?_ _ | refine Ext.ext ?_ _ | refine Ext.drew ?_ | refine Ext.drewN ?_ _)), heap_at _ rfl, own_ext ho (by repeat' (first | exact Ext.refl _ | assumption | refine Ext.alloc ?_ _ | refine Ext.ext ?_ _ | refine Ext.drew ?_ | refine Ext.drewN ?_ _)), hD1.size, fun e => by have e2 : ug = w1.heap.size := Option.some.inj e; omega, by omega⟩, heap_old (blk_step H0.out.1 H0.out.2 (Nat.le_refl _) hg) _⟩
  have hT1 : w.heap.size + 1 ≤ w1.heap.size := by have := (own_row ho ug rfl).1; omega
  clear hc hg ho H0 Ht hD1 hs0
  go_wp2_with fail
  generalize (w1.alloc (.cells #[.slice (some ⟨ug, 0, none⟩) xs.length ucap] 26)) = W at *
  generalize w1.heap.size = T at *
  go_at_call 24
  refine (spec_pick Hb.out 24 _ H1.out.1.1.1 (by omega) (by omega)).mono ?_
  rintro e w2 ⟨z, rfl, hz0', hz1', hc, hg⟩
  have H2 := hid (And.intro (H1.out.1.step hc hg) (blk_step H1.out.1.1 H1.out.2 (Nat.le_refl _) hg))
  clear hc hg H1
  obtain ⟨b0, f0, hT⟩ := box1 H2.out.1.2.1
  by_cases z0 : z = 0
  · subst z0
    obtain ⟨hcap, -, -⟩ := own_full H2.out.1.2.2.1
    have X0 : Ext w2 w2.drew := (by repeat' (first | exact Ext.refl _ | assumption | refine Ext.alloc ?_ _ | refine Ext.ext ?_ _ | refine Ext.drew ?_ | refine Ext.drewN ?_ _))
    have HD := hid (And.intro (H2.out.1.ext X0) (blk_ext H2.out.2 X0))
    go_wp2_with fail
    go_region_law (go_simp; go_at_call 24; (refine (spec_pick Hb.out 2 _ HD.out.1.1.1 (by omega) (by omega)).mono ?_); rintro e w3 ⟨x, rfl, hx0, hx1, hc, hg⟩; have H3 := hid (And.intro (HD.out.1.step hc hg) (blk_step HD.out.1.1 HD.out.2 (Nat.le_refl _) hg)); clear hc hg; obtain ⟨c0, g0, hT2⟩ := box1 H3.out.1.2.1; obtain ⟨i, rfl⟩ : ∃ i : Nat, x = i := ⟨x.toNat, (by omega)⟩; have hs1 := run_upto (some ⟨ug, 0, none⟩) xs.length i ucap (by omega); have hs2 := run_uptoAt (some ⟨ug, 0, none⟩) xs.length i ucap (by omega))
    all_goals
      have hot := own_trunc (i := i) H3.out.1.2.2.1 (by omega)
      have htk : (xs.take i).length = i := by rw [List.length_take]; omega
      have H4 := hid (And.intro (TrD.put (u' := .slice (some ⟨ug, 0, none⟩) i ucap) (ys := xs.take i) H3.out.1.1 H3.out.1.2.1 H3.out.1.2.2.2.1 H3.out.1.2.2.2.2.2 (by rw [htk, show vInts (xs.take i) = (vInts xs).take i by simp [vInts, List.map_take]]; exact hot) H3.out.1.2.2.2.2.1) (set_other (p := ⟨T, 0, none⟩) H3.out.2 (by dsimp only; omega) (.slice (some ⟨ug, 0, none⟩) i ucap)))
      have hl1 : (xs.take i).length ≤ 9 := by rw [htk]; omega
      clear hot htk b0 f0 c0 g0 hs1 hs2
      go_upto_region 13 with fail
      generalize w3.setCell ⟨T, 0, none⟩ (.slice (some ⟨ug, 0, none⟩) i ucap) = V at H4 ⊢
      obtain ⟨y0, y1, hT9⟩ := box1 H4.out.1.2.1
      obtain ⟨r0, q0, hR9⟩ := box1 H4.out.2
      go_wp2
      refine bodyPost_ret (results_cell_row rfl _ _ w.heap.size _ _ (0, 0) _ rfl (box1_set (t := 26) H4.out.2 _) Tryz.underlying26 rfl (by kernel_rfl)) rfl ?_
      first | refine ⟨_, (xs.take i), rfl, ?_⟩ | refine ⟨_, rfl, (xs.take i), ?_⟩
      exact ⟨hl1, H4.out.1.fin (by omega) _⟩
  by_cases z1 : z = 1
  · subst z1
    have y0 := H2.out.1.2.2.1.cellAt 0 (by omega)
    rw [vInts_get xs 0 (by omega)] at y0
    have y1 := H2.out.1.2.2.1.frozenAt 0
    have n0 : (0 : Int) < (xs.length : Int) := by omega
    have H3 := hid (And.intro (H2.out.1.at 0 0) (set_other (p := ⟨ug, 0, none⟩) H2.out.2 (by dsimp only; have := (own_row H2.out.1.2.2.1 ug rfl).1; omega) (.int .i64 0)))
    go_upto_region 13 with fail
    generalize w2.setCell ⟨ug, 0, none⟩ (.int .i64 0) = V at H3 ⊢
    clear y0 y1 b0 f0
    obtain ⟨y0, y1, hT9⟩ := box1 H3.out.1.2.1
    obtain ⟨r0, q0, hR9⟩ := box1 H3.out.2
    go_wp2
    refine bodyPost_ret (results_cell_row rfl _ _ w.heap.size _ _ (0, 0) _ rfl (box1_set (t := 26) H3.out.2 _) Tryz.underlying26 rfl (by kernel_rfl)) rfl ?_
    first | refine ⟨_, (xs.set 0 0), rfl, ?_⟩ | refine ⟨_, rfl, (xs.set 0 0), ?_⟩
    exact ⟨by simp; omega, H3.out.1.fin (by omega) _⟩
  by_cases z2 : z = 2
  · subst z2
    have e1 : IntKind.i64.wrap ((xs.length : Int) - 1) = (xs.length : Int) - 1 := IntWalk.i64_in _ (by omega)
    go_wp2_with fail
    go_at_call 24
    refine (spec_pick Hb.out ((xs.length : Int) - 1) _ H2.out.1.1.1 (by omega) (by omega)).mono ?_
    rintro e w3 ⟨x, rfl, hx0, hx1, hc, hg⟩
    have H3 := hid (And.intro (H2.out.1.step hc hg) (blk_step H2.out.1.1 H2.out.2 (Nat.le_refl _) hg))
    clear hc hg H2 b0 f0
    obtain ⟨b0, f0, hT⟩ := box1 H3.out.1.2.1
    obtain ⟨i, rfl⟩ : ∃ i : Nat, x = i := ⟨x.toNat, (by omega)⟩
    have e2 : IntKind.i64.wrap (1 + (i : Int)) = ((i + 1 : Nat) : Int) := by rw [IntWalk.i64_in _ (by omega)]; omega
    have e3 : IntKind.i64.wrap (((i + 1 : Nat) : Int) - 1) = (i : Int) := by rw [IntWalk.i64_in _ (by omega)]; omega
    have n0 : (0 : Int) ≤ ((i + 1 : Nat) : Int) := by omega
    have n1 : ((i + 1 : Nat) : Int) < (xs.length : Int) := by omega
    have n2 : i + 1 < xs.length := by omega
    have n3 : i + 1 ≤ xs.length := by omega
    generalize i + 1 = j at *
    go_wp2_with fail
    have X0 : Ext w3 (w3.alloc (.cells #[.int .i64 j, .int .i64 (-1), .int .i64 i, .int .i64 9] 3)).drew := (by repeat' (first | exact Ext.refl _ | assumption | refine Ext.alloc ?_ _ | refine Ext.ext ?_ _ | refine Ext.drew ?_ | refine Ext.drewN ?_ _))
    have ham : Hid (Calls Tryz.prog 48 #[.pointer (some ⟨B, 0, none⟩), .slice (some ⟨w3.heap.size, 0, none⟩) 4 4] (w3.alloc (.cells #[.int .i64 j, .int .i64 (-1), .int .i64 i, .int .i64 9] 3)).drew fun e w' => ∃ x : Int, e = .returned (.int .i64 x) ∧ TrD w w' (w.heap.size + 1) lo B v bs (A + 7 + 1 + 1 + 1) T (.slice (some ⟨ug, 0, none⟩) xs.length ucap) xs ∧ w'.heap[w.heap.size]? = some (.cells #[.slice none 0 0] 26 (0, 0))) :=
      (spec_amongLit Hb.out #[.int .i64 j, .int .i64 (-1), .int .i64 i, .int .i64 9] 4 w3.heap.size w3 w3.drew H3.out.1.1.1 (show Ext w3 w3.drew from (by repeat' (first | exact Ext.refl _ | assumption | refine Ext.alloc ?_ _ | refine Ext.ext ?_ _ | refine Ext.drew ?_ | refine Ext.drewN ?_ _))) (by simp) rfl (by omega) (by omega) (by simp)).mono fun e w' ⟨x, a1, a2, a3⟩ => ⟨x, a1, H3.out.1.step a2 a3, blk_step H3.out.1.1 H3.out.2 (Nat.le_refl _) a3⟩
    have oD := X0.cell b0
    have oA := (show Ext w3 w3.drew from (by repeat' (first | exact Ext.refl _ | assumption | refine Ext.alloc ?_ _ | refine Ext.ext ?_ _ | refine Ext.drew ?_ | refine Ext.drewN ?_ _))).cell b0
    have oC := (show Ext w3 (w3.alloc (.cells #[.int .i64 j, .int .i64 (-1), .int .i64 i, .int .i64 9] 3)) from (by repeat' (first | exact Ext.refl _ | assumption | refine Ext.alloc ?_ _ | refine Ext.ext ?_ _ | refine Ext.drew ?_ | refine Ext.drewN ?_ _))).cell b0
    go_region_held3 (fun w' => w'.cell? ⟨T, 0, none⟩ = some (.slice (some ⟨ug, 0, none⟩) xs.length ucap)) (first | exact b0 | exact oD | exact oA | exact oC | exact r0 | exact s0)
      (first
        | (go_at_call 48; (with_reducible refine ham.out.mono ?_); rintro e we ⟨x, rfl, hd1, hd2⟩; have H4 := hid (And.intro hd1 hd2); clear hd1 hd2; obtain ⟨r0, t0, hT4⟩ := box1 H4.out.1.2.1; have y0 := H4.out.1.2.2.1.cellAt j (by omega); rw [vInts_get xs j n2] at y0; have y1 := H4.out.1.2.2.1.frozenAt j; have H5 := hid (And.intro (H4.out.1.at j x) (set_other (p := ⟨ug, j, none⟩) H4.out.2 (by dsimp only; have := (own_row H4.out.1.2.2.1 ug rfl).1; omega) (.int .i64 x))); obtain ⟨s0, t1, hT5⟩ := box1 H5.out.1.2.1)
        | fail)
    generalize we.setCell ⟨ug, j, none⟩ (.int .i64 x) = V at H5 ⊢
    clear H4 ham X0 oD oA oC r0 t0 y0 y1 s0 t1 b0 f0 e1 e2 e3
    obtain ⟨y0, y1, hT9⟩ := box1 H5.out.1.2.1
    obtain ⟨r0, q0, hR9⟩ := box1 H5.out.2
    go_wp2
    refine bodyPost_ret (results_cell_row rfl _ _ w.heap.size _ _ (0, 0) _ rfl (box1_set (t := 26) H5.out.2 _) Tryz.underlying26 rfl (by kernel_rfl)) rfl ?_
    first | refine ⟨_, (xs.set j x), rfl, ?_⟩ | refine ⟨_, rfl, (xs.set j x), ?_⟩
    exact ⟨by simp; omega, H5.out.1.fin (by omega) _⟩
  by_cases z3 : z = 3
  · subst z3
    clear z0 z1 z2 hz0' hz1'
    go_wp2
    go_loopg [] (9 - xs.length) (fun k wr => ∃ (u : Value) (ys : List Int), 2 ≤ ys.length ∧ ys.length + k ≤ 9 ∧ 9 ≤ ys.length + k ∧ Hid (TrD w wr (w.heap.size + 1) lo B v bs (A + 9 + ys.length) T u ys ∧ wr.heap[w.heap.size]? = some (.cells #[.slice none 0 0] 26 (0, 0))))
    case atStart => exact ⟨_, xs, hx2, by omega, by omega, ⟨H2.out.1.more (by omega), H2.out.2⟩⟩
    case round =>
      obtain ⟨u, ys, hl2, hl9, hl8, HL⟩ := hrel
      clear H2 b0 f0 hT hug hx2 hx8
      obtain ⟨yg, ycap, rfl, -, hyg⟩ := HL.out.1.2.2.1.form (by omega)
      obtain ⟨b0, f0, hT⟩ := box1 HL.out.1.2.1
      have X0 : Ext wr wr.drew := (by repeat' (first | exact Ext.refl _ | assumption | refine Ext.alloc ?_ _ | refine Ext.ext ?_ _ | refine Ext.drew ?_ | refine Ext.drewN ?_ _))
      have d0 := X0.cell b0
      have HD := hid (And.intro (HL.out.1.ext X0) (blk_ext HL.out.2 X0))
      have hC0 := HD.out.1.1.1
      have a0 : A + 9 + ys.length ≤ 900000 := by omega
      have n2 : 1 ≤ (2 : Int) ∧ (2 : Int) ≤ 200 := by omega
      go_wp2_with fail
      go_region_held3 (fun w' => w'.cell? ⟨T, 0, none⟩ = some (.slice (some ⟨yg, 0, none⟩) ys.length ycap)) (first | exact b0 | exact d0 | exact c1)
        (first
          | (go_at_call 24; (with_reducible refine (spec_pick Hb.out 2 _ hC0 a0 n2).mono ?_); rintro e w3 ⟨x, rfl, hx0, hx1, hc, hg⟩; have H3 := hid (And.intro (HD.out.1.step hc hg) (blk_step HD.out.1.1 HD.out.2 (Nat.le_refl _) hg)); clear hc hg; obtain ⟨c1, g1, hT1⟩ := box1 H3.out.1.2.1; have e1 : IntKind.i64.wrap (8 + x) = 8 + x := IntWalk.i64_in _ (by omega))
          | fail)
      clear d0 HL HD hC0 b0 f0 X0
      by_cases hlt : (ys.length : Int) < 8 + x
      · have X9 : Ext w3 (w3.alloc (.cells #[.int .i64 1] 3)) := (by repeat' (first | exact Ext.refl _ | assumption | refine Ext.alloc ?_ _ | refine Ext.ext ?_ _ | refine Ext.drew ?_ | refine Ext.drewN ?_ _))
        go_wp2_with (at_builtin; refine wpList_append_own_at _ rfl _ _ 24 rfl (w.heap.size + 1) 3 i0 (.int .i64 0) 1 8 Tryz.underlying24 hi hz0 hz1 hz2 rfl (by decide) _ _ _ rfl ((own_ext H3.out.1.2.2.1 (by repeat' (first | exact Ext.refl _ | assumption | refine Ext.alloc ?_ _ | refine Ext.ext ?_ _ | refine Ext.drew ?_ | refine Ext.drewN ?_ _)))) ⟨_, 0, none⟩ 1 1 [.int .i64 1] rfl ?a0A ?a1A ?a2A ?a3A ?a4A ?a5A ?_)
        (try case a0A => rfl)
        case a1A => (intro j u hj; rw [Addr.add_lit, Nat.zero_add, cell_of_row _ _ j _ _ (0, 0) (heap_at _ rfl)]; first | (simpa using hj) | (simpa [hwb.out] using hj))
        case a2A => simp [Value.oneCell']
        case a3A => (unfold maxLen; simp; omega)
        case a4A => (first | omega | (simp; omega))
        case a5A => (have := (H3.out.1.1.size); first | omega | (simp at *; omega))
        intro v' w1 hown' hgrow hat
        intro hat9
        have kT := blk_grow (blk_ext H3.out.1.2.1 X9) hgrow H3.out.1.2.2.2.2.1
        have H4 := hid (And.intro ((H3.out.1.ext X9).grow (ys := ys ++ [1]) hgrow (by simpa [vInts] using hown') (fun j e => by
          rcases hat9 with h | h
          · exact .inl (by rw [← h]; exact e)
          · rw [e] at h
            have h9 := Option.some.inj h
            exact .inr (by simp; omega))) (set_other (p := ⟨T, 0, none⟩) (blk_grow (blk_ext H3.out.2 X9) hgrow (own_not H3.out.1.2.2.1 (by omega))) (by dsimp only; omega) v'))
        obtain ⟨vp, vc, rfl⟩ := own_shape hown'
        obtain ⟨k0, k1, hT2⟩ := box1 kT
        clear hown' hgrow hat hat9 kT H3 c1 g1 X9
        go_wp2
        go_roundg (gk - 1)
        case measure => omega
        case rel => exact ⟨_, ys ++ [1], by simp; omega, by simp; omega, by simp; omega, ⟨H4.out.1.more (by simp; omega), H4.out.2⟩⟩
      · clear c1 g1
        obtain ⟨y0, y1, hT9⟩ := box1 H3.out.1.2.1
        obtain ⟨r0, q0, hR9⟩ := box1 H3.out.2
        go_wp2
        refine bodyPost_ret (results_cell_row rfl _ _ w.heap.size _ _ (0, 0) _ rfl (box1_set (t := 26) H3.out.2 _) Tryz.underlying26 rfl (by kernel_rfl)) rfl ?_
        first | refine ⟨_, ys, rfl, ?_⟩ | refine ⟨_, rfl, ys, ?_⟩
        exact ⟨by omega, H3.out.1.fin (by omega) _⟩
  have t0 : (z == 0) = false := by rw [beq_eq_false_iff_ne]; omega
  have t1 : (z == 1) = false := by rw [beq_eq_false_iff_ne]; omega
  have t2 : (z == 2) = false := by rw [beq_eq_false_iff_ne]; omega
  have t3 : (z == 3) = false := by rw [beq_eq_false_iff_ne]; omega
  clear b0 f0
  obtain ⟨y0, y1, hT9⟩ := box1 H2.out.1.2.1
  obtain ⟨r0, q0, hR9⟩ := box1 H2.out.2
  go_wp2
  refine bodyPost_ret (results_cell_row rfl _ _ w.heap.size _ _ (0, 0) _ rfl (box1_set (t := 26) H2.out.2 _) Tryz.underlying26 rfl (by kernel_rfl)) rfl ?_
  first | refine ⟨_, xs, rfl, ?_⟩ | refine ⟨_, rfl, xs, ?_⟩
  exact ⟨by omega, H2.out.1.fin (by omega) _⟩
end Go.Proofs.YtlaochpkelbchaaGreatDoor
