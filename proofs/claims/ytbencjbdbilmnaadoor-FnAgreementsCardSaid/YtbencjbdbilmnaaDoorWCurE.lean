/- Lists of deliveries that are drawn. -/
import Derived.Test.YtbencjbdbilmnaaDoorWCurD
import Derived.Maps.AppendAt
namespace Go.Proofs.YtbencjbdbilmnaaDoor
open Go.RowKit
set_option maxHeartbeats 2000000
set_option maxRecDepth 100000
/-- While a list is drawn. -/
def LD (w W : World) (lo B : Nat) (v : Value) (bs : List Int) (A : Nat) (u : Value) (xs : List Dlv) : Prop :=
  Cs W lo B v bs A ∧ w.grownBy W (some B) ∧ W.ownsRow w.heap.size 26 4 u xs.length (xs.flatMap Dlv.cs) ∧ B < w.heap.size ∧ lo ≤ B
theorem LD.step {w W W' : World} {lo B A A' : Nat} {v u : Value} {bs : List Int} {xs : List Dlv} (h : LD w W lo B v bs A u xs) (hc : Cs W' lo B v bs A') (hg : W.grownBy W' (some B)) : LD w W' lo B v bs A' u xs :=
  ⟨hc, grownBy_trans h.2.1 hg, own_behind h.2.2.1 hg (fun j e => by have e2 : B = j := Option.some.inj e; subst e2; exact h.2.2.2.1), h.2.2.2⟩
theorem LD.ext {w W W' : World} {lo B A : Nat} {v u : Value} {bs : List Int} {xs : List Dlv} (h : LD w W lo B v bs A u xs) (hx : Ext W W') : LD w W' lo B v bs A u xs :=
  ⟨h.1.ext hx, grownBy_trans h.2.1 (hx.grownBy _), own_ext h.2.2.1 hx, h.2.2.2⟩
theorem LD.grow {w W W' W2 : World} {lo B A : Nat} {v u u' : Value} {bs : List Int} {xs ys : List Dlv} (h : LD w W lo B v bs A u xs) (hx : Ext W W2) (hg : W2.grownBy W' u.ownBlock) (ho : W'.ownsRow w.heap.size 26 4 u' ys.length (ys.flatMap Dlv.cs)) : LD w W' lo B v bs A u' ys :=
  ⟨(h.1.ext hx).grown hg (fun b e => by have := (own_row h.2.2.1 b e).1; have := h.2.2.2; omega), grownBy_far (grownBy_trans h.2.1 (hx.grownBy _)) hg (fun j e => .inl (own_row h.2.2.1 j e).1), ho, h.2.2.2⟩
theorem spec_deliveries {bs : List Int} (hb : Bts bs) {lo B A : Nat} {v : Value} (w : World) (h : Cs w lo B v bs A) (hA : A ≤ 1000) :
    Calls Tryd.prog 54 #[.pointer (some ⟨B, 0, none⟩)] w fun e w' => ∃ (r : Value) (xs : List Dlv), e = .returned r ∧ xs.length ≤ 7 ∧ w'.ownsRow w.heap.size 26 4 r xs.length (xs.flatMap Dlv.cs) ∧ w.grownBy w' (some B) := by
  have Hb := hid hb
  have hlo := h.lo
  have hl0 : (w.alloc (.cells #[] 26)).ownsRow w.heap.size 26 4 (.slice (some ⟨w.heap.size, 0, none⟩) 0 0) 0 [] := World.ownsRow_lit w #[] 0 (Nat.le_refl _) (Nat.zero_le _) rfl
  have H0 : Hid (LD w (w.alloc (.cells #[] 26)) lo B v bs A (.slice (some ⟨w.heap.size, 0, none⟩) 0 0) []) := ⟨h.ext (by repeat' (first | exact Ext.refl _ | assumption | refine Ext.alloc ?_ _ | refine Ext.ext ?_ _ | refine Ext.drew ?_ | refine Ext.drewN ?_ _)), Ext.grownBy (by repeat' (first | exact Ext.refl _ | assumption | refine Ext.alloc ?_ _ | refine Ext.ext ?_ _ | refine Ext.drew ?_ | refine Ext.drewN ?_ _)) _, hl0, hlo.2, hlo.1⟩
  clear h hb hl0
  obtain ⟨i0, hi, hz0, hz1, hz2⟩ := info_parts infoDlv
  go_enter Tryd.func54, Tryd.ntmps54
  go_wp2
  go_loopw [4, 3] (fun v3 v2 wr => ∃ (k : Nat) (xs : List Dlv), 1 ≤ k ∧ k ≤ 8 ∧ v3 = .int .i64 k ∧ xs.length ≤ k - 1 ∧ LD w wr lo B v bs (A + 6 * k) v2 xs) (fun v3 _ _ => 8 - (intOf v3).toNat)
  case atStart => exact ⟨1, [], by omega, by omega, rfl, by simp, H0.out.1.more (by omega), H0.out.2⟩
  case round =>
    obtain ⟨k, xs, hk0, hk, rfl, hxl, hL⟩ := hrel
    have HL := hid hL
    obtain ⟨up, uc, rfl⟩ := own_shape hL.2.2.1
    clear hL H0
    by_cases hlt : k < 8
    · have t0 : (k : Int) < 8 := by omega
      go_wp2_with fail
      go_at_call 58
      refine (spec_one Hb.out 2 _ HL.out.1 (by omega) (by omega)).mono ?_
      rintro e w1 ⟨y, rfl, hc, hg⟩
      have H1 := hid (HL.out.step hc hg)
      clear hc hg HL
      cases y
      · go_wp2
        go_roundw
        case rel => exact ⟨k + 1, xs, by omega, by omega, by go_num, by omega, H1.out.1.more (by omega), H1.out.2⟩
        case measure => simp [intOf]; omega
      · go_wp2_with fail
        go_at_call 59
        refine (spec_delivery Hb.out k _ H1.out.1 (by omega)).mono ?_
        rintro e w2 ⟨⟨r, g, p, l⟩, rfl, hc, hg⟩
        dsimp only
        have H2 := hid (H1.out.step hc hg)
        clear hc hg H1
        have hsw := H2.out.2.1.size
        go_wp2_with (at_builtin; refine wpList_append_own _ rfl _ _ 32 rfl w.heap.size 26 i0 (.agg #[.int .i64 0, .int .i64 0, .int .i64 0, .int .i64 0]) 4 32 Tryd.underlying32 hi hz0 hz1 hz2 rfl (by decide) _ _ _ rfl ((own_ext H2.out.2.2.1 (by repeat' (first | exact Ext.refl _ | assumption | refine Ext.alloc ?_ _ | refine Ext.ext ?_ _ | refine Ext.drew ?_ | refine Ext.drewN ?_ _)))) ⟨_, 0, none⟩ 1 1 [.int .i64 r, .int .i64 g, .int .i64 p, .int .i64 l] rfl ?a0A ?a1A ?a2A ?a3A ?a4A ?a5A ?_)
        (try case a0A => rfl)
        case a1A => (intro j u hj; rw [Addr.add_lit, Nat.zero_add, cell_of_row _ _ j _ _ (0, 0) (heap_at _ rfl)]; first | (simpa using hj) | (simpa [hwb.out] using hj))
        case a2A => simp [Value.oneCell']
        case a3A => (unfold maxLen; simp; omega)
        case a4A => (first | omega | (simp; omega))
        case a5A => (have := (H2.out.2.1).size; first | omega | (simp at *; omega))
        intro v' w1 hown' hgrow hat
        have H3 := hid (H2.out.grow (ys := xs ++ [⟨r, g, p, l⟩]) (u' := v') (by repeat' (first | exact Ext.refl _ | assumption | refine Ext.alloc ?_ _ | refine Ext.ext ?_ _ | refine Ext.drew ?_ | refine Ext.drewN ?_ _)) hgrow (by rw [List.length_append, List.flatMap_append]; exact hown'))
        clear hown' hgrow hat H2
        go_wp2
        go_roundw
        case rel => exact ⟨k + 1, xs ++ [⟨r, g, p, l⟩], by omega, by omega, by go_num, by simp; omega, H3.out.1.more (by omega), H3.out.2⟩
        case measure => simp [intOf]; omega
    · obtain rfl : k = 8 := by omega
      by_cases h1 : 1 < xs.length
      · have t1 : (1 : Int) < (xs.length : Int) := by omega
        obtain ⟨ug, ucap, hf⟩ := own_form HL.out.2.2.1 (by omega)
        cases hf
        go_wp2_with fail
        go_at_call 58
        refine (spec_one Hb.out 24 _ HL.out.1 (by omega) (by omega)).mono ?_
        rintro e w1 ⟨y, rfl, hc, hg⟩
        have H1 := hid (HL.out.step hc hg)
        clear hc hg HL
        cases y
        · go_wp2
          go_ret
          first | exact ⟨_, rfl, xs, by omega, H1.out.2.2.1, H1.out.2.1⟩ | exact ⟨_, xs, rfl, by omega, H1.out.2.2.1, H1.out.2.1⟩
        · obtain ⟨a, ⟨r, g, p, l⟩, rest, hxs⟩ : ∃ (a b : Dlv) (rest : List Dlv), xs = a :: b :: rest := by
            match xs, h1 with
            | a :: b :: rest, _ => exact ⟨a, b, rest, rfl⟩
          have hcs : xs.flatMap Dlv.cs = [.int .i64 a.r, .int .i64 a.g, .int .i64 a.p, .int .i64 a.l, .int .i64 r, .int .i64 g, .int .i64 p, .int .i64 l] ++ rest.flatMap Dlv.cs := by rw [hxs]; rfl
          have ho := H1.out.2.2.1
          rw [hcs] at ho
          have e4 : w1.cell? ⟨ug, 4, none⟩ = some (.int .i64 r) := by simpa using ho.cellAt 4 (by omega)
          have e5 : w1.cell? ⟨ug, 5, none⟩ = some (.int .i64 g) := by simpa using ho.cellAt 5 (by omega)
          have e6 : w1.cell? ⟨ug, 6, none⟩ = some (.int .i64 p) := by simpa using ho.cellAt 6 (by omega)
          have e7 : w1.cell? ⟨ug, 7, none⟩ = some (.int .i64 l) := by simpa using ho.cellAt 7 (by omega)
          have e0 : w1.cell? ⟨ug, 0, none⟩ = some (.int .i64 a.r) := by simpa using ho.cellAt 0 (by omega)
          have e1 : w1.cell? ⟨ug, 1, none⟩ = some (.int .i64 a.g) := by simpa using ho.cellAt 1 (by omega)
          have e2 : w1.cell? ⟨ug, 2, none⟩ = some (.int .i64 a.p) := by simpa using ho.cellAt 2 (by omega)
          have e3 : w1.cell? ⟨ug, 3, none⟩ = some (.int .i64 a.l) := by simpa using ho.cellAt 3 (by omega)
          have f0 := ho.frozenAt 0
          have f1 := ho.frozenAt 1
          have f2 := ho.frozenAt 2
          have f3 := ho.frozenAt 3
          have s0 := World.ownsRow.stored ho 0 (.int .i64 r)
          have s1 := World.ownsRow.stored s0.1 1 (.int .i64 g)
          have s2 := World.ownsRow.stored s1.1 2 (.int .i64 p)
          have s3 := World.ownsRow.stored s2.1 3 (.int .i64 l)
          have hxl2 : (⟨r, g, p, l⟩ :: ⟨r, g, p, l⟩ :: rest : List Dlv).length = xs.length := by rw [hxs]; rfl
          have K := hid (H1.out.grow (ys := ⟨r, g, p, l⟩ :: ⟨r, g, p, l⟩ :: rest) (Ext.refl w1) (grownBy_trans (grownBy_trans (grownBy_trans s0.2 s1.2) s2.2) s3.2) (by rw [hxl2]; exact s3.1))
          clear s0 s1 s2 s3 ho hcs H1
          go_wp2
          repeat (go_region; go_wp2)
          go_ret
          rw [hxs] at K
          have h9 : (⟨r, g, p, l⟩ :: ⟨r, g, p, l⟩ :: rest : List Dlv).length ≤ 7 := by omega
          first | exact ⟨_, ⟨r, g, p, l⟩ :: ⟨r, g, p, l⟩ :: rest, rfl, h9, K.out.2.2.1, K.out.2.1⟩ | exact ⟨_, rfl, ⟨r, g, p, l⟩ :: ⟨r, g, p, l⟩ :: rest, h9, K.out.2.2.1, K.out.2.1⟩
      · have t1 : ¬ (1 : Int) < (xs.length : Int) := by omega
        go_wp2
        go_ret
        first | exact ⟨_, rfl, xs, by omega, HL.out.2.2.1, HL.out.2.1⟩ | exact ⟨_, xs, rfl, by omega, HL.out.2.2.1, HL.out.2.1⟩
theorem spec_DrawReportText {bs : List Int} (hb : Bts bs) {v : Value} (w : World) (h : Rd w 1 v bs.length (vBytes bs)) :
    Calls Tryd.prog 37 #[v] w fun e w' => ∃ (r : Value) (xs : List Dlv), e = .returned r ∧ xs.length ≤ 7 ∧ w'.ownsRow w.heap.size 26 4 r xs.length (xs.flatMap Dlv.cs) ∧ Ext w w' := by
  have hx : Ext w (w.alloc (.cells #[v, .int .i64 0, .int .u64 0] 69)) := (by repeat' (first | exact Ext.refl _ | assumption | refine Ext.alloc ?_ _ | refine Ext.ext ?_ _ | refine Ext.drew ?_ | refine Ext.drewN ?_ _))
  have hs : (w.alloc (.cells #[v, .int .i64 0, .int .u64 0] 69)).heap.size = w.heap.size + 1 := by simp
  have H0 : Hid (Cs (w.alloc (.cells #[v, .int .i64 0, .int .u64 0] 69)) w.heap.size w.heap.size v bs 0) :=
    ⟨⟨h.ext hx, fun b o m c e hm => rd_lt h (by decide) e hm⟩, 0, 0, by omega, by omega, World.ownsRow_lit w _ 1 (Nat.le_refl _) (by decide) rfl⟩
  have Hb := hid hb
  obtain ⟨-, p, cap, rfl, -⟩ := h
  go_enter Tryd.func37, Tryd.ntmps37
  go_wp2_with fail
  go_at_call 54
  refine (spec_deliveries Hb.out _ H0.out (by omega)).mono ?_
  rintro e w1 ⟨r, xs, rfl, hxl, ho, hg⟩
  obtain ⟨rp, rc, rfl⟩ := own_shape ho
  have K := hid (And.intro (own_mono ho (show w.heap.size ≤ _ by omega)) (hx.grown hg (fun j e => by have e2 : w.heap.size = j := Option.some.inj e; omega)))
  clear ho hg hx
  go_wp2
  go_ret
  first | exact ⟨_, xs, rfl, hxl, K.out.1, K.out.2⟩ | exact ⟨_, rfl, xs, hxl, K.out.1, K.out.2⟩
theorem spec_DrawTotalDelivery {bs : List Int} (hb : Bts bs) {v : Value} (w : World) (h : Rd w 1 v bs.length (vBytes bs)) :
    Calls Tryd.prog 18 #[v] w fun e w' => ∃ (r : Value) (xs : List Dlv), e = .returned r ∧ xs.length ≤ 7 ∧ w'.ownsRow w.heap.size 26 4 r xs.length (xs.flatMap Dlv.cs) ∧ Ext w w' := by
  have hc := hid (fun w h => spec_DrawReportText hb (v := v) w h)
  have H0 := hid h
  obtain ⟨-, p, cap, rfl, -⟩ := h
  go_enter Tryd.func18, Tryd.ntmps18
  go_wp2_with fail
  go_at_call 37
  refine (hc.out _ H0.out).mono ?_
  rintro e w1 ⟨r, xs, rfl, hxl, ho, hx⟩
  obtain ⟨rp, rc, rfl⟩ := own_shape ho
  have K := hid (And.intro ho hx)
  clear ho hx
  go_wp2
  go_ret
  first | exact ⟨_, xs, rfl, hxl, K.out.1, K.out.2⟩ | exact ⟨_, rfl, xs, hxl, K.out.1, K.out.2⟩
end Go.Proofs.YtbencjbdbilmnaaDoor
