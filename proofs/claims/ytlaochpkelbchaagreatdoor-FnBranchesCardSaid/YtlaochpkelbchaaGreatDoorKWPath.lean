/- Paths of trees. -/
import Derived.Test.YtlaochpkelbchaaGreatDoorKWTree
import Derived.Test.YtlaochpkelbchaaGreatDoorJ7
namespace Go.Proofs.YtlaochpkelbchaaGreatDoor
open Go.RowKit
set_option maxHeartbeats 400000
/-- From a node up to the source. -/
def upF (ps : List Int) : Nat → Int → List Int
  | 0, _ => []
  | f + 1, x => if x < 0 then [] else x :: upF ps f (ps.getD x.toNat 0)
def up (ps : List Int) (x : Int) : List Int := upF ps 9 x
/-- From the source down to a node. -/
def path (ps : List Int) (x : Int) : List Int := (up ps x).reverse
theorem parent_lt {ps : List Int} (hg : goodT ps = true) {x : Int} (h0 : 0 ≤ x) (h1 : x < ps.length) : -1 ≤ ps.getD x.toNat 0 ∧ ps.getD x.toNat 0 < x := by
  by_cases hx : x = 0
  · subst hx; have := goodT_root hg; simp only [Int.toNat_zero]; omega
  · have := goodT_get hg x.toNat (by omega) (by omega); omega
theorem upF_stable {ps : List Int} (hg : goodT ps = true) : ∀ (f g : Nat) (x : Int), x < ps.length → x < f → x < g → upF ps f x = upF ps g x
  | 0, 0, _, _, _, _ => rfl
  | 0, g + 1, x, _, hf, _ => by unfold upF; rw [if_pos (by omega)]
  | f + 1, 0, x, _, _, hg0 => by unfold upF; rw [if_pos (by omega)]
  | f + 1, g + 1, x, hx, hf, hg0 => by
    unfold upF
    by_cases h0 : x < 0
    · rw [if_pos h0, if_pos h0]
    · rw [if_neg h0, if_neg h0]
      have := parent_lt hg (x := x) (by omega) hx
      rw [upF_stable hg f g _ (by omega) (by omega) (by omega)]
theorem up_neg (ps : List Int) {x : Int} (h : x < 0) : up ps x = [] := by unfold up upF; rw [if_pos h]
theorem up_step {ps : List Int} (hg : goodT ps = true) {x : Int} (h0 : 0 ≤ x) (h1 : x < ps.length) : up ps x = x :: up ps (ps.getD x.toNat 0) := by
  have hl := goodT_len hg
  have hp := parent_lt hg h0 h1
  show upF ps 9 x = x :: upF ps 9 _
  conv => lhs; unfold upF
  rw [if_neg (by omega), upF_stable hg 8 9 _ (by omega) (by omega) (by omega)]
theorem up_len {ps : List Int} (hg : goodT ps = true) : ∀ (n : Nat) (x : Int), x < n → x < ps.length → (up ps x).length ≤ n
  | 0, x, h, _ => by rw [up_neg ps (by omega)]; simp
  | n + 1, x, h, h1 => by
    by_cases h0 : x < 0
    · rw [up_neg ps h0]; simp
    · have hp := parent_lt hg (x := x) (by omega) h1
      rw [up_step hg (by omega) h1]
      have := up_len hg n (ps.getD x.toNat 0) (by omega) (by omega)
      rw [List.length_cons]; omega
theorem up_mem {ps : List Int} (hg : goodT ps = true) : ∀ (n : Nat) (x : Int), x < n → x < ps.length → ∀ y ∈ up ps x, 0 ≤ y ∧ y < ps.length
  | 0, x, h, _ => by rw [up_neg ps (by omega)]; simp
  | n + 1, x, h, h1 => by
    by_cases h0 : x < 0
    · rw [up_neg ps h0]; simp
    · have hp := parent_lt hg (x := x) (by omega) h1
      rw [up_step hg (by omega) h1]
      intro y hy
      rcases List.mem_cons.1 hy with rfl | hy
      · omega
      · exact up_mem hg n _ (by omega) (by omega) y hy
theorem path_len {ps : List Int} (hg : goodT ps = true) {x : Int} (h1 : x < ps.length) : (path ps x).length ≤ 8 := by
  have hl := goodT_len hg
  have := up_len hg 8 x (by omega) h1
  simpa [path] using this
theorem path_mem {ps : List Int} (hg : goodT ps = true) {x : Int} (h1 : x < ps.length) (y : Int) (hy : y ∈ path ps x) : 0 ≤ y ∧ y < ps.length := by
  have hl := goodT_len hg
  exact up_mem hg 8 x (by omega) h1 y (by simpa [path] using hy)
theorem impl_path (ps : List Int) (v : Value) (x : Int) (w : World) (h : Rd w 1 v ps.length (vInts ps)) (hg : goodT ps = true) (hx0 : -1 ≤ x) (hx1 : x < ps.length) :
    Calls Tryz.prog 27 #[.agg #[v], .int .i64 x] w fun e w' => ∃ r, e = .returned r ∧ w'.ownsRow w.heap.size 3 1 r (path ps x).length (vInts (path ps x)) ∧ Ext w w' := by
  obtain ⟨h1, p, cap, rfl, h4⟩ := h
  have hlen := goodT_len hg
  obtain ⟨b, off, rfl, h6⟩ := h4.resolve_left (by omega)
  clear h4 h1
  have H6 := hid h6; clear h6
  have Hg := hid hg; clear hg
  have Hxx := hid (And.intro hx0 hx1); clear hx0 hx1
  obtain ⟨i0, hi, hz0, hz1, hz2⟩ := info_parts infoInt
  go_enter Tryz.func27, Tryz.ntmps27
  go_wp2
  go_loopw [1, 5] (fun v1 v5 wr => ∃ (c : Int) (L : List Int), v1 = .int .i64 c ∧ -1 ≤ c ∧ c < ps.length ∧ L ++ up ps c = up ps x ∧ wr.ownsRow (w.heap.size + 1) 3 1 v5 L.length (vInts L) ∧ Ext (w.alloc (.cells #[.slice (some ⟨b, off, none⟩) ps.length cap] 26)) wr) (fun v1 _ _ => (intOf v1 + 1).toNat)
  case atStart => exact ⟨x, [], rfl, Hxx.out.1, Hxx.out.2, rfl, World.ownsRow_nil _ _ _ _, Ext.refl _⟩
  case round =>
    obtain ⟨c, L, rfl, hc0, hc1, hL, hown, hx⟩ := hrel
    have hb0 : (w.alloc (.cells #[.slice (some ⟨b, off, none⟩) ps.length cap] 26)).cell? ⟨w.heap.size, 0, none⟩ = some (.slice (some ⟨b, off, none⟩) ps.length cap) := by rw [cell_of_row _ _ 0 _ _ (0, 0) (heap_at _ rfl)]; rfl
    have hLl : L.length ≤ 8 := by
      have h8 := up_len Hg.out 8 x (by have := Hxx.out.2; omega) Hxx.out.2
      rw [← hL, List.length_append] at h8; omega
    by_cases hneg : c < 0
    · rw [up_neg ps hneg, List.append_nil] at hL
      have t0 : decide (0 ≤ c) = false := by simp; omega
      have HL := hid hL; clear hL
      have hr : path ps x = L.reverse := by rw [path, HL.out]
      have HR := hid hr; clear hr
      go_wp2_with fail
      go_at_call 57
      refine (slices_Reverse L _ _ _ hown (by omega)).mono ?_
      rintro e w1 ⟨rfl, ho1, hg1⟩
      have hx1 := Ext.grown hx hg1 (fun j hj => by have := (hown.lt j hj).1; simp at *; omega)
      have K := hid (And.intro ho1 hx1); clear ho1 hx1 hg1
      go_wp2
      go_ret
      obtain ⟨ho1, hx1⟩ := K.out
      refine ⟨_, rfl, ?_, (show Ext w _ from (by repeat' (first | exact Ext.refl _ | assumption | refine Ext.alloc ?_ _ | refine Ext.ext ?_ _ | refine Ext.drew ?_ | refine Ext.drewN ?_ _))).trans hx1⟩
      rw [HR.out, List.length_reverse]
      exact own_mono ho1 (by omega)
    · obtain ⟨k, rfl⟩ := Int.eq_ofNat_of_zero_le (show 0 ≤ c by omega)
      have hk : k < ps.length := by omega
      have c0 := elem1 (Value.int .i64) 0 ps H6.out k hk
      have hst := up_step Hg.out (x := (k : Int)) (by omega) hc1
      have hp := parent_lt Hg.out (x := (k : Int)) (by omega) hc1
      rw [Int.toNat_natCast] at hst hp
      generalize ps.getD k 0 = y at c0 hst hp
      rw [hst] at hL
      have hL' : (L ++ [(k : Int)]) ++ up ps y = up ps x := by rw [← hL]; simp
      have HL := hid hL'; clear hL hL' hst
      have c0' := ((Ext.refl w).alloc (.cells #[.slice (some ⟨b, off, none⟩) ps.length cap] 26)).cell c0
      have Hx := hid hx
      have C := hid (And.intro hb0 c0'); clear hb0 c0' hx
      go_wp2_with (at_builtin; refine wpList_append_own _ rfl _ _ 24 rfl (w.heap.size + 1) 3 i0 (.int .i64 0) 1 8 Tryz.underlying24 hi hz0 hz1 hz2 rfl (by decide) _ _ _ rfl (hown.alloc _) ⟨_, 0, none⟩ 1 1 [.int .i64 (k : Int)] rfl rfl ?c1 ?c2 ?c3 ?c4 ?c5 ?_)
      (try case c1 => (intro j u hj; cases j with | zero => (simp at hj; subst hj; simp [Addr.add]) | succ j => simp at hj))
      case c2 => simp [Value.oneCell']
      case c3 => unfold maxLen; simp; omega
      case c4 => omega
      case c5 => have := Hx.out.size; simp at *; omega
      intro v' w1 hown' hgrow _
      have hx2 := Ext.grown (Hx.out.alloc _) hgrow (fun j hj => by have := (hown.lt j hj).1; simp at *; omega)
      have Hx2 := hid hx2; clear hgrow
      have d0 := hx2.cell C.out.1
      have d1 := hx2.cell C.out.2
      clear hx2
      have hown2 : w1.ownsRow (w.heap.size + 1) 3 1 v' (L ++ [(k : Int)]).length (vInts (L ++ [(k : Int)])) := by simpa [vInts] using hown'
      clear hown'
      go_wp2
      go_roundw
      case rel => exact ⟨y, L ++ [(k : Int)], rfl, hp.1, by omega, HL.out, hown2, Hx2.out⟩
      case measure => simp [intOf]; omega
theorem own_some {w : World} {base e k n : Nat} {v : Value} {cs : List Value} (h : w.ownsRow base e k v n cs) (hv : v ≠ .slice none 0 0) : ∃ g cap, v = .slice (some ⟨g, 0, none⟩) n cap := by
  obtain ⟨h1, ⟨rfl, rfl⟩ | ⟨g, cap, cur, rfl, hB, _⟩⟩ := h
  · exact absurd rfl hv
  · exact ⟨g, cap, rfl⟩
theorem spec_l6Path (ps : List Int) (v : Value) (x : Int) (w : World) (h : Rd w 1 v ps.length (vInts ps)) (hg : goodT ps = true) (hx0 : -1 ≤ x) (hx1 : x < ps.length) :
    Calls Tryz.prog 61 #[.agg #[v], .int .i64 x] w fun e w' => ∃ r, e = .returned r ∧ w'.ownsRow w.heap.size 3 1 r (path ps x).length (vInts (path ps x)) ∧ Ext w w' := by
  obtain ⟨h1, p, cap, rfl, h4⟩ := h
  have hlen := goodT_len hg
  obtain ⟨b, off, rfl, h6⟩ := h4.resolve_left (by omega)
  clear h4 h1
  have H6 := hid h6; clear h6
  have Hg := hid hg; clear hg
  have Hxx := hid (And.intro hx0 hx1); clear hx0 hx1
  obtain ⟨i0, hi, hz0, hz1, hz2⟩ := info_parts infoInt
  go_enter Tryz.func61, Tryz.ntmps61
  go_wp2
  go_loopw [1, 5] (fun v1 v5 wr => ∃ (c : Int) (R : List Int) (g cap' : Nat), v1 = .int .i64 c ∧ -1 ≤ c ∧ c < ps.length ∧ R.reverse ++ up ps c = up ps x ∧ v5 = .slice (some ⟨g, 0, none⟩) R.length cap' ∧ wr.ownsRow (w.heap.size + 1) 3 1 (.slice (some ⟨g, 0, none⟩) R.length cap') R.length (vInts R) ∧ Ext (w.alloc (.cells #[.slice (some ⟨b, off, none⟩) ps.length cap] 26)) wr) (fun v1 _ _ => (intOf v1 + 1).toNat)
  case atStart => exact ⟨x, [], _, _, rfl, Hxx.out.1, Hxx.out.2, rfl, rfl, by simpa [vInts] using World.ownsRow_lit (base := w.heap.size + 1) (e := 3) (size := 1) (w.alloc (.cells #[.slice (some ⟨b, off, none⟩) ps.length cap] 26)) #[] 0 (by simp) (Nat.zero_le _) rfl, (by repeat' (first | exact Ext.refl _ | assumption | refine Ext.alloc ?_ _ | refine Ext.ext ?_ _ | refine Ext.drew ?_ | refine Ext.drewN ?_ _))⟩
  case round =>
    obtain ⟨c, R, g, cap', rfl, hc0, hc1, hL, rfl, hown, hx⟩ := hrel
    have hb0 : (w.alloc (.cells #[.slice (some ⟨b, off, none⟩) ps.length cap] 26)).cell? ⟨w.heap.size, 0, none⟩ = some (.slice (some ⟨b, off, none⟩) ps.length cap) := by rw [cell_of_row _ _ 0 _ _ (0, 0) (heap_at _ rfl)]; rfl
    have hLl : R.length ≤ 8 := by
      have h8 := up_len Hg.out 8 x (by have := Hxx.out.2; omega) Hxx.out.2
      rw [← hL, List.length_append, List.length_reverse] at h8; omega
    by_cases hneg : c < 0
    · rw [up_neg ps hneg, List.append_nil] at hL
      have t0 : decide (0 ≤ c) = false := by simp; omega
      have hr : path ps x = R := by rw [path, ← hL, List.reverse_reverse]
      have HR := hid hr; clear hr hL
      have K := hid (And.intro hown hx); clear hown hx
      go_wp2
      go_ret
      obtain ⟨ho1, hx1⟩ := K.out
      refine ⟨_, rfl, ?_, (show Ext w _ from (by repeat' (first | exact Ext.refl _ | assumption | refine Ext.alloc ?_ _ | refine Ext.ext ?_ _ | refine Ext.drew ?_ | refine Ext.drewN ?_ _))).trans hx1⟩
      rw [HR.out]
      exact own_mono ho1 (by omega)
    · obtain ⟨k, rfl⟩ := Int.eq_ofNat_of_zero_le (show 0 ≤ c by omega)
      have hk : k < ps.length := by omega
      have c0 := elem1 (Value.int .i64) 0 ps H6.out k hk
      have hst := up_step Hg.out (x := (k : Int)) (by omega) hc1
      have hp := parent_lt Hg.out (x := (k : Int)) (by omega) hc1
      rw [Int.toNat_natCast] at hst hp
      generalize ps.getD k 0 = y at c0 hst hp
      rw [hst] at hL
      have hL' : ((k : Int) :: R).reverse ++ up ps y = up ps x := by rw [← hL]; simp
      have HL := hid hL'; clear hL hL' hst
      have c0' := ((Ext.refl w).alloc (.cells #[.slice (some ⟨b, off, none⟩) ps.length cap] 26)).cell c0
      have Hx := hid hx
      have C := hid (And.intro hb0 c0'); clear hb0 c0'
      have hs := hx.size
      simp at hs
      have hlit : (wr.alloc (.cells #[.int .i64 (k : Int)] 3)).ownsRow (w.heap.size + 1) 3 1 (.slice (some ⟨wr.heap.size, 0, none⟩) 1 1) 1 [.int .i64 (k : Int)] := World.ownsRow_lit wr #[.int .i64 (k : Int)] 1 hs (by decide) rfl
      have Hlit := hid hlit; clear hlit hx
      go_wp2_with (at_builtin; refine wpList_append_own _ rfl _ _ 24 rfl (w.heap.size + 1) 3 i0 (.int .i64 0) 1 8 Tryz.underlying24 hi hz0 hz1 hz2 rfl (by decide) _ _ _ rfl (Hlit.out) ⟨g, 0, none⟩ R.length cap' (vInts R) rfl ?c0 ?c1 ?c2 ?c3 ?c4 ?c5 ?_)
      case c0 => simp [vInts_len]
      case c1 =>
        intro j u hj
        exact .inl ((hown.cellAt j (by have := (List.getElem?_eq_some_iff.1 hj).1; rw [vInts_len] at this; omega)).trans hj)
      case c2 => simp [vInts, Value.oneCell']
      case c3 => unfold maxLen; omega
      case c4 => omega
      case c5 => first | omega | (simp; omega)
      intro v' w1 hown' hgrow hnil
      have hx2 := Ext.grown (Hx.out.alloc (.cells #[.int .i64 (k : Int)] 3)) hgrow (fun j hj => by simp [Value.ownBlock] at *; omega)
      obtain ⟨g', cq, rfl⟩ := own_some hown' (fun e => hnil e)
      have e1 : 1 + R.length = ((k : Int) :: R).length := by simp; omega
      rw [e1] at hown' ⊢
      have e2 : Value.int .i64 (k : Int) :: vInts R = vInts ((k : Int) :: R) := by simp [vInts]
      rw [e2] at hown'
      have Hx2 := hid hx2
      have d0 := hx2.cell C.out.1
      have d1 := hx2.cell C.out.2
      have Ho := hid hown'
      clear hx2 hown hown' hgrow hnil e1 e2
      go_wp2
      go_roundw
      case rel => exact ⟨y, (k : Int) :: R, _, _, rfl, hp.1, by omega, HL.out, rfl, Ho.out, Hx2.out⟩
      case measure => simp [intOf]; omega
end Go.Proofs.YtlaochpkelbchaaGreatDoor
