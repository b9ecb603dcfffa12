/- Leaves of trees: the reference's. -/
import Derived.Test.YthjklcodgcojbaaDoorWLeaves
namespace Go.Proofs.YthjklcodgcojbaaDoor
open Go.RowKit
set_option maxHeartbeats 400000
theorem spec_l6Children (ps : List Int) (v : Value) (x : Int) (w : World) (h : Rd w 1 v ps.length (vInts ps)) (hl : 2 ≤ ps.length ∧ ps.length ≤ 8) :
    Calls Tryd.prog 71 #[.agg #[v], .int .i64 x] w fun e w' => ∃ r, e = .returned r ∧ w'.ownsRow w.heap.size 3 1 r (kids ps x ps.length).length (vInts (kids ps x ps.length)) ∧ Ext w w' := by
  obtain ⟨h1, p, cap, rfl, h4⟩ := h
  obtain ⟨b, off, rfl, h6⟩ := h4.resolve_left (by omega)
  have H6 := hid h6
  clear h1 h4 h6
  obtain ⟨i0, hi, hz0, hz1, hz2⟩ := info_parts infoInt
  go_enter Tryd.func71, Tryd.ntmps71
  go_wp2
  go_loopw [6, 5] (fun v6 v5 wr => ∃ k : Nat, 1 ≤ k ∧ k ≤ ps.length ∧ v6 = .int .i64 k ∧ wr.ownsRow (w.heap.size + 1) 3 1 v5 (kids ps x k).length (vInts (kids ps x k)) ∧ Ext (w.alloc (.cells #[.slice (some ⟨b, off, none⟩) ps.length cap] 44)) wr) (fun v6 _ _ => ps.length - (intOf v6).toNat)
  case atStart => exact ⟨1, by omega, by omega, rfl, by rw [kids_one]; simpa [vInts] using World.ownsRow_lit (base := w.heap.size + 1) (e := 3) (size := 1) (w.alloc (.cells #[.slice (some ⟨b, off, none⟩) ps.length cap] 44)) #[] 0 (by simp) (Nat.zero_le _) rfl, (by repeat' (first | exact Ext.refl _ | assumption | refine Ext.alloc ?_ _ | refine Ext.ext ?_ _ | refine Ext.drew ?_ | refine Ext.drewN ?_ _))⟩
  case round =>
    obtain ⟨k, hk1, hk, rfl, hown, hx⟩ := hrel
    have hb0 : (w.alloc (.cells #[.slice (some ⟨b, off, none⟩) ps.length cap] 44)).cell? ⟨w.heap.size, 0, none⟩ = some (.slice (some ⟨b, off, none⟩) ps.length cap) := by rw [cell_of_row _ _ 0 _ _ (0, 0) (heap_at _ rfl)]; rfl
    have Hb0 := hid hb0
    have d0 := hx.cell hb0
    by_cases hlt : k < ps.length
    · have hsn := kids_succ ps x k hk1
      have hll := kids_len ps x k
      have c0 := elem1 (Value.int .i64) 0 ps H6.out k hlt
      generalize ps.getD k 0 = y at c0 hsn
      have c1 := hx.cell (((Ext.refl w).alloc (.cells #[.slice (some ⟨b, off, none⟩) ps.length cap] 44)).cell c0)
      have Hx := hid hx
      clear hb0 hx
      cases hy : (y == x)
      · have e1 : kids ps x (k + 1) = kids ps x k := by rw [hsn, hy]; simp
        have E1 := hid e1
        have Ho := hid hown
        clear e1 hsn hown
        go_wp2
        go_roundw
        case rel => exact ⟨k + 1, by omega, by omega, by go_num, by rw [E1.out]; exact Ho.out, Hx.out⟩
        case measure => simp [intOf]; omega
      · have e1 : kids ps x (k + 1) = kids ps x k ++ [(k : Int)] := by rw [hsn, hy]; simp
        have E1 := hid e1
        clear e1 hsn
        go_wp2_with (at_builtin; refine wpList_append_own _ rfl _ _ 24 rfl (w.heap.size + 1) 3 i0 (.int .i64 0) 1 8 Tryd.underlying24 hi hz0 hz1 hz2 rfl (by decide) _ _ _ rfl (hown.alloc _) ⟨_, 0, none⟩ 1 1 [.int .i64 (k : Int)] rfl rfl ?c1 ?c2 ?c3 ?c4 ?c5 ?_)
        (try case c1 => (intro j u hj; cases j with | zero => (simp at hj; subst hj; simp [Addr.add]) | succ j => simp at hj))
        case c2 => simp [Value.oneCell']
        case c3 => unfold maxLen; simp; omega
        case c4 => omega
        case c5 => have := Hx.out.size; simp at *; omega
        intro v' w1 hown' hgrow _
        have hx2 := Ext.grown (Hx.out.alloc _) hgrow (fun j hj => by have := (hown.lt j hj).1; simp at *; omega)
        have Hx2 := hid hx2; clear hgrow
        have d1 := hx2.cell (Hb0.out)
        clear hx2 c1 d0
        have hown2 : w1.ownsRow (w.heap.size + 1) 3 1 v' (kids ps x (k + 1)).length (vInts (kids ps x (k + 1))) := by rw [E1.out]; simpa [vInts] using hown'
        have Ho2 := hid hown2
        clear hown' hown2
        go_wp2
        go_roundw
        case rel => exact ⟨k + 1, by omega, by omega, by go_num, Ho2.out, Hx2.out⟩
        case measure => simp [intOf]; omega
    · obtain rfl : k = ps.length := by omega
      have K := hid (And.intro hown hx); clear hown hx hb0
      go_wp2
      go_ret
      exact ⟨_, rfl, own_mono K.out.1 (by omega), (show Ext w _ from (by repeat' (first | exact Ext.refl _ | assumption | refine Ext.alloc ?_ _ | refine Ext.ext ?_ _ | refine Ext.drew ?_ | refine Ext.drewN ?_ _))).trans K.out.2⟩
end Go.Proofs.YthjklcodgcojbaaDoor
