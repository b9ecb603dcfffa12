/- A function's own cursor. One of some lists that are drawn. -/
import Derived.Test.YtlaochpkelbchaaGreatDoorKWCurL
import Derived.Test.YtlaochpkelbchaaGreatDoorKWCurG
namespace Go.Proofs.YtlaochpkelbchaaGreatDoor
open Go.RowKit
set_option maxHeartbeats 1000000
set_option maxRecDepth 100000
/-- The cursor's own block. -/
def C1 (w : World) (v : Value) : World := w.alloc (.cells #[v, .int .i64 0, .int .u64 0] 47)
theorem cur_start {w : World} {v : Value} {bs : List Int} (h : Rd w 1 v bs.length (vBytes bs)) : Dr (C1 w v) (C1 w v) w.heap.size w.heap.size v bs 0 ∧ Ext w (C1 w v) ∧ (C1 w v).heap.size = w.heap.size + 1 := by
  have hx : Ext w (C1 w v) := by unfold C1; exact (by repeat' (first | exact Ext.refl _ | assumption | refine Ext.alloc ?_ _ | refine Ext.ext ?_ _ | refine Ext.drew ?_ | refine Ext.drewN ?_ _))
  exact ⟨Dr.start ⟨⟨h.ext hx, fun b o m c e hm => rd_lt h (by decide) e hm⟩, 0, 0, by omega, by omega, World.ownsRow_lit w #[v, .int .i64 0, .int .u64 0] 1 (Nat.le_refl _) (by decide) rfl⟩, hx, by unfold C1; simp⟩
theorem cur_fin {w W W' : World} {lo B A : Nat} {v : Value} {bs : List Int} (hx : Ext w W) (h : Dr W W' lo B v bs A) (hB : w.heap.size ≤ B) : Ext w W' := hx.grown h.2.1 (fun j e => by have := Option.some.inj e; omega)
end Go.Proofs.YtlaochpkelbchaaGreatDoor
namespace Go.Proofs.YtlaochpkelbchaaGreatDoor
open Go.RowKit
set_option maxHeartbeats 2000000
set_option maxRecDepth 100000
theorem spec_among2 {bs : List Int} (hb : Bts bs) {lo B A : Nat} {v : Value} (L : List Value) (u : Value) (w : World) (h : Cs w lo B v bs A) (hu : Rd w 1 u L.length L) (hub : ∀ b o m c, u = .slice (some ⟨b, o, none⟩) m c → 0 < m → b ≠ B) (hA : A ≤ 900000) (hn : 1 ≤ L.length ∧ L.length ≤ 200) (hs : ∀ y ∈ L, ∃ p n c, y = .slice p n c) :
    Calls Tryz.prog 38 #[.pointer (some ⟨B, 0, none⟩), u] w fun e w' => ∃ x : Value, e = .returned x ∧ x ∈ L ∧ Cs w' lo B v bs (A + 1) ∧ w.grownBy w' (some B) := by
  have Hn := hid (fun w h => spec_pick hb (lo := lo) (B := B) (A := A) (v := v) (L.length : Int) w h hA (by omega))
  have Hc := hid h
  have Hr := hid hu
  obtain ⟨-, p, cap, rfl, h4⟩ := hu
  obtain ⟨b, o, rfl, -⟩ := h4.resolve_left (by omega)
  have hne := hub b o _ _ rfl (by omega)
  clear h hub
  go_enter Tryz.func38, Tryz.ntmps38
  go_wp2_with fail
  go_at_call 24
  refine (Hn.out _ (Hc.out.ext (by repeat' (first | exact Ext.refl _ | assumption | refine Ext.alloc ?_ _ | refine Ext.ext ?_ _ | refine Ext.drew ?_ | refine Ext.drewN ?_ _)))).mono ?_
  rintro e w1 ⟨x, rfl, hx0, hx1, hc1, hg1⟩
  obtain ⟨j, rfl⟩ : ∃ j : Nat, x = j := ⟨x.toNat, by omega⟩
  have hr1 := rd_turn (Hr.out.ext (show Ext w _ from (by repeat' (first | exact Ext.refl _ | assumption | refine Ext.alloc ?_ _ | refine Ext.ext ?_ _ | refine Ext.drew ?_ | refine Ext.drewN ?_ _)))) hg1 (fun b' o' m' c' e _ => by cases e; intro e2; exact hne (Option.some.inj e2).symm)
  obtain ⟨-, p, cap', e9, h4'⟩ := hr1
  cases e9
  obtain ⟨b', o', e8, h6⟩ := h4'.resolve_left (by omega)
  cases e8
  have hj : j < L.length := by omega
  have c0 := h6 j hj
  have hm : L[j] ∈ L := List.getElem_mem hj
  obtain ⟨yp, yn, yc, hy⟩ := hs _ hm
  rw [hy] at c0 hm
  have K := hid (And.intro hm (And.intro hc1 hg1))
  have n0 : (0 : Int) ≤ (j : Int) := by omega
  clear hc1 hg1 h4' h6 hy hm hs
  go_wp2
  go_ret
  first | exact ⟨_, rfl, K.out.1, K.out.2.1, K.out.2.2⟩ | exact ⟨rfl, K.out.1, K.out.2.1, K.out.2.2⟩
theorem lit_of {w : World} {t : Nat} (q : Nat) (cs : Array Value) (L : List Int) (h : cs.toList = vInts L) (hq : q = w.heap.size) (W : World) (hx : Ext (w.alloc (.cells cs t)) W) : Rd W 1 (.slice (some ⟨q, 0, none⟩) L.length L.length) L.length (vInts L) := by
  have := (rd_litC w t cs).ext hx
  have hl : cs.size = L.length := by have := congrArg List.length h; simpa [vInts] using this
  rw [h, hl, ← hq] at this
  exact this
end Go.Proofs.YtlaochpkelbchaaGreatDoor
