/- Copies of rows: slices.Clone at ints, and the reference's. -/
import Derived.Test.YtppdbnopgcjgjaaWPut
import Derived.Shelf.Slices.Clone
namespace Go.Proofs.Ytppdbnopgcjgjaa
open Go.RowKit
set_option maxHeartbeats 400000
set_option maxRecDepth 100000
theorem own_nil (w : World) (B e k : Nat) : w.ownsRow B e k (.slice none 0 0) 0 [] := ⟨by simp, .inl ⟨rfl, rfl⟩⟩
def ren15 : Go.Shelf.Ren := ⟨fun x => if x = 15 then 76 else x, fun x => if x = 3 then 3 else if x = 4 then 4 else if x = 22 then 24 else x, fun x => x⟩
theorem lays15 : Go.Proofs.Lays2.n15 Try.prog ren15 := by constructor <;> first | kernel_rfl | (intro w; kernel_rfl)
theorem slices_Clone (L : List Int) (v : Value) (w : World) (h : Rd w 1 v L.length (vInts L)) (h2 : L.length ≤ 1048576) :
    Calls Try.prog 76 #[v] w fun e w' => ∃ r, e = .returned r ∧ w'.ownsRow w.heap.size 3 1 r L.length (vInts L) ∧ Ext w w' := by
  obtain ⟨h1, p, cap, rfl, h4⟩ := h
  rcases h4 with h0 | ⟨b, off, rfl, h6⟩
  · have e : L = [] := List.eq_nil_of_length_eq_zero h0
    subst e
    cases p with
    | none => exact (Any.slices_Clone_int_nil lays15 0 cap w).mono fun _ _ ⟨a, b⟩ => ⟨_, a, own_nil _ _ _ _, b ▸ Ext.refl _⟩
    | some a => exact (Any.slices_Clone_int_zero lays15 a cap w).mono fun _ _ ⟨v', a, ho, _, hb⟩ => ⟨v', a, ho, hb.ext⟩
  · have := Any.slices_Clone_int lays15 b off L.length cap L w (Nat.le_refl _) (by omega) (fun j hj => rd_cells h6 j hj)
    rw [List.take_length] at this
    exact this.mono fun _ _ ⟨v', a, ho, _, hb⟩ => ⟨v', a, ho, hb.ext⟩
theorem spec_l1Own (L : List Int) (v : Value) (w : World) (h : Rd w 1 v L.length (vInts L)) (h2 : L.length ≤ 1048576) :
    Calls Try.prog 77 #[v] w fun e w' => ∃ r, e = .returned r ∧ w'.ownsRow w.heap.size 3 1 r L.length (vInts L) ∧ Ext w w' := by
  have Hr := hid h
  have hl : (w.alloc (.cells #[] 3)).ownsRow w.heap.size 3 1 (.slice (some ⟨w.heap.size, 0, none⟩) 0 0) 0 [] := World.ownsRow_lit w #[] 0 (Nat.le_refl _) (Nat.zero_le _) rfl
  have Hl := hid hl
  obtain ⟨i0, hi, hz0, hz1, hz2⟩ := info_parts infoInt
  clear h hl
  go_enter Try.func77, Try.ntmps77
  go_wp2_with (at_builtin; refine wpList_append_rd _ rfl _ _ 24 rfl w.heap.size 3 i0 (.int .i64 0) 1 8 Try.underlying24 hi hz0 hz1 hz2 rfl (by decide) _ 0 [] rfl Hl.out _ L.length (vInts L) rfl (Hr.out.ext (by repeat' (first | exact Ext.refl _ | assumption | refine Ext.alloc ?_ _ | refine Ext.ext ?_ _ | refine Ext.drew ?_ | refine Ext.drewN ?_ _))) (one_ints L) (by unfold maxLen; omega) (by omega) (by simp) ?_)
  intro v' w' ho hg
  have hx : Ext w w' := Ext.grown (by repeat' (first | exact Ext.refl _ | assumption | refine Ext.alloc ?_ _ | refine Ext.ext ?_ _ | refine Ext.drew ?_ | refine Ext.drewN ?_ _)) hg (fun j hj => (own_row Hl.out j hj).1)
  have K := hid (And.intro ho hx)
  clear ho hg hx
  go_wp2
  go_ret
  exact ⟨_, rfl, K.out⟩
end Go.Proofs.Ytppdbnopgcjgjaa
