/- Well reached leaves, both sides. -/
import Derived.Test.YtppdbnopgcjgjaaWWorst
import Derived.Test.YtppdbnopgcjgjaaWDel
import Derived.Test.YtppdbnopgcjgjaaWShare
namespace Go.Proofs.Ytppdbnopgcjgjaa
open Go.RowKit
set_option maxHeartbeats 400000
set_option maxRecDepth 100000
def wellB (ps ls ds : List Int) (p : Int) : Bool := goodC ps ls ds && inB p 0 100
def low (ps ls : List Int) (p x : Int) : Bool := decide (sh ps ls x < 1000000000000 * p)
def wellL (ps ls ds : List Int) (p : Int) : List Int := if wellB ps ls ds p then (leavesL ps).filter (fun x => !low ps ls p x) else []
theorem wellL_no {ps ls ds : List Int} {p : Int} (h : wellB ps ls ds p = false) : wellL ps ls ds p = [] := by simp [wellL, h]
theorem wellL_yes {ps ls ds : List Int} {p : Int} (h : wellB ps ls ds p = true) : wellL ps ls ds p = (leavesL ps).filter (fun x => !low ps ls p x) := by simp [wellL, h]
theorem wellL_len (ps ls ds : List Int) (p : Int) : (wellL ps ls ds p).length ≤ 8 := by
  unfold wellL
  split
  · rename_i h
    rw [wellB, Bool.and_eq_true] at h
    exact Nat.le_trans (List.length_filter_le _ _) (leaves_len (goodC_all h.1).1)
  · simp
theorem impl_WellReached_1 (ps ls ds : List Int) (v u u' : Value) (Bt Bc Bp : Nat) (a p : Int) (w : World) (h : Rd w 1 v ps.length (vInts ps)) (k : Rd w 1 u ls.length (vInts ls)) (hg : goodC ps ls ds = true) (ha : 0 ≤ a ∧ a < ps.length) (hp : 0 ≤ p ∧ p ≤ 100)
    (c0 : w.cell? ⟨Bt, 0, none⟩ = some v) (c1 : w.cell? ⟨Bc, 0, none⟩ = some u) (c2 : w.cell? ⟨Bc, 1, none⟩ = some u') (c3 : w.cell? ⟨Bp, 0, none⟩ = some (.int .i64 p)) :
    Calls Try.prog 74 #[.int .i64 a, .pointer (some ⟨Bc, 0, none⟩), .pointer (some ⟨Bt, 0, none⟩), .pointer (some ⟨Bp, 0, none⟩)] w fun e w' => e = .returned (.bool (low ps ls p a)) ∧ Ext w w' := by
  have ba := sh_bd hg ha.2
  have hd := fun w' (e : Ext w w') => impl_shareTo ps ls ds v u u' a w' (h.ext e) (k.ext e) hg ha.1 ha.2
  have hl : low ps ls p a = decide (sh ps ls a < 1000000000000 * p) := rfl
  generalize sh ps ls a = s at *
  have Hd := hid hd
  have Hl := hid hl
  have wr : IntKind.i64.wrap (1000000000000 * p) = 1000000000000 * p := IntWalk.i64_in _ (by omega)
  clear hd h k hg hl
  go_enter Try.func74, Try.ntmps74
  go_wp2
  refine wp_region_ext (by kernel_rfl) (by kernel_rfl) ?_
  repeat (go_big_quiet_step ((first | (go_at_call 69; exact Calls.quiet_ext (Hd.out _ ⟨_, rfl⟩)))))
  refine wpQuiet_nil ?_
  rintro _ ⟨zq, rfl⟩
  go_wp2
  go_ret
  exact ⟨by rw [Hl.out]; rfl, (by repeat' (first | exact Ext.refl _ | assumption | refine Ext.alloc ?_ _ | refine Ext.ext ?_ _ | refine Ext.drew ?_ | refine Ext.drewN ?_ _))⟩
theorem impl_WellReached (ps ls ds : List Int) (v u u' : Value) (p : Int) (w : World) (h : Rd w 1 v ps.length (vInts ps)) (k : Rd w 1 u ls.length (vInts ls)) (l : Rd w 1 u' ds.length (vInts ds))
    (h2 : ps.length ≤ 1048576) (k2 : ls.length ≤ 1048576) (l2 : ds.length ≤ 1048576) :
    Calls Try.prog 31 #[.agg #[v], .agg #[u, u'], .int .i64 p] w fun e w' => ∃ r, e = .returned (.tuple #[r, .bool (wellB ps ls ds p)]) ∧ w'.ownsRow w.heap.size 3 1 r (wellL ps ls ds p).length (vInts (wellL ps ls ds p)) ∧ Ext w w' := by
  have Hr := hid h
  have Kr := hid k
  have Lr := hid l
  clear h k l
  have hmf : ∀ (fn : Fn) (first cap : Array Value) (w : World), (Instr.makeFunc fn first cap).run Try.prog w = .ok (.func fn first cap) w := fun _ _ _ _ => rfl
  have hc : Hid (∀ (w : World), Rd w 1 v ps.length (vInts ps) → Rd w 1 u ls.length (vInts ls) → Rd w 1 u' ds.length (vInts ds) →
      Calls Try.prog 29 #[.agg #[v], .agg #[u, u']] w fun e w' => e = .returned (.bool (goodC ps ls ds)) ∧ Ext w w') :=
    fun w h k l => impl_IsValidCosts ps ls ds v u u' w h k l h2 k2 l2
  have hi : Hid (∀ w, Calls Try.prog 70 #[.int .i64 p, .int .i64 0, .int .i64 100] w fun e w' => e = .returned (.bool (inB p 0 100)) ∧ w = w') := fun w => impl_within p 0 100 w
  have XB : Ext w (((w.alloc (.cells #[v] 26)).alloc (.cells #[u, u'] 28)).alloc (.cells #[.int .i64 p] 3)) := (by repeat' (first | exact Ext.refl _ | assumption | refine Ext.alloc ?_ _ | refine Ext.ext ?_ _ | refine Ext.drew ?_ | refine Ext.drewN ?_ _))
  have b0 : (((w.alloc (.cells #[v] 26)).alloc (.cells #[u, u'] 28)).alloc (.cells #[.int .i64 p] 3)).cell? ⟨w.heap.size, 0, none⟩ = some v := by rw [cell_of_row _ _ 0 _ _ (0, 0) (heap_old (heap_old (heap_at _ rfl) _) _)]; rfl
  have b1 : (((w.alloc (.cells #[v] 26)).alloc (.cells #[u, u'] 28)).alloc (.cells #[.int .i64 p] 3)).cell? ⟨w.heap.size + 1, 0, none⟩ = some u := by rw [cell_of_row _ _ 0 _ _ (0, 0) (heap_old (heap_at _ (by simp)) _)]; rfl
  have b2 : (((w.alloc (.cells #[v] 26)).alloc (.cells #[u, u'] 28)).alloc (.cells #[.int .i64 p] 3)).cell? ⟨w.heap.size + 1, 1, none⟩ = some u' := by rw [cell_of_row _ _ 1 _ _ (0, 0) (heap_old (heap_at _ (by simp)) _)]; rfl
  have b3 : (((w.alloc (.cells #[v] 26)).alloc (.cells #[u, u'] 28)).alloc (.cells #[.int .i64 p] 3)).cell? ⟨w.heap.size + 1 + 1, 0, none⟩ = some (.int .i64 p) := by rw [cell_of_row _ _ 0 _ _ (0, 0) (heap_at _ (by simp))]; rfl
  generalize hw0 : (((w.alloc (.cells #[v] 26)).alloc (.cells #[u, u'] 28)).alloc (.cells #[.int .i64 p] 3)) = w0 at *
  have Hw0 := hid hw0
  have Bx := hid (And.intro b0 (And.intro b1 (And.intro b2 b3)))
  clear hw0 b0 b1 b2 b3
  cases e1 : goodC ps ls ds
  · have hno : wellB ps ls ds p = false := by rw [wellB, e1]; rfl
    rw [wellL_no hno, hno]
    rw [e1] at hc
    clear hno e1
    go_enter Try.func31, Try.ntmps31
    go_wp2_with fail
    rw [Hw0.out]
    obtain ⟨b0, b1, b2, b3⟩ := Bx.out
    clear Hw0
    go_wp2_with (go_at_call 29; (with_reducible refine (hc.out _ (Hr.out.ext (XB.trans (by repeat' (first | exact Ext.refl _ | assumption | refine Ext.alloc ?_ _ | refine Ext.ext ?_ _ | refine Ext.drew ?_ | refine Ext.drewN ?_ _)))) (Kr.out.ext (XB.trans (by repeat' (first | exact Ext.refl _ | assumption | refine Ext.alloc ?_ _ | refine Ext.ext ?_ _ | refine Ext.drew ?_ | refine Ext.drewN ?_ _)))) (Lr.out.ext (XB.trans (by repeat' (first | exact Ext.refl _ | assumption | refine Ext.alloc ?_ _ | refine Ext.ext ?_ _ | refine Ext.drew ?_ | refine Ext.drewN ?_ _))))).mono ?_); rintro e w' ⟨rfl, z1, rfl⟩)
    go_ret2
    exact ⟨_, rfl, World.ownsRow_nil _ _ _ _, XB.trans (by repeat' (first | exact Ext.refl _ | assumption | refine Ext.alloc ?_ _ | refine Ext.ext ?_ _ | refine Ext.drew ?_ | refine Ext.drewN ?_ _))⟩
  · rw [e1] at hc
    cases e2 : inB p 0 100
    · have hno : wellB ps ls ds p = false := by rw [wellB, e2, Bool.and_false]
      rw [wellL_no hno, hno]
      rw [e2] at hi
      clear hno e1 e2
      go_enter Try.func31, Try.ntmps31
      go_wp2_with fail
      rw [Hw0.out]
      obtain ⟨b0, b1, b2, b3⟩ := Bx.out
      clear Hw0
      go_wp2_with (first | (go_at_call 29; (with_reducible refine (hc.out _ (Hr.out.ext (XB.trans (by repeat' (first | exact Ext.refl _ | assumption | refine Ext.alloc ?_ _ | refine Ext.ext ?_ _ | refine Ext.drew ?_ | refine Ext.drewN ?_ _)))) (Kr.out.ext (XB.trans (by repeat' (first | exact Ext.refl _ | assumption | refine Ext.alloc ?_ _ | refine Ext.ext ?_ _ | refine Ext.drew ?_ | refine Ext.drewN ?_ _)))) (Lr.out.ext (XB.trans (by repeat' (first | exact Ext.refl _ | assumption | refine Ext.alloc ?_ _ | refine Ext.ext ?_ _ | refine Ext.drew ?_ | refine Ext.drewN ?_ _))))).mono ?_); rintro e w' ⟨rfl, z1, rfl⟩) | (go_at_call 70; refine (hi.out _).mono ?_; rintro e w' ⟨rfl, rfl⟩))
      go_ret2
      exact ⟨_, rfl, World.ownsRow_nil _ _ _ _, XB.trans (by repeat' (first | exact Ext.refl _ | assumption | refine Ext.alloc ?_ _ | refine Ext.ext ?_ _ | refine Ext.drew ?_ | refine Ext.drewN ?_ _))⟩
    · have hyes : wellB ps ls ds p = true := by rw [wellB, e1, e2]; rfl
      rw [wellL_yes hyes, hyes]
      rw [e2] at hi
      have hp := inB_iff.1 e2
      have hT := (goodC_all e1).1
      have hlen := goodT_len hT
      have hlv := fun w h => impl_leaves ps v w h hlen.2
      have hll := leaves_len hT
      have hdel : ∀ (r : Value) (wA wB : World), Ext w0 wA → wB.ownsRow wA.heap.size 3 1 r (leavesL ps).length (vInts (leavesL ps)) → Ext wA wB →
          Calls Try.prog 73 #[r, .func (.func 74) #[] #[.pointer (some ⟨w.heap.size + 1, 0, none⟩), .pointer (some ⟨w.heap.size, 0, none⟩), .pointer (some ⟨w.heap.size + 1 + 1, 0, none⟩)]] wB
            fun e w' => ∃ r, e = .returned r ∧ w'.ownsRow wA.heap.size 3 1 r ((leavesL ps).filter (fun x => !low ps ls p x)).length (vInts ((leavesL ps).filter (fun x => !low ps ls p x))) ∧ Ext wA w' :=
        fun r wA wB eA ho eB => slices_DeleteFunc_int (leavesL ps) (low ps ls p) 74 #[.pointer (some ⟨w.heap.size + 1, 0, none⟩), .pointer (some ⟨w.heap.size, 0, none⟩), .pointer (some ⟨w.heap.size + 1 + 1, 0, none⟩)] (enters_of Try.func74 (by kernel_rfl) rfl) r wA wB ho eB (by omega)
          (fun x w'' hx e' => impl_WellReached_1 ps ls ds v u u' _ _ _ x p w'' (Hr.out.ext (XB.trans (eA.trans e'))) (Kr.out.ext (XB.trans (eA.trans e'))) e1 (leaves_in x hx) hp ((eA.trans e').cell Bx.out.1) ((eA.trans e').cell Bx.out.2.1) ((eA.trans e').cell Bx.out.2.2.1) ((eA.trans e').cell Bx.out.2.2.2))
      generalize leavesL ps = V at *
      generalize V.filter (fun x => !low ps ls p x) = F at *
      have Hlv := hid hlv
      have Hdel := hid hdel
      clear hyes e1 e2 hT hlv hdel
      go_enter Try.func31, Try.ntmps31
      go_wp2_with fail
      rw [Hw0.out]
      obtain ⟨b0, b1, b2, b3⟩ := Bx.out
      clear Hw0
      go_wp2_with (first | (go_at_call 29; (with_reducible refine (hc.out _ (Hr.out.ext (XB.trans (by repeat' (first | exact Ext.refl _ | assumption | refine Ext.alloc ?_ _ | refine Ext.ext ?_ _ | refine Ext.drew ?_ | refine Ext.drewN ?_ _)))) (Kr.out.ext (XB.trans (by repeat' (first | exact Ext.refl _ | assumption | refine Ext.alloc ?_ _ | refine Ext.ext ?_ _ | refine Ext.drew ?_ | refine Ext.drewN ?_ _)))) (Lr.out.ext (XB.trans (by repeat' (first | exact Ext.refl _ | assumption | refine Ext.alloc ?_ _ | refine Ext.ext ?_ _ | refine Ext.drew ?_ | refine Ext.drewN ?_ _))))).mono ?_); rintro e w' ⟨rfl, z1, rfl⟩) | (go_at_call 70; refine (hi.out _).mono ?_; rintro e w' ⟨rfl, rfl⟩) | (go_at_call 53; (with_reducible refine (Hlv.out _ (Hr.out.ext (XB.trans (by repeat' (first | exact Ext.refl _ | assumption | refine Ext.alloc ?_ _ | refine Ext.ext ?_ _ | refine Ext.drew ?_ | refine Ext.drewN ?_ _))))).mono ?_); rintro e w2 ⟨r, rfl, ho, hx2⟩; have Ho := hid ho; have Hx2 := hid hx2; clear ho hx2) | (go_at_call 73; (refine (Hdel.out _ _ _ ⟨z1, rfl⟩ Ho.out Hx2.out).mono ?_); rintro e w3 ⟨r3, rfl, ho3, hx3⟩; have Ho3 := hid ho3; have Hx3 := hid hx3; clear ho3 hx3))
      go_ret2
      have hs := XB.size
      exact ⟨_, rfl, own_mono Ho3.out (by rw [World.size_ext]; omega), XB.trans ((show Ext w0 (w0.ext z1) from ⟨z1, rfl⟩).trans Hx3.out)⟩
theorem take_filter_snoc {p : Int → Bool} {xs : List Int} {k : Nat} (hk : k < xs.length) : (xs.take (k + 1)).filter p = if p (xs.getD k 0) then (xs.take k).filter p ++ [xs.getD k 0] else (xs.take k).filter p := by
  rw [take_snoc xs 0 k hk, List.filter_append]
  cases h : p (xs.getD k 0) <;> simp only [List.filter_cons, h] <;> simp
theorem spec_WellReached (ps ls ds : List Int) (v u u' : Value) (p : Int) (w : World) (h : Rd w 1 v ps.length (vInts ps)) (k : Rd w 1 u ls.length (vInts ls)) (l : Rd w 1 u' ds.length (vInts ds))
    (h2 : ps.length ≤ 1048576) (k2 : ls.length ≤ 1048576) (l2 : ds.length ≤ 1048576) :
    Calls Try.prog 32 #[.agg #[v], .agg #[u, u'], .int .i64 p] w fun e w' => ∃ r, e = .returned (.tuple #[r, .bool (wellB ps ls ds p)]) ∧ w'.ownsRow w.heap.size 3 1 r (wellL ps ls ds p).length (vInts (wellL ps ls ds p)) ∧ Ext w w' := by
  have Hr := hid h
  have Kr := hid k
  have Lr := hid l
  clear h k l
  have hc : Hid (∀ (w : World), Rd w 1 v ps.length (vInts ps) → Rd w 1 u ls.length (vInts ls) → Rd w 1 u' ds.length (vInts ds) →
      Calls Try.prog 55 #[.agg #[v], .agg #[u, u']] w fun e w' => e = .returned (.bool (goodC ps ls ds)) ∧ Ext w w') :=
    fun w h k l => spec_l22Good ps ls ds v u u' w h k l h2 k2 l2
  have hi : Hid (∀ w, Calls Try.prog 75 #[.int .i64 p, .int .i64 0, .int .i64 100] w fun e w' => e = .returned (.bool (inB p 0 100)) ∧ w = w') := fun w => spec_l1In p 0 100 w
  have XB : Ext w ((w.alloc (.cells #[v] 26)).alloc (.cells #[u, u'] 28)) := (by repeat' (first | exact Ext.refl _ | assumption | refine Ext.alloc ?_ _ | refine Ext.ext ?_ _ | refine Ext.drew ?_ | refine Ext.drewN ?_ _))
  have b0 : ((w.alloc (.cells #[v] 26)).alloc (.cells #[u, u'] 28)).cell? ⟨w.heap.size, 0, none⟩ = some v := by rw [cell_of_row _ _ 0 _ _ (0, 0) (heap_old (heap_at _ rfl) _)]; rfl
  have b1 : ((w.alloc (.cells #[v] 26)).alloc (.cells #[u, u'] 28)).cell? ⟨w.heap.size + 1, 0, none⟩ = some u := by rw [cell_of_row _ _ 0 _ _ (0, 0) (heap_at _ (by simp))]; rfl
  have b2 : ((w.alloc (.cells #[v] 26)).alloc (.cells #[u, u'] 28)).cell? ⟨w.heap.size + 1, 1, none⟩ = some u' := by rw [cell_of_row _ _ 1 _ _ (0, 0) (heap_at _ (by simp))]; rfl
  have hs9 : w.heap.size + 1 + 1 ≤ ((w.alloc (.cells #[v] 26)).alloc (.cells #[u, u'] 28)).heap.size := by simp
  have hs0 : ((w.alloc (.cells #[v] 26)).alloc (.cells #[u, u'] 28)).heap.size ≤ w.heap.size + 1 + 1 := by simp
  have hl0 : (((w.alloc (.cells #[v] 26)).alloc (.cells #[u, u'] 28)).alloc (.cells #[] 3)).ownsRow (w.heap.size + 1 + 1) 3 1 (.slice (some ⟨w.heap.size + 1 + 1, 0, none⟩) 0 0) 0 [] := by simpa using World.ownsRow_lit (base := w.heap.size + 1 + 1) (e := 3) (size := 1) ((w.alloc (.cells #[v] 26)).alloc (.cells #[u, u'] 28)) #[] 0 (by simp) (Nat.zero_le _) rfl
  generalize hw0 : ((w.alloc (.cells #[v] 26)).alloc (.cells #[u, u'] 28)) = w0 at *
  have Hw0 := hid hw0
  have Hl0 := hid hl0
  have Bx := hid (And.intro b0 (And.intro b1 b2))
  clear hw0 b0 b1 b2 hl0
  cases e1 : goodC ps ls ds
  · have hno : wellB ps ls ds p = false := by rw [wellB, e1]; rfl
    rw [wellL_no hno, hno]
    rw [e1] at hc
    clear hno e1
    go_enter Try.func32, Try.ntmps32
    go_wp2_with fail
    rw [Hw0.out]
    obtain ⟨b0, b1, b2⟩ := Bx.out
    clear Hw0
    go_wp2_with (go_at_call 55; (with_reducible refine (hc.out _ (Hr.out.ext (XB.trans (by repeat' (first | exact Ext.refl _ | assumption | refine Ext.alloc ?_ _ | refine Ext.ext ?_ _ | refine Ext.drew ?_ | refine Ext.drewN ?_ _)))) (Kr.out.ext (XB.trans (by repeat' (first | exact Ext.refl _ | assumption | refine Ext.alloc ?_ _ | refine Ext.ext ?_ _ | refine Ext.drew ?_ | refine Ext.drewN ?_ _)))) (Lr.out.ext (XB.trans (by repeat' (first | exact Ext.refl _ | assumption | refine Ext.alloc ?_ _ | refine Ext.ext ?_ _ | refine Ext.drew ?_ | refine Ext.drewN ?_ _))))).mono ?_); rintro e w' ⟨rfl, z1, rfl⟩)
    go_ret2
    exact ⟨_, rfl, own_mono (own_ext Hl0.out ⟨z1, rfl⟩) (by omega), XB.trans (by repeat' (first | exact Ext.refl _ | assumption | refine Ext.alloc ?_ _ | refine Ext.ext ?_ _ | refine Ext.drew ?_ | refine Ext.drewN ?_ _))⟩
  · rw [e1] at hc
    cases e2 : inB p 0 100
    · have hno : wellB ps ls ds p = false := by rw [wellB, e2, Bool.and_false]
      rw [wellL_no hno, hno]
      rw [e2] at hi
      clear hno e1 e2
      go_enter Try.func32, Try.ntmps32
      go_wp2_with fail
      rw [Hw0.out]
      obtain ⟨b0, b1, b2⟩ := Bx.out
      clear Hw0
      go_wp2_with (first | (go_at_call 55; (with_reducible refine (hc.out _ (Hr.out.ext (XB.trans (by repeat' (first | exact Ext.refl _ | assumption | refine Ext.alloc ?_ _ | refine Ext.ext ?_ _ | refine Ext.drew ?_ | refine Ext.drewN ?_ _)))) (Kr.out.ext (XB.trans (by repeat' (first | exact Ext.refl _ | assumption | refine Ext.alloc ?_ _ | refine Ext.ext ?_ _ | refine Ext.drew ?_ | refine Ext.drewN ?_ _)))) (Lr.out.ext (XB.trans (by repeat' (first | exact Ext.refl _ | assumption | refine Ext.alloc ?_ _ | refine Ext.ext ?_ _ | refine Ext.drew ?_ | refine Ext.drewN ?_ _))))).mono ?_); rintro e w' ⟨rfl, z1, rfl⟩) | (go_at_call 75; refine (hi.out _).mono ?_; rintro e w' ⟨rfl, rfl⟩))
      go_ret2
      exact ⟨_, rfl, own_mono (own_ext Hl0.out ⟨z1, rfl⟩) (by omega), XB.trans (by repeat' (first | exact Ext.refl _ | assumption | refine Ext.alloc ?_ _ | refine Ext.ext ?_ _ | refine Ext.drew ?_ | refine Ext.drewN ?_ _))⟩
    · have hyes : wellB ps ls ds p = true := by rw [wellB, e1, e2]; rfl
      rw [wellL_yes hyes, hyes]
      rw [e2] at hi
      have hp := inB_iff.1 e2
      have hT := (goodC_all e1).1
      have hll := leaves_len hT
      have hlv := fun w h => spec_l6Leaves ps v w h hT
      have hin := fun y hy => leaves_in (ps := ps) y hy
      have hpa := fun x w' (hx : 0 ≤ x ∧ x < (ps.length : Int)) (e : Ext w w') => spec_l6Path ps v x w' (Hr.out.ext e) hT (by omega) hx.2
      have hshr := fun x y w' (hx : 0 ≤ x ∧ x < (ps.length : Int)) (h : Rd w' 1 y (path ps x).length (vInts (path ps x))) (e : Ext w w') => spec_l22Share ps ls ds (path ps x) u u' y w' h (Kr.out.ext e) e1 (path_mem hT hx.2) (by have := path_len hT hx.2; omega)
      have hshd : ∀ x, shr ls (path ps x) = sh ps ls x := fun _ => rfl
      simp only [hshd] at hshr
      have hsb := fun x (hx : 0 ≤ x ∧ x < (ps.length : Int)) => sh_bd e1 hx.2
      generalize leavesL ps = V at *
      have Hlv := hid hlv
      have Hin := hid hin
      have Hpa := hid hpa
      have Hshr := hid hshr
      have Hsb := hid hsb
      obtain ⟨i0, hi0, hz0, hz1, hz2⟩ := info_parts infoInt
      clear hyes e1 e2 hT hlv hin hpa hshr hshd hsb
      go_enter Try.func32, Try.ntmps32
      go_wp2_with fail
      rw [Hw0.out]
      obtain ⟨b0, b1, b2⟩ := Bx.out
      clear Hw0
      go_wp2_with (first | (go_at_call 55; (with_reducible refine (hc.out _ (Hr.out.ext (XB.trans (by repeat' (first | exact Ext.refl _ | assumption | refine Ext.alloc ?_ _ | refine Ext.ext ?_ _ | refine Ext.drew ?_ | refine Ext.drewN ?_ _)))) (Kr.out.ext (XB.trans (by repeat' (first | exact Ext.refl _ | assumption | refine Ext.alloc ?_ _ | refine Ext.ext ?_ _ | refine Ext.drew ?_ | refine Ext.drewN ?_ _)))) (Lr.out.ext (XB.trans (by repeat' (first | exact Ext.refl _ | assumption | refine Ext.alloc ?_ _ | refine Ext.ext ?_ _ | refine Ext.drew ?_ | refine Ext.drewN ?_ _))))).mono ?_); rintro e w' ⟨rfl, z1, rfl⟩) | (go_at_call 75; refine (hi.out _).mono ?_; rintro e w' ⟨rfl, rfl⟩) | (go_at_call 56; (with_reducible refine (Hlv.out _ (Hr.out.ext (XB.trans (by repeat' (first | exact Ext.refl _ | assumption | refine Ext.alloc ?_ _ | refine Ext.ext ?_ _ | refine Ext.drew ?_ | refine Ext.drewN ?_ _))))).mono ?_); rintro e w2 ⟨r, rfl, ho, hx2⟩; obtain ⟨pv, cv, rfl⟩ := own_shape ho; have Ho := hid (Rd.own ho); have Hdl := hid (fun a (e : pv = some a) => (own_row ho a.block (by rw [e]; rfl)).1); have Hx2 := hid hx2; clear ho hx2))
      have XW := hid ((show Ext w0 ((w0.alloc (.cells #[] 3)).ext z1) from (by repeat' (first | exact Ext.refl _ | assumption | refine Ext.alloc ?_ _ | refine Ext.ext ?_ _ | refine Ext.drew ?_ | refine Ext.drewN ?_ _))).trans Hx2.out)
      have HL := hid (own_ext Hl0.out ((show Ext (w0.alloc (.cells #[] 3)) ((w0.alloc (.cells #[] 3)).ext z1) from (by repeat' (first | exact Ext.refl _ | assumption | refine Ext.alloc ?_ _ | refine Ext.ext ?_ _ | refine Ext.drew ?_ | refine Ext.drewN ?_ _))).trans Hx2.out))
      clear b0 b1 b2
      go_loopw [10, 8] (fun v10 v8 wr => ∃ k : Nat, k ≤ V.length ∧ v10 = .int .i64 k ∧ wr.ownsRow (w.heap.size + 1 + 1) 3 1 v8 ((V.take k).filter (fun x => !low ps ls p x)).length (vInts ((V.take k).filter (fun x => !low ps ls p x))) ∧ Ext w0 wr ∧ Hid (Rd wr 1 (.slice pv V.length cv) V.length (vInts V) ∧ (∀ j, v8.ownBlock = some j → ∀ a, pv = some a → a.block ≠ j))) (fun v10 _ _ => V.length - (intOf v10).toNat)
      case atStart => exact ⟨0, Nat.zero_le _, rfl, HL.out, XW.out, ⟨Ho.out, fun j hj a ha => by cases hj; have := Hdl.out a ha; have := XB.size; have := hs0; simp [World.size_ext] at *; omega⟩⟩
      case round =>
        obtain ⟨k, hk, rfl, hown, hx, hrd⟩ := hrel
        by_cases hlt : k < V.length
        · obtain ⟨-, p9, c9, e9, q4⟩ := hrd.out.1
          cases e9
          obtain ⟨b, off, rfl, q6⟩ := q4.resolve_left (by omega)
          have a1 := elem1 (Value.int .i64) 0 V q6 k hlt
          have hblk := World.block_lt_of_cell? _ _ a1
          have hxo := Hin.out _ (mem_getD (L := V) hlt)
          have hsn := take_filter_snoc (p := fun x => !low ps ls p x) hlt
          have hfl := Nat.le_trans (List.length_filter_le (fun x => !low ps ls p x) (V.take k)) (by rw [List.length_take]; exact Nat.min_le_left k V.length)
          generalize V.getD k 0 = x at a1 hxo hsn
          have hlow : low ps ls p x = decide (sh ps ls x < 1000000000000 * p) := rfl
          have bx := Hsb.out x hxo
          have hp1 := fun w' e => Hpa.out x w' hxo e
          have hq1 := fun y w' h e => Hshr.out x y w' hxo h e
          generalize sh ps ls x = s at *
          generalize (V.take k).filter (fun x => !low ps ls p x) = M at *
          have c0 := hx.cell Bx.out.1
          have c1 := hx.cell Bx.out.2.1
          have c2 := hx.cell Bx.out.2.2
          have X3 := XB.trans hx
          have Hx := hid hx
          have HH := hid (And.intro hp1 hq1)
          have Hsn := hid hsn
          have Hown := hid hown
          have Hlow := hid hlow
          have wr0 : IntKind.i64.wrap 1000000000000 = 1000000000000 := by decide
          have wr1 : IntKind.i64.wrap (p * 1000000000000) = p * 1000000000000 := IntWalk.i64_in _ (by omega)
          clear hp1 hq1 hsn q4 q6 hown hx hlow
          cases t1 : decide (s < 1000000000000 * p)
          · have t2 : decide (p * 1000000000000 ≤ s) = true := by have := of_decide_eq_false t1; simp; omega
            have hs1 : (V.take (k + 1)).filter (fun x => !low ps ls p x) = M ++ [x] := by rw [Hsn.out, Hlow.out, t1]; rfl
            have Hs1 := hid hs1
            clear hs1 t1
            go_wp2
            have n0 : (0 : Int) ≤ (k : Int) := by omega
            have n1 : (k : Int) < (V.length : Int) := by omega
            have X4 : Ext w wr.drew := X3.drew
            have e0 := (Ext.refl wr).drew.cell c0
            have e1 := (Ext.refl wr).drew.cell c1
            have e2 := (Ext.refl wr).drew.cell c2
            have e3 := (Ext.refl wr).drew.cell a1
            go_region_held3 (fun w' => w'.cell? ⟨w.heap.size, 0, none⟩ = some v ∧ w'.cell? ⟨w.heap.size + 1, 0, none⟩ = some u ∧ w'.cell? ⟨w.heap.size + 1, 1, none⟩ = some u' ∧ w'.cell? ⟨b, off + k, none⟩ = some (.int .i64 x)) (first | exact ⟨c0, c1, c2, a1⟩ | exact ⟨e0, e1, e2, e3⟩ | exact ⟨f0, f1, f2, f3⟩ | exact ⟨g0, g1, g2, g3⟩)
              (first
                | (go_at_call 61; (with_reducible refine (HH.out.1 _ X4).mono ?_); rintro e w3 ⟨r3, rfl, ho3, hx3⟩; have f0 := hx3.cell e0; have f1 := hx3.cell e1; have f2 := hx3.cell e2; have f3 := hx3.cell e3)
                | (go_at_call 60; (with_reducible refine (HH.out.2 _ _ (Rd.own ho3) (X4.trans hx3)).mono ?_); rintro e w4 ⟨rfl, hx4⟩; have g0 := hx4.cell f0; have g1 := hx4.cell f1; have g2 := hx4.cell f2; have g3 := hx4.cell f3)
                | (go_at_call 62; (with_reducible refine (spec_l22Whole _).mono ?_); rintro e w' ⟨rfl, rfl⟩))
            have hxe := (Ext.refl wr).drew.trans (hx3.trans hx4)
            have hown4 := own_ext Hown.out hxe
            have Hxe := hid hxe
            clear ho3 hx3 hx4 n0 n1 hxe wr0 wr1 e0 e1 e2 f0 f1 f2 f3 g0 g1 g2 c0 c1 c2 X3 X4 a1 e3
            go_wp2_with (at_builtin; refine wpList_append_own_at _ rfl _ _ 24 rfl (w.heap.size + 1 + 1) 3 i0 (.int .i64 0) 1 8 Try.underlying24 hi0 hz0 hz1 hz2 rfl (by decide) _ _ _ rfl (hown4.alloc _) ⟨_, 0, none⟩ 1 1 [.int .i64 x] rfl rfl ?c1 ?c2 ?c3 ?c4 ?c5 ?_)
            case c1 => (intro j u hj; cases j with | zero => (simp at hj; subst hj; simp [Addr.add]) | succ j => simp at hj)
            case c2 => simp [Value.oneCell']
            case c3 => unfold maxLen; simp; omega
            case c4 => omega
            case c5 => have := Hxe.out.size; have := Hx.out.size; have := hs0; have := XB.size; have := HL.out; have := (own_row Hl0.out _ rfl).2; simp at *; omega
            intro v' w5 hown' hgrow _ hat
            have hx5 := Ext.grown ((Hx.out.trans Hxe.out).alloc _) hgrow (fun j hj => by have := (hown4.lt j hj).1; omega)
            have hr5 := rd_grown ((hrd.out.1.ext Hxe.out).ext ((Ext.refl w4).alloc (.cells #[.int .i64 x] 3))) hgrow (fun e => hrd.out.2 _ e.symm _ rfl rfl)
            have hd5 : ∀ j, v'.ownBlock = some j → ∀ a, some (⟨b, off, none⟩ : Addr) = some a → a.block ≠ j := fun j hj a ha => by
              cases ha
              rcases hat with h | h
              · exact hrd.out.2 j (by rw [← h]; exact hj) _ rfl
              · rw [hj] at h
                have := Hxe.out.size
                simp at h
                dsimp only at hblk ⊢; omega
            have K5 := hid (And.intro hown' (And.intro hx5 (And.intro hr5 hd5)))
            clear hown' hx5 hr5 hd5 hgrow hat hown4
            go_wp2
            go_roundw
            case rel => exact ⟨k + 1, by omega, by go_num, by rw [Hs1.out]; simpa [vInts] using K5.out.1, K5.out.2.1, ⟨K5.out.2.2.1, K5.out.2.2.2⟩⟩
            case measure => simp [intOf]; omega
          · have t2 : decide (p * 1000000000000 ≤ s) = false := by have := of_decide_eq_true t1; simp; omega
            have hs1 : (V.take (k + 1)).filter (fun x => !low ps ls p x) = M := by rw [Hsn.out, Hlow.out, t1]; rfl
            have Hs1 := hid hs1
            clear hs1 t1
            go_wp2
            have n0 : (0 : Int) ≤ (k : Int) := by omega
            have n1 : (k : Int) < (V.length : Int) := by omega
            have X4 : Ext w wr.drew := X3.drew
            have e0 := (Ext.refl wr).drew.cell c0
            have e1 := (Ext.refl wr).drew.cell c1
            have e2 := (Ext.refl wr).drew.cell c2
            have e3 := (Ext.refl wr).drew.cell a1
            go_region_held3 (fun w' => w'.cell? ⟨w.heap.size, 0, none⟩ = some v ∧ w'.cell? ⟨w.heap.size + 1, 0, none⟩ = some u ∧ w'.cell? ⟨w.heap.size + 1, 1, none⟩ = some u' ∧ w'.cell? ⟨b, off + k, none⟩ = some (.int .i64 x)) (first | exact ⟨c0, c1, c2, a1⟩ | exact ⟨e0, e1, e2, e3⟩ | exact ⟨f0, f1, f2, f3⟩ | exact ⟨g0, g1, g2, g3⟩)
              (first
                | (go_at_call 61; (with_reducible refine (HH.out.1 _ X4).mono ?_); rintro e w3 ⟨r3, rfl, ho3, hx3⟩; have f0 := hx3.cell e0; have f1 := hx3.cell e1; have f2 := hx3.cell e2; have f3 := hx3.cell e3)
                | (go_at_call 60; (with_reducible refine (HH.out.2 _ _ (Rd.own ho3) (X4.trans hx3)).mono ?_); rintro e w4 ⟨rfl, hx4⟩; have g0 := hx4.cell f0; have g1 := hx4.cell f1; have g2 := hx4.cell f2; have g3 := hx4.cell f3)
                | (go_at_call 62; (with_reducible refine (spec_l22Whole _).mono ?_); rintro e w' ⟨rfl, rfl⟩))
            have hxe := hid ((Ext.refl wr).drew.trans (hx3.trans hx4))
            clear ho3 hx3 hx4 n0 n1 wr0 wr1 e0 e1 e2 f0 f1 f2 f3 g0 g1 g2 c0 c1 c2 X3 X4 a1 e3
            go_wp2
            go_roundw
            case rel => exact ⟨k + 1, by omega, by go_num, by rw [Hs1.out]; exact own_ext Hown.out hxe.out, Hx.out.trans hxe.out, ⟨hrd.out.1.ext hxe.out, hrd.out.2⟩⟩
            case measure => simp [intOf]; omega
        · obtain rfl : k = V.length := by omega
          rw [List.take_length] at hown
          have Ho9 := hid hown
          have Hx9 := hid hx
          clear hown hx
          go_wp2
          go_ret2
          exact ⟨_, rfl, own_mono Ho9.out (by omega), XB.trans Hx9.out⟩
end Go.Proofs.Ytppdbnopgcjgjaa
