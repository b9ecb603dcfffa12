/- Whether a parity fits a block: both sides. -/
import Derived.Test.YthnfdgbmmiddlaaDoorWParOf
import Derived.Shelf.Slices.Equal
namespace Go.Proofs.YthnfdgbmmiddlaaDoor
open Go.RowKit
set_option maxHeartbeats 400000
set_option maxRecDepth 100000
theorem ints_cells {xs : List Int} {w : World} {b off : Nat} (h : ∀ j (h : j < (vInts xs).length), w.cell? ⟨b, off + j, none⟩ = some (vInts xs)[j]) (j : Nat) (hj : j < xs.length) :
    w.cell? ⟨b, off + j, none⟩ = some (.int .i64 (xs.getD j 0)) := elem1 (Value.int .i64) 0 xs h j hj
theorem same_all {L M : List Int} (hl : L.length = M.length) (h : ∀ j, j < L.length → L.getD j 0 = M.getD j 0) : (L == M) = true := by
  rw [beq_iff_eq]
  apply List.ext_getElem hl
  intro i h1 h2
  have := h i h1
  rw [List.getD_eq_getElem?_getD, List.getElem?_eq_getElem h1, List.getD_eq_getElem?_getD, List.getElem?_eq_getElem h2] at this
  exact this
theorem same_not {L M : List Int} {k : Nat} (h : L.getD k 0 ≠ M.getD k 0) : (L == M) = false := by
  rw [beq_eq_false_iff_ne]
  intro e
  exact h (by rw [e])
def ren111 : Go.Shelf.Ren := ⟨fun x => if x = 111 then 58 else x, fun x => if x = 0 then 0 else if x = 3 then 3 else if x = 4 then 4 else if x = 28 then 25 else x, fun x => x⟩
theorem lays111 : Go.Proofs.Lays.n111 Tryd.prog ren111 := by constructor <;> first | kernel_rfl | (intro w; kernel_rfl)
theorem slices_Equal (L M : List Int) (v u : Value) (w : World) (h : Rd w 1 v L.length (vInts L)) (k : Rd w 1 u M.length (vInts M)) (hl : L.length = M.length) (h0 : 0 < L.length) (h2 : L.length ≤ 1048576) :
    Calls Tryd.prog 58 #[v, u] w fun e w' => e = .returned (.bool (L == M)) ∧ Ext w w' := by
  obtain ⟨h1, p, cap, rfl, h4⟩ := h
  obtain ⟨k1, p', cap', rfl, k4⟩ := k
  obtain ⟨b, off, rfl, h6⟩ := h4.resolve_left (by omega)
  obtain ⟨b', off', rfl, k6⟩ := k4.resolve_left (by omega)
  have := Any.slices_Equal_int lays111 b off L.length cap b' off' M.length cap' L M w (Nat.le_refl _) (Nat.le_refl _) (by omega) (by omega) (fun j hj => ints_cells h6 j hj) (fun j hj => ints_cells k6 j hj)
  rw [List.take_length, List.take_length] at this
  exact this.mono fun _ _ ⟨a, q, b⟩ => ⟨a, by subst b; exact (Ext.refl w).drewN q⟩
theorem spec_l1Same (L M : List Int) (v u : Value) (w : World) (h : Rd w 1 v L.length (vInts L)) (k : Rd w 1 u M.length (vInts M)) (hl : L.length = M.length) (h2 : L.length ≤ 1048576) :
    Calls Tryd.prog 65 #[v, u] w fun e w' => e = .returned (.bool (L == M)) ∧ Ext w w' := by
  obtain ⟨h1, p, cap, rfl, h4⟩ := h
  obtain ⟨k1, p', cap', rfl, k4⟩ := k
  clear h1 k1
  have H4 := hid h4; clear h4
  have K4 := hid k4; clear k4
  have hsa := fun h => same_all (L := L) (M := M) hl h
  have hsn := fun k h => same_not (L := L) (M := M) (k := k) h
  generalize (L == M) = R at hsa hsn
  have Hsa := hid hsa; clear hsa
  have Hsn := hid hsn; clear hsn
  rw [← hl] at K4 ⊢
  have Hl := hid hl; clear hl
  go_enter Tryd.func65, Tryd.ntmps65
  go_wp2
  go_loopw [5] (fun v5 wr => ∃ (k : Nat), k ≤ L.length ∧ v5 = .int .i64 k ∧ (∀ j, j < k → L.getD j 0 = M.getD j 0) ∧ Ext w wr) (fun v5 _ => L.length - (intOf v5).toNat)
  case atStart => exact ⟨0, Nat.zero_le _, rfl, fun j hj => absurd hj (Nat.not_lt_zero _), Ext.refl _⟩
  case round =>
    obtain ⟨k, hk, rfl, hall, z, rfl⟩ := hrel
    by_cases hlt : k < L.length
    · obtain ⟨b, off, rfl, h6⟩ := H4.out.resolve_left (by omega)
      obtain ⟨b', off', rfl, k6⟩ := K4.out.resolve_left (by omega)
      have hl := Hl.out
      have c0 := elem1 (Value.int .i64) 0 L h6 k hlt
      have c1 := elem1 (Value.int .i64) 0 M k6 k (by omega)
      clear hl
      have next : L.getD k 0 = M.getD k 0 → ∀ j, j < k + 1 → L.getD j 0 = M.getD j 0 := fun h => upTo_succ hall h
      have bad : L.getD k 0 ≠ M.getD k 0 → R = false := fun h => Hsn.out k h
      clear hall h6 k6
      generalize L.getD k 0 = x at c0 next bad
      generalize M.getD k 0 = y at c1 next bad
      have Next := hid next; clear next
      have Bad := hid bad; clear bad
      by_cases hxy : x = y
      · subst hxy
        go_wp2
        refine wp_region_ext (by kernel_rfl) (by kernel_rfl) ?_
        repeat (go_big_quiet_step ((first | fail)))
        refine wpQuiet_nil ?_
        rintro _ ⟨zq, rfl⟩
        go_wp2
        go_roundw
        case rel => exact ⟨k + 1, by omega, by go_num, Next.out (by first | rfl | trivial), ((Ext.refl _).ext _).ext _⟩
        case measure => simp [intOf]; omega
      · go_wp2
        refine wp_region_ext (by kernel_rfl) (by kernel_rfl) ?_
        repeat (go_big_quiet_step ((first | fail)))
        refine wpQuiet_nil ?_
        rintro _ ⟨zq, rfl⟩
        go_wp2
        go_ret
        exact ⟨by rw [Bad.out hxy]; rfl, ((Ext.refl _).ext _).ext _⟩
    · have hR : R = true := Hsa.out (fun j hj => hall j (by omega))
      have HR := hid hR; clear hR hall
      go_wp2
      go_ret
      exact ⟨by rw [HR.out]; rfl, (Ext.refl _).ext _⟩
def fitB (xs : List ByteArray) (P : List Int) : Bool := blk xs && isPar P
def fitR (xs : List ByteArray) (P : List Int) : Bool := fitB xs P && (parL xs == P)
theorem impl_FitsParity (ss : List ByteArray) (xs : List Int) (v v' : Value) (w : World) (h : Rd w 1 v ss.length (vStrs ss)) (k : Rd w 1 v' xs.length (vInts xs)) (h2 : ss.length ≤ 1048576) (h3 : chars ss ≤ 1048576) (k2 : xs.length ≤ 1048576) :
    Calls Tryd.prog 25 #[v, v'] w fun e w' => e = .returned (.tuple #[.bool (fitR ss xs), .bool (fitB ss xs)]) ∧ Ext w w' := by
  have Hr := hid h
  have Kr := hid k
  have hb : Hid (∀ w, Rd w 1 v ss.length (vStrs ss) → Calls Tryd.prog 55 #[v] w fun e w' => e = .returned (.bool (blk ss)) ∧ Ext w w') := fun w h => impl_isBlock ss v w h h2 h3
  have hp : Hid (∀ w, Rd w 1 v' xs.length (vInts xs) → Calls Tryd.prog 35 #[v'] w fun e w' => e = .returned (.bool (isPar xs)) ∧ Ext w w') := fun w h => impl_isParity xs v' w h k2
  clear h k
  cases e1 : blk ss
  · have f1 : fitB ss xs = false := by rw [fitB, e1]; rfl
    have f2 : fitR ss xs = false := by rw [fitR, f1]; rfl
    rw [f1, f2]
    rw [e1] at hb
    clear e1 f1 f2
    go_enter Tryd.func25, Tryd.ntmps25
    go_wp2_with (go_at_call 55; (with_reducible refine (hb.out _ (Hr.out.ext (by repeat' (first | exact Ext.refl _ | assumption | refine Ext.alloc ?_ _ | refine Ext.ext ?_ _ | refine Ext.drew ?_ | refine Ext.drewN ?_ _)))).mono ?_); rintro e w' ⟨rfl, z1, rfl⟩)
    go_ret2
    exact ⟨rfl, (by repeat' (first | exact Ext.refl _ | assumption | refine Ext.alloc ?_ _ | refine Ext.ext ?_ _ | refine Ext.drew ?_ | refine Ext.drewN ?_ _))⟩
  · rw [e1] at hb
    cases e2 : isPar xs
    · have f1 : fitB ss xs = false := by rw [fitB, e1, e2]; rfl
      have f2 : fitR ss xs = false := by rw [fitR, f1]; rfl
      rw [f1, f2]
      rw [e2] at hp
      clear e1 e2 f1 f2
      go_enter Tryd.func25, Tryd.ntmps25
      go_wp2_with (first | (go_at_call 55; (with_reducible refine (hb.out _ (Hr.out.ext (by repeat' (first | exact Ext.refl _ | assumption | refine Ext.alloc ?_ _ | refine Ext.ext ?_ _ | refine Ext.drew ?_ | refine Ext.drewN ?_ _)))).mono ?_); rintro e w' ⟨rfl, z1, rfl⟩) | (go_at_call 35; (with_reducible refine (hp.out _ (Kr.out.ext (by repeat' (first | exact Ext.refl _ | assumption | refine Ext.alloc ?_ _ | refine Ext.ext ?_ _ | refine Ext.drew ?_ | refine Ext.drewN ?_ _)))).mono ?_); rintro e w' ⟨rfl, z2, rfl⟩))
      go_ret2
      exact ⟨rfl, (by repeat' (first | exact Ext.refl _ | assumption | refine Ext.alloc ?_ _ | refine Ext.ext ?_ _ | refine Ext.drew ?_ | refine Ext.drewN ?_ _))⟩
    · have f1 : fitB ss xs = true := by rw [fitB, e1, e2]; rfl
      have f2 : fitR ss xs = (parL ss == xs) := by rw [fitR, f1]; rfl
      rw [f1, f2]
      rw [e2] at hp
      have h8 := isPar_len e2
      have p8 := parL_len ss
      have hpo := hid (fun w h => impl_parityOf ss v w h h2 (blk_all e1))
      have heq := hid (fun v u w h k => (fun v u w h k => slices_Equal (parL ss) xs v u w h k (by rw [parL_len, h8]) (by rw [parL_len]; decide) (by rw [parL_len]; decide)) v u w h k)
      clear e1 e2 f1 f2
      generalize parL ss = P at *
      have P8 := hid p8
      have X8 := hid h8
      clear p8 h8
      go_enter Tryd.func25, Tryd.ntmps25
      go_wp2_with (first | (go_at_call 55; (with_reducible refine (hb.out _ (Hr.out.ext (by repeat' (first | exact Ext.refl _ | assumption | refine Ext.alloc ?_ _ | refine Ext.ext ?_ _ | refine Ext.drew ?_ | refine Ext.drewN ?_ _)))).mono ?_); rintro e w' ⟨rfl, z1, rfl⟩) | (go_at_call 35; (with_reducible refine (hp.out _ (Kr.out.ext (by repeat' (first | exact Ext.refl _ | assumption | refine Ext.alloc ?_ _ | refine Ext.ext ?_ _ | refine Ext.drew ?_ | refine Ext.drewN ?_ _)))).mono ?_); rintro e w' ⟨rfl, z2, rfl⟩) | (go_at_call 56; (refine (hpo.out _ (Hr.out.ext (by repeat' (first | exact Ext.refl _ | assumption | refine Ext.alloc ?_ _ | refine Ext.ext ?_ _ | refine Ext.drew ?_ | refine Ext.drewN ?_ _)))).mono ?_); rintro e w' ⟨r, rfl, ho, z3, rfl⟩; have Ho := hid ho; clear ho) | (go_at_call 58; (refine (heq.out _ _ _ ((Rd.own Ho.out).ext (by repeat' (first | exact Ext.refl _ | assumption | refine Ext.alloc ?_ _ | refine Ext.ext ?_ _ | refine Ext.drew ?_ | refine Ext.drewN ?_ _))) (Kr.out.ext (by repeat' (first | exact Ext.refl _ | assumption | refine Ext.alloc ?_ _ | refine Ext.ext ?_ _ | refine Ext.drew ?_ | refine Ext.drewN ?_ _)))).mono ?_); rintro e w' ⟨rfl, z4, rfl⟩))
      go_ret2
      exact ⟨rfl, (by repeat' (first | exact Ext.refl _ | assumption | refine Ext.alloc ?_ _ | refine Ext.ext ?_ _ | refine Ext.drew ?_ | refine Ext.drewN ?_ _))⟩
end Go.Proofs.YthnfdgbmmiddlaaDoor
