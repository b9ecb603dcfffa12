/- Captures: both sides. Library functions on slices of ints, by the shelf's contracts. -/
import Derived.Test.YtljknhocfjpolaaGreatDoorKWCap
import Derived.Test.YtljknhocfjpolaaGreatDoorJ2
import Derived.Shelf.Slices.Turned
import Derived.Shelf.Slices.Cells
import Derived.Shelf.Slices.Reverse
namespace Go.Proofs.YtljknhocfjpolaaGreatDoor
open Go.RowKit
set_option maxHeartbeats 400000
set_option maxRecDepth 100000
theorem cap_bad {xs : List Cap} {k : Nat} (hk : k < xs.length) (h : (okC (xs.getD k .z) && ordC xs k) = false) : capB xs = false := by
  rw [Bool.and_eq_false_iff] at h
  rcases h with h | h
  · have : allC xs = false := allUpto hk h
    rw [capB, this, Bool.and_false, Bool.and_false]
  · have : sortC xs = false := allUpto hk h
    rw [capB, this, Bool.false_and, Bool.and_false]
theorem cap_all {xs : List Cap} (h : ∀ i, i < xs.length → (okC (xs.getD i .z) && ordC xs i) = true) : capB xs = decide (xs.length ≤ 10) := by
  have h1 : allC xs = true := allTo fun i hi => (Bool.and_eq_true _ _ ▸ h i hi : _ ∧ _).1
  have h2 : sortC xs = true := allTo fun i hi => (Bool.and_eq_true _ _ ▸ h i hi : _ ∧ _).2
  rw [capB, h1, h2, Bool.true_and, Bool.and_true]
theorem cap_iff {xs : List Cap} (h : capB xs = true) : xs.length ≤ 10 ∧ ∀ i, i < xs.length → okC (xs.getD i .z) = true ∧ ordC xs i = true := by
  simp only [capB, Bool.and_eq_true, decide_eq_true_eq] at h
  exact ⟨h.1, fun i hi => ⟨(List.all_eq_true.1 h.2.2) i (List.mem_range.2 hi), (List.all_eq_true.1 h.2.1) i (List.mem_range.2 hi)⟩⟩
theorem spec_l25Good (xs : List Cap) (v : Value) (w : World) (h : Rd w 8 v xs.length (xs.flatMap Cap.cs)) (h2 : xs.length ≤ 1048576) (h3 : Cap.chars xs ≤ 1048576) :
    Calls Tryz.prog 40 #[v] w fun e w' => e = .returned (.bool (capB xs)) ∧ Ext w w' := by
  obtain ⟨h1, p, cap, rfl, h4⟩ := h
  have H4 := hid h4
  clear h1 h4
  go_enter Tryz.func40, Tryz.ntmps40
  go_wp2
  go_loopw [3] (fun v3 wr => ∃ k : Nat, k ≤ xs.length ∧ v3 = .int .i64 k ∧ (∀ i, i < k → (okC (xs.getD i .z) && ordC xs i) = true) ∧ Ext w wr) (fun v3 _ => xs.length - (intOf v3).toNat)
  case atStart => exact ⟨0, Nat.zero_le _, rfl, fun _ h => absurd h (Nat.not_lt_zero _), Ext.refl _⟩
  case round =>
    obtain ⟨k, hk, rfl, hall, z, rfl⟩ := hrel
    have Hall := hid hall
    clear hall
    by_cases hlt : k < xs.length
    · obtain ⟨b, off, rfl, h6⟩ := H4.out.resolve_left (by omega)
      obtain ⟨c0, c1, c2, c3, c4, c5, c6, c7⟩ := Cap.at xs h6 k hlt
      obtain ⟨d0, -⟩ := Cap.at xs h6 (k - 1) (by omega)
      have H6 := hid h6
      clear h6
      have hfin : Hid (ordC xs k = (k == 0 || decide ((xs.getD (k - 1) .z).t ≤ (xs.getD k .z).t))) := rfl
      have hsz := Cap.size_of h3 hlt
      have bad := fun h => cap_bad (xs := xs) hlt h
      have next := fun h => upTo_succ (k := k) (p := fun i => (okC (xs.getD i .z) && ordC xs i) = true) Hall.out h
      generalize ordC xs k = oK at hfin bad next
      generalize xs.getD k .z = x at c0 c1 c2 c3 c4 c5 c6 c7 hfin hsz bad next
      obtain ⟨t, n, u, c, m, r, l, d⟩ := x
      dsimp only at c0 c1 c2 c3 c4 c5 c6 c7 hsz
      generalize (xs.getD (k - 1) .z).t = t' at d0 hfin
      have ho := hid (fun w => spec_l25One t n u c m r l d w hsz)
      have Bad := hid bad
      have Next := hid next
      have Hsz := hid hsz
      clear bad next hsz
      cases hok : okC ⟨t, n, u, c, m, r, l, d⟩
      · rw [hok] at ho
        have Hok := hid hok
        clear hok
        go_wp2
        refine wp_region_ext (by kernel_rfl) (by kernel_rfl) ?_
        repeat (go_big_quiet_step ((first | (go_at_call 82; exact Calls.quiet_ext (ho.out _)))))
        refine wpQuiet_nil ?_
        rintro _ ⟨zq, rfl⟩
        go_wp2
        go_ret
        exact ⟨by rw [Bad.out (by rw [Hok.out]; rfl)]; rfl, (by repeat' (first | exact Ext.refl _ | assumption | refine Ext.alloc ?_ _ | refine Ext.ext ?_ _ | refine Ext.drew ?_ | refine Ext.drewN ?_ _))⟩
      · rw [hok] at ho
        have Hok := hid hok
        clear hok
        by_cases hk0 : k = 0
        · have hgt : decide (0 < (k:Int)) = false := by simp; omega
          have hgn : decide (0 < k) = false := by simp; omega
          have Hk0 := hid hk0
          clear hk0
          go_wp2
          refine wp_region_ext (by kernel_rfl) (by kernel_rfl) ?_
          repeat (go_big_quiet_step ((first | (go_at_call 82; exact Calls.quiet_ext (ho.out _)))))
          refine wpQuiet_nil ?_
          rintro _ ⟨zq, rfl⟩
          go_wp2
          go_roundw
          case rel => exact ⟨k + 1, by omega, by go_num, Next.out (by rw [Hok.out, hfin.out, Hk0.out]; rfl), (by repeat' (first | exact Ext.refl _ | assumption | refine Ext.alloc ?_ _ | refine Ext.ext ?_ _ | refine Ext.drew ?_ | refine Ext.drewN ?_ _))⟩
          case measure => simp [intOf]; omega
        · have hgt : decide (0 < (k:Int)) = true := by simp; omega
          have hk1 : 0 < k := by omega
          by_cases htt : t' ≤ t
          · have t1 : decide (t < t') = false := by simp; omega
            go_wp2
            refine wp_region_ext (by kernel_rfl) (by kernel_rfl) ?_
            repeat (go_big_quiet_step ((first | (go_at_call 82; exact Calls.quiet_ext (ho.out _)))))
            refine wpQuiet_nil ?_
            rintro _ ⟨zq, rfl⟩
            go_wp2
            go_roundw
            case rel => exact ⟨k + 1, by omega, by go_num, Next.out (by rw [Hok.out, hfin.out, decide_eq_true htt, Bool.or_true]; rfl), (by repeat' (first | exact Ext.refl _ | assumption | refine Ext.alloc ?_ _ | refine Ext.ext ?_ _ | refine Ext.drew ?_ | refine Ext.drewN ?_ _))⟩
            case measure => simp [intOf]; omega
          · have t1 : decide (t < t') = true := by simp; omega
            have hf : oK = false := by rw [hfin.out, decide_eq_false htt, beq_eq_false_iff_ne.2 hk0]; rfl
            have Hf := hid hf
            clear hf
            go_wp2
            refine wp_region_ext (by kernel_rfl) (by kernel_rfl) ?_
            repeat (go_big_quiet_step ((first | (go_at_call 82; exact Calls.quiet_ext (ho.out _)))))
            refine wpQuiet_nil ?_
            rintro _ ⟨zq, rfl⟩
            go_wp2
            go_ret
            exact ⟨by rw [Bad.out (by rw [Hf.out, Bool.and_false])]; rfl, (by repeat' (first | exact Ext.refl _ | assumption | refine Ext.alloc ?_ _ | refine Ext.ext ?_ _ | refine Ext.drew ?_ | refine Ext.drewN ?_ _))⟩
    · have hf : Hid (capB xs = decide ((xs.length : Int) ≤ 10)) := by
        show capB xs = _
        rw [cap_all (xs := xs) (fun i hi => Hall.out i (by omega)), Bool.eq_iff_iff, decide_eq_true_iff, decide_eq_true_iff]
        omega
      go_wp2
      go_ret
      exact ⟨by rw [hf.out]; rfl, (by repeat' (first | exact Ext.refl _ | assumption | refine Ext.alloc ?_ _ | refine Ext.ext ?_ _ | refine Ext.drew ?_ | refine Ext.drewN ?_ _))⟩
theorem slices_IsSorted (xs : List Cap) (v : Value) (w : World) (h : Rd w 8 v xs.length (xs.flatMap Cap.cs)) (h2 : xs.length ≤ 1048576) :
    Calls Tryz.prog 48 #[v, .func (.func 49) #[] #[]] w fun e w' => e = .returned (.bool (sortC xs)) ∧ Ext w w' := by
  obtain ⟨h1, p, cap, rfl, h4⟩ := h
  by_cases h0 : xs.length = 0
  · have hs : Hid (sortC xs = true) := by show sortC xs = true; exact allTo fun i hi => by omega
    rw [h0]
    clear h1 h4
    go_enter Tryz.func48, Tryz.ntmps48
    go_wp2
    refine wp_loop_rounds 1 ?_
    rw [rounds_succ]
    go_wp2
    go_ret
    exact ⟨by rw [hs.out]; rfl, (by repeat' (first | exact Ext.refl _ | assumption | refine Ext.alloc ?_ _ | refine Ext.ext ?_ _ | refine Ext.drew ?_ | refine Ext.drewN ?_ _))⟩
  obtain ⟨b, off, rfl, h6⟩ := h4.resolve_left h0
  have H6 := hid h6
  have w1 : IntKind.i64.wrap ((xs.length : Int) - 1) = xs.length - 1 := IntWalk.i64_in _ (by omega)
  clear h1 h4 h6
  go_enter Tryz.func48, Tryz.ntmps48
  go_wp2
  go_loopw [5] (fun v5 wr => ∃ j : Nat, j < xs.length ∧ v5 = .int .i64 (j : Int) ∧ (∀ i, j < i → i < xs.length → ordC xs i = true) ∧ Ext w wr) (fun v5 _ => (intOf v5).toNat)
  case atStart => exact ⟨xs.length - 1, by omega, by congr 1; omega, fun i h1 h2 => by omega, (by repeat' (first | exact Ext.refl _ | assumption | refine Ext.alloc ?_ _ | refine Ext.ext ?_ _ | refine Ext.drew ?_ | refine Ext.drewN ?_ _))⟩
  case round =>
    obtain ⟨j, hj, rfl, hall, z, rfl⟩ := hrel
    by_cases hlt : 0 < j
    · have hgt : decide (0 < (j : Int)) = true := by simp; omega
      obtain ⟨c0, c1, c2, c3, c4, c5, c6, c7⟩ := Cap.at xs H6.out j hj
      obtain ⟨d0, d1, d2, d3, d4, d5, d6, d7⟩ := Cap.at xs H6.out (j - 1) (by omega)
      have w2 : IntKind.i64.wrap ((j : Int) - 1) = (j : Int) - 1 := IntWalk.i64_in _ (by omega)
      have b1 : (0 : Int) ≤ (j : Int) - 1 := by omega
      have b2 : ((j : Int) - 1).toNat = j - 1 := by omega
      have hfin : ordC xs j = decide ((xs.getD (j - 1) .z).t ≤ (xs.getD j .z).t) := by rw [ordC, beq_eq_false_iff_ne.2 (by omega)]; rfl
      have bad : ordC xs j = false → sortC xs = false := fun h => allUpto hj h
      have next : ordC xs j = true → ∀ i, j - 1 < i → i < xs.length → ordC xs i = true := fun h i h1 h2 => by
        by_cases e : i = j
        · subst e; exact h
        · exact hall i (by omega) h2
      clear hall
      generalize ordC xs j = oK at hfin bad next
      generalize xs.getD j .z = x at c0 c1 c2 c3 c4 c5 c6 c7 hfin
      generalize xs.getD (j - 1) .z = y at d0 d1 d2 d3 d4 d5 d6 d7 hfin
      obtain ⟨t, n, u, c, m, r, l, d⟩ := x
      obtain ⟨t', n', u', c', m', r', l', d'⟩ := y
      dsimp only at c0 c1 c2 c3 c4 c5 c6 c7 d0 d1 d2 d3 d4 d5 d6 d7 hfin
      have hc := hid (fun w => impl_byTick t n u c m r l d t' n' u' c' m' r' l' d' w)
      have hcn := compare_neg t t'
      generalize Lib.compareInt t t' = K at hc hcn
      have Bad := hid bad
      have Next := hid next
      have Hfin := hid hfin
      clear bad next hfin
      by_cases htt : t' ≤ t
      · have tK : decide (K < 0) = false := by rw [decide_eq_false_iff_not, hcn]; omega
        clear hcn
        go_wp2
        refine wp_region_ext (by kernel_rfl) (by kernel_rfl) ?_
        repeat (go_big_quiet_step ((first | (go_at_call 49; exact Calls.quiet_ext (hc.out _)))))
        refine wpQuiet_nil ?_
        rintro _ ⟨zq, rfl⟩
        go_wp2
        go_roundw
        case rel => exact ⟨j - 1, by omega, by congr 1; omega, Next.out (by rw [Hfin.out, decide_eq_true htt]), (by repeat' (first | exact Ext.refl _ | assumption | refine Ext.alloc ?_ _ | refine Ext.ext ?_ _ | refine Ext.drew ?_ | refine Ext.drewN ?_ _))⟩
        case measure => simp [intOf]; omega
      · have tK : decide (K < 0) = true := by rw [decide_eq_true_iff, hcn]; omega
        clear hcn
        go_wp2
        refine wp_region_ext (by kernel_rfl) (by kernel_rfl) ?_
        repeat (go_big_quiet_step ((first | (go_at_call 49; exact Calls.quiet_ext (hc.out _)))))
        refine wpQuiet_nil ?_
        rintro _ ⟨zq, rfl⟩
        go_wp2
        go_ret
        exact ⟨by rw [Bad.out (by rw [Hfin.out, decide_eq_false (by omega)])]; rfl, (by repeat' (first | exact Ext.refl _ | assumption | refine Ext.alloc ?_ _ | refine Ext.ext ?_ _ | refine Ext.drew ?_ | refine Ext.drewN ?_ _))⟩
    · obtain rfl : j = 0 := by omega
      have hs : sortC xs = true := allTo fun i hi => by
        by_cases e : i = 0
        · subst e; rfl
        · exact hall i (by omega) hi
      have Hs := hid hs
      clear hs hall
      go_wp2
      go_ret
      exact ⟨by rw [Hs.out]; rfl, (by repeat' (first | exact Ext.refl _ | assumption | refine Ext.alloc ?_ _ | refine Ext.ext ?_ _ | refine Ext.drew ?_ | refine Ext.drewN ?_ _))⟩
theorem any_not (xs : List Cap) : xs.any (fun x => !okC x) = !allC xs := by
  cases h : allC xs
  · rw [Bool.not_false]
    rw [allC, List.all_eq_false] at h
    obtain ⟨i, hi, h⟩ := h
    have hi' := List.mem_range.1 hi
    exact List.any_eq_true.2 ⟨_, mem_cap hi', by simpa using h⟩
  · rw [Bool.not_true]
    refine (hitC_no (p := fun x => !okC x) (fun i hi => ?_)).2
    have := (List.all_eq_true.1 h) i (List.mem_range.2 hi)
    rw [this]; rfl
theorem Cap.mem_size {xs : List Cap} (h3 : Cap.chars xs ≤ 1048576) {x : Cap} (hx : x ∈ xs) : x.d.size ≤ 1048576 := by
  obtain ⟨i, hi, rfl⟩ := List.mem_iff_getElem.1 hx
  have := Cap.size_of h3 hi
  rwa [List.getD_eq_getElem?_getD, List.getElem?_eq_getElem hi] at this
theorem impl_IsCapture (xs : List Cap) (v : Value) (w : World) (h : Rd w 8 v xs.length (xs.flatMap Cap.cs)) (h2 : xs.length ≤ 1048576) (h3 : Cap.chars xs ≤ 1048576) :
    Calls Tryz.prog 15 #[v] w fun e w' => e = .returned (.bool (capB xs)) ∧ Ext w w' := by
  have Hr := hid h
  obtain ⟨h1, p, cap, rfl, h4⟩ := h
  have hso : Hid (∀ w, Rd w 8 (.slice p xs.length cap) xs.length (xs.flatMap Cap.cs) → Calls Tryz.prog 48 #[.slice p xs.length cap, .func (.func 49) #[] #[]] w fun e w' => e = .returned (.bool (sortC xs)) ∧ Ext w w') := fun w h => slices_IsSorted xs _ w h h2
  have hco : Hid (∀ w, Rd w 8 (.slice p xs.length cap) xs.length (xs.flatMap Cap.cs) → Calls Tryz.prog 50 #[.slice p xs.length cap, .func (.func 51) #[] #[]] w fun e w' => e = .returned (.bool (!allC xs)) ∧ Ext w w') := fun w h => by
    rw [← any_not]
    exact slices_ContainsFunc_cap xs (fun x => !okC x) 51 #[] (enters_of Tryz.func51 (by kernel_rfl) rfl) _ w w h (Ext.refl _) h2 (fun t n u c m r l d w' hm _ => impl_IsCapture_1 t n u c m r l d w' (Cap.mem_size h3 hm))
  have hnot : ∀ (x : Bool) (w : World), (Op.unary .not (.bool x)).run Tryz.prog w = .ok (.bool (!x)) w := fun _ _ => rfl
  have hb : Hid (capB xs = (decide (xs.length ≤ 10) && (sortC xs && allC xs))) := rfl
  clear h1 h4
  generalize sortC xs = so at *
  generalize allC xs = al at *
  by_cases h10 : xs.length ≤ 10
  · have t10 : decide ((xs.length : Int) ≤ 10) = true := by simp; omega
    cases so
    · go_enter Tryz.func15, Tryz.ntmps15
      go_wp2_with (go_at_call 48; (refine (hso.out _ (Hr.out.ext (by repeat' (first | exact Ext.refl _ | assumption | refine Ext.alloc ?_ _ | refine Ext.ext ?_ _ | refine Ext.drew ?_ | refine Ext.drewN ?_ _)))).mono ?_); rintro e w' ⟨rfl, z1, rfl⟩)
      go_ret
      exact ⟨by rw [hb.out, Bool.false_and, Bool.and_false]; rfl, (by repeat' (first | exact Ext.refl _ | assumption | refine Ext.alloc ?_ _ | refine Ext.ext ?_ _ | refine Ext.drew ?_ | refine Ext.drewN ?_ _))⟩
    · cases al
      all_goals
        go_enter Tryz.func15, Tryz.ntmps15
        go_wp2_with (first | (go_at_call 48; (refine (hso.out _ (Hr.out.ext (by repeat' (first | exact Ext.refl _ | assumption | refine Ext.alloc ?_ _ | refine Ext.ext ?_ _ | refine Ext.drew ?_ | refine Ext.drewN ?_ _)))).mono ?_); rintro e w' ⟨rfl, z1, rfl⟩) | (go_at_call 50; (refine (hco.out _ (Hr.out.ext (by repeat' (first | exact Ext.refl _ | assumption | refine Ext.alloc ?_ _ | refine Ext.ext ?_ _ | refine Ext.drew ?_ | refine Ext.drewN ?_ _)))).mono ?_); rintro e w' ⟨rfl, z2, rfl⟩))
        go_ret
        exact ⟨by rw [hb.out, decide_eq_true h10]; rfl, (by repeat' (first | exact Ext.refl _ | assumption | refine Ext.alloc ?_ _ | refine Ext.ext ?_ _ | refine Ext.drew ?_ | refine Ext.drewN ?_ _))⟩
  · have t10 : decide ((xs.length : Int) ≤ 10) = false := by simp; omega
    go_enter Tryz.func15, Tryz.ntmps15
    go_wp2_with fail
    go_ret
    exact ⟨by rw [hb.out, decide_eq_false h10]; rfl, (by repeat' (first | exact Ext.refl _ | assumption | refine Ext.alloc ?_ _ | refine Ext.ext ?_ _ | refine Ext.drew ?_ | refine Ext.drewN ?_ _))⟩
end Go.Proofs.YtljknhocfjpolaaGreatDoor
namespace Go.Proofs.YtljknhocfjpolaaGreatDoor
open Go.RowKit
set_option maxRecDepth 100000
set_option maxHeartbeats 400000
theorem own_setCells {base e k n g cap : Nat} : ∀ (vs : List Value) (w : World) (cs : List Value) (o : Nat), w.ownsRow base e k (.slice (some ⟨g, 0, none⟩) n cap) n cs → o + vs.length ≤ cs.length →
    (w.setCells g o vs).ownsRow base e k (.slice (some ⟨g, 0, none⟩) n cap) n (cs.take o ++ vs ++ cs.drop (o + vs.length)) ∧ w.grownBy (w.setCells g o vs) (some g)
  | [], w, cs, o, h, _ => ⟨by simpa [World.setCells] using h, World.grownBy.refl _ _⟩
  | v :: r, w, cs, o, h, hl => by
    have h1 := World.ownsRow.stored h o v
    simp only [List.length_cons] at hl
    have h2 := own_setCells r (w.setCell ⟨g, o, none⟩ v) (cs.set o v) (o + 1) h1.1 (by simp; omega)
    refine ⟨?_, grownBy_trans h1.2 h2.2⟩
    have e1 : (cs.set o v).take (o + 1) ++ r ++ (cs.set o v).drop (o + 1 + r.length) = cs.take o ++ (v :: r) ++ cs.drop (o + (v :: r).length) := by
      have hd : (cs.set o v).drop (o + 1 + r.length) = cs.drop (o + (v :: r).length) := by
        rw [List.drop_set_of_lt (by omega)]; congr 1; simp; omega
      have ht : (cs.set o v).take (o + 1) = cs.take o ++ [v] := by
        rw [List.take_succ_eq_append_getElem (by simp; omega), List.take_set, List.getElem_set_self]
        rw [List.set_eq_of_length_le (by simp; omega)]
      rw [hd, ht]; simp
    rw [← e1]
    exact h2.1
theorem rd_cells {xs : List Int} {w : World} {b off : Nat} (h : ∀ j (h : j < (vInts xs).length), w.cell? ⟨b, off + j, none⟩ = some (vInts xs)[j]) (j : Nat) (hj : j < xs.length) :
    w.cell? ⟨b, off + j, none⟩ = some (.int .i64 (xs.getD j 0)) := elem1 (Value.int .i64) 0 xs h j hj
def ren112 : Go.Shelf.Ren := ⟨fun x => if x = 112 then 165 else x, fun x => if x = 0 then 0 else if x = 3 then 3 else if x = 4 then 4 else if x = 28 then 41 else x, fun x => x⟩
theorem lays112 : Go.Proofs.Lays.n112 Tryz.prog ren112 := by constructor <;> first | kernel_rfl | (intro w; kernel_rfl)
theorem slices_Reverse (xs : List Int) (v : Value) (w : World) (B : Nat) (h : w.ownsRow B 3 1 v xs.length (vInts xs)) (h2 : xs.length ≤ 1048576) :
    Calls Tryz.prog 165 #[v] w fun e w' => e = .returned (.tuple #[]) ∧ w'.ownsRow B 3 1 v xs.length (vInts xs.reverse) ∧ w.grownBy w' v.ownBlock := by
  have ho := h
  have hlen := h.1
  obtain ⟨h1, ⟨rfl, hn⟩ | ⟨g, cap, cur, rfl, hB, _⟩⟩ := h
  · have e : xs = [] := List.eq_nil_of_length_eq_zero (by simpa using hn)
    subst e
    exact (Any.slices_Reverse_int_empty lays112 none 0 w).mono fun _ _ ⟨a, b⟩ => by subst b; exact ⟨a, ho, World.grownBy.refl _ _⟩
  · have := Any.slices_Reverse_int_cells lays112 g 0 xs.length cap xs w (Nat.le_refl _) (by omega)
      (fun j hj => by rw [Nat.zero_add, ho.cellAt j (by omega), vInts_get xs j hj]) (fun j hj => by rw [Nat.zero_add]; exact ho.frozenAt j)
    rw [List.take_length] at this
    refine this.mono fun _ _ ⟨a, q, b⟩ => ?_
    subst b
    have hd := own_ext ho (show Ext w (w.drewN q) from (Ext.refl w).drewN q)
    have hs := own_setCells (vInts xs.reverse) (w.drewN q) (vInts xs) 0 hd (by simp [vInts_len])
    refine ⟨a, ?_, grownBy_trans (Ext.grownBy ((Ext.refl w).drewN q) _) hs.2⟩
    have e : (vInts xs).take 0 ++ vInts xs.reverse ++ (vInts xs).drop (0 + (vInts xs.reverse).length) = vInts xs.reverse := by simp [vInts_len]
    rw [e] at hs
    exact hs.1
end Go.Proofs.YtljknhocfjpolaaGreatDoor
