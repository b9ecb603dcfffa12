/- The items that alone could be wrong. -/
import Derived.Test.YthnfdgbmmiddlaaDoorWRec4
namespace Go.Proofs.YthnfdgbmmiddlaaDoor
open Go.RowKit
set_option maxHeartbeats 400000
set_option maxRecDepth 100000
def susTo (ss : List ByteArray) (xs : List Int) (k : Nat) : List Int := ((List.range k).filter (fun i : Nat => recR ss (i : Int) xs)).map (fun i : Nat => (i : Int))
def sus (ss : List ByteArray) (xs : List Int) : List Int := if fitB ss xs && !fitR ss xs then susTo ss xs ss.length else []
theorem susTo_snoc (ss : List ByteArray) (xs : List Int) (k : Nat) : susTo ss xs (k + 1) = susTo ss xs k ++ (if recR ss (k : Int) xs then [(k : Int)] else []) := by
  rw [susTo, List.range_succ, List.filter_append, List.map_append]
  cases h : recR ss (k : Int) xs <;> simp [h, susTo]
theorem susTo_len (ss : List ByteArray) (xs : List Int) (k : Nat) : (susTo ss xs k).length ≤ k := by
  rw [susTo, List.length_map]
  exact Nat.le_trans (List.length_filter_le _ _) (by simp)
theorem sus_no {ss : List ByteArray} {xs : List Int} (h : fitB ss xs = false) : sus ss xs = [] := by rw [sus, h]; rfl
theorem sus_fit {ss : List ByteArray} {xs : List Int} (h : fitR ss xs = true) : sus ss xs = [] := by rw [sus, h, Bool.not_true, Bool.and_false]; rfl
theorem sus_yes {ss : List ByteArray} {xs : List Int} (h : fitB ss xs = true) (h' : fitR ss xs = false) : sus ss xs = susTo ss xs ss.length := by rw [sus, h, h']; rfl
theorem sus_len (ss : List ByteArray) (xs : List Int) : (sus ss xs).length ≤ ss.length := by
  rw [sus]
  split
  · exact susTo_len _ _ _
  · simp
theorem impl_SuspectItems (ss : List ByteArray) (xs : List Int) (v v' : Value) (w : World) (h : Rd w 1 v ss.length (vStrs ss)) (k : Rd w 1 v' xs.length (vInts xs)) (h2 : ss.length ≤ 1048576) (h3 : chars ss ≤ 1048576) (k2 : xs.length ≤ 1048576) :
    Calls Tryd.prog 26 #[v, v'] w fun e w' => ∃ r, e = .returned (.tuple #[r, .bool (fitB ss xs)]) ∧ w'.ownsRow w.heap.size 3 1 r (sus ss xs).length (vInts (sus ss xs)) ∧ Ext w w' := by
  have Hr := hid h
  have Kr := hid k
  obtain ⟨h1, p, cap, rfl, h4⟩ := h
  clear h1 h4 k
  have hf : Hid (∀ w, Rd w 1 (.slice p ss.length cap) ss.length (vStrs ss) → Rd w 1 v' xs.length (vInts xs) → Calls Tryd.prog 25 #[.slice p ss.length cap, v'] w fun e w' => e = .returned (.tuple #[.bool (fitR ss xs), .bool (fitB ss xs)]) ∧ Ext w w') := fun w h k => impl_FitsParity ss xs _ v' w h k h2 h3 k2
  have hre := hid (fun (i : Nat) w h k => impl_RecoverItem ss xs (i : Int) (.slice p ss.length cap) v' w h k h2 h3 k2)
  obtain ⟨i0, hi, hz0, hz1, hz2⟩ := info_parts infoInt
  cases e1 : fitB ss xs
  · rw [sus_no e1]
    rw [e1] at hf
    generalize fitR ss xs = R at *
    clear e1 hre hi hz0 hz1 hz2
    go_enter Tryd.func26, Tryd.ntmps26
    go_wp2_with (go_at_call 25; (refine (hf.out _ Hr.out Kr.out).mono ?_); rintro e w' ⟨rfl, z1, rfl⟩)
    go_ret2
    exact ⟨_, rfl, World.ownsRow_nil _ _ _ _, (by repeat' (first | exact Ext.refl _ | assumption | refine Ext.alloc ?_ _ | refine Ext.ext ?_ _ | refine Ext.drew ?_ | refine Ext.drewN ?_ _))⟩
  rw [e1] at hf
  cases e2 : fitR ss xs
  · rw [sus_yes e1 e2]
    rw [e2] at hf
    have hsn := hid (susTo_snoc ss xs)
    have hln := hid (susTo_len ss xs)
    have hz : Hid (susTo ss xs 0 = []) := rfl
    clear e1 e2
    generalize susTo ss xs = F at *
    go_enter Tryd.func26, Tryd.ntmps26
    go_wp2_with (go_at_call 25; (refine (hf.out _ Hr.out Kr.out).mono ?_); rintro e w' ⟨rfl, z1, rfl⟩)
    go_loopw [22, 8] (fun v22 v8 wr => ∃ k : Nat, k ≤ ss.length ∧ v22 = .int .i64 k ∧ wr.ownsRow w.heap.size 3 1 v8 (F k).length (vInts (F k)) ∧ Ext w wr) (fun v22 _ _ => ss.length - (intOf v22).toNat)
    case atStart => exact ⟨0, Nat.zero_le _, rfl, by rw [hz.out]; exact World.ownsRow_nil _ _ _ _, (by repeat' (first | exact Ext.refl _ | assumption | refine Ext.alloc ?_ _ | refine Ext.ext ?_ _ | refine Ext.drew ?_ | refine Ext.drewN ?_ _))⟩
    case round =>
      obtain ⟨k, hk, rfl, hown, hx⟩ := hrel
      have Hown := hid hown
      have Hx := hid hx
      have hl := hln.out k
      have Hsn := hid (hsn.out k)
      have hr := hid (hre.out k)
      clear hown hx hre hf
      generalize hP : F k = P at *
      have HP := hid hP
      clear hP
      generalize hQ : F (k + 1) = Q at *
      generalize recT ss (k : Int) xs = T at *
      by_cases hlt : k < ss.length
      · cases hb : recR ss (k : Int) xs
        · rw [hb] at hr Hsn
          clear hb
          go_wp2_with (go_at_call 27; (refine (hr.out _ (Hr.out.ext Hx.out) (Kr.out.ext Hx.out)).mono ?_); rintro e w3 ⟨rfl, hx3⟩; have Hx3 := hid hx3; clear hx3)
          go_roundw
          case rel => exact ⟨k + 1, by omega, by go_num, by rw [hQ, Hsn.out]; simpa using own_ext Hown.out Hx3.out, Hx.out.trans Hx3.out⟩
          case measure => simp [intOf]; omega
        · rw [hb] at hr Hsn
          clear hb
          go_wp2_with (first | (go_at_call 27; (refine (hr.out _ (Hr.out.ext Hx.out) (Kr.out.ext Hx.out)).mono ?_); rintro e w3 ⟨rfl, hx3⟩; have Hx3 := hid (Hx.out.trans hx3); have hown := own_ext Hown.out hx3; clear hx3) | (at_builtin; refine wpList_append_own _ rfl _ _ 25 rfl w.heap.size 3 i0 (.int .i64 0) 1 8 Tryd.underlying25 hi hz0 hz1 hz2 rfl (by decide) _ _ _ rfl (hown.alloc _) ⟨_, 0, none⟩ 1 1 [.int .i64 (k : Int)] rfl rfl ?c1 ?c2 ?c3 ?c4 ?c5 ?_))
          (try case c1 => (intro j u hj; cases j with | zero => (simp at hj; subst hj; simp [Addr.add]) | succ j => simp at hj))
          case c2 => simp [Value.oneCell']
          case c3 => unfold maxLen; simp; omega
          case c4 => omega
          case c5 => have := Hx3.out.size; simp; omega
          intro v' w1 hown' hgrow _
          have hx2 : Ext w w1 := (Hx3.out.alloc _).grown hgrow (fun j hj => (hown.lt j hj).1)
          have Hx2 := hid hx2; clear hx2 hgrow
          go_wp2
          go_roundw
          case rel => exact ⟨k + 1, by omega, by go_num, by rw [hQ, Hsn.out]; simpa [vInts] using hown', Hx2.out⟩
          case measure => simp [intOf]; omega
      · obtain rfl : k = ss.length := by omega
        go_wp2
        go_ret2
        exact ⟨_, rfl, by rw [HP.out]; exact Hown.out, Hx.out⟩
  · rw [sus_fit e2]
    rw [e2] at hf
    clear e1 e2 hi hz0 hz1 hz2
    go_enter Tryd.func26, Tryd.ntmps26
    go_wp2_with (go_at_call 25; (refine (hf.out _ Hr.out Kr.out).mono ?_); rintro e w' ⟨rfl, z1, rfl⟩)
    go_loopw [22, 8] (fun v22 v8 wr => ∃ k : Nat, k ≤ ss.length ∧ v22 = .int .i64 k ∧ v8 = .slice none 0 0 ∧ Ext w wr) (fun v22 _ _ => ss.length - (intOf v22).toNat)
    case atStart => exact ⟨0, Nat.zero_le _, rfl, rfl, (by repeat' (first | exact Ext.refl _ | assumption | refine Ext.alloc ?_ _ | refine Ext.ext ?_ _ | refine Ext.drew ?_ | refine Ext.drewN ?_ _))⟩
    case round =>
      obtain ⟨k, hk, rfl, rfl, hx⟩ := hrel
      have Hx := hid hx
      have hr := hid (hre.out k)
      clear hx hre hf
      generalize recT ss (k : Int) xs = T at *
      generalize recR ss (k : Int) xs = R at *
      by_cases hlt : k < ss.length
      · cases R
        all_goals
          go_wp2_with (go_at_call 27; (refine (hr.out _ (Hr.out.ext Hx.out) (Kr.out.ext Hx.out)).mono ?_); rintro e w3 ⟨rfl, hx3⟩; have Hx3 := hid hx3; clear hx3)
          go_roundw
          case rel => exact ⟨k + 1, by omega, by go_num, rfl, Hx.out.trans Hx3.out⟩
          case measure => simp [intOf]; omega
      · go_wp2
        go_ret2
        exact ⟨_, rfl, World.ownsRow_nil _ _ _ _, Hx.out⟩
theorem allS_oth {ss : List ByteArray} (h : allS ss = true) (m : Nat) : allS (oth ss m) = true := oth_all fun k hk _ => by
  have := (List.all_eq_true.1 h) k (List.mem_range.2 hk)
  exact this
theorem spec_SuspectItems (ss : List ByteArray) (xs : List Int) (v v' : Value) (w : World) (h : Rd w 1 v ss.length (vStrs ss)) (k : Rd w 1 v' xs.length (vInts xs)) (h2 : ss.length ≤ 1048576) (h3 : chars ss ≤ 1048576) (k2 : xs.length ≤ 1048576) :
    Calls Tryd.prog 31 #[v, v'] w fun e w' => ∃ r, e = .returned (.tuple #[r, .bool (fitB ss xs)]) ∧ w'.ownsRow w.heap.size 3 1 r (sus ss xs).length (vInts (sus ss xs)) ∧ Ext w w' := by
  have Hr := hid h
  have Kr := hid k
  obtain ⟨h1, p, cap, rfl, h4⟩ := h
  clear h1 h4 k
  have hb : Hid (∀ w, Rd w 1 (.slice p ss.length cap) ss.length (vStrs ss) → Calls Tryd.prog 57 #[.slice p ss.length cap] w fun e w' => e = .returned (.bool (blk ss)) ∧ Ext w w') := fun w h => spec_l24Block ss _ w h h2 h3
  have hp : Hid (∀ w, Rd w 1 v' xs.length (vInts xs) → Calls Tryd.prog 44 #[v'] w fun e w' => e = .returned (.bool (isPar xs)) ∧ Ext w w') := fun w h => spec_l24Good xs v' w h k2
  have ho0 := World.ownsRow_lit (base := w.heap.size) (e := 3) (size := 1) w #[] 0 (Nat.le_refl _) (Nat.zero_le _) rfl
  have Ho0 := hid ho0; clear ho0
  obtain ⟨i0, hi, hz0, hz1, hz2⟩ := info_parts infoInt
  cases e1 : blk ss
  · have f1 : fitB ss xs = false := by rw [fitB, e1]; rfl
    rw [sus_no f1, f1]
    rw [e1] at hb
    clear e1 f1
    go_enter Tryd.func31, Tryd.ntmps31
    go_wp2_with (go_at_call 57; (refine (hb.out _ (Hr.out.ext (by repeat' (first | exact Ext.refl _ | assumption | refine Ext.alloc ?_ _ | refine Ext.ext ?_ _ | refine Ext.drew ?_ | refine Ext.drewN ?_ _)))).mono ?_); rintro e w' ⟨rfl, z1, rfl⟩)
    go_ret2
    exact ⟨_, rfl, own_ext Ho0.out (by repeat' (first | exact Ext.refl _ | assumption | refine Ext.alloc ?_ _ | refine Ext.ext ?_ _ | refine Ext.drew ?_ | refine Ext.drewN ?_ _)), (by repeat' (first | exact Ext.refl _ | assumption | refine Ext.alloc ?_ _ | refine Ext.ext ?_ _ | refine Ext.drew ?_ | refine Ext.drewN ?_ _))⟩
  rw [e1] at hb
  cases e2 : isPar xs
  · have f1 : fitB ss xs = false := by rw [fitB, e1, e2]; rfl
    rw [sus_no f1, f1]
    rw [e2] at hp
    clear e1 e2 f1
    go_enter Tryd.func31, Tryd.ntmps31
    go_wp2_with (first | (go_at_call 57; (refine (hb.out _ (Hr.out.ext (by repeat' (first | exact Ext.refl _ | assumption | refine Ext.alloc ?_ _ | refine Ext.ext ?_ _ | refine Ext.drew ?_ | refine Ext.drewN ?_ _)))).mono ?_); rintro e w' ⟨rfl, z1, rfl⟩) | (go_at_call 44; (refine (hp.out _ (Kr.out.ext (by repeat' (first | exact Ext.refl _ | assumption | refine Ext.alloc ?_ _ | refine Ext.ext ?_ _ | refine Ext.drew ?_ | refine Ext.drewN ?_ _)))).mono ?_); rintro e w' ⟨rfl, z2, rfl⟩))
    go_ret2
    exact ⟨_, rfl, own_ext Ho0.out (by repeat' (first | exact Ext.refl _ | assumption | refine Ext.alloc ?_ _ | refine Ext.ext ?_ _ | refine Ext.drew ?_ | refine Ext.drewN ?_ _)), (by repeat' (first | exact Ext.refl _ | assumption | refine Ext.alloc ?_ _ | refine Ext.ext ?_ _ | refine Ext.drew ?_ | refine Ext.drewN ?_ _))⟩
  rw [e2] at hp
  have f1 : fitB ss xs = true := by rw [fitB, e1, e2]; rfl
  have h8 := isPar_len e2
  have hpo : Hid (∀ w, Rd w 1 (.slice p ss.length cap) ss.length (vStrs ss) → Calls Tryd.prog 50 #[.slice p ss.length cap] w fun e w' => ∃ r, e = .returned r ∧ w'.ownsRow w.heap.size 3 1 r (parL ss).length (vInts (parL ss)) ∧ Ext w w') := fun w h => spec_l24Parity ss _ w h h2 (blk_all e1)
  have heq : Hid (∀ v u w, Rd w 1 v (parL ss).length (vInts (parL ss)) → Rd w 1 u xs.length (vInts xs) → Calls Tryd.prog 65 #[v, u] w fun e w' => e = .returned (.bool (parL ss == xs)) ∧ Ext w w') := fun v u w h k => spec_l1Same (parL ss) xs v u w h k (by rw [parL_len, h8]) (by rw [parL_len]; decide)
  have f2 : fitR ss xs = (parL ss == xs) := by rw [fitR, f1]; rfl
  cases e3 : (parL ss == xs)
  · rw [e3] at heq f2
    have hrec : ∀ m : Nat, m < ss.length → ofB (recC ss (m : Int) xs) = recR ss (m : Int) xs := fun m hm => by
      have h1 : recB ss (m : Int) xs = true := by
        have h7 := blk_all e1
        have h9 : ss.length ≤ 6 := by
          rw [blk, Bool.and_eq_true] at e1
          have := inB_iff.1 e1.1
          omega
        rw [recB, e2, inB_iff.2 (by omega), Int.toNat_natCast, allS_oth h7, decide_eq_true h9]; rfl
      rw [(rec_yes h1).2]
    have hre : Hid (∀ m : Nat, m < ss.length → ∀ w, Rd w 1 (.slice p ss.length cap) ss.length (vStrs ss) → Rd w 1 v' xs.length (vInts xs) → Calls Tryd.prog 63 #[.slice p ss.length cap, .int .i64 (m : Int), v'] w fun e w' => e = .returned (.tuple #[.string (ofT (recC ss (m : Int) xs)), .bool (recR ss (m : Int) xs)]) ∧ Ext w w') := fun m hm w h k => by
      rw [← hrec m hm]
      exact spec_l24Recover ss xs m _ v' w h k h2 e2 (allS_oth (blk_all e1) m)
    rw [sus_yes f1 f2, f1]
    have hsn := hid (susTo_snoc ss xs)
    have hln := hid (susTo_len ss xs)
    have hz : Hid (susTo ss xs 0 = []) := rfl
    clear e1 e2 e3 f1 f2 hrec h8
    generalize susTo ss xs = F at *
    generalize parL ss = PP at *
    go_enter Tryd.func31, Tryd.ntmps31
    go_wp2_with (first | (go_at_call 57; (refine (hb.out _ (Hr.out.ext (by repeat' (first | exact Ext.refl _ | assumption | refine Ext.alloc ?_ _ | refine Ext.ext ?_ _ | refine Ext.drew ?_ | refine Ext.drewN ?_ _)))).mono ?_); rintro e w' ⟨rfl, z1, rfl⟩) | (go_at_call 44; (refine (hp.out _ (Kr.out.ext (by repeat' (first | exact Ext.refl _ | assumption | refine Ext.alloc ?_ _ | refine Ext.ext ?_ _ | refine Ext.drew ?_ | refine Ext.drewN ?_ _)))).mono ?_); rintro e w' ⟨rfl, z2, rfl⟩) | (go_at_call 50; (refine (hpo.out _ (Hr.out.ext (by repeat' (first | exact Ext.refl _ | assumption | refine Ext.alloc ?_ _ | refine Ext.ext ?_ _ | refine Ext.drew ?_ | refine Ext.drewN ?_ _)))).mono ?_); rintro e w' ⟨r, rfl, ho, z3, rfl⟩; have Ho := hid ho; clear ho) | (go_at_call 65; (refine (heq.out _ _ _ ((Rd.own Ho.out).ext (by repeat' (first | exact Ext.refl _ | assumption | refine Ext.alloc ?_ _ | refine Ext.ext ?_ _ | refine Ext.drew ?_ | refine Ext.drewN ?_ _))) (Kr.out.ext (by repeat' (first | exact Ext.refl _ | assumption | refine Ext.alloc ?_ _ | refine Ext.ext ?_ _ | refine Ext.drew ?_ | refine Ext.drewN ?_ _)))).mono ?_); rintro e w' ⟨rfl, z4, rfl⟩))
    go_loopw [7, 6] (fun v7 v6 wr => ∃ k : Nat, k ≤ ss.length ∧ v7 = .int .i64 k ∧ wr.ownsRow w.heap.size 3 1 v6 (F k).length (vInts (F k)) ∧ Ext w wr) (fun v7 _ _ => ss.length - (intOf v7).toNat)
    case atStart => exact ⟨0, Nat.zero_le _, rfl, by rw [hz.out]; exact own_ext Ho0.out (by repeat' (first | exact Ext.refl _ | assumption | refine Ext.alloc ?_ _ | refine Ext.ext ?_ _ | refine Ext.drew ?_ | refine Ext.drewN ?_ _)), (by repeat' (first | exact Ext.refl _ | assumption | refine Ext.alloc ?_ _ | refine Ext.ext ?_ _ | refine Ext.drew ?_ | refine Ext.drewN ?_ _))⟩
    case round =>
      obtain ⟨k, hk, rfl, hown, hx⟩ := hrel
      have Hown := hid hown
      have Hx := hid hx
      have hl := hln.out k
      have Hsn := hid (hsn.out k)
      have hr := fun h => hid (hre.out k h)
      clear hown hx hre hpo heq hb hp
      generalize hP : F k = P at *
      have HP := hid hP
      clear hP
      generalize hQ : F (k + 1) = Q at *
      generalize ofT (recC ss (k : Int) xs) = T at *
      by_cases hlt : k < ss.length
      · replace hr := hr hlt
        cases hb : recR ss (k : Int) xs
        · rw [hb] at hr Hsn
          clear hb
          go_wp2_with (go_at_call 63; (refine (hr.out _ (Hr.out.ext Hx.out) (Kr.out.ext Hx.out)).mono ?_); rintro e w3 ⟨rfl, hx3⟩; have Hx3 := hid hx3; clear hx3)
          go_roundw
          case rel => exact ⟨k + 1, by omega, by go_num, by rw [hQ, Hsn.out]; simpa using own_ext Hown.out Hx3.out, Hx.out.trans Hx3.out⟩
          case measure => simp [intOf]; omega
        · rw [hb] at hr Hsn
          clear hb
          go_wp2_with (first | (go_at_call 63; (refine (hr.out _ (Hr.out.ext Hx.out) (Kr.out.ext Hx.out)).mono ?_); rintro e w3 ⟨rfl, hx3⟩; have Hx3 := hid (Hx.out.trans hx3); have hown := own_ext Hown.out hx3; clear hx3) | (at_builtin; refine wpList_append_own _ rfl _ _ 25 rfl w.heap.size 3 i0 (.int .i64 0) 1 8 Tryd.underlying25 hi hz0 hz1 hz2 rfl (by decide) _ _ _ rfl (hown.alloc _) ⟨_, 0, none⟩ 1 1 [.int .i64 (k : Int)] rfl rfl ?c1 ?c2 ?c3 ?c4 ?c5 ?_))
          (try case c1 => (intro j u hj; cases j with | zero => (simp at hj; subst hj; simp [Addr.add]) | succ j => simp at hj))
          case c2 => simp [Value.oneCell']
          case c3 => unfold maxLen; simp; omega
          case c4 => omega
          case c5 => have := Hx3.out.size; simp; omega
          intro v' w1 hown' hgrow _
          have hx2 : Ext w w1 := (Hx3.out.alloc _).grown hgrow (fun j hj => (hown.lt j hj).1)
          have Hx2 := hid hx2; clear hx2 hgrow
          go_wp2
          go_roundw
          case rel => exact ⟨k + 1, by omega, by go_num, by rw [hQ, Hsn.out]; simpa [vInts] using hown', Hx2.out⟩
          case measure => simp [intOf]; omega
      · obtain rfl : k = ss.length := by omega
        clear hr
        go_wp2
        go_ret2
        exact ⟨_, rfl, by rw [HP.out]; exact Hown.out, Hx.out⟩
  · rw [e3] at heq f2
    rw [sus_fit f2, f1]
    clear e1 e2 e3 f1 f2 h8
    generalize parL ss = PP at *
    go_enter Tryd.func31, Tryd.ntmps31
    go_wp2_with (first | (go_at_call 57; (refine (hb.out _ (Hr.out.ext (by repeat' (first | exact Ext.refl _ | assumption | refine Ext.alloc ?_ _ | refine Ext.ext ?_ _ | refine Ext.drew ?_ | refine Ext.drewN ?_ _)))).mono ?_); rintro e w' ⟨rfl, z1, rfl⟩) | (go_at_call 44; (refine (hp.out _ (Kr.out.ext (by repeat' (first | exact Ext.refl _ | assumption | refine Ext.alloc ?_ _ | refine Ext.ext ?_ _ | refine Ext.drew ?_ | refine Ext.drewN ?_ _)))).mono ?_); rintro e w' ⟨rfl, z2, rfl⟩) | (go_at_call 50; (refine (hpo.out _ (Hr.out.ext (by repeat' (first | exact Ext.refl _ | assumption | refine Ext.alloc ?_ _ | refine Ext.ext ?_ _ | refine Ext.drew ?_ | refine Ext.drewN ?_ _)))).mono ?_); rintro e w' ⟨r, rfl, ho, z3, rfl⟩; have Ho := hid ho; clear ho) | (go_at_call 65; (refine (heq.out _ _ _ ((Rd.own Ho.out).ext (by repeat' (first | exact Ext.refl _ | assumption | refine Ext.alloc ?_ _ | refine Ext.ext ?_ _ | refine Ext.drew ?_ | refine Ext.drewN ?_ _))) (Kr.out.ext (by repeat' (first | exact Ext.refl _ | assumption | refine Ext.alloc ?_ _ | refine Ext.ext ?_ _ | refine Ext.drew ?_ | refine Ext.drewN ?_ _)))).mono ?_); rintro e w' ⟨rfl, z4, rfl⟩))
    go_ret2
    exact ⟨_, rfl, own_ext Ho0.out (by repeat' (first | exact Ext.refl _ | assumption | refine Ext.alloc ?_ _ | refine Ext.ext ?_ _ | refine Ext.drew ?_ | refine Ext.drewN ?_ _)), (by repeat' (first | exact Ext.refl _ | assumption | refine Ext.alloc ?_ _ | refine Ext.ext ?_ _ | refine Ext.drew ?_ | refine Ext.drewN ?_ _))⟩
end Go.Proofs.YthnfdgbmmiddlaaDoor
