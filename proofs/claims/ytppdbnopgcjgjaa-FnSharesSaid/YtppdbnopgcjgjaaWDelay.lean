/- Delays. -/
import Derived.Test.YtppdbnopgcjgjaaWAsc
import Derived.Test.YtppdbnopgcjgjaaWNodes
namespace Go.Proofs.Ytppdbnopgcjgjaa
open Go.RowKit
set_option maxHeartbeats 400000
def delF (ds : List Int) (L : List Int) : Int := (L.map (fun y => ds.getD y.toNat 0)).sum
def del (ps ds : List Int) (x : Int) : Int := delF ds (path ps x)
theorem delF_snoc (ds L : List Int) (k : Nat) (h : k < L.length) : delF ds (L.take (k + 1)) = delF ds (L.take k) + ds.getD (L.getD k 0).toNat 0 := by
  rw [take_snoc L 0 k h]; simp [delF]
theorem cost_ds {ps ls ds : List Int} (h : goodC ps ls ds = true) (y : Int) (h0 : 0 ≤ y) (h1 : y < ps.length) : 0 ≤ ds.getD y.toNat 0 ∧ ds.getD y.toNat 0 ≤ 1000 := by
  have h4 := (goodC_all h).2.2.2.1
  have h5 := (List.all_eq_true.1 h4) y.toNat (List.mem_range.2 (by omega))
  rw [costOk, Bool.and_eq_true, inB_iff, inB_iff] at h5
  exact h5.2
theorem cost_ls {ps ls ds : List Int} (h : goodC ps ls ds = true) (y : Int) (h0 : 0 ≤ y) (h1 : y < ps.length) : 0 ≤ ls.getD y.toNat 0 ∧ ls.getD y.toNat 0 ≤ 100 := by
  have h4 := (goodC_all h).2.2.2.1
  have h5 := (List.all_eq_true.1 h4) y.toNat (List.mem_range.2 (by omega))
  rw [costOk, Bool.and_eq_true, inB_iff, inB_iff] at h5
  exact h5.1
theorem delF_bd {ps ls ds L : List Int} (h : goodC ps ls ds = true) (hL : ∀ y ∈ L, 0 ≤ y ∧ y < ps.length) : ∀ k, k ≤ L.length → 0 ≤ delF ds (L.take k) ∧ delF ds (L.take k) ≤ 1000 * k
  | 0, _ => by simp [delF]
  | k + 1, hk => by
    have h1 := delF_bd h hL k (by omega)
    have h2 := hL _ (mem_getD (L := L) (k := k) (by omega))
    have h3 := cost_ds h _ h2.1 h2.2
    rw [delF_snoc ds L k (by omega)]
    omega
theorem del_bd {ps ls ds : List Int} (h : goodC ps ls ds = true) {x : Int} (hx : x < ps.length) : 0 ≤ del ps ds x ∧ del ps ds x ≤ 8000 := by
  have hT := (goodC_all h).1
  have h1 := delF_bd h (path_mem hT hx) (path ps x).length (Nat.le_refl _)
  have h2 := path_len hT hx
  rw [List.take_length] at h1
  unfold del; omega
theorem spec_l6Node (ps : List Int) (v : Value) (x : Int) (w : World) (h : Rd w 1 v ps.length (vInts ps)) (h2 : ps.length ≤ 1048576) :
    Calls Try.prog 44 #[.agg #[v], .int .i64 x] w fun e w' => e = .returned (.bool (goodT ps && isNode ps.length x)) ∧ Ext w w' := by
  have hr := h
  obtain ⟨h1, p, cap, rfl, h4⟩ := h
  have Hr := hid hr
  clear h1 h4 hr
  cases hg : goodT ps
  · have Hg := hid hg
    go_enter Try.func44, Try.ntmps44
    go_wp2_with (go_at_call 81; refine (spec_l6Good ps _ _ (Hr.out.ext (by repeat' (first | exact Ext.refl _ | assumption | refine Ext.alloc ?_ _ | refine Ext.ext ?_ _ | refine Ext.drew ?_ | refine Ext.drewN ?_ _))) h2).mono ?_; rintro e w' ⟨rfl, z1, rfl⟩)
    go_ret
    exact ⟨by simp, (by repeat' (first | exact Ext.refl _ | assumption | refine Ext.alloc ?_ _ | refine Ext.ext ?_ _ | refine Ext.drew ?_ | refine Ext.drewN ?_ _))⟩
  · have Hg := hid hg
    go_enter Try.func44, Try.ntmps44
    go_wp2_with (first | (go_at_call 81; refine (spec_l6Good ps _ _ (Hr.out.ext (by repeat' (first | exact Ext.refl _ | assumption | refine Ext.alloc ?_ _ | refine Ext.ext ?_ _ | refine Ext.drew ?_ | refine Ext.drewN ?_ _))) h2).mono ?_; rintro e w' ⟨rfl, z1, rfl⟩) | (go_at_call 75; refine (spec_l1In _ _ _ _).mono ?_; rintro e w' ⟨rfl, rfl⟩))
    go_ret
    exact ⟨by simp [isNode], (by repeat' (first | exact Ext.refl _ | assumption | refine Ext.alloc ?_ _ | refine Ext.ext ?_ _ | refine Ext.drew ?_ | refine Ext.drewN ?_ _))⟩
theorem spec_l22Node (ps ls ds : List Int) (v u u' : Value) (x : Int) (w : World) (h : Rd w 1 v ps.length (vInts ps)) (k : Rd w 1 u ls.length (vInts ls)) (l : Rd w 1 u' ds.length (vInts ds))
    (h2 : ps.length ≤ 1048576) (k2 : ls.length ≤ 1048576) (l2 : ds.length ≤ 1048576) :
    Calls Try.prog 43 #[.agg #[v], .agg #[u, u'], .int .i64 x] w fun e w' => e = .returned (.bool (goodC ps ls ds && isNode ps.length x)) ∧ Ext w w' := by
  have Hr := hid h
  have Kr := hid k
  have Lr := hid l
  clear h k l
  cases hg : goodC ps ls ds
  · have Hg := hid hg
    go_enter Try.func43, Try.ntmps43
    go_wp2_with (go_at_call 55; refine (spec_l22Good ps ls ds _ _ _ _ (Hr.out.ext (by repeat' (first | exact Ext.refl _ | assumption | refine Ext.alloc ?_ _ | refine Ext.ext ?_ _ | refine Ext.drew ?_ | refine Ext.drewN ?_ _))) (Kr.out.ext (by repeat' (first | exact Ext.refl _ | assumption | refine Ext.alloc ?_ _ | refine Ext.ext ?_ _ | refine Ext.drew ?_ | refine Ext.drewN ?_ _))) (Lr.out.ext (by repeat' (first | exact Ext.refl _ | assumption | refine Ext.alloc ?_ _ | refine Ext.ext ?_ _ | refine Ext.drew ?_ | refine Ext.drewN ?_ _))) h2 k2 l2).mono ?_; rintro e w' ⟨rfl, z1, rfl⟩)
    go_ret
    exact ⟨by simp, (by repeat' (first | exact Ext.refl _ | assumption | refine Ext.alloc ?_ _ | refine Ext.ext ?_ _ | refine Ext.drew ?_ | refine Ext.drewN ?_ _))⟩
  · have Hg := hid hg
    have hT := (goodC_all hg).1
    have hN := fun v w h => spec_l6Node ps v x w h h2
    rw [hT] at hN
    have HN := hid hN; clear hN hT
    go_enter Try.func43, Try.ntmps43
    go_wp2_with (first | (go_at_call 55; refine (spec_l22Good ps ls ds _ _ _ _ (Hr.out.ext (by repeat' (first | exact Ext.refl _ | assumption | refine Ext.alloc ?_ _ | refine Ext.ext ?_ _ | refine Ext.drew ?_ | refine Ext.drewN ?_ _))) (Kr.out.ext (by repeat' (first | exact Ext.refl _ | assumption | refine Ext.alloc ?_ _ | refine Ext.ext ?_ _ | refine Ext.drew ?_ | refine Ext.drewN ?_ _))) (Lr.out.ext (by repeat' (first | exact Ext.refl _ | assumption | refine Ext.alloc ?_ _ | refine Ext.ext ?_ _ | refine Ext.drew ?_ | refine Ext.drewN ?_ _))) h2 k2 l2).mono ?_; rintro e w' ⟨rfl, z1, rfl⟩) | (go_at_call 44; refine (HN.out _ _ (Hr.out.ext (by repeat' (first | exact Ext.refl _ | assumption | refine Ext.alloc ?_ _ | refine Ext.ext ?_ _ | refine Ext.drew ?_ | refine Ext.drewN ?_ _)))).mono ?_; rintro e w' ⟨rfl, z1, rfl⟩))
    go_ret
    exact ⟨by simp, (by repeat' (first | exact Ext.refl _ | assumption | refine Ext.alloc ?_ _ | refine Ext.ext ?_ _ | refine Ext.drew ?_ | refine Ext.drewN ?_ _))⟩
theorem impl_delayTo (ps ls ds : List Int) (v u u' : Value) (x : Int) (w : World) (h : Rd w 1 v ps.length (vInts ps)) (k : Rd w 1 u' ds.length (vInts ds)) (hg : goodC ps ls ds = true) (hx0 : -1 ≤ x) (hx1 : x < ps.length) :
    Calls Try.prog 46 #[.agg #[u, u'], .agg #[v], .int .i64 x] w fun e w' => e = .returned (.int .i64 (del ps ds x)) ∧ Ext w w' := by
  have hT := (goodC_all hg).1
  have hl := (goodC_all hg).2.2.1
  have hlen := goodT_len hT
  obtain ⟨k1, p, cap, rfl, k4⟩ := k
  obtain ⟨b, off, rfl, k6⟩ := k4.resolve_left (by omega)
  have K6 := hid k6
  have Hr := hid h
  have HT := hid hT
  have HL := hid hl
  have Hg := hid hg
  have Hxx := hid (And.intro hx0 hx1)
  have hdd : del ps ds x = delF ds (path ps x) := rfl
  have hpl := path_len hT hx1
  have hpm := path_mem hT hx1
  have hbd := delF_bd hg hpm
  have Hpm := hid hpm
  have Hbd := hid hbd
  have Hdd := hid hdd
  have hpp := fun v w h => impl_path ps v x w h hT hx0 hx1
  generalize hP : path ps x = P at *
  have Hpp := hid hpp
  clear hP k1 k4 k6 h hT hl hg hx0 hx1 hdd hpm hbd hpp
  go_enter Try.func46, Try.ntmps46
  go_wp2_with fail
  go_at_call 63
  have hbx : ((w.alloc (.cells #[u, .slice (some ⟨b, off, none⟩) ds.length cap] 28)).alloc (.cells #[v] 26)).cell? ⟨w.heap.size, 1, none⟩ = some (.slice (some ⟨b, off, none⟩) ds.length cap) := by rw [cell_of_row _ _ 1 _ _ (0, 0) (heap_old (heap_at _ rfl) _)]; rfl
  refine (Hpp.out _ _ (Hr.out.ext (by repeat' (first | exact Ext.refl _ | assumption | refine Ext.alloc ?_ _ | refine Ext.ext ?_ _ | refine Ext.drew ?_ | refine Ext.drewN ?_ _)))).mono ?_
  rintro e w1 ⟨r, rfl, ho1, hx1⟩
  have hw1 := (show Ext w _ from (by repeat' (first | exact Ext.refl _ | assumption | refine Ext.alloc ?_ _ | refine Ext.ext ?_ _ | refine Ext.drew ?_ | refine Ext.drewN ?_ _))).trans hx1
  have c1 := hx1.cell hbx
  obtain ⟨-, rp, rc, rfl, q4⟩ := Rd.own ho1
  have Q4 := hid q4
  clear hx1 hbx ho1 q4
  go_wp2
  go_loopw [14, 7] (fun v14 v7 wr => ∃ k : Nat, k ≤ P.length ∧ v14 = .int .i64 k ∧ v7 = .int .i64 (delF ds (P.take k)) ∧ Ext w1 wr) (fun v14 _ _ => P.length - (intOf v14).toNat)
  case atStart => exact ⟨0, Nat.zero_le _, rfl, rfl, Ext.refl _⟩
  case round =>
    obtain ⟨k, hk, rfl, rfl, z, rfl⟩ := hrel
    have bd := Hbd.out k hk
    by_cases hlt : k < P.length
    · obtain ⟨b', off', rfl, q6⟩ := Q4.out.resolve_left (by omega)
      have d0 := elem1 (Value.int .i64) 0 P q6 k hlt
      have hsn := delF_snoc ds P k hlt
      have hy := Hpm.out _ (mem_getD hlt)
      generalize P.getD k 0 = y at d0 hsn hy
      have hyb := cost_ds Hg.out y hy.1 hy.2
      obtain ⟨n, rfl⟩ := Int.eq_ofNat_of_zero_le hy.1
      have hds := (goodC_all Hg.out).2.2.1
      have hn : n < ds.length := by omega
      have e0 := hw1.cell (elem1 (Value.int .i64) 0 ds K6.out n hn)
      rw [Int.toNat_natCast] at hsn hyb
      generalize ds.getD n 0 = s at e0 hsn hyb
      generalize delF ds (P.take k) = S at bd hsn
      have Hsn := hid hsn
      clear hsn q6 hds
      go_wp2
      go_roundw
      case rel => exact ⟨k + 1, by omega, by go_num, by rw [Hsn.out], (by repeat' (first | exact Ext.refl _ | assumption | refine Ext.alloc ?_ _ | refine Ext.ext ?_ _ | refine Ext.drew ?_ | refine Ext.drewN ?_ _))⟩
      case measure => simp [intOf]; omega
    · obtain rfl : k = P.length := by omega
      rw [List.take_length]
      go_wp2
      go_ret
      exact ⟨by rw [Hdd.out]; rfl, hw1.trans (by repeat' (first | exact Ext.refl _ | assumption | refine Ext.alloc ?_ _ | refine Ext.ext ?_ _ | refine Ext.drew ?_ | refine Ext.drewN ?_ _))⟩
theorem spec_l22Delay (ps ls ds : List Int) (v u u' : Value) (x : Int) (w : World) (h : Rd w 1 v ps.length (vInts ps)) (k : Rd w 1 u' ds.length (vInts ds)) (hg : goodC ps ls ds = true) (hx0 : -1 ≤ x) (hx1 : x < ps.length) :
    Calls Try.prog 57 #[.agg #[v], .agg #[u, u'], .int .i64 x] w fun e w' => e = .returned (.int .i64 (del ps ds x)) ∧ Ext w w' := by
  have hT := (goodC_all hg).1
  have hl := (goodC_all hg).2.2.1
  have hlen := goodT_len hT
  obtain ⟨k1, p, cap, rfl, k4⟩ := k
  obtain ⟨b, off, rfl, k6⟩ := k4.resolve_left (by omega)
  have K6 := hid k6
  have Hr := hid h
  have Hg := hid hg
  have hdd : del ps ds x = delF ds (path ps x) := rfl
  have hpl := path_len hT hx1
  have hpm := path_mem hT hx1
  have hbd := delF_bd hg hpm
  have Hpm := hid hpm
  have Hbd := hid hbd
  have Hdd := hid hdd
  have hpp := fun v w h => spec_l6Path ps v x w h hT hx0 hx1
  generalize hP : path ps x = P at *
  have Hpp := hid hpp
  clear hP k1 k4 k6 h hT hl hg hx0 hx1 hdd hpm hbd hpp
  go_enter Try.func57, Try.ntmps57
  go_wp2_with fail
  go_at_call 61
  have hbx : ((w.alloc (.cells #[v] 26)).alloc (.cells #[u, .slice (some ⟨b, off, none⟩) ds.length cap] 28)).cell? ⟨w.heap.size + 1, 1, none⟩ = some (.slice (some ⟨b, off, none⟩) ds.length cap) := by rw [cell_of_row _ _ 1 _ _ (0, 0) (heap_at _ (by simp))]; rfl
  refine (Hpp.out _ _ (Hr.out.ext (by repeat' (first | exact Ext.refl _ | assumption | refine Ext.alloc ?_ _ | refine Ext.ext ?_ _ | refine Ext.drew ?_ | refine Ext.drewN ?_ _)))).mono ?_
  rintro e w1 ⟨r, rfl, ho1, hx1⟩
  have hw1 := (show Ext w _ from (by repeat' (first | exact Ext.refl _ | assumption | refine Ext.alloc ?_ _ | refine Ext.ext ?_ _ | refine Ext.drew ?_ | refine Ext.drewN ?_ _))).trans hx1
  have c1 := hx1.cell hbx
  obtain ⟨-, rp, rc, rfl, q4⟩ := Rd.own ho1
  have Q4 := hid q4
  clear hx1 hbx ho1 q4
  go_wp2
  go_loopw [9, 8] (fun v9 v8 wr => ∃ k : Nat, k ≤ P.length ∧ v9 = .int .i64 k ∧ v8 = .int .i64 (delF ds (P.take k)) ∧ Ext w1 wr) (fun v9 _ _ => P.length - (intOf v9).toNat)
  case atStart => exact ⟨0, Nat.zero_le _, rfl, rfl, Ext.refl _⟩
  case round =>
    obtain ⟨k, hk, rfl, rfl, z, rfl⟩ := hrel
    have bd := Hbd.out k hk
    by_cases hlt : k < P.length
    · obtain ⟨b', off', rfl, q6⟩ := Q4.out.resolve_left (by omega)
      have d0 := elem1 (Value.int .i64) 0 P q6 k hlt
      have hsn := delF_snoc ds P k hlt
      have hy := Hpm.out _ (mem_getD hlt)
      generalize P.getD k 0 = y at d0 hsn hy
      have hyb := cost_ds Hg.out y hy.1 hy.2
      obtain ⟨n, rfl⟩ := Int.eq_ofNat_of_zero_le hy.1
      have hds := (goodC_all Hg.out).2.2.1
      have hn : n < ds.length := by omega
      have e0 := hw1.cell (elem1 (Value.int .i64) 0 ds K6.out n hn)
      rw [Int.toNat_natCast] at hsn hyb
      generalize ds.getD n 0 = s at e0 hsn hyb
      generalize delF ds (P.take k) = S at bd hsn
      have Hsn := hid hsn
      clear hsn q6 hds
      go_wp2
      refine wp_region_ext (by kernel_rfl) (by kernel_rfl) ?_
      repeat (go_big_quiet_step (fail))
      refine wpQuiet_nil ?_
      rintro _ ⟨zq, rfl⟩
      go_wp2
      go_roundw
      case rel => exact ⟨k + 1, by omega, by go_num, by rw [Hsn.out], (by repeat' (first | exact Ext.refl _ | assumption | refine Ext.alloc ?_ _ | refine Ext.ext ?_ _ | refine Ext.drew ?_ | refine Ext.drewN ?_ _))⟩
      case measure => simp [intOf]; omega
    · obtain rfl : k = P.length := by omega
      rw [List.take_length]
      go_wp2
      go_ret
      exact ⟨by rw [Hdd.out]; rfl, hw1.trans (by repeat' (first | exact Ext.refl _ | assumption | refine Ext.alloc ?_ _ | refine Ext.ext ?_ _ | refine Ext.drew ?_ | refine Ext.drewN ?_ _))⟩
end Go.Proofs.Ytppdbnopgcjgjaa
