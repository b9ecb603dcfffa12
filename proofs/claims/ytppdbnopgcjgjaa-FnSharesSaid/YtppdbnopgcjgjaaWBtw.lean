/- Between two nodes. -/
import Derived.Test.YtppdbnopgcjgjaaWShr
namespace Go.Proofs.Ytppdbnopgcjgjaa
open Go.RowKit
set_option maxHeartbeats 400000
set_option maxRecDepth 100000
theorem nodesIn_two (ps : List Int) (a b : Int) : nodesIn ps [a, b] = (isNode ps.length a && isNode ps.length b) := by simp [nodesIn, allG, List.range_succ]
theorem isNode_iff {n : Nat} {x : Int} : isNode n x = true ↔ 0 ≤ x ∧ x < n := by rw [isNode, inB_iff]; omega
def hasC2 (ps ls ds : List Int) (a b : Int) : Bool := goodC ps ls ds && (isNode ps.length a && isNode ps.length b)
theorem hasC2_iff {ps ls ds : List Int} {a b : Int} (h : hasC2 ps ls ds a b = true) : goodC ps ls ds = true ∧ (0 ≤ a ∧ a < ps.length) ∧ (0 ≤ b ∧ b < ps.length) := by
  rw [hasC2, Bool.and_eq_true, Bool.and_eq_true, isNode_iff, isNode_iff] at h
  exact h
def betweenN (ps ls ds : List Int) (a b : Int) : Int := if hasC2 ps ls ds a b then btw ps ds a b else 0
theorem between_no {ps ls ds : List Int} {a b : Int} (h : hasC2 ps ls ds a b = false) : betweenN ps ls ds a b = 0 := by simp [betweenN, h]
theorem between_yes {ps ls ds : List Int} {a b : Int} (h : hasC2 ps ls ds a b = true) : betweenN ps ls ds a b = btw ps ds a b := by simp [betweenN, h]
theorem impl_MeetingNode (ps : List Int) (v : Value) (a b : Int) (w : World) (h : Rd w 1 v ps.length (vInts ps)) (hg : goodT ps = true) (ha : 0 ≤ a ∧ a < ps.length) (hb : 0 ≤ b ∧ b < ps.length) :
    Calls Try.prog 80 #[.agg #[v], .int .i64 a, .int .i64 b] w fun e w' => e = .returned (.tuple #[.int .i64 (meet ps a b), .bool true]) ∧ Ext w w' := by
  have hlen := goodT_len hg
  have hN : ∀ (u : Value) (w : World), Rd w 1 v ps.length (vInts ps) → Rd w 1 u 2 [.int .i64 a, .int .i64 b] → Calls Try.prog 79 #[.agg #[v], u] w fun e w' => e = .returned (.bool true) ∧ Ext w w' := fun u w h k => by
    have := impl_hasNodes ps [a, b] v u w h k (by omega) (by simp)
    rw [hg, nodesIn_two, isNode_iff.2 ha, isNode_iff.2 hb] at this
    exact this
  have hlit : Rd ((w.alloc (.cells #[v] 26)).alloc (.cells #[.int .i64 a, .int .i64 b] 3)) 1 (.slice (some ⟨w.heap.size + 1, 0, none⟩) 2 2) 2 [.int .i64 a, .int .i64 b] := by simpa using rd_lit (w.alloc (.cells #[v] 26)) #[.int .i64 a, .int .i64 b]
  have hpa := fun w h => impl_path ps v a w h hg (by omega) ha.2
  have hpb := fun w h => impl_path ps v b w h hg (by omega) hb.2
  have hm : meet ps a b = meetTo (path ps a) (path ps b) (path ps a).length := rfl
  have hla := path_len hg ha.2
  have hlb := path_len hg hb.2
  generalize meet ps a b = M at *
  generalize path ps a = P at *
  generalize path ps b = Q at *
  have hct := fun (v : Value) (x : Int) (w : World) (h : Rd w 1 v Q.length (vInts Q)) => slices_Contains Q v x w h (by omega)
  have HN := hid hN
  have Hlit := hid hlit
  have Hpa := hid hpa
  have Hpb := hid hpb
  have Hm := hid hm
  have Hr := hid h
  have Hct := hid hct
  clear hN hlit hpa hpb hm h hg ha hb hct
  go_enter Try.func80, Try.ntmps80
  go_wp2_with (first
    | (go_at_call 79; (with_reducible refine (HN.out _ _ (Hr.out.ext (by repeat' (first | exact Ext.refl _ | assumption | refine Ext.alloc ?_ _ | refine Ext.ext ?_ _ | refine Ext.drew ?_ | refine Ext.drewN ?_ _))) Hlit.out).mono ?_); rintro e w' ⟨rfl, z1, rfl⟩)
    | (go_at_call 63; (with_reducible refine (Hpb.out _ (Hr.out.ext (by repeat' (first | exact Ext.refl _ | assumption | refine Ext.alloc ?_ _ | refine Ext.ext ?_ _ | refine Ext.drew ?_ | refine Ext.drewN ?_ _)))).mono ?_); rintro e w' ⟨r1, rfl, ho1, z2, rfl⟩)
    | (go_at_call 63; (with_reducible refine (Hpa.out _ (Hr.out.ext (by repeat' (first | exact Ext.refl _ | assumption | refine Ext.alloc ?_ _ | refine Ext.ext ?_ _ | refine Ext.drew ?_ | refine Ext.drewN ?_ _)))).mono ?_); rintro e w' ⟨r2, rfl, ho2, z3, rfl⟩; obtain ⟨p2, c2, rfl⟩ := own_shape ho2))
  have hX1 : Ext w (((((w.alloc (.cells #[v] 26)).alloc (.cells #[.int .i64 a, .int .i64 b] 3)).ext z1).ext z2).ext z3) := (by repeat' (first | exact Ext.refl _ | assumption | refine Ext.alloc ?_ _ | refine Ext.ext ?_ _ | refine Ext.drew ?_ | refine Ext.drewN ?_ _))
  have hr1 := (Rd.own ho1).ext (show Ext _ _ from ⟨z3, rfl⟩)
  have hr2 := Rd.own ho2
  generalize hW : ((((w.alloc (.cells #[v] 26)).alloc (.cells #[.int .i64 a, .int .i64 b] 3)).ext z1).ext z2).ext z3 = W at *
  have R1 := hid hr1
  have R2 := hid hr2
  clear hr1 hr2 ho1 ho2 hW
  go_loopw [25, 9] (fun v25 v9 wr => ∃ k : Nat, k ≤ P.length ∧ v25 = .int .i64 k ∧ v9 = .int .i64 (meetTo P Q k) ∧ Ext W wr) (fun v25 _ _ => P.length - (intOf v25).toNat)
  case atStart => exact ⟨0, Nat.zero_le _, rfl, rfl, Ext.refl _⟩
  case round =>
    obtain ⟨k, hk, rfl, rfl, z, rfl⟩ := hrel
    by_cases hlt : k < P.length
    · obtain ⟨-, p3, c3, e3, q4⟩ := R2.out
      cases e3
      obtain ⟨bb, off, rfl, q6⟩ := q4.resolve_left (by omega)
      have d0 := elem1 (Value.int .i64) 0 P q6 k hlt
      have hsn : meetTo P Q (k + 1) = if Q.contains (P.getD k 0) then P.getD k 0 else meetTo P Q k := rfl
      have hc := fun w h => Hct.out r1 (P.getD k 0) w h
      generalize P.getD k 0 = x at d0 hsn hc
      clear q4 q6
      cases hq : Q.contains x
      all_goals
        rw [hq] at hsn hc
        have Hsn := hid hsn
        have Hc := hid hc
        clear hsn hc hq
        go_wp2_with (go_at_call 95; refine (Hc.out _ (R1.out.ext (by repeat' (first | exact Ext.refl _ | assumption | refine Ext.alloc ?_ _ | refine Ext.ext ?_ _ | refine Ext.drew ?_ | refine Ext.drewN ?_ _)))).mono ?_; rintro e w' ⟨rfl, rfl⟩)
        go_roundw
        case rel => exact ⟨k + 1, by omega, by go_num, by rw [Hsn.out]; rfl, (by repeat' (first | exact Ext.refl _ | assumption | refine Ext.alloc ?_ _ | refine Ext.ext ?_ _ | refine Ext.drew ?_ | refine Ext.drewN ?_ _))⟩
        case measure => simp [intOf]; omega
    · obtain rfl : k = P.length := by omega
      rw [← Hm.out]
      go_wp2
      go_ret2
      exact ⟨rfl, hX1.trans (by repeat' (first | exact Ext.refl _ | assumption | refine Ext.alloc ?_ _ | refine Ext.ext ?_ _ | refine Ext.drew ?_ | refine Ext.drewN ?_ _))⟩
theorem impl_delayBetween (ps ls ds : List Int) (v u u' : Value) (a b : Int) (w : World) (h : Rd w 1 v ps.length (vInts ps)) (k : Rd w 1 u' ds.length (vInts ds)) (hg : goodC ps ls ds = true) (ha : 0 ≤ a ∧ a < ps.length) (hb : 0 ≤ b ∧ b < ps.length) :
    Calls Try.prog 42 #[.agg #[u, u'], .agg #[v], .int .i64 a, .int .i64 b] w fun e w' => e = .returned (.int .i64 (btw ps ds a b)) ∧ Ext w w' := by
  have hT := (goodC_all hg).1
  have hM := fun w h => impl_MeetingNode ps v a b w h hT ha hb
  have hmi := meet_in hT ha hb
  have b1 := del_bd hg ha.2
  have b2 := del_bd hg hb.2
  have b3 := del_bd hg hmi.2
  have hbt : btw ps ds a b = del ps ds a + del ps ds b - 2 * del ps ds (meet ps a b) := rfl
  generalize meet ps a b = m at *
  have hd := fun x w' (hx : 0 ≤ x ∧ x < (ps.length : Int)) (e : Ext w w') => impl_delayTo ps ls ds v u u' x w' (h.ext e) (k.ext e) hg (by omega) hx.2
  have HM := hid hM
  have Hd := hid hd
  have Hr := hid h
  have Hbt := hid hbt
  clear hM hd h k hg hT hbt
  go_enter Try.func42, Try.ntmps42
  go_wp2_with (go_at_call 80; refine (HM.out _ (Hr.out.ext (by repeat' (first | exact Ext.refl _ | assumption | refine Ext.alloc ?_ _ | refine Ext.ext ?_ _ | refine Ext.drew ?_ | refine Ext.drewN ?_ _)))).mono ?_; rintro e w' ⟨rfl, z1, rfl⟩)
  refine wp_region_ext (by kernel_rfl) (by kernel_rfl) ?_
  repeat (go_big_quiet_step ((first | (go_at_call 46; exact Calls.quiet_ext (Hd.out _ _ (by first | exact ha | exact hb | exact hmi) (by repeat' (first | exact Ext.refl _ | assumption | refine Ext.alloc ?_ _ | refine Ext.ext ?_ _ | refine Ext.drew ?_ | refine Ext.drewN ?_ _)))))))
  refine wpQuiet_nil ?_
  rintro _ ⟨zq, rfl⟩
  go_wp2
  go_ret
  exact ⟨by rw [Hbt.out]; rfl, (by repeat' (first | exact Ext.refl _ | assumption | refine Ext.alloc ?_ _ | refine Ext.ext ?_ _ | refine Ext.drew ?_ | refine Ext.drewN ?_ _))⟩
theorem impl_DelayBetween (ps ls ds : List Int) (v u u' : Value) (a b : Int) (w : World) (h : Rd w 1 v ps.length (vInts ps)) (k : Rd w 1 u ls.length (vInts ls)) (l : Rd w 1 u' ds.length (vInts ds))
    (h2 : ps.length ≤ 1048576) (k2 : ls.length ≤ 1048576) (l2 : ds.length ≤ 1048576) :
    Calls Try.prog 7 #[.agg #[v], .agg #[u, u'], .int .i64 a, .int .i64 b] w fun e w' => e = .returned (.tuple #[.int .i64 (betweenN ps ls ds a b), .bool (hasC2 ps ls ds a b)]) ∧ Ext w w' := by
  have Hr := hid h
  have Kr := hid k
  have Lr := hid l
  clear h k l
  have hc : Hid (∀ (v u u' y : Value) (w : World), Rd w 1 v ps.length (vInts ps) → Rd w 1 u ls.length (vInts ls) → Rd w 1 u' ds.length (vInts ds) → Rd w 1 y 2 [.int .i64 a, .int .i64 b] →
      Calls Try.prog 41 #[.agg #[v], .agg #[u, u'], y] w fun e w' => e = .returned (.bool (hasC2 ps ls ds a b)) ∧ Ext w w') :=
    fun v u u' y w h k l m => by
      have := impl_hasCosts ps ls ds [a, b] v u u' y w h k l m h2 k2 l2 (by simp)
      rw [nodesIn_two] at this
      exact this
  have hlit : Rd (((w.alloc (.cells #[v] 26)).alloc (.cells #[u, u'] 28)).alloc (.cells #[.int .i64 a, .int .i64 b] 3)) 1 (.slice (some ⟨w.heap.size + 1 + 1, 0, none⟩) 2 2) 2 [.int .i64 a, .int .i64 b] := by
    simpa using rd_lit ((w.alloc (.cells #[v] 26)).alloc (.cells #[u, u'] 28)) #[.int .i64 a, .int .i64 b]
  have Hlit := hid hlit; clear hlit
  cases hg : hasC2 ps ls ds a b
  · rw [hg] at hc
    have Hg := hid hg
    go_enter Try.func7, Try.ntmps7
    go_wp2_with (go_at_call 41; refine (hc.out _ _ _ _ _ (Hr.out.ext (by repeat' (first | exact Ext.refl _ | assumption | refine Ext.alloc ?_ _ | refine Ext.ext ?_ _ | refine Ext.drew ?_ | refine Ext.drewN ?_ _))) (Kr.out.ext (by repeat' (first | exact Ext.refl _ | assumption | refine Ext.alloc ?_ _ | refine Ext.ext ?_ _ | refine Ext.drew ?_ | refine Ext.drewN ?_ _))) (Lr.out.ext (by repeat' (first | exact Ext.refl _ | assumption | refine Ext.alloc ?_ _ | refine Ext.ext ?_ _ | refine Ext.drew ?_ | refine Ext.drewN ?_ _))) Hlit.out).mono ?_; rintro e w' ⟨rfl, z1, rfl⟩)
    go_ret2
    rw [between_no Hg.out]
    exact ⟨rfl, (by repeat' (first | exact Ext.refl _ | assumption | refine Ext.alloc ?_ _ | refine Ext.ext ?_ _ | refine Ext.drew ?_ | refine Ext.drewN ?_ _))⟩
  · rw [hg] at hc
    have Hg := hid hg
    obtain ⟨h3, h4, h5⟩ := hasC2_iff hg
    have hd := fun v u u' w h k => impl_delayBetween ps ls ds v u u' a b w h k h3 h4 h5
    have Hd := hid hd; clear hd h3 h4 h5
    go_enter Try.func7, Try.ntmps7
    go_wp2_with (first | (go_at_call 41; refine (hc.out _ _ _ _ _ (Hr.out.ext (by repeat' (first | exact Ext.refl _ | assumption | refine Ext.alloc ?_ _ | refine Ext.ext ?_ _ | refine Ext.drew ?_ | refine Ext.drewN ?_ _))) (Kr.out.ext (by repeat' (first | exact Ext.refl _ | assumption | refine Ext.alloc ?_ _ | refine Ext.ext ?_ _ | refine Ext.drew ?_ | refine Ext.drewN ?_ _))) (Lr.out.ext (by repeat' (first | exact Ext.refl _ | assumption | refine Ext.alloc ?_ _ | refine Ext.ext ?_ _ | refine Ext.drew ?_ | refine Ext.drewN ?_ _))) Hlit.out).mono ?_; rintro e w' ⟨rfl, z1, rfl⟩) | (go_at_call 42; refine (Hd.out _ _ _ _ (Hr.out.ext (by repeat' (first | exact Ext.refl _ | assumption | refine Ext.alloc ?_ _ | refine Ext.ext ?_ _ | refine Ext.drew ?_ | refine Ext.drewN ?_ _))) (Lr.out.ext (by repeat' (first | exact Ext.refl _ | assumption | refine Ext.alloc ?_ _ | refine Ext.ext ?_ _ | refine Ext.drew ?_ | refine Ext.drewN ?_ _)))).mono ?_; rintro e w' ⟨rfl, z1, rfl⟩))
    go_ret2
    rw [between_yes Hg.out]
    exact ⟨rfl, (by repeat' (first | exact Ext.refl _ | assumption | refine Ext.alloc ?_ _ | refine Ext.ext ?_ _ | refine Ext.drew ?_ | refine Ext.drewN ?_ _))⟩
theorem spec_l22Between (ps ls ds : List Int) (v u u' : Value) (a b : Int) (w : World) (h : Rd w 1 v ps.length (vInts ps)) (k : Rd w 1 u' ds.length (vInts ds)) (hg : goodC ps ls ds = true) (ha : 0 ≤ a ∧ a < ps.length) (hb : 0 ≤ b ∧ b < ps.length) :
    Calls Try.prog 45 #[.agg #[v], .agg #[u, u'], .int .i64 a, .int .i64 b] w fun e w' => e = .returned (.int .i64 (btw ps ds a b)) ∧ Ext w w' := by
  have hT := (goodC_all hg).1
  have hmi := meet_in hT ha hb
  have b1 := del_bd hg ha.2
  have b2 := del_bd hg hb.2
  have b3 := del_bd hg hmi.2
  have hbt : btw ps ds a b = del ps ds a + del ps ds b - 2 * del ps ds (meet ps a b) := rfl
  have hpa := fun w h => spec_l6Path ps v a w h hT (by omega) ha.2
  have hpb := fun w h => spec_l6Path ps v b w h hT (by omega) hb.2
  have hm : meet ps a b = meetTo (path ps a) (path ps b) (path ps a).length := rfl
  have hla := path_len hT ha.2
  have hlb := path_len hT hb.2
  generalize meet ps a b = m at *
  have hd := fun x w' (hx : 0 ≤ x ∧ x < (ps.length : Int)) (e : Ext w w') => spec_l22Delay ps ls ds v u u' x w' (h.ext e) (k.ext e) hg (by omega) hx.2
  generalize path ps a = P at *
  generalize path ps b = Q at *
  have hct := fun (v : Value) (x : Int) (w : World) (h : Rd w 1 v Q.length (vInts Q)) => spec_l1Has Q v x w h (by omega)
  have Hpa := hid hpa
  have Hpb := hid hpb
  have Hm := hid hm
  have Hd := hid hd
  have Hr := hid h
  have Hbt := hid hbt
  have Hct := hid hct
  clear hpa hpb hm hd h k hg hT hbt hct
  go_enter Try.func45, Try.ntmps45
  go_wp2
  have b0 : ((w.alloc (.cells #[v] 26)).alloc (.cells #[u, u'] 28)).cell? ⟨w.heap.size, 0, none⟩ = some v := by rw [cell_of_row _ _ 0 _ _ (0, 0) (heap_old (heap_at _ rfl) _)]; rfl
  have b1 : ((w.alloc (.cells #[v] 26)).alloc (.cells #[u, u'] 28)).cell? ⟨w.heap.size + 1, 0, none⟩ = some u := by rw [cell_of_row _ _ 0 _ _ (0, 0) (heap_at _ (by simp))]; rfl
  have b2 : ((w.alloc (.cells #[v] 26)).alloc (.cells #[u, u'] 28)).cell? ⟨w.heap.size + 1, 1, none⟩ = some u' := by rw [cell_of_row _ _ 1 _ _ (0, 0) (heap_at _ (by simp))]; rfl
  have XB : Ext w ((w.alloc (.cells #[v] 26)).alloc (.cells #[u, u'] 28)) := (by repeat' (first | exact Ext.refl _ | assumption | refine Ext.alloc ?_ _ | refine Ext.ext ?_ _ | refine Ext.drew ?_ | refine Ext.drewN ?_ _))
  generalize ((w.alloc (.cells #[v] 26)).alloc (.cells #[u, u'] 28)) = w0 at *
  have X1 : Ext w w0.drew := XB.drew
  have c0 := (Ext.refl w0).drew.cell b0
  have c1 := (Ext.refl w0).drew.cell b1
  have c2 := (Ext.refl w0).drew.cell b2
  go_region_held3 (fun w' => w'.cell? ⟨w.heap.size, 0, none⟩ = some v ∧ w'.cell? ⟨w.heap.size + 1, 0, none⟩ = some u ∧ w'.cell? ⟨w.heap.size + 1, 1, none⟩ = some u') (first | exact ⟨b0, b1, b2⟩ | exact ⟨c0, c1, c2⟩ | exact ⟨d0, d1, d2⟩ | exact ⟨e0, e1, e2⟩)
    (first | (go_at_call 61; (with_reducible refine (Hpa.out _ (Hr.out.ext X1)).mono ?_); rintro e w1 ⟨r1, rfl, ho1, hx1⟩; have d0 := hx1.cell c0; have d1 := hx1.cell c1; have d2 := hx1.cell c2) | (go_at_call 61; (with_reducible refine (Hpb.out _ (Hr.out.ext (X1.trans hx1))).mono ?_); rintro e w2 ⟨r2, rfl, ho2, hx2⟩; have e0 := hx2.cell d0; have e1 := hx2.cell d1; have e2 := hx2.cell d2))
  have X2 := X1.trans (hx1.trans hx2)
  have hr1 := (Rd.own ho1).ext hx2
  have hr2 := Rd.own ho2
  obtain ⟨p1, cc1, rfl⟩ := own_shape ho1
  have R1 := hid hr1
  have R2 := hid hr2
  have D := hid (And.intro e0 (And.intro e1 e2))
  clear hr1 hr2 ho1 ho2 hx1 hx2 X1 XB e0 e1 e2 d0 d1 d2 c0 c1 c2 b0 b1 b2
  go_wp2
  go_loopw [12, 11] (fun v12 v11 wr => ∃ k : Nat, k ≤ P.length ∧ v12 = .int .i64 k ∧ v11 = .int .i64 (meetTo P Q k) ∧ Ext w2 wr) (fun v12 _ _ => P.length - (intOf v12).toNat)
  case atStart => exact ⟨0, Nat.zero_le _, rfl, rfl, Ext.refl _⟩
  case round =>
    obtain ⟨k, hk, rfl, rfl, z, rfl⟩ := hrel
    by_cases hlt : k < P.length
    · obtain ⟨-, p3, c3, e3, q4⟩ := R1.out
      cases e3
      obtain ⟨bb, off, rfl, q6⟩ := q4.resolve_left (by omega)
      have d0 := elem1 (Value.int .i64) 0 P q6 k hlt
      have hsn : meetTo P Q (k + 1) = if Q.contains (P.getD k 0) then P.getD k 0 else meetTo P Q k := rfl
      have hc := fun w h => Hct.out r2 (P.getD k 0) w h
      generalize P.getD k 0 = x at d0 hsn hc
      clear q4 q6
      cases hq : Q.contains x
      all_goals
        rw [hq] at hsn hc
        have Hsn := hid hsn
        have Hc := hid hc
        clear hsn hc hq
        go_wp2_with (go_at_call 82; refine (Hc.out _ (R2.out.ext (by repeat' (first | exact Ext.refl _ | assumption | refine Ext.alloc ?_ _ | refine Ext.ext ?_ _ | refine Ext.drew ?_ | refine Ext.drewN ?_ _)))).mono ?_; rintro e w' ⟨rfl, z1, rfl⟩)
        go_roundw
        case rel => exact ⟨k + 1, by omega, by go_num, by rw [Hsn.out]; rfl, (by repeat' (first | exact Ext.refl _ | assumption | refine Ext.alloc ?_ _ | refine Ext.ext ?_ _ | refine Ext.drew ?_ | refine Ext.drewN ?_ _))⟩
        case measure => simp [intOf]; omega
    · obtain rfl : k = P.length := by omega
      rw [← Hm.out]
      have d0 := D.out.1
      have d1 := D.out.2.1
      have d2 := D.out.2.2
      go_wp2
      refine wp_region_ext (by kernel_rfl) (by kernel_rfl) ?_
      repeat (go_big_quiet_step ((first | (go_at_call 57; exact Calls.quiet_ext (Hd.out _ _ (by first | exact ha | exact hb | exact hmi) (X2.trans (by repeat' (first | exact Ext.refl _ | assumption | refine Ext.alloc ?_ _ | refine Ext.ext ?_ _ | refine Ext.drew ?_ | refine Ext.drewN ?_ _))))))))
      refine wpQuiet_nil ?_
      rintro _ ⟨zq, rfl⟩
      go_wp2
      go_ret
      exact ⟨by rw [Hbt.out]; rfl, X2.trans (by repeat' (first | exact Ext.refl _ | assumption | refine Ext.alloc ?_ _ | refine Ext.ext ?_ _ | refine Ext.drew ?_ | refine Ext.drewN ?_ _))⟩
theorem spec_DelayBetween (ps ls ds : List Int) (v u u' : Value) (a b : Int) (w : World) (h : Rd w 1 v ps.length (vInts ps)) (k : Rd w 1 u ls.length (vInts ls)) (l : Rd w 1 u' ds.length (vInts ds))
    (h2 : ps.length ≤ 1048576) (k2 : ls.length ≤ 1048576) (l2 : ds.length ≤ 1048576) :
    Calls Try.prog 8 #[.agg #[v], .agg #[u, u'], .int .i64 a, .int .i64 b] w fun e w' => e = .returned (.tuple #[.int .i64 (betweenN ps ls ds a b), .bool (hasC2 ps ls ds a b)]) ∧ Ext w w' := by
  have Hr := hid h
  have Kr := hid k
  have Lr := hid l
  clear h k l
  have hc : Hid (∀ (v u u' : Value) (w : World), Rd w 1 v ps.length (vInts ps) → Rd w 1 u ls.length (vInts ls) → Rd w 1 u' ds.length (vInts ds) →
      Calls Try.prog 43 #[.agg #[v], .agg #[u, u'], .int .i64 a] w fun e w' => e = .returned (.bool (goodC ps ls ds && isNode ps.length a)) ∧ Ext w w') :=
    fun v u u' w h k l => spec_l22Node ps ls ds v u u' a w h k l h2 k2 l2
  have hn : Hid (∀ (v : Value) (w : World), Rd w 1 v ps.length (vInts ps) → Calls Try.prog 44 #[.agg #[v], .int .i64 b] w fun e w' => e = .returned (.bool (goodT ps && isNode ps.length b)) ∧ Ext w w') :=
    fun v w h => spec_l6Node ps v b w h h2
  have hdef : hasC2 ps ls ds a b = (goodC ps ls ds && (isNode ps.length a && isNode ps.length b)) := rfl
  cases hg : goodC ps ls ds && isNode ps.length a
  · have hno : hasC2 ps ls ds a b = false := by rw [hdef, ← Bool.and_assoc, hg]; rfl
    rw [hg] at hc
    rw [hno, between_no hno]
    clear hno hdef hg
    go_enter Try.func8, Try.ntmps8
    go_wp2_with (go_at_call 43; refine (hc.out _ _ _ _ (Hr.out.ext (by repeat' (first | exact Ext.refl _ | assumption | refine Ext.alloc ?_ _ | refine Ext.ext ?_ _ | refine Ext.drew ?_ | refine Ext.drewN ?_ _))) (Kr.out.ext (by repeat' (first | exact Ext.refl _ | assumption | refine Ext.alloc ?_ _ | refine Ext.ext ?_ _ | refine Ext.drew ?_ | refine Ext.drewN ?_ _))) (Lr.out.ext (by repeat' (first | exact Ext.refl _ | assumption | refine Ext.alloc ?_ _ | refine Ext.ext ?_ _ | refine Ext.drew ?_ | refine Ext.drewN ?_ _)))).mono ?_; rintro e w' ⟨rfl, z1, rfl⟩)
    go_ret2
    exact ⟨rfl, (by repeat' (first | exact Ext.refl _ | assumption | refine Ext.alloc ?_ _ | refine Ext.ext ?_ _ | refine Ext.drew ?_ | refine Ext.drewN ?_ _))⟩
  · have hC := Bool.and_eq_true_iff.1 hg
    rw [(goodC_all hC.1).1] at hn
    cases hb : isNode ps.length b
    · have hno : hasC2 ps ls ds a b = false := by rw [hdef, ← Bool.and_assoc, hg, hb]; rfl
      rw [hg] at hc
      rw [hb] at hn
      rw [hno, between_no hno]
      clear hno hdef hg hC hb
      go_enter Try.func8, Try.ntmps8
      go_wp2_with (first | (go_at_call 43; refine (hc.out _ _ _ _ (Hr.out.ext (by repeat' (first | exact Ext.refl _ | assumption | refine Ext.alloc ?_ _ | refine Ext.ext ?_ _ | refine Ext.drew ?_ | refine Ext.drewN ?_ _))) (Kr.out.ext (by repeat' (first | exact Ext.refl _ | assumption | refine Ext.alloc ?_ _ | refine Ext.ext ?_ _ | refine Ext.drew ?_ | refine Ext.drewN ?_ _))) (Lr.out.ext (by repeat' (first | exact Ext.refl _ | assumption | refine Ext.alloc ?_ _ | refine Ext.ext ?_ _ | refine Ext.drew ?_ | refine Ext.drewN ?_ _)))).mono ?_; rintro e w' ⟨rfl, z1, rfl⟩) | (go_at_call 44; refine (hn.out _ _ (Hr.out.ext (by repeat' (first | exact Ext.refl _ | assumption | refine Ext.alloc ?_ _ | refine Ext.ext ?_ _ | refine Ext.drew ?_ | refine Ext.drewN ?_ _)))).mono ?_; rintro e w' ⟨rfl, z1, rfl⟩))
      go_ret2
      exact ⟨rfl, (by repeat' (first | exact Ext.refl _ | assumption | refine Ext.alloc ?_ _ | refine Ext.ext ?_ _ | refine Ext.drew ?_ | refine Ext.drewN ?_ _))⟩
    · have hyes : hasC2 ps ls ds a b = true := by rw [hdef, ← Bool.and_assoc, hg, hb]; rfl
      have hd := fun v u u' w h k => spec_l22Between ps ls ds v u u' a b w h k hC.1 (isNode_iff.1 hC.2) (isNode_iff.1 hb)
      have Hd := hid hd
      rw [hg] at hc
      rw [hb] at hn
      rw [hyes, between_yes hyes]
      clear hyes hdef hg hC hb hd
      go_enter Try.func8, Try.ntmps8
      go_wp2_with (first | (go_at_call 43; refine (hc.out _ _ _ _ (Hr.out.ext (by repeat' (first | exact Ext.refl _ | assumption | refine Ext.alloc ?_ _ | refine Ext.ext ?_ _ | refine Ext.drew ?_ | refine Ext.drewN ?_ _))) (Kr.out.ext (by repeat' (first | exact Ext.refl _ | assumption | refine Ext.alloc ?_ _ | refine Ext.ext ?_ _ | refine Ext.drew ?_ | refine Ext.drewN ?_ _))) (Lr.out.ext (by repeat' (first | exact Ext.refl _ | assumption | refine Ext.alloc ?_ _ | refine Ext.ext ?_ _ | refine Ext.drew ?_ | refine Ext.drewN ?_ _)))).mono ?_; rintro e w' ⟨rfl, z1, rfl⟩) | (go_at_call 44; refine (hn.out _ _ (Hr.out.ext (by repeat' (first | exact Ext.refl _ | assumption | refine Ext.alloc ?_ _ | refine Ext.ext ?_ _ | refine Ext.drew ?_ | refine Ext.drewN ?_ _)))).mono ?_; rintro e w' ⟨rfl, z1, rfl⟩) | (go_at_call 45; refine (Hd.out _ _ _ _ (Hr.out.ext (by repeat' (first | exact Ext.refl _ | assumption | refine Ext.alloc ?_ _ | refine Ext.ext ?_ _ | refine Ext.drew ?_ | refine Ext.drewN ?_ _))) (Lr.out.ext (by repeat' (first | exact Ext.refl _ | assumption | refine Ext.alloc ?_ _ | refine Ext.ext ?_ _ | refine Ext.drew ?_ | refine Ext.drewN ?_ _)))).mono ?_; rintro e w' ⟨rfl, z1, rfl⟩))
      go_ret2
      exact ⟨rfl, (by repeat' (first | exact Ext.refl _ | assumption | refine Ext.alloc ?_ _ | refine Ext.ext ?_ _ | refine Ext.drew ?_ | refine Ext.drewN ?_ _))⟩
end Go.Proofs.Ytppdbnopgcjgjaa
