/- An element of a capture parsed: the program's side. -/
import Derived.Test.YtljknhocfjpolaaGreatDoorKWDp
import Derived.Test.YtljknhocfjpolaaGreatDoorJ10
import Derived.Test.YtljknhocfjpolaaGreatDoorJ37
import Derived.Test.YtljknhocfjpolaaGreatDoorJ28
import Derived.Shelf.Strings.Prefix
namespace Go.Proofs.YtljknhocfjpolaaGreatDoor
open Go.RowKit
set_option maxHeartbeats 2000000
set_option maxRecDepth 100000
def trN (s : ByteArray) : ByteArray := mkS (Lib.trimSuffix s.data.toList [10])
theorem trN_size (s : ByteArray) : (trN s).size ≤ s.size := by
  have e : s.data.toList.length = s.size := by simp
  rw [trN, mkS_size, Lib.trimSuffix]
  split
  · rw [List.length_take]; omega
  · omega
theorem trN_cap (s : ByteArray) : trN (s ++ ⟨#[10]⟩) = s := by
  have hd : (s ++ (⟨#[10]⟩ : ByteArray)).data.toList = s.data.toList ++ [10] := by simp [ByteArray.data_append]
  have hs : Lib.hasSuffix (s.data.toList ++ [10]) [10] = true := by
    rw [Lib.hasSuffix, List.isSuffixOf_iff_suffix]
    exact List.suffix_append _ _
  rw [trN, hd, Lib.trimSuffix, if_pos hs, List.length_append, Nat.add_sub_cancel, List.take_left, mkS_of]
theorem pIs_two (a b : ByteArray) : (pIs [a, b]).isSome = ((pI a).isSome && (pI b).isSome) ∧ ((pIs [a, b]).isSome = true → (pIs [a, b]).getD [] = [(pI a).getD 0, (pI b).getD 0]) := by
  rw [pIs, pIs, pIs]
  cases pI a with
  | none => exact ⟨rfl, fun h => by cases h⟩
  | some x =>
    cases pI b with
    | none => exact ⟨rfl, fun h => by cases h⟩
    | some y => exact ⟨rfl, fun _ => rfl⟩
theorem box8_set {w : World} {B t : Nat} {a b c d e f g k : Value} (h : w.heap[B]? = some (.cells #[a, b, c, d, e, f, g, k] t (0, 0))) (a' b' c' d' e' f' g' k' : Value) :
    ((((((((w.setCell ⟨B, 0, none⟩ a').setCell ⟨B, 1, none⟩ b').setCell ⟨B, 2, none⟩ c').setCell ⟨B, 3, none⟩ d').setCell ⟨B, 4, none⟩ e').setCell ⟨B, 5, none⟩ f').setCell ⟨B, 6, none⟩ g').setCell ⟨B, 7, none⟩ k').heap[B]? = some (.cells #[a', b', c', d', e', f', g', k'] t (0, 0)) := by
  have h1 := heap_setCell_same _ B 0 _ t a' h
  have h2 := heap_setCell_same _ B 1 _ t b' h1
  have h3 := heap_setCell_same _ B 2 _ t c' h2
  have h4 := heap_setCell_same _ B 3 _ t d' h3
  have h5 := heap_setCell_same _ B 4 _ t e' h4
  have h6 := heap_setCell_same _ B 5 _ t f' h5
  have h7 := heap_setCell_same _ B 6 _ t g' h6
  have h8 := heap_setCell_same _ B 7 _ t k' h7
  simpa using h8
theorem Ext.set8 {w0 w : World} {B : Nat} (h : Ext w0 w) (hB : w0.heap.size ≤ B) (a' b' c' d' e' f' g' k' : Value) :
    Ext w0 ((((((((w.setCell ⟨B, 0, none⟩ a').setCell ⟨B, 1, none⟩ b').setCell ⟨B, 2, none⟩ c').setCell ⟨B, 3, none⟩ d').setCell ⟨B, 4, none⟩ e').setCell ⟨B, 5, none⟩ f').setCell ⟨B, 6, none⟩ g').setCell ⟨B, 7, none⟩ k') :=
  (((((((h.setCell hB _).setCell hB _).setCell hB _).setCell hB _).setCell hB _).setCell hB _).setCell hB _).setCell hB _
def ren102 : Go.Shelf.Ren := ⟨fun x => if x = 102 then 87 else if x = 207 then 139 else if x = 209 then 118 else x, fun x => if x = 3 then 3 else if x = 4 then 4 else if x = 9 then 9 else x, fun x => x⟩
theorem lays102 : Go.Proofs.Lays.n102 Tryz.prog ren102 := by constructor <;> first | kernel_rfl | (intro w; kernel_rfl)
theorem strings_TrimSuffix (s : ByteArray) (w : World) (h : s.size ≤ 1048576) :
    Calls Tryz.prog 87 #[.string s, .string ⟨#[10]⟩] w fun e w' => e = .returned (.string (trN s)) ∧ w = w' :=
  (Any.strings_TrimSuffix lays102 s ⟨#[10]⟩ w (by omega)).mono fun _ _ ⟨h, e⟩ => ⟨h, e.symm⟩
theorem rdS_at2 {W : World} {b n c : Nat} {L : List ByteArray} (h : Rd W 1 (.slice (some ⟨b, 0, none⟩) n c) L.length (vStrs L)) (i : Nat) (hi : i < L.length) : W.cell? ⟨b, i, none⟩ = some (.string (L.getD i ByteArray.empty)) := by
  obtain ⟨-, p, cap, e, h4⟩ := h
  cases e
  obtain ⟨b', o', e2, h6⟩ := h4.resolve_left (by omega)
  cases e2
  have := elem1 Value.string ByteArray.empty L h6 i hi
  rwa [Nat.zero_add] at this
theorem impl_parseCaptured (s : ByteArray) (w : World) (hv : Vrs w) (ht : Tab w) (h : s.size ≤ 1048576) :
    Calls Tryz.prog 42 #[.string s] w fun e w' => ∃ x : Cap, e = .returned (.tuple #[.agg x.cs.toArray, .bool (wdB (splS (trN s) 32))]) ∧ (wdB (splS (trN s) 32) = true → x = wdX (splS (trN s) 32)) ∧ x.d.size ≤ s.size ∧ Ext w w' := by
  have hts := trN_size s
  have ct := hid (fun w => strings_TrimSuffix s w h)
  have cs := hid (fun w hv => strings_Split (trN s) 32 w hv (by omega))
  have hat := fun i (hi : i < (splS (trN s) 32).length) => splS_at (s := trN s) i hi
  have Hv := hid hv
  have Ht := hid ht
  have hR0 : Hid (Ext w (w.alloc (.cells #[.int .i64 0, .int .i64 0, .bool false, .int .i64 0, .int .i64 0, .int .i64 0, .int .i64 0, .string ⟨#[]⟩] 48)) ∧ (w.alloc (.cells #[.int .i64 0, .int .i64 0, .bool false, .int .i64 0, .int .i64 0, .int .i64 0, .int .i64 0, .string ⟨#[]⟩] 48)).heap[w.heap.size]? = some (.cells #[.int .i64 0, .int .i64 0, .bool false, .int .i64 0, .int .i64 0, .int .i64 0, .int .i64 0, .string ⟨#[]⟩] 48 (0, 0))) := ⟨(by repeat' (first | exact Ext.refl _ | assumption | refine Ext.alloc ?_ _ | refine Ext.ext ?_ _ | refine Ext.drew ?_ | refine Ext.drewN ?_ _)), heap_at _ rfl⟩
  clear hv ht
  generalize splS (trN s) 32 = W at *
  generalize trN s = T at *
  go_enter Tryz.func42, Tryz.ntmps42
  go_wp2_with fail
  generalize w.alloc (.cells #[.int .i64 0, .int .i64 0, .bool false, .int .i64 0, .int .i64 0, .int .i64 0, .int .i64 0, .string ⟨#[]⟩] 48) = W0 at *
  go_at_call 87
  refine (ct.out _).mono ?_
  rintro e w' ⟨rfl, rfl⟩
  go_wp2_with fail
  go_at_call 86
  refine (cs.out _ (Hv.out.ext (hR0.out.1.trans (by repeat' (first | exact Ext.refl _ | assumption | refine Ext.alloc ?_ _ | refine Ext.ext ?_ _ | refine Ext.drew ?_ | refine Ext.drewN ?_ _))))).mono ?_
  rintro e w1 ⟨rfl, hr, hx⟩
  have H1 := hid (And.intro (hR0.out.1.trans hx) (blk_ext hR0.out.2 hx))
  have H1R := hid hr
  clear hx hr hR0 cs ct
  generalize W0.heap.size = Q at *
  by_cases h4 : W.length = 4
  · rw [h4]
    have cx := fun i (hi : i < W.length) => rdS_at2 H1R.out i hi
    have a0 := cx 0 (by omega)
    have a1 := cx 1 (by omega)
    have a2 := cx 2 (by omega)
    have a3 := cx 3 (by omega)
    have z0 := hat 0 (by omega)
    have z1 := hat 1 (by omega)
    have z3 := hat 3 (by omega)
    have hBd : wdB W = ((pI (W.getD 0 ByteArray.empty)).isSome && ((pI (W.getD 1 ByteArray.empty)).isSome && DPb (W.getD 3 ByteArray.empty))) := by rw [wdB, decide_eq_true h4, Bool.true_and]
    have hXd : wdX W = ⟨(pI (W.getD 0 ByteArray.empty)).getD 0, (pI (W.getD 1 ByteArray.empty)).getD 0, decide (W.getD 2 ByteArray.empty = upT), pkC (ocs (W.getD 3 ByteArray.empty)), pkM (ocs (W.getD 3 ByteArray.empty)), pkR (ocs (W.getD 3 ByteArray.empty)), pkE (ocs (W.getD 3 ByteArray.empty)), pkD (ocs (W.getD 3 ByteArray.empty))⟩ := rfl
    clear cx H1R hat
    generalize W.getD 0 ByteArray.empty = S0 at *
    generalize W.getD 1 ByteArray.empty = S1 at *
    generalize W.getD 2 ByteArray.empty = S2 at *
    generalize W.getD 3 ByteArray.empty = S3 at *
    have hp2 := pIs_two S0 S1
    rw [← Bool.and_assoc, ← hp2.1] at hBd
    have hl2 : (pIs [S0, S1]).isSome = true → ((pIs [S0, S1]).getD []).length = 2 := fun h => by rw [hp2.2 h]; rfl
    have hP2 := hid hp2.2
    have HBd := hid hBd
    have HXd := hid hXd
    have HL2 := hid hl2
    clear hp2 hBd hXd hl2 h4
    have hr2 : Rd w1 1 (.slice (some ⟨Q, 0, none⟩) 2 4) 2 (vStrs [S0, S1]) := ⟨rfl, _, _, rfl, .inr ⟨Q, 0, rfl, fun j hj => by
      rw [Nat.zero_add]
      match j, hj with
      | 0, _ => exact a0
      | 1, _ => exact a1⟩⟩
    have cpi := hid (fun W hv ht h => impl_parseInts [S0, S1] (.slice (some ⟨Q, 0, none⟩) 2 4) W h hv ht (by show 2 ≤ _; omega) (fun i hi => by
      match i, hi with
      | 0, _ => show S0.size ≤ _; omega
      | 1, _ => show S1.size ≤ _; omega))
    go_wp2_with fail
    go_at_call 88
    refine (cpi.out _ (Hv.out.ext H1.out.1) (Ht.out.ext H1.out.1) hr2).mono ?_
    rintro e w2 ⟨r, rfl, ho, hx⟩
    have b2 := hx.cell a2
    have b3 := hx.cell a3
    have H2 := hid (And.intro (H1.out.1.trans hx) (blk_ext H1.out.2 hx))
    have H2R := hid (Rd.own ho)
    obtain ⟨rp, rc, rfl⟩ := own_shape ho
    clear hx ho H1 a0 a1 a2 a3 hr2 cpi
    have cdp := hid (fun W => impl_DecodePacket S3 W (by omega))
    go_wp2_with fail
    go_at_call 89
    refine (cdp.out _).mono ?_
    rintro e w3 ⟨pc, pm, pr, pl, pd, rfl, hpk, hpd, hx⟩
    have c2 := hx.cell b2
    have H3 := hid (And.intro (H2.out.1.trans hx) (blk_ext H2.out.2 hx))
    have H3R := hid (H2R.out.ext hx)
    have Hpk := hid hpk
    clear hx H2 H2R b2 b3 cdp hpk
    have X1 : Ext w3 (w3.alloc (.cells #[.int .i64 pc, .int .i64 pm, .int .i64 pr, .int .i64 pl, .string pd] 46)) := (by repeat' (first | exact Ext.refl _ | assumption | refine Ext.alloc ?_ _ | refine Ext.ext ?_ _ | refine Ext.drew ?_ | refine Ext.drewN ?_ _))
    have hPb : (w3.alloc (.cells #[.int .i64 pc, .int .i64 pm, .int .i64 pr, .int .i64 pl, .string pd] 46)).heap[w3.heap.size]? = some (.cells #[.int .i64 pc, .int .i64 pm, .int .i64 pr, .int .i64 pl, .string pd] 46 (0, 0)) := heap_at _ rfl
    have d2 := X1.cell c2
    have H4 := hid (And.intro (H3.out.1.trans X1) (blk_ext H3.out.2 X1))
    have H4R := hid (H3R.out.ext X1)
    have hlt : w.heap.size < w3.heap.size := (Array.getElem?_eq_some_iff.1 H3.out.2).1
    go_upto_region 6 with fail
    generalize (w3.alloc (.cells #[.int .i64 pc, .int .i64 pm, .int .i64 pr, .int .i64 pl, .string pd] 46)) = W4 at *
    generalize w3.heap.size = P at *
    clear X1 H3 H3R c2
    generalize (pIs [S0, S1]).isSome = o1 at *
    generalize DPb S3 = o2 at *
    cases o1
    · have HB := HBd
      rw [Bool.false_and] at HB
      clear HBd
      obtain ⟨⟨b0, b1, b2, b3, b4, b5, b6, b7⟩, ⟨f0, f1, f2, f3, f4, f5, f6, f7⟩, hbl⟩ := box8 H4.out.2
      go_wp2
      refine bodyPost_ret (results_ct rfl (box8_set (t := 48) H4.out.2 _ _ _ _ _ _ _ _) Tryz.underlying48 rfl (by kernel_rfl) rfl rfl) rfl ⟨.z, ?_⟩
      rw [HB.out]
      exact ⟨rfl, (fun h => by cases h), Nat.zero_le _, Ext.set8 H4.out.1 (Nat.le_refl _) _ _ _ _ _ _ _ _⟩
    cases o2
    · have HB := HBd
      rw [Bool.and_false] at HB
      clear HBd
      obtain ⟨⟨b0, b1, b2, b3, b4, b5, b6, b7⟩, ⟨f0, f1, f2, f3, f4, f5, f6, f7⟩, hbl⟩ := box8 H4.out.2
      go_wp2
      refine bodyPost_ret (results_ct rfl (box8_set (t := 48) H4.out.2 _ _ _ _ _ _ _ _) Tryz.underlying48 rfl (by kernel_rfl) rfl rfl) rfl ⟨.z, ?_⟩
      rw [HB.out]
      exact ⟨rfl, (fun h => by cases h), Nat.zero_le _, Ext.set8 H4.out.1 (Nat.le_refl _) _ _ _ _ _ _ _ _⟩
    have e := hP2.out rfl
    rw [e] at H4R
    rw [e]
    have hX := HXd.out
    obtain ⟨q1, q2, q3, q4, q5⟩ := Hpk.out rfl
    rw [← q1, ← q2, ← q3, ← q4, ← q5] at hX
    generalize (pI S0).getD 0 = v0 at *
    generalize (pI S1).getD 0 = v1 at *
    have HX := hid hX
    have HB := HBd
    clear e hX q1 q2 q3 q4 q5 hP2 HL2 Hpk HBd HXd
    simp only [List.length_cons, List.length_nil, Nat.zero_add, Nat.reduceAdd] at H4R ⊢
    obtain ⟨-, p', c', e, h4⟩ := H4R.out
    cases e
    obtain ⟨g, off, rfl, h6⟩ := h4.resolve_left (by decide)
    have e0 : W4.cell? ⟨g, off, none⟩ = some (.int .i64 v0) := h6 0 (Nat.zero_lt_succ _)
    have e1 : W4.cell? ⟨g, off + 1, none⟩ = some (.int .i64 v1) := h6 1 (Nat.lt_succ_self _)
    clear h6 h4 H4R
    obtain ⟨⟨k0, k1, k2, k3, k4⟩, -, -⟩ := box5 hPb
    obtain ⟨⟨b0, b1, b2, b3, b4, b5, b6, b7⟩, ⟨f0, f1, f2, f3, f4, f5, f6, f7⟩, hbl⟩ := box8 H4.out.2
    have hU : (S2.toList == [117, 112]) = decide (S2 = upT) := by
      have e9 : upT.toList = [117, 112] := by show (⟨#[117, 112]⟩ : ByteArray).toList = _; simp
      by_cases hu : S2 = upT
      · rw [decide_eq_true hu]
        have := str_yes hu
        rwa [e9] at this
      · rw [decide_eq_false hu]
        have := str_no hu
        rwa [e9] at this
    rw [← hU] at HX
    clear hU
    go_wp2_with fail
    go_region
    go_wp2
    refine bodyPost_ret (results_ct rfl (blk_ext (box8_set (t := 48) H4.out.2 _ _ _ _ _ _ _ _) (Ext.refl _).drew) Tryz.underlying48 rfl (by kernel_rfl) rfl rfl) rfl ⟨⟨v0, v1, S2.toList == [117, 112], pc, pm, pr, pl, pd⟩, ?_⟩
    rw [HB.out]
    exact ⟨rfl, (fun _ => HX.out.symm), by show pd.size ≤ _; omega, (Ext.set8 H4.out.1 (Nat.le_refl _) _ _ _ _ _ _ _ _).drew⟩
  · have t4 : ((W.length : Int) == 4) = false := by rw [beq_eq_false_iff_ne]; omega
    have t4' : ((W.length : Int) != 4) = true := by rw [bne, t4]; rfl
    have hB : wdB W = false := by rw [wdB, decide_eq_false h4]; rfl
    have HB := hid hB
    clear hB h4 hat
    obtain ⟨⟨b0, b1, b2, b3, b4, b5, b6, b7⟩, ⟨f0, f1, f2, f3, f4, f5, f6, f7⟩, hbl⟩ := box8 H1.out.2
    go_wp2
    refine bodyPost_ret (results_ct rfl (box8_set (t := 48) H1.out.2 _ _ _ _ _ _ _ _) Tryz.underlying48 rfl (by kernel_rfl) rfl rfl) rfl ⟨.z, ?_⟩
    rw [HB.out]
    exact ⟨rfl, (fun h => by cases h), Nat.zero_le _, Ext.set8 H1.out.1 (Nat.le_refl _) _ _ _ _ _ _ _ _⟩
end Go.Proofs.YtljknhocfjpolaaGreatDoor
