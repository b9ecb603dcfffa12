/- FnRecovery: the walk. -/
import Derived.Test.YthnfdgbmmiddlaaDoorWRcL
import Derived.Test.YthnfdgbmmiddlaaDoorWLawR
import Derived.Test.YthnfdgbmmiddlaaDoorWCurRb
import Derived.Test.YthnfdgbmmiddlaaDoorWApp
import Derived.Test.YthnfdgbmmiddlaaDoorWParOf
import Derived.Test.YthnfdgbmmiddlaaDoorWTail
import Derived.Deep.DeepCutAuto
namespace Go.Proofs.YthnfdgbmmiddlaaDoor
open Go.RowKit
set_option maxHeartbeats 4000000
set_option maxRecDepth 100000
theorem frame261 (a : Act) (v : Value) (h1 : a.defers = []) (h2 : a.tmps.size = 261) (h3 : a.tmps.getD 0 undef = v) : ∃ u : Nat → Value, a = ⟨#[v, u 1, u 2, u 3, u 4, u 5, u 6, u 7, u 8, u 9, u 10, u 11, u 12, u 13, u 14, u 15, u 16, u 17, u 18, u 19, u 20, u 21, u 22, u 23, u 24, u 25, u 26, u 27, u 28, u 29, u 30, u 31, u 32, u 33, u 34, u 35, u 36, u 37, u 38, u 39, u 40, u 41, u 42, u 43, u 44, u 45, u 46, u 47, u 48, u 49, u 50, u 51, u 52, u 53, u 54, u 55, u 56, u 57, u 58, u 59, u 60, u 61, u 62, u 63, u 64, u 65, u 66, u 67, u 68, u 69, u 70, u 71, u 72, u 73, u 74, u 75, u 76, u 77, u 78, u 79, u 80, u 81, u 82, u 83, u 84, u 85, u 86, u 87, u 88, u 89, u 90, u 91, u 92, u 93, u 94, u 95, u 96, u 97, u 98, u 99, u 100, u 101, u 102, u 103, u 104, u 105, u 106, u 107, u 108, u 109, u 110, u 111, u 112, u 113, u 114, u 115, u 116, u 117, u 118, u 119, u 120, u 121, u 122, u 123, u 124, u 125, u 126, u 127, u 128, u 129, u 130, u 131, u 132, u 133, u 134, u 135, u 136, u 137, u 138, u 139, u 140, u 141, u 142, u 143, u 144, u 145, u 146, u 147, u 148, u 149, u 150, u 151, u 152, u 153, u 154, u 155, u 156, u 157, u 158, u 159, u 160, u 161, u 162, u 163, u 164, u 165, u 166, u 167, u 168, u 169, u 170, u 171, u 172, u 173, u 174, u 175, u 176, u 177, u 178, u 179, u 180, u 181, u 182, u 183, u 184, u 185, u 186, u 187, u 188, u 189, u 190, u 191, u 192, u 193, u 194, u 195, u 196, u 197, u 198, u 199, u 200, u 201, u 202, u 203, u 204, u 205, u 206, u 207, u 208, u 209, u 210, u 211, u 212, u 213, u 214, u 215, u 216, u 217, u 218, u 219, u 220, u 221, u 222, u 223, u 224, u 225, u 226, u 227, u 228, u 229, u 230, u 231, u 232, u 233, u 234, u 235, u 236, u 237, u 238, u 239, u 240, u 241, u 242, u 243, u 244, u 245, u 246, u 247, u 248, u 249, u 250, u 251, u 252, u 253, u 254, u 255, u 256, u 257, u 258, u 259, u 260], []⟩ :=
  ⟨fun i => a.tmps.getD i undef, frame_arg a 260 h1 h2 v h3⟩
theorem rd_form {w : World} {k n : Nat} {v : Value} {cs : List Value} (h : Rd w k v n cs) : ∃ p c, v = .slice p n c := by
  obtain ⟨-, p, c, e, -⟩ := h
  exact ⟨p, c, e⟩
theorem one_strs (L : List ByteArray) : ∀ u ∈ vStrs L, u.oneCell' = true := by
  intro u hu
  obtain ⟨s, -, rfl⟩ := List.mem_map.1 hu
  rfl
theorem rdS_at {W : World} {b o c n : Nat} {L : List ByteArray} (h : Rd W 1 (.slice (some ⟨b, o, none⟩) n c) L.length (vStrs L)) (i : Nat) (hi : i < L.length) : W.cell? ⟨b, o + i, none⟩ = some (.string (L.getD i ByteArray.empty)) := by
  obtain ⟨-, p, cap, e, h4⟩ := h
  cases e
  obtain ⟨b', o', e2, h6⟩ := h4.resolve_left (by omega)
  cases e2
  exact elem1 Value.string ByteArray.empty L h6 i hi
theorem rd_spot {W : World} {k n : Nat} {p : Option Addr} {c : Nat} {cs : List Value} (h : Rd W k (.slice p n c) n cs) (hn : 0 < n) : ∃ b off, p = some ⟨b, off, none⟩ := by
  obtain ⟨-, p, cap, e, h4⟩ := h
  cases e
  obtain ⟨b', off', e2, -⟩ := h4.resolve_left (by omega)
  exact ⟨b', off', e2⟩
theorem rdI_at {W : World} {b o c n : Nat} {L : List Int} (h : Rd W 1 (.slice (some ⟨b, o, none⟩) n c) L.length (vInts L)) (i : Nat) (hi : i < L.length) : W.cell? ⟨b, o + i, none⟩ = some (.int .i64 (L.getD i 0)) := by
  obtain ⟨-, p, cap, e, h4⟩ := h
  cases e
  obtain ⟨b', o', e2, h6⟩ := h4.resolve_left (by omega)
  cases e2
  exact elem1 (Value.int .i64) 0 L h6 i hi
theorem rdS_set {W : World} {base g cap i n : Nat} {L : List ByteArray} {s : ByteArray} (h : W.ownsRow base 9 1 (.slice (some ⟨g, 0, none⟩) n cap) n ((vStrs L).set i (.string s))) (hn : L.length = n) : Rd W 1 (.slice (some ⟨g, 0, none⟩) n cap) (L.set i s).length (vStrs (L.set i s)) := by
  rw [List.length_set, hn, show vStrs (L.set i s) = (vStrs L).set i (.string s) by simp [vStrs, List.map_set]]
  exact Rd.own h
theorem sml_size {L : List ByteArray} (h : Sml L) (i : Nat) : (L.getD i ByteArray.empty).size ≤ 9 := by
  rw [List.getD_eq_getElem?_getD]
  by_cases hi : i < L.length
  · rw [List.getElem?_eq_getElem hi]; exact h.2 _ (List.getElem_mem hi)
  · rw [List.getElem?_eq_none (by omega)]; decide
theorem sml_set2 {L : List ByteArray} (h : Sml L) (i : Nat) {s : ByteArray} (hs : s.size ≤ 9) : Sml (L.set i s) := by
  refine ⟨by rw [List.length_set]; exact h.1, fun t ht => ?_⟩
  rcases List.mem_or_eq_of_mem_set ht with h1 | h1
  · exact h.2 t h1
  · rw [h1]; exact hs
def RvPost (w : World) : Exit → Act → World → Prop := bodyPost Tryd.prog Tryd.f4 (fun e w' => e = .returned (.bool true) ∧ Ext w w')
noncomputable def rvTl (n : Nat) : Code := (Tryd.f4.body.getD .skip).tailAt n
def RvTail (n : Nat) (p : Option Addr) (m cap : Nat) (w : World) : Prop := ∀ (a : Act) (wc : World), Ext w wc → a.defers = [] → a.tmps.size = 261 → a.tmps.getD 0 undef = .slice p m cap → Code.wp Tryd.prog (rvTl n) (RvPost w) a wc
-- part 2
theorem recovery_p2 {bs : List Int} (hb : Bts bs) {p : Option Addr} {cap : Nat} {w : World} (Hr : Hid (Rd w 1 (.slice p bs.length cap) bs.length (vBytes bs))) (hn : Hid (RvTail 30 p bs.length cap w)) : RvTail 25 p bs.length cap w := by
  intro a wc hx h1 h2 h3
  obtain ⟨u, rfl⟩ := frame261 a _ h1 h2 h3
  clear h1 h2 h3
  have HY := hid hx
  clear hx
  have dd := hid (fun w h => spec_DrawRecoverItem hb (v := .slice p bs.length cap) w h)
  clear hb
  unfold rvTl RvPost
  conv => arg 2; whnf
  go_wp2_with fail
  go_at_call 28
  refine (dd.out _ (Hr.out.ext HY.out)).mono ?_
  rintro e w1 ⟨x, q, L, m, P, rfl, ⟨hL, hP⟩, hx1, hq1, hx⟩
  obtain ⟨xp, xc, rfl⟩ := rd_form hx1
  obtain ⟨qp, qc, rfl⟩ := rd_form hq1
  have L0 := hid (And.intro (HY.out.trans hx) (And.intro hx1 hq1))
  clear hx hx1 hq1 HY dd
  obtain ⟨T, hT⟩ : ∃ T, recT L m P = T := ⟨_, rfl⟩
  obtain ⟨ok, hok⟩ : ∃ o, recR L m P = o := ⟨_, rfl⟩
  have hch := sml_chars hL
  have hl12 := hL.1
  have ci := hid (fun W h k => impl_RecoverItem L P m (.slice xp L.length xc) (.slice qp P.length qc) W h k (by omega) (by omega) (by omega))
  have cs := hid (fun W h k => spec_RecoverItem L P m (.slice xp L.length xc) (.slice qp P.length qc) W h k (by omega) (by omega) (by omega))
  rw [hT, hok] at ci cs
  clear hT hok hL
  go_wp2_with fail
  go_at_call 27
  refine (ci.out _ L0.out.2.1 L0.out.2.2).mono ?_
  rintro e w2 ⟨rfl, hx⟩
  have L1 := hid (And.intro (L0.out.1.trans hx) (And.intro (L0.out.2.1.ext hx) (L0.out.2.2.ext hx)))
  clear hx L0 ci
  go_wp2_with fail
  go_at_call 29
  refine (cs.out _ L1.out.2.1 L1.out.2.2).mono ?_
  rintro e w3 ⟨rfl, hx⟩
  have HX := hid (L1.out.1.trans hx)
  clear hx L1 cs
  go_upto_if 181 with fail
  go_cut [] from 3 (fun wc => Ext w wc)
  case first =>
    go_wp2_with fail
    go_meet
    exact HX.out
  case rest =>
    go_step
    exact hn.out _ _ hcut rfl rfl rfl
-- part 3
theorem recovery_p3 {bs : List Int} (hb : Bts bs) {p : Option Addr} {cap : Nat} {w : World} (Hr : Hid (Rd w 1 (.slice p bs.length cap) bs.length (vBytes bs))) : RvTail 30 p bs.length cap w := by
  intro a wc hx h1 h2 h3
  obtain ⟨u, rfl⟩ := frame261 a _ h1 h2 h3
  clear h1 h2 h3
  have HY := hid hx
  clear hx
  have dd := hid (fun w h => spec_DrawSuspectItems hb (v := .slice p bs.length cap) w h)
  clear hb
  unfold rvTl RvPost
  conv => arg 2; whnf
  go_wp2_with fail
  go_at_call 30
  refine (dd.out _ (Hr.out.ext HY.out)).mono ?_
  rintro e w1 ⟨x, q, L, P, rfl, ⟨hL, hP⟩, hx1, hq1, hx⟩
  obtain ⟨xp, xc, rfl⟩ := rd_form hx1
  obtain ⟨qp, qc, rfl⟩ := rd_form hq1
  have L0 := hid (And.intro (HY.out.trans hx) (And.intro hx1 hq1))
  clear hx hx1 hq1 HY dd
  obtain ⟨i0, hi, hz0, hz1, hz2⟩ := info_parts infoStr
  obtain ⟨ns, hns⟩ : ∃ T, sus L P = T := ⟨_, rfl⟩
  obtain ⟨ok, hok⟩ : ∃ o, fitB L P = o := ⟨_, rfl⟩
  have hch := sml_chars hL
  have hl12 := hL.1
  have hnl : ns.length ≤ 12 := by rw [← hns]; exact Nat.le_trans (sus_len L P) hl12
  have ci := hid (fun W h k => impl_SuspectItems L P (.slice xp L.length xc) (.slice qp P.length qc) W h k (by omega) (by omega) (by omega))
  have cs := hid (fun W h k => spec_SuspectItems L P (.slice xp L.length xc) (.slice qp P.length qc) W h k (by omega) (by omega) (by omega))
  rw [hns, hok] at ci cs
  have cv := hid (fun z z' W h h' => laws_vInts ns z z' W h h' (by omega))
  have Hall : Hid (∀ k, k < ns.length → ∃ (i : Nat) (T : ByteArray), ns.getD k 0 = i ∧ i < L.length ∧ T.size ≤ 9 ∧ T ≠ L.getD i ByteArray.empty ∧
      (∀ W, Rd W 1 (.slice xp L.length xc) L.length (vStrs L) → Rd W 1 (.slice qp P.length qc) P.length (vInts P) → Calls Tryd.prog 27 #[.slice xp L.length xc, .int .i64 i, .slice qp P.length qc] W fun e w' => e = .returned (.tuple #[.string T, .bool true]) ∧ Ext W w') ∧
      (∀ W g gc, Rd W 1 (.slice (some ⟨g, 0, none⟩) L.length gc) (L.set i T).length (vStrs (L.set i T)) → Rd W 1 (.slice qp P.length qc) P.length (vInts P) → Calls Tryd.prog 25 #[.slice (some ⟨g, 0, none⟩) L.length gc, .slice qp P.length qc] W fun e w' => e = .returned (.tuple #[.bool true, .bool true]) ∧ Ext W w')) := fun k hk => by
    rw [← hns] at hk
    obtain ⟨i, e1, h2, h3, h4, h5, h6, h7⟩ := recovery_law3 hk
    have hTs : (recT L i P).size ≤ 8 := itm_iff6 h4
    have hs2 := sml_set2 hL i (show (recT L i P).size ≤ 9 by omega)
    have hc2 := sml_chars hs2
    refine ⟨i, recT L i P, by rw [← hns]; exact e1, h2, by omega, h7, fun W h k => ?_, fun W g gc h k => ?_⟩
    · have := impl_RecoverItem L P i (.slice xp L.length xc) (.slice qp P.length qc) W h k (by omega) (by omega) (by omega)
      rwa [h3] at this
    · have := impl_FitsParity (L.set i (recT L i P)) P (.slice (some ⟨g, 0, none⟩) L.length gc) (.slice qp P.length qc) W h k (by rw [List.length_set]; omega) (by omega) (by omega)
      rwa [h5, h6] at this
  clear hns hok hL
  go_wp2_with fail
  go_at_call 26
  refine (ci.out _ L0.out.2.1 L0.out.2.2).mono ?_
  rintro e w2 ⟨y, rfl, ho, hx⟩
  obtain ⟨yp, yc, rfl⟩ := own_shape ho
  have L1 := hid (And.intro (And.intro (L0.out.1.trans hx) (And.intro (L0.out.2.1.ext hx) (L0.out.2.2.ext hx))) (Rd.own ho))
  clear hx ho L0 ci
  go_wp2_with fail
  go_at_call 31
  refine (cs.out _ L1.out.1.2.1 L1.out.1.2.2).mono ?_
  rintro e w3 ⟨z, rfl, ho, hx⟩
  obtain ⟨zp, zc, rfl⟩ := own_shape ho
  have L2 := hid (And.intro (And.intro (L1.out.1.1.trans hx) (And.intro (L1.out.1.2.1.ext hx) (L1.out.1.2.2.ext hx))) (And.intro (L1.out.2.ext hx) (Rd.own ho)))
  clear hx ho L1 cs
  go_wp2_with fail
  go_at_call 10
  refine (cv.out _ _ _ L2.out.2.1 L2.out.2.2).mono ?_
  rintro e w4 ⟨rfl, hx⟩
  have LR : Hid (∀ W, Ext w4 W → (Ext w4 W ∧ Ext w W) ∧ Rd W 1 (.slice xp L.length xc) L.length (vStrs L) ∧ Rd W 1 (.slice qp P.length qc) P.length (vInts P) ∧ Rd W 1 (.slice yp ns.length yc) ns.length (vInts ns)) := fun W h => ⟨⟨h, (L2.out.1.1.trans hx).trans h⟩, (L2.out.1.2.1.ext hx).ext h, (L2.out.1.2.2.ext hx).ext h, (L2.out.2.1.ext hx).ext h⟩
  clear hx L2 cv
  go_wp2
  go_loopw [34] (fun v34 wr => ∃ k : Nat, k ≤ ns.length ∧ v34 = .int .i64 k ∧ Ext w4 wr) (fun v34 _ => ns.length - (intOf v34).toNat)
  case atStart => exact ⟨0, Nat.zero_le _, rfl, Ext.refl _⟩
  case round =>
    obtain ⟨k, hk, rfl, hx⟩ := hrel
    have Hx := hid hx
    clear hx
    by_cases hkl : k < ns.length
    · obtain ⟨i, T, e1, hlt, hT9, hTn, hR, hF⟩ := Hall.out k hkl
      have HR := hid hR
      have HF := hid hF
      clear hR hF
      have A0 := hid (LR.out _ Hx.out)
      obtain ⟨yb, yo, rfl⟩ := rd_spot A0.out.2.2.2 (by omega)
      obtain ⟨xb, xo, rfl⟩ := rd_spot A0.out.2.1 (by omega)
      have c0 := rdI_at A0.out.2.2.2 k hkl
      have E1 := hid e1
      rw [e1] at c0
      clear e1
      have k0 : (0 : Int) ≤ (k : Int) := by omega
      have k1 : (k : Int) < (ns.length : Int) := by omega
      have i0' : (0 : Int) ≤ (i : Int) := by omega
      have i1' : (i : Int) < (L.length : Int) := by omega
      go_wp2_with fail
      go_at_call 27
      refine (HR.out _ A0.out.2.1 A0.out.2.2.1).mono ?_
      rintro e wa ⟨rfl, hx⟩
      have A1 := hid (LR.out _ (Hx.out.trans hx))
      clear hx c0 A0 HR
      have hl9 : (wa.alloc (.cells #[] 9)).ownsRow wa.heap.size 9 1 (.slice (some ⟨wa.heap.size, 0, none⟩) 0 0) 0 [] := World.ownsRow_lit wa #[] 0 (Nat.le_refl _) (Nat.zero_le _) rfl
      have Hl := hid hl9
      clear hl9
      go_wp2_with (at_builtin; refine wpList_append_rd _ rfl _ _ 35 rfl wa.heap.size 9 i0 (.string ByteArray.empty) 1 16 Tryd.underlying35 hi hz0 hz1 hz2 rfl (by decide) _ 0 [] rfl Hl.out _ L.length (vStrs L) rfl (A1.out.2.1.ext (by repeat' (first | exact Ext.refl _ | assumption | refine Ext.alloc ?_ _ | refine Ext.ext ?_ _ | refine Ext.drew ?_ | refine Ext.drewN ?_ _))) (one_strs L) (by unfold maxLen; omega) (by omega) (by simp) ?_)
      intro v' wb ho hg
      (try simp only [Nat.zero_add, List.nil_append] at ho)
      have hx : Ext wa wb := Ext.grown (by repeat' (first | exact Ext.refl _ | assumption | refine Ext.alloc ?_ _ | refine Ext.ext ?_ _ | refine Ext.drew ?_ | refine Ext.drewN ?_ _)) hg (fun j hj => (own_row Hl.out j hj).1)
      have c0 := rdI_at (LR.out _ (A1.out.1.1.trans hx)).2.2.2 k hkl
      rw [E1.out] at c0
      obtain ⟨g, gc, rfl, -, -⟩ := ho.form (by omega)
      have y0 := ho.cellAt i (by omega)
      rw [vStrs_get L i hlt] at y0
      have y1 := ho.frozenAt i
      have s1 := World.ownsRow.stored ho i (.string T)
      have hxs : Ext wa (wb.setCell ⟨g, i, none⟩ (.string T)) := hx.setCell (own_row ho g rfl).1 _
      have K := hid (And.intro ((fun h => LR.out _ (A1.out.1.1.trans h)) hxs) (rdS_set (L := L) (i := i) (s := T) s1.1 rfl))
      clear hxs s1 ho hg hx Hl
      go_upto_region 41 with fail
      generalize wb.setCell ⟨g, i, none⟩ (.string T) = V at *
      clear y0 y1
      clear c0 A1
      go_wp2_with fail
      go_at_call 25
      refine (HF.out _ g gc K.out.2 K.out.1.2.2.1).mono ?_
      rintro e wc ⟨rfl, hx⟩
      have A3 := hid (LR.out _ (K.out.1.1.1.trans hx))
      clear hx K HF
      have c0 := rdI_at A3.out.2.2.2 k hkl
      rw [E1.out] at c0
      have c1 := rdS_at A3.out.2.1 i hlt
      have tS : (T.toList == (L.getD i ByteArray.empty).toList) = false := by
        rw [beq_eq_false_iff_ne]
        intro e
        rw [ByteArray.toList_eq, ByteArray.toList_eq] at e
        exact hTn (ByteArray.ext (Array.ext' e))
      clear hTn
      generalize L.getD i ByteArray.empty = S at *
      go_wp2
      go_roundw
      case rel => exact ⟨k + 1, by omega, by go_num, A3.out.1.1.trans (by repeat' (first | exact Ext.refl _ | assumption | refine Ext.alloc ?_ _ | refine Ext.ext ?_ _ | refine Ext.drew ?_ | refine Ext.drewN ?_ _))⟩
      case measure => simp [intOf]; omega
    · obtain rfl : k = ns.length := by omega
      go_wp2
      go_ret
      exact ⟨rfl, (LR.out _ Hx.out).1.2⟩
-- part 1
theorem recovery_law (bs : List Int) (v : Value) (w : World) (h : Rd w 1 v bs.length (vBytes bs)) (hm : bs.length ≤ maxLen) (hbb : ∀ x ∈ bs, 0 ≤ x ∧ x ≤ 255) :
    Calls Tryd.prog 4 #[v] w fun e w' => e = .returned (.bool true) ∧ Ext w w' := by
  have Hr := hid h
  unfold maxLen at hm
  obtain ⟨-, p, cap, rfl, -⟩ := h
  by_cases h2 : 65536 < bs.length
  · have t0 : (65536 : Int) < (bs.length : Int) := by omega
    go_enter Tryd.func4, Tryd.ntmps4
    go_wp2
    go_ret
    exact ⟨rfl, (by repeat' (first | exact Ext.refl _ | assumption | refine Ext.alloc ?_ _ | refine Ext.ext ?_ _ | refine Ext.drew ?_ | refine Ext.drewN ?_ _))⟩
  have hb : Bts bs := ⟨by omega, hbb⟩
  have dd := hid (fun w h => spec_DrawParityOf hb (v := .slice p bs.length cap) w h)
  have hn : Hid (RvTail 25 p bs.length cap w) := recovery_p2 hb Hr (recovery_p3 hb Hr)
  clear hb hbb
  obtain ⟨i0, hi, hz0, hz1, hz2⟩ := info_parts infoStr
  go_enter Tryd.func4, Tryd.ntmps4
  go_wp2_with fail
  go_at_call 5
  refine (laws_vBig bs.length p cap _).mono ?_
  rintro e w' ⟨rfl, rfl⟩
  have t1 : decide ((65536 : Int) < (bs.length : Int)) = false := by simp; omega
  go_wp2_with fail
  go_at_call 22
  refine (dd.out _ Hr.out).mono ?_
  rintro e w1 ⟨x, L, rfl, hL, hx1, hx⟩
  obtain ⟨xp, xc, rfl⟩ := rd_form hx1
  have L0 := hid (And.intro hx hx1)
  clear hx hx1 dd t1
  have hch := sml_chars hL
  have hl12 := hL.1
  obtain ⟨ok, hok⟩ : ∃ o, blk L = o := ⟨_, rfl⟩
  obtain ⟨P, hP⟩ : ∃ Q, pof L = Q := ⟨_, rfl⟩
  have hpl : P.length ≤ 8 := by rw [← hP]; exact pof_len L
  have ci := hid (fun W h => impl_ParityOf L (.slice xp L.length xc) W h (by omega) (by omega))
  have cs := hid (fun W h => spec_ParityOf L (.slice xp L.length xc) W h (by omega) (by omega))
  rw [hP, hok] at ci cs
  have cv := hid (fun z z' W h h' => laws_vInts P z z' W h h' (by omega))
  have habc : itm 8 ABC = true := by kernel_rfl
  have cl : Hid (ok = true →
      (∀ W q, Rd W 1 (.slice xp L.length xc) L.length (vStrs L) → Rd W 1 q P.length (vInts P) → Calls Tryd.prog 25 #[.slice xp L.length xc, q] W fun e w' => e = .returned (.tuple #[.bool true, .bool true]) ∧ Ext W w') ∧
      (∀ W q, Rd W 1 (.slice xp L.length xc) L.length (vStrs L) → Rd W 1 q P.length (vInts P) → Calls Tryd.prog 26 #[.slice xp L.length xc, q] W fun e w' => ∃ r c, e = .returned (.tuple #[.slice r 0 c, .bool true]) ∧ Ext W w') ∧
      ∀ i, i < L.length → ∃ Q : List Int, Q.length ≤ 8 ∧
        (∀ W g gc q, Rd W 1 (.slice (some ⟨g, 0, none⟩) L.length gc) (L.set i QM).length (vStrs (L.set i QM)) → Rd W 1 q P.length (vInts P) → Calls Tryd.prog 27 #[.slice (some ⟨g, 0, none⟩) L.length gc, .int .i64 i, q] W fun e w' => e = .returned (.tuple #[.string (L.getD i ByteArray.empty), .bool true]) ∧ Ext W w') ∧
        (∀ W q, Rd W 1 q P.length (vInts P) → Calls Tryd.prog 20 #[q, .string (L.getD i ByteArray.empty), .string ⟨#[97, 98, 99]⟩] W fun e w' => ∃ r, e = .returned (.tuple #[r, .bool true]) ∧ Rd w' 1 r Q.length (vInts Q) ∧ Ext W w') ∧
        (∀ W g gc, Rd W 1 (.slice (some ⟨g, 0, none⟩) L.length gc) (L.set i ABC).length (vStrs (L.set i ABC)) → Calls Tryd.prog 23 #[.slice (some ⟨g, 0, none⟩) L.length gc] W fun e w' => ∃ r, e = .returned (.tuple #[r, .bool true]) ∧ Rd w' 1 r Q.length (vInts Q) ∧ Ext W w')) := fun h => by
    have hB := hok.trans h
    have hPP : P = parL L := by rw [← hP, pof_yes hB]
    obtain ⟨r1, r2, r3⟩ := recovery_law1 hB
    rw [← hPP] at r1 r2 r3
    refine ⟨fun W q h k => ?_, fun W q h k => ?_, fun i hi => ⟨parL (L.set i ABC), by rw [parL_len]; exact Nat.le_refl _, fun W g gc q h k => ?_, fun W q k => ?_, fun W g gc h => ?_⟩⟩
    · have := impl_FitsParity L P (.slice xp L.length xc) q W h k (by omega) (by omega) (by omega)
      rwa [r2, r1] at this
    · refine (impl_SuspectItems L P (.slice xp L.length xc) q W h k (by omega) (by omega) (by omega)).mono fun e w' ⟨r, a, b, c⟩ => ?_
      rw [r3] at b
      obtain ⟨rp, rc, rfl⟩ := own_shape b
      exact ⟨rp, rc, by rw [a, r1]; rfl, c⟩
    · obtain ⟨⟨q1, q2⟩, -, -⟩ := recovery_law2 hB hi QM habc
      rw [← hPP] at q1 q2
      have hs := sml_chars (sml_set2 hL i (show QM.size ≤ 9 by decide))
      have := impl_RecoverItem (L.set i QM) P i (.slice (some ⟨g, 0, none⟩) L.length gc) q W h k (by rw [List.length_set]; omega) (by omega) (by omega)
      rwa [q1, q2] at this
    · obtain ⟨-, ⟨q1, q2⟩, -⟩ := recovery_law2 hB hi QM habc
      rw [← hPP] at q1 q2
      have hsz := sml_size hL i
      refine (impl_ChangeItem P q (L.getD i ByteArray.empty) ABC W k (by omega) (by omega) (by decide)).mono fun e w' ⟨r, a, b, c⟩ => ⟨r, by rw [a, q1], ?_, c⟩
      rw [q2] at b
      exact Rd.own b
    · obtain ⟨-, -, q1, q2⟩ := recovery_law2 hB hi QM habc
      have hs := sml_chars (sml_set2 hL i (show ABC.size ≤ 9 by decide))
      refine (impl_ParityOf (L.set i ABC) (.slice (some ⟨g, 0, none⟩) L.length gc) W h (by rw [List.length_set]; omega) (by omega)).mono fun e w' ⟨r, a, b, c⟩ => ⟨r, by rw [a, q1], ?_, c⟩
      rw [q2] at b
      exact Rd.own b
  clear hok hP hL habc
  go_wp2_with fail
  go_at_call 23
  refine (ci.out _ L0.out.2).mono ?_
  rintro e w2 ⟨q, rfl, ho, hx⟩
  obtain ⟨qp, qc, rfl⟩ := own_shape ho
  have L1 := hid (And.intro (And.intro (L0.out.1.trans hx) (L0.out.2.ext hx)) (Rd.own ho))
  clear hx ho L0 ci
  go_wp2_with fail
  go_at_call 24
  refine (cs.out _ L1.out.1.2).mono ?_
  rintro e w3 ⟨z, rfl, ho, hx⟩
  obtain ⟨zp, zc, rfl⟩ := own_shape ho
  have L2 := hid (And.intro (And.intro (L1.out.1.1.trans hx) (L1.out.1.2.ext hx)) (And.intro (L1.out.2.ext hx) (Rd.own ho)))
  clear hx ho L1 cs
  go_wp2_with fail
  go_at_call 10
  refine (cv.out _ _ _ L2.out.2.1 L2.out.2.2).mono ?_
  rintro e w4 ⟨rfl, hx⟩
  have L3 := hid (And.intro (L2.out.1.1.trans hx) (And.intro (L2.out.1.2.ext hx) (L2.out.2.1.ext hx)))
  clear hx L2 cv
  go_upto_if 63 with fail
  go_cut [] from 3 (fun wc => Ext w wc)
  case first =>
    cases ok
    · clear cl
      go_wp2_with fail
      go_meet
      exact L3.out.1
    · obtain ⟨c1, c2, c3⟩ := cl.out rfl
      have C1 := hid c1
      have C2 := hid c2
      have Hall := hid c3
      clear c1 c2 c3 cl
      go_wp2_with fail
      go_at_call 25
      refine (C1.out _ _ L3.out.2.1 L3.out.2.2).mono ?_
      rintro e w5 ⟨rfl, hx⟩
      have L4 := hid (And.intro (L3.out.1.trans hx) (And.intro (L3.out.2.1.ext hx) (L3.out.2.2.ext hx)))
      clear hx L3 C1
      go_wp2_with fail
      go_at_call 26
      refine (C2.out _ _ L4.out.2.1 L4.out.2.2).mono ?_
      rintro e w6 ⟨sp, sc, rfl, hx⟩
      have LR : Hid (∀ W, Ext w6 W → (Ext w6 W ∧ Ext w W) ∧ Rd W 1 (.slice xp L.length xc) L.length (vStrs L) ∧ Rd W 1 (.slice qp P.length qc) P.length (vInts P)) := fun W h => ⟨⟨h, (L4.out.1.trans hx).trans h⟩, (L4.out.2.1.ext hx).ext h, (L4.out.2.2.ext hx).ext h⟩
      clear hx L4 C2
      go_wp2_with fail
      go_loopw [12] (fun v12 wr => ∃ i : Nat, i ≤ L.length ∧ v12 = .int .i64 i ∧ Ext w6 wr) (fun v12 _ => L.length - (intOf v12).toNat)
      case atStart => exact ⟨0, Nat.zero_le _, rfl, Ext.refl _⟩
      case round =>
        obtain ⟨i, hil, rfl, hx⟩ := hrel
        have Hx := hid hx
        clear hx
        by_cases hlt : i < L.length
        · obtain ⟨Q, hQ8, hR, hC, hPo⟩ := Hall.out i hlt
          have HR := hid hR
          have HC := hid hC
          have HP := hid hPo
          have cv := hid (fun z z' W h h' => laws_vInts Q z z' W h h' (by omega))
          clear hR hC hPo
          have A0 := hid (LR.out _ Hx.out)
          obtain ⟨xb, xo, rfl⟩ := rd_spot A0.out.2.1 (by omega)
          have i0' : (0 : Int) ≤ (i : Int) := by omega
          have i1' : (i : Int) < (L.length : Int) := by omega
          have HS : Hid (∀ W, Rd W 1 (.slice (some ⟨xb, xo, none⟩) L.length xc) L.length (vStrs L) → W.cell? ⟨xb, xo + i, none⟩ = some (.string (L.getD i ByteArray.empty))) := fun W h => rdS_at h i hlt
          have hl9 : (wr.alloc (.cells #[] 9)).ownsRow wr.heap.size 9 1 (.slice (some ⟨wr.heap.size, 0, none⟩) 0 0) 0 [] := World.ownsRow_lit wr #[] 0 (Nat.le_refl _) (Nat.zero_le _) rfl
          have Hl := hid hl9
          clear hl9
          go_wp2_with (at_builtin; refine wpList_append_rd _ rfl _ _ 35 rfl wr.heap.size 9 i0 (.string ByteArray.empty) 1 16 Tryd.underlying35 hi hz0 hz1 hz2 rfl (by decide) _ 0 [] rfl Hl.out _ L.length (vStrs L) rfl (A0.out.2.1.ext (by repeat' (first | exact Ext.refl _ | assumption | refine Ext.alloc ?_ _ | refine Ext.ext ?_ _ | refine Ext.drew ?_ | refine Ext.drewN ?_ _))) (one_strs L) (by unfold maxLen; omega) (by omega) (by simp) ?_)
          intro v' wa ho hg
          (try simp only [Nat.zero_add, List.nil_append] at ho)
          have hx : Ext wr wa := Ext.grown (by repeat' (first | exact Ext.refl _ | assumption | refine Ext.alloc ?_ _ | refine Ext.ext ?_ _ | refine Ext.drew ?_ | refine Ext.drewN ?_ _)) hg (fun j hj => (own_row Hl.out j hj).1)
          skip
          obtain ⟨g, gc, rfl, -, -⟩ := ho.form (by omega)
          have y0 := ho.cellAt i (by omega)
          rw [vStrs_get L i hlt] at y0
          have y1 := ho.frozenAt i
          have s1 := World.ownsRow.stored ho i (.string ⟨#[63]⟩)
          have hxs : Ext wr (wa.setCell ⟨g, i, none⟩ (.string ⟨#[63]⟩)) := hx.setCell (own_row ho g rfl).1 _
          have K1 := hid (And.intro ((fun h => LR.out _ (Hx.out.trans h)) hxs) (rdS_set (L := L) (i := i) (s := ⟨#[63]⟩) s1.1 rfl))
          clear hxs s1 ho hg hx Hl
          go_upto_region 18 with fail
          generalize wa.setCell ⟨g, i, none⟩ (.string ⟨#[63]⟩) = V1 at *
          clear y0 y1
          clear A0
          generalize L.getD i ByteArray.empty = S at *
          go_wp2_with fail
          go_at_call 27
          refine (HR.out _ g gc _ K1.out.2 K1.out.1.2.2).mono ?_
          rintro e wb ⟨rfl, hx⟩
          have A1 := hid (LR.out _ (K1.out.1.1.1.trans hx))
          clear hx K1 HR
          have b0 := HS.out _ A1.out.2.1
          go_wp2_with fail
          go_at_call 20
          refine (HC.out _ _ A1.out.2.2).mono ?_
          rintro e wc ⟨y, rfl, hy, hx⟩
          obtain ⟨yp, yc, rfl⟩ := rd_form hy
          have A2 := hid (And.intro (LR.out _ (A1.out.1.1.trans hx)) hy)
          clear hx hy A1 b0 HC
          have hl9 : (wc.alloc (.cells #[] 9)).ownsRow wc.heap.size 9 1 (.slice (some ⟨wc.heap.size, 0, none⟩) 0 0) 0 [] := World.ownsRow_lit wc #[] 0 (Nat.le_refl _) (Nat.zero_le _) rfl
          have Hl := hid hl9
          clear hl9
          go_wp2_with (at_builtin; refine wpList_append_rd _ rfl _ _ 35 rfl wc.heap.size 9 i0 (.string ByteArray.empty) 1 16 Tryd.underlying35 hi hz0 hz1 hz2 rfl (by decide) _ 0 [] rfl Hl.out _ L.length (vStrs L) rfl (A2.out.1.2.1.ext (by repeat' (first | exact Ext.refl _ | assumption | refine Ext.alloc ?_ _ | refine Ext.ext ?_ _ | refine Ext.drew ?_ | refine Ext.drewN ?_ _))) (one_strs L) (by unfold maxLen; omega) (by omega) (by simp) ?_)
          intro v' wd ho hg
          (try simp only [Nat.zero_add, List.nil_append] at ho)
          have hx : Ext wc wd := Ext.grown (by repeat' (first | exact Ext.refl _ | assumption | refine Ext.alloc ?_ _ | refine Ext.ext ?_ _ | refine Ext.drew ?_ | refine Ext.drewN ?_ _)) hg (fun j hj => (own_row Hl.out j hj).1)
          skip
          obtain ⟨g2, gc2, rfl, -, -⟩ := ho.form (by omega)
          have y0 := ho.cellAt i (by omega)
          rw [vStrs_get L i hlt] at y0
          have y1 := ho.frozenAt i
          have s1 := World.ownsRow.stored ho i (.string ⟨#[97, 98, 99]⟩)
          have hxs : Ext wc (wd.setCell ⟨g2, i, none⟩ (.string ⟨#[97, 98, 99]⟩)) := hx.setCell (own_row ho g2 rfl).1 _
          have K2 := hid (And.intro ((fun h => And.intro (LR.out _ (A2.out.1.1.1.trans h)) (A2.out.2.ext h)) hxs) (rdS_set (L := L) (i := i) (s := ⟨#[97, 98, 99]⟩) s1.1 rfl))
          clear hxs s1 ho hg hx Hl
          go_upto_region 22 with fail
          generalize wd.setCell ⟨g2, i, none⟩ (.string ⟨#[97, 98, 99]⟩) = V2 at *
          clear y0 y1
          clear A2
          go_wp2_with fail
          go_at_call 23
          refine (HP.out _ g2 gc2 K2.out.2).mono ?_
          rintro e we ⟨z, rfl, hz, hx⟩
          obtain ⟨zp, zc, rfl⟩ := rd_form hz
          have A3 := hid (And.intro (LR.out _ (K2.out.1.1.1.1.trans hx)) (And.intro (K2.out.1.2.ext hx) hz))
          clear hx hz K2 HP
          have b0 := HS.out _ A3.out.1.2.1
          go_wp2_with fail
          go_at_call 10
          refine (cv.out _ _ _ A3.out.2.1 A3.out.2.2).mono ?_
          rintro e wf ⟨rfl, hx⟩
          have X9 := hid (A3.out.1.1.1.trans hx)
          clear hx A3 b0 cv
          go_wp2
          go_roundw
          case rel => exact ⟨i + 1, by omega, by go_num, X9.out.trans (by repeat' (first | exact Ext.refl _ | assumption | refine Ext.alloc ?_ _ | refine Ext.ext ?_ _ | refine Ext.drew ?_ | refine Ext.drewN ?_ _))⟩
          case measure => simp [intOf]; omega
        · obtain rfl : i = L.length := by omega
          go_wp2_with fail
          go_meet
          exact (LR.out _ Hx.out).1.2
  case rest =>
    go_step
    exact hn.out _ _ hcut rfl rfl rfl
end Go.Proofs.YthnfdgbmmiddlaaDoor
