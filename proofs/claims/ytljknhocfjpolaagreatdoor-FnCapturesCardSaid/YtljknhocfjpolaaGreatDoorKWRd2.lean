/- Numbers read off texts, and texts split: the reference's side. -/
import Derived.Test.YtljknhocfjpolaaGreatDoorJ37
namespace Go.Proofs.YtljknhocfjpolaaGreatDoor
open Go.RowKit
set_option maxHeartbeats 4000000
set_option maxRecDepth 100000
theorem byteS (s : ByteArray) (i : Nat) (h : i < s.size) : s[i] = s.data.toList.getD i 0 := by
  rw [List.getD_eq_getElem?_getD, List.getElem?_eq_getElem (by simpa using h)]; rfl
/-- What stands between two places of a text. -/
theorem ext_mkS (s : ByteArray) (f k : Nat) : s.extract f k = mkS ((s.data.toList.drop f).take (k - f)) := by
  apply ByteArray.ext
  apply Array.ext'
  rw [mkS]
  simp [ByteArray.data_extract, List.take_drop]
theorem spl_at {l : List UInt8} {b : UInt8} {f k : Nat} (hf : f ≤ k) (hk : k < l.length) (hno : ∀ c ∈ (l.drop f).take (k - f), c ≠ b) (hb : l.getD k 0 = b) : spl b (l.drop f) = (l.drop f).take (k - f) :: spl b (l.drop (k + 1)) := by
  have e : l.drop f = (l.drop f).take (k - f) ++ b :: l.drop (k + 1) := by
    conv => lhs; rw [← List.take_append_drop (k - f) (l.drop f)]
    congr 1
    rw [List.drop_drop, show f + (k - f) = k by omega, List.drop_eq_getElem_cons hk]
    congr 1
    rw [List.getD_eq_getElem?_getD, List.getElem?_eq_getElem hk] at hb
    exact hb
  conv => lhs; rw [e]
  rw [spl_hit _ hno]
theorem no_more {l : List UInt8} {b : UInt8} {f k : Nat} (hf : f ≤ k) (hk : k < l.length) (hno : ∀ c ∈ (l.drop f).take (k - f), c ≠ b) (hb : ¬ l.getD k 0 = b) : ∀ c ∈ (l.drop f).take (k + 1 - f), c ≠ b := by
  intro c hc
  rw [show k + 1 - f = (k - f) + 1 by omega, List.take_succ_eq_append_getElem (by rw [List.length_drop]; omega)] at hc
  rcases List.mem_append.1 hc with h | h
  · exact hno c h
  · rw [List.mem_singleton.1 h, List.getElem_drop]
    rw [List.getD_eq_getElem?_getD, List.getElem?_eq_getElem hk] at hb
    simp only [show f + (k - f) = k by omega]
    exact hb
/-- While parts are gathered. -/
def SpW (w W : World) (u : Value) (L : List ByteArray) : Prop := Ext w W ∧ W.ownsRow w.heap.size 9 1 u L.length (vStrs L)
theorem SpW.ext {w W W' : World} {u : Value} {L : List ByteArray} (h : SpW w W u L) (hx : Ext W W') : SpW w W' u L := ⟨h.1.trans hx, own_ext h.2 hx⟩
theorem SpW.grow {w W W' : World} {u u' : Value} {L : List ByteArray} {s : ByteArray} (h : SpW w W u L) (hg : W.grownBy W' u.ownBlock) (ho : W'.ownsRow w.heap.size 9 1 u' (L.length + 1) (vStrs L ++ [.string s])) : SpW w W' u' (L ++ [s]) := by
  refine ⟨h.1.grown hg (fun j e => (own_row h.2 j e).1), ?_⟩
  rw [List.length_append, show vStrs (L ++ [s]) = vStrs L ++ [.string s] by simp [vStrs]]
  exact ho
theorem byte_test {c b : UInt8} (h : c = b) : ((c.toNat : Int) == (b.toNat : Int)) = true := by rw [h]; simp
theorem byte_test_no {c b : UInt8} (h : ¬ c = b) : ((c.toNat : Int) == (b.toNat : Int)) = false := by
  rw [beq_eq_false_iff_ne]
  intro e
  exact h (UInt8.toNat_inj.1 (by omega))
theorem spec_l1Split (s : ByteArray) (b : UInt8) (z : Int) (hz : z = (b.toNat : Int)) (w : World) (h : s.size ≤ 1048576) :
    Calls Tryz.prog 38 #[.string s, .int .u8 z] w fun e w' => ∃ r, e = .returned r ∧ w'.ownsRow w.heap.size 9 1 r (splS s b).length (vStrs (splS s b)) ∧ Ext w w' := by
  subst hz
  have hl0 : (w.alloc (.cells #[] 9)).ownsRow w.heap.size 9 1 (.slice (some ⟨w.heap.size, 0, none⟩) 0 0) 0 [] := World.ownsRow_lit w #[] 0 (Nat.le_refl _) (Nat.zero_le _) rfl
  have H0 : Hid (SpW w (w.alloc (.cells #[] 9)) (.slice (some ⟨w.heap.size, 0, none⟩) 0 0) []) := ⟨(by repeat' (first | exact Ext.refl _ | assumption | refine Ext.alloc ?_ _ | refine Ext.ext ?_ _ | refine Ext.drew ?_ | refine Ext.drewN ?_ _)), hl0⟩
  clear hl0
  obtain ⟨i0, hi, hz0, hz1, hz2⟩ := info_parts infoStr
  have hlen : s.data.toList.length = s.size := by simp
  have Hlen := hid hlen
  clear hlen
  go_enter Tryz.func38, Tryz.ntmps38
  go_wp2
  go_loopw [7, 5, 6] (fun v7 v5 v6 wr => ∃ (k f : Nat) (u : Value) (Q : List ByteArray), k ≤ s.size ∧ f ≤ k ∧ v7 = .int .i64 k ∧ v5 = u ∧ v6 = .int .i64 f ∧ Q.length ≤ k ∧ Hid ((splS s b = Q ++ (spl b (s.data.toList.drop f)).map mkS ∧ ∀ c ∈ (s.data.toList.drop f).take (k - f), c ≠ b) ∧ SpW w wr u Q)) (fun v7 _ _ _ => s.size - (intOf v7).toNat)
  case atStart => exact ⟨0, 0, _, [], Nat.zero_le _, Nat.zero_le _, rfl, rfl, rfl, Nat.le_refl _, ⟨rfl, fun c hc => by simp at hc⟩, H0.out⟩
  case round =>
    obtain ⟨k, f, u, Q, hk, hf, rfl, rfl, rfl, hQ, HR⟩ := hrel
    clear H0
    obtain ⟨up, uc, rfl⟩ := own_shape HR.out.2.2
    by_cases hlt : k < s.size
    · have hb := byteS s k hlt
      by_cases he : s.data.toList.getD k 0 = b
      · have hs := spl_at hf (by rw [Hlen.out]; exact hlt) HR.out.1.2 he
        have tb := byte_test (hb.trans he)
        have hnew : Hid (splS s b = (Q ++ [s.extract f k]) ++ (spl b (s.data.toList.drop (k + 1))).map mkS) := by
          show _ = _
          rw [HR.out.1.1, hs, List.map_cons, ← ext_mkS, List.append_assoc]; rfl
        have H1 := hid HR.out.2
        clear HR hs he hb
        go_wp2_with (at_builtin; refine wpList_append_own _ rfl _ _ 53 rfl w.heap.size 9 i0 (.string ByteArray.empty) 1 16 Tryz.underlying53 hi hz0 hz1 hz2 rfl (by decide) _ _ _ rfl ((own_ext H1.out.2 (by repeat' (first | exact Ext.refl _ | assumption | refine Ext.alloc ?_ _ | refine Ext.ext ?_ _ | refine Ext.drew ?_ | refine Ext.drewN ?_ _)))) ⟨_, 0, none⟩ 1 1 [.string (s.extract f k)] rfl ?a0A ?a1A ?a2A ?a3A ?a4A ?a5A ?_)
        (try case a0A => rfl)
        case a1A => (intro j u hj; rw [Addr.add_lit, Nat.zero_add, cell_of_row _ _ j _ _ (0, 0) (heap_at _ rfl)]; first | (simpa using hj) | (simpa [hwb.out] using hj))
        case a2A => simp [Value.oneCell']
        case a3A => (first | (unfold maxLen; simp; done) | (unfold maxLen; simp; omega))
        case a4A => (first | omega | (simp; omega))
        case a5A => (have := (H1.out.1.size); first | omega | (simp at *; omega))
        intro v' w1 hown' hgrow hat
        have H2 := hid ((H1.out.ext (show Ext wr (wr.alloc (.cells #[.string (s.extract f k)] 9)) from (by repeat' (first | exact Ext.refl _ | assumption | refine Ext.alloc ?_ _ | refine Ext.ext ?_ _ | refine Ext.drew ?_ | refine Ext.drewN ?_ _)))).grow hgrow hown')
        obtain ⟨vp, vc, rfl⟩ := own_shape hown'
        clear hown' hgrow hat
        clear H1
        go_wp2
        go_roundw
        case rel => exact ⟨k + 1, k + 1, _, _, by omega, Nat.le_refl _, by go_num, rfl, by go_num, by simp; omega, ⟨hnew.out, fun c hc => by simp at hc⟩, H2.out⟩
        case measure => simp [intOf]; omega
      · have hn := no_more hf (by rw [Hlen.out]; exact hlt) HR.out.1.2 he
        have tb := byte_test_no (fun e => he (hb.symm.trans e))
        have Hn := hid hn
        clear hn he hb
        go_wp2
        go_roundw
        case rel => exact ⟨k + 1, f, _, Q, by omega, by omega, by go_num, rfl, rfl, by omega, ⟨HR.out.1.1, Hn.out⟩, HR.out.2⟩
        case measure => simp [intOf]; omega
    · obtain rfl : k = s.size := by omega
      have hfin : Hid (splS s b = Q ++ [s.extract f s.size]) := by
        show _ = _
        have hno := HR.out.1.2
        rw [List.take_of_length_le (by rw [List.length_drop, Hlen.out]; omega)] at hno
        rw [HR.out.1.1, spl_end hno, ext_mkS, List.take_of_length_le (by rw [List.length_drop, Hlen.out]; omega)]; rfl
      have H1 := hid HR.out.2
      clear HR
      go_wp2_with (at_builtin; refine wpList_append_own _ rfl _ _ 53 rfl w.heap.size 9 i0 (.string ByteArray.empty) 1 16 Tryz.underlying53 hi hz0 hz1 hz2 rfl (by decide) _ _ _ rfl ((own_ext H1.out.2 (by repeat' (first | exact Ext.refl _ | assumption | refine Ext.alloc ?_ _ | refine Ext.ext ?_ _ | refine Ext.drew ?_ | refine Ext.drewN ?_ _)))) ⟨_, 0, none⟩ 1 1 [.string (s.extract f s.size)] rfl ?a0B ?a1B ?a2B ?a3B ?a4B ?a5B ?_)
      (try case a0B => rfl)
      case a1B => (intro j u hj; rw [Addr.add_lit, Nat.zero_add, cell_of_row _ _ j _ _ (0, 0) (heap_at _ rfl)]; first | (simpa using hj) | (simpa [hwb.out] using hj))
      case a2B => simp [Value.oneCell']
      case a3B => (first | (unfold maxLen; simp; done) | (unfold maxLen; simp; omega))
      case a4B => (first | omega | (simp; omega))
      case a5B => (have := (H1.out.1.size); first | omega | (simp at *; omega))
      intro v' w1 hown' hgrow hat
      have H2 := hid ((H1.out.ext (show Ext wr (wr.alloc (.cells #[.string (s.extract f s.size)] 9)) from (by repeat' (first | exact Ext.refl _ | assumption | refine Ext.alloc ?_ _ | refine Ext.ext ?_ _ | refine Ext.drew ?_ | refine Ext.drewN ?_ _)))).grow hgrow hown')
      obtain ⟨vp, vc, rfl⟩ := own_shape hown'
      clear hown' hgrow hat
      clear H1
      go_wp2
      go_ret
      exact ⟨_, rfl, by rw [hfin.out]; exact H2.out.2, H2.out.1⟩
theorem bdL_len (s : ByteArray) : (bdL s).length = if ngB s then s.size - 1 else s.size := by
  rw [bdL]
  split <;> simp
theorem ngB_yes {s : ByteArray} (h : ngB s = true) : 1 < s.size ∧ s.data.toList.getD 0 0 = 45 := by
  rw [ngB, Bool.and_eq_true, decide_eq_true_eq, beq_iff_eq] at h
  exact h
theorem dec_small {l : List UInt8} {n k : Nat} (h : Lib.decFrom 0 (l.take k) = some n) (hk : k ≤ 6) : n < 1000000 := by
  have h1 := Lib.decFrom_lt _ _ _ h
  have h2 : 10 ^ (l.take k).length ≤ 10 ^ 6 := Nat.pow_le_pow_right (by omega) (by rw [List.length_take]; omega)
  omega
theorem spec_l1Read (s : ByteArray) (w : World) (h : s.size ≤ 1048576) :
    Calls Tryz.prog 80 #[.string s] w fun e w' => e = .returned (.tuple #[.int .i64 ((pI s).getD 0), .bool (pI s).isSome]) ∧ Ext w w' := by
  cases hng0 : ngB s
  · have hT : s.data.toList = bdL s := by rw [bdL, hng0]; rfl
    by_cases h1 : 1 < s.size
    · have h0 : ¬ s.data.toList.getD 0 0 = 45 := fun e => by rw [ngB, e] at hng0; simp at hng0; omega
      have t1 : (1 : Int) < (s.size : Int) := by omega
      have tb' : (((s[0]'(by omega)).toNat : Int) == 45) = false := byte_test_no (b := 45) (fun e => h0 ((byteS s 0 (by omega)).symm.trans e))
      have HT := hid hT
      clear h0 hng0 hT
      go_enter Tryz.func80, Tryz.ntmps80
      go_wp2_with fail
      have hT := HT.out
      have HTl : Hid (s.size = (bdL s).length) := by (show _ = _; rw [← hT]; simp)
      have hin := hid (fun w => spec_l1In s.size 1 6 w)
      have Ht := hid hT
      have Hbl := hid (bdL_len s)
      have htl : s.data.toList.length = s.size := by simp
      have Htl := hid htl
      clear hT htl
      cases e1 : inB s.size 1 6
      · have hp : pI s = none := pI_bad (by rw [← HTl.out]; intro hh; rw [inB_iff.2 (by omega)] at e1; cases e1)
        rw [e1] at hin
        have Hp := hid hp
        clear e1 hp
        go_wp2_with (go_at_call 63; refine (hin.out _).mono ?_; rintro e w' ⟨rfl, rfl⟩)
        go_ret2
        exact ⟨by rw [Hp.out]; rfl, (by repeat' (first | exact Ext.refl _ | assumption | refine Ext.alloc ?_ _ | refine Ext.ext ?_ _ | refine Ext.drew ?_ | refine Ext.drewN ?_ _))⟩
      · have h6 := inB_iff.1 e1
        rw [e1] at hin
        clear e1
        go_wp2_with (go_at_call 63; refine (hin.out _).mono ?_; rintro e w' ⟨rfl, rfl⟩)
        go_loopw [6, 5] (fun v6 v5 wr => ∃ (k n : Nat), k ≤ s.size ∧ v6 = .int .i64 k ∧ v5 = .int .i64 n ∧ Hid (Lib.decFrom 0 (s.data.toList.take k) = some n) ∧ n < 1000000 ∧ Ext w wr) (fun v6 _ _ => s.size - (intOf v6).toNat)
        case atStart => exact ⟨0, 0, Nat.zero_le _, rfl, rfl, rfl, by omega, (by repeat' (first | exact Ext.refl _ | assumption | refine Ext.alloc ?_ _ | refine Ext.ext ?_ _ | refine Ext.drew ?_ | refine Ext.drewN ?_ _))⟩
        case round =>
          obtain ⟨k, n, hk, rfl, rfl, Hd, hn6, z, rfl⟩ := hrel
          by_cases hlt : k < s.size
          · have hb := byteS s k hlt
            have hg : s.data.toList[k]? = some s[k] := by rw [hb, List.getD_eq_getElem?_getD, List.getElem?_eq_getElem (by rw [Htl.out]; exact hlt)]; rfl
            by_cases h1 : 48 ≤ s[k].toNat
            · have t1 : decide ((s[k].toNat : Int) < 48) = false := by simp; omega
              by_cases h2 : s[k].toNat ≤ 57
              · have t2 : decide ((57 : Int) < (s[k].toNat : Int)) = false := by simp; omega
                have hdv : Lib.digitVal s[k] = some (s[k].toNat - 48) := by rw [Lib.digitVal, if_pos ⟨h1, h2⟩]
                have hst := Lib.decFrom_take s.data.toList k 0 n s[k] _ Hd.out hg hdv
                have hlt6 := dec_small hst (by omega)
                obtain ⟨D, hD⟩ : ∃ D, s[k].toNat - 48 = D := ⟨_, rfl⟩
                rw [hD] at hst hlt6
                have Hst := hid hst
                have hD2 : (s[k].toNat : Int) - 48 = (D : Int) := by omega
                have HD := hid hD2
                have d9 : D ≤ 9 := by omega
                clear hb hg hst hdv hD Hd hD2
                go_wp2
                go_roundw
                case rel => exact ⟨k + 1, n * 10 + D, by omega, by go_num, by have := HD.out; congr 1; omega, Hst.out, hlt6, (by repeat' (first | exact Ext.refl _ | assumption | refine Ext.alloc ?_ _ | refine Ext.ext ?_ _ | refine Ext.drew ?_ | refine Ext.drewN ?_ _))⟩
                case measure => simp [intOf]; omega
              · have t2 : decide ((57 : Int) < (s[k].toNat : Int)) = true := by simp; omega
                have hp : pI s = none := pI_nondigit (k := k) (b := s[k]) (by rw [← Ht.out]; exact hg) (by omega)
                have Hp := hid hp
                clear hp hg hb
                go_wp2
                go_ret2
                exact ⟨by rw [Hp.out]; rfl, (by repeat' (first | exact Ext.refl _ | assumption | refine Ext.alloc ?_ _ | refine Ext.ext ?_ _ | refine Ext.drew ?_ | refine Ext.drewN ?_ _))⟩
            · have t1 : decide ((s[k].toNat : Int) < 48) = true := by simp; omega
              have hp : pI s = none := pI_nondigit (k := k) (b := s[k]) (by rw [← Ht.out]; exact hg) (by omega)
              have Hp := hid hp
              clear hp hg hb
              go_wp2
              go_ret2
              exact ⟨by rw [Hp.out]; rfl, (by repeat' (first | exact Ext.refl _ | assumption | refine Ext.alloc ?_ _ | refine Ext.ext ?_ _ | refine Ext.drew ?_ | refine Ext.drewN ?_ _))⟩
          · obtain rfl : k = s.size := by omega
            have hd : Lib.decFrom 0 (bdL s) = some n := by
              have := Hd.out
              rwa [List.take_of_length_le (by rw [Htl.out]; exact Nat.le_refl _), Ht.out] at this
            have hTl := HTl.out
            have hbl := Hbl.out
            cases hng : ngB s
            · rw [hng] at hbl
              have hp := pI_of (by omega) hd (n : Int) (by rw [hng]; rfl)
              have t3 : ¬ (s.size : Int) < (s.size : Int) := by (rw [if_neg (by decide)] at hbl; omega)
              have hc := hid (fun w => spec_l1Num (n : Int) w (by omega) (by omega))
              clear hd hng hbl hTl Hd
              by_cases he : itoaS (n : Int) = s
              · have te := str_yes he
                rw [if_pos he] at hp
                have Hp := hid hp
                clear he hp
                go_wp2_with (go_at_call 111; refine (hc.out _).mono ?_; rintro e w' ⟨rfl, z1, rfl⟩)
                all_goals (go_ret2; exact ⟨by rw [Hp.out]; rfl, (by repeat' (first | exact Ext.refl _ | assumption | refine Ext.alloc ?_ _ | refine Ext.ext ?_ _ | refine Ext.drew ?_ | refine Ext.drewN ?_ _))⟩)
              · have te := str_no he
                rw [if_neg he] at hp
                have Hp := hid hp
                clear he hp
                go_wp2_with (go_at_call 111; refine (hc.out _).mono ?_; rintro e w' ⟨rfl, z1, rfl⟩)
                all_goals (go_ret2; exact ⟨by rw [Hp.out]; rfl, (by repeat' (first | exact Ext.refl _ | assumption | refine Ext.alloc ?_ _ | refine Ext.ext ?_ _ | refine Ext.drew ?_ | refine Ext.drewN ?_ _))⟩)
            · obtain ⟨h1, h0⟩ := ngB_yes hng
              rw [hng] at hbl
              have hp := pI_of (by omega) hd (-(n : Int)) (by rw [hng]; rfl)
              have t3 : (s.size : Int) < (s.size : Int) := by (rw [if_pos rfl] at hbl; omega)
              have hc := hid (fun w => spec_l1Num (-(n : Int)) w (by omega) (by omega))
              have w1 : IntKind.i64.wrap (-(n : Int)) = -(n : Int) := IntWalk.i64_in _ (by omega)
              clear hd hng hbl hTl Hd h1 h0
              by_cases he : itoaS (-(n : Int)) = s
              · have te := str_yes he
                rw [if_pos he] at hp
                have Hp := hid hp
                clear he hp
                go_wp2_with (go_at_call 111; refine (hc.out _).mono ?_; rintro e w' ⟨rfl, z1, rfl⟩)
                all_goals (go_ret2; exact ⟨by rw [Hp.out]; rfl, (by repeat' (first | exact Ext.refl _ | assumption | refine Ext.alloc ?_ _ | refine Ext.ext ?_ _ | refine Ext.drew ?_ | refine Ext.drewN ?_ _))⟩)
              · have te := str_no he
                rw [if_neg he] at hp
                have Hp := hid hp
                clear he hp
                go_wp2_with (go_at_call 111; refine (hc.out _).mono ?_; rintro e w' ⟨rfl, z1, rfl⟩)
                all_goals (go_ret2; exact ⟨by rw [Hp.out]; rfl, (by repeat' (first | exact Ext.refl _ | assumption | refine Ext.alloc ?_ _ | refine Ext.ext ?_ _ | refine Ext.drew ?_ | refine Ext.drewN ?_ _))⟩)
    · have t1 : ¬ (1 : Int) < (s.size : Int) := by omega
      have HT := hid hT
      clear hng0 h1 hT
      go_enter Tryz.func80, Tryz.ntmps80
      go_wp2_with fail
      have hT := HT.out
      have HTl : Hid (s.size = (bdL s).length) := by (show _ = _; rw [← hT]; simp)
      have hin := hid (fun w => spec_l1In s.size 1 6 w)
      have Ht := hid hT
      have Hbl := hid (bdL_len s)
      have htl : s.data.toList.length = s.size := by simp
      have Htl := hid htl
      clear hT htl
      cases e1 : inB s.size 1 6
      · have hp : pI s = none := pI_bad (by rw [← HTl.out]; intro hh; rw [inB_iff.2 (by omega)] at e1; cases e1)
        rw [e1] at hin
        have Hp := hid hp
        clear e1 hp
        go_wp2_with (go_at_call 63; refine (hin.out _).mono ?_; rintro e w' ⟨rfl, rfl⟩)
        go_ret2
        exact ⟨by rw [Hp.out]; rfl, (by repeat' (first | exact Ext.refl _ | assumption | refine Ext.alloc ?_ _ | refine Ext.ext ?_ _ | refine Ext.drew ?_ | refine Ext.drewN ?_ _))⟩
      · have h6 := inB_iff.1 e1
        rw [e1] at hin
        clear e1
        go_wp2_with (go_at_call 63; refine (hin.out _).mono ?_; rintro e w' ⟨rfl, rfl⟩)
        go_loopw [6, 5] (fun v6 v5 wr => ∃ (k n : Nat), k ≤ s.size ∧ v6 = .int .i64 k ∧ v5 = .int .i64 n ∧ Hid (Lib.decFrom 0 (s.data.toList.take k) = some n) ∧ n < 1000000 ∧ Ext w wr) (fun v6 _ _ => s.size - (intOf v6).toNat)
        case atStart => exact ⟨0, 0, Nat.zero_le _, rfl, rfl, rfl, by omega, (by repeat' (first | exact Ext.refl _ | assumption | refine Ext.alloc ?_ _ | refine Ext.ext ?_ _ | refine Ext.drew ?_ | refine Ext.drewN ?_ _))⟩
        case round =>
          obtain ⟨k, n, hk, rfl, rfl, Hd, hn6, z, rfl⟩ := hrel
          by_cases hlt : k < s.size
          · have hb := byteS s k hlt
            have hg : s.data.toList[k]? = some s[k] := by rw [hb, List.getD_eq_getElem?_getD, List.getElem?_eq_getElem (by rw [Htl.out]; exact hlt)]; rfl
            by_cases h1 : 48 ≤ s[k].toNat
            · have t1 : decide ((s[k].toNat : Int) < 48) = false := by simp; omega
              by_cases h2 : s[k].toNat ≤ 57
              · have t2 : decide ((57 : Int) < (s[k].toNat : Int)) = false := by simp; omega
                have hdv : Lib.digitVal s[k] = some (s[k].toNat - 48) := by rw [Lib.digitVal, if_pos ⟨h1, h2⟩]
                have hst := Lib.decFrom_take s.data.toList k 0 n s[k] _ Hd.out hg hdv
                have hlt6 := dec_small hst (by omega)
                obtain ⟨D, hD⟩ : ∃ D, s[k].toNat - 48 = D := ⟨_, rfl⟩
                rw [hD] at hst hlt6
                have Hst := hid hst
                have hD2 : (s[k].toNat : Int) - 48 = (D : Int) := by omega
                have HD := hid hD2
                have d9 : D ≤ 9 := by omega
                clear hb hg hst hdv hD Hd hD2
                go_wp2
                go_roundw
                case rel => exact ⟨k + 1, n * 10 + D, by omega, by go_num, by have := HD.out; congr 1; omega, Hst.out, hlt6, (by repeat' (first | exact Ext.refl _ | assumption | refine Ext.alloc ?_ _ | refine Ext.ext ?_ _ | refine Ext.drew ?_ | refine Ext.drewN ?_ _))⟩
                case measure => simp [intOf]; omega
              · have t2 : decide ((57 : Int) < (s[k].toNat : Int)) = true := by simp; omega
                have hp : pI s = none := pI_nondigit (k := k) (b := s[k]) (by rw [← Ht.out]; exact hg) (by omega)
                have Hp := hid hp
                clear hp hg hb
                go_wp2
                go_ret2
                exact ⟨by rw [Hp.out]; rfl, (by repeat' (first | exact Ext.refl _ | assumption | refine Ext.alloc ?_ _ | refine Ext.ext ?_ _ | refine Ext.drew ?_ | refine Ext.drewN ?_ _))⟩
            · have t1 : decide ((s[k].toNat : Int) < 48) = true := by simp; omega
              have hp : pI s = none := pI_nondigit (k := k) (b := s[k]) (by rw [← Ht.out]; exact hg) (by omega)
              have Hp := hid hp
              clear hp hg hb
              go_wp2
              go_ret2
              exact ⟨by rw [Hp.out]; rfl, (by repeat' (first | exact Ext.refl _ | assumption | refine Ext.alloc ?_ _ | refine Ext.ext ?_ _ | refine Ext.drew ?_ | refine Ext.drewN ?_ _))⟩
          · obtain rfl : k = s.size := by omega
            have hd : Lib.decFrom 0 (bdL s) = some n := by
              have := Hd.out
              rwa [List.take_of_length_le (by rw [Htl.out]; exact Nat.le_refl _), Ht.out] at this
            have hTl := HTl.out
            have hbl := Hbl.out
            cases hng : ngB s
            · rw [hng] at hbl
              have hp := pI_of (by omega) hd (n : Int) (by rw [hng]; rfl)
              have t3 : ¬ (s.size : Int) < (s.size : Int) := by (rw [if_neg (by decide)] at hbl; omega)
              have hc := hid (fun w => spec_l1Num (n : Int) w (by omega) (by omega))
              clear hd hng hbl hTl Hd
              by_cases he : itoaS (n : Int) = s
              · have te := str_yes he
                rw [if_pos he] at hp
                have Hp := hid hp
                clear he hp
                go_wp2_with (go_at_call 111; refine (hc.out _).mono ?_; rintro e w' ⟨rfl, z1, rfl⟩)
                all_goals (go_ret2; exact ⟨by rw [Hp.out]; rfl, (by repeat' (first | exact Ext.refl _ | assumption | refine Ext.alloc ?_ _ | refine Ext.ext ?_ _ | refine Ext.drew ?_ | refine Ext.drewN ?_ _))⟩)
              · have te := str_no he
                rw [if_neg he] at hp
                have Hp := hid hp
                clear he hp
                go_wp2_with (go_at_call 111; refine (hc.out _).mono ?_; rintro e w' ⟨rfl, z1, rfl⟩)
                all_goals (go_ret2; exact ⟨by rw [Hp.out]; rfl, (by repeat' (first | exact Ext.refl _ | assumption | refine Ext.alloc ?_ _ | refine Ext.ext ?_ _ | refine Ext.drew ?_ | refine Ext.drewN ?_ _))⟩)
            · obtain ⟨h1, h0⟩ := ngB_yes hng
              rw [hng] at hbl
              have hp := pI_of (by omega) hd (-(n : Int)) (by rw [hng]; rfl)
              have t3 : (s.size : Int) < (s.size : Int) := by (rw [if_pos rfl] at hbl; omega)
              have hc := hid (fun w => spec_l1Num (-(n : Int)) w (by omega) (by omega))
              have w1 : IntKind.i64.wrap (-(n : Int)) = -(n : Int) := IntWalk.i64_in _ (by omega)
              clear hd hng hbl hTl Hd h1 h0
              by_cases he : itoaS (-(n : Int)) = s
              · have te := str_yes he
                rw [if_pos he] at hp
                have Hp := hid hp
                clear he hp
                go_wp2_with (go_at_call 111; refine (hc.out _).mono ?_; rintro e w' ⟨rfl, z1, rfl⟩)
                all_goals (go_ret2; exact ⟨by rw [Hp.out]; rfl, (by repeat' (first | exact Ext.refl _ | assumption | refine Ext.alloc ?_ _ | refine Ext.ext ?_ _ | refine Ext.drew ?_ | refine Ext.drewN ?_ _))⟩)
              · have te := str_no he
                rw [if_neg he] at hp
                have Hp := hid hp
                clear he hp
                go_wp2_with (go_at_call 111; refine (hc.out _).mono ?_; rintro e w' ⟨rfl, z1, rfl⟩)
                all_goals (go_ret2; exact ⟨by rw [Hp.out]; rfl, (by repeat' (first | exact Ext.refl _ | assumption | refine Ext.alloc ?_ _ | refine Ext.ext ?_ _ | refine Ext.drew ?_ | refine Ext.drewN ?_ _))⟩)
  · obtain ⟨h1, h0⟩ := ngB_yes hng0
    have HT : Hid ((s.extract 1 s.size).data.toList = bdL s) := by (show _ = _; rw [bdL, hng0, Lib.extract_to_end]; rfl)
    have t1 : (1 : Int) < (s.size : Int) := by omega
    have tb' : (((s[0]'(by omega)).toNat : Int) == 45) = true := byte_test (b := 45) ((byteS s 0 (by omega)).trans h0)
    clear h0 hng0
    go_enter Tryz.func80, Tryz.ntmps80
    go_wp2_with fail
    have hT := HT.out
    have hsz : s.size - 1 = (s.extract 1 s.size).size := by simp
    rw [hsz]
    clear HT hsz
    generalize s.extract 1 s.size = T at *
    have HTl : Hid (T.size = (bdL s).length) := by (show _ = _; rw [← hT]; simp)
    have hin := hid (fun w => spec_l1In T.size 1 6 w)
    have Ht := hid hT
    have Hbl := hid (bdL_len s)
    have htl : T.data.toList.length = T.size := by simp
    have Htl := hid htl
    clear hT htl
    cases e1 : inB T.size 1 6
    · have hp : pI s = none := pI_bad (by rw [← HTl.out]; intro hh; rw [inB_iff.2 (by omega)] at e1; cases e1)
      rw [e1] at hin
      have Hp := hid hp
      clear e1 hp
      go_wp2_with (go_at_call 63; refine (hin.out _).mono ?_; rintro e w' ⟨rfl, rfl⟩)
      go_ret2
      exact ⟨by rw [Hp.out]; rfl, (by repeat' (first | exact Ext.refl _ | assumption | refine Ext.alloc ?_ _ | refine Ext.ext ?_ _ | refine Ext.drew ?_ | refine Ext.drewN ?_ _))⟩
    · have h6 := inB_iff.1 e1
      rw [e1] at hin
      clear e1
      go_wp2_with (go_at_call 63; refine (hin.out _).mono ?_; rintro e w' ⟨rfl, rfl⟩)
      go_loopw [6, 5] (fun v6 v5 wr => ∃ (k n : Nat), k ≤ T.size ∧ v6 = .int .i64 k ∧ v5 = .int .i64 n ∧ Hid (Lib.decFrom 0 (T.data.toList.take k) = some n) ∧ n < 1000000 ∧ Ext w wr) (fun v6 _ _ => T.size - (intOf v6).toNat)
      case atStart => exact ⟨0, 0, Nat.zero_le _, rfl, rfl, rfl, by omega, (by repeat' (first | exact Ext.refl _ | assumption | refine Ext.alloc ?_ _ | refine Ext.ext ?_ _ | refine Ext.drew ?_ | refine Ext.drewN ?_ _))⟩
      case round =>
        obtain ⟨k, n, hk, rfl, rfl, Hd, hn6, z, rfl⟩ := hrel
        by_cases hlt : k < T.size
        · have hb := byteS T k hlt
          have hg : T.data.toList[k]? = some T[k] := by rw [hb, List.getD_eq_getElem?_getD, List.getElem?_eq_getElem (by rw [Htl.out]; exact hlt)]; rfl
          by_cases h1 : 48 ≤ T[k].toNat
          · have t1 : decide ((T[k].toNat : Int) < 48) = false := by simp; omega
            by_cases h2 : T[k].toNat ≤ 57
            · have t2 : decide ((57 : Int) < (T[k].toNat : Int)) = false := by simp; omega
              have hdv : Lib.digitVal T[k] = some (T[k].toNat - 48) := by rw [Lib.digitVal, if_pos ⟨h1, h2⟩]
              have hst := Lib.decFrom_take T.data.toList k 0 n T[k] _ Hd.out hg hdv
              have hlt6 := dec_small hst (by omega)
              obtain ⟨D, hD⟩ : ∃ D, T[k].toNat - 48 = D := ⟨_, rfl⟩
              rw [hD] at hst hlt6
              have Hst := hid hst
              have hD2 : (T[k].toNat : Int) - 48 = (D : Int) := by omega
              have HD := hid hD2
              have d9 : D ≤ 9 := by omega
              clear hb hg hst hdv hD Hd hD2
              go_wp2
              go_roundw
              case rel => exact ⟨k + 1, n * 10 + D, by omega, by go_num, by have := HD.out; congr 1; omega, Hst.out, hlt6, (by repeat' (first | exact Ext.refl _ | assumption | refine Ext.alloc ?_ _ | refine Ext.ext ?_ _ | refine Ext.drew ?_ | refine Ext.drewN ?_ _))⟩
              case measure => simp [intOf]; omega
            · have t2 : decide ((57 : Int) < (T[k].toNat : Int)) = true := by simp; omega
              have hp : pI s = none := pI_nondigit (k := k) (b := T[k]) (by rw [← Ht.out]; exact hg) (by omega)
              have Hp := hid hp
              clear hp hg hb
              go_wp2
              go_ret2
              exact ⟨by rw [Hp.out]; rfl, (by repeat' (first | exact Ext.refl _ | assumption | refine Ext.alloc ?_ _ | refine Ext.ext ?_ _ | refine Ext.drew ?_ | refine Ext.drewN ?_ _))⟩
          · have t1 : decide ((T[k].toNat : Int) < 48) = true := by simp; omega
            have hp : pI s = none := pI_nondigit (k := k) (b := T[k]) (by rw [← Ht.out]; exact hg) (by omega)
            have Hp := hid hp
            clear hp hg hb
            go_wp2
            go_ret2
            exact ⟨by rw [Hp.out]; rfl, (by repeat' (first | exact Ext.refl _ | assumption | refine Ext.alloc ?_ _ | refine Ext.ext ?_ _ | refine Ext.drew ?_ | refine Ext.drewN ?_ _))⟩
        · obtain rfl : k = T.size := by omega
          have hd : Lib.decFrom 0 (bdL s) = some n := by
            have := Hd.out
            rwa [List.take_of_length_le (by rw [Htl.out]; exact Nat.le_refl _), Ht.out] at this
          have hTl := HTl.out
          have hbl := Hbl.out
          cases hng : ngB s
          · rw [hng] at hbl
            have hp := pI_of (by omega) hd (n : Int) (by rw [hng]; rfl)
            have t3 : ¬ (T.size : Int) < (s.size : Int) := by (rw [if_neg (by decide)] at hbl; omega)
            have hc := hid (fun w => spec_l1Num (n : Int) w (by omega) (by omega))
            clear hd hng hbl hTl Hd
            by_cases he : itoaS (n : Int) = s
            · have te := str_yes he
              rw [if_pos he] at hp
              have Hp := hid hp
              clear he hp
              go_wp2_with (go_at_call 111; refine (hc.out _).mono ?_; rintro e w' ⟨rfl, z1, rfl⟩)
              all_goals (go_ret2; exact ⟨by rw [Hp.out]; rfl, (by repeat' (first | exact Ext.refl _ | assumption | refine Ext.alloc ?_ _ | refine Ext.ext ?_ _ | refine Ext.drew ?_ | refine Ext.drewN ?_ _))⟩)
            · have te := str_no he
              rw [if_neg he] at hp
              have Hp := hid hp
              clear he hp
              go_wp2_with (go_at_call 111; refine (hc.out _).mono ?_; rintro e w' ⟨rfl, z1, rfl⟩)
              all_goals (go_ret2; exact ⟨by rw [Hp.out]; rfl, (by repeat' (first | exact Ext.refl _ | assumption | refine Ext.alloc ?_ _ | refine Ext.ext ?_ _ | refine Ext.drew ?_ | refine Ext.drewN ?_ _))⟩)
          · obtain ⟨h1, h0⟩ := ngB_yes hng
            rw [hng] at hbl
            have hp := pI_of (by omega) hd (-(n : Int)) (by rw [hng]; rfl)
            have t3 : (T.size : Int) < (s.size : Int) := by (rw [if_pos rfl] at hbl; omega)
            have hc := hid (fun w => spec_l1Num (-(n : Int)) w (by omega) (by omega))
            have w1 : IntKind.i64.wrap (-(n : Int)) = -(n : Int) := IntWalk.i64_in _ (by omega)
            clear hd hng hbl hTl Hd h1 h0
            by_cases he : itoaS (-(n : Int)) = s
            · have te := str_yes he
              rw [if_pos he] at hp
              have Hp := hid hp
              clear he hp
              go_wp2_with (go_at_call 111; refine (hc.out _).mono ?_; rintro e w' ⟨rfl, z1, rfl⟩)
              all_goals (go_ret2; exact ⟨by rw [Hp.out]; rfl, (by repeat' (first | exact Ext.refl _ | assumption | refine Ext.alloc ?_ _ | refine Ext.ext ?_ _ | refine Ext.drew ?_ | refine Ext.drewN ?_ _))⟩)
            · have te := str_no he
              rw [if_neg he] at hp
              have Hp := hid hp
              clear he hp
              go_wp2_with (go_at_call 111; refine (hc.out _).mono ?_; rintro e w' ⟨rfl, z1, rfl⟩)
              all_goals (go_ret2; exact ⟨by rw [Hp.out]; rfl, (by repeat' (first | exact Ext.refl _ | assumption | refine Ext.alloc ?_ _ | refine Ext.ext ?_ _ | refine Ext.drew ?_ | refine Ext.drewN ?_ _))⟩)
end Go.Proofs.YtljknhocfjpolaaGreatDoor
