/- FnMessages: the loop over the fragments, and the law. -/
import Derived.Test.YtnngklclehffhaaGreatDoorKWMsW
namespace Go.Proofs.YtnngklclehffhaaGreatDoor
open Go.RowKit
set_option maxHeartbeats 4000000
set_option maxRecDepth 100000
/-- What stands at the head of a round: the pendings. -/
def MsR (w wr : World) (v : Value) (ps : List Pnd) : Prop := (∃ es, PRd wr v ps es) ∧ (∃ q c, v = .slice q ps.length c ∧ ps.length ≤ c) ∧ Ext w wr
theorem okL_sm {ps : List Pnd} (h : okL ps = true) : ps.length ≤ 1048576 ∧ ∀ i, i < ps.length → (ps.getD i .z).d.length ≤ 1048576 ∧ (ps.getD i .z).h.length ≤ 1048576 ∧ ∀ j, j < (ps.getD i .z).d.length → ((ps.getD i .z).d.getD j ByteArray.empty).size ≤ 1048576 := by
  have h4 := okL_len h
  refine ⟨by omega, fun i hi => ?_⟩
  have hS := (okL_at h i hi).1
  have hl := okS_len hS
  exact ⟨by omega, by omega, fun j hj => Nat.le_trans (itm_size (okS_all hS _ (getD_mem' hj))) (by decide)⟩
theorem POw.sl {w : World} {lo hi : Nat} {v : Value} {ps : List Pnd} {es : List Pe} (h : POw w lo hi v ps es) : ∃ p c, v = .slice p ps.length c ∧ ps.length ≤ c := by
  rcases h.form with ⟨rfl, rfl⟩ | ⟨g, c, rfl, h1, -⟩
  · exact ⟨none, 0, rfl, Nat.le_refl _⟩
  · exact ⟨_, c, rfl, h1⟩
theorem fra_at {w : World} {b off n c : Nat} {L : List Fra} (h : Rd w 4 (.slice (some ⟨b, off, none⟩) n c) L.length (L.flatMap Fra.cs)) (i : Nat) (hi : i < L.length) :
    w.cell? ⟨b, off + i * 4, none⟩ = some (.int .i64 (L.getD i .z).n) ∧ w.cell? ⟨b, off + i * 4 + 1, none⟩ = some (.int .i64 (L.getD i .z).p) ∧ w.cell? ⟨b, off + i * 4 + 2, none⟩ = some (.int .i64 (L.getD i .z).q) ∧ w.cell? ⟨b, off + i * 4 + 3, none⟩ = some (.string (L.getD i .z).d) := by
  obtain ⟨-, p, cap, e, h4⟩ := h
  cases e
  obtain ⟨b', off', e, h6⟩ := h4.resolve_left (by omega)
  cases e
  exact elem4 Fra.cs .z (fun _ => rfl) L h6 i hi
theorem rd_sl {w : World} {k n : Nat} {v : Value} {cs : List Value} (h : Rd w k v n cs) : ∃ p c, v = .slice p n c ∧ (n = 0 ∨ ∃ b off, p = some ⟨b, off, none⟩) := by
  obtain ⟨-, p, c, e, h4⟩ := h
  exact ⟨p, c, e, h4.imp id fun ⟨b, off, e, _⟩ => ⟨b, off, e⟩⟩
-- part 1
theorem messages_law (bs : List Int) (v : Value) (w : World) (h : Rd w 1 v bs.length (vBytes bs)) (hv : Vrs w) (ht : Tab w) (hm : bs.length ≤ maxLen) (hbb : ∀ x ∈ bs, 0 ≤ x ∧ x ≤ 255) :
    Calls Tryz.prog 3 #[v] w fun e w' => e = .returned (.bool true) ∧ Ext w w' := by
  have Hr := hid h
  have Hv := hid hv
  have Ht := hid ht
  unfold maxLen at hm
  obtain ⟨-, p, cap, rfl, -⟩ := h
  clear hv ht
  by_cases h2 : 65536 < bs.length
  · have t0 : (65536 : Int) < (bs.length : Int) := by omega
    go_enter Tryz.func3, Tryz.ntmps3
    go_wp2
    go_ret
    exact ⟨rfl, (by repeat' (first | exact Ext.refl _ | assumption | refine Ext.alloc ?_ _ | refine Ext.ext ?_ _ | refine Ext.drew ?_ | refine Ext.drewN ?_ _))⟩
  have hb : Bts bs := ⟨by omega, hbb⟩
  have dd := hid (fun w h => spec_DrawSplitMessage hb (v := .slice p bs.length cap) w h)
  have hn : Hid (MsTail 22 p bs.length cap w) := msg_p2 hb Hr Hv Ht (msg_p3 hb Hr Hv Ht)
  clear hb hbb Hv Ht
  go_enter Tryz.func3, Tryz.ntmps3
  go_wp2_with fail
  go_at_call 4
  refine (laws_vBig bs.length p cap _).mono ?_
  rintro e w' ⟨rfl, rfl⟩
  have t1 : decide ((65536 : Int) < (bs.length : Int)) = false := by simp; omega
  go_wp2_with fail
  go_at_call 5
  refine (dd.out _ Hr.out).mono ?_
  rintro e w1 ⟨n, s, z, rfl, hs, hx⟩
  have L0 := hid hx
  clear hx dd t1
  have ci := hid (fun W => impl_SplitMessage n s z W (by omega))
  have cs := hid (fun W => spec_SplitMessage n s z W (by omega))
  have st := msg_steps n s z
  have h9 := splD_len n s z
  generalize splB n s z = B at *
  generalize splD n s z = L at *
  obtain ⟨S, s1, s2, s3, s4⟩ := st
  have HS := hid s4
  have HO := hid s3
  have HE := hid (And.intro s1 s2)
  clear s1 s2 s3 s4
  go_wp2_with fail
  go_at_call 6
  refine (ci.out _).mono ?_
  rintro e w2 ⟨a, rfl, ho, hx⟩
  obtain ⟨ap, ac, rfl, ha⟩ := rd_sl (Rd.own ho)
  have L1 := hid (And.intro (L0.out.trans hx) (Rd.own ho))
  clear hx ho L0 ci
  go_wp2_with fail
  go_at_call 7
  refine (cs.out _).mono ?_
  rintro e w3 ⟨b, rfl, ho, hx⟩
  obtain ⟨bp, bc, rfl, hb⟩ := rd_sl (Rd.own ho)
  have L2 := hid (And.intro (L1.out.1.trans hx) (And.intro (L1.out.2.ext hx) (Rd.own ho)))
  clear hx ho L1 cs
  have HA := hid ha
  have HB := hid hb
  have e1 : IntKind.i64.wrap ((L.length : Int) - 1) = (L.length : Int) - 1 := IntWalk.i64_in _ (by omega)
  clear ha hb
  go_wp2_with fail
  rename_i K hK0
  have hK := hid (fun (a : Act) (wc : World) (h1 : Ext w wc) (h2 : a.defers = []) (h3 : a.tmps.size = 201) (h4 : a.tmps.getD 0 undef = .slice p bs.length cap) => hK0 a wc (hn.out a wc h1 h2 h3 h4))
  clear hK0 hn
  go_loopw [11, 10] (fun v11 v10 wr => ∃ (j : Nat) (x10 : Value) (yr : World), j ≤ L.length ∧ v11 = .int .i64 ((j : Int) - 1) ∧ x10 = v10 ∧ yr = wr ∧ Hid (MsR w3 yr x10 (S j))) (fun v11 _ _ => (intOf v11 + 1).toNat)
  case atStart =>
    refine ⟨L.length, _, _, Nat.le_refl _, rfl, rfl, rfl, ?_⟩
    rw [HE.out.1]
    exact ⟨⟨[], rfl, Rd.nil _ _ _ _, fun _ h => by cases h⟩, ⟨_, _, rfl, Nat.zero_le _⟩, (by repeat' (first | exact Ext.refl _ | assumption | refine Ext.alloc ?_ _ | refine Ext.ext ?_ _ | refine Ext.drew ?_ | refine Ext.drewN ?_ _))⟩
  case round =>
    obtain ⟨j, v10, wr, hj, rfl, rfl, rfl, HR⟩ := hrel
    obtain ⟨⟨es, hP⟩, ⟨q, c, rfl, hcap⟩, hx⟩ := HR.out
    have L3 := hid (And.intro (L2.out.1.trans hx) (And.intro (L2.out.2.1.ext hx) (And.intro (L2.out.2.2.ext hx) hP)))
    have HX3 := hid hx
    clear hx hP HR L2
    by_cases hlt : 0 < j
    · obtain ⟨i, rfl⟩ : ∃ i, j = i + 1 := ⟨j - 1, by omega⟩
      have hi : i < L.length := by omega
      obtain ⟨ab, ao, rfl⟩ := HA.out.resolve_left (by omega)
      obtain ⟨bb, bo, rfl⟩ := HB.out.resolve_left (by omega)
      obtain ⟨d, f0, f1, f2, f3, f4, f5, f6, f7⟩ := HS.out i hi
      have ca := fra_at L3.out.2.1 i hi
      have cb := fra_at L3.out.2.2.1 i hi
      rw [f0] at ca cb
      dsimp only at ca cb
      obtain ⟨a0, a1, a2, a3⟩ := ca
      obtain ⟨b0, b1, b2, b3⟩ := cb
      have hok := okL_sm (HO.out (i + 1))
      have hoS := hid (okL_sm (HO.out i))
      have iv := hid (fun W => impl_IsValidFragment n i L.length d W (by omega))
      rw [f2] at iv
      have ct := hid (fun W h => impl_TakeFragment (S (i + 1)) es q c n i L.length d W h hcap hok.1 hok.2 (by omega))
      rw [f3, f4, f5] at ct
      generalize tkS (S (i + 1)) n i L.length d = TS at ct f6
      have e2 : ((i + 1 : Nat) : Int) - 1 = (i : Int) := by omega
      rw [e2]
      have e3 : IntKind.i64.wrap ((i : Int) - 1) = (i : Int) - 1 := IntWalk.i64_in _ (by omega)
      have n0 : (0 : Int) ≤ (i : Int) := by omega
      have n1 : (i : Int) < (L.length : Int) := by omega
      have t1 : (d.toList == d.toList) = true := by simp
      have F6 := hid f6
      have F7 := hid f7
      clear f0 f1 f2 f3 f4 f5 f6 f7 e2 e1 hok hcap hs
      by_cases h0 : i = 0
      · have e0 : S i = [] := by rw [h0]; exact HE.out.2
        have t0 : ((i : Int) == 0) = true := by rw [beq_iff_eq]; omega
        rw [e0, decide_eq_true h0] at ct
        obtain rfl := F6.out h0
        have t2 : (TS.toList == TS.toList) = true := by simp
        have E0 := hid e0
        have H0 := hid h0
        clear e0 h0 F6 F7 hoS
        go_wp2_with fail
        refine wp_region_ext (by kernel_rfl) (by kernel_rfl) ?_
        repeat (go_big_quiet_step ((first | (go_at_call 8; exact Calls.quiet_ext (iv.out _)))))
        refine wpQuiet_nil ?_
        rintro _ ⟨zq, rfl⟩
        go_wp2_with fail
        go_at_call 9
        refine (ct.out _ (L3.out.2.2.2.ext (by repeat' (first | exact Ext.refl _ | assumption | refine Ext.alloc ?_ _ | refine Ext.ext ?_ _ | refine Ext.drew ?_ | refine Ext.drewN ?_ _)))).mono ?_
        rintro e w5 ⟨y, ds, rfl, ho, hx⟩
        obtain ⟨yp, yc, rfl, hyc⟩ := ho.sl
        have hX5 := hid (HX3.out.trans ((Ext.ext (Ext.refl wr) zq).trans hx))
        have HP5 := hid ho.rd
        clear a0 a1 a2 a3 b0 b1 b2 b3 ho hx L3 HX3 ct iv
        go_wp2_with fail
        go_roundw
        case rel => exact ⟨i, _, _, by omega, rfl, rfl, rfl, ⟨by rw [E0.out]; exact ⟨ds, HP5.out⟩, ⟨yp, yc, by rw [E0.out]; rfl, by rw [E0.out]; exact hyc⟩, hX5.out⟩⟩
        case measure => (simp [intOf]; try omega)
      · have t0 : ((i : Int) == 0) = false := by rw [beq_eq_false_iff_ne]; omega
        rw [decide_eq_false h0] at ct
        obtain ⟨e4, e5⟩ := F7.out (by omega)
        have t9 : (((lkL (S i) n).length : Int) == (i : Int)) = true := by rw [beq_iff_eq]; omega
        have E4 := hid e4
        clear e4 e5 F6 F7
        go_wp2_with fail
        refine wp_region_ext (by kernel_rfl) (by kernel_rfl) ?_
        repeat (go_big_quiet_step ((first | (go_at_call 8; exact Calls.quiet_ext (iv.out _)))))
        refine wpQuiet_nil ?_
        rintro _ ⟨zq, rfl⟩
        go_wp2_with fail
        go_at_call 9
        refine (ct.out _ (L3.out.2.2.2.ext (by repeat' (first | exact Ext.refl _ | assumption | refine Ext.alloc ?_ _ | refine Ext.ext ?_ _ | refine Ext.drew ?_ | refine Ext.drewN ?_ _)))).mono ?_
        rintro e w5 ⟨y, ds, rfl, ho, hx⟩
        obtain ⟨yp, yc, rfl, hyc⟩ := ho.sl
        have hX5 := hid (HX3.out.trans ((Ext.ext (Ext.refl wr) zq).trans hx))
        have HP5 := hid ho.rd
        have cl := hid (fun W h => impl_LackingParts (S i) ds yp yc n W h hyc hoS.out.1 hoS.out.2)
        rw [E4.out] at cl
        generalize lkL (S i) n = ML at *
        clear a0 a1 a2 a3 b0 b1 b2 b3 ho hx L3 HX3 ct iv hoS E4
        go_wp2_with fail
        go_at_call 10
        refine (cl.out _ HP5.out).mono ?_
        rintro e w6 ⟨m, rfl, ho, hx⟩
        obtain ⟨mp, mc, rfl⟩ := own_shape ho
        have hX6 := hid (hX5.out.trans hx)
        have HP6 := hid (HP5.out.ext hx)
        have HC := hid hyc
        clear ho hx hX5 HP5 cl hyc
        go_wp2_with fail
        go_roundw
        case rel => exact ⟨i, _, _, by omega, rfl, rfl, rfl, ⟨⟨ds, HP6.out⟩, ⟨yp, yc, rfl, HC.out⟩, hX6.out⟩⟩
        case measure => (simp [intOf]; try omega)
    · obtain rfl : j = 0 := by omega
      go_wp2_with fail
      exact hK.out _ _ L3.out.1 rfl rfl rfl
end Go.Proofs.YtnngklclehffhaaGreatDoor
