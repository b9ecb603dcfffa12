/- A packet decoded: the reference's side. -/
import Derived.Test.YtljknhocfjpolaaGreatDoorJ39
import Derived.Test.YtljknhocfjpolaaGreatDoorKWDp
namespace Go.Proofs.YtljknhocfjpolaaGreatDoor
open Go.RowKit
set_option maxHeartbeats 2000000
set_option maxRecDepth 100000
/-- The results' boxes. -/
def DeS (w W : World) : Prop := Ext w W ∧ W.heap[w.heap.size]? = some (.cells #[.int .i64 0, .int .i64 0, .int .i64 0, .int .i64 0, .string ⟨#[]⟩] 46 (0, 0)) ∧ W.heap[w.heap.size + 1]? = some (.cells #[.int .i64 0, .int .i64 0, .int .i64 0, .int .i64 0, .string ⟨#[]⟩] 46 (0, 0))
theorem DeS.ext {w W W' : World} (h : DeS w W) (hx : Ext W W') : DeS w W' := ⟨h.1.trans hx, blk_ext h.2.1 hx, blk_ext h.2.2 hx⟩
/-- And the packet's box at P. -/
def DeP (w W : World) (P : Nat) (x m r l : Int) (d : ByteArray) : Prop := DeS w W ∧ W.heap[P]? = some (.cells #[.int .i64 x, .int .i64 m, .int .i64 r, .int .i64 l, .string d] 46 (0, 0)) ∧ w.heap.size + 1 < P
theorem DeP.ext {w W W' : World} {P : Nat} {x m r l : Int} {d : ByteArray} (h : DeP w W P x m r l d) (hx : Ext W W') : DeP w W' P x m r l d := ⟨h.1.ext hx, blk_ext h.2.1 hx, h.2.2⟩
theorem DeP.put {w W : World} {P : Nat} {x m r l : Int} {d : ByteArray} (h : DeP w W P x m r l d) (d' : ByteArray) : DeP w (W.setCell ⟨P, 4, none⟩ (.string d')) P x m r l d' := by
  have hg := grownBy_set W ⟨P, 4, none⟩ (.string d')
  have hP := h.2.2
  exact ⟨⟨h.1.1.setCell (by dsimp only; omega) _, blk_grow h.1.2.1 hg (fun e => by have := Option.some.inj e; dsimp only at this; omega), blk_grow h.1.2.2 hg (fun e => by have := Option.some.inj e; dsimp only at this; omega)⟩, by simpa using heap_setCell_same W P 4 _ _ (.string d') h.2.1, hP⟩
theorem byt_snoc (L : List Int) (k : Nat) (h : 0 ≤ L.getD (8 + k) 0 ∧ L.getD (8 + k) 0 ≤ 255) : Go.RowKit.vBytes (datTo L (k + 1)).data.toList = Go.RowKit.vBytes (datTo L k).data.toList ++ [.int .u8 (L.getD (8 + k) 0)] := by
  rw [datTo_snoc, ByteArray.data_append, Array.toList_append, mkS_data, Go.RowKit.vBytes, List.map_append]
  congr 1
  obtain ⟨a, ha⟩ := Int.eq_ofNat_of_zero_le h.1
  rw [ha, Int.toNat_natCast]
  show [Value.int .u8 ((UInt8.ofNat a).toNat : Int)] = _
  rw [UInt8.toNat_ofNat', Nat.mod_eq_of_lt (by omega)]
theorem spec_l4Decode (s : ByteArray) (w : World) (h : s.size ≤ 1048576) :
    Calls Tryz.prog 81 #[.string s] w fun e w' => ∃ (c m r l : Int) (d : ByteArray), e = .returned (.tuple #[.agg #[.int .i64 c, .int .i64 m, .int .i64 r, .int .i64 l, .string d], .bool (DPb s)]) ∧
      (DPb s = true → c = pkC (ocs s) ∧ m = pkM (ocs s) ∧ r = pkR (ocs s) ∧ l = pkE (ocs s) ∧ d = pkD (ocs s)) ∧ d.size ≤ s.size ∧ Ext w w' := by
  have m0 : (s.size : Int).tmod 2 = (s.size : Int) % 2 := Int.tmod_eq_emod_of_nonneg (by omega)
  have H0 : Hid (DeS w ((w.alloc (.cells #[.int .i64 0, .int .i64 0, .int .i64 0, .int .i64 0, .string ⟨#[]⟩] 46)).alloc (.cells #[.int .i64 0, .int .i64 0, .int .i64 0, .int .i64 0, .string ⟨#[]⟩] 46))) := ⟨(by repeat' (first | exact Ext.refl _ | assumption | refine Ext.alloc ?_ _ | refine Ext.ext ?_ _ | refine Ext.drew ?_ | refine Ext.drewN ?_ _)), heap_old (heap_at _ rfl) _, heap_at _ (by simp)⟩
  have hsz0 : ((w.alloc (.cells #[.int .i64 0, .int .i64 0, .int .i64 0, .int .i64 0, .string ⟨#[]⟩] 46)).alloc (.cells #[.int .i64 0, .int .i64 0, .int .i64 0, .int .i64 0, .string ⟨#[]⟩] 46)).heap.size = w.heap.size + 2 := by simp
  by_cases he : s.size % 2 = 1
  · have m1 : (s.size : Int).tmod 2 = 1 := by omega
    have m2 : IntKind.i64.wrap ((s.size : Int).tmod 2) = 1 := by rw [m1]; rfl
    have HD : Hid (DPb s = false) := by show _ = _; rw [DPb, hexB_odd he]; rfl
    clear he m0
    go_enter Tryz.func81, Tryz.ntmps81
    go_upto_region 2 with fail
    generalize (w.alloc (.cells #[.int .i64 0, .int .i64 0, .int .i64 0, .int .i64 0, .string ⟨#[]⟩] 46)).alloc (.cells #[.int .i64 0, .int .i64 0, .int .i64 0, .int .i64 0, .string ⟨#[]⟩] 46) = W0 at *
    obtain ⟨⟨b0, b1, b2, b3, b4⟩, ⟨f0, f1, f2, f3, f4⟩, hbl⟩ := box5 H0.out.2.1
    obtain ⟨⟨y0, y1, y2, y3, y4⟩, -, -⟩ := box5 H0.out.2.2
    go_wp2
    refine bodyPost_ret (results_ct rfl (box5_set (t := 46) H0.out.2.1 _ _ _ _ _) Tryz.underlying46 rfl (by kernel_rfl) rfl rfl) rfl ⟨0, 0, 0, 0, ⟨#[]⟩, ?_⟩
    rw [HD.out]
    exact ⟨rfl, (fun h => by cases h), Nat.zero_le _, ((((H0.out.1.setCell (Nat.le_refl _) _).setCell (Nat.le_refl _) _).setCell (Nat.le_refl _) _).setCell (Nat.le_refl _) _).setCell (Nat.le_refl _) _⟩
  have m1 : (s.size : Int).tmod 2 = 0 := by omega
  have m2 : IntKind.i64.wrap ((s.size : Int).tmod 2) = 0 := by rw [m1]; rfl
  have He := hid (show s.size % 2 = 0 by omega)
  have hw := hid (fun w => spec_l1In s.size 20 36 w)
  clear m0 he
  by_cases hin : 20 ≤ s.size ∧ s.size ≤ 36
  · have e1 : inB (s.size : Int) 20 36 = true := inB_iff.2 (by omega)
    rw [e1] at hw
    have hl1 := hin.1
    have hl2 := hin.2
    obtain ⟨i0, hi, hz0, hz1, hz2⟩ := info_parts infoInt
    clear e1 hin
    go_enter Tryz.func81, Tryz.ntmps81
    go_upto_region 2 with fail
    generalize (w.alloc (.cells #[.int .i64 0, .int .i64 0, .int .i64 0, .int .i64 0, .string ⟨#[]⟩] 46)).alloc (.cells #[.int .i64 0, .int .i64 0, .int .i64 0, .int .i64 0, .string ⟨#[]⟩] 46) = W0 at *
    have U0 : Hid (NuW W0 (W0.alloc (.cells #[] 3)) (.slice (some ⟨W0.heap.size, 0, none⟩) 0 0) (octsTo s 0)) := ⟨(by repeat' (first | exact Ext.refl _ | assumption | refine Ext.alloc ?_ _ | refine Ext.ext ?_ _ | refine Ext.drew ?_ | refine Ext.drewN ?_ _)), World.ownsRow_lit W0 #[] 0 (Nat.le_refl _) (Nat.zero_le _) rfl⟩
    have HSZ := hid hsz0
    clear hsz0
    go_wp2_with (go_at_call 63; refine (hw.out _).mono ?_; rintro e w' ⟨rfl, rfl⟩)
    go_loopw [6, 5] (fun v5 v4 wr => ∃ (j k : Nat) (u : Value), j ≤ s.size ∧ v5 = .int .i64 j ∧ v4 = u ∧ Hid (j = 2 * k) ∧ Hid ((∀ i, i < j → 0 ≤ hexV (bt s i)) ∧ NuW W0 wr u (octsTo s k))) (fun v5 _ _ => s.size - (intOf v5).toNat)
    case atStart => exact ⟨0, 0, _, Nat.zero_le _, rfl, rfl, rfl, fun i hi => absurd hi (Nat.not_lt_zero _), U0.out⟩
    case round =>
      obtain ⟨j, k, u, hj, rfl, rfl, Hj, HR⟩ := hrel
      obtain ⟨up, uc, rfl⟩ := own_shape HR.out.2.2
      have hol : (octsTo s k).length ≤ s.size := by rw [octsTo_len]; have := Hj.out; omega
      clear U0
      by_cases hlt : j < s.size
      · have hlt1 : j + 1 < s.size := by have := Hj.out; have := He.out; omega
        have c0 := hid (fun w => spec_l4Digit s[j] w)
        have c1 := hid (fun w => spec_l4Digit s[j + 1] w)
        have e1 : IntKind.i64.wrap ((j : Int) + 1) = (j : Int) + 1 := IntWalk.i64_in _ (by omega)
        have hp : hexV s[j] = hexV (bt s j) := by rw [bt_at]
        have hq : hexV s[j + 1] = hexV (bt s (j + 1)) := by rw [bt_at]
        have bp := hexV_bd s[j]
        have bq := hexV_bd s[j + 1]
        have hno1 := hid (fun h => hexB_bad (s := s) j hlt h)
        have hno2 := hid (fun h => hexB_bad (s := s) (j + 1) hlt1 h)
        have hst : octAt s k = 16 * hexV s[j] + hexV s[j + 1] := by rw [octAt, ← Hj.out, hp, hq]
        have hsn := octsTo_snoc s k
        rw [hst] at hsn
        rw [← hp] at hno1
        rw [← hq] at hno2
        have Hsn := hid hsn
        have Hall := hid (fun (h1 : 0 ≤ hexV s[j]) (h2 : 0 ≤ hexV s[j + 1]) => show ∀ i, i < j + 2 → 0 ≤ hexV (bt s i) from fun i hi => by
          rcases (show i < j ∨ i = j ∨ i = j + 1 by omega) with h | rfl | rfl
          · exact HR.out.1 i h
          · rwa [hp] at h1
          · rwa [hq] at h2)
        clear hsn hst hp hq
        generalize hexV s[j] = P at *
        generalize hexV s[j + 1] = Q at *
        have i0' : (0 : Int) ≤ (j : Int) + 1 := by omega
        have i1' : (j : Int) + 1 < (s.size : Int) := by omega
        have i2' : ((j : Int) + 1).toNat = j + 1 := by omega
        have k1 : IntKind.i64.wrap (16 * P) = 16 * P := IntWalk.i64_in _ (by omega)
        have k2 : IntKind.i64.wrap (16 * P + Q) = 16 * P + Q := IntWalk.i64_in _ (by omega)
        go_wp2_with fail
        refine wp_region_ext (by kernel_rfl) (by kernel_rfl) ?_
        repeat (go_big_quiet_step ((first | ((go_at_call 112; first | (with_reducible exact Calls.quiet_ext (c0.out _)) | (with_reducible exact Calls.quiet_ext (c1.out _)))))))
        refine wpQuiet_nil ?_
        rintro _ ⟨zq, rfl⟩
        have H1 := hid (HR.out.2.ext (show Ext wr (wr.ext zq) from ⟨zq, rfl⟩))
        clear c0 c1 HR
        by_cases hP : P < 0
        · have HD : Hid (DPb s = false) := by show _ = _; rw [DPb, hno1.out hP]; rfl
          have HE := H0.out.ext H1.out.1
          clear hno1 hno2
          obtain ⟨⟨b0, b1, b2, b3, b4⟩, ⟨f0, f1, f2, f3, f4⟩, hbl⟩ := box5 HE.2.1
          obtain ⟨⟨y0, y1, y2, y3, y4⟩, -, -⟩ := box5 HE.2.2
          go_wp2
          refine bodyPost_ret (results_ct rfl (box5_set (t := 46) HE.2.1 _ _ _ _ _) Tryz.underlying46 rfl (by kernel_rfl) rfl rfl) rfl ⟨0, 0, 0, 0, ⟨#[]⟩, ?_⟩
          rw [HD.out]
          exact ⟨rfl, (fun h => by cases h), Nat.zero_le _, ((((HE.1.setCell (Nat.le_refl _) _).setCell (Nat.le_refl _) _).setCell (Nat.le_refl _) _).setCell (Nat.le_refl _) _).setCell (Nat.le_refl _) _⟩
        by_cases hQ : Q < 0
        · have HD : Hid (DPb s = false) := by show _ = _; rw [DPb, hno2.out hQ]; rfl
          have HE := H0.out.ext H1.out.1
          clear hno1 hno2
          obtain ⟨⟨b0, b1, b2, b3, b4⟩, ⟨f0, f1, f2, f3, f4⟩, hbl⟩ := box5 HE.2.1
          obtain ⟨⟨y0, y1, y2, y3, y4⟩, -, -⟩ := box5 HE.2.2
          go_wp2
          refine bodyPost_ret (results_ct rfl (box5_set (t := 46) HE.2.1 _ _ _ _ _) Tryz.underlying46 rfl (by kernel_rfl) rfl rfl) rfl ⟨0, 0, 0, 0, ⟨#[]⟩, ?_⟩
          rw [HD.out]
          exact ⟨rfl, (fun h => by cases h), Nat.zero_le _, ((((HE.1.setCell (Nat.le_refl _) _).setCell (Nat.le_refl _) _).setCell (Nat.le_refl _) _).setCell (Nat.le_refl _) _).setCell (Nat.le_refl _) _⟩
        have HA := hid (Hall.out (by omega) (by omega))
        clear Hall hno1 hno2 bp bq
        generalize octsTo s k = N at *
        generalize hz : wr.ext zq = W1 at *
        clear hz
        go_wp2_with (at_builtin; refine wpList_append_own _ rfl _ _ 41 rfl W0.heap.size 3 i0 (.int .i64 0) 1 8 Tryz.underlying41 hi hz0 hz1 hz2 rfl (by decide) _ _ _ rfl ((own_ext H1.out.2 (by repeat' (first | exact Ext.refl _ | assumption | refine Ext.alloc ?_ _ | refine Ext.ext ?_ _ | refine Ext.drew ?_ | refine Ext.drewN ?_ _)))) ⟨_, 0, none⟩ 1 1 [.int .i64 (16 * P + Q)] rfl ?a0A ?a1A ?a2A ?a3A ?a4A ?a5A ?_)
        (try case a0A => rfl)
        (try case a1A => (intro j u hj; rw [Addr.add_lit, Nat.zero_add, cell_of_row _ _ j _ _ (0, 0) (heap_at _ rfl)]; simpa using hj))
        case a2A => simp [Value.oneCell']
        case a3A => (first | (unfold maxLen; simp; done) | (unfold maxLen; simp; omega))
        case a4A => (first | omega | (simp; omega))
        case a5A => (have := (H1.out.1.size); first | omega | (simp at *; omega))
        intro v' w1 hown' hgrow hat
        have H2 := hid ((H1.out.ext (show Ext W1 (W1.alloc (.cells #[.int .i64 (16 * P + Q)] 3)) from (by repeat' (first | exact Ext.refl _ | assumption | refine Ext.alloc ?_ _ | refine Ext.ext ?_ _ | refine Ext.drew ?_ | refine Ext.drewN ?_ _)))).grow hgrow hown')
        obtain ⟨vp, vc, rfl⟩ := own_shape hown'
        clear hown' hgrow hat H1
        go_wp2
        go_roundw
        case rel => exact ⟨j + 2, k + 1, _, by omega, by go_num, rfl, by have := Hj.out; show j + 2 = 2 * (k + 1); omega, HA.out, by rw [Hsn.out]; exact H2.out⟩
        case measure => simp [intOf]; omega
      · obtain rfl : j = s.size := by omega
        have hb := hexB_good He.out HR.out.1
        have hK : octsTo s k = ocs s := by rw [ocs, Hj.out, Nat.mul_div_cancel_left _ (by decide)]
        have hD2 : DPb s = (okPL (ocs s) && decide (txPL (ocs s) = s)) := by rw [DPb, hb, decide_eq_true hl1, decide_eq_true hl2, Bool.true_and, Bool.true_and, Bool.true_and]
        have HD := hid hD2
        have hlen : (ocs s).length = s.size / 2 := octsTo_len _ _
        have hsm : small (ocs s) := octs_small (by rw [hexB, Bool.and_eq_true] at hb; exact hb.2) (by omega)
        rw [hK] at HR
        rw [hK] at hol
        rw [hK]
        have H1 := hid HR.out.2
        have Hj2 := hid (show (ocs s).length = s.size / 2 from hlen)
        have hl3 : 10 ≤ (ocs s).length := by omega
        have hl4 : (ocs s).length ≤ 18 := by omega
        clear HR hK hD2 hlen hb hol
        generalize hLs : ocs s = L at *
        have HLs := hid hLs
        clear hLs
        obtain ⟨-, p', c', e, h4⟩ := Rd.own H1.out.2
        cases e
        obtain ⟨b, off, rfl, h6⟩ := h4.resolve_left (by omega)
        have cx := fun i hi => elem1 (Value.int .i64) 0 L h6 i hi
        have a0 := cx 0 (by omega)
        have a1 := cx 1 (by omega)
        have a2 := cx 2 (by omega)
        have a3 := cx 3 (by omega)
        have a4 := cx 4 (by omega)
        have a5 := cx 5 (by omega)
        have a6 := cx 6 (by omega)
        have HX := hid cx
        rw [Nat.add_zero] at a0
        clear cx h6 h4
        have s1 := hsm 1 (by omega)
        have s2 := hsm 2 (by omega)
        have s3 := hsm 3 (by omega)
        have s4 := hsm 4 (by omega)
        have s5 := hsm 5 (by omega)
        have s6 := hsm 6 (by omega)
        have Hsm := hid hsm
        have hpk : pkC L = L.getD 0 0 ∧ pkM L = 256 * L.getD 1 0 + L.getD 2 0 ∧ pkR L = 256 * L.getD 3 0 + L.getD 4 0 ∧ pkE L = 256 * L.getD 5 0 + L.getD 6 0 := ⟨rfl, rfl, rfl, rfl⟩
        clear hsm
        generalize L.getD 0 0 = x0 at *
        generalize L.getD 1 0 = x1 at *
        generalize L.getD 2 0 = x2 at *
        generalize L.getD 3 0 = x3 at *
        generalize L.getD 4 0 = x4 at *
        generalize L.getD 5 0 = x5 at *
        generalize L.getD 6 0 = x6 at *
        have k1 : IntKind.i64.wrap (256 * x1) = 256 * x1 := IntWalk.i64_in _ (by omega)
        have k3 : IntKind.i64.wrap (256 * x3) = 256 * x3 := IntWalk.i64_in _ (by omega)
        have k5 : IntKind.i64.wrap (256 * x5) = 256 * x5 := IntWalk.i64_in _ (by omega)
        have o1 : IntKind.i64.wrap (256 * x1 + x2) = pkM L := (IntWalk.i64_in _ (by omega)).trans hpk.2.1.symm
        have o3 : IntKind.i64.wrap (256 * x3 + x4) = pkR L := (IntWalk.i64_in _ (by omega)).trans hpk.2.2.1.symm
        have o5 : IntKind.i64.wrap (256 * x5 + x6) = pkE L := (IntWalk.i64_in _ (by omega)).trans hpk.2.2.2.symm
        have HC := hid hpk.1
        clear hpk s1 s2 s3 s4 s5 s6
        have n0 : 0 < L.length := by omega
        have n1 : (1 : Int) < (L.length : Int) := by omega
        have n2 : (2 : Int) < (L.length : Int) := by omega
        have n3 : (3 : Int) < (L.length : Int) := by omega
        have n4 : (4 : Int) < (L.length : Int) := by omega
        have n5 : (5 : Int) < (L.length : Int) := by omega
        have n6 : (6 : Int) < (L.length : Int) := by omega
        have hkeep := hid (fun W (hW : Ext wr W) => (⟨hW.cell a0, hW.cell a1, hW.cell a2, hW.cell a3, hW.cell a4, hW.cell a5, hW.cell a6⟩ : W.cell? ⟨b, off, none⟩ = some (.int .i64 x0) ∧ W.cell? ⟨b, off + 1, none⟩ = some (.int .i64 x1) ∧ W.cell? ⟨b, off + 2, none⟩ = some (.int .i64 x2) ∧ W.cell? ⟨b, off + 3, none⟩ = some (.int .i64 x3) ∧ W.cell? ⟨b, off + 4, none⟩ = some (.int .i64 x4) ∧ W.cell? ⟨b, off + 5, none⟩ = some (.int .i64 x5) ∧ W.cell? ⟨b, off + 6, none⟩ = some (.int .i64 x6)))
        go_wp2_with fail
        go_region_held3 (fun W => W.cell? ⟨b, off, none⟩ = some (.int .i64 x0) ∧ W.cell? ⟨b, off + 1, none⟩ = some (.int .i64 x1) ∧ W.cell? ⟨b, off + 2, none⟩ = some (.int .i64 x2) ∧ W.cell? ⟨b, off + 3, none⟩ = some (.int .i64 x3) ∧ W.cell? ⟨b, off + 4, none⟩ = some (.int .i64 x4) ∧ W.cell? ⟨b, off + 5, none⟩ = some (.int .i64 x5) ∧ W.cell? ⟨b, off + 6, none⟩ = some (.int .i64 x6))
          (first | (refine hkeep.out _ ?_; (repeat' (first | exact Ext.refl _ | refine Ext.alloc ?_ _ | refine Ext.drew ?_ | (refine Ext.setCell ?_ (by simp) _)))) | fail)
          (first | fail)
        have X1 : Ext wr (wr.alloc (.cells #[.int .i64 x0, .int .i64 (pkM L), .int .i64 (pkR L), .int .i64 (pkE L), .string ⟨#[]⟩] 46)).drew := (by repeat' (first | exact Ext.refl _ | assumption | refine Ext.alloc ?_ _ | refine Ext.ext ?_ _ | refine Ext.drew ?_ | refine Ext.drewN ?_ _))
        have hPl : w.heap.size + 1 < wr.heap.size := (Array.getElem?_eq_some_iff.1 (H0.out.ext H1.out.1).2.2).1
        have HS := hid (show DeP w (wr.alloc (.cells #[.int .i64 x0, .int .i64 (pkM L), .int .i64 (pkR L), .int .i64 (pkE L), .string ⟨#[]⟩] 46)).drew wr.heap.size x0 (pkM L) (pkR L) (pkE L) ⟨#[]⟩ from ⟨(H0.out.ext H1.out.1).ext X1, heap_at (w := wr) _ rfl, hPl⟩)
        have HXc := hid (fun i (hi : i < L.length) => X1.cell (HX.out i hi))
        generalize (wr.alloc (.cells #[.int .i64 x0, .int .i64 (pkM L), .int .i64 (pkR L), .int .i64 (pkE L), .string ⟨#[]⟩] 46)).drew = W2 at *
        generalize wr.heap.size = P at *
        clear H1 H0 hkeep HX a0 a1 a2 a3 a4 a5 a6 n0 n1 n2 n3 n4 n5 n6 k1 k3 k5 o1 o3 o5 hw X1 hPl
        obtain ⟨K, hK⟩ : ∃ K, L.length = K + 10 := ⟨L.length - 10, by omega⟩
        have e2 : IntKind.i64.wrap ((L.length : Int) - 2) = (K : Int) + 8 := (IntWalk.i64_in _ (by omega)).trans (by omega)
        have hK8 : K ≤ 8 := by omega
        have HK := hid hK
        obtain ⟨iu0, hiu, hzu0, hzu1, hzu2⟩ := info_parts infoU8
        clear hK hl3 hl4
        have D0 : Hid (Ext W2 (W2.alloc (.cells #[] 5)) ∧ (W2.alloc (.cells #[] 5)).ownsRow W2.heap.size 5 1 (.slice (some ⟨W2.heap.size, 0, none⟩) 0 0) 0 (Go.RowKit.vBytes (datTo L 0).data.toList)) := ⟨(by repeat' (first | exact Ext.refl _ | assumption | refine Ext.alloc ?_ _ | refine Ext.ext ?_ _ | refine Ext.drew ?_ | refine Ext.drewN ?_ _)), World.ownsRow_lit W2 #[] 0 (Nat.le_refl _) (Nat.zero_le _) rfl⟩
        go_wp2_with fail
        go_loopw [11, 10] (fun v11 v10 wq => ∃ (j k : Nat) (u : Value) (yq : World), k ≤ K ∧ v11 = .int .i64 j ∧ u = v10 ∧ yq = wq ∧ Hid (j = 8 + k) ∧ Hid (Ext W2 yq ∧ yq.ownsRow W2.heap.size 5 1 u k (Go.RowKit.vBytes (datTo L k).data.toList))) (fun v11 _ _ => K + 8 - (intOf v11).toNat)
        case atStart => exact ⟨8, 0, _, _, Nat.zero_le _, rfl, rfl, rfl, rfl, D0⟩
        case round =>
          obtain ⟨j, k, u, wq, hk, rfl, rfl, rfl, Hj2, HQ⟩ := hrel
          clear D0
          obtain ⟨dp, dc, rfl⟩ := own_shape HQ.out.2
          by_cases hlt2 : k < K
          · have hjl : j < L.length := by have := HK.out; have := Hj2.out; omega
            have c0 := HXc.out j hjl
            have hx := Hsm.out j hjl
            have hsn := byt_snoc L k (by rw [← Hj2.out]; exact hx)
            rw [← Hj2.out] at hsn
            have t0 : (j : Int) < (K : Int) + 8 := by have := Hj2.out; omega
            have j0 : (0 : Int) ≤ (j : Int) := by omega
            have j1 : (j : Int) < (L.length : Int) := by omega
            replace c0 := HQ.out.1.cell c0
            generalize L.getD j 0 = x at c0 hx hsn
            have u8 : IntKind.u8.wrap x = x := by have : IntKind.u8.wrap x = x % 256 := rfl; omega
            have Hsn := hid hsn
            clear hsn
            generalize Go.RowKit.vBytes (datTo L k).data.toList = V at *
            go_wp2_with (at_builtin; refine wpList_append_own _ rfl _ _ 28 rfl W2.heap.size 5 iu0 (.int .u8 0) 1 1 Tryz.underlying28 hiu hzu0 hzu1 hzu2 rfl (by decide) _ _ _ rfl (own_ext HQ.out.2 (by repeat' (first | exact Ext.refl _ | assumption | refine Ext.alloc ?_ _ | refine Ext.ext ?_ _ | refine Ext.drew ?_ | refine Ext.drewN ?_ _))) ⟨_, 0, none⟩ 1 1 [.int .u8 x] rfl rfl ?a1B ?a2B ?a3B ?a4B ?a5B ?_)
            (try case a1B => (intro j u hj; rw [Addr.add_lit, Nat.zero_add, cell_of_row _ _ j _ _ (0, 0) (heap_at _ rfl)]; simpa using hj))
            case a2B => simp [Value.oneCell']
            case a3B => (unfold maxLen; omega)
            case a4B => omega
            case a5B => (have := HQ.out.1.size; simp; omega)
            intro v' w7 hown' hgrow _
            have X7 : Ext wq (wq.alloc (.cells #[.int .u8 x] 5)) := (by repeat' (first | exact Ext.refl _ | assumption | refine Ext.alloc ?_ _ | refine Ext.ext ?_ _ | refine Ext.drew ?_ | refine Ext.drewN ?_ _))
            have HQ2 := hid (And.intro ((HQ.out.1.trans X7).grown hgrow (fun j e => (own_row HQ.out.2 j e).1)) hown')
            obtain ⟨ep, ec, rfl⟩ := own_shape hown'
            clear hown' hgrow X7 HQ c0 hx u8
            go_wp2
            go_roundw
            case rel => exact ⟨j + 1, k + 1, _, _, by omega, by go_num, rfl, rfl, by have := Hj2.out; show j + 1 = 8 + (k + 1); omega, by rw [Hsn.out]; exact HQ2.out⟩
            case measure => simp [intOf]; have := Hj2.out; omega
          · obtain rfl : k = K := by omega
            have hpd : datTo L k = pkD L := by rw [pkD, HK.out]; rfl
            have hdz : (pkD L).size ≤ 8 := by rw [← hpd, datTo_size]; exact hK8
            have hcv := Go.RowKit.conv_rd (P := Tryz.prog) Tryz.underlying28 Tryz.underlying5 Tryz.underlying9 (Rd.own HQ.out.2)
            rw [show (⟨(datTo L k).data.toList.toArray⟩ : ByteArray) = pkD L from (mkS_of _).trans hpd] at hcv
            have t0 : ¬ (j : Int) < (k : Int) + 8 := by have := Hj2.out; omega
            have HR := hid (HS.out.ext HQ.out.1)
            have HRp := hid (HR.out.put (pkD L))
            have hok : okPL L = okPk (pkC L) (pkM L) (pkR L) (pkE L) (pkD L) := rfl
            have htx : txPL L = hexT (octL (pkC L) (pkM L) (pkR L) (pkE L) (pkD L)) := rfl
            rw [HC.out] at hok htx
            have hfin := HC.out
            clear hpd HXc Hsm HS HQ
            generalize okPL L = ok at *
            generalize txPL L = T at *
            generalize hcc : pkC L = cc at *
            obtain rfl := hfin
            generalize hM : pkM L = M at *
            generalize hR : pkR L = R at *
            generalize hE : pkE L = E at *
            generalize hDD : pkD L = D at *
            have HE : Hid (cc = pkC (ocs s) ∧ M = pkM (ocs s) ∧ R = pkR (ocs s) ∧ E = pkE (ocs s) ∧ D = pkD (ocs s)) := by
              show _ ∧ _
              rw [HLs.out]
              exact ⟨hcc.symm, hM.symm, hR.symm, hE.symm, hDD.symm⟩
            clear hcc hM hR hE hDD
            have cg := hid (fun W => spec_l4Good cc M R E D W (by omega))
            rw [← hok] at cg
            obtain ⟨⟨d0, d1, d2, d3, d4⟩, ⟨f0, f1, f2, f3, f4⟩, hD⟩ := box5 HR.out.2.1
            go_upto_region 19 with fail
            generalize wq.setCell ⟨P, 4, none⟩ (.string D) = W5 at *
            clear HR d0 d1 d2 d3 d4 f0 f1 f2 f3 f4 hD hcv
            obtain ⟨⟨d0, d1, d2, d3, d4⟩, -, -⟩ := box5 HRp.out.2.1
            go_wp2_with fail
            go_at_call 113
            refine (cg.out _).mono ?_
            rintro e w8 ⟨rfl, hx⟩
            have H8 := hid (HRp.out.ext hx)
            clear hx HRp d0 d1 d2 d3 d4 cg
            cases ok
            · clear hok htx
              obtain ⟨⟨b0, b1, b2, b3, b4⟩, ⟨f0, f1, f2, f3, f4⟩, hbl⟩ := box5 H8.out.1.2.1
              obtain ⟨⟨y0, y1, y2, y3, y4⟩, -, -⟩ := box5 H8.out.1.2.2
              go_wp2
              refine bodyPost_ret (results_ct rfl (box5_set (t := 46) H8.out.1.2.1 _ _ _ _ _) Tryz.underlying46 rfl (by kernel_rfl) rfl rfl) rfl ⟨0, 0, 0, 0, ⟨#[]⟩, ?_⟩
              rw [HD.out]
              exact ⟨rfl, (fun h => by cases h), Nat.zero_le _, ((((H8.out.1.1.setCell (Nat.le_refl _) _).setCell (Nat.le_refl _) _).setCell (Nat.le_refl _) _).setCell (Nat.le_refl _) _).setCell (Nat.le_refl _) _⟩
            · have ce := hid (fun W => spec_l4Encode cc M R E D W hok.symm)
              rw [← htx] at ce
              clear hok htx
              obtain ⟨⟨d0, d1, d2, d3, d4⟩, -, -⟩ := box5 H8.out.2.1
              go_wp2_with fail
              go_at_call 114
              refine (ce.out _).mono ?_
              rintro e w9 ⟨rfl, hx⟩
              have H9 := hid (H8.out.ext hx)
              clear hx H8 d0 d1 d2 d3 d4 ce
              obtain ⟨⟨d0, d1, d2, d3, d4⟩, -, -⟩ := box5 H9.out.2.1
              by_cases he : T = s
              · have te := str_yes he
                have Hd1 := hid (show decide (T = s) = true from decide_eq_true he)
                clear he
                obtain ⟨⟨b0, b1, b2, b3, b4⟩, ⟨f0, f1, f2, f3, f4⟩, hbl⟩ := box5 H9.out.1.2.1
                obtain ⟨⟨y0, y1, y2, y3, y4⟩, -, -⟩ := box5 H9.out.1.2.2
                go_wp2
                refine bodyPost_ret (results_ct rfl (box5_set (t := 46) H9.out.1.2.1 _ _ _ _ _) Tryz.underlying46 rfl (by kernel_rfl) rfl rfl) rfl ⟨cc, M, R, E, D, ?_⟩
                rw [HD.out, Hd1.out]
                exact ⟨rfl, (fun _ => HE.out), by omega, ((((H9.out.1.1.setCell (Nat.le_refl _) _).setCell (Nat.le_refl _) _).setCell (Nat.le_refl _) _).setCell (Nat.le_refl _) _).setCell (Nat.le_refl _) _⟩
              · have te := str_no he
                have Hd1 := hid (show decide (T = s) = false from decide_eq_false he)
                clear he
                obtain ⟨⟨b0, b1, b2, b3, b4⟩, ⟨f0, f1, f2, f3, f4⟩, hbl⟩ := box5 H9.out.1.2.1
                obtain ⟨⟨y0, y1, y2, y3, y4⟩, -, -⟩ := box5 H9.out.1.2.2
                go_wp2
                refine bodyPost_ret (results_ct rfl (box5_set (t := 46) H9.out.1.2.1 _ _ _ _ _) Tryz.underlying46 rfl (by kernel_rfl) rfl rfl) rfl ⟨0, 0, 0, 0, ⟨#[]⟩, ?_⟩
                rw [HD.out, Hd1.out]
                exact ⟨rfl, (fun h => by cases h), Nat.zero_le _, ((((H9.out.1.1.setCell (Nat.le_refl _) _).setCell (Nat.le_refl _) _).setCell (Nat.le_refl _) _).setCell (Nat.le_refl _) _).setCell (Nat.le_refl _) _⟩
  · have e1 : inB (s.size : Int) 20 36 = false := by rw [Bool.eq_false_iff]; intro h; exact hin (by have := inB_iff.1 h; omega)
    rw [e1] at hw
    have HD : Hid (DPb s = false) := by
      show _ = _
      rw [DPb]
      by_cases h20 : 20 ≤ s.size
      · rw [decide_eq_false (show ¬ s.size ≤ 36 by omega), Bool.false_and, Bool.and_false, Bool.and_false]
      · rw [decide_eq_false h20, Bool.false_and, Bool.and_false]
    clear e1 hin
    go_enter Tryz.func81, Tryz.ntmps81
    go_upto_region 2 with fail
    generalize (w.alloc (.cells #[.int .i64 0, .int .i64 0, .int .i64 0, .int .i64 0, .string ⟨#[]⟩] 46)).alloc (.cells #[.int .i64 0, .int .i64 0, .int .i64 0, .int .i64 0, .string ⟨#[]⟩] 46) = W0 at *
    obtain ⟨⟨b0, b1, b2, b3, b4⟩, ⟨f0, f1, f2, f3, f4⟩, hbl⟩ := box5 H0.out.2.1
    obtain ⟨⟨y0, y1, y2, y3, y4⟩, -, -⟩ := box5 H0.out.2.2
    go_wp2_with (go_at_call 63; refine (hw.out _).mono ?_; rintro e w' ⟨rfl, rfl⟩)
    refine bodyPost_ret (results_ct rfl (box5_set (t := 46) H0.out.2.1 _ _ _ _ _) Tryz.underlying46 rfl (by kernel_rfl) rfl rfl) rfl ⟨0, 0, 0, 0, ⟨#[]⟩, ?_⟩
    rw [HD.out]
    exact ⟨rfl, (fun h => by cases h), Nat.zero_le _, ((((H0.out.1.setCell (Nat.le_refl _) _).setCell (Nat.le_refl _) _).setCell (Nat.le_refl _) _).setCell (Nat.le_refl _) _).setCell (Nat.le_refl _) _⟩
end Go.Proofs.YtljknhocfjpolaaGreatDoor
