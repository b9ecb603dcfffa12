/- Valid lists of pendings: the reference's side. -/
import Derived.Test.YtnngklclehffhaaDoorKWPv2
namespace Go.Proofs.YtnngklclehffhaaDoor
open Go.RowKit
set_option maxHeartbeats 1000000
set_option maxRecDepth 100000
theorem cnt_take (h : List Bool) (k : Nat) (hk : k < h.length) : (h.take (k + 1)).count true = (h.take k).count true + if h.getD k false then 1 else 0 := by
  rw [take_snoc h false k hk, List.count_append]
  cases h.getD k false <;> rfl
theorem cnt_le (h : List Bool) (k : Nat) : (h.take k).count true ≤ k := Nat.le_trans List.count_le_length (by rw [List.length_take]; omega)
theorem spec_l23Single (n : Int) (d : List ByteArray) (h : List Bool) (u v : Value) (w : World) (hu : Rd w 1 u d.length (vStrs d)) (hv : Rd w 1 v h.length (vBools h)) (h2 : d.length ≤ 1048576) (k2 : h.length ≤ 1048576) (hz : ∀ i, i < d.length → (d.getD i ByteArray.empty).size ≤ 1048576) :
    Calls Tryd.prog 73 #[.agg #[.int .i64 n, u, v]] w fun e w' => e = .returned (.bool (okS ⟨n, d, h⟩)) ∧ Ext w w' := by
  rw [← okT_eq]
  have XB : Ext w (w.alloc (.cells #[.int .i64 n, u, v] 62)) := (by repeat' (first | exact Ext.refl _ | assumption | refine Ext.alloc ?_ _ | refine Ext.ext ?_ _ | refine Ext.drew ?_ | refine Ext.drewN ?_ _))
  have HB : (w.alloc (.cells #[.int .i64 n, u, v] 62)).heap[w.heap.size]? = some (.cells #[.int .i64 n, u, v] 62 (0, 0)) := heap_at _ rfl
  have Hu := hid (hu.ext XB)
  have Hv := hid (hv.ext XB)
  obtain ⟨p, cap, rfl, h4⟩ := rd_block hu
  obtain ⟨p', cap', rfl, h4'⟩ := rd_block hv
  have H4 := hid h4
  have H4' := hid h4'
  have Hz := hid hz
  have hn := hid (fun w => spec_l23Number n w)
  have hi2 := hid (fun w => spec_l1In (h.length : Int) 2 9 w)
  have hi3 := hid (fun w => spec_l1In (h.count true : Int) 1 (h.length - 1) w)
  have hdef : okT ⟨n, d, h⟩ = (inB n 0 99 && (inB h.length 2 9 && (decide (d.length = h.length) && ((List.range h.length).all (pok ⟨n, d, h⟩) && inB (h.count true) 1 (h.length - 1))))) := rfl
  have hpk : ∀ i, pok ⟨n, d, h⟩ i = (itm 8 (d.getD i ByteArray.empty) && (h.getD i false || (d.getD i ByteArray.empty).data.toList.isEmpty)) := fun _ => rfl
  generalize okT ⟨n, d, h⟩ = O at *
  generalize pok ⟨n, d, h⟩ = PK at *
  generalize inB (h.count true : Int) 1 (h.length - 1) = I3 at *
  have Hdef := hid hdef
  have Hpk := hid hpk
  clear hdef hpk hu hv h4 h4' hz
  go_enter Tryd.func73, Tryd.ntmps73
  go_wp2_with fail
  generalize (w.alloc (.cells #[.int .i64 n, .slice p d.length cap, .slice p' h.length cap'] 62)) = W at *
  obtain ⟨⟨b0, b1, b2⟩, -, -⟩ := box3 HB
  generalize w.heap.size = Q at *
  go_at_call 85
  refine (hn.out _).mono ?_
  rintro e w' ⟨rfl, rfl⟩
  cases e1 : inB n 0 99
  · have HO : Hid (O = false) := by (have h9 := Hdef.out; rw [e1] at h9; exact h9)
    clear Hdef e1
    go_wp2
    go_ret
    exact ⟨by rw [HO.out]; rfl, XB⟩
  have h9 := Hdef.out
  rw [e1, Bool.true_and] at h9
  clear Hdef e1
  go_wp2_with fail
  go_at_call 86
  refine (hi2.out _).mono ?_
  rintro e w' ⟨rfl, rfl⟩
  cases e2 : inB (h.length : Int) 2 9
  · have HO : Hid (O = false) := by (rw [e2] at h9; exact h9)
    clear h9 e2
    go_wp2
    go_ret
    exact ⟨by rw [HO.out]; rfl, XB⟩
  rw [e2, Bool.true_and] at h9
  have hr := inB_iff.1 e2
  clear e2
  by_cases hl : d.length = h.length
  case neg =>
    have HO : Hid (O = false) := by (rw [decide_eq_false hl] at h9; exact h9)
    have t1 : ((d.length : Int) != (h.length : Int)) = true := by simp; omega
    clear h9
    go_wp2
    go_ret
    exact ⟨by rw [HO.out]; rfl, XB⟩
  rw [decide_eq_true hl, Bool.true_and] at h9
  have t1 : ((d.length : Int) != (h.length : Int)) = false := by simp; omega
  have Hdef := hid h9
  have Hl := hid hl
  have Hct := hid (cnt_take h)
  have Hcl := hid (cnt_le h)
  clear h9 hl hi2
  go_wp2
  go_loopw [4, 3] (fun v4 v3 wr => ∃ k : Nat, k ≤ h.length ∧ v4 = .int .i64 k ∧ v3 = .int .i64 ((h.take k).count true : Nat) ∧ Hid (∀ i, i < k → PK i = true) ∧ Ext W wr) (fun v4 _ _ => h.length - (intOf v4).toNat)
  case atStart => exact ⟨0, Nat.zero_le _, rfl, rfl, fun _ h => absurd h (Nat.not_lt_zero _), Ext.refl _⟩
  case round =>
    obtain ⟨k, hk, rfl, rfl, hall, z, rfl⟩ := hrel
    by_cases hlt : k < h.length
    · have hkd : k < d.length := by have := Hl.out; omega
      obtain ⟨b, off, rfl⟩ := H4.out.resolve_left (by omega)
      obtain ⟨b', off', rfl⟩ := H4'.out.resolve_left (by omega)
      have c0 := strs_at Hu.out k hkd
      have d0 := bools_at Hv.out k hlt
      have hzk := Hz.out k hkd
      have hpk := Hpk.out k
      have hck := Hct.out k hlt
      have hcl := Hcl.out k
      have next := hid (fun h => upTo_succ (p := fun i => PK i = true) hall.out (k := k) h)
      have bad : Hid (PK k = false → O = false) := fun h => by rw [Hdef.out, allUpto hlt h]; rfl
      generalize d.getD k ByteArray.empty = s at *
      generalize h.getD k false = hb at *
      generalize (h.take k).count true = C at *
      have hit := hid (fun w => spec_l4Letters s 8 w hzk (by decide))
      have n1 : (k : Int) < (d.length : Int) := by omega
      have n2 : (k : Int) < (h.length : Int) := by omega
      have n0 : (0 : Int) ≤ (k : Int) := by omega
      have Hck := hid hck
      clear hall hck
      cases e2 : itm 8 s
      · rw [e2] at hit hpk
        have HO := hid (bad.out hpk)
        clear e2 hpk next bad
        go_wp2_with (go_at_call 87; refine (hit.out _).mono ?_; rintro e w' ⟨rfl, z1, rfl⟩)
        go_ret
        exact ⟨by rw [HO.out]; rfl, XB.trans (by repeat' (first | exact Ext.refl _ | assumption | refine Ext.alloc ?_ _ | refine Ext.ext ?_ _ | refine Ext.drew ?_ | refine Ext.drewN ?_ _))⟩
      rw [e2, Bool.true_and] at hpk
      rw [e2] at hit
      clear e2
      cases hb
      · cases he : s.data.toList.isEmpty
        · rw [he] at hpk
          have HO := hid (bad.out hpk)
          have q0 : s.toList.isEmpty = false := by rw [Lib.toList_data]; exact he
          have q1 : (!s.toList.isEmpty) = true := by rw [q0]; rfl
          clear hpk next bad he
          go_wp2_with (go_at_call 87; refine (hit.out _).mono ?_; rintro e w' ⟨rfl, z1, rfl⟩)
          go_ret
          exact ⟨by rw [HO.out]; rfl, XB.trans (by repeat' (first | exact Ext.refl _ | assumption | refine Ext.alloc ?_ _ | refine Ext.ext ?_ _ | refine Ext.drew ?_ | refine Ext.drewN ?_ _))⟩
        · rw [he] at hpk
          have Nx := hid (next.out hpk)
          have q0 : s.toList.isEmpty = true := by rw [Lib.toList_data]; exact he
          have q1 : (!s.toList.isEmpty) = false := by rw [q0]; rfl
          clear hpk next bad he
          go_wp2_with (go_at_call 87; refine (hit.out _).mono ?_; rintro e w' ⟨rfl, z1, rfl⟩)
          go_roundw
          case rel => exact ⟨k + 1, by omega, by go_num, by rw [Hck.out]; rfl, Nx, (by repeat' (first | exact Ext.refl _ | assumption | refine Ext.alloc ?_ _ | refine Ext.ext ?_ _ | refine Ext.drew ?_ | refine Ext.drewN ?_ _))⟩
          case measure => simp [intOf]; omega
      · rw [Bool.true_or] at hpk
        have Nx := hid (next.out hpk)
        clear hpk next bad
        go_wp2_with (go_at_call 87; refine (hit.out _).mono ?_; rintro e w' ⟨rfl, z1, rfl⟩)
        go_roundw
        case rel => exact ⟨k + 1, by omega, by go_num, by rw [Hck.out]; rfl, Nx, (by repeat' (first | exact Ext.refl _ | assumption | refine Ext.alloc ?_ _ | refine Ext.ext ?_ _ | refine Ext.drew ?_ | refine Ext.drewN ?_ _))⟩
        case measure => simp [intOf]; omega
    · obtain rfl : k = h.length := by omega
      have h9 := Hdef.out
      rw [allTo (fun i hi => hall.out i (by omega)), Bool.true_and] at h9
      have HO := hid h9
      rw [List.take_length]
      have w1 : IntKind.i64.wrap ((h.length : Int) - 1) = (h.length : Int) - 1 := IntWalk.i64_in _ (by omega)
      clear h9 hall Hdef
      go_wp2_with (go_at_call 86; (refine (hi3.out _).mono ?_); rintro e w' ⟨rfl, rfl⟩)
      go_ret
      exact ⟨by rw [HO.out]; rfl, XB.trans (by repeat' (first | exact Ext.refl _ | assumption | refine Ext.alloc ?_ _ | refine Ext.ext ?_ _ | refine Ext.drew ?_ | refine Ext.drewN ?_ _))⟩
theorem okP_no {ps : List Pnd} {k : Nat} (hk : k < ps.length) (h : okP ps k = false) : okL ps = false := by rw [okL, allUpto hk h]; rfl
theorem spec_l23Good (ps : List Pnd) (es : List Pe) (v : Value) (w : World) (h : PRd w v ps es) (h2 : ps.length ≤ 1048576) (hs : ∀ i, i < ps.length → (ps.getD i .z).d.length ≤ 1048576 ∧ (ps.getD i .z).h.length ≤ 1048576 ∧ ∀ j, j < (ps.getD i .z).d.length → ((ps.getD i .z).d.getD j ByteArray.empty).size ≤ 1048576) :
    Calls Tryd.prog 38 #[v] w fun e w' => e = .returned (.bool (okL ps)) ∧ Ext w w' := by
  have Hv := hid h
  have Hs := hid hs
  obtain ⟨q, cap, rfl, h4⟩ := h.form
  have H4 := hid h4
  clear h4 h hs
  go_enter Tryd.func38, Tryd.ntmps38
  go_wp2
  go_loopw [3] (fun v3 wr => ∃ k : Nat, k ≤ ps.length ∧ k ≤ 5 ∧ v3 = .int .i64 k ∧ Hid (∀ i, i < k → okP ps i = true) ∧ Ext w wr) (fun v3 _ => ps.length - (intOf v3).toNat)
  case atStart => exact ⟨0, Nat.zero_le _, by omega, rfl, fun _ h => absurd h (Nat.not_lt_zero _), Ext.refl _⟩
  case round =>
    obtain ⟨k, hk, hk5, rfl, hall, z, rfl⟩ := hrel
    by_cases hlt : k < ps.length ∧ k ≤ 4
    · obtain ⟨hlt, hk4⟩ := hlt
      obtain ⟨b, off, rfl⟩ := H4.out.resolve_left (by omega)
      obtain ⟨⟨c0, c1, c2⟩, hcr⟩ := Hv.out.at k hlt
      have hsk := Hs.out k hlt
      have next := hid (fun h => upTo_succ (p := fun i => okP ps i = true) hall.out (k := k) h)
      have bad := hid (okP_no (ps := ps) hlt)
      have hdef : okP ps k = (okS (ps.getD k .z) && decide (fndP (ps.take k) (ps.getD k .z).n < 0)) := rfl
      have hft := hid (fndP_take ps k hk (ps.getD k .z).n)
      have hcell : Hid (∀ j, j < k → w.cell? ⟨b, off + j * 3, none⟩ = some (.int .i64 (ps.getD j .z).n)) := fun j hj => (Hv.out.at j (by omega)).1.1
      obtain ⟨xp, xc, ex, -⟩ := rd_block hcr.1
      obtain ⟨yp, yc, ey, -⟩ := rd_block hcr.2
      have Hcr := hid hcr
      clear hcr hall
      generalize okP ps k = PK at *
      generalize hG : ps.getD k .z = G at *
      generalize (es.getD k .z).u = x at *
      generalize (es.getD k .z).v = x' at *
      subst ex ey
      obtain ⟨n, d, h⟩ := G
      dsimp only at c0 c1 c2 Hcr hsk hft hdef
      have hip := hid (fun w a b => spec_l23Single n d h (.slice xp d.length xc) (.slice yp h.length yc) w a b hsk.1 hsk.2.1 hsk.2.2)
      have n0 : (0 : Int) ≤ (k : Int) := by omega
      have n1 : (k : Int) < (ps.length : Int) := by omega
      have n4 : decide ((k : Int) ≤ 4) = true := by simp; omega
      cases e1 : okS ⟨n, d, h⟩
      · rw [e1] at hip hdef
        have HO := hid (bad.out hdef)
        clear e1 hdef next bad hG
        go_wp2_with (go_at_call 73; refine (hip.out _ (Hcr.out.1.ext (by repeat' (first | exact Ext.refl _ | assumption | refine Ext.alloc ?_ _ | refine Ext.ext ?_ _ | refine Ext.drew ?_ | refine Ext.drewN ?_ _))) (Hcr.out.2.ext (by repeat' (first | exact Ext.refl _ | assumption | refine Ext.alloc ?_ _ | refine Ext.ext ?_ _ | refine Ext.drew ?_ | refine Ext.drewN ?_ _)))).mono ?_; rintro e w' ⟨rfl, z1, rfl⟩)
        go_ret
        exact ⟨by rw [HO.out]; rfl, (by repeat' (first | exact Ext.refl _ | assumption | refine Ext.alloc ?_ _ | refine Ext.ext ?_ _ | refine Ext.drew ?_ | refine Ext.drewN ?_ _))⟩
      · rw [e1] at hip hdef
        rw [Bool.true_and] at hdef
        have Hdef := hid hdef
        have HGn : Hid ((ps.getD k .z).n = n) := by (show _ = _; rw [hG])
        clear e1 hdef hG
        go_wp2_with (go_at_call 73; refine (hip.out _ (Hcr.out.1.ext (by repeat' (first | exact Ext.refl _ | assumption | refine Ext.alloc ?_ _ | refine Ext.ext ?_ _ | refine Ext.drew ?_ | refine Ext.drewN ?_ _))) (Hcr.out.2.ext (by repeat' (first | exact Ext.refl _ | assumption | refine Ext.alloc ?_ _ | refine Ext.ext ?_ _ | refine Ext.drew ?_ | refine Ext.drewN ?_ _)))).mono ?_; rintro e w' ⟨rfl, z1, rfl⟩)
        go_loopw [4] (fun v4 wq => ∃ j : Nat, j ≤ k ∧ v4 = .int .i64 j ∧ Hid (∀ i, i < j → ¬ (ps.getD i .z).n = n) ∧ Ext w wq) (fun v4 _ => k - (intOf v4).toNat)
        case atStart => exact ⟨0, Nat.zero_le _, rfl, fun _ h => absurd h (Nat.not_lt_zero _), (by repeat' (first | exact Ext.refl _ | assumption | refine Ext.alloc ?_ _ | refine Ext.ext ?_ _ | refine Ext.drew ?_ | refine Ext.drewN ?_ _))⟩
        case round =>
          obtain ⟨j, hj, rfl, hno, z2, rfl⟩ := hrel
          by_cases hjk : j < k
          · have e0 := hcell.out j hjk
            have step := hid (fun h => upTo_succ (p := fun i => ¬ (ps.getD i .z).n = n) hno.out (k := j) h)
            have hit : Hid ((ps.getD j .z).n = n → PK = false) := fun e => by
              rw [Hdef.out, decide_eq_false]
              exact fun h9 => (hft.out.1 h9) j hjk e
            have m0 : (0 : Int) ≤ (j : Int) := by omega
            have m1 : (j : Int) < (ps.length : Int) := by omega
            generalize (ps.getD j .z).n = y at *
            clear hno
            by_cases hy : y = n
            · have HO := hid (bad.out (hit.out hy))
              subst hy
              clear step hit
              go_wp2
              refine wp_region_ext (by kernel_rfl) (by kernel_rfl) ?_
              repeat (go_big_quiet_step ((first | fail)))
              refine wpQuiet_nil ?_
              rintro _ ⟨zq, rfl⟩
              go_wp2
              go_ret
              exact ⟨by rw [HO.out]; rfl, (by repeat' (first | exact Ext.refl _ | assumption | refine Ext.alloc ?_ _ | refine Ext.ext ?_ _ | refine Ext.drew ?_ | refine Ext.drewN ?_ _))⟩
            · have St := hid (step.out hy)
              have ty : (y == n) = false := by simp [hy]
              clear step hit hy
              go_wp2
              refine wp_region_ext (by kernel_rfl) (by kernel_rfl) ?_
              repeat (go_big_quiet_step ((first | fail)))
              refine wpQuiet_nil ?_
              rintro _ ⟨zq, rfl⟩
              go_wp2
              go_roundw
              case rel => exact ⟨j + 1, by omega, by go_num, St, (by repeat' (first | exact Ext.refl _ | assumption | refine Ext.alloc ?_ _ | refine Ext.ext ?_ _ | refine Ext.drew ?_ | refine Ext.drewN ?_ _))⟩
              case measure => simp [intOf]; omega
          · obtain rfl : j = k := by omega
            have hP : PK = true := by rw [Hdef.out, decide_eq_true (hft.out.2 hno.out)]
            have Nx := hid (next.out hP)
            clear hP hno next bad
            go_wp2
            go_roundw
            case rel => exact ⟨j + 1, by omega, by omega, by go_num, Nx, (by repeat' (first | exact Ext.refl _ | assumption | refine Ext.alloc ?_ _ | refine Ext.ext ?_ _ | refine Ext.drew ?_ | refine Ext.drewN ?_ _))⟩
            case measure => simp [intOf]; omega
    · have hf : okL ps = decide (ps.length ≤ 4) := by
        by_cases h5 : ps.length ≤ 4
        · rw [okL, allTo (fun i hi => hall.out i (by omega)), Bool.true_and]
        · rw [okL, decide_eq_false h5, Bool.and_false]
      have Hf := hid hf
      clear hf hall
      by_cases hk1 : k < ps.length
      · have n1 : decide ((k : Int) < (ps.length : Int)) = true := by simp; omega
        have n4 : decide ((k : Int) ≤ 4) = false := by simp; omega
        go_wp2
        go_ret
        exact ⟨by rw [Hf.out]; congr 2; simp; omega, (by repeat' (first | exact Ext.refl _ | assumption | refine Ext.alloc ?_ _ | refine Ext.ext ?_ _ | refine Ext.drew ?_ | refine Ext.drewN ?_ _))⟩
      · have n1 : decide ((k : Int) < (ps.length : Int)) = false := by simp; omega
        go_wp2
        go_ret
        exact ⟨by rw [Hf.out]; congr 2; simp; omega, (by repeat' (first | exact Ext.refl _ | assumption | refine Ext.alloc ?_ _ | refine Ext.ext ?_ _ | refine Ext.drew ?_ | refine Ext.drewN ?_ _))⟩
theorem spec_IsValidPending (ps : List Pnd) (es : List Pe) (v : Value) (w : World) (h : PRd w v ps es) (h2 : ps.length ≤ 1048576) (hs : ∀ i, i < ps.length → (ps.getD i .z).d.length ≤ 1048576 ∧ (ps.getD i .z).h.length ≤ 1048576 ∧ ∀ j, j < (ps.getD i .z).d.length → ((ps.getD i .z).d.getD j ByteArray.empty).size ≤ 1048576) :
    Calls Tryd.prog 10 #[v] w fun e w' => e = .returned (.bool (okL ps)) ∧ Ext w w' := by
  have hc := hid (spec_l23Good ps es v w h h2 hs)
  generalize okL ps = O at *
  clear h hs
  go_enter Tryd.func10, Tryd.ntmps10
  go_wp2_with (go_at_call 38; refine (hc.out).mono ?_; rintro e w' ⟨rfl, z1, rfl⟩)
  go_ret
  exact ⟨rfl, (by repeat' (first | exact Ext.refl _ | assumption | refine Ext.alloc ?_ _ | refine Ext.ext ?_ _ | refine Ext.drew ?_ | refine Ext.drewN ?_ _))⟩
theorem spec_l23Find (ps : List Pnd) (es : List Pe) (v : Value) (x : Int) (w : World) (h : PRd w v ps es) (h2 : ps.length ≤ 1048576) :
    Calls Tryd.prog 43 #[v, .int .i64 x] w fun e w' => e = .returned (.int .i64 (fndP ps x)) ∧ Ext w w' := by
  have Hv := hid h
  obtain ⟨p, cap, rfl, h4⟩ := h.form
  have H4 := hid h4
  clear h4 h
  go_enter Tryd.func43, Tryd.ntmps43
  go_wp2
  go_loopw [5] (fun v5 wr => ∃ k : Nat, k ≤ ps.length ∧ v5 = .int .i64 k ∧ Hid (∀ i, i < k → ((ps.getD i .z).n == x) = false) ∧ Ext w wr) (fun v5 _ => ps.length - (intOf v5).toNat)
  case atStart => exact ⟨0, Nat.zero_le _, rfl, fun _ h => absurd h (Nat.not_lt_zero _), Ext.refl _⟩
  case round =>
    obtain ⟨k, hk, rfl, hall, z, rfl⟩ := hrel
    by_cases hlt : k < ps.length
    · obtain ⟨b, off, rfl⟩ := H4.out.resolve_left (by omega)
      obtain ⟨⟨c0, -⟩, -⟩ := Hv.out.at k hlt
      have next := hid (fun h => upTo_succ (p := fun i => ((ps.getD i .z).n == x) = false) hall.out (k := k) h)
      have yes : Hid (((ps.getD k .z).n == x) = true → fndP ps x = k) := fun h => hitG_at (p := fun q : Pnd => q.n == x) (z := .z) hlt hall.out h
      clear hall
      generalize (ps.getD k .z).n = y at *
      cases e : (y == x)
      · have Nx := hid (next.out e)
        clear next yes
        go_wp2
        go_roundw
        case rel => exact ⟨k + 1, by omega, by go_num, Nx, (by repeat' (first | exact Ext.refl _ | assumption | refine Ext.alloc ?_ _ | refine Ext.ext ?_ _ | refine Ext.drew ?_ | refine Ext.drewN ?_ _))⟩
        case measure => simp [intOf]; omega
      · have Y := hid (yes.out e)
        clear next yes
        go_wp2
        go_ret
        exact ⟨by rw [Y.out]; rfl, (by repeat' (first | exact Ext.refl _ | assumption | refine Ext.alloc ?_ _ | refine Ext.ext ?_ _ | refine Ext.drew ?_ | refine Ext.drewN ?_ _))⟩
    · have hf : fndP ps x = -1 := hitG_no (p := fun q : Pnd => q.n == x) (z := .z) (fun i hi => hall.out i (by omega))
      have Hf := hid hf
      clear hf hall
      go_wp2
      go_ret
      exact ⟨by rw [Hf.out]; rfl, (by repeat' (first | exact Ext.refl _ | assumption | refine Ext.alloc ?_ _ | refine Ext.ext ?_ _ | refine Ext.drew ?_ | refine Ext.drewN ?_ _))⟩
end Go.Proofs.YtnngklclehffhaaDoor
