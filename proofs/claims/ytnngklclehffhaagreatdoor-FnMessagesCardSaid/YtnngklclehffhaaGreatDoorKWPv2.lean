/- Valid lists of pendings: the program's side. -/
import Derived.Test.YtnngklclehffhaaGreatDoorKWPv
namespace Go.Proofs.YtnngklclehffhaaGreatDoor
open Go.RowKit
set_option maxHeartbeats 1000000
set_option maxRecDepth 100000
theorem strs_at {w : World} {b off cap n : Nat} {d : List ByteArray} (h : Rd w 1 (.slice (some ⟨b, off, none⟩) n cap) d.length (vStrs d)) (i : Nat) (hi : i < d.length) : w.cell? ⟨b, off + i, none⟩ = some (.string (d.getD i ByteArray.empty)) := by
  obtain ⟨-, p, c, e, h4⟩ := h
  cases e
  obtain ⟨b', o', e2, h6⟩ := h4.resolve_left (by omega)
  cases e2
  exact elem1 Value.string ByteArray.empty d h6 i hi
theorem bools_at {w : World} {b off cap n : Nat} {d : List Bool} (h : Rd w 1 (.slice (some ⟨b, off, none⟩) n cap) d.length (vBools d)) (i : Nat) (hi : i < d.length) : w.cell? ⟨b, off + i, none⟩ = some (.bool (d.getD i false)) := by
  obtain ⟨-, p, c, e, h4⟩ := h
  cases e
  obtain ⟨b', o', e2, h6⟩ := h4.resolve_left (by omega)
  cases e2
  exact elem1 Value.bool false d h6 i hi
theorem rd_block {w : World} {k n : Nat} {v : Value} {cs : List Value} (h : Rd w k v n cs) : ∃ p cap, v = .slice p n cap ∧ (n = 0 ∨ ∃ b off, p = some ⟨b, off, none⟩) := by
  obtain ⟨-, p, cap, e, h4⟩ := h
  refine ⟨p, cap, e, h4.imp id ?_⟩
  rintro ⟨b, off, e, -⟩
  exact ⟨b, off, e⟩
theorem impl_isPending (n : Int) (d : List ByteArray) (h : List Bool) (u v : Value) (w : World) (hu : Rd w 1 u d.length (vStrs d)) (hv : Rd w 1 v h.length (vBools h)) (h2 : d.length ≤ 1048576) (k2 : h.length ≤ 1048576) (hz : ∀ i, i < d.length → (d.getD i ByteArray.empty).size ≤ 1048576) :
    Calls Tryz.prog 52 #[.agg #[.int .i64 n, u, v]] w fun e w' => e = .returned (.bool (okS ⟨n, d, h⟩)) ∧ Ext w w' := by
  have XB : Ext w (w.alloc (.cells #[.int .i64 n, u, v] 62)) := (by repeat' (first | exact Ext.refl _ | assumption | refine Ext.alloc ?_ _ | refine Ext.ext ?_ _ | refine Ext.drew ?_ | refine Ext.drewN ?_ _))
  have HB : (w.alloc (.cells #[.int .i64 n, u, v] 62)).heap[w.heap.size]? = some (.cells #[.int .i64 n, u, v] 62 (0, 0)) := heap_at _ rfl
  have Hu := hid (hu.ext XB)
  have Hv := hid (hv.ext XB)
  obtain ⟨p, cap, rfl, h4⟩ := rd_block hu
  obtain ⟨p', cap', rfl, h4'⟩ := rd_block hv
  have H4 := hid h4
  have H4' := hid h4'
  have Hz := hid hz
  have hn := hid (fun w => impl_isMessageNumber n w)
  have hdef : okS ⟨n, d, h⟩ = (inB n 0 99 && (decide (d.length = h.length) && (decide (d.length ≤ 9) && ((List.range d.length).all (pok ⟨n, d, h⟩) && (h.contains true && h.contains false))))) := rfl
  have hpk : ∀ i, pok ⟨n, d, h⟩ i = (itm 8 (d.getD i ByteArray.empty) && (h.getD i false || (d.getD i ByteArray.empty).data.toList.isEmpty)) := fun _ => rfl
  generalize okS ⟨n, d, h⟩ = O at *
  generalize pok ⟨n, d, h⟩ = PK at *
  have Hdef := hid hdef
  have Hpk := hid hpk
  clear hdef hpk hu hv h4 h4' hz
  go_enter Tryz.func52, Tryz.ntmps52
  go_wp2_with fail
  generalize (w.alloc (.cells #[.int .i64 n, .slice p d.length cap, .slice p' h.length cap'] 62)) = W at *
  obtain ⟨⟨b0, b1, b2⟩, -, -⟩ := box3 HB
  generalize w.heap.size = Q at *
  go_at_call 17
  refine (hn.out _).mono ?_
  rintro e w' ⟨rfl, rfl⟩
  cases e1 : inB n 0 99
  · have HO : Hid (O = false) := by (have h9 := Hdef.out; rw [e1] at h9; exact h9)
    clear Hdef e1
    go_wp2
    go_ret
    exact ⟨by rw [HO.out]; rfl, XB⟩
  have h9 := Hdef.out
  rw [e1, Bool.true_and] at h9
  clear Hdef e1
  by_cases hl : d.length = h.length
  case neg =>
    have HO : Hid (O = false) := by (rw [decide_eq_false hl] at h9; exact h9)
    have t1 : ((d.length : Int) != (h.length : Int)) = true := by simp; omega
    clear h9
    go_wp2
    go_ret
    exact ⟨by rw [HO.out]; rfl, XB⟩
  rw [decide_eq_true hl, Bool.true_and] at h9
  have t1 : ((d.length : Int) != (h.length : Int)) = false := by simp; omega
  by_cases h10 : d.length ≤ 9
  case neg =>
    have HO : Hid (O = false) := by (rw [decide_eq_false h10] at h9; exact h9)
    have t2 : decide ((9 : Int) < (d.length : Int)) = true := by simp; omega
    have t2' : decide (9 < d.length) = true := by simp; omega
    clear h9
    go_wp2
    go_ret
    exact ⟨by rw [HO.out]; rfl, XB⟩
  rw [decide_eq_true h10, Bool.true_and] at h9
  have t2 : decide ((9 : Int) < (d.length : Int)) = false := by simp; omega
  have t2' : decide (9 < d.length) = false := by simp; omega
  have Hdef := hid h9
  have Hl := hid hl
  clear h9 hl
  go_wp2
  go_loopw [27] (fun v27 wr => ∃ k : Nat, k ≤ d.length ∧ v27 = .int .i64 k ∧ Hid (∀ i, i < k → PK i = true) ∧ Ext W wr) (fun v27 _ => d.length - (intOf v27).toNat)
  case atStart => exact ⟨0, Nat.zero_le _, rfl, fun _ h => absurd h (Nat.not_lt_zero _), Ext.refl _⟩
  case round =>
    obtain ⟨k, hk, rfl, hall, z, rfl⟩ := hrel
    by_cases hlt : k < d.length
    · obtain ⟨b, off, rfl⟩ := H4.out.resolve_left (by omega)
      obtain ⟨b', off', rfl⟩ := H4'.out.resolve_left (by have := Hl.out; omega)
      have c0 := strs_at Hu.out k hlt
      have d0 := bools_at Hv.out k (by have := Hl.out; omega)
      have hzk := Hz.out k hlt
      have hpk := Hpk.out k
      have next := hid (fun h => upTo_succ (p := fun i => PK i = true) hall.out (k := k) h)
      have bad : Hid (PK k = false → O = false) := fun h => by rw [Hdef.out, allUpto hlt h]; rfl
      have hkh : k < h.length := by have := Hl.out; omega
      generalize d.getD k ByteArray.empty = s at *
      generalize h.getD k false = hb at *
      have hit := hid (fun w => impl_isItem s w hzk)
      have n1 : (k : Int) < (h.length : Int) := by omega
      have n0 : (0 : Int) ≤ (k : Int) := by omega
      clear hall
      cases e2 : itm 8 s
      · rw [e2] at hit hpk
        have HO := hid (bad.out hpk)
        clear e2 hpk next bad
        go_wp2_with (go_at_call 25; refine (hit.out _).mono ?_; rintro e w' ⟨rfl, z1, rfl⟩)
        go_ret
        exact ⟨by rw [HO.out]; rfl, XB.trans (by repeat' (first | exact Ext.refl _ | assumption | refine Ext.alloc ?_ _ | refine Ext.ext ?_ _ | refine Ext.drew ?_ | refine Ext.drewN ?_ _))⟩
      rw [e2, Bool.true_and] at hpk
      rw [e2] at hit
      clear e2
      cases hb
      · cases he : s.data.toList.isEmpty
        · rw [he] at hpk
          have HO := hid (bad.out hpk)
          have q0 : s.toList.isEmpty = false := by rw [Lib.toList_data]; exact he
          have q1 : (!s.toList.isEmpty) = true := by rw [q0]; rfl
          clear hpk next bad he
          go_wp2_with (go_at_call 25; refine (hit.out _).mono ?_; rintro e w' ⟨rfl, z1, rfl⟩)
          go_ret
          exact ⟨by rw [HO.out]; rfl, XB.trans (by repeat' (first | exact Ext.refl _ | assumption | refine Ext.alloc ?_ _ | refine Ext.ext ?_ _ | refine Ext.drew ?_ | refine Ext.drewN ?_ _))⟩
        · rw [he] at hpk
          have Nx := hid (next.out hpk)
          have q0 : s.toList.isEmpty = true := by rw [Lib.toList_data]; exact he
          have q1 : (!s.toList.isEmpty) = false := by rw [q0]; rfl
          clear hpk next bad he
          go_wp2_with (go_at_call 25; refine (hit.out _).mono ?_; rintro e w' ⟨rfl, z1, rfl⟩)
          go_roundw
          case rel => exact ⟨k + 1, by omega, by go_num, Nx, (by repeat' (first | exact Ext.refl _ | assumption | refine Ext.alloc ?_ _ | refine Ext.ext ?_ _ | refine Ext.drew ?_ | refine Ext.drewN ?_ _))⟩
          case measure => simp [intOf]; omega
      · rw [Bool.true_or] at hpk
        have Nx := hid (next.out hpk)
        clear hpk next bad
        go_wp2_with (go_at_call 25; refine (hit.out _).mono ?_; rintro e w' ⟨rfl, z1, rfl⟩)
        go_roundw
        case rel => exact ⟨k + 1, by omega, by go_num, Nx, (by repeat' (first | exact Ext.refl _ | assumption | refine Ext.alloc ?_ _ | refine Ext.ext ?_ _ | refine Ext.drew ?_ | refine Ext.drewN ?_ _))⟩
        case measure => simp [intOf]; omega
    · have h9 := Hdef.out
      rw [allTo (fun i hi => hall.out i (by omega)), Bool.true_and] at h9
      have HO := hid h9
      have c1 := hid (fun w a => slices_Contains_bool h (.slice p' h.length cap') true w a k2)
      have c2 := hid (fun w a => slices_Contains_bool h (.slice p' h.length cap') false w a k2)
      clear h9 hall Hdef
      generalize h.contains true = x1 at *
      generalize h.contains false = x2 at *
      cases x1
      · go_wp2_with (go_at_call 29; (with_reducible refine (c1.out _ (Hv.out.ext (by repeat' (first | exact Ext.refl _ | assumption | refine Ext.alloc ?_ _ | refine Ext.ext ?_ _ | refine Ext.drew ?_ | refine Ext.drewN ?_ _)))).mono ?_); rintro e w' ⟨rfl, z1, rfl⟩)
        go_ret
        exact ⟨by rw [HO.out]; rfl, XB.trans (by repeat' (first | exact Ext.refl _ | assumption | refine Ext.alloc ?_ _ | refine Ext.ext ?_ _ | refine Ext.drew ?_ | refine Ext.drewN ?_ _))⟩
      · go_wp2_with (go_at_call 29; first | ((with_reducible refine (c1.out _ (Hv.out.ext (by repeat' (first | exact Ext.refl _ | assumption | refine Ext.alloc ?_ _ | refine Ext.ext ?_ _ | refine Ext.drew ?_ | refine Ext.drewN ?_ _)))).mono ?_); rintro e w' ⟨rfl, z1, rfl⟩) | ((with_reducible refine (c2.out _ (Hv.out.ext (by repeat' (first | exact Ext.refl _ | assumption | refine Ext.alloc ?_ _ | refine Ext.ext ?_ _ | refine Ext.drew ?_ | refine Ext.drewN ?_ _)))).mono ?_); rintro e w' ⟨rfl, z1, rfl⟩))
        go_ret
        exact ⟨by rw [HO.out]; rfl, XB.trans (by repeat' (first | exact Ext.refl _ | assumption | refine Ext.alloc ?_ _ | refine Ext.ext ?_ _ | refine Ext.drew ?_ | refine Ext.drewN ?_ _))⟩
/-- The first k of a list. -/
theorem PRd.take {w : World} {ps : List Pnd} {es : List Pe} {b off n cap : Nat} (h : PRd w (.slice (some ⟨b, off, none⟩) n cap) ps es) (k : Nat) (hk : k ≤ ps.length) : PRd w (.slice (some ⟨b, off, none⟩) k cap) (ps.take k) (es.take k) := by
  have hl := h.len
  obtain ⟨h1, ⟨h2, p, c, e, h4⟩, h5⟩ := h
  cases e
  refine ⟨by rw [← h1, List.map_take], ⟨by rw [pes_len], _, cap, by rw [List.length_take]; congr 1; omega, ?_⟩, fun e he => h5 e (List.mem_of_mem_take he)⟩
  rcases h4 with h0 | ⟨b', off', e, h6⟩
  · exact .inl (by rw [List.length_take]; omega)
  · cases e
    refine .inr ⟨b, off, rfl, fun j hj => ?_⟩
    have e3 : (es.flatMap Pe.cs) = (es.take k).flatMap Pe.cs ++ (es.drop k).flatMap Pe.cs := by rw [← List.flatMap_append, List.take_append_drop]
    have hj2 : j < (es.flatMap Pe.cs).length := by rw [e3, List.length_append]; omega
    rw [h6 j hj2]
    congr 1
    simp only [e3]
    rw [List.getElem_append_left hj]
theorem impl_IsValidPending (ps : List Pnd) (es : List Pe) (q : Option Addr) (cap : Nat) (w : World) (h : PRd w (.slice q ps.length cap) ps es) (hcap : ps.length ≤ cap) (h2 : ps.length ≤ 1048576) (hs : ∀ i, i < ps.length → (ps.getD i .z).d.length ≤ 1048576 ∧ (ps.getD i .z).h.length ≤ 1048576 ∧ ∀ j, j < (ps.getD i .z).d.length → ((ps.getD i .z).d.getD j ByteArray.empty).size ≤ 1048576) :
    Calls Tryz.prog 26 #[.slice q ps.length cap] w fun e w' => e = .returned (.bool (okL ps)) ∧ Ext w w' := by
  have Hv := hid h
  have Hs := hid hs
  obtain ⟨q', cap', e, h4⟩ := h.form
  cases e
  have H4 := hid h4
  clear h4 h hs
  go_enter Tryz.func26, Tryz.ntmps26
  go_wp2
  go_loopw [7] (fun v7 wr => ∃ k : Nat, k ≤ ps.length ∧ v7 = .int .i64 k ∧ Hid (∀ i, i < k → okP ps i = true) ∧ Ext w wr) (fun v7 _ => ps.length - (intOf v7).toNat)
  case atStart => exact ⟨0, Nat.zero_le _, rfl, fun _ h => absurd h (Nat.not_lt_zero _), Ext.refl _⟩
  case round =>
    obtain ⟨k, hk, rfl, hall, z, rfl⟩ := hrel
    by_cases hlt : k < ps.length
    · obtain ⟨b, off, rfl⟩ := H4.out.resolve_left (by omega)
      obtain ⟨⟨c0, c1, c2⟩, hcr⟩ := Hv.out.at k hlt
      have hsk := Hs.out k hlt
      have next := hid (fun h => upTo_succ (p := fun i => okP ps i = true) hall.out (k := k) h)
      have bad : Hid (okP ps k = false → okL ps = false) := fun h => by rw [okL, allUpto hlt h]; rfl
      have hdef : okP ps k = (okS (ps.getD k .z) && decide (fndP (ps.take k) (ps.getD k .z).n < 0)) := rfl
      have hfp := hid (fun w hh => impl_findPending (ps.take k) (es.take k) (.slice (some ⟨b, off, none⟩) k cap) (ps.getD k .z).n w hh (by rw [List.length_take]; omega))
      have Ht := hid (Hv.out.take k (by omega))
      obtain ⟨xp, xc, ex, -⟩ := rd_block hcr.1
      obtain ⟨yp, yc, ey, -⟩ := rd_block hcr.2
      have Hcr := hid hcr
      clear hcr hall
      generalize okP ps k = PK at *
      generalize ps.getD k .z = G at *
      generalize (es.getD k .z).u = x at *
      generalize (es.getD k .z).v = x' at *
      subst ex ey
      obtain ⟨n, d, h⟩ := G
      dsimp only at c0 c1 c2 Hcr hsk hfp hdef
      have hip := hid (fun w a b => impl_isPending n d h (.slice xp d.length xc) (.slice yp h.length yc) w a b hsk.1 hsk.2.1 hsk.2.2)
      have n0 : (0 : Int) ≤ (k : Int) := by omega
      have n1 : (k : Int) < (ps.length : Int) := by omega
      cases e1 : okS ⟨n, d, h⟩
      · rw [e1] at hip hdef
        have HO := hid (bad.out hdef)
        clear e1 hdef next bad
        go_wp2
        refine wp_region_ext (by kernel_rfl) (by kernel_rfl) ?_
        repeat (go_big_quiet_step ((first | (go_at_call 52; exact Calls.quiet_ext (hip.out _ (Hcr.out.1.ext (by repeat' (first | exact Ext.refl _ | assumption | refine Ext.alloc ?_ _ | refine Ext.ext ?_ _ | refine Ext.drew ?_ | refine Ext.drewN ?_ _))) (Hcr.out.2.ext (by repeat' (first | exact Ext.refl _ | assumption | refine Ext.alloc ?_ _ | refine Ext.ext ?_ _ | refine Ext.drew ?_ | refine Ext.drewN ?_ _))))))))
        refine wpQuiet_nil ?_
        rintro _ ⟨zq, rfl⟩
        go_wp2
        go_ret
        exact ⟨by rw [HO.out]; rfl, (by repeat' (first | exact Ext.refl _ | assumption | refine Ext.alloc ?_ _ | refine Ext.ext ?_ _ | refine Ext.drew ?_ | refine Ext.drewN ?_ _))⟩
      · rw [e1] at hip hdef
        rw [Bool.true_and] at hdef
        clear e1
        generalize fndP (ps.take k) n = F at *
        by_cases hF : F < 0
        · rw [decide_eq_true hF] at hdef
          have Nx := hid (next.out hdef)
          have tF : decide ((0 : Int) ≤ F) = false := by simp; omega
          clear hdef next bad
          go_wp2
          refine wp_region_ext (by kernel_rfl) (by kernel_rfl) ?_
          repeat (go_big_quiet_step ((first | (go_at_call 52; exact Calls.quiet_ext (hip.out _ (Hcr.out.1.ext (by repeat' (first | exact Ext.refl _ | assumption | refine Ext.alloc ?_ _ | refine Ext.ext ?_ _ | refine Ext.drew ?_ | refine Ext.drewN ?_ _))) (Hcr.out.2.ext (by repeat' (first | exact Ext.refl _ | assumption | refine Ext.alloc ?_ _ | refine Ext.ext ?_ _ | refine Ext.drew ?_ | refine Ext.drewN ?_ _))))) | (go_at_call 32; exact Calls.quiet_ext (hfp.out _ (Ht.out.ext (by repeat' (first | exact Ext.refl _ | assumption | refine Ext.alloc ?_ _ | refine Ext.ext ?_ _ | refine Ext.drew ?_ | refine Ext.drewN ?_ _))))))))
          refine wpQuiet_nil ?_
          rintro _ ⟨zq, rfl⟩
          go_wp2
          go_roundw
          case rel => exact ⟨k + 1, by omega, by go_num, Nx, (by repeat' (first | exact Ext.refl _ | assumption | refine Ext.alloc ?_ _ | refine Ext.ext ?_ _ | refine Ext.drew ?_ | refine Ext.drewN ?_ _))⟩
          case measure => simp [intOf]; omega
        · rw [decide_eq_false hF] at hdef
          have HO := hid (bad.out hdef)
          have tF : decide ((0 : Int) ≤ F) = true := by simp; omega
          clear hdef next bad
          go_wp2
          refine wp_region_ext (by kernel_rfl) (by kernel_rfl) ?_
          repeat (go_big_quiet_step ((first | (go_at_call 52; exact Calls.quiet_ext (hip.out _ (Hcr.out.1.ext (by repeat' (first | exact Ext.refl _ | assumption | refine Ext.alloc ?_ _ | refine Ext.ext ?_ _ | refine Ext.drew ?_ | refine Ext.drewN ?_ _))) (Hcr.out.2.ext (by repeat' (first | exact Ext.refl _ | assumption | refine Ext.alloc ?_ _ | refine Ext.ext ?_ _ | refine Ext.drew ?_ | refine Ext.drewN ?_ _))))) | (go_at_call 32; exact Calls.quiet_ext (hfp.out _ (Ht.out.ext (by repeat' (first | exact Ext.refl _ | assumption | refine Ext.alloc ?_ _ | refine Ext.ext ?_ _ | refine Ext.drew ?_ | refine Ext.drewN ?_ _))))))))
          refine wpQuiet_nil ?_
          rintro _ ⟨zq, rfl⟩
          go_wp2
          go_ret
          exact ⟨by rw [HO.out]; rfl, (by repeat' (first | exact Ext.refl _ | assumption | refine Ext.alloc ?_ _ | refine Ext.ext ?_ _ | refine Ext.drew ?_ | refine Ext.drewN ?_ _))⟩
    · have hf : okL ps = decide (ps.length ≤ 4) := by rw [okL, allTo (fun i hi => hall.out i (by omega)), Bool.true_and]
      have Hf := hid hf
      clear hf hall
      go_wp2
      go_ret
      exact ⟨by rw [Hf.out]; congr 2; simp; omega, (by repeat' (first | exact Ext.refl _ | assumption | refine Ext.alloc ?_ _ | refine Ext.ext ?_ _ | refine Ext.drew ?_ | refine Ext.drewN ?_ _))⟩
end Go.Proofs.YtnngklclehffhaaGreatDoor
