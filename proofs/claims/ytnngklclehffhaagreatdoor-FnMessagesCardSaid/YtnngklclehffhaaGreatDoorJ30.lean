/- Valid lists of pendings: the reference's side. The parts that a message lacks: both sides. -/
import Derived.Test.YtnngklclehffhaaGreatDoorKWPv2
import Derived.Maps.AppendAt
namespace Go.Proofs.YtnngklclehffhaaGreatDoor
open Go.RowKit
set_option maxHeartbeats 1000000
set_option maxRecDepth 100000
theorem cnt_take (h : List Bool) (k : Nat) (hk : k < h.length) : (h.take (k + 1)).count true = (h.take k).count true + if h.getD k false then 1 else 0 := by
  rw [take_snoc h false k hk, List.count_append]
  cases h.getD k false <;> rfl
theorem cnt_le (h : List Bool) (k : Nat) : (h.take k).count true ≤ k := Nat.le_trans List.count_le_length (by rw [List.length_take]; omega)
end Go.Proofs.YtnngklclehffhaaGreatDoor
namespace Go.Proofs.YtnngklclehffhaaGreatDoor
open Go.RowKit
set_option maxHeartbeats 1000000
set_option maxRecDepth 100000
/-- While numbers are gathered. -/
def LkW (w W : World) (u : Value) (L : List Int) : Prop := Ext w W ∧ W.ownsRow w.heap.size 3 1 u L.length (vInts L)
theorem LkW.ext {w W W' : World} {u : Value} {L : List Int} (h : LkW w W u L) (hx : Ext W W') : LkW w W' u L := ⟨h.1.trans hx, own_ext h.2 hx⟩
theorem LkW.grow {w W W' : World} {u u' : Value} {L : List Int} {x : Int} (h : LkW w W u L) (hg : W.grownBy W' u.ownBlock) (ho : W'.ownsRow w.heap.size 3 1 u' (L.length + 1) (vInts L ++ [.int .i64 x])) : LkW w W' u' (L ++ [x]) := by
  refine ⟨h.1.grown hg (fun j e => (own_row h.2 j e).1), ?_⟩
  rw [List.length_append, show vInts (L ++ [x]) = vInts L ++ [.int .i64 x] by simp [vInts]]
  exact ho
theorem lkB_at {ps : List Pnd} {x : Int} (h : lkB ps x = true) : okL ps = true ∧ ∃ k, k < ps.length ∧ fndP ps x = (k : Int) ∧ lkL ps x = lacks (ps.getD k .z).h ∧ (ps.getD k .z).h.length ≤ 9 := by
  have h1 := lkL_yes h
  rw [lkB, Bool.and_eq_true, decide_eq_true_eq] at h
  obtain ⟨k, hk, e, -⟩ := fndP_get h.2
  rw [e, Int.toNat_natCast] at h1
  exact ⟨h.1, k, hk, e, h1, (okS_len (okL_at h.1 k hk).1).2.1⟩
theorem lkB_no {ps : List Pnd} {x : Int} (h : lkB ps x = false) : okL ps = false ∨ okL ps = true ∧ fndP ps x < 0 := by
  rw [lkB] at h
  cases e : okL ps
  · exact .inl rfl
  · rw [e, Bool.true_and, decide_eq_false_iff_not] at h
    exact .inr ⟨rfl, by omega⟩
theorem impl_LackingParts (ps : List Pnd) (es : List Pe) (q : Option Addr) (cap : Nat) (x : Int) (w : World) (h : PRd w (.slice q ps.length cap) ps es) (hcap : ps.length ≤ cap) (h2 : ps.length ≤ 1048576) (hs : ∀ i, i < ps.length → (ps.getD i .z).d.length ≤ 1048576 ∧ (ps.getD i .z).h.length ≤ 1048576 ∧ ∀ j, j < (ps.getD i .z).d.length → ((ps.getD i .z).d.getD j ByteArray.empty).size ≤ 1048576) :
    Calls Tryz.prog 10 #[.slice q ps.length cap, .int .i64 x] w fun e w' => ∃ r, e = .returned (.tuple #[r, .bool (lkB ps x)]) ∧ w'.ownsRow w.heap.size 3 1 r (lkL ps x).length (vInts (lkL ps x)) ∧ Ext w w' := by
  have Hv := hid h
  have hf := hid (fun w h => impl_findPending ps es (.slice q ps.length cap) x w h h2)
  have hg := hid (fun w h => impl_IsValidPending ps es q cap w h hcap h2 hs)
  cases e0 : lkB ps x
  · rw [lkL_no e0]
    rcases lkB_no e0 with e1 | ⟨e1, e2⟩
    · rw [e1] at hg
      generalize fndP ps x = F at *
      clear h hs e0 e1
      go_enter Tryz.func10, Tryz.ntmps10
      go_wp2_with (first | (go_at_call 32; refine (hf.out _ Hv.out).mono ?_; rintro e w' ⟨rfl, z1, rfl⟩) | (go_at_call 26; refine (hg.out _ (Hv.out.ext (by repeat' (first | exact Ext.refl _ | assumption | refine Ext.alloc ?_ _ | refine Ext.ext ?_ _ | refine Ext.drew ?_ | refine Ext.drewN ?_ _)))).mono ?_; rintro e w' ⟨rfl, z2, rfl⟩))
      go_ret2
      exact ⟨_, rfl, World.ownsRow_nil _ _ _ _, (by repeat' (first | exact Ext.refl _ | assumption | refine Ext.alloc ?_ _ | refine Ext.ext ?_ _ | refine Ext.drew ?_ | refine Ext.drewN ?_ _))⟩
    · rw [e1] at hg
      generalize fndP ps x = F at *
      have tF : decide (F < 0) = true := by simp; omega
      clear h hs e0 e1
      go_enter Tryz.func10, Tryz.ntmps10
      go_wp2_with (first | (go_at_call 32; refine (hf.out _ Hv.out).mono ?_; rintro e w' ⟨rfl, z1, rfl⟩) | (go_at_call 26; refine (hg.out _ (Hv.out.ext (by repeat' (first | exact Ext.refl _ | assumption | refine Ext.alloc ?_ _ | refine Ext.ext ?_ _ | refine Ext.drew ?_ | refine Ext.drewN ?_ _)))).mono ?_; rintro e w' ⟨rfl, z2, rfl⟩))
      go_ret2
      exact ⟨_, rfl, World.ownsRow_nil _ _ _ _, (by repeat' (first | exact Ext.refl _ | assumption | refine Ext.alloc ?_ _ | refine Ext.ext ?_ _ | refine Ext.drew ?_ | refine Ext.drewN ?_ _))⟩
  · obtain ⟨e1, k, hk, ek, el, hl9⟩ := lkB_at e0
    rw [e1] at hg
    rw [ek] at hf
    rw [el]
    obtain ⟨q', cap', e, h4⟩ := h.form
    cases e
    obtain ⟨b, off, rfl⟩ := h4.resolve_left (by omega)
    obtain ⟨⟨c0, c1, c2⟩, hcr, hcr'⟩ := h.at k hk
    obtain ⟨vp, vc, ev, hvp⟩ := rd_block hcr'
    rw [ev] at c2 hcr'
    generalize (ps.getD k .z).h = hh at *
    have Hcr := hid hcr'
    have Hvp := hid hvp
    have Hst := hid (lacksTo_succ hh)
    have Hln := hid (lacksTo_len hh)
    have n0 : (0 : Int) ≤ (k : Int) := by omega
    have n1 : (k : Int) < (ps.length : Int) := by omega
    have tF : decide ((k : Int) < 0) = false := by simp
    obtain ⟨i0, hi, hz0, hz1, hz2⟩ := info_parts infoInt
    clear h h4 hs e0 e1 ek el hcr hcr' ev hvp c0 c1
    have c2' := c2
    clear c2
    go_enter Tryz.func10, Tryz.ntmps10
    go_wp2_with (first | (go_at_call 32; refine (hf.out _ Hv.out).mono ?_; rintro e w' ⟨rfl, z1, rfl⟩) | (go_at_call 26; refine (hg.out _ (Hv.out.ext (by repeat' (first | exact Ext.refl _ | assumption | refine Ext.alloc ?_ _ | refine Ext.ext ?_ _ | refine Ext.drew ?_ | refine Ext.drewN ?_ _)))).mono ?_; rintro e w' ⟨rfl, z2, rfl⟩))
    go_loopw [26, 7] (fun v26 v7 wr => ∃ j : Nat, j ≤ hh.length ∧ v26 = .int .i64 j ∧ Hid (LkW w wr v7 (lacksTo hh j))) (fun v26 _ _ => hh.length - (intOf v26).toNat)
    case atStart => exact ⟨0, Nat.zero_le _, rfl, ⟨(by repeat' (first | exact Ext.refl _ | assumption | refine Ext.alloc ?_ _ | refine Ext.ext ?_ _ | refine Ext.drew ?_ | refine Ext.drewN ?_ _)), World.ownsRow_nil _ _ _ _⟩⟩
    case round =>
      obtain ⟨j, hj, rfl, HR⟩ := hrel
      obtain ⟨up, uc, rfl⟩ := own_shape HR.out.2
      by_cases hlt : j < hh.length
      · obtain ⟨b', off', rfl⟩ := Hvp.out.resolve_left (by omega)
        have d0 := HR.out.1.cell (bools_at Hcr.out j hlt)
        have hst := Hst.out j
        have hln := Hln.out j
        have n2 : (0 : Int) ≤ (j : Int) := by omega
        have n3 : (j : Int) < (hh.length : Int) := by omega
        generalize hh.getD j false = bb at *
        generalize lacksTo hh j = L at *
        cases bb
        · have Hst1 := hid hst
          clear hst
          go_wp2_with (at_builtin; refine wpList_append_own _ rfl _ _ 35 rfl w.heap.size 3 i0 (.int .i64 0) 1 8 Tryz.underlying35 hi hz0 hz1 hz2 rfl (by decide) _ _ _ rfl ((own_ext HR.out.2 (by repeat' (first | exact Ext.refl _ | assumption | refine Ext.alloc ?_ _ | refine Ext.ext ?_ _ | refine Ext.drew ?_ | refine Ext.drewN ?_ _)))) ⟨_, 0, none⟩ 1 1 [.int .i64 (j : Int)] rfl ?a0A ?a1A ?a2A ?a3A ?a4A ?a5A ?_)
          (try case a0A => rfl)
          case a1A => (intro j u hj; rw [Addr.add_lit, Nat.zero_add, cell_of_row _ _ j _ _ (0, 0) (heap_at _ rfl)]; first | (simpa using hj) | (simpa [hwb.out] using hj))
          case a2A => simp [Value.oneCell']
          case a3A => (first | (unfold maxLen; simp; done) | (unfold maxLen; simp; omega))
          case a4A => (first | omega | (simp; omega))
          case a5A => (have := (HR.out.1.size); first | omega | (simp at *; omega))
          intro v' w1 hown' hgrow hat
          have H2 := hid ((HR.out.ext (show Ext wr (wr.alloc (.cells #[.int .i64 (j : Int)] 3)) from (by repeat' (first | exact Ext.refl _ | assumption | refine Ext.alloc ?_ _ | refine Ext.ext ?_ _ | refine Ext.drew ?_ | refine Ext.drewN ?_ _)))).grow hgrow hown')
          obtain ⟨vp, vc, rfl⟩ := own_shape hown'
          clear hown' hgrow hat
          clear HR
          go_wp2
          go_roundw
          case rel => exact ⟨j + 1, by omega, by go_num, by rw [Hst1.out]; exact H2⟩
          case measure => simp [intOf]; omega
        · have Hst1 := hid hst
          clear hst
          go_wp2
          go_roundw
          case rel => exact ⟨j + 1, by omega, by go_num, by rw [Hst1.out]; exact HR⟩
          case measure => simp [intOf]; omega
      · obtain rfl : j = hh.length := by omega
        go_wp2
        go_ret2
        exact ⟨_, rfl, HR.out.2, HR.out.1⟩
end Go.Proofs.YtnngklclehffhaaGreatDoor
