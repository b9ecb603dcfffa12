/- Numbers read off texts, and texts split: both sides. -/
import Derived.Test.YtljknhocfjpolaaGreatDoorKWRdS
import Derived.Test.YtljknhocfjpolaaGreatDoorJ14
import Derived.Test.YtljknhocfjpolaaGreatDoorJ2
import Derived.Maps.AppendAt
import Derived.Deep.DeepCutAuto
namespace Go.Proofs.YtljknhocfjpolaaGreatDoor
open Go.RowKit
set_option maxHeartbeats 1000000
set_option maxRecDepth 100000
theorem str_yes {s a : ByteArray} (h : s = a) : (s.toList == a.toList) = true := by rw [h]; simp
theorem str_no {s a : ByteArray} (h : ¬ s = a) : (s.toList == a.toList) = false := by
  rw [beq_eq_false_iff_ne]; intro e; rw [ByteArray.toList_eq, ByteArray.toList_eq] at e; exact h (ByteArray.ext (Array.ext' e))
theorem impl_ParseInt (s : ByteArray) (w : World) (hv : Vrs w) (ht : Tab w) (h : s.size ≤ 1048576) :
    Calls Tryz.prog 119 #[.string s] w fun e w' => e = .returned (.tuple #[.int .i64 ((pI s).getD 0), .bool (pI s).isSome]) ∧ Ext w w' := by
  by_cases hok : ∃ v, Lib.atoiAll s.data.toList = .ok v
  · obtain ⟨v, hv1⟩ := hok
    obtain ⟨b1, b2⟩ := Lib.atoiAll_bounds hv1
    have hp : pI s = if inB v (-999999) 999999 && decide (itoaS v = s) then some v else none := by rw [pI, hv1]
    have ha := hid (fun w => strconv_Atoi_ok s v w h hv1)
    have hw1 := hid (fun w => impl_within v (-999999) 999999 w)
    have hi := hid (fun w ht => strconv_Itoa v w b1 b2 ht)
    have Ht := hid ht
    rw [hp]
    clear hv1 hp ht hv
    cases e1 : inB v (-999999) 999999
    · rw [e1] at hw1
      clear e1
      go_enter Tryz.func119, Tryz.ntmps119
      go_wp2_with (first | (go_at_call 140; refine (ha.out _).mono ?_; rintro e w' ⟨rfl, z1, rfl⟩) | (go_at_call 60; refine (hw1.out _).mono ?_; rintro e w' ⟨rfl, rfl⟩))
      go_ret2
      exact ⟨rfl, (by repeat' (first | exact Ext.refl _ | assumption | refine Ext.alloc ?_ _ | refine Ext.ext ?_ _ | refine Ext.drew ?_ | refine Ext.drewN ?_ _))⟩
    · rw [e1] at hw1
      clear e1
      by_cases he : itoaS v = s
      · have te := str_yes he
        rw [if_pos (by simpa using he)]
        clear he
        go_enter Tryz.func119, Tryz.ntmps119
        go_wp2_with (first | (go_at_call 140; refine (ha.out _).mono ?_; rintro e w' ⟨rfl, z1, rfl⟩) | (go_at_call 60; refine (hw1.out _).mono ?_; rintro e w' ⟨rfl, rfl⟩) | (go_at_call 91; refine (hi.out _ (Ht.out.ext (by repeat' (first | exact Ext.refl _ | assumption | refine Ext.alloc ?_ _ | refine Ext.ext ?_ _ | refine Ext.drew ?_ | refine Ext.drewN ?_ _)))).mono ?_; rintro e w' ⟨rfl, z2, rfl⟩))
        go_ret2
        exact ⟨rfl, (by repeat' (first | exact Ext.refl _ | assumption | refine Ext.alloc ?_ _ | refine Ext.ext ?_ _ | refine Ext.drew ?_ | refine Ext.drewN ?_ _))⟩
      · have te := str_no he
        rw [if_neg (by simpa using he)]
        clear he
        go_enter Tryz.func119, Tryz.ntmps119
        go_wp2_with (first | (go_at_call 140; refine (ha.out _).mono ?_; rintro e w' ⟨rfl, z1, rfl⟩) | (go_at_call 60; refine (hw1.out _).mono ?_; rintro e w' ⟨rfl, rfl⟩) | (go_at_call 91; refine (hi.out _ (Ht.out.ext (by repeat' (first | exact Ext.refl _ | assumption | refine Ext.alloc ?_ _ | refine Ext.ext ?_ _ | refine Ext.drew ?_ | refine Ext.drewN ?_ _)))).mono ?_; rintro e w' ⟨rfl, z2, rfl⟩))
        go_ret2
        exact ⟨rfl, (by repeat' (first | exact Ext.refl _ | assumption | refine Ext.alloc ?_ _ | refine Ext.ext ?_ _ | refine Ext.drew ?_ | refine Ext.drewN ?_ _))⟩
  · have hp : pI s = none := by
      rw [pI]
      split
      · rename_i v e; exact absurd ⟨v, e⟩ hok
      · rfl
    have ha := hid (fun w hv => strconv_Atoi_no s w hv h (fun v e => hok ⟨v, e⟩))
    have Hv := hid hv
    rw [hp]
    clear hok hp hv
    go_enter Tryz.func119, Tryz.ntmps119
    go_wp2_with (go_at_call 140; refine (ha.out _ (Hv.out.ext (by repeat' (first | exact Ext.refl _ | assumption | refine Ext.alloc ?_ _ | refine Ext.ext ?_ _ | refine Ext.drew ?_ | refine Ext.drewN ?_ _)))).mono ?_; rintro e w' ⟨x, t, N, rfl, z1, rfl⟩)
    go_ret2
    exact ⟨rfl, (by repeat' (first | exact Ext.refl _ | assumption | refine Ext.alloc ?_ _ | refine Ext.ext ?_ _ | refine Ext.drew ?_ | refine Ext.drewN ?_ _))⟩
/-- While numbers are gathered. -/
def NuW (w W : World) (u : Value) (L : List Int) : Prop := Ext w W ∧ W.ownsRow w.heap.size 3 1 u L.length (vInts L)
theorem NuW.ext {w W W' : World} {u : Value} {L : List Int} (h : NuW w W u L) (hx : Ext W W') : NuW w W' u L := ⟨h.1.trans hx, own_ext h.2 hx⟩
theorem NuW.grow {w W W' : World} {u u' : Value} {L : List Int} {x : Int} (h : NuW w W u L) (hg : W.grownBy W' u.ownBlock) (ho : W'.ownsRow w.heap.size 3 1 u' (L.length + 1) (vInts L ++ [.int .i64 x])) : NuW w W' u' (L ++ [x]) := by
  refine ⟨h.1.grown hg (fun j e => (own_row h.2 j e).1), ?_⟩
  rw [List.length_append, show vInts (L ++ [x]) = vInts L ++ [.int .i64 x] by simp [vInts]]
  exact ho
theorem pIs_take_no {L : List ByteArray} {k : Nat} (hk : k < L.length) (h : pI (L.getD k ByteArray.empty) = none) : pIs L = none := by
  have e : L = L.take k ++ L.getD k ByteArray.empty :: L.drop (k + 1) := by
    have e1 : L.getD k ByteArray.empty = L[k] := by rw [List.getD_eq_getElem?_getD, List.getElem?_eq_getElem hk]; rfl
    rw [e1, List.getElem_cons_drop, List.take_append_drop]
  rw [e]
  exact pIs_bad h
theorem impl_parseInts (L : List ByteArray) (v : Value) (w : World) (h : Rd w 1 v L.length (vStrs L)) (hv : Vrs w) (ht : Tab w) (h2 : L.length ≤ 1048577) (h3 : ∀ i, i < L.length → (L.getD i ByteArray.empty).size ≤ 1048576) :
    Calls Tryz.prog 88 #[v] w fun e w' => ∃ r, e = .returned (.tuple #[r, .bool (pIs L).isSome]) ∧ w'.ownsRow w.heap.size 3 1 r ((pIs L).getD []).length (vInts ((pIs L).getD [])) ∧ Ext w w' := by
  obtain ⟨h1, p, cap, rfl, h4⟩ := h
  have H4 := hid h4
  have Hv := hid hv
  have Ht := hid ht
  have H3 := hid h3
  clear h4 h1 hv ht h3
  obtain ⟨i0, hi, hz0, hz1, hz2⟩ := info_parts infoInt
  go_enter Tryz.func88, Tryz.ntmps88
  go_wp2
  go_loopw [11, 4] (fun v11 v4 wr => ∃ (k : Nat) (u : Value) (vs : List Int), k ≤ L.length ∧ v11 = .int .i64 k ∧ v4 = u ∧ vs.length ≤ k ∧ Hid (pIs (L.take k) = some vs ∧ NuW w wr u vs)) (fun v11 _ _ => L.length - (intOf v11).toNat)
  case atStart => exact ⟨0, _, [], Nat.zero_le _, rfl, rfl, Nat.le_refl _, ⟨rfl, (by repeat' (first | exact Ext.refl _ | assumption | refine Ext.alloc ?_ _ | refine Ext.ext ?_ _ | refine Ext.drew ?_ | refine Ext.drewN ?_ _)), World.ownsRow_nil _ _ _ _⟩⟩
  case round =>
    obtain ⟨k, u, vs, hk, rfl, rfl, hl, HR⟩ := hrel
    obtain ⟨up, uc, rfl⟩ := own_shape HR.out.2.2
    by_cases hlt : k < L.length
    · obtain ⟨b, off, rfl, h6⟩ := H4.out.resolve_left (by omega)
      have c0 := HR.out.2.1.cell (elem1 Value.string ByteArray.empty L h6 k hlt)
      have hz := H3.out k hlt
      have hsn := pIs_snoc HR.out.1 (L.getD k ByteArray.empty)
      rw [← take_snoc L ByteArray.empty k hlt] at hsn
      have hno := fun e => pIs_take_no hlt e
      generalize L.getD k ByteArray.empty = s at *
      have hc := hid (fun w hv ht => impl_ParseInt s w hv ht hz)
      clear h6
      cases hp : pI s with
      | none =>
        rw [hp] at hc
        have Hn := hid (hno hp)
        clear hno hsn hp
        go_wp2_with (go_at_call 119; refine (hc.out _ (Hv.out.ext (HR.out.2.1.trans (by repeat' (first | exact Ext.refl _ | assumption | refine Ext.alloc ?_ _ | refine Ext.ext ?_ _ | refine Ext.drew ?_ | refine Ext.drewN ?_ _)))) (Ht.out.ext (HR.out.2.1.trans (by repeat' (first | exact Ext.refl _ | assumption | refine Ext.alloc ?_ _ | refine Ext.ext ?_ _ | refine Ext.drew ?_ | refine Ext.drewN ?_ _))))).mono ?_; rintro e w' ⟨rfl, z1, rfl⟩)
        go_ret2
        refine ⟨_, by rw [Hn.out]; rfl, by rw [Hn.out]; exact World.ownsRow_nil _ _ _ _, HR.out.2.1.trans (by repeat' (first | exact Ext.refl _ | assumption | refine Ext.alloc ?_ _ | refine Ext.ext ?_ _ | refine Ext.drew ?_ | refine Ext.drewN ?_ _))⟩
      | some x =>
        rw [hp] at hc hsn
        have Hs := hid hsn
        clear hno hsn hp
        go_wp2_with fail
        go_at_call 119
        refine (hc.out _ (Hv.out.ext (HR.out.2.1.trans (by repeat' (first | exact Ext.refl _ | assumption | refine Ext.alloc ?_ _ | refine Ext.ext ?_ _ | refine Ext.drew ?_ | refine Ext.drewN ?_ _)))) (Ht.out.ext (HR.out.2.1.trans (by repeat' (first | exact Ext.refl _ | assumption | refine Ext.alloc ?_ _ | refine Ext.ext ?_ _ | refine Ext.drew ?_ | refine Ext.drewN ?_ _))))).mono ?_
        rintro e wq ⟨rfl, hx⟩
        have H1 := hid (HR.out.2.ext hx)
        clear hx HR c0
        go_wp2_with (at_builtin; refine wpList_append_own _ rfl _ _ 41 rfl w.heap.size 3 i0 (.int .i64 0) 1 8 Tryz.underlying41 hi hz0 hz1 hz2 rfl (by decide) _ _ _ rfl ((own_ext H1.out.2 (by repeat' (first | exact Ext.refl _ | assumption | refine Ext.alloc ?_ _ | refine Ext.ext ?_ _ | refine Ext.drew ?_ | refine Ext.drewN ?_ _)))) ⟨_, 0, none⟩ 1 1 [.int .i64 x] rfl ?a0A ?a1A ?a2A ?a3A ?a4A ?a5A ?_)
        (try case a0A => rfl)
        case a1A => (intro j u hj; rw [Addr.add_lit, Nat.zero_add, cell_of_row _ _ j _ _ (0, 0) (heap_at _ rfl)]; first | (simpa using hj) | (simpa [hwb.out] using hj))
        case a2A => simp [Value.oneCell']
        case a3A => (first | (unfold maxLen; simp; done) | (unfold maxLen; simp; omega))
        case a4A => (first | omega | (simp; omega))
        case a5A => (have := (H1.out.1.size); first | omega | (simp at *; omega))
        intro v' w1 hown' hgrow hat
        have H2 := hid ((H1.out.ext (show Ext wq (wq.alloc (.cells #[.int .i64 x] 3)) from (by repeat' (first | exact Ext.refl _ | assumption | refine Ext.alloc ?_ _ | refine Ext.ext ?_ _ | refine Ext.drew ?_ | refine Ext.drewN ?_ _)))).grow hgrow hown')
        obtain ⟨vp, vc, rfl⟩ := own_shape hown'
        clear hown' hgrow hat
        clear H1
        go_wp2
        go_roundw
        case rel => exact ⟨k + 1, _, vs ++ [x], by omega, by go_num, rfl, by simp; omega, ⟨Hs.out, H2.out⟩⟩
        case measure => simp [intOf]; omega
    · obtain rfl : k = L.length := by omega
      have hp := HR.out.1
      rw [List.take_length] at hp
      have Hp := hid hp
      clear hp
      go_wp2
      go_ret2
      exact ⟨_, by rw [Hp.out]; rfl, by rw [Hp.out]; exact HR.out.2.2, HR.out.2.1⟩
end Go.Proofs.YtljknhocfjpolaaGreatDoor
