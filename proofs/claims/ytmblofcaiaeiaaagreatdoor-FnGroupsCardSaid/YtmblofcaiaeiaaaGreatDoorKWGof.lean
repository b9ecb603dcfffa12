/- The groups of a node: both sides. -/
import Derived.Test.YtmblofcaiaeiaaaGreatDoorKWGrL
import Derived.Test.YtmblofcaiaeiaaaGreatDoorJ8
import Derived.Maps.AppendAt
namespace Go.Proofs.YtmblofcaiaeiaaaGreatDoor
open Go.RowKit
set_option maxHeartbeats 1000000
set_option maxRecDepth 100000
/-- While names are gathered. -/
def GfW (w W : World) (u : Value) (L : List ByteArray) : Prop := Ext w W ∧ W.ownsRow w.heap.size 9 1 u L.length (vStrs L)
theorem GfW.ext {w W W' : World} {u : Value} {L : List ByteArray} (h : GfW w W u L) (hx : Ext W W') : GfW w W' u L := ⟨h.1.trans hx, own_ext h.2 hx⟩
theorem GfW.grow {w W W' : World} {u u' : Value} {L : List ByteArray} {s : ByteArray} (h : GfW w W u L) (hg : W.grownBy W' u.ownBlock) (ho : W'.ownsRow w.heap.size 9 1 u' (L.length + 1) (vStrs L ++ [.string s])) : GfW w W' u' (L ++ [s]) := by
  refine ⟨h.1.grown hg (fun j e => (own_row h.2 j e).1), ?_⟩
  rw [List.length_append, show vStrs (L ++ [s]) = vStrs L ++ [.string s] by simp [vStrs]]
  exact ho
theorem gofB_parts {gs : List Grp} {x : Int} (h : gofB gs x = true) : goodG gs = true ∧ inB x 1 7 = true := by
  simpa only [gofB, Bool.and_eq_true] using h
theorem gofTo_snoc_no {gs : List Grp} {x : Int} {k : Nat} (h : k < gs.length) (hc : (gs.getD k .z).xs.contains x = false) : gofTo gs x (k + 1) = gofTo gs x k := by
  rw [gofTo_snoc gs x k h, hc]; simp
theorem gofTo_snoc_yes {gs : List Grp} {x : Int} {k : Nat} (h : k < gs.length) (hc : (gs.getD k .z).xs.contains x = true) : gofTo gs x (k + 1) = gofTo gs x k ++ [(gs.getD k .z).s] := by
  rw [gofTo_snoc gs x k h, hc]; rfl
theorem impl_GroupsOf (gs : List Grp) (cs : List Gc) (v : Value) (x : Int) (w : World) (h : GRd w v gs cs) (h2 : gs.length ≤ 1048576) (h3 : Grp.sum gs ≤ 1048576) :
    Calls Tryz.prog 10 #[v, .int .i64 x] w fun e w' => ∃ r, e = .returned (.tuple #[r, .bool (gofB gs x)]) ∧ w'.ownsRow w.heap.size 9 1 r (gof gs x).length (vStrs (gof gs x)) ∧ Ext w w' := by
  have Hv := hid h
  have hg := hid (fun w h => impl_IsGroupList gs cs v w h h2 h3)
  cases e1 : goodG gs
  · have hno : gofB gs x = false := by rw [gofB, e1]; rfl
    rw [gof_no hno, hno]
    rw [e1] at hg
    clear hno e1 h
    go_enter Tryz.func10, Tryz.ntmps10
    go_wp2_with (go_at_call 11; refine (hg.out _ (Hv.out.ext (by repeat' (first | exact Ext.refl _ | assumption | refine Ext.alloc ?_ _ | refine Ext.ext ?_ _ | refine Ext.drew ?_ | refine Ext.drewN ?_ _)))).mono ?_; rintro e w' ⟨rfl, z1, rfl⟩)
    go_ret2
    exact ⟨_, rfl, World.ownsRow_nil _ _ _ _, (by repeat' (first | exact Ext.refl _ | assumption | refine Ext.alloc ?_ _ | refine Ext.ext ?_ _ | refine Ext.drew ?_ | refine Ext.drewN ?_ _))⟩
  rw [e1] at hg
  have hf := hid (fun w => impl_isFace x w)
  cases e2 : inB x 1 7
  · have hno : gofB gs x = false := by rw [gofB, e1, e2]; rfl
    rw [gof_no hno, hno]
    rw [e2] at hf
    clear hno e1 e2 h
    go_enter Tryz.func10, Tryz.ntmps10
    go_wp2_with (first | (go_at_call 11; refine (hg.out _ (Hv.out.ext (by repeat' (first | exact Ext.refl _ | assumption | refine Ext.alloc ?_ _ | refine Ext.ext ?_ _ | refine Ext.drew ?_ | refine Ext.drewN ?_ _)))).mono ?_; rintro e w' ⟨rfl, z1, rfl⟩) | (go_at_call 27; refine (hf.out _).mono ?_; rintro e w' ⟨rfl, rfl⟩))
    go_ret2
    exact ⟨_, rfl, World.ownsRow_nil _ _ _ _, (by repeat' (first | exact Ext.refl _ | assumption | refine Ext.alloc ?_ _ | refine Ext.ext ?_ _ | refine Ext.drew ?_ | refine Ext.drewN ?_ _))⟩
  rw [e2] at hf
  have hyes : gofB gs x = true := by rw [gofB, e1, e2]; rfl
  rw [gof_yes hyes, hyes]
  have n8 := goodG_len e1
  obtain ⟨p, cap, rfl, h4⟩ := h.form
  have H4 := hid h4
  obtain ⟨i0, hi, hz0, hz1, hz2⟩ := info_parts infoStr
  have Hgn := hid (fun k (h : k < gs.length) => gofTo_snoc_no (x := x) h)
  have Hgy := hid (fun k (h : k < gs.length) => gofTo_snoc_yes (x := x) h)
  have Hgl := hid (gofTo_len gs x)
  have hG0 : gofTo gs x 0 = [] := rfl
  clear hyes e1 e2 h4 h
  go_enter Tryz.func10, Tryz.ntmps10
  go_wp2_with (first | (go_at_call 11; refine (hg.out _ (Hv.out.ext (by repeat' (first | exact Ext.refl _ | assumption | refine Ext.alloc ?_ _ | refine Ext.ext ?_ _ | refine Ext.drew ?_ | refine Ext.drewN ?_ _)))).mono ?_; rintro e w' ⟨rfl, z1, rfl⟩) | (go_at_call 27; refine (hf.out _).mono ?_; rintro e w' ⟨rfl, rfl⟩))
  go_loopw [19, 6] (fun v19 v6 wr => ∃ (k : Nat) (u : Value), k ≤ gs.length ∧ v19 = .int .i64 k ∧ v6 = u ∧ Hid (GfW w wr u (gofTo gs x k))) (fun v19 _ _ => gs.length - (intOf v19).toNat)
  case atStart => exact ⟨0, _, Nat.zero_le _, rfl, rfl, by rw [hG0]; exact ⟨(by repeat' (first | exact Ext.refl _ | assumption | refine Ext.alloc ?_ _ | refine Ext.ext ?_ _ | refine Ext.drew ?_ | refine Ext.drewN ?_ _)), World.ownsRow_nil _ _ _ _⟩⟩
  case round =>
    obtain ⟨k, u, hk, rfl, rfl, HR⟩ := hrel
    obtain ⟨up, uc, rfl⟩ := own_shape HR.out.2
    by_cases hlt : k < gs.length
    · obtain ⟨b, off, rfl⟩ := H4.out.resolve_left (by omega)
      obtain ⟨c0', c1'⟩ := (Hv.out.ext HR.out.1).at k hlt
      have hcr := hid (((Hv.out.ext HR.out.1).2.2 k hlt).2)
      have hsz := (Grp.sum_at h3 hlt).2
      have hll := Hgl.out k
      have gn := Hgn.out k hlt
      have gy := Hgy.out k hlt
      generalize gofTo gs x k = L at *
      generalize gs.getD k .z = G at *
      generalize (cs.getD k .z).u = q at *
      obtain ⟨s, xs⟩ := G
      dsimp only at c0' hcr hsz gn gy
      obtain ⟨xp, xc, hq⟩ : ∃ xp xc, q = .slice xp xs.length xc := by obtain ⟨-, xp, xc, hq, -⟩ := hcr.out; exact ⟨xp, xc, hq⟩
      subst hq
      have hc := hid (fun w h => slices_Contains xs (.slice xp xs.length xc) x w h hsz)
      generalize xs.contains x = c at *
      have n1 : (k : Int) < (gs.length : Int) := by omega
      cases c
      · have Gn := hid (gn rfl)
        clear gn gy
        go_wp2_with (go_at_call 31; refine (hc.out _ (hcr.out.ext (by repeat' (first | exact Ext.refl _ | assumption | refine Ext.alloc ?_ _ | refine Ext.ext ?_ _ | refine Ext.drew ?_ | refine Ext.drewN ?_ _)))).mono ?_; rintro e w' ⟨rfl, rfl⟩)
        go_roundw
        case rel => exact ⟨k + 1, _, by omega, by go_num, rfl, by rw [Gn.out]; exact HR.out.ext (by repeat' (first | exact Ext.refl _ | assumption | refine Ext.alloc ?_ _ | refine Ext.ext ?_ _ | refine Ext.drew ?_ | refine Ext.drewN ?_ _))⟩
        case measure => simp [intOf]; omega
      · have Gy := hid (gy rfl)
        clear gn gy
        go_wp2_with fail
        go_at_call 31
        refine (hc.out _ (hcr.out.ext (by repeat' (first | exact Ext.refl _ | assumption | refine Ext.alloc ?_ _ | refine Ext.ext ?_ _ | refine Ext.drew ?_ | refine Ext.drewN ?_ _)))).mono ?_
        rintro e w' ⟨rfl, rfl⟩
        have d0 : (wr.alloc (.cells #[.string s, .slice xp xs.length xc] 42)).cell? ⟨wr.heap.size, 0, none⟩ = some (.string s) := by rw [cell_of_row _ _ 0 _ _ (0, 0) (heap_at _ rfl)]; rfl
        have H1 := hid (HR.out.ext (show Ext wr (wr.alloc (.cells #[.string s, .slice xp xs.length xc] 42)) from (by repeat' (first | exact Ext.refl _ | assumption | refine Ext.alloc ?_ _ | refine Ext.ext ?_ _ | refine Ext.drew ?_ | refine Ext.drewN ?_ _))))
        clear HR
        generalize wr.alloc (.cells #[.string s, .slice xp xs.length xc] 42) = wb at *
        go_wp2_with (at_builtin; refine wpList_append_own _ rfl _ _ 30 rfl w.heap.size 9 i0 (.string ByteArray.empty) 1 16 Tryz.underlying30 hi hz0 hz1 hz2 rfl (by decide) _ _ _ rfl ((own_ext H1.out.2 (by repeat' (first | exact Ext.refl _ | assumption | refine Ext.alloc ?_ _ | refine Ext.ext ?_ _ | refine Ext.drew ?_ | refine Ext.drewN ?_ _)))) ⟨_, 0, none⟩ 1 1 [.string s] rfl ?a0A ?a1A ?a2A ?a3A ?a4A ?a5A ?_)
        (try case a0A => rfl)
        case a1A => (intro j u hj; rw [Addr.add_lit, Nat.zero_add, cell_of_row _ _ j _ _ (0, 0) (heap_at _ rfl)]; first | (simpa using hj) | (simpa [hwb.out] using hj))
        case a2A => simp [Value.oneCell']
        case a3A => (unfold maxLen; simp; omega)
        case a4A => (first | omega | (simp; omega))
        case a5A => (have := (H1.out.1.size); first | omega | (simp at *; omega))
        intro v' w1 hown' hgrow hat
        have H2 := hid ((H1.out.ext (show Ext wb (wb.alloc (.cells #[.string s] 9)) from (by repeat' (first | exact Ext.refl _ | assumption | refine Ext.alloc ?_ _ | refine Ext.ext ?_ _ | refine Ext.drew ?_ | refine Ext.drewN ?_ _)))).grow hgrow hown')
        obtain ⟨vp, vc, rfl⟩ := own_shape hown'
        clear hown' hgrow hat
        go_wp2
        go_roundw
        case rel => exact ⟨k + 1, _, by omega, by go_num, rfl, by rw [Gy.out]; exact H2.out⟩
        case measure => simp [intOf]; omega
    · obtain rfl : k = gs.length := by omega
      go_wp2
      go_ret2
      exact ⟨_, rfl, HR.out.2, HR.out.1⟩
theorem spec_GroupsOf (gs : List Grp) (cs : List Gc) (v : Value) (x : Int) (w : World) (h : GRd w v gs cs) (h2 : gs.length ≤ 1048576) (h3 : Grp.sum gs ≤ 1048576) :
    Calls Tryz.prog 21 #[v, .int .i64 x] w fun e w' => ∃ r, e = .returned (.tuple #[r, .bool (gofB gs x)]) ∧ w'.ownsRow w.heap.size 9 1 r (gof gs x).length (vStrs (gof gs x)) ∧ Ext w w' := by
  have Hv := hid h
  have hl0 : (w.alloc (.cells #[] 9)).ownsRow w.heap.size 9 1 (.slice (some ⟨w.heap.size, 0, none⟩) 0 0) 0 [] := World.ownsRow_lit w #[] 0 (Nat.le_refl _) (Nat.zero_le _) rfl
  have H0 : Hid (GfW w (w.alloc (.cells #[] 9)) (.slice (some ⟨w.heap.size, 0, none⟩) 0 0) []) := ⟨(by repeat' (first | exact Ext.refl _ | assumption | refine Ext.alloc ?_ _ | refine Ext.ext ?_ _ | refine Ext.drew ?_ | refine Ext.drewN ?_ _)), hl0⟩
  clear hl0
  have hg := hid (fun w h => spec_l21Good gs cs v w h h2 h3)
  cases e1 : goodG gs
  · have hno : gofB gs x = false := by rw [gofB, e1]; rfl
    rw [gof_no hno, hno]
    rw [e1] at hg
    clear hno e1 h
    go_enter Tryz.func21, Tryz.ntmps21
    go_wp2_with (go_at_call 34; refine (hg.out _ (Hv.out.ext (by repeat' (first | exact Ext.refl _ | assumption | refine Ext.alloc ?_ _ | refine Ext.ext ?_ _ | refine Ext.drew ?_ | refine Ext.drewN ?_ _)))).mono ?_; rintro e w' ⟨rfl, z1, rfl⟩)
    go_ret2
    exact ⟨_, rfl, (H0.out.ext ⟨z1, rfl⟩).2, (by repeat' (first | exact Ext.refl _ | assumption | refine Ext.alloc ?_ _ | refine Ext.ext ?_ _ | refine Ext.drew ?_ | refine Ext.drewN ?_ _))⟩
  rw [e1] at hg
  have hf := hid (fun w => spec_l21Node x w)
  cases e2 : inB x 1 7
  · have hno : gofB gs x = false := by rw [gofB, e1, e2]; rfl
    rw [gof_no hno, hno]
    rw [e2] at hf
    clear hno e1 e2 h
    go_enter Tryz.func21, Tryz.ntmps21
    go_wp2_with (first | (go_at_call 34; refine (hg.out _ (Hv.out.ext (by repeat' (first | exact Ext.refl _ | assumption | refine Ext.alloc ?_ _ | refine Ext.ext ?_ _ | refine Ext.drew ?_ | refine Ext.drewN ?_ _)))).mono ?_; rintro e w' ⟨rfl, z1, rfl⟩) | (go_at_call 35; refine (hf.out _).mono ?_; rintro e w' ⟨rfl, rfl⟩))
    go_ret2
    exact ⟨_, rfl, (H0.out.ext ⟨z1, rfl⟩).2, (by repeat' (first | exact Ext.refl _ | assumption | refine Ext.alloc ?_ _ | refine Ext.ext ?_ _ | refine Ext.drew ?_ | refine Ext.drewN ?_ _))⟩
  rw [e2] at hf
  have hyes : gofB gs x = true := by rw [gofB, e1, e2]; rfl
  rw [gof_yes hyes, hyes]
  have n8 := goodG_len e1
  obtain ⟨p, cap, rfl, h4⟩ := h.form
  have H4 := hid h4
  obtain ⟨i0, hi, hz0, hz1, hz2⟩ := info_parts infoStr
  have Hgn := hid (fun k (h : k < gs.length) => gofTo_snoc_no (x := x) h)
  have Hgy := hid (fun k (h : k < gs.length) => gofTo_snoc_yes (x := x) h)
  have Hgl := hid (gofTo_len gs x)
  have hG0 : gofTo gs x 0 = [] := rfl
  clear hyes e1 e2 h4 h
  go_enter Tryz.func21, Tryz.ntmps21
  go_wp2_with (first | (go_at_call 34; refine (hg.out _ (Hv.out.ext (by repeat' (first | exact Ext.refl _ | assumption | refine Ext.alloc ?_ _ | refine Ext.ext ?_ _ | refine Ext.drew ?_ | refine Ext.drewN ?_ _)))).mono ?_; rintro e w' ⟨rfl, z1, rfl⟩) | (go_at_call 35; refine (hf.out _).mono ?_; rintro e w' ⟨rfl, rfl⟩))
  go_loopw [7, 6] (fun v7 v6 wr => ∃ (k : Nat) (u : Value), k ≤ gs.length ∧ v7 = .int .i64 k ∧ v6 = u ∧ Hid (GfW w wr u (gofTo gs x k))) (fun v7 _ _ => gs.length - (intOf v7).toNat)
  case atStart => exact ⟨0, _, Nat.zero_le _, rfl, rfl, by rw [hG0]; exact H0.out.ext ⟨z1, rfl⟩⟩
  case round =>
    obtain ⟨k, u, hk, rfl, rfl, HR⟩ := hrel
    obtain ⟨up, uc, rfl⟩ := own_shape HR.out.2
    by_cases hlt : k < gs.length
    · obtain ⟨b, off, rfl⟩ := H4.out.resolve_left (by omega)
      obtain ⟨c0', c1'⟩ := (Hv.out.ext HR.out.1).at k hlt
      have hcr := hid (((Hv.out.ext HR.out.1).2.2 k hlt).2)
      have hsz := (Grp.sum_at h3 hlt).2
      have hll := Hgl.out k
      have gn := Hgn.out k hlt
      have gy := Hgy.out k hlt
      generalize gofTo gs x k = L at *
      generalize gs.getD k .z = G at *
      generalize (cs.getD k .z).u = q at *
      obtain ⟨s, xs⟩ := G
      dsimp only at c0' hcr hsz gn gy
      obtain ⟨xp, xc, hq⟩ : ∃ xp xc, q = .slice xp xs.length xc := by obtain ⟨-, xp, xc, hq, -⟩ := hcr.out; exact ⟨xp, xc, hq⟩
      subst hq
      have hc := hid (fun w h => spec_l1Has xs (.slice xp xs.length xc) x w h hsz)
      generalize xs.contains x = c at *
      have n1 : (k : Int) < (gs.length : Int) := by omega
      cases c
      · have Gn := hid (gn rfl)
        clear gn gy
        go_wp2_with fail
        go_at_call 36
        refine (hc.out _ (hcr.out.ext (by repeat' (first | exact Ext.refl _ | assumption | refine Ext.alloc ?_ _ | refine Ext.ext ?_ _ | refine Ext.drew ?_ | refine Ext.drewN ?_ _)))).mono ?_
        rintro e w' ⟨rfl, hx⟩
        have H1 := hid (HR.out.ext (Ext.trans (by repeat' (first | exact Ext.refl _ | assumption | refine Ext.alloc ?_ _ | refine Ext.ext ?_ _ | refine Ext.drew ?_ | refine Ext.drewN ?_ _)) hx))
        clear HR hx
        go_wp2
        go_roundw
        case rel => exact ⟨k + 1, _, by omega, by go_num, rfl, by rw [Gn.out]; exact H1.out.ext (by repeat' (first | exact Ext.refl _ | assumption | refine Ext.alloc ?_ _ | refine Ext.ext ?_ _ | refine Ext.drew ?_ | refine Ext.drewN ?_ _))⟩
        case measure => simp [intOf]; omega
      · have Gy := hid (gy rfl)
        clear gn gy
        go_wp2_with fail
        go_at_call 36
        refine (hc.out _ (hcr.out.ext (by repeat' (first | exact Ext.refl _ | assumption | refine Ext.alloc ?_ _ | refine Ext.ext ?_ _ | refine Ext.drew ?_ | refine Ext.drewN ?_ _)))).mono ?_
        rintro e wb ⟨rfl, hx⟩
        have hx' : Ext wr wb := Ext.trans (by repeat' (first | exact Ext.refl _ | assumption | refine Ext.alloc ?_ _ | refine Ext.ext ?_ _ | refine Ext.drew ?_ | refine Ext.drewN ?_ _)) hx
        have d0 := hx'.cell c0'
        have H1 := hid (HR.out.ext hx')
        clear HR hx hx' c0' c1' hcr
        go_wp2_with (at_builtin; refine wpList_append_own _ rfl _ _ 30 rfl w.heap.size 9 i0 (.string ByteArray.empty) 1 16 Tryz.underlying30 hi hz0 hz1 hz2 rfl (by decide) _ _ _ rfl ((own_ext H1.out.2 (by repeat' (first | exact Ext.refl _ | assumption | refine Ext.alloc ?_ _ | refine Ext.ext ?_ _ | refine Ext.drew ?_ | refine Ext.drewN ?_ _)))) ⟨_, 0, none⟩ 1 1 [.string s] rfl ?a0A ?a1A ?a2A ?a3A ?a4A ?a5A ?_)
        (try case a0A => rfl)
        case a1A => (intro j u hj; rw [Addr.add_lit, Nat.zero_add, cell_of_row _ _ j _ _ (0, 0) (heap_at _ rfl)]; first | (simpa using hj) | (simpa [hwb.out] using hj))
        case a2A => simp [Value.oneCell']
        case a3A => (unfold maxLen; simp; omega)
        case a4A => (first | omega | (simp; omega))
        case a5A => (have := (H1.out.1.size); first | omega | (simp at *; omega))
        intro v' w1 hown' hgrow hat
        have H2 := hid ((H1.out.ext (show Ext wb (wb.alloc (.cells #[.string s] 9)) from (by repeat' (first | exact Ext.refl _ | assumption | refine Ext.alloc ?_ _ | refine Ext.ext ?_ _ | refine Ext.drew ?_ | refine Ext.drewN ?_ _)))).grow hgrow hown')
        obtain ⟨vp, vc, rfl⟩ := own_shape hown'
        clear hown' hgrow hat
        go_wp2
        go_roundw
        case rel => exact ⟨k + 1, _, by omega, by go_num, rfl, by rw [Gy.out]; exact H2.out⟩
        case measure => simp [intOf]; omega
    · obtain rfl : k = gs.length := by omega
      go_wp2
      go_ret2
      exact ⟨_, rfl, HR.out.2, HR.out.1⟩
end Go.Proofs.YtmblofcaiaeiaaaGreatDoor
