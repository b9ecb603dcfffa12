/- Branches for a group: both sides. -/
import Derived.Test.YtlaochpkelbchaaGreatDoorKWNF2
import Derived.Test.YtlaochpkelbchaaGreatDoorKWDel
import Derived.Test.YtlaochpkelbchaaGreatDoorJ36
import Derived.Test.YtlaochpkelbchaaGreatDoorJ37
import Derived.Maps.AppendAt
namespace Go.Proofs.YtlaochpkelbchaaGreatDoor
open Go.RowKit
set_option maxHeartbeats 400000
set_option maxRecDepth 100000
theorem kids_zero (ps : List Int) (x : Int) : kids ps x 0 = [] := by simp [kids]
theorem kids_step (ps : List Int) (hT : goodT ps = true) (x : Int) (hx : 0 ≤ x) (k : Nat) : kids ps x (k + 1) = if ps.getD k 0 == x then kids ps x k ++ [(k : Int)] else kids ps x k := by
  by_cases h : 1 ≤ k
  · exact kids_succ ps x k h
  · obtain rfl : k = 0 := by omega
    have h0 := goodT_root hT
    have : (ps.getD 0 0 == x) = false := by rw [beq_eq_false_iff_ne, h0]; omega
    rw [this, kids_one, kids_zero]
    rfl
theorem impl_children (ps : List Int) (v : Value) (x : Int) (w : World) (h : Rd w 1 v ps.length (vInts ps)) (hT : goodT ps = true) (hx0 : 0 ≤ x) :
    Calls Tryz.prog 32 #[.agg #[v], .int .i64 x] w fun e w' => ∃ r, e = .returned r ∧ w'.ownsRow w.heap.size 3 1 r (kids ps x ps.length).length (vInts (kids ps x ps.length)) ∧ Ext w w' := by
  have hl := goodT_len hT
  obtain ⟨h1, p, cap, rfl, h4⟩ := h
  obtain ⟨b, off, rfl, h6⟩ := h4.resolve_left (by omega)
  have H6 := hid h6
  have HS := hid (kids_step ps hT x hx0)
  clear h1 h4 h6 hT
  obtain ⟨i0, hi, hz0, hz1, hz2⟩ := info_parts infoInt
  go_enter Tryz.func32, Tryz.ntmps32
  go_wp2
  go_loopw [11, 5] (fun v6 v5 wr => ∃ k : Nat, k ≤ ps.length ∧ v6 = .int .i64 k ∧ wr.ownsRow (w.heap.size + 1) 3 1 v5 (kids ps x k).length (vInts (kids ps x k)) ∧ Ext (w.alloc (.cells #[.slice (some ⟨b, off, none⟩) ps.length cap] 26)) wr) (fun v6 _ _ => ps.length - (intOf v6).toNat)
  case atStart => exact ⟨0, by omega, rfl, by rw [kids_zero]; exact World.ownsRow_nil _ _ _ _, (by repeat' (first | exact Ext.refl _ | assumption | refine Ext.alloc ?_ _ | refine Ext.ext ?_ _ | refine Ext.drew ?_ | refine Ext.drewN ?_ _))⟩
  case round =>
    obtain ⟨k, hk, rfl, hown, hx⟩ := hrel
    have hb0 : (w.alloc (.cells #[.slice (some ⟨b, off, none⟩) ps.length cap] 26)).cell? ⟨w.heap.size, 0, none⟩ = some (.slice (some ⟨b, off, none⟩) ps.length cap) := by rw [cell_of_row _ _ 0 _ _ (0, 0) (heap_at _ rfl)]; rfl
    have Hb0 := hid hb0
    have d0 := hx.cell hb0
    by_cases hlt : k < ps.length
    · have hsn := HS.out k
      have hll := kids_len ps x k
      have c0 := elem1 (Value.int .i64) 0 ps H6.out k hlt
      generalize ps.getD k 0 = y at c0 hsn
      have c1 := hx.cell (((Ext.refl w).alloc (.cells #[.slice (some ⟨b, off, none⟩) ps.length cap] 26)).cell c0)
      have Hx := hid hx
      clear hb0 hx
      cases hy : (y == x)
      · have e1 : kids ps x (k + 1) = kids ps x k := by rw [hsn, hy]; simp
        have E1 := hid e1
        have Ho := hid hown
        clear e1 hsn hown
        go_wp2
        go_roundw
        case rel => exact ⟨k + 1, by omega, by go_num, by rw [E1.out]; exact Ho.out, Hx.out⟩
        case measure => simp [intOf]; omega
      · have e1 : kids ps x (k + 1) = kids ps x k ++ [(k : Int)] := by rw [hsn, hy]; simp
        have E1 := hid e1
        clear e1 hsn
        go_wp2_with (at_builtin; refine wpList_append_own _ rfl _ _ 24 rfl (w.heap.size + 1) 3 i0 (.int .i64 0) 1 8 Tryz.underlying24 hi hz0 hz1 hz2 rfl (by decide) _ _ _ rfl (hown.alloc _) ⟨_, 0, none⟩ 1 1 [.int .i64 (k : Int)] rfl rfl ?c1 ?c2 ?c3 ?c4 ?c5 ?_)
        (try case c1 => (intro j u hj; cases j with | zero => (simp at hj; subst hj; simp [Addr.add]) | succ j => simp at hj))
        case c2 => simp [Value.oneCell']
        case c3 => unfold maxLen; simp; omega
        case c4 => omega
        case c5 => have := Hx.out.size; simp at *; omega
        intro v' w1 hown' hgrow _
        have hx2 := Ext.grown (Hx.out.alloc _) hgrow (fun j hj => by have := (hown.lt j hj).1; simp at *; omega)
        have Hx2 := hid hx2; clear hgrow
        have d1 := hx2.cell (Hb0.out)
        clear hx2 c1 d0
        have hown2 : w1.ownsRow (w.heap.size + 1) 3 1 v' (kids ps x (k + 1)).length (vInts (kids ps x (k + 1))) := by rw [E1.out]; simpa [vInts] using hown'
        have Ho2 := hid hown2
        clear hown' hown2
        go_wp2
        go_roundw
        case rel => exact ⟨k + 1, by omega, by go_num, Ho2.out, Hx2.out⟩
        case measure => simp [intOf]; omega
    · obtain rfl : k = ps.length := by omega
      have K := hid (And.intro hown hx); clear hown hx hb0
      go_wp2
      go_ret
      exact ⟨_, rfl, own_mono K.out.1 (by omega), (show Ext w _ from (by repeat' (first | exact Ext.refl _ | assumption | refine Ext.alloc ?_ _ | refine Ext.ext ?_ _ | refine Ext.drew ?_ | refine Ext.drewN ?_ _))).trans K.out.2⟩
def brB (ps : List Int) (s : ByteArray) (ms : List Int) (x : Int) : Bool := nfB ps s ms && isNode ps.length x
def brL (ps : List Int) (s : ByteArray) (ms : List Int) (x : Int) : List Int := if brB ps s ms x then (kids ps x ps.length).filter (fun y => (nfL ps s ms).contains y) else []
theorem brL_no {ps : List Int} {s : ByteArray} {ms : List Int} {x : Int} (h : brB ps s ms x = false) : brL ps s ms x = [] := by rw [brL, h]; rfl
theorem brL_yes {ps : List Int} {s : ByteArray} {ms : List Int} {x : Int} (h : brB ps s ms x = true) : brL ps s ms x = (kids ps x ps.length).filter (fun y => (nfL ps s ms).contains y) := by rw [brL, h]; rfl
theorem brB_all {ps : List Int} {s : ByteArray} {ms : List Int} {x : Int} (h : brB ps s ms x = true) : nfB ps s ms = true ∧ goodT ps = true ∧ 0 ≤ x ∧ x < ps.length := by
  simp only [brB, Bool.and_eq_true] at h
  exact ⟨h.1, (nfB_all h.1).2.1, isNode_iff'.1 h.2⟩
theorem brL_len (ps : List Int) (s : ByteArray) (ms : List Int) (x : Int) : (brL ps s ms x).length ≤ 8 := by
  cases h : brB ps s ms x
  · rw [brL_no h]; simp
  · rw [brL_yes h]
    obtain ⟨_, b, _⟩ := brB_all h
    have := goodT_len b
    have := kids_len ps x ps.length
    have := List.length_filter_le (fun y => (nfL ps s ms).contains y) (kids ps x ps.length)
    omega
theorem impl_BranchesFor_1 (N : List Int) (v : Value) (B : Nat) (y : Int) (w : World) (hb : w.cell? ⟨B, 0, none⟩ = some v) (hN : Rd w 1 v N.length (vInts N)) (h2 : N.length ≤ 1048576) :
    Calls Tryz.prog 33 #[.int .i64 y, .pointer (some ⟨B, 0, none⟩)] w fun e w' => e = .returned (.bool (!N.contains y)) ∧ Ext w w' := by
  have hnot : ∀ (x : Bool) (w : World), (Op.unary .not (.bool x)).run Tryz.prog w = .ok (.bool (!x)) w := fun _ _ => rfl
  have hc := hid (fun w h => slices_Contains N v y w h h2)
  generalize N.contains y = c at *
  go_enter Tryz.func33, Tryz.ntmps33
  go_wp2_with (go_at_call 34; refine (hc.out _ hN).mono ?_; rintro e w' ⟨rfl, rfl⟩)
  go_ret
  exact ⟨rfl, (by repeat' (first | exact Ext.refl _ | assumption | refine Ext.alloc ?_ _ | refine Ext.ext ?_ _ | refine Ext.drew ?_ | refine Ext.drewN ?_ _))⟩
theorem impl_BranchesFor (ps : List Int) (s : ByteArray) (ms : List Int) (v u : Value) (x : Int) (w : World) (h : Rd w 1 v ps.length (vInts ps)) (k : Rd w 1 u ms.length (vInts ms)) (h2 : ps.length ≤ 1048576) (hs : s.size ≤ 1048576) (k2 : ms.length ≤ 1048576) :
    Calls Tryz.prog 9 #[.agg #[v], .agg #[.string s, u], .int .i64 x] w fun e w' => ∃ r, e = .returned (.tuple #[r, .bool (brB ps s ms x)]) ∧ w'.ownsRow w.heap.size 3 1 r (brL ps s ms x).length (vInts (brL ps s ms x)) ∧ Ext w w' := by
  have Hr := hid h
  have Kr := hid k
  clear h k
  have hn := hid (fun w h k => impl_NodesFor ps s ms v u w h k h2 hs k2)
  have hh := hid (fun u w h k => impl_hasNodes ps [x] v u w h k h2 (by simp))
  have hl8 := nfL_len ps s ms
  have XB : Ext w ((w.alloc (.cells #[v] 26)).alloc (.cells #[.string s, u] 28)) := (by repeat' (first | exact Ext.refl _ | assumption | refine Ext.alloc ?_ _ | refine Ext.ext ?_ _ | refine Ext.drew ?_ | refine Ext.drewN ?_ _))
  have b0 : ((w.alloc (.cells #[v] 26)).alloc (.cells #[.string s, u] 28)).cell? ⟨w.heap.size, 0, none⟩ = some v := by rw [cell_of_row _ _ 0 _ _ (0, 0) (heap_old (heap_at _ rfl) _)]; rfl
  have b1 : ((w.alloc (.cells #[v] 26)).alloc (.cells #[.string s, u] 28)).cell? ⟨w.heap.size + 1, 0, none⟩ = some (.string s) := by rw [cell_of_row _ _ 0 _ _ (0, 0) (heap_at _ (by simp))]; rfl
  have b2 : ((w.alloc (.cells #[v] 26)).alloc (.cells #[.string s, u] 28)).cell? ⟨w.heap.size + 1, 1, none⟩ = some u := by rw [cell_of_row _ _ 1 _ _ (0, 0) (heap_at _ (by simp))]; rfl
  generalize hw0 : ((w.alloc (.cells #[v] 26)).alloc (.cells #[.string s, u] 28)) = w0 at *
  have Hw0 := hid hw0
  have Bx := hid (And.intro b0 (And.intro b1 b2))
  clear hw0 b0 b1 b2
  have hmf : ∀ (fn : Fn) (first cap : Array Value) (w : World), (Instr.makeFunc fn first cap).run Tryz.prog w = .ok (.func fn first cap) w := fun _ _ _ _ => rfl
  cases e1 : nfB ps s ms
  · have hno : brB ps s ms x = false := by rw [brB, e1]; rfl
    rw [brL_no hno, hno]
    rw [e1] at hn
    clear hno e1 hh
    go_enter Tryz.func9, Tryz.ntmps9
    go_wp2_with fail
    rw [Hw0.out]
    obtain ⟨b0, b1, b2⟩ := Bx.out
    clear Hw0
    go_wp2_with fail
    go_at_call 6
    refine (hn.out _ (Hr.out.ext XB) (Kr.out.ext XB)).mono ?_
    rintro e w1 ⟨r, rfl, ho1, hx1⟩
    have Hx := hid (XB.trans hx1)
    obtain ⟨rp, rc, rfl⟩ := own_shape ho1
    clear ho1 hx1 b0 b1 b2
    go_wp2
    go_ret2
    exact ⟨_, rfl, World.ownsRow_nil _ _ _ _, Hx.out.trans (by repeat' (first | exact Ext.refl _ | assumption | refine Ext.alloc ?_ _ | refine Ext.ext ?_ _ | refine Ext.drew ?_ | refine Ext.drewN ?_ _))⟩
  rw [e1] at hn
  have hT := (nfB_all e1).2.1
  have hlen := goodT_len hT
  rw [hT, nodesIn_one, Bool.true_and] at hh
  have hlit : ∀ W : World, Rd (W.alloc (.cells #[.int .i64 x] 3)) 1 (.slice (some ⟨W.heap.size, 0, none⟩) 1 1) 1 (vInts [x]) := fun W => by simpa [vInts] using rd_lit W #[.int .i64 x]
  have Hlit := hid hlit
  clear hlit
  cases e2 : isNode ps.length x
  · have hno : brB ps s ms x = false := by rw [brB, e1, e2]; rfl
    rw [brL_no hno, hno]
    rw [e2] at hh
    clear hno e1 e2
    go_enter Tryz.func9, Tryz.ntmps9
    go_wp2_with fail
    rw [Hw0.out]
    obtain ⟨b0, b1, b2⟩ := Bx.out
    clear Hw0
    go_wp2_with fail
    go_at_call 6
    refine (hn.out _ (Hr.out.ext XB) (Kr.out.ext XB)).mono ?_
    rintro e w1 ⟨r, rfl, ho1, hx1⟩
    have b0 := hx1.cell b0
    have b1 := hx1.cell b1
    have b2 := hx1.cell b2
    have Hx := hid (XB.trans hx1)
    obtain ⟨rp, rc, rfl⟩ := own_shape ho1
    have hl1 := Hlit.out (w1.alloc (.cells #[.slice rp (nfL ps s ms).length rc] 24))
    simp only [World.size_alloc] at hl1
    have Hl1 := hid hl1
    clear ho1 hx1 hl1
    go_wp2_with fail
    go_at_call 26
    refine (hh.out _ _ (Hr.out.ext (Hx.out.trans (by repeat' (first | exact Ext.refl _ | assumption | refine Ext.alloc ?_ _ | refine Ext.ext ?_ _ | refine Ext.drew ?_ | refine Ext.drewN ?_ _)))) Hl1.out).mono ?_
    rintro e w' ⟨rfl, z1, rfl⟩
    go_wp2
    go_ret2
    exact ⟨_, rfl, World.ownsRow_nil _ _ _ _, Hx.out.trans (by repeat' (first | exact Ext.refl _ | assumption | refine Ext.alloc ?_ _ | refine Ext.ext ?_ _ | refine Ext.drew ?_ | refine Ext.drewN ?_ _))⟩
  rw [e2] at hh
  have hx := isNode_iff'.1 e2
  have hyes : brB ps s ms x = true := by rw [brB, e1, e2]; rfl
  rw [brL_yes hyes, hyes]
  have hch := hid (fun w h => impl_children ps v x w h hT hx.1)
  have hkl := kids_len ps x ps.length
  have hdel := fun (r : Value) (B : Nat) (rn : Value) (wA wB : World) (hb : wA.cell? ⟨B, 0, none⟩ = some rn) (hN : Rd wA 1 rn (nfL ps s ms).length (vInts (nfL ps s ms))) (ho : wB.ownsRow wA.heap.size 3 1 r (kids ps x ps.length).length (vInts (kids ps x ps.length))) (eB : Ext wA wB) =>
    slices_DeleteFunc_int (kids ps x ps.length) (fun y => !(nfL ps s ms).contains y) 33 #[.pointer (some ⟨B, 0, none⟩)] (enters_of Tryz.func33 (by kernel_rfl) rfl) r wA wB ho eB (by omega)
      (fun y w'' _ e' => impl_BranchesFor_1 (nfL ps s ms) rn B y w'' (e'.cell hb) (hN.ext e') (by omega))
  have hff : (kids ps x ps.length).filter (fun y => !(!(nfL ps s ms).contains y)) = (kids ps x ps.length).filter (fun y => (nfL ps s ms).contains y) := by congr 1; funext y; rw [Bool.not_not]
  simp only [hff] at hdel
  generalize (kids ps x ps.length).filter (fun y => (nfL ps s ms).contains y) = F at *
  generalize kids ps x ps.length = K at *
  generalize nfL ps s ms = N at *
  have Hdel := hid hdel
  clear hyes e1 e2 hT hdel hff
  go_enter Tryz.func9, Tryz.ntmps9
  go_wp2_with fail
  rw [Hw0.out]
  obtain ⟨b0, b1, b2⟩ := Bx.out
  clear Hw0
  go_wp2_with fail
  go_at_call 6
  refine (hn.out _ (Hr.out.ext XB) (Kr.out.ext XB)).mono ?_
  rintro e w1 ⟨r, rfl, ho1, hx1⟩
  have b0 := hx1.cell b0
  have b1 := hx1.cell b1
  have b2 := hx1.cell b2
  have Hx := hid (XB.trans hx1)
  obtain ⟨rp, rc, rfl⟩ := own_shape ho1
  have hl1 := Hlit.out (w1.alloc (.cells #[.slice rp N.length rc] 24))
  simp only [World.size_alloc] at hl1
  have Hl1 := hid hl1
  have Hrn := hid (Rd.own ho1)
  clear ho1 hx1 hl1
  go_wp2_with fail
  go_at_call 26
  refine (hh.out _ _ (Hr.out.ext (Hx.out.trans (by repeat' (first | exact Ext.refl _ | assumption | refine Ext.alloc ?_ _ | refine Ext.ext ?_ _ | refine Ext.drew ?_ | refine Ext.drewN ?_ _)))) Hl1.out).mono ?_
  rintro e w' ⟨rfl, z1, rfl⟩
  go_wp2_with fail
  go_at_call 32
  have hcv : ((w1.alloc (.cells #[.slice rp N.length rc] 24)).alloc (.cells #[.int .i64 x] 3)).cell? ⟨w1.heap.size, 0, none⟩ = some (.slice rp N.length rc) := by rw [cell_of_row _ _ 0 _ _ (0, 0) (heap_old (heap_at _ rfl) _)]; rfl
  have hcv2 := (show Ext _ _ from (Ext.refl ((w1.alloc (.cells #[.slice rp N.length rc] 24)).alloc (.cells #[.int .i64 x] 3))).ext z1).cell hcv
  have hX2 : Ext w1 (((w1.alloc (.cells #[.slice rp N.length rc] 24)).alloc (.cells #[.int .i64 x] 3)).ext z1) := (by repeat' (first | exact Ext.refl _ | assumption | refine Ext.alloc ?_ _ | refine Ext.ext ?_ _ | refine Ext.drew ?_ | refine Ext.drewN ?_ _))
  generalize (((w1.alloc (.cells #[.slice rp N.length rc] 24)).alloc (.cells #[.int .i64 x] 3)).ext z1) = w2 at *
  refine (hch.out _ (Hr.out.ext (Hx.out.trans hX2))).mono ?_
  rintro e w3 ⟨r3, rfl, ho3, hx3⟩
  have K3 := hid (And.intro hcv2 (And.intro hX2 (And.intro ho3 hx3)))
  clear hcv hcv2 hX2 ho3 hx3 b0 b1 b2
  go_wp2_with fail
  go_at_call 31
  refine (Hdel.out _ _ _ w2 _ K3.out.1 (Hrn.out.ext K3.out.2.1) K3.out.2.2.1 K3.out.2.2.2).mono ?_
  rintro e w4 ⟨r4, rfl, ho4, hx4⟩
  have K4 := hid (And.intro ho4 hx4)
  clear ho4 hx4
  go_wp2
  go_ret2
  exact ⟨_, rfl, own_mono K4.out.1 (Hx.out.trans K3.out.2.1).size, (Hx.out.trans K3.out.2.1).trans K4.out.2⟩
theorem spec_BranchesFor (ps : List Int) (s : ByteArray) (ms : List Int) (v u : Value) (x : Int) (w : World) (h : Rd w 1 v ps.length (vInts ps)) (k : Rd w 1 u ms.length (vInts ms)) (h2 : ps.length ≤ 1048576) (hs : s.size ≤ 1048576) (k2 : ms.length ≤ 1048576) :
    Calls Tryz.prog 12 #[.agg #[v], .agg #[.string s, u], .int .i64 x] w fun e w' => ∃ r, e = .returned (.tuple #[r, .bool (brB ps s ms x)]) ∧ w'.ownsRow w.heap.size 3 1 r (brL ps s ms x).length (vInts (brL ps s ms x)) ∧ Ext w w' := by
  have Hr := hid h
  have Kr := hid k
  clear h k
  have hi := hid (fun w h k => spec_l21In ps s ms v u w h k h2 hs k2)
  have hl := hid (fun w h => spec_l6Node ps v x w h h2)
  have hl8 := nfL_len ps s ms
  have XB : Ext w ((w.alloc (.cells #[v] 26)).alloc (.cells #[.string s, u] 28)) := (by repeat' (first | exact Ext.refl _ | assumption | refine Ext.alloc ?_ _ | refine Ext.ext ?_ _ | refine Ext.drew ?_ | refine Ext.drewN ?_ _))
  have b0 : ((w.alloc (.cells #[v] 26)).alloc (.cells #[.string s, u] 28)).cell? ⟨w.heap.size, 0, none⟩ = some v := by rw [cell_of_row _ _ 0 _ _ (0, 0) (heap_old (heap_at _ rfl) _)]; rfl
  have b1 : ((w.alloc (.cells #[v] 26)).alloc (.cells #[.string s, u] 28)).cell? ⟨w.heap.size + 1, 0, none⟩ = some (.string s) := by rw [cell_of_row _ _ 0 _ _ (0, 0) (heap_at _ (by simp))]; rfl
  have b2 : ((w.alloc (.cells #[v] 26)).alloc (.cells #[.string s, u] 28)).cell? ⟨w.heap.size + 1, 1, none⟩ = some u := by rw [cell_of_row _ _ 1 _ _ (0, 0) (heap_at _ (by simp))]; rfl
  have hWs : ((w.alloc (.cells #[v] 26)).alloc (.cells #[.string s, u] 28)).heap.size = w.heap.size + 1 + 1 := by simp
  generalize hw0 : ((w.alloc (.cells #[v] 26)).alloc (.cells #[.string s, u] 28)) = w0 at *
  have Hw0 := hid hw0
  have Bx := hid (And.intro b0 (And.intro b1 b2))
  clear hw0 b0 b1 b2
  have hl0 : (w0.alloc (.cells #[] 3)).ownsRow (w.heap.size + 1 + 1) 3 1 (.slice (some ⟨w0.heap.size, 0, none⟩) 0 0) 0 [] := World.ownsRow_lit w0 #[] 0 (by omega) (Nat.zero_le _) rfl
  have hq1 := fun z1 => own_ext hl0 (show Ext _ ((w0.alloc (.cells #[] 3)).ext z1) from ⟨z1, rfl⟩)
  have hq2 := fun z1 z2 => own_ext (hq1 z1) (show Ext _ (((w0.alloc (.cells #[] 3)).ext z1).ext z2) from ⟨z2, rfl⟩)
  rw [hWs] at hq1 hq2 hl0
  have Hl0 := hid hl0
  have Hq1 := hid hq1
  have Hq2 := hid hq2
  clear hl0 hq1 hq2
  cases e1 : nfB ps s ms
  · have hno : brB ps s ms x = false := by rw [brB, e1]; rfl
    rw [brL_no hno, hno]
    rw [e1] at hi
    clear hno e1 hl
    go_enter Tryz.func12, Tryz.ntmps12
    go_wp2_with fail
    rw [Hw0.out]
    obtain ⟨b0, b1, b2⟩ := Bx.out
    clear Hw0
    go_wp2_with (go_at_call 29; (refine (hi.out _ (Hr.out.ext (XB.trans (by repeat' (first | exact Ext.refl _ | assumption | refine Ext.alloc ?_ _ | refine Ext.ext ?_ _ | refine Ext.drew ?_ | refine Ext.drewN ?_ _)))) (Kr.out.ext (XB.trans (by repeat' (first | exact Ext.refl _ | assumption | refine Ext.alloc ?_ _ | refine Ext.ext ?_ _ | refine Ext.drew ?_ | refine Ext.drewN ?_ _))))).mono ?_); rintro e w' ⟨rfl, z1, rfl⟩)
    go_ret2
    exact ⟨_, rfl, own_mono (Hq1.out z1) (by omega), XB.trans (by repeat' (first | exact Ext.refl _ | assumption | refine Ext.alloc ?_ _ | refine Ext.ext ?_ _ | refine Ext.drew ?_ | refine Ext.drewN ?_ _))⟩
  rw [e1] at hi
  have hT := (nfB_all e1).2.1
  have hlen := goodT_len hT
  rw [hT, Bool.true_and] at hl
  cases e2 : isNode ps.length x
  · have hno : brB ps s ms x = false := by rw [brB, e1, e2]; rfl
    rw [brL_no hno, hno]
    rw [e2] at hl
    clear hno e1 e2
    go_enter Tryz.func12, Tryz.ntmps12
    go_wp2_with fail
    rw [Hw0.out]
    obtain ⟨b0, b1, b2⟩ := Bx.out
    clear Hw0
    go_wp2_with (first | (go_at_call 29; (refine (hi.out _ (Hr.out.ext (XB.trans (by repeat' (first | exact Ext.refl _ | assumption | refine Ext.alloc ?_ _ | refine Ext.ext ?_ _ | refine Ext.drew ?_ | refine Ext.drewN ?_ _)))) (Kr.out.ext (XB.trans (by repeat' (first | exact Ext.refl _ | assumption | refine Ext.alloc ?_ _ | refine Ext.ext ?_ _ | refine Ext.drew ?_ | refine Ext.drewN ?_ _))))).mono ?_); rintro e w' ⟨rfl, z1, rfl⟩) | (go_at_call 35; (refine (hl.out _ (Hr.out.ext (XB.trans (by repeat' (first | exact Ext.refl _ | assumption | refine Ext.alloc ?_ _ | refine Ext.ext ?_ _ | refine Ext.drew ?_ | refine Ext.drewN ?_ _))))).mono ?_); rintro e w' ⟨rfl, z2, rfl⟩))
    go_ret2
    exact ⟨_, rfl, own_mono (Hq2.out z1 z2) (by omega), XB.trans (by repeat' (first | exact Ext.refl _ | assumption | refine Ext.alloc ?_ _ | refine Ext.ext ?_ _ | refine Ext.drew ?_ | refine Ext.drewN ?_ _))⟩
  rw [e2] at hl
  have hx := isNode_iff'.1 e2
  have hyes : brB ps s ms x = true := by rw [brB, e1, e2]; rfl
  rw [brL_yes hyes, hyes]
  have hch := hid (fun w h => spec_l6Children ps v x w h hlen)
  have hnn := hid (fun w h k => spec_l21Nodes ps s ms v u w h k k2 e1)
  have hkl := kids_len ps x ps.length
  have hts := fun k hk => take_filter_snoc' (p := fun y => (nfL ps s ms).contains y) (xs := kids ps x ps.length) (k := k) hk
  have hhas := fun y w h => spec_l1Has (nfL ps s ms) y w h
  clear hhas
  have hhas : ∀ (r : Value) (y : Int) (w : World), Rd w 1 r (nfL ps s ms).length (vInts (nfL ps s ms)) → Calls Tryz.prog 37 #[r, .int .i64 y] w fun e w' => e = .returned (.bool ((nfL ps s ms).contains y)) ∧ Ext w w' := fun r y w h => spec_l1Has (nfL ps s ms) r y w h (by omega)
  generalize kids ps x ps.length = K at *
  have hkf : ∀ k, ((K.take k).filter (fun y => (nfL ps s ms).contains y)).length ≤ 8 := fun k => by
    have h1 := List.length_filter_le (fun y => (nfL ps s ms).contains y) (K.take k)
    have h2 : (K.take k).length ≤ K.length := by rw [List.length_take]; omega
    omega
  generalize hN : nfL ps s ms = N at *
  have Hts := hid hts
  have Hhas := hid hhas
  have Hkf := hid hkf
  obtain ⟨i0, hi0, hz0, hz1, hz2⟩ := info_parts infoInt
  clear hyes e1 e2 hT hts hhas hkf hN
  go_enter Tryz.func12, Tryz.ntmps12
  go_wp2_with fail
  rw [Hw0.out]
  obtain ⟨b0, b1, b2⟩ := Bx.out
  clear Hw0
  go_wp2_with (first | (go_at_call 29; (refine (hi.out _ (Hr.out.ext (XB.trans (by repeat' (first | exact Ext.refl _ | assumption | refine Ext.alloc ?_ _ | refine Ext.ext ?_ _ | refine Ext.drew ?_ | refine Ext.drewN ?_ _)))) (Kr.out.ext (XB.trans (by repeat' (first | exact Ext.refl _ | assumption | refine Ext.alloc ?_ _ | refine Ext.ext ?_ _ | refine Ext.drew ?_ | refine Ext.drewN ?_ _))))).mono ?_); rintro e w' ⟨rfl, z1, rfl⟩) | (go_at_call 35; (refine (hl.out _ (Hr.out.ext (XB.trans (by repeat' (first | exact Ext.refl _ | assumption | refine Ext.alloc ?_ _ | refine Ext.ext ?_ _ | refine Ext.drew ?_ | refine Ext.drewN ?_ _))))).mono ?_); rintro e w' ⟨rfl, z2, rfl⟩))
  have X1 : Ext w0 (((w0.alloc (.cells #[] 3)).ext z1).ext z2) := (by repeat' (first | exact Ext.refl _ | assumption | refine Ext.alloc ?_ _ | refine Ext.ext ?_ _ | refine Ext.drew ?_ | refine Ext.drewN ?_ _))
  have hown0 := Hq2.out z1 z2
  generalize (((w0.alloc (.cells #[] 3)).ext z1).ext z2) = wo at *
  have b0 := X1.cell b0
  have b1 := X1.cell b1
  have b2 := X1.cell b2
  have X4 : Ext w wo.drew := (XB.trans X1).drew
  have e0 := (Ext.refl wo).drew.cell b0
  have e1 := (Ext.refl wo).drew.cell b1
  have e2 := (Ext.refl wo).drew.cell b2
  go_region_held3 (fun w' => w'.cell? ⟨w.heap.size, 0, none⟩ = some v ∧ w'.cell? ⟨w.heap.size + 1, 0, none⟩ = some (.string s) ∧ w'.cell? ⟨w.heap.size + 1, 1, none⟩ = some u) (first | exact ⟨b0, b1, b2⟩ | exact ⟨e0, e1, e2⟩ | exact ⟨f0, f1, f2⟩ | exact ⟨g0, g1, g2⟩)
    (first | (go_at_call 30; (with_reducible refine (hnn.out _ (Hr.out.ext X4) (Kr.out.ext X4)).mono ?_); rintro e w1 ⟨r, rfl, ho1, hx1⟩; have f0 := hx1.cell e0; have f1 := hx1.cell e1; have f2 := hx1.cell e2) | (go_at_call 36; (with_reducible refine (hch.out _ (Hr.out.ext (X4.trans hx1))).mono ?_); rintro e w2 ⟨r2, rfl, ho2, hx2⟩; have g0 := hx2.cell f0; have g1 := hx2.cell f1; have g2 := hx2.cell f2))
  have XW : Ext w w2 := X4.trans (hx1.trans hx2)
  have hown1 := own_ext hown0 ((Ext.refl wo).drew.trans (hx1.trans hx2))
  have hwo : w.heap.size + 1 + 1 ≤ wo.heap.size := by have := X1.size; omega
  have hw2 : wo.heap.size ≤ w2.heap.size := ((Ext.refl wo).drew.trans (hx1.trans hx2)).size
  have hfar : Far wo.heap.size w2.heap.size (.slice (some ⟨w.heap.size + 1 + 1, 0, none⟩) 0 0) := fun j hj => by cases hj; have := (own_row hown0 _ rfl).2; exact .inl this
  obtain ⟨kp, kc, rfl⟩ := own_shape ho2
  have hor := own_mono (own_ext ho1 hx2) (show wo.heap.size ≤ _ from Nat.le_refl _)
  have hok := own_mono ho2 (show wo.heap.size ≤ _ from hx1.size)
  have Q := hid (And.intro XW (And.intro hor (And.intro hok hown1)))
  clear b0 b1 b2 e0 e1 e2 f0 f1 f2 g0 g1 g2 hx1 hx2 ho1 ho2 hown0 hown1 hor hok X1 X4 XW
  go_wp2
  go_loopw [11, 8] (fun v11 v8 wr => ∃ k : Nat, k ≤ K.length ∧ v11 = .int .i64 k ∧ wr.ownsRow (w.heap.size + 1 + 1) 3 1 v8 ((K.take k).filter (fun y => N.contains y)).length (vInts ((K.take k).filter (fun y => N.contains y))) ∧ Ext w wr ∧ Keep wo.heap.size w2 wr ∧ Far wo.heap.size w2.heap.size v8) (fun v11 _ _ => K.length - (intOf v11).toNat)
  case atStart => exact ⟨0, Nat.zero_le _, rfl, Q.out.2.2.2, Q.out.1, Keep.refl _ _, hfar⟩
  case round =>
    obtain ⟨k, hk, rfl, hown, hx, hkp, hfr⟩ := hrel
    by_cases hlt : k < K.length
    · have hrN := Rd.own (hkp.own Q.out.2.1 (Nat.le_refl _))
      obtain ⟨-, p9, c9, e9, q4⟩ := Rd.own (hkp.own Q.out.2.2.1 (Nat.le_refl _))
      cases e9
      obtain ⟨b, off, rfl, q6⟩ := q4.resolve_left (by omega)
      have a1 := elem1 (Value.int .i64) 0 K q6 k hlt
      have hsn := Hts.out k hlt
      have hfl := Hkf.out k
      generalize K.getD k 0 = y at a1 hsn
      have hh := Hhas.out r y
      generalize (K.take k).filter (fun y => N.contains y) = M at *
      have Hrn := hid hrN
      have P := hid (And.intro hown (And.intro hx (And.intro hkp hfr)))
      clear hown hx hkp hfr q4 q6 hrN
      cases hc : N.contains y
      · rw [hc] at hsn hh
        have Hsn := hid hsn
        have Hh := hid hh
        clear hsn hh hc
        go_wp2_with fail
        go_at_call 37
        refine (Hh.out _ Hrn.out).mono ?_
        rintro e w3 ⟨rfl, hx3⟩
        have Hx3 := hid hx3
        clear hx3
        go_wp2
        go_roundw
        case rel => exact ⟨k + 1, by omega, by go_num, by rw [Hsn.out]; exact own_ext P.out.1 Hx3.out, P.out.2.1.trans Hx3.out, P.out.2.2.1.ext Hx3.out, P.out.2.2.2⟩
        case measure => simp [intOf]; omega
      · rw [hc] at hsn hh
        have Hsn := hid hsn
        have Hh := hid hh
        clear hsn hh hc
        go_wp2_with fail
        go_at_call 37
        refine (Hh.out _ Hrn.out).mono ?_
        rintro e w3 ⟨rfl, hx3⟩
        have a3 := hx3.cell a1
        have hown3 := own_ext P.out.1 hx3
        have Hx3 := hid hx3
        clear hx3
        go_wp2_with (at_builtin; refine wpList_append_own_at _ rfl _ _ 24 rfl (w.heap.size + 1 + 1) 3 i0 (.int .i64 0) 1 8 Tryz.underlying24 hi0 hz0 hz1 hz2 rfl (by decide) _ _ _ rfl (hown3.alloc _) ⟨_, 0, none⟩ 1 1 [.int .i64 y] rfl rfl ?c1 ?c2 ?c3 ?c4 ?c5 ?_)
        case c1 => (intro j u hj; cases j with | zero => (simp at hj; subst hj; simp [Addr.add]) | succ j => simp at hj)
        case c2 => simp [Value.oneCell']
        case c3 => unfold maxLen; simp; omega
        case c4 => omega
        case c5 => have h1 := Hx3.out.size; have h2 := P.out.2.2.1.1; have := (Q.out.2.1.2); simp at *; omega
        intro v' w5 hown' hgrow _ hat
        have hx5 := Ext.grown ((P.out.2.1.trans Hx3.out).alloc _) hgrow (fun j hj => by have := (hown3.lt j hj).1; omega)
        have hk5 := (((P.out.2.2.1.ext Hx3.out).ext ((Ext.refl w3).alloc (.cells #[.int .i64 y] 3))).grown hgrow P.out.2.2.2)
        have hf5 := P.out.2.2.2.app (((P.out.2.2.1.ext Hx3.out).ext ((Ext.refl w3).alloc (.cells #[.int .i64 y] 3))).1) (by simpa using hat)
        have K5 := hid (And.intro hown' (And.intro hx5 (And.intro hk5 hf5)))
        clear hown' hx5 hk5 hf5 hgrow hat hown3
        go_wp2
        go_roundw
        case rel => exact ⟨k + 1, by omega, by go_num, by rw [Hsn.out]; simpa [vInts] using K5.out.1, K5.out.2.1, K5.out.2.2.1, K5.out.2.2.2⟩
        case measure => simp [intOf]; omega
    · obtain rfl : k = K.length := by omega
      rw [List.take_length] at hown
      have P := hid (And.intro hown hx)
      clear hown hx hkp hfr
      go_wp2
      go_ret2
      exact ⟨_, rfl, own_mono P.out.1 (by omega), P.out.2⟩
end Go.Proofs.YtlaochpkelbchaaGreatDoor
