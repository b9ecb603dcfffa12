/- Nodes for a group: the reference's. -/
import Derived.Test.YtlaochpkelbchaaGreatDoorKWNF
namespace Go.Proofs.YtlaochpkelbchaaGreatDoor
open Go.RowKit
set_option maxHeartbeats 400000
set_option maxRecDepth 100000
theorem spec_l21In (ps : List Int) (s : ByteArray) (ms : List Int) (v u : Value) (w : World) (h : Rd w 1 v ps.length (vInts ps)) (k : Rd w 1 u ms.length (vInts ms)) (h2 : ps.length ≤ 1048576) (hs : s.size ≤ 1048576) (k2 : ms.length ≤ 1048576) :
    Calls Tryz.prog 29 #[.agg #[v], .agg #[.string s, u]] w fun e w' => e = .returned (.bool (nfB ps s ms)) ∧ Ext w w' := by
  have Hr := hid h
  have Kr := hid k
  obtain ⟨-, tp, tc, rfl, -⟩ := h
  obtain ⟨-, yp, yc, rfl, m4⟩ := k
  have M4 := hid m4
  clear m4
  have hg : Hid (∀ (w : World), Rd w 1 (.slice yp ms.length yc) ms.length (vInts ms) → Calls Tryz.prog 40 #[.agg #[.string s, .slice yp ms.length yc]] w fun e w' => e = .returned (.bool (okG s ms)) ∧ Ext w w') :=
    fun w k => spec_l21One s ms _ w hs k k2
  have hn : Hid (∀ (w : World), Rd w 1 (.slice tp ps.length tc) ps.length (vInts ps) → Calls Tryz.prog 60 #[.agg #[.slice tp ps.length tc]] w fun e w' => e = .returned (.bool (goodT ps)) ∧ Ext w w') :=
    fun w h => spec_l6Good ps _ w h h2
  cases e1 : goodT ps
  · have hno : nfB ps s ms = false := by rw [nfB, e1, Bool.false_and, Bool.and_false]
    rw [hno]
    rw [e1] at hn
    clear hno e1
    go_enter Tryz.func29, Tryz.ntmps29
    go_wp2_with fail
    refine wp_region_ext (by kernel_rfl) (by kernel_rfl) ?_
    repeat (go_big_quiet_step ((first | (go_at_call 60; exact Calls.quiet_ext (hn.out _ (Hr.out.ext (by repeat' (first | exact Ext.refl _ | assumption | refine Ext.alloc ?_ _ | refine Ext.ext ?_ _ | refine Ext.drew ?_ | refine Ext.drewN ?_ _))))))))
    refine wpQuiet_nil ?_
    rintro _ ⟨zq, rfl⟩
    go_wp2
    go_ret
    exact ⟨rfl, (by repeat' (first | exact Ext.refl _ | assumption | refine Ext.alloc ?_ _ | refine Ext.ext ?_ _ | refine Ext.drew ?_ | refine Ext.drewN ?_ _))⟩
  rw [e1] at hn
  cases e2 : okG s ms
  · have hno : nfB ps s ms = false := by rw [nfB, e2]; rfl
    rw [hno]
    rw [e2] at hg
    clear hno e1 e2
    go_enter Tryz.func29, Tryz.ntmps29
    go_wp2_with fail
    refine wp_region_ext (by kernel_rfl) (by kernel_rfl) ?_
    repeat (go_big_quiet_step ((first | first | (go_at_call 60; exact Calls.quiet_ext (hn.out _ (Hr.out.ext (by repeat' (first | exact Ext.refl _ | assumption | refine Ext.alloc ?_ _ | refine Ext.ext ?_ _ | refine Ext.drew ?_ | refine Ext.drewN ?_ _))))) | (go_at_call 40; exact Calls.quiet_ext (hg.out _ (Kr.out.ext (by repeat' (first | exact Ext.refl _ | assumption | refine Ext.alloc ?_ _ | refine Ext.ext ?_ _ | refine Ext.drew ?_ | refine Ext.drewN ?_ _))))))))
    refine wpQuiet_nil ?_
    rintro _ ⟨zq, rfl⟩
    go_wp2
    go_ret
    exact ⟨rfl, (by repeat' (first | exact Ext.refl _ | assumption | refine Ext.alloc ?_ _ | refine Ext.ext ?_ _ | refine Ext.drew ?_ | refine Ext.drewN ?_ _))⟩
  rw [e2] at hg
  have hf : nfB ps s ms = decide (ms.getD (ms.length - 1) 0 < ps.length) := by rw [nfB, e1, e2, last_in e2]; rfl
  rw [hf]
  obtain ⟨_, h0, _⟩ := okG_all e2
  obtain ⟨b, off, rfl, h6⟩ := M4.out.resolve_left (by omega)
  have c0 := elem1 (Value.int .i64) 0 ms h6 (ms.length - 1) (by omega)
  have n1 : IntKind.i64.wrap ((ms.length : Int) - 1) = ((ms.length - 1 : Nat) : Int) := by rw [IntWalk.i64_in _ (by omega)]; omega
  have n2 : ((ms.length - 1 : Nat) : Int) < (ms.length : Int) := by omega
  have n3 : (0 : Int) ≤ ((ms.length - 1 : Nat) : Int) := by omega
  clear e1 e2 hf h6
  generalize ms.getD (ms.length - 1) 0 = x at c0
  obtain ⟨j, hj⟩ : ∃ j, ms.length - 1 = j := ⟨_, rfl⟩
  rw [hj] at c0 n1 n2 n3
  go_enter Tryz.func29, Tryz.ntmps29
  go_wp2_with fail
  refine wp_region_ext (by kernel_rfl) (by kernel_rfl) ?_
  repeat (go_big_quiet_step ((first | first | (go_at_call 60; exact Calls.quiet_ext (hn.out _ (Hr.out.ext (by repeat' (first | exact Ext.refl _ | assumption | refine Ext.alloc ?_ _ | refine Ext.ext ?_ _ | refine Ext.drew ?_ | refine Ext.drewN ?_ _))))) | (go_at_call 40; exact Calls.quiet_ext (hg.out _ (Kr.out.ext (by repeat' (first | exact Ext.refl _ | assumption | refine Ext.alloc ?_ _ | refine Ext.ext ?_ _ | refine Ext.drew ?_ | refine Ext.drewN ?_ _))))))))
  refine wpQuiet_nil ?_
  rintro _ ⟨zq, rfl⟩
  go_wp2
  go_ret
  exact ⟨rfl, (by repeat' (first | exact Ext.refl _ | assumption | refine Ext.alloc ?_ _ | refine Ext.ext ?_ _ | refine Ext.drew ?_ | refine Ext.drewN ?_ _))⟩
theorem spec_l21Nodes (ps : List Int) (s : ByteArray) (ms : List Int) (v u : Value) (w : World) (h : Rd w 1 v ps.length (vInts ps)) (k : Rd w 1 u ms.length (vInts ms)) (k2 : ms.length ≤ 1048576) (hy : nfB ps s ms = true) :
    Calls Tryz.prog 30 #[.agg #[v], .agg #[.string s, u]] w fun e w' => ∃ r, e = .returned r ∧ w'.ownsRow w.heap.size 3 1 r (nfL ps s ms).length (vInts (nfL ps s ms)) ∧ Ext w w' := by
  have Hr := hid h
  have Kr := hid k
  obtain ⟨-, tp, tc, rfl, -⟩ := h
  obtain ⟨-, yp, yc, rfl, m4⟩ := k
  have M4 := hid m4
  clear m4
  rw [nfL_yes hy]
  obtain ⟨_, hT, g4⟩ := nfB_all hy
  have hlen := goodT_len hT
  have hpp := fun x w h (hx : 0 ≤ x ∧ x < (ps.length : Int)) => spec_l6Path ps (.slice tp ps.length tc) x w h hT (by omega) hx.2
  have Hpp := hid hpp
  have G4 := hid g4
  have HT := hid hT
  clear hy hpp g4 hT
  go_enter Tryz.func30, Tryz.ntmps30
  go_wp2_with fail
  have XB : Ext w ((w.alloc (.cells #[.slice tp ps.length tc] 26)).alloc (.cells #[.string s, .slice yp ms.length yc] 28)) := (by repeat' (first | exact Ext.refl _ | assumption | refine Ext.alloc ?_ _ | refine Ext.ext ?_ _ | refine Ext.drew ?_ | refine Ext.drewN ?_ _))
  have b0 : ((w.alloc (.cells #[.slice tp ps.length tc] 26)).alloc (.cells #[.string s, .slice yp ms.length yc] 28)).cell? ⟨w.heap.size, 0, none⟩ = some (.slice tp ps.length tc) := by rw [cell_of_row _ _ 0 _ _ (0, 0) (heap_old (heap_at _ rfl) _)]; rfl
  have b1 : ((w.alloc (.cells #[.slice tp ps.length tc] 26)).alloc (.cells #[.string s, .slice yp ms.length yc] 28)).cell? ⟨w.heap.size + 1, 0, none⟩ = some (.string s) := by rw [cell_of_row _ _ 0 _ _ (0, 0) (heap_at _ (by simp))]; rfl
  have b2 : ((w.alloc (.cells #[.slice tp ps.length tc] 26)).alloc (.cells #[.string s, .slice yp ms.length yc] 28)).cell? ⟨w.heap.size + 1, 1, none⟩ = some (.slice yp ms.length yc) := by rw [cell_of_row _ _ 1 _ _ (0, 0) (heap_at _ (by simp))]; rfl
  have hWs : ((w.alloc (.cells #[.slice tp ps.length tc] 26)).alloc (.cells #[.string s, .slice yp ms.length yc] 28)).heap.size = w.heap.size + 1 + 1 := by simp
  generalize ((w.alloc (.cells #[.slice tp ps.length tc] 26)).alloc (.cells #[.string s, .slice yp ms.length yc] 28)) = W at *
  have Bx := hid (And.intro b0 (And.intro b1 b2))
  have hl0 : (W.alloc (.cells #[] 3)).ownsRow W.heap.size 3 1 (.slice (some ⟨W.heap.size, 0, none⟩) 0 0) 0 [] := World.ownsRow_lit W #[] 0 (Nat.le_refl _) (Nat.zero_le _) rfl
  have Hl0 := hid hl0
  rw [hWs] at Hl0
  clear hl0 b0 b1 b2
  go_loopw [6, 5] (fun v10 v5 wr => ∃ k : Nat, k ≤ ms.length ∧ v10 = .int .i64 k ∧ wr.ownsRow (w.heap.size + 1 + 1) 3 1 v5 (fan (path ps) (ms.take k)).length (vInts (fan (path ps) (ms.take k))) ∧ Ext W wr) (fun v10 _ _ => ms.length - (intOf v10).toNat)
  case atStart => exact ⟨0, Nat.zero_le _, rfl, Hl0.out, (by repeat' (first | exact Ext.refl _ | assumption | refine Ext.alloc ?_ _ | refine Ext.ext ?_ _ | refine Ext.drew ?_ | refine Ext.drewN ?_ _))⟩
  case round =>
    obtain ⟨k, hk, rfl, hown, hx⟩ := hrel
    obtain ⟨wo, rfl⟩ : ∃ wo : World, wo = wr := ⟨_, rfl⟩
    have b0 := hx.cell Bx.out.1
    have b1 := hx.cell Bx.out.2.1
    have b2 := hx.cell Bx.out.2.2
    have XO := XB.trans hx
    by_cases hlt : k < ms.length
    · obtain ⟨b, off, rfl, h6⟩ := M4.out.resolve_left (by omega)
      have c0 := XO.cell (elem1 (Value.int .i64) 0 ms h6 k hlt)
      have hxo := G4.out _ (mem_getD hlt)
      have hsn := fan_snoc (path ps) ms k hlt
      have hlin := fan_nodes HT.out (mem_take_in G4.out (k + 1))
      rw [hsn] at hlin
      have hasc := fan_asc (path ps) (ms.take k)
      have hpl8 := path_len HT.out hxo.2
      generalize ms.getD k 0 = x at c0 hxo hsn hlin hpl8
      have hp := fun w h => Hpp.out x w h hxo
      generalize path ps x = R at *
      generalize fan (path ps) (ms.take k) = L at *
      have hll : ∀ j, (putAll L (R.take j)).length ≤ 8 := fun j => by
        refine Nat.le_trans (asc_len (n := ps.length) _ 0 (putAll_asc _ _ hasc) (fun y hy => ?_)) (by omega)
        rcases (putAll_mem _ _ _).1 hy with h | h
        · have := hlin y ((putAll_mem _ _ _).2 (.inl h)); omega
        · have := hlin y ((putAll_mem _ _ _).2 (.inr (List.mem_of_mem_take h))); omega
      have Hsn := hid hsn
      have Hasc := hid hasc
      have Hp := hid hp
      have Hll := hid hll
      have Ho := hid hown
      clear hsn hasc hp hlin hown h6 hll
      have n0 : (0 : Int) ≤ (k : Int) := by omega
      have n1 : (k : Int) < (ms.length : Int) := by omega
      go_wp2
      have X4 : Ext w wo.drew := XO.drew
      have e0 := (Ext.refl wo).drew.cell b0
      have e2 := (Ext.refl wo).drew.cell b2
      have e3 := (Ext.refl wo).drew.cell c0
      go_region_held3 (fun w' => w'.cell? ⟨w.heap.size, 0, none⟩ = some (.slice tp ps.length tc) ∧ w'.cell? ⟨w.heap.size + 1, 1, none⟩ = some (.slice (some ⟨b, off, none⟩) ms.length yc) ∧ w'.cell? ⟨b, off + k, none⟩ = some (.int .i64 x)) (first | exact ⟨b0, b2, c0⟩ | exact ⟨e0, e2, e3⟩ | exact ⟨f0, f2, f3⟩)
        (first | (go_at_call 61; (with_reducible refine (Hp.out _ (Hr.out.ext X4)).mono ?_); rintro e w1 ⟨r, rfl, ho1, hx1⟩; have f0 := hx1.cell e0; have f2 := hx1.cell e2; have f3 := hx1.cell e3))
      have hrd := Rd.own ho1
      obtain ⟨p1, cc1, rfl⟩ := own_shape ho1
      have Hrd := hid hrd
      have X1 := hid (hx.trans ((Ext.refl wo).drew.trans hx1))
      have Ho1 := hid (own_ext Ho.out ((Ext.refl wo).drew.trans hx1))
      clear ho1 hrd hx hx1 XO X4 e0 e2 e3 f0 f2 f3 b0 b1 b2 c0 n0 n1
      go_wp2
      go_loopw [8, 5] (fun v37 v9 wr => ∃ j : Nat, j ≤ R.length ∧ v37 = .int .i64 j ∧ wr.ownsRow (w.heap.size + 1 + 1) 3 1 v9 (putAll L (R.take j)).length (vInts (putAll L (R.take j))) ∧ Ext W wr ∧ Ext w1 wr) (fun v37 _ _ => R.length - (intOf v37).toNat)
      case atStart => exact ⟨0, Nat.zero_le _, rfl, Ho1.out, X1.out, Ext.refl _⟩
      case round =>
        obtain ⟨j, hj, rfl, hown2, hx2, hx3⟩ := hrel
        by_cases hlt2 : j < R.length
        · obtain ⟨-, p4, c4, e4, q4⟩ := Hrd.out
          cases e4
          obtain ⟨b4, off4, rfl, q6⟩ := q4.resolve_left (by omega)
          have d0 := hx3.cell (elem1 (Value.int .i64) 0 R q6 j hlt2)
          have hps := putAll_snoc L R j hlt2
          have hpa := putAll_asc (R.take j) L Hasc.out
          have hpl := Hll.out j
          generalize R.getD j 0 = q at d0 hps
          generalize putAll L (R.take j) = M at *
          have Hps := hid hps
          have Hpa := hid hpa
          have Hx2 := hid hx2
          have Hx3 := hid hx3
          have Ho2 := hid hown2
          clear hps hpa hx2 hx3 hown2 q4 q6
          go_wp2_with fail
          go_at_call 62
          refine (spec_l1Put M _ q (w.heap.size + 1 + 1) _ Ho2.out Hpa.out (by rw [← hWs]; exact Hx2.out.size) (by omega)).mono ?_
          rintro e w3 ⟨r3, rfl, ho3, hg3⟩
          have K3 := hid (And.intro ho3 hg3)
          clear hg3 ho3 d0
          go_wp2
          go_roundw
          case rel => exact ⟨j + 1, by omega, by go_num, by rw [Hps.out]; exact K3.out.1, Hx2.out.trans K3.out.2, Hx3.out.trans K3.out.2⟩
          case measure => simp [intOf]; omega
        · obtain rfl : j = R.length := by omega
          rw [List.take_length] at hown2
          have K := hid (And.intro hown2 hx2)
          clear hown2 hx2 hx3
          go_wp2
          go_roundw
          case rel => exact ⟨k + 1, by omega, by go_num, by rw [Hsn.out]; exact K.out.1, K.out.2⟩
          case measure => simp [intOf]; omega
    · obtain rfl : k = ms.length := by omega
      rw [List.take_length] at hown
      have K := hid (And.intro hown XO)
      clear hown hx hlt XO
      go_wp2
      go_ret
      exact ⟨_, rfl, own_mono K.out.1 (by omega), K.out.2⟩
theorem spec_NodesFor (ps : List Int) (s : ByteArray) (ms : List Int) (v u : Value) (w : World) (h : Rd w 1 v ps.length (vInts ps)) (k : Rd w 1 u ms.length (vInts ms)) (h2 : ps.length ≤ 1048576) (hs : s.size ≤ 1048576) (k2 : ms.length ≤ 1048576) :
    Calls Tryz.prog 7 #[.agg #[v], .agg #[.string s, u]] w fun e w' => ∃ r, e = .returned (.tuple #[r, .bool (nfB ps s ms)]) ∧ w'.ownsRow w.heap.size 3 1 r (nfL ps s ms).length (vInts (nfL ps s ms)) ∧ Ext w w' := by
  have Hr := hid h
  have Kr := hid k
  have hi := hid (fun w h k => spec_l21In ps s ms v u w h k h2 hs k2)
  clear h k
  cases e1 : nfB ps s ms
  · rw [nfL_no e1]
    rw [e1] at hi
    clear e1
    go_enter Tryz.func7, Tryz.ntmps7
    go_wp2_with (go_at_call 29; refine (hi.out _ (Hr.out.ext (by repeat' (first | exact Ext.refl _ | assumption | refine Ext.alloc ?_ _ | refine Ext.ext ?_ _ | refine Ext.drew ?_ | refine Ext.drewN ?_ _))) (Kr.out.ext (by repeat' (first | exact Ext.refl _ | assumption | refine Ext.alloc ?_ _ | refine Ext.ext ?_ _ | refine Ext.drew ?_ | refine Ext.drewN ?_ _)))).mono ?_; rintro e w' ⟨rfl, z1, rfl⟩)
    go_ret2
    exact ⟨_, rfl, by simpa [vInts] using World.ownsRow_lit (base := w.heap.size) (e := 3) (size := 1) _ #[] 0 (by simp [World.size_ext]; omega) (Nat.zero_le _) rfl, (by repeat' (first | exact Ext.refl _ | assumption | refine Ext.alloc ?_ _ | refine Ext.ext ?_ _ | refine Ext.drew ?_ | refine Ext.drewN ?_ _))⟩
  · rw [e1] at hi
    have hn := hid (fun w h k => spec_l21Nodes ps s ms v u w h k k2 e1)
    clear e1
    generalize nfL ps s ms = L at *
    go_enter Tryz.func7, Tryz.ntmps7
    go_wp2_with (first | (go_at_call 29; refine (hi.out _ (Hr.out.ext (by repeat' (first | exact Ext.refl _ | assumption | refine Ext.alloc ?_ _ | refine Ext.ext ?_ _ | refine Ext.drew ?_ | refine Ext.drewN ?_ _))) (Kr.out.ext (by repeat' (first | exact Ext.refl _ | assumption | refine Ext.alloc ?_ _ | refine Ext.ext ?_ _ | refine Ext.drew ?_ | refine Ext.drewN ?_ _)))).mono ?_; rintro e w' ⟨rfl, z1, rfl⟩) | (go_at_call 30; (refine (hn.out _ (Hr.out.ext (by repeat' (first | exact Ext.refl _ | assumption | refine Ext.alloc ?_ _ | refine Ext.ext ?_ _ | refine Ext.drew ?_ | refine Ext.drewN ?_ _))) (Kr.out.ext (by repeat' (first | exact Ext.refl _ | assumption | refine Ext.alloc ?_ _ | refine Ext.ext ?_ _ | refine Ext.drew ?_ | refine Ext.drewN ?_ _)))).mono ?_); rintro e w1 ⟨r, rfl, ho1, hx1⟩))
    go_ret2
    exact ⟨_, rfl, own_mono ho1 (show Ext w _ from (by repeat' (first | exact Ext.refl _ | assumption | refine Ext.alloc ?_ _ | refine Ext.ext ?_ _ | refine Ext.drew ?_ | refine Ext.drewN ?_ _))).size, (show Ext w _ from (by repeat' (first | exact Ext.refl _ | assumption | refine Ext.alloc ?_ _ | refine Ext.ext ?_ _ | refine Ext.drew ?_ | refine Ext.drewN ?_ _))).trans hx1⟩
end Go.Proofs.YtlaochpkelbchaaGreatDoor
