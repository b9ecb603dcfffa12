/- The law FnExactGroupText. -/
import Derived.Test.YthjklcodgcojbaaDoorWGrpT
import Derived.Test.YthjklcodgcojbaaDoorKit2
import Derived.Test.YthjklcodgcojbaaDoorWCOpen
import Derived.Test.YthjklcodgcojbaaDoorWGrp
import Derived.Test.YthjklcodgcojbaaDoorRows
import Derived.Test.YthjklcodgcojbaaDoorTie
import Derived.Test.YthjklcodgcojbaaDoorCards
import Derived.Lay
import Derived.SevenTiedAt
namespace Go.Proofs.YthjklcodgcojbaaDoor.xGroupText
open Go.ChangeShapes Go.WideShapes Go.ChangeAt Go.RowKit
set_option maxHeartbeats 400000
set_option maxRecDepth 100000
theorem walk (s : ByteArray) (ms : List Int) (u : Value) (w : World) (k : Rd w 1 u ms.length (vInts ms)) (hsm : s.size ≤ maxLen) (km : ms.length ≤ maxLen) :
    Calls Tryd.prog 6 #[.agg #[.string s, u]] w fun e w' => e = .returned (.bool true) ∧ Ext w w' := by
  by_cases hs : (s.size : Int) + ms.length ≤ 1048576
  · have k2 : ms.length ≤ 1048576 := by omega
    have s2 : s.size ≤ 1048576 := by omega
    have t1 : decide ((1048576 : Int) - s.size - ms.length < 0) = false := by simp; omega
    have cs := fun u w k => spec_GroupText s ms u w k s2 k2
    have ci := fun u w k => impl_GroupText s ms u w k s2 k2
    generalize grT s ms = T at cs ci
    generalize okG s ms = b at cs ci
    go_enter Tryd.func6, Tryd.ntmps6
    go_wp2_with fail
    have XB : Ext w (w.alloc (.cells #[(.string s), u] 40)) := (by repeat' (first | exact Ext.refl _ | assumption | refine Ext.alloc ?_ _ | refine Ext.ext ?_ _ | refine Ext.drew ?_ | refine Ext.drewN ?_ _))
    have b0_0 : (w.alloc (.cells #[(.string s), u] 40)).cell? ⟨w.heap.size, 0, none⟩ = some (.string s) := by rw [cell_of_row _ _ 0 _ _ (0, 0) (heap_at _ (by simp))]; rfl
    have b0_1 : (w.alloc (.cells #[(.string s), u] 40)).cell? ⟨w.heap.size, 1, none⟩ = some u := by rw [cell_of_row _ _ 1 _ _ (0, 0) (heap_at _ (by simp))]; rfl
    replace k := k.ext XB
    have hlw : w.heap.size + 1 ≤ (w.alloc (.cells #[(.string s), u] 40)).heap.size := by simp
    generalize (w.alloc (.cells #[(.string s), u] 40)) = w0 at *
    go_at_call 24; refine (laws_szGroup s _ _ 1048576 _ _ _ (k.ext ((Ext.refl w0))) (by omega) (by omega)).mono ?_; rintro e w1 ⟨rfl, hx1⟩
    have b1_0 := hx1.cell b0_0
    have b1_1 := hx1.cell b0_1
    clear b0_0 b0_1
    (go_wp2_with fail)
    go_at_call 27; refine (laws_toGroup ms _ _ (k.ext (hx1)) k2).mono ?_; rintro e w2 ⟨g2_0, rfl, ho2_0, hx2⟩
    have b2_0 := hx2.cell b1_0
    have b2_1 := hx2.cell b1_1
    clear b1_0 b1_1
    (go_wp2_with fail)
    go_at_call 33; refine (cs _ _ (Rd.own ho2_0)).mono ?_; rintro e w3 ⟨rfl, hx3⟩
    have b3_0 := hx3.cell b2_0
    have b3_1 := hx3.cell b2_1
    clear b2_0 b2_1
    (go_wp2_with fail)
    have X0_2 := hx1.trans hx2
    have X0_3 := X0_2.trans hx3
    go_at_call 27; refine (laws_toGroup ms _ _ (k.ext (X0_3)) k2).mono ?_; rintro e w4 ⟨g4_0, rfl, ho4_0, hx4⟩
    have b4_0 := hx4.cell b3_0
    have b4_1 := hx4.cell b3_1
    clear b3_0 b3_1
    (go_wp2_with fail)
    have hx5 : Ext w4 (w4.alloc (.cells #[(.string s), .slice (some ⟨g4_0, 0, none⟩) (ms).length (ms).length] 46)) := (Ext.refl _).alloc _
    have hs5 : w4.heap.size < (w4.alloc (.cells #[(.string s), .slice (some ⟨g4_0, 0, none⟩) (ms).length (ms).length] 46)).heap.size := by simp
    have b5_2 : (w4.alloc (.cells #[(.string s), .slice (some ⟨g4_0, 0, none⟩) (ms).length (ms).length] 46)).cell? ⟨w4.heap.size, 0, none⟩ = some ((.string s)) := by rw [cell_of_row _ _ 0 _ _ (0, 0) (heap_at _ rfl)]; rfl
    have b5_3 : (w4.alloc (.cells #[(.string s), .slice (some ⟨g4_0, 0, none⟩) (ms).length (ms).length] 46)).cell? ⟨w4.heap.size, 1, none⟩ = some (.slice (some ⟨g4_0, 0, none⟩) (ms).length (ms).length) := by rw [cell_of_row _ _ 1 _ _ (0, 0) (heap_at _ rfl)]; rfl
    have b5_0 := hx5.cell b4_0
    have b5_1 := hx5.cell b4_1
    clear b4_0 b4_1
    generalize (w4.alloc (.cells #[(.string s), .slice (some ⟨g4_0, 0, none⟩) (ms).length (ms).length] 46)) = w5 at *
    have o1 := own_ext ho4_0 (hx5)
    go_at_call 34; refine (ci _ _ (Rd.own o1)).mono ?_; rintro e w6 ⟨rfl, hx6⟩
    have b6_0 := hx6.cell b5_0
    have b6_1 := hx6.cell b5_1
    have b6_2 := hx6.cell b5_2
    have b6_3 := hx6.cell b5_3
    clear b5_0 b5_1 b5_2 b5_3
    (go_wp2_with fail)
    have hx7 : Ext w6 w6.drew := (Ext.refl _).drew
    have b7_0 := hx7.cell b6_0
    have b7_1 := hx7.cell b6_1
    have b7_2 := hx7.cell b6_2
    have b7_3 := hx7.cell b6_3
    go_region_held3 (fun w' => w'.cell? ⟨w.heap.size, 0, none⟩ = some ((.string s)) ∧ w'.cell? ⟨w.heap.size, 1, none⟩ = some (u) ∧ w'.cell? ⟨w4.heap.size, 0, none⟩ = some ((.string s)) ∧ w'.cell? ⟨w4.heap.size, 1, none⟩ = some (.slice (some ⟨g4_0, 0, none⟩) (ms).length (ms).length)) (first | exact ⟨b7_0, b7_1, b7_2, b7_3⟩ | exact ⟨b8_0, b8_1, b8_2, b8_3⟩ | exact ⟨b9_0, b9_1, b9_2, b9_3⟩)
      (first | (go_at_call 27; have X0_4 := X0_3.trans hx4; have X0_5 := X0_4.trans hx5; have X0_6 := X0_5.trans hx6; have X0_7 := X0_6.trans hx7; refine (laws_toGroup ms _ _ (k.ext (X0_7)) k2).mono ?_; rintro e w8 ⟨g8_0, rfl, ho8_0, hx8⟩; have b8_0 := hx8.cell b7_0; have b8_1 := hx8.cell b7_1; have b8_2 := hx8.cell b7_2; have b8_3 := hx8.cell b7_3) | (go_at_call 30; have X5_7 := hx6.trans hx7; have X5_8 := X5_7.trans hx8; have o2 := own_ext o1 (X5_8); refine (laws_eqGroup ms _ _ _ (Rd.own o2) (Rd.own ho8_0) k2).mono ?_; rintro e w9 ⟨rfl, hx9⟩; have b9_0 := hx9.cell b8_0; have b9_1 := hx9.cell b8_1; have b9_2 := hx9.cell b8_2; have b9_3 := hx9.cell b8_3))
    clear b6_0 b6_1 b6_2 b6_3 b7_0 b7_1 b7_2 b7_3 b8_0 b8_1 b8_2 b8_3
    go_wp2
    go_returns
    have X0_8 := X0_7.trans hx8
    have X0_9 := X0_8.trans hx9
    exact ⟨rfl, XB.trans (X0_9)⟩
  · go_enter Tryd.func6, Tryd.ntmps6
    go_wp2_with fail
    have XB : Ext w (w.alloc (.cells #[(.string s), u] 40)) := (by repeat' (first | exact Ext.refl _ | assumption | refine Ext.alloc ?_ _ | refine Ext.ext ?_ _ | refine Ext.drew ?_ | refine Ext.drewN ?_ _))
    have b0_0 : (w.alloc (.cells #[(.string s), u] 40)).cell? ⟨w.heap.size, 0, none⟩ = some (.string s) := by rw [cell_of_row _ _ 0 _ _ (0, 0) (heap_at _ (by simp))]; rfl
    have b0_1 : (w.alloc (.cells #[(.string s), u] 40)).cell? ⟨w.heap.size, 1, none⟩ = some u := by rw [cell_of_row _ _ 1 _ _ (0, 0) (heap_at _ (by simp))]; rfl
    replace k := k.ext XB
    have hlw : w.heap.size + 1 ≤ (w.alloc (.cells #[(.string s), u] 40)).heap.size := by simp
    generalize (w.alloc (.cells #[(.string s), u] 40)) = w0 at *
    go_at_call 24; refine (laws_szGroup_big s _ _ (1048576) _ _ _ (k.ext (Ext.refl _)) (by omega) hsm (by omega) (by omega) km).mono ?_; rintro e w' ⟨rfl, hx2⟩
    go_wp2
    go_returns
    exact ⟨rfl, XB.trans hx2⟩
theorem own : ownKnob Tryd.prog.godebug = none := by kernel_rfl
theorem laidOut : laidOutB Tryd.prog = true := by kernel_rfl
set_option maxRecDepth 100000 in
theorem lifted (os : Os) (started : os.Started) (H : Type) (enc : TypeId × Value → H) :
    ReturnsInHanded {} Tryd.checked os 6 .any (fun w args => (Rows.fnExactGroupTextSpec.pre enc Tryd.prog Tryd.f6 [] false w args ∧ laidMetH Tryd.prog Rows.fnExactGroupTextRow.laid w) ∧ sizedMet enc Tryd.prog Tryd.f6 (OpenSpec.ofChange Rows.fnExactGroupTextSpec) false w args)
      (Rows.fnExactGroupTextSpec.post enc Tryd.prog Tryd.f6 false true false false) := by
  refine returnsInHanded_of_change_and (C := Tryd.checked) (X := fun w _ => laidMetH Tryd.prog Rows.fnExactGroupTextRow.laid w) (fun _ _ _ hh h => h.of_heap hh) own started (by kernel_rfl) Tryd.func6
    (ChangeSpec.witness_shaped (enc := enc) (C := Tryd.checked) (os := os) (X := fun w _ => laidMetH Tryd.prog Rows.fnExactGroupTextRow.laid w) false (World.laidAll Tryd.prog os Rows.fnExactGroupTextRow.laid) #[.agg #[.string ByteArray.empty, .slice none 0 0]] 8 (World.laidAll_os _ _ _)
      (World.shaped_of_ZipB (by kernel_rfl) (by kernel_rfl)) (by kernel_rfl) (by kernel_rfl) (by kernel_rfl)
      (by rw [MakeChecks.laidMetH_plain _ _ _ (by kernel_rfl)]; exact laidMet_laidAll _ (by kernel_rfl) (by kernel_rfl))) ?_
  intro W base args ds gs before hval0 hW _ _ hL _
  have hval : ∀ (j : Nat) t v, Tryd.f6.params[j]? = some t → args[j]? = some v → Value.okWide Tryd.prog W .any base t v := hval0
  have hW' := hW
  obtain ⟨p, q, hA0, hV, rfl, hfz, hnd⟩ := hW
  have hA : DataW.TrodAll enc Tryd.prog W 0 (fun _ => true) true Tryd.f6.params.toList args.toList ds p := hA0
  rw [Tryd.params6] at hA hval
  rw [MakeChecks.laidMetH_plain _ _ _ (by kernel_rfl)] at hL
  obtain ⟨v0, vs0, d0, ds0, p0, q0, hargs, rfl, rfl, h0, r0⟩ := trodAll_cons hA
  obtain ⟨rfl, rfl, rfl⟩ := trodAll_nil r0
  obtain rfl : args = #[v0] := by cases args; simp_all
  clear hA0 hval0 hfz hnd hV
  obtain ⟨s, ms, u, rfl, hsz, kr, klen⟩ := opened_group (hval 0 _ v0 rfl rfl) h0
  refine (walk s ms _ W kr hsz klen).mono fun e W' ⟨he, hx⟩ => ?_
  subst he
  exact ⟨_, rfl, law_post laidOut (by rw [Tryd.params6]; simp only [List.forall_mem_cons, List.not_mem_nil, false_implies, implies_true, and_true]; repeat' apply And.intro; all_goals first | kernel_rfl | exact of_decide_eq_true (by kernel_rfl)) rfl Tryd.underlying4 rfl ⟨rfl, rfl, rfl⟩ hW' hx.below⟩
theorem holdsRow : Rows.FnExactGroupTextSaid :=
  OpenClaim.holds_of_wide 6 Tryd.f6 rfl rfl rfl rfl rfl rfl rfl ⟨rfl, rfl, rfl, rfl, rfl⟩ rfl rfl rfl rfl rfl (by kernel_rfl) Tryd.func6 (by kernel_rfl)
    (of_decide_eq_true (by kernel_rfl)) (by unfold Func.isWrapper; first | (rw [if_pos (by decide +kernel)]; kernel_rfl) | (rw [if_neg (by decide +kernel)]; exact ⟨rfl, rfl⟩))
    (fun os started H enc _ => lifted os started H enc)
theorem proved : Rows.FnExactGroupTextCardSaid :=
  Claim7.holds_tied_plain_at .later [] [.data, .data, .data, .data, .pinned] true (true, "d98e5ea9d9d979f90cee05b80b49c8468416582bf15d8a58d4a96a3bf1021c7b") true holdsRow (fun _ h => by cases h) (by kernel_rfl) (fun _ h => by cases h) fnExactGroupText_row_tie rfl ⟨rfl, rfl⟩ (by kernel_rfl) rfl
    (fun f fn hf hfn => by
      obtain rfl : f = 6 := Option.some.inj ((show Tryd.prog.funcNamed "loop.example/g00840/laws.FnExactGroupText" = some 6 by kernel_rfl).symm.trans hf) |>.symm
      obtain rfl : fn = Tryd.f6 := (Option.some.inj (Tryd.func6.symm.trans hfn)).symm
      exact ⟨by kernel_rfl, fun j t ht => by
        rw [Tryd.params6] at ht
        have hm : t ∈ [40] := by simpa using Array.mem_of_getElem? ht
        have hall : ([40].all fun u => !Tryd.prog.wantsStandIn u) = true := by kernel_rfl
        exact (show Tryd.prog.wantsStandIn t = false by simpa using List.all_eq_true.1 hall t hm)⟩)
    (by kernel_rfl)
#print axioms proved
end Go.Proofs.YthjklcodgcojbaaDoor.xGroupText
