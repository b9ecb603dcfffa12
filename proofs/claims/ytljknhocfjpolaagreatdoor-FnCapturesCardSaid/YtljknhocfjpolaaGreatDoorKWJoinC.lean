/- Two captures joined: the reference's walk. -/
import Derived.Test.YtljknhocfjpolaaGreatDoorJ22
import Derived.Test.YtljknhocfjpolaaGreatDoorKWSel
import Derived.Test.YtljknhocfjpolaaGreatDoorKWPut2
namespace Go.Proofs.YtljknhocfjpolaaGreatDoor
open Go.RowKit
set_option maxHeartbeats 4000000
set_option maxRecDepth 100000
theorem drop_at (xs : List Cap) (i : Nat) (h : i < xs.length) : xs.drop i = xs.getD i .z :: xs.drop (i + 1) := by
  rw [List.drop_eq_getElem_cons h, List.getD_eq_getElem?_getD, List.getElem?_eq_getElem h]; rfl
def jB (a b : List Cap) : Bool := capB a && (capB b && decide (a.length + b.length ≤ 10))
def jD (a b : List Cap) : List Cap := if jB a b then mg a b else []
def slc8 (a : Option Addr) (l h m : Nat) : Value := .slice (if m = l then a else a.map (·.add (l * 8))) (h - l) (m - l)
theorem run_from8 (a : Option Addr) (n k cap : Nat) (h : k ≤ n) : ∀ w, (Instr.slice 22 (.slice a n cap) (some (.int .i64 k)) none none).run Tryz.prog w = .ok (slc8 a k n cap) w := fun w => by
  rw [run_slice_l (P := Tryz.prog) w 22 a n cap (by kernel_rfl) .i64 k (by omega) (by omega)]
  have e : (Go.sizeOf (Tryz.prog.elem 22)).run Tryz.prog w = .ok 8 w := by kernel_rfl
  rw [e]
  rfl
theorem run_fromAt8 (a : Option Addr) (n k cap : Nat) (h : k ≤ n) : ∀ w, (Instr.sliceAt 22 (.slice a n cap) (some (.int .i64 k)) none none).run Tryz.prog w = .ok (slc8 a k n cap) w := fun w => by
  rw [run_sliceAt_slice (P := Tryz.prog) w 22 _ _ _ _ (by kernel_rfl)]
  exact run_from8 a n k cap h w
theorem rd_from8 {w : World} {p : Option Addr} {cap : Nat} {b : List Cap} (h : Rd w 8 (.slice p b.length cap) b.length (b.flatMap Cap.cs)) (hc : b.length ≤ cap) (k : Nat) (hk : k ≤ b.length) : Rd w 8 (slc8 p k b.length cap) (b.length - k) ((b.drop k).flatMap Cap.cs) := by
  obtain ⟨-, p', c, e, h4⟩ := h
  cases e
  refine ⟨by rw [caps_len, List.length_drop], _, _, rfl, ?_⟩
  by_cases h0 : b.length - k = 0
  · exact .inl h0
  · obtain ⟨bb, off, rfl, h6⟩ := h4.resolve_left (by omega)
    rw [if_neg (by omega)]
    have := rd_dropC h6 k (cap - k) hk
    rw [List.length_drop] at this
    obtain ⟨-, q, c, e, h5⟩ := this
    cases e
    refine .inr ⟨bb, off + k * 8, by simp [Addr.add_lit], ?_⟩
    obtain ⟨b5, o5, e5, h7⟩ := h5.resolve_left h0
    cases e5
    exact h7
theorem spec_JoinCaptures_yes (a b : List Cap) (va : Value) (p' : Option Addr) (cap' : Nat) (w : World) (h : Rd w 8 va a.length (a.flatMap Cap.cs)) (k : Rd w 8 (.slice p' b.length cap') b.length (b.flatMap Cap.cs)) (hcap : b.length ≤ cap') (h3 : Cap.chars a ≤ 1048576) (k3 : Cap.chars b ≤ 1048576)
    (ha : capB a = true) (hb : capB b = true) (hl : a.length + b.length ≤ 10) :
    Calls Tryz.prog 26 #[va, .slice p' b.length cap'] w fun e w' => ∃ r, e = .returned (.tuple #[r, .bool true]) ∧ w'.ownsRow w.heap.size 48 8 r (mg a b).length ((mg a b).flatMap Cap.cs) ∧ Ext w w' := by
  have Hr := hid h
  have Kr := hid k
  obtain ⟨h1, p, cap, rfl, h4⟩ := h
  obtain ⟨-, p'', cap'', ek, k4⟩ := k
  cases ek
  have hg : Hid (∀ w, Rd w 8 (.slice p a.length cap) a.length (a.flatMap Cap.cs) → Calls Tryz.prog 40 #[.slice p a.length cap] w fun e w' => e = .returned (.bool true) ∧ Ext w w') := fun w h => by rw [← ha]; exact spec_l25Good a _ w h (by omega) h3
  have kg : Hid (∀ w, Rd w 8 (.slice p' b.length cap') b.length (b.flatMap Cap.cs) → Calls Tryz.prog 40 #[.slice p' b.length cap'] w fun e w' => e = .returned (.bool true) ∧ Ext w w') := fun w h => by rw [← hb]; exact spec_l25Good b _ w h (by omega) k3
  have ho0 := World.ownsRow_lit (base := w.heap.size) (e := 48) (size := 8) w #[] 0 (Nat.le_refl _) (Nat.zero_le _) rfl
  have Ho0 := hid ho0
  obtain ⟨i0, hi, hz0, hz1, hz2⟩ := info_parts infoCap
  have H4 := hid h4
  have K4 := hid k4
  have t0 : decide ((a.length : Int) + b.length > 10) = false := by simp; omega
  clear ho0 h1 h4 k4 ha hb
  go_enter Tryz.func26, Tryz.ntmps26
  repeat (first | (go_wp2_with ((go_at_call 40; (first | (with_reducible refine (hg.out _ (Hr.out.ext (by repeat' (first | exact Ext.refl _ | assumption | refine Ext.alloc ?_ _ | refine Ext.ext ?_ _ | refine Ext.drew ?_ | refine Ext.drewN ?_ _)))).mono ?_) | (with_reducible refine (kg.out _ (Kr.out.ext (by repeat' (first | exact Ext.refl _ | assumption | refine Ext.alloc ?_ _ | refine Ext.ext ?_ _ | refine Ext.drew ?_ | refine Ext.drewN ?_ _)))).mono ?_)); rintro e w1 ⟨rfl, z1, rfl⟩)); refine wp_region_ext (by kernel_rfl) (by kernel_rfl) ?_; (repeat (go_big_quiet_step ((go_at_call 40; first | (with_reducible exact Calls.quiet_ext (hg.out _ (Hr.out.ext (by repeat' (first | exact Ext.refl _ | assumption | refine Ext.alloc ?_ _ | refine Ext.ext ?_ _ | refine Ext.drew ?_ | refine Ext.drewN ?_ _))))) | (with_reducible exact Calls.quiet_ext (kg.out _ (Kr.out.ext (by repeat' (first | exact Ext.refl _ | assumption | refine Ext.alloc ?_ _ | refine Ext.ext ?_ _ | refine Ext.drew ?_ | refine Ext.drewN ?_ _))))))))); refine wpQuiet_nil ?_; rintro _ ⟨zq, rfl⟩))
  go_wp2_with ((go_at_call 40; (first | (with_reducible refine (hg.out _ (Hr.out.ext (by repeat' (first | exact Ext.refl _ | assumption | refine Ext.alloc ?_ _ | refine Ext.ext ?_ _ | refine Ext.drew ?_ | refine Ext.drewN ?_ _)))).mono ?_) | (with_reducible refine (kg.out _ (Kr.out.ext (by repeat' (first | exact Ext.refl _ | assumption | refine Ext.alloc ?_ _ | refine Ext.ext ?_ _ | refine Ext.drew ?_ | refine Ext.drewN ?_ _)))).mono ?_)); rintro e w1 ⟨rfl, z1, rfl⟩))
  clear t0 hg kg
  go_loopw [8, 7, 6] (fun v8 v7 v6 wr => ∃ (i k : Nat) (P : List Cap), i ≤ a.length ∧ k ≤ b.length ∧ v8 = .int .i64 i ∧ v7 = .int .i64 k ∧ P.length = i + k ∧ P ++ mg (a.drop i) (b.drop k) = mg a b ∧ wr.ownsRow w.heap.size 48 8 v6 P.length (P.flatMap Cap.cs) ∧ Ext w wr) (fun v8 _ _ _ => a.length - (intOf v8).toNat)
  case atStart => exact ⟨0, 0, [], Nat.zero_le _, Nat.zero_le _, rfl, rfl, rfl, rfl, own_ext Ho0.out (by repeat' (first | exact Ext.refl _ | assumption | refine Ext.alloc ?_ _ | refine Ext.ext ?_ _ | refine Ext.drew ?_ | refine Ext.drewN ?_ _)), (by repeat' (first | exact Ext.refl _ | assumption | refine Ext.alloc ?_ _ | refine Ext.ext ?_ _ | refine Ext.drew ?_ | refine Ext.drewN ?_ _))⟩
  case round =>
    obtain ⟨i, k, P, hia, hkb, rfl, rfl, hP, hm, hown, hx⟩ := hrel
    have Hown := hid hown
    have Hx := hid hx
    have Hm := hid hm
    clear hown hx hm
    by_cases hlt : i < a.length
    · obtain ⟨ab, aoff, rfl, h6⟩ := H4.out.resolve_left (by omega)
      have Hat := hid (Cap.at a h6 i hlt)
      have Hda := hid (drop_at a i hlt)
      clear h6
      generalize a.getD i .z = x at Hat Hda
      obtain ⟨t, n, u, c, m, r, l, d⟩ := x
      go_wp2
      go_loopw [7, 6] (fun v7 v6 wq => ∃ (j : Nat) (S : List Cap), j ≤ b.length ∧ v7 = .int .i64 j ∧ S.length = i + j ∧ S ++ mg (a.drop i) (b.drop j) = mg a b ∧ wq.ownsRow w.heap.size 48 8 v6 S.length (S.flatMap Cap.cs) ∧ Ext w wq) (fun v7 _ _ => b.length - (intOf v7).toNat)
      case atStart => exact ⟨k, P, hkb, rfl, hP, Hm.out, own_ext Hown.out (by repeat' (first | exact Ext.refl _ | assumption | refine Ext.alloc ?_ _ | refine Ext.ext ?_ _ | refine Ext.drew ?_ | refine Ext.drewN ?_ _)), Hx.out.trans (by repeat' (first | exact Ext.refl _ | assumption | refine Ext.alloc ?_ _ | refine Ext.ext ?_ _ | refine Ext.drew ?_ | refine Ext.drewN ?_ _))⟩
      case round =>
        obtain ⟨j, S, hjb, rfl, hS, hm, hown, hx⟩ := hrel
        have Hown2 := hid hown
        have Hx2 := hid hx
        have Hm2 := hid hm
        clear hown hx hm
        obtain ⟨c0, c1, c2, c3, c4, c5, c6, c7⟩ := Hat.out
        replace c0 := Hx2.out.cell c0
        replace c1 := Hx2.out.cell c1
        replace c2 := Hx2.out.cell c2
        replace c3 := Hx2.out.cell c3
        replace c4 := Hx2.out.cell c4
        replace c5 := Hx2.out.cell c5
        replace c6 := Hx2.out.cell c6
        replace c7 := Hx2.out.cell c7
        by_cases hlt2 : j < b.length
        · obtain ⟨bb, boff, rfl, h6⟩ := K4.out.resolve_left (by omega)
          obtain ⟨e0, e1, e2, e3, e4, e5, e6, e7⟩ := Cap.at b h6 j hlt2
          have Hdb := hid (drop_at b j hlt2)
          clear h6
          generalize b.getD j .z = y at e0 e1 e2 e3 e4 e5 e6 e7 Hdb
          obtain ⟨t', n', u', c', m', r', l', d'⟩ := y
          dsimp only at e0 e1 e2 e3 e4 e5 e6 e7
          replace e0 := Hx2.out.cell e0
          replace e1 := Hx2.out.cell e1
          replace e2 := Hx2.out.cell e2
          replace e3 := Hx2.out.cell e3
          replace e4 := Hx2.out.cell e4
          replace e5 := Hx2.out.cell e5
          replace e6 := Hx2.out.cell e6
          replace e7 := Hx2.out.cell e7
          by_cases htt : t' < t
          · have hm' : Hid (S ++ [⟨t', n', u', c', m', r', l', d'⟩] ++ mg (a.drop i) (b.drop (j + 1)) = mg a b) := by
              have := Hm2.out
              rw [Hda.out, Hdb.out, mg_lt _ _ htt] at this
              rw [Hda.out, ← this, List.append_assoc]
              rfl
            go_wp2_with fail
            refine wp_region_ext (by kernel_rfl) (by kernel_rfl) ?_
            (repeat (go_big_quiet_step (fail)))
            refine wpQuiet_nil ?_
            rintro _ ⟨zq, rfl⟩
            go_wp2_with (at_builtin; refine wpList_append_own _ rfl _ _ 22 rfl w.heap.size 48 i0 (.agg #[.int .i64 0, .int .i64 0, .bool false, .int .i64 0, .int .i64 0, .int .i64 0, .int .i64 0, .string ByteArray.empty]) 8 72 Tryz.underlying22 hi hz0 hz1 hz2 rfl (by decide) _ _ _ rfl ((own_ext Hown2.out (by repeat' (first | exact Ext.refl _ | assumption | refine Ext.alloc ?_ _ | refine Ext.ext ?_ _ | refine Ext.drew ?_ | refine Ext.drewN ?_ _)))) ⟨_, 0, none⟩ 1 1 [.int .i64 t', .int .i64 n', .bool u', .int .i64 c', .int .i64 m', .int .i64 r', .int .i64 l', .string d'] rfl ?c0 ?c1 ?c2 ?c3 ?c4 ?c5 ?_)
            (try case c0 => rfl)
            (try case c1 => (intro j u hj; rw [Addr.add_lit, Nat.zero_add, cell_of_row _ _ j _ _ (0, 0) (heap_at _ rfl)]; simpa using hj))
            case c2 => simp [Value.oneCell']
            case c3 => unfold maxLen; simp; omega
            case c4 => omega
            case c5 => exact (show Ext w _ from Hx2.out.trans (by repeat' (first | exact Ext.refl _ | assumption | refine Ext.alloc ?_ _ | refine Ext.ext ?_ _ | refine Ext.drew ?_ | refine Ext.drewN ?_ _))).size
            intro v' w1 hown' hgrow _
            have hx3 : Ext w w1 := (Hx2.out.trans (by repeat' (first | exact Ext.refl _ | assumption | refine Ext.alloc ?_ _ | refine Ext.ext ?_ _ | refine Ext.drew ?_ | refine Ext.drewN ?_ _))).grown hgrow (fun j hj => (Hown2.out.lt j hj).1)
            have Hx3 := hid hx3
            have Hown3 := hid hown'
            clear hx3 hgrow hown'
            go_wp2
            go_roundw
            case rel => exact ⟨j + 1, _, by omega, by go_num, by simp; omega, hm'.out, by simpa [Cap.cs, hS] using Hown3.out, Hx3.out⟩
            case measure => simp [intOf]; omega
          · have hm' : Hid (S ++ [⟨t, n, u, c, m, r, l, d⟩] ++ mg (a.drop (i + 1)) (b.drop j) = mg a b) := by
              have := Hm2.out
              rw [Hda.out, Hdb.out, mg_ge _ _ htt] at this
              rw [Hdb.out, ← this, List.append_assoc]
              rfl
            go_wp2_with fail
            refine wp_region_ext (by kernel_rfl) (by kernel_rfl) ?_
            (repeat (go_big_quiet_step (fail)))
            refine wpQuiet_nil ?_
            rintro _ ⟨zq, rfl⟩
            go_wp2_with (at_builtin; refine wpList_append_own _ rfl _ _ 22 rfl w.heap.size 48 i0 (.agg #[.int .i64 0, .int .i64 0, .bool false, .int .i64 0, .int .i64 0, .int .i64 0, .int .i64 0, .string ByteArray.empty]) 8 72 Tryz.underlying22 hi hz0 hz1 hz2 rfl (by decide) _ _ _ rfl ((own_ext Hown2.out (by repeat' (first | exact Ext.refl _ | assumption | refine Ext.alloc ?_ _ | refine Ext.ext ?_ _ | refine Ext.drew ?_ | refine Ext.drewN ?_ _)))) ⟨_, 0, none⟩ 1 1 [.int .i64 t, .int .i64 n, .bool u, .int .i64 c, .int .i64 m, .int .i64 r, .int .i64 l, .string d] rfl ?c0 ?c1 ?c2 ?c3 ?c4 ?c5 ?_)
            (try case c0 => rfl)
            (try case c1 => (intro j u hj; rw [Addr.add_lit, Nat.zero_add, cell_of_row _ _ j _ _ (0, 0) (heap_at _ rfl)]; simpa using hj))
            case c2 => simp [Value.oneCell']
            case c3 => unfold maxLen; simp; omega
            case c4 => omega
            case c5 => exact (show Ext w _ from Hx2.out.trans (by repeat' (first | exact Ext.refl _ | assumption | refine Ext.alloc ?_ _ | refine Ext.ext ?_ _ | refine Ext.drew ?_ | refine Ext.drewN ?_ _))).size
            intro v' w1 hown' hgrow _
            have hx3 : Ext w w1 := (Hx2.out.trans (by repeat' (first | exact Ext.refl _ | assumption | refine Ext.alloc ?_ _ | refine Ext.ext ?_ _ | refine Ext.drew ?_ | refine Ext.drewN ?_ _))).grown hgrow (fun j hj => (Hown2.out.lt j hj).1)
            have Hx3 := hid hx3
            have Hown3 := hid hown'
            clear hx3 hgrow hown'
            go_wp2
            go_roundw
            case rel => exact ⟨i + 1, j, _, by omega, hjb, by go_num, rfl, by simp; omega, hm'.out, by simpa [Cap.cs, hS] using Hown3.out, Hx3.out⟩
            case measure => simp [intOf]; omega
        · obtain rfl : j = b.length := by omega
          have hm' : Hid (S ++ [⟨t, n, u, c, m, r, l, d⟩] ++ mg (a.drop (i + 1)) (b.drop b.length) = mg a b) := by
            have := Hm2.out
            rw [Hda.out, List.drop_length, mg_nil] at this
            rw [List.drop_length, mg_nil, ← this, List.append_assoc]
            rfl
          go_wp2_with fail
          refine wp_region_ext (by kernel_rfl) (by kernel_rfl) ?_
          (repeat (go_big_quiet_step (fail)))
          refine wpQuiet_nil ?_
          rintro _ ⟨zq, rfl⟩
          go_wp2_with (at_builtin; refine wpList_append_own _ rfl _ _ 22 rfl w.heap.size 48 i0 (.agg #[.int .i64 0, .int .i64 0, .bool false, .int .i64 0, .int .i64 0, .int .i64 0, .int .i64 0, .string ByteArray.empty]) 8 72 Tryz.underlying22 hi hz0 hz1 hz2 rfl (by decide) _ _ _ rfl ((own_ext Hown2.out (by repeat' (first | exact Ext.refl _ | assumption | refine Ext.alloc ?_ _ | refine Ext.ext ?_ _ | refine Ext.drew ?_ | refine Ext.drewN ?_ _)))) ⟨_, 0, none⟩ 1 1 [.int .i64 t, .int .i64 n, .bool u, .int .i64 c, .int .i64 m, .int .i64 r, .int .i64 l, .string d] rfl ?c0 ?c1 ?c2 ?c3 ?c4 ?c5 ?_)
          (try case c0 => rfl)
          (try case c1 => (intro j u hj; rw [Addr.add_lit, Nat.zero_add, cell_of_row _ _ j _ _ (0, 0) (heap_at _ rfl)]; simpa using hj))
          case c2 => simp [Value.oneCell']
          case c3 => unfold maxLen; simp; omega
          case c4 => omega
          case c5 => exact (show Ext w _ from Hx2.out.trans (by repeat' (first | exact Ext.refl _ | assumption | refine Ext.alloc ?_ _ | refine Ext.ext ?_ _ | refine Ext.drew ?_ | refine Ext.drewN ?_ _))).size
          intro v' w1 hown' hgrow _
          have hx3 : Ext w w1 := (Hx2.out.trans (by repeat' (first | exact Ext.refl _ | assumption | refine Ext.alloc ?_ _ | refine Ext.ext ?_ _ | refine Ext.drew ?_ | refine Ext.drewN ?_ _))).grown hgrow (fun j hj => (Hown2.out.lt j hj).1)
          have Hx3 := hid hx3
          have Hown3 := hid hown'
          clear hx3 hgrow hown'
          go_wp2
          go_roundw
          case rel => exact ⟨i + 1, b.length, _, by omega, hjb, by go_num, rfl, by simp; omega, hm'.out, by simpa [Cap.cs, hS] using Hown3.out, Hx3.out⟩
          case measure => simp [intOf]; omega
    · obtain rfl : i = a.length := by omega
      have hm := Hm.out
      rw [List.drop_length, mg_nil_left] at hm
      have r1 := run_from8 p' b.length k cap' hkb
      have r2 := run_fromAt8 p' b.length k cap' hkb
      have hrd := rd_from8 Kr.out hcap k hkb
      have Hrd := hid hrd
      clear hrd
      generalize slc8 p' k b.length cap' = V at *
      go_wp2_with (at_builtin; refine wpList_append_rd _ rfl _ _ 22 rfl w.heap.size 48 i0 (.agg #[.int .i64 0, .int .i64 0, .bool false, .int .i64 0, .int .i64 0, .int .i64 0, .int .i64 0, .string ByteArray.empty]) 8 72 Tryz.underlying22 hi hz0 hz1 hz2 rfl (by decide) _ _ _ rfl (own_ext Hown.out (by repeat' (first | exact Ext.refl _ | assumption | refine Ext.alloc ?_ _ | refine Ext.ext ?_ _ | refine Ext.drew ?_ | refine Ext.drewN ?_ _))) _ (b.length - k) ((b.drop k).flatMap Cap.cs) rfl (Hrd.out.ext (Hx.out.trans (by repeat' (first | exact Ext.refl _ | assumption | refine Ext.alloc ?_ _ | refine Ext.ext ?_ _ | refine Ext.drew ?_ | refine Ext.drewN ?_ _)))) ?c2 ?c3 ?c4 ?c5 ?_)
      case c2 =>
        intro u hu
        obtain ⟨x, -, hx⟩ := List.mem_flatMap.1 hu
        simp only [Cap.cs, List.mem_cons, List.not_mem_nil, or_false] at hx
        rcases hx with rfl | rfl | rfl | rfl | rfl | rfl | rfl | rfl <;> rfl
      case c3 => unfold maxLen; omega
      case c4 => omega
      case c5 => exact (show Ext w _ from Hx.out.trans (by repeat' (first | exact Ext.refl _ | assumption | refine Ext.alloc ?_ _ | refine Ext.ext ?_ _ | refine Ext.drew ?_ | refine Ext.drewN ?_ _))).size
      intro v' w1 hown' hgrow
      have hx3 : Ext w w1 := (Hx.out.trans (by repeat' (first | exact Ext.refl _ | assumption | refine Ext.alloc ?_ _ | refine Ext.ext ?_ _ | refine Ext.drew ?_ | refine Ext.drewN ?_ _))).grown hgrow (fun j hj => (Hown.out.lt j hj).1)
      have Hx3 := hid hx3
      have Hown3 := hid hown'
      clear hx3 hgrow hown'
      go_wp2
      go_ret2
      refine ⟨_, rfl, ?_, Hx3.out⟩
      have e1 : (mg a b).length = a.length + k + (b.length - k) := by rw [← hm, List.length_append, List.length_drop, hP]
      rw [e1, ← hm, List.flatMap_append]
      exact Hown3.out
theorem spec_JoinCaptures (a b : List Cap) (va : Value) (p' : Option Addr) (cap' : Nat) (w : World) (h : Rd w 8 va a.length (a.flatMap Cap.cs)) (k : Rd w 8 (.slice p' b.length cap') b.length (b.flatMap Cap.cs)) (hcap : b.length ≤ cap') (h2 : a.length ≤ 1048576) (k2 : b.length ≤ 1048576) (h3 : Cap.chars a ≤ 1048576) (k3 : Cap.chars b ≤ 1048576) :
    Calls Tryz.prog 26 #[va, .slice p' b.length cap'] w fun e w' => ∃ r, e = .returned (.tuple #[r, .bool (jB a b)]) ∧ w'.ownsRow w.heap.size 48 8 r (jD a b).length ((jD a b).flatMap Cap.cs) ∧ Ext w w' := by
  cases hj : jB a b
  · have hD : jD a b = [] := by rw [jD, hj]; rfl
    rw [hD]
    have Hr := hid h
    have Kr := hid k
    obtain ⟨-, p, cap, rfl, -⟩ := h
    have hg : Hid (∀ w, Rd w 8 (.slice p a.length cap) a.length (a.flatMap Cap.cs) → Calls Tryz.prog 40 #[.slice p a.length cap] w fun e w' => e = .returned (.bool (capB a)) ∧ Ext w w') := fun w h => spec_l25Good a _ w h h2 h3
    have kg : Hid (∀ w, Rd w 8 (.slice p' b.length cap') b.length (b.flatMap Cap.cs) → Calls Tryz.prog 40 #[.slice p' b.length cap'] w fun e w' => e = .returned (.bool (capB b)) ∧ Ext w w') := fun w h => spec_l25Good b _ w h k2 k3
    have ho0 := World.ownsRow_lit (base := w.heap.size) (e := 48) (size := 8) w #[] 0 (Nat.le_refl _) (Nat.zero_le _) rfl
    have Ho0 := hid ho0
    have hle : capB a = true → capB b = true → ¬ a.length + b.length ≤ 10 := fun e1 e2 e3 => by
      rw [jB, e1, e2, Bool.true_and, Bool.true_and, decide_eq_false_iff_not] at hj
      exact hj e3
    clear ho0 k hj hD
    cases e1 : capB a
    · rw [e1] at hg
      clear e1 hle
      go_enter Tryz.func26, Tryz.ntmps26
      repeat (first | (go_wp2_with ((go_at_call 40; (first | (with_reducible refine (hg.out _ (Hr.out.ext (by repeat' (first | exact Ext.refl _ | assumption | refine Ext.alloc ?_ _ | refine Ext.ext ?_ _ | refine Ext.drew ?_ | refine Ext.drewN ?_ _)))).mono ?_) | (with_reducible refine (kg.out _ (Kr.out.ext (by repeat' (first | exact Ext.refl _ | assumption | refine Ext.alloc ?_ _ | refine Ext.ext ?_ _ | refine Ext.drew ?_ | refine Ext.drewN ?_ _)))).mono ?_)); rintro e w1 ⟨rfl, z1, rfl⟩)); refine wp_region_ext (by kernel_rfl) (by kernel_rfl) ?_; (repeat (go_big_quiet_step ((go_at_call 40; first | (with_reducible exact Calls.quiet_ext (hg.out _ (Hr.out.ext (by repeat' (first | exact Ext.refl _ | assumption | refine Ext.alloc ?_ _ | refine Ext.ext ?_ _ | refine Ext.drew ?_ | refine Ext.drewN ?_ _))))) | (with_reducible exact Calls.quiet_ext (kg.out _ (Kr.out.ext (by repeat' (first | exact Ext.refl _ | assumption | refine Ext.alloc ?_ _ | refine Ext.ext ?_ _ | refine Ext.drew ?_ | refine Ext.drewN ?_ _))))))))); refine wpQuiet_nil ?_; rintro _ ⟨zq, rfl⟩))
      go_wp2_with ((go_at_call 40; (first | (with_reducible refine (hg.out _ (Hr.out.ext (by repeat' (first | exact Ext.refl _ | assumption | refine Ext.alloc ?_ _ | refine Ext.ext ?_ _ | refine Ext.drew ?_ | refine Ext.drewN ?_ _)))).mono ?_) | (with_reducible refine (kg.out _ (Kr.out.ext (by repeat' (first | exact Ext.refl _ | assumption | refine Ext.alloc ?_ _ | refine Ext.ext ?_ _ | refine Ext.drew ?_ | refine Ext.drewN ?_ _)))).mono ?_)); rintro e w1 ⟨rfl, z1, rfl⟩))
      go_ret2
      exact ⟨_, rfl, own_ext Ho0.out (by repeat' (first | exact Ext.refl _ | assumption | refine Ext.alloc ?_ _ | refine Ext.ext ?_ _ | refine Ext.drew ?_ | refine Ext.drewN ?_ _)), (by repeat' (first | exact Ext.refl _ | assumption | refine Ext.alloc ?_ _ | refine Ext.ext ?_ _ | refine Ext.drew ?_ | refine Ext.drewN ?_ _))⟩
    · rw [e1] at hg
      cases e2 : capB b
      · rw [e2] at kg
        clear e1 e2 hle
        go_enter Tryz.func26, Tryz.ntmps26
        repeat (first | (go_wp2_with ((go_at_call 40; (first | (with_reducible refine (hg.out _ (Hr.out.ext (by repeat' (first | exact Ext.refl _ | assumption | refine Ext.alloc ?_ _ | refine Ext.ext ?_ _ | refine Ext.drew ?_ | refine Ext.drewN ?_ _)))).mono ?_) | (with_reducible refine (kg.out _ (Kr.out.ext (by repeat' (first | exact Ext.refl _ | assumption | refine Ext.alloc ?_ _ | refine Ext.ext ?_ _ | refine Ext.drew ?_ | refine Ext.drewN ?_ _)))).mono ?_)); rintro e w1 ⟨rfl, z1, rfl⟩)); refine wp_region_ext (by kernel_rfl) (by kernel_rfl) ?_; (repeat (go_big_quiet_step ((go_at_call 40; first | (with_reducible exact Calls.quiet_ext (hg.out _ (Hr.out.ext (by repeat' (first | exact Ext.refl _ | assumption | refine Ext.alloc ?_ _ | refine Ext.ext ?_ _ | refine Ext.drew ?_ | refine Ext.drewN ?_ _))))) | (with_reducible exact Calls.quiet_ext (kg.out _ (Kr.out.ext (by repeat' (first | exact Ext.refl _ | assumption | refine Ext.alloc ?_ _ | refine Ext.ext ?_ _ | refine Ext.drew ?_ | refine Ext.drewN ?_ _))))))))); refine wpQuiet_nil ?_; rintro _ ⟨zq, rfl⟩))
        go_wp2_with ((go_at_call 40; (first | (with_reducible refine (hg.out _ (Hr.out.ext (by repeat' (first | exact Ext.refl _ | assumption | refine Ext.alloc ?_ _ | refine Ext.ext ?_ _ | refine Ext.drew ?_ | refine Ext.drewN ?_ _)))).mono ?_) | (with_reducible refine (kg.out _ (Kr.out.ext (by repeat' (first | exact Ext.refl _ | assumption | refine Ext.alloc ?_ _ | refine Ext.ext ?_ _ | refine Ext.drew ?_ | refine Ext.drewN ?_ _)))).mono ?_)); rintro e w1 ⟨rfl, z1, rfl⟩))
        go_ret2
        exact ⟨_, rfl, own_ext Ho0.out (by repeat' (first | exact Ext.refl _ | assumption | refine Ext.alloc ?_ _ | refine Ext.ext ?_ _ | refine Ext.drew ?_ | refine Ext.drewN ?_ _)), (by repeat' (first | exact Ext.refl _ | assumption | refine Ext.alloc ?_ _ | refine Ext.ext ?_ _ | refine Ext.drew ?_ | refine Ext.drewN ?_ _))⟩
      · rw [e2] at kg
        have hlt := hle e1 e2
        clear e1 e2 hle
        go_enter Tryz.func26, Tryz.ntmps26
        repeat (first | (go_wp2_with ((go_at_call 40; (first | (with_reducible refine (hg.out _ (Hr.out.ext (by repeat' (first | exact Ext.refl _ | assumption | refine Ext.alloc ?_ _ | refine Ext.ext ?_ _ | refine Ext.drew ?_ | refine Ext.drewN ?_ _)))).mono ?_) | (with_reducible refine (kg.out _ (Kr.out.ext (by repeat' (first | exact Ext.refl _ | assumption | refine Ext.alloc ?_ _ | refine Ext.ext ?_ _ | refine Ext.drew ?_ | refine Ext.drewN ?_ _)))).mono ?_)); rintro e w1 ⟨rfl, z1, rfl⟩)); refine wp_region_ext (by kernel_rfl) (by kernel_rfl) ?_; (repeat (go_big_quiet_step ((go_at_call 40; first | (with_reducible exact Calls.quiet_ext (hg.out _ (Hr.out.ext (by repeat' (first | exact Ext.refl _ | assumption | refine Ext.alloc ?_ _ | refine Ext.ext ?_ _ | refine Ext.drew ?_ | refine Ext.drewN ?_ _))))) | (with_reducible exact Calls.quiet_ext (kg.out _ (Kr.out.ext (by repeat' (first | exact Ext.refl _ | assumption | refine Ext.alloc ?_ _ | refine Ext.ext ?_ _ | refine Ext.drew ?_ | refine Ext.drewN ?_ _))))))))); refine wpQuiet_nil ?_; rintro _ ⟨zq, rfl⟩))
        go_wp2_with ((go_at_call 40; (first | (with_reducible refine (hg.out _ (Hr.out.ext (by repeat' (first | exact Ext.refl _ | assumption | refine Ext.alloc ?_ _ | refine Ext.ext ?_ _ | refine Ext.drew ?_ | refine Ext.drewN ?_ _)))).mono ?_) | (with_reducible refine (kg.out _ (Kr.out.ext (by repeat' (first | exact Ext.refl _ | assumption | refine Ext.alloc ?_ _ | refine Ext.ext ?_ _ | refine Ext.drew ?_ | refine Ext.drewN ?_ _)))).mono ?_)); rintro e w1 ⟨rfl, z1, rfl⟩))
        go_ret2
        exact ⟨_, rfl, own_ext Ho0.out (by repeat' (first | exact Ext.refl _ | assumption | refine Ext.alloc ?_ _ | refine Ext.ext ?_ _ | refine Ext.drew ?_ | refine Ext.drewN ?_ _)), (by repeat' (first | exact Ext.refl _ | assumption | refine Ext.alloc ?_ _ | refine Ext.ext ?_ _ | refine Ext.drew ?_ | refine Ext.drewN ?_ _))⟩
  · have hD : jD a b = mg a b := by rw [jD, hj]; rfl
    rw [hD]
    rw [jB, Bool.and_eq_true, Bool.and_eq_true, decide_eq_true_eq] at hj
    exact spec_JoinCaptures_yes a b va p' cap' w h k hcap h3 k3 hj.1 hj.2.1 hj.2.2
end Go.Proofs.YtljknhocfjpolaaGreatDoor
