/- slices.SortStableFunc at short rows of elements, by their ticks. -/
import Derived.Test.YtljknhocfjpolaaGreatDoorJ22
import Derived.Test.YtljknhocfjpolaaGreatDoorKWDelC
import Derived.Deep.RegionHeld3
namespace Go.Proofs.YtljknhocfjpolaaGreatDoor
open Go.RowKit
set_option maxHeartbeats 4000000
set_option maxRecDepth 100000
theorem insTo_one {xs : List Cap} (h : 0 < xs.length) : insTo xs 1 ++ xs.drop 1 = xs := by
  cases xs with
  | nil => simp at h
  | cons x xs => rfl
/-- While it is sorted: the row. -/
def SoW (w wr : World) (base g cap n : Nat) (R : List Cap) : Prop := wr.ownsRow base 48 8 (.slice (some ⟨g, 0, none⟩) n cap) n (R.flatMap Cap.cs) ∧ w.grownBy wr (some g)
theorem SoW.ext {w wr wq : World} {base g cap n : Nat} {R : List Cap} (h : SoW w wr base g cap n R) (hx : Ext wr wq) : SoW w wq base g cap n R := ⟨own_ext h.1 hx, grownBy_trans h.2 (hx.grownBy _)⟩
theorem SoW.at {w wr : World} {base g cap n : Nat} {R : List Cap} (h : SoW w wr base g cap n R) (hn : R.length = n) (i : Nat) (hi : i < n) (t : Nat) (ht : t < 8) : wr.cell? ⟨g, i * 8 + t, none⟩ = (R.getD i .z).cs[t]? ∧ wr.frozen? ⟨g, i * 8 + t, none⟩ = false :=
  ⟨(h.1.cellAt (i * 8 + t) (by omega)).trans (caps_get R i (by omega) t ht), h.1.frozenAt _⟩
theorem SoW.swap {w wr : World} {base g cap n : Nat} {S T : List Cap} {x : Cap} {j : Nat} (h : SoW w wr base g cap n (insAt S x (j + 1) T)) (hj : j + 1 ≤ S.length) (hn : n = S.length + 1 + T.length) :
    SoW w ((wr.setCells g ((j + 1) * 8) (S.getD j .z).cs).setCells g (j * 8) x.cs) base g cap n (insAt S x j T) := by
  have hl : ((insAt S x (j + 1) T).flatMap Cap.cs).length = n * 8 := by rw [caps_len, insAt_len _ _ _ _ hj, hn]
  have s1 := own_setCells (S.getD j .z).cs wr _ ((j + 1) * 8) h.1 (by rw [Cap.len, hl]; omega)
  have s2 := own_setCells x.cs _ _ (j * 8) s1.1 (by rw [Cap.len, List.length_append, List.length_append, List.length_take, List.length_drop, Cap.len, hl]; omega)
  refine ⟨?_, grownBy_trans h.2 (grownBy_trans s1.2 s2.2)⟩
  have := s2.1
  rw [Cap.len, Cap.len, (swap_vals S x j T hj).2] at this
  exact this
theorem slices_insertion_cap (xs : List Cap) (base g cap : Nat) (w : World) (ho : w.ownsRow base 48 8 (.slice (some ⟨g, 0, none⟩) xs.length cap) xs.length (xs.flatMap Cap.cs)) (h0 : 0 < xs.length) (h2 : xs.length ≤ 20) :
    Calls Tryz.prog 127 #[.slice (some ⟨g, 0, none⟩) xs.length cap, .int .i64 0, .int .i64 xs.length, .func (.func 49) #[] #[]] w fun e w' => e = .returned (.tuple #[]) ∧ SoW w w' base g cap xs.length (insTo xs xs.length) := by
  have H0 : Hid (SoW w w base g cap xs.length (insTo xs 1 ++ xs.drop 1)) := ⟨by rw [insTo_one h0]; exact ho, World.grownBy.refl _ _⟩
  clear ho
  go_enter Tryz.func127, Tryz.ntmps127
  go_wp2
  go_loopw [8] (fun v4 wr => ∃ (i : Nat) (yr : World), 1 ≤ i ∧ i ≤ xs.length ∧ v4 = .int .i64 i ∧ yr = wr ∧ Hid (SoW w yr base g cap xs.length (insTo xs i ++ xs.drop i))) (fun v4 _ => xs.length - (intOf v4).toNat)
  case atStart => exact ⟨1, _, Nat.le_refl _, h0, rfl, rfl, H0⟩
  case round =>
    obtain ⟨i, wr, h1, hi, rfl, rfl, H1⟩ := hrel
    by_cases hlt : i < xs.length
    · have H2 : Hid (SoW w wr base g cap xs.length (insAt (insTo xs i) (xs.getD i .z) i (xs.drop (i + 1)))) := by rw [← insAt_start hlt]; exact H1
      have hdone := hid (fun j => insAt_done (xs := xs) (i := i) (j := j))
      have hSl := insTo_len xs i
      have hTl : xs.length = i + 1 + (xs.drop (i + 1)).length := by rw [List.length_drop]; omega
      have HTl := hid hTl
      clear H1 H0 hTl
      generalize hS : insTo xs i = S at *
      generalize hx : xs.getD i .z = x at *
      generalize hT : xs.drop (i + 1) = T at *
      have HT := hid hT
      clear hS hx hT
      go_wp2
      go_loopw [9] (fun v5 wq => ∃ (j : Nat) (yq : World), j ≤ i ∧ v5 = .int .i64 j ∧ yq = wq ∧ Hid (SoW w yq base g cap xs.length (insAt S x j T) ∧ ∀ z ∈ S.drop j, x.t < z.t)) (fun v5 _ => (intOf v5).toNat)
      case atStart => exact ⟨i, _, Nat.le_refl _, rfl, rfl, H2.out, fun z hz => by rw [List.drop_eq_nil_of_le (by omega)] at hz; cases hz⟩
      case round =>
        obtain ⟨j, wq, hj, rfl, rfl, H3⟩ := hrel
        by_cases hj0 : 0 < j
        · obtain ⟨k, hk⟩ : ∃ k, j = k + 1 := ⟨j - 1, by omega⟩
          have hRl : (insAt S x j T).length = xs.length := by rw [insAt_len _ _ _ _ (by omega)]; have := HTl.out; omega
          have ax := fun t (ht : t < 8) => H3.out.1.at hRl j (by have := HTl.out; omega) t ht
          have ay := fun t (ht : t < 8) => H3.out.1.at hRl k (by have := HTl.out; omega) t ht
          have ep : (insAt S x j T).getD k .z = S.getD k .z := by rw [hk]; exact insAt_p S x k T (by omega)
          simp only [insAt_x S x j T (by omega)] at ax
          simp only [ep] at ay
          have Hsw : Hid (∀ wr, SoW w wr base g cap xs.length (insAt S x j T) → SoW w ((wr.setCells g (j * 8) (S.getD k .z).cs).setCells g (k * 8) x.cs) base g cap xs.length (insAt S x k T)) := by
            subst hk
            exact fun wr h => h.swap (by omega) (by have := HTl.out; omega)
          have Hgt : Hid (x.t < (S.getD k .z).t → ∀ z ∈ S.drop k, x.t < z.t) := fun h z hz => by
            have e : S.drop k = S.getD k .z :: S.drop j := by
              rw [hk, List.drop_eq_getElem_cons (by omega), List.getD_eq_getElem?_getD, List.getElem?_eq_getElem (by omega)]; rfl
            rw [e] at hz
            rcases List.mem_cons.1 hz with rfl | hz
            · exact h
            · exact H3.out.2 z hz
          have Hex : Hid (¬ x.t < (S.getD k .z).t → insAt S x j T = insTo xs (i + 1) ++ T) := fun h => hdone.out j hj H3.out.2 (.inr (by rw [hk]; first | exact h | exact Int.not_lt.1 h))
          have w1 : IntKind.i64.wrap ((j : Int) - 1) = (k : Int) := by rw [show (j : Int) - 1 = (k : Int) by omega]; exact IntWalk.i64_in _ (by omega)
          have w2 : (j : Int) - 1 = (k : Int) := by omega
          have n0 : (0 : Int) ≤ (k : Int) := by omega
          have n1 : (k : Int) < (xs.length : Int) := by have := HTl.out; omega
          have n2 : (0 : Int) ≤ (j : Int) := by omega
          have n3 : (j : Int) < (xs.length : Int) := by have := HTl.out; omega
          have n4 : (0 : Int) < (j : Int) := by omega
          have HK := hid hk
          clear ep hRl hk
          generalize hy : S.getD k .z = y at *
          clear hy
          obtain ⟨t, n, u, c, m, r, l, d⟩ := x
          obtain ⟨t', n', u', c', m', r', l', d'⟩ := y
          obtain ⟨a0, f0⟩ := ax 0 (by omega)
          obtain ⟨a1, f1⟩ := ax 1 (by omega)
          obtain ⟨a2, f2⟩ := ax 2 (by omega)
          obtain ⟨a3, f3⟩ := ax 3 (by omega)
          obtain ⟨a4, f4⟩ := ax 4 (by omega)
          obtain ⟨a5, f5⟩ := ax 5 (by omega)
          obtain ⟨a6, f6⟩ := ax 6 (by omega)
          obtain ⟨a7, f7⟩ := ax 7 (by omega)
          obtain ⟨b0, g0⟩ := ay 0 (by omega)
          obtain ⟨b1, g1⟩ := ay 1 (by omega)
          obtain ⟨b2, g2⟩ := ay 2 (by omega)
          obtain ⟨b3, g3⟩ := ay 3 (by omega)
          obtain ⟨b4, g4⟩ := ay 4 (by omega)
          obtain ⟨b5, g5⟩ := ay 5 (by omega)
          obtain ⟨b6, g6⟩ := ay 6 (by omega)
          obtain ⟨b7, g7⟩ := ay 7 (by omega)
          simp only [Cap.cs, List.getElem?_cons_zero, List.getElem?_cons_succ, Nat.add_zero] at a0 a1 a2 a3 a4 a5 a6 a7 b0 b1 b2 b3 b4 b5 b6 b7 f0 g0
          dsimp only at Hgt Hex
          have hc := hid (fun w => impl_byTick t n u c m r l d t' n' u' c' m' r' l' d' w)
          have hcn := compare_neg t t'
          generalize Lib.compareInt t t' = C at hc hcn
          clear ax ay
          by_cases htt : t < t'
          · have tK : decide (C < 0) = true := by rw [decide_eq_true_eq, hcn]; exact htt
            have HH := hid (And.intro (Hgt.out htt) HK.out)
            clear hcn htt Hgt Hex HK hdone
            go_wp2_with fail
            refine wp_region_ext (by kernel_rfl) (by kernel_rfl) ?_
            repeat (go_big_quiet_step ((first | (go_at_call 49; exact Calls.quiet_ext (hc.out _)))))
            refine wpQuiet_nil ?_
            rintro _ ⟨zq, rfl⟩
            have XQ : Ext wq (wq.ext zq) := ⟨zq, rfl⟩
            have H5 := hid (H3.out.1.ext XQ)
            replace a0 := XQ.cell a0
            replace a1 := XQ.cell a1
            replace a2 := XQ.cell a2
            replace a3 := XQ.cell a3
            replace a4 := XQ.cell a4
            replace a5 := XQ.cell a5
            replace a6 := XQ.cell a6
            replace a7 := XQ.cell a7
            replace b0 := XQ.cell b0
            replace b1 := XQ.cell b1
            replace b2 := XQ.cell b2
            replace b3 := XQ.cell b3
            replace b4 := XQ.cell b4
            replace b5 := XQ.cell b5
            replace b6 := XQ.cell b6
            replace b7 := XQ.cell b7
            clear f0 f1 f2 f3 f4 f5 f6 f7 g0 g1 g2 g3 g4 g5 g6 g7 XQ H2
            generalize wq.ext zq = wz at *
            have fz := fun t => H5.out.1.frozenAt t
            have f0 := fz (j * 8)
            have f1 := fz (j * 8 + 1)
            have f2 := fz (j * 8 + 2)
            have f3 := fz (j * 8 + 3)
            have f4 := fz (j * 8 + 4)
            have f5 := fz (j * 8 + 5)
            have f6 := fz (j * 8 + 6)
            have f7 := fz (j * 8 + 7)
            have g0 := fz (k * 8)
            have g1 := fz (k * 8 + 1)
            have g2 := fz (k * 8 + 2)
            have g3 := fz (k * 8 + 3)
            have g4 := fz (k * 8 + 4)
            have g5 := fz (k * 8 + 5)
            have g6 := fz (k * 8 + 6)
            have g7 := fz (k * 8 + 7)
            clear fz
            go_wp2_with fail
            have HW := hid (Hsw.out wz H5.out)
            clear H3 Hsw
            go_region
            go_wp2_with fail
            go_roundw
            case rel => exact ⟨k, _, by have := HH.out.2; omega, by go_num, rfl, hid ⟨HW.out.ext (show Ext _ _ from (Ext.refl _).drew), HH.out.1⟩⟩
            case measure => (simp [intOf]; have := HH.out.2; omega)
          · have tK : decide (C < 0) = false := by rw [decide_eq_false_iff_not, hcn]; exact htt
            have H4 : Hid (SoW w wq base g cap xs.length (insTo xs (i + 1) ++ T)) := by have := H3.out.1; rwa [Hex.out htt] at this
            clear hcn htt Hgt Hex HK hdone
            go_wp2_with fail
            refine wp_region_ext (by kernel_rfl) (by kernel_rfl) ?_
            repeat (go_big_quiet_step ((first | (go_at_call 49; exact Calls.quiet_ext (hc.out _)))))
            refine wpQuiet_nil ?_
            rintro _ ⟨zq, rfl⟩
            have H5 := hid (H4.out.ext (show Ext wq (wq.ext zq) from ⟨zq, rfl⟩))
            go_wp2_with fail
            go_roundw
            case rel => exact ⟨i + 1, _, by omega, by omega, by go_num, rfl, by rw [HT.out]; exact H5⟩
            case measure => (simp [intOf]; omega)
        · obtain rfl : j = 0 := by omega
          have H4 : Hid (SoW w wq base g cap xs.length (insTo xs (i + 1) ++ T)) := by have := H3.out.1; rwa [hdone.out 0 (Nat.zero_le _) H3.out.2 (.inl rfl)] at this
          clear H3 hdone
          go_wp2_with fail
          refine wp_region_ext (by kernel_rfl) (by kernel_rfl) ?_
          repeat (go_big_quiet_step ((first | fail)))
          refine wpQuiet_nil ?_
          rintro _ ⟨zq, rfl⟩
          have H5 := hid (H4.out.ext (show Ext wq (wq.ext zq) from ⟨zq, rfl⟩))
          go_wp2_with fail
          go_roundw
          case rel => exact ⟨i + 1, _, by omega, by omega, by go_num, rfl, by rw [HT.out]; exact H5⟩
          case measure => (simp [intOf]; omega)
    · obtain rfl : i = xs.length := by omega
      have H2 : Hid (SoW w wr base g cap xs.length (insTo xs xs.length)) := by have := H1.out; rwa [List.drop_length, List.append_nil] at this
      go_wp2
      refine bodyPost_end (results_none rfl _ _ _) rfl ?_
      exact ⟨rfl, H2.out⟩
theorem slices_insertion_none (p : Option Addr) (c : Nat) (w : World) :
    Calls Tryz.prog 127 #[.slice p 0 c, .int .i64 0, .int .i64 0, .func (.func 49) #[] #[]] w fun e w' => e = .returned (.tuple #[]) ∧ w = w' := by
  go_enter Tryz.func127, Tryz.ntmps127
  go_wp2
  go_loopw [8] (fun v8 wr => v8 = .int .i64 1 ∧ w = wr) (fun _ _ => 0)
  case atStart => exact ⟨rfl, rfl⟩
  case round =>
    obtain ⟨rfl, rfl⟩ := hrel
    go_wp2
    refine bodyPost_end (results_none rfl _ _ _) rfl ?_
    exact ⟨rfl, rfl⟩
theorem slices_stable_cap (xs : List Cap) (base g cap : Nat) (w : World) (ho : w.ownsRow base 48 8 (.slice (some ⟨g, 0, none⟩) xs.length cap) xs.length (xs.flatMap Cap.cs)) (h0 : 0 < xs.length) (h2 : xs.length ≤ 10) :
    Calls Tryz.prog 106 #[.slice (some ⟨g, 0, none⟩) xs.length cap, .int .i64 xs.length, .func (.func 49) #[] #[]] w fun e w' => e = .returned (.tuple #[]) ∧ SoW w w' base g cap xs.length (insTo xs xs.length) := by
  have hc := hid (slices_insertion_cap xs base g cap w ho h0 (by omega))
  have t0 : decide ((20 : Int) ≤ (xs.length : Int)) = false := by simp; omega
  have t1 : decide ((20 : Int) < (xs.length : Int)) = false := by simp; omega
  clear ho
  go_enter Tryz.func106, Tryz.ntmps106
  go_wp2
  go_loopw [7, 8] (fun v7 v8 wr => v7 = .int .i64 0 ∧ v8 = .int .i64 20 ∧ w = wr) (fun _ _ _ => 0)
  case atStart => exact ⟨rfl, rfl, rfl⟩
  case round =>
    obtain ⟨rfl, rfl, rfl⟩ := hrel
    go_wp2_with fail
    go_at_call 127
    refine (hc.out).mono ?_
    rintro e w1 ⟨rfl, hx⟩
    have Hx := hid hx
    clear hx
    go_wp2
    go_loopw [6, 7, 8] (fun v6 v7 v8 wr => v6 = .int .i64 20 ∧ v7 = .int .i64 0 ∧ v8 = .int .i64 20 ∧ w1 = wr) (fun _ _ _ _ => 0)
    case atStart => exact ⟨rfl, rfl, rfl, rfl⟩
    case round =>
      obtain ⟨rfl, rfl, rfl, rfl⟩ := hrel
      go_wp2
      refine bodyPost_end (results_none rfl _ _ _) rfl ?_
      exact ⟨rfl, Hx.out⟩
theorem slices_stable_none (p : Option Addr) (c : Nat) (w : World) :
    Calls Tryz.prog 106 #[.slice p 0 c, .int .i64 0, .func (.func 49) #[] #[]] w fun e w' => e = .returned (.tuple #[]) ∧ w = w' := by
  have hc := hid (slices_insertion_none p c w)
  go_enter Tryz.func106, Tryz.ntmps106
  go_wp2
  go_loopw [7, 8] (fun v7 v8 wr => v7 = .int .i64 0 ∧ v8 = .int .i64 20 ∧ w = wr) (fun _ _ _ => 0)
  case atStart => exact ⟨rfl, rfl, rfl⟩
  case round =>
    obtain ⟨rfl, rfl, rfl⟩ := hrel
    go_wp2_with fail
    go_at_call 127
    refine (hc.out).mono ?_
    rintro e w1 ⟨rfl, hx⟩
    have Hx := hid hx
    clear hx
    go_wp2
    go_loopw [6, 7, 8] (fun v6 v7 v8 wr => v6 = .int .i64 20 ∧ v7 = .int .i64 0 ∧ v8 = .int .i64 20 ∧ w1 = wr) (fun _ _ _ _ => 0)
    case atStart => exact ⟨rfl, rfl, rfl, rfl⟩
    case round =>
      obtain ⟨rfl, rfl, rfl, rfl⟩ := hrel
      go_wp2
      refine bodyPost_end (results_none rfl _ _ _) rfl ?_
      exact ⟨rfl, Hx.out⟩
theorem slices_SortStable_cap (xs : List Cap) (base n : Nat) (v : Value) (w : World) (ho : w.ownsRow base 48 8 v n (xs.flatMap Cap.cs)) (hn : xs.length = n) (h2 : n ≤ 10) :
    Calls Tryz.prog 67 #[v, .func (.func 49) #[] #[]] w fun e w' => e = .returned (.tuple #[]) ∧ w'.ownsRow base 48 8 v n ((insTo xs n).flatMap Cap.cs) ∧ w.grownBy w' v.ownBlock := by
  subst hn
  by_cases h0 : 0 < xs.length
  · obtain ⟨g, cap, rfl, -⟩ := own_form8 ho h0
    have hc := hid (slices_stable_cap xs base g cap w ho h0 h2)
    clear ho
    go_enter Tryz.func67, Tryz.ntmps67
    go_wp2_with fail
    go_at_call 106
    refine (hc.out).mono ?_
    rintro e w1 ⟨rfl, hx⟩
    have Hx := hid hx
    clear hx
    go_wp2
    refine bodyPost_end (results_none rfl _ _ _) rfl ?_
    exact ⟨rfl, Hx.out.1, Hx.out.2⟩
  · obtain rfl : xs = [] := List.eq_nil_of_length_eq_zero (by omega)
    have Ho := hid ho
    obtain ⟨p, c, rfl⟩ := own_shape ho
    have hc := hid (slices_stable_none p c w)
    clear ho
    go_enter Tryz.func67, Tryz.ntmps67
    go_wp2_with fail
    go_at_call 106
    refine (hc.out).mono ?_
    rintro e w1 ⟨rfl, rfl⟩
    go_wp2
    refine bodyPost_end (results_none rfl _ _ _) rfl ?_
    exact ⟨rfl, Ho.out, World.grownBy.refl _ _⟩
end Go.Proofs.YtljknhocfjpolaaGreatDoor
