/- Fragment: the laws' helpers (written by flatgen.py). -/
import Derived.Test.YtodabmhcmnblnaaDoorWStrS
import Derived.Test.YtodabmhcmnblnaaDoorWMark
namespace Go.Proofs.YtodabmhcmnblnaaDoor
open Go.RowKit
set_option maxHeartbeats 1000000
set_option maxRecDepth 100000
structure Fra where
  n : Int
  p : Int
  q : Int
  d : ByteArray
def Fra.cs (x : Fra) : List Value := [.int .i64 x.n, .int .i64 x.p, .int .i64 x.q, .string x.d]
def Fra.z : Fra := ⟨0, 0, 0, ByteArray.empty⟩
theorem Fra.len (x : Fra) : x.cs.length = 4 := rfl
theorem fras_len (xs : List Fra) : (xs.flatMap Fra.cs).length = xs.length * 4 := flat_len _ 4 Fra.len xs
theorem fras_get (xs : List Fra) (i : Nat) (h : i < xs.length) (j : Nat) (hj : j < 4) : (xs.flatMap Fra.cs)[i * 4 + j]? = (xs.getD i .z).cs[j]? := flat_get _ _ 4 Fra.len xs i j h hj
theorem Fra.at {w : World} {b off : Nat} (xs : List Fra) (h : ∀ j (h : j < (xs.flatMap Fra.cs).length), w.cell? ⟨b, off + j, none⟩ = some (xs.flatMap Fra.cs)[j]) (i : Nat) (hi : i < xs.length) :
    w.cell? ⟨b, off + i * 4, none⟩ = some (.int .i64 (xs.getD i .z).n) ∧
    w.cell? ⟨b, off + i * 4 + 1, none⟩ = some (.int .i64 (xs.getD i .z).p) ∧
    w.cell? ⟨b, off + i * 4 + 2, none⟩ = some (.int .i64 (xs.getD i .z).q) ∧
    w.cell? ⟨b, off + i * 4 + 3, none⟩ = some (.string (xs.getD i .z).d) :=
  ⟨flat_cell Fra.cs .z 4 Fra.len xs h i 0 hi (by omega), flat_cell Fra.cs .z 4 Fra.len xs h i 1 hi (by omega), flat_cell Fra.cs .z 4 Fra.len xs h i 2 hi (by omega), flat_cell Fra.cs .z 4 Fra.len xs h i 3 hi (by omega)⟩
theorem laws_toFragment (n : Int) (p : Int) (q : Int) (d : ByteArray) (w : World) : Calls Tryd.prog 14 #[.agg #[.int .i64 n, .int .i64 p, .int .i64 q, .string d]] w fun e w' => e = .returned (.agg #[.int .i64 n, .int .i64 p, .int .i64 q, .string d]) ∧ Ext w w' := by
  go_enter Tryd.func14, Tryd.ntmps14
  go_wp2
  go_returns
  exact ⟨rfl, (by repeat' (first | exact Ext.refl _ | assumption | refine Ext.alloc ?_ _ | refine Ext.ext ?_ _ | refine Ext.drew ?_ | refine Ext.drewN ?_ _))⟩
theorem laws_szFragment (n : Int) (p : Int) (q : Int) (d : ByteArray) (left : Int) (w : World) (h : (d.size : Int) ≤ left) (h1 : left ≤ 1048576) : Calls Tryd.prog 12 #[.agg #[.int .i64 n, .int .i64 p, .int .i64 q, .string d], .int .i64 left] w fun e w' => e = .returned (.int .i64 (left - d.size)) ∧ Ext w w' := by
  have w1 : IntKind.i64.wrap (left - (d.size : Int)) = left - d.size := IntWalk.i64_in _ (by omega)
  have t1 : decide (left - (d.size : Int) < 0) = false := by simp; omega
  go_enter Tryd.func12, Tryd.ntmps12
  go_wp2
  go_ret
  exact ⟨rfl, (by repeat' (first | exact Ext.refl _ | assumption | refine Ext.alloc ?_ _ | refine Ext.ext ?_ _ | refine Ext.drew ?_ | refine Ext.drewN ?_ _))⟩
theorem laws_szFragment_big (n : Int) (p : Int) (q : Int) (d : ByteArray) (left : Int) (w : World) (h : left < d.size) (h1 : 0 ≤ left ∧ left ≤ 1048576 ∧ d.size ≤ maxLen) : Calls Tryd.prog 12 #[.agg #[.int .i64 n, .int .i64 p, .int .i64 q, .string d], .int .i64 left] w fun e w' => e = .returned (.int .i64 (-1)) ∧ Ext w w' := by
  obtain ⟨h2, h3, h4⟩ := h1
  unfold maxLen at h4
  have w1 : IntKind.i64.wrap (left - (d.size : Int)) = left - d.size := IntWalk.i64_in _ (by omega)
  have t1 : decide (left - (d.size : Int) < 0) = true := by simp; omega
  go_enter Tryd.func12, Tryd.ntmps12
  go_wp2
  go_ret
  exact ⟨rfl, (by repeat' (first | exact Ext.refl _ | assumption | refine Ext.alloc ?_ _ | refine Ext.ext ?_ _ | refine Ext.drew ?_ | refine Ext.drewN ?_ _))⟩
def Fra.chars (xs : List Fra) : Nat := (xs.map (fun x => x.d.size)).sum
theorem Fra.chars_take (xs : List Fra) (k : Nat) (h : k < xs.length) : Fra.chars (xs.take (k + 1)) = Fra.chars (xs.take k) + (xs.getD k .z).d.size := by
  rw [take_snoc xs .z k h]
  simp [Fra.chars]
theorem Fra.chars_le (xs : List Fra) (k : Nat) : Fra.chars (xs.take k) ≤ Fra.chars xs := by
  have : Fra.chars xs = Fra.chars (xs.take k) + Fra.chars (xs.drop k) := by
    unfold Fra.chars
    rw [← List.sum_append, ← List.map_append, List.take_append_drop]
  omega
theorem Fra.size_of {xs : List Fra} (h2 : Fra.chars xs ≤ 1048576) {k : Nat} (hk : k < xs.length) : (xs.getD k .z).d.size ≤ 1048576 := by
  have h1 := Fra.chars_take xs k hk
  have h3 := Fra.chars_le xs (k + 1)
  omega
theorem infoFra : (Tryd.prog.info? 26).map (fun i => (i.zero, i.size, i.bytes)) = some (some (.agg #[.int .i64 0, .int .i64 0, .int .i64 0, .string ByteArray.empty]), 4, 40) := by kernel_rfl
theorem laws_eqFragment (n : Int) (p : Int) (q : Int) (d : ByteArray) (w : World) : Calls Tryd.prog 48 #[.agg #[.int .i64 n, .int .i64 p, .int .i64 q, .string d], .agg #[.int .i64 n, .int .i64 p, .int .i64 q, .string d]] w fun e w' => e = .returned (.bool true) ∧ Ext w w' := by
  go_enter Tryd.func48, Tryd.ntmps48
  repeat (first | (go_wp2; refine wp_region_ext (by kernel_rfl) (by kernel_rfl) ?_; (repeat (go_big_quiet_step (fail))); refine wpQuiet_nil ?_; rintro _ ⟨zq, rfl⟩))
  go_wp2
  go_ret
  exact ⟨rfl, (by repeat' (first | exact Ext.refl _ | assumption | refine Ext.alloc ?_ _ | refine Ext.ext ?_ _ | refine Ext.drew ?_ | refine Ext.drewN ?_ _))⟩
theorem laws_eqFragmentS (xs : List Fra) (v u : Value) (w : World) (hv : Rd w 4 v xs.length (xs.flatMap Fra.cs)) (hu : Rd w 4 u xs.length (xs.flatMap Fra.cs)) (hn : xs.length ≤ 1048576) :
    Calls Tryd.prog 18 #[v, u] w fun e w' => e = .returned (.bool true) ∧ Ext w w' := by
  obtain ⟨h1, p, cap, rfl, h4⟩ := hv
  obtain ⟨h1', p', cap', rfl, h4'⟩ := hu
  clear h1 h1'
  have H4 := hid h4; clear h4
  have H4' := hid h4'; clear h4'
  go_enter Tryd.func18, Tryd.ntmps18
  go_wp2
  go_loopw [5] (fun v5 wr => ∃ (k : Nat), k ≤ xs.length ∧ v5 = .int .i64 k ∧ Ext w wr) (fun v5 _ => xs.length - (intOf v5).toNat)
  case atStart => exact ⟨0, Nat.zero_le _, rfl, Ext.refl _⟩
  case round =>
    obtain ⟨k, hk, rfl, z, rfl⟩ := hrel
    by_cases hlt : k < xs.length
    · obtain ⟨b, off, rfl, h6⟩ := H4.out.resolve_left (by omega)
      obtain ⟨b', off', rfl, h6'⟩ := H4'.out.resolve_left (by omega)
      obtain ⟨c0, c1, c2, c3⟩ := Fra.at xs h6 k hlt
      obtain ⟨e0, e1, e2, e3⟩ := Fra.at xs h6' k hlt
      generalize xs.getD k .z = d at c0 e0 c1 e1 c2 e2 c3 e3
      have H6 := hid h6; clear h6
      have H6' := hid h6'; clear h6'
      go_wp2
      refine wp_region_ext (by kernel_rfl) (by kernel_rfl) ?_
      repeat (go_big_quiet_step ((first | (go_at_call 48; exact Calls.quiet_ext (laws_eqFragment _ _ _ _ _)))))
      refine wpQuiet_nil ?_
      rintro _ ⟨zq, rfl⟩
      go_wp2
      go_roundw
      case rel => exact ⟨k + 1, by omega, by go_num, ((Ext.refl _).ext _).ext _⟩
      case measure => simp [intOf]; omega
    · go_wp2
      go_ret
      exact ⟨rfl, (Ext.refl _).ext _⟩
def mkFra (n : Nat) (k0 : Int) : List Fra := (List.range n).map (fun i : Nat => ⟨k0 + 4 * (i : Int), k0 + 4 * (i : Int) + 1, k0 + 4 * (i : Int) + 1 + 1, mtext (k0 + 4 * (i : Int) + 1 + 1 + 1)⟩)
theorem mkFra_len (n : Nat) (k0 : Int) : (mkFra n k0).length = n := by simp [mkFra]
theorem mkFra_at (n : Nat) (k0 : Int) (i : Nat) (h : i < n) : (mkFra n k0).getD i .z = ⟨k0 + 4 * (i : Int), k0 + 4 * (i : Int) + 1, k0 + 4 * (i : Int) + 1 + 1, mtext (k0 + 4 * (i : Int) + 1 + 1 + 1)⟩ := by
  rw [List.getD_eq_getElem?_getD, mkFra, List.getElem?_map, List.getElem?_range h]; rfl
theorem laws_markFragmentS (n : Nat) (cs : List Value) (v : Value) (k0 : Int) (w : World) (B : Nat) (ho : w.ownsRow B 26 4 v n cs) (hn : n ≤ 1048576) (hk0 : 0 < k0) (hk1 : k0 ≤ 1073741824) :
    Calls Tryd.prog 19 #[v, .int .i64 k0] w fun e w' => e = .returned (.int .i64 (k0 + 4 * n)) ∧ w'.ownsRow B 26 4 v n ((mkFra n k0).flatMap Fra.cs) ∧ w.grownBy w' v.ownBlock := by
  have ho' := ho
  obtain ⟨h1, ⟨rfl, rfl⟩ | ⟨g, cap, cur, rfl, hB, _⟩⟩ := ho
  · go_enter Tryd.func19, Tryd.ntmps19
    go_wp2
    refine wp_loop_rounds 1 ?_
    rw [rounds_succ]
    go_wp2
    go_ret
    exact ⟨by simp, World.ownsRow_nil _ _ _ _, (Ext.refl w).grownBy _⟩
  · clear h1 hB
    have Ho := hid ho'; clear ho'
    go_enter Tryd.func19, Tryd.ntmps19
    go_wp2
    go_loopw [5, 1] (fun v5 v1 wr => ∃ (k : Nat) (L : List Value), k ≤ n ∧ v5 = .int .i64 k ∧ v1 = .int .i64 (k0 + 4 * k) ∧ wr.ownsRow B 26 4 (.slice (some ⟨g, 0, none⟩) n cap) n L ∧ Agree L ((mkFra n k0).flatMap Fra.cs) (k * 4) ∧ w.grownBy wr (some g)) (fun v5 _ _ => n - (intOf v5).toNat)
    case atStart => exact ⟨0, cs, Nat.zero_le _, rfl, by simp, Ho.out, Agree.zero (by rw [fras_len, mkFra_len]; exact Ho.out.1), (Ext.refl w).grownBy _⟩
    case round =>
      obtain ⟨k, L, hk, rfl, rfl, hown, hag, hg⟩ := hrel
      have Hag := hid hag; clear hag
      have Hg := hid hg; clear hg
      by_cases hlt : k < n
      · have hb := (own_size hown).2
        obtain ⟨⟨u0, e0⟩, f0⟩ := own_cell hown (k * 4) (by omega)
        obtain ⟨⟨u1, e1⟩, f1⟩ := own_cell hown (k * 4 + 1) (by omega)
        obtain ⟨⟨u2, e2⟩, f2⟩ := own_cell hown (k * 4 + 2) (by omega)
        obtain ⟨⟨u3, e3⟩, f3⟩ := own_cell hown (k * 4 + 3) (by omega)
        have g0 := fras_get (mkFra n k0) k (by rw [mkFra_len]; exact hlt) 0 (by omega)
        rw [mkFra_at n k0 k hlt] at g0
        have g1 := fras_get (mkFra n k0) k (by rw [mkFra_len]; exact hlt) 1 (by omega)
        rw [mkFra_at n k0 k hlt] at g1
        have g2 := fras_get (mkFra n k0) k (by rw [mkFra_len]; exact hlt) 2 (by omega)
        rw [mkFra_at n k0 k hlt] at g2
        have g3 := fras_get (mkFra n k0) k (by rw [mkFra_len]; exact hlt) 3 (by omega)
        rw [mkFra_at n k0 k hlt] at g3
        have G := hid (And.intro g0 (And.intro g1 (And.intro g2 g3)))
        clear g0 g1 g2 g3
        have hm3 := hid (fun w => laws_mtext (k0 + 4 * (k : Int) + 1 + 1 + 1) w (by omega) (by omega))
        go_wp2_with (first | (go_at_call 59; (with_reducible refine (hm3.out _).mono ?_); rintro e w' ⟨rfl, z3, rfl⟩))
        go_roundw
        case rel =>
          obtain ⟨g0, g1, g2, g3⟩ := G.out
          have s0 := World.ownsRow.stored hown (k * 4) (.int .i64 (k0 + 4 * (k : Int)))
          have s1 := World.ownsRow.stored s0.1 (k * 4 + 1) (.int .i64 (k0 + 4 * (k : Int) + 1))
          have s2 := World.ownsRow.stored s1.1 (k * 4 + 2) (.int .i64 (k0 + 4 * (k : Int) + 1 + 1))
          have o3 := own_ext s2.1 (show Ext _ _ from (Ext.refl _).ext z3)
          have s3 := World.ownsRow.stored o3 (k * 4 + 3) (.string (mtext (k0 + 4 * (k : Int) + 1 + 1 + 1)))
          refine ⟨k + 1, _, by omega, by go_num, by go_num, s3.1, ?_, grownBy_trans Hg.out (grownBy_trans (grownBy_trans (grownBy_trans (grownBy_trans s0.2 s1.2) s2.2) (Ext.grownBy (show Ext _ _ from (Ext.refl _).ext z3) (some g))) s3.2)⟩
          rw [show (k + 1) * 4 = k * 4 + 1 + 1 + 1 + 1 by omega]
          exact (((Hag.out.set g0).set g1).set g2).set g3
        case measure => simp [intOf]; omega
      · have hL : L = (mkFra n k0).flatMap Fra.cs := Hag.out.all' (by rw [fras_len, mkFra_len]; omega)
        subst hL
        obtain rfl : k = n := by omega
        go_wp2
        go_ret
        exact ⟨rfl, hown, Hg.out⟩
theorem laws_heldFragmentS (n : Nat) (v : Value) (k0 : Int) (w : World) (hv : Rd w 4 v n ((mkFra n k0).flatMap Fra.cs)) (hn : n ≤ 1048576) (hk0 : 0 < k0) (hk1 : k0 ≤ 1073741824) :
    Calls Tryd.prog 20 #[v, .int .i64 k0] w fun e w' => e = .returned (.int .i64 (k0 + 4 * n)) ∧ Ext w w' := by
  obtain ⟨h1, p, cap, rfl, h4⟩ := hv
  clear h1
  have H4 := hid h4; clear h4
  go_enter Tryd.func20, Tryd.ntmps20
  go_wp2
  go_loopw [5, 1] (fun v5 v1 wr => ∃ (k : Nat), k ≤ n ∧ v5 = .int .i64 k ∧ v1 = .int .i64 (k0 + 4 * k) ∧ Ext w wr) (fun v5 _ _ => n - (intOf v5).toNat)
  case atStart => exact ⟨0, Nat.zero_le _, rfl, by simp, Ext.refl _⟩
  case round =>
    obtain ⟨k, hk, rfl, rfl, z, rfl⟩ := hrel
    by_cases hlt : k < n
    · obtain ⟨b, off, rfl, h6⟩ := H4.out.resolve_left (by omega)
      obtain ⟨c0, c1, c2, c3⟩ := Fra.at _ h6 k (by rw [mkFra_len]; exact hlt)
      rw [mkFra_at n k0 k hlt] at c0 c1 c2 c3
      dsimp only at c0 c1 c2 c3
      have H6 := hid h6; clear h6
      have hm3 := hid (fun w => laws_mtext (k0 + 4 * (k : Int) + 1 + 1 + 1) w (by omega) (by omega))
      repeat (first | (go_wp2_with fail; refine wp_region_ext (by kernel_rfl) (by kernel_rfl) ?_; (repeat (go_big_quiet_step (first | (go_at_call 59; exact Calls.quiet_ext (hm3.out _))))); refine wpQuiet_nil ?_; rintro _ ⟨zq, rfl⟩))
      go_wp2
      go_roundw
      case rel => exact ⟨k + 1, by omega, by go_num, by go_num, (by repeat' (first | exact Ext.refl _ | assumption | refine Ext.alloc ?_ _ | refine Ext.ext ?_ _ | refine Ext.drew ?_ | refine Ext.drewN ?_ _))⟩
      case measure => simp [intOf]; omega
    · obtain rfl : k = n := by omega
      go_wp2
      go_ret
      exact ⟨rfl, (Ext.refl _).ext _⟩
end Go.Proofs.YtodabmhcmnblnaaDoor
