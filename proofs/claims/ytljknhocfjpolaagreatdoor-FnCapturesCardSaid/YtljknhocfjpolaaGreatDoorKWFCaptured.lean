/- Captured: the laws' helpers (written by flatgen.py). -/
import Derived.Test.YtljknhocfjpolaaGreatDoorJ6
namespace Go.Proofs.YtljknhocfjpolaaGreatDoor
open Go.RowKit
set_option maxHeartbeats 1000000
set_option maxRecDepth 100000
structure Cap where
  t : Int
  n : Int
  u : Bool
  c : Int
  m : Int
  r : Int
  l : Int
  d : ByteArray
def Cap.cs (x : Cap) : List Value := [.int .i64 x.t, .int .i64 x.n, .bool x.u, .int .i64 x.c, .int .i64 x.m, .int .i64 x.r, .int .i64 x.l, .string x.d]
def Cap.z : Cap := ⟨0, 0, false, 0, 0, 0, 0, ByteArray.empty⟩
theorem Cap.len (x : Cap) : x.cs.length = 8 := rfl
theorem caps_len (xs : List Cap) : (xs.flatMap Cap.cs).length = xs.length * 8 := flat_len _ 8 Cap.len xs
theorem caps_get (xs : List Cap) (i : Nat) (h : i < xs.length) (j : Nat) (hj : j < 8) : (xs.flatMap Cap.cs)[i * 8 + j]? = (xs.getD i .z).cs[j]? := flat_get _ _ 8 Cap.len xs i j h hj
theorem Cap.at {w : World} {b off : Nat} (xs : List Cap) (h : ∀ j (h : j < (xs.flatMap Cap.cs).length), w.cell? ⟨b, off + j, none⟩ = some (xs.flatMap Cap.cs)[j]) (i : Nat) (hi : i < xs.length) :
    w.cell? ⟨b, off + i * 8, none⟩ = some (.int .i64 (xs.getD i .z).t) ∧
    w.cell? ⟨b, off + i * 8 + 1, none⟩ = some (.int .i64 (xs.getD i .z).n) ∧
    w.cell? ⟨b, off + i * 8 + 2, none⟩ = some (.bool (xs.getD i .z).u) ∧
    w.cell? ⟨b, off + i * 8 + 3, none⟩ = some (.int .i64 (xs.getD i .z).c) ∧
    w.cell? ⟨b, off + i * 8 + 4, none⟩ = some (.int .i64 (xs.getD i .z).m) ∧
    w.cell? ⟨b, off + i * 8 + 5, none⟩ = some (.int .i64 (xs.getD i .z).r) ∧
    w.cell? ⟨b, off + i * 8 + 6, none⟩ = some (.int .i64 (xs.getD i .z).l) ∧
    w.cell? ⟨b, off + i * 8 + 7, none⟩ = some (.string (xs.getD i .z).d) :=
  ⟨flat_cell Cap.cs .z 8 Cap.len xs h i 0 hi (by omega), flat_cell Cap.cs .z 8 Cap.len xs h i 1 hi (by omega), flat_cell Cap.cs .z 8 Cap.len xs h i 2 hi (by omega), flat_cell Cap.cs .z 8 Cap.len xs h i 3 hi (by omega), flat_cell Cap.cs .z 8 Cap.len xs h i 4 hi (by omega), flat_cell Cap.cs .z 8 Cap.len xs h i 5 hi (by omega), flat_cell Cap.cs .z 8 Cap.len xs h i 6 hi (by omega), flat_cell Cap.cs .z 8 Cap.len xs h i 7 hi (by omega)⟩
theorem Cap.atn {w : World} {b off : Nat} (xs : List Cap) (h : ∀ j (h : j < (xs.flatMap Cap.cs).length), w.cell? ⟨b, off + j, none⟩ = some (xs.flatMap Cap.cs)[j]) (i : Nat) (hi : i < xs.length) :
    w.cell? ⟨b, off + i * 8, none⟩ = some (.int .i64 (xs.getD i .z).t) ∧
    w.cell? ⟨b, off + i * 8 + 1, none⟩ = some (.int .i64 (xs.getD i .z).n) ∧
    w.cell? ⟨b, off + i * 8 + 2, none⟩ = some (.bool (xs.getD i .z).u) ∧
    w.cell? ⟨b, off + i * 8 + 3, none⟩ = some (.int .i64 (xs.getD i .z).c) ∧
    w.cell? ⟨b, off + i * 8 + 3 + 1, none⟩ = some (.int .i64 (xs.getD i .z).m) ∧
    w.cell? ⟨b, off + i * 8 + 3 + 2, none⟩ = some (.int .i64 (xs.getD i .z).r) ∧
    w.cell? ⟨b, off + i * 8 + 3 + 3, none⟩ = some (.int .i64 (xs.getD i .z).l) ∧
    w.cell? ⟨b, off + i * 8 + 3 + 4, none⟩ = some (.string (xs.getD i .z).d) :=
  ⟨flat_cell Cap.cs .z 8 Cap.len xs h i 0 hi (by omega), flat_cell Cap.cs .z 8 Cap.len xs h i 1 hi (by omega), flat_cell Cap.cs .z 8 Cap.len xs h i 2 hi (by omega), flat_cell Cap.cs .z 8 Cap.len xs h i 3 hi (by omega), flat_cell Cap.cs .z 8 Cap.len xs h i 4 hi (by omega), flat_cell Cap.cs .z 8 Cap.len xs h i 5 hi (by omega), flat_cell Cap.cs .z 8 Cap.len xs h i 6 hi (by omega), flat_cell Cap.cs .z 8 Cap.len xs h i 7 hi (by omega)⟩
def Cap.chars (xs : List Cap) : Nat := (xs.map (fun x => x.d.size)).sum
theorem Cap.chars_take (xs : List Cap) (k : Nat) (h : k < xs.length) : Cap.chars (xs.take (k + 1)) = Cap.chars (xs.take k) + (xs.getD k .z).d.size := by
  rw [take_snoc xs .z k h]
  simp [Cap.chars]
theorem Cap.chars_le (xs : List Cap) (k : Nat) : Cap.chars (xs.take k) ≤ Cap.chars xs := by
  have : Cap.chars xs = Cap.chars (xs.take k) + Cap.chars (xs.drop k) := by
    unfold Cap.chars
    rw [← List.sum_append, ← List.map_append, List.take_append_drop]
  omega
theorem Cap.size_of {xs : List Cap} (h2 : Cap.chars xs ≤ 1048576) {k : Nat} (hk : k < xs.length) : (xs.getD k .z).d.size ≤ 1048576 := by
  have h1 := Cap.chars_take xs k hk
  have h3 := Cap.chars_le xs (k + 1)
  omega
theorem infoCap : (Tryz.prog.info? 48).map (fun i => (i.zero, i.size, i.bytes)) = some (some (.agg #[.int .i64 0, .int .i64 0, .bool false, .int .i64 0, .int .i64 0, .int .i64 0, .int .i64 0, .string ByteArray.empty]), 8, 72) := by kernel_rfl
theorem laws_eqPacket (c : Int) (m : Int) (r : Int) (l : Int) (d : ByteArray) (w : World) : Calls Tryz.prog 92 #[.agg #[.int .i64 c, .int .i64 m, .int .i64 r, .int .i64 l, .string d], .agg #[.int .i64 c, .int .i64 m, .int .i64 r, .int .i64 l, .string d]] w fun e w' => e = .returned (.bool true) ∧ Ext w w' := by
  go_enter Tryz.func92, Tryz.ntmps92
  repeat (first | (go_wp2; refine wp_region_ext (by kernel_rfl) (by kernel_rfl) ?_; (repeat (go_big_quiet_step (fail))); refine wpQuiet_nil ?_; rintro _ ⟨zq, rfl⟩))
  go_wp2
  go_ret
  exact ⟨rfl, (by repeat' (first | exact Ext.refl _ | assumption | refine Ext.alloc ?_ _ | refine Ext.ext ?_ _ | refine Ext.drew ?_ | refine Ext.drewN ?_ _))⟩
theorem laws_eqCaptured (t : Int) (n : Int) (u : Bool) (c : Int) (m : Int) (r : Int) (l : Int) (d : ByteArray) (w : World) : Calls Tryz.prog 44 #[.agg #[.int .i64 t, .int .i64 n, .bool u, .int .i64 c, .int .i64 m, .int .i64 r, .int .i64 l, .string d], .agg #[.int .i64 t, .int .i64 n, .bool u, .int .i64 c, .int .i64 m, .int .i64 r, .int .i64 l, .string d]] w fun e w' => e = .returned (.bool true) ∧ Ext w w' := by
  go_enter Tryz.func44, Tryz.ntmps44
  repeat (first | (go_wp2; refine wp_region_ext (by kernel_rfl) (by kernel_rfl) ?_; (repeat (go_big_quiet_step ((go_at_call 92; exact Calls.quiet_ext (laws_eqPacket _ _ _ _ _ _))))); refine wpQuiet_nil ?_; rintro _ ⟨zq, rfl⟩))
  go_wp2
  go_ret
  exact ⟨rfl, (by repeat' (first | exact Ext.refl _ | assumption | refine Ext.alloc ?_ _ | refine Ext.ext ?_ _ | refine Ext.drew ?_ | refine Ext.drewN ?_ _))⟩
theorem laws_eqCapturedS (xs : List Cap) (v u : Value) (w : World) (hv : Rd w 8 v xs.length (xs.flatMap Cap.cs)) (hu : Rd w 8 u xs.length (xs.flatMap Cap.cs)) (hn : xs.length ≤ 1048576) :
    Calls Tryz.prog 8 #[v, u] w fun e w' => e = .returned (.bool true) ∧ Ext w w' := by
  obtain ⟨h1, p, cap, rfl, h4⟩ := hv
  obtain ⟨h1', p', cap', rfl, h4'⟩ := hu
  clear h1 h1'
  have H4 := hid h4; clear h4
  have H4' := hid h4'; clear h4'
  go_enter Tryz.func8, Tryz.ntmps8
  go_wp2
  go_loopw [5] (fun v5 wr => ∃ (k : Nat), k ≤ xs.length ∧ v5 = .int .i64 k ∧ Ext w wr) (fun v5 _ => xs.length - (intOf v5).toNat)
  case atStart => exact ⟨0, Nat.zero_le _, rfl, Ext.refl _⟩
  case round =>
    obtain ⟨k, hk, rfl, z, rfl⟩ := hrel
    by_cases hlt : k < xs.length
    · obtain ⟨b, off, rfl, h6⟩ := H4.out.resolve_left (by omega)
      obtain ⟨b', off', rfl, h6'⟩ := H4'.out.resolve_left (by omega)
      obtain ⟨c0, c1, c2, c3, c4, c5, c6, c7⟩ := Cap.at xs h6 k hlt
      obtain ⟨e0, e1, e2, e3, e4, e5, e6, e7⟩ := Cap.at xs h6' k hlt
      generalize xs.getD k .z = d at c0 e0 c1 e1 c2 e2 c3 e3 c4 e4 c5 e5 c6 e6 c7 e7
      have H6 := hid h6; clear h6
      have H6' := hid h6'; clear h6'
      go_wp2
      refine wp_region_ext (by kernel_rfl) (by kernel_rfl) ?_
      repeat (go_big_quiet_step ((first | (go_at_call 44; exact Calls.quiet_ext (laws_eqCaptured _ _ _ _ _ _ _ _ _)))))
      refine wpQuiet_nil ?_
      rintro _ ⟨zq, rfl⟩
      go_wp2
      go_roundw
      case rel => exact ⟨k + 1, by omega, by go_num, ((Ext.refl _).ext _).ext _⟩
      case measure => simp [intOf]; omega
    · go_wp2
      go_ret
      exact ⟨rfl, (Ext.refl _).ext _⟩
def mkCap (n : Nat) (k0 : Int) : List Cap := (List.range n).map (fun i : Nat => ⟨k0 + 8 * (i : Int), k0 + 8 * (i : Int) + 1, (k0 + 8 * (i : Int) + 1 + 1) % 3 == 0, k0 + 8 * (i : Int) + 1 + 1 + 1, k0 + 8 * (i : Int) + 1 + 1 + 1 + 1, k0 + 8 * (i : Int) + 1 + 1 + 1 + 1 + 1, k0 + 8 * (i : Int) + 1 + 1 + 1 + 1 + 1 + 1, mtext (k0 + 8 * (i : Int) + 1 + 1 + 1 + 1 + 1 + 1 + 1)⟩)
theorem mkCap_len (n : Nat) (k0 : Int) : (mkCap n k0).length = n := by simp [mkCap]
theorem mkCap_at (n : Nat) (k0 : Int) (i : Nat) (h : i < n) : (mkCap n k0).getD i .z = ⟨k0 + 8 * (i : Int), k0 + 8 * (i : Int) + 1, (k0 + 8 * (i : Int) + 1 + 1) % 3 == 0, k0 + 8 * (i : Int) + 1 + 1 + 1, k0 + 8 * (i : Int) + 1 + 1 + 1 + 1, k0 + 8 * (i : Int) + 1 + 1 + 1 + 1 + 1, k0 + 8 * (i : Int) + 1 + 1 + 1 + 1 + 1 + 1, mtext (k0 + 8 * (i : Int) + 1 + 1 + 1 + 1 + 1 + 1 + 1)⟩ := by
  rw [List.getD_eq_getElem?_getD, mkCap, List.getElem?_map, List.getElem?_range h]; rfl
theorem laws_markCapturedS (n : Nat) (cs : List Value) (v : Value) (k0 : Int) (w : World) (B : Nat) (ho : w.ownsRow B 48 8 v n cs) (hn : n ≤ 1048576) (hk0 : 0 < k0) (hk1 : k0 ≤ 1073741824) :
    Calls Tryz.prog 9 #[v, .int .i64 k0] w fun e w' => e = .returned (.int .i64 (k0 + 8 * n)) ∧ w'.ownsRow B 48 8 v n ((mkCap n k0).flatMap Cap.cs) ∧ w.grownBy w' v.ownBlock := by
  have ho' := ho
  obtain ⟨h1, ⟨rfl, rfl⟩ | ⟨g, cap, cur, rfl, hB, _⟩⟩ := ho
  · go_enter Tryz.func9, Tryz.ntmps9
    go_wp2
    refine wp_loop_rounds 1 ?_
    rw [rounds_succ]
    go_wp2
    go_ret
    exact ⟨by simp, World.ownsRow_nil _ _ _ _, (Ext.refl w).grownBy _⟩
  · clear h1 hB
    have Ho := hid ho'; clear ho'
    go_enter Tryz.func9, Tryz.ntmps9
    go_wp2
    go_loopw [5, 1] (fun v5 v1 wr => ∃ (k : Nat) (L : List Value), k ≤ n ∧ v5 = .int .i64 k ∧ v1 = .int .i64 (k0 + 8 * k) ∧ wr.ownsRow B 48 8 (.slice (some ⟨g, 0, none⟩) n cap) n L ∧ Agree L ((mkCap n k0).flatMap Cap.cs) (k * 8) ∧ w.grownBy wr (some g)) (fun v5 _ _ => n - (intOf v5).toNat)
    case atStart => exact ⟨0, cs, Nat.zero_le _, rfl, by simp, Ho.out, Agree.zero (by rw [caps_len, mkCap_len]; exact Ho.out.1), (Ext.refl w).grownBy _⟩
    case round =>
      obtain ⟨k, L, hk, rfl, rfl, hown, hag, hg⟩ := hrel
      have Hag := hid hag; clear hag
      have Hg := hid hg; clear hg
      by_cases hlt : k < n
      · have hb := (own_size hown).2
        obtain ⟨⟨u0, e0⟩, f0⟩ := own_cell hown (k * 8) (by omega)
        obtain ⟨⟨u1, e1⟩, f1⟩ := own_cell hown (k * 8 + 1) (by omega)
        obtain ⟨⟨u2, e2⟩, f2⟩ := own_cell hown (k * 8 + 2) (by omega)
        obtain ⟨⟨u3, e3⟩, f3⟩ := own_cell hown (k * 8 + 3) (by omega)
        obtain ⟨⟨u4, e4⟩, f4⟩ := own_cell hown (k * 8 + 4) (by omega)
        obtain ⟨⟨u5, e5⟩, f5⟩ := own_cell hown (k * 8 + 5) (by omega)
        obtain ⟨⟨u6, e6⟩, f6⟩ := own_cell hown (k * 8 + 6) (by omega)
        obtain ⟨⟨u7, e7⟩, f7⟩ := own_cell hown (k * 8 + 7) (by omega)
        have e4n : wr.cell? ⟨g, k * 8 + 3 + 1, none⟩ = some u4 := e4
        have f4n : wr.frozen? ⟨g, k * 8 + 3 + 1, none⟩ = false := f4
        have e5n : wr.cell? ⟨g, k * 8 + 3 + 2, none⟩ = some u5 := e5
        have f5n : wr.frozen? ⟨g, k * 8 + 3 + 2, none⟩ = false := f5
        have e6n : wr.cell? ⟨g, k * 8 + 3 + 3, none⟩ = some u6 := e6
        have f6n : wr.frozen? ⟨g, k * 8 + 3 + 3, none⟩ = false := f6
        have e7n : wr.cell? ⟨g, k * 8 + 3 + 4, none⟩ = some u7 := e7
        have f7n : wr.frozen? ⟨g, k * 8 + 3 + 4, none⟩ = false := f7
        have g0 := caps_get (mkCap n k0) k (by rw [mkCap_len]; exact hlt) 0 (by omega)
        rw [mkCap_at n k0 k hlt] at g0
        have g1 := caps_get (mkCap n k0) k (by rw [mkCap_len]; exact hlt) 1 (by omega)
        rw [mkCap_at n k0 k hlt] at g1
        have g2 := caps_get (mkCap n k0) k (by rw [mkCap_len]; exact hlt) 2 (by omega)
        rw [mkCap_at n k0 k hlt] at g2
        have g3 := caps_get (mkCap n k0) k (by rw [mkCap_len]; exact hlt) 3 (by omega)
        rw [mkCap_at n k0 k hlt] at g3
        have g4 := caps_get (mkCap n k0) k (by rw [mkCap_len]; exact hlt) 4 (by omega)
        rw [mkCap_at n k0 k hlt] at g4
        have g5 := caps_get (mkCap n k0) k (by rw [mkCap_len]; exact hlt) 5 (by omega)
        rw [mkCap_at n k0 k hlt] at g5
        have g6 := caps_get (mkCap n k0) k (by rw [mkCap_len]; exact hlt) 6 (by omega)
        rw [mkCap_at n k0 k hlt] at g6
        have g7 := caps_get (mkCap n k0) k (by rw [mkCap_len]; exact hlt) 7 (by omega)
        rw [mkCap_at n k0 k hlt] at g7
        have G := hid (And.intro g0 (And.intro g1 (And.intro g2 (And.intro g3 (And.intro g4 (And.intro g5 (And.intro g6 g7)))))))
        clear g0 g1 g2 g3 g4 g5 g6 g7
        have hm7 := hid (fun w => laws_mtext (k0 + 8 * (k : Int) + 1 + 1 + 1 + 1 + 1 + 1 + 1) w (by omega) (by omega))
        go_wp2_with (first | (go_at_call 45; (with_reducible refine (hm7.out _).mono ?_); rintro e w' ⟨rfl, z7, rfl⟩))
        go_roundw
        case rel =>
          obtain ⟨g0, g1, g2, g3, g4, g5, g6, g7⟩ := G.out
          have s0 := World.ownsRow.stored hown (k * 8) (.int .i64 (k0 + 8 * (k : Int)))
          have s1 := World.ownsRow.stored s0.1 (k * 8 + 1) (.int .i64 (k0 + 8 * (k : Int) + 1))
          have s2 := World.ownsRow.stored s1.1 (k * 8 + 2) (.bool ((k0 + 8 * (k : Int) + 1 + 1) % 3 == 0))
          have s3 := World.ownsRow.stored s2.1 (k * 8 + 3) (.int .i64 (k0 + 8 * (k : Int) + 1 + 1 + 1))
          have s4 := World.ownsRow.stored s3.1 (k * 8 + 4) (.int .i64 (k0 + 8 * (k : Int) + 1 + 1 + 1 + 1))
          have s5 := World.ownsRow.stored s4.1 (k * 8 + 5) (.int .i64 (k0 + 8 * (k : Int) + 1 + 1 + 1 + 1 + 1))
          have s6 := World.ownsRow.stored s5.1 (k * 8 + 6) (.int .i64 (k0 + 8 * (k : Int) + 1 + 1 + 1 + 1 + 1 + 1))
          have o7 := own_ext s6.1 (show Ext _ _ from (Ext.refl _).ext z7)
          have s7 := World.ownsRow.stored o7 (k * 8 + 7) (.string (mtext (k0 + 8 * (k : Int) + 1 + 1 + 1 + 1 + 1 + 1 + 1)))
          refine ⟨k + 1, _, by omega, by go_num, by go_num, s7.1, ?_, grownBy_trans Hg.out (grownBy_trans (grownBy_trans (grownBy_trans (grownBy_trans (grownBy_trans (grownBy_trans (grownBy_trans (grownBy_trans s0.2 s1.2) s2.2) s3.2) s4.2) s5.2) s6.2) (Ext.grownBy (show Ext _ _ from (Ext.refl _).ext z7) (some g))) s7.2)⟩
          rw [show (k + 1) * 8 = k * 8 + 1 + 1 + 1 + 1 + 1 + 1 + 1 + 1 by omega]
          exact (((((((Hag.out.set g0).set g1).set g2).set g3).set g4).set g5).set g6).set g7
        case measure => simp [intOf]; omega
      · have hL : L = (mkCap n k0).flatMap Cap.cs := Hag.out.all' (by rw [caps_len, mkCap_len]; omega)
        subst hL
        obtain rfl : k = n := by omega
        go_wp2
        go_ret
        exact ⟨rfl, hown, Hg.out⟩
theorem laws_heldCapturedS (n : Nat) (v : Value) (k0 : Int) (w : World) (hv : Rd w 8 v n ((mkCap n k0).flatMap Cap.cs)) (hn : n ≤ 1048576) (hk0 : 0 < k0) (hk1 : k0 ≤ 1073741824) :
    Calls Tryz.prog 10 #[v, .int .i64 k0] w fun e w' => e = .returned (.int .i64 (k0 + 8 * n)) ∧ Ext w w' := by
  obtain ⟨h1, p, cap, rfl, h4⟩ := hv
  clear h1
  have H4 := hid h4; clear h4
  go_enter Tryz.func10, Tryz.ntmps10
  go_wp2
  go_loopw [5, 1] (fun v5 v1 wr => ∃ (k : Nat), k ≤ n ∧ v5 = .int .i64 k ∧ v1 = .int .i64 (k0 + 8 * k) ∧ Ext w wr) (fun v5 _ _ => n - (intOf v5).toNat)
  case atStart => exact ⟨0, Nat.zero_le _, rfl, by simp, Ext.refl _⟩
  case round =>
    obtain ⟨k, hk, rfl, rfl, z, rfl⟩ := hrel
    by_cases hlt : k < n
    · obtain ⟨b, off, rfl, h6⟩ := H4.out.resolve_left (by omega)
      obtain ⟨c0, c1, c2, c3, c4, c5, c6, c7⟩ := Cap.atn _ h6 k (by rw [mkCap_len]; exact hlt)
      rw [mkCap_at n k0 k hlt] at c0 c1 c2 c3 c4 c5 c6 c7
      dsimp only at c0 c1 c2 c3 c4 c5 c6 c7
      have H6 := hid h6; clear h6
      have hm7 := hid (fun w => laws_mtext (k0 + 8 * (k : Int) + 1 + 1 + 1 + 1 + 1 + 1 + 1) w (by omega) (by omega))
      repeat (first | (go_wp2_with fail; refine wp_region_ext (by kernel_rfl) (by kernel_rfl) ?_; (repeat (go_big_quiet_step (first | (go_at_call 45; exact Calls.quiet_ext (hm7.out _))))); refine wpQuiet_nil ?_; rintro _ ⟨zq, rfl⟩))
      go_wp2
      go_roundw
      case rel => exact ⟨k + 1, by omega, by go_num, by go_num, (by repeat' (first | exact Ext.refl _ | assumption | refine Ext.alloc ?_ _ | refine Ext.ext ?_ _ | refine Ext.drew ?_ | refine Ext.drewN ?_ _))⟩
      case measure => simp [intOf]; omega
    · obtain rfl : k = n := by omega
      go_wp2
      go_ret
      exact ⟨rfl, (Ext.refl _).ext _⟩
end Go.Proofs.YtljknhocfjpolaaGreatDoor
