/- Captured: the laws' helpers (written by flatgen.py). -/
import Derived.Test.YtljknhocfjpolaaDoorWMark
namespace Go.Proofs.YtljknhocfjpolaaDoor
open Go.RowKit
set_option maxHeartbeats 1000000
set_option maxRecDepth 100000
structure Cap where
  t : Int
  n : Int
  u : Bool
  c : Int
  m : Int
  r : Int
  l : Int
  d : ByteArray
def Cap.cs (x : Cap) : List Value := [.int .i64 x.t, .int .i64 x.n, .bool x.u, .int .i64 x.c, .int .i64 x.m, .int .i64 x.r, .int .i64 x.l, .string x.d]
def Cap.z : Cap := ⟨0, 0, false, 0, 0, 0, 0, ByteArray.empty⟩
theorem Cap.len (x : Cap) : x.cs.length = 8 := rfl
theorem caps_len (xs : List Cap) : (xs.flatMap Cap.cs).length = xs.length * 8 := flat_len _ 8 Cap.len xs
theorem caps_get (xs : List Cap) (i : Nat) (h : i < xs.length) (j : Nat) (hj : j < 8) : (xs.flatMap Cap.cs)[i * 8 + j]? = (xs.getD i .z).cs[j]? := flat_get _ _ 8 Cap.len xs i j h hj
theorem Cap.at {w : World} {b off : Nat} (xs : List Cap) (h : ∀ j (h : j < (xs.flatMap Cap.cs).length), w.cell? ⟨b, off + j, none⟩ = some (xs.flatMap Cap.cs)[j]) (i : Nat) (hi : i < xs.length) :
    w.cell? ⟨b, off + i * 8, none⟩ = some (.int .i64 (xs.getD i .z).t) ∧
    w.cell? ⟨b, off + i * 8 + 1, none⟩ = some (.int .i64 (xs.getD i .z).n) ∧
    w.cell? ⟨b, off + i * 8 + 2, none⟩ = some (.bool (xs.getD i .z).u) ∧
    w.cell? ⟨b, off + i * 8 + 3, none⟩ = some (.int .i64 (xs.getD i .z).c) ∧
    w.cell? ⟨b, off + i * 8 + 4, none⟩ = some (.int .i64 (xs.getD i .z).m) ∧
    w.cell? ⟨b, off + i * 8 + 5, none⟩ = some (.int .i64 (xs.getD i .z).r) ∧
    w.cell? ⟨b, off + i * 8 + 6, none⟩ = some (.int .i64 (xs.getD i .z).l) ∧
    w.cell? ⟨b, off + i * 8 + 7, none⟩ = some (.string (xs.getD i .z).d) :=
  ⟨flat_cell Cap.cs .z 8 Cap.len xs h i 0 hi (by omega), flat_cell Cap.cs .z 8 Cap.len xs h i 1 hi (by omega), flat_cell Cap.cs .z 8 Cap.len xs h i 2 hi (by omega), flat_cell Cap.cs .z 8 Cap.len xs h i 3 hi (by omega), flat_cell Cap.cs .z 8 Cap.len xs h i 4 hi (by omega), flat_cell Cap.cs .z 8 Cap.len xs h i 5 hi (by omega), flat_cell Cap.cs .z 8 Cap.len xs h i 6 hi (by omega), flat_cell Cap.cs .z 8 Cap.len xs h i 7 hi (by omega)⟩
theorem Cap.atn {w : World} {b off : Nat} (xs : List Cap) (h : ∀ j (h : j < (xs.flatMap Cap.cs).length), w.cell? ⟨b, off + j, none⟩ = some (xs.flatMap Cap.cs)[j]) (i : Nat) (hi : i < xs.length) :
    w.cell? ⟨b, off + i * 8, none⟩ = some (.int .i64 (xs.getD i .z).t) ∧
    w.cell? ⟨b, off + i * 8 + 1, none⟩ = some (.int .i64 (xs.getD i .z).n) ∧
    w.cell? ⟨b, off + i * 8 + 2, none⟩ = some (.bool (xs.getD i .z).u) ∧
    w.cell? ⟨b, off + i * 8 + 3, none⟩ = some (.int .i64 (xs.getD i .z).c) ∧
    w.cell? ⟨b, off + i * 8 + 3 + 1, none⟩ = some (.int .i64 (xs.getD i .z).m) ∧
    w.cell? ⟨b, off + i * 8 + 3 + 2, none⟩ = some (.int .i64 (xs.getD i .z).r) ∧
    w.cell? ⟨b, off + i * 8 + 3 + 3, none⟩ = some (.int .i64 (xs.getD i .z).l) ∧
    w.cell? ⟨b, off + i * 8 + 3 + 4, none⟩ = some (.string (xs.getD i .z).d) :=
  ⟨flat_cell Cap.cs .z 8 Cap.len xs h i 0 hi (by omega), flat_cell Cap.cs .z 8 Cap.len xs h i 1 hi (by omega), flat_cell Cap.cs .z 8 Cap.len xs h i 2 hi (by omega), flat_cell Cap.cs .z 8 Cap.len xs h i 3 hi (by omega), flat_cell Cap.cs .z 8 Cap.len xs h i 4 hi (by omega), flat_cell Cap.cs .z 8 Cap.len xs h i 5 hi (by omega), flat_cell Cap.cs .z 8 Cap.len xs h i 6 hi (by omega), flat_cell Cap.cs .z 8 Cap.len xs h i 7 hi (by omega)⟩
theorem laws_toPacket (c : Int) (m : Int) (r : Int) (l : Int) (d : ByteArray) (w : World) : Calls Tryd.prog 22 #[.agg #[.int .i64 c, .int .i64 m, .int .i64 r, .int .i64 l, .string d]] w fun e w' => e = .returned (.agg #[.int .i64 c, .int .i64 m, .int .i64 r, .int .i64 l, .string d]) ∧ Ext w w' := by
  go_enter Tryd.func22, Tryd.ntmps22
  go_wp2
  go_returns
  exact ⟨rfl, (by repeat' (first | exact Ext.refl _ | assumption | refine Ext.alloc ?_ _ | refine Ext.ext ?_ _ | refine Ext.drew ?_ | refine Ext.drewN ?_ _))⟩
theorem laws_toCaptured (t : Int) (n : Int) (u : Bool) (c : Int) (m : Int) (r : Int) (l : Int) (d : ByteArray) (w : World) : Calls Tryd.prog 13 #[.agg #[.int .i64 t, .int .i64 n, .bool u, .int .i64 c, .int .i64 m, .int .i64 r, .int .i64 l, .string d]] w fun e w' => e = .returned (.agg #[.int .i64 t, .int .i64 n, .bool u, .int .i64 c, .int .i64 m, .int .i64 r, .int .i64 l, .string d]) ∧ Ext w w' := by
  go_enter Tryd.func13, Tryd.ntmps13
  go_wp2_with (go_at_call 22; refine (laws_toPacket _ _ _ _ _ _).mono ?_; rintro e w' ⟨rfl, z1, rfl⟩)
  go_returns
  exact ⟨rfl, (by (repeat (with_reducible refine Ext.setCell ?_ (by dsimp only; omega) _)); repeat' (first | (with_reducible refine Ext.alloc ?_ _) | (with_reducible refine Ext.ext ?_ _) | (with_reducible refine Ext.drew ?_) | exact Ext.refl _))⟩
theorem laws_szPacket (c : Int) (m : Int) (r : Int) (l : Int) (d : ByteArray) (left : Int) (w : World) (h : (d.size : Int) ≤ left) (h1 : left ≤ 1048576) : Calls Tryd.prog 20 #[.agg #[.int .i64 c, .int .i64 m, .int .i64 r, .int .i64 l, .string d], .int .i64 left] w fun e w' => e = .returned (.int .i64 (left - d.size)) ∧ Ext w w' := by
  have w1 : IntKind.i64.wrap (left - (d.size : Int)) = left - d.size := IntWalk.i64_in _ (by omega)
  have t1 : decide (left - (d.size : Int) < 0) = false := by simp; omega
  go_enter Tryd.func20, Tryd.ntmps20
  go_wp2
  go_ret
  exact ⟨rfl, (by repeat' (first | exact Ext.refl _ | assumption | refine Ext.alloc ?_ _ | refine Ext.ext ?_ _ | refine Ext.drew ?_ | refine Ext.drewN ?_ _))⟩
theorem laws_szPacket_big (c : Int) (m : Int) (r : Int) (l : Int) (d : ByteArray) (left : Int) (w : World) (h : left < d.size) (h1 : 0 ≤ left ∧ left ≤ 1048576 ∧ d.size ≤ maxLen) : Calls Tryd.prog 20 #[.agg #[.int .i64 c, .int .i64 m, .int .i64 r, .int .i64 l, .string d], .int .i64 left] w fun e w' => e = .returned (.int .i64 (-1)) ∧ Ext w w' := by
  obtain ⟨h2, h3, h4⟩ := h1
  unfold maxLen at h4
  have w1 : IntKind.i64.wrap (left - (d.size : Int)) = left - d.size := IntWalk.i64_in _ (by omega)
  have t1 : decide (left - (d.size : Int) < 0) = true := by simp; omega
  go_enter Tryd.func20, Tryd.ntmps20
  go_wp2
  go_ret
  exact ⟨rfl, (by repeat' (first | exact Ext.refl _ | assumption | refine Ext.alloc ?_ _ | refine Ext.ext ?_ _ | refine Ext.drew ?_ | refine Ext.drewN ?_ _))⟩
theorem laws_szCaptured (t : Int) (n : Int) (u : Bool) (c : Int) (m : Int) (r : Int) (l : Int) (d : ByteArray) (left : Int) (w : World) (h : (d.size : Int) ≤ left) (h1 : left ≤ 1048576) : Calls Tryd.prog 11 #[.agg #[.int .i64 t, .int .i64 n, .bool u, .int .i64 c, .int .i64 m, .int .i64 r, .int .i64 l, .string d], .int .i64 left] w fun e w' => e = .returned (.int .i64 (left - d.size)) ∧ Ext w w' := by
  have t1 : decide (left - (d.size : Int) < 0) = false := by simp; omega
  have hc := hid (fun w => laws_szPacket c m r l d left w h h1)
  go_enter Tryd.func11, Tryd.ntmps11
  go_wp2_with (go_at_call 20; refine (hc.out _).mono ?_; rintro e w' ⟨rfl, z1, rfl⟩)
  go_ret
  exact ⟨rfl, (by repeat' (first | exact Ext.refl _ | assumption | refine Ext.alloc ?_ _ | refine Ext.ext ?_ _ | refine Ext.drew ?_ | refine Ext.drewN ?_ _))⟩
theorem laws_szCaptured_big (t : Int) (n : Int) (u : Bool) (c : Int) (m : Int) (r : Int) (l : Int) (d : ByteArray) (left : Int) (w : World) (h : left < d.size) (h1 : 0 ≤ left ∧ left ≤ 1048576 ∧ d.size ≤ maxLen) : Calls Tryd.prog 11 #[.agg #[.int .i64 t, .int .i64 n, .bool u, .int .i64 c, .int .i64 m, .int .i64 r, .int .i64 l, .string d], .int .i64 left] w fun e w' => e = .returned (.int .i64 (-1)) ∧ Ext w w' := by
  obtain ⟨h2, h3, h4⟩ := h1
  unfold maxLen at h4
  have hc := hid (fun w => laws_szPacket_big c m r l d left w h ⟨h2, h3, by unfold maxLen; omega⟩)
  go_enter Tryd.func11, Tryd.ntmps11
  go_wp2_with (go_at_call 20; refine (hc.out _).mono ?_; rintro e w' ⟨rfl, z1, rfl⟩)
  go_ret
  exact ⟨rfl, (by repeat' (first | exact Ext.refl _ | assumption | refine Ext.alloc ?_ _ | refine Ext.ext ?_ _ | refine Ext.drew ?_ | refine Ext.drewN ?_ _))⟩
def Cap.chars (xs : List Cap) : Nat := (xs.map (fun x => x.d.size)).sum
theorem Cap.chars_take (xs : List Cap) (k : Nat) (h : k < xs.length) : Cap.chars (xs.take (k + 1)) = Cap.chars (xs.take k) + (xs.getD k .z).d.size := by
  rw [take_snoc xs .z k h]
  simp [Cap.chars]
theorem Cap.chars_le (xs : List Cap) (k : Nat) : Cap.chars (xs.take k) ≤ Cap.chars xs := by
  have : Cap.chars xs = Cap.chars (xs.take k) + Cap.chars (xs.drop k) := by
    unfold Cap.chars
    rw [← List.sum_append, ← List.map_append, List.take_append_drop]
  omega
theorem Cap.size_of {xs : List Cap} (h2 : Cap.chars xs ≤ 1048576) {k : Nat} (hk : k < xs.length) : (xs.getD k .z).d.size ≤ 1048576 := by
  have h1 := Cap.chars_take xs k hk
  have h3 := Cap.chars_le xs (k + 1)
  omega
theorem infoCap : (Tryd.prog.info? 39).map (fun i => (i.zero, i.size, i.bytes)) = some (some (.agg #[.int .i64 0, .int .i64 0, .bool false, .int .i64 0, .int .i64 0, .int .i64 0, .int .i64 0, .string ByteArray.empty]), 8, 72) := by kernel_rfl
theorem laws_toCapturedS (xs : List Cap) (v : Value) (w : World) (hr : Rd w 8 v xs.length (xs.flatMap Cap.cs)) (hn : xs.length ≤ 1048576) :
    Calls Tryd.prog 6 #[v] w fun e w' => ∃ g, e = .returned (.slice (some ⟨g, 0, none⟩) xs.length xs.length) ∧ w'.ownsRow w.heap.size 39 8 (.slice (some ⟨g, 0, none⟩) xs.length xs.length) xs.length (xs.flatMap Cap.cs) ∧ Ext w w' := by
  obtain ⟨h1, p, cap, rfl, h4⟩ := hr
  have H1 := hid h1; clear h1
  have H4 := hid h4; clear h4
  obtain ⟨i0, hi, hz0, hz1, hz2⟩ := info_parts infoCap
  obtain ⟨w1, hmk, hown0, hg0⟩ := run_make_full (P := Tryd.prog) w w.heap.size 24 39 i0 (.agg #[.int .i64 0, .int .i64 0, .bool false, .int .i64 0, .int .i64 0, .int .i64 0, .int .i64 0, .string ByteArray.empty]) 8 Tryd.underlying24 hi hz0 hz1 .i64 .i64 xs.length (by rw [hz2]; omega) (by unfold maxLen; omega) (Nat.le_refl _)
  have Hown := hid hown0; clear hown0
  have hx1 : Ext w w1 := (Ext.refl w).grown hg0 (fun k h => by cases h)
  have Hx := hid hx1; clear hx1 hg0
  go_enter Tryd.func6, Tryd.ntmps6
  go_wp2
  go_loopw [4] (fun v4 wr => ∃ (k : Nat) (L : List Value), k ≤ xs.length ∧ v4 = .int .i64 k ∧ wr.ownsRow w.heap.size 39 8 (.slice (some ⟨w.heap.size, 0, none⟩) xs.length xs.length) xs.length L ∧ Agree L (xs.flatMap Cap.cs) (k * 8) ∧ Ext w wr) (fun v4 _ => xs.length - (intOf v4).toNat)
  case atStart => exact ⟨0, _, Nat.zero_le _, rfl, Hown.out, Agree.zero (by rw [caps_len]; exact Hown.out.1), Hx.out⟩
  case round =>
    obtain ⟨k, L, hk, rfl, hown, hag, hx⟩ := hrel
    have Hag := hid hag; clear hag
    by_cases hlt : k < xs.length
    · obtain ⟨b, off, rfl, h6⟩ := H4.out.resolve_left (by omega)
      obtain ⟨c0, c1, c2, c3, c4, c5, c6, c7⟩ := Cap.at xs h6 k hlt
      replace c0 := hx.cell c0
      replace c1 := hx.cell c1
      replace c2 := hx.cell c2
      replace c3 := hx.cell c3
      replace c4 := hx.cell c4
      replace c5 := hx.cell c5
      replace c6 := hx.cell c6
      replace c7 := hx.cell c7
      have H6 := hid h6; clear h6
      have g0 := caps_get xs k hlt 0 (by omega)
      have g1 := caps_get xs k hlt 1 (by omega)
      have g2 := caps_get xs k hlt 2 (by omega)
      have g3 := caps_get xs k hlt 3 (by omega)
      have g4 := caps_get xs k hlt 4 (by omega)
      have g5 := caps_get xs k hlt 5 (by omega)
      have g6 := caps_get xs k hlt 6 (by omega)
      have g7 := caps_get xs k hlt 7 (by omega)
      generalize xs.getD k .z = d at c0 c1 c2 c3 c4 c5 c6 c7 g0 g1 g2 g3 g4 g5 g6 g7
      obtain ⟨t, n, u, c, m, r, l, d⟩ := d
      dsimp only at c0 c1 c2 c3 c4 c5 c6 c7
      have G := hid (And.intro g0 (And.intro g1 (And.intro g2 (And.intro g3 (And.intro g4 (And.intro g5 (And.intro g6 g7)))))))
      clear g0 g1 g2 g3 g4 g5 g6 g7
      obtain ⟨⟨u0, e0⟩, f0⟩ := own_cell hown (k * 8) (by omega)
      obtain ⟨⟨u1, e1⟩, f1⟩ := own_cell hown (k * 8 + 1) (by omega)
      obtain ⟨⟨u2, e2⟩, f2⟩ := own_cell hown (k * 8 + 2) (by omega)
      obtain ⟨⟨u3, e3⟩, f3⟩ := own_cell hown (k * 8 + 3) (by omega)
      obtain ⟨⟨u4, e4⟩, f4⟩ := own_cell hown (k * 8 + 4) (by omega)
      obtain ⟨⟨u5, e5⟩, f5⟩ := own_cell hown (k * 8 + 5) (by omega)
      obtain ⟨⟨u6, e6⟩, f6⟩ := own_cell hown (k * 8 + 6) (by omega)
      obtain ⟨⟨u7, e7⟩, f7⟩ := own_cell hown (k * 8 + 7) (by omega)
      have hb := (own_size hown).2
      go_wp2_with (go_at_call 13; refine (laws_toCaptured _ _ _ _ _ _ _ _ _).mono ?_; rintro e w' ⟨rfl, z1, rfl⟩)
      go_roundw
      case rel =>
        obtain ⟨g0, g1, g2, g3, g4, g5, g6, g7⟩ := G.out
        have hx2 : Ext wr (wr.ext z1) := (Ext.refl _).ext _
        have s0 := World.ownsRow.stored (own_ext hown hx2) (k * 8) (.int .i64 t)
        have s1 := World.ownsRow.stored s0.1 (k * 8 + 1) (.int .i64 n)
        have s2 := World.ownsRow.stored s1.1 (k * 8 + 2) (.bool u)
        have s3 := World.ownsRow.stored s2.1 (k * 8 + 3) (.int .i64 c)
        have s4 := World.ownsRow.stored s3.1 (k * 8 + 4) (.int .i64 m)
        have s5 := World.ownsRow.stored s4.1 (k * 8 + 5) (.int .i64 r)
        have s6 := World.ownsRow.stored s5.1 (k * 8 + 6) (.int .i64 l)
        have s7 := World.ownsRow.stored s6.1 (k * 8 + 7) (.string d)
        refine ⟨k + 1, _, by omega, by go_num, s7.1, ?_, ?_⟩
        · rw [show (k + 1) * 8 = k * 8 + 1 + 1 + 1 + 1 + 1 + 1 + 1 + 1 by omega]
          exact (((((((Hag.out.set g0).set g1).set g2).set g3).set g4).set g5).set g6).set g7
        · exact (hx.trans hx2).grown (grownBy_trans (grownBy_trans (grownBy_trans (grownBy_trans (grownBy_trans (grownBy_trans (grownBy_trans s0.2 s1.2) s2.2) s3.2) s4.2) s5.2) s6.2) s7.2) (fun j hj => by cases hj; exact Nat.le_refl _)
      case measure => simp [intOf]; omega
    · have hL : L = xs.flatMap Cap.cs := Hag.out.all' (by rw [caps_len]; omega)
      subst hL
      go_wp2
      go_ret
      exact ⟨_, rfl, hown, hx⟩
theorem laws_eqPacket (c : Int) (m : Int) (r : Int) (l : Int) (d : ByteArray) (w : World) : Calls Tryd.prog 32 #[.agg #[.int .i64 c, .int .i64 m, .int .i64 r, .int .i64 l, .string d], .agg #[.int .i64 c, .int .i64 m, .int .i64 r, .int .i64 l, .string d]] w fun e w' => e = .returned (.bool true) ∧ Ext w w' := by
  go_enter Tryd.func32, Tryd.ntmps32
  repeat (first | (go_wp2; refine wp_region_ext (by kernel_rfl) (by kernel_rfl) ?_; (repeat (go_big_quiet_step (fail))); refine wpQuiet_nil ?_; rintro _ ⟨zq, rfl⟩))
  go_wp2
  go_ret
  exact ⟨rfl, (by repeat' (first | exact Ext.refl _ | assumption | refine Ext.alloc ?_ _ | refine Ext.ext ?_ _ | refine Ext.drew ?_ | refine Ext.drewN ?_ _))⟩
theorem laws_eqCaptured (t : Int) (n : Int) (u : Bool) (c : Int) (m : Int) (r : Int) (l : Int) (d : ByteArray) (w : World) : Calls Tryd.prog 18 #[.agg #[.int .i64 t, .int .i64 n, .bool u, .int .i64 c, .int .i64 m, .int .i64 r, .int .i64 l, .string d], .agg #[.int .i64 t, .int .i64 n, .bool u, .int .i64 c, .int .i64 m, .int .i64 r, .int .i64 l, .string d]] w fun e w' => e = .returned (.bool true) ∧ Ext w w' := by
  go_enter Tryd.func18, Tryd.ntmps18
  repeat (first | (go_wp2; refine wp_region_ext (by kernel_rfl) (by kernel_rfl) ?_; (repeat (go_big_quiet_step ((go_at_call 32; exact Calls.quiet_ext (laws_eqPacket _ _ _ _ _ _))))); refine wpQuiet_nil ?_; rintro _ ⟨zq, rfl⟩))
  go_wp2
  go_ret
  exact ⟨rfl, (by repeat' (first | exact Ext.refl _ | assumption | refine Ext.alloc ?_ _ | refine Ext.ext ?_ _ | refine Ext.drew ?_ | refine Ext.drewN ?_ _))⟩
theorem laws_eqCapturedS (xs : List Cap) (v u : Value) (w : World) (hv : Rd w 8 v xs.length (xs.flatMap Cap.cs)) (hu : Rd w 8 u xs.length (xs.flatMap Cap.cs)) (hn : xs.length ≤ 1048576) :
    Calls Tryd.prog 8 #[v, u] w fun e w' => e = .returned (.bool true) ∧ Ext w w' := by
  obtain ⟨h1, p, cap, rfl, h4⟩ := hv
  obtain ⟨h1', p', cap', rfl, h4'⟩ := hu
  clear h1 h1'
  have H4 := hid h4; clear h4
  have H4' := hid h4'; clear h4'
  go_enter Tryd.func8, Tryd.ntmps8
  go_wp2
  go_loopw [5] (fun v5 wr => ∃ (k : Nat), k ≤ xs.length ∧ v5 = .int .i64 k ∧ Ext w wr) (fun v5 _ => xs.length - (intOf v5).toNat)
  case atStart => exact ⟨0, Nat.zero_le _, rfl, Ext.refl _⟩
  case round =>
    obtain ⟨k, hk, rfl, z, rfl⟩ := hrel
    by_cases hlt : k < xs.length
    · obtain ⟨b, off, rfl, h6⟩ := H4.out.resolve_left (by omega)
      obtain ⟨b', off', rfl, h6'⟩ := H4'.out.resolve_left (by omega)
      obtain ⟨c0, c1, c2, c3, c4, c5, c6, c7⟩ := Cap.at xs h6 k hlt
      obtain ⟨e0, e1, e2, e3, e4, e5, e6, e7⟩ := Cap.at xs h6' k hlt
      generalize xs.getD k .z = d at c0 e0 c1 e1 c2 e2 c3 e3 c4 e4 c5 e5 c6 e6 c7 e7
      have H6 := hid h6; clear h6
      have H6' := hid h6'; clear h6'
      go_wp2
      refine wp_region_ext (by kernel_rfl) (by kernel_rfl) ?_
      repeat (go_big_quiet_step ((first | (go_at_call 18; exact Calls.quiet_ext (laws_eqCaptured _ _ _ _ _ _ _ _ _)))))
      refine wpQuiet_nil ?_
      rintro _ ⟨zq, rfl⟩
      go_wp2
      go_roundw
      case rel => exact ⟨k + 1, by omega, by go_num, ((Ext.refl _).ext _).ext _⟩
      case measure => simp [intOf]; omega
    · go_wp2
      go_ret
      exact ⟨rfl, (Ext.refl _).ext _⟩
theorem laws_szCapturedS (xs : List Cap) (v : Value) (left : Int) (w : World) (hv : Rd w 8 v xs.length (xs.flatMap Cap.cs)) (hn : (xs.length : Int) + Cap.chars xs ≤ left) (hl : left ≤ 1048576) :
    Calls Tryd.prog 4 #[v, .int .i64 left] w fun e w' => e = .returned (.int .i64 (left - xs.length - Cap.chars xs)) ∧ Ext w w' := by
  obtain ⟨h1, p, cap, rfl, h4⟩ := hv
  clear h1
  have H4 := hid h4; clear h4
  have t0 : decide (left - (xs.length : Int) < 0) = false := by simp; omega
  have w0 : IntKind.i64.wrap (left - (xs.length : Int)) = left - xs.length := IntWalk.i64_in _ (by omega)
  go_enter Tryd.func4, Tryd.ntmps4
  go_wp2
  go_loopw [5, 1] (fun v5 v1 wr => ∃ (k : Nat), k ≤ xs.length ∧ v5 = .int .i64 k ∧ v1 = .int .i64 (left - xs.length - Cap.chars (xs.take k)) ∧ Ext w wr) (fun v5 _ _ => xs.length - (intOf v5).toNat)
  case atStart => exact ⟨0, Nat.zero_le _, rfl, by simp [Cap.chars], Ext.refl _⟩
  case round =>
    obtain ⟨k, hk, rfl, rfl, z, rfl⟩ := hrel
    by_cases hlt : k < xs.length
    · obtain ⟨b, off, rfl, h6⟩ := H4.out.resolve_left (by omega)
      obtain ⟨c0, c1, c2, c3, c4, c5, c6, c7⟩ := Cap.at xs h6 k hlt
      have H6 := hid h6; clear h6
      have ht := Cap.chars_take xs k hlt
      have hl1 := Cap.chars_le xs (k + 1)
      generalize xs.getD k .z = d at c0 c1 c2 c3 c4 c5 c6 c7 ht
      obtain ⟨t, n, u, c, m, r, l, d⟩ := d
      dsimp only at c0 c1 c2 c3 c4 c5 c6 c7 ht
      generalize hT : Cap.chars (xs.take k) = T at *
      have hc := hid (fun w => laws_szCaptured t n u c m r l d (left - (xs.length : Int) - T) w (by omega) (by omega))
      have t1 : decide (left - (xs.length : Int) - T - d.size < 0) = false := by simp; omega
      have Ht := hid ht; clear ht hT
      go_wp2_with (go_at_call 11; refine (hc.out _).mono ?_; rintro e w' ⟨rfl, z1, rfl⟩)
      go_roundw
      case rel => exact ⟨k + 1, by omega, by go_num, by rw [Ht.out]; congr 1; omega, (by repeat' (first | exact Ext.refl _ | assumption | refine Ext.alloc ?_ _ | refine Ext.ext ?_ _ | refine Ext.drew ?_ | refine Ext.drewN ?_ _))⟩
      case measure => simp [intOf]; omega
    · obtain rfl : k = xs.length := by omega
      go_wp2
      go_ret
      exact ⟨by rw [List.take_length]; rfl, (Ext.refl _).ext _⟩
theorem laws_szCapturedS_big (xs : List Cap) (v : Value) (left : Int) (w : World) (hv : Rd w 8 v xs.length (xs.flatMap Cap.cs)) (hn : left < (xs.length : Int) + Cap.chars xs) (hl0 : 0 ≤ left) (hl : left ≤ 1048576) (hm : xs.length ≤ maxLen) (hsz : ∀ x ∈ xs, x.d.size ≤ maxLen) :
    Calls Tryd.prog 4 #[v, .int .i64 left] w fun e w' => e = .returned (.int .i64 (-1)) ∧ Ext w w' := by
  obtain ⟨h1, p, cap, rfl, h4⟩ := hv
  clear h1
  have H4 := hid h4; clear h4
  have Hsz := hid hsz; clear hsz
  have hml : maxLen = 9223372036854775807 := rfl
  have w0 : IntKind.i64.wrap (left - (xs.length : Int)) = left - xs.length := IntWalk.i64_in _ (by omega)
  by_cases hc : left - (xs.length : Int) < 0
  · have t0 : decide (left - (xs.length : Int) < 0) = true := by simp; omega
    go_enter Tryd.func4, Tryd.ntmps4
    go_wp2
    go_returns
    exact ⟨rfl, (by repeat' (first | exact Ext.refl _ | assumption | refine Ext.alloc ?_ _ | refine Ext.ext ?_ _ | refine Ext.drew ?_ | refine Ext.drewN ?_ _))⟩
  · have t0 : decide (left - (xs.length : Int) < 0) = false := by simp; omega
    go_enter Tryd.func4, Tryd.ntmps4
    go_wp2
    go_loopw [5, 1] (fun v5 v1 wr => ∃ (k : Nat), k ≤ xs.length ∧ v5 = .int .i64 k ∧ v1 = .int .i64 (left - xs.length - Cap.chars (xs.take k)) ∧ (xs.length : Int) + Cap.chars (xs.take k) ≤ left ∧ Ext w wr) (fun v5 _ _ => xs.length - (intOf v5).toNat)
    case atStart => exact ⟨0, Nat.zero_le _, rfl, by simp [Cap.chars], by simp [Cap.chars]; omega, Ext.refl _⟩
    case round =>
      obtain ⟨k, hk, rfl, rfl, hk2, z, rfl⟩ := hrel
      by_cases hlt : k < xs.length
      · obtain ⟨b, off, rfl, h6⟩ := H4.out.resolve_left (by omega)
        obtain ⟨c0, c1, c2, c3, c4, c5, c6, c7⟩ := Cap.at xs h6 k hlt
        have H6 := hid h6; clear h6
        have ht := Cap.chars_take xs k hlt
        have hx : (xs.getD k .z).d.size ≤ maxLen := Hsz.out _ (by rw [List.getD_eq_getElem?_getD, List.getElem?_eq_getElem hlt]; exact List.getElem_mem hlt)
        generalize xs.getD k .z = d at c0 c1 c2 c3 c4 c5 c6 c7 ht hx
        obtain ⟨t, n, u, c, m, r, l, d⟩ := d
        dsimp only at c0 c1 c2 c3 c4 c5 c6 c7 ht hx
        generalize hT : Cap.chars (xs.take k) = T at *
        by_cases hc1 : left - (xs.length : Int) - T - d.size < 0
        · have hcc := hid (fun w => laws_szCaptured_big t n u c m r l d (left - (xs.length : Int) - T) w (by omega) ⟨by omega, by omega, hx⟩)
          clear ht hT hx hml
          go_wp2_with (go_at_call 11; refine (hcc.out _).mono ?_; rintro e w' ⟨rfl, z1, rfl⟩)
          go_ret
          exact ⟨rfl, (by repeat' (first | exact Ext.refl _ | assumption | refine Ext.alloc ?_ _ | refine Ext.ext ?_ _ | refine Ext.drew ?_ | refine Ext.drewN ?_ _))⟩
        · have hcc := hid (fun w => laws_szCaptured t n u c m r l d (left - (xs.length : Int) - T) w (by omega) (by omega))
          have t1 : decide (left - (xs.length : Int) - T - d.size < 0) = false := by simp; omega
          have Ht := hid ht; clear ht hT hx hml
          go_wp2_with (go_at_call 11; refine (hcc.out _).mono ?_; rintro e w' ⟨rfl, z1, rfl⟩)
          go_roundw
          case rel => exact ⟨k + 1, by omega, by go_num, by rw [Ht.out]; congr 1; omega, by rw [Ht.out]; omega, (by repeat' (first | exact Ext.refl _ | assumption | refine Ext.alloc ?_ _ | refine Ext.ext ?_ _ | refine Ext.drew ?_ | refine Ext.drewN ?_ _))⟩
          case measure => simp [intOf]; omega
      · obtain rfl : k = xs.length := by omega
        rw [List.take_length] at hk2
        omega
def mkCap (n : Nat) (k0 : Int) : List Cap := (List.range n).map (fun i : Nat => ⟨k0 + 8 * (i : Int), k0 + 8 * (i : Int) + 1, (k0 + 8 * (i : Int) + 1 + 1) % 3 == 0, k0 + 8 * (i : Int) + 1 + 1 + 1, k0 + 8 * (i : Int) + 1 + 1 + 1 + 1, k0 + 8 * (i : Int) + 1 + 1 + 1 + 1 + 1, k0 + 8 * (i : Int) + 1 + 1 + 1 + 1 + 1 + 1, mtext (k0 + 8 * (i : Int) + 1 + 1 + 1 + 1 + 1 + 1 + 1)⟩)
theorem mkCap_len (n : Nat) (k0 : Int) : (mkCap n k0).length = n := by simp [mkCap]
theorem mkCap_at (n : Nat) (k0 : Int) (i : Nat) (h : i < n) : (mkCap n k0).getD i .z = ⟨k0 + 8 * (i : Int), k0 + 8 * (i : Int) + 1, (k0 + 8 * (i : Int) + 1 + 1) % 3 == 0, k0 + 8 * (i : Int) + 1 + 1 + 1, k0 + 8 * (i : Int) + 1 + 1 + 1 + 1, k0 + 8 * (i : Int) + 1 + 1 + 1 + 1 + 1, k0 + 8 * (i : Int) + 1 + 1 + 1 + 1 + 1 + 1, mtext (k0 + 8 * (i : Int) + 1 + 1 + 1 + 1 + 1 + 1 + 1)⟩ := by
  rw [List.getD_eq_getElem?_getD, mkCap, List.getElem?_map, List.getElem?_range h]; rfl
theorem laws_markCapturedS (n : Nat) (cs : List Value) (v : Value) (k0 : Int) (w : World) (B : Nat) (ho : w.ownsRow B 39 8 v n cs) (hn : n ≤ 1048576) (hk0 : 0 < k0) (hk1 : k0 ≤ 1073741824) :
    Calls Tryd.prog 9 #[v, .int .i64 k0] w fun e w' => e = .returned (.int .i64 (k0 + 8 * n)) ∧ w'.ownsRow B 39 8 v n ((mkCap n k0).flatMap Cap.cs) ∧ w.grownBy w' v.ownBlock := by
  have ho' := ho
  obtain ⟨h1, ⟨rfl, rfl⟩ | ⟨g, cap, cur, rfl, hB, _⟩⟩ := ho
  · go_enter Tryd.func9, Tryd.ntmps9
    go_wp2
    refine wp_loop_rounds 1 ?_
    rw [rounds_succ]
    go_wp2
    go_ret
    exact ⟨by simp, World.ownsRow_nil _ _ _ _, (Ext.refl w).grownBy _⟩
  · clear h1 hB
    have Ho := hid ho'; clear ho'
    go_enter Tryd.func9, Tryd.ntmps9
    go_wp2
    go_loopw [5, 1] (fun v5 v1 wr => ∃ (k : Nat) (L : List Value), k ≤ n ∧ v5 = .int .i64 k ∧ v1 = .int .i64 (k0 + 8 * k) ∧ wr.ownsRow B 39 8 (.slice (some ⟨g, 0, none⟩) n cap) n L ∧ Agree L ((mkCap n k0).flatMap Cap.cs) (k * 8) ∧ w.grownBy wr (some g)) (fun v5 _ _ => n - (intOf v5).toNat)
    case atStart => exact ⟨0, cs, Nat.zero_le _, rfl, by simp, Ho.out, Agree.zero (by rw [caps_len, mkCap_len]; exact Ho.out.1), (Ext.refl w).grownBy _⟩
    case round =>
      obtain ⟨k, L, hk, rfl, rfl, hown, hag, hg⟩ := hrel
      have Hag := hid hag; clear hag
      have Hg := hid hg; clear hg
      by_cases hlt : k < n
      · have hb := (own_size hown).2
        obtain ⟨⟨u0, e0⟩, f0⟩ := own_cell hown (k * 8) (by omega)
        obtain ⟨⟨u1, e1⟩, f1⟩ := own_cell hown (k * 8 + 1) (by omega)
        obtain ⟨⟨u2, e2⟩, f2⟩ := own_cell hown (k * 8 + 2) (by omega)
        obtain ⟨⟨u3, e3⟩, f3⟩ := own_cell hown (k * 8 + 3) (by omega)
        obtain ⟨⟨u4, e4⟩, f4⟩ := own_cell hown (k * 8 + 4) (by omega)
        obtain ⟨⟨u5, e5⟩, f5⟩ := own_cell hown (k * 8 + 5) (by omega)
        obtain ⟨⟨u6, e6⟩, f6⟩ := own_cell hown (k * 8 + 6) (by omega)
        obtain ⟨⟨u7, e7⟩, f7⟩ := own_cell hown (k * 8 + 7) (by omega)
        have e4n : wr.cell? ⟨g, k * 8 + 3 + 1, none⟩ = some u4 := e4
        have f4n : wr.frozen? ⟨g, k * 8 + 3 + 1, none⟩ = false := f4
        have e5n : wr.cell? ⟨g, k * 8 + 3 + 2, none⟩ = some u5 := e5
        have f5n : wr.frozen? ⟨g, k * 8 + 3 + 2, none⟩ = false := f5
        have e6n : wr.cell? ⟨g, k * 8 + 3 + 3, none⟩ = some u6 := e6
        have f6n : wr.frozen? ⟨g, k * 8 + 3 + 3, none⟩ = false := f6
        have e7n : wr.cell? ⟨g, k * 8 + 3 + 4, none⟩ = some u7 := e7
        have f7n : wr.frozen? ⟨g, k * 8 + 3 + 4, none⟩ = false := f7
        have g0 := caps_get (mkCap n k0) k (by rw [mkCap_len]; exact hlt) 0 (by omega)
        rw [mkCap_at n k0 k hlt] at g0
        have g1 := caps_get (mkCap n k0) k (by rw [mkCap_len]; exact hlt) 1 (by omega)
        rw [mkCap_at n k0 k hlt] at g1
        have g2 := caps_get (mkCap n k0) k (by rw [mkCap_len]; exact hlt) 2 (by omega)
        rw [mkCap_at n k0 k hlt] at g2
        have g3 := caps_get (mkCap n k0) k (by rw [mkCap_len]; exact hlt) 3 (by omega)
        rw [mkCap_at n k0 k hlt] at g3
        have g4 := caps_get (mkCap n k0) k (by rw [mkCap_len]; exact hlt) 4 (by omega)
        rw [mkCap_at n k0 k hlt] at g4
        have g5 := caps_get (mkCap n k0) k (by rw [mkCap_len]; exact hlt) 5 (by omega)
        rw [mkCap_at n k0 k hlt] at g5
        have g6 := caps_get (mkCap n k0) k (by rw [mkCap_len]; exact hlt) 6 (by omega)
        rw [mkCap_at n k0 k hlt] at g6
        have g7 := caps_get (mkCap n k0) k (by rw [mkCap_len]; exact hlt) 7 (by omega)
        rw [mkCap_at n k0 k hlt] at g7
        have G := hid (And.intro g0 (And.intro g1 (And.intro g2 (And.intro g3 (And.intro g4 (And.intro g5 (And.intro g6 g7)))))))
        clear g0 g1 g2 g3 g4 g5 g6 g7
        have hm7 := hid (fun w => laws_mtext (k0 + 8 * (k : Int) + 1 + 1 + 1 + 1 + 1 + 1 + 1) w (by omega) (by omega))
        go_wp2_with (first | (go_at_call 19; (with_reducible refine (hm7.out _).mono ?_); rintro e w' ⟨rfl, z7, rfl⟩))
        go_roundw
        case rel =>
          obtain ⟨g0, g1, g2, g3, g4, g5, g6, g7⟩ := G.out
          have s0 := World.ownsRow.stored hown (k * 8) (.int .i64 (k0 + 8 * (k : Int)))
          have s1 := World.ownsRow.stored s0.1 (k * 8 + 1) (.int .i64 (k0 + 8 * (k : Int) + 1))
          have s2 := World.ownsRow.stored s1.1 (k * 8 + 2) (.bool ((k0 + 8 * (k : Int) + 1 + 1) % 3 == 0))
          have s3 := World.ownsRow.stored s2.1 (k * 8 + 3) (.int .i64 (k0 + 8 * (k : Int) + 1 + 1 + 1))
          have s4 := World.ownsRow.stored s3.1 (k * 8 + 4) (.int .i64 (k0 + 8 * (k : Int) + 1 + 1 + 1 + 1))
          have s5 := World.ownsRow.stored s4.1 (k * 8 + 5) (.int .i64 (k0 + 8 * (k : Int) + 1 + 1 + 1 + 1 + 1))
          have s6 := World.ownsRow.stored s5.1 (k * 8 + 6) (.int .i64 (k0 + 8 * (k : Int) + 1 + 1 + 1 + 1 + 1 + 1))
          have o7 := own_ext s6.1 (show Ext _ _ from (Ext.refl _).ext z7)
          have s7 := World.ownsRow.stored o7 (k * 8 + 7) (.string (mtext (k0 + 8 * (k : Int) + 1 + 1 + 1 + 1 + 1 + 1 + 1)))
          refine ⟨k + 1, _, by omega, by go_num, by go_num, s7.1, ?_, grownBy_trans Hg.out (grownBy_trans (grownBy_trans (grownBy_trans (grownBy_trans (grownBy_trans (grownBy_trans (grownBy_trans (grownBy_trans s0.2 s1.2) s2.2) s3.2) s4.2) s5.2) s6.2) (Ext.grownBy (show Ext _ _ from (Ext.refl _).ext z7) (some g))) s7.2)⟩
          rw [show (k + 1) * 8 = k * 8 + 1 + 1 + 1 + 1 + 1 + 1 + 1 + 1 by omega]
          exact (((((((Hag.out.set g0).set g1).set g2).set g3).set g4).set g5).set g6).set g7
        case measure => simp [intOf]; omega
      · have hL : L = (mkCap n k0).flatMap Cap.cs := Hag.out.all' (by rw [caps_len, mkCap_len]; omega)
        subst hL
        obtain rfl : k = n := by omega
        go_wp2
        go_ret
        exact ⟨rfl, hown, Hg.out⟩
theorem laws_heldCapturedS (n : Nat) (v : Value) (k0 : Int) (w : World) (hv : Rd w 8 v n ((mkCap n k0).flatMap Cap.cs)) (hn : n ≤ 1048576) (hk0 : 0 < k0) (hk1 : k0 ≤ 1073741824) :
    Calls Tryd.prog 10 #[v, .int .i64 k0] w fun e w' => e = .returned (.int .i64 (k0 + 8 * n)) ∧ Ext w w' := by
  obtain ⟨h1, p, cap, rfl, h4⟩ := hv
  clear h1
  have H4 := hid h4; clear h4
  go_enter Tryd.func10, Tryd.ntmps10
  go_wp2
  go_loopw [5, 1] (fun v5 v1 wr => ∃ (k : Nat), k ≤ n ∧ v5 = .int .i64 k ∧ v1 = .int .i64 (k0 + 8 * k) ∧ Ext w wr) (fun v5 _ _ => n - (intOf v5).toNat)
  case atStart => exact ⟨0, Nat.zero_le _, rfl, by simp, Ext.refl _⟩
  case round =>
    obtain ⟨k, hk, rfl, rfl, z, rfl⟩ := hrel
    by_cases hlt : k < n
    · obtain ⟨b, off, rfl, h6⟩ := H4.out.resolve_left (by omega)
      obtain ⟨c0, c1, c2, c3, c4, c5, c6, c7⟩ := Cap.atn _ h6 k (by rw [mkCap_len]; exact hlt)
      rw [mkCap_at n k0 k hlt] at c0 c1 c2 c3 c4 c5 c6 c7
      dsimp only at c0 c1 c2 c3 c4 c5 c6 c7
      have H6 := hid h6; clear h6
      have hm7 := hid (fun w => laws_mtext (k0 + 8 * (k : Int) + 1 + 1 + 1 + 1 + 1 + 1 + 1) w (by omega) (by omega))
      repeat (first | (go_wp2_with fail; refine wp_region_ext (by kernel_rfl) (by kernel_rfl) ?_; (repeat (go_big_quiet_step (first | (go_at_call 19; exact Calls.quiet_ext (hm7.out _))))); refine wpQuiet_nil ?_; rintro _ ⟨zq, rfl⟩))
      go_wp2
      go_roundw
      case rel => exact ⟨k + 1, by omega, by go_num, by go_num, (by repeat' (first | exact Ext.refl _ | assumption | refine Ext.alloc ?_ _ | refine Ext.ext ?_ _ | refine Ext.drew ?_ | refine Ext.drewN ?_ _))⟩
      case measure => simp [intOf]; omega
    · obtain rfl : k = n := by omega
      go_wp2
      go_ret
      exact ⟨rfl, (Ext.refl _).ext _⟩
theorem opened_caps {H : Type} {enc : TypeId × Value → H} {W : World} {v : Value} {d : DataW H} {ps : List MemPlace} {r : Reach} {b : Nat} (hval : Value.okWide Tryd.prog W r b 22 v)
    (h : DataW.Trod enc Tryd.prog W 0 (fun _ => true) true 22 v d ps) : ∃ xs : List Cap, Rd W 8 v xs.length (xs.flatMap Cap.cs) ∧ xs.length ≤ maxLen ∧ ∀ x ∈ xs, x.d.size ≤ maxLen := by
  obtain ⟨fuel, h⟩ := h
  obtain ⟨a, len, cap, rfl⟩ := Go.WideShapes.okWide_slice Tryd.underlying22 hval
  obtain ⟨css, h1, h2, h3⟩ := rd_of_trod (d := 4) Tryd.underlying22 (ks := [.i .i64, .i .i64, .b, .i .i64, .i .i64, .i .i64, .i .i64, .s]) (by kernel_rfl) (by kernel_rfl) (by decide) h
  obtain ⟨xs, rfl, hx⟩ := exists_map (f := Cap.cs) (ok := fun x => x.d.size ≤ maxLen) (l := css) (fun cs hcs => by
    have q0 := h1 cs hcs
    obtain ⟨a0, r0, rfl, k0, q1⟩ := CKs.cons q0
    obtain ⟨a1, r1, rfl, k1, q2⟩ := CKs.cons q1
    obtain ⟨a2, r2, rfl, k2, q3⟩ := CKs.cons q2
    obtain ⟨a3, r3, rfl, k3, q4⟩ := CKs.cons q3
    obtain ⟨a4, r4, rfl, k4, q5⟩ := CKs.cons q4
    obtain ⟨a5, r5, rfl, k5, q6⟩ := CKs.cons q5
    obtain ⟨a6, r6, rfl, k6, q7⟩ := CKs.cons q6
    obtain ⟨a7, r7, rfl, k7, q8⟩ := CKs.cons q7
    obtain rfl := CKs.nil q8
    obtain ⟨y0, rfl, -⟩ := k0
    obtain ⟨y1, rfl, -⟩ := k1
    obtain ⟨y2, rfl⟩ := k2
    obtain ⟨y3, rfl, -⟩ := k3
    obtain ⟨y4, rfl, -⟩ := k4
    obtain ⟨y5, rfl, -⟩ := k5
    obtain ⟨y6, rfl, -⟩ := k6
    obtain ⟨y7, rfl, hs⟩ := k7
    exact ⟨⟨y0, y1, y2, y3, y4, y5, y6, y7⟩, rfl, hs⟩)
  exact ⟨xs, h2.map, by simpa using h3, hx⟩
end Go.Proofs.YtljknhocfjpolaaDoor
