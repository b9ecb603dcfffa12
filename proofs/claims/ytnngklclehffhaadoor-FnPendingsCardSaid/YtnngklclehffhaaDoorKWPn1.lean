/- The laws' helpers on slices of truth values; marks of strings, exactly. -/
import Derived.Test.YtnngklclehffhaaDoorKWPn
namespace Go.Proofs.YtnngklclehffhaaDoor
open Go.RowKit
set_option maxHeartbeats 400000
set_option maxRecDepth 100000
theorem infoBool : (Tryd.prog.info? 4).map (fun i => (i.zero, i.size, i.bytes)) = some (some (.bool false), 1, 1) := by kernel_rfl
theorem laws_toBoolS (xs : List Bool) (v : Value) (w : World) (hr : Rd w 1 v xs.length (vBools xs)) (hn : xs.length ≤ 1048576) :
    Calls Tryd.prog 75 #[v] w fun e w' => ∃ g, e = .returned (.slice (some ⟨g, 0, none⟩) xs.length xs.length) ∧ w'.ownsRow w.heap.size 4 1 (.slice (some ⟨g, 0, none⟩) xs.length xs.length) xs.length (vBools xs) ∧ Ext w w' := by
  obtain ⟨h1, p, cap, rfl, h4⟩ := hr
  have H1 := hid h1; clear h1
  have H4 := hid h4; clear h4
  obtain ⟨i0, hi, hz0, hz1, hz2⟩ := info_parts infoBool
  obtain ⟨w1, hmk, hown0, hg0⟩ := run_make_full (P := Tryd.prog) w w.heap.size 59 4 i0 (.bool false) 1 Tryd.underlying59 hi hz0 hz1 .i64 .i64 xs.length (by rw [hz2]; omega) (by unfold maxLen; omega) (Nat.le_refl _)
  have Hown := hid hown0; clear hown0
  have hx1 : Ext w w1 := (Ext.refl w).grown hg0 (fun k h => by cases h)
  have Hx := hid hx1; clear hx1 hg0
  go_enter Tryd.func75, Tryd.ntmps75
  go_wp2
  go_loopw [4] (fun v4 wr => ∃ (k : Nat) (L : List Value), k ≤ xs.length ∧ v4 = .int .i64 k ∧ wr.ownsRow w.heap.size 4 1 (.slice (some ⟨w.heap.size, 0, none⟩) xs.length xs.length) xs.length L ∧ Agree L (vBools xs) k ∧ Ext w wr) (fun v4 _ => xs.length - (intOf v4).toNat)
  case atStart => exact ⟨0, _, Nat.zero_le _, rfl, Hown.out, Agree.zero (by rw [vBools_len]; simpa using Hown.out.1), Hx.out⟩
  case round =>
    obtain ⟨k, L, hk, rfl, hown, hag, hx⟩ := hrel
    have Hag := hid hag; clear hag
    by_cases hlt : k < xs.length
    · obtain ⟨b, off, rfl, h6⟩ := H4.out.resolve_left (by omega)
      have c0 := hx.cell (elem1 Value.bool false xs h6 k hlt)
      have H6 := hid h6; clear h6
      have hg := vBools_get xs k hlt
      generalize xs.getD k false = x at c0 hg
      have Hg := hid hg; clear hg
      obtain ⟨⟨u, c1⟩, f1⟩ := own_cell hown k (by omega)
      go_wp2
      go_roundw
      case rel =>
        have hst := World.ownsRow.stored hown k (.bool x)
        exact ⟨k + 1, _, by omega, by go_num, hst.1, Hag.out.set Hg.out, hx.grown hst.2 (fun j hj => by cases hj; exact Nat.le_refl _)⟩
      case measure => simp [intOf]; omega
    · have hL : L = vBools xs := Hag.out.all' (by rw [vBools_len]; omega)
      subst hL
      go_wp2
      go_ret
      exact ⟨_, rfl, hown, hx⟩
theorem laws_eqBoolS (xs : List Bool) (v u : Value) (w : World) (hv : Rd w 1 v xs.length (vBools xs)) (hu : Rd w 1 u xs.length (vBools xs)) (hn : xs.length ≤ 1048576) :
    Calls Tryd.prog 81 #[v, u] w fun e w' => e = .returned (.bool true) ∧ Ext w w' := by
  obtain ⟨h1, p, cap, rfl, h4⟩ := hv
  obtain ⟨h1', p', cap', rfl, h4'⟩ := hu
  clear h1 h1'
  have H4 := hid h4; clear h4
  have H4' := hid h4'; clear h4'
  have hb : ∀ x : Bool, (x == x) = true := fun x => by cases x <;> rfl
  go_enter Tryd.func81, Tryd.ntmps81
  go_wp2
  go_loopw [5] (fun v5 wr => ∃ (k : Nat), k ≤ xs.length ∧ v5 = .int .i64 k ∧ Ext w wr) (fun v5 _ => xs.length - (intOf v5).toNat)
  case atStart => exact ⟨0, Nat.zero_le _, rfl, Ext.refl _⟩
  case round =>
    obtain ⟨k, hk, rfl, z, rfl⟩ := hrel
    by_cases hlt : k < xs.length
    · obtain ⟨b, off, rfl, h6⟩ := H4.out.resolve_left (by omega)
      obtain ⟨b', off', rfl, h6'⟩ := H4'.out.resolve_left (by omega)
      have c0 := elem1 Value.bool false xs h6 k hlt
      have c1 := elem1 Value.bool false xs h6' k hlt
      have H6 := hid h6; clear h6
      have H6' := hid h6'; clear h6'
      go_wp2
      refine wp_region_ext (by kernel_rfl) (by kernel_rfl) ?_
      repeat (go_big_quiet_step ((first | fail)))
      refine wpQuiet_nil ?_
      rintro _ ⟨zq, rfl⟩
      go_wp2
      go_roundw
      case rel => exact ⟨k + 1, by omega, by go_num, ((Ext.refl _).ext _).ext _⟩
      case measure => simp [intOf]; omega
    · go_wp2
      go_ret
      exact ⟨rfl, (Ext.refl _).ext _⟩
theorem laws_szBoolS (xs : List Value) (v : Value) (left : Int) (n k : Nat) (w : World) (hv : Rd w k v n xs) (hn : (n : Int) ≤ left) (hl : left ≤ 1048576) :
    Calls Tryd.prog 72 #[v, .int .i64 left] w fun e w' => e = .returned (.int .i64 (left - n)) ∧ w = w' := by
  obtain ⟨h1, p, cap, rfl, h4⟩ := hv
  clear h1 h4
  go_enter Tryd.func72, Tryd.ntmps72
  go_wp2
  go_ret
  simp
theorem laws_szBoolS_big (xs : List Value) (v : Value) (left : Int) (k n : Nat) (w : World) (hv : Rd w k v n xs) (hn : left < n) (hl : 0 ≤ left) (hm : n ≤ maxLen) :
    Calls Tryd.prog 72 #[v, .int .i64 left] w fun e w' => e = .returned (.int .i64 (-1)) ∧ w = w' := by
  obtain ⟨h1, p, cap, rfl, h4⟩ := hv
  clear h1 h4
  unfold maxLen at hm
  go_enter Tryd.func72, Tryd.ntmps72
  go_wp2
  go_ret
  simp
/-- The marks of n truth values, of n strings. -/
def bmarks : Nat → Int → List Bool
  | 0, _ => []
  | n + 1, k => (k % 3 == 0) :: bmarks n (k + 1)
theorem bmarks_len (n : Nat) (k : Int) : (bmarks n k).length = n := by
  induction n generalizing k with
  | zero => rfl
  | succ n ih => simp [bmarks, ih]
theorem bmarks_getD (n : Nat) (k : Int) (i : Nat) (h : i < n) : (bmarks n k).getD i false = ((k + i) % 3 == 0) := by
  induction n generalizing k i with
  | zero => omega
  | succ n ih =>
    cases i with
    | zero => simp [bmarks]
    | succ i =>
      have e : k + 1 + (i : Int) = k + ((i + 1 : Nat) : Int) := by omega
      simp only [bmarks, List.getD_cons_succ]; rw [ih _ _ (by omega), e]
theorem bmarks_get (n : Nat) (k : Int) (i : Nat) (h : i < n) : (vBools (bmarks n k))[i]? = some (.bool ((k + i) % 3 == 0)) := by
  rw [vBools_get _ _ (by rw [bmarks_len]; exact h), bmarks_getD _ _ _ h]
def smarks : Nat → Int → List ByteArray
  | 0, _ => []
  | n + 1, k => mtext k :: smarks n (k + 1)
theorem smarks_len (n : Nat) (k : Int) : (smarks n k).length = n := by
  induction n generalizing k with
  | zero => rfl
  | succ n ih => simp [smarks, ih]
theorem smarks_getD (n : Nat) (k : Int) (i : Nat) (h : i < n) : (smarks n k).getD i ByteArray.empty = mtext (k + i) := by
  induction n generalizing k i with
  | zero => omega
  | succ n ih =>
    cases i with
    | zero => simp [smarks]
    | succ i =>
      have e : k + 1 + (i : Int) = k + ((i + 1 : Nat) : Int) := by omega
      simp only [smarks, List.getD_cons_succ]; rw [ih _ _ (by omega), e]
theorem smarks_get (n : Nat) (k : Int) (i : Nat) (h : i < n) : (vStrs (smarks n k))[i]? = some (.string (mtext (k + i))) := by
  rw [vStrs_get _ _ (by rw [smarks_len]; exact h), smarks_getD _ _ _ h]
theorem tmod3 {x : Int} (h : 0 ≤ x) : x.tmod 3 = x % 3 := Int.tmod_eq_emod_of_nonneg h
theorem laws_markBoolS (n : Nat) (cs : List Value) (v : Value) (k0 : Int) (w : World) (B : Nat) (ho : w.ownsRow B 4 1 v n cs) (hn : n ≤ 4194304) (hk0 : 0 ≤ k0) (hk1 : k0 ≤ 1099511627776) :
    Calls Tryd.prog 45 #[v, .int .i64 k0] w fun e w' => e = .returned (.int .i64 (k0 + n)) ∧ w'.ownsRow B 4 1 v n (vBools (bmarks n k0)) ∧ w.grownBy w' v.ownBlock := by
  have ho' := ho
  obtain ⟨h1, ⟨rfl, rfl⟩ | ⟨g, cap, cur, rfl, hB, _⟩⟩ := ho
  · go_enter Tryd.func45, Tryd.ntmps45
    go_wp2
    refine wp_loop_rounds 1 ?_
    rw [rounds_succ]
    go_wp2
    go_ret
    exact ⟨by simp, World.ownsRow_nil _ _ _ _, (Ext.refl w).grownBy _⟩
  · clear h1 hB
    have Ho := hid ho'; clear ho'
    go_enter Tryd.func45, Tryd.ntmps45
    go_wp2
    go_loopw [5, 1] (fun v5 v1 wr => ∃ (k : Nat) (L : List Value), k ≤ n ∧ v5 = .int .i64 k ∧ v1 = .int .i64 (k0 + k) ∧ wr.ownsRow B 4 1 (.slice (some ⟨g, 0, none⟩) n cap) n L ∧ Agree L (vBools (bmarks n k0)) k ∧ w.grownBy wr (some g)) (fun v5 _ _ => n - (intOf v5).toNat)
    case atStart => exact ⟨0, cs, Nat.zero_le _, rfl, by simp, Ho.out, Agree.zero (by rw [vBools_len, bmarks_len]; simpa using Ho.out.1), (Ext.refl w).grownBy _⟩
    case round =>
      obtain ⟨k, L, hk, rfl, rfl, hown, hag, hg⟩ := hrel
      have Hag := hid hag; clear hag
      by_cases hlt : k < n
      · obtain ⟨⟨u, c1⟩, f1⟩ := own_cell hown k (by omega)
        go_wp2
        go_roundw
        case rel =>
          have hst := World.ownsRow.stored hown k (.bool ((k0 + k) % 3 == 0))
          exact ⟨k + 1, _, by omega, by go_num, by go_num, by first | exact hst.1 | (simpa using hst.1), Hag.out.set (bmarks_get n k0 k hlt), by first | exact grownBy_trans hg hst.2 | (simpa using grownBy_trans hg hst.2)⟩
        case measure => simp [intOf]; omega
      · have hL : L = vBools (bmarks n k0) := Hag.out.all' (by rw [vBools_len, bmarks_len]; omega)
        subst hL
        obtain rfl : k = n := by omega
        go_wp2
        go_ret
        exact ⟨rfl, hown, hg⟩
theorem laws_heldBoolS (n : Nat) (v : Value) (k0 : Int) (w : World) (hv : Rd w 1 v n (vBools (bmarks n k0))) (hn : n ≤ 4194304) (hk0 : 0 ≤ k0) (hk1 : k0 ≤ 1099511627776) :
    Calls Tryd.prog 50 #[v, .int .i64 k0] w fun e w' => e = .returned (.int .i64 (k0 + n)) ∧ Ext w w' := by
  obtain ⟨h1, p, cap, rfl, h4⟩ := hv
  clear h1
  have H4 := hid h4; clear h4
  have hb : ∀ x : Bool, (x == x) = true := fun x => by cases x <;> rfl
  go_enter Tryd.func50, Tryd.ntmps50
  go_wp2
  go_loopw [5, 1] (fun v5 v1 wr => ∃ (k : Nat), k ≤ n ∧ v5 = .int .i64 k ∧ v1 = .int .i64 (k0 + k) ∧ Ext w wr) (fun v5 _ _ => n - (intOf v5).toNat)
  case atStart => exact ⟨0, Nat.zero_le _, rfl, by simp, Ext.refl _⟩
  case round =>
    obtain ⟨k, hk, rfl, rfl, z, rfl⟩ := hrel
    by_cases hlt : k < n
    · obtain ⟨b, off, rfl, h6⟩ := H4.out.resolve_left (by omega)
      have c0 := elem1 Value.bool false _ h6 k (by rw [bmarks_len]; exact hlt)
      rw [bmarks_getD _ _ _ hlt] at c0
      have H6 := hid h6; clear h6
      go_wp2
      go_roundw
      case rel => exact ⟨k + 1, by omega, by go_num, by go_num, (by repeat' (first | exact Ext.refl _ | assumption | refine Ext.alloc ?_ _ | refine Ext.ext ?_ _ | refine Ext.drew ?_ | refine Ext.drewN ?_ _))⟩
      case measure => simp [intOf]; omega
    · obtain rfl : k = n := by omega
      go_wp2
      go_ret
      exact ⟨rfl, (by repeat' (first | exact Ext.refl _ | assumption | refine Ext.alloc ?_ _ | refine Ext.ext ?_ _ | refine Ext.drew ?_ | refine Ext.drewN ?_ _))⟩
theorem laws_smarkS (n : Nat) (cs : List Value) (v : Value) (k0 : Int) (w : World) (B : Nat) (ho : w.ownsRow B 9 1 v n cs) (hn : n ≤ 4194304) (hk0 : 0 < k0) (hk1 : k0 ≤ 2147483648) :
    Calls Tryd.prog 44 #[v, .int .i64 k0] w fun e w' => e = .returned (.int .i64 (k0 + n)) ∧ w'.ownsRow B 9 1 v n (vStrs (smarks n k0)) ∧ w.grownBy w' v.ownBlock := by
  have ho' := ho
  obtain ⟨h1, ⟨rfl, rfl⟩ | ⟨g, cap, cur, rfl, hB, _⟩⟩ := ho
  · go_enter Tryd.func44, Tryd.ntmps44
    go_wp2
    refine wp_loop_rounds 1 ?_
    rw [rounds_succ]
    go_wp2
    go_ret
    exact ⟨by simp, World.ownsRow_nil _ _ _ _, (Ext.refl w).grownBy _⟩
  · clear h1 hB
    have Ho := hid ho'; clear ho'
    go_enter Tryd.func44, Tryd.ntmps44
    go_wp2
    go_loopw [5, 1] (fun v5 v1 wr => ∃ (k : Nat) (L : List Value), k ≤ n ∧ v5 = .int .i64 k ∧ v1 = .int .i64 (k0 + k) ∧ wr.ownsRow B 9 1 (.slice (some ⟨g, 0, none⟩) n cap) n L ∧ Agree L (vStrs (smarks n k0)) k ∧ w.grownBy wr (some g)) (fun v5 _ _ => n - (intOf v5).toNat)
    case atStart => exact ⟨0, cs, Nat.zero_le _, rfl, by simp, Ho.out, Agree.zero (by rw [vStrs_len, smarks_len]; simpa using Ho.out.1), (Ext.refl w).grownBy _⟩
    case round =>
      obtain ⟨k, L, hk, rfl, rfl, hown, hag, hg⟩ := hrel
      have Hag := hid hag
      by_cases hlt : k < n
      · have hmt := hid (fun w : World => laws_mtext (k0 + k) w (by omega) (by omega))
        have Hg := hid hg
        have Hown := hid hown
        clear hg hown hag
        go_wp2_with fail
        go_at_call 82
        refine (hmt.out _).mono ?_
        rintro e w1 ⟨rfl, hx⟩
        have hown1 := own_ext Hown.out hx
        have hg1 := grownBy_trans Hg.out (hx.grownBy _)
        obtain ⟨⟨u, c1⟩, f1⟩ := own_cell hown1 k (by omega)
        go_wp2
        go_roundw
        case rel =>
          have hst := World.ownsRow.stored hown1 k (.string (mtext (k0 + k)))
          exact ⟨k + 1, _, by omega, by go_num, by go_num, hst.1, Hag.out.set (smarks_get n k0 k hlt), grownBy_trans hg1 hst.2⟩
        case measure => simp [intOf]; omega
      · have hL : L = vStrs (smarks n k0) := Hag.out.all' (by rw [vStrs_len, smarks_len]; omega)
        subst hL
        obtain rfl : k = n := by omega
        clear hag
        go_wp2
        go_ret
        exact ⟨rfl, hown, hg⟩
theorem laws_sheldS (n : Nat) (v : Value) (k0 : Int) (w : World) (hv : Rd w 1 v n (vStrs (smarks n k0))) (hn : n ≤ 4194304) (hk0 : 0 < k0) (hk1 : k0 ≤ 2147483648) :
    Calls Tryd.prog 49 #[v, .int .i64 k0] w fun e w' => e = .returned (.int .i64 (k0 + n)) ∧ Ext w w' := by
  obtain ⟨h1, p, cap, rfl, h4⟩ := hv
  clear h1
  have H4 := hid h4; clear h4
  go_enter Tryd.func49, Tryd.ntmps49
  go_wp2
  go_loopw [5, 1] (fun v5 v1 wr => ∃ (k : Nat), k ≤ n ∧ v5 = .int .i64 k ∧ v1 = .int .i64 (k0 + k) ∧ Ext w wr) (fun v5 _ _ => n - (intOf v5).toNat)
  case atStart => exact ⟨0, Nat.zero_le _, rfl, by simp, Ext.refl _⟩
  case round =>
    obtain ⟨k, hk, rfl, rfl, z, rfl⟩ := hrel
    by_cases hlt : k < n
    · obtain ⟨b, off, rfl, h6⟩ := H4.out.resolve_left (by omega)
      have c0 := elem1 Value.string ByteArray.empty _ h6 k (by rw [smarks_len]; exact hlt)
      rw [smarks_getD _ _ _ hlt] at c0
      have hmt := hid (fun w : World => laws_mtext (k0 + k) w (by omega) (by omega))
      have H6 := hid h6; clear h6
      go_wp2
      refine wp_region_ext (by kernel_rfl) (by kernel_rfl) ?_
      repeat (go_big_quiet_step ((first | (go_at_call 82; exact Calls.quiet_ext (hmt.out _)))))
      refine wpQuiet_nil ?_
      rintro _ ⟨zq, rfl⟩
      go_wp2
      go_roundw
      case rel => exact ⟨k + 1, by omega, by go_num, by go_num, (by repeat' (first | exact Ext.refl _ | assumption | refine Ext.alloc ?_ _ | refine Ext.ext ?_ _ | refine Ext.drew ?_ | refine Ext.drewN ?_ _))⟩
      case measure => simp [intOf]; omega
    · obtain rfl : k = n := by omega
      go_wp2
      go_ret
      exact ⟨rfl, (by repeat' (first | exact Ext.refl _ | assumption | refine Ext.alloc ?_ _ | refine Ext.ext ?_ _ | refine Ext.drew ?_ | refine Ext.drewN ?_ _))⟩
end Go.Proofs.YtnngklclehffhaaDoor
