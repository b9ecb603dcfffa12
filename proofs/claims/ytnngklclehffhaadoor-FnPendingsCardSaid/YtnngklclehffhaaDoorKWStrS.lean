/- The laws' helpers on slices of strings: copy, compare, size, mark. -/
import Derived.Test.YtnngklclehffhaaDoorJ4
namespace Go.Proofs.YtnngklclehffhaaDoor
open Go.RowKit
set_option maxHeartbeats 400000
set_option maxRecDepth 100000
theorem infoStr : (Tryd.prog.info? 9).map (fun i => (i.zero, i.size, i.bytes)) = some (some (.string ByteArray.empty), 1, 16) := by kernel_rfl
def vStrs (xs : List ByteArray) : List Value := xs.map Value.string
theorem vStrs_len (xs : List ByteArray) : (vStrs xs).length = xs.length := by simp [vStrs]
theorem vStrs_get (xs : List ByteArray) (i : Nat) (h : i < xs.length) : (vStrs xs)[i]? = some (.string (xs.getD i ByteArray.empty)) := by
  simp [vStrs, h]
def chars (xs : List ByteArray) : Nat := (xs.map ByteArray.size).sum
theorem chars_take (xs : List ByteArray) (k : Nat) (h : k < xs.length) : chars (xs.take (k + 1)) = chars (xs.take k) + (xs.getD k ByteArray.empty).size := by
  rw [take_snoc xs ByteArray.empty k h]
  simp [chars]
theorem chars_le (xs : List ByteArray) (k : Nat) : chars (xs.take k) ≤ chars xs := by
  have : chars xs = chars (xs.take k) + chars (xs.drop k) := by
    unfold chars
    rw [← List.sum_append, ← List.map_append, List.take_append_drop]
  omega
theorem laws_toStringS (xs : List ByteArray) (v : Value) (w : World) (hr : Rd w 1 v xs.length (vStrs xs)) (hn : xs.length ≤ 1048576) :
    Calls Tryd.prog 74 #[v] w fun e w' => ∃ g, e = .returned (.slice (some ⟨g, 0, none⟩) xs.length xs.length) ∧ w'.ownsRow w.heap.size 9 1 (.slice (some ⟨g, 0, none⟩) xs.length xs.length) xs.length (vStrs xs) ∧ Ext w w' := by
  obtain ⟨h1, p, cap, rfl, h4⟩ := hr
  have H1 := hid h1; clear h1
  have H4 := hid h4; clear h4
  obtain ⟨i0, hi, hz0, hz1, hz2⟩ := info_parts infoStr
  obtain ⟨w1, hmk, hown0, hg0⟩ := run_make_full (P := Tryd.prog) w w.heap.size 58 9 i0 (.string ByteArray.empty) 1 Tryd.underlying58 hi hz0 hz1 .i64 .i64 xs.length (by rw [hz2]; omega) (by unfold maxLen; omega) (Nat.le_refl _)
  have Hown := hid hown0; clear hown0
  have hx1 : Ext w w1 := (Ext.refl w).grown hg0 (fun k h => by cases h)
  have Hx := hid hx1; clear hx1 hg0
  go_enter Tryd.func74, Tryd.ntmps74
  go_wp2
  go_loopw [4] (fun v4 wr => ∃ (k : Nat) (L : List Value), k ≤ xs.length ∧ v4 = .int .i64 k ∧ wr.ownsRow w.heap.size 9 1 (.slice (some ⟨w.heap.size, 0, none⟩) xs.length xs.length) xs.length L ∧ Agree L (vStrs xs) k ∧ Ext w wr) (fun v4 _ => xs.length - (intOf v4).toNat)
  case atStart => exact ⟨0, _, Nat.zero_le _, rfl, Hown.out, Agree.zero (by rw [vStrs_len]; simpa using Hown.out.1), Hx.out⟩
  case round =>
    obtain ⟨k, L, hk, rfl, hown, hag, hx⟩ := hrel
    have Hag := hid hag; clear hag
    by_cases hlt : k < xs.length
    · obtain ⟨b, off, rfl, h6⟩ := H4.out.resolve_left (by omega)
      have c0 := hx.cell (elem1 Value.string ByteArray.empty xs h6 k hlt)
      have H6 := hid h6; clear h6
      have hg := vStrs_get xs k hlt
      generalize xs.getD k ByteArray.empty = x at c0 hg
      have Hg := hid hg; clear hg
      obtain ⟨⟨u, c1⟩, f1⟩ := own_cell hown k (by omega)
      go_wp2
      go_roundw
      case rel =>
        have hst := World.ownsRow.stored hown k (.string x)
        exact ⟨k + 1, _, by omega, by go_num, hst.1, Hag.out.set Hg.out, hx.grown hst.2 (fun j hj => by cases hj; exact Nat.le_refl _)⟩
      case measure => simp [intOf]; omega
    · have hL : L = vStrs xs := Hag.out.all' (by rw [vStrs_len]; omega)
      subst hL
      go_wp2
      go_ret
      exact ⟨_, rfl, hown, hx⟩
theorem laws_eqStringS (xs : List ByteArray) (v u : Value) (w : World) (hv : Rd w 1 v xs.length (vStrs xs)) (hu : Rd w 1 u xs.length (vStrs xs)) (hn : xs.length ≤ 1048576) :
    Calls Tryd.prog 80 #[v, u] w fun e w' => e = .returned (.bool true) ∧ Ext w w' := by
  obtain ⟨h1, p, cap, rfl, h4⟩ := hv
  obtain ⟨h1', p', cap', rfl, h4'⟩ := hu
  clear h1 h1'
  have H4 := hid h4; clear h4
  have H4' := hid h4'; clear h4'
  go_enter Tryd.func80, Tryd.ntmps80
  go_wp2
  go_loopw [5] (fun v5 wr => ∃ (k : Nat), k ≤ xs.length ∧ v5 = .int .i64 k ∧ Ext w wr) (fun v5 _ => xs.length - (intOf v5).toNat)
  case atStart => exact ⟨0, Nat.zero_le _, rfl, Ext.refl _⟩
  case round =>
    obtain ⟨k, hk, rfl, z, rfl⟩ := hrel
    by_cases hlt : k < xs.length
    · obtain ⟨b, off, rfl, h6⟩ := H4.out.resolve_left (by omega)
      obtain ⟨b', off', rfl, h6'⟩ := H4'.out.resolve_left (by omega)
      have c0 := elem1 Value.string ByteArray.empty xs h6 k hlt
      have c1 := elem1 Value.string ByteArray.empty xs h6' k hlt
      have H6 := hid h6; clear h6
      have H6' := hid h6'; clear h6'
      go_wp2
      refine wp_region_ext (by kernel_rfl) (by kernel_rfl) ?_
      repeat (go_big_quiet_step ((first | fail)))
      refine wpQuiet_nil ?_
      rintro _ ⟨zq, rfl⟩
      go_wp2
      go_roundw
      case rel => exact ⟨k + 1, by omega, by go_num, ((Ext.refl _).ext _).ext _⟩
      case measure => simp [intOf]; omega
    · go_wp2
      go_ret
      exact ⟨rfl, (Ext.refl _).ext _⟩
theorem laws_szStringS (xs : List ByteArray) (v : Value) (left : Int) (w : World) (hv : Rd w 1 v xs.length (vStrs xs)) (hn : (xs.length : Int) + chars xs ≤ left) (hl : left ≤ 1048576) :
    Calls Tryd.prog 71 #[v, .int .i64 left] w fun e w' => e = .returned (.int .i64 (left - xs.length - chars xs)) ∧ Ext w w' := by
  obtain ⟨h1, p, cap, rfl, h4⟩ := hv
  clear h1
  have H4 := hid h4; clear h4
  have t0 : decide (left - (xs.length : Int) < 0) = false := by simp; omega
  have w0 : IntKind.i64.wrap (left - (xs.length : Int)) = left - xs.length := IntWalk.i64_in _ (by omega)
  go_enter Tryd.func71, Tryd.ntmps71
  go_wp2
  go_loopw [5, 1] (fun v5 v1 wr => ∃ (k : Nat), k ≤ xs.length ∧ v5 = .int .i64 k ∧ v1 = .int .i64 (left - xs.length - chars (xs.take k)) ∧ Ext w wr) (fun v5 _ _ => xs.length - (intOf v5).toNat)
  case atStart => exact ⟨0, Nat.zero_le _, rfl, by simp [chars], Ext.refl _⟩
  case round =>
    obtain ⟨k, hk, rfl, rfl, z, rfl⟩ := hrel
    by_cases hlt : k < xs.length
    · obtain ⟨b, off, rfl, h6⟩ := H4.out.resolve_left (by omega)
      have c0 := elem1 Value.string ByteArray.empty xs h6 k hlt
      have H6 := hid h6; clear h6
      have ht := chars_take xs k hlt
      have hl1 := chars_le xs (k + 1)
      generalize xs.getD k ByteArray.empty = x at c0 ht
      generalize hT : chars (xs.take k) = T at *
      have t1 : decide (left - (xs.length : Int) - T - x.size < 0) = false := by simp; omega
      have w1 : IntKind.i64.wrap (left - (xs.length : Int) - T - x.size) = left - xs.length - T - x.size := IntWalk.i64_in _ (by omega)
      have Ht := hid ht; clear ht hT
      go_wp2
      go_roundw
      case rel => exact ⟨k + 1, by omega, by go_num, by rw [Ht.out]; congr 1; omega, (Ext.refl _).ext _⟩
      case measure => simp [intOf]; omega
    · obtain rfl : k = xs.length := by omega
      go_wp2
      go_ret
      exact ⟨by rw [List.take_length]; rfl, (Ext.refl _).ext _⟩
theorem laws_szStringS_big (xs : List ByteArray) (v : Value) (left : Int) (w : World) (hv : Rd w 1 v xs.length (vStrs xs)) (hn : left < (xs.length : Int) + chars xs) (hl0 : 0 ≤ left) (hl : left ≤ 1048576) (hm : xs.length ≤ maxLen) (hsz : ∀ x ∈ xs, x.size ≤ maxLen) :
    Calls Tryd.prog 71 #[v, .int .i64 left] w fun e w' => e = .returned (.int .i64 (-1)) ∧ Ext w w' := by
  obtain ⟨h1, p, cap, rfl, h4⟩ := hv
  clear h1
  have H4 := hid h4; clear h4
  have Hsz := hid hsz; clear hsz
  have hml : maxLen = 9223372036854775807 := rfl
  have w0 : IntKind.i64.wrap (left - (xs.length : Int)) = left - xs.length := IntWalk.i64_in _ (by omega)
  by_cases hc : left - (xs.length : Int) < 0
  · have t0 : decide (left - (xs.length : Int) < 0) = true := by simp; omega
    go_enter Tryd.func71, Tryd.ntmps71
    go_wp2
    go_returns
    exact ⟨rfl, (by repeat' (first | exact Ext.refl _ | assumption | refine Ext.alloc ?_ _ | refine Ext.ext ?_ _ | refine Ext.drew ?_ | refine Ext.drewN ?_ _))⟩
  · have t0 : decide (left - (xs.length : Int) < 0) = false := by simp; omega
    go_enter Tryd.func71, Tryd.ntmps71
    go_wp2
    go_loopw [5, 1] (fun v5 v1 wr => ∃ (k : Nat), k ≤ xs.length ∧ v5 = .int .i64 k ∧ v1 = .int .i64 (left - xs.length - chars (xs.take k)) ∧ (xs.length : Int) + chars (xs.take k) ≤ left ∧ Ext w wr) (fun v5 _ _ => xs.length - (intOf v5).toNat)
    case atStart => exact ⟨0, Nat.zero_le _, rfl, by simp [chars], by simp [chars]; omega, Ext.refl _⟩
    case round =>
      obtain ⟨k, hk, rfl, rfl, hk2, z, rfl⟩ := hrel
      by_cases hlt : k < xs.length
      · obtain ⟨b, off, rfl, h6⟩ := H4.out.resolve_left (by omega)
        have c0 := elem1 Value.string ByteArray.empty xs h6 k hlt
        have H6 := hid h6; clear h6
        have ht := chars_take xs k hlt
        have hx : (xs.getD k ByteArray.empty).size ≤ maxLen := Hsz.out _ (by rw [List.getD_eq_getElem?_getD, List.getElem?_eq_getElem hlt]; exact List.getElem_mem hlt)
        generalize xs.getD k ByteArray.empty = x at c0 ht hx
        generalize hT : chars (xs.take k) = T at *
        have w1 : IntKind.i64.wrap (left - (xs.length : Int) - T - x.size) = left - xs.length - T - x.size := IntWalk.i64_in _ (by omega)
        have Ht := hid ht; clear ht hT
        by_cases hc1 : left - (xs.length : Int) - T - x.size < 0
        · have t1 : decide (left - (xs.length : Int) - T - x.size < 0) = true := by simp; omega
          go_wp2
          go_ret
          exact ⟨rfl, (Ext.refl _).ext _⟩
        · have t1 : decide (left - (xs.length : Int) - T - x.size < 0) = false := by simp; omega
          go_wp2
          go_roundw
          case rel => exact ⟨k + 1, by omega, by go_num, by rw [Ht.out]; congr 1; omega, by rw [Ht.out]; omega, (Ext.refl _).ext _⟩
          case measure => simp [intOf]; omega
      · obtain rfl : k = xs.length := by omega
        rw [List.take_length] at hk2
        omega
theorem laws_markText (k : Int) (w : World) (hk : 0 < k) (hk1 : k ≤ 1099511627776) :
    Calls Tryd.prog 82 #[.int .i64 k] w fun e w' => ∃ s, e = .returned (.string s) ∧ Ext w w' := by
  have t0 : decide (k ≤ 0) = false := by simp; omega
  go_enter Tryd.func82, Tryd.ntmps82
  go_wp2
  go_loopw [0, 3] (fun v0 v3 wr => ∃ (m : Nat) (s : ByteArray), s.size + m ≤ 1099511627776 ∧ v0 = .int .i64 m ∧ v3 = .string s ∧ Ext w wr) (fun v0 _ _ => (intOf v0).toNat)
  case atStart => exact ⟨k.toNat, ByteArray.empty, by simp; omega, by rw [Int.toNat_of_nonneg (by omega)], rfl, Ext.refl _⟩
  case round =>
    obtain ⟨m, s, hm, rfl, rfl, hx⟩ := hrel
    have Hx := hid hx
    clear hx
    have hs1 : ¬ 9223372036854775807 < 1 + s.size := by omega
    by_cases h0 : 0 < m
    · have t1 : decide ((0 : Int) < m) = true := by simp; omega
      have w1 : IntKind.i64.wrap (48 + (m : Int) % 10) = 48 + (m : Int) % 10 := IntWalk.i64_in _ (by omega)
      have w2 : IntKind.u8.wrap (48 + (m : Int) % 10) = 48 + (m : Int) % 10 := by
        exact IntWalk.u8_in _ (by omega)
      have hb : ((UInt8.ofNat (48 + m % 10)).toNat : Int) = 48 + (m : Int) % 10 := by
        rw [UInt8.toNat_ofNat_of_lt' (by show _ < 256; omega)]
        omega
      have hr : Rd (wr.alloc (.cells #[.int .u8 (48 + (m : Int) % 10)] 5)) 1 (.slice (some ⟨wr.heap.size, 0, none⟩) 1 1) 1 (vBytes [UInt8.ofNat (48 + m % 10)]) := by
        have := Rd.own (World.ownsRow_lit (base := 0) (e := 5) (size := 1) wr #[.int .u8 (48 + (m : Int) % 10)] 1 (Nat.zero_le _) (by decide) rfl)
        have e : vBytes [UInt8.ofNat (48 + m % 10)] = [.int .u8 (48 + (m : Int) % 10)] := by simp only [vBytes, List.map_cons, List.map_nil, hb]
        rw [e]
        simpa using this
      have hcv := conv_rd (P := Tryd.prog) Tryd.underlying46 Tryd.underlying5 Tryd.underlying9 hr
      clear hr hb
      go_wp2
      go_roundw
      case rel =>
        refine ⟨m / 10, _, ?_, by go_num, rfl, Hx.out.alloc _⟩
        rw [ByteArray.size_append]
        show 1 + s.size + m / 10 ≤ _
        omega
      case measure => simp [intOf]; omega
    · obtain rfl : m = 0 := by omega
      go_wp2
      go_ret
      exact ⟨_, rfl, Hx.out⟩
theorem laws_markStringS (n : Nat) (cs : List Value) (v : Value) (k0 : Int) (w : World) (B : Nat) (ho : w.ownsRow B 9 1 v n cs) (hn : n ≤ 1048576) (hk0 : 0 < k0) (hk1 : k0 ≤ 2097152) :
    Calls Tryd.prog 44 #[v, .int .i64 k0] w fun e w' => e = .returned (.int .i64 (k0 + n)) ∧ w.grownBy w' v.ownBlock := by
  have ho' := ho
  obtain ⟨h1, ⟨rfl, rfl⟩ | ⟨g, cap, cur, rfl, hB, _⟩⟩ := ho
  · go_enter Tryd.func44, Tryd.ntmps44
    go_wp2
    refine wp_loop_rounds 1 ?_
    rw [rounds_succ]
    go_wp2
    go_ret
    exact ⟨by simp, (Ext.refl w).grownBy _⟩
  · clear h1 hB
    have Ho := hid ho'; clear ho'
    go_enter Tryd.func44, Tryd.ntmps44
    go_wp2
    go_loopw [5, 1] (fun v5 v1 wr => ∃ (k : Nat) (L : List Value), k ≤ n ∧ v5 = .int .i64 k ∧ v1 = .int .i64 (k0 + k) ∧ wr.ownsRow B 9 1 (.slice (some ⟨g, 0, none⟩) n cap) n L ∧ w.grownBy wr (some g)) (fun v5 _ _ => n - (intOf v5).toNat)
    case atStart => exact ⟨0, cs, Nat.zero_le _, rfl, by simp, Ho.out, (Ext.refl w).grownBy _⟩
    case round =>
      obtain ⟨k, L, hk, rfl, rfl, hown, hg⟩ := hrel
      by_cases hlt : k < n
      · have hmt : Hid (∀ w : World, Calls Tryd.prog 82 #[.int .i64 (k0 + k)] w fun e w' => ∃ s, e = .returned (.string s) ∧ Ext w w') := fun w => laws_markText (k0 + k) w (by omega) (by omega)
        have Hg := hid hg
        have Hown := hid hown
        clear hg hown
        go_wp2_with fail
        go_at_call 82
        refine (hmt.out _).mono ?_
        rintro e w1 ⟨s, rfl, hx⟩
        have hown1 := own_ext Hown.out hx
        have hg1 := grownBy_trans Hg.out (hx.grownBy _)
        obtain ⟨⟨u, c1⟩, f1⟩ := own_cell hown1 k (by omega)
        go_wp2
        go_roundw
        case rel =>
          have hst := World.ownsRow.stored hown1 k (.string s)
          exact ⟨k + 1, _, by omega, by go_num, by go_num, hst.1, grownBy_trans hg1 hst.2⟩
        case measure => simp [intOf]; omega
      · obtain rfl : k = n := by omega
        go_wp2
        go_ret
        exact ⟨rfl, hg⟩
theorem opened_strs {H : Type} {enc : TypeId × Value → H} {W : World} {v : Value} {d : DataW H} {ps : List MemPlace} {r : Reach} {b : Nat} (hval : Value.okWide Tryd.prog W r b 58 v)
    (h : DataW.Trod enc Tryd.prog W 0 (fun _ => true) true 58 v d ps) : ∃ xs : List ByteArray, Rd W 1 v xs.length (vStrs xs) ∧ xs.length ≤ maxLen ∧ ∀ x ∈ xs, x.size ≤ maxLen := by
  obtain ⟨fuel, h⟩ := h
  obtain ⟨a, len, cap, rfl⟩ := Go.WideShapes.okWide_slice Tryd.underlying58 hval
  obtain ⟨css, h1, h2, h3⟩ := rd_of_trod (d := 3) Tryd.underlying58 (ks := [.s]) (by kernel_rfl) (by kernel_rfl) (by decide) h
  obtain ⟨xs, rfl, hx⟩ := exists_map (f := fun x => [Value.string x]) (ok := fun x => x.size ≤ maxLen) (l := css) (fun cs hcs => by
    obtain ⟨a, rfl, ⟨a, rfl, ha⟩⟩ := (h1 cs hcs).one
    exact ⟨a, rfl, ha⟩)
  have e : vStrs xs = xs.flatMap (fun x => [Value.string x]) := by
    clear h1 h2 h3 hx
    unfold vStrs
    induction xs with
    | nil => rfl
    | cons x xs ih => rw [List.map_cons, List.flatMap_cons, ih]; rfl
  exact ⟨xs, by rw [e]; exact h2.map, by simpa using h3, hx⟩
end Go.Proofs.YtnngklclehffhaaDoor
