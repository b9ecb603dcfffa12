/- The laws' helpers on slices of integers: copy, compare, mark, held. General words on bytes and strings. -/
import Derived.Test.YtnngklclehffhaaDoorJ3
import Derived.Test.YtnngklclehffhaaDoorJ2
import Derived.Laws.BytesArg
import Derived.Lib.BufferRead
namespace Go.Proofs.YtnngklclehffhaaDoor
open Go.RowKit
set_option maxHeartbeats 400000
theorem infoInt : (Tryd.prog.info? 3).map (fun i => (i.zero, i.size, i.bytes)) = some (some (.int .i64 0), 1, 8) := by kernel_rfl
theorem infoU8 : (Tryd.prog.info? 5).map (fun i => (i.zero, i.size, i.bytes)) = some (some (.int .u8 0), 1, 1) := by kernel_rfl
def vInts (xs : List Int) : List Value := xs.map (Value.int .i64)
theorem vInts_len (xs : List Int) : (vInts xs).length = xs.length := by simp [vInts]
theorem vInts_get (xs : List Int) (i : Nat) (h : i < xs.length) : (vInts xs)[i]? = some (.int .i64 (xs.getD i 0)) := by
  simp [vInts, h]
theorem laws_eqIntS (xs : List Int) (v u : Value) (w : World) (hv : Rd w 1 v xs.length (vInts xs)) (hu : Rd w 1 u xs.length (vInts xs)) (hn : xs.length ≤ 4294967296) :
    Calls Tryd.prog 16 #[v, u] w fun e w' => e = .returned (.bool true) ∧ Ext w w' := by
  obtain ⟨h1, p, cap, rfl, h4⟩ := hv
  obtain ⟨h1', p', cap', rfl, h4'⟩ := hu
  clear h1 h1'
  have H4 := hid h4; clear h4
  have H4' := hid h4'; clear h4'
  go_enter Tryd.func16, Tryd.ntmps16
  go_wp2
  go_loopw [5] (fun v5 wr => ∃ (k : Nat), k ≤ xs.length ∧ v5 = .int .i64 k ∧ Ext w wr) (fun v5 _ => xs.length - (intOf v5).toNat)
  case atStart => exact ⟨0, Nat.zero_le _, rfl, Ext.refl _⟩
  case round =>
    obtain ⟨k, hk, rfl, z, rfl⟩ := hrel
    by_cases hlt : k < xs.length
    · obtain ⟨b, off, rfl, h6⟩ := H4.out.resolve_left (by omega)
      obtain ⟨b', off', rfl, h6'⟩ := H4'.out.resolve_left (by omega)
      have c0 := elem1 (Value.int .i64) 0 xs h6 k hlt
      have c1 := elem1 (Value.int .i64) 0 xs h6' k hlt
      have H6 := hid h6; clear h6
      have H6' := hid h6'; clear h6'
      go_wp2
      refine wp_region_ext (by kernel_rfl) (by kernel_rfl) ?_
      repeat (go_big_quiet_step ((first | fail)))
      refine wpQuiet_nil ?_
      rintro _ ⟨zq, rfl⟩
      go_wp2
      go_roundw
      case rel => exact ⟨k + 1, by omega, by go_num, ((Ext.refl _).ext _).ext _⟩
      case measure => simp [intOf]; omega
    · go_wp2
      go_ret
      exact ⟨rfl, (Ext.refl _).ext _⟩
def marks : Nat → Int → List Int
  | 0, _ => []
  | n + 1, k => k :: marks n (k + 1)
theorem marks_len (n : Nat) (k : Int) : (marks n k).length = n := by
  induction n generalizing k with
  | zero => rfl
  | succ n ih => simp [marks, ih]
theorem marks_getD (n : Nat) (k : Int) (i : Nat) (h : i < n) : (marks n k).getD i 0 = k + i := by
  induction n generalizing k i with
  | zero => omega
  | succ n ih =>
    cases i with
    | zero => simp [marks]
    | succ i => simp only [marks, List.getD_cons_succ]; rw [ih _ _ (by omega)]; omega
theorem marks_get (n : Nat) (k : Int) (i : Nat) (h : i < n) : (vInts (marks n k))[i]? = some (.int .i64 (k + i)) := by
  rw [vInts_get _ _ (by rw [marks_len]; exact h), marks_getD _ _ _ h]
theorem laws_markIntS (n : Nat) (cs : List Value) (v : Value) (k0 : Int) (w : World) (B : Nat) (ho : w.ownsRow B 3 1 v n cs) (hn : n ≤ 1099511627776) (hk0 : 0 ≤ k0) (hk1 : k0 ≤ 1099511627776) :
    Calls Tryd.prog 18 #[v, .int .i64 k0] w fun e w' => e = .returned (.int .i64 (k0 + n)) ∧ w'.ownsRow B 3 1 v n (vInts (marks n k0)) ∧ w.grownBy w' v.ownBlock := by
  have ho' := ho
  obtain ⟨h1, ⟨rfl, rfl⟩ | ⟨g, cap, cur, rfl, hB, _⟩⟩ := ho
  · go_enter Tryd.func18, Tryd.ntmps18
    go_wp2
    refine wp_loop_rounds 1 ?_
    rw [rounds_succ]
    go_wp2
    go_ret
    exact ⟨by simp, World.ownsRow_nil _ _ _ _, (Ext.refl w).grownBy _⟩
  · clear h1 hB
    have Ho := hid ho'; clear ho'
    go_enter Tryd.func18, Tryd.ntmps18
    go_wp2
    go_loopw [5, 1] (fun v5 v1 wr => ∃ (k : Nat) (L : List Value), k ≤ n ∧ v5 = .int .i64 k ∧ v1 = .int .i64 (k0 + k) ∧ wr.ownsRow B 3 1 (.slice (some ⟨g, 0, none⟩) n cap) n L ∧ Agree L (vInts (marks n k0)) k ∧ w.grownBy wr (some g)) (fun v5 _ _ => n - (intOf v5).toNat)
    case atStart => exact ⟨0, cs, Nat.zero_le _, rfl, by simp, Ho.out, Agree.zero (by rw [vInts_len, marks_len]; simpa using Ho.out.1), (Ext.refl w).grownBy _⟩
    case round =>
      obtain ⟨k, L, hk, rfl, rfl, hown, hag, hg⟩ := hrel
      have Hag := hid hag; clear hag
      by_cases hlt : k < n
      · obtain ⟨⟨u, c1⟩, f1⟩ := own_cell hown k (by omega)
        go_wp2
        go_roundw
        case rel =>
          have hst := World.ownsRow.stored hown k (.int .i64 (k0 + k))
          exact ⟨k + 1, _, by omega, by go_num, by go_num, hst.1, Hag.out.set (marks_get n k0 k hlt), grownBy_trans hg hst.2⟩
        case measure => simp [intOf]; omega
      · have hL : L = vInts (marks n k0) := Hag.out.all' (by rw [vInts_len, marks_len]; omega)
        subst hL
        obtain rfl : k = n := by omega
        go_wp2
        go_ret
        exact ⟨rfl, hown, hg⟩
theorem laws_heldIntS (n : Nat) (v : Value) (k0 : Int) (w : World) (hv : Rd w 1 v n (vInts (marks n k0))) (hn : n ≤ 1099511627776) (hk0 : 0 ≤ k0) (hk1 : k0 ≤ 1099511627776) :
    Calls Tryd.prog 19 #[v, .int .i64 k0] w fun e w' => e = .returned (.int .i64 (k0 + n)) ∧ Ext w w' := by
  obtain ⟨h1, p, cap, rfl, h4⟩ := hv
  clear h1
  have H4 := hid h4; clear h4
  go_enter Tryd.func19, Tryd.ntmps19
  go_wp2
  go_loopw [5, 1] (fun v5 v1 wr => ∃ (k : Nat), k ≤ n ∧ v5 = .int .i64 k ∧ v1 = .int .i64 (k0 + k) ∧ Ext w wr) (fun v5 _ _ => n - (intOf v5).toNat)
  case atStart => exact ⟨0, Nat.zero_le _, rfl, by simp, Ext.refl _⟩
  case round =>
    obtain ⟨k, hk, rfl, rfl, z, rfl⟩ := hrel
    by_cases hlt : k < n
    · obtain ⟨b, off, rfl, h6⟩ := H4.out.resolve_left (by omega)
      have c0 := elem1 (Value.int .i64) 0 _ h6 k (by rw [marks_len]; exact hlt)
      rw [marks_getD _ _ _ hlt] at c0
      have H6 := hid h6; clear h6
      go_wp2
      go_roundw
      case rel => exact ⟨k + 1, by omega, by go_num, by go_num, (Ext.refl _).ext _⟩
      case measure => simp [intOf]; omega
    · obtain rfl : k = n := by omega
      go_wp2
      go_ret
      exact ⟨rfl, (Ext.refl _).ext _⟩
set_option maxRecDepth 100000 in
/-- A slice of ints that came in. -/
theorem opened_ints {H : Type} {enc : TypeId × Value → H} {W : World} {v : Value} {d : DataW H} {ps : List MemPlace} {r : Reach} {b : Nat} (hval : Value.okWide Tryd.prog W r b 29 v)
    (h : DataW.Trod enc Tryd.prog W 0 (fun _ => true) true 29 v d ps) : ∃ xs : List Int, Rd W 1 v xs.length (vInts xs) ∧ xs.length ≤ maxLen := by
  obtain ⟨fuel, h⟩ := h
  obtain ⟨a, len, cap, rfl⟩ := Go.WideShapes.okWide_slice Tryd.underlying29 hval
  obtain ⟨css, h1, h2, h3⟩ := rd_of_trod (d := 3) Tryd.underlying29 (ks := [.i .i64]) (by kernel_rfl) (by kernel_rfl) (by decide) h
  obtain ⟨xs, rfl, -⟩ := exists_map (f := fun x => [Value.int .i64 x]) (ok := fun _ => True) (l := css) (fun cs hcs => by
    obtain ⟨a, rfl, ⟨a, rfl, -⟩⟩ := (h1 cs hcs).one
    exact ⟨a, rfl, trivial⟩)
  have e : vInts xs = xs.flatMap (fun x => [Value.int .i64 x]) := by
    clear h1 h2 h3
    unfold vInts
    induction xs with
    | nil => rfl
    | cons x xs ih => rw [List.map_cons, List.flatMap_cons, ih]; rfl
  exact ⟨xs, by rw [e]; exact h2.map, by simpa using h3⟩
end Go.Proofs.YtnngklclehffhaaDoor
namespace Go.RowKit
def vBytes (l : List UInt8) : List Value := l.map (fun b => Value.int .u8 (b.toNat : Int))
theorem vBytes_len (l : List UInt8) : (vBytes l).length = l.length := by simp [vBytes]
/-- string(b) of a slice that reads as the bytes l. -/
theorem conv_rd {P : Program} {w : World} {src dst e : TypeId} {v : Value} {l : List UInt8} {n : Nat} (hs : P.underlying src = some (.slice e)) (he : P.underlying e = some (.int .u8)) (hd : P.underlying dst = some .string)
    (h : Rd w 1 v n (vBytes l)) : (convert src dst v).run P w = .ok (.string ⟨l.toArray⟩) w := by
  obtain ⟨h1, p, cap, rfl, h4⟩ := h
  obtain rfl : n = l.length := by rw [vBytes_len] at h1; omega
  rcases h4 with h0 | ⟨b, off, rfl, h6⟩
  · obtain rfl : l = [] := List.eq_nil_of_length_eq_zero h0
    cases p with
    | none => exact Lib.run_convert_nil_bytes w src dst e cap hs he hd
    | some a => exact run_convert_bytes_back w src dst e a cap [] hs he hd (fun j hj => by simp at hj)
  · refine run_convert_bytes_back w src dst e ⟨b, off, none⟩ cap l hs he hd (fun j hj => ?_)
    have := h6 j (by rw [vBytes_len]; exact hj)
    have hplain : (⟨b, off, none⟩ : Addr).add j = ⟨b, off + j, none⟩ := by unfold Addr.add; split <;> simp_all
    rw [hplain, this]
    simp [vBytes]
end Go.RowKit
