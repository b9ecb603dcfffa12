/- The library's variables that reading numbers and splitting texts look at, carried along. The laws' helpers on slices of strings: copy, compare, size, mark. -/
import Derived.Test.YtljknhocfjpolaaGreatDoorJ3
import Derived.Test.YtljknhocfjpolaaGreatDoorProg
import Derived.Test.YtljknhocfjpolaaGreatDoorRows
import Derived.Stop.LaidErr
import Derived.Look8
import Derived.Shelf.Vars
import Derived.BarOnce
import Derived.Test.YtljknhocfjpolaaGreatDoorJ2
namespace Go.Proofs.YtljknhocfjpolaaGreatDoor
open Go.RowKit
def Vrs (w : World) : Prop := (∃ m, w.cell? ⟨0, 0, none⟩ = some (.int .i64 m)) ∧ (∃ tp p, w.var? Tryz.prog "strconv.ErrSyntax" = some #[.iface tp p]) ∧ ∃ tp p, w.var? Tryz.prog "strconv.ErrRange" = some #[.iface tp p]
theorem Vrs.ext {w w' : World} (h : Vrs w) (hx : Ext w w') : Vrs w' := by
  obtain ⟨⟨m, h1⟩, ⟨t2, p2, h2⟩, t3, p3, h3⟩ := h
  refine ⟨⟨m, hx.cell h1⟩, ⟨t2, p2, ?_⟩, t3, p3, ?_⟩
  · obtain ⟨z, rfl⟩ := hx
    exact World.var?_append (bs := z.x) rfl h2
  · obtain ⟨z, rfl⟩ := hx
    exact World.var?_append (bs := z.x) rfl h3
theorem star_es : "*" ++ "errors.errorString" = "*errors.errorString" := by decide
theorem row_es (u : TypeId) (h : Tryz.prog.typeName? 3 u = some "*errors.errorString") : u = 169 :=
  typeName_ptr_named (nm := "errors.errorString") (by rw [star_es]; kernel_rfl) (by kernel_rfl) (by decide) u (by rw [star_es]; exact h)
theorem vrs_of {W : World} (hsh : W.ShapedOpen Tryz.prog) {r1 r2 : List (String × DataW Unit)} (h1 : laidMet Tryz.prog (("strconv.ErrRange", Rows.laid_strconv_ErrRange) :: r1) W) (h2 : laidMet Tryz.prog (("strconv.ErrSyntax", Rows.laid_strconv_ErrSyntax) :: r2) W) : Vrs W := by
  obtain ⟨a1, s1, hv1, -⟩ := laid_sentinel (g := 5) (ti := 118) (tp := 169) (te := 171) (ts := 9) h1 (by kernel_rfl) (by kernel_rfl) Tryz.underlying118 row_es Tryz.underlying169 Tryz.underlying171 rfl rfl (by kernel_rfl) (by kernel_rfl) (by kernel_rfl)
  obtain ⟨a2, s2, hv2, -⟩ := laid_sentinel (g := 4) (ti := 118) (tp := 169) (te := 171) (ts := 9) h2 (by kernel_rfl) (by kernel_rfl) Tryz.underlying118 row_es Tryz.underlying169 Tryz.underlying171 rfl rfl (by kernel_rfl) (by kernel_rfl) (by kernel_rfl)
  exact ⟨cell_of_shapedOpen_int (zero := #[.int .i64 0]) (t := 3) hsh (by decide +kernel) (by kernel_rfl) rfl (by kernel_rfl) (by kernel_rfl) (by kernel_rfl), ⟨_, _, hv2⟩, ⟨_, _, hv1⟩⟩
end Go.Proofs.YtljknhocfjpolaaGreatDoor
namespace Go.Proofs.YtljknhocfjpolaaGreatDoor
open Go.RowKit
set_option maxHeartbeats 400000
set_option maxRecDepth 100000
theorem infoStr : (Tryz.prog.info? 9).map (fun i => (i.zero, i.size, i.bytes)) = some (some (.string ByteArray.empty), 1, 16) := by kernel_rfl
def vStrs (xs : List ByteArray) : List Value := xs.map Value.string
theorem vStrs_len (xs : List ByteArray) : (vStrs xs).length = xs.length := by simp [vStrs]
theorem vStrs_get (xs : List ByteArray) (i : Nat) (h : i < xs.length) : (vStrs xs)[i]? = some (.string (xs.getD i ByteArray.empty)) := by
  simp [vStrs, h]
def chars (xs : List ByteArray) : Nat := (xs.map ByteArray.size).sum
theorem chars_take (xs : List ByteArray) (k : Nat) (h : k < xs.length) : chars (xs.take (k + 1)) = chars (xs.take k) + (xs.getD k ByteArray.empty).size := by
  rw [take_snoc xs ByteArray.empty k h]
  simp [chars]
theorem chars_le (xs : List ByteArray) (k : Nat) : chars (xs.take k) ≤ chars xs := by
  have : chars xs = chars (xs.take k) + chars (xs.drop k) := by
    unfold chars
    rw [← List.sum_append, ← List.map_append, List.take_append_drop]
  omega
theorem laws_markText (k : Int) (w : World) (hk : 0 < k) (hk1 : k ≤ 1099511627776) :
    Calls Tryz.prog 45 #[.int .i64 k] w fun e w' => ∃ s, e = .returned (.string s) ∧ Ext w w' := by
  have t0 : decide (k ≤ 0) = false := by simp; omega
  go_enter Tryz.func45, Tryz.ntmps45
  go_wp2
  go_loopw [0, 3] (fun v0 v3 wr => ∃ (m : Nat) (s : ByteArray), s.size + m ≤ 1099511627776 ∧ v0 = .int .i64 m ∧ v3 = .string s ∧ Ext w wr) (fun v0 _ _ => (intOf v0).toNat)
  case atStart => exact ⟨k.toNat, ByteArray.empty, by simp; omega, by rw [Int.toNat_of_nonneg (by omega)], rfl, Ext.refl _⟩
  case round =>
    obtain ⟨m, s, hm, rfl, rfl, hx⟩ := hrel
    have Hx := hid hx
    clear hx
    have hs1 : ¬ 9223372036854775807 < 1 + s.size := by omega
    by_cases h0 : 0 < m
    · have t1 : decide ((0 : Int) < m) = true := by simp; omega
      have w1 : IntKind.i64.wrap (48 + (m : Int) % 10) = 48 + (m : Int) % 10 := IntWalk.i64_in _ (by omega)
      have w2 : IntKind.u8.wrap (48 + (m : Int) % 10) = 48 + (m : Int) % 10 := by
        exact IntWalk.u8_in _ (by omega)
      have hb : ((UInt8.ofNat (48 + m % 10)).toNat : Int) = 48 + (m : Int) % 10 := by
        rw [UInt8.toNat_ofNat_of_lt' (by show _ < 256; omega)]
        omega
      have hr : Rd (wr.alloc (.cells #[.int .u8 (48 + (m : Int) % 10)] 5)) 1 (.slice (some ⟨wr.heap.size, 0, none⟩) 1 1) 1 (vBytes [UInt8.ofNat (48 + m % 10)]) := by
        have := Rd.own (World.ownsRow_lit (base := 0) (e := 5) (size := 1) wr #[.int .u8 (48 + (m : Int) % 10)] 1 (Nat.zero_le _) (by decide) rfl)
        have e : vBytes [UInt8.ofNat (48 + m % 10)] = [.int .u8 (48 + (m : Int) % 10)] := by simp only [vBytes, List.map_cons, List.map_nil, hb]
        rw [e]
        simpa using this
      have hcv := conv_rd (P := Tryz.prog) Tryz.underlying28 Tryz.underlying5 Tryz.underlying9 hr
      clear hr hb
      go_wp2
      go_roundw
      case rel =>
        refine ⟨m / 10, _, ?_, by go_num, rfl, Hx.out.alloc _⟩
        rw [ByteArray.size_append]
        show 1 + s.size + m / 10 ≤ _
        omega
      case measure => simp [intOf]; omega
    · obtain rfl : m = 0 := by omega
      go_wp2
      go_ret
      exact ⟨_, rfl, Hx.out⟩
theorem opened_strs {H : Type} {enc : TypeId × Value → H} {W : World} {v : Value} {d : DataW H} {ps : List MemPlace} {r : Reach} {b : Nat} (hval : Value.okWide Tryz.prog W r b 53 v)
    (h : DataW.Trod enc Tryz.prog W 0 (fun _ => true) true 53 v d ps) : ∃ xs : List ByteArray, Rd W 1 v xs.length (vStrs xs) ∧ xs.length ≤ maxLen ∧ ∀ x ∈ xs, x.size ≤ maxLen := by
  obtain ⟨fuel, h⟩ := h
  obtain ⟨a, len, cap, rfl⟩ := Go.WideShapes.okWide_slice Tryz.underlying53 hval
  obtain ⟨css, h1, h2, h3⟩ := rd_of_trod (d := 3) Tryz.underlying53 (ks := [.s]) (by kernel_rfl) (by kernel_rfl) (by decide) h
  obtain ⟨xs, rfl, hx⟩ := exists_map (f := fun x => [Value.string x]) (ok := fun x => x.size ≤ maxLen) (l := css) (fun cs hcs => by
    obtain ⟨a, rfl, ⟨a, rfl, ha⟩⟩ := (h1 cs hcs).one
    exact ⟨a, rfl, ha⟩)
  have e : vStrs xs = xs.flatMap (fun x => [Value.string x]) := by
    clear h1 h2 h3 hx
    unfold vStrs
    induction xs with
    | nil => rfl
    | cons x xs ih => rw [List.map_cons, List.flatMap_cons, ih]; rfl
  exact ⟨xs, by rw [e]; exact h2.map, by simpa using h3, hx⟩
end Go.Proofs.YtljknhocfjpolaaGreatDoor
