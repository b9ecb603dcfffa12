/- Library functions on strings, by the shelf's contracts. The octets of a text: both sides' digits. A digit's value: the reference's walk. A function's two results of which the first is a struct in a variable. -/
import Derived.Test.YtljknhocfjpolaaGreatDoorProg
import Derived.Test.YtljknhocfjpolaaGreatDoorJ2
import Derived.Shelf.Small.Strs
import Derived.Shelf.Strings.Search1
import Derived.Test.YtljknhocfjpolaaGreatDoorKWPcL
import Derived.Test.YtljknhocfjpolaaGreatDoorKWRd2
import Derived.Maps.AppendAt
import Derived.Test.YtljknhocfjpolaaGreatDoorJ18
namespace Go.Proofs.YtljknhocfjpolaaGreatDoor
open Go.RowKit
set_option maxRecDepth 100000
def ren137 : Go.Shelf.Ren := ⟨fun x => if x = 137 then 85 else if x = 217 then 116 else if x = 266 then 135 else x, fun x => if x = 3 then 3 else if x = 5 then 5 else if x = 9 then 9 else x, fun x => x⟩
theorem lays137 : Go.Proofs.Lays.n137 Tryz.prog ren137 := by constructor <;> first | kernel_rfl | (intro w; kernel_rfl)
theorem strings_IndexByte (s : ByteArray) (c : Int) (w : World) :
    Calls Tryz.prog 85 #[.string s, .int .u8 c] w fun e w' => e = .returned (.int .i64 (Lib.indexByte s.data.toList c.toNat.toUInt8)) ∧ w = w' :=
  (Any.strings_IndexByte lays137 s c w).mono fun _ _ ⟨h, e⟩ => ⟨h, e.symm⟩
end Go.Proofs.YtljknhocfjpolaaGreatDoor
namespace Go.Proofs.YtljknhocfjpolaaGreatDoor
open Go.RowKit
set_option maxHeartbeats 1000000
set_option maxRecDepth 100000
def docs (s : ByteArray) : List Int := if hexB s then ocs s else []
theorem docs_no {s : ByteArray} (h : hexB s = false) : docs s = [] := by rw [docs, h]; rfl
theorem docs_yes {s : ByteArray} (h : hexB s = true) : docs s = ocs s := by rw [docs, h]; rfl
theorem hexB_odd {s : ByteArray} (h : s.size % 2 = 1) : hexB s = false := by rw [hexB, decide_eq_false (by omega)]; rfl
theorem hexB_bad {s : ByteArray} (i : Nat) (hi : i < s.size) (h : hexV (bt s i) < 0) : hexB s = false := by rw [hexB, hexOk_no i hi h, Bool.and_false]
theorem hexB_good {s : ByteArray} (h : s.size % 2 = 0) (hall : ∀ i, i < s.size → 0 ≤ hexV (bt s i)) : hexB s = true := by
  rw [hexB, decide_eq_true h, Bool.true_and, hexOk, List.all_eq_true]
  exact fun i hi => decide_eq_true (hall i (List.mem_range.1 hi))
theorem u8_back (b : UInt8) : ((b.toNat : Int)).toNat.toUInt8 = b := by rw [Int.toNat_natCast]; simp
theorem bt_at (s : ByteArray) (i : Nat) (h : i < s.size) : s[i] = bt s i := byteS s i h
theorem hex_find (b : UInt8) (w : World) : Calls Tryz.prog 85 #[.string ⟨#[48, 49, 50, 51, 52, 53, 54, 55, 56, 57, 65, 66, 67, 68, 69, 70]⟩, .int .u8 (b.toNat : Int)] w fun e w' => e = .returned (.int .i64 (hexV b)) ∧ w = w' := by
  have := strings_IndexByte HEX (b.toNat : Int) w
  rw [u8_back] at this
  exact this
theorem impl_decodeOctets (s : ByteArray) (w : World) (h : s.size ≤ 1048576) :
    Calls Tryz.prog 120 #[.string s] w fun e w' => ∃ r, e = .returned (.tuple #[r, .bool (hexB s)]) ∧ w'.ownsRow w.heap.size 3 1 r (docs s).length (vInts (docs s)) ∧ Ext w w' := by
  have m0 : (s.size : Int).tmod 2 = (s.size : Int) % 2 := Int.tmod_eq_emod_of_nonneg (by omega)
  by_cases he : s.size % 2 = 1
  · have m1 : (s.size : Int).tmod 2 = 1 := by omega
    have m2 : IntKind.i64.wrap ((s.size : Int).tmod 2) = 1 := by rw [m1]; rfl
    have hn := hexB_odd he
    rw [hn, docs_no hn]
    clear hn he m0
    go_enter Tryz.func120, Tryz.ntmps120
    go_wp2
    go_ret2
    exact ⟨_, rfl, World.ownsRow_nil _ _ _ _, (by repeat' (first | exact Ext.refl _ | assumption | refine Ext.alloc ?_ _ | refine Ext.ext ?_ _ | refine Ext.drew ?_ | refine Ext.drewN ?_ _))⟩
  have m1 : (s.size : Int).tmod 2 = 0 := by omega
  have m2 : IntKind.i64.wrap ((s.size : Int).tmod 2) = 0 := by rw [m1]; rfl
  have He := hid (show s.size % 2 = 0 by omega)
  obtain ⟨i0, hi, hz0, hz1, hz2⟩ := info_parts infoInt
  clear m0 he
  go_enter Tryz.func120, Tryz.ntmps120
  go_wp2
  go_loopw [5, 4] (fun v5 v4 wr => ∃ (j k : Nat) (u : Value), j ≤ s.size ∧ v5 = .int .i64 j ∧ v4 = u ∧ Hid (j = 2 * k) ∧ Hid ((∀ i, i < j → 0 ≤ hexV (bt s i)) ∧ NuW w wr u (octsTo s k))) (fun v5 _ _ => s.size - (intOf v5).toNat)
  case atStart => exact ⟨0, 0, _, Nat.zero_le _, rfl, rfl, rfl, fun i hi => absurd hi (Nat.not_lt_zero _), (by repeat' (first | exact Ext.refl _ | assumption | refine Ext.alloc ?_ _ | refine Ext.ext ?_ _ | refine Ext.drew ?_ | refine Ext.drewN ?_ _)), World.ownsRow_nil _ _ _ _⟩
  case round =>
    obtain ⟨j, k, u, hj, rfl, rfl, Hj, HR⟩ := hrel
    obtain ⟨up, uc, rfl⟩ := own_shape HR.out.2.2
    have hol : (octsTo s k).length ≤ s.size := by rw [octsTo_len]; have := Hj.out; omega
    by_cases hlt : j < s.size
    · have hlt1 : j + 1 < s.size := by have := Hj.out; have := He.out; omega
      have c0 := hid (fun w => hex_find s[j] w)
      have c1 := hid (fun w => hex_find s[j + 1] w)
      have e1 : IntKind.i64.wrap ((j : Int) + 1) = (j : Int) + 1 := IntWalk.i64_in _ (by omega)
      have hp : hexV s[j] = hexV (bt s j) := by rw [bt_at]
      have hq : hexV s[j + 1] = hexV (bt s (j + 1)) := by rw [bt_at]
      have bp := hexV_bd s[j]
      have bq := hexV_bd s[j + 1]
      have hno1 := hid (fun h => hexB_bad (s := s) j hlt h)
      have hno2 := hid (fun h => hexB_bad (s := s) (j + 1) hlt1 h)
      have hst : octAt s k = 16 * hexV s[j] + hexV s[j + 1] := by rw [octAt, ← Hj.out, hp, hq]
      have hsn := octsTo_snoc s k
      rw [hst] at hsn
      rw [← hp] at hno1
      rw [← hq] at hno2
      have Hsn := hid hsn
      have Hall := hid (fun (h1 : 0 ≤ hexV s[j]) (h2 : 0 ≤ hexV s[j + 1]) => show ∀ i, i < j + 2 → 0 ≤ hexV (bt s i) from fun i hi => by
        rcases (show i < j ∨ i = j ∨ i = j + 1 by omega) with h | rfl | rfl
        · exact HR.out.1 i h
        · rwa [hp] at h1
        · rwa [hq] at h2)
      clear hsn hst hp hq
      generalize hexV s[j] = P at *
      generalize hexV s[j + 1] = Q at *
      have i0' : (0 : Int) ≤ (j : Int) + 1 := by omega
      have i1' : (j : Int) + 1 < (s.size : Int) := by omega
      have i2' : ((j : Int) + 1).toNat = j + 1 := by omega
      have k1 : IntKind.i64.wrap (16 * P) = 16 * P := IntWalk.i64_in _ (by omega)
      have k2 : IntKind.i64.wrap (16 * P + Q) = 16 * P + Q := IntWalk.i64_in _ (by omega)
      go_wp2_with fail
      refine wp_region_ext (by kernel_rfl) (by kernel_rfl) ?_
      repeat (go_big_quiet_step ((first | ((go_at_call 85; first | (with_reducible exact Calls.quiet_same (c0.out _)) | (with_reducible exact Calls.quiet_same (c1.out _)))))))
      refine wpQuiet_nil ?_
      rintro _ ⟨zq, rfl⟩
      have H1 := hid (HR.out.2.ext (show Ext wr (wr.ext zq) from ⟨zq, rfl⟩))
      clear c0 c1 HR
      by_cases hP : P < 0
      · have hn := hno1.out hP
        have Hn := hid hn
        clear hn
        go_wp2
        go_ret2
        exact ⟨_, by rw [Hn.out]; rfl, by rw [docs_no Hn.out]; exact World.ownsRow_nil _ _ _ _, H1.out.1⟩
      by_cases hQ : Q < 0
      · have hn := hno2.out hQ
        have Hn := hid hn
        clear hn
        go_wp2
        go_ret2
        exact ⟨_, by rw [Hn.out]; rfl, by rw [docs_no Hn.out]; exact World.ownsRow_nil _ _ _ _, H1.out.1⟩
      have HA := hid (Hall.out (by omega) (by omega))
      clear Hall hno1 hno2 bp bq
      generalize octsTo s k = N at *
      generalize hz : wr.ext zq = W1 at *
      clear hz
      go_wp2_with (at_builtin; refine wpList_append_own _ rfl _ _ 41 rfl w.heap.size 3 i0 (.int .i64 0) 1 8 Tryz.underlying41 hi hz0 hz1 hz2 rfl (by decide) _ _ _ rfl ((own_ext H1.out.2 (by repeat' (first | exact Ext.refl _ | assumption | refine Ext.alloc ?_ _ | refine Ext.ext ?_ _ | refine Ext.drew ?_ | refine Ext.drewN ?_ _)))) ⟨_, 0, none⟩ 1 1 [.int .i64 (16 * P + Q)] rfl ?a0A ?a1A ?a2A ?a3A ?a4A ?a5A ?_)
      (try case a0A => rfl)
      (try case a1A => (intro j u hj; rw [Addr.add_lit, Nat.zero_add, cell_of_row _ _ j _ _ (0, 0) (heap_at _ rfl)]; simpa using hj))
      case a2A => simp [Value.oneCell']
      case a3A => (first | (unfold maxLen; simp; done) | (unfold maxLen; simp; omega))
      case a4A => (first | omega | (simp; omega))
      case a5A => (have := (H1.out.1.size); first | omega | (simp at *; omega))
      intro v' w1 hown' hgrow hat
      have H2 := hid ((H1.out.ext (show Ext W1 (W1.alloc (.cells #[.int .i64 (16 * P + Q)] 3)) from (by repeat' (first | exact Ext.refl _ | assumption | refine Ext.alloc ?_ _ | refine Ext.ext ?_ _ | refine Ext.drew ?_ | refine Ext.drewN ?_ _)))).grow hgrow hown')
      obtain ⟨vp, vc, rfl⟩ := own_shape hown'
      clear hown' hgrow hat
      clear H1
      go_wp2
      go_roundw
      case rel => exact ⟨j + 2, k + 1, _, by omega, by go_num, rfl, by have := Hj.out; show j + 2 = 2 * (k + 1); omega, HA.out, by rw [Hsn.out]; exact H2.out⟩
      case measure => simp [intOf]; omega
    · obtain rfl : j = s.size := by omega
      have hB := hexB_good He.out HR.out.1
      have hK : docs s = octsTo s k := by rw [docs_yes hB, ocs, Hj.out, Nat.mul_div_cancel_left _ (by decide)]
      have HK := hid (And.intro hB hK)
      clear hB hK
      go_wp2
      go_ret2
      exact ⟨_, by rw [HK.out.1]; rfl, by rw [HK.out.2]; exact HR.out.2.2, HR.out.2.1⟩
end Go.Proofs.YtljknhocfjpolaaGreatDoor
namespace Go.Proofs.YtljknhocfjpolaaGreatDoor
open Go.RowKit
set_option maxHeartbeats 1000000
set_option maxRecDepth 100000
theorem hexV_none {b : UInt8} (h : ∀ i, i < 16 → ¬ hxb i = b) : hexV b = -1 := by
  have h1 := (hexV_bd b).1
  by_cases h2 : hexV b = -1
  · exact h2
  · obtain ⟨o, ho⟩ : ∃ o : Nat, Lib.indexByte HEX.data.toList b = o := ⟨(hexV b).toNat, by have : hexV b = Lib.indexByte HEX.data.toList b := rfl; omega⟩
    have h3 := (Lib.indexByte_some ho).1
    have h4 : o < 16 := (List.getElem?_eq_some_iff.1 h3).1
    have h5 := (List.all_eq_true.1 hex_byte_all) o (List.mem_range.2 h4)
    have h6 : HEX.data.toList.getD o 0 = hxb o := by simpa using h5
    rw [List.getD_eq_getElem?_getD, h3] at h6
    exact absurd h6.symm (h o h4)
theorem spec_l4Digit (b : UInt8) (w : World) : Calls Tryz.prog 112 #[.int .u8 (b.toNat : Int)] w fun e w' => e = .returned (.int .i64 (hexV b)) ∧ Ext w w' := by
  go_enter Tryz.func112, Tryz.ntmps112
  go_wp2
  go_loopw [3] (fun v2 wr => ∃ k : Nat, k ≤ 16 ∧ v2 = .int .i64 k ∧ Hid (∀ i, i < k → ¬ hxb i = b) ∧ Ext w wr) (fun v2 _ => 16 - (intOf v2).toNat)
  case atStart => exact ⟨0, Nat.zero_le _, rfl, fun i hi => absurd hi (Nat.not_lt_zero _), (by repeat' (first | exact Ext.refl _ | assumption | refine Ext.alloc ?_ _ | refine Ext.ext ?_ _ | refine Ext.drew ?_ | refine Ext.drewN ?_ _))⟩
  case round =>
    obtain ⟨k, hk, rfl, Hall, hx⟩ := hrel
    have HX := hid hx
    clear hx
    by_cases hlt : k < 16
    · have hix := hex_index k hlt
      by_cases he : hxb k = b
      · have tb := byte_test he
        have hv : hexV b = k := by rw [← he, hexV_hxb hlt]
        have Hv := hid hv
        clear he hv
        go_wp2
        go_ret
        exact ⟨by rw [Hv.out]; rfl, HX.out.trans (by repeat' (first | exact Ext.refl _ | assumption | refine Ext.alloc ?_ _ | refine Ext.ext ?_ _ | refine Ext.drew ?_ | refine Ext.drewN ?_ _))⟩
      · have tb := byte_test_no he
        have Hn := hid he
        clear he
        go_wp2
        go_roundw
        case rel => exact ⟨k + 1, by omega, by go_num, upTo_succ Hall.out Hn.out, HX.out.trans (by repeat' (first | exact Ext.refl _ | assumption | refine Ext.alloc ?_ _ | refine Ext.ext ?_ _ | refine Ext.drew ?_ | refine Ext.drewN ?_ _))⟩
        case measure => simp [intOf]; omega
    · obtain rfl : k = 16 := by omega
      have hv := hexV_none Hall.out
      have Hv := hid hv
      clear hv
      go_wp2
      go_ret
      exact ⟨by rw [Hv.out]; rfl, HX.out.trans (by repeat' (first | exact Ext.refl _ | assumption | refine Ext.alloc ?_ _ | refine Ext.ext ?_ _ | refine Ext.drew ?_ | refine Ext.drewN ?_ _))⟩
end Go.Proofs.YtljknhocfjpolaaGreatDoor
namespace Go
section
variable {P : Program} {fn : Func} {p u : Tmp} {ty : TypeId} {tmps : Array Value} {w : World} {g : Nat} {t : TypeId} {cs : Array Value} {d : TypeDesc} {a : Value}
/-- Two results: a struct in a variable, and a value. -/
theorem results_ct (hp : tmps.getD p undef = .pointer (some ⟨g, 0, none⟩)) (hg : w.heap[g]? = some (.cells cs t (0, 0))) (hu : P.underlying ty = some d) (hd : (match d with | .struct _ | .array _ _ => true | _ => false) = true) (hi : (P.info? ty).map (·.size) = some cs.size)
    (h : fn.results = #[.cell p ty, .tmp u]) (ha : tmps.getD u undef = a) : (results fn tmps).run P w = .ok (.tuple #[.agg cs, a]) w := by
  simp only [Array.getD_eq_getD_getElem?] at hp ha
  simp only [results, h]
  simp [Result.andThen, hp, ha, asAddr, run_loadVar_row w g t ty cs (0, 0) d hg hu hd hi]
end
end Go
namespace Go.RowKit
theorem blkx {W W' : World} {T : Nat} {o : Obj} (ho : W.heap[T]? = some o) (hx : Ext W W') : W'.heap[T]? = some o := (hx.heap (Array.getElem?_eq_some_iff.1 ho).1).trans ho
end Go.RowKit
