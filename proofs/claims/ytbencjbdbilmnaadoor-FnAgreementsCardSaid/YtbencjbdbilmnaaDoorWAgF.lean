/- FnAgreements: the parts. -/
import Derived.Test.YtbencjbdbilmnaaDoorWCurE
import Derived.Test.YtbencjbdbilmnaaDoorWAgL
import Derived.Test.YtbencjbdbilmnaaDoorWAgr
import Derived.Test.YtbencjbdbilmnaaDoorWD3
import Derived.Test.YtbencjbdbilmnaaDoorWD4
namespace Go.Proofs.YtbencjbdbilmnaaDoor
open Go.RowKit
set_option maxHeartbeats 1000000
set_option maxRecDepth 100000
theorem agr_iff {xs : List Dlv} (h : areD xs = true) : agrT xs = ALL ↔ (perfect xs).length = xs.length := by
  refine ⟨fun e => ?_, fun e => agr_all h e⟩
  refine Decidable.byContradiction fun h1 => ?_
  by_cases h2 : (perfect xs).length = 0
  · rw [agr_none h h1 h2] at e
    exact absurd (congrArg ByteArray.size e) (by decide)
  · rw [agr_some h h1 h2] at e
    have := congrArg ByteArray.size e
    simp only [ByteArray.size_append] at this
    have e1 : (⟨#[32, 111, 102, 32]⟩ : ByteArray).size = 4 := rfl
    have e2 : (⟨#[32, 114, 101, 99, 101, 105, 118, 101, 114, 115, 32, 104, 97, 118, 101, 32, 101, 118, 101, 114, 121, 116, 104, 105, 110, 103, 46]⟩ : ByteArray).size = 27 := rfl
    have e3 : ALL.size = 30 := rfl
    omega
/-- What the law asks of a good list. -/
theorem agr_law {xs : List Dlv} (h : areD xs = true) : (tot (·.l) xs == 0) = ((agrT xs).toList == ALL.toList) := by
  have h1 := tot_zero xs (fun x hx => by
    obtain ⟨i, hi, rfl⟩ := List.mem_iff_getElem.1 hx
    have := (okD_iff.1 (areD_ok h i hi)).2.2.2.1
    rwa [List.getD_eq_getElem?_getD, List.getElem?_eq_getElem hi] at this)
  have h2 := agr_iff h
  rw [Bool.eq_iff_iff, beq_iff_eq, beq_iff_eq]
  refine ⟨fun e => by rw [h2.2 (h1.1 e)], fun e => h1.2 (h2.1 ?_)⟩
  rw [ByteArray.toList_eq, ByteArray.toList_eq] at e
  exact ByteArray.ext (Array.ext' e)
theorem laws_rInts (xs : List Int) (v u : Value) (w : World) (hv : Rd w 1 v xs.length (vInts xs)) (hu : Rd w 1 u xs.length (vInts xs)) (hn : xs.length ≤ 4294967296) :
    Calls Tryd.prog 21 #[v, u] w fun e w' => e = .returned (.bool true) ∧ Ext w w' := by
  obtain ⟨h1, p, cap, rfl, h4⟩ := hv
  obtain ⟨h1', p', cap', rfl, h4'⟩ := hu
  clear h1 h1'
  have H4 := hid h4; clear h4
  have H4' := hid h4'; clear h4'
  go_enter Tryd.func21, Tryd.ntmps21
  go_wp2
  go_loopw [5] (fun v5 wr => ∃ (k : Nat), k ≤ xs.length ∧ v5 = .int .i64 k ∧ Ext w wr) (fun v5 _ => xs.length - (intOf v5).toNat)
  case atStart => exact ⟨0, Nat.zero_le _, rfl, Ext.refl _⟩
  case round =>
    obtain ⟨k, hk, rfl, z, rfl⟩ := hrel
    by_cases hlt : k < xs.length
    · obtain ⟨b, off, rfl, h6⟩ := H4.out.resolve_left (by omega)
      obtain ⟨b', off', rfl, h6'⟩ := H4'.out.resolve_left (by omega)
      have c0 := elem1 (Value.int .i64) 0 xs h6 k hlt
      have c1 := elem1 (Value.int .i64) 0 xs h6' k hlt
      have H6 := hid h6; clear h6
      have H6' := hid h6'; clear h6'
      go_wp2
      refine wp_region_ext (by kernel_rfl) (by kernel_rfl) ?_
      repeat (go_big_quiet_step ((first | fail)))
      refine wpQuiet_nil ?_
      rintro _ ⟨zq, rfl⟩
      go_wp2
      go_roundw
      case rel => exact ⟨k + 1, by omega, by go_num, ((Ext.refl _).ext _).ext _⟩
      case measure => simp [intOf]; omega
    · go_wp2
      go_ret
      exact ⟨rfl, (Ext.refl _).ext _⟩
/-- The bytes that came in. -/
theorem opened_bytes {H : Type} {enc : TypeId × Value → H} {W : World} {v : Value} {d : DataW H} {ps : List MemPlace} {r : Reach} {b : Nat} (hval : Value.okWide Tryd.prog W r b 36 v)
    (h : DataW.Trod enc Tryd.prog W 0 (fun _ => true) true 36 v d ps) : ∃ xs : List Int, Rd W 1 v xs.length (vBytes xs) ∧ xs.length ≤ maxLen ∧ ∀ x ∈ xs, 0 ≤ x ∧ x ≤ 255 := by
  obtain ⟨fuel, h⟩ := h
  obtain ⟨a, len, cap, rfl⟩ := Go.WideShapes.okWide_slice Tryd.underlying36 hval
  obtain ⟨css, h1, h2, h3⟩ := rd_of_trod (d := 3) Tryd.underlying36 (ks := [.i .u8]) (by kernel_rfl) (by kernel_rfl) (by decide) h
  obtain ⟨xs, rfl, hx⟩ := exists_map (f := fun x => [Value.int .u8 x]) (ok := fun x => 0 ≤ x ∧ x ≤ 255) (l := css) (fun cs hcs => by
    obtain ⟨a, rfl, ⟨a, rfl, hw⟩⟩ := (h1 cs hcs).one
    exact ⟨a, rfl, bounds_u8 hw⟩)
  have e : vBytes xs = xs.flatMap (fun x => [Value.int .u8 x]) := by
    clear h1 h2 h3 hx
    unfold vBytes
    induction xs with
    | nil => rfl
    | cons x xs ih => rw [List.map_cons, List.flatMap_cons, ih]; rfl
  exact ⟨xs, by rw [e]; exact h2.map, by simpa using h3, hx⟩
end Go.Proofs.YtbencjbdbilmnaaDoor
