/- The laws' own small words: their comparisons, and the bytes that come in. The laws' comparisons of lists of groups, and of texts. -/
import Derived.Test.YtmblofcaiaeiaaaGreatDoorKWCur
import Derived.Test.YtmblofcaiaeiaaaGreatDoorJ2
import Derived.Test.YtmblofcaiaeiaaaGreatDoorJ5
import Derived.Test.YtmblofcaiaeiaaaGreatDoorJ8
import Derived.Test.YtmblofcaiaeiaaaGreatDoorKWGs6
namespace Go.Proofs.YtmblofcaiaeiaaaGreatDoor
open Go.RowKit
set_option maxHeartbeats 1000000
set_option maxRecDepth 100000
theorem laws_rInts (xs : List Int) (v u : Value) (w : World) (hv : Rd w 1 v xs.length (vInts xs)) (hu : Rd w 1 u xs.length (vInts xs)) (hn : xs.length ≤ 4294967296) :
    Calls Tryz.prog 19 #[v, u] w fun e w' => e = .returned (.bool true) ∧ Ext w w' := by
  obtain ⟨h1, p, cap, rfl, h4⟩ := hv
  obtain ⟨h1', p', cap', rfl, h4'⟩ := hu
  clear h1 h1'
  have H4 := hid h4; clear h4
  have H4' := hid h4'; clear h4'
  go_enter Tryz.func19, Tryz.ntmps19
  go_wp2
  go_loopw [5] (fun v5 wr => ∃ (k : Nat), k ≤ xs.length ∧ v5 = .int .i64 k ∧ Ext w wr) (fun v5 _ => xs.length - (intOf v5).toNat)
  case atStart => exact ⟨0, Nat.zero_le _, rfl, Ext.refl _⟩
  case round =>
    obtain ⟨k, hk, rfl, z, rfl⟩ := hrel
    by_cases hlt : k < xs.length
    · obtain ⟨b, off, rfl, h6⟩ := H4.out.resolve_left (by omega)
      obtain ⟨b', off', rfl, h6'⟩ := H4'.out.resolve_left (by omega)
      have c0 := elem1 (Value.int .i64) 0 xs h6 k hlt
      have c1 := elem1 (Value.int .i64) 0 xs h6' k hlt
      have H6 := hid h6; clear h6
      have H6' := hid h6'; clear h6'
      go_wp2
      refine wp_region_ext (by kernel_rfl) (by kernel_rfl) ?_
      repeat (go_big_quiet_step ((first | fail)))
      refine wpQuiet_nil ?_
      rintro _ ⟨zq, rfl⟩
      go_wp2
      go_roundw
      case rel => exact ⟨k + 1, by omega, by go_num, ((Ext.refl _).ext _).ext _⟩
      case measure => simp [intOf]; omega
    · go_wp2
      go_ret
      exact ⟨rfl, (Ext.refl _).ext _⟩
theorem laws_rBig (n : Nat) (p : Option Addr) (cap : Nat) (w : World) : Calls Tryz.prog 4 #[.slice p n cap] w fun e w' => e = .returned (.bool (decide ((65536 : Int) < (n : Int)))) ∧ w = w' := by
  go_enter Tryz.func4, Tryz.ntmps4
  go_wp2
  go_ret
  simp
/-- The bytes that came in. -/
theorem opened_bytes {H : Type} {enc : TypeId × Value → H} {W : World} {v : Value} {d : DataW H} {ps : List MemPlace} {r : Reach} {b : Nat} (hval : Value.okWide Tryz.prog W r b 22 v)
    (h : DataW.Trod enc Tryz.prog W 0 (fun _ => true) true 22 v d ps) : ∃ xs : List Int, Rd W 1 v xs.length (vBytes xs) ∧ xs.length ≤ maxLen ∧ ∀ x ∈ xs, 0 ≤ x ∧ x ≤ 255 := by
  obtain ⟨fuel, h⟩ := h
  obtain ⟨a, len, cap, rfl⟩ := Go.WideShapes.okWide_slice Tryz.underlying22 hval
  obtain ⟨css, h1, h2, h3⟩ := rd_of_trod (d := 3) Tryz.underlying22 (ks := [.i .u8]) (by kernel_rfl) (by kernel_rfl) (by decide) h
  obtain ⟨xs, rfl, hx⟩ := exists_map (f := fun x => [Value.int .u8 x]) (ok := fun x => 0 ≤ x ∧ x ≤ 255) (l := css) (fun cs hcs => by
    obtain ⟨a, rfl, ⟨a, rfl, hw⟩⟩ := (h1 cs hcs).one
    exact ⟨a, rfl, bounds_u8 hw⟩)
  have e : vBytes xs = xs.flatMap (fun x => [Value.int .u8 x]) := by
    clear h1 h2 h3 hx
    unfold vBytes
    induction xs with
    | nil => rfl
    | cons x xs ih => rw [List.map_cons, List.flatMap_cons, ih]; rfl
  exact ⟨xs, by rw [e]; exact h2.map, by simpa using h3, hx⟩
end Go.Proofs.YtmblofcaiaeiaaaGreatDoor
namespace Go.Proofs.YtmblofcaiaeiaaaGreatDoor
open Go.RowKit
set_option maxHeartbeats 1000000
set_option maxRecDepth 100000
theorem laws_rTexts (xs : List ByteArray) (v u : Value) (w : World) (hv : Rd w 1 v xs.length (vStrs xs)) (hu : Rd w 1 u xs.length (vStrs xs)) (hn : xs.length ≤ 1048576) :
    Calls Tryz.prog 22 #[v, u] w fun e w' => e = .returned (.bool true) ∧ Ext w w' := by
  obtain ⟨h1, p, cap, rfl, h4⟩ := hv
  obtain ⟨h1', p', cap', rfl, h4'⟩ := hu
  clear h1 h1'
  have H4 := hid h4; clear h4
  have H4' := hid h4'; clear h4'
  go_enter Tryz.func22, Tryz.ntmps22
  go_wp2
  go_loopw [5] (fun v5 wr => ∃ (k : Nat), k ≤ xs.length ∧ v5 = .int .i64 k ∧ Ext w wr) (fun v5 _ => xs.length - (intOf v5).toNat)
  case atStart => exact ⟨0, Nat.zero_le _, rfl, Ext.refl _⟩
  case round =>
    obtain ⟨k, hk, rfl, z, rfl⟩ := hrel
    by_cases hlt : k < xs.length
    · obtain ⟨b, off, rfl, h6⟩ := H4.out.resolve_left (by omega)
      obtain ⟨b', off', rfl, h6'⟩ := H4'.out.resolve_left (by omega)
      have c0 := elem1 Value.string .empty xs h6 k hlt
      have c1 := elem1 Value.string .empty xs h6' k hlt
      have H6 := hid h6; clear h6
      have H6' := hid h6'; clear h6'
      generalize xs.getD k .empty = s at *
      have t0 : (s.toList == s.toList) = true := by simp
      go_wp2
      refine wp_region_ext (by kernel_rfl) (by kernel_rfl) ?_
      repeat (go_big_quiet_step ((first | fail)))
      refine wpQuiet_nil ?_
      rintro _ ⟨zq, rfl⟩
      go_wp2
      go_roundw
      case rel => exact ⟨k + 1, by omega, by go_num, ((Ext.refl _).ext _).ext _⟩
      case measure => simp [intOf]; omega
    · go_wp2
      go_ret
      exact ⟨rfl, (Ext.refl _).ext _⟩
theorem laws_rGroups (gs : List Grp) (cs ds : List Gc) (v u : Value) (w : World) (h : GRd w v gs cs) (k : GRd w u gs ds) (hn : gs.length ≤ 1048576) (h3 : ∀ k, k < gs.length → (gs.getD k .z).xs.length ≤ 1048576) :
    Calls Tryz.prog 8 #[v, u] w fun e w' => e = .returned (.bool true) ∧ Ext w w' := by
  have Hv := hid h
  have Ku := hid k
  obtain ⟨p, cap, rfl, h4⟩ := h.form
  obtain ⟨p', cap', rfl, h4'⟩ := k.form
  have H4 := hid h4
  have H4' := hid h4'
  clear h4 h4' h k
  go_enter Tryz.func8, Tryz.ntmps8
  go_wp2
  go_loopw [5] (fun v5 wr => ∃ (k : Nat), k ≤ gs.length ∧ v5 = .int .i64 k ∧ Ext w wr) (fun v5 _ => gs.length - (intOf v5).toNat)
  case atStart => exact ⟨0, Nat.zero_le _, rfl, Ext.refl _⟩
  case round =>
    obtain ⟨k, hk, rfl, z, rfl⟩ := hrel
    by_cases hlt : k < gs.length
    · obtain ⟨b, off, rfl⟩ := H4.out.resolve_left (by omega)
      obtain ⟨b', off', rfl⟩ := H4'.out.resolve_left (by omega)
      obtain ⟨c0, c1⟩ := Hv.out.at k hlt
      obtain ⟨d0, d1⟩ := Ku.out.at k hlt
      have hr := hid ((Hv.out.2.2 k hlt).2)
      have kr := hid ((Ku.out.2.2 k hlt).2)
      have hsz := h3 k hlt
      generalize gs.getD k .z = G at *
      generalize (cs.getD k .z).u = q at *
      generalize (ds.getD k .z).u = q' at *
      obtain ⟨s, xs⟩ := G
      dsimp only at c0 d0 hr kr hsz
      have hc := hid (fun w h k => laws_rInts xs q q' w h k (by omega))
      have t0 : (s.toList == s.toList) = true := by simp
      go_wp2
      refine wp_region_ext (by kernel_rfl) (by kernel_rfl) ?_
      repeat (go_big_quiet_step ((first | (go_at_call 19; exact Calls.quiet_ext (hc.out _ (hr.out.ext (by repeat' (first | exact Ext.refl _ | assumption | refine Ext.alloc ?_ _ | refine Ext.ext ?_ _ | refine Ext.drew ?_ | refine Ext.drewN ?_ _))) (kr.out.ext (by repeat' (first | exact Ext.refl _ | assumption | refine Ext.alloc ?_ _ | refine Ext.ext ?_ _ | refine Ext.drew ?_ | refine Ext.drewN ?_ _))))))))
      refine wpQuiet_nil ?_
      rintro _ ⟨zq, rfl⟩
      go_wp2
      go_roundw
      case rel => exact ⟨k + 1, by omega, by go_num, (by repeat' (first | exact Ext.refl _ | assumption | refine Ext.alloc ?_ _ | refine Ext.ext ?_ _ | refine Ext.drew ?_ | refine Ext.drewN ?_ _))⟩
      case measure => simp [intOf]; omega
    · go_wp2
      go_ret
      exact ⟨rfl, (by repeat' (first | exact Ext.refl _ | assumption | refine Ext.alloc ?_ _ | refine Ext.ext ?_ _ | refine Ext.drew ?_ | refine Ext.drewN ?_ _))⟩
end Go.Proofs.YtmblofcaiaeiaaaGreatDoor
