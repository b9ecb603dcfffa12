/- Trees: what one call of each function gives. Trees and costs in the laws' own words: copies, comparisons, marks, sizes. Trees and costs that came in. The laws' comparison of lists of pendings. -/
import Derived.Test.YtnngklclehffhaaDoorJ4
import Derived.Test.YtnngklclehffhaaDoorJ2
import Derived.Test.YtnngklclehffhaaDoorKWPn
namespace Go.Proofs.YtnngklclehffhaaDoor
open Go.RowKit
set_option maxHeartbeats 400000
def nodeOk (ps : List Int) (i : Nat) : Bool := if i = 0 then ps.getD 0 0 == -1 else inB (ps.getD i 0) 0 ((i : Int) - 1)
def parentsOk (ps : List Int) : Bool := (List.range ps.length).all (nodeOk ps)
def goodT (ps : List Int) : Bool := parentsOk ps && inB ps.length 2 8
theorem goodT_len {ps : List Int} (h : goodT ps = true) : 2 ≤ ps.length ∧ ps.length ≤ 8 := by
  rw [goodT, Bool.and_eq_true, inB_iff] at h
  omega
theorem goodT_node {ps : List Int} (h : goodT ps = true) (i : Nat) (hi : i < ps.length) : nodeOk ps i = true := by
  rw [goodT, Bool.and_eq_true] at h
  exact (List.all_eq_true.1 h.1) i (List.mem_range.2 hi)
theorem goodT_root {ps : List Int} (h : goodT ps = true) : ps.getD 0 0 = -1 := by
  have := goodT_node h 0 (by have := goodT_len h; omega)
  simpa [nodeOk] using this
theorem goodT_get {ps : List Int} (h : goodT ps = true) (i : Nat) (hi : i < ps.length) (h0 : 0 < i) : 0 ≤ ps.getD i 0 ∧ ps.getD i 0 < i := by
  have := goodT_node h i hi
  rw [nodeOk, if_neg (by omega), inB_iff] at this
  omega
end Go.Proofs.YtnngklclehffhaaDoor
namespace Go.Proofs.YtnngklclehffhaaDoor
open Go.RowKit
set_option maxHeartbeats 400000
end Go.Proofs.YtnngklclehffhaaDoor
namespace Go.Proofs.YtnngklclehffhaaDoor
open Go.RowKit
set_option maxRecDepth 100000
theorem ints_flat (xs : List Int) : vInts xs = xs.flatMap (fun x => [Value.int .i64 x]) := by
  unfold vInts
  induction xs with
  | nil => rfl
  | cons x xs ih => rw [List.map_cons, List.flatMap_cons, ih]; rfl
theorem ints_of_trod {H : Type} {enc : TypeId × Value → H} {W : World} {v : Value} {fuel : Nat} {x : DataW H × List MemPlace}
    (h : DataW.trod enc Tryd.prog W 0 (fun _ => true) true fuel 29 [v] = some x) : ∃ xs : List Int, Rd W 1 v xs.length (vInts xs) ∧ xs.length ≤ maxLen := by
  obtain ⟨css, h1, h2, h3⟩ := rd_of_trod (d := 3) Tryd.underlying29 (ks := [.i .i64]) (by kernel_rfl) (by kernel_rfl) (by decide) h
  obtain ⟨xs, rfl, -⟩ := exists_map (f := fun x => [Value.int .i64 x]) (ok := fun _ => True) (l := css) (fun cs hcs => by
    obtain ⟨a, rfl, ⟨a, rfl, -⟩⟩ := (h1 cs hcs).one
    exact ⟨a, rfl, trivial⟩)
  exact ⟨xs, by rw [ints_flat]; exact h2.map, by simpa using h3⟩
theorem opened_int {W : World} {v : Value} {r : Reach} {b : Nat} (hval : Value.okWide Tryd.prog W r b 3 v) : ∃ n : Int, v = .int .i64 n := by
  obtain ⟨n, rfl, -⟩ := Go.WideShapes.okWide_int Tryd.underlying3 hval
  exact ⟨n, rfl⟩
end Go.Proofs.YtnngklclehffhaaDoor
namespace Go.Proofs.YtnngklclehffhaaDoor
open Go.RowKit
set_option maxHeartbeats 1000000
set_option maxRecDepth 100000
theorem laws_vTexts (xs : List ByteArray) (v u : Value) (w : World) (hv : Rd w 1 v xs.length (vStrs xs)) (hu : Rd w 1 u xs.length (vStrs xs)) (hn : xs.length ≤ 1048576) :
    Calls Tryd.prog 63 #[v, u] w fun e w' => e = .returned (.bool true) ∧ Ext w w' := by
  obtain ⟨h1, p, cap, rfl, h4⟩ := hv
  obtain ⟨h1', p', cap', rfl, h4'⟩ := hu
  clear h1 h1'
  have H4 := hid h4; clear h4
  have H4' := hid h4'; clear h4'
  go_enter Tryd.func63, Tryd.ntmps63
  go_wp2
  go_loopw [5] (fun v5 wr => ∃ (k : Nat), k ≤ xs.length ∧ v5 = .int .i64 k ∧ Ext w wr) (fun v5 _ => xs.length - (intOf v5).toNat)
  case atStart => exact ⟨0, Nat.zero_le _, rfl, Ext.refl _⟩
  case round =>
    obtain ⟨k, hk, rfl, z, rfl⟩ := hrel
    by_cases hlt : k < xs.length
    · obtain ⟨b, off, rfl, h6⟩ := H4.out.resolve_left (by omega)
      obtain ⟨b', off', rfl, h6'⟩ := H4'.out.resolve_left (by omega)
      have c0 := elem1 Value.string ByteArray.empty xs h6 k hlt
      have c1 := elem1 Value.string ByteArray.empty xs h6' k hlt
      have H6 := hid h6; clear h6
      have H6' := hid h6'; clear h6'
      go_wp2
      refine wp_region_ext (by kernel_rfl) (by kernel_rfl) ?_
      repeat (go_big_quiet_step ((first | fail)))
      refine wpQuiet_nil ?_
      rintro _ ⟨zq, rfl⟩
      go_wp2
      go_roundw
      case rel => exact ⟨k + 1, by omega, by go_num, ((Ext.refl _).ext _).ext _⟩
      case measure => simp [intOf]; omega
    · go_wp2
      go_ret
      exact ⟨rfl, (Ext.refl _).ext _⟩
theorem laws_vPendings (ps : List Pnd) (es ds : List Pe) (v u : Value) (w : World) (hv : PRd w v ps es) (hu : PRd w u ps ds) (hn : ps.length ≤ 1048576) (hm : ∀ i, i < ps.length → (ps.getD i .z).d.length ≤ 1048576 ∧ (ps.getD i .z).h.length ≤ 1048576) :
    Calls Tryd.prog 29 #[v, u] w fun e w' => e = .returned (.bool true) ∧ Ext w w' := by
  have Hv := hid hv
  have Hu := hid hu
  have Hm := hid hm
  obtain ⟨p, cap, rfl, h4⟩ := hv.form
  obtain ⟨p', cap', rfl, h4'⟩ := hu.form
  have H4 := hid h4
  have H4' := hid h4'
  clear h4 h4' hv hu hm
  go_enter Tryd.func29, Tryd.ntmps29
  go_wp2
  go_loopw [5] (fun v5 wr => ∃ (k : Nat), k ≤ ps.length ∧ v5 = .int .i64 k ∧ Ext w wr) (fun v5 _ => ps.length - (intOf v5).toNat)
  case atStart => exact ⟨0, Nat.zero_le _, rfl, Ext.refl _⟩
  case round =>
    obtain ⟨k, hk, rfl, z, rfl⟩ := hrel
    by_cases hlt : k < ps.length
    · obtain ⟨b, off, rfl⟩ := H4.out.resolve_left (by omega)
      obtain ⟨b', off', rfl⟩ := H4'.out.resolve_left (by omega)
      obtain ⟨⟨c0, c1, c2⟩, hcr⟩ := Hv.out.at k hlt
      obtain ⟨⟨d0, d1, d2⟩, hdr⟩ := Hu.out.at k hlt
      have hc := hid (fun w a b => laws_vTexts (ps.getD k .z).d (es.getD k .z).u (ds.getD k .z).u w a b (Hm.out k hlt).1)
      have Hcr := hid hcr
      have Hdr := hid hdr
      clear hcr hdr
      have hl := (Hm.out k hlt).2
      generalize ps.getD k .z = G at *
      generalize (es.getD k .z).u = x at *
      generalize (ds.getD k .z).u = y at *
      generalize (es.getD k .z).v = x' at *
      generalize (ds.getD k .z).v = y' at *
      obtain ⟨n, d, h⟩ := G
      dsimp only at c0 d0 hc Hcr Hdr hl
      obtain ⟨-, px, cx, ex, hxx⟩ := Hcr.out.2
      obtain ⟨-, py, cy, ey, hyy⟩ := Hdr.out.2
      subst ex
      subst ey
      obtain ⟨-, pu, cu, eu, -⟩ := Hcr.out.1
      obtain ⟨-, pv, cv, ev, -⟩ := Hdr.out.1
      subst eu
      subst ev
      have HX := hid hxx
      have HY := hid hyy
      clear hxx hyy
      go_wp2
      refine wp_region_ext (by kernel_rfl) (by kernel_rfl) ?_
      repeat (go_big_quiet_step ((first | (go_at_call 63; exact Calls.quiet_ext (hc.out _ (Hcr.out.1.ext (by repeat' (first | exact Ext.refl _ | assumption | refine Ext.alloc ?_ _ | refine Ext.ext ?_ _ | refine Ext.drew ?_ | refine Ext.drewN ?_ _))) (Hdr.out.1.ext (by repeat' (first | exact Ext.refl _ | assumption | refine Ext.alloc ?_ _ | refine Ext.ext ?_ _ | refine Ext.drew ?_ | refine Ext.drewN ?_ _))))))))
      refine wpQuiet_nil ?_
      rintro _ ⟨zq, rfl⟩
      go_wp2
      go_loopw [6] (fun v6 wr => ∃ (j : Nat), j ≤ h.length ∧ v6 = .int .i64 j ∧ Ext w wr) (fun v6 _ => h.length - (intOf v6).toNat)
      case atStart => exact ⟨0, Nat.zero_le _, rfl, (by repeat' (first | exact Ext.refl _ | assumption | refine Ext.alloc ?_ _ | refine Ext.ext ?_ _ | refine Ext.drew ?_ | refine Ext.drewN ?_ _))⟩
      case round =>
        obtain ⟨j, hj, rfl, z2, rfl⟩ := hrel
        by_cases hlt2 : j < h.length
        · obtain ⟨xb, xo, rfl, h6⟩ := HX.out.resolve_left (by omega)
          obtain ⟨yb, yo, rfl, h6'⟩ := HY.out.resolve_left (by omega)
          have e0 := elem1 Value.bool false h h6 j hlt2
          have e1 := elem1 Value.bool false h h6' j hlt2
          have H6 := hid h6; clear h6
          have H6' := hid h6'; clear h6'
          go_wp2
          refine wp_region_ext (by kernel_rfl) (by kernel_rfl) ?_
          repeat (go_big_quiet_step ((first | fail)))
          refine wpQuiet_nil ?_
          rintro _ ⟨zq, rfl⟩
          go_wp2
          go_roundw
          case rel => exact ⟨j + 1, by omega, by go_num, (by repeat' (first | exact Ext.refl _ | assumption | refine Ext.alloc ?_ _ | refine Ext.ext ?_ _ | refine Ext.drew ?_ | refine Ext.drewN ?_ _))⟩
          case measure => simp [intOf]; omega
        · go_wp2
          go_roundw
          case rel => exact ⟨k + 1, by omega, by go_num, (by repeat' (first | exact Ext.refl _ | assumption | refine Ext.alloc ?_ _ | refine Ext.ext ?_ _ | refine Ext.drew ?_ | refine Ext.drewN ?_ _))⟩
          case measure => simp [intOf]; omega
    · go_wp2
      go_ret
      exact ⟨rfl, (Ext.refl _).ext _⟩
end Go.Proofs.YtnngklclehffhaaDoor
