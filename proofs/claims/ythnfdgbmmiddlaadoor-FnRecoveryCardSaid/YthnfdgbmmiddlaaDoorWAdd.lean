/- Codes added to parities. -/
import Derived.Test.YthnfdgbmmiddlaaDoorWCode
import Derived.Test.YthnfdgbmmiddlaaDoorWP
import Derived.RegionTactic
import Derived.Deep.AppendLies
namespace Go.Proofs.YthnfdgbmmiddlaaDoor
open Go.RowKit
set_option maxHeartbeats 400000
set_option maxRecDepth 100000
/-- A parity plus a code some times, up to place k. -/
def addTo (P C : List Int) (t : Int) (k : Nat) : List Int := (List.range P.length).map (fun i => if i < k then (P.getD i 0 + t * C.getD i 0) % 27 else 0)
def addL (P C : List Int) (t : Int) : List Int := (List.range P.length).map (fun i => (P.getD i 0 + t * C.getD i 0) % 27)
theorem addTo_len (P C : List Int) (t : Int) (k : Nat) : (addTo P C t k).length = P.length := by simp [addTo]
theorem addL_len (P C : List Int) (t : Int) : (addL P C t).length = P.length := by simp [addL]
theorem addTo_all (P C : List Int) (t : Int) : addTo P C t P.length = addL P C t := by
  unfold addTo addL
  apply List.map_congr_left
  intro i hi
  rw [if_pos (List.mem_range.1 hi)]
theorem addTo_set (P C : List Int) (t : Int) (k : Nat) : (vInts (addTo P C t k)).set k (.int .i64 ((P.getD k 0 + t * C.getD k 0) % 27)) = vInts (addTo P C t (k + 1)) := by
  apply List.ext_getElem (by simp [vInts, addTo])
  intro i h1 h2
  simp only [vInts, addTo, List.getElem_set, List.getElem_map, List.getElem_range]
  split
  · rename_i e; subst e; rw [if_pos (by omega)]
  · rename_i e
    have : (i < k) = (i < k + 1) := by apply propext; omega
    simp only [this]
theorem addL_take (P C : List Int) (t : Int) (k : Nat) (h : k < P.length) : (addL P C t).take (k + 1) = (addL P C t).take k ++ [(P.getD k 0 + t * C.getD k 0) % 27] := by
  rw [take_snoc _ 0 k (by rw [addL_len]; exact h)]
  congr 2
  rw [List.getD_eq_getElem?_getD, addL, List.getElem?_map, List.getElem?_range h]
  rfl
theorem isPar_of {xs : List Int} (h8 : xs.length = 8) (h : ∀ i, i < 8 → 0 ≤ xs.getD i 0 ∧ xs.getD i 0 ≤ 26) : isPar xs = true := by
  rw [isPar_mk, h8]
  simp only [Bool.and_eq_true]
  refine ⟨rfl, List.all_eq_true.2 (fun i hi => ?_)⟩
  have := List.mem_range.1 hi
  exact inB_iff.2 (h i (by omega))
theorem addL_par {P C : List Int} {t : Int} (h : isPar P = true) : isPar (addL P C t) = true := by
  have h8 := isPar_len h
  refine isPar_of (by rw [addL_len, h8]) (fun i hi => ?_)
  rw [List.getD_eq_getElem?_getD, addL, List.getElem?_map, List.getElem?_range (by omega)]
  simp only [Option.map_some, Option.getD_some]
  omega
theorem lc_par {s : ByteArray} (h : itm 8 s = true) : isPar (lc s) = true := isPar_of (lc_len s) (fun i _ => lc_bd h i)
theorem impl_added (P C : List Int) (v u : Value) (t : Int) (w : World) (h : Rd w 1 v P.length (vInts P)) (k : Rd w 1 u C.length (vInts C)) (hP : isPar P = true) (hC : isPar C = true) (ht : 0 ≤ t ∧ t ≤ 26) :
    Calls Tryd.prog 53 #[v, u, .int .i64 t] w fun e w' => ∃ r, e = .returned r ∧ w'.ownsRow w.heap.size 3 1 r (addL P C t).length (vInts (addL P C t)) ∧ Ext w w' := by
  have h8 := isPar_len hP
  have c8 := isPar_len hC
  obtain ⟨h1, p, cap, rfl, h4⟩ := h
  obtain ⟨b, off, rfl, h6⟩ := h4.resolve_left (by omega)
  obtain ⟨k1, p', cap', rfl, k4⟩ := k
  obtain ⟨b', off', rfl, k6⟩ := k4.resolve_left (by omega)
  obtain ⟨i0, hi, hz0, hz1, hz2⟩ := info_parts infoInt
  obtain ⟨w1, hmk, hown0, hg0⟩ := run_make_full (P := Tryd.prog) w w.heap.size 25 3 i0 (.int .i64 0) 1 Tryd.underlying25 hi hz0 hz1 .i64 .i64 8 (by rw [hz2]; omega) (by unfold maxLen; omega) (Nat.le_refl _)
  rw [show ((8 : Nat) : Int) = 8 from rfl] at hmk
  have hx1 : Ext w w1 := (Ext.refl w).grown hg0 (fun k h => by cases h)
  have hz : vInts (addTo P C t 0) = List.replicate 8 (Value.int .i64 0) := by simp [vInts, addTo, h8, List.range_succ]
  have hall := addTo_all P C t
  have hst := fun j => addTo_set P C t j
  have hPg := fun j (hj : j < 8) => isPar_get hP j (by omega)
  have hCg := fun j (hj : j < 8) => isPar_get hC j (by omega)
  have hlen := addL_len P C t
  have hel := fun j (hj : j < 8) => elem1 (Value.int .i64) 0 P h6 j (by omega)
  have hek := fun j (hj : j < 8) => elem1 (Value.int .i64) 0 C k6 j (by omega)
  rw [h8] at hall hlen ⊢
  rw [c8]
  rw [hlen]
  have Hown := hid hown0
  have Hx := hid hx1
  have Hz := hid hz
  have Hall := hid hall
  have Hst := hid hst
  have HPg := hid hPg
  have HCg := hid hCg
  have Hel := hid hel
  have Hek := hid hek
  clear hown0 hx1 hz hall hst hPg hCg hlen hel hek h1 h4 h6 k1 k4 k6 hP hC hg0 h8 c8
  go_enter Tryd.func53, Tryd.ntmps53
  go_wp2
  go_loopw [14] (fun v14 wr => ∃ (k : Nat), k ≤ 8 ∧ v14 = .int .i64 k ∧ wr.ownsRow w.heap.size 3 1 (.slice (some ⟨w.heap.size, 0, none⟩) 8 8) 8 (vInts (addTo P C t k)) ∧ Ext w wr) (fun v14 _ => 8 - (intOf v14).toNat)
  case atStart => exact ⟨0, Nat.zero_le _, rfl, by rw [Hz.out, ← made8]; exact Hown.out, Hx.out⟩
  case round =>
    obtain ⟨k, hk, rfl, hown, hx⟩ := hrel
    by_cases hlt : k < 8
    · have c0 := hx.cell (Hel.out k hlt)
      have c1 := hx.cell (Hek.out k hlt)
      have b0 := HPg.out k hlt
      have b1 := HCg.out k hlt
      have hset := Hst.out k
      obtain ⟨⟨uu, c2⟩, f2⟩ := own_cell hown k (by omega)
      generalize P.getD k 0 = x at c0 b0 hset
      generalize C.getD k 0 = y at c1 b1 hset
      have hm : 0 ≤ t * y ∧ t * y ≤ 676 := ⟨Int.mul_nonneg ht.1 b1.1, Int.le_trans (Int.mul_le_mul ht.2 b1.2 b1.1 (by decide)) (by decide)⟩
      have Hset := hid hset
      have Ho := hid hown
      have Hxx := hid hx
      have n0 : (0 : Int) ≤ (k : Int) := by omega
      have n1 : (k : Int) < 8 := by omega
      have w1 : IntKind.i64.wrap (t * y) = t * y := IntWalk.i64_in _ (by omega)
      have w2 : IntKind.i64.wrap (x + t * y) = x + t * y := IntWalk.i64_in _ (by omega)
      have w3 : (x + t * y).tmod 27 = (x + t * y) % 27 := Int.tmod_eq_emod_of_nonneg (by omega)
      clear hset hown hx
      go_wp2
      go_region
      all_goals
        go_wp2
        go_roundw
        case rel =>
          have hst := World.ownsRow.stored Ho.out k (.int .i64 ((x + t * y) % 27))
          rw [Hset.out] at hst
          exact ⟨k + 1, by omega, by go_num, own_ext hst.1 (Ext.refl _).drew, (Ext.setCell Hxx.out (Nat.le_refl _) _).drew⟩
        case measure => simp [intOf]; omega
    · obtain rfl : k = 8 := by omega
      have K := hid (And.intro hown hx)
      clear hown hx
      go_wp2
      go_ret
      exact ⟨_, rfl, by rw [← Hall.out]; exact K.out.1, K.out.2⟩
theorem sign_eq (x y : Int) : (x + y) % 27 = (x + 1 * y) % 27 ∧ (x + -y) % 27 = (x + 26 * y) % 27 := by omega
theorem spec_l24Add (P : List Int) (v : Value) (s : ByteArray) (sg t : Int) (w : World) (h : Rd w 1 v P.length (vInts P)) (hP : isPar P = true) (hs : itm 8 s = true) (hst : (sg = 1 ∧ t = 1) ∨ (sg = -1 ∧ t = 26)) :
    Calls Tryd.prog 54 #[v, .string s, .int .i64 sg] w fun e w' => ∃ r, e = .returned r ∧ w'.ownsRow w.heap.size 3 1 r (addL P (lc s) t).length (vInts (addL P (lc s) t)) ∧ Ext w w' := by
  have h8 := isPar_len hP
  obtain ⟨h1, p, cap, rfl, h4⟩ := h
  obtain ⟨b, off, rfl, h6⟩ := h4.resolve_left (by omega)
  obtain ⟨i0, hi, hz0, hz1, hz2⟩ := info_parts infoInt
  have hcd := fun w => spec_l24Code s w hs
  have hPg := fun j (hj : j < 8) => isPar_get hP j (by omega)
  have hCg := fun j => lc_bd hs j
  have hC8 := lc_len s
  have htk := fun k (hk : k < 8) => addL_take P (lc s) t k (by omega)
  have hlen := addL_len P (lc s) t
  have hel := fun j (hj : j < 8) => elem1 (Value.int .i64) 0 P h6 j (by omega)
  have hsg := fun x y => sign_eq x y
  generalize lc s = C at *
  rw [h8] at hlen ⊢
  have hl0 : (w.alloc (.cells #[] 3)).ownsRow w.heap.size 3 1 (.slice (some ⟨w.heap.size, 0, none⟩) 0 0) 0 [] := World.ownsRow_lit w #[] 0 (Nat.le_refl _) (Nat.zero_le _) rfl
  generalize hA : addL P C t = A at *
  have Hcd := hid hcd
  have HPg := hid hPg
  have HCg := hid hCg
  have Htk := hid htk
  have Hlen := hid hlen
  have Hel := hid hel
  have Hsg := hid hsg
  have Hl0 := hid hl0
  have HC8 := hid hC8
  have Hst := hid hst
  clear hcd hPg hCg htk hlen hel hsg hl0 hC8 hst h1 h4 h6 hA hP h8 hs
  go_enter Tryd.func54, Tryd.ntmps54
  go_wp2_with fail
  go_at_call 39
  refine (Hcd.out _).mono ?_
  rintro e w1 ⟨r, rfl, ho, hx⟩
  have hq := Rd.own ho
  rw [HC8.out] at hq
  obtain ⟨hq1, q, qc, rfl, q4⟩ := hq
  obtain ⟨b', off', rfl, q6⟩ := q4.resolve_left (by decide)
  have Hek := hid (fun j (hj : j < 8) => elem1 (Value.int .i64) 0 C q6 j (by rw [HC8.out]; exact hj))
  have Hx := hid (show Ext w w1 from ((Ext.refl w).alloc _).trans hx)
  have HL := hid (own_ext Hl0.out hx)
  have hxw := hid hx
  have Hdl := hid (own_row ho b' rfl).1
  clear ho hx hq1 q4 q6
  go_wp2
  go_loopw [9, 7] (fun v9 v7 wr => ∃ (k : Nat), k ≤ 8 ∧ v9 = .int .i64 k ∧ wr.ownsRow w.heap.size 3 1 v7 k (vInts (A.take k)) ∧ Ext w wr ∧ Hid ((∀ j, j < 8 → wr.cell? ⟨b', off' + j, none⟩ = some (.int .i64 (C.getD j 0))) ∧ (∀ j, v7.ownBlock = some j → b' ≠ j))) (fun v9 _ _ => 8 - (intOf v9).toNat)
  case atStart => exact ⟨0, Nat.zero_le _, rfl, HL.out, Hx.out, ⟨Hek.out, fun j hj => by have h9 := Option.some.inj hj; have h8 := Hdl.out; simp at h9 h8; omega⟩⟩
  case round =>
    obtain ⟨k, hk, rfl, hown, hx, hek⟩ := hrel
    by_cases hlt : k < 8
    · have c0 := hx.cell (Hel.out k hlt)
      have c1 := hek.out.1 k hlt
      have hblk := World.block_lt_of_cell? _ _ c1
      have b0 := HPg.out k hlt
      have b1 := HCg.out k
      have hbw := World.block_lt_of_cell? _ _ (Hel.out k hlt)
      have htk := Htk.out k hlt
      have hsg := Hsg.out (P.getD k 0) (C.getD k 0)
      generalize P.getD k 0 = x at c0 b0 htk hsg
      generalize C.getD k 0 = y at c1 b1 htk hsg
      have n0 : (0 : Int) ≤ (k : Int) := by omega
      have n1 : (k : Int) < 8 := by omega
      have Htk2 := hid htk
      have Hown := hid hown
      have Hx2 := hid hx
      clear htk hown hx
      rcases Hst.out with ⟨rfl, rfl⟩ | ⟨rfl, rfl⟩
      · have he := hsg.1
        have w1 : IntKind.i64.wrap (y) = y := IntWalk.i64_in _ (by omega)
        have w2 : IntKind.i64.wrap (x + y) = x + y := IntWalk.i64_in _ (by omega)
        have w3 : IntKind.i64.wrap (x + y + 27) = x + y + 27 := IntWalk.i64_in _ (by omega)
        have w4 : (x + y + 27).tmod 27 = (x + y) % 27 := by rw [Int.tmod_eq_emod_of_nonneg (by omega)]; omega
        have He := hid he
        clear hsg he
        go_wp2
        have XA : Ext wr (wr.alloc (.cells #[.int .i64 ((x + y) % 27)] 3)).drew := ((Ext.refl wr).alloc _).drew
        go_region_held3 (fun w' => w'.cell? ⟨b, off + k, none⟩ = some (.int .i64 x) ∧ w'.cell? ⟨b', off' + k, none⟩ = some (.int .i64 y)) (first | exact ⟨c0, c1⟩ | exact ⟨(Ext.refl wr).drew.cell c0, (Ext.refl wr).drew.cell c1⟩ | exact ⟨XA.cell c0, XA.cell c1⟩ | exact ⟨hgrow.cell (XA.cell c0) (fun e => by have := (Hown.out.lt _ e.symm).1; dsimp only at this; omega), hgrow.cell (XA.cell c1) (fun e => hek.out.2 _ e.symm rfl)⟩)
          ((refine step_append_lies _ (by rfl) _ _ _ (by rfl) w.heap.size 3 i0 _ 1 8 Tryd.underlying25 hi hz0 hz1 hz2 rfl (by omega) _ k (vInts (A.take k)) (by rfl) ((Hown.out.alloc _).drew) ⟨wr.heap.size, 0, none⟩ 1 1 [.int .i64 ((x + y) % 27)] (by rfl) (by rfl) (World.news_of_block (cs := #[.int .i64 ((x + y) % 27)]) (t := 3) (fr := (0, 0)) (heap_alloc_new wr _)) (by simp [Value.oneCell']) (by omega) (by unfold maxLen; omega) (by omega) (by have := Hx2.out.size; simp; omega) (wr.heap.size + 1) (by simp) ?_; intro gg cap5 w5 hown' hgrow hat hlt5))
        have hx5 := Ext.grown (Hx2.out.trans XA) hgrow (fun j hj => (Hown.out.lt j hj).1)
        have hc5 : ∀ j, j < 8 → w5.cell? ⟨b', off' + j, none⟩ = some (.int .i64 (C.getD j 0)) := fun j hj => hgrow.cell (XA.cell (hek.out.1 j hj)) (fun e => hek.out.2 _ e.symm rfl)
        have hd5 : b' ≠ gg := by
          rcases hat with h | h
          · exact hek.out.2 gg h
          · have := hblk; omega
        have K5 := hid (And.intro hown' (And.intro hx5 (And.intro hc5 hd5)))
        clear hown' hx5 hc5 hd5 hgrow hat hlt5 XA w1 w2 w3 w4
        go_wp2
        go_roundw
        case rel => exact ⟨k + 1, by omega, by go_num, by rw [Htk2.out, ← He.out]; simpa [vInts] using K5.out.1, K5.out.2.1, ⟨K5.out.2.2.1, fun j hj => by cases hj; exact K5.out.2.2.2⟩⟩
        case measure => simp [intOf]; omega
      · have he := hsg.2
        have w1 : IntKind.i64.wrap (-y) = -y := IntWalk.i64_in _ (by omega)
        have w2 : IntKind.i64.wrap (x + -y) = x + -y := IntWalk.i64_in _ (by omega)
        have w3 : IntKind.i64.wrap (x + -y + 27) = x + -y + 27 := IntWalk.i64_in _ (by omega)
        have w4 : (x + -y + 27).tmod 27 = (x + -y) % 27 := by rw [Int.tmod_eq_emod_of_nonneg (by omega)]; omega
        have He := hid he
        clear hsg he
        go_wp2
        have XA : Ext wr (wr.alloc (.cells #[.int .i64 ((x + -y) % 27)] 3)).drew := ((Ext.refl wr).alloc _).drew
        go_region_held3 (fun w' => w'.cell? ⟨b, off + k, none⟩ = some (.int .i64 x) ∧ w'.cell? ⟨b', off' + k, none⟩ = some (.int .i64 y)) (first | exact ⟨c0, c1⟩ | exact ⟨(Ext.refl wr).drew.cell c0, (Ext.refl wr).drew.cell c1⟩ | exact ⟨XA.cell c0, XA.cell c1⟩ | exact ⟨hgrow.cell (XA.cell c0) (fun e => by have := (Hown.out.lt _ e.symm).1; dsimp only at this; omega), hgrow.cell (XA.cell c1) (fun e => hek.out.2 _ e.symm rfl)⟩)
          ((refine step_append_lies _ (by rfl) _ _ _ (by rfl) w.heap.size 3 i0 _ 1 8 Tryd.underlying25 hi hz0 hz1 hz2 rfl (by omega) _ k (vInts (A.take k)) (by rfl) ((Hown.out.alloc _).drew) ⟨wr.heap.size, 0, none⟩ 1 1 [.int .i64 ((x + -y) % 27)] (by rfl) (by rfl) (World.news_of_block (cs := #[.int .i64 ((x + -y) % 27)]) (t := 3) (fr := (0, 0)) (heap_alloc_new wr _)) (by simp [Value.oneCell']) (by omega) (by unfold maxLen; omega) (by omega) (by have := Hx2.out.size; simp; omega) (wr.heap.size + 1) (by simp) ?_; intro gg cap5 w5 hown' hgrow hat hlt5))
        have hx5 := Ext.grown (Hx2.out.trans XA) hgrow (fun j hj => (Hown.out.lt j hj).1)
        have hc5 : ∀ j, j < 8 → w5.cell? ⟨b', off' + j, none⟩ = some (.int .i64 (C.getD j 0)) := fun j hj => hgrow.cell (XA.cell (hek.out.1 j hj)) (fun e => hek.out.2 _ e.symm rfl)
        have hd5 : b' ≠ gg := by
          rcases hat with h | h
          · exact hek.out.2 gg h
          · have := hblk; omega
        have K5 := hid (And.intro hown' (And.intro hx5 (And.intro hc5 hd5)))
        clear hown' hx5 hc5 hd5 hgrow hat hlt5 XA w1 w2 w3 w4
        go_wp2
        go_roundw
        case rel => exact ⟨k + 1, by omega, by go_num, by rw [Htk2.out, ← He.out]; simpa [vInts] using K5.out.1, K5.out.2.1, ⟨K5.out.2.2.1, fun j hj => by cases hj; exact K5.out.2.2.2⟩⟩
        case measure => simp [intOf]; omega
    · obtain rfl : k = 8 := by omega
      rw [List.take_of_length_le (by rw [Hlen.out]; exact Nat.le_refl _)] at hown
      have K := hid (And.intro hown hx)
      clear hown hx
      go_wp2
      go_ret
      exact ⟨_, rfl, by rw [Hlen.out]; exact K.out.1, K.out.2⟩
end Go.Proofs.YthnfdgbmmiddlaaDoor
