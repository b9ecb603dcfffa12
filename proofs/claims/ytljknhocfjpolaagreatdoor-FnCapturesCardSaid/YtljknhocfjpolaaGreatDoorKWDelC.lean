/- slices.DeleteFunc and slices.Clone at slices of elements of eight cells, whatever the function value. -/
import Derived.Test.YtljknhocfjpolaaGreatDoorJ11
import Derived.Test.YtljknhocfjpolaaGreatDoorJ2
import Derived.Lib.SliceRun
import Derived.Shelf.SlicesE.Clone
namespace Go.Proofs.YtljknhocfjpolaaGreatDoor
open Go.RowKit
set_option maxHeartbeats 1000000
set_option maxRecDepth 100000
theorem run_clear_wide {P : Program} (w : World) (t e : TypeId) (z : Value) (k : Nat) (ht : P.underlying t = some (.slice e)) (hv : ∀ w, (zeroValue e).run P w = .ok z w) (hk : z.cells.size = k) (h0 : 0 < k) (h1 : ∀ u ∈ z.cells, u.oneCell' = true) (b o n c : Nat) (hn : 0 < n)
    (hc : ∀ j, j < n * k → (w.cell? ⟨b, o + j, none⟩).isSome = true) (hf : ∀ j, j < n * k → w.frozen? ⟨b, o + j, none⟩ = false) :
    ∃ vs : List Value, vs.length = n * k ∧ ∀ ty, (Builtin.clear_ #[t] ty #[.slice (some ⟨b, o, none⟩) n c]).run P w = .ok (.tuple #[]) (w.setCells b o vs) := by
  have hl : (Builtin.zeroCells z.cells n).toList.length = n * k := by simp [Builtin.zeroCells, hk]
  refine ⟨(Builtin.zeroCells z.cells n).toList, hl, fun ty => ?_⟩
  have hst := run_storeCells_cells (P := P) b o (Builtin.zeroCells z.cells n).toList 0 w (by rw [hl]; simpa using hc) (by rw [hl]; simpa using hf) (by
    intro v hv'
    simp only [Builtin.zeroCells, Array.toList_map, List.mem_map] at hv'
    obtain ⟨i, -, rfl⟩ := hv'
    have hlt : i % z.cells.size < z.cells.size := Nat.mod_lt _ (by omega)
    rw [getElem!_pos z.cells _ hlt]
    exact h1 _ (Array.getElem_mem hlt))
  simp only [Nat.add_zero] at hst
  obtain ⟨m, rfl⟩ : ∃ m, n = m + 1 := ⟨n - 1, by omega⟩
  simp [Builtin.clear_, run_underlying ht, hv, hst]
theorem own_trunc8 {w : World} {base e n g cap i : Nat} {cs : List Value} (h : w.ownsRow base e 8 (.slice (some ⟨g, 0, none⟩) n cap) n cs) (hi : i ≤ n) : w.ownsRow base e 8 (.slice (some ⟨g, 0, none⟩) i cap) i (cs.take (i * 8)) := by
  obtain ⟨h1, ⟨h2, -⟩ | ⟨g', c, cur, h2, hB, hh, hn', hc, hs, ht⟩⟩ := h
  · cases h2
  · cases h2
    refine ⟨by simp [h1]; omega, .inr ⟨g, cap, cur, rfl, hB, hh, by omega, hc, hs, ?_⟩⟩
    rw [← ht, List.take_take]; congr 1; omega
theorem own_form8 {w : World} {base e k n : Nat} {v : Value} {cs : List Value} (h : w.ownsRow base e k v n cs) (hn : 0 < n) : ∃ g cap, v = .slice (some ⟨g, 0, none⟩) n cap ∧ n ≤ cap ∧ cap ≤ maxLen := by
  obtain ⟨h1, ⟨rfl, h0⟩ | ⟨g, cap, cur, rfl, hB, hh, hnc, hcm, _⟩⟩ := h
  · omega
  · exact ⟨g, cap, rfl, hnc, hcm⟩
theorem flat_take (xs : List Cap) (k : Nat) (h : k ≤ xs.length) : (xs.flatMap Cap.cs).take (k * 8) = (xs.take k).flatMap Cap.cs := by
  have h1 : xs.flatMap Cap.cs = (xs.take k).flatMap Cap.cs ++ (xs.drop k).flatMap Cap.cs := by rw [← List.flatMap_append, List.take_append_drop]
  have h2 : ((xs.take k).flatMap Cap.cs).length = k * 8 := by rw [caps_len, List.length_take, Nat.min_eq_left h]
  rw [h1, ← h2, List.take_left]
/-- What stands in the row while it is thinned out: i kept of the first j. -/
def ThinC (p : Cap → Bool) (xs : List Cap) (j i : Nat) (L : List Value) : Prop :=
  L.length = xs.length * 8 ∧ i = ((xs.take j).filter (fun x => !p x)).length ∧ L.take (i * 8) = ((xs.take j).filter (fun x => !p x)).flatMap Cap.cs ∧ L.drop (j * 8) = (xs.flatMap Cap.cs).drop (j * 8)
theorem ThinC.lt {p xs j i L} (h : ThinC p xs j i L) : i ≤ j := by
  rw [h.2.1]; exact Nat.le_trans (List.length_filter_le _ _) (by simp; omega)
theorem ThinC.at_ {p xs j i L} (h : ThinC p xs j i L) (hj : j < xs.length) (t : Nat) (ht : t < 8) : L[j * 8 + t]? = (xs.getD j .z).cs[t]? := by
  have := congrArg (fun l => l[t]?) h.2.2.2
  simp only [List.getElem?_drop] at this
  rw [this, caps_get xs j hj t ht]
theorem ThinC.start {p xs k} (hk : k < xs.length) (hall : ∀ i, i < k → p (xs.getD i .z) = false) (hx : p (xs.getD k .z) = true) : ThinC p xs (k + 1) k (xs.flatMap Cap.cs) := by
  have e1 : (xs.take k).filter (fun x => !p x) = xs.take k := by
    rw [List.filter_eq_self]
    intro x hxm
    obtain ⟨i, hi, rfl⟩ := List.mem_iff_getElem.1 hxm
    rw [List.length_take] at hi
    have := hall i (by omega)
    rw [List.getD_eq_getElem?_getD, List.getElem?_eq_getElem (by omega)] at this
    rw [List.getElem_take]
    simpa using this
  have e2 : (xs.take (k + 1)).filter (fun x => !p x) = xs.take k := by
    rw [take_snoc xs .z k hk, List.filter_append, e1]
    simp only [List.filter_cons, hx]
    simp
  refine ⟨caps_len xs, ?_, ?_, rfl⟩
  · rw [e2]; simp; omega
  · rw [e2, flat_take xs k (by omega)]
theorem ThinC.skip {p xs j i L} (h : ThinC p xs j i L) (hj : j < xs.length) (hx : p (xs.getD j .z) = true) : ThinC p xs (j + 1) i L := by
  have e : (xs.take (j + 1)).filter (fun x => !p x) = (xs.take j).filter (fun x => !p x) := by
    rw [take_snoc xs .z j hj, List.filter_append]
    simp only [List.filter_cons, hx]
    simp
  refine ⟨h.1, by rw [e]; exact h.2.1, by rw [e]; exact h.2.2.1, ?_⟩
  have := congrArg (List.drop 8) h.2.2.2
  simp only [List.drop_drop] at this
  rw [show (j + 1) * 8 = j * 8 + 8 by omega]
  exact this
theorem ThinC.keep {p xs j i L} (h : ThinC p xs j i L) (hj : j < xs.length) (hx : p (xs.getD j .z) = false) : ThinC p xs (j + 1) (i + 1) (L.take (i * 8) ++ (xs.getD j .z).cs ++ L.drop (i * 8 + 8)) := by
  have e : (xs.take (j + 1)).filter (fun x => !p x) = (xs.take j).filter (fun x => !p x) ++ [xs.getD j .z] := by
    rw [take_snoc xs .z j hj, List.filter_append]
    simp only [List.filter_cons, hx]
    simp
  have hlt := h.lt
  have hc := Cap.len (xs.getD j .z)
  have hl := h.1
  have ht : (L.take (i * 8)).length = i * 8 := by rw [List.length_take]; omega
  have hA : (L.take (i * 8) ++ (xs.getD j .z).cs).length = i * 8 + 8 := by rw [List.length_append, ht, hc]
  refine ⟨by rw [List.length_append, hA, List.length_drop]; omega, by rw [e, List.length_append, ← h.2.1]; rfl, ?_, ?_⟩
  · rw [e, show (i + 1) * 8 = (L.take (i * 8) ++ (xs.getD j .z).cs).length by rw [hA]; omega, List.take_left, h.2.2.1, List.flatMap_append]
    simp
  · have h4 := congrArg (List.drop 8) h.2.2.2
    simp only [List.drop_drop] at h4
    rw [show (j + 1) * 8 = (L.take (i * 8) ++ (xs.getD j .z).cs).length + ((j - i) * 8) by rw [hA]; omega, ← List.drop_drop, List.drop_left, List.drop_drop, show i * 8 + 8 + (j - i) * 8 = j * 8 + 8 by omega, h4]
    congr 1
    rw [hA]
    omega
theorem ThinC.done {p xs i L} (h : ThinC p xs xs.length i L) : L.take (i * 8) = (xs.filter (fun x => !p x)).flatMap Cap.cs ∧ i = (xs.filter (fun x => !p x)).length := by
  have := h.2
  rw [List.take_length] at this
  exact ⟨this.2.1, this.1⟩
theorem slices_DeleteFunc_cap (xs : List Cap) (p : Cap → Bool) (g : Nat) (lb : Array Value) (eg : ∀ args w, (callFunc g args).run Tryz.prog w = .ok (.enter g args) w) (v : Value) (w0 w : World) (ho : w.ownsRow w0.heap.size 48 8 v xs.length (xs.flatMap Cap.cs)) (hx0 : Ext w0 w) (h2 : xs.length ≤ 1048576)
    (hF : ∀ t n u c m r l d w', (⟨t, n, u, c, m, r, l, d⟩ : Cap) ∈ xs → Ext w0 w' → Calls Tryz.prog g (#[.agg #[.int .i64 t, .int .i64 n, .bool u, .int .i64 c, .int .i64 m, .int .i64 r, .int .i64 l, .string d]] ++ lb) w' fun e w'' => e = .returned (.bool (p ⟨t, n, u, c, m, r, l, d⟩)) ∧ Ext w' w'') :
    Calls Tryz.prog 102 #[v, .func (.func g) #[] lb] w fun e w' => ∃ r, e = .returned r ∧ w'.ownsRow w0.heap.size 48 8 r (xs.filter (fun x => !p x)).length ((xs.filter (fun x => !p x)).flatMap Cap.cs) ∧ Ext w0 w' := by
  have hI := slices_IndexFunc_cap xs p g lb eg v w0 w (Rd.own ho) hx0 h2 hF
  by_cases hany : ∃ k, k < xs.length ∧ (∀ i, i < k → p (xs.getD i .z) = false) ∧ p (xs.getD k .z) = true
  · obtain ⟨k, hk, hall, hx⟩ := hany
    rw [hitC_at hk hall hx] at hI
    obtain ⟨b, cap, rfl, hnc, hcm⟩ := own_form8 ho (by omega)
    have hth := ThinC.start (p := p) hk hall hx
    have Hth := hid hth
    have HI := hid hI
    have HF := hid hF
    have Ho := hid ho
    have hml : maxLen = 9223372036854775807 := rfl
    have hne1 : ((k : Int) == -1) = false := by rw [beq_eq_false_iff_ne]; omega
    rw [hml] at hcm
    have hz0 : ∀ w, (zeroValue 48).run Tryz.prog w = .ok (.agg #[.int .i64 0, .int .i64 0, .bool false, .int .i64 0, .int .i64 0, .int .i64 0, .int .i64 0, .string ByteArray.empty]) w := fun w => by kernel_rfl
    have Hz0 := hid hz0
    clear hth hI hF ho hall hx hml hz0
    go_enter Tryz.func102, Tryz.ntmps102
    go_wp2_with fail
    go_at_call 74
    refine (HI.out).mono ?_
    rintro e w1 ⟨rfl, hx1⟩
    have Hx1 := hid hx1
    clear hx1
    go_wp2
    go_loopw [5, 6] (fun v5 v6 wr => ∃ (i j : Nat) (L : List Value), v5 = .int .i64 i ∧ v6 = .int .i64 j ∧ j ≤ xs.length ∧ i < j ∧ Hid (ThinC p xs j i L) ∧ wr.ownsRow w0.heap.size 48 8 (.slice (some ⟨b, 0, none⟩) xs.length cap) xs.length L ∧ Ext w0 wr) (fun _ v6 _ => xs.length - (intOf v6).toNat)
    case atStart => exact ⟨k, k + 1, _, rfl, by go_num, by omega, by omega, Hth, own_ext Ho.out Hx1.out, hx0.trans Hx1.out⟩
    case round =>
      obtain ⟨i, j, L, rfl, rfl, hj, hij, hT, hown, hx⟩ := hrel
      by_cases hlt : j < xs.length
      · have hc := fun t (ht : t < 8) => (hown.cellAt (j * 8 + t) (by omega)).trans (hT.out.at_ hlt t ht)
        have c0 := hc 0 (by omega)
        have c1 := hc 1 (by omega)
        have c2 := hc 2 (by omega)
        have c3 := hc 3 (by omega)
        have c4 := hc 4 (by omega)
        have c5 := hc 5 (by omega)
        have c6 := hc 6 (by omega)
        have c7 := hc 7 (by omega)
        obtain ⟨⟨a0, e0⟩, f0⟩ := own_cell hown (i * 8) (by omega)
        obtain ⟨⟨a1, e1⟩, f1⟩ := own_cell hown (i * 8 + 1) (by omega)
        obtain ⟨⟨a2, e2⟩, f2⟩ := own_cell hown (i * 8 + 2) (by omega)
        obtain ⟨⟨a3, e3⟩, f3⟩ := own_cell hown (i * 8 + 3) (by omega)
        obtain ⟨⟨a4, e4⟩, f4⟩ := own_cell hown (i * 8 + 4) (by omega)
        obtain ⟨⟨a5, e5⟩, f5⟩ := own_cell hown (i * 8 + 5) (by omega)
        obtain ⟨⟨a6, e6⟩, f6⟩ := own_cell hown (i * 8 + 6) (by omega)
        obtain ⟨⟨a7, e7⟩, f7⟩ := own_cell hown (i * 8 + 7) (by omega)
        have hf := fun t n u c m r l d w' hm hx => HF.out t n u c m r l d w' hm hx
        have hsk := hT.out.skip hlt
        have hkp := hT.out.keep hlt
        have hmem := mem_cap hlt
        clear hc
        generalize xs.getD j .z = x at c0 c1 c2 c3 c4 c5 c6 c7 hsk hkp hmem
        obtain ⟨t, n, u, c, m, r, l, d⟩ := x
        simp only [Cap.cs, List.getElem?_cons_zero, List.getElem?_cons_succ, Nat.add_zero] at c0 c1 c2 c3 c4 c5 c6 c7
        have hf' := fun w' hx => hf t n u c m r l d w' hmem hx
        have Hf := hid hf'
        have Ho1 := hid hown
        have Hx := hid hx
        have Hsk := hid hsk
        have Hkp := hid hkp
        have hbl := (own_size hown)
        have hlL := hown.1
        clear hown hx hsk hkp hf hf' hmem
        cases hp : p ⟨t, n, u, c, m, r, l, d⟩
        · rw [hp] at Hf
          have Hp := hid hp
          clear hp
          go_wp2_with (go_at_fn g; refine (Hf.out _ (Hx.out.trans (by repeat' (first | exact Ext.refl _ | assumption | refine Ext.alloc ?_ _ | refine Ext.ext ?_ _ | refine Ext.drew ?_ | refine Ext.drewN ?_ _)))).mono ?_; rintro e w' ⟨rfl, z1, rfl⟩)
          go_roundw
          case rel =>
            have hst := own_setCells [.int .i64 t, .int .i64 n, .bool u, .int .i64 c, .int .i64 m, .int .i64 r, .int .i64 l, .string d] ((wr.alloc (.cells #[.int .i64 t, .int .i64 n, .bool u, .int .i64 c, .int .i64 m, .int .i64 r, .int .i64 l, .string d] 48)).ext z1) L (i * 8) (own_ext Ho1.out (by repeat' (first | exact Ext.refl _ | assumption | refine Ext.alloc ?_ _ | refine Ext.ext ?_ _ | refine Ext.drew ?_ | refine Ext.drewN ?_ _))) (by simp; omega)
            exact ⟨i + 1, j + 1, _, by go_num, by go_num, by omega, by omega, hid (Hkp.out Hp.out), hst.1, Ext.grown (Hx.out.trans (show Ext wr _ from (by repeat' (first | exact Ext.refl _ | assumption | refine Ext.alloc ?_ _ | refine Ext.ext ?_ _ | refine Ext.drew ?_ | refine Ext.drewN ?_ _)))) hst.2 (fun j hj => by cases hj; exact hbl.1)⟩
          case measure => simp [intOf]; omega
        · rw [hp] at Hf
          have Hp := hid hp
          clear hp
          go_wp2_with (go_at_fn g; refine (Hf.out _ (Hx.out.trans (by repeat' (first | exact Ext.refl _ | assumption | refine Ext.alloc ?_ _ | refine Ext.ext ?_ _ | refine Ext.drew ?_ | refine Ext.drewN ?_ _)))).mono ?_; rintro e w' ⟨rfl, z1, rfl⟩)
          go_roundw
          case rel => exact ⟨i, j + 1, L, rfl, by go_num, by omega, by omega, hid (Hsk.out Hp.out), own_ext Ho1.out (by repeat' (first | exact Ext.refl _ | assumption | refine Ext.alloc ?_ _ | refine Ext.ext ?_ _ | refine Ext.drew ?_ | refine Ext.drewN ?_ _)), Hx.out.trans (by repeat' (first | exact Ext.refl _ | assumption | refine Ext.alloc ?_ _ | refine Ext.ext ?_ _ | refine Ext.drew ?_ | refine Ext.drewN ?_ _))⟩
          case measure => simp [intOf]; omega
      · obtain rfl : j = xs.length := by omega
        have hil : i ≤ xs.length := by omega
        have hLl := hown.1
        obtain ⟨vs, hvl, hcl⟩ := run_clear_wide (P := Tryz.prog) wr 22 48 _ 8 Tryz.underlying22 Hz0.out rfl (by decide) (by simp [Value.cells, Value.oneCell']) b (i * 8) (xs.length - i) (cap - i) (by omega)
          (fun t ht => by rw [hown.cellAt (i * 8 + t) (by omega), List.getElem?_eq_getElem (by rw [hLl]; omega)]; rfl) (fun t ht => hown.frozenAt _)
        have hput := own_setCells vs wr L (i * 8) hown (by rw [hvl, hLl]; omega)
        have hbl := (own_size hown)
        have hc1 : ¬ cap = i := by omega
        have hc2 : ¬ cap = 0 := by omega
        have hd := hT.out.done
        have K := hid (And.intro hput (And.intro hx (And.intro hd (And.intro hLl hvl))))
        clear hput hx hown hd hLl hvl
        go_wp2
        go_ret
        obtain ⟨⟨ho3, hg3⟩, hx3, ⟨hd1, hd2⟩, hLl, hvl⟩ := K.out
        refine ⟨_, rfl, ?_, Ext.grown hx3 hg3 (fun j hj => by cases hj; exact hbl.1)⟩
        have := own_trunc8 ho3 hil
        rw [List.append_assoc, List.take_append_of_le_length (by simp [hLl]; omega), List.take_take, Nat.min_self, hd1] at this
        rw [← hd2]
        exact this
  · have hall : ∀ i, i < xs.length → p (xs.getD i .z) = false := by
      intro i
      induction i using Nat.strongRecOn with
      | _ i ih =>
        intro hi
        cases hp : p (xs.getD i .z)
        · rfl
        · exact absurd ⟨i, hi, fun j hj => ih j hj (by omega), hp⟩ hany
    rw [(hitC_no hall).1] at hI
    have hfl : xs.filter (fun x => !p x) = xs := by
      rw [List.filter_eq_self]
      intro x hxm
      obtain ⟨i, hi, rfl⟩ := List.mem_iff_getElem.1 hxm
      have := hall i hi
      rw [List.getD_eq_getElem?_getD, List.getElem?_eq_getElem hi] at this
      simpa using this
    rw [hfl]
    have HI := hid hI
    have Ho := hid ho
    clear hany hall hI hfl ho hF
    go_enter Tryz.func102, Tryz.ntmps102
    go_wp2_with fail
    go_at_call 74
    refine (HI.out).mono ?_
    rintro e w1 ⟨rfl, hx1⟩
    have Hx1 := hid hx1
    clear hx1
    go_wp2
    go_ret
    exact ⟨_, rfl, own_ext Ho.out Hx1.out, hx0.trans Hx1.out⟩
def renSlLaysE0Captured41 : Go.Shelf.Ren := ⟨fun x => if x = 41 then 103 else x, fun x => if x = 4 then 4 else if x = 22 then 22 else if x = 23 then 48 else x, fun x => x⟩
theorem laysSlLaysE0Captured41 : Go.Proofs.SlLaysE0.n41 Tryz.prog renSlLaysE0Captured41 := by constructor <;> first | kernel_rfl | (intro w; kernel_rfl) | exact ⟨Tryz.f103.name, by kernel_rfl, by kernel_rfl⟩
theorem slices_Clone_cap (xs : List Cap) (q off : Nat) {qc : Nat} (w : World) (h : Rd w 8 (.slice (some ⟨q, off, none⟩) xs.length qc) xs.length (xs.flatMap Cap.cs)) (h2 : xs.length ≤ 1048576) :
    Calls Tryz.prog 103 #[.slice (some ⟨q, off, none⟩) xs.length qc] w fun e w' => ∃ r, e = .returned r ∧ w'.ownsRow w.heap.size 48 8 r xs.length (xs.flatMap Cap.cs) ∧ Ext w w' := by
  obtain ⟨i0, hi, hz0, hz1, hz2⟩ := info_parts infoCap
  have hc : ∀ j u, (xs.flatMap Cap.cs)[j]? = some u → w.cell? ⟨q, off + j, none⟩ = some u := by
    intro j u hj
    obtain ⟨hl, rfl⟩ := List.getElem?_eq_some_iff.1 hj
    obtain ⟨-, p, c, e, h4⟩ := h
    cases e
    rcases h4 with h4 | ⟨b', off', e, h6⟩
    · rw [caps_len, h4] at hl; omega
    · cases e
      exact h6 j hl
  have h1 : ∀ u ∈ xs.flatMap Cap.cs, u.oneCell' = true := by
    intro u hu
    obtain ⟨x, -, hx⟩ := List.mem_flatMap.1 hu
    simp only [Cap.cs, List.mem_cons, List.not_mem_nil, or_false] at hx
    rcases hx with rfl | rfl | rfl | rfl | rfl | rfl | rfl | rfl <;> rfl
  exact (AnyE.slices_Clone laysSlLaysE0Captured41 i0 _ 8 72 hi hz0 hz1 hz2 rfl (by decide) (fun w => by kernel_rfl) q off xs.length qc (xs.flatMap Cap.cs) w (caps_len xs) (by unfold maxLen; omega) (by omega) hc h1).mono fun _ _ ⟨r, a, ho, _, hb⟩ => ⟨r, a, ho, hb.ext⟩
end Go.Proofs.YtljknhocfjpolaaGreatDoor
