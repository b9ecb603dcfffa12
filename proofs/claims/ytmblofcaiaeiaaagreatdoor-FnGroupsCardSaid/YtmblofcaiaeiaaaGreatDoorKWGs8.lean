/- One group taken out of a list: slices.Delete at groups. -/
import Derived.Test.YtmblofcaiaeiaaaGreatDoorKWGs7
import Derived.Test.YtmblofcaiaeiaaaGreatDoorKWPut2
namespace Go.Proofs.YtmblofcaiaeiaaaGreatDoor
open Go.RowKit
set_option maxHeartbeats 1000000
set_option maxRecDepth 100000
theorem run_clear_wide {P : Program} (w : World) (t e : TypeId) (z : Value) (k : Nat) (ht : P.underlying t = some (.slice e)) (hv : ∀ w, (zeroValue e).run P w = .ok z w) (hk : z.cells.size = k) (h0 : 0 < k) (h1 : ∀ u ∈ z.cells, u.oneCell' = true) (b o n c : Nat) (hn : 0 < n)
    (hc : ∀ j, j < n * k → (w.cell? ⟨b, o + j, none⟩).isSome = true) (hf : ∀ j, j < n * k → w.frozen? ⟨b, o + j, none⟩ = false) :
    ∃ vs : List Value, vs.length = n * k ∧ ∀ ty, (Builtin.clear_ #[t] ty #[.slice (some ⟨b, o, none⟩) n c]).run P w = .ok (.tuple #[]) (w.setCells b o vs) := by
  have hl : (Builtin.zeroCells z.cells n).toList.length = n * k := by simp [Builtin.zeroCells, hk]
  refine ⟨(Builtin.zeroCells z.cells n).toList, hl, fun ty => ?_⟩
  have hst := run_storeCells_cells (P := P) b o (Builtin.zeroCells z.cells n).toList 0 w (by rw [hl]; simpa using hc) (by rw [hl]; simpa using hf) (by
    intro v hv'
    simp only [Builtin.zeroCells, Array.toList_map, List.mem_map] at hv'
    obtain ⟨i, -, rfl⟩ := hv'
    have hlt : i % z.cells.size < z.cells.size := Nat.mod_lt _ (by omega)
    rw [getElem!_pos z.cells _ hlt]
    exact h1 _ (Array.getElem_mem hlt))
  simp only [Nat.add_zero] at hst
  obtain ⟨m, rfl⟩ : ∃ m, n = m + 1 := ⟨n - 1, by omega⟩
  simp [Builtin.clear_, run_underlying ht, hv, hst]
theorem own_trunc2 {w : World} {base e n g cap i : Nat} {cs : List Value} (h : w.ownsRow base e 2 (.slice (some ⟨g, 0, none⟩) n cap) n cs) (hi : i ≤ n) : w.ownsRow base e 2 (.slice (some ⟨g, 0, none⟩) i cap) i (cs.take (i * 2)) := by
  obtain ⟨h1, ⟨h2, -⟩ | ⟨g', c, cur, h2, hB, hh, hn', hc, hs, ht⟩⟩ := h
  · cases h2
  · cases h2
    refine ⟨by simp [h1]; omega, .inr ⟨g, cap, cur, rfl, hB, hh, by omega, hc, hs, ?_⟩⟩
    rw [← ht, List.take_take]; congr 1; omega
theorem gcs_take (cs : List Gc) (k : Nat) (h : k ≤ cs.length) : (cs.flatMap Gc.cs).take (k * 2) = (cs.take k).flatMap Gc.cs := by
  have h1 : cs.flatMap Gc.cs = (cs.take k).flatMap Gc.cs ++ (cs.drop k).flatMap Gc.cs := by rw [← List.flatMap_append, List.take_append_drop]
  have h2 : ((cs.take k).flatMap Gc.cs).length = k * 2 := by rw [gcs_len, List.length_take, Nat.min_eq_left h]
  rw [h1, ← h2, List.take_left]
theorem gcs_drop (cs : List Gc) (k : Nat) (h : k ≤ cs.length) : (cs.flatMap Gc.cs).drop (k * 2) = (cs.drop k).flatMap Gc.cs := by
  have h1 : cs.flatMap Gc.cs = (cs.take k).flatMap Gc.cs ++ (cs.drop k).flatMap Gc.cs := by rw [← List.flatMap_append, List.take_append_drop]
  have h2 : ((cs.take k).flatMap Gc.cs).length = k * 2 := by rw [gcs_len, List.length_take, Nat.min_eq_left h]
  rw [h1, ← h2, List.drop_left]
def slc2 (a : Option Addr) (l h m : Nat) : Value := .slice (if m = l then a else a.map (·.add (l * 2))) (h - l) (m - l)
theorem slices_Delete_row (cs : List Gc) (g cap i lo : Nat) (w : World) (ho : w.ownsRow lo 42 2 (.slice (some ⟨g, 0, none⟩) cs.length cap) cs.length (cs.flatMap Gc.cs)) (hi : i < cs.length) (h2 : cs.length ≤ 1048576) (h1 : ∀ u ∈ cs.flatMap Gc.cs, u.oneCell' = true) :
    Calls Tryz.prog 42 #[.slice (some ⟨g, 0, none⟩) cs.length cap, .int .i64 i, .int .i64 ((i : Int) + 1)] w fun e w' => e = .returned (.slice (some ⟨g, 0, none⟩) (cs.length - 1) cap) ∧
      w'.ownsRow lo 42 2 (.slice (some ⟨g, 0, none⟩) (cs.length - 1) cap) (cs.length - 1) ((cs.take i ++ cs.drop (i + 1)).flatMap Gc.cs) ∧ w.grownBy w' (some g) := by
  obtain ⟨hnc, hcm⟩ : cs.length ≤ cap ∧ cap ≤ maxLen := by
    obtain ⟨-, ⟨h, -⟩ | ⟨g', c, cur, h, -, -, a, b, -⟩⟩ := ho
    · cases h
    · cases h; exact ⟨a, b⟩
  have hml : maxLen = 9223372036854775807 := rfl
  rw [hml] at hcm
  obtain ⟨i0, hi0, hz0, hz1, hz2⟩ := info_parts infoGrp
  have hzv : ∀ w, (zeroValue 42).run Tryz.prog w = .ok (.agg #[.string ByteArray.empty, .slice none 0 0]) w := fun w => by kernel_rfl
  generalize hn : cs.length = n at *
  have Ho := hid ho
  have H1 := hid h1
  have Hn := hid hn
  -- the groups behind the one that goes
  obtain ⟨news, hnews⟩ : ∃ news, news = (cs.drop (i + 1)).flatMap Gc.cs := ⟨_, rfl⟩
  have hlen : news.length = (n - (i + 1)) * 2 := by rw [hnews, gcs_len, List.length_drop, hn]
  have hd1 : news = (cs.flatMap Gc.cs).drop ((i + 1) * 2) := by rw [hnews, gcs_drop cs _ (by omega)]
  have s2 : Hid (∀ u ∈ news, u.oneCell' = true) := fun u hu => h1 u (by rw [hd1] at hu; exact List.mem_of_mem_drop hu)
  have s1 : Hid (news.length = (n - (i + 1)) * 2) := hlen
  obtain ⟨A, hA, hsrc⟩ : ∃ A : Addr, (if cap = i + 1 then some (⟨g, 0, none⟩ : Addr) else some ⟨g, (i + 1) * 2, none⟩) = some A ∧ Hid (∀ t u, news[t]? = some u → w.drew.cell? (A.add t) = some u) := by
    by_cases h : cap = i + 1
    · refine ⟨⟨g, 0, none⟩, by simp [h], fun t u hu => ?_⟩
      have h0 : news.length = 0 := by rw [hlen]; omega
      rw [List.length_eq_zero_iff.1 h0] at hu
      simp at hu
    · refine ⟨⟨g, (i + 1) * 2, none⟩, by simp [h], fun t u hu => ?_⟩
      have ht : t < (n - (i + 1)) * 2 := by rw [← hlen]; exact (List.getElem?_eq_some_iff.1 hu).1
      rw [hd1, List.getElem?_drop] at hu
      rw [Addr.add_lit]
      show w.cell? _ = _
      rw [ho.cellAt _ (by omega), hu]
  have s3 : Hid (∀ t, t < news.length → (w.drew.cell? ⟨g, 0 + i * 2 + t, none⟩).isSome = true ∧ w.drew.frozen? ⟨g, 0 + i * 2 + t, none⟩ = false) := by
    intro t ht
    rw [hlen] at ht
    refine ⟨?_, ho.frozenAt _⟩
    show (w.cell? _).isSome = true
    rw [ho.cellAt _ (by omega), List.getElem?_eq_getElem (by rw [ho.1]; omega)]
    rfl
  have hst := own_setCells news w.drew (cs.flatMap Gc.cs) (i * 2) (own_ext ho (Ext.refl w).drew) (by rw [hlen, gcs_len, hn]; omega)
  obtain ⟨W1, hW1⟩ : ∃ W1, W1 = w.drew.setCells g (0 + i * 2) news := ⟨_, rfl⟩
  have ho1 : W1.ownsRow lo 42 2 (.slice (some ⟨g, 0, none⟩) n cap) n ((cs.flatMap Gc.cs).take (i * 2) ++ news ++ (cs.flatMap Gc.cs).drop (i * 2 + news.length)) := by rw [hW1, Nat.zero_add]; exact hst.1
  have hg1 : w.grownBy W1 (some g) := by rw [hW1, Nat.zero_add]; exact grownBy_trans ((Ext.refl w).drew.grownBy _) hst.2
  obtain ⟨m, hm⟩ : ∃ m, i + (n - (i + 1)) = m := ⟨_, rfl⟩
  have hmn : m + 1 = n := by omega
  have hm1 : n - 1 = m := by omega
  rw [hm1]
  obtain ⟨vs, hvl, hcl⟩ := run_clear_wide (P := Tryz.prog) W1 24 42 _ 2 Tryz.underlying24 hzv rfl (by decide) (by simp [Value.cells, Value.oneCell']) g (m * 2) (n - m) (cap - m) (by omega)
    (fun t ht => by rw [ho1.cellAt (m * 2 + t) (by omega), List.getElem?_eq_getElem (by rw [ho1.1]; omega)]; rfl) (fun t ht => ho1.frozenAt _)
  have hput := own_setCells vs W1 _ (m * 2) ho1 (by rw [hvl, ho1.1]; omega)
  have hfin := own_trunc2 hput.1 (show m ≤ n by omega)
  have hcells : (((cs.flatMap Gc.cs).take (i * 2) ++ news ++ (cs.flatMap Gc.cs).drop (i * 2 + news.length)).take (m * 2) ++ vs ++ ((cs.flatMap Gc.cs).take (i * 2) ++ news ++ (cs.flatMap Gc.cs).drop (i * 2 + news.length)).drop (m * 2 + vs.length)).take (m * 2) = (cs.take i ++ cs.drop (i + 1)).flatMap Gc.cs := by
    have hA : ((cs.flatMap Gc.cs).take (i * 2) ++ news).length = m * 2 := by
      rw [List.length_append, List.length_take, gcs_len, hn, hlen]
      omega
    have e1 : ((cs.flatMap Gc.cs).take (i * 2) ++ news ++ (cs.flatMap Gc.cs).drop (i * 2 + news.length)).take (m * 2) = (cs.flatMap Gc.cs).take (i * 2) ++ news := by
      rw [← hA, List.take_left]
    rw [e1, List.append_assoc, ← hA, List.take_left, gcs_take cs i (by omega), hnews, List.flatMap_append]
  rw [hcells] at hfin
  have K := hid (And.intro hfin (grownBy_trans hg1 hput.2))
  have hW : Hid (W1 = w.drew.setCells g (0 + i * 2) news) := hW1
  clear hW1 ho1 hg1 hput hfin hst hlen hnews hd1 ho h1 hcells hn
  have hic : i ≤ cap := by omega
  have hjc : i + 1 ≤ cap := by omega
  have p0 : (0 : Int) ≤ (i : Int) + 1 := by omega
  have p1 : (i : Int) + 1 ≤ (n : Int) := by omega
  have n0 : ((i : Int) == (i : Int) + 1) = false := by rw [beq_eq_false_iff_ne]; omega
  go_enter Tryz.func42, Tryz.ntmps42
  go_wp2_with fail
  go_region_law (refine step_append_room rfl (.tmp 22) (.tmp 25) 24 rfl 42 i0 2 Tryz.underlying24 hi0 hz1 g 0 i cap (by simp [Act.eval, Act.put]) A (n - (i + 1)) (cap - (i + 1)) news (by simp [Act.eval, Act.put]) s1.out hsrc.out s2.out (by omega) s3.out ?_; rw [← hW.out])
  have hc1 : ¬ cap = m := by omega
  have hc2 : ¬ cap = 0 := by omega
  go_wp2
  go_ret
  exact ⟨rfl, K.out⟩
end Go.Proofs.YtmblofcaiaeiaaaGreatDoor
