/- One pending taken out of a list: slices.Delete; DropMessage of the program. -/
import Derived.Test.YtnngklclehffhaaGreatDoorKWPc2
import Derived.Test.YtnngklclehffhaaGreatDoorJ30
import Derived.Test.YtnngklclehffhaaGreatDoorJ26
import Derived.Lib.SliceRun
namespace Go.Proofs.YtnngklclehffhaaGreatDoor
open Go.RowKit
set_option maxHeartbeats 1000000
set_option maxRecDepth 100000
theorem run_clear_wide {P : Program} (w : World) (t e : TypeId) (z : Value) (k : Nat) (ht : P.underlying t = some (.slice e)) (hv : ∀ w, (zeroValue e).run P w = .ok z w) (hk : z.cells.size = k) (h0 : 0 < k) (h1 : ∀ u ∈ z.cells, u.oneCell' = true) (b o n c : Nat) (hn : 0 < n)
    (hc : ∀ j, j < n * k → (w.cell? ⟨b, o + j, none⟩).isSome = true) (hf : ∀ j, j < n * k → w.frozen? ⟨b, o + j, none⟩ = false) :
    ∃ vs : List Value, vs.length = n * k ∧ ∀ ty, (Builtin.clear_ #[t] ty #[.slice (some ⟨b, o, none⟩) n c]).run P w = .ok (.tuple #[]) (w.setCells b o vs) := by
  have hl : (Builtin.zeroCells z.cells n).toList.length = n * k := by simp [Builtin.zeroCells, hk]
  refine ⟨(Builtin.zeroCells z.cells n).toList, hl, fun ty => ?_⟩
  have hst := run_storeCells_cells (P := P) b o (Builtin.zeroCells z.cells n).toList 0 w (by rw [hl]; simpa using hc) (by rw [hl]; simpa using hf) (by
    intro v hv'
    simp only [Builtin.zeroCells, Array.toList_map, List.mem_map] at hv'
    obtain ⟨i, -, rfl⟩ := hv'
    have hlt : i % z.cells.size < z.cells.size := Nat.mod_lt _ (by omega)
    rw [getElem!_pos z.cells _ hlt]
    exact h1 _ (Array.getElem_mem hlt))
  simp only [Nat.add_zero] at hst
  obtain ⟨m, rfl⟩ : ∃ m, n = m + 1 := ⟨n - 1, by omega⟩
  simp [Builtin.clear_, run_underlying ht, hv, hst]
theorem own_trunc3 {w : World} {base e n g cap i : Nat} {cs : List Value} (h : w.ownsRow base e 3 (.slice (some ⟨g, 0, none⟩) n cap) n cs) (hi : i ≤ n) : w.ownsRow base e 3 (.slice (some ⟨g, 0, none⟩) i cap) i (cs.take (i * 3)) := by
  obtain ⟨h1, ⟨h2, -⟩ | ⟨g', c, cur, h2, hB, hh, hn', hc, hs, ht⟩⟩ := h
  · cases h2
  · cases h2
    refine ⟨by simp [h1]; omega, .inr ⟨g, cap, cur, rfl, hB, hh, by omega, hc, hs, ?_⟩⟩
    rw [← ht, List.take_take]; congr 1; omega
theorem pes_take (cs : List Pe) (k : Nat) (h : k ≤ cs.length) : (cs.flatMap Pe.cs).take (k * 3) = (cs.take k).flatMap Pe.cs := by
  have h1 : cs.flatMap Pe.cs = (cs.take k).flatMap Pe.cs ++ (cs.drop k).flatMap Pe.cs := by rw [← List.flatMap_append, List.take_append_drop]
  have h2 : ((cs.take k).flatMap Pe.cs).length = k * 3 := by rw [pes_len, List.length_take, Nat.min_eq_left h]
  rw [h1, ← h2, List.take_left]
theorem pes_drop (cs : List Pe) (k : Nat) (h : k ≤ cs.length) : (cs.flatMap Pe.cs).drop (k * 3) = (cs.drop k).flatMap Pe.cs := by
  have h1 : cs.flatMap Pe.cs = (cs.take k).flatMap Pe.cs ++ (cs.drop k).flatMap Pe.cs := by rw [← List.flatMap_append, List.take_append_drop]
  have h2 : ((cs.take k).flatMap Pe.cs).length = k * 3 := by rw [pes_len, List.length_take, Nat.min_eq_left h]
  rw [h1, ← h2, List.drop_left]
theorem slices_Delete_prow (cs : List Pe) (g cap i lo : Nat) (w : World) (ho : w.ownsRow lo 62 3 (.slice (some ⟨g, 0, none⟩) cs.length cap) cs.length (cs.flatMap Pe.cs)) (hi : i < cs.length) (h2 : cs.length ≤ 1048576) (h1 : ∀ u ∈ cs.flatMap Pe.cs, u.oneCell' = true) :
    Calls Tryz.prog 31 #[.slice (some ⟨g, 0, none⟩) cs.length cap, .int .i64 i, .int .i64 ((i : Int) + 1)] w fun e w' => e = .returned (.slice (some ⟨g, 0, none⟩) (cs.length - 1) cap) ∧
      w'.ownsRow lo 62 3 (.slice (some ⟨g, 0, none⟩) (cs.length - 1) cap) (cs.length - 1) ((cs.take i ++ cs.drop (i + 1)).flatMap Pe.cs) ∧ w.grownBy w' (some g) := by
  obtain ⟨hnc, hcm⟩ : cs.length ≤ cap ∧ cap ≤ maxLen := by
    obtain ⟨-, ⟨h, -⟩ | ⟨g', c, cur, h, -, -, a, b, -⟩⟩ := ho
    · cases h
    · cases h; exact ⟨a, b⟩
  have hml : maxLen = 9223372036854775807 := rfl
  rw [hml] at hcm
  obtain ⟨i0, hi0, hz0, hz1, hz2⟩ := info_parts infoPnd
  have hzv : ∀ w, (zeroValue 62).run Tryz.prog w = .ok (.agg #[.int .i64 0, .slice none 0 0, .slice none 0 0]) w := fun w => by kernel_rfl
  generalize hn : cs.length = n at *
  have Ho := hid ho
  have H1 := hid h1
  have Hn := hid hn
  -- the groups behind the one that goes
  obtain ⟨news, hnews⟩ : ∃ news, news = (cs.drop (i + 1)).flatMap Pe.cs := ⟨_, rfl⟩
  have hlen : news.length = (n - (i + 1)) * 3 := by rw [hnews, pes_len, List.length_drop, hn]
  have hd1 : news = (cs.flatMap Pe.cs).drop ((i + 1) * 3) := by rw [hnews, pes_drop cs _ (by omega)]
  have s2 : Hid (∀ u ∈ news, u.oneCell' = true) := fun u hu => h1 u (by rw [hd1] at hu; exact List.mem_of_mem_drop hu)
  have s1 : Hid (news.length = (n - (i + 1)) * 3) := hlen
  obtain ⟨A, hA, hsrc⟩ : ∃ A : Addr, (if cap = i + 1 then some (⟨g, 0, none⟩ : Addr) else some ⟨g, (i + 1) * 3, none⟩) = some A ∧ Hid (∀ t u, news[t]? = some u → w.drew.cell? (A.add t) = some u) := by
    by_cases h : cap = i + 1
    · refine ⟨⟨g, 0, none⟩, by simp [h], fun t u hu => ?_⟩
      have h0 : news.length = 0 := by rw [hlen]; omega
      rw [List.length_eq_zero_iff.1 h0] at hu
      simp at hu
    · refine ⟨⟨g, (i + 1) * 3, none⟩, by simp [h], fun t u hu => ?_⟩
      have ht : t < (n - (i + 1)) * 3 := by rw [← hlen]; exact (List.getElem?_eq_some_iff.1 hu).1
      rw [hd1, List.getElem?_drop] at hu
      rw [Addr.add_lit]
      show w.cell? _ = _
      rw [ho.cellAt _ (by omega), hu]
  have s3 : Hid (∀ t, t < news.length → (w.drew.cell? ⟨g, 0 + i * 3 + t, none⟩).isSome = true ∧ w.drew.frozen? ⟨g, 0 + i * 3 + t, none⟩ = false) := by
    intro t ht
    rw [hlen] at ht
    refine ⟨?_, ho.frozenAt _⟩
    show (w.cell? _).isSome = true
    rw [ho.cellAt _ (by omega), List.getElem?_eq_getElem (by rw [ho.1]; omega)]
    rfl
  have hst := own_setCells news w.drew (cs.flatMap Pe.cs) (i * 3) (own_ext ho (Ext.refl w).drew) (by rw [hlen, pes_len, hn]; omega)
  obtain ⟨W1, hW1⟩ : ∃ W1, W1 = w.drew.setCells g (0 + i * 3) news := ⟨_, rfl⟩
  have ho1 : W1.ownsRow lo 62 3 (.slice (some ⟨g, 0, none⟩) n cap) n ((cs.flatMap Pe.cs).take (i * 3) ++ news ++ (cs.flatMap Pe.cs).drop (i * 3 + news.length)) := by rw [hW1, Nat.zero_add]; exact hst.1
  have hg1 : w.grownBy W1 (some g) := by rw [hW1, Nat.zero_add]; exact grownBy_trans ((Ext.refl w).drew.grownBy _) hst.2
  obtain ⟨m, hm⟩ : ∃ m, i + (n - (i + 1)) = m := ⟨_, rfl⟩
  have hmn : m + 1 = n := by omega
  have hm1 : n - 1 = m := by omega
  rw [hm1]
  obtain ⟨vs, hvl, hcl⟩ := run_clear_wide (P := Tryz.prog) W1 29 62 _ 3 Tryz.underlying29 hzv rfl (by decide) (by simp [Value.cells, Value.oneCell']) g (m * 3) (n - m) (cap - m) (by omega)
    (fun t ht => by rw [ho1.cellAt (m * 3 + t) (by omega), List.getElem?_eq_getElem (by rw [ho1.1]; omega)]; rfl) (fun t ht => ho1.frozenAt _)
  have hput := own_setCells vs W1 _ (m * 3) ho1 (by rw [hvl, ho1.1]; omega)
  have hfin := own_trunc3 hput.1 (show m ≤ n by omega)
  have hcells : (((cs.flatMap Pe.cs).take (i * 3) ++ news ++ (cs.flatMap Pe.cs).drop (i * 3 + news.length)).take (m * 3) ++ vs ++ ((cs.flatMap Pe.cs).take (i * 3) ++ news ++ (cs.flatMap Pe.cs).drop (i * 3 + news.length)).drop (m * 3 + vs.length)).take (m * 3) = (cs.take i ++ cs.drop (i + 1)).flatMap Pe.cs := by
    have hA : ((cs.flatMap Pe.cs).take (i * 3) ++ news).length = m * 3 := by
      rw [List.length_append, List.length_take, pes_len, hn, hlen]
      omega
    have e1 : ((cs.flatMap Pe.cs).take (i * 3) ++ news ++ (cs.flatMap Pe.cs).drop (i * 3 + news.length)).take (m * 3) = (cs.flatMap Pe.cs).take (i * 3) ++ news := by
      rw [← hA, List.take_left]
    rw [e1, List.append_assoc, ← hA, List.take_left, pes_take cs i (by omega), hnews, List.flatMap_append]
  rw [hcells] at hfin
  have K := hid (And.intro hfin (grownBy_trans hg1 hput.2))
  have hW : Hid (W1 = w.drew.setCells g (0 + i * 3) news) := hW1
  clear hW1 ho1 hg1 hput hfin hst hlen hnews hd1 ho h1 hcells hn
  have hic : i ≤ cap := by omega
  have hjc : i + 1 ≤ cap := by omega
  have p0 : (0 : Int) ≤ (i : Int) + 1 := by omega
  have p1 : (i : Int) + 1 ≤ (n : Int) := by omega
  have n0 : ((i : Int) == (i : Int) + 1) = false := by rw [beq_eq_false_iff_ne]; omega
  go_enter Tryz.func31, Tryz.ntmps31
  go_wp2_with fail
  go_region_law (refine step_append_room rfl (.tmp 22) (.tmp 25) 29 rfl 62 i0 3 Tryz.underlying29 hi0 hz1 g 0 i cap (by simp [Act.eval, Act.put]) A (n - (i + 1)) (cap - (i + 1)) news (by simp [Act.eval, Act.put]) s1.out hsrc.out s2.out (by omega) s3.out ?_; rw [← hW.out])
  have hc1 : ¬ cap = m := by omega
  have hc2 : ¬ cap = 0 := by omega
  go_wp2
  go_ret
  exact ⟨rfl, K.out⟩
theorem ers_map {α β : Type} (f : α → β) (l : List α) (i : Nat) : (ers l i).map f = ers (l.map f) i := by
  rw [ers, List.map_append, List.map_take, List.map_drop]; rfl
theorem ers_sub (es : List Pe) (i : Nat) (h : i < es.length) : ((ers es i).flatMap Pe.rows).Sublist (es.flatMap Pe.rows) := by
  rw [ers, List.flatMap_append, flatMap_at Pe.rows es i .z h]
  exact List.Sublist.append (List.Sublist.refl _) (List.sublist_append_right _ _)
theorem POw.erase {w w2 : World} {lo hi g n n' cap : Nat} {ps : List Pnd} {es : List Pe} (h : POw w lo hi (.slice (some ⟨g, 0, none⟩) n cap) ps es) (i : Nat) (hil : i < es.length) (hn : n' = es.length - 1)
    (ho : w2.ownsRow lo 62 3 (.slice (some ⟨g, 0, none⟩) n' cap) n' ((ers es i).flatMap Pe.cs)) (hg : w.grownBy w2 (some g)) : POw w2 lo hi (.slice (some ⟨g, 0, none⟩) n' cap) (ers ps i) (ers es i) := by
  refine ⟨by rw [ers_map, h.1], fam_cons.2 ⟨⟨?_, fun j e => by cases e; exact (h.2.lt (j := g) rfl).2.1⟩, ((fam_cons.1 h.2).2.1.sub (ers_sub es i hil)).grown hg (fun r hr j e e2 => ?_), fun y hy j e e2 => ?_⟩⟩
  · show w2.ownsRow lo 62 3 _ (ers es i).length _
    rw [ers_len _ _ hil, ← hn]
    exact ho
  · exact (fam_cons.1 h.2).2.2 r ((ers_sub es i hil).subset hr) j e e2
  · exact (fam_cons.1 h.2).2.2 y ((ers_sub es i hil).subset hy) j e e2
/-- slices.Delete at a list that the call owns. -/
theorem slices_Delete_pnd {w : World} {lo hi g cap : Nat} {ps : List Pnd} {es : List Pe} (h : POw w lo hi (.slice (some ⟨g, 0, none⟩) ps.length cap) ps es) (i : Nat) (hil : i < ps.length) (h2 : ps.length ≤ 1048576) :
    Calls Tryz.prog 31 #[.slice (some ⟨g, 0, none⟩) ps.length cap, .int .i64 i, .int .i64 ((i : Int) + 1)] w fun e w' => e = .returned (.slice (some ⟨g, 0, none⟩) (ps.length - 1) cap) ∧
      POw w' lo hi (.slice (some ⟨g, 0, none⟩) (ps.length - 1) cap) (ers ps i) (ers es i) ∧ w.grownBy w' (some g) := by
  have hl := h.len
  have ho := h.2.own
  rw [← hl] at ho h h2 hil ⊢
  exact (slices_Delete_prow es g cap i lo w ho hil h2 h.2.one).mono fun e w' ⟨a, b, c⟩ => ⟨a, h.erase i hil rfl b c, c⟩
end Go.Proofs.YtnngklclehffhaaGreatDoor
