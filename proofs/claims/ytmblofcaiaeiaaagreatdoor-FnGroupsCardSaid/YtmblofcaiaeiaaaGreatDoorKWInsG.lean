/- A group put into a row: slices.Insert at groups. -/
import Derived.Test.YtmblofcaiaeiaaaGreatDoorKWGs9
import Derived.Shelf.Spec.SlicesInsertGrow
import Derived.Maps.AppendAt
import Derived.Deep.RegionLaw
namespace Go.Proofs.YtmblofcaiaeiaaaGreatDoor
open Go.RowKit Go.Shelf Go.Lib
set_option maxHeartbeats 2000000
set_option maxRecDepth 100000
theorem run_copy_wide {P : Program} (w : World) (dT sT ty elem : TypeId) (k : Nat) (b o dLen dCap : Nat) (a : Addr) (sLen sCap : Nat) (cs : List Value)
    (hu : P.underlying dT = some (.slice elem)) (hs : (P.info? elem).map (·.size) = some k) (hn : cs.length = Nat.min sLen dLen * k)
    (hsrc : ∀ j v, cs[j]? = some v → w.cell? (a.add j) = some v) (hc : ∀ j, j < cs.length → (w.cell? ⟨b, o + j, none⟩).isSome = true) (hf : ∀ j, j < cs.length → w.frozen? ⟨b, o + j, none⟩ = false) (h1 : ∀ v ∈ cs, v.oneCell' = true) :
    (Builtin.copy_ #[dT, sT] ty #[.slice (some ⟨b, o, none⟩) dLen dCap, .slice (some a) sLen sCap]).run P w = .ok (goInt (Nat.min sLen dLen)) (w.setCells b o cs) := by
  have hl := run_loadCells_list (P := P) w a cs hsrc
  have hst := run_storeCells_cells (P := P) b o cs 0 w (by simpa using hc) (by simpa using hf) h1
  cases hq : P.info? elem with
  | none => simp [hq] at hs
  | some i =>
    have hi : i.size = k := by simpa [hq] using hs
    simp [Builtin.copy_, run_underlying hu, Builtin.lenOf, Builtin.firstCells, sizeOf, typeInfo, hq, hi, ← hn, hl, hst]
theorem own_full2 {w : World} {base e n g cap : Nat} {cs : List Value} (h : w.ownsRow base e 2 (.slice (some ⟨g, 0, none⟩) n cap) n cs) :
    n ≤ cap ∧ cap ≤ maxLen ∧ ∃ rest, w.ownsRow base e 2 (.slice (some ⟨g, 0, none⟩) cap cap) cap (cs ++ rest) := by
  obtain ⟨h1, ⟨h2, -⟩ | ⟨g', c, cur, h2, hB, hh, hn, hc, hs, ht⟩⟩ := h
  · cases h2
  · cases h2
    refine ⟨hn, hc, cur.toList.drop (n * 2), by simp [h1]; omega, .inr ⟨g, cap, cur, rfl, hB, hh, Nat.le_refl _, hc, hs, ?_⟩⟩
    rw [← ht, List.take_append_drop]
    exact List.take_of_length_le (by simp [hs])
theorem own_take2 {w : World} {base e n g cap : Nat} {cs : List Value} (h : w.ownsRow base e 2 (.slice (some ⟨g, 0, none⟩) cap cap) cap cs) (hn : n ≤ cap) :
    w.ownsRow base e 2 (.slice (some ⟨g, 0, none⟩) n cap) n (cs.take (n * 2)) := own_trunc2 h hn
theorem at_or {v' v : Value} {k : Nat} (hat : v'.ownBlock = v.ownBlock ∨ v'.ownBlock = some k) : ∀ j, v'.ownBlock = some j → v.ownBlock = some j ∨ k ≤ j := fun j hj => by
  rcases hat with e | e
  · exact .inl (by rw [← e]; exact hj)
  · rw [hj] at e; cases e; exact .inr (Nat.le_refl _)
/-- A row with two cells put in. -/
def mid (C vs : List Value) (i : Nat) : List Value := C.take (i * 2) ++ vs ++ C.drop (i * 2)
theorem slices_Insert_row (C : List Value) (n i : Nat) (name : ByteArray) (v : Value) (vb lo : Nat) (w : World) (ho : w.ownsRow lo 42 2 v n C) (hi : i ≤ n)
    (hl : w.heap[vb]? = some (.cells #[.string name, .slice none 0 0] 42 (0, 0))) (hne : v.ownBlock ≠ some vb) (hB : lo ≤ w.heap.size) (h2 : n ≤ 8) (h1 : ∀ u ∈ C, u.oneCell' = true) :
    Calls Tryz.prog 30 #[v, .int .i64 i, .slice (some ⟨vb, 0, none⟩) 1 1] w fun e w' => ∃ r, e = .returned r ∧
      w'.ownsRow lo 42 2 r (n + 1) (mid C [.string name, .slice none 0 0] i) ∧ w.grownBy w' v.ownBlock ∧ (∀ j, r.ownBlock = some j → v.ownBlock = some j ∨ w.heap.size ≤ j) := by
  obtain ⟨i0, hi0, hz0, hzs, hzb⟩ := info_parts infoGrp
  have hvs : ∀ j u, [Value.string name, .slice none 0 0][j]? = some u → w.cell? ⟨vb, 0 + j, none⟩ = some u := by
    intro j u hj
    rw [Nat.zero_add, cell_of_row w vb j _ _ _ hl]
    simpa using hj
  have h1v : ∀ u ∈ [Value.string name, .slice none 0 0], u.oneCell' = true := by intro u hu; simp at hu; rcases hu with rfl | rfl <;> rfl
  have hsz : (Tryz.prog.info? 42).map (·.size) = some 2 := by rw [hi0]; simp [hzs]
  have hml : maxLen = 9223372036854775807 := rfl
  have hCl : C.length = n * 2 := ho.1
  generalize hVS : [Value.string name, .slice none 0 0] = vs at *
  have hvl : vs.length = 2 := by rw [← hVS]; rfl
  have HVS := hid hVS
  clear hVS
  by_cases hin : i = n
  · -- at the end
    have hmid : mid C vs i = C ++ vs := by rw [mid, hin, List.take_of_length_le (by omega), List.drop_of_length_le (by omega), List.append_nil]
    rw [hmid]
    have Hvs := hid hvs
    have H1v := hid h1v
    have Ho := hid ho
    obtain ⟨p, cap, rfl⟩ := own_shape ho
    have hform : (p = none ∧ n = 0 ∧ cap = 0) ∨ ∃ g, p = some ⟨g, 0, none⟩ ∧ n ≤ cap ∧ cap ≤ maxLen := by
      obtain ⟨-, ⟨h, h0⟩ | ⟨g, c, cur, h, -, -, a, b, -⟩⟩ := ho
      · cases h; exact .inl ⟨rfl, h0, rfl⟩
      · cases h; exact .inr ⟨g, rfl, a, b⟩
    have t0 : ((n : Int) == (i : Int)) = true := by simp [hin]
    have t1 : ((i : Int) == (n : Int)) = true := by simp [hin]
    have p0 : (0 : Int) ≤ (i : Int) := by omega
    have p1 : (i : Int) ≤ (n : Int) := by omega
    have Hin := hid hin
    clear hvs h1v ho hmid hin
    rcases hform with ⟨rfl, rfl, rfl⟩ | ⟨g, rfl, hnc, hcm⟩
    rotate_left
    by_cases hci : cap = i
    all_goals
      (try rw [hml] at hcm)
      go_enter Tryz.func30, Tryz.ntmps30
      go_wp2_with (at_builtin; refine wpList_append_own_at _ rfl _ _ 24 rfl lo 42 i0 (.agg #[.string ByteArray.empty, .slice none 0 0]) 2 40 Tryz.underlying24 hi0 hz0 hzs hzb rfl (by decide) _ _ _ rfl Ho.out ⟨vb, 0, none⟩ 1 1 vs rfl (by rw [hvl]) ?c1 H1v.out ?c3 ?c4 ?c5 ?_)
      case c1 => (intro j u hj; have := Hvs.out j u hj; rw [Nat.zero_add] at this; rw [Addr.add_lit, Nat.zero_add]; exact this)
      case c3 => unfold maxLen; omega
      case c4 => omega
      case c5 => exact hB
      intro v' w1 hown' hgrow _ hat
      have K := hid (And.intro hown' (And.intro hgrow (at_or hat)))
      clear hown' hgrow hat
      go_wp2
      go_ret
      exact ⟨_, rfl, K.out.1, K.out.2.1, K.out.2.2⟩
  obtain ⟨g, cap, rfl⟩ := own_form ho (by omega)
  obtain ⟨hnc, hcm, rest, hfull⟩ := own_full2 ho
  rw [hml] at hcm
  have hcell : ∀ j u, C[j]? = some u → w.cell? ⟨g, j, none⟩ = some u := fun j u hj => by
    rw [ho.cellAt j (by have := (List.getElem?_eq_some_iff.1 hj).1; omega), hj]
  have hgv : g ≠ vb := fun e => hne (by rw [e]; rfl)
  have hdl : (C.drop (i * 2)).length = (n - i) * 2 := by rw [List.length_drop, hCl]; omega
  have hz1 : ((i : Int) == (n : Int)) = false := by rw [beq_eq_false_iff_ne]; omega
  have hz2 : ((n : Int) == (i : Int)) = false := by rw [beq_eq_false_iff_ne]; omega
  have hw1 : IntKind.i64.wrap ((i : Int) + 1) = (i : Int) + 1 := IntWalk.i64_in _ (by omega)
  have hb1 : (0 : Int) ≤ (i : Int) + 1 := by omega
  have htn : ((i : Int) + 1).toNat = i + 1 := by omega
  have hgw := (own_size ho).2
  by_cases hroom : cap < n + 1
  · -- no room: a new row
    obtain rfl : cap = n := by omega
    have hvw : vb < w.heap.size := (Array.getElem?_eq_some_iff.1 hl).1
    have hkk : (cap : Int) + 1 - (i : Int) = ((cap + 1 - i : Nat) : Int) := by omega
    have hik : i + (cap + 1 - i) = cap + 1 := by omega
    have hold : (Builtin.firstCells i0.size i (.slice (some ⟨g, 0, none⟩) i cap)).run Tryz.prog w.drew = .ok (C.take (i * 2)).toArray w.drew := by
      rw [hzs]
      exact run_firstCells_some w.drew 2 i ⟨g, 0, none⟩ i cap (C.take (i * 2)) (by rw [List.length_take]; omega) (fun j v hj => by
        rw [Addr.add_lit, Nat.zero_add]
        rw [List.getElem?_take] at hj
        split at hj
        · exact hcell j v hj
        · cases hj)
    have hrz : ∀ ty, (Builtin.append_ #[24, 3] ty #[.slice (some ⟨g, 0, none⟩) i cap, .int .i64 ((cap : Int) + 1 - (i : Int))]).run Tryz.prog w =
        .ok (.slice (some ⟨w.heap.size, 0, none⟩) (cap + 1) (grownCap w (cap + 1) cap 42)) (w.drew.alloc (.cells ((C.take (i * 2)).toArray ++ Builtin.zeroCells (Value.agg #[.string ByteArray.empty, .slice none 0 0]).cells (cap + 1 - i) ++ Builtin.zeroCells (Value.agg #[.string ByteArray.empty, .slice none 0 0]).cells (grownCap w (cap + 1) cap 42 - (cap + 1))) 42)) := fun ty => by
      have h := Lib.run_append_grow_zeros w 24 3 ty 42 i0 _ .i64 .i64 Tryz.underlying24 Tryz.underlying3 hi0 hz0 (some ⟨g, 0, none⟩) i cap (C.take (i * 2)) hold (cap + 1 - i) (by omega) (by omega) (by omega) (by omega) (by rw [hzb]; omega) (by rw [hzb, hik]; exact growslice_fits (by omega) (by omega))
      rw [hik] at h
      rw [hkk]
      exact h
    obtain ⟨G, hG⟩ : ∃ G, G = grownCap w (cap + 1) cap 42 := ⟨_, rfl⟩
    have hGn : cap + 1 ≤ G := by rw [hG]; exact grownCap_ge w _ _ _
    have hG63 : G ≤ 9223372036854775807 := by
      have := grownCap_le_maxLen w (cap + 1) cap 42 (by unfold maxLen; omega)
      rw [← hG] at this
      unfold maxLen at this
      omega
    rw [← hG] at hrz
    obtain ⟨ROW, hROW⟩ : ∃ ROW : Array Value, ROW = (C.take (i * 2)).toArray ++ Builtin.zeroCells (Value.agg #[.string ByteArray.empty, .slice none 0 0]).cells (cap + 1 - i) ++ Builtin.zeroCells (Value.agg #[.string ByteArray.empty, .slice none 0 0]).cells (G - (cap + 1)) := ⟨_, rfl⟩
    have hz2c : (Value.agg #[.string ByteArray.empty, .slice none 0 0]).cells.size = 2 := rfl
    have hRs : ROW.size = G * 2 := by
      rw [hROW]
      simp [size_zeroCells, hz2c, hCl]
      omega
    have hRt : ROW.toList.take (i * 2) = C.take (i * 2) := by
      rw [hROW, Array.toList_append, Array.toList_append, List.append_assoc, List.take_append_of_le_length (by simp [hCl]; omega)]
      exact List.take_of_length_le (by simp; omega)
    rw [← hROW] at hrz
    have hr0 : (w.drew.alloc (.cells ROW 42)).ownsRow lo 42 2 (.slice (some ⟨w.heap.size, 0, none⟩) G G) G ROW.toList := World.ownsRow_lit (base := lo) (e := 42) (size := 2) w.drew ROW G hB (by unfold maxLen; omega) hRs
    obtain ⟨W1, hW1⟩ : ∃ W1, W1 = w.drew.alloc (.cells ROW 42) := ⟨_, rfl⟩
    rw [← hW1] at hrz hr0
    have hx1 : Ext w W1 := by rw [hW1]; exact (Ext.refl w).drew.alloc _
    have hcpA : ∀ (W : World), (∀ x, W.cell? x = W1.cell? x) → (∀ x, W.frozen? x = W1.frozen? x) → ∀ ty dc, (Builtin.copy_ #[24, 24] ty #[.slice (some ⟨w.heap.size, i * 2, none⟩) (cap + 1 - i) dc, .slice (some ⟨vb, 0, none⟩) 1 1]).run Tryz.prog W = .ok (goInt (Nat.min 1 (cap + 1 - i))) (W.setCells w.heap.size (i * 2) vs) := fun W hWc hWf ty dc =>
      run_copy_wide W _ _ ty 42 2 w.heap.size (i * 2) (cap + 1 - i) dc ⟨vb, 0, none⟩ 1 1 vs Tryz.underlying24 hsz (by rw [hvl]; simp only [Nat.min_def]; split <;> omega)
        (fun j v hj => by rw [Addr.add_lit, hWc]; exact hx1.cell (hvs j v hj))
        (fun j hj => by rw [hWc, hr0.cellAt _ (by omega), List.getElem?_eq_getElem (by rw [hr0.1]; omega)]; rfl) (fun j hj => by rw [hWf]; exact hr0.frozenAt _) h1v
    have s1 := own_setCells vs W1 ROW.toList (i * 2) hr0 (by rw [hr0.1, hvl]; omega)
    obtain ⟨W2, hW2⟩ : ∃ W2, W2 = W1.setCells w.heap.size (i * 2) vs := ⟨_, rfl⟩
    rw [← hW2] at s1
    have hbN : g ≠ w.heap.size := by omega
    have hcpB : ∀ (W : World), (∀ x, W.cell? x = W2.cell? x) → (∀ x, W.frozen? x = W2.frozen? x) → ∀ ty dc sc, (Builtin.copy_ #[24, 24] ty #[.slice (some ⟨w.heap.size, (i + 1) * 2, none⟩) (cap - i) dc, .slice (some ⟨g, i * 2, none⟩) (cap - i) sc]).run Tryz.prog W = .ok (goInt (Nat.min (cap - i) (cap - i))) (W.setCells w.heap.size ((i + 1) * 2) (C.drop (i * 2))) := fun W hWc hWf ty dc sc =>
      run_copy_wide W _ _ ty 42 2 w.heap.size ((i + 1) * 2) (cap - i) dc ⟨g, i * 2, none⟩ (cap - i) sc (C.drop (i * 2)) Tryz.underlying24 hsz (by rw [hdl]; simp only [Nat.min_def]; split <;> omega)
        (fun j v hj => by
          rw [Addr.add_lit, hWc]
          exact s1.2.cell (hx1.cell (hcell (i * 2 + j) v (by rwa [List.getElem?_drop] at hj))) (fun e => hbN (Option.some.inj e)))
        (fun j hj => by rw [hWc, s1.1.cellAt _ (by omega), List.getElem?_eq_getElem (by rw [s1.1.1]; omega)]; rfl)
        (fun j hj => by rw [hWf]; exact s1.1.frozenAt _) (fun v hv => h1 v (List.mem_of_mem_drop hv))
    have s1d := own_ext s1.1 (Ext.refl W2).drew
    have s2 := own_setCells (C.drop (i * 2)) W2.drew _ ((i + 1) * 2) s1d (by rw [hdl, s1d.1]; omega)
    have s3 := own_take2 (n := cap + 1) s2.1 hGn
    have e1 : ((ROW.toList.take (i * 2) ++ vs ++ ROW.toList.drop (i * 2 + vs.length)).take ((i + 1) * 2) ++ C.drop (i * 2) ++ (ROW.toList.take (i * 2) ++ vs ++ ROW.toList.drop (i * 2 + vs.length)).drop ((i + 1) * 2 + (C.drop (i * 2)).length)).take ((cap + 1) * 2) = mid C vs i := by
      rw [hRt, List.take_left' (l₁ := C.take (i * 2) ++ vs) (by simp [hCl, hvl]; omega), mid]
      exact List.take_left' (by simp [hdl, hCl, hvl]; omega)
    rw [e1] at s3
    have hgW : w.grownBy (W2.drew.setCells w.heap.size ((i + 1) * 2) (C.drop (i * 2))) (Value.slice (some ⟨g, 0, none⟩) cap cap).ownBlock := by
      have a1 := Ext.grown hx1 s1.2 (fun j hj => by cases hj; exact Nat.le_refl _)
      exact (Ext.grown a1.drew s2.2 (fun j hj => by cases hj; exact Nat.le_refl _)).grownBy _
    have K := hid (And.intro s3 hgW)
    have hGi : ¬ (G = i) := by omega
    have hGim : ¬ (G = i + 1) := by omega
    have hci : ¬ (cap = i) := by omega
    have hz3 : (cap : Int) < (cap : Int) + 1 := by omega
    have hb3 : (i : Int) ≤ (cap : Int) := by omega
    have hb4 : (i : Int) ≤ (cap : Int) + 1 := by omega
    have hb5 : (i : Int) + 1 ≤ (cap : Int) + 1 := by omega
    have hw2 : IntKind.i64.wrap ((cap : Int) + 1) = (cap : Int) + 1 := IntWalk.i64_in _ (by omega)
    have hw3 : IntKind.i64.wrap ((cap : Int) + 1 - (i : Int)) = (cap : Int) + 1 - (i : Int) := IntWalk.i64_in _ (by omega)
    have HW := hid (And.intro hW1 hW2)
    clear s1 s2 s3 s1d e1 hgW hx1 hr0 hRt hRs hROW hG hold hfull ho hcell hvs h1 h1v hkk hik hW1 hW2
    go_enter Tryz.func30, Tryz.ntmps30
    go_wp2_with (at_builtin; refine Lib.wpList_append_run _ rfl _ _ _ _ rfl _ _ rfl rfl _ _ (hrz _) ?_)
    rw [← HW.out.2]
    go_region_law (refine step_copy_runI rfl _ _ 24 24 rfl (.slice (some ⟨w.heap.size, (i + 1) * 2, none⟩) (cap - i) (G - (i + 1))) (.slice (some ⟨g, i * 2, none⟩) (cap - i) (cap - i)) (by simp [Act.eval, Act.put]) (by simp [Act.eval, Act.put]) (hcpB W2.drew (fun _ => rfl) (fun _ => rfl) _ _ _) ?_)
    go_wp2
    go_ret
    exact ⟨_, rfl, K.out.1, K.out.2, fun j hj => .inr (by cases hj; exact Nat.le_refl _)⟩
  · -- room: in place
    have hsp : ∀ j, j < (n + 1) * 2 → (w.cell? ⟨g, j, none⟩).isSome = true := fun j hj => by
      rw [hfull.cellAt j (by omega), List.getElem?_eq_getElem (by rw [hfull.1]; omega)]; rfl
    have hfz : ∀ j, w.frozen? ⟨g, j, none⟩ = false := fun j => hfull.frozenAt j
    have hl0 := hvs 0 _ (List.getElem?_eq_getElem (by omega))
    obtain ⟨tA, kA, hsa, -, -⟩ := World.shape?_of_cell? hl0
    have hg0 := hfull.cellAt 0 (by omega)
    rw [List.getElem?_eq_getElem (by rw [hfull.1]; omega)] at hg0
    obtain ⟨tB, kB, hsb, hkB, -⟩ := World.shape?_of_cell? hg0
    have hsa' : w.shape? vb = some (tA, kA) := hsa
    have hsb' : w.shape? g = some (tB, kB) := hsb
    have hsof : ∀ w, (Go.sizeOf 42).run Tryz.prog w = .ok 2 w := fun w => by kernel_rfl
    have hov : ∀ lb cb, (callFunc 61 #[.slice (some ⟨vb, 0, none⟩) 1 1, .slice (some ⟨g, (i + 1) * 2, none⟩) lb cb]).run Tryz.prog w = .ok (.value (.bool false)) w := fun lb cb => by
      rw [run_callFunc_extern Tryz.func61 (by kernel_rfl) (by kernel_rfl) (by kernel_rfl) (e := Extern.SlicesOverlaps.overlaps #[24, 24] #[4]) (by kernel_rfl),
        Lib.run_overlaps_apart w 24 4 42 Tryz.underlying24 2 hsof ⟨vb, 0, none⟩ ⟨g, (i + 1) * 2, none⟩ 1 1 lb cb (fun e => hgv e.symm) tA tB kA kB hsa' hsb' (by intro e; subst e; simp at hkB) (frozen_of_row w vb 0 _ _ hl) (frozen_of_row w vb kA _ _ hl)]
      rfl
    have hcp1 : ∀ ty dc sc, (Builtin.copy_ #[24, 24] ty #[.slice (some ⟨g, (i + 1) * 2, none⟩) (n - i) dc, .slice (some ⟨g, i * 2, none⟩) (n + 1 - i) sc]).run Tryz.prog w.drew = .ok (goInt (Nat.min (n + 1 - i) (n - i))) (w.drew.setCells g ((i + 1) * 2) (C.drop (i * 2))) := fun ty dc sc =>
      run_copy_wide w.drew _ _ ty 42 2 g ((i + 1) * 2) (n - i) dc ⟨g, i * 2, none⟩ (n + 1 - i) sc (C.drop (i * 2)) Tryz.underlying24 hsz (by rw [hdl]; simp only [Nat.min_def]; split <;> omega)
        (fun j v hj => by rw [Addr.add_lit]; exact hcell (i * 2 + j) v (by rwa [List.getElem?_drop] at hj))
        (fun j hj => hsp _ (by omega)) (fun j hj => hfz _) (fun v hv => h1 v (List.mem_of_mem_drop hv))
    have s1 := own_setCells (C.drop (i * 2)) w.drew (C ++ rest) ((i + 1) * 2) (own_ext hfull (Ext.refl w).drew) (by rw [hdl, hfull.1]; omega)
    obtain ⟨W1, hW1⟩ : ∃ W1, W1 = w.drew.setCells g ((i + 1) * 2) (C.drop (i * 2)) := ⟨_, rfl⟩
    rw [← hW1] at hcp1 s1
    have hg1 : w.grownBy W1 (some g) := grownBy_trans ((Ext.refl w).drew.grownBy _) s1.2
    have hcp2 : ∀ ty dc, (Builtin.copy_ #[24, 24] ty #[.slice (some ⟨g, i * 2, none⟩) (n + 1 - i) dc, .slice (some ⟨vb, 0, none⟩) 1 1]).run Tryz.prog W1 = .ok (goInt (Nat.min 1 (n + 1 - i))) (W1.setCells g (i * 2) vs) := fun ty dc =>
      run_copy_wide W1 _ _ ty 42 2 g (i * 2) (n + 1 - i) dc ⟨vb, 0, none⟩ 1 1 vs Tryz.underlying24 hsz (by rw [hvl]; simp only [Nat.min_def]; split <;> omega)
        (fun j v hj => by rw [Addr.add_lit]; exact hg1.cell (hvs j v hj) (fun e => hgv (Option.some.inj e).symm))
        (fun j hj => by rw [s1.1.cellAt _ (by omega), List.getElem?_eq_getElem (by rw [s1.1.1]; omega)]; rfl) (fun j hj => s1.1.frozenAt _) h1v
    have s2 := own_setCells vs W1 _ (i * 2) s1.1 (by rw [s1.1.1, hvl]; omega)
    have s3 := own_take2 (n := n + 1) s2.1 (by omega)
    have e1 : ((((C ++ rest).take ((i + 1) * 2) ++ C.drop (i * 2) ++ (C ++ rest).drop ((i + 1) * 2 + (C.drop (i * 2)).length)).take (i * 2)) ++ vs ++ (((C ++ rest).take ((i + 1) * 2) ++ C.drop (i * 2) ++ (C ++ rest).drop ((i + 1) * 2 + (C.drop (i * 2)).length)).drop (i * 2 + vs.length))).take ((n + 1) * 2) = mid C vs i := by
      generalize (C ++ rest).drop ((i + 1) * 2 + (C.drop (i * 2)).length) = E
      have l1 : ((C ++ rest).take ((i + 1) * 2)).length = (i + 1) * 2 := by rw [List.length_take, hfull.1]; omega
      have l2 : ((C ++ rest).take ((i + 1) * 2)).take (i * 2) = C.take (i * 2) := by rw [List.take_take, Nat.min_eq_left (by omega), List.take_append_of_le_length (by omega)]
      generalize (C ++ rest).take ((i + 1) * 2) = P at *
      have a1 : (P ++ C.drop (i * 2) ++ E).take (i * 2) = C.take (i * 2) := by rw [List.append_assoc, List.take_append_of_le_length (by omega), l2]
      have a2 : (P ++ C.drop (i * 2) ++ E).drop (i * 2 + vs.length) = C.drop (i * 2) ++ E := by rw [List.append_assoc]; exact List.drop_left' (by omega)
      rw [a1, a2, ← List.append_assoc, mid]
      exact List.take_left' (by simp [hdl, hCl, hvl]; omega)
    rw [e1] at s3
    have K := hid (And.intro s3 (grownBy_trans hg1 s2.2))
    have HW1 := hid hW1
    have hb2 : ¬ (cap = i + 1) := by omega
    have hb3 : (i : Int) ≤ (n : Int) + 1 := by omega
    have hb4 : ¬ (cap = i) := by omega
    have hb5 : (n : Int) + 1 ≤ (cap : Int) := by omega
    have hb6 : decide ((cap : Int) < (n : Int) + 1) = false := by simp; omega
    have hw2 : IntKind.i64.wrap ((n : Int) + 1) = (n : Int) + 1 := IntWalk.i64_in _ (by omega)
    have hb7 : (i : Int) + 1 ≤ (n : Int) + 1 := by omega
    clear hW1 s1 s2 s3 e1 hg1 hsa' hsb' hsa hsb hg0 hl0 hfull ho hcell hfz hvs h1 h1v
    go_enter Tryz.func30, Tryz.ntmps30
    go_wp2_with (simp only [hov])
    go_region_law (refine step_copy_runI rfl _ _ 24 24 rfl _ _ (by simp [Act.eval, Act.put]) (by simp [Act.eval, Act.put]) (hcp1 _ _ _) ?_)
    go_wp2_with (at_builtin; refine wpList_copy_runI _ rfl _ _ 24 24 rfl _ _ rfl rfl (hcp2 _ _) ?_)
    go_ret
    exact ⟨_, rfl, K.out.1, K.out.2, fun j hj => .inl hj⟩
end Go.Proofs.YtmblofcaiaeiaaaGreatDoor
