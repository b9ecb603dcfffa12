/- A capture parsed: the reference's side. -/
import Derived.Test.YtljknhocfjpolaaGreatDoorKWSf
import Derived.Test.YtljknhocfjpolaaGreatDoorJ11
namespace Go.Proofs.YtljknhocfjpolaaGreatDoor
open Go.RowKit
set_option maxHeartbeats 2000000
set_option maxRecDepth 100000
/-- While lines are parsed: the row; the lines so far are those of L. -/
def NuC (w W : World) (u : Value) (L : List Cap) : Prop := Ext w W ∧ W.ownsRow w.heap.size 48 8 u L.length (L.flatMap Cap.cs)
theorem NuC.ext {w W W' : World} {u : Value} {L : List Cap} (h : NuC w W u L) (hx : Ext W W') : NuC w W' u L := ⟨h.1.trans hx, own_ext h.2 hx⟩
theorem NuC.grow {w W W' : World} {u u' : Value} {L : List Cap} {x : Cap} (h : NuC w W u L) (hg : W.grownBy W' u.ownBlock) (ho : W'.ownsRow w.heap.size 48 8 u' (L.length + 1) (L.flatMap Cap.cs ++ x.cs)) : NuC w W' u' (L ++ [x]) := by
  refine ⟨h.1.grown hg (fun j e => (own_row h.2 j e).1), ?_⟩
  rw [List.length_append, List.flatMap_append, List.flatMap_singleton]
  exact ho
def LnOk (W : List ByteArray) (k : Nat) (L : List Cap) : Prop := (L.length = k ∧ W.take k = L.map capL) ∧ ∀ x ∈ L, okC x = true
theorem LnOk.step {W : List ByteArray} {k : Nat} {L : List Cap} (h : LnOk W k L) (hk : k < W.length) {x : Cap} (hb : pcB (W.getD k ByteArray.empty) = true) (hx : x = wdX (splS (W.getD k ByteArray.empty) 32)) : LnOk W (k + 1) (L ++ [x]) := by
  obtain ⟨h1, h2⟩ := pcB_yes hb
  rw [← hx] at h1 h2
  refine ⟨⟨by rw [List.length_append, h.1.1]; rfl, ?_⟩, fun y hy => ?_⟩
  · rw [take_snoc W ByteArray.empty k hk, h.1.2, List.map_append, List.map_singleton, h2]
  · rcases List.mem_append.1 hy with hy | hy
    · exact h.2 y hy
    · rw [List.mem_singleton.1 hy]; exact h1
theorem LnOk.bad {s : ByteArray} {k : Nat} (hk : k + 1 < (splS s 10).length) (hb : pcB ((splS s 10).getD k ByteArray.empty) = false) : PC s = none := PC_none fun xs hp => by
  have hl := pc_lines hp
  rw [hl] at hk hb
  rw [List.length_append, List.length_map, List.length_singleton] at hk
  have hkl : k < xs.length := by omega
  have e : (xs.map capL ++ [(⟨#[]⟩ : ByteArray)]).getD k ByteArray.empty = capL xs[k] := by
    rw [List.getD_eq_getElem?_getD, List.getElem?_append_left (by rw [List.length_map]; exact hkl), List.getElem?_map, List.getElem?_eq_getElem hkl]; rfl
  rw [e, (pcB_back (okC_of hp.1 _ (List.getElem_mem hkl))).1] at hb
  cases hb
theorem ln_last {s : ByteArray} (h : ¬ (splS s 10).getD ((splS s 10).length - 1) ByteArray.empty = ⟨#[]⟩) : PC s = none := PC_none fun xs hp => h (by
  rw [pc_lines hp, List.length_append, List.length_singleton, Nat.add_sub_cancel, List.getD_eq_getElem?_getD, List.getElem?_append_right (Nat.le_refl _), Nat.sub_self]; rfl)
theorem LnOk.fin {s : ByteArray} {k : Nat} {L : List Cap} (h : LnOk (splS s 10) k L) (hk : k + 1 = (splS s 10).length) (hl : (splS s 10).getD k ByteArray.empty = ⟨#[]⟩) : (capB L = true → PC s = some L) ∧ (capB L = false → PC s = none) := by
  have e : splS s 10 = L.map capL ++ [⟨#[]⟩] := by
    have h1 := take_snoc (splS s 10) ByteArray.empty k (by omega)
    rw [List.take_of_length_le (by omega), h.1.2, hl] at h1
    exact h1
  have hR := pc_sound e
  refine ⟨fun hb => PC_some ⟨hb, hR⟩, fun hb => PC_none fun xs hp => ?_⟩
  have := capR_inj (okC_of hp.1) h.2 (hp.2.trans hR.symm)
  rw [← this, hp.1] at hb
  cases hb
theorem chars8 : ∀ {L : List Cap}, (∀ x ∈ L, okC x = true) → Cap.chars L ≤ L.length * 8
  | [], _ => by simp [Cap.chars]
  | x :: L, h => by
    have h1 := chars8 (L := L) (fun y hy => h y (by simp [hy]))
    have h2 := okC_size (h x (by simp))
    have e : Cap.chars (x :: L) = x.d.size + Cap.chars L := by simp [Cap.chars]
    rw [e, List.length_cons, Nat.add_mul]
    omega
/-- And the lines' own row. -/
def NuL (w W : World) (u : Value) (L : List Cap) (Q qc n : Nat) (Ws : List ByteArray) : Prop := NuC w W u L ∧ (Rd W 1 (.slice (some ⟨Q, 0, none⟩) n qc) n (vStrs Ws) ∧ u.ownBlock ≠ some Q ∧ Q < W.heap.size)
theorem NuL.ext {w W W' : World} {u : Value} {L : List Cap} {Q qc n : Nat} {Ws : List ByteArray} (h : NuL w W u L Q qc n Ws) (hx : Ext W W') : NuL w W' u L Q qc n Ws := ⟨h.1.ext hx, h.2.1.ext hx, h.2.2.1, Nat.lt_of_lt_of_le h.2.2.2 hx.size⟩
theorem spec_ParseCapture (s : ByteArray) (w : World) (h : s.size ≤ 1048576) :
    Calls Tryz.prog 6 #[.string s] w fun e w' => ∃ r, e = .returned (.tuple #[r, .bool (PC s).isSome]) ∧ w'.ownsRow w.heap.size 48 8 r (pcL (PC s)).length ((pcL (PC s)).flatMap Cap.cs) ∧ Ext w w' := by
  have cs := hid (fun W => spec_l1Split s 10 10 rfl W h)
  have hpos := splS_pos s 10
  have hll := splS_len s 10
  have hat := hid (fun i hi => splS_at (s := s) (b := 10) i hi)
  have hbig := hid (show ¬ s.size ≤ 600 → PC s = none from fun h => PC_none fun xs hp => h (by have := isPC_size hp; omega))
  have hlast := hid (ln_last (s := s))
  have hbad := hid (fun k hk hb => LnOk.bad (s := s) (k := k) hk hb)
  have hfin := hid (fun k L h hk hl => LnOk.fin (s := s) (k := k) (L := L) h hk hl)
  have N0 : Hid (NuC w (w.alloc (.cells #[] 48)) (.slice (some ⟨w.heap.size, 0, none⟩) 0 0) []) := ⟨(by repeat' (first | exact Ext.refl _ | assumption | refine Ext.alloc ?_ _ | refine Ext.ext ?_ _ | refine Ext.drew ?_ | refine Ext.drewN ?_ _)), World.ownsRow_lit w #[] 0 (Nat.le_refl _) (Nat.zero_le _) rfl⟩
  have hW0 : (w.alloc (.cells #[] 48)).heap.size = w.heap.size + 1 := by simp
  obtain ⟨i0, hi, hz0, hz1, hz2⟩ := info_parts infoCap
  generalize PC s = O at *
  generalize splS s 10 = W at *
  go_enter Tryz.func6, Tryz.ntmps6
  go_wp2_with fail
  generalize w.alloc (.cells #[] 48) = W0 at *
  go_at_call 38
  refine (cs.out _).mono ?_
  rintro e w1 ⟨r, rfl, ho, hx⟩
  obtain ⟨Q, qc, rfl, -, -⟩ := own_form8 ho hpos
  have hQ := own_row ho Q rfl
  have H1 : Hid (NuL w w1 (.slice (some ⟨w.heap.size, 0, none⟩) 0 0) [] Q qc W.length W) := ⟨N0.out.ext hx, Rd.own ho, fun e => by have : w.heap.size = Q := Option.some.inj e; omega, hQ.2⟩
  clear hx ho N0 hW0 hQ cs
  obtain ⟨n, hn⟩ : ∃ n, W.length = n + 1 := ⟨W.length - 1, by omega⟩
  by_cases h6 : s.size ≤ 600
  · have t6 : ¬ (600 : Int) < (s.size : Int) := by omega
    have cl := rdS_at2 H1.out.2.1 n (by omega)
    have e2 : IntKind.i64.wrap ((W.length : Int) - 1) = (n : Int) := (IntWalk.i64_in _ (by omega)).trans (by omega)
    have g0 : (0 : Int) ≤ (n : Int) := by omega
    have g1 : (n : Int) < (W.length : Int) := by omega
    have hn6 : n ≤ 600 := by omega
    have Hn := hid hn
    have hls := hlast.out
    rw [hn, Nat.add_sub_cancel] at hls
    by_cases hl : W.getD n ByteArray.empty = ⟨#[]⟩
    · rw [hl] at cl
      have Hl := hid hl
      clear hls hl hn hpos hll
      go_wp2_with fail
      go_loopw [6, 4] (fun v6 v4 wr => ∃ (k : Nat) (L : List Cap) (u : Value) (yr : World), k ≤ n ∧ v6 = .int .i64 k ∧ u = v4 ∧ yr = wr ∧ L.length ≤ 600 ∧ Hid (LnOk W k L) ∧ Hid (NuL w yr u L Q qc W.length W)) (fun v6 _ _ => n - (intOf v6).toNat)
      case atStart => exact ⟨0, [], _, _, Nat.zero_le _, rfl, rfl, rfl, Nat.zero_le _, ⟨⟨rfl, by rw [List.take_zero]; rfl⟩, fun _ h => by cases h⟩, H1⟩
      case round =>
        obtain ⟨k, L, u, wr, hk, rfl, rfl, rfl, hL6, HL, HR⟩ := hrel
        obtain ⟨up, uc, rfl⟩ := own_shape HR.out.1.2
        clear H1 cl
        by_cases hlt : k < n
        · have hkl : k < W.length := by have := Hn.out; omega
          have c0 := rdS_at2 HR.out.2.1 k hkl
          have hzz := hat.out k hkl
          have hstep := hid (fun x hb hx => LnOk.step HL.out hkl (x := x) hb hx)
          have hbk := hid (fun hb => hbad.out k (by have := Hn.out; omega) hb)
          have t0 : (k : Int) < (n : Int) := by omega
          have g2 : (0 : Int) ≤ (k : Int) := by omega
          have g3 : (k : Int) < (W.length : Int) := by omega
          have hk1 : L.length = k := HL.out.1.1
          have hL9 : L.length + 1 ≤ 600 := by omega
          clear hk1
          generalize W.getD k ByteArray.empty = S at *
          have cp := hid (fun W => spec_l25Parse S W (by omega))
          generalize pcB S = pb at *
          go_wp2_with fail
          go_at_call 39
          refine (cp.out _).mono ?_
          rintro e w5 ⟨⟨t, n', v, c, m, r, q, d⟩, rfl, hwd, hds, hx⟩
          dsimp only [Cap.cs]
          have X6 : Ext w5 (w5.alloc (.cells #[.int .i64 t, .int .i64 n', .bool v, .int .i64 c, .int .i64 m, .int .i64 r, .int .i64 q, .string d] 48)) := (by repeat' (first | exact Ext.refl _ | assumption | refine Ext.alloc ?_ _ | refine Ext.ext ?_ _ | refine Ext.drew ?_ | refine Ext.drewN ?_ _))
          have hCb := hid (show (w5.alloc (.cells #[.int .i64 t, .int .i64 n', .bool v, .int .i64 c, .int .i64 m, .int .i64 r, .int .i64 q, .string d] 48)).heap[w5.heap.size]? = some (.cells #[.int .i64 t, .int .i64 n', .bool v, .int .i64 c, .int .i64 m, .int .i64 r, .int .i64 q, .string d] 48 (0, 0)) from heap_at _ rfl)
          have H6 := hid ((HR.out.ext hx).ext X6)
          have Hwd := hid hwd
          clear hx X6 HR c0 cp hwd hds
          go_upto_region 9 with fail
          generalize (w5.alloc (.cells #[.int .i64 t, .int .i64 n', .bool v, .int .i64 c, .int .i64 m, .int .i64 r, .int .i64 q, .string d] 48)) = W6 at *
          generalize w5.heap.size = X at *
          cases pb
          · have hO := hbk.out rfl
            have HO := hid hO
            clear hO
            go_wp2
            go_ret2
            exact ⟨_, by rw [HO.out]; rfl, by rw [HO.out]; exact World.ownsRow_lit W6 #[] 0 H6.out.1.1.size (Nat.zero_le _) rfl, H6.out.1.1.trans (by repeat' (first | exact Ext.refl _ | assumption | refine Ext.alloc ?_ _ | refine Ext.ext ?_ _ | refine Ext.drew ?_ | refine Ext.drewN ?_ _))⟩
          · obtain ⟨⟨c0, c1, c2, c3, c4, c5, c6, c7⟩, -, -⟩ := box8 hCb.out
            go_wp2_with (at_builtin; refine wpList_append_own_at _ rfl _ _ 22 rfl w.heap.size 48 i0 (.agg #[.int .i64 0, .int .i64 0, .bool false, .int .i64 0, .int .i64 0, .int .i64 0, .int .i64 0, .string ByteArray.empty]) 8 72 Tryz.underlying22 hi hz0 hz1 hz2 rfl (by decide) _ _ _ rfl ((own_ext H6.out.1.2 (by repeat' (first | exact Ext.refl _ | assumption | refine Ext.alloc ?_ _ | refine Ext.ext ?_ _ | refine Ext.drew ?_ | refine Ext.drewN ?_ _)))) ⟨_, 0, none⟩ 1 1 [.int .i64 t, .int .i64 n', .bool v, .int .i64 c, .int .i64 m, .int .i64 r, .int .i64 q, .string d] rfl ?a0A ?a1A ?a2A ?a3A ?a4A ?a5A ?_)
            (try case a0A => rfl)
            (try case a1A => (intro j u hj; rw [Addr.add_lit, Nat.zero_add, cell_of_row _ _ j _ _ (0, 0) (heap_at _ rfl)]; simpa using hj))
            case a2A => simp [Value.oneCell']
            case a3A => (unfold maxLen; omega)
            case a4A => omega
            case a5A => (have := H6.out.1.1.size; omega)
            intro v' w7 hown' hgrow hat1 hat2
            obtain ⟨g', cap', rfl, -, -⟩ := own_form8 hown' (Nat.succ_pos _)
            have XA : Ext W6 (W6.alloc (.cells #[.int .i64 t, .int .i64 n', .bool v, .int .i64 c, .int .i64 m, .int .i64 r, .int .i64 q, .string d] 48)) := (by repeat' (first | exact Ext.refl _ | assumption | refine Ext.alloc ?_ _ | refine Ext.ext ?_ _ | refine Ext.drew ?_ | refine Ext.drewN ?_ _))
            have H7 := hid (H6.out.ext XA)
            have hg2 : (Value.slice (some ⟨g', 0, none⟩) (L.length + 1) cap').ownBlock ≠ some Q := fun e => by
              have eg : g' = Q := Option.some.inj e
              rcases hat2 with e3 | e3
              · exact H7.out.2.2.1 (by rw [← e3]; exact e)
              · have e4 := Option.some.inj (show some g' = some _ from e3)
                have := H6.out.2.2.2
                omega
            have HB := hid (show NuL w w7 (.slice (some ⟨g', 0, none⟩) (L.length + 1) cap') (L ++ [⟨t, n', v, c, m, r, q, d⟩]) Q qc W.length W from ⟨H7.out.1.grow (x := ⟨t, n', v, c, m, r, q, d⟩) hgrow hown', rd_turn H7.out.2.1 hgrow (fun b o m c e _ => by cases e; exact H7.out.2.2.1), hg2, Nat.lt_of_lt_of_le H7.out.2.2.2 hgrow.size⟩)
            have HS9 := hid (hstep.out ⟨t, n', v, c, m, r, q, d⟩ (by trivial) (Hwd.out (by trivial)))
            clear hown' hgrow hat1 hat2 H6 H7 hg2 XA c0 c1 c2 c3 c4 c5 c6 c7
            go_wp2
            go_roundw
            case rel => exact ⟨k + 1, L ++ [⟨t, n', v, c, m, r, q, d⟩], _, _, by omega, by go_num, rfl, rfl, by rw [List.length_append]; exact hL9, HS9, HB⟩
            case measure => simp [intOf]; omega
        · obtain rfl : k = n := by omega
          have hf := hfin.out k L HL.out Hn.out.symm Hl.out
          have hc8 := chars8 HL.out.2
          have cg := hid (fun W h => spec_l25Good L (.slice up L.length uc) W h (by omega) (by omega))
          have H2 := hid HR.out.1
          clear HR
          cases hB : capB L
          · have HO := hid (hf.2 hB)
            rw [hB] at cg
            clear hf hB
            go_wp2_with fail
            go_at_call 40
            refine (cg.out _ (Rd.own H2.out.2)).mono ?_
            rintro e w5 ⟨rfl, hx⟩
            have H5 := hid (H2.out.ext hx)
            clear hx H2 cg
            go_wp2
            go_ret2
            exact ⟨_, by rw [HO.out]; rfl, by rw [HO.out]; exact World.ownsRow_lit w5 #[] 0 H5.out.1.size (Nat.zero_le _) rfl, H5.out.1.trans (by repeat' (first | exact Ext.refl _ | assumption | refine Ext.alloc ?_ _ | refine Ext.ext ?_ _ | refine Ext.drew ?_ | refine Ext.drewN ?_ _))⟩
          · have HO := hid (hf.1 hB)
            rw [hB] at cg
            clear hf hB
            go_wp2_with fail
            go_at_call 40
            refine (cg.out _ (Rd.own H2.out.2)).mono ?_
            rintro e w5 ⟨rfl, hx⟩
            have H5 := hid (H2.out.ext hx)
            clear hx H2 cg
            go_wp2
            go_ret2
            exact ⟨_, by rw [HO.out]; rfl, by rw [HO.out]; exact H5.out.2, H5.out.1⟩
    · have hO := hls hl
      have HO := hid hO
      generalize W.getD n ByteArray.empty = S at *
      have te : S.toList.isEmpty = false := by
        cases hh : S.toList with
        | nil => exact absurd (by have := str_no hl; rw [hh] at this; simp at this) (fun h => h)
        | cons x y => rfl
      clear hls hl hn hpos hll hO
      go_wp2
      go_ret2
      exact ⟨_, by rw [HO.out]; rfl, by rw [HO.out]; exact H1.out.1.2, H1.out.1.1⟩
  · have t6 : (600 : Int) < (s.size : Int) := by omega
    have hO := hbig.out h6
    have HO := hid hO
    clear hn hpos hll hO
    go_wp2
    go_ret2
    exact ⟨_, by rw [HO.out]; rfl, by rw [HO.out]; exact H1.out.1.2, H1.out.1.1⟩
end Go.Proofs.YtljknhocfjpolaaGreatDoor
