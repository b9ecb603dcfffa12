/- What the law of groups draws. -/
import Derived.Test.YtmblofcaiaeiaaaGreatDoorKWCurI
import Derived.Deep.RegionHeld3
namespace Go.Proofs.YtmblofcaiaeiaaaGreatDoor
open Go.RowKit
set_option maxHeartbeats 4000000
set_option maxRecDepth 100000
theorem spec_DrawJoinGroup {bs : List Int} (hb : Bts bs) {v : Value} (w : World) (h : Rd w 1 v bs.length (vBytes bs)) :
    Calls Tryz.prog 5 #[v] w fun e w' => ∃ (q c : Nat) (gs : List Grp) (ds : List Gc) (name : ByteArray) (x : Int), e = .returned (.tuple #[.slice (some ⟨q, 0, none⟩) gs.length c, .string name, .int .i64 x]) ∧ (gs.length ≤ 10 ∧ SmG gs ∧ name.size ≤ 9) ∧ GRd w' (.slice (some ⟨q, 0, none⟩) gs.length c) gs ds ∧ Ext w w' := by
  have HS := hid (cur_start h)
  have Hb := hid hb
  obtain ⟨-, p, cap, rfl, -⟩ := h
  clear hb
  go_enter Tryz.func5, Tryz.ntmps5
  go_wp2_with fail
  go_at_call 23
  change Calls _ _ _ (C1 w (.slice p bs.length cap)) _
  generalize C1 w (.slice p bs.length cap) = W0 at *
  have H0 := hid HS.out.1
  refine (spec_groups Hb.out _ H0.out.1 (by omega)).mono ?_
  rintro e w1 ⟨u, gs, ds, rfl, hn, hd⟩
  obtain ⟨ug, uc, rfl⟩ := hd.form
  have H1 := hid hd
  clear hd H0
  go_wp2_with fail
  go_at_call 24
  refine (spec_groupName Hb.out _ H1.out.1.1 (by omega)).mono ?_
  rintro e w2 ⟨s, rfl, hss, hc, hg⟩
  have H2 := hid (H1.out.step hc hg)
  clear hc hg H1
  go_wp2_with fail
  go_at_call 25
  refine (spec_memberNode Hb.out _ H2.out.1.1 (by omega)).mono ?_
  rintro e w3 ⟨x, rfl, hc, hg⟩
  have H3 := hid (H2.out.step hc hg)
  clear hc hg H2
  go_wp2
  go_returns
  exact ⟨ug, uc, gs, ds, s, x, rfl, ⟨hn, H3.out.2.2.2, hss⟩, H3.out.rd, cur_fin HS.out.2.1 H3.out.1 (Nat.le_refl _)⟩
theorem spec_DrawGroupsOf {bs : List Int} (hb : Bts bs) {v : Value} (w : World) (h : Rd w 1 v bs.length (vBytes bs)) :
    Calls Tryz.prog 20 #[v] w fun e w' => ∃ (q c : Nat) (gs : List Grp) (ds : List Gc) (x : Int), e = .returned (.tuple #[.slice (some ⟨q, 0, none⟩) gs.length c, .int .i64 x]) ∧ (gs.length ≤ 10 ∧ SmG gs) ∧ GRd w' (.slice (some ⟨q, 0, none⟩) gs.length c) gs ds ∧ Ext w w' := by
  have HS := hid (cur_start h)
  have Hb := hid hb
  obtain ⟨-, p, cap, rfl, -⟩ := h
  clear hb
  go_enter Tryz.func20, Tryz.ntmps20
  go_wp2_with fail
  go_at_call 23
  change Calls _ _ _ (C1 w (.slice p bs.length cap)) _
  generalize C1 w (.slice p bs.length cap) = W0 at *
  have H0 := hid HS.out.1
  refine (spec_groups Hb.out _ H0.out.1 (by omega)).mono ?_
  rintro e w1 ⟨u, gs, ds, rfl, hn, hd⟩
  obtain ⟨ug, uc, rfl⟩ := hd.form
  have H1 := hid hd
  clear hd H0
  go_wp2_with fail
  go_at_call 25
  refine (spec_memberNode Hb.out _ H1.out.1.1 (by omega)).mono ?_
  rintro e w2 ⟨x, rfl, hc, hg⟩
  have H2 := hid (H1.out.step hc hg)
  clear hc hg H1
  go_wp2
  go_ret2
  exact ⟨ug, uc, gs, ds, x, rfl, ⟨hn, H2.out.2.2.2⟩, H2.out.rd, cur_fin HS.out.2.1 H2.out.1 (Nat.le_refl _)⟩
theorem spec_DrawSharedMembers {bs : List Int} (hb : Bts bs) {v : Value} (w : World) (h : Rd w 1 v bs.length (vBytes bs)) :
    Calls Tryz.prog 47 #[v] w fun e w' => ∃ (q c : Nat) (gs : List Grp) (ds : List Gc) (a b : ByteArray), e = .returned (.tuple #[.slice (some ⟨q, 0, none⟩) gs.length c, .string a, .string b]) ∧ (gs.length ≤ 10 ∧ SmG gs ∧ a.size ≤ 9 ∧ b.size ≤ 9) ∧ GRd w' (.slice (some ⟨q, 0, none⟩) gs.length c) gs ds ∧ Ext w w' := by
  have HS := hid (cur_start h)
  have Hb := hid hb
  obtain ⟨-, p, cap, rfl, -⟩ := h
  clear hb
  go_enter Tryz.func47, Tryz.ntmps47
  go_wp2_with fail
  go_at_call 23
  change Calls _ _ _ (C1 w (.slice p bs.length cap)) _
  generalize C1 w (.slice p bs.length cap) = W0 at *
  have H0 := hid HS.out.1
  refine (spec_groups Hb.out _ H0.out.1 (by omega)).mono ?_
  rintro e w1 ⟨u, gs, ds, rfl, hn, hd⟩
  obtain ⟨ug, uc, rfl⟩ := hd.form
  have H1 := hid hd
  clear hd H0
  go_wp2_with fail
  go_at_call 24
  refine (spec_groupName Hb.out _ H1.out.1.1 (by omega)).mono ?_
  rintro e w2 ⟨a, rfl, hsa, hc, hg⟩
  have H2 := hid (H1.out.step hc hg)
  clear hc hg H1
  go_wp2_with fail
  go_at_call 24
  refine (spec_groupName Hb.out _ H2.out.1.1 (by omega)).mono ?_
  rintro e w3 ⟨b, rfl, hsb, hc, hg⟩
  have H3 := hid (H2.out.step hc hg)
  clear hc hg H2
  by_cases hz : gs.length = 0
  · have t0 : decide ((0 : Int) < (gs.length : Int)) = false := by apply decide_eq_false; omega
    have t1 : ¬ ((0 : Int) < (gs.length : Int)) := by omega
    clear hz
    go_wp2
    go_returns
    exact ⟨ug, uc, gs, ds, a, b, rfl, ⟨hn, H3.out.2.2.2, (by first | assumption | omega), (by first | assumption | omega)⟩, H3.out.rd, cur_fin HS.out.2.1 H3.out.1 (Nat.le_refl _)⟩
  · have t0 : decide ((0 : Int) < (gs.length : Int)) = true := by apply decide_eq_true; omega
    have t1 : ((0 : Int) < (gs.length : Int)) := by omega
    go_wp2_with fail
    go_at_call 44
    refine (spec_one Hb.out 4 _ H3.out.1.1 (by omega) (by omega)).mono ?_
    rintro e w4 ⟨y, rfl, hc, hg⟩
    have H4 := hid (H3.out.step hc hg)
    clear hc hg H3
    cases y
    · skip
      go_wp2_with fail
      go_at_call 45
      refine (spec_pick Hb.out (gs.length : Int) _ H4.out.1.1 (by omega) (by omega)).mono ?_
      rintro e w5 ⟨i, rfl, hx0, hx1, hc, hg⟩
      have H5 := hid (H4.out.step hc hg)
      clear hc hg H4
      obtain ⟨i, rfl⟩ : ∃ m : Nat, i = m := ⟨(i).toNat, by omega⟩
      have ci := (H5.out.rd.at i (by omega)).1
      rw [Nat.zero_add] at ci
      have li : (0 : Int) ≤ (i : Int) := by omega
      have si := (H5.out.2.2.2.at i (by omega)).1
      generalize (gs.getD i .z).s = ni at *
      go_wp2_with fail
      go_at_call 45
      refine (spec_pick Hb.out (gs.length : Int) _ H5.out.1.1 (by omega) (by omega)).mono ?_
      rintro e w6 ⟨k, rfl, hx0, hx1, hc, hg⟩
      have H6 := hid (H5.out.step hc hg)
      clear hc hg H5
      obtain ⟨k, rfl⟩ : ∃ m : Nat, k = m := ⟨(k).toNat, by omega⟩
      have ck := (H6.out.rd.at k (by omega)).1
      rw [Nat.zero_add] at ck
      have lk : (0 : Int) ≤ (k : Int) := by omega
      have sk := (H6.out.2.2.2.at k (by omega)).1
      generalize (gs.getD k .z).s = nk at *
      clear ci
      go_wp2
      go_returns
      exact ⟨ug, uc, gs, ds, ni, nk, rfl, ⟨hn, H6.out.2.2.2, (by first | assumption | omega), (by first | assumption | omega)⟩, H6.out.rd, cur_fin HS.out.2.1 H6.out.1 (Nat.le_refl _)⟩
    · skip
      go_wp2
      go_returns
      exact ⟨ug, uc, gs, ds, a, b, rfl, ⟨hn, H4.out.2.2.2, (by first | assumption | omega), (by first | assumption | omega)⟩, H4.out.rd, cur_fin HS.out.2.1 H4.out.1 (Nat.le_refl _)⟩
theorem spec_DrawMergeGroups {bs : List Int} (hb : Bts bs) {v : Value} (w : World) (h : Rd w 1 v bs.length (vBytes bs)) :
    Calls Tryz.prog 14 #[v] w fun e w' => ∃ (q c : Nat) (gs : List Grp) (ds : List Gc) (a b : ByteArray), e = .returned (.tuple #[.slice (some ⟨q, 0, none⟩) gs.length c, .string a, .string b]) ∧ (gs.length ≤ 10 ∧ SmG gs ∧ a.size ≤ 9 ∧ b.size ≤ 9) ∧ GRd w' (.slice (some ⟨q, 0, none⟩) gs.length c) gs ds ∧ Ext w w' := by
  have Hc := hid (fun w h => spec_DrawSharedMembers hb (v := v) w h)
  have Hr := hid h
  obtain ⟨-, p, cap, rfl, -⟩ := h
  clear hb
  go_enter Tryz.func14, Tryz.ntmps14
  go_wp2_with fail
  go_at_call 47
  refine (Hc.out _ Hr.out).mono ?_
  rintro e w1 ⟨q, c, gs, ds, a, b, rfl, hs, h1, hx⟩
  have K := hid (And.intro h1 hx)
  clear h1 hx
  go_wp2
  go_returns
  exact ⟨_, _, gs, ds, a, b, rfl, hs, K.out.1, K.out.2⟩
theorem rdX_at {W : World} {b o c n : Nat} {L : List Int} (h : Rd W 1 (.slice (some ⟨b, o, none⟩) n c) L.length (vInts L)) (i : Nat) (hi : i < L.length) : W.cell? ⟨b, o + i, none⟩ = some (.int .i64 (L.getD i 0)) := by
  obtain ⟨-, p, cap, e, h4⟩ := h
  cases e
  obtain ⟨b', o', e2, h6⟩ := h4.resolve_left (by omega)
  cases e2
  exact elem1 (Value.int .i64) 0 L h6 i hi
theorem spec_DrawLeaveGroup {bs : List Int} (hb : Bts bs) {v : Value} (w : World) (h : Rd w 1 v bs.length (vBytes bs)) :
    Calls Tryz.prog 12 #[v] w fun e w' => ∃ (q c : Nat) (gs : List Grp) (ds : List Gc) (name : ByteArray) (x : Int), e = .returned (.tuple #[.slice (some ⟨q, 0, none⟩) gs.length c, .string name, .int .i64 x]) ∧ (gs.length ≤ 10 ∧ SmG gs ∧ name.size ≤ 9) ∧ GRd w' (.slice (some ⟨q, 0, none⟩) gs.length c) gs ds ∧ Ext w w' := by
  have HS := hid (cur_start h)
  have Hb := hid hb
  obtain ⟨-, p, cap, rfl, -⟩ := h
  clear hb
  go_enter Tryz.func12, Tryz.ntmps12
  go_wp2_with fail
  go_at_call 23
  change Calls _ _ _ (C1 w (.slice p bs.length cap)) _
  generalize C1 w (.slice p bs.length cap) = W0 at *
  have H0 := hid HS.out.1
  refine (spec_groups Hb.out _ H0.out.1 (by omega)).mono ?_
  rintro e w1 ⟨u, gs, ds, rfl, hn, hd⟩
  obtain ⟨ug, uc, rfl⟩ := hd.form
  have H1 := hid hd
  clear hd H0
  by_cases hz : gs.length = 0
  · have t0 : decide ((0 : Int) < (gs.length : Int)) = false := by apply decide_eq_false; omega
    have t1 : ¬ ((0 : Int) < (gs.length : Int)) := by omega
    clear hz
    go_wp2_with fail
    go_at_call 24
    refine (spec_groupName Hb.out _ H1.out.1.1 (by omega)).mono ?_
    rintro e w8 ⟨s, rfl, hss, hc, hg⟩
    have H8 := hid (H1.out.step hc hg)
    clear hc hg H1
    go_wp2_with fail
    go_at_call 25
    refine (spec_memberNode Hb.out _ H8.out.1.1 (by omega)).mono ?_
    rintro e w9 ⟨x, rfl, hc, hg⟩
    have H9 := hid (H8.out.step hc hg)
    clear hc hg H8
    go_wp2
    go_returns
    exact ⟨ug, uc, gs, ds, s, x, rfl, ⟨hn, H9.out.2.2.2, hss⟩, H9.out.rd, cur_fin HS.out.2.1 H9.out.1 (Nat.le_refl _)⟩
  · have t0 : decide ((0 : Int) < (gs.length : Int)) = true := by apply decide_eq_true; omega
    have t1 : ((0 : Int) < (gs.length : Int)) := by omega
    go_wp2_with fail
    go_at_call 44
    refine (spec_one Hb.out 4 _ H1.out.1.1 (by omega) (by omega)).mono ?_
    rintro e w4 ⟨y, rfl, hc, hg⟩
    have H4 := hid (H1.out.step hc hg)
    clear hc hg H1
    cases y
    · go_wp2_with fail
      go_at_call 45
      refine (spec_pick Hb.out (gs.length : Int) _ H4.out.1.1 (by omega) (by omega)).mono ?_
      rintro e w5 ⟨i, rfl, hx0, hx1, hc, hg⟩
      have H5 := hid (H4.out.step hc hg)
      clear hc hg H4
      obtain ⟨i, rfl⟩ : ∃ m : Nat, i = m := ⟨i.toNat, by omega⟩
      have hi5 : i < gs.length := by omega
      obtain ⟨c0, c1⟩ := H5.out.rd.at i hi5
      rw [Nat.zero_add] at c0 c1
      have hsm := H5.out.2.2.2.at i hi5
      have hmr := hid (And.intro (H5.out.2.2.1.2.1 i hi5).2.1 (fun b o m c e hm => ((H5.out.2.2.1.2.1 i hi5).2.2 b o m c e hm).1))
      have hBw := H5.out.1.2.2.2
      generalize gs.getD i .z = G at *
      generalize (ds.getD i .z).u = U at *
      obtain ⟨s0, xs⟩ := G
      dsimp only at c0 c1 hsm hmr
      obtain ⟨xp, xc, rfl⟩ : ∃ xp xc, U = .slice xp xs.length xc := by obtain ⟨-, xp, xc, e, -⟩ := hmr.out.1; exact ⟨xp, xc, e⟩
      have b0 : (w5.alloc (.cells #[.string s0, .slice xp xs.length xc] 42)).cell? ⟨w5.heap.size, 0, none⟩ = some (.string s0) := by rw [cell_of_row _ _ 0 _ _ (0, 0) (heap_at _ rfl)]; rfl
      have b1 : (w5.alloc (.cells #[.string s0, .slice xp xs.length xc] 42)).cell? ⟨w5.heap.size, 1, none⟩ = some (.slice xp xs.length xc) := by rw [cell_of_row _ _ 1 _ _ (0, 0) (heap_at _ rfl)]; rfl
      have H6 := hid (H5.out.ext (show Ext w5 (w5.alloc (.cells #[.string s0, .slice xp xs.length xc] 42)) from (by repeat' (first | exact Ext.refl _ | assumption | refine Ext.alloc ?_ _ | refine Ext.ext ?_ _ | refine Ext.drew ?_ | refine Ext.drewN ?_ _))))
      have hm6 := hid (And.intro (hmr.out.1.ext (show Ext w5 (w5.alloc (.cells #[.string s0, .slice xp xs.length xc] 42)) from (by repeat' (first | exact Ext.refl _ | assumption | refine Ext.alloc ?_ _ | refine Ext.ext ?_ _ | refine Ext.drew ?_ | refine Ext.drewN ?_ _)))) hmr.out.2)
      have i0 : (0 : Int) ≤ (i : Int) := by omega
      have HQ := hid H5.out.1.size
      clear hmr H5
      by_cases hx : xs.length = 0
      · obtain rfl : xs = [] := List.eq_nil_of_length_eq_zero hx
        clear hx b0
        have b1 : (w5.alloc (.cells #[.string s0, .slice xp ([] : List Int).length xc] 42)).cell? ⟨w5.heap.size, 1, none⟩ = some (.slice xp 0 xc) := b1
        go_wp2_with fail
        go_at_call 24
        refine (spec_groupName Hb.out _ H6.out.1.1 (by omega)).mono ?_
        rintro e w8 ⟨s, rfl, hss, hc, hg⟩
        have H8 := hid (H6.out.step hc hg)
        clear hc hg H6
        go_wp2_with fail
        go_at_call 25
        refine (spec_memberNode Hb.out _ H8.out.1.1 (by omega)).mono ?_
        rintro e w9 ⟨x, rfl, hc, hg⟩
        have H9 := hid (H8.out.step hc hg)
        clear hc hg H8
        go_wp2
        go_returns
        exact ⟨ug, uc, gs, ds, s, x, rfl, ⟨hn, H9.out.2.2.2, hss⟩, H9.out.rd, cur_fin HS.out.2.1 H9.out.1 (Nat.le_refl _)⟩
      · obtain ⟨-, xp', xc', e9, h4⟩ := id hm6.out.1
        cases e9
        obtain ⟨b, o, rfl, -⟩ := h4.resolve_left hx
        clear h4
        have hub := hm6.out.2 b o _ _ rfl (by omega)
        have t2 : decide ((0 : Int) < (xs.length : Int)) = true := by apply decide_eq_true; omega
        have t3 : (0 : Int) < (xs.length : Int) := by omega
        clear hx hx0 hx1
        go_wp2
        have hQ : W0.heap.size ≤ w5.heap.size := HQ.out
        have hl := hsm.2
        generalize w5.heap.size = Q at *
        generalize (w5.alloc (.cells #[.string s0, .slice (some ⟨b, o, none⟩) xs.length xc] 42)) = W6 at *
        have e0 := (Ext.refl W6).drew.cell b0
        have e1 := (Ext.refl W6).drew.cell b1
        have b2 : ∀ j, j < xs.length → W6.cell? ⟨b, o + j, none⟩ = some (.int .i64 (xs.getD j 0)) := fun j hj => rdX_at hm6.out.1 j hj
        have e2 : ∀ j, j < xs.length → W6.drew.cell? ⟨b, o + j, none⟩ = some (.int .i64 (xs.getD j 0)) := fun j hj => rdX_at (hm6.out.1.ext (show Ext W6 W6.drew from (by repeat' (first | exact Ext.refl _ | assumption | refine Ext.alloc ?_ _ | refine Ext.ext ?_ _ | refine Ext.drew ?_ | refine Ext.drewN ?_ _)))) j hj
        clear c0 c1
        have hpk : Hid (Calls Tryz.prog 45 #[.pointer (some ⟨w.heap.size, 0, none⟩), .int .i64 (xs.length : Int)] W6.drew fun e w7 => ∃ x : Nat, e = .returned (.int .i64 x) ∧ (0 : Int) ≤ (x : Int) ∧ (x : Int) < (xs.length : Int) ∧ w7.cell? ⟨Q, 0, none⟩ = some (.string s0) ∧ w7.cell? ⟨Q, 1, none⟩ = some (.slice (some ⟨b, o, none⟩) xs.length xc) ∧ (∀ j, j < xs.length → w7.cell? ⟨b, o + j, none⟩ = some (.int .i64 (xs.getD j 0))) ∧ x < xs.length ∧ Hid (GpD W0 w7 w.heap.size w.heap.size (.slice p bs.length cap) bs (0 + 200 + 1 + 1 + 1) (.slice (some ⟨ug, 0, none⟩) gs.length uc) gs ds)) := by
          refine (spec_pick Hb.out (xs.length : Int) W6.drew (H6.out.1.1.ext (by repeat' (first | exact Ext.refl _ | assumption | refine Ext.alloc ?_ _ | refine Ext.ext ?_ _ | refine Ext.drew ?_ | refine Ext.drewN ?_ _))) (by omega) (by omega)).mono ?_
          rintro e w7 ⟨x, rfl, hx0, hx1, hc, hg⟩
          obtain ⟨x, rfl⟩ : ∃ m : Nat, x = m := ⟨x.toNat, by omega⟩
          have hr := rd_turn (hm6.out.1.ext (show Ext W6 W6.drew from (by repeat' (first | exact Ext.refl _ | assumption | refine Ext.alloc ?_ _ | refine Ext.ext ?_ _ | refine Ext.drew ?_ | refine Ext.drewN ?_ _)))) hg (fun b' o' m c e _ e2 => by cases e; have := Option.some.inj e2; omega)
          exact ⟨x, rfl, hx0, hx1, hg.cell e0 (fun e => by have h9 : Q = w.heap.size := Option.some.inj e; omega), hg.cell e1 (fun e => by have h9 : Q = w.heap.size := Option.some.inj e; omega), fun j hj => rdX_at hr j hj, by omega, (H6.out.ext (show Ext W6 W6.drew from (by repeat' (first | exact Ext.refl _ | assumption | refine Ext.alloc ?_ _ | refine Ext.ext ?_ _ | refine Ext.drew ?_ | refine Ext.drewN ?_ _)))).step hc hg⟩
        go_region_held3 (fun w' => w'.cell? ⟨Q, 0, none⟩ = some (.string s0) ∧ w'.cell? ⟨Q, 1, none⟩ = some (.slice (some ⟨b, o, none⟩) xs.length xc) ∧ ∀ j, j < xs.length → w'.cell? ⟨b, o + j, none⟩ = some (.int .i64 (xs.getD j 0))) (first | exact ⟨b0, b1, b2⟩ | exact ⟨e0, e1, e2⟩ | exact ⟨f0, f1, f2⟩)
          (first | (go_at_call 45; (refine hpk.out.mono ?_); rintro e w7 ⟨x, rfl, hx0, hx1, f0, f1, f2, hxl, H7⟩) | fail)
        all_goals
          go_wp2
          go_returns
          exact ⟨ug, uc, gs, ds, s0, _, rfl, ⟨hn, H7.out.2.2.2, hsm.1⟩, H7.out.rd, cur_fin HS.out.2.1 H7.out.1 (Nat.le_refl _)⟩
    · skip
      go_wp2_with fail
      go_at_call 24
      refine (spec_groupName Hb.out _ H4.out.1.1 (by omega)).mono ?_
      rintro e w8 ⟨s, rfl, hss, hc, hg⟩
      have H8 := hid (H4.out.step hc hg)
      clear hc hg H4
      go_wp2_with fail
      go_at_call 25
      refine (spec_memberNode Hb.out _ H8.out.1.1 (by omega)).mono ?_
      rintro e w9 ⟨x, rfl, hc, hg⟩
      have H9 := hid (H8.out.step hc hg)
      clear hc hg H8
      go_wp2
      go_returns
      exact ⟨ug, uc, gs, ds, s, x, rfl, ⟨hn, H9.out.2.2.2, hss⟩, H9.out.rd, cur_fin HS.out.2.1 H9.out.1 (Nat.le_refl _)⟩
end Go.Proofs.YtmblofcaiaeiaaaGreatDoor
