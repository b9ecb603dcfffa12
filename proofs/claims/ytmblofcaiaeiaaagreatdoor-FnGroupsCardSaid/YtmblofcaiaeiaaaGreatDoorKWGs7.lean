/- Lists of groups copied, and one group taken out. -/
import Derived.Test.YtmblofcaiaeiaaaGreatDoorKWGs6
import Derived.Test.YtmblofcaiaeiaaaGreatDoorJ5
import Derived.Shelf.SlicesE.Clone
import Derived.Deep.RegionLaw
import Derived.Lib.SliceRun
namespace Go.Proofs.YtmblofcaiaeiaaaGreatDoor
open Go.RowKit
set_option maxHeartbeats 400000
set_option maxRecDepth 100000
def renSlLaysE0Group41 : Go.Shelf.Ren := ⟨fun x => if x = 41 then 57 else x, fun x => if x = 4 then 4 else if x = 22 then 24 else if x = 23 then 42 else x, fun x => x⟩
theorem laysSlLaysE0Group41 : Go.Proofs.SlLaysE0.n41 Tryz.prog renSlLaysE0Group41 := by constructor <;> first | kernel_rfl | (intro w; kernel_rfl) | exact ⟨Tryz.f57.name, by kernel_rfl, by kernel_rfl⟩
theorem slices_Clone_grp (gs : List Grp) (cs : List Gc) (q : Nat) {qc : Nat} (w : World) (h : GRd w (.slice (some ⟨q, 0, none⟩) gs.length qc) gs cs) (h2 : gs.length ≤ 1048576) :
    Calls Tryz.prog 57 #[.slice (some ⟨q, 0, none⟩) gs.length qc] w fun e w' => ∃ r, e = .returned r ∧ w'.ownsRow w.heap.size 42 2 r gs.length (cs.flatMap Gc.cs) ∧ (gs.length = 0 ∨ ∃ g cap, r = .slice (some ⟨g, 0, none⟩) gs.length cap) ∧ Ext w w' := by
  obtain ⟨i0, hi, hz0, hz1, hz2⟩ := info_parts infoGrp
  obtain ⟨hl, hr, hm⟩ := h
  have hc : ∀ j u, (cs.flatMap Gc.cs)[j]? = some u → w.cell? ⟨q, 0 + j, none⟩ = some u := by
    intro j u hj
    obtain ⟨hl', rfl⟩ := List.getElem?_eq_some_iff.1 hj
    obtain ⟨-, p, c, e, h4⟩ := hr
    cases e
    rcases h4 with h4 | ⟨b', off', e, h6⟩
    · rw [gcs_len] at hl'; omega
    · cases e
      exact h6 j hl'
  have h1 : ∀ u ∈ cs.flatMap Gc.cs, u.oneCell' = true := by
    intro u hu
    obtain ⟨x, hx0, hx⟩ := List.mem_flatMap.1 hu
    obtain ⟨i, hi', rfl⟩ := List.mem_iff_getElem.1 hx0
    simp only [Gc.cs, List.mem_cons, List.not_mem_nil, or_false] at hx
    rcases hx with rfl | rfl
    · rfl
    · have := (hm i (by omega)).2
      rw [List.getD_eq_getElem?_getD, List.getElem?_eq_getElem hi'] at this
      obtain ⟨-, p, c, e, -⟩ := this
      rw [Option.getD_some] at e
      rw [e]; rfl
  exact (AnyE.slices_Clone laysSlLaysE0Group41 i0 _ 2 40 hi hz0 hz1 hz2 rfl (by decide) (fun w => by kernel_rfl) q 0 gs.length qc (cs.flatMap Gc.cs) w (by rw [gcs_len, hl]) (by unfold maxLen; omega) (by omega) hc h1).mono fun _ _ ⟨r, a, ho, _, hb⟩ => by
    refine ⟨r, a, ho, ?_, hb.ext⟩
    by_cases h0 : gs.length = 0
    · exact .inl h0
    · right
      obtain ⟨-, ⟨rfl, h0'⟩ | ⟨g, cap, cur, rfl, -⟩⟩ := ho
      · omega
      · exact ⟨g, cap, rfl⟩
/-- While a copy's members are copied: the first k are the call's own. -/
def ClG (w : World) (lo k : Nat) (v : Value) (gs : List Grp) (cs ds : List Gc) : Prop :=
  ds.length = gs.length ∧ w.ownsRow lo 42 2 v gs.length (ds.flatMap Gc.cs) ∧ (∀ j, k ≤ j → ds.getD j .z = cs.getD j .z) ∧
  ∀ i, i < k → i < gs.length → (ds.getD i .z).s = (gs.getD i .z).s ∧ w.ownsRow lo 3 1 (ds.getD i .z).u (gs.getD i .z).xs.length (vInts (gs.getD i .z).xs) ∧
    ∀ b, (ds.getD i .z).u.ownBlock = some b → v.ownBlock ≠ some b ∧ ∀ j, j < k → j ≠ i → (ds.getD j .z).u.ownBlock ≠ some b
theorem ClG.done {w : World} {lo : Nat} {v : Value} {gs : List Grp} {cs ds : List Gc} (h : ClG w lo gs.length v gs cs ds) : GOw w lo w.heap.size v gs ds :=
  ⟨h.1, h.2.1, fun b hb => (own_row h.2.1 b hb).2, fun i hi => ⟨(h.2.2.2 i hi hi).1, (h.2.2.2 i hi hi).2.1, fun b hb => ⟨(own_row (h.2.2.2 i hi hi).2.1 b hb).2, (h.2.2.2 i hi hi).2.2 b hb⟩⟩⟩
theorem ClG.ext {w w' : World} {lo k : Nat} {v : Value} {gs : List Grp} {cs ds : List Gc} (h : ClG w lo k v gs cs ds) (hx : Ext w w') : ClG w' lo k v gs cs ds :=
  ⟨h.1, own_ext h.2.1 hx, h.2.2.1, fun i h1 h2 => ⟨(h.2.2.2 i h1 h2).1, own_ext (h.2.2.2 i h1 h2).2.1 hx, (h.2.2.2 i h1 h2).2.2⟩⟩
theorem ClG.step {w : World} {lo k g n cap base : Nat} {gs : List Grp} {cs ds : List Gc} (h : ClG w lo k (.slice (some ⟨g, 0, none⟩) n cap) gs cs ds) (hn : n = gs.length) (hk : k < gs.length) (hs : (cs.getD k .z).s = (gs.getD k .z).s) (u : Value)
    (hu : w.ownsRow base 3 1 u (gs.getD k .z).xs.length (vInts (gs.getD k .z).xs)) (hb : lo ≤ base) (hold : ∀ b, base ≤ b → b ≠ g ∧ ∀ i, i < k → (ds.getD i .z).u.ownBlock ≠ some b) :
    ClG (w.setCell ⟨g, k * 2 + 1, none⟩ u) lo (k + 1) (.slice (some ⟨g, 0, none⟩) n cap) gs cs (ds.set k ⟨(ds.getD k .z).s, u⟩) := by
  subst hn
  obtain ⟨hl, ho, ht, hm⟩ := h
  have hst := World.ownsRow.stored ho (k * 2 + 1) u
  have hget := gcs_get ds k (by omega)
  have he : (ds.set k ⟨(ds.getD k .z).s, u⟩).flatMap Gc.cs = (ds.flatMap Gc.cs).set (k * 2 + 1) u := by
    rw [flat_set2 _ _ _ (by omega)]
    congr 1
    apply List.ext_getElem?
    intro j
    rw [List.getElem?_set]
    split
    · rename_i e
      subst e
      rw [if_pos (by rw [gcs_len]; omega), hget.1]
    · rfl
  have hkeep : ∀ (B : Nat) (x : Value) (m : Nat) (cs' : List Value), w.ownsRow B 3 1 x m cs' → (∀ b, x.ownBlock = some b → b ≠ g) → (w.setCell ⟨g, k * 2 + 1, none⟩ u).ownsRow B 3 1 x m cs' := fun B x m cs' hx hne =>
    hx.kept hst.2 (by
      cases hb : x.ownBlock with
      | none => exact .inl rfl
      | some b => exact .inr (fun e => by simp at e; exact hne b hb e))
  refine ⟨by rw [List.length_set]; exact hl, by rw [he]; exact hst.1, fun j hj => ?_, fun i hi hi2 => ?_⟩
  · rw [getD_set _ _ _ _ _ (by omega), if_neg (by omega)]
    exact ht j (by omega)
  rw [getD_set _ _ _ _ _ (by omega)]
  by_cases e : i = k
  · subst e
    rw [if_pos rfl]
    refine ⟨by rw [ht i (Nat.le_refl _)]; exact hs, hkeep _ _ _ _ (own_mono hu hb) (fun b hb => (hold b (own_row hu b hb).1).1), fun b hb => ⟨fun e => (hold b (own_row hu b hb).1).1 (Option.some.inj e).symm, fun j hj hji => ?_⟩⟩
    rw [getD_set _ _ _ _ _ (by omega), if_neg hji]
    exact (hold b (own_row hu b hb).1).2 j (by omega)
  · rw [if_neg e]
    have hmi := hm i (by omega) hi2
    refine ⟨hmi.1, hkeep _ _ _ _ hmi.2.1 (fun b hb e => (hmi.2.2 b hb).1 (by rw [e]; rfl)), fun b hb => ⟨(hmi.2.2 b hb).1, fun j hj hji => ?_⟩⟩
    rw [getD_set _ _ _ _ _ (by omega)]
    split
    · rename_i e2
      intro e3
      exact (hold b (own_row hu b e3).1).2 i (by omega) hb
    · exact (hmi.2.2 b hb).2 j (by omega) hji
theorem impl_cloneGroups (gs : List Grp) (cs : List Gc) (q : Nat) {qc : Nat} (w : World) (h : GRd w (.slice (some ⟨q, 0, none⟩) gs.length qc) gs cs) (h2 : gs.length ≤ 1048576) (hm : ∀ i, i < gs.length → (gs.getD i .z).xs.length ≤ 1048576) :
    Calls Tryz.prog 28 #[.slice (some ⟨q, 0, none⟩) gs.length qc] w fun e w' => ∃ r ds, e = .returned r ∧ GOw w' w.heap.size w'.heap.size r gs ds ∧ Ext w w' := by
  have Hv := hid h
  have Hm := hid hm
  have hcl := hid (fun w h => slices_Clone_grp gs cs q (qc := qc) w h h2)
  have hcm := hid (fun k (hk : k < gs.length) w h => slices_Clone (gs.getD k .z).xs (cs.getD k .z).u w h (hm k hk))
  clear h hm
  go_enter Tryz.func28, Tryz.ntmps28
  go_wp2_with fail
  go_at_call 57
  refine (hcl.out _ Hv.out).mono ?_
  rintro e w1 ⟨r, rfl, ho1, hform, hx1⟩
  have hC : ClG w1 w.heap.size 0 r gs cs cs := ⟨Hv.out.1, ho1, fun j _ => rfl, fun i hi => absurd hi (Nat.not_lt_zero _)⟩
  have HC := hid hC
  have Hx1 := hid hx1
  obtain ⟨rp, rc, rfl⟩ := own_shape ho1
  have Hform := hid hform
  clear ho1 hx1 hC hform
  go_wp2
  go_loopw [9] (fun v9 wr => ∃ (k : Nat) (ds : List Gc), k ≤ gs.length ∧ v9 = .int .i64 k ∧ ClG wr w.heap.size k (.slice rp gs.length rc) gs cs ds ∧ Ext w wr) (fun v9 _ => gs.length - (intOf v9).toNat)
  case atStart => exact ⟨0, cs, Nat.zero_le _, rfl, HC.out, Hx1.out⟩
  case round =>
    obtain ⟨k, ds, hk, rfl, hC, hx⟩ := hrel
    by_cases hlt : k < gs.length
    · obtain ⟨g, cap, e⟩ := Hform.out.resolve_left (by omega)
      cases e
      have o1 := hC.2.1
      have hgb := own_size o1
      obtain ⟨⟨u0, e0⟩, f0⟩ := own_cell o1 (k * 2) (by omega)
      obtain ⟨⟨u1, e1⟩, f1⟩ := own_cell o1 (k * 2 + 1) (by omega)
      have hu1 : u1 = (cs.getD k .z).u := by
        have h1 := o1.cellAt (k * 2 + 1) (by omega)
        rw [(gcs_get ds k (by rw [hC.1]; exact hlt)).2, e1, hC.2.2.1 k (Nat.le_refl _)] at h1
        exact Option.some.inj h1
      subst hu1
      have hcr := ((Hv.out.2.2 k hlt).2).ext hx
      have hcs := (Hv.out.2.2 k hlt).1
      have hc := hid (fun w h => hcm.out k hlt w h)
      have J := hid (And.intro hC hx)
      clear hC hx o1
      go_wp2_with fail
      go_at_call 49
      refine (hc.out _ hcr).mono ?_
      rintro e w2 ⟨r2, rfl, ho2, hx2⟩
      have e0 := hx2.cell e0
      have e1 := hx2.cell e1
      have f0 : w2.frozen? ⟨g, k * 2, none⟩ = false := by rw [World.frozen?_of_block (hx2.heap hgb.2)]; exact f0
      have f1 : w2.frozen? ⟨g, k * 2 + 1, none⟩ = false := by rw [World.frozen?_of_block (hx2.heap hgb.2)]; exact f1
      obtain ⟨rp2, rc2, rfl⟩ := own_shape ho2
      have hst := (J.out.1.ext hx2).step rfl hlt hcs _ ho2 (J.out.2).size (fun b hb => ⟨by omega, fun i hi e => by
        have h5 := (own_row (J.out.1.2.2.2 i hi (by omega)).2.1 b e).2
        omega⟩)
      have hx3 := J.out.2.trans hx2
      clear ho2 hx2 hcr hcs
      generalize (gs.getD k .z).xs.length = m at hst e1 ⊢
      have K := hid (And.intro hst hx3)
      clear hst hx3
      go_wp2
      go_roundw
      case rel => exact ⟨k + 1, _, by omega, by go_num, K.out.1, K.out.2.setCell hgb.1 _⟩
      case measure => simp [intOf]; omega
    · obtain rfl : k = gs.length := by omega
      have K := hid (And.intro hC.done hx)
      clear hC hx
      go_wp2
      go_ret
      exact ⟨_, _, rfl, K.out.1, K.out.2⟩
end Go.Proofs.YtmblofcaiaeiaaaGreatDoor
