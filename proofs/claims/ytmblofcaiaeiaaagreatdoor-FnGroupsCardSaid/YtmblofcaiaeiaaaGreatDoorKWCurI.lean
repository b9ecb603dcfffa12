/- Lists of groups that are drawn: the walk. -/
import Derived.Test.YtmblofcaiaeiaaaGreatDoorKWCurH
namespace Go.Proofs.YtmblofcaiaeiaaaGreatDoor
open Go.RowKit
set_option maxHeartbeats 4000000
set_option maxRecDepth 100000
theorem lit_of {w : World} {t : Nat} (q : Nat) (cs : Array Value) (L : List Int) (h : cs.toList = vInts L) (hq : q = w.heap.size) (W : World) (hx : Ext (w.alloc (.cells cs t)) W) : Rd W 1 (.slice (some ⟨q, 0, none⟩) L.length L.length) L.length (vInts L) := by
  have := (rd_litC w t cs).ext hx
  have hl : cs.size = L.length := by have := congrArg List.length h; simpa [vInts] using this
  rw [h, hl, ← hq] at this
  exact this
theorem spec_groups {bs : List Int} (hb : Bts bs) {lo B A : Nat} {v : Value} (w : World) (h : Cs w lo B v bs A) (hA : A ≤ 400000) :
    Calls Tryz.prog 23 #[.pointer (some ⟨B, 0, none⟩)] w fun e w' => ∃ (u : Value) (gs : List Grp) (ds : List Gc), e = .returned u ∧ gs.length ≤ 10 ∧ GpD w w' lo B v bs (A + 200) u gs ds := by
  have Hb := hid hb
  have hl0 : (w.alloc (.cells #[] 42)).ownsRow w.heap.size 42 2 (.slice (some ⟨w.heap.size, 0, none⟩) 0 0) 0 [] := World.ownsRow_lit w #[] 0 (Nat.le_refl _) (Nat.zero_le _) rfl
  have H0 : Hid (GpD w (w.alloc (.cells #[] 42)) lo B v bs A (.slice (some ⟨w.heap.size, 0, none⟩) 0 0) [] []) := ⟨(Dr.start h).ext (by repeat' (first | exact Ext.refl _ | assumption | refine Ext.alloc ?_ _ | refine Ext.ext ?_ _ | refine Ext.drew ?_ | refine Ext.drewN ?_ _)), hl0, PRd.nil _ _ _ rfl, fun _ h => absurd h List.not_mem_nil⟩
  clear h hb hl0
  obtain ⟨i0, hi, hz0, hz1, hz2⟩ := info_parts infoGrp
  go_enter Tryz.func23, Tryz.ntmps23
  go_wp2_with fail
  go_at_call 45
  refine (spec_pick Hb.out 5 _ H0.out.1.1 (by omega) (by omega)).mono ?_
  rintro e w1 ⟨x, rfl, hx0, hx1, hc, hg⟩
  have H1 := hid (H0.out.step hc hg)
  clear hc hg H0
  obtain ⟨n, rfl⟩ : ∃ k : Nat, x = k := ⟨x.toNat, by omega⟩
  go_wp2
  go_loopw [4, 3] (fun v4 v3 wr => ∃ (k : Nat) (u : Value) (gs : List Grp) (ds : List Gc), k ≤ 4 ∧ v4 = .int .i64 k ∧ v3 = u ∧ gs.length + k ≤ 4 ∧ Hid (GpD w wr lo B v bs (A + 121 - 30 * k) u gs ds)) (fun v4 _ _ => (intOf v4).toNat)
  case atStart => exact ⟨n, _, [], [], by omega, rfl, rfl, by simp; omega, H1.out.more (by omega)⟩
  case round =>
    obtain ⟨k, u, gs, ds, hk, rfl, rfl, hL, HR⟩ := hrel
    clear H1
    obtain ⟨ug, uc, rfl⟩ := HR.out.form
    by_cases hlt : 0 < k
    · obtain ⟨k, rfl⟩ : ∃ j, k = j + 1 := ⟨k - 1, by omega⟩
      have t0 : (0 : Int) < ((k + 1 : Nat) : Int) := by omega
      go_wp2_with fail
      go_at_call 24
      refine (spec_groupName Hb.out _ HR.out.1.1 (by omega)).mono ?_
      rintro e wq ⟨s, rfl, hs, hc, hg⟩
      have H2 := hid (HR.out.step hc hg)
      clear hc hg HR
      go_wp2_with fail
      go_at_call 51
      refine (spec_members Hb.out 8 8 rfl _ H2.out.1.1 (by omega) (by omega)).mono ?_
      rintro e wp ⟨r, xs, rfl, hxs, ho, hc, hg⟩
      have hlo2 := H2.out.1.size
      have H3 := hid (And.intro (H2.out.step hc hg) (RdB.low (RdB.own ho) hlo2))
      obtain ⟨rp, rc, rfl⟩ := own_shape ho
      have hpl := putG_small gs ⟨s, xs⟩
      have hps := putG_sm (g := ⟨s, xs⟩) H3.out.1.2.2.2 ⟨hs, hxs⟩
      clear hc hg H2 ho hlo2
      have hpu := hid (spec_l21PutP w.heap.size gs ds _ s xs _ wp H3.out.1.1.size H3.out.2.2 H3.out.1.rd H3.out.2.1 (by omega) (fun i hi => by have := (H3.out.1.2.2.2.at i hi).2; omega))
      generalize putG gs ⟨s, xs⟩ = gs2 at *
      have Hps := hid hps
      clear hps
      go_wp2_with fail
      go_at_call 37
      refine hpu.out.mono ?_
      rintro e wz ⟨r2, ds2, rfl, ho, hp, hx⟩
      have H4 : Hid (GpD w wz lo B v bs (A + 121 - 30 * (k + 1) + 2 + 22) r2 gs2 ds2) := ⟨H3.out.1.1.ext hx, own_mono ho (by have := H3.out.1.1.size; omega), hp, Hps.out⟩
      clear ho hp hx H3 hpu Hps
      go_wp2
      go_roundw
      case rel => exact ⟨k, _, gs2, ds2, by omega, by go_num, rfl, by omega, H4.out.more (by omega)⟩
      case measure => simp [intOf]
    · obtain rfl : k = 0 := by omega
      go_wp2_with fail
      go_at_call 45
      refine (spec_pick Hb.out 24 _ HR.out.1.1 (by omega) (by omega)).mono ?_
      rintro e wz ⟨z, rfl, hz0', hz1', hc, hg⟩
      have H2 := hid ((HR.out.step hc hg).more (show A + 121 - 30 * 0 + 1 ≤ A + 122 by omega))
      clear hc hg HR
      by_cases z0 : z = 0
      · subst z0
        clear hlt hz0' hz1'
        have hq := H2.out.1.size
        obtain ⟨W6, hW6⟩ : ∃ W6 : World, W6 = (((((wz.alloc (.cells #[] 3)).alloc (.cells #[.int .i64 0] 3)).alloc (.cells #[.int .i64 8] 3)).alloc (.cells #[.int .i64 2, .int .i64 1] 3)).alloc (.cells #[.int .i64 7] 3)).alloc (.cells #[.slice (some ⟨wz.heap.size, 0, none⟩) 0 0, .slice (some ⟨wz.heap.size + 1, 0, none⟩) 1 1, .slice (some ⟨wz.heap.size + 2, 0, none⟩) 1 1, .slice (some ⟨wz.heap.size + 3, 0, none⟩) 2 2, .slice (some ⟨wz.heap.size + 4, 0, none⟩) 1 1] 37) := ⟨_, rfl⟩
        have hx6 : Ext wz W6 := by rw [hW6]; exact (by repeat' (first | exact Ext.refl _ | assumption | refine Ext.alloc ?_ _ | refine Ext.ext ?_ _ | refine Ext.drew ?_ | refine Ext.drewN ?_ _))
        have hr6 : Rd W6 1 (.slice (some ⟨wz.heap.size + 5, 0, none⟩) 5 5) 5 [.slice (some ⟨wz.heap.size, 0, none⟩) 0 0, .slice (some ⟨wz.heap.size + 1, 0, none⟩) 1 1, .slice (some ⟨wz.heap.size + 2, 0, none⟩) 1 1, .slice (some ⟨wz.heap.size + 3, 0, none⟩) 2 2, .slice (some ⟨wz.heap.size + 4, 0, none⟩) 1 1] := by
          have h0 := rd_litC (((((wz.alloc (.cells #[] 3)).alloc (.cells #[.int .i64 0] 3)).alloc (.cells #[.int .i64 8] 3)).alloc (.cells #[.int .i64 2, .int .i64 1] 3)).alloc (.cells #[.int .i64 7] 3)) 37 #[.slice (some ⟨wz.heap.size, 0, none⟩) 0 0, .slice (some ⟨wz.heap.size + 1, 0, none⟩) 1 1, .slice (some ⟨wz.heap.size + 2, 0, none⟩) 1 1, .slice (some ⟨wz.heap.size + 3, 0, none⟩) 2 2, .slice (some ⟨wz.heap.size + 4, 0, none⟩) 1 1]
          rw [← hW6] at h0
          simpa using h0
        have hall : ∀ y ∈ ([.slice (some ⟨wz.heap.size, 0, none⟩) 0 0, .slice (some ⟨wz.heap.size + 1, 0, none⟩) 1 1, .slice (some ⟨wz.heap.size + 2, 0, none⟩) 1 1, .slice (some ⟨wz.heap.size + 3, 0, none⟩) 2 2, .slice (some ⟨wz.heap.size + 4, 0, none⟩) 1 1] : List Value), ∃ (L : List Int) (q c : Nat), y = .slice (some ⟨q, 0, none⟩) L.length c ∧ wz.heap.size ≤ q ∧ L.length ≤ 2 ∧ Rd W6 1 (.slice (some ⟨q, 0, none⟩) L.length c) L.length (vInts L) := by
          intro y hy
          simp only [List.mem_cons, List.not_mem_nil, or_false] at hy
          rcases hy with rfl | rfl | rfl | rfl | rfl
          · exact ⟨[], _, _, rfl, by omega, by decide, lit_of _ #[] [] rfl rfl _ (by rw [hW6]; exact (by repeat' (first | exact Ext.refl _ | assumption | refine Ext.alloc ?_ _ | refine Ext.ext ?_ _ | refine Ext.drew ?_ | refine Ext.drewN ?_ _)))⟩
          · exact ⟨[0], _, _, rfl, by omega, by decide, lit_of (w := wz.alloc (.cells #[] 3)) (t := 3) _ #[.int .i64 0] [0] rfl (by simp) _ (by rw [hW6]; exact (by repeat' (first | exact Ext.refl _ | assumption | refine Ext.alloc ?_ _ | refine Ext.ext ?_ _ | refine Ext.drew ?_ | refine Ext.drewN ?_ _)))⟩
          · exact ⟨[8], _, _, rfl, by omega, by decide, lit_of (w := (wz.alloc (.cells #[] 3)).alloc (.cells #[.int .i64 0] 3)) (t := 3) _ #[.int .i64 8] [8] rfl (by simp) _ (by rw [hW6]; exact (by repeat' (first | exact Ext.refl _ | assumption | refine Ext.alloc ?_ _ | refine Ext.ext ?_ _ | refine Ext.drew ?_ | refine Ext.drewN ?_ _)))⟩
          · exact ⟨[2, 1], _, _, rfl, by omega, by decide, lit_of (w := ((wz.alloc (.cells #[] 3)).alloc (.cells #[.int .i64 0] 3)).alloc (.cells #[.int .i64 8] 3)) (t := 3) _ #[.int .i64 2, .int .i64 1] [2, 1] rfl (by simp) _ (by rw [hW6]; exact (by repeat' (first | exact Ext.refl _ | assumption | refine Ext.alloc ?_ _ | refine Ext.ext ?_ _ | refine Ext.drew ?_ | refine Ext.drewN ?_ _)))⟩
          · exact ⟨[7], _, _, rfl, by omega, by decide, lit_of (w := (((wz.alloc (.cells #[] 3)).alloc (.cells #[.int .i64 0] 3)).alloc (.cells #[.int .i64 8] 3)).alloc (.cells #[.int .i64 2, .int .i64 1] 3)) (t := 3) _ #[.int .i64 7] [7] rfl (by simp) _ (by rw [hW6]; exact (by repeat' (first | exact Ext.refl _ | assumption | refine Ext.alloc ?_ _ | refine Ext.ext ?_ _ | refine Ext.drew ?_ | refine Ext.drewN ?_ _)))⟩
        have H6 := hid (And.intro (H2.out.ext hx6) (And.intro hr6 hall))
        have hBw := H2.out.1.2.2.2
        have hgw := (own_row H2.out.2.1 ug rfl).2
        have hne : ∀ q, wz.heap.size ≤ q → ug ≠ q := fun q hq e => by omega
        have Hne := hid hne
        clear H2 hx6 hr6 hall hne
        go_wp2_with fail
        rw [← hW6]
        clear hW6
        generalize hLs : ([.slice (some ⟨wz.heap.size, 0, none⟩) 0 0, .slice (some ⟨wz.heap.size + 1, 0, none⟩) 1 1, .slice (some ⟨wz.heap.size + 2, 0, none⟩) 1 1, .slice (some ⟨wz.heap.size + 3, 0, none⟩) 2 2, .slice (some ⟨wz.heap.size + 4, 0, none⟩) 1 1] : List Value) = Ls at *
        have hl5 : Ls.length = 5 := by rw [← hLs]; rfl
        clear hLs
        go_at_call 52
        refine (spec_among2 Hb.out Ls _ _ H6.out.1.1.1 (by rw [hl5]; exact H6.out.2.1) (fun b o m c e _ => by cases e; omega) (by omega) (by omega) (fun y hy => by obtain ⟨L, q, c, e, -⟩ := H6.out.2.2 y hy; exact ⟨_, _, _, e⟩)).mono ?_
        rintro e w7 ⟨x, rfl, hm, hc, hg⟩
        obtain ⟨L, q, c, rfl, hq5, hl2, hr⟩ := H6.out.2.2 x hm
        have H7 := hid (And.intro (H6.out.1.step hc hg) (rd_turn hr hg (fun b o m c e _ e2 => by cases e; have := Option.some.inj e2; omega)))
        clear hm hc hg H6 hr
        have H8 := hid H7.out.1
        go_wp2_with (at_builtin; refine wpList_append_own_at _ rfl _ _ 24 rfl w.heap.size 42 i0 (.agg #[.string ByteArray.empty, .slice none 0 0]) 2 40 Tryz.underlying24 hi hz0 hz1 hz2 rfl (by decide) _ _ _ rfl ((own_ext H8.out.2.1 (by repeat' (first | exact Ext.refl _ | assumption | refine Ext.alloc ?_ _ | refine Ext.ext ?_ _ | refine Ext.drew ?_ | refine Ext.drewN ?_ _)))) ⟨_, 0, none⟩ 1 1 [.string ⟨#[122]⟩, (.slice (some ⟨q, 0, none⟩) L.length c)] rfl ?a0A ?a1A ?a2A ?a3A ?a4A ?a5A ?_)
        (try case a0A => rfl)
        case a1A => (intro j u hj; rw [Addr.add_lit, Nat.zero_add, cell_of_row _ _ j _ _ (0, 0) (heap_at _ rfl)]; first | (simpa using hj) | (simpa [hwb.out] using hj))
        case a2A => simp [Value.oneCell']
        case a3A => (unfold maxLen; simp; omega)
        case a4A => (first | omega | (simp; omega))
        case a5A => (have := H8.out.1.size; first | omega | (simp at *; omega))
        intro v' w1 hown' hgrow hat
        intro hpl
        have H9 := hid ((H8.out.ext (show Ext w7 (w7.alloc (.cells #[.string ⟨#[122]⟩, (.slice (some ⟨q, 0, none⟩) L.length c)] 42)) from (by repeat' (first | exact Ext.refl _ | assumption | refine Ext.alloc ?_ _ | refine Ext.ext ?_ _ | refine Ext.drew ?_ | refine Ext.drewN ?_ _)))).grow (s := ⟨#[122]⟩) (xs := L) (x := (.slice (some ⟨q, 0, none⟩) L.length c)) hgrow hown' (by simpa using hpl) (H7.out.2.ext (by repeat' (first | exact Ext.refl _ | assumption | refine Ext.alloc ?_ _ | refine Ext.ext ?_ _ | refine Ext.drew ?_ | refine Ext.drewN ?_ _))) (fun b o m c e hm => by (cases e; exact ⟨by omega, fun e2 => Hne.out _ hq5 (Option.some.inj e2)⟩)) (by first | decide | omega) (by first | decide | omega))
        obtain ⟨vp, vc, rfl⟩ := own_shape hown'
        clear hown' hgrow hat hpl
        clear H7 H8
        go_wp2
        go_ret
        exact ⟨_, _, _, rfl, by simp; omega, H9.out.more (by omega)⟩
      by_cases z1 : z = 1
      · subst z1
        clear hlt hz0' hz1' z0
        have hl1 : (wz.alloc (.cells #[] 42)).ownsRow w.heap.size 42 2 (.slice (some ⟨wz.heap.size, 0, none⟩) 0 0) 0 [] := World.ownsRow_lit wz #[] 0 H2.out.1.size (Nat.zero_le _) rfl
        have H3 : Hid (GpD w (wz.alloc (.cells #[] 42)) lo B v bs (A + 122) (.slice (some ⟨wz.heap.size, 0, none⟩) 0 0) [] []) := ⟨H2.out.1.ext (by repeat' (first | exact Ext.refl _ | assumption | refine Ext.alloc ?_ _ | refine Ext.ext ?_ _ | refine Ext.drew ?_ | refine Ext.drewN ?_ _)), hl1, PRd.nil _ _ _ rfl, fun _ h => absurd h List.not_mem_nil⟩
        clear hl1 H2
        go_wp2
        go_loopw [5, 3] (fun v5 v3 wr => ∃ (k : Nat) (u : Value) (gs : List Grp) (ds : List Gc), k ≤ 9 ∧ v5 = .int .i64 k ∧ v3 = u ∧ gs.length = k ∧ Hid (GpD w wr lo B v bs (A + 122 + k) u gs ds)) (fun v5 _ _ => 10 - (intOf v5).toNat)
        case atStart => exact ⟨0, _, [], [], by omega, rfl, rfl, rfl, H3.out⟩
        case round =>
          obtain ⟨k, u, gs, ds, hk, rfl, rfl, hL, HM⟩ := hrel
          clear H3
          obtain ⟨up, uc, rfl⟩ := HM.out.form
          have HL := hid hL
          clear hL
          go_wp2_with fail
          go_at_call 45
          refine (spec_pick Hb.out 2 _ HM.out.1.1 (by omega) (by omega)).mono ?_
          rintro e wq ⟨y, rfl, hy0, hy1, hc, hg⟩
          have H3 := hid (HM.out.step hc hg)
          clear hc hg HM
          have e1 : IntKind.i64.wrap (8 + y) = 8 + y := IntWalk.i64_in _ (by omega)
          by_cases h8 : (k : Int) < 8 + y
          · obtain ⟨c, hc⟩ : ∃ c : UInt8, (c.toNat : Int) = 97 + (k : Int) := ⟨UInt8.ofNat (97 + k), by rw [UInt8.toNat_ofNat_of_lt' (by show _ < 256; omega)]; omega⟩
            have hr : Rd (wq.alloc (.cells #[.int .u8 (97 + (k : Int))] 5)) 1 (.slice (some ⟨wq.heap.size, 0, none⟩) 1 1) 1 (RowKit.vBytes [c]) := by
              have := rd_litC wq 5 #[.int .u8 (97 + (k : Int))]
              have e : RowKit.vBytes [c] = [.int .u8 (97 + (k : Int))] := by simp only [RowKit.vBytes, List.map_cons, List.map_nil, hc]
              rw [e]
              simpa using this
            have hcv := conv_rd (P := Tryz.prog) Tryz.underlying22 Tryz.underlying5 Tryz.underlying9 hr
            have hri := rd_litC (wq.alloc (.cells #[.int .u8 (97 + (k : Int))] 5)) 3 #[.int .i64 (1 + (k : Int) % 7)]
            have H8 : Hid (GpD w ((wq.alloc (.cells #[.int .u8 (97 + (k : Int))] 5)).alloc (.cells #[.int .i64 (1 + (k : Int) % 7)] 3)) lo B v bs (A + 122 + k + 1) (.slice (some ⟨up, 0, none⟩) gs.length uc) gs ds) := H3.out.ext (by repeat' (first | exact Ext.refl _ | assumption | refine Ext.alloc ?_ _ | refine Ext.ext ?_ _ | refine Ext.drew ?_ | refine Ext.drewN ?_ _))
            have Hri := hid hri
            have hq := H3.out.1.size
            have hgw := (own_row H3.out.2.1 up rfl).2
            have hlist : ([Value.int .i64 (1 + (k : Int) % 7)] : List Value) = vInts [1 + (k : Int) % 7] := rfl
            have Hl := hid hlist
            have hgl : gs.length ≤ 9 := by have := HL.out; omega
            have m0 : 0 ≤ (k : Int).tmod 7 := Int.tmod_nonneg _ (by omega)
            have m1 : (k : Int).tmod 7 < 7 := Int.tmod_lt_of_pos _ (by omega)
            have m3 : (k : Int).tmod 7 = (k : Int) % 7 := Int.tmod_eq_emod_of_nonneg (by omega)
            have m4 : IntKind.i64.wrap ((k : Int) % 7) = (k : Int) % 7 := IntWalk.i64_in _ (by omega)
            have m5 : IntKind.i64.wrap (1 + (k : Int) % 7) = 1 + (k : Int) % 7 := IntWalk.i64_in _ (by omega)
            clear hr hri H3 hlist hc
            go_wp2_with (at_builtin; refine wpList_append_own_at _ rfl _ _ 24 rfl w.heap.size 42 i0 (.agg #[.string ByteArray.empty, .slice none 0 0]) 2 40 Tryz.underlying24 hi hz0 hz1 hz2 rfl (by decide) _ _ _ rfl ((own_ext H8.out.2.1 (by repeat' (first | exact Ext.refl _ | assumption | refine Ext.alloc ?_ _ | refine Ext.ext ?_ _ | refine Ext.drew ?_ | refine Ext.drewN ?_ _)))) ⟨_, 0, none⟩ 1 1 [.string ⟨#[c]⟩, (.slice (some ⟨wq.heap.size + 1, 0, none⟩) 1 1)] rfl ?a0B ?a1B ?a2B ?a3B ?a4B ?a5B ?_)
            (try case a0B => rfl)
            case a1B => (intro j u hj; rw [Addr.add_lit, Nat.zero_add, cell_of_row _ (wq.heap.size + 1 + 1) j _ _ (0, 0) (heap_at _ (by simp))]; first | (simpa using hj) | (simpa [hwb.out] using hj))
            case a2B => simp [Value.oneCell']
            case a3B => (unfold maxLen; simp; omega)
            case a4B => (first | omega | (simp; omega))
            case a5B => (have := H8.out.1.size; first | omega | (simp at *; omega))
            intro v' w1 hown' hgrow hat
            intro hpl
            have H9 := hid ((H8.out.ext (show Ext ((wq.alloc (.cells #[.int .u8 (97 + (k : Int))] 5)).alloc (.cells #[.int .i64 (1 + (k : Int) % 7)] 3)) (((wq.alloc (.cells #[.int .u8 (97 + (k : Int))] 5)).alloc (.cells #[.int .i64 (1 + (k : Int) % 7)] 3)).alloc (.cells #[.string ⟨#[c]⟩, (.slice (some ⟨wq.heap.size + 1, 0, none⟩) 1 1)] 42)) from (by repeat' (first | exact Ext.refl _ | assumption | refine Ext.alloc ?_ _ | refine Ext.ext ?_ _ | refine Ext.drew ?_ | refine Ext.drewN ?_ _)))).grow (s := ⟨#[c]⟩) (xs := [1 + (k : Int) % 7]) (x := (.slice (some ⟨wq.heap.size + 1, 0, none⟩) 1 1)) hgrow hown' (by simpa using hpl) ((by rw [← Hl.out]; simpa using Hri.out.ext (by repeat' (first | exact Ext.refl _ | assumption | refine Ext.alloc ?_ _ | refine Ext.ext ?_ _ | refine Ext.drew ?_ | refine Ext.drewN ?_ _)))) (fun b o m c e hm => by (cases e; exact ⟨by omega, fun e2 => by have e3 : up = wq.heap.size + 1 := Option.some.inj e2; omega⟩)) (by first | decide | omega | (show 1 ≤ 9; omega)) (by first | decide | omega | (show 1 ≤ 21; omega)))
            obtain ⟨vp, vc, rfl⟩ := own_shape hown'
            clear hown' hgrow hat hpl
            clear H8
            go_wp2
            go_roundw
            case rel => exact ⟨k + 1, _, _, _, by omega, by go_num, rfl, by have := HL.out; simp; omega, H9.out.more (by omega)⟩
            case measure => simp [intOf]; omega
          · go_wp2
            go_ret
            have hL := HL.out
            first | exact ⟨_, gs, ds, rfl, by omega, H3.out.more (show A + 122 + k + 1 ≤ A + 200 by omega)⟩ | exact ⟨_, rfl, gs, ds, by omega, H3.out.more (show A + 122 + k + 1 ≤ A + 200 by omega)⟩
      have t0 : (z == 0) = false := by rw [beq_eq_false_iff_ne]; omega
      have t1 : (z == 1) = false := by rw [beq_eq_false_iff_ne]; omega
      go_wp2
      go_ret
      first | exact ⟨_, gs, ds, rfl, by omega, H2.out.more (by omega)⟩ | exact ⟨_, rfl, gs, ds, by omega, H2.out.more (by omega)⟩
end Go.Proofs.YtmblofcaiaeiaaaGreatDoor
