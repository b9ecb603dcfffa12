/- What the law of captures draws besides. -/
import Derived.Test.YtljknhocfjpolaaGreatDoorJ15
import Derived.Test.YtljknhocfjpolaaGreatDoorKWCapText
import Derived.Deep.DeepCutAuto
namespace Go.Proofs.YtljknhocfjpolaaGreatDoor
open Go.RowKit
set_option maxHeartbeats 2000000
set_option maxRecDepth 100000
theorem ctT_size (xs : List Cap) : (ctT xs).size ≤ 1010 := by
  rw [ctT]
  split
  · rename_i h
    have h1 := capTo_size h xs.length (Nat.le_refl _)
    have h2 := (cap_iff h).1
    omega
  · exact Nat.zero_le _
theorem rd_cut {w : World} {g m n : Nat} {L M : List Int} (h : Rd w 1 (.slice (some ⟨g, 0, none⟩) n n) n (vInts L)) (hm : 0 < n) (hM : M = L.take m) (hl : M.length = m) : Rd w 1 (.slice (some ⟨g, 0, none⟩) m n) M.length (vInts M) := by
  obtain ⟨h1, p, cap, e, h4⟩ := h
  cases e
  obtain ⟨b', o', e, h6⟩ := h4.resolve_left (by omega)
  cases e
  refine ⟨by simp [vInts], _, _, by rw [hl], .inr ⟨_, _, rfl, fun j hj => ?_⟩⟩
  subst hM
  have hj2 : j < (L.take m).length := by simpa [vInts] using hj
  rw [List.length_take] at hj2
  rw [h6 j (by simp [vInts]; omega)]
  simp [vInts]
theorem spec_DrawParseCapture {bs : List Int} (hb : Bts bs) {v : Value} (w : World) (h : Rd w 1 v bs.length (vBytes bs)) :
    Calls Tryz.prog 17 #[v] w fun e w' => ∃ s : ByteArray, e = .returned (.string s) ∧ s.size ≤ 1100 ∧ Ext w w' := by
  have HS := hid (cur_start h)
  have Hb := hid hb
  obtain ⟨-, p, cap, rfl, -⟩ := h
  clear hb
  go_enter Tryz.func17, Tryz.ntmps17
  go_wp2_with fail
  go_at_call 55
  change Calls _ _ _ (C1 w (.slice p bs.length cap)) _
  generalize C1 w (.slice p bs.length cap) = W0 at *
  have H0 := hid HS.out.1
  refine (spec_capture Hb.out _ H0.out.1 (by omega)).mono ?_
  rintro e w1 ⟨g, gc, xs, rfl, hs, ho, hc, hg⟩
  have H1 := hid (And.intro (H0.out.step hc hg) (CpR.own ho hs))
  clear hc hg H0 ho
  have ct := hid (fun W h => spec_CaptureText xs (.slice (some ⟨g, 0, none⟩) xs.length gc) W h hs.len hs.chars)
  have hz := ctT_size xs
  generalize ctT xs = G at *
  generalize capB xs = Q at *
  go_wp2_with fail
  go_at_call 14
  refine (ct.out _ H1.out.2.2).mono ?_
  rintro e w2 ⟨rfl, hx⟩
  have H2 := hid (H1.out.1.ext hx)
  clear hx H1 ct
  go_wp2_with fail
  go_at_call 56
  refine (spec_one Hb.out 4 _ H2.out.1 (by omega) (by omega)).mono ?_
  rintro e w3 ⟨y, rfl, hc, hg⟩
  have H3 := hid (H2.out.step hc hg)
  clear hc hg H2
  cases y
  · go_wp2
    go_ret
    exact ⟨G, rfl, by omega, cur_fin HS.out.2.1 H3.out (Nat.le_refl _)⟩
  · go_wp2_with fail
    go_at_call 57
    refine (spec_spoiltW Hb.out G ⟨#[48, 32, 117, 112, 10]⟩ _ H3.out.1 (by omega) (by decide) (by omega)).mono ?_
    rintro e w4 ⟨r, rfl, hr, hc, hg⟩
    have H4 := hid (H3.out.step hc hg)
    clear hc hg H3
    go_wp2
    go_ret
    exact ⟨r, rfl, by omega, cur_fin HS.out.2.1 H4.out (Nat.le_refl _)⟩
theorem spec_DrawOfKind {bs : List Int} (hb : Bts bs) {v : Value} (w : World) (h : Rd w 1 v bs.length (vBytes bs)) :
    Calls Tryz.prog 18 #[v] w fun e w' => ∃ (g cap : Nat) (xs : List Cap) (q : Int), e = .returned (.tuple #[.slice (some ⟨g, 0, none⟩) xs.length cap, .int .i64 q]) ∧ CpR w' g cap xs ∧ Ext w w' := by
  have HS := hid (cur_start h)
  have Hb := hid hb
  obtain ⟨-, p, cap, rfl, -⟩ := h
  clear hb
  go_enter Tryz.func18, Tryz.ntmps18
  go_wp2_with fail
  go_at_call 55
  change Calls _ _ _ (C1 w (.slice p bs.length cap)) _
  generalize C1 w (.slice p bs.length cap) = W0 at *
  have H0 := hid HS.out.1
  refine (spec_capture Hb.out _ H0.out.1 (by omega)).mono ?_
  rintro e w1 ⟨g, gc, xs, rfl, hs, ho, hc, hg⟩
  have hlow := HS.out.2.2
  have HK : Hid (KpD W0 w1 w.heap.size w.heap.size (.slice p bs.length cap) bs (0 + 200) g gc xs) := ⟨H0.out.step hc hg, ho, hs.2⟩
  clear hc hg H0 ho
  have hlt := HK.out.lt
  have hr0 := rd_litC w1 3 #[.int .i64 1, .int .i64 2, .int .i64 3, .int .i64 4, .int .i64 5, .int .i64 0, .int .i64 6]
  have H1 : Hid (KpD W0 (w1.alloc (.cells #[.int .i64 1, .int .i64 2, .int .i64 3, .int .i64 4, .int .i64 5, .int .i64 0, .int .i64 6] 3)) w.heap.size w.heap.size (.slice p bs.length cap) bs (0 + 200) g gc xs ∧ Rd (w1.alloc (.cells #[.int .i64 1, .int .i64 2, .int .i64 3, .int .i64 4, .int .i64 5, .int .i64 0, .int .i64 6] 3)) 1 (.slice (some ⟨w1.heap.size, 0, none⟩) 7 7) 7 (vInts [1, 2, 3, 4, 5, 0, 6])) := ⟨HK.out.ext (by repeat' (first | exact Ext.refl _ | assumption | refine Ext.alloc ?_ _ | refine Ext.ext ?_ _ | refine Ext.drew ?_ | refine Ext.drewN ?_ _)), hr0⟩
  clear hr0 HK
  go_wp2_with fail
  generalize (w1.alloc (.cells #[.int .i64 1, .int .i64 2, .int .i64 3, .int .i64 4, .int .i64 5, .int .i64 0, .int .i64 6] 3)) = W at *
  go_at_call 59
  refine (spec_pick Hb.out 24 _ H1.out.1.1.1 (by omega) (by omega)).mono ?_
  rintro e w2 ⟨x, rfl, hx0, hx1, hc, hg⟩
  have H2 := hid (And.intro (H1.out.1.step hc hg) (rd_turn H1.out.2 hg (fun b o m c e _ e2 => by cases e; have := Option.some.inj e2; omega)))
  clear hc hg H1
  obtain ⟨n, rfl⟩ : ∃ n : Nat, x = n := ⟨x.toNat, by omega⟩
  by_cases n1 : n < 11
  · have hd : (n : Int) / 11 = 0 := by omega
    clear n1
    have hu := hid (rd_cut (m := 5) (M := [1, 2, 3, 4, 5]) H2.out.2 (by decide) rfl rfl)
    go_wp2_with fail
    go_at_call 58
    refine (spec_among Hb.out [1, 2, 3, 4, 5] _ _ H2.out.1.1.1 hu.out (fun b o m c e _ => by cases e; omega) (by omega) (by decide)).mono ?_
    rintro e w3 ⟨y, rfl, -, hc, hg⟩
    have H3 := hid (H2.out.1.step hc hg)
    clear hc hg H2 hu
    go_wp2
    go_ret2
    exact ⟨g, gc, xs, y, rfl, CpR.own H3.out.2.1 hs, cur_fin HS.out.2.1 H3.out.1 (Nat.le_refl _)⟩
  by_cases n2 : n < 22
  · have hd : (n : Int) / 11 = 1 := by omega
    clear n1
    have hu := hid (rd_cut (m := 6) (M := [1, 2, 3, 4, 5, 0]) H2.out.2 (by decide) rfl rfl)
    go_wp2_with fail
    go_at_call 58
    refine (spec_among Hb.out [1, 2, 3, 4, 5, 0] _ _ H2.out.1.1.1 hu.out (fun b o m c e _ => by cases e; omega) (by omega) (by decide)).mono ?_
    rintro e w3 ⟨y, rfl, -, hc, hg⟩
    have H3 := hid (H2.out.1.step hc hg)
    clear hc hg H2 hu
    go_wp2
    go_ret2
    exact ⟨g, gc, xs, y, rfl, CpR.own H3.out.2.1 hs, cur_fin HS.out.2.1 H3.out.1 (Nat.le_refl _)⟩
  · have hd : (n : Int) / 11 = 2 := by omega
    clear n1
    have hu := hid (rd_cut (m := 7) (M := [1, 2, 3, 4, 5, 0, 6]) H2.out.2 (by decide) rfl rfl)
    go_wp2_with fail
    go_at_call 58
    refine (spec_among Hb.out [1, 2, 3, 4, 5, 0, 6] _ _ H2.out.1.1.1 hu.out (fun b o m c e _ => by cases e; omega) (by omega) (by decide)).mono ?_
    rintro e w3 ⟨y, rfl, -, hc, hg⟩
    have H3 := hid (H2.out.1.step hc hg)
    clear hc hg H2 hu
    go_wp2
    go_ret2
    exact ⟨g, gc, xs, y, rfl, CpR.own H3.out.2.1 hs, cur_fin HS.out.2.1 H3.out.1 (Nat.le_refl _)⟩
theorem spec_DrawOnLink {bs : List Int} (hb : Bts bs) {v : Value} (w : World) (h : Rd w 1 v bs.length (vBytes bs)) :
    Calls Tryz.prog 21 #[v] w fun e w' => ∃ (g cap : Nat) (xs : List Cap) (q : Int), e = .returned (.tuple #[.slice (some ⟨g, 0, none⟩) xs.length cap, .int .i64 q]) ∧ CpR w' g cap xs ∧ Ext w w' := by
  have HS := hid (cur_start h)
  have Hb := hid hb
  obtain ⟨-, p, cap, rfl, -⟩ := h
  clear hb
  go_enter Tryz.func21, Tryz.ntmps21
  go_wp2_with fail
  go_at_call 55
  change Calls _ _ _ (C1 w (.slice p bs.length cap)) _
  generalize C1 w (.slice p bs.length cap) = W0 at *
  have H0 := hid HS.out.1
  refine (spec_capture Hb.out _ H0.out.1 (by omega)).mono ?_
  rintro e w1 ⟨g, gc, xs, rfl, hs, ho, hc, hg⟩
  have hlow := HS.out.2.2
  have HK : Hid (KpD W0 w1 w.heap.size w.heap.size (.slice p bs.length cap) bs (0 + 200) g gc xs) := ⟨H0.out.step hc hg, ho, hs.2⟩
  clear hc hg H0 ho
  have hlt := HK.out.lt
  have hr0 := rd_litC w1 3 #[.int .i64 1, .int .i64 2, .int .i64 7, .int .i64 0, .int .i64 8]
  have H1 : Hid (KpD W0 (w1.alloc (.cells #[.int .i64 1, .int .i64 2, .int .i64 7, .int .i64 0, .int .i64 8] 3)) w.heap.size w.heap.size (.slice p bs.length cap) bs (0 + 200) g gc xs ∧ Rd (w1.alloc (.cells #[.int .i64 1, .int .i64 2, .int .i64 7, .int .i64 0, .int .i64 8] 3)) 1 (.slice (some ⟨w1.heap.size, 0, none⟩) 5 5) 5 (vInts [1, 2, 7, 0, 8])) := ⟨HK.out.ext (by repeat' (first | exact Ext.refl _ | assumption | refine Ext.alloc ?_ _ | refine Ext.ext ?_ _ | refine Ext.drew ?_ | refine Ext.drewN ?_ _)), hr0⟩
  clear hr0 HK
  go_wp2_with fail
  generalize (w1.alloc (.cells #[.int .i64 1, .int .i64 2, .int .i64 7, .int .i64 0, .int .i64 8] 3)) = W at *
  go_at_call 59
  refine (spec_pick Hb.out 24 _ H1.out.1.1.1 (by omega) (by omega)).mono ?_
  rintro e w2 ⟨x, rfl, hx0, hx1, hc, hg⟩
  have H2 := hid (And.intro (H1.out.1.step hc hg) (rd_turn H1.out.2 hg (fun b o m c e _ e2 => by cases e; have := Option.some.inj e2; omega)))
  clear hc hg H1
  obtain ⟨n, rfl⟩ : ∃ n : Nat, x = n := ⟨x.toNat, by omega⟩
  by_cases n1 : n < 11
  · have hd : (n : Int) / 11 = 0 := by omega
    clear n1
    have hu := hid (rd_cut (m := 3) (M := [1, 2, 7]) H2.out.2 (by decide) rfl rfl)
    go_wp2_with fail
    go_at_call 58
    refine (spec_among Hb.out [1, 2, 7] _ _ H2.out.1.1.1 hu.out (fun b o m c e _ => by cases e; omega) (by omega) (by decide)).mono ?_
    rintro e w3 ⟨y, rfl, -, hc, hg⟩
    have H3 := hid (H2.out.1.step hc hg)
    clear hc hg H2 hu
    go_wp2
    go_ret2
    exact ⟨g, gc, xs, y, rfl, CpR.own H3.out.2.1 hs, cur_fin HS.out.2.1 H3.out.1 (Nat.le_refl _)⟩
  by_cases n2 : n < 22
  · have hd : (n : Int) / 11 = 1 := by omega
    clear n1
    have hu := hid (rd_cut (m := 4) (M := [1, 2, 7, 0]) H2.out.2 (by decide) rfl rfl)
    go_wp2_with fail
    go_at_call 58
    refine (spec_among Hb.out [1, 2, 7, 0] _ _ H2.out.1.1.1 hu.out (fun b o m c e _ => by cases e; omega) (by omega) (by decide)).mono ?_
    rintro e w3 ⟨y, rfl, -, hc, hg⟩
    have H3 := hid (H2.out.1.step hc hg)
    clear hc hg H2 hu
    go_wp2
    go_ret2
    exact ⟨g, gc, xs, y, rfl, CpR.own H3.out.2.1 hs, cur_fin HS.out.2.1 H3.out.1 (Nat.le_refl _)⟩
  · have hd : (n : Int) / 11 = 2 := by omega
    clear n1
    have hu := hid (rd_cut (m := 5) (M := [1, 2, 7, 0, 8]) H2.out.2 (by decide) rfl rfl)
    go_wp2_with fail
    go_at_call 58
    refine (spec_among Hb.out [1, 2, 7, 0, 8] _ _ H2.out.1.1.1 hu.out (fun b o m c e _ => by cases e; omega) (by omega) (by decide)).mono ?_
    rintro e w3 ⟨y, rfl, -, hc, hg⟩
    have H3 := hid (H2.out.1.step hc hg)
    clear hc hg H2 hu
    go_wp2
    go_ret2
    exact ⟨g, gc, xs, y, rfl, CpR.own H3.out.2.1 hs, cur_fin HS.out.2.1 H3.out.1 (Nat.le_refl _)⟩
end Go.Proofs.YtljknhocfjpolaaGreatDoor
