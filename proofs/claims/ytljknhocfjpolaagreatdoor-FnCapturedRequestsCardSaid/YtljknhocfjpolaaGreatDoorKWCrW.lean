/- FnCapturedRequests: the walk behind its first paragraph. -/
import Derived.Test.YtljknhocfjpolaaGreatDoorKWCurX5
import Derived.Test.YtljknhocfjpolaaGreatDoorKWCqL
import Derived.Test.YtljknhocfjpolaaGreatDoorKWJoinI
import Derived.Test.YtljknhocfjpolaaGreatDoorKWRepair2
import Derived.Test.YtljknhocfjpolaaGreatDoorKWTwice3
import Derived.Test.YtljknhocfjpolaaGreatDoorKWLawR
import Derived.Test.YtljknhocfjpolaaGreatDoorWTail
import Derived.Deep.DeepCutAuto
namespace Go.Proofs.YtljknhocfjpolaaGreatDoor
open Go.RowKit
set_option maxHeartbeats 4000000
set_option maxRecDepth 100000
theorem SmC.ofB {xs : List Cap} (h : capB xs = true) : SmC xs := ⟨Nat.le_trans (cap_iff h).1 (by decide), fun x hx => Nat.le_trans (okC_size (cap_mem h x hx)) (by decide)⟩
theorem seen_bd {xs : List Cap} (h : capB xs = true) : 0 ≤ seen xs ∧ seen xs ≤ 180 := by
  have h1 := seenTo_bd h xs.length (Nat.le_refl _)
  have h2 := (cap_iff h).1
  rw [seen_yes h]
  omega
theorem frame194 (a : Act) (v : Value) (h1 : a.defers = []) (h2 : a.tmps.size = 194) (h3 : a.tmps.getD 0 undef = v) : ∃ u : Nat → Value, a = ⟨#[v, u 1, u 2, u 3, u 4, u 5, u 6, u 7, u 8, u 9, u 10, u 11, u 12, u 13, u 14, u 15, u 16, u 17, u 18, u 19, u 20, u 21, u 22, u 23, u 24, u 25, u 26, u 27, u 28, u 29, u 30, u 31, u 32, u 33, u 34, u 35, u 36, u 37, u 38, u 39, u 40, u 41, u 42, u 43, u 44, u 45, u 46, u 47, u 48, u 49, u 50, u 51, u 52, u 53, u 54, u 55, u 56, u 57, u 58, u 59, u 60, u 61, u 62, u 63, u 64, u 65, u 66, u 67, u 68, u 69, u 70, u 71, u 72, u 73, u 74, u 75, u 76, u 77, u 78, u 79, u 80, u 81, u 82, u 83, u 84, u 85, u 86, u 87, u 88, u 89, u 90, u 91, u 92, u 93, u 94, u 95, u 96, u 97, u 98, u 99, u 100, u 101, u 102, u 103, u 104, u 105, u 106, u 107, u 108, u 109, u 110, u 111, u 112, u 113, u 114, u 115, u 116, u 117, u 118, u 119, u 120, u 121, u 122, u 123, u 124, u 125, u 126, u 127, u 128, u 129, u 130, u 131, u 132, u 133, u 134, u 135, u 136, u 137, u 138, u 139, u 140, u 141, u 142, u 143, u 144, u 145, u 146, u 147, u 148, u 149, u 150, u 151, u 152, u 153, u 154, u 155, u 156, u 157, u 158, u 159, u 160, u 161, u 162, u 163, u 164, u 165, u 166, u 167, u 168, u 169, u 170, u 171, u 172, u 173, u 174, u 175, u 176, u 177, u 178, u 179, u 180, u 181, u 182, u 183, u 184, u 185, u 186, u 187, u 188, u 189, u 190, u 191, u 192, u 193], []⟩ :=
  ⟨fun i => a.tmps.getD i undef, frame_arg a 193 h1 h2 v h3⟩
def CrPost (w : World) : Exit → Act → World → Prop := bodyPost Tryz.prog Tryz.f5 (fun e w' => e = .returned (.bool true) ∧ Ext w w')
noncomputable def crTl (n : Nat) : Code := (Tryz.f5.body.getD .skip).tailAt n
def CrTail (n : Nat) (p : Option Addr) (m cap : Nat) (w : World) : Prop := ∀ (a : Act) (wc : World), Ext w wc → a.defers = [] → a.tmps.size = 194 → a.tmps.getD 0 undef = .slice p m cap → Code.wp Tryz.prog (crTl n) (CrPost w) a wc
-- part 4
theorem creq_p4 {bs : List Int} (hb : Bts bs) {p : Option Addr} {cap : Nat} {w : World} (Hr : Hid (Rd w 1 (.slice p bs.length cap) bs.length (vBytes bs))) : CrTail 34 p bs.length cap w := by
  intro a wc hx h1 h2 h3
  obtain ⟨u, rfl⟩ := frame194 a _ h1 h2 h3
  clear h1 h2 h3
  have HY := hid hx
  clear hx
  have dd := hid (fun w h => spec_DrawBytesSeen hb (v := .slice p bs.length cap) w h)
  clear hb
  unfold crTl CrPost
  conv => arg 2; whnf
  go_wp2_with fail
  go_at_call 36
  refine (dd.out _ (Hr.out.ext HY.out)).mono ?_
  rintro e w1 ⟨g, gc, xs, rfl, hR, hx⟩
  have L0 := hid (And.intro (HY.out.trans hx) hR)
  have ci := hid (fun W h => impl_BytesSeen xs (.slice (some ⟨g, 0, none⟩) xs.length gc) W h hR.1.2.len hR.1.2.chars)
  have cs := hid (fun W h => spec_BytesSeen xs (.slice (some ⟨g, 0, none⟩) xs.length gc) W h hR.1.2.len hR.1.2.chars)
  generalize seen xs = n at *
  generalize capB xs = B at *
  clear hR hx HY dd
  go_wp2_with fail
  go_at_call 35
  refine (ci.out _ L0.out.2.2).mono ?_
  rintro e w2 ⟨rfl, hx⟩
  have L1 := hid (And.intro (L0.out.1.trans hx) (L0.out.2.ext hx))
  clear hx L0 ci
  go_wp2_with fail
  go_at_call 37
  refine (cs.out _ L1.out.2.2).mono ?_
  rintro e w3 ⟨rfl, hx⟩
  have L2 := hid (L1.out.1.trans hx)
  clear hx L1 cs
  cases B
  all_goals
    go_wp2
    go_ret
    exact ⟨rfl, L2.out⟩
-- part 3
theorem creq_p3 {bs : List Int} (hb : Bts bs) {p : Option Addr} {cap : Nat} {w : World} (Hr : Hid (Rd w 1 (.slice p bs.length cap) bs.length (vBytes bs))) (hn : Hid (CrTail 34 p bs.length cap w)) : CrTail 26 p bs.length cap w := by
  intro a wc hx h1 h2 h3
  obtain ⟨u, rfl⟩ := frame194 a _ h1 h2 h3
  clear h1 h2 h3
  have HY := hid hx
  clear hx
  have dd := hid (fun w h => spec_DrawJoinCaptures hb (v := .slice p bs.length cap) w h)
  clear hb
  unfold crTl CrPost
  conv => arg 2; whnf
  go_wp2_with fail
  go_at_call 24
  refine (dd.out _ (Hr.out.ext HY.out)).mono ?_
  rintro e w1 ⟨g, gc, xs, g', gc', ys, rfl, hA, hB, hx⟩
  have L0 := hid (And.intro (HY.out.trans hx) (And.intro hA hB))
  have cj := hid (fun W h k => impl_JoinCaptures xs ys (.slice (some ⟨g, 0, none⟩) xs.length gc) (.slice (some ⟨g', 0, none⟩) ys.length gc') W h k hA.1.2.len hB.1.2.len hA.1.2.chars hB.1.2.chars)
  have ca := hid (fun W h => impl_BytesSeen xs (.slice (some ⟨g, 0, none⟩) xs.length gc) W h hA.1.2.len hA.1.2.chars)
  have cb := hid (fun W h => impl_BytesSeen ys (.slice (some ⟨g', 0, none⟩) ys.length gc') W h hB.1.2.len hB.1.2.chars)
  have law : Hid (jB xs ys = true → (capB xs = true ∧ capB ys = true ∧ capB (jD xs ys) = true) ∧ IntKind.i64.wrap (seen xs + seen ys) = seen (jD xs ys)) := fun h => by
    have hj : jD xs ys = mg xs ys := by rw [jD, h]; rfl
    simp only [jB, Bool.and_eq_true, decide_eq_true_eq] at h
    have hc := capB_mg h.1 h.2.1 h.2.2
    have e := seen_mg h.1 h.2.1 h.2.2
    have h1 := seen_bd h.1
    have h2 := seen_bd h.2.1
    rw [hj]
    exact ⟨⟨h.1, h.2.1, hc⟩, by rw [IntWalk.i64_in _ (by omega), e]⟩
  clear hA hB hx HY dd
  go_wp2_with fail
  go_at_call 25
  refine (cj.out _ L0.out.2.1.2 L0.out.2.2.2).mono ?_
  rintro e w2 ⟨r, rfl, ho, hx⟩
  obtain ⟨rp, rc, rfl⟩ := own_shape ho
  have L1 := hid (And.intro (L0.out.1.trans hx) (And.intro (And.intro (L0.out.2.1.ext hx) (L0.out.2.2.ext hx)) (Rd.own ho)))
  clear hx ho L0 cj
  have cz := hid (fun W h h1 h2 => impl_BytesSeen (jD xs ys) (.slice rp (jD xs ys).length rc) W h h1 h2)
  have hz : Hid (capB (jD xs ys) = true → (jD xs ys).length ≤ 1048576 ∧ Cap.chars (jD xs ys) ≤ 1048576) := fun h => ⟨(SmC.ofB h).len, (SmC.ofB h).chars⟩
  generalize jB xs ys = B at *
  go_upto_if 141 with fail
  go_cut [] from 3 (fun wc => Ext w wc)
  case first =>
    cases B
    · go_wp2_with fail
      go_meet
      exact L1.out.1
    · obtain ⟨⟨c1, c2, c3⟩, hw⟩ := law.out rfl
      obtain ⟨z1, z2⟩ := hz.out c3
      rw [c1] at ca
      rw [c2] at cb
      rw [c3] at cz
      have Z := hid (And.intro z1 z2)
      clear law hz c1 c2 c3 z1 z2
      generalize seen xs = n1 at *
      generalize seen ys = n2 at *
      generalize seen (jD xs ys) = n3 at *
      generalize jD xs ys = J at *
      go_wp2_with fail
      go_at_call 35
      refine (ca.out _ L1.out.2.1.1.2).mono ?_
      rintro e w3 ⟨rfl, hx⟩
      have L2 := hid (And.intro (L1.out.1.trans hx) (And.intro (L1.out.2.1.2.ext hx) (L1.out.2.2.ext hx)))
      clear hx L1 ca
      go_wp2_with fail
      go_at_call 35
      refine (cb.out _ L2.out.2.1.2).mono ?_
      rintro e w4 ⟨rfl, hx⟩
      have L3 := hid (And.intro (L2.out.1.trans hx) (L2.out.2.2.ext hx))
      clear hx L2 cb
      go_wp2_with fail
      go_at_call 35
      refine (cz.out _ L3.out.2 Z.out.1 Z.out.2).mono ?_
      rintro e w5 ⟨rfl, hx⟩
      have L4 := hid (L3.out.1.trans hx)
      clear hx L3 cz Z
      go_wp2_with fail
      go_meet
      exact L4.out
  case rest =>
    go_step
    exact hn.out _ _ hcut rfl rfl rfl
-- part 2
theorem creq_p2 {bs : List Int} (hb : Bts bs) {p : Option Addr} {cap : Nat} {w : World} (Hr : Hid (Rd w 1 (.slice p bs.length cap) bs.length (vBytes bs))) (hn : Hid (CrTail 26 p bs.length cap w)) : CrTail 21 p bs.length cap w := by
  intro a wc hx h1 h2 h3
  obtain ⟨u, rfl⟩ := frame194 a _ h1 h2 h3
  clear h1 h2 h3
  have HY := hid hx
  clear hx
  have dd := hid (fun w h => spec_DrawRepairTicks hb (v := .slice p bs.length cap) w h)
  clear hb
  unfold crTl CrPost
  conv => arg 2; whnf
  go_wp2_with fail
  go_at_call 32
  refine (dd.out _ (Hr.out.ext HY.out)).mono ?_
  rintro e w1 ⟨g, gc, xs, q, rfl, hA, hx⟩
  have L0 := hid (And.intro (HY.out.trans hx) hA)
  have ci := hid (fun W h => impl_RepairTicksQ xs (some ⟨g, 0, none⟩) gc q W h hA.1.2.len hA.1.2.chars hA.1.1)
  have cs := hid (fun W h => spec_RepairTicks xs (.slice (some ⟨g, 0, none⟩) xs.length gc) q W h hA.1.2.len hA.1.2.chars)
  have hp := repN_pos xs q
  generalize repN xs q = n at *
  generalize repB xs q = B at *
  have t0 : decide (n < 0) = false := decide_eq_false (by omega)
  clear hA hx HY dd hp
  go_wp2_with fail
  go_at_call 33
  refine (ci.out _ L0.out.2.2).mono ?_
  rintro e w2 ⟨rfl, hx⟩
  have L1 := hid (And.intro (L0.out.1.trans hx) (L0.out.2.ext hx))
  clear hx L0 ci
  go_wp2_with fail
  go_at_call 34
  refine (cs.out _ L1.out.2.2).mono ?_
  rintro e w3 ⟨rfl, hx⟩
  have L2 := hid (L1.out.1.trans hx)
  clear hx L1 cs
  go_upto_if 129 with fail
  go_cut [] from 3 (fun wc => Ext w wc)
  case first =>
    cases B
    all_goals
      go_wp2_with fail
      go_meet
      exact L2.out
  case rest =>
    go_step
    exact hn.out _ _ hcut rfl rfl rfl
end Go.Proofs.YtljknhocfjpolaaGreatDoor
