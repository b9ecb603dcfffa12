/- FnPendings: contracts in letters, and the tails of the law. -/
import Derived.Test.YtnngklclehffhaaDoorJ8
import Derived.Test.YtnngklclehffhaaDoorKWCurF3
import Derived.Test.YtnngklclehffhaaDoorJ44
import Derived.Test.YtnngklclehffhaaDoorKWPd2
namespace Go.Proofs.YtnngklclehffhaaDoor
open Go.RowKit
set_option maxHeartbeats 1000000
set_option maxRecDepth 100000
theorem POw.sl {w : World} {lo hi : Nat} {v : Value} {ps : List Pnd} {es : List Pe} (h : POw w lo hi v ps es) : ∃ p c, v = .slice p ps.length c ∧ ps.length ≤ c := by
  rcases h.form with ⟨rfl, rfl⟩ | ⟨g, c, rfl, h1, -⟩
  · exact ⟨none, 0, rfl, Nat.le_refl _⟩
  · exact ⟨_, c, rfl, h1⟩
theorem PRd.sl {w : World} {v : Value} {ps : List Pnd} {es : List Pe} (h : PRd w v ps es) : ∃ p c, v = .slice p ps.length c := by
  obtain ⟨p, c, e, -⟩ := h.form
  exact ⟨p, c, e⟩
theorem SmP.nil : SmP [] := ⟨by decide, fun p hp => by cases hp⟩
theorem SmP.tk (ps : List Pnd) (n p q : Int) (d : ByteArray) : SmP (tkO ps n p q d) := by
  cases h : tkB ps n p q d
  · rw [tkO, h]; exact SmP.nil
  · exact SmP.ok (take_ok h)
theorem SmP.dr (ps : List Pnd) (x : Int) : SmP (drL ps x) := by
  cases h : lkB ps x
  · rw [drL, h]; exact SmP.nil
  · rw [drL, h, if_pos rfl]; exact SmP.ok (okL_sub (lkB_okL h) (ers_sl _ _))
theorem take_law {ps : List Pnd} {n p q : Int} {d : ByteArray} (h : tkB ps n p q d = true) : okL (tkO ps n p q d) = true ∧ (tkW ps n p q d = true → lkB (tkO ps n p q d) n = false ∧ (1 < q → lkB ps n = true ∧ lkL ps n = [p])) ∧
    (tkW ps n p q d = false → lkB (tkO ps n p q d) n = true ∧ (lkL (tkO ps n p q d) n).contains p = false) :=
  ⟨take_ok h, fun hw => ⟨take_gone h hw, fun hq => take_last h hw hq⟩, fun hw => ⟨(take_kept h hw).1, by
    cases e : (lkL (tkO ps n p q d) n).contains p
    · rfl
    · exact absurd (List.contains_iff_mem.1 e) (take_kept h hw).2⟩⟩
theorem frame210 (a : Act) (v : Value) (h1 : a.defers = []) (h2 : a.tmps.size = 210) (h3 : a.tmps.getD 0 undef = v) : ∃ u : Nat → Value, a = ⟨#[v, u 1, u 2, u 3, u 4, u 5, u 6, u 7, u 8, u 9, u 10, u 11, u 12, u 13, u 14, u 15, u 16, u 17, u 18, u 19, u 20, u 21, u 22, u 23, u 24, u 25, u 26, u 27, u 28, u 29, u 30, u 31, u 32, u 33, u 34, u 35, u 36, u 37, u 38, u 39, u 40, u 41, u 42, u 43, u 44, u 45, u 46, u 47, u 48, u 49, u 50, u 51, u 52, u 53, u 54, u 55, u 56, u 57, u 58, u 59, u 60, u 61, u 62, u 63, u 64, u 65, u 66, u 67, u 68, u 69, u 70, u 71, u 72, u 73, u 74, u 75, u 76, u 77, u 78, u 79, u 80, u 81, u 82, u 83, u 84, u 85, u 86, u 87, u 88, u 89, u 90, u 91, u 92, u 93, u 94, u 95, u 96, u 97, u 98, u 99, u 100, u 101, u 102, u 103, u 104, u 105, u 106, u 107, u 108, u 109, u 110, u 111, u 112, u 113, u 114, u 115, u 116, u 117, u 118, u 119, u 120, u 121, u 122, u 123, u 124, u 125, u 126, u 127, u 128, u 129, u 130, u 131, u 132, u 133, u 134, u 135, u 136, u 137, u 138, u 139, u 140, u 141, u 142, u 143, u 144, u 145, u 146, u 147, u 148, u 149, u 150, u 151, u 152, u 153, u 154, u 155, u 156, u 157, u 158, u 159, u 160, u 161, u 162, u 163, u 164, u 165, u 166, u 167, u 168, u 169, u 170, u 171, u 172, u 173, u 174, u 175, u 176, u 177, u 178, u 179, u 180, u 181, u 182, u 183, u 184, u 185, u 186, u 187, u 188, u 189, u 190, u 191, u 192, u 193, u 194, u 195, u 196, u 197, u 198, u 199, u 200, u 201, u 202, u 203, u 204, u 205, u 206, u 207, u 208, u 209], []⟩ :=
  ⟨fun i => a.tmps.getD i undef, frame_arg a 209 h1 h2 v h3⟩
def PgPost (w : World) : Exit → Act → World → Prop := bodyPost Tryd.prog Tryd.f7 (fun e w' => e = .returned (.bool true) ∧ Ext w w')
noncomputable def pgTl (n : Nat) : Code := (Tryd.f7.body.getD .skip).tailAt n
def PgTail (n : Nat) (p : Option Addr) (m cap : Nat) (w : World) : Prop := ∀ (a : Act) (wc : World), Ext w wc → a.defers = [] → a.tmps.size = 210 → a.tmps.getD 0 undef = .slice p m cap → Code.wp Tryd.prog (pgTl n) (PgPost w) a wc
-- part 3
theorem pend_p3 {bs : List Int} (hb : Bts bs) {p : Option Addr} {cap : Nat} {w : World} (Hr : Hid (Rd w 1 (.slice p bs.length cap) bs.length (vBytes bs))) : PgTail 22 p bs.length cap w := by
  intro a wc hx h1 h2 h3
  obtain ⟨u, rfl⟩ := frame210 a _ h1 h2 h3
  clear h1 h2 h3
  have HY := hid hx
  clear hx
  have dd := hid (fun w h => spec_DrawLackingParts hb (v := .slice p bs.length cap) w h)
  clear hb
  unfold pgTl PgPost
  conv => arg 2; whnf
  go_wp2_with fail
  go_at_call 32
  refine (dd.out _ (Hr.out.ext HY.out)).mono ?_
  rintro e w1 ⟨q, c, ps, es, x, rfl, ⟨hsm, hcap⟩, hP, hx⟩
  have L0 := hid (And.intro (HY.out.trans hx) hP)
  clear hx hP HY dd
  have hll := lkL_len ps x
  obtain ⟨B, hB⟩ : ∃ o, lkB ps x = o := ⟨_, rfl⟩
  obtain ⟨L, hL⟩ : ∃ o, lkL ps x = o := ⟨_, rfl⟩
  have ci := hid (fun W h => impl_LackingParts ps es q c x W h hcap hsm.big.1 hsm.big.2)
  have cs := hid (fun W h => spec_LackingParts ps es (.slice q ps.length c) x W h hsm.big.1 hsm.big.2)
  rw [hB, hL] at ci cs
  rw [hL] at hll
  have cv := hid (fun z z' W h h' => laws_vInts L z z' W h h' (by omega))
  clear hB hL hsm hcap
  go_wp2_with fail
  go_at_call 15
  refine (ci.out _ L0.out.2).mono ?_
  rintro e w2 ⟨z, rfl, ho, hx⟩
  obtain ⟨zp, zc, rfl⟩ := own_shape ho
  have L1 := hid (And.intro (L0.out.1.trans hx) (And.intro (L0.out.2.ext hx) (Rd.own ho)))
  clear hx ho L0 ci
  go_wp2_with fail
  go_at_call 14
  refine (cs.out _ L1.out.2.1).mono ?_
  rintro e w3 ⟨y, rfl, ho, hx⟩
  obtain ⟨yp, yc, rfl⟩ := own_shape ho
  have L2 := hid (And.intro (L1.out.1.trans hx) (And.intro (L1.out.2.2.ext hx) (Rd.own ho)))
  clear hx ho L1 cs
  go_wp2_with fail
  go_at_call 33
  refine (cv.out _ _ _ L2.out.2.1 L2.out.2.2).mono ?_
  rintro e w4 ⟨rfl, hx⟩
  have L3 := hid (L2.out.1.trans hx)
  clear hx L2 cv
  go_wp2
  go_ret
  exact ⟨rfl, L3.out⟩
-- part 2
theorem pend_p2 {bs : List Int} (hb : Bts bs) {p : Option Addr} {cap : Nat} {w : World} (Hr : Hid (Rd w 1 (.slice p bs.length cap) bs.length (vBytes bs))) (hn : Hid (PgTail 22 p bs.length cap w)) : PgTail 13 p bs.length cap w := by
  intro a wc hx h1 h2 h3
  obtain ⟨u, rfl⟩ := frame210 a _ h1 h2 h3
  clear h1 h2 h3
  have HY := hid hx
  clear hx
  have dd := hid (fun w h => spec_DrawDropMessage hb (v := .slice p bs.length cap) w h)
  clear hb
  unfold pgTl PgPost
  conv => arg 2; whnf
  go_wp2_with fail
  go_at_call 31
  refine (dd.out _ (Hr.out.ext HY.out)).mono ?_
  rintro e w1 ⟨q, c, ps, es, x, rfl, ⟨hsm, hcap⟩, hP, hx⟩
  have L0 := hid (And.intro (HY.out.trans hx) hP)
  clear hx hP HY dd
  have hsd := hid (SmP.dr ps x)
  have cl := hid (fun h => drop_law (ps := ps) (x := x) h)
  have hp0 := hid (fun h : lkB ps x = true => show 0 < ps.length by obtain ⟨-, k, hk, -⟩ := lkB_at h; omega)
  obtain ⟨B, hB⟩ : ∃ o, lkB ps x = o := ⟨_, rfl⟩
  obtain ⟨D, hD⟩ : ∃ o, drL ps x = o := ⟨_, rfl⟩
  have ci := hid (fun W h => impl_DropMessage ps es q c x W h hcap hsm.big.1 hsm.big.2)
  have cs := hid (fun W h => spec_DropMessage ps es (.slice q ps.length c) x W h hsm.big.1 hsm.big.2)
  rw [hB, hD] at ci cs
  rw [hB, hD] at cl
  rw [hD] at hsd
  rw [hB] at hp0
  have hD1 := hid (fun i (hi : i < D.length) => And.intro (hsd.out.big.2 i hi).1 (hsd.out.big.2 i hi).2.1)
  obtain ⟨F, hF⟩ : ∃ o, lkB D x = o := ⟨_, rfl⟩
  rw [hF] at cl
  have hps : ps.length ≤ 9 := hsm.1
  clear hB hD hsm hcap
  go_wp2_with fail
  go_at_call 21
  refine (ci.out _ L0.out.2).mono ?_
  rintro e w2 ⟨z, ds, rfl, ho, hx⟩
  obtain ⟨zp, zc, rfl, hzc⟩ := ho.sl
  have L1 := hid (And.intro (L0.out.1.trans hx) (And.intro (L0.out.2.ext hx) ho.rd))
  clear hx ho L0 ci
  have cb := hid (fun W h => impl_LackingParts D ds zp zc x W h hzc hsd.out.big.1 hsd.out.big.2)
  rw [hF] at cb
  clear hF hzc
  go_wp2_with fail
  go_at_call 20
  refine (cs.out _ L1.out.2.1).mono ?_
  rintro e w3 ⟨y, ds', rfl, ho, hx⟩
  obtain ⟨yp, yc, rfl⟩ := ho.sl
  have L2 := hid (And.intro (L1.out.1.trans hx) (And.intro (L1.out.2.2.ext hx) ho))
  clear hx ho L1 cs
  have cv := hid (fun W h h' => laws_vPendings D ds ds' (.slice zp D.length zc) (.slice yp D.length yc) W h h' hsd.out.big.1 hD1.out)
  go_wp2_with fail
  go_at_call 29
  refine (cv.out _ L2.out.2.1 L2.out.2.2).mono ?_
  rintro e w4 ⟨rfl, hx⟩
  have L3 := hid (And.intro (L2.out.1.trans hx) (L2.out.2.1.ext hx))
  clear hx L2 cv hD1 hsd
  go_upto_if 169 with fail
  go_cut [] from 3 (fun wc => Ext w wc)
  case first =>
    cases B
    · clear cl cb hp0
      go_wp2_with fail
      go_meet
      exact L3.out.1
    · obtain ⟨rfl, e2⟩ := cl.out rfl
      have h0 := hp0.out rfl
      have t0 : ((D.length : Int) == (ps.length : Int) - 1) = true := by rw [beq_iff_eq]; omega
      have t1 : IntKind.i64.wrap ((ps.length : Int) - 1) = (ps.length : Int) - 1 := IntWalk.i64_in _ (by omega)
      clear cl hp0 e2
      go_wp2_with fail
      go_at_call 15
      refine (cb.out _ L3.out.2).mono ?_
      rintro e w5 ⟨z2, rfl, ho, hx⟩
      have L4 := hid (L3.out.1.trans hx)
      clear hx ho L3 cb
      go_wp2_with fail
      go_meet
      exact L4.out
  case rest =>
    go_step
    exact hn.out _ _ hcut rfl rfl rfl
end Go.Proofs.YtnngklclehffhaaDoor
