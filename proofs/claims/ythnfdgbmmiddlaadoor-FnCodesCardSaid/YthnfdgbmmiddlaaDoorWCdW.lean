/- FnCodes: the walk. -/
import Derived.Test.YthnfdgbmmiddlaaDoorWCdL
import Derived.Test.YthnfdgbmmiddlaaDoorWLawR
import Derived.Test.YthnfdgbmmiddlaaDoorWCurR
import Derived.Test.YthnfdgbmmiddlaaDoorWTail
import Derived.Deep.DeepCutAuto
namespace Go.Proofs.YthnfdgbmmiddlaaDoor
open Go.RowKit
set_option maxHeartbeats 4000000
set_option maxRecDepth 100000
theorem frame237 (a : Act) (v : Value) (h1 : a.defers = []) (h2 : a.tmps.size = 237) (h3 : a.tmps.getD 0 undef = v) : ∃ u : Nat → Value, a = ⟨#[v, u 1, u 2, u 3, u 4, u 5, u 6, u 7, u 8, u 9, u 10, u 11, u 12, u 13, u 14, u 15, u 16, u 17, u 18, u 19, u 20, u 21, u 22, u 23, u 24, u 25, u 26, u 27, u 28, u 29, u 30, u 31, u 32, u 33, u 34, u 35, u 36, u 37, u 38, u 39, u 40, u 41, u 42, u 43, u 44, u 45, u 46, u 47, u 48, u 49, u 50, u 51, u 52, u 53, u 54, u 55, u 56, u 57, u 58, u 59, u 60, u 61, u 62, u 63, u 64, u 65, u 66, u 67, u 68, u 69, u 70, u 71, u 72, u 73, u 74, u 75, u 76, u 77, u 78, u 79, u 80, u 81, u 82, u 83, u 84, u 85, u 86, u 87, u 88, u 89, u 90, u 91, u 92, u 93, u 94, u 95, u 96, u 97, u 98, u 99, u 100, u 101, u 102, u 103, u 104, u 105, u 106, u 107, u 108, u 109, u 110, u 111, u 112, u 113, u 114, u 115, u 116, u 117, u 118, u 119, u 120, u 121, u 122, u 123, u 124, u 125, u 126, u 127, u 128, u 129, u 130, u 131, u 132, u 133, u 134, u 135, u 136, u 137, u 138, u 139, u 140, u 141, u 142, u 143, u 144, u 145, u 146, u 147, u 148, u 149, u 150, u 151, u 152, u 153, u 154, u 155, u 156, u 157, u 158, u 159, u 160, u 161, u 162, u 163, u 164, u 165, u 166, u 167, u 168, u 169, u 170, u 171, u 172, u 173, u 174, u 175, u 176, u 177, u 178, u 179, u 180, u 181, u 182, u 183, u 184, u 185, u 186, u 187, u 188, u 189, u 190, u 191, u 192, u 193, u 194, u 195, u 196, u 197, u 198, u 199, u 200, u 201, u 202, u 203, u 204, u 205, u 206, u 207, u 208, u 209, u 210, u 211, u 212, u 213, u 214, u 215, u 216, u 217, u 218, u 219, u 220, u 221, u 222, u 223, u 224, u 225, u 226, u 227, u 228, u 229, u 230, u 231, u 232, u 233, u 234, u 235, u 236], []⟩ :=
  ⟨fun i => a.tmps.getD i undef, frame_arg a 236 h1 h2 v h3⟩
theorem rd_form {w : World} {k n : Nat} {v : Value} {cs : List Value} (h : Rd w k v n cs) : ∃ p c, v = .slice p n c := by
  obtain ⟨-, p, c, e, -⟩ := h
  exact ⟨p, c, e⟩
def CdPost (w : World) : Exit → Act → World → Prop := bodyPost Tryd.prog Tryd.f3 (fun e w' => e = .returned (.bool true) ∧ Ext w w')
noncomputable def cdTl (n : Nat) : Code := (Tryd.f3.body.getD .skip).tailAt n
def CdTail (n : Nat) (p : Option Addr) (m cap : Nat) (w : World) : Prop := ∀ (a : Act) (wc : World), Ext w wc → a.defers = [] → a.tmps.size = 237 → a.tmps.getD 0 undef = .slice p m cap → Code.wp Tryd.prog (cdTl n) (CdPost w) a wc
-- part 5
theorem codes_p5 {bs : List Int} (hb : Bts bs) {p : Option Addr} {cap : Nat} {w : World} (Hr : Hid (Rd w 1 (.slice p bs.length cap) bs.length (vBytes bs))) : CdTail 27 p bs.length cap w := by
  intro a wc hx h1 h2 h3
  obtain ⟨u, rfl⟩ := frame237 a _ h1 h2 h3
  clear h1 h2 h3
  have HY := hid hx
  clear hx
  have dd := hid (fun w h => spec_DrawChangeItem hb (v := .slice p bs.length cap) w h)
  clear hb
  unfold cdTl CdPost
  conv => arg 2; whnf
  go_wp2_with fail
  go_at_call 19
  refine (dd.out _ (Hr.out.ext HY.out)).mono ?_
  rintro e w1 ⟨y, P, a, b, rfl, ⟨hP, ha, hb⟩, hy, hx⟩
  obtain ⟨yp, yc, rfl⟩ := rd_form hy
  have L0 := hid (And.intro (HY.out.trans hx) hy)
  clear hx hy HY dd
  obtain ⟨Q, hQ⟩ : ∃ Q, changeL P a b = Q := ⟨_, rfl⟩
  obtain ⟨ok, hok⟩ : ∃ o, changeB P a b = o := ⟨_, rfl⟩
  have hql : Q.length ≤ 8 := by rw [← hQ]; exact changeL_len P a b
  have ci := hid (fun W h => impl_ChangeItem P (.slice yp P.length yc) a b W h (by omega) (by omega) (by omega))
  have cs := hid (fun W h => spec_ChangeItem P (.slice yp P.length yc) a b W h (by omega) (by omega) (by omega))
  have cb := hid (fun z W h => impl_ChangeItem Q z b a W h (by omega) (by omega) (by omega))
  have cv := hid (fun z z' W h h' => laws_vInts Q z z' W h h' (by omega))
  have cw := hid (fun z z' W h h' => laws_vInts P z z' W h h' (by omega))
  rw [hQ, hok] at ci cs
  have cl : Hid (ok = true → changeB Q b a = true ∧ changeL Q b a = P) := fun h => by
    have := change_back (hok.trans h)
    rwa [hQ] at this
  clear hQ hok
  go_wp2_with fail
  go_at_call 20
  refine (ci.out _ L0.out.2).mono ?_
  rintro e w2 ⟨z, rfl, ho, hx⟩
  obtain ⟨zp, zc, rfl⟩ := own_shape ho
  have L1 := hid (And.intro (L0.out.1.trans hx) (And.intro (L0.out.2.ext hx) (Rd.own ho)))
  clear hx ho L0
  go_wp2_with fail
  go_at_call 21
  refine (cs.out _ L1.out.2.1).mono ?_
  rintro e w3 ⟨x, rfl, ho, hx⟩
  obtain ⟨xp, xc, rfl⟩ := own_shape ho
  have L2 := hid (And.intro (L1.out.1.trans hx) (And.intro (L1.out.2.1.ext hx) (And.intro (L1.out.2.2.ext hx) (Rd.own ho))))
  clear hx ho L1 ci cs
  go_wp2_with fail
  go_at_call 10
  refine (cv.out _ _ _ L2.out.2.2.1 L2.out.2.2.2).mono ?_
  rintro e w4 ⟨rfl, hx⟩
  have L3 := hid (And.intro (L2.out.1.trans hx) (And.intro (L2.out.2.1.ext hx) (L2.out.2.2.1.ext hx)))
  clear hx L2 cv
  cases ok
  · clear cb cw cl
    go_wp2
    go_ret
    exact ⟨rfl, L3.out.1⟩
  · obtain ⟨e1, e2⟩ := cl.out rfl
    rw [e1, e2] at cb
    clear cl e1 e2
    go_wp2_with fail
    go_at_call 20
    refine (cb.out _ _ L3.out.2.2).mono ?_
    rintro e w5 ⟨z2, rfl, ho, hx⟩
    obtain ⟨z2p, z2c, rfl⟩ := own_shape ho
    have L4 := hid (And.intro (L3.out.1.trans hx) (And.intro (L3.out.2.1.ext hx) (Rd.own ho)))
    clear hx ho L3 cb
    go_wp2_with fail
    go_at_call 10
    refine (cw.out _ _ _ L4.out.2.2 L4.out.2.1).mono ?_
    rintro e w6 ⟨rfl, hx⟩
    have L5 := hid (L4.out.1.trans hx)
    clear hx L4 cw
    go_wp2
    go_ret
    exact ⟨rfl, L5.out⟩
-- part 4
theorem codes_p4 {bs : List Int} (hb : Bts bs) {p : Option Addr} {cap : Nat} {w : World} (Hr : Hid (Rd w 1 (.slice p bs.length cap) bs.length (vBytes bs))) (hn : Hid (CdTail 27 p bs.length cap w)) : CdTail 21 p bs.length cap w := by
  intro a wc hx h1 h2 h3
  obtain ⟨u, rfl⟩ := frame237 a _ h1 h2 h3
  clear h1 h2 h3
  have HY := hid hx
  clear hx
  have dd := hid (fun w h => spec_DrawParseParity hb (v := .slice p bs.length cap) w h)
  clear hb
  unfold cdTl CdPost
  conv => arg 2; whnf
  go_wp2_with fail
  go_at_call 17
  refine (dd.out _ (Hr.out.ext HY.out)).mono ?_
  rintro e w1 ⟨t, rfl, ht, hx⟩
  have L0 := hid (HY.out.trans hx)
  clear hx HY dd
  obtain ⟨Q, hQ⟩ : ∃ Q, parsedP t = Q := ⟨_, rfl⟩
  obtain ⟨ok, hok⟩ : ∃ o, isPar (pnums t) = o := ⟨_, rfl⟩
  have hql : Q.length ≤ 9 := by
    rw [← hQ, parsedP]
    split
    · rename_i h; rw [isPar_len h]; omega
    · simp
  have ci := hid (fun W => impl_ParseParity t W (by omega))
  have cs := hid (fun W => spec_ParseParity t W (by omega))
  rw [hQ, hok] at ci cs
  obtain ⟨T, hT⟩ : ∃ T, parityT Q = T := ⟨_, rfl⟩
  obtain ⟨F, hF⟩ : ∃ F, isPar Q = F := ⟨_, rfl⟩
  have cb := hid (fun z W h => impl_ParityText Q z W h (by omega))
  rw [hT, hF] at cb
  have cv := hid (fun z z' W h h' => laws_vInts Q z z' W h h' (by omega))
  have cl : Hid (ok = true → F = true ∧ T = t) := fun h => by
    have h1 := hok.trans h
    have h2 : Q = pnums t := by rw [← hQ, parsedP_yes h1]
    have h3 : isPar Q = true := by rw [h2]; exact h1
    exact ⟨by rw [← hF, h3], by rw [← hT, parityT, if_pos h3, h2, text_par h1]⟩
  clear hQ hok hT hF
  go_wp2_with fail
  go_at_call 15
  refine (ci.out _).mono ?_
  rintro e w2 ⟨z, rfl, ho, hx⟩
  obtain ⟨zp, zc, rfl⟩ := own_shape ho
  have L1 := hid (And.intro (L0.out.trans hx) (Rd.own ho))
  clear hx ho L0
  go_wp2_with fail
  go_at_call 14
  refine (cb.out _ _ L1.out.2).mono ?_
  rintro e w3 ⟨rfl, hx⟩
  have L2 := hid (And.intro (L1.out.1.trans hx) (L1.out.2.ext hx))
  clear hx L1 cb
  go_wp2_with fail
  go_at_call 18
  refine (cs.out _).mono ?_
  rintro e w4 ⟨x, rfl, ho, hx⟩
  obtain ⟨xp, xc, rfl⟩ := own_shape ho
  have L3 := hid (And.intro (L2.out.1.trans hx) (And.intro (L2.out.2.ext hx) (Rd.own ho)))
  clear hx ho L2 ci cs
  go_upto_region 25 with fail
  go_cut [193] from 3 (fun c wc => c = .bool false ∧ Ext w wc)
  case first =>
    cases ok
    · clear cl
      go_wp2_with fail
      go_at_call 10
      refine (cv.out _ _ _ L3.out.2.1 L3.out.2.2).mono ?_
      rintro e w5 ⟨rfl, hx⟩
      have L4 := hid (L3.out.1.trans hx)
      clear hx L3 cv
      go_wp2_with fail
      go_meet
      exact ⟨rfl, L4.out⟩
    · obtain ⟨rfl, rfl⟩ := cl.out rfl
      clear cl
      go_wp2_with fail
      go_at_call 10
      refine (cv.out _ _ _ L3.out.2.1 L3.out.2.2).mono ?_
      rintro e w5 ⟨rfl, hx⟩
      have L4 := hid (L3.out.1.trans hx)
      clear hx L3 cv
      go_wp2_with fail
      go_meet
      exact ⟨by simp, L4.out⟩
  case rest =>
    clear cl cv L3
    obtain ⟨rfl, hX⟩ := hcut
    have HX := hid hX
    clear hX
    go_upto_if 193 with fail
    go_cut [] from 3 (fun wc => Ext w wc)
    case first =>
      go_wp2_with fail
      go_meet
      exact HX.out
    case rest =>
      go_step
      exact hn.out _ _ hcut rfl rfl rfl
-- part 3
theorem codes_p3 {bs : List Int} (hb : Bts bs) {p : Option Addr} {cap : Nat} {w : World} (Hr : Hid (Rd w 1 (.slice p bs.length cap) bs.length (vBytes bs))) (hn : Hid (CdTail 21 p bs.length cap w)) : CdTail 15 p bs.length cap w := by
  intro a wc hx h1 h2 h3
  obtain ⟨u, rfl⟩ := frame237 a _ h1 h2 h3
  clear h1 h2 h3
  have HY := hid hx
  clear hx
  have dd := hid (fun w h => spec_DrawParityText hb (v := .slice p bs.length cap) w h)
  clear hb
  unfold cdTl CdPost
  conv => arg 2; whnf
  go_wp2_with fail
  go_at_call 13
  refine (dd.out _ (Hr.out.ext HY.out)).mono ?_
  rintro e w1 ⟨y, P, rfl, hP, hy, hx⟩
  obtain ⟨yp, yc, rfl⟩ := rd_form hy
  have L0 := hid (And.intro (HY.out.trans hx) hy)
  clear hx hy HY dd
  obtain ⟨T, hT⟩ : ∃ T, parityT P = T := ⟨_, rfl⟩
  obtain ⟨ok, hok⟩ : ∃ o, isPar P = o := ⟨_, rfl⟩
  have hts : T.size ≤ 9 := by
    rw [← hT, parityT]
    split
    · rename_i h; rw [ptext_size]; exact hP
    · decide
  have ci := hid (fun W h => impl_ParityText P (.slice yp P.length yc) W h (by omega))
  have cs := hid (fun W h => spec_ParityText P (.slice yp P.length yc) W h (by omega))
  rw [hT, hok] at ci cs
  obtain ⟨Q, hQ⟩ : ∃ Q, parsedP T = Q := ⟨_, rfl⟩
  obtain ⟨F, hF⟩ : ∃ F, isPar (pnums T) = F := ⟨_, rfl⟩
  have cb := hid (fun W => impl_ParseParity T W (by omega))
  rw [hQ, hF] at cb
  have cl : Hid (ok = true → F = true ∧ Q = P) := fun h => by
    have h1 := hok.trans h
    have h2 : T = ptext P := by rw [← hT, parityT, if_pos h1]
    obtain ⟨h3, h4⟩ := par_text h1
    exact ⟨by rw [← hF, h2, h3], by rw [← hQ, h2, parsedP_yes h3, h4]⟩
  have cw := hid (fun z z' W h h' => laws_vInts P z z' W h h' (by omega))
  clear hQ hok hT hF
  go_wp2_with fail
  go_at_call 14
  refine (ci.out _ L0.out.2).mono ?_
  rintro e w2 ⟨rfl, hx⟩
  have L1 := hid (And.intro (L0.out.1.trans hx) (L0.out.2.ext hx))
  clear hx L0
  go_wp2_with fail
  go_at_call 15
  refine (cb.out _).mono ?_
  rintro e w3 ⟨z, rfl, ho, hx⟩
  obtain ⟨zp, zc, rfl⟩ := own_shape ho
  have L2 := hid (And.intro (L1.out.1.trans hx) (And.intro (L1.out.2.ext hx) (Rd.own ho)))
  clear hx ho L1 cb
  go_wp2_with fail
  go_at_call 16
  refine (cs.out _ L2.out.2.1).mono ?_
  rintro e w4 ⟨rfl, hx⟩
  have L3 := hid (And.intro (L2.out.1.trans hx) (And.intro (L2.out.2.1.ext hx) (L2.out.2.2.ext hx)))
  clear hx L2 ci cs
  go_upto_region 19 with fail
  go_cut [155] from 3 (fun c wc => c = .bool false ∧ Ext w wc)
  case first =>
    cases ok
    · clear cl
      go_wp2_with fail
      go_meet
      exact ⟨by simp, L3.out.1⟩
    · obtain ⟨rfl, rfl⟩ := cl.out rfl
      clear cl
      go_wp2_with fail
      go_at_call 10
      refine (cw.out _ _ _ L3.out.2.2 L3.out.2.1).mono ?_
      rintro e w5 ⟨rfl, hx⟩
      have L4 := hid (L3.out.1.trans hx)
      clear hx L3 cw
      go_wp2_with fail
      go_meet
      exact ⟨by simp, L4.out⟩
  case rest =>
    clear cl cw L3
    obtain ⟨rfl, hX⟩ := hcut
    have HX := hid hX
    clear hX
    go_upto_if 155 with fail
    go_cut [] from 3 (fun wc => Ext w wc)
    case first =>
      go_wp2_with fail
      go_meet
      exact HX.out
    case rest =>
      go_step
      exact hn.out _ _ hcut rfl rfl rfl
-- part 2
theorem codes_p2 {bs : List Int} (hb : Bts bs) {p : Option Addr} {cap : Nat} {w : World} (Hr : Hid (Rd w 1 (.slice p bs.length cap) bs.length (vBytes bs))) (hn : Hid (CdTail 15 p bs.length cap w)) : CdTail 9 p bs.length cap w := by
  intro a wc hx h1 h2 h3
  obtain ⟨u, rfl⟩ := frame237 a _ h1 h2 h3
  clear h1 h2 h3
  have HY := hid hx
  clear hx
  have dd := hid (fun w h => spec_DrawItemOf hb (v := .slice p bs.length cap) w h)
  clear hb
  unfold cdTl CdPost
  conv => arg 2; whnf
  go_wp2_with fail
  go_at_call 11
  refine (dd.out _ (Hr.out.ext HY.out)).mono ?_
  rintro e w1 ⟨y, P, rfl, hP, hy, hx⟩
  obtain ⟨yp, yc, rfl⟩ := rd_form hy
  have L0 := hid (And.intro (HY.out.trans hx) hy)
  clear hx hy HY dd
  obtain ⟨T, hT⟩ : ∃ T, ofT P = T := ⟨_, rfl⟩
  obtain ⟨ok, hok⟩ : ∃ o, ofB P = o := ⟨_, rfl⟩
  have hts : T.size ≤ 9 := by
    rw [← hT, ofT]
    split
    · rename_i h; rw [ptext_size, List.length_take]; omega
    · decide
  have ci := hid (fun W h => impl_ItemOf P (.slice yp P.length yc) W h (by omega))
  have cs := hid (fun W h => spec_ItemOf P (.slice yp P.length yc) W h (by omega))
  rw [hT, hok] at ci cs
  obtain ⟨F, hF⟩ : ∃ F, itm 8 T = F := ⟨_, rfl⟩
  obtain ⟨Q, hQ⟩ : ∃ Q, (if itm 8 T then lc T else []) = Q := ⟨_, rfl⟩
  have cb := hid (fun W => impl_ItemCode T W (by omega))
  rw [hQ, hF] at cb
  have cl : Hid (ok = true → F = true ∧ Q = P) := fun h => by
    obtain ⟨h3, h4⟩ := of_lc (hok.trans h)
    rw [hT] at h3 h4
    exact ⟨by rw [← hF, h3], by rw [← hQ, if_pos h3, h4]⟩
  have cw := hid (fun z z' W h h' => laws_vInts P z z' W h h' (by omega))
  clear hQ hok hT hF
  go_wp2_with fail
  go_at_call 8
  refine (ci.out _ L0.out.2).mono ?_
  rintro e w2 ⟨rfl, hx⟩
  have L1 := hid (And.intro (L0.out.1.trans hx) (L0.out.2.ext hx))
  clear hx L0
  go_wp2_with fail
  go_at_call 7
  refine (cb.out _).mono ?_
  rintro e w3 ⟨z, rfl, ho, hx⟩
  obtain ⟨zp, zc, rfl⟩ := own_shape ho
  have L2 := hid (And.intro (L1.out.1.trans hx) (And.intro (L1.out.2.ext hx) (Rd.own ho)))
  clear hx ho L1 cb
  go_wp2_with fail
  go_at_call 12
  refine (cs.out _ L2.out.2.1).mono ?_
  rintro e w4 ⟨rfl, hx⟩
  have L3 := hid (And.intro (L2.out.1.trans hx) (And.intro (L2.out.2.1.ext hx) (L2.out.2.2.ext hx)))
  clear hx L2 ci cs
  go_upto_region 13 with fail
  go_cut [117] from 3 (fun c wc => c = .bool false ∧ Ext w wc)
  case first =>
    cases ok
    · clear cl
      go_wp2_with fail
      go_meet
      exact ⟨by simp, L3.out.1⟩
    · obtain ⟨rfl, rfl⟩ := cl.out rfl
      clear cl
      go_wp2_with fail
      go_at_call 10
      refine (cw.out _ _ _ L3.out.2.2 L3.out.2.1).mono ?_
      rintro e w5 ⟨rfl, hx⟩
      have L4 := hid (L3.out.1.trans hx)
      clear hx L3 cw
      go_wp2_with fail
      go_meet
      exact ⟨by simp, L4.out⟩
  case rest =>
    clear cl cw L3
    obtain ⟨rfl, hX⟩ := hcut
    have HX := hid hX
    clear hX
    go_upto_if 117 with fail
    go_cut [] from 3 (fun wc => Ext w wc)
    case first =>
      go_wp2_with fail
      go_meet
      exact HX.out
    case rest =>
      go_step
      exact hn.out _ _ hcut rfl rfl rfl
-- part 1
theorem codes_law (bs : List Int) (v : Value) (w : World) (h : Rd w 1 v bs.length (vBytes bs)) (hm : bs.length ≤ maxLen) (hbb : ∀ x ∈ bs, 0 ≤ x ∧ x ≤ 255) :
    Calls Tryd.prog 3 #[v] w fun e w' => e = .returned (.bool true) ∧ Ext w w' := by
  have Hr := hid h
  unfold maxLen at hm
  obtain ⟨-, p, cap, rfl, -⟩ := h
  by_cases h2 : 65536 < bs.length
  · have t0 : (65536 : Int) < (bs.length : Int) := by omega
    go_enter Tryd.func3, Tryd.ntmps3
    go_wp2
    go_ret
    exact ⟨rfl, (by repeat' (first | exact Ext.refl _ | assumption | refine Ext.alloc ?_ _ | refine Ext.ext ?_ _ | refine Ext.drew ?_ | refine Ext.drewN ?_ _))⟩
  have hb : Bts bs := ⟨by omega, hbb⟩
  have dd := hid (fun w h => spec_DrawItemCode hb (v := .slice p bs.length cap) w h)
  have hn : Hid (CdTail 9 p bs.length cap w) := codes_p2 hb Hr (codes_p3 hb Hr (codes_p4 hb Hr (codes_p5 hb Hr)))
  clear hb hbb
  go_enter Tryd.func3, Tryd.ntmps3
  go_wp2_with fail
  go_at_call 5
  refine (laws_vBig bs.length p cap _).mono ?_
  rintro e w' ⟨rfl, rfl⟩
  have t1 : decide ((65536 : Int) < (bs.length : Int)) = false := by simp; omega
  go_wp2_with fail
  go_at_call 6
  refine (dd.out _ Hr.out).mono ?_
  rintro e w1 ⟨s, rfl, hs, hx⟩
  have L0 := hid hx
  clear hx dd t1
  obtain ⟨ok, hok⟩ : ∃ o, itm 8 s = o := ⟨_, rfl⟩
  obtain ⟨Q, hQ⟩ : ∃ Q, (if itm 8 s then lc s else []) = Q := ⟨_, rfl⟩
  have hql : Q.length ≤ 8 := by
    rw [← hQ]
    split
    · rw [lc_len]; omega
    · simp
  have ci := hid (fun W => impl_ItemCode s W (by omega))
  have cs := hid (fun W => spec_ItemCode s W (by omega))
  rw [hQ, hok] at ci cs
  obtain ⟨T, hT⟩ : ∃ T, ofT Q = T := ⟨_, rfl⟩
  obtain ⟨F, hF⟩ : ∃ o, ofB Q = o := ⟨_, rfl⟩
  have cb := hid (fun z W h => impl_ItemOf Q z W h (by omega))
  rw [hT, hF] at cb
  have cl : Hid (ok = true → F = true ∧ T = s) := fun h => by
    have h1 := hok.trans h
    obtain ⟨h3, h4⟩ := lc_of h1
    have h2 : Q = lc s := by rw [← hQ, if_pos h1]
    exact ⟨by rw [← hF, h2, h3], by rw [← hT, h2, h4]⟩
  have cw := hid (fun z z' W h h' => laws_vInts Q z z' W h h' (by omega))
  clear hQ hok hT hF
  go_wp2_with fail
  go_at_call 7
  refine (ci.out _).mono ?_
  rintro e w2 ⟨z, rfl, ho, hx⟩
  obtain ⟨zp, zc, rfl⟩ := own_shape ho
  have L1 := hid (And.intro (L0.out.trans hx) (Rd.own ho))
  clear hx ho L0
  go_wp2_with fail
  go_at_call 8
  refine (cb.out _ _ L1.out.2).mono ?_
  rintro e w3 ⟨rfl, hx⟩
  have L2 := hid (And.intro (L1.out.1.trans hx) (L1.out.2.ext hx))
  clear hx L1 cb
  go_wp2_with fail
  go_at_call 9
  refine (cs.out _).mono ?_
  rintro e w4 ⟨x, rfl, ho, hx⟩
  obtain ⟨xp, xc, rfl⟩ := own_shape ho
  have L3 := hid (And.intro (L2.out.1.trans hx) (And.intro (L2.out.2.ext hx) (Rd.own ho)))
  clear hx ho L2 ci cs
  go_upto_region 7 with fail
  go_cut [79] from 3 (fun c wc => c = .bool false ∧ Ext w wc)
  case first =>
    cases ok
    · clear cl
      go_wp2_with fail
      go_at_call 10
      refine (cw.out _ _ _ L3.out.2.1 L3.out.2.2).mono ?_
      rintro e w5 ⟨rfl, hx⟩
      have L4 := hid (L3.out.1.trans hx)
      clear hx L3 cw
      go_wp2_with fail
      go_meet
      exact ⟨rfl, L4.out⟩
    · obtain ⟨rfl, rfl⟩ := cl.out rfl
      clear cl
      go_wp2_with fail
      go_at_call 10
      refine (cw.out _ _ _ L3.out.2.1 L3.out.2.2).mono ?_
      rintro e w5 ⟨rfl, hx⟩
      have L4 := hid (L3.out.1.trans hx)
      clear hx L3 cw
      go_wp2_with fail
      go_meet
      exact ⟨by simp, L4.out⟩
  case rest =>
    clear cl cw L3
    obtain ⟨rfl, hX⟩ := hcut
    have HX := hid hX
    clear hX
    go_upto_if 79 with fail
    go_cut [] from 3 (fun wc => Ext w wc)
    case first =>
      go_wp2_with fail
      go_meet
      exact HX.out
    case rest =>
      go_step
      exact hn.out _ _ hcut rfl rfl rfl
end Go.Proofs.YthnfdgbmmiddlaaDoor
