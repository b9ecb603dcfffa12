/- FnGroups: the walk. -/
import Derived.Test.YtmblofcaiaeiaaaGreatDoorKWGrL
import Derived.Test.YtmblofcaiaeiaaaGreatDoorKWGrM
import Derived.Test.YtmblofcaiaeiaaaGreatDoorKWGof
import Derived.Test.YtmblofcaiaeiaaaGreatDoorJ39
import Derived.Test.YtmblofcaiaeiaaaGreatDoorKWCurJ
import Derived.Test.YtmblofcaiaeiaaaGreatDoorKWJn
import Derived.Test.YtmblofcaiaeiaaaGreatDoorJ47
import Derived.Test.YtmblofcaiaeiaaaGreatDoorKWLv
import Derived.Test.YtmblofcaiaeiaaaGreatDoorKWLv2
import Derived.Test.YtmblofcaiaeiaaaGreatDoorKWMg
import Derived.Test.YtmblofcaiaeiaaaGreatDoorKWMg2
import Derived.Test.YtmblofcaiaeiaaaGreatDoorKWShm
import Derived.Deep.DeepCutAuto
namespace Go.Proofs.YtmblofcaiaeiaaaGreatDoor
open Go.RowKit
set_option maxHeartbeats 4000000
set_option maxRecDepth 100000
theorem frame298 (a : Act) (v : Value) (h1 : a.defers = []) (h2 : a.tmps.size = 298) (h3 : a.tmps.getD 0 undef = v) : ∃ u : Nat → Value, a = ⟨#[v, u 1, u 2, u 3, u 4, u 5, u 6, u 7, u 8, u 9, u 10, u 11, u 12, u 13, u 14, u 15, u 16, u 17, u 18, u 19, u 20, u 21, u 22, u 23, u 24, u 25, u 26, u 27, u 28, u 29, u 30, u 31, u 32, u 33, u 34, u 35, u 36, u 37, u 38, u 39, u 40, u 41, u 42, u 43, u 44, u 45, u 46, u 47, u 48, u 49, u 50, u 51, u 52, u 53, u 54, u 55, u 56, u 57, u 58, u 59, u 60, u 61, u 62, u 63, u 64, u 65, u 66, u 67, u 68, u 69, u 70, u 71, u 72, u 73, u 74, u 75, u 76, u 77, u 78, u 79, u 80, u 81, u 82, u 83, u 84, u 85, u 86, u 87, u 88, u 89, u 90, u 91, u 92, u 93, u 94, u 95, u 96, u 97, u 98, u 99, u 100, u 101, u 102, u 103, u 104, u 105, u 106, u 107, u 108, u 109, u 110, u 111, u 112, u 113, u 114, u 115, u 116, u 117, u 118, u 119, u 120, u 121, u 122, u 123, u 124, u 125, u 126, u 127, u 128, u 129, u 130, u 131, u 132, u 133, u 134, u 135, u 136, u 137, u 138, u 139, u 140, u 141, u 142, u 143, u 144, u 145, u 146, u 147, u 148, u 149, u 150, u 151, u 152, u 153, u 154, u 155, u 156, u 157, u 158, u 159, u 160, u 161, u 162, u 163, u 164, u 165, u 166, u 167, u 168, u 169, u 170, u 171, u 172, u 173, u 174, u 175, u 176, u 177, u 178, u 179, u 180, u 181, u 182, u 183, u 184, u 185, u 186, u 187, u 188, u 189, u 190, u 191, u 192, u 193, u 194, u 195, u 196, u 197, u 198, u 199, u 200, u 201, u 202, u 203, u 204, u 205, u 206, u 207, u 208, u 209, u 210, u 211, u 212, u 213, u 214, u 215, u 216, u 217, u 218, u 219, u 220, u 221, u 222, u 223, u 224, u 225, u 226, u 227, u 228, u 229, u 230, u 231, u 232, u 233, u 234, u 235, u 236, u 237, u 238, u 239, u 240, u 241, u 242, u 243, u 244, u 245, u 246, u 247, u 248, u 249, u 250, u 251, u 252, u 253, u 254, u 255, u 256, u 257, u 258, u 259, u 260, u 261, u 262, u 263, u 264, u 265, u 266, u 267, u 268, u 269, u 270, u 271, u 272, u 273, u 274, u 275, u 276, u 277, u 278, u 279, u 280, u 281, u 282, u 283, u 284, u 285, u 286, u 287, u 288, u 289, u 290, u 291, u 292, u 293, u 294, u 295, u 296, u 297], []⟩ :=
  ⟨fun i => a.tmps.getD i undef, frame_arg a 297 h1 h2 v h3⟩
theorem good_sm {gs : List Grp} (h : goodG gs = true) : SmG gs := by
  intro g hg
  obtain ⟨i, hi, rfl⟩ := List.mem_iff_getElem.1 hg
  have h1 := gnm_size (okG_all (goodG_ok h i hi)).1
  have h2 := (goodG_mem h i hi).2.2.1
  rw [List.getD_eq_getElem?_getD, List.getElem?_eq_getElem hi] at h1 h2
  simp only [Option.getD_some] at h1 h2
  omega
theorem sm_le {gs : List Grp} (h : SmG gs) (i : Nat) (hi : i < gs.length) : (gs.getD i .z).xs.length ≤ 1048576 := by have := (h.at i hi).2; omega
theorem small_le {gs : List Grp} (h : small gs) (i : Nat) (hi : i < gs.length) : (gs.getD i .z).xs.length ≤ 1048576 := by have := h.2 i hi; omega
theorem grd_form {w : World} {v : Value} {gs : List Grp} {cs : List Gc} (h : GRd w v gs cs) : ∃ p c, v = .slice p gs.length c := by
  obtain ⟨p, c, e, -⟩ := h.form
  exact ⟨p, c, e⟩
theorem gow_form {w : World} {lo hi : Nat} {v : Value} {gs : List Grp} {cs : List Gc} (h : GOw w lo hi v gs cs) (hn : 0 < gs.length) : ∃ g c, v = .slice (some ⟨g, 0, none⟩) gs.length c := by
  obtain ⟨g, c, e, -, -⟩ := h.2.1.form hn
  exact ⟨g, c, e⟩
theorem rd_shape {w : World} {k n : Nat} {v : Value} {cs : List Value} (h : Rd w k v n cs) : ∃ p c, v = .slice p n c := by
  obtain ⟨-, p, c, e, -⟩ := h
  exact ⟨p, c, e⟩
def GrPost (w : World) : Exit → Act → World → Prop := bodyPost Tryz.prog Tryz.f3 (fun e w' => e = .returned (.bool true) ∧ Ext w w')
noncomputable def grTl (n : Nat) : Code := (Tryz.f3.body.getD .skip).tailAt n
def GrTail (n : Nat) (p : Option Addr) (m cap : Nat) (w : World) : Prop := ∀ (a : Act) (wc : World), Ext w wc → a.defers = [] → a.tmps.size = 298 → a.tmps.getD 0 undef = .slice p m cap → Code.wp Tryz.prog (grTl n) (GrPost w) a wc
-- part 4
theorem groups_p4 {bs : List Int} (hb : Bts bs) {p : Option Addr} {cap : Nat} {w : World} (Hr : Hid (Rd w 1 (.slice p bs.length cap) bs.length (vBytes bs))) : GrTail 42 p bs.length cap w := by
  intro a wc hx h1 h2 h3
  obtain ⟨u, rfl⟩ := frame298 a _ h1 h2 h3
  clear h1 h2 h3
  have HY := hid hx
  clear hx
  have dd := hid (fun w h => spec_DrawGroupsOf hb (v := .slice p bs.length cap) w h)
  clear hb
  unfold grTl GrPost
  conv => arg 2; whnf
  go_wp2_with fail
  go_at_call 20
  refine (dd.out _ (Hr.out.ext HY.out)).mono ?_
  rintro e w1 ⟨q, c, gs, ds, x, rfl, ⟨hn, hsm⟩, hg1, hx⟩
  have L0 := hid (And.intro (HY.out.trans hx) hg1)
  clear hx hg1 HY dd
  have hsum := hsm.sum hn
  obtain ⟨K, hK⟩ : ∃ K, gof gs x = K := ⟨_, rfl⟩
  obtain ⟨ok, hok⟩ : ∃ o, gofB gs x = o := ⟨_, rfl⟩
  have hkl : K.length ≤ 10 := by
    rw [← hK, gof]
    split
    · have := gofTo_len gs x gs.length; omega
    · simp
  have ci := hid (fun W h => impl_GroupsOf gs ds (.slice (some ⟨q, 0, none⟩) gs.length c) x W h (by omega) (by omega))
  have cs := hid (fun W h => spec_GroupsOf gs ds (.slice (some ⟨q, 0, none⟩) gs.length c) x W h (by omega) (by omega))
  rw [hK, hok] at ci cs
  have cv := hid (fun z z' W h h' => laws_rTexts K z z' W h h' (by omega))
  clear hK hok hsm
  go_wp2_with fail
  go_at_call 10
  refine (ci.out _ L0.out.2).mono ?_
  rintro e w2 ⟨y, rfl, ho, hx⟩
  obtain ⟨yp, yc, rfl⟩ := own_shape ho
  have L1 := hid (And.intro (L0.out.1.trans hx) (And.intro (L0.out.2.ext hx) (Rd.own ho)))
  clear hx ho L0 ci
  go_wp2_with fail
  go_at_call 21
  refine (cs.out _ L1.out.2.1).mono ?_
  rintro e w3 ⟨z, rfl, ho, hx⟩
  obtain ⟨zp, zc, rfl⟩ := own_shape ho
  have L2 := hid (And.intro (L1.out.1.trans hx) (And.intro (L1.out.2.2.ext hx) (Rd.own ho)))
  clear hx ho L1 cs
  go_wp2_with fail
  go_at_call 22
  refine (cv.out _ _ _ L2.out.2.1 L2.out.2.2).mono ?_
  rintro e w4 ⟨rfl, hx⟩
  have L3 := hid (L2.out.1.trans hx)
  clear hx L2 cv
  go_wp2
  go_ret
  exact ⟨rfl, L3.out⟩
-- part 2
theorem groups_p2 {bs : List Int} (hb : Bts bs) {p : Option Addr} {cap : Nat} {w : World} (Hr : Hid (Rd w 1 (.slice p bs.length cap) bs.length (vBytes bs))) (hn : Hid (GrTail 19 p bs.length cap w)) : GrTail 14 p bs.length cap w := by
  intro a wc hx h1 h2 h3
  obtain ⟨u, rfl⟩ := frame298 a _ h1 h2 h3
  clear h1 h2 h3
  have HY := hid hx
  clear hx
  have dd := hid (fun w h => spec_DrawLeaveGroup hb (v := .slice p bs.length cap) w h)
  clear hb
  unfold grTl GrPost
  conv => arg 2; whnf
  go_wp2_with fail
  go_at_call 12
  refine (dd.out _ (Hr.out.ext HY.out)).mono ?_
  rintro e w1 ⟨q, c, gs, ds, name, x, rfl, ⟨hnl, hsm, hns⟩, hg1, hx⟩
  have L0 := hid (And.intro (HY.out.trans hx) hg1)
  clear hx hg1 HY dd
  have hsum := hsm.sum hnl
  have hjs := lvI_small gs name x
  have ci := hid (fun W h => impl_LeaveGroup gs ds q (qc := c) name x W h (by omega) (by omega))
  have cs := hid (fun W h => spec_LeaveGroup gs ds (.slice (some ⟨q, 0, none⟩) gs.length c) name x W h (by omega) (by omega))
  generalize lvI gs name x = J at *
  generalize lvB gs name x = ok at *
  have cv := hid (fun z z' d d' W h h' => laws_rGroups J d d' z z' W h h' (by have := hjs.1; omega) (small_le hjs))
  clear hsm hjs
  go_wp2_with fail
  go_at_call 9
  refine (ci.out _ L0.out.2).mono ?_
  rintro e w2 ⟨y, dy, rfl, ho, hx⟩
  obtain ⟨yp, yc, rfl⟩ := grd_form ho.rd
  have L1 := hid (And.intro (L0.out.1.trans hx) (And.intro (L0.out.2.ext hx) ho.rd))
  clear hx ho L0 ci
  go_wp2_with fail
  go_at_call 13
  refine (cs.out _ L1.out.2.1).mono ?_
  rintro e w3 ⟨z, dz, rfl, ho, hx⟩
  obtain ⟨zp, zc, rfl⟩ := grd_form ho
  have L2 := hid (And.intro (L1.out.1.trans hx) (And.intro (L1.out.2.2.ext hx) ho))
  clear hx ho L1 cs
  go_wp2_with fail
  go_at_call 8
  refine (cv.out _ _ _ _ _ L2.out.2.1 L2.out.2.2).mono ?_
  rintro e w4 ⟨rfl, hx⟩
  have HX := hid (L2.out.1.trans hx)
  clear hx L2 cv
  go_upto_if 152 with fail
  go_cut [] from 3 (fun wc => Ext w wc)
  case first =>
    go_wp2_with fail
    go_meet
    exact HX.out
  case rest =>
    go_step
    exact hn.out _ _ hcut rfl rfl rfl
-- part 3
theorem te_yes {s a : ByteArray} (h : s = a) : (s.toList == a.toList) = true := by rw [h]; simp
theorem te_no {s a : ByteArray} (h : ¬ s = a) : (s.toList == a.toList) = false := by
  rw [beq_eq_false_iff_ne]; intro e; rw [ByteArray.toList_eq, ByteArray.toList_eq] at e; exact h (toList_inj e)
theorem szTo_le {gs : List Grp} {a : ByteArray} (h : ∀ i, i < gs.length → (gs.getD i .z).xs.length ≤ 21) : ∀ k, k ≤ gs.length → szTo gs a k ≤ 21
  | 0, _ => by simp [szTo]
  | k + 1, hk => by
    have ih := szTo_le h k (by omega) (a := a)
    have := h k (by omega)
    rw [szTo]
    split <;> omega
theorem groups_p3 {bs : List Int} (hb : Bts bs) {p : Option Addr} {cap : Nat} {w : World} (Hr : Hid (Rd w 1 (.slice p bs.length cap) bs.length (vBytes bs))) (hn : Hid (GrTail 42 p bs.length cap w)) : GrTail 19 p bs.length cap w := by
  intro a wc hx h1 h2 h3
  obtain ⟨u, rfl⟩ := frame298 a _ h1 h2 h3
  clear h1 h2 h3
  have HY := hid hx
  clear hx
  have dd := hid (fun w h => spec_DrawMergeGroups hb (v := .slice p bs.length cap) w h)
  clear hb
  unfold grTl GrPost
  conv => arg 2; whnf
  go_wp2_with fail
  go_at_call 14
  refine (dd.out _ (Hr.out.ext HY.out)).mono ?_
  rintro e w1 ⟨q, c, gs, ds, a, b, rfl, ⟨hnl, hsm, hns⟩, hg1, hx⟩
  have L0 := hid (And.intro (HY.out.trans hx) hg1)
  clear hx hg1 HY dd
  have hsum := hsm.sum hnl
  have hjs := mgI_small gs a b
  have ci := hid (fun W h => impl_MergeGroups gs ds q (qc := c) a b W h (by omega) (by omega))
  have cs := hid (fun W h => spec_MergeGroups gs ds (.slice (some ⟨q, 0, none⟩) gs.length c) a b W h (by omega) (by omega))
  have di := hid (fun W h => impl_SharedMembers gs ds (.slice (some ⟨q, 0, none⟩) gs.length c) a b W h (by omega) (by omega))
  have es := hid (fun W h => spec_SharedMembers gs ds (.slice (some ⟨q, 0, none⟩) gs.length c) a b W h (by omega) (by omega))
  have hsl := smL_len gs a b
  have hlaw : mgB gs a b = true → smB gs a b = true ∧ (mgI gs a b).length + 1 = gs.length ∧ szTo (mgI gs a b) a (mgI gs a b).length + (smL gs a b).length = smTo gs a b gs.length := merge_law
  have Hsm := hid (smTo_le (a := a) (b := b) (fun i hi => (hsm.at i hi).2))
  generalize mgI gs a b = J at *
  generalize mgB gs a b = ok at *
  generalize smL gs a b = S at *
  generalize smB gs a b = kn at *
  have Hsz := hid (szTo_le (a := a) (fun i hi => show (J.getD i .z).xs.length ≤ 21 by have := hjs.2 i hi; omega))
  have cv := hid (fun z z' d d' W h h' => laws_rGroups J d d' z z' W h h' (by have := hjs.1; omega) (small_le hjs))
  have cw := hid (fun z z' W h h' => laws_rInts S z z' W h h' (by omega))
  have Hlaw := hid hlaw
  have hJ9 := hjs.1
  clear hsm hjs hlaw
  go_wp2_with fail
  go_at_call 15
  refine (ci.out _ L0.out.2).mono ?_
  rintro e w2 ⟨y, dy, rfl, ho, hx⟩
  obtain ⟨yp, yc, rfl⟩ := grd_form ho.rd
  have L1 := hid (And.intro (L0.out.1.trans hx) (And.intro (L0.out.2.ext hx) ho.rd))
  clear hx ho L0 ci
  go_wp2_with fail
  go_at_call 16
  refine (cs.out _ L1.out.2.1).mono ?_
  rintro e w3 ⟨z, dz, rfl, ho, hx⟩
  obtain ⟨zp, zc, rfl⟩ := grd_form ho
  have L2 := hid (And.intro (L1.out.1.trans hx) (And.intro (And.intro (L1.out.2.1.ext hx) (L1.out.2.2.ext hx)) ho))
  clear hx ho L1 cs
  go_wp2_with fail
  go_at_call 8
  refine (cv.out _ _ _ _ _ L2.out.2.1.2 L2.out.2.2).mono ?_
  rintro e w4 ⟨rfl, hx⟩
  have L3 := hid (And.intro (L2.out.1.trans hx) (And.intro (L2.out.2.1.1.ext hx) (L2.out.2.1.2.ext hx)))
  clear hx L2 cv
  go_wp2_with fail
  go_at_call 17
  refine (di.out _ L3.out.2.1).mono ?_
  rintro e w5 ⟨sv, rfl, ho, hx⟩
  obtain ⟨sp, sc, rfl⟩ := own_shape ho
  have L4 := hid (And.intro (And.intro (L3.out.1.trans hx) (And.intro (L3.out.2.1.ext hx) (L3.out.2.2.ext hx))) (Rd.own ho))
  clear hx ho L3 di
  go_wp2_with fail
  go_at_call 18
  refine (es.out _ L4.out.1.2.1).mono ?_
  rintro e w6 ⟨tv, rfl, ho, hx⟩
  obtain ⟨tp, tc, rfl⟩ := own_shape ho
  have L5 := hid (And.intro (And.intro (L4.out.1.1.trans hx) (And.intro (L4.out.1.2.1.ext hx) (L4.out.1.2.2.ext hx))) (And.intro (L4.out.2.ext hx) (Rd.own ho)))
  clear hx ho L4 es
  go_wp2_with fail
  go_at_call 19
  refine (cw.out _ _ _ L5.out.2.1 L5.out.2.2).mono ?_
  rintro e w7 ⟨rfl, hx⟩
  have L6 := hid (And.intro (L5.out.1.1.trans hx) (And.intro (L5.out.1.2.1.ext hx) (L5.out.1.2.2.ext hx)))
  clear hx L5 cw
  go_upto_if 205 with fail
  go_cut [] from 3 (fun wc => Ext w wc)
  case first =>
    cases ok
    · clear Hlaw
      go_wp2_with fail
      go_meet
      exact L6.out.1
    · obtain ⟨rfl, hJl, hSum⟩ := Hlaw.out rfl
      have tM : (gs.length : Int) - 1 = (J.length : Int) := by omega
      have HT := hid tM
      have HSum := hid (show (szTo J a J.length : Int) + (S.length : Int) = (smTo gs a b gs.length : Int) by omega)
      clear tM hSum hJl Hlaw
      go_wp2_with fail
      go_loopw [36, 34] (fun v36 v34 wr => ∃ k : Nat, k ≤ gs.length ∧ v36 = .int .i64 k ∧ v34 = .int .i64 (smTo gs a b k) ∧ Ext w7 wr) (fun v36 _ _ => gs.length - (intOf v36).toNat)
      case atStart => exact ⟨0, Nat.zero_le _, rfl, rfl, Ext.refl _⟩
      case round =>
        obtain ⟨k, hk, rfl, rfl, hx⟩ := hrel
        have Hx := hid hx
        clear hx
        by_cases hlt : k < gs.length
        · have G1 := L6.out.2.1.ext Hx.out
          obtain ⟨c0, c1⟩ := G1.at k hlt
          rw [Nat.zero_add] at c0 c1
          have hr := (G1.2.2 k hlt).2
          have hst : smTo gs a b (k + 1) = if (gs.getD k .z).s = a ∨ (gs.getD k .z).s = b then smTo gs a b k + (gs.getD k .z).xs.length else smTo gs a b k := rfl
          have hT := Hsm.out k hk
          have hT2 := Hsm.out (k + 1) hlt
          generalize smTo gs a b k = T at *
          obtain ⟨T', hT'⟩ : ∃ T', smTo gs a b (k + 1) = T' := ⟨_, rfl⟩
          rw [hT'] at hst hT2
          have HT' := hid hT'
          clear hT'
          generalize (ds.getD k .z).u = U at *
          generalize gs.getD k .z = G at *
          obtain ⟨s, xs⟩ := G
          dsimp only at c0 c1 hr hst
          obtain ⟨xp, xc, rfl⟩ := rd_shape hr
          have k0 : (0 : Int) ≤ (k : Int) := by omega
          have k1 : (k : Int) < (gs.length : Int) := by omega
          clear G1 hr
          by_cases h1 : s = a
          · have ta := te_yes h1
            rw [if_pos (.inl h1)] at hst
            have Hst := hid hst
            have hxl : xs.length ≤ 400 := by omega
            clear h1 hst hT2
            go_wp2
            go_roundw
            case rel => exact ⟨k + 1, by omega, by go_num, by rw [HT'.out, Hst.out]; go_num, Hx.out.trans (by repeat' (first | exact Ext.refl _ | assumption | refine Ext.alloc ?_ _ | refine Ext.ext ?_ _ | refine Ext.drew ?_ | refine Ext.drewN ?_ _))⟩
            case measure => simp [intOf]; omega
          · by_cases h2 : s = b
            · have ta := te_no h1
              have tb := te_yes h2
              rw [if_pos (.inr h2)] at hst
              have Hst := hid hst
              have hxl : xs.length ≤ 400 := by omega
              clear h1 h2 hst hT2
              go_wp2
              go_roundw
              case rel => exact ⟨k + 1, by omega, by go_num, by rw [HT'.out, Hst.out]; go_num, Hx.out.trans (by repeat' (first | exact Ext.refl _ | assumption | refine Ext.alloc ?_ _ | refine Ext.ext ?_ _ | refine Ext.drew ?_ | refine Ext.drewN ?_ _))⟩
              case measure => simp [intOf]; omega
            · have ta := te_no h1
              have tb := te_no h2
              rw [if_neg (fun h => h.elim h1 h2)] at hst
              have Hst := hid hst
              clear h1 h2 hst hT2
              go_wp2
              go_roundw
              case rel => exact ⟨k + 1, by omega, by go_num, by rw [HT'.out, Hst.out], Hx.out.trans (by repeat' (first | exact Ext.refl _ | assumption | refine Ext.alloc ?_ _ | refine Ext.ext ?_ _ | refine Ext.drew ?_ | refine Ext.drewN ?_ _))⟩
              case measure => simp [intOf]; omega
        · obtain rfl : k = gs.length := by omega
          have hT := Hsm.out gs.length (Nat.le_refl _)
          generalize smTo gs a b gs.length = T at *
          have L7 := hid (And.intro (L6.out.1.trans Hx.out) (L6.out.2.2.ext Hx.out))
          clear Hx L6 hlt
          go_wp2
          go_loopw [37, 35] (fun v37 v35 wz => ∃ k : Nat, k ≤ J.length ∧ v37 = .int .i64 k ∧ v35 = .int .i64 (szTo J a k) ∧ Ext wr wz) (fun v37 _ _ => J.length - (intOf v37).toNat)
          case atStart => exact ⟨0, Nat.zero_le _, rfl, rfl, (by repeat' (first | exact Ext.refl _ | assumption | refine Ext.alloc ?_ _ | refine Ext.ext ?_ _ | refine Ext.drew ?_ | refine Ext.drewN ?_ _))⟩
          case round =>
            obtain ⟨k, hk, rfl, rfl, hx⟩ := hrel
            have Hx := hid hx
            clear hx
            by_cases hlt : k < J.length
            · have G1 := L7.out.2.ext Hx.out
              obtain ⟨pz, cz, e9, h4⟩ := G1.form
              cases e9
              obtain ⟨yb, yo, rfl⟩ := h4.resolve_left (by omega)
              obtain ⟨c0, c1⟩ := G1.at k hlt
              have hr := (G1.2.2 k hlt).2
              have hst : szTo J a (k + 1) = if (J.getD k .z).s = a then (J.getD k .z).xs.length else szTo J a k := rfl
              have hT0 := Hsz.out k hk
              have hT2 := Hsz.out (k + 1) hlt
              generalize szTo J a k = Z at *
              obtain ⟨T', hT'⟩ : ∃ T', szTo J a (k + 1) = T' := ⟨_, rfl⟩
              rw [hT'] at hst hT2
              have HT' := hid hT'
              clear hT'
              generalize (dy.getD k .z).u = U at *
              generalize J.getD k .z = G at *
              obtain ⟨s, xs⟩ := G
              dsimp only at c0 c1 hr hst
              obtain ⟨xp, xc, rfl⟩ := rd_shape hr
              have k0 : (0 : Int) ≤ (k : Int) := by omega
              have k1 : (k : Int) < (J.length : Int) := by omega
              clear G1 hr
              by_cases h1 : s = a
              · have ta := te_yes h1
                rw [if_pos h1] at hst
                have Hst := hid hst
                clear h1 hst hT2
                go_wp2
                go_roundw
                case rel => exact ⟨k + 1, by omega, by go_num, by rw [HT'.out, Hst.out], Hx.out.trans (by repeat' (first | exact Ext.refl _ | assumption | refine Ext.alloc ?_ _ | refine Ext.ext ?_ _ | refine Ext.drew ?_ | refine Ext.drewN ?_ _))⟩
                case measure => simp [intOf]; omega
              · have ta := te_no h1
                rw [if_neg h1] at hst
                have Hst := hid hst
                clear h1 hst hT2
                go_wp2
                go_roundw
                case rel => exact ⟨k + 1, by omega, by go_num, by rw [HT'.out, Hst.out], Hx.out.trans (by repeat' (first | exact Ext.refl _ | assumption | refine Ext.alloc ?_ _ | refine Ext.ext ?_ _ | refine Ext.drew ?_ | refine Ext.drewN ?_ _))⟩
                case measure => simp [intOf]; omega
            · obtain rfl : k = J.length := by omega
              have hT0 := Hsz.out J.length (Nat.le_refl _)
              generalize szTo J a J.length = Z at *
              have tM := HT.out
              have tS := HSum.out
              go_wp2_with fail
              go_meet
              exact L7.out.1.trans (Hx.out.trans (by repeat' (first | exact Ext.refl _ | assumption | refine Ext.alloc ?_ _ | refine Ext.ext ?_ _ | refine Ext.drew ?_ | refine Ext.drewN ?_ _)))
  case rest =>
    go_step
    exact hn.out _ _ hcut rfl rfl rfl
-- part 1
theorem groups_law (bs : List Int) (v : Value) (w : World) (h : Rd w 1 v bs.length (vBytes bs)) (hm : bs.length ≤ maxLen) (hbb : ∀ x ∈ bs, 0 ≤ x ∧ x ≤ 255) :
    Calls Tryz.prog 3 #[v] w fun e w' => e = .returned (.bool true) ∧ Ext w w' := by
  have Hr := hid h
  unfold maxLen at hm
  obtain ⟨-, p, cap, rfl, -⟩ := h
  by_cases h2 : 65536 < bs.length
  · have t0 : (65536 : Int) < (bs.length : Int) := by omega
    go_enter Tryz.func3, Tryz.ntmps3
    go_wp2
    go_ret
    exact ⟨rfl, (by repeat' (first | exact Ext.refl _ | assumption | refine Ext.alloc ?_ _ | refine Ext.ext ?_ _ | refine Ext.drew ?_ | refine Ext.drewN ?_ _))⟩
  have hb : Bts bs := ⟨by omega, hbb⟩
  have dd := hid (fun w h => spec_DrawJoinGroup hb (v := .slice p bs.length cap) w h)
  have hn : Hid (GrTail 14 p bs.length cap w) := groups_p2 hb Hr (groups_p3 hb Hr (groups_p4 hb Hr))
  clear hb hbb
  go_enter Tryz.func3, Tryz.ntmps3
  go_wp2_with fail
  go_at_call 4
  refine (laws_rBig bs.length p cap _).mono ?_
  rintro e w' ⟨rfl, rfl⟩
  have t1 : decide ((65536 : Int) < (bs.length : Int)) = false := by simp; omega
  go_wp2_with fail
  go_at_call 5
  refine (dd.out _ Hr.out).mono ?_
  rintro e w1 ⟨q, c, gs, ds, name, x, rfl, ⟨hnl, hsm, hns⟩, hg1, hx⟩
  have L0 := hid (And.intro hx hg1)
  clear hx hg1 dd t1
  have hsum := hsm.sum hnl
  have hjs := jgI_small gs name x
  have ci := hid (fun W h => impl_JoinGroup gs ds q (qc := c) name x W h (by omega) (by omega) (by omega))
  have cs := hid (fun W h => spec_JoinGroup gs ds (.slice (some ⟨q, 0, none⟩) gs.length c) name x W h (by omega) (by omega) (by omega))
  have cl : jgB gs name x = true → 0 < (jgI gs name x).length ∧
      (∀ W g gc dj, GRd W (.slice (some ⟨g, 0, none⟩) (jgI gs name x).length gc) (jgI gs name x) dj → Calls Tryz.prog 9 #[.slice (some ⟨g, 0, none⟩) (jgI gs name x).length gc, .string name, .int .i64 x] W fun e w' => ∃ r dr, e = .returned (.tuple #[r, .bool true]) ∧ GRd w' r gs dr ∧ Ext W w') ∧
      (∀ W g gc dj, GRd W (.slice (some ⟨g, 0, none⟩) (jgI gs name x).length gc) (jgI gs name x) dj → Calls Tryz.prog 10 #[.slice (some ⟨g, 0, none⟩) (jgI gs name x).length gc, .int .i64 x] W fun e w' => ∃ rp rc, e = .returned (.tuple #[.slice rp ((gof gs x).length + 1) rc, .bool true]) ∧ Ext W w') ∧
      (∀ W, GRd W (.slice (some ⟨q, 0, none⟩) gs.length c) gs ds → Calls Tryz.prog 10 #[.slice (some ⟨q, 0, none⟩) gs.length c, .int .i64 x] W fun e w' => ∃ rp rc, e = .returned (.tuple #[.slice rp (gof gs x).length rc, .bool true]) ∧ Ext W w') ∧
      (∀ W g gc dj, GRd W (.slice (some ⟨g, 0, none⟩) (jgI gs name x).length gc) (jgI gs name x) dj → Calls Tryz.prog 11 #[.slice (some ⟨g, 0, none⟩) (jgI gs name x).length gc] W fun e w' => e = .returned (.bool true) ∧ Ext W w') := fun h => by
    have hJ := jgI_yes h
    obtain ⟨hg, -, -, hgj⟩ := jgB_all h
    obtain ⟨hf, -⟩ := join_at h
    obtain ⟨hl1, hl2⟩ := join_leave h
    obtain ⟨ho1, ho2, ho3⟩ := join_of h
    have hlen8 := goodG_len hgj
    have hs3 := (good_sm hgj).sum (by omega)
    have hpos := (fhas_get hf).1
    rw [hJ]
    refine ⟨by omega, fun W g gc dj k => ?_, fun W g gc dj k => ?_, fun W k => ?_, fun W g gc dj k => ?_⟩
    · refine (impl_LeaveGroup (jnJ gs name x) dj g (qc := gc) name x W k (by omega) (by omega)).mono fun e w' ⟨r, dr, a, b, c⟩ => ?_
      rw [hl1] at a
      rw [hl2] at b
      exact ⟨r, dr, a, b.rd, c⟩
    · refine (impl_GroupsOf (jnJ gs name x) dj _ x W k (by omega) (by omega)).mono fun e w' ⟨r, a, b, c⟩ => ?_
      rw [ho1] at a
      rw [ho3] at b
      obtain ⟨rp, rc, rfl⟩ := own_shape b
      exact ⟨rp, rc, a, c⟩
    · refine (impl_GroupsOf gs ds _ x W k (by omega) (by omega)).mono fun e w' ⟨r, a, b, c⟩ => ?_
      rw [ho2] at a
      obtain ⟨rp, rc, rfl⟩ := own_shape b
      exact ⟨rp, rc, a, c⟩
    · refine (impl_IsGroupList (jnJ gs name x) dj _ W k (by omega) (by omega)).mono fun e w' ⟨a, c⟩ => ?_
      rw [hgj] at a
      exact ⟨a, c⟩
  have hko : (gof gs x).length ≤ 10 := by
    rw [gof]
    split
    · have := gofTo_len gs x gs.length; omega
    · simp
  have cu := hid (fun z z' d d' W h h' => laws_rGroups gs d d' z z' W h h' (by omega) (sm_le hsm))
  generalize jgI gs name x = J at *
  generalize jgB gs name x = ok at *
  generalize (gof gs x).length = K at *
  have cv := hid (fun z z' d d' W h h' => laws_rGroups J d d' z z' W h h' (by have := hjs.1; omega) (small_le hjs))
  have Cl := hid cl
  clear hsm hjs cl
  go_wp2_with fail
  go_at_call 6
  refine (ci.out _ L0.out.2).mono ?_
  rintro e w2 ⟨y, dy, rfl, ho, hx⟩
  have hfo := hid (fun h : 0 < J.length => gow_form ho h)
  obtain ⟨yp, yc, rfl⟩ := grd_form ho.rd
  have L1 := hid (And.intro (L0.out.1.trans hx) (And.intro (L0.out.2.ext hx) ho.rd))
  clear hx ho L0 ci
  go_wp2_with fail
  go_at_call 7
  refine (cs.out _ L1.out.2.1).mono ?_
  rintro e w3 ⟨z, dz, rfl, ho, hx⟩
  obtain ⟨zp, zc, rfl⟩ := grd_form ho
  have L2 := hid (And.intro (L1.out.1.trans hx) (And.intro (And.intro (L1.out.2.1.ext hx) (L1.out.2.2.ext hx)) ho))
  clear hx ho L1 cs
  go_wp2_with fail
  go_at_call 8
  refine (cv.out _ _ _ _ _ L2.out.2.1.2 L2.out.2.2).mono ?_
  rintro e w4 ⟨rfl, hx⟩
  have L3 := hid (And.intro (L2.out.1.trans hx) (And.intro (L2.out.2.1.1.ext hx) (L2.out.2.1.2.ext hx)))
  clear hx L2 cv
  go_upto_if 75 with fail
  go_cut [] from 3 (fun wc => Ext w wc)
  case first =>
    cases ok
    · clear Cl hfo
      go_wp2_with fail
      go_meet
      exact L3.out.1
    · obtain ⟨h0, c1, c2, c3, c4⟩ := Cl.out rfl
      obtain ⟨yg, yc', e9⟩ := hfo.out h0
      cases e9
      have C1 := hid c1
      have C2 := hid c2
      have C3 := hid c3
      have C4 := hid c4
      clear c1 c2 c3 c4 Cl hfo h0
      go_wp2_with fail
      go_at_call 9
      refine (C1.out _ _ _ _ L3.out.2.2).mono ?_
      rintro e w5 ⟨r, dr, rfl, ho, hx⟩
      obtain ⟨rp, rc, rfl⟩ := grd_form ho
      have L4 := hid (And.intro (And.intro (L3.out.1.trans hx) (And.intro (L3.out.2.1.ext hx) (L3.out.2.2.ext hx))) ho)
      clear hx ho L3 C1
      go_wp2_with fail
      go_at_call 10
      refine (C2.out _ _ _ _ L4.out.1.2.2).mono ?_
      rintro e w6 ⟨sp, sc, rfl, hx⟩
      have L5 := hid (And.intro (And.intro (L4.out.1.1.trans hx) (And.intro (L4.out.1.2.1.ext hx) (L4.out.1.2.2.ext hx))) (L4.out.2.ext hx))
      clear hx L4 C2
      go_wp2_with fail
      go_at_call 10
      refine (C3.out _ L5.out.1.2.1).mono ?_
      rintro e w7 ⟨tp, tc, rfl, hx⟩
      have L6 := hid (And.intro (And.intro (L5.out.1.1.trans hx) (And.intro (L5.out.1.2.1.ext hx) (L5.out.1.2.2.ext hx))) (L5.out.2.ext hx))
      clear hx L5 C3
      go_wp2_with fail
      go_at_call 8
      refine (cu.out _ _ _ _ _ L6.out.2 L6.out.1.2.1).mono ?_
      rintro e w8 ⟨rfl, hx⟩
      have L7 := hid (And.intro (L6.out.1.1.trans hx) (L6.out.1.2.2.ext hx))
      clear hx L6 cu
      have tK : ((K + 1 : Nat) : Int) = (K : Int) + 1 := by omega
      go_wp2_with fail
      go_at_call 11
      refine (C4.out _ _ _ _ L7.out.2).mono ?_
      rintro e w9 ⟨rfl, hx⟩
      have L8 := hid (L7.out.1.trans hx)
      clear hx L7 C4
      go_wp2_with fail
      go_meet
      exact L8.out
  case rest =>
    go_step
    exact hn.out _ _ hcut rfl rfl rfl
end Go.Proofs.YtmblofcaiaeiaaaGreatDoor
