/- FnCapturedRequests: the first paragraph with its loops. -/
import Derived.Test.YtljknhocfjpolaaGreatDoorKWCrW
import Derived.Maps.AppendAt
namespace Go.Proofs.YtljknhocfjpolaaGreatDoor
open Go.RowKit
set_option maxHeartbeats 4000000
set_option maxRecDepth 100000
/-- The numbers of those that went up. -/
def upL (R : List Cap) (k : Nat) : List Int := ((R.take k).filter (·.u)).map (·.m)
theorem upL_snoc (R : List Cap) (k : Nat) (h : k < R.length) : upL R (k + 1) = upL R k ++ (if (R.getD k .z).u then [(R.getD k .z).m] else []) := by
  rw [upL, upL, take_snoc R .z k h, List.filter_append, List.map_append]
  congr 1
  generalize R.getD k .z = x
  obtain ⟨t, n, u, c, m, r, l, d⟩ := x
  cases u <;> rfl
theorem upL_le (R : List Cap) (k : Nat) (h : k ≤ R.length) : (upL R k).length ≤ k := by
  rw [upL, List.length_map]
  exact Nat.le_trans (List.length_filter_le _ _) (by rw [List.length_take]; omega)
theorem up_has {xs : List Cap} (h : capB xs = true) (i : Nat) (hi : i < (twR xs).length) : (upL (xs.filter fun x => x.c == 3) (xs.filter fun x => x.c == 3).length).contains ((twR xs).getD i 0) = true := by
  have hm : (twR xs).getD i 0 ∈ twR xs := by rw [List.getD_eq_getElem?_getD, List.getElem?_eq_getElem hi]; exact List.getElem_mem hi
  obtain ⟨x, hx, h1, h2⟩ := twR_in h _ hm
  rw [List.contains_iff_mem, upL, List.take_length, ← h2]
  exact List.mem_map.2 ⟨x, List.mem_filter.2 ⟨hx, h1⟩, rfl⟩
/-- While the numbers are gathered: their row. -/
def UpS (W0 W : World) (u : Value) (N : List Int) : Prop := Ext W0 W ∧ W.ownsRow W0.heap.size 3 1 u N.length (vInts N)
theorem UpS.ext {W0 W W' : World} {u : Value} {N : List Int} (h : UpS W0 W u N) (hx : Ext W W') : UpS W0 W' u N := ⟨h.1.trans hx, own_ext h.2 hx⟩
theorem UpS.grow {W0 W W' : World} {u u' : Value} {N : List Int} {x : Int} (h : UpS W0 W u N) (hg : W.grownBy W' u.ownBlock) (ho : W'.ownsRow W0.heap.size 3 1 u' (N.length + 1) (vInts N ++ [.int .i64 x])) : UpS W0 W' u' (N ++ [x]) := by
  refine ⟨h.1.grown hg (fun j e => (own_row h.2 j e).1), ?_⟩
  rw [List.length_append, show vInts (N ++ [x]) = vInts N ++ [.int .i64 x] by simp [vInts]]
  exact ho
theorem creq_law (bs : List Int) (v : Value) (w : World) (h : Rd w 1 v bs.length (vBytes bs)) (hm : bs.length ≤ maxLen) (hbb : ∀ x ∈ bs, 0 ≤ x ∧ x ≤ 255) :
    Calls Tryz.prog 5 #[v] w fun e w' => e = .returned (.bool true) ∧ Ext w w' := by
  have Hr := hid h
  unfold maxLen at hm
  obtain ⟨-, p, cap, rfl, -⟩ := h
  by_cases h2 : 65536 < bs.length
  · have t0 : (65536 : Int) < (bs.length : Int) := by omega
    go_enter Tryz.func5, Tryz.ntmps5
    go_wp2
    go_ret
    exact ⟨rfl, (by repeat' (first | exact Ext.refl _ | assumption | refine Ext.alloc ?_ _ | refine Ext.ext ?_ _ | refine Ext.drew ?_ | refine Ext.drewN ?_ _))⟩
  have hb : Bts bs := ⟨by omega, hbb⟩
  have dd := hid (fun w h => spec_DrawTwiceRequested hb (v := .slice p bs.length cap) w h)
  have hn : Hid (CrTail 21 p bs.length cap w) := creq_p2 hb Hr (creq_p3 hb Hr (creq_p4 hb Hr))
  clear hb hbb
  go_enter Tryz.func5, Tryz.ntmps5
  go_wp2_with fail
  go_at_call 11
  refine (laws_rBig bs.length p cap _).mono ?_
  rintro e w' ⟨rfl, rfl⟩
  have t1 : decide ((65536 : Int) < (bs.length : Int)) = false := by simp; omega
  go_wp2_with fail
  go_at_call 27
  refine (dd.out _ Hr.out).mono ?_
  rintro e w1 ⟨g, gc, xs, rfl, hR, hx⟩
  have L0 := hid (And.intro hx hR)
  have ci := hid (fun W h => impl_TwiceRequested xs (some ⟨g, 0, none⟩) gc W h hR.1.1 hR.1.2.len hR.1.2.chars)
  have cs := hid (fun W h => spec_TwiceRequested xs (.slice (some ⟨g, 0, none⟩) xs.length gc) W h hR.1.2.len hR.1.2.chars)
  have ck := hid (fun W h => impl_OfKind xs g 0 (qc := gc) 3 W h hR.1.2.len hR.1.2.chars)
  have hx12 := hR.1.2.1
  have htl := twR_len xs
  have cv := hid (fun y z W h1 h2 => laws_rInts (twR xs) y z W h1 h2 (by omega))
  have law := hid (fun (h : capB xs = true) => And.intro (sel_yes (b := inB 3 1 5) (p := fun x : Cap => x.c == 3) h rfl) (up_has h))
  have hR3 := List.length_filter_le (fun x : Cap => x.c == 3) xs
  clear hR hx dd t1
  generalize twR xs = T at *
  go_wp2_with fail
  go_at_call 28
  refine (ci.out _ L0.out.2.2).mono ?_
  rintro e w2 ⟨r, rfl, ho, hx⟩
  obtain ⟨rp, rc, rfl⟩ := own_shape ho
  have L1 := hid (And.intro (L0.out.1.trans hx) (And.intro (L0.out.2.ext hx) (Rd.own ho)))
  clear hx ho L0 ci
  go_wp2_with fail
  go_at_call 29
  refine (cs.out _ L1.out.2.1.2).mono ?_
  rintro e w3 ⟨r2, rfl, ho, hx⟩
  obtain ⟨sp, sc, rfl⟩ := own_shape ho
  have L2 := hid (And.intro (L1.out.1.trans hx) (And.intro (L1.out.2.1.ext hx) (And.intro (L1.out.2.2.ext hx) (Rd.own ho))))
  clear hx ho L1 cs
  go_wp2_with fail
  go_at_call 30
  refine (cv.out _ _ _ L2.out.2.2.1 L2.out.2.2.2).mono ?_
  rintro e w4 ⟨rfl, hx⟩
  have L3 := hid (And.intro (L2.out.1.trans hx) (And.intro (L2.out.2.1.ext hx) (L2.out.2.2.1.ext hx)))
  clear hx L2 cv
  cases hB : capB xs
  · rw [hB] at ck
    clear law hB
    go_upto_if 57 with fail
    go_cut [] from 3 (fun wc => Ext w wc)
    case first =>
      go_wp2_with fail
      go_meet
      exact L3.out.1
    case rest =>
      go_step
      exact hn.out _ _ hcut rfl rfl rfl
  rw [hB] at ck
  obtain ⟨e1, e2⟩ := law.out hB
  rw [e1, show inB 3 1 5 = true from rfl] at ck
  have E2 := hid e2
  clear law hB e1 e2
  generalize xs.filter (fun x => x.c == 3) = R at *
  have hu := hid (upL_snoc R)
  have hul := hid (upL_le R)
  go_upto_if 57 with fail
  go_cut [] from 3 (fun wc => Ext w wc)
  case first =>
    go_wp2_with fail
    go_at_call 19
    refine (ck.out _ L3.out.2.1.2).mono ?_
    rintro e w5 ⟨q, rfl, ho, hx⟩
    obtain ⟨qp, qc, rfl⟩ := own_shape ho
    have L4 := hid (And.intro (L3.out.1.trans hx) (And.intro (L3.out.2.2.ext hx) (Rd.own ho)))
    clear hx ho L3 ck
    have U0 : Hid (UpS w5 (w5.alloc (.cells #[] 3)) (.slice (some ⟨w5.heap.size, 0, none⟩) 0 0) (upL R 0)) := ⟨(by repeat' (first | exact Ext.refl _ | assumption | refine Ext.alloc ?_ _ | refine Ext.ext ?_ _ | refine Ext.drew ?_ | refine Ext.drewN ?_ _)), World.ownsRow_lit w5 #[] 0 (Nat.le_refl _) (Nat.zero_le _) rfl⟩
    obtain ⟨i0, hi, hz0, hz1, hz2⟩ := info_parts infoInt
    go_wp2_with fail
    go_loopw [11, 10] (fun v11 v10 wr => ∃ (i : Nat) (x10 : Value) (yr : World), i ≤ R.length ∧ v11 = .int .i64 i ∧ x10 = v10 ∧ yr = wr ∧ Hid (UpS w5 yr x10 (upL R i))) (fun v11 _ _ => R.length - (intOf v11).toNat)
    case atStart => exact ⟨0, _, _, Nat.zero_le _, rfl, rfl, rfl, U0⟩
    case round =>
      obtain ⟨i, v10, wr, hile, rfl, rfl, rfl, HS⟩ := hrel
      clear U0
      by_cases hlt : i < R.length
      · have hq := L4.out.2.2
        obtain ⟨-, p', c', e, h4⟩ := hq
        cases e
        obtain ⟨b, off, rfl, h6⟩ := h4.resolve_left (by omega)
        obtain ⟨c0, c1, c2, c3, c4, c5, c6, c7⟩ := Cap.atn R h6 i hlt
        have hst := hu.out i hlt
        have hul1 := hul.out i hile
        clear h6 h4 c0 c1 c3 c5 c6 c7
        replace c2 := HS.out.1.cell c2
        replace c4 := HS.out.1.cell c4
        generalize R.getD i .z = x at c2 c4 hst
        obtain ⟨t, n, u, c, m, r, l, d⟩ := x
        dsimp only at c2 c4 hst
        obtain ⟨ap, ac, rfl⟩ := own_shape HS.out.2
        cases u
        · have hst2 : upL R (i + 1) = upL R i := by rw [hst]; simp
          have Hst := hid hst2
          clear hst hst2
          generalize upL R i = N at *
          go_wp2
          go_roundw
          case rel => exact ⟨i + 1, _, _, by omega, by go_num, rfl, rfl, by rw [Hst.out]; exact HS.out⟩
          case measure => simp [intOf]; omega
        · have hst2 : upL R (i + 1) = upL R i ++ [m] := by rw [hst]; simp
          have Hst := hid hst2
          clear hst hst2
          generalize upL R i = N at *
          have hsz : w5.heap.size ≤ (wr.alloc (.cells #[.int .i64 m] 3)).heap.size := by rw [World.size_alloc]; have := HS.out.1.size; omega
          go_wp2_with (at_builtin; refine wpList_append_own _ rfl _ _ 41 rfl w5.heap.size 3 i0 (.int .i64 0) 1 8 Tryz.underlying41 hi hz0 hz1 hz2 rfl (by decide) _ _ _ rfl ((own_ext HS.out.2 (by repeat' (first | exact Ext.refl _ | assumption | refine Ext.alloc ?_ _ | refine Ext.ext ?_ _ | refine Ext.drew ?_ | refine Ext.drewN ?_ _)))) ⟨_, 0, none⟩ 1 1 [.int .i64 m] rfl ?a0A ?a1A ?a2A ?a3A ?a4A ?a5A ?_)
          (try case a0A => rfl)
          case a1A => (intro j u hj; rw [Addr.add_lit, Nat.zero_add, cell_of_row _ _ j _ _ (0, 0) (heap_at _ rfl)]; first | (simpa using hj) | (simpa [hwb.out] using hj))
          case a2A => simp [Value.oneCell']
          case a3A => (unfold maxLen; simp; omega)
          case a4A => (first | omega | (simp; omega))
          case a5A => (have := (HS.out.1.size); first | omega | (simp at *; omega))
          intro v' w1 hown' hgrow hat
          have HB := hid ((HS.out.ext (show Ext wr (wr.alloc (.cells #[.int .i64 m] 3)) from (by repeat' (first | exact Ext.refl _ | assumption | refine Ext.alloc ?_ _ | refine Ext.ext ?_ _ | refine Ext.drew ?_ | refine Ext.drewN ?_ _)))).grow hgrow hown')
          obtain ⟨bp, bc, rfl⟩ := own_shape hown'
          clear hown' hgrow hat HS c2 c4
          go_wp2
          go_roundw
          case rel => exact ⟨i + 1, _, _, by omega, by go_num, rfl, rfl, by rw [Hst.out]; exact HB.out⟩
          case measure => simp [intOf]; omega
      · obtain rfl : i = R.length := by omega
        have hul1 := hul.out _ hile
        generalize upL R R.length = N at *
        have hc := hid (fun (x : Int) W h => laws_rHas N v10 x W h (by omega))
        go_wp2_with fail
        go_loopw [12] (fun v12 wq => ∃ (j : Nat) (yq : World), j ≤ T.length ∧ v12 = .int .i64 j ∧ yq = wq ∧ Hid (UpS w5 yq v10 N)) (fun v12 _ => T.length - (intOf v12).toNat)
        case atStart => exact ⟨0, _, Nat.zero_le _, rfl, rfl, HS⟩
        case round =>
          obtain ⟨j, wq, hj, rfl, rfl, HQ⟩ := hrel
          by_cases hlt2 : j < T.length
          · have hq := L4.out.2.1
            obtain ⟨-, p', c', e, h4⟩ := hq
            cases e
            obtain ⟨b, off, rfl, h6⟩ := h4.resolve_left (by omega)
            have c0 := elem1 (Value.int .i64) 0 T h6 j hlt2
            have hcj := hid (fun W h => hc.out (T.getD j 0) W h)
            rw [E2.out j hlt2] at hcj
            clear h6 h4
            replace c0 := HQ.out.1.cell c0
            generalize T.getD j 0 = y at c0 hcj
            go_wp2_with fail
            go_at_call 31
            refine (hcj.out _ (Rd.own HQ.out.2)).mono ?_
            rintro e w6 ⟨rfl, hx⟩
            have HQ2 := hid (HQ.out.ext hx)
            clear hx HQ c0 hcj
            go_wp2_with fail
            go_roundw
            case rel => exact ⟨j + 1, _, by omega, by go_num, rfl, HQ2⟩
            case measure => simp [intOf]; omega
          · have HX := hid (L4.out.1.trans HQ.out.1)
            go_wp2_with fail
            go_meet
            exact HX.out
  case rest =>
    go_step
    exact hn.out _ _ hcut rfl rfl rfl
end Go.Proofs.YtljknhocfjpolaaGreatDoor
