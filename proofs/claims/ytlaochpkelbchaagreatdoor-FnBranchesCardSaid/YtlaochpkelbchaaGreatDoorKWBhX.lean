/- FnBranches: the first paragraph with its loops, and the law. -/
import Derived.Test.YtlaochpkelbchaaGreatDoorKWBhW
namespace Go.Proofs.YtlaochpkelbchaaGreatDoor
open Go.RowKit
set_option maxHeartbeats 4000000
set_option maxRecDepth 100000
/-- A tree, a group and the nodes of a multicast. -/
def TGN (w W : World) (T : Nat) (t : Value) (s : ByteArray) (u y : Value) (ps ms N : List Int) : Prop := TGB w W T t s u ps ms ∧ Rd W 1 y N.length (vInts N)
theorem TGN.ext {w W W' : World} {T : Nat} {t u y : Value} {s : ByteArray} {ps ms N : List Int} (h : TGN w W T t s u y ps ms N) (hx : Ext W W') : TGN w W' T t s u y ps ms N := ⟨h.1.ext hx, h.2.ext hx⟩
theorem rd_at1 {w : World} {v : Value} {L : List Int} (h : Rd w 1 v L.length (vInts L)) (i : Nat) (hi : i < L.length) : ∃ b o c, v = .slice (some ⟨b, o, none⟩) L.length c ∧ w.cell? ⟨b, o + i, none⟩ = some (.int .i64 (L.getD i 0)) := by
  obtain ⟨-, p, c, rfl, h4⟩ := h
  obtain ⟨b, o, rfl, h6⟩ := h4.resolve_left (by omega)
  exact ⟨b, o, c, rfl, elem1 (Value.int .i64) 0 L h6 i hi⟩
theorem branchesLaw (bs : List Int) (v : Value) (w : World) (h : Rd w 1 v bs.length (vBytes bs)) (hv : Vrs w) (ht : Tab w) (hm : bs.length ≤ maxLen) (hbb : ∀ x ∈ bs, 0 ≤ x ∧ x ≤ 255) :
    Calls Tryz.prog 3 #[v] w fun e w' => e = .returned (.bool true) ∧ Ext w w' := by
  have Hr := hid h
  have Hv := hid hv
  have Ht := hid ht
  unfold maxLen at hm
  obtain ⟨-, p, cap, rfl, -⟩ := h
  clear hv ht
  by_cases h2 : 65536 < bs.length
  · have t0 : (65536 : Int) < (bs.length : Int) := by omega
    go_enter Tryz.func3, Tryz.ntmps3
    go_wp2
    go_ret
    exact ⟨rfl, (by repeat' (first | exact Ext.refl _ | assumption | refine Ext.alloc ?_ _ | refine Ext.ext ?_ _ | refine Ext.drew ?_ | refine Ext.drewN ?_ _))⟩
  have hb : Bts bs := ⟨by omega, hbb⟩
  have dd := hid (fun w h => spec_DrawNodesFor hb (v := .slice p bs.length cap) w h)
  have hn : Hid (BhTail 29 p bs.length cap w) := branches_p2 hb Hr (branches_p3 hb Hr Hv Ht (branches_p4 hb Hr Hv Ht))
  clear hb hbb Hv Ht
  go_enter Tryz.func3, Tryz.ntmps3
  go_wp2_with fail
  go_at_call 4
  refine (laws_rBig bs.length p cap _).mono ?_
  rintro e w' ⟨rfl, rfl⟩
  have t1 : decide ((65536 : Int) < (bs.length : Int)) = false := by simp; omega
  go_wp2_with fail
  go_at_call 5
  refine (dd.out _ Hr.out).mono ?_
  rintro e w1 ⟨t, s, u1, ps, ms, rfl, hg, hx⟩
  obtain ⟨⟨hp9, hs9, hm⟩, hrt, hru⟩ := id hg
  obtain ⟨-, tp, tc, rfl, -⟩ := hrt
  obtain ⟨-, up, uc, rfl, -⟩ := hru
  have L0 := hid (TGB.mk0 hg hx)
  clear hg hx dd t1
  have hl := nfL_len ps s ms
  have ci := hid (fun W (h : TGo W (.slice tp ps.length tc) s (.slice up ms.length uc) ps ms) => impl_NodesFor ps s ms (.slice tp ps.length tc) (.slice up ms.length uc) W h.2.1 h.2.2 (by omega) (by omega) (by omega))
  have cs := hid (fun W (h : TGo W (.slice tp ps.length tc) s (.slice up ms.length uc) ps ms) => spec_NodesFor ps s ms (.slice tp ps.length tc) (.slice up ms.length uc) W h.2.1 h.2.2 (by omega) (by omega) (by omega))
  have cb := hid (fun (x : Int) W (h : TGo W (.slice tp ps.length tc) s (.slice up ms.length uc) ps ms) => impl_BranchesFor ps s ms (.slice tp ps.length tc) (.slice up ms.length uc) x W h.2.1 h.2.2 (by omega) (by omega) (by omega))
  have law := hid (fun (h : nfB ps s ms = true) => And.intro (branches_law h) (fun (x : Nat) (hx : x < ps.length) => brL_good h hx))
  have hto := hid (brTo_le ps s ms)
  have hbl := hid (fun x => brL_len ps s ms x)
  generalize nfL ps s ms = N at *
  generalize nfB ps s ms = B at *
  have cv := hid (fun z z' W h h' => laws_rInts N z z' W h h' (by omega))
  go_upto_region 4 with fail
  generalize ((w1.alloc (.cells #[.slice tp ps.length tc] 26)).alloc (.cells #[.string s, .slice up ms.length uc] 28)) = W1 at *
  generalize w1.heap.size = T at *
  obtain ⟨c0, c1, c2⟩ := L0.out.cells
  go_wp2_with fail
  go_at_call 6
  refine (ci.out _ L0.out.2.2).mono ?_
  rintro e w2 ⟨r, rfl, ho, hx⟩
  obtain ⟨rp, rc, rfl⟩ := own_shape ho
  have L1 : Hid (TGN w w2 T (.slice tp ps.length tc) s (.slice up ms.length uc) (.slice rp N.length rc) ps ms N) := ⟨L0.out.ext hx, Rd.own ho⟩
  clear hx ho L0 ci c0 c1 c2
  obtain ⟨c0, c1, c2⟩ := L1.out.1.cells
  go_wp2_with fail
  go_at_call 7
  refine (cs.out _ L1.out.1.2.2).mono ?_
  rintro e w3 ⟨r2, rfl, ho, hx⟩
  obtain ⟨sp, sc, rfl⟩ := own_shape ho
  have L2 := hid (And.intro (L1.out.ext hx) (Rd.own ho))
  clear hx ho L1 cs c0 c1 c2
  go_wp2_with fail
  go_at_call 8
  refine (cv.out _ _ _ L2.out.1.2 L2.out.2).mono ?_
  rintro e w4 ⟨rfl, hx⟩
  have L3 := hid (L2.out.1.ext hx)
  clear hx L2 cv
  go_upto_if 62 with fail
  go_cut [] from 3 (fun wc => Ext w wc)
  case first =>
    cases B
    · go_wp2_with fail
      go_meet
      exact L3.out.1.1
    · obtain ⟨⟨e1, e2, e3⟩, e4⟩ := law.out rfl
      have E1 := hid e1
      have E2 := hid e2
      have E3 := hid e3
      have E4 := hid e4
      have ch := hid (fun (x : Int) W h => laws_rHas N (.slice rp N.length rc) x W h (by omega))
      clear law e1 e2 e3 e4
      go_wp2_with fail
      have HC := hid L3.out
      clear L3
      go_loopw [10, 9] (fun v10 v9 wr => ∃ (k : Nat) (yr : World), k ≤ ps.length ∧ v10 = .int .i64 k ∧ v9 = .int .i64 ((brTo ps s ms k : Nat) : Int) ∧ yr = wr ∧ Hid (TGN w yr T (.slice tp ps.length tc) s (.slice up ms.length uc) (.slice rp N.length rc) ps ms N)) (fun v10 _ _ => ps.length - (intOf v10).toNat)
      case atStart => exact ⟨0, _, Nat.zero_le _, rfl, rfl, rfl, HC⟩
      case round =>
        obtain ⟨k, wr, hk, rfl, rfl, rfl, L4⟩ := hrel
        obtain ⟨c0, c1, c2⟩ := L4.out.1.cells
        have hbt := hto.out k
        by_cases hlt : k < ps.length
        · have hst : Hid (brTo ps s ms (k + 1) = brTo ps s ms k + (brL ps s ms (k : Int)).length) := rfl
          obtain ⟨g1, g2⟩ := E4.out k hlt
          have G2 := hid g2
          have hbk := hbl.out (k : Int)
          have cbk := hid (fun W h => cb.out (k : Int) W h)
          rw [g1] at cbk
          generalize brL ps s ms (k : Int) = Q at *
          generalize brTo ps s ms k = C at *
          clear g1 g2
          go_wp2_with fail
          go_at_call 9
          refine (cbk.out _ L4.out.1.2.2).mono ?_
          rintro e w5 ⟨q, rfl, ho, hx⟩
          obtain ⟨qp, qc, rfl⟩ := own_shape ho
          have L5 := hid (And.intro (L4.out.ext hx) (Rd.own ho))
          clear hx ho L4 c0 c1 c2 cbk
          go_wp2_with fail
          go_loopw [13, 9] (fun v13 v9 wq => ∃ (j : Nat) (yq : World), j ≤ Q.length ∧ v13 = .int .i64 j ∧ v9 = .int .i64 ((C + j : Nat) : Int) ∧ yq = wq ∧ Hid (TGN w yq T (.slice tp ps.length tc) s (.slice up ms.length uc) (.slice rp N.length rc) ps ms N ∧ Rd yq 1 (.slice qp Q.length qc) Q.length (vInts Q))) (fun v13 _ _ => Q.length - (intOf v13).toNat)
          case atStart => exact ⟨0, _, Nat.zero_le _, rfl, rfl, rfl, L5⟩
          case round =>
            obtain ⟨j, wq, hj, rfl, rfl, rfl, L6⟩ := hrel
            by_cases hlt2 : j < Q.length
            · obtain ⟨c, q1, q2, q3, q4⟩ := G2.out j hlt2
              obtain ⟨qb, qo, qc', eq, a0⟩ := rd_at1 L6.out.2 j hlt2
              cases eq
              obtain ⟨tb, to', tc', et, a1⟩ := rd_at1 L6.out.1.1.2.2.2.1 c q2
              cases et
              rw [q1] at a0
              rw [q3] at a1
              obtain ⟨c0, c1, c2⟩ := L6.out.1.1.cells
              have chc := hid (fun W h => ch.out (c : Int) W h)
              rw [q4] at chc
              have n0 : (0 : Int) ≤ (c : Int) := by omega
              have n1 : (c : Int) < (ps.length : Int) := by omega
              have n2 : (0 : Int) ≤ (j : Int) := by omega
              have n3 : (j : Int) < (Q.length : Int) := by omega
              have n4 : IntKind.i64.wrap (((C + j : Nat) : Int) + 1) = ((C + (j + 1) : Nat) : Int) := by rw [show ((C + j : Nat) : Int) + 1 = ((C + (j + 1) : Nat) : Int) by omega]; exact IntWalk.i64_in _ (by omega)
              clear q1 q2 q3 q4
              generalize hCj : ((C + j : Nat) : Int) = Z at *
              generalize hCk : ((C + (j + 1) : Nat) : Int) = Z2 at *
              have HZ := hid hCk
              clear hCj hCk
              go_wp2_with fail
              refine wp_region_ext (by kernel_rfl) (by kernel_rfl) ?_
              repeat (go_big_quiet_step ((first | (go_at_call 10; exact Calls.quiet_ext (chc.out _ (L6.out.1.2.ext (by repeat' (first | exact Ext.refl _ | assumption | refine Ext.alloc ?_ _ | refine Ext.ext ?_ _ | refine Ext.drew ?_ | refine Ext.drewN ?_ _))))))))
              refine wpQuiet_nil ?_
              rintro _ ⟨zq, rfl⟩
              have L7 := hid (And.intro (L6.out.1.ext (show Ext wq (wq.ext zq) from ⟨zq, rfl⟩)) (L6.out.2.ext (show Ext wq (wq.ext zq) from ⟨zq, rfl⟩)))
              go_wp2_with fail
              go_roundw
              case rel => exact ⟨j + 1, _, by omega, by go_num, by rw [HZ.out], rfl, L7⟩
              case measure => simp [intOf]; omega
            · obtain rfl : j = Q.length := by omega
              have L7 := hid L6.out.1
              go_wp2_with fail
              go_roundw
              case rel => exact ⟨k + 1, _, by omega, by go_num, by rw [hst.out], rfl, L7⟩
              case measure => simp [intOf]; omega
        · obtain rfl : k = ps.length := by omega
          obtain ⟨nb, no, nc, eq, a0⟩ := rd_at1 L4.out.2 0 (by have := E1.out; omega)
          cases eq
          rw [E2.out] at a0
          simp only [Nat.add_zero] at a0
          have w2 : IntKind.i64.wrap ((N.length : Int) - 1) = (N.length : Int) - 1 := IntWalk.i64_in _ (by omega)
          have t2 : ((brTo ps s ms ps.length : Nat) : Int) = (N.length : Int) - 1 := by have := E1.out; omega
          have n9 : (0 : Int) < (N.length : Int) := by have := E1.out; omega
          clear E1 E2 E4 cb hto hbl hbt
          generalize brTo ps s ms ps.length = C at *
          go_wp2_with fail
          clear t2
          go_loopw [14] (fun v14 wq => ∃ (j : Nat) (yq : World), j ≤ ms.length ∧ v14 = .int .i64 j ∧ yq = wq ∧ Hid (TGN w yq T (.slice tp ps.length tc) s (.slice up ms.length uc) (.slice (some ⟨nb, no, none⟩) N.length rc) ps ms N)) (fun v14 _ => ms.length - (intOf v14).toNat)
          case atStart => exact ⟨0, _, Nat.zero_le _, rfl, rfl, L4⟩
          case round =>
            obtain ⟨j, wq, hj, rfl, rfl, L5⟩ := hrel
            obtain ⟨d0, d1, d2⟩ := L5.out.1.cells
            by_cases hlt2 : j < ms.length
            · obtain ⟨mb, mo, mc, eq, a1⟩ := rd_at1 L5.out.1.2.2.2.2 j hlt2
              cases eq
              have chc := hid (fun W h => ch.out (ms.getD j 0) W h)
              rw [E3.out _ (by rw [List.getD_eq_getElem?_getD, List.getElem?_eq_getElem hlt2]; exact List.getElem_mem hlt2)] at chc
              generalize ms.getD j 0 = c at *
              go_wp2_with fail
              go_at_call 10
              refine (chc.out _ L5.out.2).mono ?_
              rintro e w6 ⟨rfl, hx⟩
              have L6 := hid (L5.out.ext hx)
              clear hx L5 a1 d0 d1 d2 chc
              go_wp2_with fail
              go_roundw
              case rel => exact ⟨j + 1, _, by omega, by go_num, rfl, L6⟩
              case measure => simp [intOf]; omega
            · obtain rfl : j = ms.length := by omega
              have L6 := hid L5.out.1.1
              go_wp2_with fail
              go_meet
              exact L6.out
  case rest =>
    go_step
    exact hn.out _ _ hcut rfl rfl rfl
end Go.Proofs.YtlaochpkelbchaaGreatDoor
