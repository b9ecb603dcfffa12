/- A group put into a list: the reference's walk. -/
import Derived.Test.YtmblofcaiaeiaaaGreatDoorJ29
import Derived.Laws.Cover1
namespace Go.Proofs.YtmblofcaiaeiaaaGreatDoor
open Go.RowKit
set_option maxHeartbeats 1000000
set_option maxRecDepth 100000
theorem gcs_snoc (ds : List Gc) (s : ByteArray) (u : Value) : (ds ++ [(⟨s, u⟩ : Gc)]).flatMap Gc.cs = ds.flatMap Gc.cs ++ [.string s, u] := by
  rw [List.flatMap_append]; simp [Gc.cs]
theorem far_fresh {w w2 : World} {B e e' k k' n m : Nat} {v u : Value} {cs ds : List Value} (h : w.ownsRow B e k v n cs) (h' : w2.ownsRow w.heap.size e' k' u m ds) : ∀ b o m' c, u = .slice (some ⟨b, o, none⟩) m' c → 0 < m' → v.ownBlock ≠ some b := fun b o m' c e _ e2 => by
  have h9 := (own_row h b e2).2
  obtain ⟨-, ⟨h5, -⟩ | ⟨g, c', cur, h5, h8, -⟩⟩ := h'
  · rw [h5] at e; cases e
  · rw [h5] at e
    cases e
    omega
theorem far_lo {w2 : World} {B e' k' m : Nat} {u : Value} {ds : List Value} (h' : w2.ownsRow B e' k' u m ds) : ∀ b o m' c, u = .slice (some ⟨b, o, none⟩) m' c → 0 < m' → B ≤ b := fun b o m' c e _ => by
  obtain ⟨-, ⟨h5, -⟩ | ⟨g, c', cur, h5, h8, -⟩⟩ := h'
  · rw [h5] at e; cases e
  · rw [h5] at e
    cases e
    exact h8
theorem spec_l21PutP (lo2 : Nat) (gs : List Grp) (cs : List Gc) (v : Value) (s : ByteArray) (ms : List Int) (u : Value) (w : World) (hlo : lo2 ≤ w.heap.size) (hub : ∀ b o m c, u = .slice (some ⟨b, o, none⟩) m c → 0 < m → lo2 ≤ b) (h : GRd w v gs cs) (hu : Rd w 1 u ms.length (vInts ms)) (h2 : gs.length ≤ 8) (hm : ∀ i, i < gs.length → (gs.getD i .z).xs.length ≤ 1048576) :
    Calls Tryz.prog 37 #[v, .agg #[.string s, u]] w fun e w' => ∃ r ds, e = .returned r ∧ w'.ownsRow (w.heap.size + 1) 42 2 r (putG gs ⟨s, ms⟩).length (ds.flatMap Gc.cs) ∧ PRd lo2 w' r (putG gs ⟨s, ms⟩) ds ∧ Ext w w' := by
  have Hv := hid h
  have Hu := hid hu
  have Hm := hid hm
  obtain ⟨p, cap, rfl, h4⟩ := h.form
  have H4 := hid h4
  obtain ⟨-, up, uc, rfl, -⟩ := hu
  have Hub := hid hub
  clear h h4 hm hub
  obtain ⟨i0, hi, hz0, hz1, hz2⟩ := info_parts infoGrp
  have hcp := hid (fun s xs u w h h2 => spec_l21Copy s xs u w h h2)
  generalize hG : (⟨s, ms⟩ : Grp) = G
  have hGs : G.s = s := by rw [← hG]
  have hGm : G.xs = ms := by rw [← hG]
  have hst : ∀ k, putSt gs G (k + 1) = ((if !(putSt gs G k).2 && !bl (gs.getD k .z).s s then (putSt gs G k).1 ++ [G] else (putSt gs G k).1) ++ (if (gs.getD k .z).s = s then [] else [gs.getD k .z]), (putSt gs G k).2 || (!(putSt gs G k).2 && !bl (gs.getD k .z).s s)) := fun k => by rw [putSt, hGs]
  have hdone : ((ms.length : Int) == 0) = (putSt gs G 0).2 := by rw [putSt, hGm, Bool.eq_iff_iff]; simp
  have hlen := putSt_len gs G
  have Hst := hid hst
  have Hlen := hid hlen
  clear hst hlen
  go_enter Tryz.func37, Tryz.ntmps37
  go_wp2
  have XB : Ext w (w.alloc (.cells #[.string s, .slice up ms.length uc] 42)) := (by repeat' (first | exact Ext.refl _ | assumption | refine Ext.alloc ?_ _ | refine Ext.ext ?_ _ | refine Ext.drew ?_ | refine Ext.drewN ?_ _))
  have b0 : (w.alloc (.cells #[.string s, .slice up ms.length uc] 42)).cell? ⟨w.heap.size, 0, none⟩ = some (.string s) := by rw [cell_of_row _ _ 0 _ _ (0, 0) (heap_at _ rfl)]; rfl
  have b1 : (w.alloc (.cells #[.string s, .slice up ms.length uc] 42)).cell? ⟨w.heap.size, 1, none⟩ = some (.slice up ms.length uc) := by rw [cell_of_row _ _ 1 _ _ (0, 0) (heap_at _ rfl)]; rfl
  have hWs : (w.alloc (.cells #[.string s, .slice up ms.length uc] 42)).heap.size = w.heap.size + 1 := by simp
  generalize (w.alloc (.cells #[.string s, .slice up ms.length uc] 42)) = W at *
  have Hlo := hid (show lo2 ≤ W.heap.size by omega)
  clear hlo
  have hl0 : (W.alloc (.cells #[] 42)).ownsRow (w.heap.size + 1) 42 2 (.slice (some ⟨w.heap.size + 1, 0, none⟩) 0 0) 0 [] := by
    have := World.ownsRow_lit (base := w.heap.size + 1) (e := 42) (size := 2) W #[] 0 (by omega) (Nat.zero_le _) rfl
    rwa [hWs] at this
  have Bx := hid (And.intro b0 (And.intro b1 hl0))
  clear b0 b1 hl0
  -- ROUND
  go_loopw [7, 5, 6] (fun v7 v5 v6 wr => ∃ (k : Nat) (ds : List Gc), k ≤ gs.length ∧ v7 = .int .i64 k ∧ v6 = .bool (putSt gs G k).2 ∧ wr.ownsRow (w.heap.size + 1) 42 2 v5 (putSt gs G k).1.length (ds.flatMap Gc.cs) ∧ PRd lo2 wr v5 (putSt gs G k).1 ds ∧ Ext W wr) (fun v7 _ _ _ => gs.length - (intOf v7).toNat)
  case atStart => exact ⟨0, [], Nat.zero_le _, rfl, by rw [← hdone], Bx.out.2.2, PRd.nil _ _ _ rfl, (by repeat' (first | exact Ext.refl _ | assumption | refine Ext.alloc ?_ _ | refine Ext.ext ?_ _ | refine Ext.drew ?_ | refine Ext.drewN ?_ _))⟩
  case round =>
    obtain ⟨k, ds, hk, rfl, h6, hown, hpr, hx⟩ := hrel
    by_cases hlt : k < gs.length
    · obtain ⟨b, off, rfl⟩ := H4.out.resolve_left (by omega)
      obtain ⟨c0, c1⟩ := Hv.out.at k hlt
      have Hxr := hid ((Hv.out.2.2 k hlt).2)
      have hxm := Hm.out k hlt
      have hst := Hst.out k
      have hle := Hlen.out k
      generalize gs.getD k .z = X at *
      generalize (cs.getD k .z).u = xu at *
      obtain ⟨sx, xx⟩ := X
      dsimp only at c0 Hxr hxm hst
      generalize putSt gs G k = OD at *
      obtain ⟨O, d⟩ := OD
      dsimp only at hst hown hpr hle h6
      subst h6
      have P := hid (And.intro hown (And.intro hpr hx))
      have bx0 := hx.cell Bx.out.1
      have bx1 := hx.cell Bx.out.2.1
      have d0 := (XB.trans hx).cell c0
      have d1 := (XB.trans hx).cell c1
      have D0 := XB.cell c0
      have D1 := XB.cell c1
      have n0 : (0 : Int) ≤ (k : Int) := by omega
      have n1 : (k : Int) < (gs.length : Int) := by omega
      clear hown hpr hx c0 c1
      cases d
      · cases hb : bl sx s
        · rw [hb] at hst
          rw [show bl sx s = Op.bytesLess sx.toList s.toList from rfl] at hb
          go_wp2
          refine wp_region_ext (by kernel_rfl) (by kernel_rfl) ?_
          repeat (go_big_quiet_step ((first | fail)))
          refine wpQuiet_nil ?_
          rintro _ ⟨zq, rfl⟩
          have hz : Ext wr (wr.ext zq) := ⟨zq, rfl⟩
          have P1 := hid (And.intro (own_ext P.out.1 hz) (And.intro (P.out.2.1.ext hz) (P.out.2.2.trans hz)))
          have d0 := hz.cell d0
          have d1 := hz.cell d1
          have bx0 := hz.cell bx0
          have bx1 := hz.cell bx1
          clear hz
          generalize wr.ext zq = wq at *
          go_wp2_with (at_builtin; refine wpList_append_own_at _ rfl _ _ 24 rfl (w.heap.size + 1) 42 i0 (.agg #[.string ByteArray.empty, .slice none 0 0]) 2 40 Tryz.underlying24 hi hz0 hz1 hz2 rfl (by decide) _ _ _ rfl ((own_ext P1.out.1 (by repeat' (first | exact Ext.refl _ | assumption | refine Ext.alloc ?_ _ | refine Ext.ext ?_ _ | refine Ext.drew ?_ | refine Ext.drewN ?_ _)))) ⟨_, 0, none⟩ 1 1 [.string s, .slice up ms.length uc] rfl ?a0A ?a1A ?a2A ?a3A ?a4A ?a5A ?_)
          (try case a0A => rfl)
          case a1A => (intro j u hj; rw [Addr.add_lit, Nat.zero_add, cell_of_row _ _ j _ _ (0, 0) (heap_at _ rfl)]; first | (simpa using hj) | (simpa [hwb.out] using hj))
          case a2A => simp [Value.oneCell']
          case a3A => (unfold maxLen; simp; omega)
          case a4A => (first | omega | (simp; omega))
          case a5A => (have := (P1.out.2.2).size; first | omega | (simp at *; omega))
          intro v' w1 hown' hgrow hat
          intro hpl
          have exA : Ext W w1 := ((P1.out.2.2).trans (by repeat' (first | exact Ext.refl _ | assumption | refine Ext.alloc ?_ _ | refine Ext.ext ?_ _ | refine Ext.drew ?_ | refine Ext.drewN ?_ _))).grown hgrow (fun j hj => by have := (own_row P1.out.1 j hj).1; omega)
          have prA := (PRd.grown ((P1.out.2.1).ext (by repeat' (first | exact Ext.refl _ | assumption | refine Ext.alloc ?_ _ | refine Ext.ext ?_ _ | refine Ext.drew ?_ | refine Ext.drewN ?_ _))) hgrow (by simpa using hpl)).snoc G (.slice up ms.length uc) (by rw [hGm]; exact Hu.out.ext (XB.trans exA)) (fun b o m c e hm => ⟨Hub.out b o m c e hm, fun e2 => by have h8 := rd_lt Hu.out (by decide) e hm; have h9 := (own_row hown' b e2).1; omega⟩)
          rw [hGs] at prA
          have owA : w1.ownsRow (w.heap.size + 1) 42 2 v' (O ++ [G]).length ((ds ++ [(⟨s, .slice up ms.length uc⟩ : Gc)]).flatMap Gc.cs) := by rw [List.length_append, gcs_snoc]; exact hown'
          have KA := hid (And.intro owA (And.intro prA exA))
          clear hown' hgrow hat hpl exA prA owA
          generalize v' = vA at *
          generalize w1 = wA at *
          have d0 := (KA.out.2.2).cell D0
          have d1 := (KA.out.2.2).cell D1
          have bx0 := (KA.out.2.2).cell Bx.out.1
          have bx1 := (KA.out.2.2).cell Bx.out.2.1
          by_cases he : sx = s
          · have te : (sx.toList == s.toList) = true := by rw [he]; simp
            have hnew : Hid (putSt gs G (k + 1) = (O ++ [G], true)) := by show _ = _; rw [hst, if_pos he]; simp
            clear hst hb
            go_wp2
            refine wp_region_ext (by kernel_rfl) (by kernel_rfl) ?_
            repeat (go_big_quiet_step ((first | fail)))
            refine wpQuiet_nil ?_
            rintro _ ⟨zq, rfl⟩
            have hz : Ext wA (wA.ext zq) := ⟨zq, rfl⟩
            have KB := hid (And.intro (own_ext KA.out.1 hz) (And.intro (KA.out.2.1.ext hz) (KA.out.2.2.trans hz)))
            have d0 := hz.cell d0
            have d1 := hz.cell d1
            have bx0 := hz.cell bx0
            have bx1 := hz.cell bx1
            clear hz
            generalize wA.ext zq = wB at *
            go_wp2
            go_roundw
            case rel => exact ⟨k + 1, _, by omega, by go_num, by rw [hnew.out], by rw [hnew.out]; exact KB.out.1, by rw [hnew.out]; exact KB.out.2.1, KB.out.2.2⟩
            case measure => simp [intOf]; omega
          · have te : (sx.toList == s.toList) = false := by rw [beq_eq_false_iff_ne]; intro h; rw [ByteArray.toList_eq, ByteArray.toList_eq] at h; exact he (toList_inj h)
            have hnew : Hid (putSt gs G (k + 1) = (O ++ [G] ++ [⟨sx, xx⟩], true)) := by show _ = _; rw [hst, if_neg he]; simp
            clear hst hb
            go_wp2
            refine wp_region_ext (by kernel_rfl) (by kernel_rfl) ?_
            repeat (go_big_quiet_step ((first | fail)))
            refine wpQuiet_nil ?_
            rintro _ ⟨zq, rfl⟩
            have hz : Ext wA (wA.ext zq) := ⟨zq, rfl⟩
            have KB := hid (And.intro (own_ext KA.out.1 hz) (And.intro (KA.out.2.1.ext hz) (KA.out.2.2.trans hz)))
            have d0 := hz.cell d0
            have d1 := hz.cell d1
            have bx0 := hz.cell bx0
            have bx1 := hz.cell bx1
            clear hz
            generalize wA.ext zq = wB at *
            go_wp2_with fail
            go_at_call 69
            refine (hcp.out sx xx _ _ (Hxr.out.ext (XB.trans KB.out.2.2)) hxm).mono ?_
            rintro e w2 ⟨r2, rfl, ho2, hx2⟩
            obtain ⟨rp, rc, rfl⟩ := own_shape ho2
            have ow2 := own_ext KB.out.1 hx2
            have pr2 := (KB.out.2.1).ext hx2
            have exr := (KB.out.2.2).trans hx2
            have hfar := far_fresh KB.out.1 ho2
            have hfl := far_lo ho2
            have hfe := (KB.out.2.2).size
            have hrc := Rd.own ho2
            have hlt2 : ∀ b o m c, Value.slice rp xx.length rc = .slice (some ⟨b, o, none⟩) m c → 0 < m → b < w2.heap.size := fun b o m c e hm => rd_lt hrc (by decide) e hm
            have hflo : ∀ b o m c, Value.slice rp xx.length rc = .slice (some ⟨b, o, none⟩) m c → 0 < m → lo2 ≤ b := fun b o m c e hm => by have := hfl b o m c e hm; have := Hlo.out; omega
            have L2 := hid (And.intro ow2 (And.intro pr2 (And.intro exr (And.intro hfar (And.intro hrc (And.intro hlt2 hflo))))))
            clear ho2 hx2 ow2 pr2 exr hfar hrc hlt2 hflo hfl hfe
            go_wp2_with (at_builtin; refine wpList_append_own_at _ rfl _ _ 24 rfl (w.heap.size + 1) 42 i0 (.agg #[.string ByteArray.empty, .slice none 0 0]) 2 40 Tryz.underlying24 hi hz0 hz1 hz2 rfl (by decide) _ _ _ rfl ((own_ext L2.out.1 (by repeat' (first | exact Ext.refl _ | assumption | refine Ext.alloc ?_ _ | refine Ext.ext ?_ _ | refine Ext.drew ?_ | refine Ext.drewN ?_ _)))) ⟨_, 0, none⟩ 1 1 [.string sx, .slice rp xx.length rc] rfl ?a0C ?a1C ?a2C ?a3C ?a4C ?a5C ?_)
            (try case a0C => rfl)
            case a1C => (intro j u hj; rw [Addr.add_lit, Nat.zero_add, cell_of_row _ _ j _ _ (0, 0) (heap_at _ rfl)]; first | (simpa using hj) | (simpa [hwb.out] using hj))
            case a2C => simp [Value.oneCell']
            case a3C => (unfold maxLen; simp; omega)
            case a4C => (first | omega | (simp; omega))
            case a5C => (have := L2.out.2.2.1.size; first | omega | (simp at *; omega))
            intro v' w1 hown' hgrow hat
            intro hpl
            obtain ⟨ow2, pr2, exr, hfar, hrc, hlt2, hflo⟩ := L2.out
            have exC : Ext W w1 := (exr.trans (by repeat' (first | exact Ext.refl _ | assumption | refine Ext.alloc ?_ _ | refine Ext.ext ?_ _ | refine Ext.drew ?_ | refine Ext.drewN ?_ _))).grown hgrow (fun j hj => by have := (own_row ow2 j hj).1; omega)
            have prC := (PRd.grown (pr2.ext (by repeat' (first | exact Ext.refl _ | assumption | refine Ext.alloc ?_ _ | refine Ext.ext ?_ _ | refine Ext.drew ?_ | refine Ext.drewN ?_ _))) hgrow (by simpa using hpl)).snoc ⟨sx, xx⟩ (.slice rp xx.length rc) (rd_turn (hrc.ext (by repeat' (first | exact Ext.refl _ | assumption | refine Ext.alloc ?_ _ | refine Ext.ext ?_ _ | refine Ext.drew ?_ | refine Ext.drewN ?_ _))) hgrow hfar) (fun b o m c e hm => ⟨hflo b o m c e hm, by
              rcases hpl with h5 | h5
              · rw [h5]; exact hfar b o m c e hm
              · rw [h5]
                have h6 := hlt2 b o m c e hm
                intro e2
                have h7 := Option.some.inj e2
                (try simp at h7)
                omega⟩)
            have owC : w1.ownsRow (w.heap.size + 1) 42 2 v' ((O ++ [G]) ++ [(⟨sx, xx⟩ : Grp)]).length (((ds ++ [(⟨s, .slice up ms.length uc⟩ : Gc)]) ++ [(⟨sx, .slice rp xx.length rc⟩ : Gc)]).flatMap Gc.cs) := by rw [List.length_append, gcs_snoc]; first | exact hown' | simpa using hown'
            have KC := hid (And.intro owC (And.intro prC exC))
            clear hown' hgrow hat hpl exC prC owC ow2 pr2 exr hfar hrc hlt2 hflo L2
            go_wp2
            go_roundw
            case rel => exact ⟨k + 1, _, by omega, by go_num, by rw [hnew.out], by rw [hnew.out]; exact KC.out.1, by rw [hnew.out]; exact KC.out.2.1, KC.out.2.2⟩
            case measure => simp [intOf]; omega
        · rw [hb] at hst
          have he : ¬ sx = s := fun e => by rw [e, bl_irrefl] at hb; cases hb
          have te : (sx.toList == s.toList) = false := by rw [beq_eq_false_iff_ne]; intro h; rw [ByteArray.toList_eq, ByteArray.toList_eq] at h; exact he (toList_inj h)
          have hnew : Hid (putSt gs G (k + 1) = (O ++ [⟨sx, xx⟩], false)) := by show _ = _; rw [hst, if_neg he]; simp
          rw [show bl sx s = Op.bytesLess sx.toList s.toList from rfl] at hb
          clear hst he
          go_wp2
          refine wp_region_ext (by kernel_rfl) (by kernel_rfl) ?_
          repeat (go_big_quiet_step ((first | fail)))
          refine wpQuiet_nil ?_
          rintro _ ⟨zq, rfl⟩
          have hz : Ext wr (wr.ext zq) := ⟨zq, rfl⟩
          have P1 := hid (And.intro (own_ext P.out.1 hz) (And.intro (P.out.2.1.ext hz) (P.out.2.2.trans hz)))
          have d0 := hz.cell d0
          have d1 := hz.cell d1
          have bx0 := hz.cell bx0
          have bx1 := hz.cell bx1
          clear hz
          generalize wr.ext zq = wq at *
          go_wp2
          refine wp_region_ext (by kernel_rfl) (by kernel_rfl) ?_
          repeat (go_big_quiet_step ((first | fail)))
          refine wpQuiet_nil ?_
          rintro _ ⟨zq, rfl⟩
          have hz : Ext wq (wq.ext zq) := ⟨zq, rfl⟩
          have KB := hid (And.intro (own_ext P1.out.1 hz) (And.intro (P1.out.2.1.ext hz) (P1.out.2.2.trans hz)))
          have d0 := hz.cell d0
          have d1 := hz.cell d1
          have bx0 := hz.cell bx0
          have bx1 := hz.cell bx1
          clear hz
          generalize wq.ext zq = wB at *
          go_wp2_with fail
          go_at_call 69
          refine (hcp.out sx xx _ _ (Hxr.out.ext (XB.trans KB.out.2.2)) hxm).mono ?_
          rintro e w2 ⟨r2, rfl, ho2, hx2⟩
          obtain ⟨rp, rc, rfl⟩ := own_shape ho2
          have ow2 := own_ext KB.out.1 hx2
          have pr2 := (KB.out.2.1).ext hx2
          have exr := (KB.out.2.2).trans hx2
          have hfar := far_fresh KB.out.1 ho2
          have hfl := far_lo ho2
          have hfe := (KB.out.2.2).size
          have hrc := Rd.own ho2
          have hlt2 : ∀ b o m c, Value.slice rp xx.length rc = .slice (some ⟨b, o, none⟩) m c → 0 < m → b < w2.heap.size := fun b o m c e hm => rd_lt hrc (by decide) e hm
          have hflo : ∀ b o m c, Value.slice rp xx.length rc = .slice (some ⟨b, o, none⟩) m c → 0 < m → lo2 ≤ b := fun b o m c e hm => by have := hfl b o m c e hm; have := Hlo.out; omega
          have L2 := hid (And.intro ow2 (And.intro pr2 (And.intro exr (And.intro hfar (And.intro hrc (And.intro hlt2 hflo))))))
          clear ho2 hx2 ow2 pr2 exr hfar hrc hlt2 hflo hfl hfe
          go_wp2_with (at_builtin; refine wpList_append_own_at _ rfl _ _ 24 rfl (w.heap.size + 1) 42 i0 (.agg #[.string ByteArray.empty, .slice none 0 0]) 2 40 Tryz.underlying24 hi hz0 hz1 hz2 rfl (by decide) _ _ _ rfl ((own_ext L2.out.1 (by repeat' (first | exact Ext.refl _ | assumption | refine Ext.alloc ?_ _ | refine Ext.ext ?_ _ | refine Ext.drew ?_ | refine Ext.drewN ?_ _)))) ⟨_, 0, none⟩ 1 1 [.string sx, .slice rp xx.length rc] rfl ?a0C ?a1C ?a2C ?a3C ?a4C ?a5C ?_)
          (try case a0C => rfl)
          case a1C => (intro j u hj; rw [Addr.add_lit, Nat.zero_add, cell_of_row _ _ j _ _ (0, 0) (heap_at _ rfl)]; first | (simpa using hj) | (simpa [hwb.out] using hj))
          case a2C => simp [Value.oneCell']
          case a3C => (unfold maxLen; simp; omega)
          case a4C => (first | omega | (simp; omega))
          case a5C => (have := L2.out.2.2.1.size; first | omega | (simp at *; omega))
          intro v' w1 hown' hgrow hat
          intro hpl
          obtain ⟨ow2, pr2, exr, hfar, hrc, hlt2, hflo⟩ := L2.out
          have exC : Ext W w1 := (exr.trans (by repeat' (first | exact Ext.refl _ | assumption | refine Ext.alloc ?_ _ | refine Ext.ext ?_ _ | refine Ext.drew ?_ | refine Ext.drewN ?_ _))).grown hgrow (fun j hj => by have := (own_row ow2 j hj).1; omega)
          have prC := (PRd.grown (pr2.ext (by repeat' (first | exact Ext.refl _ | assumption | refine Ext.alloc ?_ _ | refine Ext.ext ?_ _ | refine Ext.drew ?_ | refine Ext.drewN ?_ _))) hgrow (by simpa using hpl)).snoc ⟨sx, xx⟩ (.slice rp xx.length rc) (rd_turn (hrc.ext (by repeat' (first | exact Ext.refl _ | assumption | refine Ext.alloc ?_ _ | refine Ext.ext ?_ _ | refine Ext.drew ?_ | refine Ext.drewN ?_ _))) hgrow hfar) (fun b o m c e hm => ⟨hflo b o m c e hm, by
            rcases hpl with h5 | h5
            · rw [h5]; exact hfar b o m c e hm
            · rw [h5]
              have h6 := hlt2 b o m c e hm
              intro e2
              have h7 := Option.some.inj e2
              (try simp at h7)
              omega⟩)
          have owC : w1.ownsRow (w.heap.size + 1) 42 2 v' (O ++ [(⟨sx, xx⟩ : Grp)]).length ((ds ++ [(⟨sx, .slice rp xx.length rc⟩ : Gc)]).flatMap Gc.cs) := by rw [List.length_append, gcs_snoc]; first | exact hown' | simpa using hown'
          have KC := hid (And.intro owC (And.intro prC exC))
          clear hown' hgrow hat hpl exC prC owC ow2 pr2 exr hfar hrc hlt2 hflo L2
          go_wp2
          go_roundw
          case rel => exact ⟨k + 1, _, by omega, by go_num, by rw [hnew.out], by rw [hnew.out]; exact KC.out.1, by rw [hnew.out]; exact KC.out.2.1, KC.out.2.2⟩
          case measure => simp [intOf]; omega
      · by_cases he : sx = s
        · have te : (sx.toList == s.toList) = true := by rw [he]; simp
          have hnew : Hid (putSt gs G (k + 1) = (O, true)) := by show _ = _; rw [hst, if_pos he]; simp
          clear hst
          go_wp2
          refine wp_region_ext (by kernel_rfl) (by kernel_rfl) ?_
          repeat (go_big_quiet_step ((first | fail)))
          refine wpQuiet_nil ?_
          rintro _ ⟨zq, rfl⟩
          have hz : Ext wr (wr.ext zq) := ⟨zq, rfl⟩
          have P1 := hid (And.intro (own_ext P.out.1 hz) (And.intro (P.out.2.1.ext hz) (P.out.2.2.trans hz)))
          have d0 := hz.cell d0
          have d1 := hz.cell d1
          have bx0 := hz.cell bx0
          have bx1 := hz.cell bx1
          clear hz
          generalize wr.ext zq = wq at *
          go_wp2
          refine wp_region_ext (by kernel_rfl) (by kernel_rfl) ?_
          repeat (go_big_quiet_step ((first | fail)))
          refine wpQuiet_nil ?_
          rintro _ ⟨zq, rfl⟩
          have hz : Ext wq (wq.ext zq) := ⟨zq, rfl⟩
          have KB := hid (And.intro (own_ext P1.out.1 hz) (And.intro (P1.out.2.1.ext hz) (P1.out.2.2.trans hz)))
          have d0 := hz.cell d0
          have d1 := hz.cell d1
          have bx0 := hz.cell bx0
          have bx1 := hz.cell bx1
          clear hz
          generalize wq.ext zq = wB at *
          go_wp2
          go_roundw
          case rel => exact ⟨k + 1, _, by omega, by go_num, by rw [hnew.out], by rw [hnew.out]; exact KB.out.1, by rw [hnew.out]; exact KB.out.2.1, KB.out.2.2⟩
          case measure => simp [intOf]; omega
        · have te : (sx.toList == s.toList) = false := by rw [beq_eq_false_iff_ne]; intro h; rw [ByteArray.toList_eq, ByteArray.toList_eq] at h; exact he (toList_inj h)
          have hnew : Hid (putSt gs G (k + 1) = (O ++ [⟨sx, xx⟩], true)) := by show _ = _; rw [hst, if_neg he]; simp
          clear hst
          go_wp2
          refine wp_region_ext (by kernel_rfl) (by kernel_rfl) ?_
          repeat (go_big_quiet_step ((first | fail)))
          refine wpQuiet_nil ?_
          rintro _ ⟨zq, rfl⟩
          have hz : Ext wr (wr.ext zq) := ⟨zq, rfl⟩
          have P1 := hid (And.intro (own_ext P.out.1 hz) (And.intro (P.out.2.1.ext hz) (P.out.2.2.trans hz)))
          have d0 := hz.cell d0
          have d1 := hz.cell d1
          have bx0 := hz.cell bx0
          have bx1 := hz.cell bx1
          clear hz
          generalize wr.ext zq = wq at *
          go_wp2
          refine wp_region_ext (by kernel_rfl) (by kernel_rfl) ?_
          repeat (go_big_quiet_step ((first | fail)))
          refine wpQuiet_nil ?_
          rintro _ ⟨zq, rfl⟩
          have hz : Ext wq (wq.ext zq) := ⟨zq, rfl⟩
          have KB := hid (And.intro (own_ext P1.out.1 hz) (And.intro (P1.out.2.1.ext hz) (P1.out.2.2.trans hz)))
          have d0 := hz.cell d0
          have d1 := hz.cell d1
          have bx0 := hz.cell bx0
          have bx1 := hz.cell bx1
          clear hz
          generalize wq.ext zq = wB at *
          go_wp2_with fail
          go_at_call 69
          refine (hcp.out sx xx _ _ (Hxr.out.ext (XB.trans KB.out.2.2)) hxm).mono ?_
          rintro e w2 ⟨r2, rfl, ho2, hx2⟩
          obtain ⟨rp, rc, rfl⟩ := own_shape ho2
          have ow2 := own_ext KB.out.1 hx2
          have pr2 := (KB.out.2.1).ext hx2
          have exr := (KB.out.2.2).trans hx2
          have hfar := far_fresh KB.out.1 ho2
          have hfl := far_lo ho2
          have hfe := (KB.out.2.2).size
          have hrc := Rd.own ho2
          have hlt2 : ∀ b o m c, Value.slice rp xx.length rc = .slice (some ⟨b, o, none⟩) m c → 0 < m → b < w2.heap.size := fun b o m c e hm => rd_lt hrc (by decide) e hm
          have hflo : ∀ b o m c, Value.slice rp xx.length rc = .slice (some ⟨b, o, none⟩) m c → 0 < m → lo2 ≤ b := fun b o m c e hm => by have := hfl b o m c e hm; have := Hlo.out; omega
          have L2 := hid (And.intro ow2 (And.intro pr2 (And.intro exr (And.intro hfar (And.intro hrc (And.intro hlt2 hflo))))))
          clear ho2 hx2 ow2 pr2 exr hfar hrc hlt2 hflo hfl hfe
          go_wp2_with (at_builtin; refine wpList_append_own_at _ rfl _ _ 24 rfl (w.heap.size + 1) 42 i0 (.agg #[.string ByteArray.empty, .slice none 0 0]) 2 40 Tryz.underlying24 hi hz0 hz1 hz2 rfl (by decide) _ _ _ rfl ((own_ext L2.out.1 (by repeat' (first | exact Ext.refl _ | assumption | refine Ext.alloc ?_ _ | refine Ext.ext ?_ _ | refine Ext.drew ?_ | refine Ext.drewN ?_ _)))) ⟨_, 0, none⟩ 1 1 [.string sx, .slice rp xx.length rc] rfl ?a0C ?a1C ?a2C ?a3C ?a4C ?a5C ?_)
          (try case a0C => rfl)
          case a1C => (intro j u hj; rw [Addr.add_lit, Nat.zero_add, cell_of_row _ _ j _ _ (0, 0) (heap_at _ rfl)]; first | (simpa using hj) | (simpa [hwb.out] using hj))
          case a2C => simp [Value.oneCell']
          case a3C => (unfold maxLen; simp; omega)
          case a4C => (first | omega | (simp; omega))
          case a5C => (have := L2.out.2.2.1.size; first | omega | (simp at *; omega))
          intro v' w1 hown' hgrow hat
          intro hpl
          obtain ⟨ow2, pr2, exr, hfar, hrc, hlt2, hflo⟩ := L2.out
          have exC : Ext W w1 := (exr.trans (by repeat' (first | exact Ext.refl _ | assumption | refine Ext.alloc ?_ _ | refine Ext.ext ?_ _ | refine Ext.drew ?_ | refine Ext.drewN ?_ _))).grown hgrow (fun j hj => by have := (own_row ow2 j hj).1; omega)
          have prC := (PRd.grown (pr2.ext (by repeat' (first | exact Ext.refl _ | assumption | refine Ext.alloc ?_ _ | refine Ext.ext ?_ _ | refine Ext.drew ?_ | refine Ext.drewN ?_ _))) hgrow (by simpa using hpl)).snoc ⟨sx, xx⟩ (.slice rp xx.length rc) (rd_turn (hrc.ext (by repeat' (first | exact Ext.refl _ | assumption | refine Ext.alloc ?_ _ | refine Ext.ext ?_ _ | refine Ext.drew ?_ | refine Ext.drewN ?_ _))) hgrow hfar) (fun b o m c e hm => ⟨hflo b o m c e hm, by
            rcases hpl with h5 | h5
            · rw [h5]; exact hfar b o m c e hm
            · rw [h5]
              have h6 := hlt2 b o m c e hm
              intro e2
              have h7 := Option.some.inj e2
              (try simp at h7)
              omega⟩)
          have owC : w1.ownsRow (w.heap.size + 1) 42 2 v' (O ++ [(⟨sx, xx⟩ : Grp)]).length ((ds ++ [(⟨sx, .slice rp xx.length rc⟩ : Gc)]).flatMap Gc.cs) := by rw [List.length_append, gcs_snoc]; first | exact hown' | simpa using hown'
          have KC := hid (And.intro owC (And.intro prC exC))
          clear hown' hgrow hat hpl exC prC owC ow2 pr2 exr hfar hrc hlt2 hflo L2
          go_wp2
          go_roundw
          case rel => exact ⟨k + 1, _, by omega, by go_num, by rw [hnew.out], by rw [hnew.out]; exact KC.out.1, by rw [hnew.out]; exact KC.out.2.1, KC.out.2.2⟩
          case measure => simp [intOf]; omega
    · obtain rfl : k = gs.length := by omega
      have hle := Hlen.out gs.length
      have hfin : putG gs G = (putSt gs G gs.length).1 ++ (if (putSt gs G gs.length).2 then [] else [G]) := rfl
      generalize putSt gs G gs.length = OD at *
      obtain ⟨O, d⟩ := OD
      dsimp only at hown hpr hle h6 hfin
      subst h6
      have P := hid (And.intro hown (And.intro hpr hx))
      have bx0 := hx.cell Bx.out.1
      have bx1 := hx.cell Bx.out.2.1
      clear hown hpr hx
      cases d
      · have hf : Hid (putG gs G = O ++ [G]) := hfin
        clear hfin
        go_wp2_with (at_builtin; refine wpList_append_own_at _ rfl _ _ 24 rfl (w.heap.size + 1) 42 i0 (.agg #[.string ByteArray.empty, .slice none 0 0]) 2 40 Tryz.underlying24 hi hz0 hz1 hz2 rfl (by decide) _ _ _ rfl ((own_ext P.out.1 (by repeat' (first | exact Ext.refl _ | assumption | refine Ext.alloc ?_ _ | refine Ext.ext ?_ _ | refine Ext.drew ?_ | refine Ext.drewN ?_ _)))) ⟨_, 0, none⟩ 1 1 [.string s, .slice up ms.length uc] rfl ?a0A ?a1A ?a2A ?a3A ?a4A ?a5A ?_)
        (try case a0A => rfl)
        case a1A => (intro j u hj; rw [Addr.add_lit, Nat.zero_add, cell_of_row _ _ j _ _ (0, 0) (heap_at _ rfl)]; first | (simpa using hj) | (simpa [hwb.out] using hj))
        case a2A => simp [Value.oneCell']
        case a3A => (unfold maxLen; simp; omega)
        case a4A => (first | omega | (simp; omega))
        case a5A => (have := (P.out.2.2).size; first | omega | (simp at *; omega))
        intro v' w1 hown' hgrow hat
        intro hpl
        have exA : Ext W w1 := ((P.out.2.2).trans (by repeat' (first | exact Ext.refl _ | assumption | refine Ext.alloc ?_ _ | refine Ext.ext ?_ _ | refine Ext.drew ?_ | refine Ext.drewN ?_ _))).grown hgrow (fun j hj => by have := (own_row P.out.1 j hj).1; omega)
        have prA := (PRd.grown ((P.out.2.1).ext (by repeat' (first | exact Ext.refl _ | assumption | refine Ext.alloc ?_ _ | refine Ext.ext ?_ _ | refine Ext.drew ?_ | refine Ext.drewN ?_ _))) hgrow (by simpa using hpl)).snoc G (.slice up ms.length uc) (by rw [hGm]; exact Hu.out.ext (XB.trans exA)) (fun b o m c e hm => ⟨Hub.out b o m c e hm, fun e2 => by have h8 := rd_lt Hu.out (by decide) e hm; have h9 := (own_row hown' b e2).1; omega⟩)
        rw [hGs] at prA
        have owA : w1.ownsRow (w.heap.size + 1) 42 2 v' (O ++ [G]).length ((ds ++ [(⟨s, .slice up ms.length uc⟩ : Gc)]).flatMap Gc.cs) := by rw [List.length_append, gcs_snoc]; exact hown'
        have KA := hid (And.intro owA (And.intro prA exA))
        clear hown' hgrow hat hpl exA prA owA
        generalize v' = vA at *
        generalize w1 = wA at *
        go_wp2
        go_ret
        exact ⟨_, _, rfl, by rw [hf.out]; exact KA.out.1, by rw [hf.out]; exact KA.out.2.1, XB.trans KA.out.2.2⟩
      · have hf : Hid (putG gs G = O) := by show _ = _; rw [hfin]; simp
        clear hfin
        go_wp2
        go_ret
        exact ⟨_, _, rfl, by rw [hf.out]; exact P.out.1, by rw [hf.out]; exact P.out.2.1, XB.trans P.out.2.2⟩
theorem spec_l21Put (gs : List Grp) (cs : List Gc) (v : Value) (s : ByteArray) (ms : List Int) (u : Value) (w : World) (h : GRd w v gs cs) (hu : Rd w 1 u ms.length (vInts ms)) (h2 : gs.length ≤ 8) (hm : ∀ i, i < gs.length → (gs.getD i .z).xs.length ≤ 1048576) :
    Calls Tryz.prog 37 #[v, .agg #[.string s, u]] w fun e w' => ∃ r ds, e = .returned r ∧ GRd w' r (putG gs ⟨s, ms⟩) ds ∧ Ext w w' :=
  (spec_l21PutP 0 gs cs v s ms u w (Nat.zero_le _) (fun _ _ _ _ _ _ => Nat.zero_le _) h hu h2 hm).mono fun _ _ ⟨r, ds, e, ho, hp, hx⟩ => ⟨r, ds, e, hp.rd ho, hx⟩
end Go.Proofs.YtmblofcaiaeiaaaGreatDoor
