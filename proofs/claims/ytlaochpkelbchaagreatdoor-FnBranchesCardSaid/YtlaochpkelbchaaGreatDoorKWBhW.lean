/- FnBranches: the walk behind its first paragraph. -/
import Derived.Test.YtlaochpkelbchaaGreatDoorKWCurK3
import Derived.Test.YtlaochpkelbchaaGreatDoorKWCurK4
import Derived.Test.YtlaochpkelbchaaGreatDoorKWBrL
import Derived.Test.YtlaochpkelbchaaGreatDoorKWPg2
import Derived.Test.YtlaochpkelbchaaGreatDoorJ45
import Derived.Deep.DeepCutAuto
namespace Go.Proofs.YtlaochpkelbchaaGreatDoor
open Go.RowKit
set_option maxHeartbeats 4000000
set_option maxRecDepth 100000
theorem okG_len {a : ByteArray} {ms : List Int} (h : okG a ms = true) : ms.length ≤ 7 := by
  have hr := (okG_all h).2.2
  have := asc_len (n := 8) ms 1 (risB_asc hr) (fun y hy => by have := risB_mem hr y hy; omega)
  omega
theorem pgM_len (s : ByteArray) : (pgM (PGi s)).length ≤ 7 := by
  cases h : PGi s with
  | none => exact Nat.zero_le _
  | some x =>
    obtain ⟨a, ms⟩ := x
    exact okG_len (PGi_iff.1 h).1
/-- A tree and a group in their variables. -/
def TGB (w W : World) (T : Nat) (t : Value) (s : ByteArray) (u : Value) (ps ms : List Int) : Prop :=
  Ext w W ∧ (W.heap[T]? = some (.cells #[t] 26 (0, 0)) ∧ W.heap[T + 1]? = some (.cells #[.string s, u] 28 (0, 0))) ∧ TGo W t s u ps ms
theorem TGB.ext {w W W' : World} {T : Nat} {t u : Value} {s : ByteArray} {ps ms : List Int} (h : TGB w W T t s u ps ms) (hx : Ext W W') : TGB w W' T t s u ps ms := ⟨h.1.trans hx, ⟨blk_ext h.2.1.1 hx, blk_ext h.2.1.2 hx⟩, h.2.2.ext hx⟩
theorem TGB.mk0 {w w1 : World} {t u : Value} {s : ByteArray} {ps ms : List Int} (h : TGo w1 t s u ps ms) (hx : Ext w w1) : TGB w ((w1.alloc (.cells #[t] 26)).alloc (.cells #[.string s, u] 28)) w1.heap.size t s u ps ms := by
  have X1 : Ext w1 ((w1.alloc (.cells #[t] 26)).alloc (.cells #[.string s, u] 28)) := (by repeat' (first | exact Ext.refl _ | assumption | refine Ext.alloc ?_ _ | refine Ext.ext ?_ _ | refine Ext.drew ?_ | refine Ext.drewN ?_ _))
  exact ⟨hx.trans X1, ⟨heap_old (heap_at _ rfl) _, heap_at _ (by simp)⟩, h.ext X1⟩
theorem TGB.cells {w W : World} {T : Nat} {t u : Value} {s : ByteArray} {ps ms : List Int} (h : TGB w W T t s u ps ms) : W.cell? ⟨T, 0, none⟩ = some t ∧ W.cell? ⟨T + 1, 0, none⟩ = some (.string s) ∧ W.cell? ⟨T + 1, 1, none⟩ = some u := by
  obtain ⟨a, -, -⟩ := box1 h.2.1.1
  obtain ⟨⟨b, c⟩, -, -⟩ := box2 h.2.1.2
  exact ⟨a, b, c⟩
theorem frame235 (a : Act) (v : Value) (h1 : a.defers = []) (h2 : a.tmps.size = 235) (h3 : a.tmps.getD 0 undef = v) : ∃ u : Nat → Value, a = ⟨#[v, u 1, u 2, u 3, u 4, u 5, u 6, u 7, u 8, u 9, u 10, u 11, u 12, u 13, u 14, u 15, u 16, u 17, u 18, u 19, u 20, u 21, u 22, u 23, u 24, u 25, u 26, u 27, u 28, u 29, u 30, u 31, u 32, u 33, u 34, u 35, u 36, u 37, u 38, u 39, u 40, u 41, u 42, u 43, u 44, u 45, u 46, u 47, u 48, u 49, u 50, u 51, u 52, u 53, u 54, u 55, u 56, u 57, u 58, u 59, u 60, u 61, u 62, u 63, u 64, u 65, u 66, u 67, u 68, u 69, u 70, u 71, u 72, u 73, u 74, u 75, u 76, u 77, u 78, u 79, u 80, u 81, u 82, u 83, u 84, u 85, u 86, u 87, u 88, u 89, u 90, u 91, u 92, u 93, u 94, u 95, u 96, u 97, u 98, u 99, u 100, u 101, u 102, u 103, u 104, u 105, u 106, u 107, u 108, u 109, u 110, u 111, u 112, u 113, u 114, u 115, u 116, u 117, u 118, u 119, u 120, u 121, u 122, u 123, u 124, u 125, u 126, u 127, u 128, u 129, u 130, u 131, u 132, u 133, u 134, u 135, u 136, u 137, u 138, u 139, u 140, u 141, u 142, u 143, u 144, u 145, u 146, u 147, u 148, u 149, u 150, u 151, u 152, u 153, u 154, u 155, u 156, u 157, u 158, u 159, u 160, u 161, u 162, u 163, u 164, u 165, u 166, u 167, u 168, u 169, u 170, u 171, u 172, u 173, u 174, u 175, u 176, u 177, u 178, u 179, u 180, u 181, u 182, u 183, u 184, u 185, u 186, u 187, u 188, u 189, u 190, u 191, u 192, u 193, u 194, u 195, u 196, u 197, u 198, u 199, u 200, u 201, u 202, u 203, u 204, u 205, u 206, u 207, u 208, u 209, u 210, u 211, u 212, u 213, u 214, u 215, u 216, u 217, u 218, u 219, u 220, u 221, u 222, u 223, u 224, u 225, u 226, u 227, u 228, u 229, u 230, u 231, u 232, u 233, u 234], []⟩ :=
  ⟨fun i => a.tmps.getD i undef, frame_arg a 234 h1 h2 v h3⟩
def BhPost (w : World) : Exit → Act → World → Prop := bodyPost Tryz.prog Tryz.f3 (fun e w' => e = .returned (.bool true) ∧ Ext w w')
noncomputable def bhTl (n : Nat) : Code := (Tryz.f3.body.getD .skip).tailAt n
def BhTail (n : Nat) (p : Option Addr) (m cap : Nat) (w : World) : Prop := ∀ (a : Act) (wc : World), Ext w wc → a.defers = [] → a.tmps.size = 235 → a.tmps.getD 0 undef = .slice p m cap → Code.wp Tryz.prog (bhTl n) (BhPost w) a wc
-- part 4
theorem branches_p4 {bs : List Int} (hb : Bts bs) {p : Option Addr} {cap : Nat} {w : World} (Hr : Hid (Rd w 1 (.slice p bs.length cap) bs.length (vBytes bs))) (Hv : Hid (Vrs w)) (Ht : Hid (Tab w)) : BhTail 42 p bs.length cap w := by
  intro a wc hx h1 h2 h3
  obtain ⟨u, rfl⟩ := frame235 a _ h1 h2 h3
  clear h1 h2 h3
  have HY := hid hx
  clear hx
  have dd := hid (fun w h => spec_DrawParseGroup hb (v := .slice p bs.length cap) w h)
  clear hb
  unfold bhTl BhPost
  conv => arg 2; whnf
  go_wp2_with fail
  go_at_call 17
  refine (dd.out _ (Hr.out.ext HY.out)).mono ?_
  rintro e w1 ⟨u0, rfl, hus, hx⟩
  have L0 := hid (HY.out.trans hx)
  clear hx HY dd
  have hml := pgM_len u0
  have ci := hid (fun W hv ht => impl_ParseGroup u0 W hv ht (by omega))
  have cs := hid (fun W => spec_ParseGroup u0 W (by omega))
  rw [← PG_same] at cs
  generalize pgN (PGi u0) = N at *
  generalize pgM (PGi u0) = M at *
  generalize (PGi u0).isSome = ok at *
  have cv := hid (fun z z' W h h' => laws_rInts M z z' W h h' (by omega))
  have t0 : (N.toList == N.toList) = true := by simp
  go_wp2_with fail
  go_at_call 16
  refine (ci.out _ (Hv.out.ext L0.out) (Ht.out.ext L0.out)).mono ?_
  rintro e w2 ⟨r, rfl, ho, hx⟩
  obtain ⟨rp, rc, rfl⟩ := own_shape ho
  have X1 : Ext w2 (w2.alloc (.cells #[.string N, .slice rp M.length rc] 28)) := (by repeat' (first | exact Ext.refl _ | assumption | refine Ext.alloc ?_ _ | refine Ext.ext ?_ _ | refine Ext.drew ?_ | refine Ext.drewN ?_ _))
  have hF := hid (show (w2.alloc (.cells #[.string N, .slice rp M.length rc] 28)).heap[w2.heap.size]? = some (.cells #[.string N, .slice rp M.length rc] 28 (0, 0)) from heap_at _ rfl)
  have L1 := hid (And.intro ((L0.out.trans hx).trans X1) ((Rd.own ho).ext X1))
  clear hx X1 L0 ci ho
  go_upto_region 44 with fail
  generalize (w2.alloc (.cells #[.string N, .slice rp M.length rc] 28)) = W2 at *
  generalize w2.heap.size = FX at *
  go_wp2_with fail
  go_at_call 18
  refine (cs.out _).mono ?_
  rintro e w3 ⟨r2, rfl, ho, hx⟩
  obtain ⟨sp, sc, rfl⟩ := own_shape ho
  have X1 : Ext w3 (w3.alloc (.cells #[.string N, .slice sp M.length sc] 28)) := (by repeat' (first | exact Ext.refl _ | assumption | refine Ext.alloc ?_ _ | refine Ext.ext ?_ _ | refine Ext.drew ?_ | refine Ext.drewN ?_ _))
  have hG := hid (show (w3.alloc (.cells #[.string N, .slice sp M.length sc] 28)).heap[w3.heap.size]? = some (.cells #[.string N, .slice sp M.length sc] 28 (0, 0)) from heap_at _ rfl)
  have hF2 := hid (blk_ext hF.out (hx.trans X1))
  have L2 := hid (And.intro ((L1.out.1.trans hx).trans X1) (And.intro (L1.out.2.ext (hx.trans X1)) ((Rd.own ho).ext X1)))
  clear hx X1 L1 cs ho hF
  go_upto_region 45 with fail
  generalize (w3.alloc (.cells #[.string N, .slice sp M.length sc] 28)) = W3 at *
  generalize w3.heap.size = GX at *
  obtain ⟨⟨c0, c1⟩, -, -⟩ := box2 hF2.out
  obtain ⟨⟨d0, d1⟩, -, -⟩ := box2 hG.out
  go_wp2_with fail
  go_at_call 8
  refine (cv.out _ _ _ L2.out.2.1 L2.out.2.2).mono ?_
  rintro e w4 ⟨rfl, hx⟩
  have L3 := hid (L2.out.1.trans hx)
  clear hx L2 cv c0 c1 d0 d1 hF2 hG
  go_wp2
  go_ret
  exact ⟨rfl, L3.out⟩
-- part 3
theorem branches_p3 {bs : List Int} (hb : Bts bs) {p : Option Addr} {cap : Nat} {w : World} (Hr : Hid (Rd w 1 (.slice p bs.length cap) bs.length (vBytes bs))) (Hv : Hid (Vrs w)) (Ht : Hid (Tab w)) (hn : Hid (BhTail 42 p bs.length cap w)) : BhTail 34 p bs.length cap w := by
  intro a wc hx h1 h2 h3
  obtain ⟨u, rfl⟩ := frame235 a _ h1 h2 h3
  clear h1 h2 h3
  have HY := hid hx
  clear hx
  have dd := hid (fun w h => spec_DrawGroupText hb (v := .slice p bs.length cap) w h)
  clear hb
  unfold bhTl BhPost
  conv => arg 2; whnf
  go_wp2_with fail
  go_at_call 13
  refine (dd.out _ (Hr.out.ext HY.out)).mono ?_
  rintro e w1 ⟨s, u1, ms, rfl, ⟨hs, hm⟩, hr, hx⟩
  obtain ⟨-, up, uc, rfl, -⟩ := id hr
  have X1 : Ext w1 (w1.alloc (.cells #[.string s, .slice up ms.length uc] 28)) := (by repeat' (first | exact Ext.refl _ | assumption | refine Ext.alloc ?_ _ | refine Ext.ext ?_ _ | refine Ext.drew ?_ | refine Ext.drewN ?_ _))
  have hF := hid (show (w1.alloc (.cells #[.string s, .slice up ms.length uc] 28)).heap[w1.heap.size]? = some (.cells #[.string s, .slice up ms.length uc] 28 (0, 0)) from heap_at _ rfl)
  have L0 := hid (And.intro ((HY.out.trans hx).trans X1) (hr.ext X1))
  clear hx X1 HY dd hr
  have ci := hid (fun W h => impl_GroupText s ms (.slice up ms.length uc) W h (by omega) (by omega))
  have cs := hid (fun W h => spec_GroupText s ms (.slice up ms.length uc) W h (by omega) (by omega))
  have hz : (grT s ms).size ≤ 40 := by
    rw [grT]
    split
    · rename_i h; exact grpT_size h
    · exact Nat.zero_le _
  have hB : Hid (okG s ms = true → (PGi (grT s ms)).isSome = true ∧ pgN (PGi (grT s ms)) = s ∧ pgM (PGi (grT s ms)) = ms) := fun h => by
    have : PGi (grT s ms) = some (s, ms) := PGi_iff.2 ⟨h, by rw [grT, h, if_pos rfl]⟩
    rw [this]
    exact ⟨rfl, rfl, rfl⟩
  have hml := pgM_len (grT s ms)
  generalize grT s ms = G at *
  generalize okG s ms = B at *
  have cp := hid (fun W hv ht => impl_ParseGroup G W hv ht (by omega))
  generalize pgN (PGi G) = N at *
  generalize pgM (PGi G) = M at *
  generalize (PGi G).isSome = ok at *
  have cv := hid (fun z z' W h h' => laws_rInts ms z z' W h h' (by omega))
  have t0 : (G.toList == G.toList) = true := by simp
  have t1 : (s.toList == s.toList) = true := by simp
  go_upto_region 35 with fail
  generalize (w1.alloc (.cells #[.string s, .slice up ms.length uc] 28)) = W1 at *
  generalize w1.heap.size = FX at *
  obtain ⟨⟨c0, c1⟩, -, -⟩ := box2 hF.out
  go_wp2_with fail
  go_at_call 14
  refine (ci.out _ L0.out.2).mono ?_
  rintro e w2 ⟨rfl, hx⟩
  have hF2 := hid (blk_ext hF.out hx)
  have L1 := hid (And.intro (L0.out.1.trans hx) (L0.out.2.ext hx))
  clear hx L0 ci hF c0 c1
  obtain ⟨⟨c0, c1⟩, -, -⟩ := box2 hF2.out
  go_wp2_with fail
  go_at_call 15
  refine (cs.out _ L1.out.2).mono ?_
  rintro e w3 ⟨rfl, hx⟩
  have hF3 := hid (blk_ext hF2.out hx)
  have L2 := hid (And.intro (L1.out.1.trans hx) (L1.out.2.ext hx))
  clear hx L1 cs hF2 c0 c1
  go_upto_region 39 with fail
  go_wp2_with fail
  go_at_call 16
  refine (cp.out _ (Hv.out.ext L2.out.1) (Ht.out.ext L2.out.1)).mono ?_
  rintro e w4 ⟨r, rfl, ho, hx⟩
  obtain ⟨rp, rc, rfl⟩ := own_shape ho
  have X1 : Ext w4 (w4.alloc (.cells #[.string N, .slice rp M.length rc] 28)) := (by repeat' (first | exact Ext.refl _ | assumption | refine Ext.alloc ?_ _ | refine Ext.ext ?_ _ | refine Ext.drew ?_ | refine Ext.drewN ?_ _))
  have hG := hid (show (w4.alloc (.cells #[.string N, .slice rp M.length rc] 28)).heap[w4.heap.size]? = some (.cells #[.string N, .slice rp M.length rc] 28 (0, 0)) from heap_at _ rfl)
  have hF4 := hid (blk_ext hF3.out (hx.trans X1))
  have L3 := hid (And.intro ((L2.out.1.trans hx).trans X1) (And.intro (L2.out.2.ext (hx.trans X1)) ((Rd.own ho).ext X1)))
  clear hx X1 L2 cp ho hF3
  go_upto_region 40 with fail
  generalize (w4.alloc (.cells #[.string N, .slice rp M.length rc] 28)) = W4 at *
  generalize w4.heap.size = GX at *
  obtain ⟨⟨c0, c1⟩, -, -⟩ := box2 hF4.out
  obtain ⟨⟨d0, d1⟩, -, -⟩ := box2 hG.out
  go_cut [205] from 3 (fun c wc => c = .bool false ∧ Ext w wc)
  case first =>
    cases B
    · clear hB cv
      go_wp2_with fail
      go_meet
      exact ⟨by simp, L3.out.1⟩
    · obtain ⟨rfl, rfl, rfl⟩ := hB.out (by trivial)
      clear hB
      go_wp2_with fail
      go_at_call 8
      refine (cv.out _ _ _ L3.out.2.2 L3.out.2.1).mono ?_
      rintro e w5 ⟨rfl, hx⟩
      have L4 := hid (L3.out.1.trans hx)
      clear hx L3 cv
      go_wp2_with fail
      go_meet
      exact ⟨by simp, L4.out⟩
  case rest =>
    obtain ⟨rfl, hX⟩ := hcut
    have HX := hid hX
    clear hX
    go_upto_if 205 with fail
    go_cut [] from 3 (fun wc => Ext w wc)
    case first =>
      go_wp2_with fail
      go_meet
      exact HX.out
    case rest =>
      go_step
      exact hn.out _ _ hcut rfl rfl rfl
-- part 2
theorem branches_p2 {bs : List Int} (hb : Bts bs) {p : Option Addr} {cap : Nat} {w : World} (Hr : Hid (Rd w 1 (.slice p bs.length cap) bs.length (vBytes bs))) (hn : Hid (BhTail 34 p bs.length cap w)) : BhTail 29 p bs.length cap w := by
  intro a wc hx h1 h2 h3
  obtain ⟨u, rfl⟩ := frame235 a _ h1 h2 h3
  clear h1 h2 h3
  have HY := hid hx
  clear hx
  have dd := hid (fun w h => spec_DrawBranchesFor hb (v := .slice p bs.length cap) w h)
  clear hb
  unfold bhTl BhPost
  conv => arg 2; whnf
  go_wp2_with fail
  go_at_call 11
  refine (dd.out _ (Hr.out.ext HY.out)).mono ?_
  rintro e w1 ⟨t, s, u1, ps, ms, x, rfl, hg, hx⟩
  obtain ⟨⟨hp9, hs9, hm⟩, hrt, hru⟩ := id hg
  obtain ⟨-, tp, tc, rfl, -⟩ := hrt
  obtain ⟨-, up, uc, rfl, -⟩ := hru
  have L0 := hid (TGB.mk0 hg (HY.out.trans hx))
  clear hg hx HY dd
  have hl := brL_len ps s ms x
  have ci := hid (fun W (h : TGo W (.slice tp ps.length tc) s (.slice up ms.length uc) ps ms) => impl_BranchesFor ps s ms (.slice tp ps.length tc) (.slice up ms.length uc) x W h.2.1 h.2.2 (by omega) (by omega) (by omega))
  have cs := hid (fun W (h : TGo W (.slice tp ps.length tc) s (.slice up ms.length uc) ps ms) => spec_BranchesFor ps s ms (.slice tp ps.length tc) (.slice up ms.length uc) x W h.2.1 h.2.2 (by omega) (by omega) (by omega))
  generalize brL ps s ms x = L at *
  generalize brB ps s ms x = B at *
  have cv := hid (fun z z' W h h' => laws_rInts L z z' W h h' (by omega))
  go_upto_region 30 with fail
  generalize ((w1.alloc (.cells #[.slice tp ps.length tc] 26)).alloc (.cells #[.string s, .slice up ms.length uc] 28)) = W1 at *
  generalize w1.heap.size = T at *
  obtain ⟨c0, c1, c2⟩ := L0.out.cells
  go_wp2_with fail
  go_at_call 9
  refine (ci.out _ L0.out.2.2).mono ?_
  rintro e w2 ⟨r, rfl, ho, hx⟩
  obtain ⟨rp, rc, rfl⟩ := own_shape ho
  have L1 := hid (And.intro (L0.out.ext hx) (Rd.own ho))
  clear hx ho L0 ci c0 c1 c2
  obtain ⟨c0, c1, c2⟩ := L1.out.1.cells
  go_wp2_with fail
  go_at_call 12
  refine (cs.out _ L1.out.1.2.2).mono ?_
  rintro e w3 ⟨r2, rfl, ho, hx⟩
  obtain ⟨sp, sc, rfl⟩ := own_shape ho
  have L2 := hid (And.intro (L1.out.1.ext hx).1 (And.intro (L1.out.2.ext hx) (Rd.own ho)))
  clear hx ho L1 cs c0 c1 c2
  go_upto_region 32 with fail
  go_cut [160] from 3 (fun c wc => c = .bool false ∧ Ext w wc)
  case first =>
    go_wp2_with fail
    go_at_call 8
    refine (cv.out _ _ _ L2.out.2.1 L2.out.2.2).mono ?_
    rintro e w5 ⟨rfl, hx⟩
    have L4 := hid (L2.out.1.trans hx)
    clear hx L2 cv
    go_wp2_with fail
    go_meet
    exact ⟨by simp, L4.out⟩
  case rest =>
    obtain ⟨rfl, hX⟩ := hcut
    have HX := hid hX
    clear hX
    go_upto_if 160 with fail
    go_cut [] from 3 (fun wc => Ext w wc)
    case first =>
      go_wp2_with fail
      go_meet
      exact HX.out
    case rest =>
      go_step
      exact hn.out _ _ hcut rfl rfl rfl
end Go.Proofs.YtlaochpkelbchaaGreatDoor
