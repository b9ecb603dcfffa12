/- FnMessages: the walk. -/
import Derived.Test.YtnngklclehffhaaGreatDoorKWMsL
import Derived.Test.YtnngklclehffhaaGreatDoorKWCurMs
import Derived.Test.YtnngklclehffhaaGreatDoorJ26
import Derived.Test.YtnngklclehffhaaGreatDoorJ30
import Derived.Test.YtnngklclehffhaaGreatDoorKWPt2
import Derived.Test.YtnngklclehffhaaGreatDoorJ43
import Derived.Deep.DeepCutAuto
namespace Go.Proofs.YtnngklclehffhaaGreatDoor
open Go.RowKit
set_option maxHeartbeats 4000000
set_option maxRecDepth 100000
theorem frame201 (a : Act) (v : Value) (h1 : a.defers = []) (h2 : a.tmps.size = 201) (h3 : a.tmps.getD 0 undef = v) : ∃ u : Nat → Value, a = ⟨#[v, u 1, u 2, u 3, u 4, u 5, u 6, u 7, u 8, u 9, u 10, u 11, u 12, u 13, u 14, u 15, u 16, u 17, u 18, u 19, u 20, u 21, u 22, u 23, u 24, u 25, u 26, u 27, u 28, u 29, u 30, u 31, u 32, u 33, u 34, u 35, u 36, u 37, u 38, u 39, u 40, u 41, u 42, u 43, u 44, u 45, u 46, u 47, u 48, u 49, u 50, u 51, u 52, u 53, u 54, u 55, u 56, u 57, u 58, u 59, u 60, u 61, u 62, u 63, u 64, u 65, u 66, u 67, u 68, u 69, u 70, u 71, u 72, u 73, u 74, u 75, u 76, u 77, u 78, u 79, u 80, u 81, u 82, u 83, u 84, u 85, u 86, u 87, u 88, u 89, u 90, u 91, u 92, u 93, u 94, u 95, u 96, u 97, u 98, u 99, u 100, u 101, u 102, u 103, u 104, u 105, u 106, u 107, u 108, u 109, u 110, u 111, u 112, u 113, u 114, u 115, u 116, u 117, u 118, u 119, u 120, u 121, u 122, u 123, u 124, u 125, u 126, u 127, u 128, u 129, u 130, u 131, u 132, u 133, u 134, u 135, u 136, u 137, u 138, u 139, u 140, u 141, u 142, u 143, u 144, u 145, u 146, u 147, u 148, u 149, u 150, u 151, u 152, u 153, u 154, u 155, u 156, u 157, u 158, u 159, u 160, u 161, u 162, u 163, u 164, u 165, u 166, u 167, u 168, u 169, u 170, u 171, u 172, u 173, u 174, u 175, u 176, u 177, u 178, u 179, u 180, u 181, u 182, u 183, u 184, u 185, u 186, u 187, u 188, u 189, u 190, u 191, u 192, u 193, u 194, u 195, u 196, u 197, u 198, u 199, u 200], []⟩ :=
  ⟨fun i => a.tmps.getD i undef, frame_arg a 200 h1 h2 v h3⟩
def MsPost (w : World) : Exit → Act → World → Prop := bodyPost Tryz.prog Tryz.f3 (fun e w' => e = .returned (.bool true) ∧ Ext w w')
noncomputable def msTl (n : Nat) : Code := (Tryz.f3.body.getD .skip).tailAt n
def MsTail (n : Nat) (p : Option Addr) (m cap : Nat) (w : World) : Prop := ∀ (a : Act) (wc : World), Ext w wc → a.defers = [] → a.tmps.size = 201 → a.tmps.getD 0 undef = .slice p m cap → Code.wp Tryz.prog (msTl n) (MsPost w) a wc
-- part 3
theorem msg_p3 {bs : List Int} (hb : Bts bs) {p : Option Addr} {cap : Nat} {w : World} (Hr : Hid (Rd w 1 (.slice p bs.length cap) bs.length (vBytes bs))) (Hv : Hid (Vrs w)) (Ht : Hid (Tab w)) : MsTail 28 p bs.length cap w := by
  intro a wc hx h1 h2 h3
  obtain ⟨u, rfl⟩ := frame201 a _ h1 h2 h3
  clear h1 h2 h3
  have HY := hid hx
  clear hx
  have dd := hid (fun w h => spec_DrawParseFragment hb (v := .slice p bs.length cap) w h)
  clear hb
  unfold msTl MsPost
  conv => arg 2; whnf
  go_wp2_with fail
  go_at_call 15
  refine (dd.out _ (Hr.out.ext HY.out)).mono ?_
  rintro e w1 ⟨u0, rfl, hus, hx⟩
  have L0 := hid (HY.out.trans hx)
  clear hx HY dd
  have ci := hid (fun W hv ht => impl_ParseFragment u0 W hv ht (by omega))
  have hl := hid (fun (f : Fra) (h : PFi u0 = some f) => PFi_iff.1 h)
  generalize PFi u0 = o at *
  have hB : Hid (o.isSome = true → okF (pfF o) = true ∧ ftT (pfF o) = u0) := fun h => by
    cases o with
    | none => cases h
    | some f =>
      have := hl.out f rfl
      refine ⟨this.1, ?_⟩
      show ftT f = u0
      rw [ftT, this.1, if_pos rfl]
      exact this.2
  have hz : Hid ((pfF o).d.size ≤ 1048576) := by
    cases o with
    | none => show (0 : Nat) ≤ _; omega
    | some f =>
      have := hl.out f rfl
      have := itm_size (okF_iff this.1).2.2.2
      show f.d.size ≤ _
      omega
  clear hl
  generalize pfF o = F at *
  generalize o.isSome = ok at *
  obtain ⟨n, i, k, d⟩ := F
  dsimp only at ci hz
  have cf := hid (fun W => impl_FragmentText n i k d W hz.out)
  generalize ftT ⟨n, i, k, d⟩ = T at *
  generalize okF ⟨n, i, k, d⟩ = B at *
  go_wp2_with fail
  go_at_call 13
  refine (ci.out _ (Hv.out.ext L0.out) (Ht.out.ext L0.out)).mono ?_
  rintro e w2 ⟨rfl, hx⟩
  have X1 : Ext w2 (w2.alloc (.cells #[.int .i64 n, .int .i64 i, .int .i64 k, .string d] 31)) := (by repeat' (first | exact Ext.refl _ | assumption | refine Ext.alloc ?_ _ | refine Ext.ext ?_ _ | refine Ext.drew ?_ | refine Ext.drewN ?_ _))
  have hF := hid (show (w2.alloc (.cells #[.int .i64 n, .int .i64 i, .int .i64 k, .string d] 31)).heap[w2.heap.size]? = some (.cells #[.int .i64 n, .int .i64 i, .int .i64 k, .string d] 31 (0, 0)) from heap_at _ rfl)
  have L1 := hid ((L0.out.trans hx).trans X1)
  clear hx X1 L0 ci hz
  go_upto_region 30 with fail
  generalize (w2.alloc (.cells #[.int .i64 n, .int .i64 i, .int .i64 k, .string d] 31)) = W2 at *
  generalize w2.heap.size = FX at *
  obtain ⟨⟨c0, c1, c2, c3⟩, -, -⟩ := box4 hF.out
  go_wp2_with fail
  go_at_call 12
  refine (cf.out _).mono ?_
  rintro e w3 ⟨rfl, hx⟩
  have L2 := hid (L1.out.trans hx)
  clear hx L1 cf hF c0 c1 c2 c3
  cases ok
  · clear hB
    go_wp2
    go_ret
    exact ⟨rfl, L2.out⟩
  · obtain ⟨rfl, rfl⟩ := hB.out (by trivial)
    have t0 : (T.toList == T.toList) = true := by simp
    clear hB
    go_wp2
    go_ret
    exact ⟨rfl, L2.out⟩
-- part 2
theorem msg_p2 {bs : List Int} (hb : Bts bs) {p : Option Addr} {cap : Nat} {w : World} (Hr : Hid (Rd w 1 (.slice p bs.length cap) bs.length (vBytes bs))) (Hv : Hid (Vrs w)) (Ht : Hid (Tab w)) (hn : Hid (MsTail 28 p bs.length cap w)) : MsTail 22 p bs.length cap w := by
  intro a wc hx h1 h2 h3
  obtain ⟨u, rfl⟩ := frame201 a _ h1 h2 h3
  clear h1 h2 h3
  have HY := hid hx
  clear hx
  have dd := hid (fun w h => spec_DrawFragmentText hb (v := .slice p bs.length cap) w h)
  clear hb
  unfold msTl MsPost
  conv => arg 2; whnf
  go_wp2_with fail
  go_at_call 11
  refine (dd.out _ (Hr.out.ext HY.out)).mono ?_
  rintro e w1 ⟨f, rfl, hds, hx⟩
  obtain ⟨n, i, k, d⟩ := f
  dsimp only at hds
  have X1 : Ext w1 (w1.alloc (.cells #[.int .i64 n, .int .i64 i, .int .i64 k, .string d] 31)) := (by repeat' (first | exact Ext.refl _ | assumption | refine Ext.alloc ?_ _ | refine Ext.ext ?_ _ | refine Ext.drew ?_ | refine Ext.drewN ?_ _))
  have hF := hid (show (w1.alloc (.cells #[.int .i64 n, .int .i64 i, .int .i64 k, .string d] 31)).heap[w1.heap.size]? = some (.cells #[.int .i64 n, .int .i64 i, .int .i64 k, .string d] 31 (0, 0)) from heap_at _ rfl)
  have L0 := hid ((HY.out.trans hx).trans X1)
  clear hx X1 HY dd
  have ci := hid (fun W => impl_FragmentText n i k d W (by omega))
  have cs := hid (fun W => spec_FragmentText n i k d W (by omega))
  have cv := hid (fun W => impl_IsValidFragment n i k d W (by omega))
  have hT : Hid ((ftT ⟨n, i, k, d⟩).size ≤ 1048576) := by
    rw [Hid, ftT]
    split
    · rename_i h
      have := fraT_size h
      omega
    · decide
  have hB : Hid (okF ⟨n, i, k, d⟩ = true → (PFi (ftT ⟨n, i, k, d⟩)).isSome = true ∧ pfF (PFi (ftT ⟨n, i, k, d⟩)) = ⟨n, i, k, d⟩) := fun h => by
    have : PFi (ftT ⟨n, i, k, d⟩) = some ⟨n, i, k, d⟩ := PFi_iff.2 ⟨h, by rw [ftT, h, if_pos rfl]⟩
    rw [this]
    exact ⟨rfl, rfl⟩
  generalize ftT ⟨n, i, k, d⟩ = T at *
  generalize okF ⟨n, i, k, d⟩ = B at *
  have cp := hid (fun W hv ht => impl_ParseFragment T W hv ht hT.out)
  generalize pfF (PFi T) = F at *
  generalize (PFi T).isSome = ok at *
  obtain ⟨n', i', k', d'⟩ := F
  dsimp only at cp
  go_upto_region 23 with fail
  generalize (w1.alloc (.cells #[.int .i64 n, .int .i64 i, .int .i64 k, .string d] 31)) = W1 at *
  generalize w1.heap.size = FX at *
  obtain ⟨⟨c0, c1, c2, c3⟩, -, -⟩ := box4 hF.out
  go_wp2_with fail
  go_at_call 12
  refine (ci.out _).mono ?_
  rintro e w3 ⟨rfl, hx⟩
  have L1 := hid (L0.out.trans hx)
  have hF1 := hid (blk_ext hF.out hx)
  clear hx L0 ci hF c0 c1 c2 c3
  go_wp2_with fail
  go_at_call 13
  refine (cp.out _ (Hv.out.ext L1.out) (Ht.out.ext L1.out)).mono ?_
  rintro e w4 ⟨rfl, hx⟩
  have X1 : Ext w4 (w4.alloc (.cells #[.int .i64 n', .int .i64 i', .int .i64 k', .string d'] 31)) := (by repeat' (first | exact Ext.refl _ | assumption | refine Ext.alloc ?_ _ | refine Ext.ext ?_ _ | refine Ext.drew ?_ | refine Ext.drewN ?_ _))
  have hG := hid (show (w4.alloc (.cells #[.int .i64 n', .int .i64 i', .int .i64 k', .string d'] 31)).heap[w4.heap.size]? = some (.cells #[.int .i64 n', .int .i64 i', .int .i64 k', .string d'] 31 (0, 0)) from heap_at _ rfl)
  have L2 := hid ((L1.out.trans hx).trans X1)
  have hF2 := hid (blk_ext hF1.out (hx.trans X1))
  clear hx X1 L1 cp hF1
  go_upto_region 25 with fail
  generalize (w4.alloc (.cells #[.int .i64 n', .int .i64 i', .int .i64 k', .string d'] 31)) = W4 at *
  generalize w4.heap.size = GX at *
  obtain ⟨⟨c0, c1, c2, c3⟩, -, -⟩ := box4 hF2.out
  go_wp2_with fail
  go_at_call 14
  refine (cs.out _).mono ?_
  rintro e w5 ⟨rfl, hx⟩
  have L3 := hid (L2.out.trans hx)
  have hF3 := hid (blk_ext hF2.out hx)
  have hG3 := hid (blk_ext hG.out hx)
  clear hx L2 cs hF2 hG c0 c1 c2 c3
  obtain ⟨⟨c0, c1, c2, c3⟩, -, -⟩ := box4 hF3.out
  have t0 : (T.toList == T.toList) = true := by simp
  go_upto_region 26 with fail
  go_cut [178] from 3 (fun c wc => c = .bool false ∧ Ext w wc)
  case first =>
    go_wp2_with fail
    go_at_call 8
    refine (cv.out _).mono ?_
    rintro e w6 ⟨rfl, hx⟩
    have L4 := hid (L3.out.trans hx)
    have hF4 := hid (blk_ext hF3.out hx)
    have hG4 := hid (blk_ext hG3.out hx)
    clear hx L3 cv hF3 hG3 c0 c1 c2 c3
    obtain ⟨⟨c0, c1, c2, c3⟩, -, -⟩ := box4 hF4.out
    obtain ⟨⟨d0, d1, d2, d3⟩, -, -⟩ := box4 hG4.out
    cases B
    · clear hB
      go_wp2_with fail
      go_meet
      exact ⟨by simp, L4.out⟩
    · obtain ⟨rfl, e2⟩ := hB.out (by trivial)
      injection e2 with e3 e4 e5 e6
      subst e3
      subst e4
      subst e5
      subst e6
      clear hB
      have t1 : (d'.toList == d'.toList) = true := by simp
      go_wp2_with fail
      go_meet
      exact ⟨by simp, L4.out⟩
  case rest =>
    obtain ⟨rfl, hX⟩ := hcut
    have HX := hid hX
    clear hX
    go_upto_if 178 with fail
    go_cut [] from 3 (fun wc => Ext w wc)
    case first =>
      go_wp2_with fail
      go_meet
      exact HX.out
    case rest =>
      go_step
      exact hn.out _ _ hcut rfl rfl rfl
end Go.Proofs.YtnngklclehffhaaGreatDoor
