/- A packet decoded: the program's side. -/
import Derived.Test.YtljknhocfjpolaaGreatDoorJ39
import Derived.Test.YtljknhocfjpolaaGreatDoorJ18
import Derived.Test.YtljknhocfjpolaaGreatDoorJ10
import Derived.Test.YtljknhocfjpolaaGreatDoorKWDelC
import Derived.Test.YtljknhocfjpolaaGreatDoorJ4
import Derived.Deep.DeepCutAuto
import Derived.Deep.RegionHeld3
namespace Go.Proofs.YtljknhocfjpolaaGreatDoor
open Go.RowKit
set_option maxHeartbeats 2000000
set_option maxRecDepth 100000
theorem or256 {x y : Int} (h : 0 ≤ x ∧ x ≤ 255) (k : 0 ≤ y ∧ y ≤ 255) : bits .or .i64 (x * 256) y = 256 * x + y := by
  rw [Int.mul_comm]
  obtain ⟨a, rfl⟩ := Int.eq_ofNat_of_zero_le h.1
  obtain ⟨b, rfl⟩ := Int.eq_ofNat_of_zero_le k.1
  have e0 : (256 : Int) * (a : Int) = ((256 * a : Nat) : Int) := by simp
  rw [e0]
  have e1 : (BitVec.ofInt 64 ((256 * a : Nat) : Int)).toNat = 256 * a := by
    rw [BitVec.ofInt_natCast, BitVec.toNat_ofNat]; exact Nat.mod_eq_of_lt (by omega)
  have e2 : (BitVec.ofInt 64 (b : Int)).toNat = b := by
    rw [BitVec.ofInt_natCast, BitVec.toNat_ofNat]; exact Nat.mod_eq_of_lt (by omega)
  show IntKind.i64.wrap ((BitVec.ofInt 64 ((256 * a : Nat) : Int) ||| BitVec.ofInt 64 (b : Int)).toNat : Int) = _
  have e3 : 256 * a ||| b = 256 * a + b := by
    have := Nat.shiftLeft_add_eq_or_of_lt (i := 8) (b := b) (by omega) a
    rw [Nat.shiftLeft_eq, Nat.mul_comm] at this
    exact this.symm
  rw [BitVec.toNat_or, e1, e2, e3, IntWalk.i64_in _ (by omega)]
  omega
theorem impl_EncodePacket_no (c m r l : Int) (d : ByteArray) (w : World) (hd : d.size ≤ 1048576) (h : okPk c m r l d = false) :
    Calls Tryz.prog 90 #[.agg #[.int .i64 c, .int .i64 m, .int .i64 r, .int .i64 l, .string d]] w fun e w' => e = .returned (.tuple #[.string ⟨#[]⟩, .bool false]) ∧ Ext w w' := by
  have hc := hid (fun w => impl_IsValidPacket c m r l d w hd)
  rw [h] at hc
  clear h
  go_enter Tryz.func90, Tryz.ntmps90
  go_wp2_with fail
  go_at_call 54
  refine (hc.out _).mono ?_
  rintro e w1 ⟨rfl, hx⟩
  have H1 := hid ((show Ext w _ from (by repeat' (first | exact Ext.refl _ | assumption | refine Ext.alloc ?_ _ | refine Ext.ext ?_ _ | refine Ext.drew ?_ | refine Ext.drewN ?_ _))).trans hx)
  clear hx
  go_wp2
  go_ret2
  exact ⟨rfl, H1.out⟩
theorem conv_one (w : World) {x : Int} (h : 0 ≤ x ∧ x ≤ 255) : (convert 28 9 (.slice (some ⟨w.heap.size, 0, none⟩) 1 1)).run Tryz.prog (w.alloc (.cells #[.int .u8 x] 5)) = .ok (.string (mkS [UInt8.ofNat x.toNat])) (w.alloc (.cells #[.int .u8 x] 5)) := by
  obtain ⟨a, rfl⟩ := Int.eq_ofNat_of_zero_le h.1
  have hr := rd_litC w 5 #[.int .u8 (a : Int)]
  have e : (#[Value.int .u8 (a : Int)] : Array Value).toList = Go.RowKit.vBytes [UInt8.ofNat a] := by
    show [Value.int .u8 (a : Int)] = [Value.int .u8 ((UInt8.ofNat a).toNat : Int)]
    rw [UInt8.toNat_ofNat', Nat.mod_eq_of_lt (by omega)]
  rw [e] at hr
  rw [Int.toNat_natCast]
  exact Go.RowKit.conv_rd (e := 5) (by kernel_rfl) (by kernel_rfl) (by kernel_rfl) hr
/-- While the data is gathered: the result's box, the packet's at P, the octets. -/
def DpS (w W : World) (P b off : Nat) (L : List Int) (x m r l : Int) (d : ByteArray) : Prop :=
  (Ext w W ∧ W.heap[w.heap.size]? = some (.cells #[.int .i64 0, .int .i64 0, .int .i64 0, .int .i64 0, .string ⟨#[]⟩] 46 (0, 0))) ∧
  (W.heap[P]? = some (.cells #[.int .i64 x, .int .i64 m, .int .i64 r, .int .i64 l, .string d] 46 (0, 0)) ∧ w.heap.size < P ∧ b ≠ P) ∧ ∀ i, i < L.length → W.cell? ⟨b, off + i, none⟩ = some (.int .i64 (L.getD i 0))
theorem DpS.ext {w W W' : World} {P b off : Nat} {L : List Int} {x m r l : Int} {d : ByteArray} (h : DpS w W P b off L x m r l d) (hx : Ext W W') : DpS w W' P b off L x m r l d :=
  ⟨⟨h.1.1.trans hx, blk_ext h.1.2 hx⟩, ⟨blk_ext h.2.1.1 hx, h.2.1.2⟩, fun i hi => hx.cell (h.2.2 i hi)⟩
theorem DpS.put {w W : World} {P b off : Nat} {L : List Int} {x m r l : Int} {d : ByteArray} (h : DpS w W P b off L x m r l d) (d' : ByteArray) : DpS w (W.setCell ⟨P, 4, none⟩ (.string d')) P b off L x m r l d' := by
  have hg := grownBy_set W ⟨P, 4, none⟩ (.string d')
  refine ⟨⟨h.1.1.setCell (Nat.le_of_lt h.2.1.2.1) _, blk_grow h.1.2 hg (fun e => by have := Option.some.inj e; have := h.2.1.2.1; dsimp only at *; omega)⟩, ⟨by simpa using heap_setCell_same W P 4 _ _ (.string d') h.2.1.1, h.2.1.2⟩, fun i hi => hg.cell (h.2.2 i hi) (fun e => h.2.1.2.2 (Option.some.inj e))⟩
theorem impl_DecodePacket (s : ByteArray) (w : World) (h : s.size ≤ 1048576) :
    Calls Tryz.prog 89 #[.string s] w fun e w' => ∃ (c m r l : Int) (d : ByteArray), e = .returned (.tuple #[.agg #[.int .i64 c, .int .i64 m, .int .i64 r, .int .i64 l, .string d], .bool (DPb s)]) ∧
      (DPb s = true → c = pkC (ocs s) ∧ m = pkM (ocs s) ∧ r = pkR (ocs s) ∧ l = pkE (ocs s) ∧ d = pkD (ocs s)) ∧ d.size ≤ s.size ∧ Ext w w' := by
  have cd := hid (fun w => impl_decodeOctets s w h)
  have hR0 : Hid (Ext w (w.alloc (.cells #[.int .i64 0, .int .i64 0, .int .i64 0, .int .i64 0, .string ⟨#[]⟩] 46)) ∧ (w.alloc (.cells #[.int .i64 0, .int .i64 0, .int .i64 0, .int .i64 0, .string ⟨#[]⟩] 46)).heap[w.heap.size]? = some (.cells #[.int .i64 0, .int .i64 0, .int .i64 0, .int .i64 0, .string ⟨#[]⟩] 46 (0, 0))) := ⟨(by repeat' (first | exact Ext.refl _ | assumption | refine Ext.alloc ?_ _ | refine Ext.ext ?_ _ | refine Ext.drew ?_ | refine Ext.drewN ?_ _)), heap_at _ rfl⟩
  go_enter Tryz.func89, Tryz.ntmps89
  go_wp2_with fail
  generalize w.alloc (.cells #[.int .i64 0, .int .i64 0, .int .i64 0, .int .i64 0, .string ⟨#[]⟩] 46) = W0 at *
  go_at_call 120
  refine (cd.out _).mono ?_
  rintro e w1 ⟨r, rfl, ho, hx⟩
  have H1 := hid (And.intro (And.intro (hR0.out.1.trans hx) (blk_ext hR0.out.2 hx)) (Rd.own ho))
  obtain ⟨rp, rc, rfl⟩ := own_shape ho
  have Hcap : Hid (0 < (docs s).length → (docs s).length ≤ rc) := fun h => by
    obtain ⟨g', c', e, h1, -⟩ := own_form8 ho h
    cases e
    exact h1
  clear ho hx hR0 cd
  cases hb : hexB s
  · have hD : DPb s = false := by rw [DPb, hb]; rfl
    have HD := hid hD
    obtain ⟨⟨b0, b1, b2, b3, b4⟩, ⟨f0, f1, f2, f3, f4⟩, hbl⟩ := box5 H1.out.1.2
    clear hD hb
    go_wp2
    refine bodyPost_ret (results_ct rfl (box5_set (t := 46) H1.out.1.2 _ _ _ _ _) Tryz.underlying46 rfl (by kernel_rfl) rfl rfl) rfl ⟨0, 0, 0, 0, ⟨#[]⟩, ?_⟩
    rw [HD.out]
    exact ⟨rfl, (fun h => by cases h), Nat.zero_le _, ((((H1.out.1.1.setCell (Nat.le_refl _) _).setCell (Nat.le_refl _) _).setCell (Nat.le_refl _) _).setCell (Nat.le_refl _) _).setCell (Nat.le_refl _) _⟩
  have hL : Hid (docs s = ocs s) := docs_yes hb
  rw [hL.out] at H1 Hcap
  rw [hL.out]
  have hev : s.size % 2 = 0 ∧ hexOk s = true := by rw [hexB, Bool.and_eq_true, decide_eq_true_eq] at hb; exact hb
  have hlen : (ocs s).length = s.size / 2 := octsTo_len _ _
  have hsm : small (ocs s) := octs_small hev.2 (by omega)
  have hDb : DPb s = (decide (20 ≤ s.size) && (decide (s.size ≤ 36) && (okPL (ocs s) && decide (txPL (ocs s) = s)))) := by rw [DPb, hb, Bool.true_and]
  have hw := hid (fun w => impl_within (ocs s).length 10 18 w)
  obtain ⟨⟨b0, b1, b2, b3, b4⟩, ⟨f0, f1, f2, f3, f4⟩, hbl⟩ := box5 H1.out.1.2
  by_cases hin : 10 ≤ (ocs s).length ∧ (ocs s).length ≤ 18
  · have e1 : inB ((ocs s).length : Int) 10 18 = true := inB_iff.2 (by omega)
    rw [e1] at hw
    have hD2 : DPb s = (okPL (ocs s) && decide (txPL (ocs s) = s)) := by rw [hDb, decide_eq_true (show 20 ≤ s.size by omega), decide_eq_true (show s.size ≤ 36 by omega), Bool.true_and, Bool.true_and]
    have HD := hid hD2
    have Hlen := hid hlen
    clear hD2 hDb hb hL e1 hlen hev
    generalize hLs : ocs s = L at *
    have HLs := hid hLs
    clear hLs
    obtain ⟨hl1, hl2⟩ := hin
    obtain ⟨-, p', c', e, h4⟩ := H1.out.2
    cases e
    obtain ⟨b, off, rfl, h6⟩ := h4.resolve_left (by omega)
    have cx := fun i hi => elem1 (Value.int .i64) 0 L h6 i hi
    have a0 := cx 0 (by omega)
    have a1 := cx 1 (by omega)
    have a2 := cx 2 (by omega)
    have a3 := cx 3 (by omega)
    have a4 := cx 4 (by omega)
    have a5 := cx 5 (by omega)
    have a6 := cx 6 (by omega)
    have HX := hid cx
    rw [Nat.add_zero] at a0
    clear cx h6 h4
    have s1 := hsm 1 (by omega)
    have s2 := hsm 2 (by omega)
    have s3 := hsm 3 (by omega)
    have s4 := hsm 4 (by omega)
    have s5 := hsm 5 (by omega)
    have s6 := hsm 6 (by omega)
    have Hsm := hid hsm
    have hpk : pkC L = L.getD 0 0 ∧ pkM L = 256 * L.getD 1 0 + L.getD 2 0 ∧ pkR L = 256 * L.getD 3 0 + L.getD 4 0 ∧ pkE L = 256 * L.getD 5 0 + L.getD 6 0 := ⟨rfl, rfl, rfl, rfl⟩
    clear hsm
    generalize L.getD 0 0 = x0 at *
    generalize L.getD 1 0 = x1 at *
    generalize L.getD 2 0 = x2 at *
    generalize L.getD 3 0 = x3 at *
    generalize L.getD 4 0 = x4 at *
    generalize L.getD 5 0 = x5 at *
    generalize L.getD 6 0 = x6 at *
    go_wp2_with (go_at_call 60; refine (hw.out _).mono ?_; rintro e w' ⟨rfl, rfl⟩)
    have k1 : IntKind.i64.wrap (x1 * 256) = x1 * 256 := IntWalk.i64_in _ (by omega)
    have k3 : IntKind.i64.wrap (x3 * 256) = x3 * 256 := IntWalk.i64_in _ (by omega)
    have k5 : IntKind.i64.wrap (x5 * 256) = x5 * 256 := IntWalk.i64_in _ (by omega)
    have o1 := or256 s1 s2
    have o3 := or256 s3 s4
    have o5 := or256 s5 s6
    rw [← hpk.2.1] at o1
    rw [← hpk.2.2.1] at o3
    rw [← hpk.2.2.2] at o5
    have HC := hid hpk.1
    clear hpk s1 s2 s3 s4 s5 s6
    have n0 : 0 < L.length := by omega
    have n1 : (1 : Int) < (L.length : Int) := by omega
    have n2 : (2 : Int) < (L.length : Int) := by omega
    have n3 : (3 : Int) < (L.length : Int) := by omega
    have n4 : (4 : Int) < (L.length : Int) := by omega
    have n5 : (5 : Int) < (L.length : Int) := by omega
    have n6 : (6 : Int) < (L.length : Int) := by omega
    have hkeep := hid (fun W (hW : Ext w1 W) => (⟨hW.cell a0, hW.cell a1, hW.cell a2, hW.cell a3, hW.cell a4, hW.cell a5, hW.cell a6⟩ : W.cell? ⟨b, off, none⟩ = some (.int .i64 x0) ∧ W.cell? ⟨b, off + 1, none⟩ = some (.int .i64 x1) ∧ W.cell? ⟨b, off + 2, none⟩ = some (.int .i64 x2) ∧ W.cell? ⟨b, off + 3, none⟩ = some (.int .i64 x3) ∧ W.cell? ⟨b, off + 4, none⟩ = some (.int .i64 x4) ∧ W.cell? ⟨b, off + 5, none⟩ = some (.int .i64 x5) ∧ W.cell? ⟨b, off + 6, none⟩ = some (.int .i64 x6)))
    go_region_held3 (fun W => W.cell? ⟨b, off, none⟩ = some (.int .i64 x0) ∧ W.cell? ⟨b, off + 1, none⟩ = some (.int .i64 x1) ∧ W.cell? ⟨b, off + 2, none⟩ = some (.int .i64 x2) ∧ W.cell? ⟨b, off + 3, none⟩ = some (.int .i64 x3) ∧ W.cell? ⟨b, off + 4, none⟩ = some (.int .i64 x4) ∧ W.cell? ⟨b, off + 5, none⟩ = some (.int .i64 x5) ∧ W.cell? ⟨b, off + 6, none⟩ = some (.int .i64 x6))
      (first | (refine hkeep.out _ ?_; (repeat' (first | exact Ext.refl _ | refine Ext.alloc ?_ _ | refine Ext.drew ?_ | (refine Ext.setCell ?_ (by simp) _)))) | fail)
      (first | fail)
    have hbw : b ≠ w1.heap.size := by
      have := (World.block_lt_of_cell? w1 _ a0)
      dsimp only at this
      omega
    have HS : Hid (DpS w (w1.alloc (.cells #[.int .i64 x0, .int .i64 (pkM L), .int .i64 (pkR L), .int .i64 (pkE L), .string ⟨#[]⟩] 46)).drew w1.heap.size b off L x0 (pkM L) (pkR L) (pkE L) (datTo L 0)) := by
      have X1 : Ext w1 (w1.alloc (.cells #[.int .i64 x0, .int .i64 (pkM L), .int .i64 (pkR L), .int .i64 (pkE L), .string ⟨#[]⟩] 46)).drew := (by repeat' (first | exact Ext.refl _ | assumption | refine Ext.alloc ?_ _ | refine Ext.ext ?_ _ | refine Ext.drew ?_ | refine Ext.drewN ?_ _))
      exact ⟨⟨H1.out.1.1.trans X1, blk_ext H1.out.1.2 X1⟩, ⟨heap_at (w := w1) _ rfl, hbl, hbw⟩, fun i hi => X1.cell (HX.out i hi)⟩
    generalize (w1.alloc (.cells #[.int .i64 x0, .int .i64 (pkM L), .int .i64 (pkR L), .int .i64 (pkE L), .string ⟨#[]⟩] 46)).drew = W2 at *
    generalize w1.heap.size = P at *
    clear H1 hkeep HX a0 a1 a2 a3 a4 a5 a6 b0 b1 b2 b3 b4 f0 f1 f2 f3 f4 n0 n1 n2 n3 n4 n5 n6 k1 k3 k5 o1 o3 o5 hw
    obtain ⟨K, hK⟩ : ∃ K, L.length = K + 10 := ⟨L.length - 10, by omega⟩
    have hrc := Hcap.out (by omega)
    have e2 : IntKind.i64.wrap ((L.length : Int) - 2) = (K : Int) + 8 := (IntWalk.i64_in _ (by omega)).trans (by omega)
    have g0 : (0 : Int) ≤ (K : Int) + 8 := by omega
    have g1 : (K : Int) + 8 ≤ (rc : Int) := by omega
    have g2 : ¬ rc = 8 := by omega
    have g3 : ((K : Int) + 8).toNat = K + 8 := by omega
    have HK := hid hK
    have hK8 : K ≤ 8 := by omega
    clear hK Hcap hbl hbw hl1 hl2 hrc
    go_wp2_with fail
    go_loopw [59] (fun v59 wr => ∃ (k : Nat) (yr : World), k ≤ K ∧ v59 = .int .i64 k ∧ yr = wr ∧ Hid (DpS w yr P b off L x0 (pkM L) (pkR L) (pkE L) (datTo L k))) (fun v59 _ => K - (intOf v59).toNat)
    case atStart => exact ⟨0, _, Nat.zero_le _, rfl, rfl, HS⟩
    case round =>
      obtain ⟨k, wr, hk, rfl, rfl, HR⟩ := hrel
      clear HS
      by_cases hlt : k < K
      · have c0 := HR.out.2.2 (8 + k) (by have := HK.out; omega)
        have hx := Hsm.out (8 + k) (by have := HK.out; omega)
        have hsn := hid (datTo_snoc L k)
        rw [show off + (8 + k) = off + 8 + k by omega] at c0
        generalize L.getD (8 + k) 0 = x at c0 hx hsn
        obtain ⟨⟨d0, d1, d2, d3, d4⟩, ⟨f0, f1, f2, f3, f4⟩, hD⟩ := box5 HR.out.2.1.1
        have hdz : (datTo L k).size ≤ 8 := by rw [datTo_size]; omega
        generalize datTo L k = D at *
        have u8 : IntKind.u8.wrap x = x := by have : IntKind.u8.wrap x = x % 256 := rfl; omega
        have hcv := conv_one wr hx
        have H2 := hid ((HR.out.put (D ++ mkS [UInt8.ofNat x.toNat])).ext (show Ext _ ((wr.setCell ⟨P, 4, none⟩ (.string (D ++ mkS [UInt8.ofNat x.toNat]))).alloc (.cells #[.int .u8 x] 5)) from (by repeat' (first | exact Ext.refl _ | assumption | refine Ext.alloc ?_ _ | refine Ext.ext ?_ _ | refine Ext.drew ?_ | refine Ext.drewN ?_ _))))
        have hsz : (mkS [UInt8.ofNat x.toNat]).size = 1 := by rw [mkS_size]; rfl
        generalize mkS [UInt8.ofNat x.toNat] = Y at *
        clear HR hx
        go_wp2_with fail
        go_roundw
        case rel => exact ⟨k + 1, _, by omega, by go_num, rfl, by rw [hsn.out]; exact H2.out⟩
        case measure => simp [intOf]; omega
      · obtain rfl : k = K := by omega
        have hpd : datTo L k = pkD L := by rw [pkD, HK.out]; rfl
        have hdz : (pkD L).size ≤ 8 := by rw [← hpd, datTo_size]; exact hK8
        rw [hpd] at HR
        have hok : okPL L = okPk (pkC L) (pkM L) (pkR L) (pkE L) (pkD L) := rfl
        have htx : txPL L = hexT (octL (pkC L) (pkM L) (pkR L) (pkE L) (pkD L)) := rfl
        rw [HC.out] at hok htx
        have hfin := HC.out
        clear hpd
        generalize okPL L = ok at *
        generalize txPL L = T at *
        generalize hcc : pkC L = cc at *
        obtain rfl := hfin
        generalize hM : pkM L = M at *
        generalize hR : pkR L = R at *
        generalize hE : pkE L = E at *
        generalize hDD : pkD L = D at *
        have HE : Hid (cc = pkC (ocs s) ∧ M = pkM (ocs s) ∧ R = pkR (ocs s) ∧ E = pkE (ocs s) ∧ D = pkD (ocs s)) := by
          show _ ∧ _
          rw [HLs.out]
          exact ⟨hcc.symm, hM.symm, hR.symm, hE.symm, hDD.symm⟩
        clear hcc hM hR hE hDD
        have hs0 : 8 ≤ s.size := by have := HK.out; have := Hlen.out; omega
        obtain ⟨⟨d0, d1, d2, d3, d4⟩, ⟨f0, f1, f2, f3, f4⟩, hD⟩ := box5 HR.out.2.1.1
        cases ok
        · have ce := hid (fun W => impl_EncodePacket_no cc M R E D W (by omega) hok.symm)
          have te : ((⟨#[]⟩ : ByteArray).toList == s.toList) = false := str_no (fun e => by rw [← e] at hs0; exact absurd hs0 (by decide))
          have te2 : s.toList.isEmpty = false := by
            cases hh : s.toList with
            | nil => rw [hh] at te; simp at te
            | cons x y => rfl
          clear hok htx te
          go_wp2_with fail
          go_at_call 90
          refine (ce.out _).mono ?_
          rintro e w9 ⟨rfl, hx⟩
          have H9 := hid (HR.out.ext hx)
          clear hx HR d0 d1 d2 d3 d4 f0 f1 f2 f3 f4 hD
          obtain ⟨⟨b0, b1, b2, b3, b4⟩, ⟨f0, f1, f2, f3, f4⟩, hbl⟩ := box5 H9.out.1.2
          go_wp2
          refine bodyPost_ret (results_ct rfl (box5_set (t := 46) H9.out.1.2 _ _ _ _ _) Tryz.underlying46 rfl (by kernel_rfl) rfl rfl) rfl ⟨0, 0, 0, 0, ⟨#[]⟩, ?_⟩
          rw [HD.out]
          exact ⟨rfl, (fun h => by cases h), Nat.zero_le _, ((((H9.out.1.1.setCell (Nat.le_refl _) _).setCell (Nat.le_refl _) _).setCell (Nat.le_refl _) _).setCell (Nat.le_refl _) _).setCell (Nat.le_refl _) _⟩
        · have ce := hid (fun W => impl_EncodePacket cc M R E D W hok.symm)
          rw [← htx] at ce
          clear hok htx
          by_cases he : T = s
          · have te := str_yes he
            have hd1 : decide (T = s) = true := decide_eq_true he
            have Hd1 := hid hd1
            clear he hd1
            go_wp2_with fail
            go_at_call 90
            refine (ce.out _).mono ?_
            rintro e w9 ⟨rfl, hx⟩
            have H9 := hid (HR.out.ext hx)
            clear hx HR d0 d1 d2 d3 d4 f0 f1 f2 f3 f4 hD
            obtain ⟨⟨b0, b1, b2, b3, b4⟩, ⟨f0, f1, f2, f3, f4⟩, hbl⟩ := box5 H9.out.1.2
            obtain ⟨⟨d0, d1, d2, d3, d4⟩, -, hD⟩ := box5 H9.out.2.1.1
            go_wp2
            refine bodyPost_ret (results_ct rfl (box5_set (t := 46) H9.out.1.2 _ _ _ _ _) Tryz.underlying46 rfl (by kernel_rfl) rfl rfl) rfl ⟨cc, M, R, E, D, ?_⟩
            rw [HD.out, Hd1.out]
            exact ⟨rfl, (fun _ => HE.out), by omega, ((((H9.out.1.1.setCell (Nat.le_refl _) _).setCell (Nat.le_refl _) _).setCell (Nat.le_refl _) _).setCell (Nat.le_refl _) _).setCell (Nat.le_refl _) _⟩
          · have te := str_no he
            have hd1 : decide (T = s) = false := decide_eq_false he
            have Hd1 := hid hd1
            clear he hd1
            go_wp2_with fail
            go_at_call 90
            refine (ce.out _).mono ?_
            rintro e w9 ⟨rfl, hx⟩
            have H9 := hid (HR.out.ext hx)
            clear hx HR d0 d1 d2 d3 d4 f0 f1 f2 f3 f4 hD
            obtain ⟨⟨b0, b1, b2, b3, b4⟩, ⟨f0, f1, f2, f3, f4⟩, hbl⟩ := box5 H9.out.1.2
            go_wp2
            refine bodyPost_ret (results_ct rfl (box5_set (t := 46) H9.out.1.2 _ _ _ _ _) Tryz.underlying46 rfl (by kernel_rfl) rfl rfl) rfl ⟨0, 0, 0, 0, ⟨#[]⟩, ?_⟩
            rw [HD.out, Hd1.out]
            exact ⟨rfl, (fun h => by cases h), Nat.zero_le _, ((((H9.out.1.1.setCell (Nat.le_refl _) _).setCell (Nat.le_refl _) _).setCell (Nat.le_refl _) _).setCell (Nat.le_refl _) _).setCell (Nat.le_refl _) _⟩
  · have e1 : inB ((ocs s).length : Int) 10 18 = false := by rw [Bool.eq_false_iff]; intro h; exact hin (by have := inB_iff.1 h; omega)
    rw [e1] at hw
    have hD : DPb s = false := by
      rw [hDb]
      by_cases h20 : 20 ≤ s.size
      · rw [decide_eq_false (show ¬ s.size ≤ 36 by omega), Bool.false_and, Bool.and_false]
      · rw [decide_eq_false h20, Bool.false_and]
    have HD := hid hD
    clear hD hDb hb hL e1 hlen hsm hev
    generalize (ocs s).length = n at *
    go_wp2_with (go_at_call 60; refine (hw.out _).mono ?_; rintro e w' ⟨rfl, rfl⟩)
    refine bodyPost_ret (results_ct rfl (box5_set (t := 46) H1.out.1.2 _ _ _ _ _) Tryz.underlying46 rfl (by kernel_rfl) rfl rfl) rfl ⟨0, 0, 0, 0, ⟨#[]⟩, ?_⟩
    rw [HD.out]
    exact ⟨rfl, (fun h => by cases h), Nat.zero_le _, ((((H1.out.1.1.setCell (Nat.le_refl _) _).setCell (Nat.le_refl _) _).setCell (Nat.le_refl _) _).setCell (Nat.le_refl _) _).setCell (Nat.le_refl _) _⟩
end Go.Proofs.YtljknhocfjpolaaGreatDoor
