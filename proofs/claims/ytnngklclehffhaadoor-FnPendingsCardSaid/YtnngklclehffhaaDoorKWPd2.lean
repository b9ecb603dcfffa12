/- DropMessage of the reference. -/
import Derived.Test.YtnngklclehffhaaDoorKWPd
namespace Go.Proofs.YtnngklclehffhaaDoor
open Go.RowKit
set_option maxHeartbeats 1000000
set_option maxRecDepth 100000
def slc3 (a : Option Addr) (l h m : Nat) : Value := .slice (if m = l then a else a.map (·.add (l * 3))) (h - l) (m - l)
theorem run_upto3 (a : Option Addr) (n k cap : Nat) (h : k ≤ cap) : ∀ w, (Instr.slice 25 (.slice a n cap) none (some (.int .i64 k)) none).run Tryd.prog w = .ok (.slice a k cap) w := fun w => by
  rw [run_slice_h (P := Tryd.prog) w 25 a n cap (by kernel_rfl) .i64 k (by omega) (by omega)]
  have e : (Go.sizeOf (Tryd.prog.elem 25)).run Tryd.prog w = .ok 3 w := by kernel_rfl
  rw [e]
  show Result.ok _ _ = _
  congr 1
  simp only [sliced, Int.toNat_natCast, Nat.sub_zero, Nat.zero_mul]
  cases a with
  | none => simp
  | some a => simp [Addr.add]
theorem run_from3 (a : Option Addr) (n k cap : Nat) (h : k ≤ n) : ∀ w, (Instr.slice 25 (.slice a n cap) (some (.int .i64 k)) none none).run Tryd.prog w = .ok (slc3 a k n cap) w := fun w => by
  rw [run_slice_l (P := Tryd.prog) w 25 a n cap (by kernel_rfl) .i64 k (by omega) (by omega)]
  have e : (Go.sizeOf (Tryd.prog.elem 25)).run Tryd.prog w = .ok 3 w := by kernel_rfl
  rw [e]
  rfl
theorem run_uptoAt3 (a : Option Addr) (n k cap : Nat) (h : k ≤ cap) : ∀ w, (Instr.sliceAt 25 (.slice a n cap) none (some (.int .i64 k)) none).run Tryd.prog w = .ok (.slice a k cap) w := fun w => by
  rw [run_sliceAt_slice (P := Tryd.prog) w 25 _ _ _ _ (by kernel_rfl)]
  exact run_upto3 a n k cap h w
theorem run_fromAt3 (a : Option Addr) (n k cap : Nat) (h : k ≤ n) : ∀ w, (Instr.sliceAt 25 (.slice a n cap) (some (.int .i64 k)) none none).run Tryd.prog w = .ok (slc3 a k n cap) w := fun w => by
  rw [run_sliceAt_slice (P := Tryd.prog) w 25 _ _ _ _ (by kernel_rfl)]
  exact run_from3 a n k cap h w
theorem PRd.drop {w : World} {ps : List Pnd} {es : List Pe} {b off n cap : Nat} (h : PRd w (.slice (some ⟨b, off, none⟩) n cap) ps es) (hc : n ≤ cap) (k : Nat) (hk : k ≤ ps.length) : PRd w (slc3 (some ⟨b, off, none⟩) k n cap) (ps.drop k) (es.drop k) := by
  have hl := h.len
  obtain ⟨h1, ⟨h2, p, c, e, h4⟩, h5⟩ := h
  cases e
  refine ⟨by rw [← h1, List.map_drop], ⟨by rw [pes_len], _, _, by rw [slc3, List.length_drop], ?_⟩, fun e he => h5 e (List.mem_of_mem_drop he)⟩
  by_cases h0 : (es.drop k).length = 0
  · exact .inl h0
  · rw [List.length_drop] at h0
    obtain ⟨b', off', e, h6⟩ := h4.resolve_left (by omega)
    cases e
    rw [if_neg (by omega)]
    refine .inr ⟨b, off + k * 3, by simp [Addr.add_lit], fun j hj => ?_⟩
    have e3 : (es.flatMap Pe.cs) = (es.take k).flatMap Pe.cs ++ (es.drop k).flatMap Pe.cs := by rw [← List.flatMap_append, List.take_append_drop]
    have e4 : ((es.take k).flatMap Pe.cs).length = k * 3 := by rw [pes_len, List.length_take]; omega
    have hj2 : k * 3 + j < (es.flatMap Pe.cs).length := by rw [e3, List.length_append, e4]; omega
    rw [Nat.add_assoc, h6 _ hj2]
    congr 1
    simp only [e3]
    rw [List.getElem_append_right (by omega)]
    simp only [e4, Nat.add_sub_cancel_left]
theorem pes_one {w : World} {v : Value} {es : List Pe} (h : PRe w v es) : ∀ u ∈ es.flatMap Pe.cs, u.oneCell' = true := by
  intro u hu
  obtain ⟨x, hx0, hx⟩ := List.mem_flatMap.1 hu
  have hi := h.2 x hx0
  simp only [Pe.cs, List.mem_cons, List.not_mem_nil, or_false] at hx
  rcases hx with rfl | rfl | rfl
  · rfl
  · obtain ⟨p, c, e, -⟩ := rd_block hi.1
    rw [e]; rfl
  · obtain ⟨p, c, e, -⟩ := rd_block hi.2
    rw [e]; rfl
theorem PRd.empty (w : World) (a : Option Addr) (c : Nat) : PRd w (.slice a 0 c) [] [] := ⟨rfl, Rd.nil _ _ _ _, fun _ h => by cases h⟩
theorem PRd.ersOwn {w : World} {B k : Nat} {v : Value} {ps : List Pnd} {ds : List Pe} (h1 : ds.map Pe.p = ps) (h2 : ∀ e ∈ ds, Rd w 1 e.u e.d.length (vStrs e.d) ∧ Rd w 1 e.v e.h.length (vBools e.h))
    (ho : w.ownsRow B 62 3 v ((ds.take k).length + (ds.drop (k + 1)).length) ((ds.take k).flatMap Pe.cs ++ (ds.drop (k + 1)).flatMap Pe.cs)) : PRd w v (ers ps k) (ers ds k) ∧ w.ownsRow B 62 3 v (ers ds k).length ((ers ds k).flatMap Pe.cs) := by
  have e1 : (ers ds k).length = (ds.take k).length + (ds.drop (k + 1)).length := by rw [ers, List.length_append]
  have e2 : (ers ds k).flatMap Pe.cs = (ds.take k).flatMap Pe.cs ++ (ds.drop (k + 1)).flatMap Pe.cs := by rw [ers, List.flatMap_append]
  rw [← e1, ← e2] at ho
  exact ⟨⟨by rw [ers_map, h1], Rd.own ho, fun e he => h2 e (ers_mem he)⟩, ho⟩
theorem spec_DropMessage (ps : List Pnd) (es : List Pe) (v : Value) (x : Int) (w : World) (h : PRd w v ps es) (h2 : ps.length ≤ 1048576) (hs : ∀ i, i < ps.length → (ps.getD i .z).d.length ≤ 1048576 ∧ (ps.getD i .z).h.length ≤ 1048576 ∧ ∀ j, j < (ps.getD i .z).d.length → ((ps.getD i .z).d.getD j ByteArray.empty).size ≤ 1048576) :
    Calls Tryd.prog 20 #[v, .int .i64 x] w fun e w' => ∃ r ds, e = .returned (.tuple #[r, .bool (lkB ps x)]) ∧ PRd w' r (drL ps x) ds ∧ Ext w w' := by
  have Hv := hid h
  have hf := hid (fun w h => spec_l23Find ps es v x w h h2)
  have hg := hid (fun w h => spec_l23Good ps es v w h h2 hs)
  cases e0 : lkB ps x
  · rw [drL_no e0]
    rcases lkB_no e0 with e1 | ⟨e1, e2⟩
    · rw [e1] at hg
      generalize fndP ps x = F at *
      clear h hs e0 e1
      go_enter Tryd.func20, Tryd.ntmps20
      go_wp2_with (first | (go_at_call 43; refine (hf.out _ Hv.out).mono ?_; rintro e w' ⟨rfl, z1, rfl⟩) | (go_at_call 38; refine (hg.out _ (Hv.out.ext (by repeat' (first | exact Ext.refl _ | assumption | refine Ext.alloc ?_ _ | refine Ext.ext ?_ _ | refine Ext.drew ?_ | refine Ext.drewN ?_ _)))).mono ?_; rintro e w' ⟨rfl, z2, rfl⟩))
      go_ret2
      exact ⟨_, _, rfl, PRd.empty _ _ _, (by repeat' (first | exact Ext.refl _ | assumption | refine Ext.alloc ?_ _ | refine Ext.ext ?_ _ | refine Ext.drew ?_ | refine Ext.drewN ?_ _))⟩
    · rw [e1] at hg
      generalize fndP ps x = F at *
      have tF : decide (F < 0) = true := by simp; omega
      clear h hs e0 e1
      go_enter Tryd.func20, Tryd.ntmps20
      go_wp2_with (first | (go_at_call 43; refine (hf.out _ Hv.out).mono ?_; rintro e w' ⟨rfl, z1, rfl⟩) | (go_at_call 38; refine (hg.out _ (Hv.out.ext (by repeat' (first | exact Ext.refl _ | assumption | refine Ext.alloc ?_ _ | refine Ext.ext ?_ _ | refine Ext.drew ?_ | refine Ext.drewN ?_ _)))).mono ?_; rintro e w' ⟨rfl, z2, rfl⟩))
      go_ret2
      exact ⟨_, _, rfl, PRd.empty _ _ _, (by repeat' (first | exact Ext.refl _ | assumption | refine Ext.alloc ?_ _ | refine Ext.ext ?_ _ | refine Ext.drew ?_ | refine Ext.drewN ?_ _))⟩
  · obtain ⟨e1, k, hk, ek, -, -⟩ := lkB_at e0
    have hdr := drL_yes e0
    rw [ek, Int.toNat_natCast] at hdr
    rw [hdr]
    rw [e1] at hg
    rw [ek] at hf
    have tF : decide ((k : Int) < 0) = false := by simp
    have hc := hid (fun w a => spec_l23Own ps es v w a h2 (fun i hi => ⟨(hs i hi).1, (hs i hi).2.1⟩))
    obtain ⟨i0, hi, hz0, hz1, hz2⟩ := info_parts infoPnd
    clear h hs e0 e1 ek hdr
    go_enter Tryd.func20, Tryd.ntmps20
    go_wp2_with (first | (go_at_call 43; refine (hf.out _ Hv.out).mono ?_; rintro e w' ⟨rfl, z1, rfl⟩) | (go_at_call 38; refine (hg.out _ (Hv.out.ext (by repeat' (first | exact Ext.refl _ | assumption | refine Ext.alloc ?_ _ | refine Ext.ext ?_ _ | refine Ext.drew ?_ | refine Ext.drewN ?_ _)))).mono ?_; rintro e w' ⟨rfl, z2, rfl⟩) | fail)
    go_at_call 46
    have XZ : Ext w ((w.ext z1).ext z2) := (by repeat' (first | exact Ext.refl _ | assumption | refine Ext.alloc ?_ _ | refine Ext.ext ?_ _ | refine Ext.drew ?_ | refine Ext.drewN ?_ _))
    generalize (w.ext z1).ext z2 = W at *
    refine (hc.out _ (Hv.out.ext XZ)).mono ?_
    rintro e w3 ⟨r, ds, rfl, ho, hx⟩
    have hne : ps ≠ [] := fun e => by rw [e] at hk; simp at hk
    have hdl := ho.len
    rcases ho.form with ⟨-, e⟩ | ⟨g, c, rfl, hle, hg0, hg1, hg2⟩
    · exact absurd e hne
    have HR := hid ho.rd
    have XX := hid (XZ.trans hx)
    have r1 := run_upto3 (some ⟨g, 0, none⟩) ps.length k c (by omega)
    have r2 := run_uptoAt3 (some ⟨g, 0, none⟩) ps.length k c (by omega)
    have r3 : ∀ w, (Instr.slice 25 (.slice (some ⟨g, 0, none⟩) ps.length c) (some (.int .i64 ((k : Int) + 1))) none none).run Tryd.prog w = .ok (slc3 (some ⟨g, 0, none⟩) (k + 1) ps.length c) w := run_from3 (some ⟨g, 0, none⟩) ps.length (k + 1) c (by omega)
    have r4 : ∀ w, (Instr.sliceAt 25 (.slice (some ⟨g, 0, none⟩) ps.length c) (some (.int .i64 ((k : Int) + 1))) none none).run Tryd.prog w = .ok (slc3 (some ⟨g, 0, none⟩) (k + 1) ps.length c) w := run_fromAt3 (some ⟨g, 0, none⟩) ps.length (k + 1) c (by omega)
    have hlt1 : Hid ((ds.take k).length ≤ 1048576) := by (show _ ≤ _; rw [List.length_take]; omega)
    have hld1 : Hid ((ds.drop (k + 1)).length ≤ 1048576) := by (show _ ≤ _; rw [List.length_drop, hdl]; omega)
    clear hdl
    have w1 : IntKind.i64.wrap ((k : Int) + 1) = (k : Int) + 1 := IntWalk.i64_in _ (by omega)
    have p0 : (0 : Int) ≤ (k : Int) + 1 := by omega
    have p1 : (k : Int) + 1 ≤ (ps.length : Int) := by omega
    have p2 : k + 1 ≤ ps.length := hk
    have p3 : k + 1 ≤ c := by omega
    have p4 : k ≤ c := by omega
    clear ho hx hne
    have hR1 := hid ((HR.out.take k (by omega)).2.1)
    have hR2 := hid ((HR.out.drop hle (k + 1) (by omega)).2.1)
    have hO1 := hid (pes_one (HR.out.take k (by omega)).2)
    have hO2 := hid (pes_one (HR.out.drop hle (k + 1) (by omega)).2)
    go_wp2
    go_region_held3 (fun _ => True) (trivial)
      (first
      | (refine step_append_rdAt _ (by rfl) _ _ _ (by rfl) w3.heap.size 62 i0 _ 3 56 Tryd.underlying25 hi hz0 hz1 hz2 rfl (by omega) _ 0 [] (by rfl) (own_lit_at (by first | exact heap_at _ (by simp) | exact heap_at_d _ (by simp)) (by first | exact Nat.le_refl _ | exact Nat.le_succ _ | omega | (simp; done) | (simp; omega)) rfl) _ (ds.take k).length ((ds.take k).flatMap Pe.cs) (by rfl) (hR1.out.ext (show Ext w3 _ from (by repeat' (first | exact Ext.refl _ | assumption | refine Ext.alloc ?_ _ | refine Ext.ext ?_ _ | refine Ext.drew ?_ | refine Ext.drewN ?_ _)))) hO1.out (by have := hlt1.out; have := hld1.out; unfold maxLen; omega) (by have := hlt1.out; have := hld1.out; omega) (by first | exact Nat.le_refl _ | exact Nat.le_succ _ | omega | (simp; done) | (simp; omega)) ?_; intro v1 w4 ho1 hg1 hat1; (try simp only [Nat.zero_add, List.nil_append] at ho1); obtain ⟨v1p, v1c, rfl⟩ := own_shape ho1; have Y1 : Ext w3 w4 := Ext.grown (show Ext w3 _ from (by repeat' (first | exact Ext.refl _ | assumption | refine Ext.alloc ?_ _ | refine Ext.ext ?_ _ | refine Ext.drew ?_ | refine Ext.drewN ?_ _))) hg1 (fun j e => by cases e; exact (by first | exact Nat.le_refl _ | exact Nat.le_succ _ | omega | (simp; done) | (simp; omega))))
      | (refine step_append_rdAt _ (by rfl) _ _ _ (by rfl) w3.heap.size 62 i0 _ 3 56 Tryd.underlying25 hi hz0 hz1 hz2 rfl (by omega) _ (ds.take k).length ((ds.take k).flatMap Pe.cs) (by rfl) ho1 _ (ds.drop (k + 1)).length ((ds.drop (k + 1)).flatMap Pe.cs) (by rfl) (hR2.out.ext (show Ext w3 _ from (by repeat' (first | exact Ext.refl _ | assumption | refine Ext.alloc ?_ _ | refine Ext.ext ?_ _ | refine Ext.drew ?_ | refine Ext.drewN ?_ _)))) hO2.out (by have := hlt1.out; have := hld1.out; unfold maxLen; omega) (by have := hlt1.out; have := hld1.out; omega) Y1.size ?_; intro v2 w5 ho2 hg2 hat2; have Y2 : Ext w3 w5 := Ext.grown Y1 hg2 (fun j e => (own_row ho1 j e).1)))
    all_goals
      have hpr := (PRd.ersOwn (ps := ps) (k := k) HR.out.1 (fun e he => ⟨(HR.out.2.2 e he).1.ext Y2, (HR.out.2.2 e he).2.ext Y2⟩) ho2).1
      have K := hid (And.intro hpr (XX.out.trans Y2))
      clear hpr ho1 ho2 hg1 hg2 hat1 hat2 Y1 Y2
      go_wp2
      go_ret2
      exact ⟨_, _, rfl, K.out.1, K.out.2⟩
end Go.Proofs.YtnngklclehffhaaDoor
