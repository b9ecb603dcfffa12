/- The members that two groups share: both sides. -/
import Derived.Test.YtmblofcaiaeiaaaGreatDoorKWGs6
import Derived.Test.YtmblofcaiaeiaaaGreatDoorKWDel
import Derived.Test.YtmblofcaiaeiaaaGreatDoorJ5
import Derived.Test.YtmblofcaiaeiaaaGreatDoorKWFan
import Derived.Maps.AppendAt
namespace Go.Proofs.YtmblofcaiaeiaaaGreatDoor
open Go.RowKit
set_option maxHeartbeats 400000
set_option maxRecDepth 100000
def smB (gs : List Grp) (a b : ByteArray) : Bool := goodG gs && (fhas gs a && fhas gs b)
def smL (gs : List Grp) (a b : ByteArray) : List Int := if smB gs a b then (memL gs a).filter (fun y => (memL gs b).contains y) else []
theorem smL_no {gs : List Grp} {a b : ByteArray} (h : smB gs a b = false) : smL gs a b = [] := by rw [smL, h]; rfl
theorem smL_yes {gs : List Grp} {a b : ByteArray} (h : smB gs a b = true) : smL gs a b = (memL gs a).filter (fun y => (memL gs b).contains y) := by rw [smL, h]; rfl
theorem memL_at {gs : List Grp} {a : ByteArray} (h : fhas gs a = true) : memL gs a = (gs.getD (fidx gs a) .z).xs := by rw [memL, h]; rfl
theorem memL_small {gs : List Grp} (h : goodG gs = true) (a : ByteArray) : (memL gs a).length ≤ 7 := by
  unfold memL
  split
  · rename_i e
    exact (goodG_mem h _ (fhas_get e).1).2.2.1
  · simp
theorem smL_len (gs : List Grp) (a b : ByteArray) : (smL gs a b).length ≤ 8 := by
  cases h : smB gs a b
  · rw [smL_no h]; simp
  · rw [smL_yes h]
    simp only [smB, Bool.and_eq_true] at h
    have := memL_small h.1 a
    have := List.length_filter_le (fun y => (memL gs b).contains y) (memL gs a)
    omega
theorem impl_SharedMembers_1 (gs : List Grp) (cs : List Gc) (v : Value) (B1 B2 k : Nat) (y : Int) (w : World) (h : GRd w v gs cs) (hk : k < gs.length) (hb1 : w.cell? ⟨B1, 0, none⟩ = some v) (hb2 : w.cell? ⟨B2, 0, none⟩ = some (.int .i64 k)) (hx : (gs.getD k .z).xs.length ≤ 1048576) :
    Calls Tryz.prog 50 #[.int .i64 y, .pointer (some ⟨B1, 0, none⟩), .pointer (some ⟨B2, 0, none⟩)] w fun e w' => e = .returned (.bool (!(gs.getD k .z).xs.contains y)) ∧ Ext w w' := by
  have hnot : ∀ (x : Bool) (w : World), (Op.unary .not (.bool x)).run Tryz.prog w = .ok (.bool (!x)) w := fun _ _ => rfl
  obtain ⟨p, cap, rfl, h4⟩ := h.form
  obtain ⟨b, off, rfl⟩ := h4.resolve_left (by omega)
  obtain ⟨c0, c1⟩ := h.at k hk
  have hcr := (h.2.2 k hk).2
  generalize gs.getD k .z = G at *
  generalize (cs.getD k .z).u = u at *
  obtain ⟨s, xs⟩ := G
  dsimp only at hcr hx ⊢
  have hc := hid (fun w h => slices_Contains xs u y w h hx)
  generalize xs.contains y = c at *
  clear h h4
  go_enter Tryz.func50, Tryz.ntmps50
  go_wp2_with (go_at_call 31; refine (hc.out _ hcr).mono ?_; rintro e w' ⟨rfl, rfl⟩)
  go_ret
  exact ⟨rfl, (by repeat' (first | exact Ext.refl _ | assumption | refine Ext.alloc ?_ _ | refine Ext.ext ?_ _ | refine Ext.drew ?_ | refine Ext.drewN ?_ _))⟩
theorem impl_SharedMembers (gs : List Grp) (cs : List Gc) (v : Value) (a b : ByteArray) (w : World) (h : GRd w v gs cs) (h2 : gs.length ≤ 1048576) (h3 : Grp.sum gs ≤ 1048576) :
    Calls Tryz.prog 17 #[v, .string a, .string b] w fun e w' => ∃ r, e = .returned (.tuple #[r, .bool (smB gs a b)]) ∧ w'.ownsRow w.heap.size 3 1 r (smL gs a b).length (vInts (smL gs a b)) ∧ Ext w w' := by
  have Hv := hid h
  have hmf : ∀ (fn : Fn) (first cap : Array Value) (w : World), (Instr.makeFunc fn first cap).run Tryz.prog w = .ok (.func fn first cap) w := fun _ _ _ _ => rfl
  have h1 := hid (fun w h => impl_hasGroup gs cs v a w h h2 h3)
  have h1' := hid (fun w h => impl_hasGroup gs cs v b w h h2 h3)
  obtain ⟨p, cap, rfl, h4⟩ := h.form
  have H4 := hid h4
  clear h h4
  cases e1 : hgB gs a
  · have hno : smB gs a b = false := by
      unfold hgB at e1
      rw [smB, ← Bool.and_assoc, e1]; rfl
    rw [smL_no hno, hno]
    rw [e1] at h1
    clear hno e1
    generalize hgP gs a = P at *
    generalize hgP gs b = P' at *
    generalize hgB gs b = B' at *
    go_enter Tryz.func17, Tryz.ntmps17
    go_wp2_with fail
    go_at_call 39
    refine (h1.out _ (Hv.out.ext (by repeat' (first | exact Ext.refl _ | assumption | refine Ext.alloc ?_ _ | refine Ext.ext ?_ _ | refine Ext.drew ?_ | refine Ext.drewN ?_ _)))).mono ?_
    rintro e w' ⟨rfl, z1, rfl⟩
    go_wp2_with fail
    go_at_call 39
    refine (h1'.out _ (Hv.out.ext (by repeat' (first | exact Ext.refl _ | assumption | refine Ext.alloc ?_ _ | refine Ext.ext ?_ _ | refine Ext.drew ?_ | refine Ext.drewN ?_ _)))).mono ?_
    rintro e w' ⟨rfl, z2, rfl⟩
    go_wp2
    go_ret2
    exact ⟨_, rfl, World.ownsRow_nil _ _ _ _, (by repeat' (first | exact Ext.refl _ | assumption | refine Ext.alloc ?_ _ | refine Ext.ext ?_ _ | refine Ext.drew ?_ | refine Ext.drewN ?_ _))⟩
  rw [e1] at h1
  cases e2 : hgB gs b
  · have hno : smB gs a b = false := by
      unfold hgB at e2
      rw [smB, Bool.and_comm (fhas gs a), ← Bool.and_assoc, e2]; rfl
    rw [smL_no hno, hno]
    rw [e2] at h1'
    clear hno e1 e2
    generalize hgP gs a = P at *
    generalize hgP gs b = P' at *
    go_enter Tryz.func17, Tryz.ntmps17
    go_wp2_with fail
    go_at_call 39
    refine (h1.out _ (Hv.out.ext (by repeat' (first | exact Ext.refl _ | assumption | refine Ext.alloc ?_ _ | refine Ext.ext ?_ _ | refine Ext.drew ?_ | refine Ext.drewN ?_ _)))).mono ?_
    rintro e w' ⟨rfl, z1, rfl⟩
    go_wp2_with fail
    go_at_call 39
    refine (h1'.out _ (Hv.out.ext (by repeat' (first | exact Ext.refl _ | assumption | refine Ext.alloc ?_ _ | refine Ext.ext ?_ _ | refine Ext.drew ?_ | refine Ext.drewN ?_ _)))).mono ?_
    rintro e w' ⟨rfl, z2, rfl⟩
    go_wp2
    go_ret2
    exact ⟨_, rfl, World.ownsRow_nil _ _ _ _, (by repeat' (first | exact Ext.refl _ | assumption | refine Ext.alloc ?_ _ | refine Ext.ext ?_ _ | refine Ext.drew ?_ | refine Ext.drewN ?_ _))⟩
  rw [e2] at h1'
  have hG : goodG gs = true ∧ fhas gs a = true ∧ fhas gs b = true := by
    simp only [hgB, Bool.and_eq_true] at e1 e2
    exact ⟨e1.1, e1.2, e2.2⟩
  obtain ⟨hg, ha, hb⟩ := hG
  have hyes : smB gs a b = true := by rw [smB, hg, ha, hb]; rfl
  rw [smL_yes hyes, hyes]
  obtain ⟨ga, -⟩ := fhas_get ha
  obtain ⟨gb, -⟩ := fhas_get hb
  have pa : hgP gs a = (fidx gs a : Int) := by rw [hgP, hg, gpos_fidx (goodG_srt hg) ha]; rfl
  have pb : hgP gs b = (fidx gs b : Int) := by rw [hgP, hg, gpos_fidx (goodG_srt hg) hb]; rfl
  rw [pa] at h1
  rw [pb] at h1'
  rw [memL_at ha, memL_at hb]
  have ma := goodG_mem hg _ ga
  have mb := goodG_mem hg _ gb
  obtain ⟨q, off, rfl⟩ := H4.out.resolve_left (by omega)
  obtain ⟨c0, c1⟩ := Hv.out.at _ ga
  have hcr := hid ((Hv.out.2.2 _ ga).2)
  have hdel := fun (r : Value) (B1 B2 : Nat) (wA wB : World) (hv : GRd wA (.slice (some ⟨q, off, none⟩) gs.length cap) gs cs) (hb1 : wA.cell? ⟨B1, 0, none⟩ = some (.slice (some ⟨q, off, none⟩) gs.length cap)) (hb2 : wA.cell? ⟨B2, 0, none⟩ = some (.int .i64 (fidx gs b : Nat))) (ho : wB.ownsRow wA.heap.size 3 1 r (gs.getD (fidx gs a) .z).xs.length (vInts (gs.getD (fidx gs a) .z).xs)) (eB : Ext wA wB) =>
    slices_DeleteFunc_int (gs.getD (fidx gs a) .z).xs (fun y => !(gs.getD (fidx gs b) .z).xs.contains y) 50 #[.pointer (some ⟨B1, 0, none⟩), .pointer (some ⟨B2, 0, none⟩)] (enters_of Tryz.func50 (by kernel_rfl) rfl) r wA wB ho eB (by omega)
      (fun y w'' _ e' => impl_SharedMembers_1 gs cs _ B1 B2 _ y w'' (hv.ext e') gb (e'.cell hb1) (e'.cell hb2) (by omega))
  simp only [Bool.not_not] at hdel
  have hcl := hid (fun w h => slices_Clone (gs.getD (fidx gs a) .z).xs (cs.getD (fidx gs a) .z).u w h (by omega))
  generalize (gs.getD (fidx gs a) .z).xs.filter (fun y => (gs.getD (fidx gs b) .z).xs.contains y) = F at *
  generalize hGa : gs.getD (fidx gs a) .z = G at *
  generalize fidx gs a = ka at *
  generalize fidx gs b = kb at *
  generalize (cs.getD ka .z).u = u at *
  obtain ⟨s, xs⟩ := G
  dsimp only at c0 hcr hdel hcl
  have Hdel := hid hdel
  clear hyes e1 e2 pa pb ha hb hg ma mb hGa hdel
  go_enter Tryz.func17, Tryz.ntmps17
  go_wp2_with fail
  go_at_call 39
  refine (h1.out _ (Hv.out.ext (by repeat' (first | exact Ext.refl _ | assumption | refine Ext.alloc ?_ _ | refine Ext.ext ?_ _ | refine Ext.drew ?_ | refine Ext.drewN ?_ _)))).mono ?_
  rintro e w' ⟨rfl, z1, rfl⟩
  go_wp2_with fail
  go_at_call 39
  refine (h1'.out _ (Hv.out.ext (by repeat' (first | exact Ext.refl _ | assumption | refine Ext.alloc ?_ _ | refine Ext.ext ?_ _ | refine Ext.drew ?_ | refine Ext.drewN ?_ _)))).mono ?_
  rintro e w' ⟨rfl, z2, rfl⟩
  go_wp2_with fail
  go_at_call 49
  have X2 : Ext w (((w.alloc (.cells #[.slice (some ⟨q, off, none⟩) gs.length cap] 24)).ext z1).ext z2) := (by repeat' (first | exact Ext.refl _ | assumption | refine Ext.alloc ?_ _ | refine Ext.ext ?_ _ | refine Ext.drew ?_ | refine Ext.drewN ?_ _))
  have hb1 : (((w.alloc (.cells #[.slice (some ⟨q, off, none⟩) gs.length cap] 24)).ext z1).ext z2).cell? ⟨w.heap.size, 0, none⟩ = some (.slice (some ⟨q, off, none⟩) gs.length cap) := ((((Ext.refl _).ext z1).ext z2) : Ext (w.alloc (.cells #[.slice (some ⟨q, off, none⟩) gs.length cap] 24)) _).cell (by rw [cell_of_row _ _ 0 _ _ (0, 0) (heap_at _ rfl)]; rfl)
  generalize (((w.alloc (.cells #[.slice (some ⟨q, off, none⟩) gs.length cap] 24)).ext z1).ext z2) = W2 at *
  have X3 : Ext w (W2.alloc (.cells #[.int .i64 (kb : Int)] 3)) := X2.trans (by repeat' (first | exact Ext.refl _ | assumption | refine Ext.alloc ?_ _ | refine Ext.ext ?_ _ | refine Ext.drew ?_ | refine Ext.drewN ?_ _))
  have hb13 := ((Ext.refl W2).alloc (.cells #[.int .i64 (kb : Int)] 3)).cell hb1
  have hb23 : (W2.alloc (.cells #[.int .i64 (kb : Int)] 3)).cell? ⟨W2.heap.size, 0, none⟩ = some (.int .i64 (kb : Int)) := by rw [cell_of_row _ _ 0 _ _ (0, 0) (heap_at _ rfl)]; rfl
  refine (hcl.out _ (hcr.out.ext X3)).mono ?_
  rintro e w4 ⟨r4, rfl, ho4, hx4⟩
  have K := hid (And.intro X3 (And.intro hb13 (And.intro hb23 (And.intro ho4 hx4))))
  clear X2 hb1 X3 hb13 hb23 ho4 hx4
  go_wp2_with fail
  go_at_call 40
  obtain ⟨X3, hb13, hb23, ho4, hx4⟩ := K.out
  refine (Hdel.out r4 _ _ _ w4 (Hv.out.ext X3) hb13 hb23 ho4 hx4).mono ?_
  rintro e w5 ⟨r5, rfl, ho5, hx5⟩
  have K5 := hid (And.intro ho5 hx5)
  clear hb13 hb23 ho4 hx4 ho5 hx5
  go_wp2
  go_ret2
  exact ⟨_, rfl, own_mono K5.out.1 X3.size, X3.trans K5.out.2⟩
theorem spec_SharedMembers (gs : List Grp) (cs : List Gc) (v : Value) (a b : ByteArray) (w : World) (h : GRd w v gs cs) (h2 : gs.length ≤ 1048576) (h3 : Grp.sum gs ≤ 1048576) :
    Calls Tryz.prog 18 #[v, .string a, .string b] w fun e w' => ∃ r, e = .returned (.tuple #[r, .bool (smB gs a b)]) ∧ w'.ownsRow w.heap.size 3 1 r (smL gs a b).length (vInts (smL gs a b)) ∧ Ext w w' := by
  have Hv := hid h
  have hg := hid (fun w h => spec_l21Good gs cs v w h h2 h3)
  have hfa := hid (fun w h => spec_l21Find gs cs v a w h h2)
  have hfb := hid (fun w h => spec_l21Find gs cs v b w h h2)
  clear h
  have hl0 : (w.alloc (.cells #[] 3)).ownsRow w.heap.size 3 1 (.slice (some ⟨w.heap.size, 0, none⟩) 0 0) 0 [] := World.ownsRow_lit w #[] 0 (Nat.le_refl _) (Nat.zero_le _) rfl
  have Hl0 := hid hl0
  clear hl0
  have neg : ∀ name, fhas gs name = false → fndI gs name = -1 := fun name e => by rw [fndI, e]; rfl
  have pos : ∀ name, fhas gs name = true → fndI gs name = (fidx gs name : Int) := fun name e => by rw [fndI, e]; rfl
  cases e0 : goodG gs
  · have hno : smB gs a b = false := by rw [smB, e0]; rfl
    rw [smL_no hno, hno]
    rw [e0] at hg
    clear hno e0
    go_enter Tryz.func18, Tryz.ntmps18
    go_wp2_with (go_at_call 34; (refine (hg.out _ (Hv.out.ext (by repeat' (first | exact Ext.refl _ | assumption | refine Ext.alloc ?_ _ | refine Ext.ext ?_ _ | refine Ext.drew ?_ | refine Ext.drewN ?_ _)))).mono ?_); rintro e w' ⟨rfl, z1, rfl⟩)
    go_ret2
    exact ⟨_, rfl, own_ext Hl0.out ⟨z1, rfl⟩, (by repeat' (first | exact Ext.refl _ | assumption | refine Ext.alloc ?_ _ | refine Ext.ext ?_ _ | refine Ext.drew ?_ | refine Ext.drewN ?_ _))⟩
  rw [e0] at hg
  cases e1 : fhas gs a
  · have hno : smB gs a b = false := by rw [smB, e0, e1]; rfl
    rw [smL_no hno, hno]
    rw [neg a e1] at hfa
    clear hno e0 e1 neg pos
    go_enter Tryz.func18, Tryz.ntmps18
    go_wp2_with (first | (go_at_call 34; (refine (hg.out _ (Hv.out.ext (by repeat' (first | exact Ext.refl _ | assumption | refine Ext.alloc ?_ _ | refine Ext.ext ?_ _ | refine Ext.drew ?_ | refine Ext.drewN ?_ _)))).mono ?_); rintro e w' ⟨rfl, z1, rfl⟩) | (go_at_call 48; (refine (hfa.out _ (Hv.out.ext (by repeat' (first | exact Ext.refl _ | assumption | refine Ext.alloc ?_ _ | refine Ext.ext ?_ _ | refine Ext.drew ?_ | refine Ext.drewN ?_ _)))).mono ?_); rintro e w' ⟨rfl, z2, rfl⟩))
    go_ret2
    exact ⟨_, rfl, own_ext (own_ext Hl0.out ⟨z1, rfl⟩) ⟨z2, rfl⟩, (by repeat' (first | exact Ext.refl _ | assumption | refine Ext.alloc ?_ _ | refine Ext.ext ?_ _ | refine Ext.drew ?_ | refine Ext.drewN ?_ _))⟩
  rw [pos a e1] at hfa
  have pa : decide ((fidx gs a : Int) < 0) = false := by simp
  cases e2 : fhas gs b
  · have hno : smB gs a b = false := by rw [smB, e0, e1, e2]; rfl
    rw [smL_no hno, hno]
    rw [neg b e2] at hfb
    clear hno e0 e1 e2 neg pos
    generalize fidx gs a = ka at *
    go_enter Tryz.func18, Tryz.ntmps18
    go_wp2_with (go_at_call 34; (refine (hg.out _ (Hv.out.ext (by repeat' (first | exact Ext.refl _ | assumption | refine Ext.alloc ?_ _ | refine Ext.ext ?_ _ | refine Ext.drew ?_ | refine Ext.drewN ?_ _)))).mono ?_); rintro e w' ⟨rfl, z1, rfl⟩)
    go_at_call 48
    refine (hfa.out _ (Hv.out.ext (by repeat' (first | exact Ext.refl _ | assumption | refine Ext.alloc ?_ _ | refine Ext.ext ?_ _ | refine Ext.drew ?_ | refine Ext.drewN ?_ _)))).mono ?_
    rintro e w' ⟨rfl, z2, rfl⟩
    go_wp2_with fail
    go_at_call 48
    refine (hfb.out _ (Hv.out.ext (by repeat' (first | exact Ext.refl _ | assumption | refine Ext.alloc ?_ _ | refine Ext.ext ?_ _ | refine Ext.drew ?_ | refine Ext.drewN ?_ _)))).mono ?_
    rintro e w' ⟨rfl, z3, rfl⟩
    go_wp2
    go_ret2
    exact ⟨_, rfl, own_ext (own_ext (own_ext Hl0.out ⟨z1, rfl⟩) ⟨z2, rfl⟩) ⟨z3, rfl⟩, (by repeat' (first | exact Ext.refl _ | assumption | refine Ext.alloc ?_ _ | refine Ext.ext ?_ _ | refine Ext.drew ?_ | refine Ext.drewN ?_ _))⟩
  rw [pos b e2] at hfb
  have pb : decide ((fidx gs b : Int) < 0) = false := by simp
  have hyes : smB gs a b = true := by rw [smB, e0, e1, e2]; rfl
  rw [smL_yes hyes, hyes]
  have hma := hid (fun w h => spec_l21Members gs cs v a w h h2 h3)
  have hmb := hid (fun w h => spec_l21Members gs cs v b w h h2 h3)
  have la := memL_small e0 a
  have lb := memL_small e0 b
  generalize memL gs a = K at *
  generalize memL gs b = N at *
  generalize fidx gs a = ka at *
  generalize fidx gs b = kb at *
  have Hts := hid (fun k hk => take_filter_snoc' (p := fun y => N.contains y) (xs := K) (k := k) hk)
  have hhas : ∀ (r : Value) (y : Int) (w : World), Rd w 1 r N.length (vInts N) → Calls Tryz.prog 36 #[r, .int .i64 y] w fun e w' => e = .returned (.bool (N.contains y)) ∧ Ext w w' := fun r y w h => spec_l1Has N r y w h (by omega)
  have hkf : ∀ k, ((K.take k).filter (fun y => N.contains y)).length ≤ 8 := fun k => by
    have h1 := List.length_filter_le (fun y => N.contains y) (K.take k)
    have h2 : (K.take k).length ≤ K.length := by rw [List.length_take]; omega
    omega
  have Hhas := hid hhas
  have Hkf := hid hkf
  obtain ⟨i0, hi0, hz0, hz1, hz2⟩ := info_parts infoInt
  clear hyes e0 e1 e2 neg pos hhas hkf
  go_enter Tryz.func18, Tryz.ntmps18
  go_wp2_with (go_at_call 34; (refine (hg.out _ (Hv.out.ext (by repeat' (first | exact Ext.refl _ | assumption | refine Ext.alloc ?_ _ | refine Ext.ext ?_ _ | refine Ext.drew ?_ | refine Ext.drewN ?_ _)))).mono ?_); rintro e w' ⟨rfl, z1, rfl⟩)
  go_at_call 48
  refine (hfa.out _ (Hv.out.ext (by repeat' (first | exact Ext.refl _ | assumption | refine Ext.alloc ?_ _ | refine Ext.ext ?_ _ | refine Ext.drew ?_ | refine Ext.drewN ?_ _)))).mono ?_
  rintro e w' ⟨rfl, z2, rfl⟩
  go_wp2_with fail
  go_at_call 48
  refine (hfb.out _ (Hv.out.ext (by repeat' (first | exact Ext.refl _ | assumption | refine Ext.alloc ?_ _ | refine Ext.ext ?_ _ | refine Ext.drew ?_ | refine Ext.drewN ?_ _)))).mono ?_
  rintro e w' ⟨rfl, z3, rfl⟩
  go_wp2_with fail
  go_at_call 33
  have hown0 := own_ext (own_ext (own_ext Hl0.out ⟨z1, rfl⟩) ⟨z2, rfl⟩) ⟨z3, rfl⟩
  have X0 : Ext w ((((w.alloc (.cells #[] 3)).ext z1).ext z2).ext z3) := (by repeat' (first | exact Ext.refl _ | assumption | refine Ext.alloc ?_ _ | refine Ext.ext ?_ _ | refine Ext.drew ?_ | refine Ext.drewN ?_ _))
  generalize ((((w.alloc (.cells #[] 3)).ext z1).ext z2).ext z3) = wo at *
  refine (hma.out _ (Hv.out.ext X0)).mono ?_
  rintro e w1 ⟨r1, rfl, ho1, hx1⟩
  have J1 := hid (And.intro hown0 (And.intro X0 (And.intro ho1 hx1)))
  clear hown0 X0 ho1 hx1
  go_wp2_with fail
  go_at_call 33
  obtain ⟨hown0, X0, ho1, hx1⟩ := J1.out
  refine (hmb.out _ (Hv.out.ext (X0.trans hx1))).mono ?_
  rintro e w2 ⟨r2, rfl, ho2, hx2⟩
  have hown1 := own_ext hown0 (hx1.trans hx2)
  have hwo : w.heap.size ≤ wo.heap.size := X0.size
  have hw2 : wo.heap.size ≤ w2.heap.size := (hx1.trans hx2).size
  have hfar : Far wo.heap.size w2.heap.size (.slice (some ⟨w.heap.size, 0, none⟩) 0 0) := fun j hj => by cases hj; exact .inl (own_row hown0 _ rfl).2
  obtain ⟨kp, kc, rfl⟩ := own_shape ho1
  have hok := own_mono (own_ext ho1 hx2) (show wo.heap.size ≤ _ from Nat.le_refl _)
  have hor := own_mono ho2 (show wo.heap.size ≤ _ from hx1.size)
  have Q := hid (And.intro (X0.trans (hx1.trans hx2)) (And.intro hor (And.intro hok hown1)))
  clear hown0 X0 ho1 hx1 ho2 hx2 hown1 hok hor
  go_wp2
  go_loopw [11, 8] (fun v11 v8 wr => ∃ k : Nat, k ≤ K.length ∧ v11 = .int .i64 k ∧ wr.ownsRow w.heap.size 3 1 v8 ((K.take k).filter (fun y => N.contains y)).length (vInts ((K.take k).filter (fun y => N.contains y))) ∧ Ext w wr ∧ Keep wo.heap.size w2 wr ∧ Far wo.heap.size w2.heap.size v8) (fun v11 _ _ => K.length - (intOf v11).toNat)
  case atStart => exact ⟨0, Nat.zero_le _, rfl, Q.out.2.2.2, Q.out.1, Keep.refl _ _, hfar⟩
  case round =>
    obtain ⟨k, hk, rfl, hown, hx, hkp, hfr⟩ := hrel
    by_cases hlt : k < K.length
    · have hrN := Rd.own (hkp.own Q.out.2.1 (Nat.le_refl _))
      obtain ⟨-, p9, c9, e9, q4⟩ := Rd.own (hkp.own Q.out.2.2.1 (Nat.le_refl _))
      cases e9
      obtain ⟨b, off, rfl, q6⟩ := q4.resolve_left (by omega)
      have a1 := elem1 (Value.int .i64) 0 K q6 k hlt
      have hsn := Hts.out k hlt
      have hfl := Hkf.out k
      generalize K.getD k 0 = y at a1 hsn
      have hh := Hhas.out r2 y
      generalize (K.take k).filter (fun y => N.contains y) = M at *
      have Hrn := hid hrN
      have P := hid (And.intro hown (And.intro hx (And.intro hkp hfr)))
      clear hown hx hkp hfr q4 q6 hrN
      cases hc : N.contains y
      · rw [hc] at hsn hh
        have Hsn := hid hsn
        have Hh := hid hh
        clear hsn hh hc
        go_wp2_with fail
        go_at_call 36
        refine (Hh.out _ Hrn.out).mono ?_
        rintro e w3 ⟨rfl, hx3⟩
        have Hx3 := hid hx3
        clear hx3
        go_wp2
        go_roundw
        case rel => exact ⟨k + 1, by omega, by go_num, by rw [Hsn.out]; exact own_ext P.out.1 Hx3.out, P.out.2.1.trans Hx3.out, P.out.2.2.1.ext Hx3.out, P.out.2.2.2⟩
        case measure => simp [intOf]; omega
      · rw [hc] at hsn hh
        have Hsn := hid hsn
        have Hh := hid hh
        clear hsn hh hc
        go_wp2_with fail
        go_at_call 36
        refine (Hh.out _ Hrn.out).mono ?_
        rintro e w3 ⟨rfl, hx3⟩
        have a3 := hx3.cell a1
        have hown3 := own_ext P.out.1 hx3
        have Hx3 := hid hx3
        clear hx3
        go_wp2_with (at_builtin; refine wpList_append_own_at _ rfl _ _ 37 rfl w.heap.size 3 i0 (.int .i64 0) 1 8 Tryz.underlying37 hi0 hz0 hz1 hz2 rfl (by decide) _ _ _ rfl (hown3.alloc _) ⟨_, 0, none⟩ 1 1 [.int .i64 y] rfl rfl ?c1 ?c2 ?c3 ?c4 ?c5 ?_)
        case c1 => (intro j u hj; cases j with | zero => (simp at hj; subst hj; simp [Addr.add]) | succ j => simp at hj)
        case c2 => simp [Value.oneCell']
        case c3 => unfold maxLen; simp; omega
        case c4 => omega
        case c5 => have h1 := Hx3.out.size; have h2 := P.out.2.2.1.1; simp at *; omega
        intro v' w5 hown' hgrow _ hat
        have hx5 := Ext.grown ((P.out.2.1.trans Hx3.out).alloc _) hgrow (fun j hj => by have := (hown3.lt j hj).1; omega)
        have hk5 := (((P.out.2.2.1.ext Hx3.out).ext ((Ext.refl w3).alloc (.cells #[.int .i64 y] 3))).grown hgrow P.out.2.2.2)
        have hf5 := P.out.2.2.2.app (((P.out.2.2.1.ext Hx3.out).ext ((Ext.refl w3).alloc (.cells #[.int .i64 y] 3))).1) (by simpa using hat)
        have K5 := hid (And.intro hown' (And.intro hx5 (And.intro hk5 hf5)))
        clear hown' hx5 hk5 hf5 hgrow hat hown3
        go_wp2
        go_roundw
        case rel => exact ⟨k + 1, by omega, by go_num, by rw [Hsn.out]; simpa [vInts] using K5.out.1, K5.out.2.1, K5.out.2.2.1, K5.out.2.2.2⟩
        case measure => simp [intOf]; omega
    · obtain rfl : k = K.length := by omega
      rw [List.take_length] at hown
      have P := hid (And.intro hown hx)
      clear hown hx hkp hfr
      go_wp2
      go_ret2
      exact ⟨_, rfl, P.out.1, P.out.2⟩
end Go.Proofs.YtmblofcaiaeiaaaGreatDoor
