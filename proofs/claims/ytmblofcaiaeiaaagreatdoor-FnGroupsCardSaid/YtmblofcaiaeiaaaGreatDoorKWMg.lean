/- Groups merged: the program's side. -/
import Derived.Test.YtmblofcaiaeiaaaGreatDoorJ32
import Derived.Test.YtmblofcaiaeiaaaGreatDoorJ17
import Derived.Test.YtmblofcaiaeiaaaGreatDoorKWFan
namespace Go.Proofs.YtmblofcaiaeiaaaGreatDoor
open Go.RowKit
set_option maxHeartbeats 400000
set_option maxRecDepth 100000
theorem putAll_len : ∀ (P L : List Int), (putAll L P).length ≤ L.length + P.length
  | [], L => Nat.le_refl _
  | x :: P, L => by
    have h1 := putAll_len P (put L x)
    have h2 := put_len L x
    show (putAll (put L x) P).length ≤ _
    rw [List.length_cons]; omega
def mgB (gs : List Grp) (a b : ByteArray) : Bool := goodG gs && (fhas gs a && fhas gs b) && !decide (a = b)
def mgX (gs : List Grp) (a b : ByteArray) : List Int := putAll (memL gs a) (memL gs b)
def mgI (gs : List Grp) (a b : ByteArray) : List Grp := if mgB gs a b then ers (gs.set (fidx gs a) ⟨a, mgX gs a b⟩) (fidx gs b) else []
theorem mgI_no {gs : List Grp} {a b : ByteArray} (h : mgB gs a b = false) : mgI gs a b = [] := by rw [mgI, h]; rfl
theorem mgI_yes {gs : List Grp} {a b : ByteArray} (h : mgB gs a b = true) : mgI gs a b = ers (gs.set (fidx gs a) ⟨a, mgX gs a b⟩) (fidx gs b) := by rw [mgI, h]; rfl
theorem mgB_all {gs : List Grp} {a b : ByteArray} (h : mgB gs a b = true) : goodG gs = true ∧ fhas gs a = true ∧ fhas gs b = true ∧ a ≠ b := by
  simp only [mgB, Bool.and_eq_true, Bool.not_eq_true', decide_eq_false_iff_not] at h
  exact ⟨h.1.1, h.1.2.1, h.1.2.2, h.2⟩
theorem memL_ok {gs : List Grp} (h : goodG gs = true) {a : ByteArray} (ha : fhas gs a = true) : asc (memL gs a) ∧ ∀ y ∈ memL gs a, 1 ≤ y ∧ y ≤ 7 := by
  rw [memL_at ha]
  have := goodG_mem h _ (fhas_get ha).1
  exact ⟨this.2.2.2.1, this.2.2.2.2⟩
theorem mgX_small {gs : List Grp} (h : goodG gs = true) {a b : ByteArray} (ha : fhas gs a = true) (hb : fhas gs b = true) : (mgX gs a b).length ≤ 8 := by
  obtain ⟨a1, a2⟩ := memL_ok h ha
  obtain ⟨b1, b2⟩ := memL_ok h hb
  have := asc_len (n := 8) (mgX gs a b) 0 (putAll_asc _ _ a1) (fun y hy => by
    rcases (putAll_mem _ _ _).1 hy with h1 | h1
    · have := a2 y h1; omega
    · have := b2 y h1; omega)
  omega
theorem mgI_small (gs : List Grp) (a b : ByteArray) : small (mgI gs a b) := by
  cases h : mgB gs a b
  · rw [mgI_no h]; exact small_nil
  · obtain ⟨hg, ha, hb, -⟩ := mgB_all h
    rw [mgI_yes h]
    exact small_ers (small_set (small_good hg) _ (fhas_get ha).1 _ (mgX_small hg ha hb)) _ (by rw [List.length_set]; exact (fhas_get hb).1)
theorem impl_MergeGroups (gs : List Grp) (cs : List Gc) (q : Nat) {qc : Nat} (a b : ByteArray) (w : World) (h : GRd w (.slice (some ⟨q, 0, none⟩) gs.length qc) gs cs) (h2 : gs.length ≤ 1048576) (h3 : Grp.sum gs ≤ 1048576) :
    Calls Tryz.prog 15 #[.slice (some ⟨q, 0, none⟩) gs.length qc, .string a, .string b] w fun e w' => ∃ r ds, e = .returned (.tuple #[r, .bool (mgB gs a b)]) ∧ GOw w' w.heap.size w'.heap.size r (mgI gs a b) ds ∧ Ext w w' := by
  have Hv := hid h
  have h1 := hid (fun w h => impl_hasGroup gs cs (.slice (some ⟨q, 0, none⟩) gs.length qc) a w h h2 h3)
  have h1' := hid (fun w h => impl_hasGroup gs cs (.slice (some ⟨q, 0, none⟩) gs.length qc) b w h h2 h3)
  have hcl := hid (fun w h => impl_cloneGroups gs cs q (qc := qc) w h h2 (fun i hi => (Grp.sum_at h3 hi).2))
  clear h
  have hmb : mgB gs a b = (hgB gs a && hgB gs b && !decide (a = b)) := by
    unfold mgB hgB
    cases goodG gs <;> simp
  cases e1 : hgB gs a
  · have hno : mgB gs a b = false := by rw [hmb, e1]; rfl
    rw [mgI_no hno, hno]
    rw [e1] at h1
    clear hno e1 hmb
    generalize hgP gs a = P at *
    generalize hgP gs b = P' at *
    generalize hgB gs b = B' at *
    go_enter Tryz.func15, Tryz.ntmps15
    go_wp2_with fail
    go_at_call 39
    refine (h1.out _ (Hv.out.ext (by repeat' (first | exact Ext.refl _ | assumption | refine Ext.alloc ?_ _ | refine Ext.ext ?_ _ | refine Ext.drew ?_ | refine Ext.drewN ?_ _)))).mono ?_
    rintro e w' ⟨rfl, z1, rfl⟩
    go_wp2_with fail
    go_at_call 39
    refine (h1'.out _ (Hv.out.ext (by repeat' (first | exact Ext.refl _ | assumption | refine Ext.alloc ?_ _ | refine Ext.ext ?_ _ | refine Ext.drew ?_ | refine Ext.drewN ?_ _)))).mono ?_
    rintro e w' ⟨rfl, z2, rfl⟩
    go_wp2
    go_ret2
    exact ⟨_, _, rfl, GOw.nil _ _ _, (by repeat' (first | exact Ext.refl _ | assumption | refine Ext.alloc ?_ _ | refine Ext.ext ?_ _ | refine Ext.drew ?_ | refine Ext.drewN ?_ _))⟩
  rw [e1] at h1
  cases e2 : hgB gs b
  · have hno : mgB gs a b = false := by rw [hmb, e1, e2]; rfl
    rw [mgI_no hno, hno]
    rw [e2] at h1'
    clear hno e1 e2 hmb
    generalize hgP gs a = P at *
    generalize hgP gs b = P' at *
    go_enter Tryz.func15, Tryz.ntmps15
    go_wp2_with fail
    go_at_call 39
    refine (h1.out _ (Hv.out.ext (by repeat' (first | exact Ext.refl _ | assumption | refine Ext.alloc ?_ _ | refine Ext.ext ?_ _ | refine Ext.drew ?_ | refine Ext.drewN ?_ _)))).mono ?_
    rintro e w' ⟨rfl, z1, rfl⟩
    go_wp2_with fail
    go_at_call 39
    refine (h1'.out _ (Hv.out.ext (by repeat' (first | exact Ext.refl _ | assumption | refine Ext.alloc ?_ _ | refine Ext.ext ?_ _ | refine Ext.drew ?_ | refine Ext.drewN ?_ _)))).mono ?_
    rintro e w' ⟨rfl, z2, rfl⟩
    go_wp2
    go_ret2
    exact ⟨_, _, rfl, GOw.nil _ _ _, (by repeat' (first | exact Ext.refl _ | assumption | refine Ext.alloc ?_ _ | refine Ext.ext ?_ _ | refine Ext.drew ?_ | refine Ext.drewN ?_ _))⟩
  rw [e2] at h1'
  by_cases e3 : a = b
  · have hno : mgB gs a b = false := by rw [hmb, e1, e2, decide_eq_true e3]; rfl
    rw [mgI_no hno, hno]
    have te : (a.toList == b.toList) = true := by rw [e3]; simp
    have hp : hgP gs b = hgP gs a := by rw [e3]
    rw [hp] at h1'
    clear hno e1 e2 hmb e3 hp
    generalize hgP gs a = P at *
    go_enter Tryz.func15, Tryz.ntmps15
    go_wp2_with fail
    go_at_call 39
    refine (h1.out _ (Hv.out.ext (by repeat' (first | exact Ext.refl _ | assumption | refine Ext.alloc ?_ _ | refine Ext.ext ?_ _ | refine Ext.drew ?_ | refine Ext.drewN ?_ _)))).mono ?_
    rintro e w' ⟨rfl, z1, rfl⟩
    go_wp2_with fail
    go_at_call 39
    refine (h1'.out _ (Hv.out.ext (by repeat' (first | exact Ext.refl _ | assumption | refine Ext.alloc ?_ _ | refine Ext.ext ?_ _ | refine Ext.drew ?_ | refine Ext.drewN ?_ _)))).mono ?_
    rintro e w' ⟨rfl, z2, rfl⟩
    go_wp2
    go_ret2
    exact ⟨_, _, rfl, GOw.nil _ _ _, (by repeat' (first | exact Ext.refl _ | assumption | refine Ext.alloc ?_ _ | refine Ext.ext ?_ _ | refine Ext.drew ?_ | refine Ext.drewN ?_ _))⟩
  have te : (a.toList == b.toList) = false := by
    rw [beq_eq_false_iff_ne]; intro h; rw [ByteArray.toList_eq, ByteArray.toList_eq] at h; exact e3 (toList_inj h)
  have hyes : mgB gs a b = true := by rw [hmb, e1, e2, decide_eq_false e3]; rfl
  rw [mgI_yes hyes, hyes]
  obtain ⟨hg, ha, hb, -⟩ := mgB_all hyes
  obtain ⟨ga, gna⟩ := fhas_get ha
  obtain ⟨gb, gnb⟩ := fhas_get hb
  have pa : hgP gs a = (fidx gs a : Int) := by rw [hgP, hg, gpos_fidx (goodG_srt hg) ha]; rfl
  have pb : hgP gs b = (fidx gs b : Int) := by rw [hgP, hg, gpos_fidx (goodG_srt hg) hb]; rfl
  rw [pa] at h1
  rw [pb] at h1'
  obtain ⟨oa, -⟩ := memL_ok hg ha
  have la := memL_small hg a
  have lb := memL_small hg b
  have hne : fidx gs b ≠ fidx gs a := fun e => by rw [e, gna] at gnb; exact e3 gnb
  have hxb := Hv.out.2.2 _ gb
  obtain ⟨c0, c1⟩ := Hv.out.at _ gb
  simp only [Nat.zero_add] at c0 c1
  rw [← memL_at hb] at hxb
  have hset : gs.set (fidx gs a) ⟨a, mgX gs a b⟩ = gs.set (fidx gs a) ⟨(gs.getD (fidx gs a) .z).s, mgX gs a b⟩ := by rw [gna]
  have hset0 : gs = gs.set (fidx gs a) ⟨(gs.getD (fidx gs a) .z).s, putAll (memL gs a) ((memL gs b).take 0)⟩ := by
    have e0 : putAll (memL gs a) ((memL gs b).take 0) = (gs.getD (fidx gs a) .z).xs := by rw [← memL_at ha]; rfl
    rw [e0]
    apply List.ext_getElem?
    intro i
    rw [List.getElem?_set]
    split
    · rename_i e; subst e
      rw [List.getElem?_eq_getElem ga, List.getD_eq_getElem?_getD, List.getElem?_eq_getElem ga]
      rfl
    · rfl
  rw [hset]
  have hX : mgX gs a b = putAll (memL gs a) (memL gs b) := rfl
  rw [hX]
  clear hyes e1 e2 hmb pa pb e3 gna gnb hset hX hg ha hb
  generalize memL gs a = L at *
  generalize memL gs b = K at *
  generalize fidx gs a = ka at *
  generalize fidx gs b = kb at *
  generalize hua : (gs.getD ka .z).s = sa at *
  generalize (cs.getD kb .z).u = ub at *
  have Hxb := hid hxb.2
  have Hset0 := hid hset0
  clear hxb hset0 hua c0
  obtain ⟨up, uc, rfl⟩ : ∃ up uc, ub = .slice up K.length uc := by obtain ⟨-, up, uc, e, -⟩ := Hxb.out; exact ⟨up, uc, e⟩
  go_enter Tryz.func15, Tryz.ntmps15
  go_wp2_with fail
  go_at_call 39
  refine (h1.out _ (Hv.out.ext (by repeat' (first | exact Ext.refl _ | assumption | refine Ext.alloc ?_ _ | refine Ext.ext ?_ _ | refine Ext.drew ?_ | refine Ext.drewN ?_ _)))).mono ?_
  rintro e w' ⟨rfl, z1, rfl⟩
  go_wp2_with fail
  go_at_call 39
  refine (h1'.out _ (Hv.out.ext (by repeat' (first | exact Ext.refl _ | assumption | refine Ext.alloc ?_ _ | refine Ext.ext ?_ _ | refine Ext.drew ?_ | refine Ext.drewN ?_ _)))).mono ?_
  rintro e w' ⟨rfl, z2, rfl⟩
  go_wp2_with fail
  go_at_call 28
  have hX2 : Ext w ((w.ext z1).ext z2) := (by repeat' (first | exact Ext.refl _ | assumption | refine Ext.alloc ?_ _ | refine Ext.ext ?_ _ | refine Ext.drew ?_ | refine Ext.drewN ?_ _))
  have c1 := hX2.cell c1
  generalize ((w.ext z1).ext z2) = w2 at *
  refine (hcl.out _ (Hv.out.ext hX2)).mono ?_
  rintro e w3 ⟨r, ds, rfl, ho3, hx3⟩
  obtain ⟨g, cap, rfl⟩ := own_form ho3.2.1 (by omega)
  have c1 := hx3.cell c1
  have hs23 := hx3.size
  have hgl0 := own_size ho3.2.1
  rw [Hset0.out] at ho3
  have J := hid (And.intro ho3 (hX2.trans hx3))
  have hs2 := hX2.size
  clear ho3 hx3 hX2
  rw [List.length_set] at J
  go_wp2
  go_loopw [46] (fun v46 wr => ∃ (j : Nat) (ds : List Gc), j ≤ K.length ∧ v46 = .int .i64 j ∧ GOw wr w2.heap.size wr.heap.size (.slice (some ⟨g, 0, none⟩) gs.length cap) (gs.set ka ⟨sa, putAll L (K.take j)⟩) ds ∧ Ext w wr) (fun v46 _ => K.length - (intOf v46).toNat)
  case atStart => exact ⟨0, ds, Nat.zero_le _, rfl, J.out.1, J.out.2⟩
  case round =>
    obtain ⟨j, ds, hj, rfl, ho, hx⟩ := hrel
    by_cases hlt : j < K.length
    · obtain ⟨-, p9, c9, e9, q4⟩ := Hxb.out
      cases e9
      obtain ⟨b', off', rfl, q6⟩ := q4.resolve_left (by omega)
      have a1 := hx.cell (elem1 (Value.int .i64) 0 K q6 j hlt)
      have hps := putAll_snoc L K j hlt
      have hpa := putAll_asc (K.take j) L oa
      have hpl := putAll_len (K.take j) L
      have htl : (K.take j).length ≤ K.length := by rw [List.length_take]; omega
      generalize K.getD j 0 = y at a1 hps
      generalize putAll L (K.take j) = M at *
      have hlen : (gs.set ka ⟨sa, M⟩).length = gs.length := List.length_set
      have hgk : (gs.set ka ⟨sa, M⟩).getD ka .z = ⟨sa, M⟩ := by rw [getD_set _ _ _ _ _ ga, if_pos rfl]
      have hmk := ho.2.2.2 ka (by rw [hlen]; exact ga)
      rw [hgk] at hmk
      dsimp only at hmk
      have hrow := ho.2.1
      rw [hlen] at hrow
      obtain ⟨⟨e0, e1⟩, f0, f1⟩ := grp_cells (gs := gs) hrow ka ga
      have hgl := own_size hrow
      have Q := hid (And.intro ho (And.intro hx hmk))
      have Hps := hid hps
      have Hpa := hid hpa
      have c1 := c1
      clear ho hx hmk hrow hps hpa q4 q6
      go_wp2_with fail
      go_at_call 32
      refine (impl_withNode M _ y w2.heap.size _ Q.out.2.2.2.1 Hpa.out (Nat.le_trans hgl.1 (Nat.le_of_lt hgl.2)) (by omega)).mono ?_
      rintro e w4 ⟨r4, rfl, ho4, hg4, hj4⟩
      have hsw := Q.out.1.swap hlen.symm (Nat.le_refl _) ka (by rw [hlen]; exact ga) r4 (put M y) hg4 ho4 hj4 hg4.size (Nat.le_refl _)
      rw [hgk, List.set_set, ← Hps.out] at hsw
      have hrow4 := Q.out.1.rowKept ka (by rw [hlen]; exact ga) hg4
      rw [hlen] at hrow4
      obtain ⟨⟨e0, e1⟩, f0, f1⟩ := grp_cells (gs := gs) hrow4 ka ga
      have hgl4 := (own_size hrow4).2
      have hX4 : Ext w w4 := Ext.grown Q.out.2.1 hg4 (fun j hj => by have := (own_row Q.out.2.2.2.1 j hj).1; omega)
      obtain ⟨rp, rc, rfl⟩ := own_shape ho4
      generalize (put M y).length = m at *
      have hX5 := hX4.setCell (p := ⟨g, ka * 2 + 1, none⟩) (by dsimp only; omega) (.slice rp m rc)
      have hsz5 : (w4.setCell ⟨g, ka * 2 + 1, none⟩ (.slice rp m rc)).heap.size = w4.heap.size := by simp
      rw [← hsz5] at hsw
      have Q5 := hid (And.intro hsw hX5)
      clear hsw hX5 hX4 hrow4 ho4 hg4 hj4 hsz5
      go_wp2
      go_roundw
      case rel => exact ⟨j + 1, _, by omega, by go_num, Q5.out.1, Q5.out.2⟩
      case measure => simp [intOf]; omega
    · obtain rfl : j = K.length := by omega
      rw [List.take_length] at ho
      generalize hX : putAll L K = X at ho
      have HX := hid hX
      clear hX
      have hlen : (gs.set ka ⟨sa, X⟩).length = gs.length := List.length_set
      have hdl := hid (fun W hi h => slices_Delete_grp (w := W) (lo := w2.heap.size) (hi := hi) (g := g) (cap := cap) (gs := gs.set ka ⟨sa, X⟩) (cs := ds) h kb (by rw [hlen]; exact gb) (by rw [hlen]; exact h2))
      rw [hlen] at hdl
      have hrw := ho.2.1
      rw [hlen] at hrw
      have hgl := own_size hrw
      have Q := hid (And.intro ho hx)
      clear hrw
      clear ho hx hlen
      go_wp2_with fail
      go_at_call 42
      refine (hdl.out _ _ Q.out.1).mono ?_
      rintro e w5 ⟨rfl, ho5, hg5⟩
      have hX6 := Ext.grown Q.out.2 hg5 (fun j hj => by cases hj; omega)
      have K2 := hid (And.intro (ho5.wide (lo' := w.heap.size) hs2 hg5.size) hX6)
      clear ho5 hg5 hX6
      go_wp2
      go_ret2
      exact ⟨_, _, rfl, by rw [HX.out]; exact K2.out.1, K2.out.2⟩
end Go.Proofs.YtmblofcaiaeiaaaGreatDoor
