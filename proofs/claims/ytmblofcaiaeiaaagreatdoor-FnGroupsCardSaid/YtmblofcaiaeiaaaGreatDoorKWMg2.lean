/- Groups merged: the reference's side. -/
import Derived.Test.YtmblofcaiaeiaaaGreatDoorKWMg
import Derived.Test.YtmblofcaiaeiaaaGreatDoorKWPut2
namespace Go.Proofs.YtmblofcaiaeiaaaGreatDoor
open Go.RowKit
set_option maxHeartbeats 400000
set_option maxRecDepth 100000
theorem srt_set {gs : List Grp} (hs : srt gs) (k : Nat) (g : Grp) (hk : k < gs.length) (e : g.s = (gs.getD k .z).s) : srt (gs.set k g) := by
  intro i j hij hj
  rw [List.length_set] at hj
  have h := hs i j hij hj
  rw [getD_set _ _ _ _ _ hk, getD_set _ _ _ _ _ hk]
  split <;> split <;> rename_i h1 h2
  · omega
  · subst h1; rw [e]; exact h
  · subst h2; rw [e]; exact h
  · exact h
theorem fhas_set {gs : List Grp} {name : ByteArray} (k : Nat) (g : Grp) (hk : k < gs.length) (e : g.s = (gs.getD k .z).s) (h : fhas gs name = true) : fhas (gs.set k g) name = true ∧ fidx (gs.set k g) name = fidx gs name := by
  obtain ⟨h1, h2⟩ := fhas_get h
  have hn : ∀ i, i < fidx gs name → ¬ (gs.getD i .z).s = name := fun i hi e2 => by
    have := fidx_at (gs := gs) (name := name) (k := fidx gs name) h1
    have hf : fidx gs name ≤ i := by
      unfold fidx at hi ⊢
      have := List.not_of_lt_findIdx hi
      rw [List.getD_eq_getElem?_getD, List.getElem?_eq_getElem (by have := h1; unfold fidx at this; omega)] at e2
      simp at this e2
      exact absurd e2 this
    omega
  have hgs : ∀ i, ((gs.set k g).getD i .z).s = (gs.getD i .z).s := fun i => by
    rw [getD_set _ _ _ _ _ hk]
    split
    · rename_i e3; subst e3; exact e
    · rfl
  have h3 : fidx gs name < (gs.set k g).length := by rw [List.length_set]; exact h1
  exact ⟨fhas_at h3 (by rw [hgs]; exact h2), fidx_at h3 (fun i hi => by rw [hgs]; exact hn i hi) (by rw [hgs]; exact h2)⟩
/-- What the reference makes of two groups. -/
theorem mg_put {gs : List Grp} {a b : ByteArray} (h : mgB gs a b = true) : putG gs ⟨a, mgX gs a b⟩ = gs.set (fidx gs a) ⟨a, mgX gs a b⟩ ∧ putG (gs.set (fidx gs a) ⟨a, mgX gs a b⟩) ⟨b, []⟩ = mgI gs a b := by
  obtain ⟨hg, ha, hb, -⟩ := mgB_all h
  obtain ⟨ga, gn⟩ := fhas_get ha
  have hs := goodG_srt hg
  have h0 : ¬ (mgX gs a b).length = 0 := fun e => by
    have := (goodG_mem hg _ ga).2.1
    rw [← memL_at ha] at this
    obtain ⟨y, hy⟩ := List.exists_mem_of_length_pos this
    have := (putAll_mem (memL gs b) (memL gs a) y).2 (.inl hy)
    rw [show putAll (memL gs a) (memL gs b) = mgX gs a b from rfl, List.eq_nil_of_length_eq_zero e] at this
    cases this
  obtain ⟨hb', hi'⟩ := fhas_set (fidx gs a) ⟨a, mgX gs a b⟩ ga gn.symm hb
  refine ⟨by rw [putG_in hs ha, if_neg h0, set_cut _ _ _ ga], ?_⟩
  rw [putG_in (srt_set hs _ ⟨a, mgX gs a b⟩ ga gn.symm) hb', hi', mgI_yes h, ers]
  simp
theorem spec_MergeGroups (gs : List Grp) (cs : List Gc) (v : Value) (a b : ByteArray) (w : World) (h : GRd w v gs cs) (h2 : gs.length ≤ 1048576) (h3 : Grp.sum gs ≤ 1048576) :
    Calls Tryz.prog 16 #[v, .string a, .string b] w fun e w' => ∃ r ds, e = .returned (.tuple #[r, .bool (mgB gs a b)]) ∧ GRd w' r (mgI gs a b) ds ∧ Ext w w' := by
  have Hv := hid h
  have hg := hid (fun w h => spec_l21Good gs cs v w h h2 h3)
  have hfa := hid (fun w h => spec_l21Find gs cs v a w h h2)
  have hfb := hid (fun w h => spec_l21Find gs cs v b w h h2)
  have hgl : ∀ W : World, GRd (W.alloc (.cells #[] 42)) (.slice (some ⟨W.heap.size, 0, none⟩) 0 0) [] [] := fun W => ⟨rfl, Rd.nil _ _ _ _, fun i hi => absurd hi (Nat.not_lt_zero _)⟩
  have Hgl := hid hgl
  have neg : ∀ name, fhas gs name = false → fndI gs name = -1 := fun name e => by rw [fndI, e]; rfl
  have pos : ∀ name, fhas gs name = true → fndI gs name = (fidx gs name : Int) := fun name e => by rw [fndI, e]; rfl
  clear h hgl
  cases e0 : goodG gs
  · have hno : mgB gs a b = false := by rw [mgB, e0]; rfl
    rw [mgI_no hno, hno]
    rw [e0] at hg
    clear hno e0 neg pos
    go_enter Tryz.func16, Tryz.ntmps16
    go_wp2_with (go_at_call 34; (refine (hg.out _ Hv.out).mono ?_); rintro e w' ⟨rfl, z1, rfl⟩)
    go_ret2
    exact ⟨_, _, rfl, Hgl.out _, (by repeat' (first | exact Ext.refl _ | assumption | refine Ext.alloc ?_ _ | refine Ext.ext ?_ _ | refine Ext.drew ?_ | refine Ext.drewN ?_ _))⟩
  rw [e0] at hg
  by_cases e3 : a = b
  · have hno : mgB gs a b = false := by rw [mgB, decide_eq_true e3]; simp
    rw [mgI_no hno, hno]
    have te : (a.toList == b.toList) = true := by rw [e3]; simp
    clear hno e0 neg pos e3
    go_enter Tryz.func16, Tryz.ntmps16
    go_wp2_with (go_at_call 34; (refine (hg.out _ Hv.out).mono ?_); rintro e w' ⟨rfl, z1, rfl⟩)
    go_ret2
    exact ⟨_, _, rfl, Hgl.out _, (by repeat' (first | exact Ext.refl _ | assumption | refine Ext.alloc ?_ _ | refine Ext.ext ?_ _ | refine Ext.drew ?_ | refine Ext.drewN ?_ _))⟩
  have te : (a.toList == b.toList) = false := by
    rw [beq_eq_false_iff_ne]; intro h; rw [ByteArray.toList_eq, ByteArray.toList_eq] at h; exact e3 (toList_inj h)
  cases e1 : fhas gs a
  · have hno : mgB gs a b = false := by rw [mgB, e1]; simp
    rw [mgI_no hno, hno]
    rw [neg a e1] at hfa
    clear hno e0 e1 neg pos e3
    go_enter Tryz.func16, Tryz.ntmps16
    go_wp2_with (first | (go_at_call 34; (refine (hg.out _ Hv.out).mono ?_); rintro e w' ⟨rfl, z1, rfl⟩) | (go_at_call 48; (refine (hfa.out _ (Hv.out.ext (by repeat' (first | exact Ext.refl _ | assumption | refine Ext.alloc ?_ _ | refine Ext.ext ?_ _ | refine Ext.drew ?_ | refine Ext.drewN ?_ _)))).mono ?_); rintro e w' ⟨rfl, z2, rfl⟩))
    go_ret2
    exact ⟨_, _, rfl, Hgl.out _, (by repeat' (first | exact Ext.refl _ | assumption | refine Ext.alloc ?_ _ | refine Ext.ext ?_ _ | refine Ext.drew ?_ | refine Ext.drewN ?_ _))⟩
  rw [pos a e1] at hfa
  have pa : decide ((fidx gs a : Int) < 0) = false := by simp
  cases e2 : fhas gs b
  · have hno : mgB gs a b = false := by rw [mgB, e2]; simp
    rw [mgI_no hno, hno]
    rw [neg b e2] at hfb
    clear hno e0 e1 e2 neg pos e3
    generalize fidx gs a = ka at *
    go_enter Tryz.func16, Tryz.ntmps16
    go_wp2_with (go_at_call 34; (refine (hg.out _ Hv.out).mono ?_); rintro e w' ⟨rfl, z1, rfl⟩)
    go_at_call 48
    refine (hfa.out _ (Hv.out.ext (by repeat' (first | exact Ext.refl _ | assumption | refine Ext.alloc ?_ _ | refine Ext.ext ?_ _ | refine Ext.drew ?_ | refine Ext.drewN ?_ _)))).mono ?_
    rintro e w' ⟨rfl, z2, rfl⟩
    go_wp2_with fail
    go_at_call 48
    refine (hfb.out _ (Hv.out.ext (by repeat' (first | exact Ext.refl _ | assumption | refine Ext.alloc ?_ _ | refine Ext.ext ?_ _ | refine Ext.drew ?_ | refine Ext.drewN ?_ _)))).mono ?_
    rintro e w' ⟨rfl, z3, rfl⟩
    go_wp2
    go_ret2
    exact ⟨_, _, rfl, Hgl.out _, (by repeat' (first | exact Ext.refl _ | assumption | refine Ext.alloc ?_ _ | refine Ext.ext ?_ _ | refine Ext.drew ?_ | refine Ext.drewN ?_ _))⟩
  rw [pos b e2] at hfb
  have pb : decide ((fidx gs b : Int) < 0) = false := by simp
  have hyes : mgB gs a b = true := by rw [mgB, e0, e1, e2, decide_eq_false e3]; rfl
  obtain ⟨p1, p2⟩ := mg_put hyes
  rw [← p2, hyes]
  have hma := hid (fun w h => spec_l21Members gs cs v a w h h2 h3)
  have hmb := hid (fun w h => spec_l21Members gs cs v b w h h2 h3)
  obtain ⟨oa, -⟩ := memL_ok e0 e1
  have la := memL_small e0 a
  have lb := memL_small e0 b
  have g8 := goodG_len e0
  have hx8 := mgX_small e0 e1 e2
  obtain ⟨ga, -⟩ := fhas_get e1
  have hpt1 := hid (fun (u : Value) (w : World) (h : GRd w v gs cs) (hu : Rd w 1 u (mgX gs a b).length (vInts (mgX gs a b))) => spec_l21Put gs cs v a (mgX gs a b) u w h hu g8 (fun i hi => (Grp.sum_at h3 hi).2))
  have hpt2 := hid (fun (cs' : List Gc) (v' : Value) (w : World) (h : GRd w v' (gs.set (fidx gs a) ⟨a, mgX gs a b⟩) cs') => spec_l21Put (gs.set (fidx gs a) ⟨a, mgX gs a b⟩) cs' v' b [] (.slice none 0 0) w h (Rd.nil _ _ _ _) (by rw [List.length_set]; exact g8) (fun i hi => by
    rw [List.length_set] at hi
    rw [getD_set _ _ _ _ _ ga]
    split
    · dsimp only; omega
    · exact (Grp.sum_at h3 hi).2))
  rw [p1] at hpt1
  have hX : mgX gs a b = putAll (memL gs a) (memL gs b) := rfl
  rw [hX] at hpt1 hpt2 ⊢
  clear hyes e0 e1 e2 neg pos p1 p2 hX e3
  generalize putG (gs.set (fidx gs a) ⟨a, putAll (memL gs a) (memL gs b)⟩) ⟨b, []⟩ = R at *
  generalize gs.set (fidx gs a) ⟨a, putAll (memL gs a) (memL gs b)⟩ = R1 at *
  generalize memL gs a = L at *
  generalize memL gs b = K at *
  generalize fidx gs a = ka at *
  generalize fidx gs b = kb at *
  go_enter Tryz.func16, Tryz.ntmps16
  go_wp2_with (go_at_call 34; (refine (hg.out _ Hv.out).mono ?_); rintro e w' ⟨rfl, z1, rfl⟩)
  go_at_call 48
  refine (hfa.out _ (Hv.out.ext (by repeat' (first | exact Ext.refl _ | assumption | refine Ext.alloc ?_ _ | refine Ext.ext ?_ _ | refine Ext.drew ?_ | refine Ext.drewN ?_ _)))).mono ?_
  rintro e w' ⟨rfl, z2, rfl⟩
  go_wp2_with fail
  go_at_call 48
  refine (hfb.out _ (Hv.out.ext (by repeat' (first | exact Ext.refl _ | assumption | refine Ext.alloc ?_ _ | refine Ext.ext ?_ _ | refine Ext.drew ?_ | refine Ext.drewN ?_ _)))).mono ?_
  rintro e w' ⟨rfl, z3, rfl⟩
  go_wp2_with fail
  go_at_call 33
  have X0 : Ext w (((w.ext z1).ext z2).ext z3) := (by repeat' (first | exact Ext.refl _ | assumption | refine Ext.alloc ?_ _ | refine Ext.ext ?_ _ | refine Ext.drew ?_ | refine Ext.drewN ?_ _))
  generalize ((w.ext z1).ext z2).ext z3 = wo at *
  refine (hma.out _ (Hv.out.ext X0)).mono ?_
  rintro e w1 ⟨r1, rfl, ho1, hx1⟩
  have J1 := hid (And.intro (own_mono ho1 X0.size) (X0.trans hx1))
  clear ho1 hx1 X0
  go_wp2_with fail
  go_at_call 33
  refine (hmb.out _ (Hv.out.ext J1.out.2)).mono ?_
  rintro e w2 ⟨r2, rfl, ho2, hx2⟩
  have J2 := hid (And.intro (Rd.own ho2) (And.intro (own_ext J1.out.1 hx2) (J1.out.2.trans hx2)))
  obtain ⟨up, uc, rfl⟩ := own_shape ho2
  clear ho2 hx2
  go_wp2
  go_loopw [10, 8] (fun v10 v8 wr => ∃ j : Nat, j ≤ K.length ∧ v10 = .int .i64 j ∧ wr.ownsRow w.heap.size 3 1 v8 (putAll L (K.take j)).length (vInts (putAll L (K.take j))) ∧ Ext w2 wr) (fun v10 _ _ => K.length - (intOf v10).toNat)
  case atStart => exact ⟨0, Nat.zero_le _, rfl, J2.out.2.1, Ext.refl _⟩
  case round =>
    obtain ⟨j, hj, rfl, ho, hx⟩ := hrel
    by_cases hlt : j < K.length
    · obtain ⟨-, p9, c9, e9, q4⟩ := J2.out.1
      cases e9
      obtain ⟨b', off', rfl, q6⟩ := q4.resolve_left (by omega)
      have a1 := hx.cell (elem1 (Value.int .i64) 0 K q6 j hlt)
      have hps := putAll_snoc L K j hlt
      have hpa := putAll_asc (K.take j) L oa
      have hpl := putAll_len (K.take j) L
      have htl : (K.take j).length ≤ K.length := by rw [List.length_take]; omega
      generalize K.getD j 0 = y at a1 hps
      generalize putAll L (K.take j) = M at *
      have Hps := hid hps
      have Hpa := hid hpa
      have Q := hid (And.intro ho hx)
      have hsz := (J2.out.2.2.trans hx).size
      clear hps hpa q4 q6 ho hx
      go_wp2_with fail
      go_at_call 38
      refine (spec_l1Put M _ y w.heap.size _ Q.out.1 Hpa.out hsz (by omega)).mono ?_
      rintro e w3 ⟨r3, rfl, ho3, hx3⟩
      have Q3 := hid (And.intro ho3 (Q.out.2.trans hx3))
      clear ho3 hx3
      go_wp2
      go_roundw
      case rel => exact ⟨j + 1, by omega, by go_num, by rw [Hps.out]; exact Q3.out.1, Q3.out.2⟩
      case measure => simp [intOf]; omega
    · obtain rfl : j = K.length := by omega
      rw [List.take_length] at ho
      generalize putAll L K = X at *
      have Q := hid (And.intro (Rd.own ho) (J2.out.2.2.trans hx))
      obtain ⟨xp, xc, rfl⟩ := own_shape ho
      clear ho hx
      go_wp2_with fail
      go_at_call 37
      refine (hpt1.out _ _ (Hv.out.ext Q.out.2) Q.out.1).mono ?_
      rintro e w5 ⟨r5, ds5, rfl, ho5, hx5⟩
      have Q5 := hid (And.intro ho5 (Q.out.2.trans hx5))
      clear ho5 hx5
      go_wp2_with fail
      go_at_call 37
      refine (hpt2.out _ _ _ Q5.out.1).mono ?_
      rintro e w6 ⟨r6, ds6, rfl, ho6, hx6⟩
      have Q6 := hid (And.intro ho6 (Q5.out.2.trans hx6))
      clear ho6 hx6
      go_wp2
      go_ret2
      exact ⟨_, _, rfl, Q6.out.1, Q6.out.2⟩
end Go.Proofs.YtmblofcaiaeiaaaGreatDoor
