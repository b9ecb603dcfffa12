/- A node joins a group: the program's side. -/
import Derived.Test.YtmblofcaiaeiaaaGreatDoorJ32
import Derived.Test.YtmblofcaiaeiaaaGreatDoorJ17
namespace Go.Proofs.YtmblofcaiaeiaaaGreatDoor
open Go.RowKit
set_option maxHeartbeats 1000000
set_option maxRecDepth 100000
theorem impl_JoinGroup (gs : List Grp) (cs : List Gc) (q : Nat) {qc : Nat} (name : ByteArray) (x : Int) (w : World) (h : GRd w (.slice (some ⟨q, 0, none⟩) gs.length qc) gs cs) (h2 : gs.length ≤ 1048576) (h3 : Grp.sum gs ≤ 1048576) (hns : name.size ≤ 1048576) :
    Calls Tryz.prog 6 #[.slice (some ⟨q, 0, none⟩) gs.length qc, .string name, .int .i64 x] w fun e w' => ∃ r ds, e = .returned (.tuple #[r, .bool (jgB gs name x)]) ∧ GOw w' w.heap.size w'.heap.size r (jgI gs name x) ds ∧ Ext w w' := by
  have Hv := hid h
  have hl := hid (fun w h => impl_IsGroupList gs cs (.slice (some ⟨q, 0, none⟩) gs.length qc) w h h2 h3)
  have hnm := hid (fun w => impl_isGroupName name w hns)
  have hfc := hid (fun w => impl_isFace x w)
  have hcl := hid (fun w h => impl_cloneGroups gs cs q (qc := qc) w h h2 (fun i hi => (Grp.sum_at h3 hi).2))
  clear h
  cases e0 : goodG gs
  · have hno : jgB gs name x = false := by rw [jgB, e0]; rfl
    rw [jgI_no hno, hno]
    rw [e0] at hl
    clear hno e0
    generalize gnm name = B1 at *
    generalize inB x 1 7 = B2 at *
    go_enter Tryz.func6, Tryz.ntmps6
    go_wp2_with fail
    go_at_call 11
    refine (hl.out _ Hv.out).mono ?_
    rintro e w' ⟨rfl, z1, rfl⟩
    go_wp2_with (first | (go_at_call 26; refine (hnm.out _).mono ?_; rintro e w' ⟨rfl, z2, rfl⟩) | (go_at_call 27; refine (hfc.out _).mono ?_; rintro e w' ⟨rfl, rfl⟩))
    go_ret2
    exact ⟨_, _, rfl, GOw.nil _ _ _, (by repeat' (first | exact Ext.refl _ | assumption | refine Ext.alloc ?_ _ | refine Ext.ext ?_ _ | refine Ext.drew ?_ | refine Ext.drewN ?_ _))⟩
  rw [e0] at hl
  cases e1 : gnm name
  · have hno : jgB gs name x = false := by
      unfold jgB
      cases hJ : goodG (jnJ gs name x)
      · simp
      · rw [jn_name e0 hJ] at e1; cases e1
    rw [jgI_no hno, hno]
    rw [e1] at hnm
    clear hno e0 e1
    generalize inB x 1 7 = B2 at *
    go_enter Tryz.func6, Tryz.ntmps6
    go_wp2_with fail
    go_at_call 11
    refine (hl.out _ Hv.out).mono ?_
    rintro e w' ⟨rfl, z1, rfl⟩
    go_wp2_with (first | (go_at_call 26; refine (hnm.out _).mono ?_; rintro e w' ⟨rfl, z2, rfl⟩) | (go_at_call 27; refine (hfc.out _).mono ?_; rintro e w' ⟨rfl, rfl⟩))
    go_ret2
    exact ⟨_, _, rfl, GOw.nil _ _ _, (by repeat' (first | exact Ext.refl _ | assumption | refine Ext.alloc ?_ _ | refine Ext.ext ?_ _ | refine Ext.drew ?_ | refine Ext.drewN ?_ _))⟩
  rw [e1] at hnm
  cases e2 : inB x 1 7
  · have hno : jgB gs name x = false := by rw [jgB, e2]; simp
    rw [jgI_no hno, hno]
    rw [e2] at hfc
    clear hno e0 e1 e2
    go_enter Tryz.func6, Tryz.ntmps6
    go_wp2_with fail
    go_at_call 11
    refine (hl.out _ Hv.out).mono ?_
    rintro e w' ⟨rfl, z1, rfl⟩
    go_wp2_with (first | (go_at_call 26; refine (hnm.out _).mono ?_; rintro e w' ⟨rfl, z2, rfl⟩) | (go_at_call 27; refine (hfc.out _).mono ?_; rintro e w' ⟨rfl, rfl⟩))
    go_ret2
    exact ⟨_, _, rfl, GOw.nil _ _ _, (by repeat' (first | exact Ext.refl _ | assumption | refine Ext.alloc ?_ _ | refine Ext.ext ?_ _ | refine Ext.drew ?_ | refine Ext.drewN ?_ _))⟩
  rw [e2] at hfc
  have HB1 : Hid ((memL gs name).contains x = true → jgB gs name x = false ∧ jgI gs name x = []) := fun hc => by
    have : jgB gs name x = false := by rw [jgB, hc]; simp
    exact ⟨this, jgI_no this⟩
  have HB2 : Hid ((memL gs name).contains x = false → (goodG (jnJ gs name x) = false → jgB gs name x = false ∧ jgI gs name x = []) ∧ (goodG (jnJ gs name x) = true → jgB gs name x = true ∧ jgI gs name x = jnJ gs name x)) := fun hc => by
    have hb : jgB gs name x = goodG (jnJ gs name x) := by rw [jgB, e0, e2, hc]; simp
    exact ⟨fun h => ⟨hb.trans h, jgI_no (hb.trans h)⟩, fun h => ⟨hb.trans h, jgI_yes (hb.trans h)⟩⟩
  have hfd := hid (fun v ds w h => impl_findGroup gs ds v name w h h2 (goodG_srt e0))
  have hl8 := goodG_len e0
  have hm8 := memL_small e0 name
  have Ha : Hid (asc (memL gs name)) := by
    cases ha : fhas gs name
    · rw [memL_none ha]; exact List.Pairwise.nil
    · exact (memL_ok' e0 ha).1
  have hsj : Grp.sum (jnJ gs name x) ≤ 1048576 := jn_sum e0 e1 x
  have hjn := jn_in e0 (name := name)
  have hjo := jn_out e0 (name := name)
  have hcn := hid (fun u w h => slices_Contains (memL gs name) u x w h (by omega))
  cases ha : fhas gs name
  · have hp := gpos_le gs name
    rw [ha] at hfd
    have hjo := hjo ha x
    have hml := memL_none ha
    have hJ : jnJ gs name x = (ins gs (gpos gs name) ⟨name, []⟩).set (gpos gs name) ⟨((ins gs (gpos gs name) ⟨name, []⟩).getD (gpos gs name) .z).s, put (memL gs name) x⟩ := by
      rw [hjo, ins_set _ _ _ _ hp, ins_getD _ _ _ _ _ hp, if_neg (Nat.lt_irrefl _), if_pos rfl, hml]
    have hxl : ((ins gs (gpos gs name) ⟨name, []⟩).getD (gpos gs name) .z).xs = memL gs name := by rw [ins_getD _ _ _ _ _ hp, if_neg (Nat.lt_irrefl _), if_pos rfl, hml]
    have hil := ins_len gs (gpos gs name) ⟨name, []⟩ hp
    have HJ := hid hJ
    clear hjo hjn hml hJ ha e0 e1 e2
    generalize jgB gs name x = BB at *
    generalize jgI gs name x = RR at *
    generalize jnJ gs name x = J at *
    generalize memL gs name = L at *
    generalize gpos gs name = i at *
    have n0 : (0 : Int) ≤ (i : Int) := by omega
    go_enter Tryz.func6, Tryz.ntmps6
    go_wp2_with fail
    go_at_call 11
    refine (hl.out _ Hv.out).mono ?_
    rintro e w' ⟨rfl, z1, rfl⟩
    go_wp2_with (first | (go_at_call 26; refine (hnm.out _).mono ?_; rintro e w' ⟨rfl, z2, rfl⟩) | (go_at_call 27; refine (hfc.out _).mono ?_; rintro e w' ⟨rfl, rfl⟩))
    go_at_call 28
    have hX2 : Ext w ((w.ext z1).ext z2) := (by repeat' (first | exact Ext.refl _ | assumption | refine Ext.alloc ?_ _ | refine Ext.ext ?_ _ | refine Ext.drew ?_ | refine Ext.drewN ?_ _))
    generalize ((w.ext z1).ext z2) = w2 at *
    have hlo := hX2.size
    refine (hcl.out _ (Hv.out.ext hX2)).mono ?_
    rintro e w3 ⟨r, ds, rfl, ho3, hx3⟩
    obtain ⟨rp, rc, rfl⟩ := own_shape ho3.2.1
    have J3 := hid (And.intro ho3 (hX2.trans hx3))
    have hs23 := hx3.size
    clear ho3 hx3 hX2
    go_wp2_with fail
    go_at_call 29
    refine (hfd.out _ ds _ J3.out.1.rd).mono ?_
    rintro e w4 ⟨rfl, hx4⟩
    have J4 := hid (And.intro ((J3.out.1.ext hx4).wide (Nat.le_refl _) hx4.size) (J3.out.2.trans hx4))
    have hs24 := Nat.le_trans hs23 hx4.size
    clear hx4 hs23
    go_wp2_with fail
    go_at_call 30
    obtain ⟨ho4, hX4⟩ := J4.out
    have XA : Ext w4 (w4.alloc (.cells #[.string name, .slice none 0 0] 42)) := (by repeat' (first | exact Ext.refl _ | assumption | refine Ext.alloc ?_ _ | refine Ext.ext ?_ _ | refine Ext.drew ?_ | refine Ext.drewN ?_ _))
    have hA : (w4.alloc (.cells #[.string name, .slice none 0 0] 42)).heap.size = w4.heap.size + 1 := by simp
    refine (slices_Insert_row (ds.flatMap Gc.cs) gs.length i name (.slice rp gs.length rc) w4.heap.size w2.heap.size _ (own_ext ho4.2.1 XA) hp (heap_at _ rfl) (fun e => by have := (own_row ho4.2.1 _ e).2; omega) (by omega) hl8 ho4.one).mono ?_
    rintro e w5 ⟨r5, rfl, ho5', hg5, hj5⟩
    have hs5 := hg5.size
    have ho5 := GOw.insert (hi' := w5.heap.size) (ho4.ext XA) (by omega) i hp name ho5' hg5 hj5 (by omega) (Nat.le_refl _)
    have hX5 : Ext w w5 := Ext.grown (hX4.trans XA) hg5 (fun j hj => by have := (own_row ho4.2.1 j hj).1; omega)
    obtain ⟨rp5, rc5, rfl⟩ := own_shape ho5'
    obtain ⟨lo, hlo'⟩ : ∃ lo, lo = w2.heap.size := ⟨_, rfl⟩
    rw [← hlo'] at ho5 hlo
    have hi : i < (ins gs i ⟨name, []⟩).length := by omega
    clear ho4 hX4 XA hA ho5' hg5 hj5 hs5 J3 J4 hs24
    generalize ins gs i ⟨name, []⟩ = G at *
    generalize ins ds i ⟨name, .slice none 0 0⟩ = ds at *
    rw [← hil] at ho5
    have n1 : (i : Int) < (G.length : Int) := by omega
    have hG9 : G.length ≤ 9 := by omega
    have hgp : 0 < G.length := by omega
    rw [← hil]
    clear hil
    have hrw := ho5.2.1
    obtain ⟨g, cap, hf⟩ := own_form hrw (by omega)
    cases hf
    obtain ⟨⟨e0, e1⟩, f0, f1⟩ := grp_cells hrw i hi
    have hgl := own_size hrw
    have hmk := ho5.2.2.2 i hi
    have Q := hid (And.intro ho5 (And.intro hX5 hmk))
    have Hxl := hid hxl
    rw [hxl] at hmk
    have hcr := hid hmk.2.1
    clear hrw ho5 hX5 hmk hxl
    go_wp2_with fail
    go_at_call 31
    refine (hcn.out _ _ (Rd.own hcr.out)).mono ?_
    rintro e w' ⟨rfl, rfl⟩
    cases e3 : L.contains x
    · have F2 := HB2.out e3
      clear HB1 HB2
      go_wp2_with fail
      go_at_call 32
      refine (impl_withNode L _ x lo _ hcr.out Ha.out (Nat.le_trans hgl.1 (Nat.le_of_lt hgl.2)) (by omega)).mono ?_
      rintro e w6 ⟨r6, rfl, ho6, hg6, hj6⟩
      have hsw := Q.out.1.swap rfl (Nat.le_refl _) i hi r6 (put L x) hg6 ho6 hj6 hg6.size (Nat.le_refl _)
      rw [← HJ.out] at hsw
      have hrow6 := Q.out.1.rowKept i hi hg6
      obtain ⟨⟨e0, e1⟩, f0, f1⟩ := grp_cells hrow6 i hi
      have hgl6 := (own_size hrow6).2
      have hX6 : Ext w w6 := Ext.grown Q.out.2.1 hg6 (fun j hj => by have := (own_row hcr.out j hj).1; omega)
      obtain ⟨rp, rc, rfl⟩ := own_shape ho6
      generalize (put L x).length = m at *
      have hX7 := hX6.setCell (p := ⟨g, i * 2 + 1, none⟩) (by dsimp only; omega) (.slice rp m rc)
      have hsz7 : (w6.setCell ⟨g, i * 2 + 1, none⟩ (.slice rp m rc)).heap.size = w6.heap.size := by simp
      rw [← hsz7] at hsw
      have Q7 := hid (And.intro (hsw.wide (lo' := w.heap.size) hlo (Nat.le_refl _)) hX7)
      have hlj : J.length = G.length := by rw [HJ.out, List.length_set]
      have Hj := hid (fun W (D : List Gc) (v : Value) (h : GRd W v J D) => impl_IsGroupList J D v W h (by omega) hsj)
      clear hsw hX7 hX6 hrow6 ho6 hg6 hj6 hsz7 hlj
      cases e4 : goodG J
      · have F3 := F2.1 e4
        rw [e4] at Hj
        clear F2
        have F := hid F3
        clear F3 e4 e3
        go_wp2_with fail
        go_at_call 11
        refine (Hj.out _ _ _ Q7.out.1.rd).mono ?_
        rintro e w8 ⟨rfl, hx8⟩
        have X8 := hid (Q7.out.2.trans hx8)
        clear hx8
        go_wp2
        go_ret2
        exact ⟨_, _, (by rw [F.out.1]; rfl), by rw [F.out.2]; exact GOw.nil _ _ _, X8.out⟩
      · have F3 := F2.2 e4
        rw [e4] at Hj
        clear F2
        have F := hid F3
        clear F3 e4 e3
        go_wp2_with fail
        go_at_call 11
        refine (Hj.out _ _ _ Q7.out.1.rd).mono ?_
        rintro e w8 ⟨rfl, hx8⟩
        have X8 := hid (And.intro (Q7.out.2.trans hx8) ((Q7.out.1.ext hx8).wide (Nat.le_refl _) hx8.size))
        clear hx8
        go_wp2
        go_ret2
        exact ⟨_, _, (by rw [F.out.1]; rfl), by rw [F.out.2]; exact X8.out.2, X8.out.1⟩
    · have F := hid (HB1.out e3)
      clear HB1 HB2 e3
      go_wp2
      go_ret2
      exact ⟨_, _, (by rw [F.out.1]; rfl), by rw [F.out.2]; exact GOw.nil _ _ _, Q.out.2.1⟩
  · obtain ⟨hp, hn⟩ := fhas_get ha
    have hpo := gpos_fidx (goodG_srt e0) ha
    rw [ha, hpo] at hfd
    have hjn := hjn ha x
    have hml := memL_at ha
    have hJ : jnJ gs name x = gs.set (fidx gs name) ⟨(gs.getD (fidx gs name) .z).s, put (memL gs name) x⟩ := by rw [hjn, hml]
    have hxl : (gs.getD (fidx gs name) .z).xs = memL gs name := hml.symm
    have HJ := hid hJ
    clear hjo hjn hml hJ ha e0 e1 e2 hn hpo
    generalize jgB gs name x = BB at *
    generalize jgI gs name x = RR at *
    generalize jnJ gs name x = J at *
    generalize memL gs name = L at *
    generalize fidx gs name = i at *
    have n0 : (0 : Int) ≤ (i : Int) := by omega
    have n1 : (i : Int) < (gs.length : Int) := by omega
    go_enter Tryz.func6, Tryz.ntmps6
    go_wp2_with fail
    go_at_call 11
    refine (hl.out _ Hv.out).mono ?_
    rintro e w' ⟨rfl, z1, rfl⟩
    go_wp2_with (first | (go_at_call 26; refine (hnm.out _).mono ?_; rintro e w' ⟨rfl, z2, rfl⟩) | (go_at_call 27; refine (hfc.out _).mono ?_; rintro e w' ⟨rfl, rfl⟩))
    go_at_call 28
    have hX2 : Ext w ((w.ext z1).ext z2) := (by repeat' (first | exact Ext.refl _ | assumption | refine Ext.alloc ?_ _ | refine Ext.ext ?_ _ | refine Ext.drew ?_ | refine Ext.drewN ?_ _))
    generalize ((w.ext z1).ext z2) = w2 at *
    have hlo := hX2.size
    refine (hcl.out _ (Hv.out.ext hX2)).mono ?_
    rintro e w3 ⟨r, ds, rfl, ho3, hx3⟩
    obtain ⟨rp, rc, rfl⟩ := own_shape ho3.2.1
    have J3 := hid (And.intro ho3 (hX2.trans hx3))
    have hs23 := hx3.size
    clear ho3 hx3 hX2
    go_wp2_with fail
    go_at_call 29
    refine (hfd.out _ ds _ J3.out.1.rd).mono ?_
    rintro e w4 ⟨rfl, hx4⟩
    have ho5 := (J3.out.1.ext hx4).wide (Nat.le_refl _) hx4.size
    have hX5 := J3.out.2.trans hx4
    obtain ⟨lo, hlo'⟩ : ∃ lo, lo = w2.heap.size := ⟨_, rfl⟩
    rw [← hlo'] at ho5 hlo
    have hi := hp
    clear hx4 hp hs23 J3
    generalize hG : gs = G at *
    have hrw := ho5.2.1
    obtain ⟨g, cap, hf⟩ := own_form hrw (by omega)
    cases hf
    obtain ⟨⟨e0, e1⟩, f0, f1⟩ := grp_cells hrw i hi
    have hgl := own_size hrw
    have hmk := ho5.2.2.2 i hi
    have Q := hid (And.intro ho5 (And.intro hX5 hmk))
    have Hxl := hid hxl
    rw [hxl] at hmk
    have hcr := hid hmk.2.1
    clear hrw ho5 hX5 hmk hxl
    go_wp2_with fail
    go_at_call 31
    refine (hcn.out _ _ (Rd.own hcr.out)).mono ?_
    rintro e w' ⟨rfl, rfl⟩
    cases e3 : L.contains x
    · have F2 := HB2.out e3
      clear HB1 HB2
      go_wp2_with fail
      go_at_call 32
      refine (impl_withNode L _ x lo _ hcr.out Ha.out (Nat.le_trans hgl.1 (Nat.le_of_lt hgl.2)) (by omega)).mono ?_
      rintro e w6 ⟨r6, rfl, ho6, hg6, hj6⟩
      have hsw := Q.out.1.swap rfl (Nat.le_refl _) i hi r6 (put L x) hg6 ho6 hj6 hg6.size (Nat.le_refl _)
      rw [← HJ.out] at hsw
      have hrow6 := Q.out.1.rowKept i hi hg6
      obtain ⟨⟨e0, e1⟩, f0, f1⟩ := grp_cells hrow6 i hi
      have hgl6 := (own_size hrow6).2
      have hX6 : Ext w w6 := Ext.grown Q.out.2.1 hg6 (fun j hj => by have := (own_row hcr.out j hj).1; omega)
      obtain ⟨rp, rc, rfl⟩ := own_shape ho6
      generalize (put L x).length = m at *
      have hX7 := hX6.setCell (p := ⟨g, i * 2 + 1, none⟩) (by dsimp only; omega) (.slice rp m rc)
      have hsz7 : (w6.setCell ⟨g, i * 2 + 1, none⟩ (.slice rp m rc)).heap.size = w6.heap.size := by simp
      rw [← hsz7] at hsw
      have Q7 := hid (And.intro (hsw.wide (lo' := w.heap.size) hlo (Nat.le_refl _)) hX7)
      have hlj : J.length = G.length := by rw [HJ.out, List.length_set]
      have Hj := hid (fun W (D : List Gc) (v : Value) (h : GRd W v J D) => impl_IsGroupList J D v W h (by omega) hsj)
      clear hsw hX7 hX6 hrow6 ho6 hg6 hj6 hsz7 hlj
      cases e4 : goodG J
      · have F3 := F2.1 e4
        rw [e4] at Hj
        clear F2
        have F := hid F3
        clear F3 e4 e3
        go_wp2_with fail
        go_at_call 11
        refine (Hj.out _ _ _ Q7.out.1.rd).mono ?_
        rintro e w8 ⟨rfl, hx8⟩
        have X8 := hid (Q7.out.2.trans hx8)
        clear hx8
        go_wp2
        go_ret2
        exact ⟨_, _, (by rw [F.out.1]; rfl), by rw [F.out.2]; exact GOw.nil _ _ _, X8.out⟩
      · have F3 := F2.2 e4
        rw [e4] at Hj
        clear F2
        have F := hid F3
        clear F3 e4 e3
        go_wp2_with fail
        go_at_call 11
        refine (Hj.out _ _ _ Q7.out.1.rd).mono ?_
        rintro e w8 ⟨rfl, hx8⟩
        have X8 := hid (And.intro (Q7.out.2.trans hx8) ((Q7.out.1.ext hx8).wide (Nat.le_refl _) hx8.size))
        clear hx8
        go_wp2
        go_ret2
        exact ⟨_, _, (by rw [F.out.1]; rfl), by rw [F.out.2]; exact X8.out.2, X8.out.1⟩
    · have F := hid (HB1.out e3)
      clear HB1 HB2 e3
      go_wp2
      go_ret2
      exact ⟨_, _, (by rw [F.out.1]; rfl), by rw [F.out.2]; exact GOw.nil _ _ _, Q.out.2.1⟩
end Go.Proofs.YtmblofcaiaeiaaaGreatDoor
