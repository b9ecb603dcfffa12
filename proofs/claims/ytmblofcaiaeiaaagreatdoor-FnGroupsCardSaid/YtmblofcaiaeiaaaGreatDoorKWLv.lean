/- A group left: the program's side. -/
import Derived.Test.YtmblofcaiaeiaaaGreatDoorKWGs9
import Derived.Test.YtmblofcaiaeiaaaGreatDoorKWShm
import Derived.Test.YtmblofcaiaeiaaaGreatDoorKWDel2
namespace Go.Proofs.YtmblofcaiaeiaaaGreatDoor
open Go.RowKit
set_option maxHeartbeats 400000
set_option maxRecDepth 100000
def lvB (gs : List Grp) (name : ByteArray) (x : Int) : Bool := hgB gs name && (memL gs name).contains x
def lvM (gs : List Grp) (name : ByteArray) (x : Int) : List Int := (memL gs name).filter (fun y => !(y == x))
def lvI (gs : List Grp) (name : ByteArray) (x : Int) : List Grp :=
  if lvB gs name x then (if (lvM gs name x).length = 0 then ers gs (fidx gs name) else gs.set (fidx gs name) ⟨name, lvM gs name x⟩) else []
theorem lvI_no {gs : List Grp} {name : ByteArray} {x : Int} (h : lvB gs name x = false) : lvI gs name x = [] := by rw [lvI, h]; rfl
theorem lvI_yes {gs : List Grp} {name : ByteArray} {x : Int} (h : lvB gs name x = true) : lvI gs name x = if (lvM gs name x).length = 0 then ers gs (fidx gs name) else gs.set (fidx gs name) ⟨name, lvM gs name x⟩ := by rw [lvI, h]; rfl
theorem lvB_all {gs : List Grp} {name : ByteArray} {x : Int} (h : lvB gs name x = true) : goodG gs = true ∧ fhas gs name = true ∧ (memL gs name).contains x = true := by
  simp only [lvB, hgB, Bool.and_eq_true] at h
  exact ⟨h.1.1, h.1.2, h.2⟩
theorem impl_LeaveGroup_1 (B : Nat) (x y : Int) (w : World) (hb : w.cell? ⟨B, 0, none⟩ = some (.int .i64 x)) :
    Calls Tryz.prog 41 #[.int .i64 y, .pointer (some ⟨B, 0, none⟩)] w fun e w' => e = .returned (.bool (y == x)) ∧ Ext w w' := by
  go_enter Tryz.func41, Tryz.ntmps41
  go_wp2
  go_ret
  exact ⟨rfl, (by repeat' (first | exact Ext.refl _ | assumption | refine Ext.alloc ?_ _ | refine Ext.ext ?_ _ | refine Ext.drew ?_ | refine Ext.drewN ?_ _))⟩
theorem impl_LeaveGroup (gs : List Grp) (cs : List Gc) (q : Nat) {qc : Nat} (name : ByteArray) (x : Int) (w : World) (h : GRd w (.slice (some ⟨q, 0, none⟩) gs.length qc) gs cs) (h2 : gs.length ≤ 1048576) (h3 : Grp.sum gs ≤ 1048576) :
    Calls Tryz.prog 9 #[.slice (some ⟨q, 0, none⟩) gs.length qc, .string name, .int .i64 x] w fun e w' => ∃ r ds, e = .returned (.tuple #[r, .bool (lvB gs name x)]) ∧ GOw w' w.heap.size w'.heap.size r (lvI gs name x) ds ∧ Ext w w' := by
  have Hv := hid h
  have hmf : ∀ (fn : Fn) (first cap : Array Value) (w : World), (Instr.makeFunc fn first cap).run Tryz.prog w = .ok (.func fn first cap) w := fun _ _ _ _ => rfl
  have h1 := hid (fun w h => impl_hasGroup gs cs (.slice (some ⟨q, 0, none⟩) gs.length qc) name w h h2 h3)
  have Hm := hid (fun i (hi : i < gs.length) => (Grp.sum_at h3 hi).2)
  have hcl := hid (fun w h => impl_cloneGroups gs cs q (qc := qc) w h h2 Hm.out)
  clear h
  have X0 : Ext w (w.alloc (.cells #[.int .i64 x] 3)) := (by repeat' (first | exact Ext.refl _ | assumption | refine Ext.alloc ?_ _ | refine Ext.ext ?_ _ | refine Ext.drew ?_ | refine Ext.drewN ?_ _))
  have hb0 : (w.alloc (.cells #[.int .i64 x] 3)).cell? ⟨w.heap.size, 0, none⟩ = some (.int .i64 x) := by rw [cell_of_row _ _ 0 _ _ (0, 0) (heap_at _ rfl)]; rfl
  have hs0 : (w.alloc (.cells #[.int .i64 x] 3)).heap.size = w.heap.size + 1 := by simp
  cases e1 : hgB gs name
  · have hno : lvB gs name x = false := by rw [lvB, e1]; rfl
    rw [lvI_no hno, hno]
    rw [e1] at h1
    clear hno e1
    generalize hgP gs name = P at *
    go_enter Tryz.func9, Tryz.ntmps9
    go_wp2_with fail
    go_at_call 39
    refine (h1.out _ (Hv.out.ext X0)).mono ?_
    rintro e w1 ⟨rfl, hx1⟩
    have hb1 := hx1.cell hb0
    have Hx1 := hid (X0.trans hx1)
    clear hx1
    go_wp2
    refine wp_region_ext (by kernel_rfl) (by kernel_rfl) ?_
    repeat (go_big_quiet_step ((first | fail)))
    refine wpQuiet_nil ?_
    rintro _ ⟨zq, rfl⟩
    go_wp2
    go_ret2
    exact ⟨_, _, rfl, GOw.nil _ _ _, Hx1.out.trans (by repeat' (first | exact Ext.refl _ | assumption | refine Ext.alloc ?_ _ | refine Ext.ext ?_ _ | refine Ext.drew ?_ | refine Ext.drewN ?_ _))⟩
  rw [e1] at h1
  have hG : goodG gs = true ∧ fhas gs name = true := by simpa [hgB] using e1
  obtain ⟨hg, ha⟩ := hG
  obtain ⟨ga, gn⟩ := fhas_get ha
  have pa : hgP gs name = (fidx gs name : Int) := by rw [hgP, hg, gpos_fidx (goodG_srt hg) ha]; rfl
  rw [pa] at h1
  have hml := memL_at ha
  have ma := goodG_mem hg _ ga
  obtain ⟨c0, c1⟩ := Hv.out.at _ ga
  have hcr := hid ((Hv.out.2.2 _ ga).2)
  simp only [Nat.zero_add] at c0 c1
  have hcn := hid (fun w h => slices_Contains (gs.getD (fidx gs name) .z).xs (cs.getD (fidx gs name) .z).u x w h (by omega))
  cases e2 : (memL gs name).contains x
  · have hno : lvB gs name x = false := by rw [lvB, e1, e2]; rfl
    rw [lvI_no hno, hno]
    rw [hml] at e2
    rw [e2] at hcn
    clear hno e1 e2 pa ha hg ma hml gn hcl
    generalize fidx gs name = k at *
    generalize gs.getD k .z = G at *
    generalize (cs.getD k .z).u = u at *
    obtain ⟨s, xs⟩ := G
    dsimp only at c0 hcr hcn
    have n0 : (0 : Int) ≤ (k : Int) := by omega
    have n1 : (k : Int) < (gs.length : Int) := by omega
    go_enter Tryz.func9, Tryz.ntmps9
    go_wp2_with fail
    go_at_call 39
    refine (h1.out _ (Hv.out.ext X0)).mono ?_
    rintro e w1 ⟨rfl, hx1⟩
    have hb1 := hx1.cell hb0
    have d1 := (X0.trans hx1).cell c1
    have Hx1 := hid (X0.trans hx1)
    clear hx1 c0 c1
    go_wp2
    refine wp_region_ext (by kernel_rfl) (by kernel_rfl) ?_
    repeat (go_big_quiet_step ((first | (go_at_call 31; exact Calls.quiet_same (hcn.out _ (hcr.out.ext (Hx1.out.trans (by repeat' (first | exact Ext.refl _ | assumption | refine Ext.alloc ?_ _ | refine Ext.ext ?_ _ | refine Ext.drew ?_ | refine Ext.drewN ?_ _)))))))))
    refine wpQuiet_nil ?_
    rintro _ ⟨zq, rfl⟩
    go_wp2
    go_ret2
    exact ⟨_, _, rfl, GOw.nil _ _ _, Hx1.out.trans (by repeat' (first | exact Ext.refl _ | assumption | refine Ext.alloc ?_ _ | refine Ext.ext ?_ _ | refine Ext.drew ?_ | refine Ext.drewN ?_ _))⟩
  have hyes : lvB gs name x = true := by rw [lvB, e1, e2]; rfl
  rw [lvI_yes hyes, hyes]
  rw [hml] at e2
  rw [e2] at hcn
  have hlm : lvM gs name x = (gs.getD (fidx gs name) .z).xs.filter (fun y => !(y == x)) := by rw [lvM, hml]
  rw [hlm]
  have hdel := fun (u : Value) (B Bx : Nat) (W : World) (ho : W.ownsRow B 3 1 u (gs.getD (fidx gs name) .z).xs.length (vInts (gs.getD (fidx gs name) .z).xs)) (hb : W.cell? ⟨Bx, 0, none⟩ = some (.int .i64 x)) (hne : u.ownBlock ≠ some Bx) =>
    slices_DeleteFunc_in (gs.getD (fidx gs name) .z).xs (fun y => y == x) 41 #[.pointer (some ⟨Bx, 0, none⟩)] (enters_of Tryz.func41 (by kernel_rfl) rfl) u B W ho (by omega)
      (fun y w'' _ e' => impl_LeaveGroup_1 Bx x y w'' (e'.cell hb (fun e => hne e.symm)))
  have hfl := List.length_filter_le (fun y => !(y == x)) (gs.getD (fidx gs name) .z).xs
  have hms := ma.2.2.1
  have hgnm : gs.set (fidx gs name) ⟨name, (gs.getD (fidx gs name) .z).xs.filter (fun y => !(y == x))⟩ = gs.set (fidx gs name) ⟨(gs.getD (fidx gs name) .z).s, (gs.getD (fidx gs name) .z).xs.filter (fun y => !(y == x))⟩ := by rw [gn]
  rw [hgnm]
  generalize (gs.getD (fidx gs name) .z).xs.filter (fun y => !(y == x)) = F at *
  clear hyes e1 e2 pa ha hg ma hml gn hlm hgnm
  generalize fidx gs name = k at *
  have n0 : (0 : Int) ≤ (k : Int) := by omega
  have n1 : (k : Int) < (gs.length : Int) := by omega
  have Hdel := hid hdel
  generalize hR : (if F.length = 0 then ers gs k else gs.set k ⟨(gs.getD k .z).s, F⟩) = R
  have hR0 : Hid (F.length = 0 → R = ers gs k) := fun h => by rw [← hR, if_pos h]
  have hR1 : Hid (¬ F.length = 0 → R = gs.set k ⟨(gs.getD k .z).s, F⟩) := fun h => by rw [← hR, if_neg h]
  clear hdel c0 hR
  go_enter Tryz.func9, Tryz.ntmps9
  go_wp2_with fail
  go_at_call 39
  refine (h1.out _ (Hv.out.ext X0)).mono ?_
  rintro e w1 ⟨rfl, hx1⟩
  have hb1 := hx1.cell hb0
  have d1 := (X0.trans hx1).cell c1
  have Hx1 := hid (X0.trans hx1)
  have hsz1 := hx1.size
  rw [hs0] at hsz1
  clear hx1 c1
  go_wp2
  refine wp_region_ext (by kernel_rfl) (by kernel_rfl) ?_
  repeat (go_big_quiet_step ((first | (go_at_call 31; exact Calls.quiet_same (hcn.out _ (hcr.out.ext (Hx1.out.trans (by repeat' (first | exact Ext.refl _ | assumption | refine Ext.alloc ?_ _ | refine Ext.ext ?_ _ | refine Ext.drew ?_ | refine Ext.drewN ?_ _)))))))))
  refine wpQuiet_nil ?_
  rintro _ ⟨zq, rfl⟩
  go_wp2_with fail
  go_at_call 28
  have hb2 := (show Ext w1 (w1.ext zq) from ⟨zq, rfl⟩).cell hb1
  have hX2 := Hx1.out.trans (show Ext w1 (w1.ext zq) from ⟨zq, rfl⟩)
  have hsz2 : w.heap.size + 1 ≤ (w1.ext zq).heap.size := by have := (show Ext w1 (w1.ext zq) from ⟨zq, rfl⟩).size; omega
  clear hb1 d1 Hx1 hsz1
  generalize (w1.ext zq) = w2 at *
  refine (hcl.out _ (Hv.out.ext hX2)).mono ?_
  rintro e w3 ⟨r, ds, rfl, ho3, hx3⟩
  obtain ⟨g, cap, rfl⟩ := own_form ho3.2.1 (by omega)
  obtain ⟨⟨e0, e1⟩, f0, f1⟩ := grp_cells ho3.2.1 k ga
  have hm3 := (ho3.2.2.2 k ga)
  have hb3 := hx3.cell hb2
  have J := hid (And.intro ho3 (And.intro hx3 (And.intro hm3 (And.intro hb3 hX2))))
  clear ho3 hx3 hm3 hb3 hb2 hX2
  go_wp2_with fail
  go_at_call 40
  obtain ⟨ho3, hx3, hm3, hb3, hX2⟩ := J.out
  refine (Hdel.out _ w2.heap.size w.heap.size w3 hm3.2.1 hb3 (fun e => by have := (own_row hm3.2.1 _ e).1; omega)).mono ?_
  rintro e w4 ⟨r4, rfl, ho4, hg4, hj4⟩
  have hsw := ho3.swap rfl (Nat.le_refl _) k ga r4 F hg4 ho4 (fun b hb => .inl (hj4 b hb)) hg4.size (Nat.le_refl _)
  have hrow4 := ho3.rowKept k ga hg4
  obtain ⟨⟨e0, e1⟩, f0, f1⟩ := grp_cells hrow4 k ga
  have hgl := own_size hrow4
  have hX4 : Ext w w4 := Ext.grown (hX2.trans hx3) hg4 (fun j hj => by have := (own_row hm3.2.1 j hj).1; omega)
  obtain ⟨rp, rc, rfl⟩ := own_shape ho4
  have hX5 := hX4.setCell (p := ⟨g, k * 2 + 1, none⟩) (by dsimp only; omega) (.slice rp F.length rc)
  have hsz5 : (w4.setCell ⟨g, k * 2 + 1, none⟩ (.slice rp F.length rc)).heap.size = w4.heap.size := by simp
  have K := hid (And.intro hsw (And.intro hX5 hsz5))
  clear hsw hrow4 hX4 hX5 ho4 hg4 hj4 ho3 hx3 hm3 hb3 hX2 hsz5
  by_cases hF0 : F.length = 0
  · have HR := hid (hR0.out hF0)
    have t0 : ((F.length : Int) == 0) = true := by simp [hF0]
    have hgl2 : (gs.set k ⟨(gs.getD k .z).s, F⟩).length = gs.length := List.length_set
    have hdl := hid (fun W h => slices_Delete_grp (w := W) (lo := w2.heap.size) (hi := w4.heap.size) (g := g) (cap := cap) (gs := gs.set k ⟨(gs.getD k .z).s, F⟩) (cs := ds.set k ⟨(ds.getD k .z).s, .slice rp F.length rc⟩) h k (by rw [hgl2]; exact ga) (by rw [hgl2]; exact h2))
    rw [hgl2] at hdl
    have her : ers (gs.set k ⟨(gs.getD k .z).s, F⟩) k = ers gs k := by
      unfold ers
      rw [List.take_set_of_le (Nat.le_refl _), List.drop_set_of_lt (by omega)]
    rw [her] at hdl
    clear her hgl2 hF0
    go_wp2_with fail
    go_at_call 42
    refine (hdl.out _ K.out.1).mono ?_
    rintro e w5 ⟨rfl, ho5, hg5⟩
    have hX6 := Ext.grown K.out.2.1 hg5 (fun j hj => by cases hj; omega)
    have hs5 := hg5.size
    rw [K.out.2.2] at hs5
    have K2 := hid (And.intro (ho5.wide (lo' := w.heap.size) (by omega) hs5) hX6)
    clear ho5 hg5 hX6
    go_wp2
    go_ret2
    exact ⟨_, _, rfl, by rw [HR.out]; exact K2.out.1, K2.out.2⟩
  · have HR := hid (hR1.out hF0)
    have t0 : ((F.length : Int) == 0) = false := by simp [hF0]
    clear hF0
    go_wp2
    go_ret2
    exact ⟨_, _, rfl, by rw [HR.out]; exact K.out.1.wide (by omega) (by rw [K.out.2.2]; exact Nat.le_refl _), K.out.2.1⟩
end Go.Proofs.YtmblofcaiaeiaaaGreatDoor
