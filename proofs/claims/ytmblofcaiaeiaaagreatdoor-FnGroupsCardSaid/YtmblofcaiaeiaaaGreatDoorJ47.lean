/- A node joins a group: the reference's side. Tails of a function's code, and frames as letters: a long walk cut into declarations. -/
import Derived.Test.YtmblofcaiaeiaaaGreatDoorJ32
import Derived.Test.YtmblofcaiaeiaaaGreatDoorKWPut2
import Derived.Test.YtmblofcaiaeiaaaGreatDoorKWPutG2
import Derived.Test.YtmblofcaiaeiaaaGreatDoorJ2
import Derived.Test.YtmblofcaiaeiaaaGreatDoorChecked
import Derived.Deep.DeepCutAuto
namespace Go.Proofs.YtmblofcaiaeiaaaGreatDoor
open Go.RowKit
set_option maxHeartbeats 4000000
set_option maxRecDepth 100000
theorem spec_JoinGroup (gs : List Grp) (cs : List Gc) (v : Value) (name : ByteArray) (x : Int) (w : World) (h : GRd w v gs cs) (h2 : gs.length ≤ 1048576) (h3 : Grp.sum gs ≤ 1048576) (hns : name.size ≤ 1048576) :
    Calls Tryz.prog 7 #[v, .string name, .int .i64 x] w fun e w' => ∃ r ds, e = .returned (.tuple #[r, .bool (jgB gs name x)]) ∧ GRd w' r (jgI gs name x) ds ∧ Ext w w' := by
  have Hv := hid h
  have hg := hid (fun w h => spec_l21Good gs cs v w h h2 h3)
  have hnd := hid (fun w => spec_l21Node x w)
  have hmem := hid (fun w h => spec_l21Members gs cs v name w h h2 h3)
  have hml : (memL gs name).length ≤ 1048576 := by
    unfold memL
    split
    · rename_i e
      exact (Grp.sum_at h3 (fhas_get e).1).2
    · simp
  have hhas : Hid (∀ (r : Value) (w : World), Rd w 1 r (memL gs name).length (vInts (memL gs name)) → Calls Tryz.prog 36 #[r, .int .i64 x] w fun e w' => e = .returned (.bool ((memL gs name).contains x)) ∧ Ext w w') := fun r w h => spec_l1Has (memL gs name) r x w h hml
  have hgl : ∀ W : World, GRd (W.alloc (.cells #[] 42)) (.slice (some ⟨W.heap.size, 0, none⟩) 0 0) [] [] := fun W => ⟨rfl, Rd.nil _ _ _ _, fun i hi => absurd hi (Nat.not_lt_zero _)⟩
  have Hgl := hid hgl
  clear h hgl
  cases e0 : goodG gs
  · have hno : jgB gs name x = false := by rw [jgB, e0]; rfl
    rw [jgI_no hno, hno]
    rw [e0] at hg
    clear hno e0 hml
    generalize (memL gs name).contains x = B1 at *
    generalize memL gs name = K at *
    generalize inB x 1 7 = B2 at *
    go_enter Tryz.func7, Tryz.ntmps7
    go_wp2_with fail
    go_at_call 33
    refine (hmem.out _ Hv.out).mono ?_
    rintro e w1 ⟨r1, rfl, ho1, hx1⟩
    have J := hid (And.intro ho1 hx1)
    clear ho1 hx1
    go_wp2_with (first | (go_at_call 34; (refine (hg.out _ (Hv.out.ext (J.out.2.trans (by repeat' (first | exact Ext.refl _ | assumption | refine Ext.alloc ?_ _ | refine Ext.ext ?_ _ | refine Ext.drew ?_ | refine Ext.drewN ?_ _))))).mono ?_); rintro e w' ⟨rfl, z1, rfl⟩) | (go_at_call 36; (refine (hhas.out _ _ ((Rd.own J.out.1).ext (by repeat' (first | exact Ext.refl _ | assumption | refine Ext.alloc ?_ _ | refine Ext.ext ?_ _ | refine Ext.drew ?_ | refine Ext.drewN ?_ _)))).mono ?_); rintro e w' ⟨rfl, z2, rfl⟩) | (go_at_call 35; refine (hnd.out _).mono ?_; rintro e w' ⟨rfl, rfl⟩))
    go_ret2
    exact ⟨_, _, rfl, Hgl.out _, J.out.2.trans (by repeat' (first | exact Ext.refl _ | assumption | refine Ext.alloc ?_ _ | refine Ext.ext ?_ _ | refine Ext.drew ?_ | refine Ext.drewN ?_ _))⟩
  rw [e0] at hg
  cases e1 : inB x 1 7
  · have hno : jgB gs name x = false := by rw [jgB, e1]; simp
    rw [jgI_no hno, hno]
    rw [e1] at hnd
    clear hno e0 e1 hml
    generalize (memL gs name).contains x = B1 at *
    generalize memL gs name = K at *
    go_enter Tryz.func7, Tryz.ntmps7
    go_wp2_with fail
    go_at_call 33
    refine (hmem.out _ Hv.out).mono ?_
    rintro e w1 ⟨r1, rfl, ho1, hx1⟩
    have J := hid (And.intro ho1 hx1)
    clear ho1 hx1
    go_wp2_with (first | (go_at_call 34; (refine (hg.out _ (Hv.out.ext (J.out.2.trans (by repeat' (first | exact Ext.refl _ | assumption | refine Ext.alloc ?_ _ | refine Ext.ext ?_ _ | refine Ext.drew ?_ | refine Ext.drewN ?_ _))))).mono ?_); rintro e w' ⟨rfl, z1, rfl⟩) | (go_at_call 36; (refine (hhas.out _ _ ((Rd.own J.out.1).ext (by repeat' (first | exact Ext.refl _ | assumption | refine Ext.alloc ?_ _ | refine Ext.ext ?_ _ | refine Ext.drew ?_ | refine Ext.drewN ?_ _)))).mono ?_); rintro e w' ⟨rfl, z2, rfl⟩) | (go_at_call 35; refine (hnd.out _).mono ?_; rintro e w' ⟨rfl, rfl⟩))
    go_ret2
    exact ⟨_, _, rfl, Hgl.out _, J.out.2.trans (by repeat' (first | exact Ext.refl _ | assumption | refine Ext.alloc ?_ _ | refine Ext.ext ?_ _ | refine Ext.drew ?_ | refine Ext.drewN ?_ _))⟩
  rw [e1] at hnd
  cases e2 : (memL gs name).contains x
  · have Hall := hid (jn_all e0 (name := name) x)
    have hb : jgB gs name x = goodG (jnJ gs name x) := by rw [jgB, e0, e1, e2]; simp
    have hR : ∀ b, goodG (jnJ gs name x) = b → jgI gs name x = if b then jnJ gs name x else [] := fun b h => by rw [jgI, hb, h]
    have HR := hid hR
    have Ha : Hid (asc (memL gs name)) := by
      cases ha : fhas gs name
      · rw [memL_none ha]; exact List.Pairwise.nil
      · exact (memL_ok' e0 ha).1
    rw [hb]
    rw [e2] at hhas
    have hpt := hid (fun u w h hu => spec_l21Put gs cs v name (put (memL gs name) x) u w h hu (goodG_len e0) (fun i hi => (Grp.sum_at h3 hi).2))
    have hJd : putG gs ⟨name, put (memL gs name) x⟩ = jnJ gs name x := rfl
    rw [hJd] at hpt
    have hjg := hid (fun W (D : List Gc) (v : Value) (h : GRd W v (jnJ gs name x) D) => spec_l21Good' (jnJ gs name x) D v W h (Nat.le_trans Hall.out.1 (by decide)) (fun k hk => by
      have := Hall.out.2 k hk
      refine ⟨?_, by omega⟩
      rcases this.1 with h | h
      · omega
      · rw [h]; exact hns))
    clear hR hb hJd e0 e1 e2 Hall
    generalize jnJ gs name x = J0 at *
    generalize jgI gs name x = RR at *
    generalize memL gs name = K at *
    cases e4 : goodG J0
    all_goals
      have HR := hid (HR.out _ e4)
      rw [e4] at hjg
      clear e4
      go_enter Tryz.func7, Tryz.ntmps7
      go_wp2_with fail
      go_at_call 33
      refine (hmem.out _ Hv.out).mono ?_
      rintro e w1 ⟨r1, rfl, ho1, hx1⟩
      have J := hid (And.intro ho1 hx1)
      clear ho1 hx1
      go_wp2_with (first | (go_at_call 34; (refine (hg.out _ (Hv.out.ext (J.out.2.trans (by repeat' (first | exact Ext.refl _ | assumption | refine Ext.alloc ?_ _ | refine Ext.ext ?_ _ | refine Ext.drew ?_ | refine Ext.drewN ?_ _))))).mono ?_); rintro e w' ⟨rfl, z1, rfl⟩) | (go_at_call 36; (refine (hhas.out _ _ ((Rd.own J.out.1).ext (by repeat' (first | exact Ext.refl _ | assumption | refine Ext.alloc ?_ _ | refine Ext.ext ?_ _ | refine Ext.drew ?_ | refine Ext.drewN ?_ _)))).mono ?_); rintro e w' ⟨rfl, z2, rfl⟩) | (go_at_call 35; refine (hnd.out _).mono ?_; rintro e w' ⟨rfl, rfl⟩))
      go_at_call 38
      have X1 := J.out.2.trans (show Ext w1 ((w1.ext z1).ext z2) from (by repeat' (first | exact Ext.refl _ | assumption | refine Ext.alloc ?_ _ | refine Ext.ext ?_ _ | refine Ext.drew ?_ | refine Ext.drewN ?_ _)))
      refine (spec_l1Put K _ x w.heap.size _ (own_ext J.out.1 (show Ext w1 ((w1.ext z1).ext z2) from (by repeat' (first | exact Ext.refl _ | assumption | refine Ext.alloc ?_ _ | refine Ext.ext ?_ _ | refine Ext.drew ?_ | refine Ext.drewN ?_ _)))) Ha.out X1.size hml).mono ?_
      rintro e w2 ⟨r2, rfl, ho2, hx2⟩
      have J2 := hid (And.intro (Rd.own ho2) (X1.trans hx2))
      obtain ⟨rp2, rc2, rfl⟩ := own_shape ho2
      clear ho2 hx2 X1
      go_wp2_with fail
      go_at_call 37
      refine (hpt.out _ _ (Hv.out.ext J2.out.2) J2.out.1).mono ?_
      rintro e w3 ⟨r3, ds, rfl, ho3, hx3⟩
      have J3 := hid (And.intro ho3 (J2.out.2.trans hx3))
      clear ho3 hx3
      go_wp2_with fail
      go_at_call 34
      refine (hjg.out _ ds _ J3.out.1).mono ?_
      rintro e w4 ⟨rfl, hx4⟩
      have J4 := hid (And.intro (J3.out.1.ext hx4) (J3.out.2.trans hx4))
      clear hx4
      go_wp2
      go_ret2
      first
        | exact ⟨_, _, rfl, by rw [HR.out]; exact J4.out.1, J4.out.2⟩
        | exact ⟨_, _, rfl, by rw [HR.out]; exact Hgl.out _, J4.out.2.trans (by repeat' (first | exact Ext.refl _ | assumption | refine Ext.alloc ?_ _ | refine Ext.ext ?_ _ | refine Ext.drew ?_ | refine Ext.drewN ?_ _))⟩
  · have hno : jgB gs name x = false := by rw [jgB, e2]; simp
    rw [jgI_no hno, hno]
    rw [e2] at hhas
    clear hno e0 e1 e2 hml
    generalize memL gs name = K at *
    go_enter Tryz.func7, Tryz.ntmps7
    go_wp2_with fail
    go_at_call 33
    refine (hmem.out _ Hv.out).mono ?_
    rintro e w1 ⟨r1, rfl, ho1, hx1⟩
    have J := hid (And.intro ho1 hx1)
    clear ho1 hx1
    go_wp2_with (first | (go_at_call 34; (refine (hg.out _ (Hv.out.ext (J.out.2.trans (by repeat' (first | exact Ext.refl _ | assumption | refine Ext.alloc ?_ _ | refine Ext.ext ?_ _ | refine Ext.drew ?_ | refine Ext.drewN ?_ _))))).mono ?_); rintro e w' ⟨rfl, z1, rfl⟩) | (go_at_call 36; (refine (hhas.out _ _ ((Rd.own J.out.1).ext (by repeat' (first | exact Ext.refl _ | assumption | refine Ext.alloc ?_ _ | refine Ext.ext ?_ _ | refine Ext.drew ?_ | refine Ext.drewN ?_ _)))).mono ?_); rintro e w' ⟨rfl, z2, rfl⟩) | (go_at_call 35; refine (hnd.out _).mono ?_; rintro e w' ⟨rfl, rfl⟩))
    go_ret2
    exact ⟨_, _, rfl, Hgl.out _, J.out.2.trans (by repeat' (first | exact Ext.refl _ | assumption | refine Ext.alloc ?_ _ | refine Ext.ext ?_ _ | refine Ext.drew ?_ | refine Ext.drewN ?_ _))⟩
end Go.Proofs.YtmblofcaiaeiaaaGreatDoor
namespace Go
/-- Does it begin with region n? -/
def Code.startsAt (n : Nat) : Code → Bool
  | .region i _ _ => i == n
  | .seq a _ => a.startsAt n
  | .scope a => a.startsAt n
  | _ => false
/-- What is left of the statements from region n on. -/
def Code.tailAt (n : Nat) : Code → Code
  | .seq a b => if a.startsAt n then .seq a b else b.tailAt n
  | .scope c => if c.startsAt n then .scope c else c.tailAt n
  | c => c
def letters (u : Nat → Value) : Nat → Nat → List Value
  | _, 0 => []
  | i, n + 1 => u i :: letters u (i + 1) n
theorem letters_get (u : Nat → Value) : ∀ (n i j : Nat), (letters u i n)[j]? = if j < n then some (u (i + j)) else none
  | 0, i, j => by simp [letters]
  | n + 1, i, 0 => by simp [letters]
  | n + 1, i, j + 1 => by
    rw [letters, List.getElem?_cons_succ, letters_get u n (i + 1) j]
    rw [show i + 1 + j = i + (j + 1) by omega]
    by_cases h : j < n
    · rw [if_pos h, if_pos (by omega)]
    · rw [if_neg h, if_neg (by omega)]
theorem frame_arg (a : Act) (n : Nat) (h1 : a.defers = []) (h2 : a.tmps.size = n + 1) (v : Value) (h3 : a.tmps.getD 0 undef = v) : a = ⟨(v :: letters (fun i => a.tmps.getD i undef) 1 n).toArray, []⟩ := by
  obtain ⟨tmps, d⟩ := a
  simp only at h1 h2 h3
  subst h1
  congr 1
  apply Array.ext_getElem?
  intro j
  refine Eq.trans ?_ (List.getElem?_toArray (xs := v :: letters _ 1 n) (i := j)).symm
  cases j with
  | zero =>
    rw [List.getElem?_cons_zero, ← h3, Array.getD_eq_getD_getElem?, Array.getElem?_eq_getElem (by omega)]
    rfl
  | succ j =>
    rw [List.getElem?_cons_succ, letters_get]
    split
    · rename_i h
      have hj : j + 1 < tmps.size := by omega
      show tmps[j + 1]? = some (tmps.getD (1 + j) undef)
      rw [show 1 + j = j + 1 by omega, Array.getD_eq_getD_getElem?, Array.getElem?_eq_getElem hj]
      rfl
    · exact Array.getElem?_eq_none (show tmps.size ≤ j + 1 by omega)
end Go
