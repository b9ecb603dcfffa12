/- Groups in the laws' own words: copies, comparisons, marks, sizes. -/
import Derived.Test.YthjklcodgcojbaaDoorWL
import Derived.Test.YthjklcodgcojbaaDoorWCM
import Derived.Test.YthjklcodgcojbaaDoorWCOpen
import Derived.Test.YthjklcodgcojbaaDoorKit3
namespace Go.Proofs.YthjklcodgcojbaaDoor
open Go.RowKit
set_option maxHeartbeats 400000
set_option maxRecDepth 100000
theorem laws_toGroup {s : ByteArray} (xs : List Int) (v : Value) (w : World) (h : Rd w 1 v xs.length (vInts xs)) (h2 : xs.length ≤ 1048576) :
    Calls Tryd.prog 27 #[.agg #[.string s, v]] w fun e w' => ∃ g, e = .returned (.agg #[.string s, .slice (some ⟨g, 0, none⟩) xs.length xs.length]) ∧
      w'.ownsRow w.heap.size 3 1 (.slice (some ⟨g, 0, none⟩) xs.length xs.length) xs.length (vInts xs) ∧ Ext w w' := by
  obtain ⟨h1, p, cap, rfl, h4⟩ := h
  have Hr := hid (show Rd w 1 (.slice p xs.length cap) xs.length (vInts xs) from ⟨h1, p, cap, rfl, h4⟩)
  clear h1 h4
  go_enter Tryd.func27, Tryd.ntmps27
  go_wp2_with fail
  go_at_call 62
  have hxa : Ext w (((w.alloc (.cells #[.string s, .slice p xs.length cap] 40)).alloc (.cells #[.string ⟨#[]⟩, .slice none 0 0] 46)).alloc (.cells #[.string s, .slice none 0 0] 46)) := (by repeat' (first | exact Ext.refl _ | assumption | refine Ext.alloc ?_ _ | refine Ext.ext ?_ _ | refine Ext.drew ?_ | refine Ext.drewN ?_ _))
  have hb2 := heap_at (w := ((w.alloc (.cells #[.string s, .slice p xs.length cap] 40)).alloc (.cells #[.string ⟨#[]⟩, .slice none 0 0] 46))) (k := w.heap.size + 1 + 1) (.cells #[.string s, .slice none 0 0] 46) (by simp)
  have hb1 := heap_old (heap_at (w := w.alloc (.cells #[.string s, .slice p xs.length cap] 40)) (k := w.heap.size + 1) (.cells #[.string ⟨#[]⟩, .slice none 0 0] 46) (by simp)) (.cells #[.string s, .slice none 0 0] 46)
  have hsz : (((w.alloc (.cells #[.string s, .slice p xs.length cap] 40)).alloc (.cells #[.string ⟨#[]⟩, .slice none 0 0] 46)).alloc (.cells #[.string s, .slice none 0 0] 46)).heap.size = w.heap.size + 3 := by simp
  generalize (((w.alloc (.cells #[.string s, .slice p xs.length cap] 40)).alloc (.cells #[.string ⟨#[]⟩, .slice none 0 0] 46)).alloc (.cells #[.string s, .slice none 0 0] 46)) = wa at *
  refine (laws_toIntS xs _ _ (Hr.out.ext hxa) h2).mono ?_
  rintro e w1 ⟨g, rfl, ho, hx1⟩
  have e2 := (hx1.heap (Array.getElem?_eq_some_iff.1 hb2).1).trans hb2
  have e1 := (hx1.heap (Array.getElem?_eq_some_iff.1 hb1).1).trans hb1
  obtain ⟨⟨c20, c21⟩, ⟨f20, f21⟩, l2⟩ := box2 e2
  obtain ⟨⟨c10, c11⟩, ⟨f10, f11⟩, l1⟩ := box2 e1
  have K := hid (And.intro (hxa.trans hx1) (And.intro e1 ho))
  have hg := own_size ho
  rw [hsz] at hg
  clear hb1 hb2 e1 e2 hxa hx1 ho
  go_wp2
  obtain ⟨hw1, e1, ho⟩ := K.out
  refine bodyPost_ret (results_cell_row rfl _ _ (w.heap.size + 1) _ _ (0, 0) _ rfl (box2_set (t := 46) (a := .string ⟨#[]⟩) (b := .slice none 0 0) ?_ _ _) Tryd.underlying46 rfl (by kernel_rfl)) rfl ⟨g, rfl, ?_, ?_⟩
  · exact set_other e1 (by simp) _
  · exact own_mono (own_set (own_set (own_set ho (by rw [hsz]; simp) _) (by rw [hsz]; simp) _) (by rw [hsz]; simp) _) (by omega)
  · exact ((hw1.setCell (by simp; omega) _).setCell (by simp) _).setCell (by simp) _
theorem laws_eqGroup {s : ByteArray} (xs : List Int) (v u : Value) (w : World) (hv : Rd w 1 v xs.length (vInts xs)) (hu : Rd w 1 u xs.length (vInts xs)) (hn : xs.length ≤ 1048576) :
    Calls Tryd.prog 30 #[.agg #[.string s, v], .agg #[.string s, u]] w fun e w' => e = .returned (.bool true) ∧ Ext w w' := by
  go_enter Tryd.func30, Tryd.ntmps30
  repeat (first | (go_wp2_with ((go_at_call 15; refine (laws_eqIntS xs _ _ _ (hv.ext (by repeat' (first | exact Ext.refl _ | assumption | refine Ext.alloc ?_ _ | refine Ext.ext ?_ _ | refine Ext.drew ?_ | refine Ext.drewN ?_ _))) (hu.ext (by repeat' (first | exact Ext.refl _ | assumption | refine Ext.alloc ?_ _ | refine Ext.ext ?_ _ | refine Ext.drew ?_ | refine Ext.drewN ?_ _))) (by omega)).mono ?_; rintro e w' ⟨rfl, z1, rfl⟩)); refine wp_region_ext (by kernel_rfl) (by kernel_rfl) ?_; (repeat (go_big_quiet_step (fail))); refine wpQuiet_nil ?_; rintro _ ⟨zq, rfl⟩))
  go_wp2_with ((go_at_call 15; refine (laws_eqIntS xs _ _ _ (hv.ext (by repeat' (first | exact Ext.refl _ | assumption | refine Ext.alloc ?_ _ | refine Ext.ext ?_ _ | refine Ext.drew ?_ | refine Ext.drewN ?_ _))) (hu.ext (by repeat' (first | exact Ext.refl _ | assumption | refine Ext.alloc ?_ _ | refine Ext.ext ?_ _ | refine Ext.drew ?_ | refine Ext.drewN ?_ _))) (by omega)).mono ?_; rintro e w' ⟨rfl, z1, rfl⟩))
  go_ret
  exact ⟨rfl, (by repeat' (first | exact Ext.refl _ | assumption | refine Ext.alloc ?_ _ | refine Ext.ext ?_ _ | refine Ext.drew ?_ | refine Ext.drewN ?_ _))⟩
theorem laws_szGroup (s : ByteArray) (xs : List Value) (v : Value) (left : Int) (n k : Nat) (w : World) (hv : Rd w k v n xs) (hn : (s.size : Int) + n ≤ left) (hl : left ≤ 1048576) :
    Calls Tryd.prog 24 #[.agg #[.string s, v], .int .i64 left] w fun e w' => e = .returned (.int .i64 (left - s.size - n)) ∧ Ext w w' := by
  have t0 : decide (left - (s.size : Int) < 0) = false := by simp; omega
  have t1 : decide (left - (s.size : Int) - n < 0) = false := by simp; omega
  go_enter Tryd.func24, Tryd.ntmps24
  go_wp2_with (go_at_call 59; refine (laws_szIntS _ _ _ _ _ _ (hv.ext (by repeat' (first | exact Ext.refl _ | assumption | refine Ext.alloc ?_ _ | refine Ext.ext ?_ _ | refine Ext.drew ?_ | refine Ext.drewN ?_ _))) (by omega) (by omega)).mono ?_; rintro e w' ⟨rfl, rfl⟩)
  go_ret
  exact ⟨rfl, (by repeat' (first | exact Ext.refl _ | assumption | refine Ext.alloc ?_ _ | refine Ext.ext ?_ _ | refine Ext.drew ?_ | refine Ext.drewN ?_ _))⟩
theorem laws_szGroup_big (s : ByteArray) (xs : List Value) (v : Value) (left : Int) (n k : Nat) (w : World) (hv : Rd w k v n xs) (hn : left < (s.size : Int) + n) (hs : s.size ≤ maxLen) (h0 : 0 ≤ left) (hl : left ≤ 1048576) (hm : n ≤ maxLen) :
    Calls Tryd.prog 24 #[.agg #[.string s, v], .int .i64 left] w fun e w' => e = .returned (.int .i64 (-1)) ∧ Ext w w' := by
  unfold maxLen at hs
  by_cases h1 : left < s.size
  · have t0 : decide (left - (s.size : Int) < 0) = true := by simp; omega
    go_enter Tryd.func24, Tryd.ntmps24
    go_wp2_with fail
    go_ret
    exact ⟨rfl, (by repeat' (first | exact Ext.refl _ | assumption | refine Ext.alloc ?_ _ | refine Ext.ext ?_ _ | refine Ext.drew ?_ | refine Ext.drewN ?_ _))⟩
  · have t0 : decide (left - (s.size : Int) < 0) = false := by simp; omega
    go_enter Tryd.func24, Tryd.ntmps24
    go_wp2_with (go_at_call 59; refine (laws_szIntS_big _ _ _ _ _ _ (hv.ext (by repeat' (first | exact Ext.refl _ | assumption | refine Ext.alloc ?_ _ | refine Ext.ext ?_ _ | refine Ext.drew ?_ | refine Ext.drewN ?_ _))) (by omega) (by omega) hm).mono ?_; rintro e w' ⟨rfl, rfl⟩)
    go_ret
    exact ⟨rfl, (by repeat' (first | exact Ext.refl _ | assumption | refine Ext.alloc ?_ _ | refine Ext.ext ?_ _ | refine Ext.drew ?_ | refine Ext.drewN ?_ _))⟩
theorem laws_markGroup {s : ByteArray} (n : Nat) (cs : List Value) (v : Value) (k0 : Int) (w : World) (B : Nat) (ho : w.ownsRow B 3 1 v n cs) (hn : n ≤ 1099511627776) (hk0 : 0 ≤ k0) (hk1 : k0 ≤ 1099511627776) :
    Calls Tryd.prog 32 #[.agg #[.string s, v], .int .i64 k0] w fun e w' => e = .returned (.int .i64 (k0 + n)) ∧ w'.ownsRow B 3 1 v n (vInts (marks n k0)) ∧ w.grownBy w' v.ownBlock := by
  have Ho := hid ho; clear ho
  go_enter Tryd.func32, Tryd.ntmps32
  go_wp2_with fail
  have hx : Ext w (w.alloc (.cells #[.string s, v] 46)) := (by repeat' (first | exact Ext.refl _ | assumption | refine Ext.alloc ?_ _ | refine Ext.ext ?_ _ | refine Ext.drew ?_ | refine Ext.drewN ?_ _))
  have Hx := hid hx
  have ho1 := own_ext Ho.out hx
  clear hx
  go_at_call 18
  refine (laws_markIntS n cs _ k0 _ B ho1 hn hk0 hk1).mono ?_
  rintro e w' ⟨rfl, hm, hg⟩
  have K := hid (And.intro hm (grownBy_trans (Hx.out.grownBy _) hg))
  clear hm hg ho1
  go_wp2
  go_ret
  exact ⟨rfl, K.out⟩
theorem laws_heldGroup {s : ByteArray} (n : Nat) (v : Value) (k0 : Int) (w : World) (hv : Rd w 1 v n (vInts (marks n k0))) (hn : n ≤ 1048576) (hk0 : 0 ≤ k0) (hk1 : k0 ≤ 2097152) :
    Calls Tryd.prog 43 #[.agg #[.string s, v], .int .i64 k0] w fun e w' => e = .returned (.int .i64 (k0 + n)) ∧ Ext w w' := by
  have Hv := hid hv; clear hv
  have t0 : decide (k0 + (n : Int) < 0) = false := by simp; omega
  go_enter Tryd.func43, Tryd.ntmps43
  go_wp2_with fail
  go_at_call 19
  refine (laws_heldIntS n _ k0 _ (Hv.out.ext (by repeat' (first | exact Ext.refl _ | assumption | refine Ext.alloc ?_ _ | refine Ext.ext ?_ _ | refine Ext.drew ?_ | refine Ext.drewN ?_ _))) (by omega) hk0 (by omega)).mono ?_
  rintro e w' ⟨rfl, z1, rfl⟩
  go_wp2
  go_ret
  exact ⟨rfl, (by repeat' (first | exact Ext.refl _ | assumption | refine Ext.alloc ?_ _ | refine Ext.ext ?_ _ | refine Ext.drew ?_ | refine Ext.drewN ?_ _))⟩
theorem opened_group {H : Type} {enc : TypeId × Value → H} {W : World} {v : Value} {d : DataW H} {ps : List MemPlace} {r : Reach} {b : Nat} (hval : Value.okWide Tryd.prog W r b 40 v)
    (h : DataW.Trod enc Tryd.prog W 0 (fun _ => true) true 40 v d ps) : ∃ (s : ByteArray) (xs : List Int) (u : Value), v = .agg #[.string s, u] ∧ s.size ≤ maxLen ∧ Rd W 1 u xs.length (vInts xs) ∧ xs.length ≤ maxLen := by
  obtain ⟨cs, rfl, -, -⟩ : ∃ cs, v = .agg cs ∧ cs.size = Tryd.prog.cellsOf 40 ∧ Row.okWide Tryd.prog W r b 40 cs := by
    simpa only [Value.okWide, Tryd.underlying40] using hval
  obtain ⟨fuel, h⟩ := h
  have h2 := cks_of_trod 3 _ [.s, .sl 24] _ _ _ (by kernel_rfl) h
  obtain ⟨l⟩ := cs
  obtain ⟨a, a', rfl, ⟨s, rfl, hs⟩, ⟨f, x, hx⟩⟩ := h2.two
  obtain ⟨xs, hr, hl⟩ := ints_of_trod hx
  exact ⟨s, xs, a', rfl, hs, hr, hl⟩
end Go.Proofs.YthjklcodgcojbaaDoor
