/- Groups in the laws' own words: copies, comparisons, marks, sizes. -/
import Derived.Test.YtlaochpkelbchaaDoorWL
import Derived.Test.YtlaochpkelbchaaDoorWCM
import Derived.Test.YtlaochpkelbchaaDoorWCOpen
import Derived.Test.YtlaochpkelbchaaDoorKit3
namespace Go.Proofs.YtlaochpkelbchaaDoor
open Go.RowKit
set_option maxHeartbeats 400000
set_option maxRecDepth 100000
theorem laws_eqGroup {s : ByteArray} (xs : List Int) (v u : Value) (w : World) (hv : Rd w 1 v xs.length (vInts xs)) (hu : Rd w 1 u xs.length (vInts xs)) (hn : xs.length ≤ 1048576) :
    Calls Tryd.prog 6 #[.agg #[.string s, v], .agg #[.string s, u]] w fun e w' => e = .returned (.bool true) ∧ Ext w w' := by
  go_enter Tryd.func6, Tryd.ntmps6
  repeat (first | (go_wp2_with ((go_at_call 17; refine (laws_eqIntS xs _ _ _ (hv.ext (by repeat' (first | exact Ext.refl _ | assumption | refine Ext.alloc ?_ _ | refine Ext.ext ?_ _ | refine Ext.drew ?_ | refine Ext.drewN ?_ _))) (hu.ext (by repeat' (first | exact Ext.refl _ | assumption | refine Ext.alloc ?_ _ | refine Ext.ext ?_ _ | refine Ext.drew ?_ | refine Ext.drewN ?_ _))) (by omega)).mono ?_; rintro e w' ⟨rfl, z1, rfl⟩)); refine wp_region_ext (by kernel_rfl) (by kernel_rfl) ?_; (repeat (go_big_quiet_step (fail))); refine wpQuiet_nil ?_; rintro _ ⟨zq, rfl⟩))
  go_wp2_with ((go_at_call 17; refine (laws_eqIntS xs _ _ _ (hv.ext (by repeat' (first | exact Ext.refl _ | assumption | refine Ext.alloc ?_ _ | refine Ext.ext ?_ _ | refine Ext.drew ?_ | refine Ext.drewN ?_ _))) (hu.ext (by repeat' (first | exact Ext.refl _ | assumption | refine Ext.alloc ?_ _ | refine Ext.ext ?_ _ | refine Ext.drew ?_ | refine Ext.drewN ?_ _))) (by omega)).mono ?_; rintro e w' ⟨rfl, z1, rfl⟩))
  go_ret
  exact ⟨rfl, (by repeat' (first | exact Ext.refl _ | assumption | refine Ext.alloc ?_ _ | refine Ext.ext ?_ _ | refine Ext.drew ?_ | refine Ext.drewN ?_ _))⟩
theorem laws_markGroup {s : ByteArray} (n : Nat) (cs : List Value) (v : Value) (k0 : Int) (w : World) (B : Nat) (ho : w.ownsRow B 3 1 v n cs) (hn : n ≤ 1099511627776) (hk0 : 0 ≤ k0) (hk1 : k0 ≤ 1099511627776) :
    Calls Tryd.prog 7 #[.agg #[.string s, v], .int .i64 k0] w fun e w' => e = .returned (.int .i64 (k0 + n)) ∧ w'.ownsRow B 3 1 v n (vInts (marks n k0)) ∧ w.grownBy w' v.ownBlock := by
  have Ho := hid ho; clear ho
  go_enter Tryd.func7, Tryd.ntmps7
  go_wp2_with fail
  have hx : Ext w (w.alloc (.cells #[.string s, v] 24)) := (by repeat' (first | exact Ext.refl _ | assumption | refine Ext.alloc ?_ _ | refine Ext.ext ?_ _ | refine Ext.drew ?_ | refine Ext.drewN ?_ _))
  have Hx := hid hx
  have ho1 := own_ext Ho.out hx
  clear hx
  go_at_call 18
  refine (laws_markIntS n cs _ k0 _ B ho1 hn hk0 hk1).mono ?_
  rintro e w' ⟨rfl, hm, hg⟩
  have K := hid (And.intro hm (grownBy_trans (Hx.out.grownBy _) hg))
  clear hm hg ho1
  go_wp2
  go_ret
  exact ⟨rfl, K.out⟩
theorem laws_heldGroup {s : ByteArray} (n : Nat) (v : Value) (k0 : Int) (w : World) (hv : Rd w 1 v n (vInts (marks n k0))) (hn : n ≤ 1048576) (hk0 : 0 ≤ k0) (hk1 : k0 ≤ 2097152) :
    Calls Tryd.prog 8 #[.agg #[.string s, v], .int .i64 k0] w fun e w' => e = .returned (.int .i64 (k0 + n)) ∧ Ext w w' := by
  have Hv := hid hv; clear hv
  have t0 : decide (k0 + (n : Int) < 0) = false := by simp; omega
  go_enter Tryd.func8, Tryd.ntmps8
  go_wp2_with fail
  go_at_call 19
  refine (laws_heldIntS n _ k0 _ (Hv.out.ext (by repeat' (first | exact Ext.refl _ | assumption | refine Ext.alloc ?_ _ | refine Ext.ext ?_ _ | refine Ext.drew ?_ | refine Ext.drewN ?_ _))) (by omega) hk0 (by omega)).mono ?_
  rintro e w' ⟨rfl, z1, rfl⟩
  go_wp2
  go_ret
  exact ⟨rfl, (by repeat' (first | exact Ext.refl _ | assumption | refine Ext.alloc ?_ _ | refine Ext.ext ?_ _ | refine Ext.drew ?_ | refine Ext.drewN ?_ _))⟩
end Go.Proofs.YtlaochpkelbchaaDoor
