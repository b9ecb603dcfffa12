/- The law of ParseFragment. -/
import Derived.Test.YtnngklclehffhaaDoorWPf2
namespace Go.Proofs.YtnngklclehffhaaDoor
open Go.RowKit
set_option maxHeartbeats 1000000
set_option maxRecDepth 100000
theorem parseFragment_law (s : ByteArray) (w : World) (hv : Vrs w) (ht : Tab w) (hm : s.size ≤ maxLen) :
    Calls Tryd.prog 8 #[.string s] w fun e w' => e = .returned (.bool true) ∧ Ext w w' := by
  unfold maxLen at hm
  by_cases hbig : 1048576 < s.size
  · have t0 : (1048576 : Int) < (s.size : Int) := by omega
    go_enter Tryd.func8, Tryd.ntmps8
    go_wp2
    go_ret
    exact ⟨rfl, (by repeat' (first | exact Ext.refl _ | assumption | refine Ext.alloc ?_ _ | refine Ext.ext ?_ _ | refine Ext.drew ?_ | refine Ext.drewN ?_ _))⟩
  have t0 : ¬ (1048576 : Int) < (s.size : Int) := by omega
  have cs := hid (fun w => spec_ParseFragment s w (by omega))
  have ci := hid (fun w hv ht => impl_ParseFragment s w hv ht (by omega))
  rw [← PF_same] at cs
  generalize (PFi s).isSome = ok at *
  generalize pfF (PFi s) = F at *
  obtain ⟨n, p, q, d⟩ := F
  dsimp only at cs ci
  have Hv := hid hv
  have Ht := hid ht
  clear hv ht hbig hm
  go_enter Tryd.func8, Tryd.ntmps8
  go_wp2_with fail
  go_at_call 34
  refine (cs.out _).mono ?_
  rintro e w1 ⟨rfl, hx⟩
  have B1 : (w1.alloc (.cells #[.int .i64 n, .int .i64 p, .int .i64 q, .string d] 43)).heap[w1.heap.size]? = some (.cells #[.int .i64 n, .int .i64 p, .int .i64 q, .string d] 43 (0, 0)) := heap_at _ rfl
  have hx1 : Ext w1 (w1.alloc (.cells #[.int .i64 n, .int .i64 p, .int .i64 q, .string d] 43)) := (by repeat' (first | exact Ext.refl _ | assumption | refine Ext.alloc ?_ _ | refine Ext.ext ?_ _ | refine Ext.drew ?_ | refine Ext.drewN ?_ _))
  have L1 := hid (hx.trans hx1)
  clear hx hx1 cs
  go_wp2_with fail
  generalize w1.alloc (.cells #[.int .i64 n, .int .i64 p, .int .i64 q, .string d] 43) = W1 at *
  generalize w1.heap.size = C at *
  go_at_call 35
  refine (ci.out _ (Hv.out.ext L1.out) (Ht.out.ext L1.out)).mono ?_
  rintro e w2 ⟨rfl, hx⟩
  have B2 : (w2.alloc (.cells #[.int .i64 n, .int .i64 p, .int .i64 q, .string d] 43)).heap[w2.heap.size]? = some (.cells #[.int .i64 n, .int .i64 p, .int .i64 q, .string d] 43 (0, 0)) := heap_at _ rfl
  have hx1 : Ext w2 (w2.alloc (.cells #[.int .i64 n, .int .i64 p, .int .i64 q, .string d] 43)) := (by repeat' (first | exact Ext.refl _ | assumption | refine Ext.alloc ?_ _ | refine Ext.ext ?_ _ | refine Ext.drew ?_ | refine Ext.drewN ?_ _))
  replace B1 := blkx B1 (hx.trans hx1)
  have L2 := hid (L1.out.trans (hx.trans hx1))
  clear hx hx1 L1 ci
  obtain ⟨⟨b0, b1, b2, b3⟩, -, -⟩ := box4 B1
  obtain ⟨⟨c0, c1, c2, c3⟩, -, -⟩ := box4 B2
  go_wp2_with fail
  go_at_call 36
  refine (laws_eqFragment n p q d _).mono ?_
  rintro e w3 ⟨rfl, hx⟩
  have L3 := hid (L2.out.trans hx)
  clear hx L2 b0 b1 b2 b3 c0 c1 c2 c3 B1 B2
  go_wp2
  go_ret
  exact ⟨rfl, L3.out⟩
end Go.Proofs.YtnngklclehffhaaDoor
