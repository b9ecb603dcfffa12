/- The lines of a text, one by one: the library's iterator. A function's two results that lie in variables of one cell. -/
import Derived.Test.YtljknhocfjpolaaGreatDoorKWLines
import Derived.Test.YtljknhocfjpolaaGreatDoorKWPcL
import Derived.Test.YtljknhocfjpolaaGreatDoorJ24
import Derived.Test.YtljknhocfjpolaaGreatDoorKWCurL
import Derived.Test.YtljknhocfjpolaaGreatDoorKWRd2
import Derived.Shelf.Abstract
import Derived.WalkKit
import Derived.OwnWalkIn
import Derived.TacticsInMore
import Derived.RegionIn
import Derived.LoopNIn
import Derived.LoopIn
import Derived.Test.YtljknhocfjpolaaGreatDoorJ3
namespace Go.Proofs.YtljknhocfjpolaaGreatDoor
open Go.RowKit Go.Shelf
set_option maxHeartbeats 2000000
set_option maxRecDepth 100000
attribute [local go_sem] Oper.semAt_some
theorem grow_drew {W W' : World} {row : Option Nat} (h : W.grownBy W' row) : W.grownBy W'.drew row := grownBy_trans h (((Ext.refl W').drew).grownBy row)
/-- How much is left, read off the world. -/
def leftZ (Z : Nat) (W : World) : Nat := match W.cell? ⟨Z, 0, none⟩ with
  | some (.string R) => R.size
  | _ => 0
theorem leftZ_of {Z t : Nat} {W : World} {R : ByteArray} (h : W.heap[Z]? = some (.cells #[.string R] t (0, 0))) : leftZ Z W = R.size := by
  rw [leftZ, (box1 h).1]
theorem lnE_pos {R : List UInt8} (h : 0 < R.length) : 0 < lnE R ∧ lnE R ≤ R.length := by
  rw [lnE]
  split
  · exact ⟨h, Nat.le_refl _⟩
  · rename_i hi
    have h1 := Lib.indexByte_ge R 10
    obtain ⟨o, ho⟩ : ∃ o : Nat, Lib.indexByte R 10 = o := ⟨(Lib.indexByte R 10).toNat, by omega⟩
    have h2 := (Lib.indexByte_some ho).1
    have h3 := (List.getElem?_eq_some_iff.1 h2).1
    rw [ho, Int.toNat_natCast]
    omega
theorem lnZ_size {R : ByteArray} (h : 0 < R.size) : (lnZ R).size < R.size := by
  have e : R.data.toList.length = R.size := by simp
  have := lnE_pos (R := R.data.toList) (by omega)
  rw [lnZ, mkS_size, List.length_drop]
  omega
theorem lnA_size (R : ByteArray) : (lnA R).size ≤ R.size := by
  have e : R.data.toList.length = R.size := by simp
  rw [lnA, mkS_size, List.length_take]
  omega
theorem strings_Lines (s : ByteArray) (w : World) : Calls Tryz.prog 41 #[.string s] w fun e w' => e = .returned (.func (.func 84) #[] #[.pointer (some ⟨w.heap.size, 0, none⟩)]) ∧ w' = w.alloc (.cells #[.string s] 9) := by
  go_enter Tryz.func41, Tryz.ntmps41
  go_wp2
  go_ret
  exact ⟨rfl, rfl⟩
theorem lines_seq (n : Nat) (hn : 1 ≤ n) (Z : Nat) : SeqText n Tryz.prog 84 Z 9 lnA lnZ := by
  intro l J Jx s W hJ hY h0 hZ hsz
  have HJ := hid hJ
  have HY := hid hY
  clear hJ hY
  refine callsIn_of_wp Tryz.func84 rfl trivial ?_ rfl
  simp only [Tryz.ntmps84, List.size_toArray, List.length_cons, List.length_nil, Nat.reduceAdd, Nat.reduceSub, Array.replicate_succ, Array.replicate_zero, List.push_toArray, List.append_toArray, List.nil_append, List.cons_append]
  gi_wp2
  gi_loopw [3, 4] (fun v3 v4 wr => ∃ (R : ByteArray) (yr : World), yr = wr ∧ R.size ≤ s.size ∧ Hid (J R yr ∧ yr.heap[Z]? = some (.cells #[.string R] 9 (0, 0)))) (fun _ _ wr => leftZ Z wr)
  case atStart => exact ⟨s, _, rfl, Nat.le_refl _, h0, hZ⟩
  case round =>
    obtain ⟨R, wr, rfl, hR, H⟩ := hrel
    obtain ⟨z0, z1, z2⟩ := box1 H.out.2
    by_cases h0 : R.size = 0
    · have t0 : ¬ (0 : Int) < (R.size : Int) := by omega
      obtain rfl : R = ByteArray.empty := ByteArray.ext (Array.eq_empty_of_size_eq_zero h0)
      have HJ1 := hid H.out.1
      clear H
      gi_wp2
      go_end0
      exact ⟨⟨_, rfl⟩, .inl HJ1.out⟩
    · have t0 : (0 : Int) < (R.size : Int) := by omega
      have hpos : 0 < R.size := by omega
      have ci := hid (fun w => strings_IndexByte R 10 w)
      have hms := lnZ_size hpos
      have hlm : leftZ Z wr = R.size := leftZ_of H.out.2
      rw [show ((10 : Int).toNat.toUInt8) = 10 from rfl] at ci
      have e9 : R.data.toList.length = R.size := by simp
      have hg0 := fun (v : ByteArray) => grownBy_set wr ⟨Z, 0, none⟩ (.string v)
      have hy0 := fun (W1 : World) (hg : wr.grownBy W1 (some Z)) (hz : W1.heap[Z]? = some (.cells #[.string (lnZ R)] 9 (0, 0))) => HY.out R W1 (HJ.out R wr W1 H.out.1 hg) hpos hR hz
      by_cases hi : Lib.indexByte R.data.toList 10 = -1
      · have hA : lnA R = R := by rw [lnA, lnE, if_pos hi, List.take_length, mkS_of]
        have hZ' : lnZ R = ⟨#[]⟩ := by rw [lnZ, lnE, if_pos hi, List.drop_length]; rfl
        rw [hi] at ci
        rw [hA, hZ'] at hy0
        have hz1 := box1_set H.out.2 (.string ⟨#[]⟩)
        obtain ⟨fn, tmps, assign, body, hy, hR3⟩ := hy0 (wr.setCell ⟨Z, 0, none⟩ (.string ⟨#[]⟩)) (hg0 _) hz1
        have HR3 := hid hR3
        have Hlm := hid hlm
        have Hms := hid hms
        rw [hZ'] at Hms
        clear hi hA hZ' hR3 hy0 hg0 hlm hms
        gi_wp2_with (refine ⟨trivial, ?_⟩; gi_at_call 85; refine (callsIn_wide.2 (ci.out _)).mono ?_; rintro e w' ⟨rfl, rfl⟩)
        refine HR3.out.mono ?_
        rintro e W3 (⟨rfl, hJ3, hk⟩ | ⟨rfl, hx⟩)
        · have H3 := hid (And.intro hJ3 (hk.trans hz1))
          clear hJ3 hk
          gi_wp2
          exact ⟨⟨⟨#[]⟩, _, rfl, Nat.zero_le _, H3.out⟩, by rw [Hlm.out, leftZ_of H3.out.2]; exact Hms.out⟩
        · gi_wp2
          refine bodyPost_ret (results_none rfl _ _ _) rfl ?_
          exact ⟨⟨_, rfl⟩, .inr hx⟩
      · obtain ⟨o, ho⟩ : ∃ o : Nat, Lib.indexByte R.data.toList 10 = o := ⟨(Lib.indexByte R.data.toList 10).toNat, by have := Lib.indexByte_ge R.data.toList 10; omega⟩
        have hol : o < R.size := by have := (List.getElem?_eq_some_iff.1 (Lib.indexByte_some ho).1).1; omega
        have hE : lnE R.data.toList = o + 1 := by rw [lnE, if_neg hi, ho, Int.toNat_natCast]
        have hA : lnA R = R.extract 0 (o + 1) := by rw [lnA, hE, ext_mkS]; rfl
        have hZ' : lnZ R = R.extract (o + 1) R.size := by rw [lnZ, hE, ext_mkS, List.take_of_length_le (by rw [List.length_drop]; omega)]
        rw [ho] at ci
        rw [hA, hZ'] at hy0
        rw [hZ'] at hms
        have hz1 := box1_set H.out.2 (.string (R.extract (o + 1) R.size))
        obtain ⟨fn, tmps, assign, body, hy, hR3⟩ := hy0 (wr.setCell ⟨Z, 0, none⟩ (.string (R.extract (o + 1) R.size))).drew (grow_drew (hg0 _)) hz1
        have HR3 := hid hR3
        have Hlm := hid hlm
        have Hms := hid hms
        have o0 : (0 : Int) ≤ (o : Int) := by omega
        have o1 : IntKind.i64.wrap ((o : Int) + 1) = (o : Int) + 1 := IntWalk.i64_in _ (by omega)
        have o2 : (0 : Int) ≤ (o : Int) + 1 := by omega
        have o3 : (o : Int) + 1 ≤ (R.size : Int) := by omega
        have o4 : ((o : Int) + 1).toNat = o + 1 := by omega
        clear hi hA hZ' hR3 hy0 hg0 hlm hms ho hE
        gi_wp2_with (refine ⟨trivial, ?_⟩; gi_at_call 85; refine (callsIn_wide.2 (ci.out _)).mono ?_; rintro e w' ⟨rfl, rfl⟩)
        gi_region
        gi_wp2
        refine HR3.out.mono ?_
        rintro e W3 (⟨rfl, hJ3, hk⟩ | ⟨rfl, hx⟩)
        · have H3 := hid (And.intro hJ3 (hk.trans hz1))
          clear hJ3 hk
          gi_wp2
          exact ⟨⟨_, _, rfl, by have := Hms.out; omega, H3.out⟩, by rw [Hlm.out, leftZ_of H3.out.2]; exact Hms.out⟩
        · gi_wp2
          refine bodyPost_ret (results_none rfl _ _ _) rfl ?_
          exact ⟨⟨_, rfl⟩, .inr hx⟩
end Go.Proofs.YtljknhocfjpolaaGreatDoor
namespace Go
section
variable {P : Program}
theorem run_loadVar_one (w : World) (g : Nat) (t ty : TypeId) (a : Value) (d : TypeDesc) (hg : w.heap[g]? = some (.cells #[a] t (0, 0))) (hu : P.underlying ty = some d) (hd : (match d with | .struct _ | .array _ _ => false | _ => true) = true) :
    (loadVar ty ⟨g, 0, none⟩).run P w = .ok a w := by
  have hagg : (isAgg ty).run P w = .ok false w := by
    unfold isAgg
    rw [Sem.run_bind, run_underlying hu w]
    cases d <;> simp_all
  have hc : w.cell? ⟨g, 0, none⟩ = some a := by rw [cell_of_row w g 0 _ t _ hg]; rfl
  simp [loadVar, Sem.run_bind, hagg, hc, Result.andThen]
theorem results_pp {fn : Func} {p q : Tmp} {ty ty2 : TypeId} (tmps : Array Value) (w : World) (g g2 : Nat) (t t2 : TypeId) (a b : Value) (d d2 : TypeDesc)
    (hp : tmps.getD p undef = .pointer (some ⟨g, 0, none⟩)) (hg : w.heap[g]? = some (.cells #[a] t (0, 0))) (hu : P.underlying ty = some d) (hd : (match d with | .struct _ | .array _ _ => false | _ => true) = true)
    (hq : tmps.getD q undef = .pointer (some ⟨g2, 0, none⟩)) (hg2 : w.heap[g2]? = some (.cells #[b] t2 (0, 0))) (hu2 : P.underlying ty2 = some d2) (hd2 : (match d2 with | .struct _ | .array _ _ => false | _ => true) = true)
    (h : fn.results = #[.cell p ty, .cell q ty2]) : (results fn tmps).run P w = .ok (.tuple #[a, b]) w := by
  simp only [Array.getD_eq_getD_getElem?] at hp hq
  simp only [results, h]
  simp [Sem.run_bind, Result.andThen, hp, hq, asAddr, run_loadVar_one w g t ty a d hg hu hd, run_loadVar_one w g2 t2 ty2 b d2 hg2 hu2 hd2]
end
end Go
