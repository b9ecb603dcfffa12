/- The item that a gapped block lacks: the plain law. -/
import Derived.Test.YthnfdgbmmiddlaaDoorWFits
import Derived.Test.YthnfdgbmmiddlaaDoorWOf
namespace Go.Proofs.YthnfdgbmmiddlaaDoor
open Go.RowKit
set_option maxHeartbeats 400000
/-- The strings but that at m, up to place k. -/
def othTo (ss : List ByteArray) (m k : Nat) : List ByteArray := ((List.range k).filter (fun i => !(i == m))).map (fun i => ss.getD i ByteArray.empty)
def oth (ss : List ByteArray) (m : Nat) : List ByteArray := othTo ss m ss.length
theorem othTo_in (ss : List ByteArray) (m k : Nat) (h : k ≠ m) : othTo ss m (k + 1) = othTo ss m k ++ [ss.getD k ByteArray.empty] := by
  have : (k == m) = false := by simpa using h
  simp [othTo, List.range_succ, List.filter_append, this]
theorem othTo_at (ss : List ByteArray) (m : Nat) : othTo ss m (m + 1) = othTo ss m m := by
  simp [othTo, List.range_succ, List.filter_append]
theorem othTo_low (ss : List ByteArray) (m : Nat) : ∀ k, k ≤ m → k ≤ ss.length → othTo ss m k = ss.take k
  | 0, _, _ => by simp [othTo]
  | k + 1, h, hl => by rw [othTo_in ss m k (by omega), othTo_low ss m k (by omega) (by omega), take_snoc ss ByteArray.empty k (by omega)]
theorem othTo_high (ss : List ByteArray) (m : Nat) : ∀ d, m + 1 + d ≤ ss.length → othTo ss m (m + 1 + d) = ss.take m ++ (ss.drop (m + 1)).take d
  | 0, h => by rw [Nat.add_zero, othTo_at, othTo_low ss m m (Nat.le_refl _) (by omega)]; simp
  | d + 1, h => by
    rw [show m + 1 + (d + 1) = (m + 1 + d) + 1 by omega, othTo_in ss m _ (by omega), othTo_high ss m d (by omega), take_snoc (ss.drop (m + 1)) ByteArray.empty d (by simp; omega), List.append_assoc]
    congr 2
    rw [List.getD_eq_getElem?_getD, List.getD_eq_getElem?_getD, List.getElem?_drop]
theorem oth_eq (ss : List ByteArray) (m : Nat) (h : m < ss.length) : oth ss m = ss.take m ++ ss.drop (m + 1) := by
  have := othTo_high ss m (ss.length - (m + 1)) (by omega)
  rw [show m + 1 + (ss.length - (m + 1)) = ss.length by omega] at this
  rw [oth, this]
  congr 1
  exact List.take_of_length_le (by rw [List.length_drop]; exact Nat.le_refl _)
def minus (P : List Int) (ys : List ByteArray) : List Int := ys.foldl (fun R s => addL R (lc s) 26) P
theorem minus_snoc (P : List Int) (ys : List ByteArray) (s : ByteArray) : minus P (ys ++ [s]) = addL (minus P ys) (lc s) 26 := by rw [minus, List.foldl_append]; rfl
theorem addL_get {P C : List Int} {t : Int} {i : Nat} (h : i < P.length) : (addL P C t).getD i 0 = (P.getD i 0 + t * C.getD i 0) % 27 := by
  rw [List.getD_eq_getElem?_getD, addL, List.getElem?_map, List.getElem?_range h]
  rfl
theorem list_ext0 {A B : List Int} (h : A.length = B.length) (hh : ∀ i, i < A.length → A.getD i 0 = B.getD i 0) : A = B := by
  have := same_all h hh
  rwa [beq_iff_eq] at this
theorem parL_add (ys : List ByteArray) (s : ByteArray) : parL (ys ++ [s]) = addL (parL ys) (lc s) 1 := by rw [parL, List.foldl_append]; rfl
theorem minus_eq {P : List Int} (hP : isPar P = true) : ∀ (zs ys : List ByteArray), ys = zs.reverse → minus P ys = addL P (parL ys) 26
  | [], ys, e => by
    subst e
    refine list_ext0 (by rw [addL_len]; rfl) (fun i hi => ?_)
    have hi' : i < P.length := hi
    rw [addL_get hi']
    have hb := isPar_get hP i hi'
    have h8 := isPar_len hP
    have hz : (parL []).getD i 0 = 0 := by
      have : i < 8 := by omega
      rcases i with _ | _ | _ | _ | _ | _ | _ | _ | i <;> first | rfl | omega
    show P.getD i 0 = (P.getD i 0 + 26 * (parL []).getD i 0) % 27
    rw [hz]
    omega
  | z :: zs, ys, e => by
    have e2 : ys = zs.reverse ++ [z] := by rw [e, List.reverse_cons]
    subst e2
    rw [minus_snoc, minus_eq hP zs _ rfl, parL_add]
    have h8 := isPar_len hP
    refine list_ext0 (by rw [addL_len, addL_len, addL_len]) (fun i hi => ?_)
    rw [addL_len, addL_len] at hi
    rw [addL_get (by rw [addL_len]; exact hi), addL_get hi, addL_get hi, addL_get (by rw [parL_len]; omega)]
    omega
theorem minus_is {P : List Int} (hP : isPar P = true) (ys : List ByteArray) : minus P ys = addL P (parL ys) 26 := minus_eq hP ys.reverse ys (by rw [List.reverse_reverse])
def recB (ss : List ByteArray) (m : Int) (P : List Int) : Bool := inB m 0 ((ss.length : Int) - 1) && isPar P && (decide (ss.length ≤ 6) && allS (oth ss m.toNat))
def recC (ss : List ByteArray) (m : Int) (P : List Int) : List Int := addL P (parL (oth ss m.toNat)) 26
def recR (ss : List ByteArray) (m : Int) (P : List Int) : Bool := recB ss m P && ofB (recC ss m P)
def recT (ss : List ByteArray) (m : Int) (P : List Int) : ByteArray := if recB ss m P then ofT (recC ss m P) else ⟨#[]⟩
end Go.Proofs.YthnfdgbmmiddlaaDoor
