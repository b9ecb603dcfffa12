/- Numbers read off texts, and texts split: the reference's side. A function's two results of which the first is a struct in a variable. -/
import Derived.Test.YtnngklclehffhaaGreatDoorKWRd
import Derived.Test.YtnngklclehffhaaGreatDoorJ2
namespace Go.Proofs.YtnngklclehffhaaGreatDoor
open Go.RowKit
set_option maxHeartbeats 4000000
set_option maxRecDepth 100000
theorem byteS (s : ByteArray) (i : Nat) (h : i < s.size) : s[i] = s.data.toList.getD i 0 := by
  rw [List.getD_eq_getElem?_getD, List.getElem?_eq_getElem (by simpa using h)]; rfl
/-- What stands between two places of a text. -/
theorem ext_mkS (s : ByteArray) (f k : Nat) : s.extract f k = mkS ((s.data.toList.drop f).take (k - f)) := by
  apply ByteArray.ext
  apply Array.ext'
  rw [mkS]
  simp [ByteArray.data_extract, List.take_drop]
theorem spl_at {l : List UInt8} {b : UInt8} {f k : Nat} (hf : f ≤ k) (hk : k < l.length) (hno : ∀ c ∈ (l.drop f).take (k - f), c ≠ b) (hb : l.getD k 0 = b) : spl b (l.drop f) = (l.drop f).take (k - f) :: spl b (l.drop (k + 1)) := by
  have e : l.drop f = (l.drop f).take (k - f) ++ b :: l.drop (k + 1) := by
    conv => lhs; rw [← List.take_append_drop (k - f) (l.drop f)]
    congr 1
    rw [List.drop_drop, show f + (k - f) = k by omega, List.drop_eq_getElem_cons hk]
    congr 1
    rw [List.getD_eq_getElem?_getD, List.getElem?_eq_getElem hk] at hb
    exact hb
  conv => lhs; rw [e]
  rw [spl_hit _ hno]
theorem no_more {l : List UInt8} {b : UInt8} {f k : Nat} (hf : f ≤ k) (hk : k < l.length) (hno : ∀ c ∈ (l.drop f).take (k - f), c ≠ b) (hb : ¬ l.getD k 0 = b) : ∀ c ∈ (l.drop f).take (k + 1 - f), c ≠ b := by
  intro c hc
  rw [show k + 1 - f = (k - f) + 1 by omega, List.take_succ_eq_append_getElem (by rw [List.length_drop]; omega)] at hc
  rcases List.mem_append.1 hc with h | h
  · exact hno c h
  · rw [List.mem_singleton.1 h, List.getElem_drop]
    rw [List.getD_eq_getElem?_getD, List.getElem?_eq_getElem hk] at hb
    simp only [show f + (k - f) = k by omega]
    exact hb
/-- While parts are gathered. -/
def SpW (w W : World) (u : Value) (L : List ByteArray) : Prop := Ext w W ∧ W.ownsRow w.heap.size 9 1 u L.length (vStrs L)
theorem SpW.ext {w W W' : World} {u : Value} {L : List ByteArray} (h : SpW w W u L) (hx : Ext W W') : SpW w W' u L := ⟨h.1.trans hx, own_ext h.2 hx⟩
theorem SpW.grow {w W W' : World} {u u' : Value} {L : List ByteArray} {s : ByteArray} (h : SpW w W u L) (hg : W.grownBy W' u.ownBlock) (ho : W'.ownsRow w.heap.size 9 1 u' (L.length + 1) (vStrs L ++ [.string s])) : SpW w W' u' (L ++ [s]) := by
  refine ⟨h.1.grown hg (fun j e => (own_row h.2 j e).1), ?_⟩
  rw [List.length_append, show vStrs (L ++ [s]) = vStrs L ++ [.string s] by simp [vStrs]]
  exact ho
theorem byte_test {c b : UInt8} (h : c = b) : ((c.toNat : Int) == (b.toNat : Int)) = true := by rw [h]; simp
theorem byte_test_no {c b : UInt8} (h : ¬ c = b) : ((c.toNat : Int) == (b.toNat : Int)) = false := by
  rw [beq_eq_false_iff_ne]
  intro e
  exact h (UInt8.toNat_inj.1 (by omega))
end Go.Proofs.YtnngklclehffhaaGreatDoor
namespace Go
section
variable {P : Program} {fn : Func} {p u : Tmp} {ty : TypeId} {tmps : Array Value} {w : World} {g : Nat} {t : TypeId} {cs : Array Value} {d : TypeDesc} {a : Value}
/-- Two results: a struct in a variable, and a value. -/
theorem results_ct (hp : tmps.getD p undef = .pointer (some ⟨g, 0, none⟩)) (hg : w.heap[g]? = some (.cells cs t (0, 0))) (hu : P.underlying ty = some d) (hd : (match d with | .struct _ | .array _ _ => true | _ => false) = true) (hi : (P.info? ty).map (·.size) = some cs.size)
    (h : fn.results = #[.cell p ty, .tmp u]) (ha : tmps.getD u undef = a) : (results fn tmps).run P w = .ok (.tuple #[.agg cs, a]) w := by
  simp only [Array.getD_eq_getD_getElem?] at hp ha
  simp only [results, h]
  simp [Result.andThen, hp, ha, asAddr, run_loadVar_row w g t ty cs (0, 0) d hg hu hd hi]
end
end Go
namespace Go.RowKit
theorem blkx {W W' : World} {T : Nat} {o : Obj} (ho : W.heap[T]? = some o) (hx : Ext W W') : W'.heap[T]? = some o := (hx.heap (Array.getElem?_eq_some_iff.1 ho).1).trans ho
end Go.RowKit
