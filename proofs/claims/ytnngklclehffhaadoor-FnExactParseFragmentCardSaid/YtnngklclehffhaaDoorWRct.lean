/- A function's two results of which the first is a struct in a variable. -/
import Derived.Test.YtnngklclehffhaaDoorKit2
namespace Go
section
variable {P : Program} {fn : Func} {p u : Tmp} {ty : TypeId} {tmps : Array Value} {w : World} {g : Nat} {t : TypeId} {cs : Array Value} {d : TypeDesc} {a : Value}
/-- Two results: a struct in a variable, and a value. -/
theorem results_ct (hp : tmps.getD p undef = .pointer (some ⟨g, 0, none⟩)) (hg : w.heap[g]? = some (.cells cs t (0, 0))) (hu : P.underlying ty = some d) (hd : (match d with | .struct _ | .array _ _ => true | _ => false) = true) (hi : (P.info? ty).map (·.size) = some cs.size)
    (h : fn.results = #[.cell p ty, .tmp u]) (ha : tmps.getD u undef = a) : (results fn tmps).run P w = .ok (.tuple #[.agg cs, a]) w := by
  simp only [Array.getD_eq_getD_getElem?] at hp ha
  simp only [results, h]
  simp [Result.andThen, hp, ha, asAddr, run_loadVar_row w g t ty cs (0, 0) d hg hu hd hi]
end
end Go
namespace Go.RowKit
theorem blkx {W W' : World} {T : Nat} {o : Obj} (ho : W.heap[T]? = some o) (hx : Ext W W') : W'.heap[T]? = some o := (hx.heap (Array.getElem?_eq_some_iff.1 ho).1).trans ho
end Go.RowKit
