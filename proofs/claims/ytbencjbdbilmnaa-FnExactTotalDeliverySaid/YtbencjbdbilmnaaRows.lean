/-
  No cell of these rows narrows 'for every input' (looked for: loops, veiled, ifaces, maps, wideKeys, modest, calm, conditions, laid).
  DERIVED. THE GIVEN ROWS OF THIS SEAT. 4 by the template 'for every input the law returns true; each argument reads behind the call as it read before'; 0 by the template 'total and deterministic' (their statements: YtbencjbdbilmnaaTotals.lean).
  GIVEN WITH THE SEED: the statements are not yours to turn. If you find one false, say at which input.
  Laid BY PROGRAM, IN A SANDBOX (cutbox-rows.mjs): the forced cells as the released guide's own fill.sh prints them over the translation d0b7eba3a64d13d4… (all of the seat's roots in one cut). By AI agents, Wed Nov 11 2026. No macro, syntax, notation, axiom, sorry.
-/
import Derived.Test.YtbencjbdbilmnaaChecked
import GoSem.Claim
import GoSem.ClaimJoined
import GoSem.ClaimMapViews
import Derived.JoinedTies
import Derived.KernelRfl
namespace Go.Proofs.Ytbencjbdbilmnaa
/- THE CELL 'sum', in the pinned program and in every row, IS THE sha256 OF THE DUMP (.gsa) THAT YtbencjbdbilmnaaProg.lean LOADS. Nothing in Lean hashes anything: it is a label: what it is worth is what the hold of that sum in a sandbox is worth. -/
noncomputable def Try.pinned : Pinned := { name := "ytbencjbdbilmnaa", sum := "d0b7eba3a64d13d490e83feb6ca4834237fdd96081e3e1aae7d9068e092487c8", checked := Try.checked }
namespace Rows
def none {H : Type} : Left H := { results := [], args := [] }

/-- 'laws.FnExactIsValidDelivery': WHATEVER THE INPUT: true; the input reads as it did. -/
def fnExactIsValidDeliverySpec : ChangeSpec := { name := "fnExactIsValidDelivery", fn := fun _ => fun
  | [d] => { results := [.lit (.bool true)], args := [d] }
  | _ => none }
def fnExactIsValidDeliveryRow : OpenClaim := { program := "ytbencjbdbilmnaa", sum := "d0b7eba3a64d13d490e83feb6ca4834237fdd96081e3e1aae7d9068e092487c8", func := "loop.example/g00840/laws.FnExactIsValidDelivery", spec := "fnExactIsValidDelivery", apart := false }
def FnExactIsValidDeliverySaid : Prop := fnExactIsValidDeliveryRow.holds Try.pinned (OpenSpec.ofChange fnExactIsValidDeliverySpec)

/-- ITS FALSE NEIGHBOUR: 'it returns false'. Refute it at one input. -/
def fnExactIsValidDeliveryWrong : ChangeSpec := { name := "fnExactIsValidDelivery", fn := fun _ => fun
  | [d] => { results := [.lit (.bool false)], args := [d] }
  | _ => none }
def FnExactIsValidDeliveryWrongFalsely : Prop := fnExactIsValidDeliveryRow.holds Try.pinned (OpenSpec.ofChange fnExactIsValidDeliveryWrong)

/-- 'laws.FnExactWorstLoss': WHATEVER THE INPUT: true; the input reads as it did. -/
def fnExactWorstLossSpec : ChangeSpec := { name := "fnExactWorstLoss", fn := fun _ => fun
  | [d] => { results := [.lit (.bool true)], args := [d] }
  | _ => none }
def fnExactWorstLossRow : OpenClaim := { program := "ytbencjbdbilmnaa", sum := "d0b7eba3a64d13d490e83feb6ca4834237fdd96081e3e1aae7d9068e092487c8", func := "loop.example/g00840/laws.FnExactWorstLoss", spec := "fnExactWorstLoss", unfollowed := true, recurses := true, apart := false }
def FnExactWorstLossSaid : Prop := fnExactWorstLossRow.holds Try.pinned (OpenSpec.ofChange fnExactWorstLossSpec)

/-- ITS FALSE NEIGHBOUR: 'it returns false'. Refute it at one input. -/
def fnExactWorstLossWrong : ChangeSpec := { name := "fnExactWorstLoss", fn := fun _ => fun
  | [d] => { results := [.lit (.bool false)], args := [d] }
  | _ => none }
def FnExactWorstLossWrongFalsely : Prop := fnExactWorstLossRow.holds Try.pinned (OpenSpec.ofChange fnExactWorstLossWrong)

/-- 'laws.FnExactPerfectReceivers': WHATEVER THE INPUT: true; the input reads as it did. -/
def fnExactPerfectReceiversSpec : ChangeSpec := { name := "fnExactPerfectReceivers", fn := fun _ => fun
  | [d] => { results := [.lit (.bool true)], args := [d] }
  | _ => none }
def fnExactPerfectReceiversRow : OpenClaim := { program := "ytbencjbdbilmnaa", sum := "d0b7eba3a64d13d490e83feb6ca4834237fdd96081e3e1aae7d9068e092487c8", func := "loop.example/g00840/laws.FnExactPerfectReceivers", spec := "fnExactPerfectReceivers", apart := false }
def FnExactPerfectReceiversSaid : Prop := fnExactPerfectReceiversRow.holds Try.pinned (OpenSpec.ofChange fnExactPerfectReceiversSpec)

/-- ITS FALSE NEIGHBOUR: 'it returns false'. Refute it at one input. -/
def fnExactPerfectReceiversWrong : ChangeSpec := { name := "fnExactPerfectReceivers", fn := fun _ => fun
  | [d] => { results := [.lit (.bool false)], args := [d] }
  | _ => none }
def FnExactPerfectReceiversWrongFalsely : Prop := fnExactPerfectReceiversRow.holds Try.pinned (OpenSpec.ofChange fnExactPerfectReceiversWrong)

/-- 'laws.FnExactTotalDelivery': WHATEVER THE INPUT: true; the input reads as it did. -/
def fnExactTotalDeliverySpec : ChangeSpec := { name := "fnExactTotalDelivery", fn := fun _ => fun
  | [d] => { results := [.lit (.bool true)], args := [d] }
  | _ => none }
def fnExactTotalDeliveryRow : OpenClaim := { program := "ytbencjbdbilmnaa", sum := "d0b7eba3a64d13d490e83feb6ca4834237fdd96081e3e1aae7d9068e092487c8", func := "loop.example/g00840/laws.FnExactTotalDelivery", spec := "fnExactTotalDelivery", apart := false }
def FnExactTotalDeliverySaid : Prop := fnExactTotalDeliveryRow.holds Try.pinned (OpenSpec.ofChange fnExactTotalDeliverySpec)

/-- ITS FALSE NEIGHBOUR: 'it returns false'. Refute it at one input. -/
def fnExactTotalDeliveryWrong : ChangeSpec := { name := "fnExactTotalDelivery", fn := fun _ => fun
  | [d] => { results := [.lit (.bool false)], args := [d] }
  | _ => none }
def FnExactTotalDeliveryWrongFalsely : Prop := fnExactTotalDeliveryRow.holds Try.pinned (OpenSpec.ofChange fnExactTotalDeliveryWrong)

/- THE SECOND FORM. 'bulk': how many values and letters a reading holds, each counted each time it is reached (what is shared counts as often as it is met; a slice's spare places count too). A statement '..UptoSaid' is the law's where the arguments, and the package variables that the reading takes, are together of bulk at most 1048576: NARROWER than '..Said'. Prove '..Said' where nothing that the law and all that it calls make is longer than what came in: it says more and counts as full. Else prove '..UptoSaid'. A law counts once. -/
mutual
def uptoBulk {H : Type} : DataW H → Nat
  | .lit (.string bytes) => bytes.length + 1
  | .lit _ => 1
  | .nil => 1
  | .ptr d => uptoBulk d + 1
  | .slice elems spare => uptoBulkAll elems + uptoBulkAll spare + 1
  | .agg parts => uptoBulkAll parts + 1
  | .iface _ d => uptoBulk d + 1
  | .map entries => uptoBulkEntries entries + 1
  | .held _ => 1
def uptoBulkAll {H : Type} : List (DataW H) → Nat
  | [] => 0
  | d :: r => uptoBulk d + uptoBulkAll r
def uptoBulkEntries {H : Type} : List (Lit × DataW H) → Nat
  | [] => 0
  | x :: r => uptoBulkEntry x + uptoBulkEntries r
def uptoBulkEntry {H : Type} : Lit × DataW H → Nat
  | (.string bytes, d) => bytes.length + uptoBulk d + 1
  | (_, d) => uptoBulk d + 1
 end
def uptoSmall : (H : Type) → List (DataW H) → Bool := fun _ ds => decide (uptoBulkAll ds ≤ 1048576)
def OpenSpec.upto (s : _root_.Go.ChangeSpec) : _root_.Go.OpenSpec := { _root_.Go.OpenSpec.ofChange s with cond := some uptoSmall }

/-- 'laws.FnExactIsValidDelivery', WHERE WHAT IT READS IS OF BULK AT MOST 1048576: true; the input reads as it did. -/
def fnExactIsValidDeliveryUptoRow : OpenClaim := { program := "ytbencjbdbilmnaa", sum := "d0b7eba3a64d13d490e83feb6ca4834237fdd96081e3e1aae7d9068e092487c8", func := "loop.example/g00840/laws.FnExactIsValidDelivery", spec := "fnExactIsValidDelivery", apart := false, narrowed := true }
def FnExactIsValidDeliveryUptoSaid : Prop := fnExactIsValidDeliveryUptoRow.holds Try.pinned (OpenSpec.upto fnExactIsValidDeliverySpec)

/-- 'laws.FnExactWorstLoss', WHERE WHAT IT READS IS OF BULK AT MOST 1048576: true; the input reads as it did. -/
def fnExactWorstLossUptoRow : OpenClaim := { program := "ytbencjbdbilmnaa", sum := "d0b7eba3a64d13d490e83feb6ca4834237fdd96081e3e1aae7d9068e092487c8", func := "loop.example/g00840/laws.FnExactWorstLoss", spec := "fnExactWorstLoss", unfollowed := true, recurses := true, apart := false, narrowed := true }
def FnExactWorstLossUptoSaid : Prop := fnExactWorstLossUptoRow.holds Try.pinned (OpenSpec.upto fnExactWorstLossSpec)

/-- 'laws.FnExactPerfectReceivers', WHERE WHAT IT READS IS OF BULK AT MOST 1048576: true; the input reads as it did. -/
def fnExactPerfectReceiversUptoRow : OpenClaim := { program := "ytbencjbdbilmnaa", sum := "d0b7eba3a64d13d490e83feb6ca4834237fdd96081e3e1aae7d9068e092487c8", func := "loop.example/g00840/laws.FnExactPerfectReceivers", spec := "fnExactPerfectReceivers", apart := false, narrowed := true }
def FnExactPerfectReceiversUptoSaid : Prop := fnExactPerfectReceiversUptoRow.holds Try.pinned (OpenSpec.upto fnExactPerfectReceiversSpec)

/-- 'laws.FnExactTotalDelivery', WHERE WHAT IT READS IS OF BULK AT MOST 1048576: true; the input reads as it did. -/
def fnExactTotalDeliveryUptoRow : OpenClaim := { program := "ytbencjbdbilmnaa", sum := "d0b7eba3a64d13d490e83feb6ca4834237fdd96081e3e1aae7d9068e092487c8", func := "loop.example/g00840/laws.FnExactTotalDelivery", spec := "fnExactTotalDelivery", apart := false, narrowed := true }
def FnExactTotalDeliveryUptoSaid : Prop := fnExactTotalDeliveryUptoRow.holds Try.pinned (OpenSpec.upto fnExactTotalDeliverySpec)

end Rows
end Go.Proofs.Ytbencjbdbilmnaa
