/-
  No cell of these rows narrows 'for every input' (looked for: loops, veiled, ifaces, maps, wideKeys, modest, calm, conditions, laid).
  DERIVED. THE GIVEN ROWS OF THIS SEAT. 12 by the template 'for every input the law returns true; each argument reads behind the call as it read before'; 0 by the template 'total and deterministic' (their statements: YthpeicpfaonkdaaTotals.lean).
  GIVEN WITH THE SEED: the statements are not yours to turn. If you find one false, say at which input.
  Laid BY PROGRAM, IN A SANDBOX (cutbox-rows.mjs): the forced cells as the released guide's own fill.sh prints them over the translation 906fa167f1c759c4… (all of the seat's roots in one cut). By AI agents, Wed Nov 11 2026. No macro, syntax, notation, axiom, sorry.
-/
import Derived.Test.YthpeicpfaonkdaaChecked
import GoSem.Claim
import GoSem.ClaimJoined
import GoSem.ClaimMapViews
import Derived.JoinedTies
import Derived.KernelRfl
namespace Go.Proofs.Ythpeicpfaonkdaa
/- THE CELL 'sum', in the pinned program and in every row, IS THE sha256 OF THE DUMP (.gsa) THAT YthpeicpfaonkdaaProg.lean LOADS. Nothing in Lean hashes anything: it is a label: what it is worth is what the hold of that sum in a sandbox is worth. -/
noncomputable def Try.pinned : Pinned := { name := "ythpeicpfaonkdaa", sum := "906fa167f1c759c40d01f90ef474d7b9f2eda722d81262123f6ca1f362396f09", checked := Try.checked }
namespace Rows
def none {H : Type} : Left H := { results := [], args := [] }

/-- 'laws.FnExactIsValidCosts': WHATEVER THE INPUT: true; the input reads as it did. -/
def fnExactIsValidCostsSpec : ChangeSpec := { name := "fnExactIsValidCosts", fn := fun _ => fun
  | [d1, d2] => { results := [.lit (.bool true)], args := [d1, d2] }
  | _ => none }
def fnExactIsValidCostsRow : OpenClaim := { program := "ythpeicpfaonkdaa", sum := "906fa167f1c759c40d01f90ef474d7b9f2eda722d81262123f6ca1f362396f09", func := "loop.example/g00840/laws.FnExactIsValidCosts", spec := "fnExactIsValidCosts", apart := false }
def FnExactIsValidCostsSaid : Prop := fnExactIsValidCostsRow.holds Try.pinned (OpenSpec.ofChange fnExactIsValidCostsSpec)

/-- ITS FALSE NEIGHBOUR: 'it returns false'. Refute it at one input. -/
def fnExactIsValidCostsWrong : ChangeSpec := { name := "fnExactIsValidCosts", fn := fun _ => fun
  | [d1, d2] => { results := [.lit (.bool false)], args := [d1, d2] }
  | _ => none }
def FnExactIsValidCostsWrongFalsely : Prop := fnExactIsValidCostsRow.holds Try.pinned (OpenSpec.ofChange fnExactIsValidCostsWrong)

/-- 'laws.FnExactDelayTo': WHATEVER THE INPUT: true; the input reads as it did. -/
def fnExactDelayToSpec : ChangeSpec := { name := "fnExactDelayTo", fn := fun _ => fun
  | [d1, d2, d3] => { results := [.lit (.bool true)], args := [d1, d2, d3] }
  | _ => none }
def fnExactDelayToRow : OpenClaim := { program := "ythpeicpfaonkdaa", sum := "906fa167f1c759c40d01f90ef474d7b9f2eda722d81262123f6ca1f362396f09", func := "loop.example/g00840/laws.FnExactDelayTo", spec := "fnExactDelayTo", unfollowed := true, recurses := true, apart := false }
def FnExactDelayToSaid : Prop := fnExactDelayToRow.holds Try.pinned (OpenSpec.ofChange fnExactDelayToSpec)

/-- ITS FALSE NEIGHBOUR: 'it returns false'. Refute it at one input. -/
def fnExactDelayToWrong : ChangeSpec := { name := "fnExactDelayTo", fn := fun _ => fun
  | [d1, d2, d3] => { results := [.lit (.bool false)], args := [d1, d2, d3] }
  | _ => none }
def FnExactDelayToWrongFalsely : Prop := fnExactDelayToRow.holds Try.pinned (OpenSpec.ofChange fnExactDelayToWrong)

/-- 'laws.FnExactWorsenLink': WHATEVER THE INPUT: true; the input reads as it did. -/
def fnExactWorsenLinkSpec : ChangeSpec := { name := "fnExactWorsenLink", fn := fun _ => fun
  | [d1, d2, d3, d4] => { results := [.lit (.bool true)], args := [d1, d2, d3, d4] }
  | _ => none }
def fnExactWorsenLinkRow : OpenClaim := { program := "ythpeicpfaonkdaa", sum := "906fa167f1c759c40d01f90ef474d7b9f2eda722d81262123f6ca1f362396f09", func := "loop.example/g00840/laws.FnExactWorsenLink", spec := "fnExactWorsenLink", unfollowed := true, recurses := true, apart := false }
def FnExactWorsenLinkSaid : Prop := fnExactWorsenLinkRow.holds Try.pinned (OpenSpec.ofChange fnExactWorsenLinkSpec)

/-- ITS FALSE NEIGHBOUR: 'it returns false'. Refute it at one input. -/
def fnExactWorsenLinkWrong : ChangeSpec := { name := "fnExactWorsenLink", fn := fun _ => fun
  | [d1, d2, d3, d4] => { results := [.lit (.bool false)], args := [d1, d2, d3, d4] }
  | _ => none }
def FnExactWorsenLinkWrongFalsely : Prop := fnExactWorsenLinkRow.holds Try.pinned (OpenSpec.ofChange fnExactWorsenLinkWrong)

/-- 'laws.FnExactSlowestReceiver': WHATEVER THE INPUT: true; the input reads as it did. -/
def fnExactSlowestReceiverSpec : ChangeSpec := { name := "fnExactSlowestReceiver", fn := fun _ => fun
  | [d1, d2] => { results := [.lit (.bool true)], args := [d1, d2] }
  | _ => none }
def fnExactSlowestReceiverRow : OpenClaim := { program := "ythpeicpfaonkdaa", sum := "906fa167f1c759c40d01f90ef474d7b9f2eda722d81262123f6ca1f362396f09", func := "loop.example/g00840/laws.FnExactSlowestReceiver", spec := "fnExactSlowestReceiver", unfollowed := true, recurses := true, apart := false }
def FnExactSlowestReceiverSaid : Prop := fnExactSlowestReceiverRow.holds Try.pinned (OpenSpec.ofChange fnExactSlowestReceiverSpec)

/-- ITS FALSE NEIGHBOUR: 'it returns false'. Refute it at one input. -/
def fnExactSlowestReceiverWrong : ChangeSpec := { name := "fnExactSlowestReceiver", fn := fun _ => fun
  | [d1, d2] => { results := [.lit (.bool false)], args := [d1, d2] }
  | _ => none }
def FnExactSlowestReceiverWrongFalsely : Prop := fnExactSlowestReceiverRow.holds Try.pinned (OpenSpec.ofChange fnExactSlowestReceiverWrong)

/-- 'laws.FnExactDelayBetween': WHATEVER THE INPUT: true; the input reads as it did. -/
def fnExactDelayBetweenSpec : ChangeSpec := { name := "fnExactDelayBetween", fn := fun _ => fun
  | [d1, d2, d3, d4] => { results := [.lit (.bool true)], args := [d1, d2, d3, d4] }
  | _ => none }
def fnExactDelayBetweenRow : OpenClaim := { program := "ythpeicpfaonkdaa", sum := "906fa167f1c759c40d01f90ef474d7b9f2eda722d81262123f6ca1f362396f09", func := "loop.example/g00840/laws.FnExactDelayBetween", spec := "fnExactDelayBetween", unfollowed := true, recurses := true, apart := false }
def FnExactDelayBetweenSaid : Prop := fnExactDelayBetweenRow.holds Try.pinned (OpenSpec.ofChange fnExactDelayBetweenSpec)

/-- ITS FALSE NEIGHBOUR: 'it returns false'. Refute it at one input. -/
def fnExactDelayBetweenWrong : ChangeSpec := { name := "fnExactDelayBetween", fn := fun _ => fun
  | [d1, d2, d3, d4] => { results := [.lit (.bool false)], args := [d1, d2, d3, d4] }
  | _ => none }
def FnExactDelayBetweenWrongFalsely : Prop := fnExactDelayBetweenRow.holds Try.pinned (OpenSpec.ofChange fnExactDelayBetweenWrong)

/-- 'laws.FnExactWorstReceiver': WHATEVER THE INPUT: true; the input reads as it did. -/
def fnExactWorstReceiverSpec : ChangeSpec := { name := "fnExactWorstReceiver", fn := fun _ => fun
  | [d1, d2] => { results := [.lit (.bool true)], args := [d1, d2] }
  | _ => none }
def fnExactWorstReceiverRow : OpenClaim := { program := "ythpeicpfaonkdaa", sum := "906fa167f1c759c40d01f90ef474d7b9f2eda722d81262123f6ca1f362396f09", func := "loop.example/g00840/laws.FnExactWorstReceiver", spec := "fnExactWorstReceiver", unfollowed := true, recurses := true, apart := false }
def FnExactWorstReceiverSaid : Prop := fnExactWorstReceiverRow.holds Try.pinned (OpenSpec.ofChange fnExactWorstReceiverSpec)

/-- ITS FALSE NEIGHBOUR: 'it returns false'. Refute it at one input. -/
def fnExactWorstReceiverWrong : ChangeSpec := { name := "fnExactWorstReceiver", fn := fun _ => fun
  | [d1, d2] => { results := [.lit (.bool false)], args := [d1, d2] }
  | _ => none }
def FnExactWorstReceiverWrongFalsely : Prop := fnExactWorstReceiverRow.holds Try.pinned (OpenSpec.ofChange fnExactWorstReceiverWrong)

/-- 'laws.FnExactNearestHolder': WHATEVER THE INPUT: true; the input reads as it did. -/
def fnExactNearestHolderSpec : ChangeSpec := { name := "fnExactNearestHolder", fn := fun _ => fun
  | [d1, d2, d3, d4] => { results := [.lit (.bool true)], args := [d1, d2, d3, d4] }
  | _ => none }
def fnExactNearestHolderRow : OpenClaim := { program := "ythpeicpfaonkdaa", sum := "906fa167f1c759c40d01f90ef474d7b9f2eda722d81262123f6ca1f362396f09", func := "loop.example/g00840/laws.FnExactNearestHolder", spec := "fnExactNearestHolder", unfollowed := true, recurses := true, apart := false }
def FnExactNearestHolderSaid : Prop := fnExactNearestHolderRow.holds Try.pinned (OpenSpec.ofChange fnExactNearestHolderSpec)

/-- ITS FALSE NEIGHBOUR: 'it returns false'. Refute it at one input. -/
def fnExactNearestHolderWrong : ChangeSpec := { name := "fnExactNearestHolder", fn := fun _ => fun
  | [d1, d2, d3, d4] => { results := [.lit (.bool false)], args := [d1, d2, d3, d4] }
  | _ => none }
def FnExactNearestHolderWrongFalsely : Prop := fnExactNearestHolderRow.holds Try.pinned (OpenSpec.ofChange fnExactNearestHolderWrong)

/-- 'laws.FnExactWellReached': WHATEVER THE INPUT: true; the input reads as it did. -/
def fnExactWellReachedSpec : ChangeSpec := { name := "fnExactWellReached", fn := fun _ => fun
  | [d1, d2, d3] => { results := [.lit (.bool true)], args := [d1, d2, d3] }
  | _ => none }
def fnExactWellReachedRow : OpenClaim := { program := "ythpeicpfaonkdaa", sum := "906fa167f1c759c40d01f90ef474d7b9f2eda722d81262123f6ca1f362396f09", func := "loop.example/g00840/laws.FnExactWellReached", spec := "fnExactWellReached", unfollowed := true, recurses := true, apart := false }
def FnExactWellReachedSaid : Prop := fnExactWellReachedRow.holds Try.pinned (OpenSpec.ofChange fnExactWellReachedSpec)

/-- ITS FALSE NEIGHBOUR: 'it returns false'. Refute it at one input. -/
def fnExactWellReachedWrong : ChangeSpec := { name := "fnExactWellReached", fn := fun _ => fun
  | [d1, d2, d3] => { results := [.lit (.bool false)], args := [d1, d2, d3] }
  | _ => none }
def FnExactWellReachedWrongFalsely : Prop := fnExactWellReachedRow.holds Try.pinned (OpenSpec.ofChange fnExactWellReachedWrong)

/-- 'laws.FnExactShareTo': WHATEVER THE INPUT: true; the input reads as it did. -/
def fnExactShareToSpec : ChangeSpec := { name := "fnExactShareTo", fn := fun _ => fun
  | [d1, d2, d3] => { results := [.lit (.bool true)], args := [d1, d2, d3] }
  | _ => none }
def fnExactShareToRow : OpenClaim := { program := "ythpeicpfaonkdaa", sum := "906fa167f1c759c40d01f90ef474d7b9f2eda722d81262123f6ca1f362396f09", func := "loop.example/g00840/laws.FnExactShareTo", spec := "fnExactShareTo", inPlace := ["slices.overlaps[int]"], unfollowed := true, recurses := true, apart := false }
def FnExactShareToSaid : Prop := fnExactShareToRow.holds Try.pinned (OpenSpec.ofChange fnExactShareToSpec)

/-- ITS FALSE NEIGHBOUR: 'it returns false'. Refute it at one input. -/
def fnExactShareToWrong : ChangeSpec := { name := "fnExactShareTo", fn := fun _ => fun
  | [d1, d2, d3] => { results := [.lit (.bool false)], args := [d1, d2, d3] }
  | _ => none }
def FnExactShareToWrongFalsely : Prop := fnExactShareToRow.holds Try.pinned (OpenSpec.ofChange fnExactShareToWrong)

/-- 'laws.FnExactShareToAll': WHATEVER THE INPUT: true; the input reads as it did. -/
def fnExactShareToAllSpec : ChangeSpec := { name := "fnExactShareToAll", fn := fun _ => fun
  | [d1, d2, d3] => { results := [.lit (.bool true)], args := [d1, d2, d3] }
  | _ => none }
def fnExactShareToAllRow : OpenClaim := { program := "ythpeicpfaonkdaa", sum := "906fa167f1c759c40d01f90ef474d7b9f2eda722d81262123f6ca1f362396f09", func := "loop.example/g00840/laws.FnExactShareToAll", spec := "fnExactShareToAll", inPlace := ["slices.overlaps[int]"], unfollowed := true, recurses := true, apart := false }
def FnExactShareToAllSaid : Prop := fnExactShareToAllRow.holds Try.pinned (OpenSpec.ofChange fnExactShareToAllSpec)

/-- ITS FALSE NEIGHBOUR: 'it returns false'. Refute it at one input. -/
def fnExactShareToAllWrong : ChangeSpec := { name := "fnExactShareToAll", fn := fun _ => fun
  | [d1, d2, d3] => { results := [.lit (.bool false)], args := [d1, d2, d3] }
  | _ => none }
def FnExactShareToAllWrongFalsely : Prop := fnExactShareToAllRow.holds Try.pinned (OpenSpec.ofChange fnExactShareToAllWrong)

/-- 'laws.FnDelays': WHATEVER THE INPUT: true; the input reads as it did. -/
def fnDelaysSpec : ChangeSpec := { name := "fnDelays", fn := fun _ => fun
  | [d] => { results := [.lit (.bool true)], args := [d] }
  | _ => none }
def fnDelaysRow : OpenClaim := { program := "ythpeicpfaonkdaa", sum := "906fa167f1c759c40d01f90ef474d7b9f2eda722d81262123f6ca1f362396f09", func := "loop.example/g00840/laws.FnDelays", spec := "fnDelays", unfollowed := true, recurses := true, apart := false }
def FnDelaysSaid : Prop := fnDelaysRow.holds Try.pinned (OpenSpec.ofChange fnDelaysSpec)

/-- ITS FALSE NEIGHBOUR: 'it returns false'. Refute it at one input. -/
def fnDelaysWrong : ChangeSpec := { name := "fnDelays", fn := fun _ => fun
  | [d] => { results := [.lit (.bool false)], args := [d] }
  | _ => none }
def FnDelaysWrongFalsely : Prop := fnDelaysRow.holds Try.pinned (OpenSpec.ofChange fnDelaysWrong)

/-- 'laws.FnShares': WHATEVER THE INPUT: true; the input reads as it did. -/
def fnSharesSpec : ChangeSpec := { name := "fnShares", fn := fun _ => fun
  | [d] => { results := [.lit (.bool true)], args := [d] }
  | _ => none }
def fnSharesRow : OpenClaim := { program := "ythpeicpfaonkdaa", sum := "906fa167f1c759c40d01f90ef474d7b9f2eda722d81262123f6ca1f362396f09", func := "loop.example/g00840/laws.FnShares", spec := "fnShares", inPlace := ["slices.overlaps[int]"], unfollowed := true, recurses := true, apart := false }
def FnSharesSaid : Prop := fnSharesRow.holds Try.pinned (OpenSpec.ofChange fnSharesSpec)

/-- ITS FALSE NEIGHBOUR: 'it returns false'. Refute it at one input. -/
def fnSharesWrong : ChangeSpec := { name := "fnShares", fn := fun _ => fun
  | [d] => { results := [.lit (.bool false)], args := [d] }
  | _ => none }
def FnSharesWrongFalsely : Prop := fnSharesRow.holds Try.pinned (OpenSpec.ofChange fnSharesWrong)

/- THE SECOND FORM. 'bulk': how many values and letters a reading holds, each counted each time it is reached (what is shared counts as often as it is met; a slice's spare places count too). A statement '..UptoSaid' is the law's where the arguments, and the package variables that the reading takes, are together of bulk at most 1048576: NARROWER than '..Said'. Prove '..Said' where nothing that the law and all that it calls make is longer than what came in: it says more and counts as full. Else prove '..UptoSaid'. A law counts once. -/
mutual
def uptoBulk {H : Type} : DataW H → Nat
  | .lit (.string bytes) => bytes.length + 1
  | .lit _ => 1
  | .nil => 1
  | .ptr d => uptoBulk d + 1
  | .slice elems spare => uptoBulkAll elems + uptoBulkAll spare + 1
  | .agg parts => uptoBulkAll parts + 1
  | .iface _ d => uptoBulk d + 1
  | .map entries => uptoBulkEntries entries + 1
  | .held _ => 1
def uptoBulkAll {H : Type} : List (DataW H) → Nat
  | [] => 0
  | d :: r => uptoBulk d + uptoBulkAll r
def uptoBulkEntries {H : Type} : List (Lit × DataW H) → Nat
  | [] => 0
  | x :: r => uptoBulkEntry x + uptoBulkEntries r
def uptoBulkEntry {H : Type} : Lit × DataW H → Nat
  | (.string bytes, d) => bytes.length + uptoBulk d + 1
  | (_, d) => uptoBulk d + 1
 end
def uptoSmall : (H : Type) → List (DataW H) → Bool := fun _ ds => decide (uptoBulkAll ds ≤ 1048576)
def OpenSpec.upto (s : _root_.Go.ChangeSpec) : _root_.Go.OpenSpec := { _root_.Go.OpenSpec.ofChange s with cond := some uptoSmall }

/-- 'laws.FnExactIsValidCosts', WHERE WHAT IT READS IS OF BULK AT MOST 1048576: true; the input reads as it did. -/
def fnExactIsValidCostsUptoRow : OpenClaim := { program := "ythpeicpfaonkdaa", sum := "906fa167f1c759c40d01f90ef474d7b9f2eda722d81262123f6ca1f362396f09", func := "loop.example/g00840/laws.FnExactIsValidCosts", spec := "fnExactIsValidCosts", apart := false, narrowed := true }
def FnExactIsValidCostsUptoSaid : Prop := fnExactIsValidCostsUptoRow.holds Try.pinned (OpenSpec.upto fnExactIsValidCostsSpec)

/-- 'laws.FnExactDelayTo', WHERE WHAT IT READS IS OF BULK AT MOST 1048576: true; the input reads as it did. -/
def fnExactDelayToUptoRow : OpenClaim := { program := "ythpeicpfaonkdaa", sum := "906fa167f1c759c40d01f90ef474d7b9f2eda722d81262123f6ca1f362396f09", func := "loop.example/g00840/laws.FnExactDelayTo", spec := "fnExactDelayTo", unfollowed := true, recurses := true, apart := false, narrowed := true }
def FnExactDelayToUptoSaid : Prop := fnExactDelayToUptoRow.holds Try.pinned (OpenSpec.upto fnExactDelayToSpec)

/-- 'laws.FnExactWorsenLink', WHERE WHAT IT READS IS OF BULK AT MOST 1048576: true; the input reads as it did. -/
def fnExactWorsenLinkUptoRow : OpenClaim := { program := "ythpeicpfaonkdaa", sum := "906fa167f1c759c40d01f90ef474d7b9f2eda722d81262123f6ca1f362396f09", func := "loop.example/g00840/laws.FnExactWorsenLink", spec := "fnExactWorsenLink", unfollowed := true, recurses := true, apart := false, narrowed := true }
def FnExactWorsenLinkUptoSaid : Prop := fnExactWorsenLinkUptoRow.holds Try.pinned (OpenSpec.upto fnExactWorsenLinkSpec)

/-- 'laws.FnExactSlowestReceiver', WHERE WHAT IT READS IS OF BULK AT MOST 1048576: true; the input reads as it did. -/
def fnExactSlowestReceiverUptoRow : OpenClaim := { program := "ythpeicpfaonkdaa", sum := "906fa167f1c759c40d01f90ef474d7b9f2eda722d81262123f6ca1f362396f09", func := "loop.example/g00840/laws.FnExactSlowestReceiver", spec := "fnExactSlowestReceiver", unfollowed := true, recurses := true, apart := false, narrowed := true }
def FnExactSlowestReceiverUptoSaid : Prop := fnExactSlowestReceiverUptoRow.holds Try.pinned (OpenSpec.upto fnExactSlowestReceiverSpec)

/-- 'laws.FnExactDelayBetween', WHERE WHAT IT READS IS OF BULK AT MOST 1048576: true; the input reads as it did. -/
def fnExactDelayBetweenUptoRow : OpenClaim := { program := "ythpeicpfaonkdaa", sum := "906fa167f1c759c40d01f90ef474d7b9f2eda722d81262123f6ca1f362396f09", func := "loop.example/g00840/laws.FnExactDelayBetween", spec := "fnExactDelayBetween", unfollowed := true, recurses := true, apart := false, narrowed := true }
def FnExactDelayBetweenUptoSaid : Prop := fnExactDelayBetweenUptoRow.holds Try.pinned (OpenSpec.upto fnExactDelayBetweenSpec)

/-- 'laws.FnExactWorstReceiver', WHERE WHAT IT READS IS OF BULK AT MOST 1048576: true; the input reads as it did. -/
def fnExactWorstReceiverUptoRow : OpenClaim := { program := "ythpeicpfaonkdaa", sum := "906fa167f1c759c40d01f90ef474d7b9f2eda722d81262123f6ca1f362396f09", func := "loop.example/g00840/laws.FnExactWorstReceiver", spec := "fnExactWorstReceiver", unfollowed := true, recurses := true, apart := false, narrowed := true }
def FnExactWorstReceiverUptoSaid : Prop := fnExactWorstReceiverUptoRow.holds Try.pinned (OpenSpec.upto fnExactWorstReceiverSpec)

/-- 'laws.FnExactNearestHolder', WHERE WHAT IT READS IS OF BULK AT MOST 1048576: true; the input reads as it did. -/
def fnExactNearestHolderUptoRow : OpenClaim := { program := "ythpeicpfaonkdaa", sum := "906fa167f1c759c40d01f90ef474d7b9f2eda722d81262123f6ca1f362396f09", func := "loop.example/g00840/laws.FnExactNearestHolder", spec := "fnExactNearestHolder", unfollowed := true, recurses := true, apart := false, narrowed := true }
def FnExactNearestHolderUptoSaid : Prop := fnExactNearestHolderUptoRow.holds Try.pinned (OpenSpec.upto fnExactNearestHolderSpec)

/-- 'laws.FnExactWellReached', WHERE WHAT IT READS IS OF BULK AT MOST 1048576: true; the input reads as it did. -/
def fnExactWellReachedUptoRow : OpenClaim := { program := "ythpeicpfaonkdaa", sum := "906fa167f1c759c40d01f90ef474d7b9f2eda722d81262123f6ca1f362396f09", func := "loop.example/g00840/laws.FnExactWellReached", spec := "fnExactWellReached", unfollowed := true, recurses := true, apart := false, narrowed := true }
def FnExactWellReachedUptoSaid : Prop := fnExactWellReachedUptoRow.holds Try.pinned (OpenSpec.upto fnExactWellReachedSpec)

/-- 'laws.FnExactShareTo', WHERE WHAT IT READS IS OF BULK AT MOST 1048576: true; the input reads as it did. -/
def fnExactShareToUptoRow : OpenClaim := { program := "ythpeicpfaonkdaa", sum := "906fa167f1c759c40d01f90ef474d7b9f2eda722d81262123f6ca1f362396f09", func := "loop.example/g00840/laws.FnExactShareTo", spec := "fnExactShareTo", inPlace := ["slices.overlaps[int]"], unfollowed := true, recurses := true, apart := false, narrowed := true }
def FnExactShareToUptoSaid : Prop := fnExactShareToUptoRow.holds Try.pinned (OpenSpec.upto fnExactShareToSpec)

/-- 'laws.FnExactShareToAll', WHERE WHAT IT READS IS OF BULK AT MOST 1048576: true; the input reads as it did. -/
def fnExactShareToAllUptoRow : OpenClaim := { program := "ythpeicpfaonkdaa", sum := "906fa167f1c759c40d01f90ef474d7b9f2eda722d81262123f6ca1f362396f09", func := "loop.example/g00840/laws.FnExactShareToAll", spec := "fnExactShareToAll", inPlace := ["slices.overlaps[int]"], unfollowed := true, recurses := true, apart := false, narrowed := true }
def FnExactShareToAllUptoSaid : Prop := fnExactShareToAllUptoRow.holds Try.pinned (OpenSpec.upto fnExactShareToAllSpec)

/-- 'laws.FnDelays', WHERE WHAT IT READS IS OF BULK AT MOST 1048576: true; the input reads as it did. -/
def fnDelaysUptoRow : OpenClaim := { program := "ythpeicpfaonkdaa", sum := "906fa167f1c759c40d01f90ef474d7b9f2eda722d81262123f6ca1f362396f09", func := "loop.example/g00840/laws.FnDelays", spec := "fnDelays", unfollowed := true, recurses := true, apart := false, narrowed := true }
def FnDelaysUptoSaid : Prop := fnDelaysUptoRow.holds Try.pinned (OpenSpec.upto fnDelaysSpec)

/-- 'laws.FnShares', WHERE WHAT IT READS IS OF BULK AT MOST 1048576: true; the input reads as it did. -/
def fnSharesUptoRow : OpenClaim := { program := "ythpeicpfaonkdaa", sum := "906fa167f1c759c40d01f90ef474d7b9f2eda722d81262123f6ca1f362396f09", func := "loop.example/g00840/laws.FnShares", spec := "fnShares", inPlace := ["slices.overlaps[int]"], unfollowed := true, recurses := true, apart := false, narrowed := true }
def FnSharesUptoSaid : Prop := fnSharesUptoRow.holds Try.pinned (OpenSpec.upto fnSharesSpec)

end Rows
end Go.Proofs.Ythpeicpfaonkdaa
