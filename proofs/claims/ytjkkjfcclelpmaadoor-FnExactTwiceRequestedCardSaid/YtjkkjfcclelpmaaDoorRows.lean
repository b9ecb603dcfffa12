/-
  NARROWER THAN 'FOR EVERY INPUT', by the rows' own cells (each row's printed sentence says how): FnExactIsCapture: laid · FnExactRepairTicks: laid · FnExactBytesSeen: laid · FnExactOfKind: laid · FnExactOnLink: laid · FnExactTwiceRequested: laid · FnExactJoinCaptures: laid · FnExactCaptureText: laid.
  DERIVED. THE GIVEN ROWS OF THIS SEAT. 8 by the template 'for every input the law returns true; each argument reads behind the call as it read before'; 0 by the template 'total and deterministic' (their statements: YtjkkjfcclelpmaaDoorTotals.lean).
  GIVEN WITH THE SEED: the statements are not yours to turn. If you find one false, say at which input.
  Laid BY PROGRAM, IN A SANDBOX (cutbox-rows.mjs): the forced cells as the released guide's own fill.sh prints them over the translation 1189979084026755… (all of the seat's roots in one cut). By AI agents, Wed Nov 11 2026. No macro, syntax, notation, axiom, sorry.
-/
import Derived.Test.YtjkkjfcclelpmaaDoorChecked
import GoSem.PinnedTables
import GoSem.Claim
import GoSem.ClaimJoined
import GoSem.ClaimMapViews
import Derived.JoinedTies
import Derived.KernelRfl
namespace Go.Proofs.YtjkkjfcclelpmaaDoor
/- THE CELL 'sum', in the pinned program and in every row, IS THE sha256 OF THE DUMP (.gsa) THAT YtjkkjfcclelpmaaDoorProg.lean LOADS. Nothing in Lean hashes anything: it is a label: what it is worth is what the hold of that sum in a sandbox is worth. -/
noncomputable def Tryd.pinned : Pinned := { name := "ytjkkjfcclelpmaadoor", sum := "11899790840267554dd54d790abdf6d19bab10d33eeac9db71cdd79cf8e08abd", checked := Tryd.checked }
namespace Rows
def none {H : Type} : Left H := { results := [], args := [] }

/- WHAT THE LISTED PACKAGE-LEVEL VARIABLES READ AS WHEN THE CALL BEGINS. Each datum BY PROGRAM (the guide's laid-datum.mjs) off the statement by which the dump's own 'gosem.cut.vars' lays the variable. In a bare row this is a premise. The card (YtjkkjfcclelpmaaDoorCards.lean) ties it to the program's text. -/
def laid_unicode_utf8_acceptRanges {H : Type} : DataW H := .agg [.agg [.lit (.int .u8 128), .lit (.int .u8 191)], .agg [.lit (.int .u8 160), .lit (.int .u8 191)], .agg [.lit (.int .u8 128), .lit (.int .u8 159)], .agg [.lit (.int .u8 144), .lit (.int .u8 191)], .agg [.lit (.int .u8 128), .lit (.int .u8 143)], .agg [.lit (.int .u8 0), .lit (.int .u8 0)], .agg [.lit (.int .u8 0), .lit (.int .u8 0)], .agg [.lit (.int .u8 0), .lit (.int .u8 0)], .agg [.lit (.int .u8 0), .lit (.int .u8 0)], .agg [.lit (.int .u8 0), .lit (.int .u8 0)], .agg [.lit (.int .u8 0), .lit (.int .u8 0)], .agg [.lit (.int .u8 0), .lit (.int .u8 0)], .agg [.lit (.int .u8 0), .lit (.int .u8 0)], .agg [.lit (.int .u8 0), .lit (.int .u8 0)], .agg [.lit (.int .u8 0), .lit (.int .u8 0)], .agg [.lit (.int .u8 0), .lit (.int .u8 0)]]
/-- One of Go's own tables, pinned by name: the form's constant. -/
def laid_unicode_utf8_first : DataW Unit := Go.Pinned.utf8First
def laid_math_bits_deBruijn32tab {H : Type} : DataW H := .agg [.lit (.int .u8 0), .lit (.int .u8 1), .lit (.int .u8 28), .lit (.int .u8 2), .lit (.int .u8 29), .lit (.int .u8 14), .lit (.int .u8 24), .lit (.int .u8 3), .lit (.int .u8 30), .lit (.int .u8 22), .lit (.int .u8 20), .lit (.int .u8 15), .lit (.int .u8 25), .lit (.int .u8 17), .lit (.int .u8 4), .lit (.int .u8 8), .lit (.int .u8 31), .lit (.int .u8 27), .lit (.int .u8 13), .lit (.int .u8 23), .lit (.int .u8 21), .lit (.int .u8 19), .lit (.int .u8 16), .lit (.int .u8 7), .lit (.int .u8 26), .lit (.int .u8 12), .lit (.int .u8 18), .lit (.int .u8 6), .lit (.int .u8 11), .lit (.int .u8 5), .lit (.int .u8 10), .lit (.int .u8 9)]
def laid_math_bits_deBruijn64tab {H : Type} : DataW H := .agg [.lit (.int .u8 0), .lit (.int .u8 1), .lit (.int .u8 56), .lit (.int .u8 2), .lit (.int .u8 57), .lit (.int .u8 49), .lit (.int .u8 28), .lit (.int .u8 3), .lit (.int .u8 61), .lit (.int .u8 58), .lit (.int .u8 42), .lit (.int .u8 50), .lit (.int .u8 38), .lit (.int .u8 29), .lit (.int .u8 17), .lit (.int .u8 4), .lit (.int .u8 62), .lit (.int .u8 47), .lit (.int .u8 59), .lit (.int .u8 36), .lit (.int .u8 45), .lit (.int .u8 43), .lit (.int .u8 51), .lit (.int .u8 22), .lit (.int .u8 53), .lit (.int .u8 39), .lit (.int .u8 33), .lit (.int .u8 30), .lit (.int .u8 24), .lit (.int .u8 18), .lit (.int .u8 12), .lit (.int .u8 5), .lit (.int .u8 63), .lit (.int .u8 55), .lit (.int .u8 48), .lit (.int .u8 27), .lit (.int .u8 60), .lit (.int .u8 41), .lit (.int .u8 37), .lit (.int .u8 16), .lit (.int .u8 46), .lit (.int .u8 35), .lit (.int .u8 44), .lit (.int .u8 21), .lit (.int .u8 52), .lit (.int .u8 32), .lit (.int .u8 23), .lit (.int .u8 11), .lit (.int .u8 54), .lit (.int .u8 26), .lit (.int .u8 40), .lit (.int .u8 15), .lit (.int .u8 34), .lit (.int .u8 20), .lit (.int .u8 31), .lit (.int .u8 10), .lit (.int .u8 25), .lit (.int .u8 14), .lit (.int .u8 19), .lit (.int .u8 9), .lit (.int .u8 13), .lit (.int .u8 8), .lit (.int .u8 7), .lit (.int .u8 6)]
def laid_internal_strconv_uint64pow10 {H : Type} : DataW H := .agg [.lit (.int .u64 1), .lit (.int .u64 10), .lit (.int .u64 100), .lit (.int .u64 1000), .lit (.int .u64 10000), .lit (.int .u64 100000), .lit (.int .u64 1000000), .lit (.int .u64 10000000), .lit (.int .u64 100000000), .lit (.int .u64 1000000000), .lit (.int .u64 10000000000), .lit (.int .u64 100000000000), .lit (.int .u64 1000000000000), .lit (.int .u64 10000000000000), .lit (.int .u64 100000000000000), .lit (.int .u64 1000000000000000), .lit (.int .u64 10000000000000000), .lit (.int .u64 100000000000000000), .lit (.int .u64 1000000000000000000), .lit (.int .u64 10000000000000000000)]

/-- 'laws.FnExactIsCapture': WHATEVER THE INPUT: true; the input reads as it did. -/
def fnExactIsCaptureSpec : ChangeSpec := { name := "fnExactIsCapture", fn := fun _ => fun
  | [d] => { results := [.lit (.bool true)], args := [d] }
  | _ => none }
def fnExactIsCaptureRow : OpenClaim := { program := "ytjkkjfcclelpmaadoor", sum := "11899790840267554dd54d790abdf6d19bab10d33eeac9db71cdd79cf8e08abd", func := "loop.example/g00840/laws.FnExactIsCapture", spec := "fnExactIsCapture", inPlace := ["internal/bytealg.IndexByteString", "internal/bytealg.IndexString"], unfollowed := true, recurses := true, named := ["unicode/utf8.first", "unicode/utf8.acceptRanges", "internal/bytealg.MaxLen"], apart := false, laid := [("unicode/utf8.acceptRanges", laid_unicode_utf8_acceptRanges), ("unicode/utf8.first", laid_unicode_utf8_first)] }
def FnExactIsCaptureSaid : Prop := fnExactIsCaptureRow.holds Tryd.pinned (OpenSpec.ofChange fnExactIsCaptureSpec)

/-- ITS FALSE NEIGHBOUR: 'it returns false'. Refute it at one input. -/
def fnExactIsCaptureWrong : ChangeSpec := { name := "fnExactIsCapture", fn := fun _ => fun
  | [d] => { results := [.lit (.bool false)], args := [d] }
  | _ => none }
def FnExactIsCaptureWrongFalsely : Prop := fnExactIsCaptureRow.holds Tryd.pinned (OpenSpec.ofChange fnExactIsCaptureWrong)

/-- 'laws.FnExactRepairTicks': WHATEVER THE INPUT: true; the input reads as it did. -/
def fnExactRepairTicksSpec : ChangeSpec := { name := "fnExactRepairTicks", fn := fun _ => fun
  | [d1, d2] => { results := [.lit (.bool true)], args := [d1, d2] }
  | _ => none }
def fnExactRepairTicksRow : OpenClaim := { program := "ytjkkjfcclelpmaadoor", sum := "11899790840267554dd54d790abdf6d19bab10d33eeac9db71cdd79cf8e08abd", func := "loop.example/g00840/laws.FnExactRepairTicks", spec := "fnExactRepairTicks", inPlace := ["internal/bytealg.IndexByteString", "internal/bytealg.IndexString"], unfollowed := true, recurses := true, named := ["unicode/utf8.first", "unicode/utf8.acceptRanges", "internal/bytealg.MaxLen"], apart := false, laid := [("unicode/utf8.acceptRanges", laid_unicode_utf8_acceptRanges), ("unicode/utf8.first", laid_unicode_utf8_first)] }
def FnExactRepairTicksSaid : Prop := fnExactRepairTicksRow.holds Tryd.pinned (OpenSpec.ofChange fnExactRepairTicksSpec)

/-- ITS FALSE NEIGHBOUR: 'it returns false'. Refute it at one input. -/
def fnExactRepairTicksWrong : ChangeSpec := { name := "fnExactRepairTicks", fn := fun _ => fun
  | [d1, d2] => { results := [.lit (.bool false)], args := [d1, d2] }
  | _ => none }
def FnExactRepairTicksWrongFalsely : Prop := fnExactRepairTicksRow.holds Tryd.pinned (OpenSpec.ofChange fnExactRepairTicksWrong)

/-- 'laws.FnExactBytesSeen': WHATEVER THE INPUT: true; the input reads as it did. -/
def fnExactBytesSeenSpec : ChangeSpec := { name := "fnExactBytesSeen", fn := fun _ => fun
  | [d] => { results := [.lit (.bool true)], args := [d] }
  | _ => none }
def fnExactBytesSeenRow : OpenClaim := { program := "ytjkkjfcclelpmaadoor", sum := "11899790840267554dd54d790abdf6d19bab10d33eeac9db71cdd79cf8e08abd", func := "loop.example/g00840/laws.FnExactBytesSeen", spec := "fnExactBytesSeen", inPlace := ["internal/bytealg.IndexByteString", "internal/bytealg.IndexString"], unfollowed := true, recurses := true, named := ["unicode/utf8.first", "unicode/utf8.acceptRanges", "internal/bytealg.MaxLen"], apart := false, laid := [("unicode/utf8.acceptRanges", laid_unicode_utf8_acceptRanges), ("unicode/utf8.first", laid_unicode_utf8_first)] }
def FnExactBytesSeenSaid : Prop := fnExactBytesSeenRow.holds Tryd.pinned (OpenSpec.ofChange fnExactBytesSeenSpec)

/-- ITS FALSE NEIGHBOUR: 'it returns false'. Refute it at one input. -/
def fnExactBytesSeenWrong : ChangeSpec := { name := "fnExactBytesSeen", fn := fun _ => fun
  | [d] => { results := [.lit (.bool false)], args := [d] }
  | _ => none }
def FnExactBytesSeenWrongFalsely : Prop := fnExactBytesSeenRow.holds Tryd.pinned (OpenSpec.ofChange fnExactBytesSeenWrong)

/-- 'laws.FnExactOfKind': WHATEVER THE INPUT: true; the input reads as it did. -/
def fnExactOfKindSpec : ChangeSpec := { name := "fnExactOfKind", fn := fun _ => fun
  | [d1, d2] => { results := [.lit (.bool true)], args := [d1, d2] }
  | _ => none }
def fnExactOfKindRow : OpenClaim := { program := "ytjkkjfcclelpmaadoor", sum := "11899790840267554dd54d790abdf6d19bab10d33eeac9db71cdd79cf8e08abd", func := "loop.example/g00840/laws.FnExactOfKind", spec := "fnExactOfKind", inPlace := ["internal/bytealg.IndexByteString", "internal/bytealg.IndexString"], unfollowed := true, recurses := true, named := ["unicode/utf8.first", "unicode/utf8.acceptRanges", "internal/bytealg.MaxLen"], apart := false, laid := [("unicode/utf8.acceptRanges", laid_unicode_utf8_acceptRanges), ("unicode/utf8.first", laid_unicode_utf8_first)] }
def FnExactOfKindSaid : Prop := fnExactOfKindRow.holds Tryd.pinned (OpenSpec.ofChange fnExactOfKindSpec)

/-- ITS FALSE NEIGHBOUR: 'it returns false'. Refute it at one input. -/
def fnExactOfKindWrong : ChangeSpec := { name := "fnExactOfKind", fn := fun _ => fun
  | [d1, d2] => { results := [.lit (.bool false)], args := [d1, d2] }
  | _ => none }
def FnExactOfKindWrongFalsely : Prop := fnExactOfKindRow.holds Tryd.pinned (OpenSpec.ofChange fnExactOfKindWrong)

/-- 'laws.FnExactOnLink': WHATEVER THE INPUT: true; the input reads as it did. -/
def fnExactOnLinkSpec : ChangeSpec := { name := "fnExactOnLink", fn := fun _ => fun
  | [d1, d2] => { results := [.lit (.bool true)], args := [d1, d2] }
  | _ => none }
def fnExactOnLinkRow : OpenClaim := { program := "ytjkkjfcclelpmaadoor", sum := "11899790840267554dd54d790abdf6d19bab10d33eeac9db71cdd79cf8e08abd", func := "loop.example/g00840/laws.FnExactOnLink", spec := "fnExactOnLink", inPlace := ["internal/bytealg.IndexByteString", "internal/bytealg.IndexString"], unfollowed := true, recurses := true, named := ["unicode/utf8.first", "unicode/utf8.acceptRanges", "internal/bytealg.MaxLen"], apart := false, laid := [("unicode/utf8.acceptRanges", laid_unicode_utf8_acceptRanges), ("unicode/utf8.first", laid_unicode_utf8_first)] }
def FnExactOnLinkSaid : Prop := fnExactOnLinkRow.holds Tryd.pinned (OpenSpec.ofChange fnExactOnLinkSpec)

/-- ITS FALSE NEIGHBOUR: 'it returns false'. Refute it at one input. -/
def fnExactOnLinkWrong : ChangeSpec := { name := "fnExactOnLink", fn := fun _ => fun
  | [d1, d2] => { results := [.lit (.bool false)], args := [d1, d2] }
  | _ => none }
def FnExactOnLinkWrongFalsely : Prop := fnExactOnLinkRow.holds Tryd.pinned (OpenSpec.ofChange fnExactOnLinkWrong)

/-- 'laws.FnExactTwiceRequested': WHATEVER THE INPUT: true; the input reads as it did. -/
def fnExactTwiceRequestedSpec : ChangeSpec := { name := "fnExactTwiceRequested", fn := fun _ => fun
  | [d] => { results := [.lit (.bool true)], args := [d] }
  | _ => none }
def fnExactTwiceRequestedRow : OpenClaim := { program := "ytjkkjfcclelpmaadoor", sum := "11899790840267554dd54d790abdf6d19bab10d33eeac9db71cdd79cf8e08abd", func := "loop.example/g00840/laws.FnExactTwiceRequested", spec := "fnExactTwiceRequested", inPlace := ["internal/bytealg.IndexByteString", "internal/bytealg.IndexString", "slices.overlaps[int]"], unfollowed := true, recurses := true, named := ["unicode/utf8.first", "unicode/utf8.acceptRanges", "internal/bytealg.MaxLen"], apart := false, laid := [("unicode/utf8.acceptRanges", laid_unicode_utf8_acceptRanges), ("unicode/utf8.first", laid_unicode_utf8_first)] }
def FnExactTwiceRequestedSaid : Prop := fnExactTwiceRequestedRow.holds Tryd.pinned (OpenSpec.ofChange fnExactTwiceRequestedSpec)

/-- ITS FALSE NEIGHBOUR: 'it returns false'. Refute it at one input. -/
def fnExactTwiceRequestedWrong : ChangeSpec := { name := "fnExactTwiceRequested", fn := fun _ => fun
  | [d] => { results := [.lit (.bool false)], args := [d] }
  | _ => none }
def FnExactTwiceRequestedWrongFalsely : Prop := fnExactTwiceRequestedRow.holds Tryd.pinned (OpenSpec.ofChange fnExactTwiceRequestedWrong)

/-- 'laws.FnExactJoinCaptures': WHATEVER THE INPUT: true; the input reads as it did. -/
def fnExactJoinCapturesSpec : ChangeSpec := { name := "fnExactJoinCaptures", fn := fun _ => fun
  | [d1, d2] => { results := [.lit (.bool true)], args := [d1, d2] }
  | _ => none }
def fnExactJoinCapturesRow : OpenClaim := { program := "ytjkkjfcclelpmaadoor", sum := "11899790840267554dd54d790abdf6d19bab10d33eeac9db71cdd79cf8e08abd", func := "loop.example/g00840/laws.FnExactJoinCaptures", spec := "fnExactJoinCaptures", inPlace := ["internal/bytealg.IndexByteString", "internal/bytealg.IndexString"], unfollowed := true, recurses := true, named := ["unicode/utf8.first", "unicode/utf8.acceptRanges", "internal/bytealg.MaxLen"], apart := false, laid := [("unicode/utf8.acceptRanges", laid_unicode_utf8_acceptRanges), ("unicode/utf8.first", laid_unicode_utf8_first)] }
def FnExactJoinCapturesSaid : Prop := fnExactJoinCapturesRow.holds Tryd.pinned (OpenSpec.ofChange fnExactJoinCapturesSpec)

/-- ITS FALSE NEIGHBOUR: 'it returns false'. Refute it at one input. -/
def fnExactJoinCapturesWrong : ChangeSpec := { name := "fnExactJoinCaptures", fn := fun _ => fun
  | [d1, d2] => { results := [.lit (.bool false)], args := [d1, d2] }
  | _ => none }
def FnExactJoinCapturesWrongFalsely : Prop := fnExactJoinCapturesRow.holds Tryd.pinned (OpenSpec.ofChange fnExactJoinCapturesWrong)

/-- 'laws.FnExactCaptureText': WHATEVER THE INPUT: true; the input reads as it did. -/
def fnExactCaptureTextSpec : ChangeSpec := { name := "fnExactCaptureText", fn := fun _ => fun
  | [d] => { results := [.lit (.bool true)], args := [d] }
  | _ => none }
def fnExactCaptureTextRow : OpenClaim := { program := "ytjkkjfcclelpmaadoor", sum := "11899790840267554dd54d790abdf6d19bab10d33eeac9db71cdd79cf8e08abd", func := "loop.example/g00840/laws.FnExactCaptureText", spec := "fnExactCaptureText", inPlace := ["internal/bytealg.IndexByteString", "internal/bytealg.IndexString"], unfollowed := true, recurses := true, named := ["unicode/utf8.first", "unicode/utf8.acceptRanges", "internal/strconv.uint64pow10", "math/bits.deBruijn32tab", "math/bits.deBruijn64tab", "internal/bytealg.MaxLen"], apart := false, laid := [("math/bits.deBruijn32tab", laid_math_bits_deBruijn32tab), ("math/bits.deBruijn64tab", laid_math_bits_deBruijn64tab), ("internal/strconv.uint64pow10", laid_internal_strconv_uint64pow10), ("unicode/utf8.acceptRanges", laid_unicode_utf8_acceptRanges), ("unicode/utf8.first", laid_unicode_utf8_first)] }
def FnExactCaptureTextSaid : Prop := fnExactCaptureTextRow.holds Tryd.pinned (OpenSpec.ofChange fnExactCaptureTextSpec)

/-- ITS FALSE NEIGHBOUR: 'it returns false'. Refute it at one input. -/
def fnExactCaptureTextWrong : ChangeSpec := { name := "fnExactCaptureText", fn := fun _ => fun
  | [d] => { results := [.lit (.bool false)], args := [d] }
  | _ => none }
def FnExactCaptureTextWrongFalsely : Prop := fnExactCaptureTextRow.holds Tryd.pinned (OpenSpec.ofChange fnExactCaptureTextWrong)

/- THE SECOND FORM. 'bulk': how many values and letters a reading holds, each counted each time it is reached (what is shared counts as often as it is met; a slice's spare places count too). A statement '..UptoSaid' is the law's where the arguments, and the package variables that the reading takes, are together of bulk at most 1048576: NARROWER than '..Said'. Prove '..Said' where nothing that the law and all that it calls make is longer than what came in: it says more and counts as full. Else prove '..UptoSaid'. A law counts once. -/
mutual
def uptoBulk {H : Type} : DataW H → Nat
  | .lit (.string bytes) => bytes.length + 1
  | .lit _ => 1
  | .nil => 1
  | .ptr d => uptoBulk d + 1
  | .slice elems spare => uptoBulkAll elems + uptoBulkAll spare + 1
  | .agg parts => uptoBulkAll parts + 1
  | .iface _ d => uptoBulk d + 1
  | .map entries => uptoBulkEntries entries + 1
  | .held _ => 1
def uptoBulkAll {H : Type} : List (DataW H) → Nat
  | [] => 0
  | d :: r => uptoBulk d + uptoBulkAll r
def uptoBulkEntries {H : Type} : List (Lit × DataW H) → Nat
  | [] => 0
  | x :: r => uptoBulkEntry x + uptoBulkEntries r
def uptoBulkEntry {H : Type} : Lit × DataW H → Nat
  | (.string bytes, d) => bytes.length + uptoBulk d + 1
  | (_, d) => uptoBulk d + 1
 end
def uptoSmall : (H : Type) → List (DataW H) → Bool := fun _ ds => decide (uptoBulkAll ds ≤ 1048576)
def OpenSpec.upto (s : _root_.Go.ChangeSpec) : _root_.Go.OpenSpec := { _root_.Go.OpenSpec.ofChange s with cond := some uptoSmall }

/-- 'laws.FnExactIsCapture', WHERE WHAT IT READS IS OF BULK AT MOST 1048576: true; the input reads as it did. -/
def fnExactIsCaptureUptoRow : OpenClaim := { program := "ytjkkjfcclelpmaadoor", sum := "11899790840267554dd54d790abdf6d19bab10d33eeac9db71cdd79cf8e08abd", func := "loop.example/g00840/laws.FnExactIsCapture", spec := "fnExactIsCapture", inPlace := ["internal/bytealg.IndexByteString", "internal/bytealg.IndexString"], unfollowed := true, recurses := true, named := ["unicode/utf8.first", "unicode/utf8.acceptRanges", "internal/bytealg.MaxLen"], apart := false, laid := [("unicode/utf8.acceptRanges", laid_unicode_utf8_acceptRanges), ("unicode/utf8.first", laid_unicode_utf8_first)], narrowed := true }
def FnExactIsCaptureUptoSaid : Prop := fnExactIsCaptureUptoRow.holds Tryd.pinned (OpenSpec.upto fnExactIsCaptureSpec)

/-- 'laws.FnExactRepairTicks', WHERE WHAT IT READS IS OF BULK AT MOST 1048576: true; the input reads as it did. -/
def fnExactRepairTicksUptoRow : OpenClaim := { program := "ytjkkjfcclelpmaadoor", sum := "11899790840267554dd54d790abdf6d19bab10d33eeac9db71cdd79cf8e08abd", func := "loop.example/g00840/laws.FnExactRepairTicks", spec := "fnExactRepairTicks", inPlace := ["internal/bytealg.IndexByteString", "internal/bytealg.IndexString"], unfollowed := true, recurses := true, named := ["unicode/utf8.first", "unicode/utf8.acceptRanges", "internal/bytealg.MaxLen"], apart := false, laid := [("unicode/utf8.acceptRanges", laid_unicode_utf8_acceptRanges), ("unicode/utf8.first", laid_unicode_utf8_first)], narrowed := true }
def FnExactRepairTicksUptoSaid : Prop := fnExactRepairTicksUptoRow.holds Tryd.pinned (OpenSpec.upto fnExactRepairTicksSpec)

/-- 'laws.FnExactBytesSeen', WHERE WHAT IT READS IS OF BULK AT MOST 1048576: true; the input reads as it did. -/
def fnExactBytesSeenUptoRow : OpenClaim := { program := "ytjkkjfcclelpmaadoor", sum := "11899790840267554dd54d790abdf6d19bab10d33eeac9db71cdd79cf8e08abd", func := "loop.example/g00840/laws.FnExactBytesSeen", spec := "fnExactBytesSeen", inPlace := ["internal/bytealg.IndexByteString", "internal/bytealg.IndexString"], unfollowed := true, recurses := true, named := ["unicode/utf8.first", "unicode/utf8.acceptRanges", "internal/bytealg.MaxLen"], apart := false, laid := [("unicode/utf8.acceptRanges", laid_unicode_utf8_acceptRanges), ("unicode/utf8.first", laid_unicode_utf8_first)], narrowed := true }
def FnExactBytesSeenUptoSaid : Prop := fnExactBytesSeenUptoRow.holds Tryd.pinned (OpenSpec.upto fnExactBytesSeenSpec)

/-- 'laws.FnExactOfKind', WHERE WHAT IT READS IS OF BULK AT MOST 1048576: true; the input reads as it did. -/
def fnExactOfKindUptoRow : OpenClaim := { program := "ytjkkjfcclelpmaadoor", sum := "11899790840267554dd54d790abdf6d19bab10d33eeac9db71cdd79cf8e08abd", func := "loop.example/g00840/laws.FnExactOfKind", spec := "fnExactOfKind", inPlace := ["internal/bytealg.IndexByteString", "internal/bytealg.IndexString"], unfollowed := true, recurses := true, named := ["unicode/utf8.first", "unicode/utf8.acceptRanges", "internal/bytealg.MaxLen"], apart := false, laid := [("unicode/utf8.acceptRanges", laid_unicode_utf8_acceptRanges), ("unicode/utf8.first", laid_unicode_utf8_first)], narrowed := true }
def FnExactOfKindUptoSaid : Prop := fnExactOfKindUptoRow.holds Tryd.pinned (OpenSpec.upto fnExactOfKindSpec)

/-- 'laws.FnExactOnLink', WHERE WHAT IT READS IS OF BULK AT MOST 1048576: true; the input reads as it did. -/
def fnExactOnLinkUptoRow : OpenClaim := { program := "ytjkkjfcclelpmaadoor", sum := "11899790840267554dd54d790abdf6d19bab10d33eeac9db71cdd79cf8e08abd", func := "loop.example/g00840/laws.FnExactOnLink", spec := "fnExactOnLink", inPlace := ["internal/bytealg.IndexByteString", "internal/bytealg.IndexString"], unfollowed := true, recurses := true, named := ["unicode/utf8.first", "unicode/utf8.acceptRanges", "internal/bytealg.MaxLen"], apart := false, laid := [("unicode/utf8.acceptRanges", laid_unicode_utf8_acceptRanges), ("unicode/utf8.first", laid_unicode_utf8_first)], narrowed := true }
def FnExactOnLinkUptoSaid : Prop := fnExactOnLinkUptoRow.holds Tryd.pinned (OpenSpec.upto fnExactOnLinkSpec)

/-- 'laws.FnExactTwiceRequested', WHERE WHAT IT READS IS OF BULK AT MOST 1048576: true; the input reads as it did. -/
def fnExactTwiceRequestedUptoRow : OpenClaim := { program := "ytjkkjfcclelpmaadoor", sum := "11899790840267554dd54d790abdf6d19bab10d33eeac9db71cdd79cf8e08abd", func := "loop.example/g00840/laws.FnExactTwiceRequested", spec := "fnExactTwiceRequested", inPlace := ["internal/bytealg.IndexByteString", "internal/bytealg.IndexString", "slices.overlaps[int]"], unfollowed := true, recurses := true, named := ["unicode/utf8.first", "unicode/utf8.acceptRanges", "internal/bytealg.MaxLen"], apart := false, laid := [("unicode/utf8.acceptRanges", laid_unicode_utf8_acceptRanges), ("unicode/utf8.first", laid_unicode_utf8_first)], narrowed := true }
def FnExactTwiceRequestedUptoSaid : Prop := fnExactTwiceRequestedUptoRow.holds Tryd.pinned (OpenSpec.upto fnExactTwiceRequestedSpec)

/-- 'laws.FnExactJoinCaptures', WHERE WHAT IT READS IS OF BULK AT MOST 1048576: true; the input reads as it did. -/
def fnExactJoinCapturesUptoRow : OpenClaim := { program := "ytjkkjfcclelpmaadoor", sum := "11899790840267554dd54d790abdf6d19bab10d33eeac9db71cdd79cf8e08abd", func := "loop.example/g00840/laws.FnExactJoinCaptures", spec := "fnExactJoinCaptures", inPlace := ["internal/bytealg.IndexByteString", "internal/bytealg.IndexString"], unfollowed := true, recurses := true, named := ["unicode/utf8.first", "unicode/utf8.acceptRanges", "internal/bytealg.MaxLen"], apart := false, laid := [("unicode/utf8.acceptRanges", laid_unicode_utf8_acceptRanges), ("unicode/utf8.first", laid_unicode_utf8_first)], narrowed := true }
def FnExactJoinCapturesUptoSaid : Prop := fnExactJoinCapturesUptoRow.holds Tryd.pinned (OpenSpec.upto fnExactJoinCapturesSpec)

/-- 'laws.FnExactCaptureText', WHERE WHAT IT READS IS OF BULK AT MOST 1048576: true; the input reads as it did. -/
def fnExactCaptureTextUptoRow : OpenClaim := { program := "ytjkkjfcclelpmaadoor", sum := "11899790840267554dd54d790abdf6d19bab10d33eeac9db71cdd79cf8e08abd", func := "loop.example/g00840/laws.FnExactCaptureText", spec := "fnExactCaptureText", inPlace := ["internal/bytealg.IndexByteString", "internal/bytealg.IndexString"], unfollowed := true, recurses := true, named := ["unicode/utf8.first", "unicode/utf8.acceptRanges", "internal/strconv.uint64pow10", "math/bits.deBruijn32tab", "math/bits.deBruijn64tab", "internal/bytealg.MaxLen"], apart := false, laid := [("math/bits.deBruijn32tab", laid_math_bits_deBruijn32tab), ("math/bits.deBruijn64tab", laid_math_bits_deBruijn64tab), ("internal/strconv.uint64pow10", laid_internal_strconv_uint64pow10), ("unicode/utf8.acceptRanges", laid_unicode_utf8_acceptRanges), ("unicode/utf8.first", laid_unicode_utf8_first)], narrowed := true }
def FnExactCaptureTextUptoSaid : Prop := fnExactCaptureTextUptoRow.holds Tryd.pinned (OpenSpec.upto fnExactCaptureTextSpec)

end Rows
end Go.Proofs.YtjkkjfcclelpmaaDoor
