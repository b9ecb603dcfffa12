/-
  DERIVED. GIVEN WITH THE SEED: THE CARDS: each row of YtljknhocfjpolaaGreatDoorRows.lean that lists a variable, with what it lists TIED to the program's text (the seventh form; the later family's looks); each row that meets fmt, with fmt's text TOLD by the authors' own Lean function (tested against real Go, not proved from fmt's source: count such statements apart). THE CARD IS WHAT COUNTS. Prove the row's statement (the work); the ties are given (YtljknhocfjpolaaGreatDoorTie.lean); close each card by the builder's one call (the guide's Derived/Test/ToyasCard.lean, 'card_holds'). Laid BY PROGRAM, IN A SANDBOX (cutbox-door.mjs). By AI agents, Wed Nov 11 2026. No macro, syntax, notation, axiom, sorry.
-/
import Derived.Test.YtljknhocfjpolaaGreatDoorRows
import GoSem.ClaimSeven
namespace Go.Proofs.YtljknhocfjpolaaGreatDoor
namespace Rows

/-- THE TIED CARD OF 'laws.FnExactParseCapture'. -/
def fnExactParseCaptureCard : Claim7 := { stood := { row := fnExactParseCaptureRow, standIns := [], harness := (true, "b3dd0aed28355bf3add053b12dce37dd99844c2b95b25bc1fe2d7b55e071252a"), looks := true }, kinds := [], alts := [], laidByText := true, laidKinds := [.data, .data, .data, .data, .sentinel, .sentinel, .pinned], laidTests := true, laidLooks := .later }
def FnExactParseCaptureCardSaid : Prop := Claim7.holds Tryz.pinned (.plain (OpenSpec.ofChange fnExactParseCaptureSpec)) fnExactParseCaptureCard

/-- THE TIED CARD OF 'laws.FnCaptures'. -/
def fnCapturesCard : Claim7 := { stood := { row := fnCapturesRow, standIns := [], harness := (true, "b3dd0aed28355bf3add053b12dce37dd99844c2b95b25bc1fe2d7b55e071252a"), looks := true }, kinds := [], alts := [], laidByText := true, laidKinds := [.data, .data, .data, .data, .sentinel, .sentinel, .pinned], laidTests := true, laidLooks := .later }
def FnCapturesCardSaid : Prop := Claim7.holds Tryz.pinned (.plain (OpenSpec.ofChange fnCapturesSpec)) fnCapturesCard

/-- THE TIED CARD OF 'laws.FnCapturedRequests'. -/
def fnCapturedRequestsCard : Claim7 := { stood := { row := fnCapturedRequestsRow, standIns := [], harness := (true, "b3dd0aed28355bf3add053b12dce37dd99844c2b95b25bc1fe2d7b55e071252a"), looks := true }, kinds := [], alts := [], laidByText := true, laidKinds := [.data, .pinned], laidTests := true, laidLooks := .later }
def FnCapturedRequestsCardSaid : Prop := Claim7.holds Tryz.pinned (.plain (OpenSpec.ofChange fnCapturedRequestsSpec)) fnCapturedRequestsCard

/-- THE SECOND FORM's CARD OF 'laws.FnExactParseCapture'. -/
def fnExactParseCaptureUptoCard : Claim7 := { stood := { row := fnExactParseCaptureUptoRow, standIns := [], harness := (true, "b3dd0aed28355bf3add053b12dce37dd99844c2b95b25bc1fe2d7b55e071252a"), looks := true }, kinds := [], alts := [], laidByText := true, laidKinds := [.data, .data, .data, .data, .sentinel, .sentinel, .pinned], laidTests := true, laidLooks := .later }
def FnExactParseCaptureUptoCardSaid : Prop := Claim7.holds Tryz.pinned (.plain (OpenSpec.upto fnExactParseCaptureSpec)) fnExactParseCaptureUptoCard

/-- THE SECOND FORM's CARD OF 'laws.FnCaptures'. -/
def fnCapturesUptoCard : Claim7 := { stood := { row := fnCapturesUptoRow, standIns := [], harness := (true, "b3dd0aed28355bf3add053b12dce37dd99844c2b95b25bc1fe2d7b55e071252a"), looks := true }, kinds := [], alts := [], laidByText := true, laidKinds := [.data, .data, .data, .data, .sentinel, .sentinel, .pinned], laidTests := true, laidLooks := .later }
def FnCapturesUptoCardSaid : Prop := Claim7.holds Tryz.pinned (.plain (OpenSpec.upto fnCapturesSpec)) fnCapturesUptoCard

/-- THE SECOND FORM's CARD OF 'laws.FnCapturedRequests'. -/
def fnCapturedRequestsUptoCard : Claim7 := { stood := { row := fnCapturedRequestsUptoRow, standIns := [], harness := (true, "b3dd0aed28355bf3add053b12dce37dd99844c2b95b25bc1fe2d7b55e071252a"), looks := true }, kinds := [], alts := [], laidByText := true, laidKinds := [.data, .pinned], laidTests := true, laidLooks := .later }
def FnCapturedRequestsUptoCardSaid : Prop := Claim7.holds Tryz.pinned (.plain (OpenSpec.upto fnCapturedRequestsSpec)) fnCapturedRequestsUptoCard
end Rows
end Go.Proofs.YtljknhocfjpolaaGreatDoor
