/-
  DERIVED. GIVEN WITH THE SEED: THE CARDS: each row of YtljknhocfjpolaaDoorRows.lean that lists a variable, with what it lists TIED to the program's text (the seventh form; the later family's looks); each row that meets fmt, with fmt's text TOLD by the authors' own Lean function (tested against real Go, not proved from fmt's source: count such statements apart). THE CARD IS WHAT COUNTS. Prove the row's statement (the work); the ties are given (YtljknhocfjpolaaDoorTie.lean); close each card by the builder's one call (the guide's Derived/Test/ToyasCard.lean, 'card_holds'). Laid BY PROGRAM, IN A SANDBOX (cutbox-door.mjs). By AI agents, Wed Nov 11 2026. No macro, syntax, notation, axiom, sorry.
-/
import Derived.Test.YtljknhocfjpolaaDoorRows
import GoSem.ClaimSeven
namespace Go.Proofs.YtljknhocfjpolaaDoor
namespace Rows

/-- THE TIED CARD OF 'laws.FnExactJoinCaptures'. -/
def fnExactJoinCapturesCard : Claim7 := { stood := { row := fnExactJoinCapturesRow, standIns := [], harness := (true, "c2514d18426c430ab44d997292dfaa3def10f6fb262788297f69d1eb7a3b5ccf"), looks := false }, kinds := [], alts := [], laidByText := true, laidKinds := [.data, .pinned], laidTests := true, laidLooks := .later }
def FnExactJoinCapturesCardSaid : Prop := Claim7.holds Tryd.pinned (.plain (OpenSpec.ofChange fnExactJoinCapturesSpec)) fnExactJoinCapturesCard

/-- THE SECOND FORM's CARD OF 'laws.FnExactJoinCaptures'. -/
def fnExactJoinCapturesUptoCard : Claim7 := { stood := { row := fnExactJoinCapturesUptoRow, standIns := [], harness := (true, "c2514d18426c430ab44d997292dfaa3def10f6fb262788297f69d1eb7a3b5ccf"), looks := false }, kinds := [], alts := [], laidByText := true, laidKinds := [.data, .pinned], laidTests := true, laidLooks := .later }
def FnExactJoinCapturesUptoCardSaid : Prop := Claim7.holds Tryd.pinned (.plain (OpenSpec.upto fnExactJoinCapturesSpec)) fnExactJoinCapturesUptoCard
end Rows
end Go.Proofs.YtljknhocfjpolaaDoor
