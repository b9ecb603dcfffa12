/-
  DERIVED. GIVEN WITH THE SEED: THE CARDS: each row of YtlaochpkelbchaaDoorRows.lean that lists a variable, with what it lists TIED to the program's text (the seventh form; the later family's looks); each row that meets fmt, with fmt's text TOLD by the authors' own Lean function (tested against real Go, not proved from fmt's source: count such statements apart). THE CARD IS WHAT COUNTS. Prove the row's statement (the work); the ties are given (YtlaochpkelbchaaDoorTie.lean); close each card by the builder's one call (the guide's Derived/Test/ToyasCard.lean, 'card_holds'). Laid BY PROGRAM, IN A SANDBOX (cutbox-door.mjs). By AI agents, Wed Nov 11 2026. No macro, syntax, notation, axiom, sorry.
-/
import Derived.Test.YtlaochpkelbchaaDoorRows
import GoSem.ClaimSeven
namespace Go.Proofs.YtlaochpkelbchaaDoor
namespace Rows

/-- THE TIED CARD OF 'laws.FnExactParseGroup'. -/
def fnExactParseGroupCard : Claim7 := { stood := { row := fnExactParseGroupRow, standIns := [], harness := (true, "7cd46dd3303aa60cf08dbd47ed5ec5487174b441ef403f6af5d92e2119548244"), looks := true }, kinds := [], alts := [], laidByText := true, laidKinds := [.data, .data, .data, .data, .sentinel, .sentinel, .pinned], laidTests := true, laidLooks := .later }
def FnExactParseGroupCardSaid : Prop := Claim7.holds Tryd.pinned (.plain (OpenSpec.ofChange fnExactParseGroupSpec)) fnExactParseGroupCard

/-- THE SECOND FORM's CARD OF 'laws.FnExactParseGroup'. -/
def fnExactParseGroupUptoCard : Claim7 := { stood := { row := fnExactParseGroupUptoRow, standIns := [], harness := (true, "7cd46dd3303aa60cf08dbd47ed5ec5487174b441ef403f6af5d92e2119548244"), looks := true }, kinds := [], alts := [], laidByText := true, laidKinds := [.data, .data, .data, .data, .sentinel, .sentinel, .pinned], laidTests := true, laidLooks := .later }
def FnExactParseGroupUptoCardSaid : Prop := Claim7.holds Tryd.pinned (.plain (OpenSpec.upto fnExactParseGroupSpec)) fnExactParseGroupUptoCard
end Rows
end Go.Proofs.YtlaochpkelbchaaDoor
