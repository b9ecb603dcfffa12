/-
  DERIVED. GIVEN WITH THE SEED: THE CARDS: each row of YthnfdgbmmiddlaaDoorRows.lean that lists a variable, with what it lists TIED to the program's text (the seventh form; the later family's looks); each row that meets fmt, with fmt's text TOLD by the authors' own Lean function (tested against real Go, not proved from fmt's source: count such statements apart). THE CARD IS WHAT COUNTS. Prove the row's statement (the work); the ties are given (YthnfdgbmmiddlaaDoorTie.lean); close each card by the builder's one call (the guide's Derived/Test/ToyasCard.lean, 'card_holds'). Laid BY PROGRAM, IN A SANDBOX (cutbox-door.mjs). By AI agents, Wed Nov 11 2026. No macro, syntax, notation, axiom, sorry.
-/
import Derived.Test.YthnfdgbmmiddlaaDoorRows
import GoSem.ClaimSeven
namespace Go.Proofs.YthnfdgbmmiddlaaDoor
namespace Rows

/-- THE TIED CARD OF 'laws.FnCodes'. -/
def fnCodesCard : Claim7 := { stood := { row := fnCodesRow, standIns := [], harness := (true, "11aceaec9ec4d6f7a55f39f6482976de3b18fcd0018d27421918845df828faa1"), looks := false }, kinds := [], alts := [], laidByText := true, laidKinds := [.data, .pinned], laidTests := true, laidLooks := .later }
def FnCodesCardSaid : Prop := Claim7.holds Tryd.pinned (.plain (OpenSpec.ofChange fnCodesSpec)) fnCodesCard

/-- THE TIED CARD OF 'laws.FnRecovery'. -/
def fnRecoveryCard : Claim7 := { stood := { row := fnRecoveryRow, standIns := [], harness := (true, "11aceaec9ec4d6f7a55f39f6482976de3b18fcd0018d27421918845df828faa1"), looks := false }, kinds := [], alts := [], laidByText := true, laidKinds := [.data, .pinned], laidTests := true, laidLooks := .later }
def FnRecoveryCardSaid : Prop := Claim7.holds Tryd.pinned (.plain (OpenSpec.ofChange fnRecoverySpec)) fnRecoveryCard

/-- THE SECOND FORM's CARD OF 'laws.FnCodes'. -/
def fnCodesUptoCard : Claim7 := { stood := { row := fnCodesUptoRow, standIns := [], harness := (true, "11aceaec9ec4d6f7a55f39f6482976de3b18fcd0018d27421918845df828faa1"), looks := false }, kinds := [], alts := [], laidByText := true, laidKinds := [.data, .pinned], laidTests := true, laidLooks := .later }
def FnCodesUptoCardSaid : Prop := Claim7.holds Tryd.pinned (.plain (OpenSpec.upto fnCodesSpec)) fnCodesUptoCard

/-- THE SECOND FORM's CARD OF 'laws.FnRecovery'. -/
def fnRecoveryUptoCard : Claim7 := { stood := { row := fnRecoveryUptoRow, standIns := [], harness := (true, "11aceaec9ec4d6f7a55f39f6482976de3b18fcd0018d27421918845df828faa1"), looks := false }, kinds := [], alts := [], laidByText := true, laidKinds := [.data, .pinned], laidTests := true, laidLooks := .later }
def FnRecoveryUptoCardSaid : Prop := Claim7.holds Tryd.pinned (.plain (OpenSpec.upto fnRecoverySpec)) fnRecoveryUptoCard
end Rows
end Go.Proofs.YthnfdgbmmiddlaaDoor
