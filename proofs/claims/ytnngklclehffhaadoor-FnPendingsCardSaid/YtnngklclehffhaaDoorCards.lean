/-
  DERIVED. GIVEN WITH THE SEED: THE CARDS: each row of YtnngklclehffhaaDoorRows.lean that lists a variable, with what it lists TIED to the program's text (the seventh form; the later family's looks); each row that meets fmt, with fmt's text TOLD by the authors' own Lean function (tested against real Go, not proved from fmt's source: count such statements apart). THE CARD IS WHAT COUNTS. Prove the row's statement (the work); the ties are given (YtnngklclehffhaaDoorTie.lean); close each card by the builder's one call (the guide's Derived/Test/ToyasCard.lean, 'card_holds'). Laid BY PROGRAM, IN A SANDBOX (cutbox-door.mjs). By AI agents, Wed Nov 11 2026. No macro, syntax, notation, axiom, sorry.
-/
import Derived.Test.YtnngklclehffhaaDoorRows
import GoSem.ClaimSeven
namespace Go.Proofs.YtnngklclehffhaaDoor
namespace Rows

/-- THE TIED CARD OF 'laws.FnExactIsValidPending'. -/
def fnExactIsValidPendingCard : Claim7 := { stood := { row := fnExactIsValidPendingRow, standIns := [], harness := (true, "efc0d91b0d9b52de2fe9985696acb5fb8069c6dad42c031a285957a89e66ef60"), looks := true }, kinds := [], alts := [], laidByText := true, laidKinds := [.data, .pinned], laidTests := true, laidLooks := .later }
def FnExactIsValidPendingCardSaid : Prop := Claim7.holds Tryd.pinned (.plain (OpenSpec.ofChange fnExactIsValidPendingSpec)) fnExactIsValidPendingCard

/-- THE TIED CARD OF 'laws.FnExactLackingParts'. -/
def fnExactLackingPartsCard : Claim7 := { stood := { row := fnExactLackingPartsRow, standIns := [], harness := (true, "efc0d91b0d9b52de2fe9985696acb5fb8069c6dad42c031a285957a89e66ef60"), looks := true }, kinds := [], alts := [], laidByText := true, laidKinds := [.data, .pinned], laidTests := true, laidLooks := .later }
def FnExactLackingPartsCardSaid : Prop := Claim7.holds Tryd.pinned (.plain (OpenSpec.ofChange fnExactLackingPartsSpec)) fnExactLackingPartsCard

/-- THE TIED CARD OF 'laws.FnExactDropMessage'. -/
def fnExactDropMessageCard : Claim7 := { stood := { row := fnExactDropMessageRow, standIns := [], harness := (true, "efc0d91b0d9b52de2fe9985696acb5fb8069c6dad42c031a285957a89e66ef60"), looks := true }, kinds := [], alts := [], laidByText := true, laidKinds := [.data, .pinned], laidTests := true, laidLooks := .later }
def FnExactDropMessageCardSaid : Prop := Claim7.holds Tryd.pinned (.plain (OpenSpec.ofChange fnExactDropMessageSpec)) fnExactDropMessageCard

/-- THE TIED CARD OF 'laws.FnExactTakeFragment'. -/
def fnExactTakeFragmentCard : Claim7 := { stood := { row := fnExactTakeFragmentRow, standIns := [], harness := (true, "efc0d91b0d9b52de2fe9985696acb5fb8069c6dad42c031a285957a89e66ef60"), looks := true }, kinds := [], alts := [], laidByText := true, laidKinds := [.data, .pinned], laidTests := true, laidLooks := .later }
def FnExactTakeFragmentCardSaid : Prop := Claim7.holds Tryd.pinned (.plain (OpenSpec.ofChange fnExactTakeFragmentSpec)) fnExactTakeFragmentCard

/-- THE TIED CARD OF 'laws.FnPendings'. -/
def fnPendingsCard : Claim7 := { stood := { row := fnPendingsRow, standIns := [], harness := (true, "efc0d91b0d9b52de2fe9985696acb5fb8069c6dad42c031a285957a89e66ef60"), looks := true }, kinds := [], alts := [], laidByText := true, laidKinds := [.data, .pinned], laidTests := true, laidLooks := .later }
def FnPendingsCardSaid : Prop := Claim7.holds Tryd.pinned (.plain (OpenSpec.ofChange fnPendingsSpec)) fnPendingsCard

/-- THE TIED CARD OF 'laws.FnExactParseFragment'. -/
def fnExactParseFragmentCard : Claim7 := { stood := { row := fnExactParseFragmentRow, standIns := [], harness := (true, "efc0d91b0d9b52de2fe9985696acb5fb8069c6dad42c031a285957a89e66ef60"), looks := true }, kinds := [], alts := [], laidByText := true, laidKinds := [.data, .data, .data, .data, .sentinel, .sentinel, .pinned], laidTests := true, laidLooks := .later }
def FnExactParseFragmentCardSaid : Prop := Claim7.holds Tryd.pinned (.plain (OpenSpec.ofChange fnExactParseFragmentSpec)) fnExactParseFragmentCard

/-- THE SECOND FORM's CARD OF 'laws.FnExactIsValidPending'. -/
def fnExactIsValidPendingUptoCard : Claim7 := { stood := { row := fnExactIsValidPendingUptoRow, standIns := [], harness := (true, "efc0d91b0d9b52de2fe9985696acb5fb8069c6dad42c031a285957a89e66ef60"), looks := true }, kinds := [], alts := [], laidByText := true, laidKinds := [.data, .pinned], laidTests := true, laidLooks := .later }
def FnExactIsValidPendingUptoCardSaid : Prop := Claim7.holds Tryd.pinned (.plain (OpenSpec.upto fnExactIsValidPendingSpec)) fnExactIsValidPendingUptoCard

/-- THE SECOND FORM's CARD OF 'laws.FnExactLackingParts'. -/
def fnExactLackingPartsUptoCard : Claim7 := { stood := { row := fnExactLackingPartsUptoRow, standIns := [], harness := (true, "efc0d91b0d9b52de2fe9985696acb5fb8069c6dad42c031a285957a89e66ef60"), looks := true }, kinds := [], alts := [], laidByText := true, laidKinds := [.data, .pinned], laidTests := true, laidLooks := .later }
def FnExactLackingPartsUptoCardSaid : Prop := Claim7.holds Tryd.pinned (.plain (OpenSpec.upto fnExactLackingPartsSpec)) fnExactLackingPartsUptoCard

/-- THE SECOND FORM's CARD OF 'laws.FnExactDropMessage'. -/
def fnExactDropMessageUptoCard : Claim7 := { stood := { row := fnExactDropMessageUptoRow, standIns := [], harness := (true, "efc0d91b0d9b52de2fe9985696acb5fb8069c6dad42c031a285957a89e66ef60"), looks := true }, kinds := [], alts := [], laidByText := true, laidKinds := [.data, .pinned], laidTests := true, laidLooks := .later }
def FnExactDropMessageUptoCardSaid : Prop := Claim7.holds Tryd.pinned (.plain (OpenSpec.upto fnExactDropMessageSpec)) fnExactDropMessageUptoCard

/-- THE SECOND FORM's CARD OF 'laws.FnExactTakeFragment'. -/
def fnExactTakeFragmentUptoCard : Claim7 := { stood := { row := fnExactTakeFragmentUptoRow, standIns := [], harness := (true, "efc0d91b0d9b52de2fe9985696acb5fb8069c6dad42c031a285957a89e66ef60"), looks := true }, kinds := [], alts := [], laidByText := true, laidKinds := [.data, .pinned], laidTests := true, laidLooks := .later }
def FnExactTakeFragmentUptoCardSaid : Prop := Claim7.holds Tryd.pinned (.plain (OpenSpec.upto fnExactTakeFragmentSpec)) fnExactTakeFragmentUptoCard

/-- THE SECOND FORM's CARD OF 'laws.FnPendings'. -/
def fnPendingsUptoCard : Claim7 := { stood := { row := fnPendingsUptoRow, standIns := [], harness := (true, "efc0d91b0d9b52de2fe9985696acb5fb8069c6dad42c031a285957a89e66ef60"), looks := true }, kinds := [], alts := [], laidByText := true, laidKinds := [.data, .pinned], laidTests := true, laidLooks := .later }
def FnPendingsUptoCardSaid : Prop := Claim7.holds Tryd.pinned (.plain (OpenSpec.upto fnPendingsSpec)) fnPendingsUptoCard

/-- THE SECOND FORM's CARD OF 'laws.FnExactParseFragment'. -/
def fnExactParseFragmentUptoCard : Claim7 := { stood := { row := fnExactParseFragmentUptoRow, standIns := [], harness := (true, "efc0d91b0d9b52de2fe9985696acb5fb8069c6dad42c031a285957a89e66ef60"), looks := true }, kinds := [], alts := [], laidByText := true, laidKinds := [.data, .data, .data, .data, .sentinel, .sentinel, .pinned], laidTests := true, laidLooks := .later }
def FnExactParseFragmentUptoCardSaid : Prop := Claim7.holds Tryd.pinned (.plain (OpenSpec.upto fnExactParseFragmentSpec)) fnExactParseFragmentUptoCard
end Rows
end Go.Proofs.YtnngklclehffhaaDoor
