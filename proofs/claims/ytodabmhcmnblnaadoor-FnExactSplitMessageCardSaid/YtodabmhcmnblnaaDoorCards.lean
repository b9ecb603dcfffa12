/-
  DERIVED. GIVEN WITH THE SEED: THE CARDS: each row of YtodabmhcmnblnaaDoorRows.lean that lists a variable, with what it lists TIED to the program's text (the seventh form; the later family's looks); each row that meets fmt, with fmt's text TOLD by the authors' own Lean function (tested against real Go, not proved from fmt's source: count such statements apart). THE CARD IS WHAT COUNTS. Prove the row's statement (the work); the ties are given (YtodabmhcmnblnaaDoorTie.lean); close each card by the builder's one call (the guide's Derived/Test/ToyasCard.lean, 'card_holds'). Laid BY PROGRAM, IN A SANDBOX (cutbox-door.mjs). By AI agents, Wed Nov 11 2026. No macro, syntax, notation, axiom, sorry.
-/
import Derived.Test.YtodabmhcmnblnaaDoorRows
import GoSem.ClaimSeven
namespace Go.Proofs.YtodabmhcmnblnaaDoor
namespace Rows

/-- THE TIED CARD OF 'laws.FnExactIsValidFragment'. -/
def fnExactIsValidFragmentCard : Claim7 := { stood := { row := fnExactIsValidFragmentRow, standIns := [], harness := (true, "4b97d6b7be869a40307f299845fa46d4d54e6c43207a6bf38794ee6245c10d29"), looks := true }, kinds := [], alts := [], laidByText := true, laidKinds := [.data, .pinned], laidTests := true, laidLooks := .later }
def FnExactIsValidFragmentCardSaid : Prop := Claim7.holds Tryd.pinned (.plain (OpenSpec.ofChange fnExactIsValidFragmentSpec)) fnExactIsValidFragmentCard

/-- THE TIED CARD OF 'laws.FnExactSplitMessage'. -/
def fnExactSplitMessageCard : Claim7 := { stood := { row := fnExactSplitMessageRow, standIns := [], harness := (true, "4b97d6b7be869a40307f299845fa46d4d54e6c43207a6bf38794ee6245c10d29"), looks := true }, kinds := [], alts := [], laidByText := true, laidKinds := [.data, .pinned], laidTests := true, laidLooks := .later }
def FnExactSplitMessageCardSaid : Prop := Claim7.holds Tryd.pinned (.plain (OpenSpec.ofChange fnExactSplitMessageSpec)) fnExactSplitMessageCard

/-- THE TIED CARD OF 'laws.FnExactIsValidPending'. -/
def fnExactIsValidPendingCard : Claim7 := { stood := { row := fnExactIsValidPendingRow, standIns := [], harness := (true, "4b97d6b7be869a40307f299845fa46d4d54e6c43207a6bf38794ee6245c10d29"), looks := true }, kinds := [], alts := [], laidByText := true, laidKinds := [.data, .pinned], laidTests := true, laidLooks := .later }
def FnExactIsValidPendingCardSaid : Prop := Claim7.holds Tryd.pinned (.plain (OpenSpec.ofChange fnExactIsValidPendingSpec)) fnExactIsValidPendingCard

/-- THE TIED CARD OF 'laws.FnExactFragmentText'. -/
def fnExactFragmentTextCard : Claim7 := { stood := { row := fnExactFragmentTextRow, standIns := [], harness := (true, "4b97d6b7be869a40307f299845fa46d4d54e6c43207a6bf38794ee6245c10d29"), looks := true }, kinds := [], alts := [], laidByText := true, laidKinds := [.data, .data, .data, .data, .pinned], laidTests := true, laidLooks := .later }
def FnExactFragmentTextCardSaid : Prop := Claim7.holds Tryd.pinned (.plain (OpenSpec.ofChange fnExactFragmentTextSpec)) fnExactFragmentTextCard

/-- THE TIED CARD OF 'laws.FnExactLackingParts'. -/
def fnExactLackingPartsCard : Claim7 := { stood := { row := fnExactLackingPartsRow, standIns := [], harness := (true, "4b97d6b7be869a40307f299845fa46d4d54e6c43207a6bf38794ee6245c10d29"), looks := true }, kinds := [], alts := [], laidByText := true, laidKinds := [.data, .pinned], laidTests := true, laidLooks := .later }
def FnExactLackingPartsCardSaid : Prop := Claim7.holds Tryd.pinned (.plain (OpenSpec.ofChange fnExactLackingPartsSpec)) fnExactLackingPartsCard

/-- THE TIED CARD OF 'laws.FnExactDropMessage'. -/
def fnExactDropMessageCard : Claim7 := { stood := { row := fnExactDropMessageRow, standIns := [], harness := (true, "4b97d6b7be869a40307f299845fa46d4d54e6c43207a6bf38794ee6245c10d29"), looks := true }, kinds := [], alts := [], laidByText := true, laidKinds := [.data, .pinned], laidTests := true, laidLooks := .later }
def FnExactDropMessageCardSaid : Prop := Claim7.holds Tryd.pinned (.plain (OpenSpec.ofChange fnExactDropMessageSpec)) fnExactDropMessageCard

/-- THE TIED CARD OF 'laws.FnPendings'. -/
def fnPendingsCard : Claim7 := { stood := { row := fnPendingsRow, standIns := [], harness := (true, "4b97d6b7be869a40307f299845fa46d4d54e6c43207a6bf38794ee6245c10d29"), looks := true }, kinds := [], alts := [], laidByText := true, laidKinds := [.data, .pinned], laidTests := true, laidLooks := .later }
def FnPendingsCardSaid : Prop := Claim7.holds Tryd.pinned (.plain (OpenSpec.ofChange fnPendingsSpec)) fnPendingsCard

/-- THE TIED CARD OF 'laws.FnExactTakeFragment'. -/
def fnExactTakeFragmentCard : Claim7 := { stood := { row := fnExactTakeFragmentRow, standIns := [], harness := (true, "4b97d6b7be869a40307f299845fa46d4d54e6c43207a6bf38794ee6245c10d29"), looks := true }, kinds := [], alts := [], laidByText := true, laidKinds := [.data, .pinned], laidTests := true, laidLooks := .later }
def FnExactTakeFragmentCardSaid : Prop := Claim7.holds Tryd.pinned (.plain (OpenSpec.ofChange fnExactTakeFragmentSpec)) fnExactTakeFragmentCard

/-- THE TIED CARD OF 'laws.FnExactParseFragment'. -/
def fnExactParseFragmentCard : Claim7 := { stood := { row := fnExactParseFragmentRow, standIns := [], harness := (true, "4b97d6b7be869a40307f299845fa46d4d54e6c43207a6bf38794ee6245c10d29"), looks := true }, kinds := [], alts := [], laidByText := true, laidKinds := [.data, .data, .data, .data, .sentinel, .sentinel, .pinned], laidTests := true, laidLooks := .later }
def FnExactParseFragmentCardSaid : Prop := Claim7.holds Tryd.pinned (.plain (OpenSpec.ofChange fnExactParseFragmentSpec)) fnExactParseFragmentCard

/-- THE SECOND FORM's CARD OF 'laws.FnExactIsValidFragment'. -/
def fnExactIsValidFragmentUptoCard : Claim7 := { stood := { row := fnExactIsValidFragmentUptoRow, standIns := [], harness := (true, "4b97d6b7be869a40307f299845fa46d4d54e6c43207a6bf38794ee6245c10d29"), looks := true }, kinds := [], alts := [], laidByText := true, laidKinds := [.data, .pinned], laidTests := true, laidLooks := .later }
def FnExactIsValidFragmentUptoCardSaid : Prop := Claim7.holds Tryd.pinned (.plain (OpenSpec.upto fnExactIsValidFragmentSpec)) fnExactIsValidFragmentUptoCard

/-- THE SECOND FORM's CARD OF 'laws.FnExactSplitMessage'. -/
def fnExactSplitMessageUptoCard : Claim7 := { stood := { row := fnExactSplitMessageUptoRow, standIns := [], harness := (true, "4b97d6b7be869a40307f299845fa46d4d54e6c43207a6bf38794ee6245c10d29"), looks := true }, kinds := [], alts := [], laidByText := true, laidKinds := [.data, .pinned], laidTests := true, laidLooks := .later }
def FnExactSplitMessageUptoCardSaid : Prop := Claim7.holds Tryd.pinned (.plain (OpenSpec.upto fnExactSplitMessageSpec)) fnExactSplitMessageUptoCard

/-- THE SECOND FORM's CARD OF 'laws.FnExactIsValidPending'. -/
def fnExactIsValidPendingUptoCard : Claim7 := { stood := { row := fnExactIsValidPendingUptoRow, standIns := [], harness := (true, "4b97d6b7be869a40307f299845fa46d4d54e6c43207a6bf38794ee6245c10d29"), looks := true }, kinds := [], alts := [], laidByText := true, laidKinds := [.data, .pinned], laidTests := true, laidLooks := .later }
def FnExactIsValidPendingUptoCardSaid : Prop := Claim7.holds Tryd.pinned (.plain (OpenSpec.upto fnExactIsValidPendingSpec)) fnExactIsValidPendingUptoCard

/-- THE SECOND FORM's CARD OF 'laws.FnExactFragmentText'. -/
def fnExactFragmentTextUptoCard : Claim7 := { stood := { row := fnExactFragmentTextUptoRow, standIns := [], harness := (true, "4b97d6b7be869a40307f299845fa46d4d54e6c43207a6bf38794ee6245c10d29"), looks := true }, kinds := [], alts := [], laidByText := true, laidKinds := [.data, .data, .data, .data, .pinned], laidTests := true, laidLooks := .later }
def FnExactFragmentTextUptoCardSaid : Prop := Claim7.holds Tryd.pinned (.plain (OpenSpec.upto fnExactFragmentTextSpec)) fnExactFragmentTextUptoCard

/-- THE SECOND FORM's CARD OF 'laws.FnExactLackingParts'. -/
def fnExactLackingPartsUptoCard : Claim7 := { stood := { row := fnExactLackingPartsUptoRow, standIns := [], harness := (true, "4b97d6b7be869a40307f299845fa46d4d54e6c43207a6bf38794ee6245c10d29"), looks := true }, kinds := [], alts := [], laidByText := true, laidKinds := [.data, .pinned], laidTests := true, laidLooks := .later }
def FnExactLackingPartsUptoCardSaid : Prop := Claim7.holds Tryd.pinned (.plain (OpenSpec.upto fnExactLackingPartsSpec)) fnExactLackingPartsUptoCard

/-- THE SECOND FORM's CARD OF 'laws.FnExactDropMessage'. -/
def fnExactDropMessageUptoCard : Claim7 := { stood := { row := fnExactDropMessageUptoRow, standIns := [], harness := (true, "4b97d6b7be869a40307f299845fa46d4d54e6c43207a6bf38794ee6245c10d29"), looks := true }, kinds := [], alts := [], laidByText := true, laidKinds := [.data, .pinned], laidTests := true, laidLooks := .later }
def FnExactDropMessageUptoCardSaid : Prop := Claim7.holds Tryd.pinned (.plain (OpenSpec.upto fnExactDropMessageSpec)) fnExactDropMessageUptoCard

/-- THE SECOND FORM's CARD OF 'laws.FnPendings'. -/
def fnPendingsUptoCard : Claim7 := { stood := { row := fnPendingsUptoRow, standIns := [], harness := (true, "4b97d6b7be869a40307f299845fa46d4d54e6c43207a6bf38794ee6245c10d29"), looks := true }, kinds := [], alts := [], laidByText := true, laidKinds := [.data, .pinned], laidTests := true, laidLooks := .later }
def FnPendingsUptoCardSaid : Prop := Claim7.holds Tryd.pinned (.plain (OpenSpec.upto fnPendingsSpec)) fnPendingsUptoCard

/-- THE SECOND FORM's CARD OF 'laws.FnExactTakeFragment'. -/
def fnExactTakeFragmentUptoCard : Claim7 := { stood := { row := fnExactTakeFragmentUptoRow, standIns := [], harness := (true, "4b97d6b7be869a40307f299845fa46d4d54e6c43207a6bf38794ee6245c10d29"), looks := true }, kinds := [], alts := [], laidByText := true, laidKinds := [.data, .pinned], laidTests := true, laidLooks := .later }
def FnExactTakeFragmentUptoCardSaid : Prop := Claim7.holds Tryd.pinned (.plain (OpenSpec.upto fnExactTakeFragmentSpec)) fnExactTakeFragmentUptoCard

/-- THE SECOND FORM's CARD OF 'laws.FnExactParseFragment'. -/
def fnExactParseFragmentUptoCard : Claim7 := { stood := { row := fnExactParseFragmentUptoRow, standIns := [], harness := (true, "4b97d6b7be869a40307f299845fa46d4d54e6c43207a6bf38794ee6245c10d29"), looks := true }, kinds := [], alts := [], laidByText := true, laidKinds := [.data, .data, .data, .data, .sentinel, .sentinel, .pinned], laidTests := true, laidLooks := .later }
def FnExactParseFragmentUptoCardSaid : Prop := Claim7.holds Tryd.pinned (.plain (OpenSpec.upto fnExactParseFragmentSpec)) fnExactParseFragmentUptoCard
end Rows
end Go.Proofs.YtodabmhcmnblnaaDoor
