/-
  DERIVED. GIVEN WITH THE SEED: THE CARDS: each row of YtbencjbdbilmnaaDoorRows.lean that lists a variable, with what it lists TIED to the program's text (the seventh form; the later family's looks); each row that meets fmt, with fmt's text TOLD by the authors' own Lean function (tested against real Go, not proved from fmt's source: count such statements apart). THE CARD IS WHAT COUNTS. Prove the row's statement (the work); the ties are given (YtbencjbdbilmnaaDoorTie.lean); close each card by the builder's one call (the guide's Derived/Test/ToyasCard.lean, 'card_holds'). Laid BY PROGRAM, IN A SANDBOX (cutbox-door.mjs). By AI agents, Wed Nov 11 2026. No macro, syntax, notation, axiom, sorry.
-/
import Derived.Test.YtbencjbdbilmnaaDoorRows
import GoSem.ClaimSeven
namespace Go.Proofs.YtbencjbdbilmnaaDoor
namespace Rows

/-- THE TIED CARD OF 'laws.FnExactDeliveryText'. -/
def fnExactDeliveryTextCard : Claim7 := { stood := { row := fnExactDeliveryTextRow, standIns := [], harness := (true, "b33e3068f1f3422f48b249451c9e0d731e8f6c4ea0a516469e8b49dc344cc0fa"), looks := false }, kinds := [], alts := [], laidByText := true, laidKinds := [.data, .data, .data], laidTests := true, laidLooks := .later }
def FnExactDeliveryTextCardSaid : Prop := Claim7.holds Tryd.pinned (.plain (OpenSpec.ofChange fnExactDeliveryTextSpec)) fnExactDeliveryTextCard

/-- THE TIED CARD OF 'laws.FnExactAgreement'. -/
def fnExactAgreementCard : Claim7 := { stood := { row := fnExactAgreementRow, standIns := [], harness := (true, "b33e3068f1f3422f48b249451c9e0d731e8f6c4ea0a516469e8b49dc344cc0fa"), looks := false }, kinds := [], alts := [], laidByText := true, laidKinds := [.data, .data, .data], laidTests := true, laidLooks := .later }
def FnExactAgreementCardSaid : Prop := Claim7.holds Tryd.pinned (.plain (OpenSpec.ofChange fnExactAgreementSpec)) fnExactAgreementCard

/-- THE TIED CARD OF 'laws.FnExactReportText'. -/
def fnExactReportTextCard : Claim7 := { stood := { row := fnExactReportTextRow, standIns := [], harness := (true, "b33e3068f1f3422f48b249451c9e0d731e8f6c4ea0a516469e8b49dc344cc0fa"), looks := false }, kinds := [], alts := [], laidByText := true, laidKinds := [.data, .data, .data], laidTests := true, laidLooks := .later }
def FnExactReportTextCardSaid : Prop := Claim7.holds Tryd.pinned (.plain (OpenSpec.ofChange fnExactReportTextSpec)) fnExactReportTextCard

/-- THE TIED CARD OF 'laws.FnAgreements'. -/
def fnAgreementsCard : Claim7 := { stood := { row := fnAgreementsRow, standIns := [], harness := (true, "b33e3068f1f3422f48b249451c9e0d731e8f6c4ea0a516469e8b49dc344cc0fa"), looks := false }, kinds := [], alts := [], laidByText := true, laidKinds := [.data, .data, .data], laidTests := true, laidLooks := .later }
def FnAgreementsCardSaid : Prop := Claim7.holds Tryd.pinned (.plain (OpenSpec.ofChange fnAgreementsSpec)) fnAgreementsCard

/-- THE SECOND FORM's CARD OF 'laws.FnExactDeliveryText'. -/
def fnExactDeliveryTextUptoCard : Claim7 := { stood := { row := fnExactDeliveryTextUptoRow, standIns := [], harness := (true, "b33e3068f1f3422f48b249451c9e0d731e8f6c4ea0a516469e8b49dc344cc0fa"), looks := false }, kinds := [], alts := [], laidByText := true, laidKinds := [.data, .data, .data], laidTests := true, laidLooks := .later }
def FnExactDeliveryTextUptoCardSaid : Prop := Claim7.holds Tryd.pinned (.plain (OpenSpec.upto fnExactDeliveryTextSpec)) fnExactDeliveryTextUptoCard

/-- THE SECOND FORM's CARD OF 'laws.FnExactAgreement'. -/
def fnExactAgreementUptoCard : Claim7 := { stood := { row := fnExactAgreementUptoRow, standIns := [], harness := (true, "b33e3068f1f3422f48b249451c9e0d731e8f6c4ea0a516469e8b49dc344cc0fa"), looks := false }, kinds := [], alts := [], laidByText := true, laidKinds := [.data, .data, .data], laidTests := true, laidLooks := .later }
def FnExactAgreementUptoCardSaid : Prop := Claim7.holds Tryd.pinned (.plain (OpenSpec.upto fnExactAgreementSpec)) fnExactAgreementUptoCard

/-- THE SECOND FORM's CARD OF 'laws.FnExactReportText'. -/
def fnExactReportTextUptoCard : Claim7 := { stood := { row := fnExactReportTextUptoRow, standIns := [], harness := (true, "b33e3068f1f3422f48b249451c9e0d731e8f6c4ea0a516469e8b49dc344cc0fa"), looks := false }, kinds := [], alts := [], laidByText := true, laidKinds := [.data, .data, .data], laidTests := true, laidLooks := .later }
def FnExactReportTextUptoCardSaid : Prop := Claim7.holds Tryd.pinned (.plain (OpenSpec.upto fnExactReportTextSpec)) fnExactReportTextUptoCard

/-- THE SECOND FORM's CARD OF 'laws.FnAgreements'. -/
def fnAgreementsUptoCard : Claim7 := { stood := { row := fnAgreementsUptoRow, standIns := [], harness := (true, "b33e3068f1f3422f48b249451c9e0d731e8f6c4ea0a516469e8b49dc344cc0fa"), looks := false }, kinds := [], alts := [], laidByText := true, laidKinds := [.data, .data, .data], laidTests := true, laidLooks := .later }
def FnAgreementsUptoCardSaid : Prop := Claim7.holds Tryd.pinned (.plain (OpenSpec.upto fnAgreementsSpec)) fnAgreementsUptoCard
end Rows
end Go.Proofs.YtbencjbdbilmnaaDoor
