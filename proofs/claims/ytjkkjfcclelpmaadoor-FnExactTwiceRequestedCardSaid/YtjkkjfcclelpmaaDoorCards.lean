/-
  DERIVED. GIVEN WITH THE SEED: THE CARDS: each row of YtjkkjfcclelpmaaDoorRows.lean that lists a variable, with what it lists TIED to the program's text (the seventh form; the later family's looks); each row that meets fmt, with fmt's text TOLD by the authors' own Lean function (tested against real Go, not proved from fmt's source: count such statements apart). THE CARD IS WHAT COUNTS. Prove the row's statement (the work); the ties are given (YtjkkjfcclelpmaaDoorTie.lean); close each card by the builder's one call (the guide's Derived/Test/ToyasCard.lean, 'card_holds'). Laid BY PROGRAM, IN A SANDBOX (cutbox-door.mjs). By AI agents, Wed Nov 11 2026. No macro, syntax, notation, axiom, sorry.
-/
import Derived.Test.YtjkkjfcclelpmaaDoorRows
import GoSem.ClaimSeven
namespace Go.Proofs.YtjkkjfcclelpmaaDoor
namespace Rows

/-- THE TIED CARD OF 'laws.FnExactIsCapture'. -/
def fnExactIsCaptureCard : Claim7 := { stood := { row := fnExactIsCaptureRow, standIns := [], harness := (true, "a804df4705fe3ca4496c3f8e9e42cfb648adaea9133c361d27295cdb781b38c4"), looks := false }, kinds := [], alts := [], laidByText := true, laidKinds := [.data, .pinned], laidTests := true, laidLooks := .later }
def FnExactIsCaptureCardSaid : Prop := Claim7.holds Tryd.pinned (.plain (OpenSpec.ofChange fnExactIsCaptureSpec)) fnExactIsCaptureCard

/-- THE TIED CARD OF 'laws.FnExactRepairTicks'. -/
def fnExactRepairTicksCard : Claim7 := { stood := { row := fnExactRepairTicksRow, standIns := [], harness := (true, "a804df4705fe3ca4496c3f8e9e42cfb648adaea9133c361d27295cdb781b38c4"), looks := false }, kinds := [], alts := [], laidByText := true, laidKinds := [.data, .pinned], laidTests := true, laidLooks := .later }
def FnExactRepairTicksCardSaid : Prop := Claim7.holds Tryd.pinned (.plain (OpenSpec.ofChange fnExactRepairTicksSpec)) fnExactRepairTicksCard

/-- THE TIED CARD OF 'laws.FnExactBytesSeen'. -/
def fnExactBytesSeenCard : Claim7 := { stood := { row := fnExactBytesSeenRow, standIns := [], harness := (true, "a804df4705fe3ca4496c3f8e9e42cfb648adaea9133c361d27295cdb781b38c4"), looks := false }, kinds := [], alts := [], laidByText := true, laidKinds := [.data, .pinned], laidTests := true, laidLooks := .later }
def FnExactBytesSeenCardSaid : Prop := Claim7.holds Tryd.pinned (.plain (OpenSpec.ofChange fnExactBytesSeenSpec)) fnExactBytesSeenCard

/-- THE TIED CARD OF 'laws.FnExactOfKind'. -/
def fnExactOfKindCard : Claim7 := { stood := { row := fnExactOfKindRow, standIns := [], harness := (true, "a804df4705fe3ca4496c3f8e9e42cfb648adaea9133c361d27295cdb781b38c4"), looks := false }, kinds := [], alts := [], laidByText := true, laidKinds := [.data, .pinned], laidTests := true, laidLooks := .later }
def FnExactOfKindCardSaid : Prop := Claim7.holds Tryd.pinned (.plain (OpenSpec.ofChange fnExactOfKindSpec)) fnExactOfKindCard

/-- THE TIED CARD OF 'laws.FnExactOnLink'. -/
def fnExactOnLinkCard : Claim7 := { stood := { row := fnExactOnLinkRow, standIns := [], harness := (true, "a804df4705fe3ca4496c3f8e9e42cfb648adaea9133c361d27295cdb781b38c4"), looks := false }, kinds := [], alts := [], laidByText := true, laidKinds := [.data, .pinned], laidTests := true, laidLooks := .later }
def FnExactOnLinkCardSaid : Prop := Claim7.holds Tryd.pinned (.plain (OpenSpec.ofChange fnExactOnLinkSpec)) fnExactOnLinkCard

/-- THE TIED CARD OF 'laws.FnExactTwiceRequested'. -/
def fnExactTwiceRequestedCard : Claim7 := { stood := { row := fnExactTwiceRequestedRow, standIns := [], harness := (true, "a804df4705fe3ca4496c3f8e9e42cfb648adaea9133c361d27295cdb781b38c4"), looks := false }, kinds := [], alts := [], laidByText := true, laidKinds := [.data, .pinned], laidTests := true, laidLooks := .later }
def FnExactTwiceRequestedCardSaid : Prop := Claim7.holds Tryd.pinned (.plain (OpenSpec.ofChange fnExactTwiceRequestedSpec)) fnExactTwiceRequestedCard

/-- THE TIED CARD OF 'laws.FnExactJoinCaptures'. -/
def fnExactJoinCapturesCard : Claim7 := { stood := { row := fnExactJoinCapturesRow, standIns := [], harness := (true, "a804df4705fe3ca4496c3f8e9e42cfb648adaea9133c361d27295cdb781b38c4"), looks := false }, kinds := [], alts := [], laidByText := true, laidKinds := [.data, .pinned], laidTests := true, laidLooks := .later }
def FnExactJoinCapturesCardSaid : Prop := Claim7.holds Tryd.pinned (.plain (OpenSpec.ofChange fnExactJoinCapturesSpec)) fnExactJoinCapturesCard

/-- THE TIED CARD OF 'laws.FnExactCaptureText'. -/
def fnExactCaptureTextCard : Claim7 := { stood := { row := fnExactCaptureTextRow, standIns := [], harness := (true, "a804df4705fe3ca4496c3f8e9e42cfb648adaea9133c361d27295cdb781b38c4"), looks := false }, kinds := [], alts := [], laidByText := true, laidKinds := [.data, .data, .data, .data, .pinned], laidTests := true, laidLooks := .later }
def FnExactCaptureTextCardSaid : Prop := Claim7.holds Tryd.pinned (.plain (OpenSpec.ofChange fnExactCaptureTextSpec)) fnExactCaptureTextCard

/-- THE SECOND FORM's CARD OF 'laws.FnExactIsCapture'. -/
def fnExactIsCaptureUptoCard : Claim7 := { stood := { row := fnExactIsCaptureUptoRow, standIns := [], harness := (true, "a804df4705fe3ca4496c3f8e9e42cfb648adaea9133c361d27295cdb781b38c4"), looks := false }, kinds := [], alts := [], laidByText := true, laidKinds := [.data, .pinned], laidTests := true, laidLooks := .later }
def FnExactIsCaptureUptoCardSaid : Prop := Claim7.holds Tryd.pinned (.plain (OpenSpec.upto fnExactIsCaptureSpec)) fnExactIsCaptureUptoCard

/-- THE SECOND FORM's CARD OF 'laws.FnExactRepairTicks'. -/
def fnExactRepairTicksUptoCard : Claim7 := { stood := { row := fnExactRepairTicksUptoRow, standIns := [], harness := (true, "a804df4705fe3ca4496c3f8e9e42cfb648adaea9133c361d27295cdb781b38c4"), looks := false }, kinds := [], alts := [], laidByText := true, laidKinds := [.data, .pinned], laidTests := true, laidLooks := .later }
def FnExactRepairTicksUptoCardSaid : Prop := Claim7.holds Tryd.pinned (.plain (OpenSpec.upto fnExactRepairTicksSpec)) fnExactRepairTicksUptoCard

/-- THE SECOND FORM's CARD OF 'laws.FnExactBytesSeen'. -/
def fnExactBytesSeenUptoCard : Claim7 := { stood := { row := fnExactBytesSeenUptoRow, standIns := [], harness := (true, "a804df4705fe3ca4496c3f8e9e42cfb648adaea9133c361d27295cdb781b38c4"), looks := false }, kinds := [], alts := [], laidByText := true, laidKinds := [.data, .pinned], laidTests := true, laidLooks := .later }
def FnExactBytesSeenUptoCardSaid : Prop := Claim7.holds Tryd.pinned (.plain (OpenSpec.upto fnExactBytesSeenSpec)) fnExactBytesSeenUptoCard

/-- THE SECOND FORM's CARD OF 'laws.FnExactOfKind'. -/
def fnExactOfKindUptoCard : Claim7 := { stood := { row := fnExactOfKindUptoRow, standIns := [], harness := (true, "a804df4705fe3ca4496c3f8e9e42cfb648adaea9133c361d27295cdb781b38c4"), looks := false }, kinds := [], alts := [], laidByText := true, laidKinds := [.data, .pinned], laidTests := true, laidLooks := .later }
def FnExactOfKindUptoCardSaid : Prop := Claim7.holds Tryd.pinned (.plain (OpenSpec.upto fnExactOfKindSpec)) fnExactOfKindUptoCard

/-- THE SECOND FORM's CARD OF 'laws.FnExactOnLink'. -/
def fnExactOnLinkUptoCard : Claim7 := { stood := { row := fnExactOnLinkUptoRow, standIns := [], harness := (true, "a804df4705fe3ca4496c3f8e9e42cfb648adaea9133c361d27295cdb781b38c4"), looks := false }, kinds := [], alts := [], laidByText := true, laidKinds := [.data, .pinned], laidTests := true, laidLooks := .later }
def FnExactOnLinkUptoCardSaid : Prop := Claim7.holds Tryd.pinned (.plain (OpenSpec.upto fnExactOnLinkSpec)) fnExactOnLinkUptoCard

/-- THE SECOND FORM's CARD OF 'laws.FnExactTwiceRequested'. -/
def fnExactTwiceRequestedUptoCard : Claim7 := { stood := { row := fnExactTwiceRequestedUptoRow, standIns := [], harness := (true, "a804df4705fe3ca4496c3f8e9e42cfb648adaea9133c361d27295cdb781b38c4"), looks := false }, kinds := [], alts := [], laidByText := true, laidKinds := [.data, .pinned], laidTests := true, laidLooks := .later }
def FnExactTwiceRequestedUptoCardSaid : Prop := Claim7.holds Tryd.pinned (.plain (OpenSpec.upto fnExactTwiceRequestedSpec)) fnExactTwiceRequestedUptoCard

/-- THE SECOND FORM's CARD OF 'laws.FnExactJoinCaptures'. -/
def fnExactJoinCapturesUptoCard : Claim7 := { stood := { row := fnExactJoinCapturesUptoRow, standIns := [], harness := (true, "a804df4705fe3ca4496c3f8e9e42cfb648adaea9133c361d27295cdb781b38c4"), looks := false }, kinds := [], alts := [], laidByText := true, laidKinds := [.data, .pinned], laidTests := true, laidLooks := .later }
def FnExactJoinCapturesUptoCardSaid : Prop := Claim7.holds Tryd.pinned (.plain (OpenSpec.upto fnExactJoinCapturesSpec)) fnExactJoinCapturesUptoCard

/-- THE SECOND FORM's CARD OF 'laws.FnExactCaptureText'. -/
def fnExactCaptureTextUptoCard : Claim7 := { stood := { row := fnExactCaptureTextUptoRow, standIns := [], harness := (true, "a804df4705fe3ca4496c3f8e9e42cfb648adaea9133c361d27295cdb781b38c4"), looks := false }, kinds := [], alts := [], laidByText := true, laidKinds := [.data, .data, .data, .data, .pinned], laidTests := true, laidLooks := .later }
def FnExactCaptureTextUptoCardSaid : Prop := Claim7.holds Tryd.pinned (.plain (OpenSpec.upto fnExactCaptureTextSpec)) fnExactCaptureTextUptoCard
end Rows
end Go.Proofs.YtjkkjfcclelpmaaDoor
