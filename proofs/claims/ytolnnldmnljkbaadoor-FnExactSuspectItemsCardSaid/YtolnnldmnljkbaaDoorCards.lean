/-
  DERIVED. GIVEN WITH THE SEED: THE CARDS: each row of YtolnnldmnljkbaaDoorRows.lean that lists a variable, with what it lists TIED to the program's text (the seventh form; the later family's looks); each row that meets fmt, with fmt's text TOLD by the authors' own Lean function (tested against real Go, not proved from fmt's source: count such statements apart). THE CARD IS WHAT COUNTS. Prove the row's statement (the work); the ties are given (YtolnnldmnljkbaaDoorTie.lean); close each card by the builder's one call (the guide's Derived/Test/ToyasCard.lean, 'card_holds'). Laid BY PROGRAM, IN A SANDBOX (cutbox-door.mjs). By AI agents, Wed Nov 11 2026. No macro, syntax, notation, axiom, sorry.
-/
import Derived.Test.YtolnnldmnljkbaaDoorRows
import GoSem.ClaimSeven
namespace Go.Proofs.YtolnnldmnljkbaaDoor
namespace Rows

/-- THE TIED CARD OF 'laws.FnExactItemCode'. -/
def fnExactItemCodeCard : Claim7 := { stood := { row := fnExactItemCodeRow, standIns := [], harness := (true, "a55b2c300434c8e0ed89be1332c2507c8d7a9386a0eda4f749a99302c0a16728"), looks := false }, kinds := [], alts := [], laidByText := true, laidKinds := [.data, .pinned], laidTests := true, laidLooks := .later }
def FnExactItemCodeCardSaid : Prop := Claim7.holds Tryd.pinned (.plain (OpenSpec.ofChange fnExactItemCodeSpec)) fnExactItemCodeCard

/-- THE TIED CARD OF 'laws.FnExactItemOf'. -/
def fnExactItemOfCard : Claim7 := { stood := { row := fnExactItemOfRow, standIns := [], harness := (true, "a55b2c300434c8e0ed89be1332c2507c8d7a9386a0eda4f749a99302c0a16728"), looks := false }, kinds := [], alts := [], laidByText := true, laidKinds := [.data, .pinned], laidTests := true, laidLooks := .later }
def FnExactItemOfCardSaid : Prop := Claim7.holds Tryd.pinned (.plain (OpenSpec.ofChange fnExactItemOfSpec)) fnExactItemOfCard

/-- THE TIED CARD OF 'laws.FnExactChangeItem'. -/
def fnExactChangeItemCard : Claim7 := { stood := { row := fnExactChangeItemRow, standIns := [], harness := (true, "a55b2c300434c8e0ed89be1332c2507c8d7a9386a0eda4f749a99302c0a16728"), looks := false }, kinds := [], alts := [], laidByText := true, laidKinds := [.data, .pinned], laidTests := true, laidLooks := .later }
def FnExactChangeItemCardSaid : Prop := Claim7.holds Tryd.pinned (.plain (OpenSpec.ofChange fnExactChangeItemSpec)) fnExactChangeItemCard

/-- THE TIED CARD OF 'laws.FnExactParityOf'. -/
def fnExactParityOfCard : Claim7 := { stood := { row := fnExactParityOfRow, standIns := [], harness := (true, "a55b2c300434c8e0ed89be1332c2507c8d7a9386a0eda4f749a99302c0a16728"), looks := false }, kinds := [], alts := [], laidByText := true, laidKinds := [.data, .pinned], laidTests := true, laidLooks := .later }
def FnExactParityOfCardSaid : Prop := Claim7.holds Tryd.pinned (.plain (OpenSpec.ofChange fnExactParityOfSpec)) fnExactParityOfCard

/-- THE TIED CARD OF 'laws.FnExactFitsParity'. -/
def fnExactFitsParityCard : Claim7 := { stood := { row := fnExactFitsParityRow, standIns := [], harness := (true, "a55b2c300434c8e0ed89be1332c2507c8d7a9386a0eda4f749a99302c0a16728"), looks := false }, kinds := [], alts := [], laidByText := true, laidKinds := [.data, .pinned], laidTests := true, laidLooks := .later }
def FnExactFitsParityCardSaid : Prop := Claim7.holds Tryd.pinned (.plain (OpenSpec.ofChange fnExactFitsParitySpec)) fnExactFitsParityCard

/-- THE TIED CARD OF 'laws.FnExactRecoverItem'. -/
def fnExactRecoverItemCard : Claim7 := { stood := { row := fnExactRecoverItemRow, standIns := [], harness := (true, "a55b2c300434c8e0ed89be1332c2507c8d7a9386a0eda4f749a99302c0a16728"), looks := false }, kinds := [], alts := [], laidByText := true, laidKinds := [.data, .pinned], laidTests := true, laidLooks := .later }
def FnExactRecoverItemCardSaid : Prop := Claim7.holds Tryd.pinned (.plain (OpenSpec.ofChange fnExactRecoverItemSpec)) fnExactRecoverItemCard

/-- THE TIED CARD OF 'laws.FnExactSuspectItems'. -/
def fnExactSuspectItemsCard : Claim7 := { stood := { row := fnExactSuspectItemsRow, standIns := [], harness := (true, "a55b2c300434c8e0ed89be1332c2507c8d7a9386a0eda4f749a99302c0a16728"), looks := false }, kinds := [], alts := [], laidByText := true, laidKinds := [.data, .pinned], laidTests := true, laidLooks := .later }
def FnExactSuspectItemsCardSaid : Prop := Claim7.holds Tryd.pinned (.plain (OpenSpec.ofChange fnExactSuspectItemsSpec)) fnExactSuspectItemsCard

/-- THE TIED CARD OF 'laws.FnCodes'. -/
def fnCodesCard : Claim7 := { stood := { row := fnCodesRow, standIns := [], harness := (true, "a55b2c300434c8e0ed89be1332c2507c8d7a9386a0eda4f749a99302c0a16728"), looks := false }, kinds := [], alts := [], laidByText := true, laidKinds := [.data, .pinned], laidTests := true, laidLooks := .later }
def FnCodesCardSaid : Prop := Claim7.holds Tryd.pinned (.plain (OpenSpec.ofChange fnCodesSpec)) fnCodesCard

/-- THE TIED CARD OF 'laws.FnRecovery'. -/
def fnRecoveryCard : Claim7 := { stood := { row := fnRecoveryRow, standIns := [], harness := (true, "a55b2c300434c8e0ed89be1332c2507c8d7a9386a0eda4f749a99302c0a16728"), looks := false }, kinds := [], alts := [], laidByText := true, laidKinds := [.data, .pinned], laidTests := true, laidLooks := .later }
def FnRecoveryCardSaid : Prop := Claim7.holds Tryd.pinned (.plain (OpenSpec.ofChange fnRecoverySpec)) fnRecoveryCard

/-- THE SECOND FORM's CARD OF 'laws.FnExactItemCode'. -/
def fnExactItemCodeUptoCard : Claim7 := { stood := { row := fnExactItemCodeUptoRow, standIns := [], harness := (true, "a55b2c300434c8e0ed89be1332c2507c8d7a9386a0eda4f749a99302c0a16728"), looks := false }, kinds := [], alts := [], laidByText := true, laidKinds := [.data, .pinned], laidTests := true, laidLooks := .later }
def FnExactItemCodeUptoCardSaid : Prop := Claim7.holds Tryd.pinned (.plain (OpenSpec.upto fnExactItemCodeSpec)) fnExactItemCodeUptoCard

/-- THE SECOND FORM's CARD OF 'laws.FnExactItemOf'. -/
def fnExactItemOfUptoCard : Claim7 := { stood := { row := fnExactItemOfUptoRow, standIns := [], harness := (true, "a55b2c300434c8e0ed89be1332c2507c8d7a9386a0eda4f749a99302c0a16728"), looks := false }, kinds := [], alts := [], laidByText := true, laidKinds := [.data, .pinned], laidTests := true, laidLooks := .later }
def FnExactItemOfUptoCardSaid : Prop := Claim7.holds Tryd.pinned (.plain (OpenSpec.upto fnExactItemOfSpec)) fnExactItemOfUptoCard

/-- THE SECOND FORM's CARD OF 'laws.FnExactChangeItem'. -/
def fnExactChangeItemUptoCard : Claim7 := { stood := { row := fnExactChangeItemUptoRow, standIns := [], harness := (true, "a55b2c300434c8e0ed89be1332c2507c8d7a9386a0eda4f749a99302c0a16728"), looks := false }, kinds := [], alts := [], laidByText := true, laidKinds := [.data, .pinned], laidTests := true, laidLooks := .later }
def FnExactChangeItemUptoCardSaid : Prop := Claim7.holds Tryd.pinned (.plain (OpenSpec.upto fnExactChangeItemSpec)) fnExactChangeItemUptoCard

/-- THE SECOND FORM's CARD OF 'laws.FnExactParityOf'. -/
def fnExactParityOfUptoCard : Claim7 := { stood := { row := fnExactParityOfUptoRow, standIns := [], harness := (true, "a55b2c300434c8e0ed89be1332c2507c8d7a9386a0eda4f749a99302c0a16728"), looks := false }, kinds := [], alts := [], laidByText := true, laidKinds := [.data, .pinned], laidTests := true, laidLooks := .later }
def FnExactParityOfUptoCardSaid : Prop := Claim7.holds Tryd.pinned (.plain (OpenSpec.upto fnExactParityOfSpec)) fnExactParityOfUptoCard

/-- THE SECOND FORM's CARD OF 'laws.FnExactFitsParity'. -/
def fnExactFitsParityUptoCard : Claim7 := { stood := { row := fnExactFitsParityUptoRow, standIns := [], harness := (true, "a55b2c300434c8e0ed89be1332c2507c8d7a9386a0eda4f749a99302c0a16728"), looks := false }, kinds := [], alts := [], laidByText := true, laidKinds := [.data, .pinned], laidTests := true, laidLooks := .later }
def FnExactFitsParityUptoCardSaid : Prop := Claim7.holds Tryd.pinned (.plain (OpenSpec.upto fnExactFitsParitySpec)) fnExactFitsParityUptoCard

/-- THE SECOND FORM's CARD OF 'laws.FnExactRecoverItem'. -/
def fnExactRecoverItemUptoCard : Claim7 := { stood := { row := fnExactRecoverItemUptoRow, standIns := [], harness := (true, "a55b2c300434c8e0ed89be1332c2507c8d7a9386a0eda4f749a99302c0a16728"), looks := false }, kinds := [], alts := [], laidByText := true, laidKinds := [.data, .pinned], laidTests := true, laidLooks := .later }
def FnExactRecoverItemUptoCardSaid : Prop := Claim7.holds Tryd.pinned (.plain (OpenSpec.upto fnExactRecoverItemSpec)) fnExactRecoverItemUptoCard

/-- THE SECOND FORM's CARD OF 'laws.FnExactSuspectItems'. -/
def fnExactSuspectItemsUptoCard : Claim7 := { stood := { row := fnExactSuspectItemsUptoRow, standIns := [], harness := (true, "a55b2c300434c8e0ed89be1332c2507c8d7a9386a0eda4f749a99302c0a16728"), looks := false }, kinds := [], alts := [], laidByText := true, laidKinds := [.data, .pinned], laidTests := true, laidLooks := .later }
def FnExactSuspectItemsUptoCardSaid : Prop := Claim7.holds Tryd.pinned (.plain (OpenSpec.upto fnExactSuspectItemsSpec)) fnExactSuspectItemsUptoCard

/-- THE SECOND FORM's CARD OF 'laws.FnCodes'. -/
def fnCodesUptoCard : Claim7 := { stood := { row := fnCodesUptoRow, standIns := [], harness := (true, "a55b2c300434c8e0ed89be1332c2507c8d7a9386a0eda4f749a99302c0a16728"), looks := false }, kinds := [], alts := [], laidByText := true, laidKinds := [.data, .pinned], laidTests := true, laidLooks := .later }
def FnCodesUptoCardSaid : Prop := Claim7.holds Tryd.pinned (.plain (OpenSpec.upto fnCodesSpec)) fnCodesUptoCard

/-- THE SECOND FORM's CARD OF 'laws.FnRecovery'. -/
def fnRecoveryUptoCard : Claim7 := { stood := { row := fnRecoveryUptoRow, standIns := [], harness := (true, "a55b2c300434c8e0ed89be1332c2507c8d7a9386a0eda4f749a99302c0a16728"), looks := false }, kinds := [], alts := [], laidByText := true, laidKinds := [.data, .pinned], laidTests := true, laidLooks := .later }
def FnRecoveryUptoCardSaid : Prop := Claim7.holds Tryd.pinned (.plain (OpenSpec.upto fnRecoverySpec)) fnRecoveryUptoCard
end Rows
end Go.Proofs.YtolnnldmnljkbaaDoor
