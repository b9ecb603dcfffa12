/-
  DERIVED. GIVEN WITH THE SEED: THE CARDS: each row of YthjklcodgcojbaaDoorRows.lean that lists a variable, with what it lists TIED to the program's text (the seventh form; the later family's looks); each row that meets fmt, with fmt's text TOLD by the authors' own Lean function (tested against real Go, not proved from fmt's source: count such statements apart). THE CARD IS WHAT COUNTS. Prove the row's statement (the work); the ties are given (YthjklcodgcojbaaDoorTie.lean); close each card by the builder's one call (the guide's Derived/Test/ToyasCard.lean, 'card_holds'). Laid BY PROGRAM, IN A SANDBOX (cutbox-door.mjs). By AI agents, Wed Nov 11 2026. No macro, syntax, notation, axiom, sorry.
-/
import Derived.Test.YthjklcodgcojbaaDoorRows
import GoSem.ClaimSeven
namespace Go.Proofs.YthjklcodgcojbaaDoor
namespace Rows

/-- THE TIED CARD OF 'laws.FnExactSharedMembers'. -/
def fnExactSharedMembersCard : Claim7 := { stood := { row := fnExactSharedMembersRow, standIns := [], harness := (true, "d98e5ea9d9d979f90cee05b80b49c8468416582bf15d8a58d4a96a3bf1021c7b"), looks := true }, kinds := [], alts := [], laidByText := true, laidKinds := [.data, .pinned], laidTests := true, laidLooks := .later }
def FnExactSharedMembersCardSaid : Prop := Claim7.holds Tryd.pinned (.plain (OpenSpec.ofChange fnExactSharedMembersSpec)) fnExactSharedMembersCard

/-- THE TIED CARD OF 'laws.FnExactLeaveGroup'. -/
def fnExactLeaveGroupCard : Claim7 := { stood := { row := fnExactLeaveGroupRow, standIns := [], harness := (true, "d98e5ea9d9d979f90cee05b80b49c8468416582bf15d8a58d4a96a3bf1021c7b"), looks := true }, kinds := [], alts := [], laidByText := true, laidKinds := [.data, .pinned], laidTests := true, laidLooks := .later }
def FnExactLeaveGroupCardSaid : Prop := Claim7.holds Tryd.pinned (.plain (OpenSpec.ofChange fnExactLeaveGroupSpec)) fnExactLeaveGroupCard

/-- THE TIED CARD OF 'laws.FnExactNodesFor'. -/
def fnExactNodesForCard : Claim7 := { stood := { row := fnExactNodesForRow, standIns := [], harness := (true, "d98e5ea9d9d979f90cee05b80b49c8468416582bf15d8a58d4a96a3bf1021c7b"), looks := true }, kinds := [], alts := [], laidByText := true, laidKinds := [.data, .pinned], laidTests := true, laidLooks := .later }
def FnExactNodesForCardSaid : Prop := Claim7.holds Tryd.pinned (.plain (OpenSpec.ofChange fnExactNodesForSpec)) fnExactNodesForCard

/-- THE TIED CARD OF 'laws.FnExactGroupText'. -/
def fnExactGroupTextCard : Claim7 := { stood := { row := fnExactGroupTextRow, standIns := [], harness := (true, "d98e5ea9d9d979f90cee05b80b49c8468416582bf15d8a58d4a96a3bf1021c7b"), looks := true }, kinds := [], alts := [], laidByText := true, laidKinds := [.data, .data, .data, .data, .pinned], laidTests := true, laidLooks := .later }
def FnExactGroupTextCardSaid : Prop := Claim7.holds Tryd.pinned (.plain (OpenSpec.ofChange fnExactGroupTextSpec)) fnExactGroupTextCard

/-- THE TIED CARD OF 'laws.FnExactBranchesFor'. -/
def fnExactBranchesForCard : Claim7 := { stood := { row := fnExactBranchesForRow, standIns := [], harness := (true, "d98e5ea9d9d979f90cee05b80b49c8468416582bf15d8a58d4a96a3bf1021c7b"), looks := true }, kinds := [], alts := [], laidByText := true, laidKinds := [.data, .pinned], laidTests := true, laidLooks := .later }
def FnExactBranchesForCardSaid : Prop := Claim7.holds Tryd.pinned (.plain (OpenSpec.ofChange fnExactBranchesForSpec)) fnExactBranchesForCard

/-- THE TIED CARD OF 'laws.FnExactMergeGroups'. -/
def fnExactMergeGroupsCard : Claim7 := { stood := { row := fnExactMergeGroupsRow, standIns := [], harness := (true, "d98e5ea9d9d979f90cee05b80b49c8468416582bf15d8a58d4a96a3bf1021c7b"), looks := true }, kinds := [], alts := [], laidByText := true, laidKinds := [.data, .pinned], laidTests := true, laidLooks := .later }
def FnExactMergeGroupsCardSaid : Prop := Claim7.holds Tryd.pinned (.plain (OpenSpec.ofChange fnExactMergeGroupsSpec)) fnExactMergeGroupsCard

/-- THE TIED CARD OF 'laws.FnExactJoinGroup'. -/
def fnExactJoinGroupCard : Claim7 := { stood := { row := fnExactJoinGroupRow, standIns := [], harness := (true, "d98e5ea9d9d979f90cee05b80b49c8468416582bf15d8a58d4a96a3bf1021c7b"), looks := true }, kinds := [], alts := [], laidByText := true, laidKinds := [.data, .pinned], laidTests := true, laidLooks := .later }
def FnExactJoinGroupCardSaid : Prop := Claim7.holds Tryd.pinned (.plain (OpenSpec.ofChange fnExactJoinGroupSpec)) fnExactJoinGroupCard

/-- THE TIED CARD OF 'laws.FnExactParseGroup'. -/
def fnExactParseGroupCard : Claim7 := { stood := { row := fnExactParseGroupRow, standIns := [], harness := (true, "d98e5ea9d9d979f90cee05b80b49c8468416582bf15d8a58d4a96a3bf1021c7b"), looks := true }, kinds := [], alts := [], laidByText := true, laidKinds := [.data, .data, .data, .data, .sentinel, .sentinel, .pinned], laidTests := true, laidLooks := .later }
def FnExactParseGroupCardSaid : Prop := Claim7.holds Tryd.pinned (.plain (OpenSpec.ofChange fnExactParseGroupSpec)) fnExactParseGroupCard

/-- THE SECOND FORM's CARD OF 'laws.FnExactSharedMembers'. -/
def fnExactSharedMembersUptoCard : Claim7 := { stood := { row := fnExactSharedMembersUptoRow, standIns := [], harness := (true, "d98e5ea9d9d979f90cee05b80b49c8468416582bf15d8a58d4a96a3bf1021c7b"), looks := true }, kinds := [], alts := [], laidByText := true, laidKinds := [.data, .pinned], laidTests := true, laidLooks := .later }
def FnExactSharedMembersUptoCardSaid : Prop := Claim7.holds Tryd.pinned (.plain (OpenSpec.upto fnExactSharedMembersSpec)) fnExactSharedMembersUptoCard

/-- THE SECOND FORM's CARD OF 'laws.FnExactLeaveGroup'. -/
def fnExactLeaveGroupUptoCard : Claim7 := { stood := { row := fnExactLeaveGroupUptoRow, standIns := [], harness := (true, "d98e5ea9d9d979f90cee05b80b49c8468416582bf15d8a58d4a96a3bf1021c7b"), looks := true }, kinds := [], alts := [], laidByText := true, laidKinds := [.data, .pinned], laidTests := true, laidLooks := .later }
def FnExactLeaveGroupUptoCardSaid : Prop := Claim7.holds Tryd.pinned (.plain (OpenSpec.upto fnExactLeaveGroupSpec)) fnExactLeaveGroupUptoCard

/-- THE SECOND FORM's CARD OF 'laws.FnExactNodesFor'. -/
def fnExactNodesForUptoCard : Claim7 := { stood := { row := fnExactNodesForUptoRow, standIns := [], harness := (true, "d98e5ea9d9d979f90cee05b80b49c8468416582bf15d8a58d4a96a3bf1021c7b"), looks := true }, kinds := [], alts := [], laidByText := true, laidKinds := [.data, .pinned], laidTests := true, laidLooks := .later }
def FnExactNodesForUptoCardSaid : Prop := Claim7.holds Tryd.pinned (.plain (OpenSpec.upto fnExactNodesForSpec)) fnExactNodesForUptoCard

/-- THE SECOND FORM's CARD OF 'laws.FnExactGroupText'. -/
def fnExactGroupTextUptoCard : Claim7 := { stood := { row := fnExactGroupTextUptoRow, standIns := [], harness := (true, "d98e5ea9d9d979f90cee05b80b49c8468416582bf15d8a58d4a96a3bf1021c7b"), looks := true }, kinds := [], alts := [], laidByText := true, laidKinds := [.data, .data, .data, .data, .pinned], laidTests := true, laidLooks := .later }
def FnExactGroupTextUptoCardSaid : Prop := Claim7.holds Tryd.pinned (.plain (OpenSpec.upto fnExactGroupTextSpec)) fnExactGroupTextUptoCard

/-- THE SECOND FORM's CARD OF 'laws.FnExactBranchesFor'. -/
def fnExactBranchesForUptoCard : Claim7 := { stood := { row := fnExactBranchesForUptoRow, standIns := [], harness := (true, "d98e5ea9d9d979f90cee05b80b49c8468416582bf15d8a58d4a96a3bf1021c7b"), looks := true }, kinds := [], alts := [], laidByText := true, laidKinds := [.data, .pinned], laidTests := true, laidLooks := .later }
def FnExactBranchesForUptoCardSaid : Prop := Claim7.holds Tryd.pinned (.plain (OpenSpec.upto fnExactBranchesForSpec)) fnExactBranchesForUptoCard

/-- THE SECOND FORM's CARD OF 'laws.FnExactMergeGroups'. -/
def fnExactMergeGroupsUptoCard : Claim7 := { stood := { row := fnExactMergeGroupsUptoRow, standIns := [], harness := (true, "d98e5ea9d9d979f90cee05b80b49c8468416582bf15d8a58d4a96a3bf1021c7b"), looks := true }, kinds := [], alts := [], laidByText := true, laidKinds := [.data, .pinned], laidTests := true, laidLooks := .later }
def FnExactMergeGroupsUptoCardSaid : Prop := Claim7.holds Tryd.pinned (.plain (OpenSpec.upto fnExactMergeGroupsSpec)) fnExactMergeGroupsUptoCard

/-- THE SECOND FORM's CARD OF 'laws.FnExactJoinGroup'. -/
def fnExactJoinGroupUptoCard : Claim7 := { stood := { row := fnExactJoinGroupUptoRow, standIns := [], harness := (true, "d98e5ea9d9d979f90cee05b80b49c8468416582bf15d8a58d4a96a3bf1021c7b"), looks := true }, kinds := [], alts := [], laidByText := true, laidKinds := [.data, .pinned], laidTests := true, laidLooks := .later }
def FnExactJoinGroupUptoCardSaid : Prop := Claim7.holds Tryd.pinned (.plain (OpenSpec.upto fnExactJoinGroupSpec)) fnExactJoinGroupUptoCard

/-- THE SECOND FORM's CARD OF 'laws.FnExactParseGroup'. -/
def fnExactParseGroupUptoCard : Claim7 := { stood := { row := fnExactParseGroupUptoRow, standIns := [], harness := (true, "d98e5ea9d9d979f90cee05b80b49c8468416582bf15d8a58d4a96a3bf1021c7b"), looks := true }, kinds := [], alts := [], laidByText := true, laidKinds := [.data, .data, .data, .data, .sentinel, .sentinel, .pinned], laidTests := true, laidLooks := .later }
def FnExactParseGroupUptoCardSaid : Prop := Claim7.holds Tryd.pinned (.plain (OpenSpec.upto fnExactParseGroupSpec)) fnExactParseGroupUptoCard
end Rows
end Go.Proofs.YthjklcodgcojbaaDoor
