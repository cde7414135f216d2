/-
  DERIVED. GIVEN WITH THE SEED: THE CARDS: each row of YticchmjgonkcjaaGreatDoorRows.lean that lists a variable, with what it lists TIED to the program's text (the seventh form; the later family's looks); each row that meets fmt, with fmt's text TOLD by the authors' own Lean function (tested against real Go, not proved from fmt's source: count such statements apart). THE CARD IS WHAT COUNTS. Prove the row's statement (the work); the ties are given (YticchmjgonkcjaaGreatDoorTie.lean); close each card by the builder's one call (the guide's Derived/Test/ToyasCard.lean, 'card_holds'). Laid BY PROGRAM, IN A SANDBOX (cutbox-door.mjs). By AI agents, Wed Nov 11 2026. No macro, syntax, notation, axiom, sorry.
-/
import Derived.Test.YticchmjgonkcjaaGreatDoorRows
import GoSem.ClaimSeven
namespace Go.Proofs.YticchmjgonkcjaaGreatDoor
namespace Rows

/-- THE TIED CARD OF 'amnesialaw11.ChangeStarts'. -/
def changeStartsCard : Claim7 := { stood := { row := changeStartsRow, standIns := [], harness := (true, "7eeb005192228e6b56ffc3cbd6bbb4b29041159ad67741faeeedeb48a66c23ad"), looks := false }, kinds := [], alts := [], laidByText := true, laidKinds := [.data], laidTests := true, laidLooks := .later }
def ChangeStartsCardSaid : Prop := Claim7.holds Tryz.pinned (.plain (OpenSpec.ofChange changeStartsSpec)) changeStartsCard

/-- THE TIED CARD OF 'amnesialaw11.ChangeVotes'. -/
def changeVotesCard : Claim7 := { stood := { row := changeVotesRow, standIns := [], harness := (true, "7eeb005192228e6b56ffc3cbd6bbb4b29041159ad67741faeeedeb48a66c23ad"), looks := false }, kinds := [], alts := [], laidByText := true, laidKinds := [.data], laidTests := true, laidLooks := .later }
def ChangeVotesCardSaid : Prop := Claim7.holds Tryz.pinned (.plain (OpenSpec.ofChange changeVotesSpec)) changeVotesCard

/-- THE TIED CARD OF 'amnesialaw11.ChangeInstalls'. -/
def changeInstallsCard : Claim7 := { stood := { row := changeInstallsRow, standIns := [], harness := (true, "7eeb005192228e6b56ffc3cbd6bbb4b29041159ad67741faeeedeb48a66c23ad"), looks := false }, kinds := [], alts := [], laidByText := true, laidKinds := [.data], laidTests := true, laidLooks := .later }
def ChangeInstallsCardSaid : Prop := Claim7.holds Tryz.pinned (.plain (OpenSpec.ofChange changeInstallsSpec)) changeInstallsCard

/-- THE TIED CARD OF 'amnesialaw11.ChangeSuspects'. -/
def changeSuspectsCard : Claim7 := { stood := { row := changeSuspectsRow, standIns := [], harness := (true, "7eeb005192228e6b56ffc3cbd6bbb4b29041159ad67741faeeedeb48a66c23ad"), looks := false }, kinds := [], alts := [], laidByText := true, laidKinds := [.data], laidTests := true, laidLooks := .later }
def ChangeSuspectsCardSaid : Prop := Claim7.holds Tryz.pinned (.plain (OpenSpec.ofChange changeSuspectsSpec)) changeSuspectsCard

/-- THE SECOND FORM's CARD OF 'amnesialaw11.ChangeStarts'. -/
def changeStartsUptoCard : Claim7 := { stood := { row := changeStartsUptoRow, standIns := [], harness := (true, "7eeb005192228e6b56ffc3cbd6bbb4b29041159ad67741faeeedeb48a66c23ad"), looks := false }, kinds := [], alts := [], laidByText := true, laidKinds := [.data], laidTests := true, laidLooks := .later }
def ChangeStartsUptoCardSaid : Prop := Claim7.holds Tryz.pinned (.plain (OpenSpec.upto changeStartsSpec)) changeStartsUptoCard

/-- THE SECOND FORM's CARD OF 'amnesialaw11.ChangeVotes'. -/
def changeVotesUptoCard : Claim7 := { stood := { row := changeVotesUptoRow, standIns := [], harness := (true, "7eeb005192228e6b56ffc3cbd6bbb4b29041159ad67741faeeedeb48a66c23ad"), looks := false }, kinds := [], alts := [], laidByText := true, laidKinds := [.data], laidTests := true, laidLooks := .later }
def ChangeVotesUptoCardSaid : Prop := Claim7.holds Tryz.pinned (.plain (OpenSpec.upto changeVotesSpec)) changeVotesUptoCard

/-- THE SECOND FORM's CARD OF 'amnesialaw11.ChangeInstalls'. -/
def changeInstallsUptoCard : Claim7 := { stood := { row := changeInstallsUptoRow, standIns := [], harness := (true, "7eeb005192228e6b56ffc3cbd6bbb4b29041159ad67741faeeedeb48a66c23ad"), looks := false }, kinds := [], alts := [], laidByText := true, laidKinds := [.data], laidTests := true, laidLooks := .later }
def ChangeInstallsUptoCardSaid : Prop := Claim7.holds Tryz.pinned (.plain (OpenSpec.upto changeInstallsSpec)) changeInstallsUptoCard

/-- THE SECOND FORM's CARD OF 'amnesialaw11.ChangeSuspects'. -/
def changeSuspectsUptoCard : Claim7 := { stood := { row := changeSuspectsUptoRow, standIns := [], harness := (true, "7eeb005192228e6b56ffc3cbd6bbb4b29041159ad67741faeeedeb48a66c23ad"), looks := false }, kinds := [], alts := [], laidByText := true, laidKinds := [.data], laidTests := true, laidLooks := .later }
def ChangeSuspectsUptoCardSaid : Prop := Claim7.holds Tryz.pinned (.plain (OpenSpec.upto changeSuspectsSpec)) changeSuspectsUptoCard
end Rows
end Go.Proofs.YticchmjgonkcjaaGreatDoor
