/-
  DERIVED. GIVEN WITH THE SEED: THE CARDS: each row of YtfahaejohbmbpaaGreatDoorRows.lean that lists a variable, with what it lists TIED to the program's text (the seventh form; the later family's looks); each row that meets fmt, with fmt's text TOLD by the authors' own Lean function (tested against real Go, not proved from fmt's source: count such statements apart). THE CARD IS WHAT COUNTS. Prove the row's statement (the work); the ties are given (YtfahaejohbmbpaaGreatDoorTie.lean); close each card by the builder's one call (the guide's Derived/Test/ToyasCard.lean, 'card_holds'). Laid BY PROGRAM, IN A SANDBOX (cutbox-door.mjs). By AI agents, Wed Nov 11 2026. No macro, syntax, notation, axiom, sorry.
-/
import Derived.Test.YtfahaejohbmbpaaGreatDoorRows
import GoSem.ClaimSeven
namespace Go.Proofs.YtfahaejohbmbpaaGreatDoor
namespace Rows

/-- THE TIED CARD OF 'amnesialaw11.ChangeChoice'. -/
def changeChoiceCard : Claim7 := { stood := { row := changeChoiceRow, standIns := [], harness := (true, "a88df7db376be727f6c978127cb0b8e0113d1ce9ea59cdb81535aa71d42e00ec"), looks := false }, kinds := [], alts := [], laidByText := true, laidKinds := [.data], laidTests := true, laidLooks := .later }
def ChangeChoiceCardSaid : Prop := Claim7.holds Tryz.pinned (.plain (OpenSpec.ofChange changeChoiceSpec)) changeChoiceCard

/-- THE TIED CARD OF 'amnesialaw11.ChangeCounts'. -/
def changeCountsCard : Claim7 := { stood := { row := changeCountsRow, standIns := [], harness := (true, "a88df7db376be727f6c978127cb0b8e0113d1ce9ea59cdb81535aa71d42e00ec"), looks := false }, kinds := [], alts := [], laidByText := true, laidKinds := [.data], laidTests := true, laidLooks := .later }
def ChangeCountsCardSaid : Prop := Claim7.holds Tryz.pinned (.plain (OpenSpec.ofChange changeCountsSpec)) changeCountsCard

/-- THE TIED CARD OF 'amnesialaw11.ChangeStands'. -/
def changeStandsCard : Claim7 := { stood := { row := changeStandsRow, standIns := [], harness := (true, "a88df7db376be727f6c978127cb0b8e0113d1ce9ea59cdb81535aa71d42e00ec"), looks := false }, kinds := [], alts := [], laidByText := true, laidKinds := [.data], laidTests := true, laidLooks := .later }
def ChangeStandsCardSaid : Prop := Claim7.holds Tryz.pinned (.plain (OpenSpec.ofChange changeStandsSpec)) changeStandsCard

/-- THE SECOND FORM's CARD OF 'amnesialaw11.ChangeChoice'. -/
def changeChoiceUptoCard : Claim7 := { stood := { row := changeChoiceUptoRow, standIns := [], harness := (true, "a88df7db376be727f6c978127cb0b8e0113d1ce9ea59cdb81535aa71d42e00ec"), looks := false }, kinds := [], alts := [], laidByText := true, laidKinds := [.data], laidTests := true, laidLooks := .later }
def ChangeChoiceUptoCardSaid : Prop := Claim7.holds Tryz.pinned (.plain (OpenSpec.upto changeChoiceSpec)) changeChoiceUptoCard

/-- THE SECOND FORM's CARD OF 'amnesialaw11.ChangeCounts'. -/
def changeCountsUptoCard : Claim7 := { stood := { row := changeCountsUptoRow, standIns := [], harness := (true, "a88df7db376be727f6c978127cb0b8e0113d1ce9ea59cdb81535aa71d42e00ec"), looks := false }, kinds := [], alts := [], laidByText := true, laidKinds := [.data], laidTests := true, laidLooks := .later }
def ChangeCountsUptoCardSaid : Prop := Claim7.holds Tryz.pinned (.plain (OpenSpec.upto changeCountsSpec)) changeCountsUptoCard

/-- THE SECOND FORM's CARD OF 'amnesialaw11.ChangeStands'. -/
def changeStandsUptoCard : Claim7 := { stood := { row := changeStandsUptoRow, standIns := [], harness := (true, "a88df7db376be727f6c978127cb0b8e0113d1ce9ea59cdb81535aa71d42e00ec"), looks := false }, kinds := [], alts := [], laidByText := true, laidKinds := [.data], laidTests := true, laidLooks := .later }
def ChangeStandsUptoCardSaid : Prop := Claim7.holds Tryz.pinned (.plain (OpenSpec.upto changeStandsSpec)) changeStandsUptoCard
end Rows
end Go.Proofs.YtfahaejohbmbpaaGreatDoor
