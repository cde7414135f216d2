/-
  DERIVED. GIVEN WITH THE SEED: THE CARDS: each row of YtfoglingdnhjpaaGreatDoorRows.lean that lists a variable, with what it lists TIED to the program's text (the seventh form; the later family's looks); each row that meets fmt, with fmt's text TOLD by the authors' own Lean function (tested against real Go, not proved from fmt's source: count such statements apart). THE CARD IS WHAT COUNTS. Prove the row's statement (the work); the ties are given (YtfoglingdnhjpaaGreatDoorTie.lean); close each card by the builder's one call (the guide's Derived/Test/ToyasCard.lean, 'card_holds'). Laid BY PROGRAM, IN A SANDBOX (cutbox-door.mjs). By AI agents, Wed Nov 11 2026. No macro, syntax, notation, axiom, sorry.
-/
import Derived.Test.YtfoglingdnhjpaaGreatDoorRows
import GoSem.ClaimSeven
namespace Go.Proofs.YtfoglingdnhjpaaGreatDoor
namespace Rows

/-- THE TIED CARD OF 'amnesialaw12.RejoinStarts'. -/
def rejoinStartsCard : Claim7 := { stood := { row := rejoinStartsRow, standIns := [], harness := (true, "1a8e84d8162b88230fb7aa2e74d3ff89d2e4424a73fa4f16a536346395c9d1b4"), looks := true }, kinds := [], alts := [], laidByText := true, laidKinds := [.data], laidTests := true, laidLooks := .later }
def RejoinStartsCardSaid : Prop := Claim7.holds Tryz.pinned (.plain (OpenSpec.ofChange rejoinStartsSpec)) rejoinStartsCard

/-- THE TIED CARD OF 'amnesialaw12.RejoinRecoveries'. -/
def rejoinRecoveriesCard : Claim7 := { stood := { row := rejoinRecoveriesRow, standIns := [], harness := (true, "1a8e84d8162b88230fb7aa2e74d3ff89d2e4424a73fa4f16a536346395c9d1b4"), looks := true }, kinds := [], alts := [], laidByText := true, laidKinds := [.data], laidTests := true, laidLooks := .later }
def RejoinRecoveriesCardSaid : Prop := Claim7.holds Tryz.pinned (.plain (OpenSpec.ofChange rejoinRecoveriesSpec)) rejoinRecoveriesCard

/-- THE TIED CARD OF 'amnesialaw12.RejoinResponses'. -/
def rejoinResponsesCard : Claim7 := { stood := { row := rejoinResponsesRow, standIns := [], harness := (true, "1a8e84d8162b88230fb7aa2e74d3ff89d2e4424a73fa4f16a536346395c9d1b4"), looks := true }, kinds := [], alts := [], laidByText := true, laidKinds := [.data], laidTests := true, laidLooks := .later }
def RejoinResponsesCardSaid : Prop := Claim7.holds Tryz.pinned (.plain (OpenSpec.ofChange rejoinResponsesSpec)) rejoinResponsesCard

/-- THE TIED CARD OF 'amnesialaw12.RejoinKnows'. -/
def rejoinKnowsCard : Claim7 := { stood := { row := rejoinKnowsRow, standIns := [], harness := (true, "1a8e84d8162b88230fb7aa2e74d3ff89d2e4424a73fa4f16a536346395c9d1b4"), looks := true }, kinds := [], alts := [], laidByText := true, laidKinds := [.data], laidTests := true, laidLooks := .later }
def RejoinKnowsCardSaid : Prop := Claim7.holds Tryz.pinned (.plain (OpenSpec.ofChange rejoinKnowsSpec)) rejoinKnowsCard

/-- THE TIED CARD OF 'amnesialaw12.RejoinGets'. -/
def rejoinGetsCard : Claim7 := { stood := { row := rejoinGetsRow, standIns := [], harness := (true, "1a8e84d8162b88230fb7aa2e74d3ff89d2e4424a73fa4f16a536346395c9d1b4"), looks := true }, kinds := [], alts := [], laidByText := true, laidKinds := [.data], laidTests := true, laidLooks := .later }
def RejoinGetsCardSaid : Prop := Claim7.holds Tryz.pinned (.plain (OpenSpec.ofChange rejoinGetsSpec)) rejoinGetsCard

/-- THE TIED CARD OF 'amnesialaw12.RejoinNews'. -/
def rejoinNewsCard : Claim7 := { stood := { row := rejoinNewsRow, standIns := [], harness := (true, "1a8e84d8162b88230fb7aa2e74d3ff89d2e4424a73fa4f16a536346395c9d1b4"), looks := true }, kinds := [], alts := [], laidByText := true, laidKinds := [.data], laidTests := true, laidLooks := .later }
def RejoinNewsCardSaid : Prop := Claim7.holds Tryz.pinned (.plain (OpenSpec.ofChange rejoinNewsSpec)) rejoinNewsCard

/-- THE TIED CARD OF 'amnesialaw12.RejoinMay'. -/
def rejoinMayCard : Claim7 := { stood := { row := rejoinMayRow, standIns := [], harness := (true, "1a8e84d8162b88230fb7aa2e74d3ff89d2e4424a73fa4f16a536346395c9d1b4"), looks := true }, kinds := [], alts := [], laidByText := true, laidKinds := [.data], laidTests := true, laidLooks := .later }
def RejoinMayCardSaid : Prop := Claim7.holds Tryz.pinned (.plain (OpenSpec.ofChange rejoinMaySpec)) rejoinMayCard

/-- THE TIED CARD OF 'amnesialaw12.RejoinTransfers'. -/
def rejoinTransfersCard : Claim7 := { stood := { row := rejoinTransfersRow, standIns := [], harness := (true, "1a8e84d8162b88230fb7aa2e74d3ff89d2e4424a73fa4f16a536346395c9d1b4"), looks := true }, kinds := [], alts := [], laidByText := true, laidKinds := [.data], laidTests := true, laidLooks := .later }
def RejoinTransfersCardSaid : Prop := Claim7.holds Tryz.pinned (.plain (OpenSpec.ofChange rejoinTransfersSpec)) rejoinTransfersCard

/-- THE TIED CARD OF 'amnesialaw12.RejoinAsks'. -/
def rejoinAsksCard : Claim7 := { stood := { row := rejoinAsksRow, standIns := [], harness := (true, "1a8e84d8162b88230fb7aa2e74d3ff89d2e4424a73fa4f16a536346395c9d1b4"), looks := true }, kinds := [], alts := [], laidByText := true, laidKinds := [.data], laidTests := true, laidLooks := .later }
def RejoinAsksCardSaid : Prop := Claim7.holds Tryz.pinned (.plain (OpenSpec.ofChange rejoinAsksSpec)) rejoinAsksCard

/-- THE TIED CARD OF 'amnesialaw12.RejoinMute'. -/
def rejoinMuteCard : Claim7 := { stood := { row := rejoinMuteRow, standIns := [], harness := (true, "1a8e84d8162b88230fb7aa2e74d3ff89d2e4424a73fa4f16a536346395c9d1b4"), looks := true }, kinds := [], alts := [], laidByText := true, laidKinds := [.data], laidTests := true, laidLooks := .later }
def RejoinMuteCardSaid : Prop := Claim7.holds Tryz.pinned (.plain (OpenSpec.ofChange rejoinMuteSpec)) rejoinMuteCard

/-- THE SECOND FORM's CARD OF 'amnesialaw12.RejoinStarts'. -/
def rejoinStartsUptoCard : Claim7 := { stood := { row := rejoinStartsUptoRow, standIns := [], harness := (true, "1a8e84d8162b88230fb7aa2e74d3ff89d2e4424a73fa4f16a536346395c9d1b4"), looks := true }, kinds := [], alts := [], laidByText := true, laidKinds := [.data], laidTests := true, laidLooks := .later }
def RejoinStartsUptoCardSaid : Prop := Claim7.holds Tryz.pinned (.plain (OpenSpec.upto rejoinStartsSpec)) rejoinStartsUptoCard

/-- THE SECOND FORM's CARD OF 'amnesialaw12.RejoinRecoveries'. -/
def rejoinRecoveriesUptoCard : Claim7 := { stood := { row := rejoinRecoveriesUptoRow, standIns := [], harness := (true, "1a8e84d8162b88230fb7aa2e74d3ff89d2e4424a73fa4f16a536346395c9d1b4"), looks := true }, kinds := [], alts := [], laidByText := true, laidKinds := [.data], laidTests := true, laidLooks := .later }
def RejoinRecoveriesUptoCardSaid : Prop := Claim7.holds Tryz.pinned (.plain (OpenSpec.upto rejoinRecoveriesSpec)) rejoinRecoveriesUptoCard

/-- THE SECOND FORM's CARD OF 'amnesialaw12.RejoinResponses'. -/
def rejoinResponsesUptoCard : Claim7 := { stood := { row := rejoinResponsesUptoRow, standIns := [], harness := (true, "1a8e84d8162b88230fb7aa2e74d3ff89d2e4424a73fa4f16a536346395c9d1b4"), looks := true }, kinds := [], alts := [], laidByText := true, laidKinds := [.data], laidTests := true, laidLooks := .later }
def RejoinResponsesUptoCardSaid : Prop := Claim7.holds Tryz.pinned (.plain (OpenSpec.upto rejoinResponsesSpec)) rejoinResponsesUptoCard

/-- THE SECOND FORM's CARD OF 'amnesialaw12.RejoinKnows'. -/
def rejoinKnowsUptoCard : Claim7 := { stood := { row := rejoinKnowsUptoRow, standIns := [], harness := (true, "1a8e84d8162b88230fb7aa2e74d3ff89d2e4424a73fa4f16a536346395c9d1b4"), looks := true }, kinds := [], alts := [], laidByText := true, laidKinds := [.data], laidTests := true, laidLooks := .later }
def RejoinKnowsUptoCardSaid : Prop := Claim7.holds Tryz.pinned (.plain (OpenSpec.upto rejoinKnowsSpec)) rejoinKnowsUptoCard

/-- THE SECOND FORM's CARD OF 'amnesialaw12.RejoinGets'. -/
def rejoinGetsUptoCard : Claim7 := { stood := { row := rejoinGetsUptoRow, standIns := [], harness := (true, "1a8e84d8162b88230fb7aa2e74d3ff89d2e4424a73fa4f16a536346395c9d1b4"), looks := true }, kinds := [], alts := [], laidByText := true, laidKinds := [.data], laidTests := true, laidLooks := .later }
def RejoinGetsUptoCardSaid : Prop := Claim7.holds Tryz.pinned (.plain (OpenSpec.upto rejoinGetsSpec)) rejoinGetsUptoCard

/-- THE SECOND FORM's CARD OF 'amnesialaw12.RejoinNews'. -/
def rejoinNewsUptoCard : Claim7 := { stood := { row := rejoinNewsUptoRow, standIns := [], harness := (true, "1a8e84d8162b88230fb7aa2e74d3ff89d2e4424a73fa4f16a536346395c9d1b4"), looks := true }, kinds := [], alts := [], laidByText := true, laidKinds := [.data], laidTests := true, laidLooks := .later }
def RejoinNewsUptoCardSaid : Prop := Claim7.holds Tryz.pinned (.plain (OpenSpec.upto rejoinNewsSpec)) rejoinNewsUptoCard

/-- THE SECOND FORM's CARD OF 'amnesialaw12.RejoinMay'. -/
def rejoinMayUptoCard : Claim7 := { stood := { row := rejoinMayUptoRow, standIns := [], harness := (true, "1a8e84d8162b88230fb7aa2e74d3ff89d2e4424a73fa4f16a536346395c9d1b4"), looks := true }, kinds := [], alts := [], laidByText := true, laidKinds := [.data], laidTests := true, laidLooks := .later }
def RejoinMayUptoCardSaid : Prop := Claim7.holds Tryz.pinned (.plain (OpenSpec.upto rejoinMaySpec)) rejoinMayUptoCard

/-- THE SECOND FORM's CARD OF 'amnesialaw12.RejoinTransfers'. -/
def rejoinTransfersUptoCard : Claim7 := { stood := { row := rejoinTransfersUptoRow, standIns := [], harness := (true, "1a8e84d8162b88230fb7aa2e74d3ff89d2e4424a73fa4f16a536346395c9d1b4"), looks := true }, kinds := [], alts := [], laidByText := true, laidKinds := [.data], laidTests := true, laidLooks := .later }
def RejoinTransfersUptoCardSaid : Prop := Claim7.holds Tryz.pinned (.plain (OpenSpec.upto rejoinTransfersSpec)) rejoinTransfersUptoCard

/-- THE SECOND FORM's CARD OF 'amnesialaw12.RejoinAsks'. -/
def rejoinAsksUptoCard : Claim7 := { stood := { row := rejoinAsksUptoRow, standIns := [], harness := (true, "1a8e84d8162b88230fb7aa2e74d3ff89d2e4424a73fa4f16a536346395c9d1b4"), looks := true }, kinds := [], alts := [], laidByText := true, laidKinds := [.data], laidTests := true, laidLooks := .later }
def RejoinAsksUptoCardSaid : Prop := Claim7.holds Tryz.pinned (.plain (OpenSpec.upto rejoinAsksSpec)) rejoinAsksUptoCard

/-- THE SECOND FORM's CARD OF 'amnesialaw12.RejoinMute'. -/
def rejoinMuteUptoCard : Claim7 := { stood := { row := rejoinMuteUptoRow, standIns := [], harness := (true, "1a8e84d8162b88230fb7aa2e74d3ff89d2e4424a73fa4f16a536346395c9d1b4"), looks := true }, kinds := [], alts := [], laidByText := true, laidKinds := [.data], laidTests := true, laidLooks := .later }
def RejoinMuteUptoCardSaid : Prop := Claim7.holds Tryz.pinned (.plain (OpenSpec.upto rejoinMuteSpec)) rejoinMuteUptoCard
end Rows
end Go.Proofs.YtfoglingdnhjpaaGreatDoor
