/-
  DERIVED. GIVEN WITH THE SEED: THE CARDS: each row of YtponcchkfmbicaaGreatDoorRows.lean that lists a variable, with what it lists TIED to the program's text (the seventh form; the later family's looks); each row that meets fmt, with fmt's text TOLD by the authors' own Lean function (tested against real Go, not proved from fmt's source: count such statements apart). THE CARD IS WHAT COUNTS. Prove the row's statement (the work); the ties are given (YtponcchkfmbicaaGreatDoorTie.lean); close each card by the builder's one call (the guide's Derived/Test/ToyasCard.lean, 'card_holds'). Laid BY PROGRAM, IN A SANDBOX (cutbox-door.mjs). By AI agents, Wed Nov 11 2026. No macro, syntax, notation, axiom, sorry.
-/
import Derived.Test.YtponcchkfmbicaaGreatDoorRows
import GoSem.ClaimSeven
namespace Go.Proofs.YtponcchkfmbicaaGreatDoor
namespace Rows

/-- THE TIED CARD OF 'amnesialaw09.CoreAdmits'. -/
def coreAdmitsCard : Claim7 := { stood := { row := coreAdmitsRow, standIns := [], harness := (true, "95df63034a3ab97ed13b00c22ed1ccad2b3c540ca258504fc9f02e7f25c995de"), looks := false }, kinds := [], alts := [], laidByText := true, laidKinds := [.data], laidTests := true, laidLooks := .later }
def CoreAdmitsCardSaid : Prop := Claim7.holds Tryz.pinned (.plain (OpenSpec.ofChange coreAdmitsSpec)) coreAdmitsCard

/-- THE TIED CARD OF 'amnesialaw09.CoreVoices'. -/
def coreVoicesCard : Claim7 := { stood := { row := coreVoicesRow, standIns := [], harness := (true, "95df63034a3ab97ed13b00c22ed1ccad2b3c540ca258504fc9f02e7f25c995de"), looks := false }, kinds := [], alts := [], laidByText := true, laidKinds := [.data], laidTests := true, laidLooks := .later }
def CoreVoicesCardSaid : Prop := Claim7.holds Tryz.pinned (.plain (OpenSpec.ofChange coreVoicesSpec)) coreVoicesCard

/-- THE TIED CARD OF 'amnesialaw09.CorePatience'. -/
def corePatienceCard : Claim7 := { stood := { row := corePatienceRow, standIns := [], harness := (true, "95df63034a3ab97ed13b00c22ed1ccad2b3c540ca258504fc9f02e7f25c995de"), looks := false }, kinds := [], alts := [], laidByText := true, laidKinds := [.data], laidTests := true, laidLooks := .later }
def CorePatienceCardSaid : Prop := Claim7.holds Tryz.pinned (.plain (OpenSpec.ofChange corePatienceSpec)) corePatienceCard

/-- THE TIED CARD OF 'amnesialaw09.CoreKnows'. -/
def coreKnowsCard : Claim7 := { stood := { row := coreKnowsRow, standIns := [], harness := (true, "95df63034a3ab97ed13b00c22ed1ccad2b3c540ca258504fc9f02e7f25c995de"), looks := false }, kinds := [], alts := [], laidByText := true, laidKinds := [.data], laidTests := true, laidLooks := .later }
def CoreKnowsCardSaid : Prop := Claim7.holds Tryz.pinned (.plain (OpenSpec.ofChange coreKnowsSpec)) coreKnowsCard

/-- THE TIED CARD OF 'amnesialaw09.CoreChecks'. -/
def coreChecksCard : Claim7 := { stood := { row := coreChecksRow, standIns := [], harness := (true, "95df63034a3ab97ed13b00c22ed1ccad2b3c540ca258504fc9f02e7f25c995de"), looks := false }, kinds := [], alts := [], laidByText := true, laidKinds := [.data], laidTests := true, laidLooks := .later }
def CoreChecksCardSaid : Prop := Claim7.holds Tryz.pinned (.plain (OpenSpec.ofChange coreChecksSpec)) coreChecksCard

/-- THE TIED CARD OF 'amnesialaw09.CoreOwn'. -/
def coreOwnCard : Claim7 := { stood := { row := coreOwnRow, standIns := [], harness := (true, "95df63034a3ab97ed13b00c22ed1ccad2b3c540ca258504fc9f02e7f25c995de"), looks := false }, kinds := [], alts := [], laidByText := true, laidKinds := [.data], laidTests := true, laidLooks := .later }
def CoreOwnCardSaid : Prop := Claim7.holds Tryz.pinned (.plain (OpenSpec.ofChange coreOwnSpec)) coreOwnCard

/-- THE SECOND FORM's CARD OF 'amnesialaw09.CoreAdmits'. -/
def coreAdmitsUptoCard : Claim7 := { stood := { row := coreAdmitsUptoRow, standIns := [], harness := (true, "95df63034a3ab97ed13b00c22ed1ccad2b3c540ca258504fc9f02e7f25c995de"), looks := false }, kinds := [], alts := [], laidByText := true, laidKinds := [.data], laidTests := true, laidLooks := .later }
def CoreAdmitsUptoCardSaid : Prop := Claim7.holds Tryz.pinned (.plain (OpenSpec.upto coreAdmitsSpec)) coreAdmitsUptoCard

/-- THE SECOND FORM's CARD OF 'amnesialaw09.CoreVoices'. -/
def coreVoicesUptoCard : Claim7 := { stood := { row := coreVoicesUptoRow, standIns := [], harness := (true, "95df63034a3ab97ed13b00c22ed1ccad2b3c540ca258504fc9f02e7f25c995de"), looks := false }, kinds := [], alts := [], laidByText := true, laidKinds := [.data], laidTests := true, laidLooks := .later }
def CoreVoicesUptoCardSaid : Prop := Claim7.holds Tryz.pinned (.plain (OpenSpec.upto coreVoicesSpec)) coreVoicesUptoCard

/-- THE SECOND FORM's CARD OF 'amnesialaw09.CorePatience'. -/
def corePatienceUptoCard : Claim7 := { stood := { row := corePatienceUptoRow, standIns := [], harness := (true, "95df63034a3ab97ed13b00c22ed1ccad2b3c540ca258504fc9f02e7f25c995de"), looks := false }, kinds := [], alts := [], laidByText := true, laidKinds := [.data], laidTests := true, laidLooks := .later }
def CorePatienceUptoCardSaid : Prop := Claim7.holds Tryz.pinned (.plain (OpenSpec.upto corePatienceSpec)) corePatienceUptoCard

/-- THE SECOND FORM's CARD OF 'amnesialaw09.CoreKnows'. -/
def coreKnowsUptoCard : Claim7 := { stood := { row := coreKnowsUptoRow, standIns := [], harness := (true, "95df63034a3ab97ed13b00c22ed1ccad2b3c540ca258504fc9f02e7f25c995de"), looks := false }, kinds := [], alts := [], laidByText := true, laidKinds := [.data], laidTests := true, laidLooks := .later }
def CoreKnowsUptoCardSaid : Prop := Claim7.holds Tryz.pinned (.plain (OpenSpec.upto coreKnowsSpec)) coreKnowsUptoCard

/-- THE SECOND FORM's CARD OF 'amnesialaw09.CoreChecks'. -/
def coreChecksUptoCard : Claim7 := { stood := { row := coreChecksUptoRow, standIns := [], harness := (true, "95df63034a3ab97ed13b00c22ed1ccad2b3c540ca258504fc9f02e7f25c995de"), looks := false }, kinds := [], alts := [], laidByText := true, laidKinds := [.data], laidTests := true, laidLooks := .later }
def CoreChecksUptoCardSaid : Prop := Claim7.holds Tryz.pinned (.plain (OpenSpec.upto coreChecksSpec)) coreChecksUptoCard

/-- THE SECOND FORM's CARD OF 'amnesialaw09.CoreOwn'. -/
def coreOwnUptoCard : Claim7 := { stood := { row := coreOwnUptoRow, standIns := [], harness := (true, "95df63034a3ab97ed13b00c22ed1ccad2b3c540ca258504fc9f02e7f25c995de"), looks := false }, kinds := [], alts := [], laidByText := true, laidKinds := [.data], laidTests := true, laidLooks := .later }
def CoreOwnUptoCardSaid : Prop := Claim7.holds Tryz.pinned (.plain (OpenSpec.upto coreOwnSpec)) coreOwnUptoCard
end Rows
end Go.Proofs.YtponcchkfmbicaaGreatDoor
