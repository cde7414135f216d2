/-
  DERIVED. GIVEN WITH THE SEED: THE CARDS: each row of YtlmbnpajipfkaaaGreatDoorRows.lean that lists a variable, with what it lists TIED to the program's text (the seventh form; the later family's looks); each row that meets fmt, with fmt's text TOLD by the authors' own Lean function (tested against real Go, not proved from fmt's source: count such statements apart). THE CARD IS WHAT COUNTS. Prove the row's statement (the work); the ties are given (YtlmbnpajipfkaaaGreatDoorTie.lean); close each card by the builder's one call (the guide's Derived/Test/ToyasCard.lean, 'card_holds'). Laid BY PROGRAM, IN A SANDBOX (cutbox-door.mjs). By AI agents, Wed Nov 11 2026. No macro, syntax, notation, axiom, sorry.
-/
import Derived.Test.YtlmbnpajipfkaaaGreatDoorRows
import GoSem.ClaimSeven
namespace Go.Proofs.YtlmbnpajipfkaaaGreatDoor
namespace Rows

/-- THE TIED CARD OF 'amnesialaw11.ChangeQuorum'. -/
def changeQuorumCard : Claim7 := { stood := { row := changeQuorumRow, standIns := [], harness := (true, "467a5311ec67d40b446ef6320ffdba17f6b01bd1a4f92b46bd47d05d851b729e"), looks := false }, kinds := [], alts := [], laidByText := true, laidKinds := [.data], laidTests := true, laidLooks := .later }
def ChangeQuorumCardSaid : Prop := Claim7.holds Tryz.pinned (.plain (OpenSpec.ofChange changeQuorumSpec)) changeQuorumCard

/-- THE SECOND FORM's CARD OF 'amnesialaw11.ChangeQuorum'. -/
def changeQuorumUptoCard : Claim7 := { stood := { row := changeQuorumUptoRow, standIns := [], harness := (true, "467a5311ec67d40b446ef6320ffdba17f6b01bd1a4f92b46bd47d05d851b729e"), looks := false }, kinds := [], alts := [], laidByText := true, laidKinds := [.data], laidTests := true, laidLooks := .later }
def ChangeQuorumUptoCardSaid : Prop := Claim7.holds Tryz.pinned (.plain (OpenSpec.upto changeQuorumSpec)) changeQuorumUptoCard
end Rows
end Go.Proofs.YtlmbnpajipfkaaaGreatDoor
