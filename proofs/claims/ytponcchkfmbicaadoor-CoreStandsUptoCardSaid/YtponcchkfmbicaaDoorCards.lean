/-
  DERIVED. GIVEN WITH THE SEED: THE CARDS: each row of YtponcchkfmbicaaDoorRows.lean that lists a variable, with what it lists TIED to the program's text (the seventh form; the later family's looks); each row that meets fmt, with fmt's text TOLD by the authors' own Lean function (tested against real Go, not proved from fmt's source: count such statements apart). THE CARD IS WHAT COUNTS. Prove the row's statement (the work); the ties are given (YtponcchkfmbicaaDoorTie.lean); close each card by the builder's one call (the guide's Derived/Test/ToyasCard.lean, 'card_holds'). Laid BY PROGRAM, IN A SANDBOX (cutbox-door.mjs). By AI agents, Wed Nov 11 2026. No macro, syntax, notation, axiom, sorry.
-/
import Derived.Test.YtponcchkfmbicaaDoorRows
import GoSem.ClaimSeven
namespace Go.Proofs.YtponcchkfmbicaaDoor
namespace Rows

/-- THE TIED CARD OF 'amnesialaw09.CoreConfigs'. -/
def coreConfigsCard : Claim7 := { stood := { row := coreConfigsRow, standIns := [], harness := (true, "87108d870db0ee3f0bdde26199583b4eaf93c53754d5b27066eb1e417d4e1b58"), looks := false }, kinds := [], alts := [], laidByText := true, laidKinds := [.data], laidTests := true, laidLooks := .later }
def CoreConfigsCardSaid : Prop := Claim7.holds Tryd.pinned (.plain (OpenSpec.ofChange coreConfigsSpec)) coreConfigsCard

/-- THE TIED CARD OF 'amnesialaw09.CoreStands'. -/
def coreStandsCard : Claim7 := { stood := { row := coreStandsRow, standIns := [], harness := (true, "87108d870db0ee3f0bdde26199583b4eaf93c53754d5b27066eb1e417d4e1b58"), looks := false }, kinds := [], alts := [], laidByText := true, laidKinds := [.data], laidTests := true, laidLooks := .later }
def CoreStandsCardSaid : Prop := Claim7.holds Tryd.pinned (.plain (OpenSpec.ofChange coreStandsSpec)) coreStandsCard

/-- THE SECOND FORM's CARD OF 'amnesialaw09.CoreConfigs'. -/
def coreConfigsUptoCard : Claim7 := { stood := { row := coreConfigsUptoRow, standIns := [], harness := (true, "87108d870db0ee3f0bdde26199583b4eaf93c53754d5b27066eb1e417d4e1b58"), looks := false }, kinds := [], alts := [], laidByText := true, laidKinds := [.data], laidTests := true, laidLooks := .later }
def CoreConfigsUptoCardSaid : Prop := Claim7.holds Tryd.pinned (.plain (OpenSpec.upto coreConfigsSpec)) coreConfigsUptoCard

/-- THE SECOND FORM's CARD OF 'amnesialaw09.CoreStands'. -/
def coreStandsUptoCard : Claim7 := { stood := { row := coreStandsUptoRow, standIns := [], harness := (true, "87108d870db0ee3f0bdde26199583b4eaf93c53754d5b27066eb1e417d4e1b58"), looks := false }, kinds := [], alts := [], laidByText := true, laidKinds := [.data], laidTests := true, laidLooks := .later }
def CoreStandsUptoCardSaid : Prop := Claim7.holds Tryd.pinned (.plain (OpenSpec.upto coreStandsSpec)) coreStandsUptoCard
end Rows
end Go.Proofs.YtponcchkfmbicaaDoor
