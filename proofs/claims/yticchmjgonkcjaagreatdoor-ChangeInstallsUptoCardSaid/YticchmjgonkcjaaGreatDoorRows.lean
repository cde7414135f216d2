/-
  NARROWER THAN 'FOR EVERY INPUT', by the rows' own cells (each row's printed sentence says how): ChangeStarts: laid · ChangeVotes: laid · ChangeInstalls: laid · ChangeSuspects: laid.
  DERIVED. THE GIVEN ROWS OF THIS SEAT. 4 by the template 'for every input the law returns true; each argument reads behind the call as it read before'; 0 by the template 'total and deterministic' (their statements: YticchmjgonkcjaaGreatDoorTotals.lean).
  GIVEN WITH THE SEED: the statements are not yours to turn. If you find one false, say at which input.
  Laid BY PROGRAM, IN A SANDBOX (cutbox-rows.mjs): the forced cells as the released guide's own fill.sh prints them over the translation c60cc001ed7b73c3… (all of the seat's roots in one cut). By AI agents, Wed Nov 11 2026. No macro, syntax, notation, axiom, sorry.
-/
import Derived.Test.YticchmjgonkcjaaGreatDoorChecked
import GoSem.Claim
import GoSem.ClaimJoined
import GoSem.ClaimMapViews
import Derived.JoinedTies
import Derived.KernelRfl
namespace Go.Proofs.YticchmjgonkcjaaGreatDoor
/- THE CELL 'sum', in the pinned program and in every row, IS THE sha256 OF THE DUMP (.gsa) THAT YticchmjgonkcjaaGreatDoorProg.lean LOADS. Nothing in Lean hashes anything: it is a label: what it is worth is what the hold of that sum in a sandbox is worth. -/
noncomputable def Tryz.pinned : Pinned := { name := "yticchmjgonkcjaagreatdoor", sum := "c60cc001ed7b73c3b9f0dd06e387bc6514799a7f598dfc338637b74f40320b46", checked := Tryz.checked }
namespace Rows
def none {H : Type} : Left H := { results := [], args := [] }

/- WHAT THE LISTED PACKAGE-LEVEL VARIABLES READ AS WHEN THE CALL BEGINS. Each datum BY PROGRAM (the guide's laid-datum.mjs) off the statement by which the dump's own 'gosem.cut.vars' lays the variable. In a bare row this is a premise. The card (YticchmjgonkcjaaGreatDoorCards.lean) ties it to the program's text. -/
def laid_amnesia_message_uses {H : Type} : DataW H := .agg [.agg [.lit (.bool false), .lit (.bool false), .lit (.bool false), .lit (.bool false), .lit (.bool false), .lit (.bool false), .lit (.bool false), .lit (.bool false), .lit (.bool false), .lit (.bool false)], .agg [.lit (.bool false), .lit (.bool false), .lit (.bool false), .lit (.bool false), .lit (.bool false), .lit (.bool false), .lit (.bool true), .lit (.bool false), .lit (.bool false), .lit (.bool false)], .agg [.lit (.bool true), .lit (.bool true), .lit (.bool false), .lit (.bool true), .lit (.bool false), .lit (.bool false), .lit (.bool true), .lit (.bool true), .lit (.bool false), .lit (.bool false)], .agg [.lit (.bool true), .lit (.bool true), .lit (.bool false), .lit (.bool true), .lit (.bool true), .lit (.bool false), .lit (.bool true), .lit (.bool false), .lit (.bool false), .lit (.bool true)], .agg [.lit (.bool true), .lit (.bool true), .lit (.bool false), .lit (.bool true), .lit (.bool false), .lit (.bool false), .lit (.bool false), .lit (.bool false), .lit (.bool false), .lit (.bool true)], .agg [.lit (.bool true), .lit (.bool true), .lit (.bool false), .lit (.bool false), .lit (.bool true), .lit (.bool false), .lit (.bool false), .lit (.bool false), .lit (.bool false), .lit (.bool true)], .agg [.lit (.bool true), .lit (.bool true), .lit (.bool false), .lit (.bool false), .lit (.bool false), .lit (.bool false), .lit (.bool false), .lit (.bool false), .lit (.bool false), .lit (.bool true)], .agg [.lit (.bool true), .lit (.bool true), .lit (.bool true), .lit (.bool false), .lit (.bool true), .lit (.bool false), .lit (.bool false), .lit (.bool false), .lit (.bool true), .lit (.bool true)], .agg [.lit (.bool true), .lit (.bool true), .lit (.bool false), .lit (.bool false), .lit (.bool true), .lit (.bool false), .lit (.bool false), .lit (.bool false), .lit (.bool true), .lit (.bool true)], .agg [.lit (.bool true), .lit (.bool false), .lit (.bool false), .lit (.bool false), .lit (.bool false), .lit (.bool true), .lit (.bool false), .lit (.bool false), .lit (.bool false), .lit (.bool true)], .agg [.lit (.bool true), .lit (.bool true), .lit (.bool false), .lit (.bool false), .lit (.bool true), .lit (.bool true), .lit (.bool false), .lit (.bool false), .lit (.bool true), .lit (.bool true)], .agg [.lit (.bool true), .lit (.bool true), .lit (.bool false), .lit (.bool false), .lit (.bool false), .lit (.bool false), .lit (.bool false), .lit (.bool false), .lit (.bool false), .lit (.bool true)], .agg [.lit (.bool true), .lit (.bool true), .lit (.bool false), .lit (.bool false), .lit (.bool true), .lit (.bool false), .lit (.bool false), .lit (.bool false), .lit (.bool true), .lit (.bool true)], .agg [.lit (.bool false), .lit (.bool false), .lit (.bool false), .lit (.bool true), .lit (.bool false), .lit (.bool false), .lit (.bool true), .lit (.bool false), .lit (.bool false), .lit (.bool false)], .agg [.lit (.bool true), .lit (.bool true), .lit (.bool false), .lit (.bool false), .lit (.bool true), .lit (.bool false), .lit (.bool true), .lit (.bool true), .lit (.bool false), .lit (.bool false)]]

/-- 'amnesialaw11.ChangeStarts': WHATEVER THE INPUT: true; the input reads as it did. -/
def changeStartsSpec : ChangeSpec := { name := "changeStarts", fn := fun _ => fun
  | [d1, d2, d3] => { results := [.lit (.bool true)], args := [d1, d2, d3] }
  | _ => none }
def changeStartsRow : OpenClaim := { program := "yticchmjgonkcjaagreatdoor", sum := "c60cc001ed7b73c3b9f0dd06e387bc6514799a7f598dfc338637b74f40320b46", func := "amnesia/amnesialaw11.ChangeStarts", spec := "changeStarts", unfollowed := true, recurses := true, named := ["amnesia/message.uses"], apart := false, laid := [("amnesia/message.uses", laid_amnesia_message_uses)] }
def ChangeStartsSaid : Prop := changeStartsRow.holds Tryz.pinned (OpenSpec.ofChange changeStartsSpec)

/-- ITS FALSE NEIGHBOUR: 'it returns false'. Refute it at one input. -/
def changeStartsWrong : ChangeSpec := { name := "changeStarts", fn := fun _ => fun
  | [d1, d2, d3] => { results := [.lit (.bool false)], args := [d1, d2, d3] }
  | _ => none }
def ChangeStartsWrongFalsely : Prop := changeStartsRow.holds Tryz.pinned (OpenSpec.ofChange changeStartsWrong)

/-- 'amnesialaw11.ChangeVotes': WHATEVER THE INPUT: true; the input reads as it did. -/
def changeVotesSpec : ChangeSpec := { name := "changeVotes", fn := fun _ => fun
  | [d1, d2, d3] => { results := [.lit (.bool true)], args := [d1, d2, d3] }
  | _ => none }
def changeVotesRow : OpenClaim := { program := "yticchmjgonkcjaagreatdoor", sum := "c60cc001ed7b73c3b9f0dd06e387bc6514799a7f598dfc338637b74f40320b46", func := "amnesia/amnesialaw11.ChangeVotes", spec := "changeVotes", unfollowed := true, recurses := true, named := ["amnesia/message.uses"], apart := false, laid := [("amnesia/message.uses", laid_amnesia_message_uses)] }
def ChangeVotesSaid : Prop := changeVotesRow.holds Tryz.pinned (OpenSpec.ofChange changeVotesSpec)

/-- ITS FALSE NEIGHBOUR: 'it returns false'. Refute it at one input. -/
def changeVotesWrong : ChangeSpec := { name := "changeVotes", fn := fun _ => fun
  | [d1, d2, d3] => { results := [.lit (.bool false)], args := [d1, d2, d3] }
  | _ => none }
def ChangeVotesWrongFalsely : Prop := changeVotesRow.holds Tryz.pinned (OpenSpec.ofChange changeVotesWrong)

/-- 'amnesialaw11.ChangeInstalls': WHATEVER THE INPUT: true; the input reads as it did. -/
def changeInstallsSpec : ChangeSpec := { name := "changeInstalls", fn := fun _ => fun
  | [d1, d2, d3] => { results := [.lit (.bool true)], args := [d1, d2, d3] }
  | _ => none }
def changeInstallsRow : OpenClaim := { program := "yticchmjgonkcjaagreatdoor", sum := "c60cc001ed7b73c3b9f0dd06e387bc6514799a7f598dfc338637b74f40320b46", func := "amnesia/amnesialaw11.ChangeInstalls", spec := "changeInstalls", unfollowed := true, recurses := true, named := ["amnesia/message.uses"], apart := false, laid := [("amnesia/message.uses", laid_amnesia_message_uses)] }
def ChangeInstallsSaid : Prop := changeInstallsRow.holds Tryz.pinned (OpenSpec.ofChange changeInstallsSpec)

/-- ITS FALSE NEIGHBOUR: 'it returns false'. Refute it at one input. -/
def changeInstallsWrong : ChangeSpec := { name := "changeInstalls", fn := fun _ => fun
  | [d1, d2, d3] => { results := [.lit (.bool false)], args := [d1, d2, d3] }
  | _ => none }
def ChangeInstallsWrongFalsely : Prop := changeInstallsRow.holds Tryz.pinned (OpenSpec.ofChange changeInstallsWrong)

/-- 'amnesialaw11.ChangeSuspects': WHATEVER THE INPUT: true; the input reads as it did. -/
def changeSuspectsSpec : ChangeSpec := { name := "changeSuspects", fn := fun _ => fun
  | [d1, d2] => { results := [.lit (.bool true)], args := [d1, d2] }
  | _ => none }
def changeSuspectsRow : OpenClaim := { program := "yticchmjgonkcjaagreatdoor", sum := "c60cc001ed7b73c3b9f0dd06e387bc6514799a7f598dfc338637b74f40320b46", func := "amnesia/amnesialaw11.ChangeSuspects", spec := "changeSuspects", unfollowed := true, recurses := true, named := ["amnesia/message.uses"], apart := false, laid := [("amnesia/message.uses", laid_amnesia_message_uses)] }
def ChangeSuspectsSaid : Prop := changeSuspectsRow.holds Tryz.pinned (OpenSpec.ofChange changeSuspectsSpec)

/-- ITS FALSE NEIGHBOUR: 'it returns false'. Refute it at one input. -/
def changeSuspectsWrong : ChangeSpec := { name := "changeSuspects", fn := fun _ => fun
  | [d1, d2] => { results := [.lit (.bool false)], args := [d1, d2] }
  | _ => none }
def ChangeSuspectsWrongFalsely : Prop := changeSuspectsRow.holds Tryz.pinned (OpenSpec.ofChange changeSuspectsWrong)

/- THE SECOND FORM. 'bulk': how many values and letters a reading holds, each counted each time it is reached (what is shared counts as often as it is met; a slice's spare places count too). A statement '..UptoSaid' is the law's where the arguments, and the package variables that the reading takes, are together of bulk at most 1048576: NARROWER than '..Said'. Prove '..Said' where nothing that the law and all that it calls make is longer than what came in: it says more and counts as full. Else prove '..UptoSaid'. A law counts once. -/
mutual
def uptoBulk {H : Type} : DataW H → Nat
  | .lit (.string bytes) => bytes.length + 1
  | .lit _ => 1
  | .nil => 1
  | .ptr d => uptoBulk d + 1
  | .slice elems spare => uptoBulkAll elems + uptoBulkAll spare + 1
  | .agg parts => uptoBulkAll parts + 1
  | .iface _ d => uptoBulk d + 1
  | .map entries => uptoBulkEntries entries + 1
  | .held _ => 1
def uptoBulkAll {H : Type} : List (DataW H) → Nat
  | [] => 0
  | d :: r => uptoBulk d + uptoBulkAll r
def uptoBulkEntries {H : Type} : List (Lit × DataW H) → Nat
  | [] => 0
  | x :: r => uptoBulkEntry x + uptoBulkEntries r
def uptoBulkEntry {H : Type} : Lit × DataW H → Nat
  | (.string bytes, d) => bytes.length + uptoBulk d + 1
  | (_, d) => uptoBulk d + 1
 end
def uptoSmall : (H : Type) → List (DataW H) → Bool := fun _ ds => decide (uptoBulkAll ds ≤ 1048576)
def OpenSpec.upto (s : _root_.Go.ChangeSpec) : _root_.Go.OpenSpec := { _root_.Go.OpenSpec.ofChange s with cond := some uptoSmall }

/-- 'amnesialaw11.ChangeStarts', WHERE WHAT IT READS IS OF BULK AT MOST 1048576: true; the input reads as it did. -/
def changeStartsUptoRow : OpenClaim := { program := "yticchmjgonkcjaagreatdoor", sum := "c60cc001ed7b73c3b9f0dd06e387bc6514799a7f598dfc338637b74f40320b46", func := "amnesia/amnesialaw11.ChangeStarts", spec := "changeStarts", unfollowed := true, recurses := true, named := ["amnesia/message.uses"], apart := false, laid := [("amnesia/message.uses", laid_amnesia_message_uses)], narrowed := true }
def ChangeStartsUptoSaid : Prop := changeStartsUptoRow.holds Tryz.pinned (OpenSpec.upto changeStartsSpec)

/-- 'amnesialaw11.ChangeVotes', WHERE WHAT IT READS IS OF BULK AT MOST 1048576: true; the input reads as it did. -/
def changeVotesUptoRow : OpenClaim := { program := "yticchmjgonkcjaagreatdoor", sum := "c60cc001ed7b73c3b9f0dd06e387bc6514799a7f598dfc338637b74f40320b46", func := "amnesia/amnesialaw11.ChangeVotes", spec := "changeVotes", unfollowed := true, recurses := true, named := ["amnesia/message.uses"], apart := false, laid := [("amnesia/message.uses", laid_amnesia_message_uses)], narrowed := true }
def ChangeVotesUptoSaid : Prop := changeVotesUptoRow.holds Tryz.pinned (OpenSpec.upto changeVotesSpec)

/-- 'amnesialaw11.ChangeInstalls', WHERE WHAT IT READS IS OF BULK AT MOST 1048576: true; the input reads as it did. -/
def changeInstallsUptoRow : OpenClaim := { program := "yticchmjgonkcjaagreatdoor", sum := "c60cc001ed7b73c3b9f0dd06e387bc6514799a7f598dfc338637b74f40320b46", func := "amnesia/amnesialaw11.ChangeInstalls", spec := "changeInstalls", unfollowed := true, recurses := true, named := ["amnesia/message.uses"], apart := false, laid := [("amnesia/message.uses", laid_amnesia_message_uses)], narrowed := true }
def ChangeInstallsUptoSaid : Prop := changeInstallsUptoRow.holds Tryz.pinned (OpenSpec.upto changeInstallsSpec)

/-- 'amnesialaw11.ChangeSuspects', WHERE WHAT IT READS IS OF BULK AT MOST 1048576: true; the input reads as it did. -/
def changeSuspectsUptoRow : OpenClaim := { program := "yticchmjgonkcjaagreatdoor", sum := "c60cc001ed7b73c3b9f0dd06e387bc6514799a7f598dfc338637b74f40320b46", func := "amnesia/amnesialaw11.ChangeSuspects", spec := "changeSuspects", unfollowed := true, recurses := true, named := ["amnesia/message.uses"], apart := false, laid := [("amnesia/message.uses", laid_amnesia_message_uses)], narrowed := true }
def ChangeSuspectsUptoSaid : Prop := changeSuspectsUptoRow.holds Tryz.pinned (OpenSpec.upto changeSuspectsSpec)

end Rows
end Go.Proofs.YticchmjgonkcjaaGreatDoor
