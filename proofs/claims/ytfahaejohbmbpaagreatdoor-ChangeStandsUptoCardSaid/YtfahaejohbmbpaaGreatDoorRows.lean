/-
  NARROWER THAN 'FOR EVERY INPUT', by the rows' own cells (each row's printed sentence says how): ChangeChoice: laid · ChangeCounts: laid · ChangeStands: laid.
  DERIVED. THE GIVEN ROWS OF THIS SEAT. 3 by the template 'for every input the law returns true; each argument reads behind the call as it read before'; 0 by the template 'total and deterministic' (their statements: YtfahaejohbmbpaaGreatDoorTotals.lean).
  GIVEN WITH THE SEED: the statements are not yours to turn. If you find one false, say at which input.
  Laid BY PROGRAM, IN A SANDBOX (cutbox-rows.mjs): the forced cells as the released guide's own fill.sh prints them over the translation a3ce77a9a9b1ee4c… (all of the seat's roots in one cut). By AI agents, Wed Nov 11 2026. No macro, syntax, notation, axiom, sorry.
-/
import Derived.Test.YtfahaejohbmbpaaGreatDoorChecked
import GoSem.Claim
import GoSem.ClaimJoined
import GoSem.ClaimMapViews
import Derived.JoinedTies
import Derived.KernelRfl
namespace Go.Proofs.YtfahaejohbmbpaaGreatDoor
/- THE CELL 'sum', in the pinned program and in every row, IS THE sha256 OF THE DUMP (.gsa) THAT YtfahaejohbmbpaaGreatDoorProg.lean LOADS. Nothing in Lean hashes anything: it is a label: what it is worth is what the hold of that sum in a sandbox is worth. -/
noncomputable def Tryz.pinned : Pinned := { name := "ytfahaejohbmbpaagreatdoor", sum := "a3ce77a9a9b1ee4c7b42da4f3524213bcaa39051ee53ea66a1d09fdecad92d27", checked := Tryz.checked }
namespace Rows
def none {H : Type} : Left H := { results := [], args := [] }

/- WHAT THE LISTED PACKAGE-LEVEL VARIABLES READ AS WHEN THE CALL BEGINS. Each datum BY PROGRAM (the guide's laid-datum.mjs) off the statement by which the dump's own 'gosem.cut.vars' lays the variable. In a bare row this is a premise. The card (YtfahaejohbmbpaaGreatDoorCards.lean) ties it to the program's text. -/
def laid_amnesia_message_uses {H : Type} : DataW H := .agg [.agg [.lit (.bool false), .lit (.bool false), .lit (.bool false), .lit (.bool false), .lit (.bool false), .lit (.bool false), .lit (.bool false), .lit (.bool false), .lit (.bool false), .lit (.bool false)], .agg [.lit (.bool false), .lit (.bool false), .lit (.bool false), .lit (.bool false), .lit (.bool false), .lit (.bool false), .lit (.bool true), .lit (.bool false), .lit (.bool false), .lit (.bool false)], .agg [.lit (.bool true), .lit (.bool true), .lit (.bool false), .lit (.bool true), .lit (.bool false), .lit (.bool false), .lit (.bool true), .lit (.bool true), .lit (.bool false), .lit (.bool false)], .agg [.lit (.bool true), .lit (.bool true), .lit (.bool false), .lit (.bool true), .lit (.bool true), .lit (.bool false), .lit (.bool true), .lit (.bool false), .lit (.bool false), .lit (.bool true)], .agg [.lit (.bool true), .lit (.bool true), .lit (.bool false), .lit (.bool true), .lit (.bool false), .lit (.bool false), .lit (.bool false), .lit (.bool false), .lit (.bool false), .lit (.bool true)], .agg [.lit (.bool true), .lit (.bool true), .lit (.bool false), .lit (.bool false), .lit (.bool true), .lit (.bool false), .lit (.bool false), .lit (.bool false), .lit (.bool false), .lit (.bool true)], .agg [.lit (.bool true), .lit (.bool true), .lit (.bool false), .lit (.bool false), .lit (.bool false), .lit (.bool false), .lit (.bool false), .lit (.bool false), .lit (.bool false), .lit (.bool true)], .agg [.lit (.bool true), .lit (.bool true), .lit (.bool true), .lit (.bool false), .lit (.bool true), .lit (.bool false), .lit (.bool false), .lit (.bool false), .lit (.bool true), .lit (.bool true)], .agg [.lit (.bool true), .lit (.bool true), .lit (.bool false), .lit (.bool false), .lit (.bool true), .lit (.bool false), .lit (.bool false), .lit (.bool false), .lit (.bool true), .lit (.bool true)], .agg [.lit (.bool true), .lit (.bool false), .lit (.bool false), .lit (.bool false), .lit (.bool false), .lit (.bool true), .lit (.bool false), .lit (.bool false), .lit (.bool false), .lit (.bool true)], .agg [.lit (.bool true), .lit (.bool true), .lit (.bool false), .lit (.bool false), .lit (.bool true), .lit (.bool true), .lit (.bool false), .lit (.bool false), .lit (.bool true), .lit (.bool true)], .agg [.lit (.bool true), .lit (.bool true), .lit (.bool false), .lit (.bool false), .lit (.bool false), .lit (.bool false), .lit (.bool false), .lit (.bool false), .lit (.bool false), .lit (.bool true)], .agg [.lit (.bool true), .lit (.bool true), .lit (.bool false), .lit (.bool false), .lit (.bool true), .lit (.bool false), .lit (.bool false), .lit (.bool false), .lit (.bool true), .lit (.bool true)], .agg [.lit (.bool false), .lit (.bool false), .lit (.bool false), .lit (.bool true), .lit (.bool false), .lit (.bool false), .lit (.bool true), .lit (.bool false), .lit (.bool false), .lit (.bool false)], .agg [.lit (.bool true), .lit (.bool true), .lit (.bool false), .lit (.bool false), .lit (.bool true), .lit (.bool false), .lit (.bool true), .lit (.bool true), .lit (.bool false), .lit (.bool false)]]

/-- 'amnesialaw11.ChangeChoice': WHATEVER THE INPUT: true; the input reads as it did. -/
def changeChoiceSpec : ChangeSpec := { name := "changeChoice", fn := fun _ => fun
  | [d1, d2, d3] => { results := [.lit (.bool true)], args := [d1, d2, d3] }
  | _ => none }
def changeChoiceRow : OpenClaim := { program := "ytfahaejohbmbpaagreatdoor", sum := "a3ce77a9a9b1ee4c7b42da4f3524213bcaa39051ee53ea66a1d09fdecad92d27", func := "amnesia/amnesialaw11.ChangeChoice", spec := "changeChoice", unfollowed := true, recurses := true, named := ["amnesia/message.uses"], apart := false, laid := [("amnesia/message.uses", laid_amnesia_message_uses)] }
def ChangeChoiceSaid : Prop := changeChoiceRow.holds Tryz.pinned (OpenSpec.ofChange changeChoiceSpec)

/-- ITS FALSE NEIGHBOUR: 'it returns false'. Refute it at one input. -/
def changeChoiceWrong : ChangeSpec := { name := "changeChoice", fn := fun _ => fun
  | [d1, d2, d3] => { results := [.lit (.bool false)], args := [d1, d2, d3] }
  | _ => none }
def ChangeChoiceWrongFalsely : Prop := changeChoiceRow.holds Tryz.pinned (OpenSpec.ofChange changeChoiceWrong)

/-- 'amnesialaw11.ChangeCounts': WHATEVER THE INPUT: true; the input reads as it did. -/
def changeCountsSpec : ChangeSpec := { name := "changeCounts", fn := fun _ => fun
  | [d1, d2, d3] => { results := [.lit (.bool true)], args := [d1, d2, d3] }
  | _ => none }
def changeCountsRow : OpenClaim := { program := "ytfahaejohbmbpaagreatdoor", sum := "a3ce77a9a9b1ee4c7b42da4f3524213bcaa39051ee53ea66a1d09fdecad92d27", func := "amnesia/amnesialaw11.ChangeCounts", spec := "changeCounts", unfollowed := true, recurses := true, named := ["amnesia/message.uses"], apart := false, laid := [("amnesia/message.uses", laid_amnesia_message_uses)] }
def ChangeCountsSaid : Prop := changeCountsRow.holds Tryz.pinned (OpenSpec.ofChange changeCountsSpec)

/-- ITS FALSE NEIGHBOUR: 'it returns false'. Refute it at one input. -/
def changeCountsWrong : ChangeSpec := { name := "changeCounts", fn := fun _ => fun
  | [d1, d2, d3] => { results := [.lit (.bool false)], args := [d1, d2, d3] }
  | _ => none }
def ChangeCountsWrongFalsely : Prop := changeCountsRow.holds Tryz.pinned (OpenSpec.ofChange changeCountsWrong)

/-- 'amnesialaw11.ChangeStands': WHATEVER THE INPUT: true; the input reads as it did. -/
def changeStandsSpec : ChangeSpec := { name := "changeStands", fn := fun _ => fun
  | [d1, d2, d3] => { results := [.lit (.bool true)], args := [d1, d2, d3] }
  | _ => none }
def changeStandsRow : OpenClaim := { program := "ytfahaejohbmbpaagreatdoor", sum := "a3ce77a9a9b1ee4c7b42da4f3524213bcaa39051ee53ea66a1d09fdecad92d27", func := "amnesia/amnesialaw11.ChangeStands", spec := "changeStands", unfollowed := true, recurses := true, named := ["amnesia/message.uses"], apart := false, laid := [("amnesia/message.uses", laid_amnesia_message_uses)] }
def ChangeStandsSaid : Prop := changeStandsRow.holds Tryz.pinned (OpenSpec.ofChange changeStandsSpec)

/-- ITS FALSE NEIGHBOUR: 'it returns false'. Refute it at one input. -/
def changeStandsWrong : ChangeSpec := { name := "changeStands", fn := fun _ => fun
  | [d1, d2, d3] => { results := [.lit (.bool false)], args := [d1, d2, d3] }
  | _ => none }
def ChangeStandsWrongFalsely : Prop := changeStandsRow.holds Tryz.pinned (OpenSpec.ofChange changeStandsWrong)

/- THE SECOND FORM. 'bulk': how many values and letters a reading holds, each counted each time it is reached (what is shared counts as often as it is met; a slice's spare places count too). A statement '..UptoSaid' is the law's where the arguments, and the package variables that the reading takes, are together of bulk at most 1048576: NARROWER than '..Said'. Prove '..Said' where nothing that the law and all that it calls make is longer than what came in: it says more and counts as full. Else prove '..UptoSaid'. A law counts once. -/
mutual
def uptoBulk {H : Type} : DataW H → Nat
  | .lit (.string bytes) => bytes.length + 1
  | .lit _ => 1
  | .nil => 1
  | .ptr d => uptoBulk d + 1
  | .slice elems spare => uptoBulkAll elems + uptoBulkAll spare + 1
  | .agg parts => uptoBulkAll parts + 1
  | .iface _ d => uptoBulk d + 1
  | .map entries => uptoBulkEntries entries + 1
  | .held _ => 1
def uptoBulkAll {H : Type} : List (DataW H) → Nat
  | [] => 0
  | d :: r => uptoBulk d + uptoBulkAll r
def uptoBulkEntries {H : Type} : List (Lit × DataW H) → Nat
  | [] => 0
  | x :: r => uptoBulkEntry x + uptoBulkEntries r
def uptoBulkEntry {H : Type} : Lit × DataW H → Nat
  | (.string bytes, d) => bytes.length + uptoBulk d + 1
  | (_, d) => uptoBulk d + 1
 end
def uptoSmall : (H : Type) → List (DataW H) → Bool := fun _ ds => decide (uptoBulkAll ds ≤ 1048576)
def OpenSpec.upto (s : _root_.Go.ChangeSpec) : _root_.Go.OpenSpec := { _root_.Go.OpenSpec.ofChange s with cond := some uptoSmall }

/-- 'amnesialaw11.ChangeChoice', WHERE WHAT IT READS IS OF BULK AT MOST 1048576: true; the input reads as it did. -/
def changeChoiceUptoRow : OpenClaim := { program := "ytfahaejohbmbpaagreatdoor", sum := "a3ce77a9a9b1ee4c7b42da4f3524213bcaa39051ee53ea66a1d09fdecad92d27", func := "amnesia/amnesialaw11.ChangeChoice", spec := "changeChoice", unfollowed := true, recurses := true, named := ["amnesia/message.uses"], apart := false, laid := [("amnesia/message.uses", laid_amnesia_message_uses)], narrowed := true }
def ChangeChoiceUptoSaid : Prop := changeChoiceUptoRow.holds Tryz.pinned (OpenSpec.upto changeChoiceSpec)

/-- 'amnesialaw11.ChangeCounts', WHERE WHAT IT READS IS OF BULK AT MOST 1048576: true; the input reads as it did. -/
def changeCountsUptoRow : OpenClaim := { program := "ytfahaejohbmbpaagreatdoor", sum := "a3ce77a9a9b1ee4c7b42da4f3524213bcaa39051ee53ea66a1d09fdecad92d27", func := "amnesia/amnesialaw11.ChangeCounts", spec := "changeCounts", unfollowed := true, recurses := true, named := ["amnesia/message.uses"], apart := false, laid := [("amnesia/message.uses", laid_amnesia_message_uses)], narrowed := true }
def ChangeCountsUptoSaid : Prop := changeCountsUptoRow.holds Tryz.pinned (OpenSpec.upto changeCountsSpec)

/-- 'amnesialaw11.ChangeStands', WHERE WHAT IT READS IS OF BULK AT MOST 1048576: true; the input reads as it did. -/
def changeStandsUptoRow : OpenClaim := { program := "ytfahaejohbmbpaagreatdoor", sum := "a3ce77a9a9b1ee4c7b42da4f3524213bcaa39051ee53ea66a1d09fdecad92d27", func := "amnesia/amnesialaw11.ChangeStands", spec := "changeStands", unfollowed := true, recurses := true, named := ["amnesia/message.uses"], apart := false, laid := [("amnesia/message.uses", laid_amnesia_message_uses)], narrowed := true }
def ChangeStandsUptoSaid : Prop := changeStandsUptoRow.holds Tryz.pinned (OpenSpec.upto changeStandsSpec)

end Rows
end Go.Proofs.YtfahaejohbmbpaaGreatDoor
