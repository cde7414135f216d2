/-
  NARROWER THAN 'FOR EVERY INPUT', by the rows' own cells (each row's printed sentence says how): RejoinStarts: laid · RejoinRecoveries: laid · RejoinResponses: laid · RejoinKnows: laid · RejoinGets: laid · RejoinNews: laid · RejoinMay: laid · RejoinTransfers: laid · RejoinAsks: laid · RejoinMute: laid.
  DERIVED. THE GIVEN ROWS OF THIS SEAT. 10 by the template 'for every input the law returns true; each argument reads behind the call as it read before'; 0 by the template 'total and deterministic' (their statements: YtfoglingdnhjpaaGreatDoorTotals.lean).
  GIVEN WITH THE SEED: the statements are not yours to turn. If you find one false, say at which input.
  Laid BY PROGRAM, IN A SANDBOX (cutbox-rows.mjs): the forced cells as the released guide's own fill.sh prints them over the translation fe35b7b49f240b78… (all of the seat's roots in one cut). By AI agents, Wed Nov 11 2026. No macro, syntax, notation, axiom, sorry.
-/
import Derived.Test.YtfoglingdnhjpaaGreatDoorChecked
import GoSem.Claim
import GoSem.ClaimJoined
import GoSem.ClaimMapViews
import Derived.JoinedTies
import Derived.KernelRfl
namespace Go.Proofs.YtfoglingdnhjpaaGreatDoor
/- THE CELL 'sum', in the pinned program and in every row, IS THE sha256 OF THE DUMP (.gsa) THAT YtfoglingdnhjpaaGreatDoorProg.lean LOADS. Nothing in Lean hashes anything: it is a label: what it is worth is what the hold of that sum in a sandbox is worth. -/
noncomputable def Tryz.pinned : Pinned := { name := "ytfoglingdnhjpaagreatdoor", sum := "fe35b7b49f240b78918dab9667d91cd291b68097d40e72bf98b168df8eb627ef", checked := Tryz.checked }
namespace Rows
def none {H : Type} : Left H := { results := [], args := [] }

/- WHAT THE LISTED PACKAGE-LEVEL VARIABLES READ AS WHEN THE CALL BEGINS. Each datum BY PROGRAM (the guide's laid-datum.mjs) off the statement by which the dump's own 'gosem.cut.vars' lays the variable. In a bare row this is a premise. The card (YtfoglingdnhjpaaGreatDoorCards.lean) ties it to the program's text. -/
def laid_amnesia_message_uses {H : Type} : DataW H := .agg [.agg [.lit (.bool false), .lit (.bool false), .lit (.bool false), .lit (.bool false), .lit (.bool false), .lit (.bool false), .lit (.bool false), .lit (.bool false), .lit (.bool false), .lit (.bool false)], .agg [.lit (.bool false), .lit (.bool false), .lit (.bool false), .lit (.bool false), .lit (.bool false), .lit (.bool false), .lit (.bool true), .lit (.bool false), .lit (.bool false), .lit (.bool false)], .agg [.lit (.bool true), .lit (.bool true), .lit (.bool false), .lit (.bool true), .lit (.bool false), .lit (.bool false), .lit (.bool true), .lit (.bool true), .lit (.bool false), .lit (.bool false)], .agg [.lit (.bool true), .lit (.bool true), .lit (.bool false), .lit (.bool true), .lit (.bool true), .lit (.bool false), .lit (.bool true), .lit (.bool false), .lit (.bool false), .lit (.bool true)], .agg [.lit (.bool true), .lit (.bool true), .lit (.bool false), .lit (.bool true), .lit (.bool false), .lit (.bool false), .lit (.bool false), .lit (.bool false), .lit (.bool false), .lit (.bool true)], .agg [.lit (.bool true), .lit (.bool true), .lit (.bool false), .lit (.bool false), .lit (.bool true), .lit (.bool false), .lit (.bool false), .lit (.bool false), .lit (.bool false), .lit (.bool true)], .agg [.lit (.bool true), .lit (.bool true), .lit (.bool false), .lit (.bool false), .lit (.bool false), .lit (.bool false), .lit (.bool false), .lit (.bool false), .lit (.bool false), .lit (.bool true)], .agg [.lit (.bool true), .lit (.bool true), .lit (.bool true), .lit (.bool false), .lit (.bool true), .lit (.bool false), .lit (.bool false), .lit (.bool false), .lit (.bool true), .lit (.bool true)], .agg [.lit (.bool true), .lit (.bool true), .lit (.bool false), .lit (.bool false), .lit (.bool true), .lit (.bool false), .lit (.bool false), .lit (.bool false), .lit (.bool true), .lit (.bool true)], .agg [.lit (.bool true), .lit (.bool false), .lit (.bool false), .lit (.bool false), .lit (.bool false), .lit (.bool true), .lit (.bool false), .lit (.bool false), .lit (.bool false), .lit (.bool true)], .agg [.lit (.bool true), .lit (.bool true), .lit (.bool false), .lit (.bool false), .lit (.bool true), .lit (.bool true), .lit (.bool false), .lit (.bool false), .lit (.bool true), .lit (.bool true)], .agg [.lit (.bool true), .lit (.bool true), .lit (.bool false), .lit (.bool false), .lit (.bool false), .lit (.bool false), .lit (.bool false), .lit (.bool false), .lit (.bool false), .lit (.bool true)], .agg [.lit (.bool true), .lit (.bool true), .lit (.bool false), .lit (.bool false), .lit (.bool true), .lit (.bool false), .lit (.bool false), .lit (.bool false), .lit (.bool true), .lit (.bool true)], .agg [.lit (.bool false), .lit (.bool false), .lit (.bool false), .lit (.bool true), .lit (.bool false), .lit (.bool false), .lit (.bool true), .lit (.bool false), .lit (.bool false), .lit (.bool false)], .agg [.lit (.bool true), .lit (.bool true), .lit (.bool false), .lit (.bool false), .lit (.bool true), .lit (.bool false), .lit (.bool true), .lit (.bool true), .lit (.bool false), .lit (.bool false)]]

/-- 'amnesialaw12.RejoinStarts': WHATEVER THE INPUT: true; the input reads as it did. -/
def rejoinStartsSpec : ChangeSpec := { name := "rejoinStarts", fn := fun _ => fun
  | [d1, d2, d3] => { results := [.lit (.bool true)], args := [d1, d2, d3] }
  | _ => none }
def rejoinStartsRow : OpenClaim := { program := "ytfoglingdnhjpaagreatdoor", sum := "fe35b7b49f240b78918dab9667d91cd291b68097d40e72bf98b168df8eb627ef", func := "amnesia/amnesialaw12.RejoinStarts", spec := "rejoinStarts", unfollowed := true, recurses := true, named := ["amnesia/message.uses"], apart := false, laid := [("amnesia/message.uses", laid_amnesia_message_uses)] }
def RejoinStartsSaid : Prop := rejoinStartsRow.holds Tryz.pinned (OpenSpec.ofChange rejoinStartsSpec)

/-- ITS FALSE NEIGHBOUR: 'it returns false'. Refute it at one input. -/
def rejoinStartsWrong : ChangeSpec := { name := "rejoinStarts", fn := fun _ => fun
  | [d1, d2, d3] => { results := [.lit (.bool false)], args := [d1, d2, d3] }
  | _ => none }
def RejoinStartsWrongFalsely : Prop := rejoinStartsRow.holds Tryz.pinned (OpenSpec.ofChange rejoinStartsWrong)

/-- 'amnesialaw12.RejoinRecoveries': WHATEVER THE INPUT: true; the input reads as it did. -/
def rejoinRecoveriesSpec : ChangeSpec := { name := "rejoinRecoveries", fn := fun _ => fun
  | [d1, d2, d3] => { results := [.lit (.bool true)], args := [d1, d2, d3] }
  | _ => none }
def rejoinRecoveriesRow : OpenClaim := { program := "ytfoglingdnhjpaagreatdoor", sum := "fe35b7b49f240b78918dab9667d91cd291b68097d40e72bf98b168df8eb627ef", func := "amnesia/amnesialaw12.RejoinRecoveries", spec := "rejoinRecoveries", unfollowed := true, recurses := true, named := ["amnesia/message.uses"], apart := false, laid := [("amnesia/message.uses", laid_amnesia_message_uses)] }
def RejoinRecoveriesSaid : Prop := rejoinRecoveriesRow.holds Tryz.pinned (OpenSpec.ofChange rejoinRecoveriesSpec)

/-- ITS FALSE NEIGHBOUR: 'it returns false'. Refute it at one input. -/
def rejoinRecoveriesWrong : ChangeSpec := { name := "rejoinRecoveries", fn := fun _ => fun
  | [d1, d2, d3] => { results := [.lit (.bool false)], args := [d1, d2, d3] }
  | _ => none }
def RejoinRecoveriesWrongFalsely : Prop := rejoinRecoveriesRow.holds Tryz.pinned (OpenSpec.ofChange rejoinRecoveriesWrong)

/-- 'amnesialaw12.RejoinResponses': WHATEVER THE INPUT: true; the input reads as it did. -/
def rejoinResponsesSpec : ChangeSpec := { name := "rejoinResponses", fn := fun _ => fun
  | [d1, d2, d3] => { results := [.lit (.bool true)], args := [d1, d2, d3] }
  | _ => none }
def rejoinResponsesRow : OpenClaim := { program := "ytfoglingdnhjpaagreatdoor", sum := "fe35b7b49f240b78918dab9667d91cd291b68097d40e72bf98b168df8eb627ef", func := "amnesia/amnesialaw12.RejoinResponses", spec := "rejoinResponses", unfollowed := true, recurses := true, named := ["amnesia/message.uses"], apart := false, laid := [("amnesia/message.uses", laid_amnesia_message_uses)] }
def RejoinResponsesSaid : Prop := rejoinResponsesRow.holds Tryz.pinned (OpenSpec.ofChange rejoinResponsesSpec)

/-- ITS FALSE NEIGHBOUR: 'it returns false'. Refute it at one input. -/
def rejoinResponsesWrong : ChangeSpec := { name := "rejoinResponses", fn := fun _ => fun
  | [d1, d2, d3] => { results := [.lit (.bool false)], args := [d1, d2, d3] }
  | _ => none }
def RejoinResponsesWrongFalsely : Prop := rejoinResponsesRow.holds Tryz.pinned (OpenSpec.ofChange rejoinResponsesWrong)

/-- 'amnesialaw12.RejoinKnows': WHATEVER THE INPUT: true; the input reads as it did. -/
def rejoinKnowsSpec : ChangeSpec := { name := "rejoinKnows", fn := fun _ => fun
  | [d1, d2, d3] => { results := [.lit (.bool true)], args := [d1, d2, d3] }
  | _ => none }
def rejoinKnowsRow : OpenClaim := { program := "ytfoglingdnhjpaagreatdoor", sum := "fe35b7b49f240b78918dab9667d91cd291b68097d40e72bf98b168df8eb627ef", func := "amnesia/amnesialaw12.RejoinKnows", spec := "rejoinKnows", unfollowed := true, recurses := true, named := ["amnesia/message.uses"], apart := false, laid := [("amnesia/message.uses", laid_amnesia_message_uses)] }
def RejoinKnowsSaid : Prop := rejoinKnowsRow.holds Tryz.pinned (OpenSpec.ofChange rejoinKnowsSpec)

/-- ITS FALSE NEIGHBOUR: 'it returns false'. Refute it at one input. -/
def rejoinKnowsWrong : ChangeSpec := { name := "rejoinKnows", fn := fun _ => fun
  | [d1, d2, d3] => { results := [.lit (.bool false)], args := [d1, d2, d3] }
  | _ => none }
def RejoinKnowsWrongFalsely : Prop := rejoinKnowsRow.holds Tryz.pinned (OpenSpec.ofChange rejoinKnowsWrong)

/-- 'amnesialaw12.RejoinGets': WHATEVER THE INPUT: true; the input reads as it did. -/
def rejoinGetsSpec : ChangeSpec := { name := "rejoinGets", fn := fun _ => fun
  | [d1, d2, d3] => { results := [.lit (.bool true)], args := [d1, d2, d3] }
  | _ => none }
def rejoinGetsRow : OpenClaim := { program := "ytfoglingdnhjpaagreatdoor", sum := "fe35b7b49f240b78918dab9667d91cd291b68097d40e72bf98b168df8eb627ef", func := "amnesia/amnesialaw12.RejoinGets", spec := "rejoinGets", unfollowed := true, recurses := true, named := ["amnesia/message.uses"], apart := false, laid := [("amnesia/message.uses", laid_amnesia_message_uses)] }
def RejoinGetsSaid : Prop := rejoinGetsRow.holds Tryz.pinned (OpenSpec.ofChange rejoinGetsSpec)

/-- ITS FALSE NEIGHBOUR: 'it returns false'. Refute it at one input. -/
def rejoinGetsWrong : ChangeSpec := { name := "rejoinGets", fn := fun _ => fun
  | [d1, d2, d3] => { results := [.lit (.bool false)], args := [d1, d2, d3] }
  | _ => none }
def RejoinGetsWrongFalsely : Prop := rejoinGetsRow.holds Tryz.pinned (OpenSpec.ofChange rejoinGetsWrong)

/-- 'amnesialaw12.RejoinNews': WHATEVER THE INPUT: true; the input reads as it did. -/
def rejoinNewsSpec : ChangeSpec := { name := "rejoinNews", fn := fun _ => fun
  | [d1, d2, d3] => { results := [.lit (.bool true)], args := [d1, d2, d3] }
  | _ => none }
def rejoinNewsRow : OpenClaim := { program := "ytfoglingdnhjpaagreatdoor", sum := "fe35b7b49f240b78918dab9667d91cd291b68097d40e72bf98b168df8eb627ef", func := "amnesia/amnesialaw12.RejoinNews", spec := "rejoinNews", unfollowed := true, recurses := true, named := ["amnesia/message.uses"], apart := false, laid := [("amnesia/message.uses", laid_amnesia_message_uses)] }
def RejoinNewsSaid : Prop := rejoinNewsRow.holds Tryz.pinned (OpenSpec.ofChange rejoinNewsSpec)

/-- ITS FALSE NEIGHBOUR: 'it returns false'. Refute it at one input. -/
def rejoinNewsWrong : ChangeSpec := { name := "rejoinNews", fn := fun _ => fun
  | [d1, d2, d3] => { results := [.lit (.bool false)], args := [d1, d2, d3] }
  | _ => none }
def RejoinNewsWrongFalsely : Prop := rejoinNewsRow.holds Tryz.pinned (OpenSpec.ofChange rejoinNewsWrong)

/-- 'amnesialaw12.RejoinMay': WHATEVER THE INPUT: true; the input reads as it did. -/
def rejoinMaySpec : ChangeSpec := { name := "rejoinMay", fn := fun _ => fun
  | [d1, d2, d3] => { results := [.lit (.bool true)], args := [d1, d2, d3] }
  | _ => none }
def rejoinMayRow : OpenClaim := { program := "ytfoglingdnhjpaagreatdoor", sum := "fe35b7b49f240b78918dab9667d91cd291b68097d40e72bf98b168df8eb627ef", func := "amnesia/amnesialaw12.RejoinMay", spec := "rejoinMay", unfollowed := true, recurses := true, named := ["amnesia/message.uses"], apart := false, laid := [("amnesia/message.uses", laid_amnesia_message_uses)] }
def RejoinMaySaid : Prop := rejoinMayRow.holds Tryz.pinned (OpenSpec.ofChange rejoinMaySpec)

/-- ITS FALSE NEIGHBOUR: 'it returns false'. Refute it at one input. -/
def rejoinMayWrong : ChangeSpec := { name := "rejoinMay", fn := fun _ => fun
  | [d1, d2, d3] => { results := [.lit (.bool false)], args := [d1, d2, d3] }
  | _ => none }
def RejoinMayWrongFalsely : Prop := rejoinMayRow.holds Tryz.pinned (OpenSpec.ofChange rejoinMayWrong)

/-- 'amnesialaw12.RejoinTransfers': WHATEVER THE INPUT: true; the input reads as it did. -/
def rejoinTransfersSpec : ChangeSpec := { name := "rejoinTransfers", fn := fun _ => fun
  | [d1, d2, d3] => { results := [.lit (.bool true)], args := [d1, d2, d3] }
  | _ => none }
def rejoinTransfersRow : OpenClaim := { program := "ytfoglingdnhjpaagreatdoor", sum := "fe35b7b49f240b78918dab9667d91cd291b68097d40e72bf98b168df8eb627ef", func := "amnesia/amnesialaw12.RejoinTransfers", spec := "rejoinTransfers", unfollowed := true, recurses := true, named := ["amnesia/message.uses"], apart := false, laid := [("amnesia/message.uses", laid_amnesia_message_uses)] }
def RejoinTransfersSaid : Prop := rejoinTransfersRow.holds Tryz.pinned (OpenSpec.ofChange rejoinTransfersSpec)

/-- ITS FALSE NEIGHBOUR: 'it returns false'. Refute it at one input. -/
def rejoinTransfersWrong : ChangeSpec := { name := "rejoinTransfers", fn := fun _ => fun
  | [d1, d2, d3] => { results := [.lit (.bool false)], args := [d1, d2, d3] }
  | _ => none }
def RejoinTransfersWrongFalsely : Prop := rejoinTransfersRow.holds Tryz.pinned (OpenSpec.ofChange rejoinTransfersWrong)

/-- 'amnesialaw12.RejoinAsks': WHATEVER THE INPUT: true; the input reads as it did. -/
def rejoinAsksSpec : ChangeSpec := { name := "rejoinAsks", fn := fun _ => fun
  | [d1, d2] => { results := [.lit (.bool true)], args := [d1, d2] }
  | _ => none }
def rejoinAsksRow : OpenClaim := { program := "ytfoglingdnhjpaagreatdoor", sum := "fe35b7b49f240b78918dab9667d91cd291b68097d40e72bf98b168df8eb627ef", func := "amnesia/amnesialaw12.RejoinAsks", spec := "rejoinAsks", unfollowed := true, recurses := true, named := ["amnesia/message.uses"], apart := false, laid := [("amnesia/message.uses", laid_amnesia_message_uses)] }
def RejoinAsksSaid : Prop := rejoinAsksRow.holds Tryz.pinned (OpenSpec.ofChange rejoinAsksSpec)

/-- ITS FALSE NEIGHBOUR: 'it returns false'. Refute it at one input. -/
def rejoinAsksWrong : ChangeSpec := { name := "rejoinAsks", fn := fun _ => fun
  | [d1, d2] => { results := [.lit (.bool false)], args := [d1, d2] }
  | _ => none }
def RejoinAsksWrongFalsely : Prop := rejoinAsksRow.holds Tryz.pinned (OpenSpec.ofChange rejoinAsksWrong)

/-- 'amnesialaw12.RejoinMute': WHATEVER THE INPUT: true; the input reads as it did. -/
def rejoinMuteSpec : ChangeSpec := { name := "rejoinMute", fn := fun _ => fun
  | [d1, d2, d3, d4] => { results := [.lit (.bool true)], args := [d1, d2, d3, d4] }
  | _ => none }
def rejoinMuteRow : OpenClaim := { program := "ytfoglingdnhjpaagreatdoor", sum := "fe35b7b49f240b78918dab9667d91cd291b68097d40e72bf98b168df8eb627ef", func := "amnesia/amnesialaw12.RejoinMute", spec := "rejoinMute", unfollowed := true, recurses := true, named := ["amnesia/message.uses"], apart := false, laid := [("amnesia/message.uses", laid_amnesia_message_uses)] }
def RejoinMuteSaid : Prop := rejoinMuteRow.holds Tryz.pinned (OpenSpec.ofChange rejoinMuteSpec)

/-- ITS FALSE NEIGHBOUR: 'it returns false'. Refute it at one input. -/
def rejoinMuteWrong : ChangeSpec := { name := "rejoinMute", fn := fun _ => fun
  | [d1, d2, d3, d4] => { results := [.lit (.bool false)], args := [d1, d2, d3, d4] }
  | _ => none }
def RejoinMuteWrongFalsely : Prop := rejoinMuteRow.holds Tryz.pinned (OpenSpec.ofChange rejoinMuteWrong)

/- THE SECOND FORM. 'bulk': how many values and letters a reading holds, each counted each time it is reached (what is shared counts as often as it is met; a slice's spare places count too). A statement '..UptoSaid' is the law's where the arguments, and the package variables that the reading takes, are together of bulk at most 1048576: NARROWER than '..Said'. Prove '..Said' where nothing that the law and all that it calls make is longer than what came in: it says more and counts as full. Else prove '..UptoSaid'. A law counts once. -/
mutual
def uptoBulk {H : Type} : DataW H → Nat
  | .lit (.string bytes) => bytes.length + 1
  | .lit _ => 1
  | .nil => 1
  | .ptr d => uptoBulk d + 1
  | .slice elems spare => uptoBulkAll elems + uptoBulkAll spare + 1
  | .agg parts => uptoBulkAll parts + 1
  | .iface _ d => uptoBulk d + 1
  | .map entries => uptoBulkEntries entries + 1
  | .held _ => 1
def uptoBulkAll {H : Type} : List (DataW H) → Nat
  | [] => 0
  | d :: r => uptoBulk d + uptoBulkAll r
def uptoBulkEntries {H : Type} : List (Lit × DataW H) → Nat
  | [] => 0
  | x :: r => uptoBulkEntry x + uptoBulkEntries r
def uptoBulkEntry {H : Type} : Lit × DataW H → Nat
  | (.string bytes, d) => bytes.length + uptoBulk d + 1
  | (_, d) => uptoBulk d + 1
 end
def uptoSmall : (H : Type) → List (DataW H) → Bool := fun _ ds => decide (uptoBulkAll ds ≤ 1048576)
def OpenSpec.upto (s : _root_.Go.ChangeSpec) : _root_.Go.OpenSpec := { _root_.Go.OpenSpec.ofChange s with cond := some uptoSmall }

/-- 'amnesialaw12.RejoinStarts', WHERE WHAT IT READS IS OF BULK AT MOST 1048576: true; the input reads as it did. -/
def rejoinStartsUptoRow : OpenClaim := { program := "ytfoglingdnhjpaagreatdoor", sum := "fe35b7b49f240b78918dab9667d91cd291b68097d40e72bf98b168df8eb627ef", func := "amnesia/amnesialaw12.RejoinStarts", spec := "rejoinStarts", unfollowed := true, recurses := true, named := ["amnesia/message.uses"], apart := false, laid := [("amnesia/message.uses", laid_amnesia_message_uses)], narrowed := true }
def RejoinStartsUptoSaid : Prop := rejoinStartsUptoRow.holds Tryz.pinned (OpenSpec.upto rejoinStartsSpec)

/-- 'amnesialaw12.RejoinRecoveries', WHERE WHAT IT READS IS OF BULK AT MOST 1048576: true; the input reads as it did. -/
def rejoinRecoveriesUptoRow : OpenClaim := { program := "ytfoglingdnhjpaagreatdoor", sum := "fe35b7b49f240b78918dab9667d91cd291b68097d40e72bf98b168df8eb627ef", func := "amnesia/amnesialaw12.RejoinRecoveries", spec := "rejoinRecoveries", unfollowed := true, recurses := true, named := ["amnesia/message.uses"], apart := false, laid := [("amnesia/message.uses", laid_amnesia_message_uses)], narrowed := true }
def RejoinRecoveriesUptoSaid : Prop := rejoinRecoveriesUptoRow.holds Tryz.pinned (OpenSpec.upto rejoinRecoveriesSpec)

/-- 'amnesialaw12.RejoinResponses', WHERE WHAT IT READS IS OF BULK AT MOST 1048576: true; the input reads as it did. -/
def rejoinResponsesUptoRow : OpenClaim := { program := "ytfoglingdnhjpaagreatdoor", sum := "fe35b7b49f240b78918dab9667d91cd291b68097d40e72bf98b168df8eb627ef", func := "amnesia/amnesialaw12.RejoinResponses", spec := "rejoinResponses", unfollowed := true, recurses := true, named := ["amnesia/message.uses"], apart := false, laid := [("amnesia/message.uses", laid_amnesia_message_uses)], narrowed := true }
def RejoinResponsesUptoSaid : Prop := rejoinResponsesUptoRow.holds Tryz.pinned (OpenSpec.upto rejoinResponsesSpec)

/-- 'amnesialaw12.RejoinKnows', WHERE WHAT IT READS IS OF BULK AT MOST 1048576: true; the input reads as it did. -/
def rejoinKnowsUptoRow : OpenClaim := { program := "ytfoglingdnhjpaagreatdoor", sum := "fe35b7b49f240b78918dab9667d91cd291b68097d40e72bf98b168df8eb627ef", func := "amnesia/amnesialaw12.RejoinKnows", spec := "rejoinKnows", unfollowed := true, recurses := true, named := ["amnesia/message.uses"], apart := false, laid := [("amnesia/message.uses", laid_amnesia_message_uses)], narrowed := true }
def RejoinKnowsUptoSaid : Prop := rejoinKnowsUptoRow.holds Tryz.pinned (OpenSpec.upto rejoinKnowsSpec)

/-- 'amnesialaw12.RejoinGets', WHERE WHAT IT READS IS OF BULK AT MOST 1048576: true; the input reads as it did. -/
def rejoinGetsUptoRow : OpenClaim := { program := "ytfoglingdnhjpaagreatdoor", sum := "fe35b7b49f240b78918dab9667d91cd291b68097d40e72bf98b168df8eb627ef", func := "amnesia/amnesialaw12.RejoinGets", spec := "rejoinGets", unfollowed := true, recurses := true, named := ["amnesia/message.uses"], apart := false, laid := [("amnesia/message.uses", laid_amnesia_message_uses)], narrowed := true }
def RejoinGetsUptoSaid : Prop := rejoinGetsUptoRow.holds Tryz.pinned (OpenSpec.upto rejoinGetsSpec)

/-- 'amnesialaw12.RejoinNews', WHERE WHAT IT READS IS OF BULK AT MOST 1048576: true; the input reads as it did. -/
def rejoinNewsUptoRow : OpenClaim := { program := "ytfoglingdnhjpaagreatdoor", sum := "fe35b7b49f240b78918dab9667d91cd291b68097d40e72bf98b168df8eb627ef", func := "amnesia/amnesialaw12.RejoinNews", spec := "rejoinNews", unfollowed := true, recurses := true, named := ["amnesia/message.uses"], apart := false, laid := [("amnesia/message.uses", laid_amnesia_message_uses)], narrowed := true }
def RejoinNewsUptoSaid : Prop := rejoinNewsUptoRow.holds Tryz.pinned (OpenSpec.upto rejoinNewsSpec)

/-- 'amnesialaw12.RejoinMay', WHERE WHAT IT READS IS OF BULK AT MOST 1048576: true; the input reads as it did. -/
def rejoinMayUptoRow : OpenClaim := { program := "ytfoglingdnhjpaagreatdoor", sum := "fe35b7b49f240b78918dab9667d91cd291b68097d40e72bf98b168df8eb627ef", func := "amnesia/amnesialaw12.RejoinMay", spec := "rejoinMay", unfollowed := true, recurses := true, named := ["amnesia/message.uses"], apart := false, laid := [("amnesia/message.uses", laid_amnesia_message_uses)], narrowed := true }
def RejoinMayUptoSaid : Prop := rejoinMayUptoRow.holds Tryz.pinned (OpenSpec.upto rejoinMaySpec)

/-- 'amnesialaw12.RejoinTransfers', WHERE WHAT IT READS IS OF BULK AT MOST 1048576: true; the input reads as it did. -/
def rejoinTransfersUptoRow : OpenClaim := { program := "ytfoglingdnhjpaagreatdoor", sum := "fe35b7b49f240b78918dab9667d91cd291b68097d40e72bf98b168df8eb627ef", func := "amnesia/amnesialaw12.RejoinTransfers", spec := "rejoinTransfers", unfollowed := true, recurses := true, named := ["amnesia/message.uses"], apart := false, laid := [("amnesia/message.uses", laid_amnesia_message_uses)], narrowed := true }
def RejoinTransfersUptoSaid : Prop := rejoinTransfersUptoRow.holds Tryz.pinned (OpenSpec.upto rejoinTransfersSpec)

/-- 'amnesialaw12.RejoinAsks', WHERE WHAT IT READS IS OF BULK AT MOST 1048576: true; the input reads as it did. -/
def rejoinAsksUptoRow : OpenClaim := { program := "ytfoglingdnhjpaagreatdoor", sum := "fe35b7b49f240b78918dab9667d91cd291b68097d40e72bf98b168df8eb627ef", func := "amnesia/amnesialaw12.RejoinAsks", spec := "rejoinAsks", unfollowed := true, recurses := true, named := ["amnesia/message.uses"], apart := false, laid := [("amnesia/message.uses", laid_amnesia_message_uses)], narrowed := true }
def RejoinAsksUptoSaid : Prop := rejoinAsksUptoRow.holds Tryz.pinned (OpenSpec.upto rejoinAsksSpec)

/-- 'amnesialaw12.RejoinMute', WHERE WHAT IT READS IS OF BULK AT MOST 1048576: true; the input reads as it did. -/
def rejoinMuteUptoRow : OpenClaim := { program := "ytfoglingdnhjpaagreatdoor", sum := "fe35b7b49f240b78918dab9667d91cd291b68097d40e72bf98b168df8eb627ef", func := "amnesia/amnesialaw12.RejoinMute", spec := "rejoinMute", unfollowed := true, recurses := true, named := ["amnesia/message.uses"], apart := false, laid := [("amnesia/message.uses", laid_amnesia_message_uses)], narrowed := true }
def RejoinMuteUptoSaid : Prop := rejoinMuteUptoRow.holds Tryz.pinned (OpenSpec.upto rejoinMuteSpec)

end Rows
end Go.Proofs.YtfoglingdnhjpaaGreatDoor
