/-
  NARROWER THAN 'FOR EVERY INPUT', by the rows' own cells (each row's printed sentence says how): CoreAdmits: laid · CoreVoices: laid · CorePatience: laid · CoreKnows: laid · CoreChecks: laid · CoreOwn: laid.
  DERIVED. THE GIVEN ROWS OF THIS SEAT. 6 by the template 'for every input the law returns true; each argument reads behind the call as it read before'; 0 by the template 'total and deterministic' (their statements: YtponcchkfmbicaaGreatDoorTotals.lean).
  GIVEN WITH THE SEED: the statements are not yours to turn. If you find one false, say at which input.
  Laid BY PROGRAM, IN A SANDBOX (cutbox-rows.mjs): the forced cells as the released guide's own fill.sh prints them over the translation 608bef8e7f0562ea… (all of the seat's roots in one cut). By AI agents, Wed Nov 11 2026. No macro, syntax, notation, axiom, sorry.
-/
import Derived.Test.YtponcchkfmbicaaGreatDoorChecked
import GoSem.Claim
import GoSem.ClaimJoined
import GoSem.ClaimMapViews
import Derived.JoinedTies
import Derived.KernelRfl
namespace Go.Proofs.YtponcchkfmbicaaGreatDoor
/- THE CELL 'sum', in the pinned program and in every row, IS THE sha256 OF THE DUMP (.gsa) THAT YtponcchkfmbicaaGreatDoorProg.lean LOADS. Nothing in Lean hashes anything: it is a label: what it is worth is what the hold of that sum in a sandbox is worth. -/
noncomputable def Tryz.pinned : Pinned := { name := "ytponcchkfmbicaagreatdoor", sum := "608bef8e7f0562ea5b2c0579b8aab54dc5c7cea1459eda5bbe190ce98ac293b0", checked := Tryz.checked }
namespace Rows
def none {H : Type} : Left H := { results := [], args := [] }

/- WHAT THE LISTED PACKAGE-LEVEL VARIABLES READ AS WHEN THE CALL BEGINS. Each datum BY PROGRAM (the guide's laid-datum.mjs) off the statement by which the dump's own 'gosem.cut.vars' lays the variable. In a bare row this is a premise. The card (YtponcchkfmbicaaGreatDoorCards.lean) ties it to the program's text. -/
def laid_amnesia_message_uses {H : Type} : DataW H := .agg [.agg [.lit (.bool false), .lit (.bool false), .lit (.bool false), .lit (.bool false), .lit (.bool false), .lit (.bool false), .lit (.bool false), .lit (.bool false), .lit (.bool false), .lit (.bool false)], .agg [.lit (.bool false), .lit (.bool false), .lit (.bool false), .lit (.bool false), .lit (.bool false), .lit (.bool false), .lit (.bool true), .lit (.bool false), .lit (.bool false), .lit (.bool false)], .agg [.lit (.bool true), .lit (.bool true), .lit (.bool false), .lit (.bool true), .lit (.bool false), .lit (.bool false), .lit (.bool true), .lit (.bool true), .lit (.bool false), .lit (.bool false)], .agg [.lit (.bool true), .lit (.bool true), .lit (.bool false), .lit (.bool true), .lit (.bool true), .lit (.bool false), .lit (.bool true), .lit (.bool false), .lit (.bool false), .lit (.bool true)], .agg [.lit (.bool true), .lit (.bool true), .lit (.bool false), .lit (.bool true), .lit (.bool false), .lit (.bool false), .lit (.bool false), .lit (.bool false), .lit (.bool false), .lit (.bool true)], .agg [.lit (.bool true), .lit (.bool true), .lit (.bool false), .lit (.bool false), .lit (.bool true), .lit (.bool false), .lit (.bool false), .lit (.bool false), .lit (.bool false), .lit (.bool true)], .agg [.lit (.bool true), .lit (.bool true), .lit (.bool false), .lit (.bool false), .lit (.bool false), .lit (.bool false), .lit (.bool false), .lit (.bool false), .lit (.bool false), .lit (.bool true)], .agg [.lit (.bool true), .lit (.bool true), .lit (.bool true), .lit (.bool false), .lit (.bool true), .lit (.bool false), .lit (.bool false), .lit (.bool false), .lit (.bool true), .lit (.bool true)], .agg [.lit (.bool true), .lit (.bool true), .lit (.bool false), .lit (.bool false), .lit (.bool true), .lit (.bool false), .lit (.bool false), .lit (.bool false), .lit (.bool true), .lit (.bool true)], .agg [.lit (.bool true), .lit (.bool false), .lit (.bool false), .lit (.bool false), .lit (.bool false), .lit (.bool true), .lit (.bool false), .lit (.bool false), .lit (.bool false), .lit (.bool true)], .agg [.lit (.bool true), .lit (.bool true), .lit (.bool false), .lit (.bool false), .lit (.bool true), .lit (.bool true), .lit (.bool false), .lit (.bool false), .lit (.bool true), .lit (.bool true)], .agg [.lit (.bool true), .lit (.bool true), .lit (.bool false), .lit (.bool false), .lit (.bool false), .lit (.bool false), .lit (.bool false), .lit (.bool false), .lit (.bool false), .lit (.bool true)], .agg [.lit (.bool true), .lit (.bool true), .lit (.bool false), .lit (.bool false), .lit (.bool true), .lit (.bool false), .lit (.bool false), .lit (.bool false), .lit (.bool true), .lit (.bool true)], .agg [.lit (.bool false), .lit (.bool false), .lit (.bool false), .lit (.bool true), .lit (.bool false), .lit (.bool false), .lit (.bool true), .lit (.bool false), .lit (.bool false), .lit (.bool false)], .agg [.lit (.bool true), .lit (.bool true), .lit (.bool false), .lit (.bool false), .lit (.bool true), .lit (.bool false), .lit (.bool true), .lit (.bool true), .lit (.bool false), .lit (.bool false)]]

/-- 'amnesialaw09.CoreAdmits': WHATEVER THE INPUT: true; the input reads as it did. -/
def coreAdmitsSpec : ChangeSpec := { name := "coreAdmits", fn := fun _ => fun
  | [d1, d2, d3] => { results := [.lit (.bool true)], args := [d1, d2, d3] }
  | _ => none }
def coreAdmitsRow : OpenClaim := { program := "ytponcchkfmbicaagreatdoor", sum := "608bef8e7f0562ea5b2c0579b8aab54dc5c7cea1459eda5bbe190ce98ac293b0", func := "amnesia/amnesialaw09.CoreAdmits", spec := "coreAdmits", unfollowed := true, recurses := true, named := ["amnesia/message.uses"], apart := false, laid := [("amnesia/message.uses", laid_amnesia_message_uses)] }
def CoreAdmitsSaid : Prop := coreAdmitsRow.holds Tryz.pinned (OpenSpec.ofChange coreAdmitsSpec)

/-- ITS FALSE NEIGHBOUR: 'it returns false'. Refute it at one input. -/
def coreAdmitsWrong : ChangeSpec := { name := "coreAdmits", fn := fun _ => fun
  | [d1, d2, d3] => { results := [.lit (.bool false)], args := [d1, d2, d3] }
  | _ => none }
def CoreAdmitsWrongFalsely : Prop := coreAdmitsRow.holds Tryz.pinned (OpenSpec.ofChange coreAdmitsWrong)

/-- 'amnesialaw09.CoreVoices': WHATEVER THE INPUT: true; the input reads as it did. -/
def coreVoicesSpec : ChangeSpec := { name := "coreVoices", fn := fun _ => fun
  | [d1, d2, d3] => { results := [.lit (.bool true)], args := [d1, d2, d3] }
  | _ => none }
def coreVoicesRow : OpenClaim := { program := "ytponcchkfmbicaagreatdoor", sum := "608bef8e7f0562ea5b2c0579b8aab54dc5c7cea1459eda5bbe190ce98ac293b0", func := "amnesia/amnesialaw09.CoreVoices", spec := "coreVoices", unfollowed := true, recurses := true, named := ["amnesia/message.uses"], apart := false, laid := [("amnesia/message.uses", laid_amnesia_message_uses)] }
def CoreVoicesSaid : Prop := coreVoicesRow.holds Tryz.pinned (OpenSpec.ofChange coreVoicesSpec)

/-- ITS FALSE NEIGHBOUR: 'it returns false'. Refute it at one input. -/
def coreVoicesWrong : ChangeSpec := { name := "coreVoices", fn := fun _ => fun
  | [d1, d2, d3] => { results := [.lit (.bool false)], args := [d1, d2, d3] }
  | _ => none }
def CoreVoicesWrongFalsely : Prop := coreVoicesRow.holds Tryz.pinned (OpenSpec.ofChange coreVoicesWrong)

/-- 'amnesialaw09.CorePatience': WHATEVER THE INPUT: true; the input reads as it did. -/
def corePatienceSpec : ChangeSpec := { name := "corePatience", fn := fun _ => fun
  | [d1, d2] => { results := [.lit (.bool true)], args := [d1, d2] }
  | _ => none }
def corePatienceRow : OpenClaim := { program := "ytponcchkfmbicaagreatdoor", sum := "608bef8e7f0562ea5b2c0579b8aab54dc5c7cea1459eda5bbe190ce98ac293b0", func := "amnesia/amnesialaw09.CorePatience", spec := "corePatience", unfollowed := true, recurses := true, named := ["amnesia/message.uses"], apart := false, laid := [("amnesia/message.uses", laid_amnesia_message_uses)] }
def CorePatienceSaid : Prop := corePatienceRow.holds Tryz.pinned (OpenSpec.ofChange corePatienceSpec)

/-- ITS FALSE NEIGHBOUR: 'it returns false'. Refute it at one input. -/
def corePatienceWrong : ChangeSpec := { name := "corePatience", fn := fun _ => fun
  | [d1, d2] => { results := [.lit (.bool false)], args := [d1, d2] }
  | _ => none }
def CorePatienceWrongFalsely : Prop := corePatienceRow.holds Tryz.pinned (OpenSpec.ofChange corePatienceWrong)

/-- 'amnesialaw09.CoreKnows': WHATEVER THE INPUT: true; the input reads as it did. -/
def coreKnowsSpec : ChangeSpec := { name := "coreKnows", fn := fun _ => fun
  | [d1, d2, d3] => { results := [.lit (.bool true)], args := [d1, d2, d3] }
  | _ => none }
def coreKnowsRow : OpenClaim := { program := "ytponcchkfmbicaagreatdoor", sum := "608bef8e7f0562ea5b2c0579b8aab54dc5c7cea1459eda5bbe190ce98ac293b0", func := "amnesia/amnesialaw09.CoreKnows", spec := "coreKnows", unfollowed := true, recurses := true, named := ["amnesia/message.uses"], apart := false, laid := [("amnesia/message.uses", laid_amnesia_message_uses)] }
def CoreKnowsSaid : Prop := coreKnowsRow.holds Tryz.pinned (OpenSpec.ofChange coreKnowsSpec)

/-- ITS FALSE NEIGHBOUR: 'it returns false'. Refute it at one input. -/
def coreKnowsWrong : ChangeSpec := { name := "coreKnows", fn := fun _ => fun
  | [d1, d2, d3] => { results := [.lit (.bool false)], args := [d1, d2, d3] }
  | _ => none }
def CoreKnowsWrongFalsely : Prop := coreKnowsRow.holds Tryz.pinned (OpenSpec.ofChange coreKnowsWrong)

/-- 'amnesialaw09.CoreChecks': WHATEVER THE INPUT: true; the input reads as it did. -/
def coreChecksSpec : ChangeSpec := { name := "coreChecks", fn := fun _ => fun
  | [d1, d2, d3] => { results := [.lit (.bool true)], args := [d1, d2, d3] }
  | _ => none }
def coreChecksRow : OpenClaim := { program := "ytponcchkfmbicaagreatdoor", sum := "608bef8e7f0562ea5b2c0579b8aab54dc5c7cea1459eda5bbe190ce98ac293b0", func := "amnesia/amnesialaw09.CoreChecks", spec := "coreChecks", unfollowed := true, recurses := true, named := ["amnesia/message.uses"], apart := false, laid := [("amnesia/message.uses", laid_amnesia_message_uses)] }
def CoreChecksSaid : Prop := coreChecksRow.holds Tryz.pinned (OpenSpec.ofChange coreChecksSpec)

/-- ITS FALSE NEIGHBOUR: 'it returns false'. Refute it at one input. -/
def coreChecksWrong : ChangeSpec := { name := "coreChecks", fn := fun _ => fun
  | [d1, d2, d3] => { results := [.lit (.bool false)], args := [d1, d2, d3] }
  | _ => none }
def CoreChecksWrongFalsely : Prop := coreChecksRow.holds Tryz.pinned (OpenSpec.ofChange coreChecksWrong)

/-- 'amnesialaw09.CoreOwn': WHATEVER THE INPUT: true; the input reads as it did. -/
def coreOwnSpec : ChangeSpec := { name := "coreOwn", fn := fun _ => fun
  | [d1, d2, d3, d4] => { results := [.lit (.bool true)], args := [d1, d2, d3, d4] }
  | _ => none }
def coreOwnRow : OpenClaim := { program := "ytponcchkfmbicaagreatdoor", sum := "608bef8e7f0562ea5b2c0579b8aab54dc5c7cea1459eda5bbe190ce98ac293b0", func := "amnesia/amnesialaw09.CoreOwn", spec := "coreOwn", unfollowed := true, recurses := true, named := ["amnesia/message.uses"], apart := false, laid := [("amnesia/message.uses", laid_amnesia_message_uses)] }
def CoreOwnSaid : Prop := coreOwnRow.holds Tryz.pinned (OpenSpec.ofChange coreOwnSpec)

/-- ITS FALSE NEIGHBOUR: 'it returns false'. Refute it at one input. -/
def coreOwnWrong : ChangeSpec := { name := "coreOwn", fn := fun _ => fun
  | [d1, d2, d3, d4] => { results := [.lit (.bool false)], args := [d1, d2, d3, d4] }
  | _ => none }
def CoreOwnWrongFalsely : Prop := coreOwnRow.holds Tryz.pinned (OpenSpec.ofChange coreOwnWrong)

/- THE SECOND FORM. 'bulk': how many values and letters a reading holds, each counted each time it is reached (what is shared counts as often as it is met; a slice's spare places count too). A statement '..UptoSaid' is the law's where the arguments, and the package variables that the reading takes, are together of bulk at most 1048576: NARROWER than '..Said'. Prove '..Said' where nothing that the law and all that it calls make is longer than what came in: it says more and counts as full. Else prove '..UptoSaid'. A law counts once. -/
mutual
def uptoBulk {H : Type} : DataW H → Nat
  | .lit (.string bytes) => bytes.length + 1
  | .lit _ => 1
  | .nil => 1
  | .ptr d => uptoBulk d + 1
  | .slice elems spare => uptoBulkAll elems + uptoBulkAll spare + 1
  | .agg parts => uptoBulkAll parts + 1
  | .iface _ d => uptoBulk d + 1
  | .map entries => uptoBulkEntries entries + 1
  | .held _ => 1
def uptoBulkAll {H : Type} : List (DataW H) → Nat
  | [] => 0
  | d :: r => uptoBulk d + uptoBulkAll r
def uptoBulkEntries {H : Type} : List (Lit × DataW H) → Nat
  | [] => 0
  | x :: r => uptoBulkEntry x + uptoBulkEntries r
def uptoBulkEntry {H : Type} : Lit × DataW H → Nat
  | (.string bytes, d) => bytes.length + uptoBulk d + 1
  | (_, d) => uptoBulk d + 1
 end
def uptoSmall : (H : Type) → List (DataW H) → Bool := fun _ ds => decide (uptoBulkAll ds ≤ 1048576)
def OpenSpec.upto (s : _root_.Go.ChangeSpec) : _root_.Go.OpenSpec := { _root_.Go.OpenSpec.ofChange s with cond := some uptoSmall }

/-- 'amnesialaw09.CoreAdmits', WHERE WHAT IT READS IS OF BULK AT MOST 1048576: true; the input reads as it did. -/
def coreAdmitsUptoRow : OpenClaim := { program := "ytponcchkfmbicaagreatdoor", sum := "608bef8e7f0562ea5b2c0579b8aab54dc5c7cea1459eda5bbe190ce98ac293b0", func := "amnesia/amnesialaw09.CoreAdmits", spec := "coreAdmits", unfollowed := true, recurses := true, named := ["amnesia/message.uses"], apart := false, laid := [("amnesia/message.uses", laid_amnesia_message_uses)], narrowed := true }
def CoreAdmitsUptoSaid : Prop := coreAdmitsUptoRow.holds Tryz.pinned (OpenSpec.upto coreAdmitsSpec)

/-- 'amnesialaw09.CoreVoices', WHERE WHAT IT READS IS OF BULK AT MOST 1048576: true; the input reads as it did. -/
def coreVoicesUptoRow : OpenClaim := { program := "ytponcchkfmbicaagreatdoor", sum := "608bef8e7f0562ea5b2c0579b8aab54dc5c7cea1459eda5bbe190ce98ac293b0", func := "amnesia/amnesialaw09.CoreVoices", spec := "coreVoices", unfollowed := true, recurses := true, named := ["amnesia/message.uses"], apart := false, laid := [("amnesia/message.uses", laid_amnesia_message_uses)], narrowed := true }
def CoreVoicesUptoSaid : Prop := coreVoicesUptoRow.holds Tryz.pinned (OpenSpec.upto coreVoicesSpec)

/-- 'amnesialaw09.CorePatience', WHERE WHAT IT READS IS OF BULK AT MOST 1048576: true; the input reads as it did. -/
def corePatienceUptoRow : OpenClaim := { program := "ytponcchkfmbicaagreatdoor", sum := "608bef8e7f0562ea5b2c0579b8aab54dc5c7cea1459eda5bbe190ce98ac293b0", func := "amnesia/amnesialaw09.CorePatience", spec := "corePatience", unfollowed := true, recurses := true, named := ["amnesia/message.uses"], apart := false, laid := [("amnesia/message.uses", laid_amnesia_message_uses)], narrowed := true }
def CorePatienceUptoSaid : Prop := corePatienceUptoRow.holds Tryz.pinned (OpenSpec.upto corePatienceSpec)

/-- 'amnesialaw09.CoreKnows', WHERE WHAT IT READS IS OF BULK AT MOST 1048576: true; the input reads as it did. -/
def coreKnowsUptoRow : OpenClaim := { program := "ytponcchkfmbicaagreatdoor", sum := "608bef8e7f0562ea5b2c0579b8aab54dc5c7cea1459eda5bbe190ce98ac293b0", func := "amnesia/amnesialaw09.CoreKnows", spec := "coreKnows", unfollowed := true, recurses := true, named := ["amnesia/message.uses"], apart := false, laid := [("amnesia/message.uses", laid_amnesia_message_uses)], narrowed := true }
def CoreKnowsUptoSaid : Prop := coreKnowsUptoRow.holds Tryz.pinned (OpenSpec.upto coreKnowsSpec)

/-- 'amnesialaw09.CoreChecks', WHERE WHAT IT READS IS OF BULK AT MOST 1048576: true; the input reads as it did. -/
def coreChecksUptoRow : OpenClaim := { program := "ytponcchkfmbicaagreatdoor", sum := "608bef8e7f0562ea5b2c0579b8aab54dc5c7cea1459eda5bbe190ce98ac293b0", func := "amnesia/amnesialaw09.CoreChecks", spec := "coreChecks", unfollowed := true, recurses := true, named := ["amnesia/message.uses"], apart := false, laid := [("amnesia/message.uses", laid_amnesia_message_uses)], narrowed := true }
def CoreChecksUptoSaid : Prop := coreChecksUptoRow.holds Tryz.pinned (OpenSpec.upto coreChecksSpec)

/-- 'amnesialaw09.CoreOwn', WHERE WHAT IT READS IS OF BULK AT MOST 1048576: true; the input reads as it did. -/
def coreOwnUptoRow : OpenClaim := { program := "ytponcchkfmbicaagreatdoor", sum := "608bef8e7f0562ea5b2c0579b8aab54dc5c7cea1459eda5bbe190ce98ac293b0", func := "amnesia/amnesialaw09.CoreOwn", spec := "coreOwn", unfollowed := true, recurses := true, named := ["amnesia/message.uses"], apart := false, laid := [("amnesia/message.uses", laid_amnesia_message_uses)], narrowed := true }
def CoreOwnUptoSaid : Prop := coreOwnUptoRow.holds Tryz.pinned (OpenSpec.upto coreOwnSpec)

end Rows
end Go.Proofs.YtponcchkfmbicaaGreatDoor
