/-
  No cell of these rows narrows 'for every input' (looked for: loops, veiled, ifaces, maps, wideKeys, modest, calm, conditions, laid).
  DERIVED. THE GIVEN ROWS OF THIS SEAT. 3 by the template 'for every input the law returns true; each argument reads behind the call as it read before'; 0 by the template 'total and deterministic' (their statements: YtponcchkfmbicaaTotals.lean).
  GIVEN WITH THE SEED: the statements are not yours to turn. If you find one false, say at which input.
  Laid BY PROGRAM, IN A SANDBOX (cutbox-rows.mjs): the forced cells as the released guide's own fill.sh prints them over the translation babe3ca1674e8ed0… (all of the seat's roots in one cut). By AI agents, Wed Nov 11 2026. No macro, syntax, notation, axiom, sorry.
-/
import Derived.Test.YtponcchkfmbicaaChecked
import GoSem.Claim
import GoSem.ClaimJoined
import GoSem.ClaimMapViews
import Derived.JoinedTies
import Derived.KernelRfl
namespace Go.Proofs.Ytponcchkfmbicaa
/- THE CELL 'sum', in the pinned program and in every row, IS THE sha256 OF THE DUMP (.gsa) THAT YtponcchkfmbicaaProg.lean LOADS. Nothing in Lean hashes anything: it is a label: what it is worth is what the hold of that sum in a sandbox is worth. -/
noncomputable def Try.pinned : Pinned := { name := "ytponcchkfmbicaa", sum := "babe3ca1674e8ed08a3f323deebe5988885d59bd0b57a707c82a58cbac8e0fb0", checked := Try.checked }
namespace Rows
def none {H : Type} : Left H := { results := [], args := [] }

/-- 'amnesialaw09.CoreWaits': WHATEVER THE INPUT: true; the input reads as it did. -/
def coreWaitsSpec : ChangeSpec := { name := "coreWaits", fn := fun _ => fun
  | [d1, d2] => { results := [.lit (.bool true)], args := [d1, d2] }
  | _ => none }
def coreWaitsRow : OpenClaim := { program := "ytponcchkfmbicaa", sum := "babe3ca1674e8ed08a3f323deebe5988885d59bd0b57a707c82a58cbac8e0fb0", func := "amnesia/amnesialaw09.CoreWaits", spec := "coreWaits", unfollowed := true, recurses := true, apart := false }
def CoreWaitsSaid : Prop := coreWaitsRow.holds Try.pinned (OpenSpec.ofChange coreWaitsSpec)

/-- ITS FALSE NEIGHBOUR: 'it returns false'. Refute it at one input. -/
def coreWaitsWrong : ChangeSpec := { name := "coreWaits", fn := fun _ => fun
  | [d1, d2] => { results := [.lit (.bool false)], args := [d1, d2] }
  | _ => none }
def CoreWaitsWrongFalsely : Prop := coreWaitsRow.holds Try.pinned (OpenSpec.ofChange coreWaitsWrong)

/-- 'amnesialaw09.CoreSends': WHATEVER THE INPUT: true; the input reads as it did. -/
def coreSendsSpec : ChangeSpec := { name := "coreSends", fn := fun _ => fun
  | [d1, d2, d3, d4] => { results := [.lit (.bool true)], args := [d1, d2, d3, d4] }
  | _ => none }
def coreSendsRow : OpenClaim := { program := "ytponcchkfmbicaa", sum := "babe3ca1674e8ed08a3f323deebe5988885d59bd0b57a707c82a58cbac8e0fb0", func := "amnesia/amnesialaw09.CoreSends", spec := "coreSends", unfollowed := true, recurses := true, apart := false }
def CoreSendsSaid : Prop := coreSendsRow.holds Try.pinned (OpenSpec.ofChange coreSendsSpec)

/-- ITS FALSE NEIGHBOUR: 'it returns false'. Refute it at one input. -/
def coreSendsWrong : ChangeSpec := { name := "coreSends", fn := fun _ => fun
  | [d1, d2, d3, d4] => { results := [.lit (.bool false)], args := [d1, d2, d3, d4] }
  | _ => none }
def CoreSendsWrongFalsely : Prop := coreSendsRow.holds Try.pinned (OpenSpec.ofChange coreSendsWrong)

/-- 'amnesialaw09.CoreCarries': WHATEVER THE INPUT: true; the input reads as it did. -/
def coreCarriesSpec : ChangeSpec := { name := "coreCarries", fn := fun _ => fun
  | [d1, d2, d3] => { results := [.lit (.bool true)], args := [d1, d2, d3] }
  | _ => none }
def coreCarriesRow : OpenClaim := { program := "ytponcchkfmbicaa", sum := "babe3ca1674e8ed08a3f323deebe5988885d59bd0b57a707c82a58cbac8e0fb0", func := "amnesia/amnesialaw09.CoreCarries", spec := "coreCarries", unfollowed := true, recurses := true, apart := false }
def CoreCarriesSaid : Prop := coreCarriesRow.holds Try.pinned (OpenSpec.ofChange coreCarriesSpec)

/-- ITS FALSE NEIGHBOUR: 'it returns false'. Refute it at one input. -/
def coreCarriesWrong : ChangeSpec := { name := "coreCarries", fn := fun _ => fun
  | [d1, d2, d3] => { results := [.lit (.bool false)], args := [d1, d2, d3] }
  | _ => none }
def CoreCarriesWrongFalsely : Prop := coreCarriesRow.holds Try.pinned (OpenSpec.ofChange coreCarriesWrong)

/- THE SECOND FORM. 'bulk': how many values and letters a reading holds, each counted each time it is reached (what is shared counts as often as it is met; a slice's spare places count too). A statement '..UptoSaid' is the law's where the arguments, and the package variables that the reading takes, are together of bulk at most 1048576: NARROWER than '..Said'. Prove '..Said' where nothing that the law and all that it calls make is longer than what came in: it says more and counts as full. Else prove '..UptoSaid'. A law counts once. -/
mutual
def uptoBulk {H : Type} : DataW H → Nat
  | .lit (.string bytes) => bytes.length + 1
  | .lit _ => 1
  | .nil => 1
  | .ptr d => uptoBulk d + 1
  | .slice elems spare => uptoBulkAll elems + uptoBulkAll spare + 1
  | .agg parts => uptoBulkAll parts + 1
  | .iface _ d => uptoBulk d + 1
  | .map entries => uptoBulkEntries entries + 1
  | .held _ => 1
def uptoBulkAll {H : Type} : List (DataW H) → Nat
  | [] => 0
  | d :: r => uptoBulk d + uptoBulkAll r
def uptoBulkEntries {H : Type} : List (Lit × DataW H) → Nat
  | [] => 0
  | x :: r => uptoBulkEntry x + uptoBulkEntries r
def uptoBulkEntry {H : Type} : Lit × DataW H → Nat
  | (.string bytes, d) => bytes.length + uptoBulk d + 1
  | (_, d) => uptoBulk d + 1
 end
def uptoSmall : (H : Type) → List (DataW H) → Bool := fun _ ds => decide (uptoBulkAll ds ≤ 1048576)
def OpenSpec.upto (s : _root_.Go.ChangeSpec) : _root_.Go.OpenSpec := { _root_.Go.OpenSpec.ofChange s with cond := some uptoSmall }

/-- 'amnesialaw09.CoreWaits', WHERE WHAT IT READS IS OF BULK AT MOST 1048576: true; the input reads as it did. -/
def coreWaitsUptoRow : OpenClaim := { program := "ytponcchkfmbicaa", sum := "babe3ca1674e8ed08a3f323deebe5988885d59bd0b57a707c82a58cbac8e0fb0", func := "amnesia/amnesialaw09.CoreWaits", spec := "coreWaits", unfollowed := true, recurses := true, apart := false, narrowed := true }
def CoreWaitsUptoSaid : Prop := coreWaitsUptoRow.holds Try.pinned (OpenSpec.upto coreWaitsSpec)

/-- 'amnesialaw09.CoreSends', WHERE WHAT IT READS IS OF BULK AT MOST 1048576: true; the input reads as it did. -/
def coreSendsUptoRow : OpenClaim := { program := "ytponcchkfmbicaa", sum := "babe3ca1674e8ed08a3f323deebe5988885d59bd0b57a707c82a58cbac8e0fb0", func := "amnesia/amnesialaw09.CoreSends", spec := "coreSends", unfollowed := true, recurses := true, apart := false, narrowed := true }
def CoreSendsUptoSaid : Prop := coreSendsUptoRow.holds Try.pinned (OpenSpec.upto coreSendsSpec)

/-- 'amnesialaw09.CoreCarries', WHERE WHAT IT READS IS OF BULK AT MOST 1048576: true; the input reads as it did. -/
def coreCarriesUptoRow : OpenClaim := { program := "ytponcchkfmbicaa", sum := "babe3ca1674e8ed08a3f323deebe5988885d59bd0b57a707c82a58cbac8e0fb0", func := "amnesia/amnesialaw09.CoreCarries", spec := "coreCarries", unfollowed := true, recurses := true, apart := false, narrowed := true }
def CoreCarriesUptoSaid : Prop := coreCarriesUptoRow.holds Try.pinned (OpenSpec.upto coreCarriesSpec)

end Rows
end Go.Proofs.Ytponcchkfmbicaa
