/-
  No cell of these rows narrows 'for every input' (looked for: loops, veiled, ifaces, maps, wideKeys, modest, calm, conditions, laid).
  DERIVED. THE GIVEN ROWS OF THIS SEAT. 7 by the template 'for every input the law returns true; each argument reads behind the call as it read before'; 0 by the template 'total and deterministic' (their statements: YtbkbnhpadkkcaaaTotals.lean).
  GIVEN WITH THE SEED: the statements are not yours to turn. If you find one false, say at which input.
  Laid BY PROGRAM, IN A SANDBOX (cutbox-rows.mjs): the forced cells as the released guide's own fill.sh prints them over the translation 1f99a6317f39f821… (all of the seat's roots in one cut). By AI agents, Wed Nov 11 2026. No macro, syntax, notation, axiom, sorry.
-/
import Derived.Test.YtbkbnhpadkkcaaaChecked
import GoSem.Claim
import GoSem.ClaimJoined
import GoSem.ClaimMapViews
import Derived.JoinedTies
import Derived.KernelRfl
namespace Go.Proofs.Ytbkbnhpadkkcaaa
/- THE CELL 'sum', in the pinned program and in every row, IS THE sha256 OF THE DUMP (.gsa) THAT YtbkbnhpadkkcaaaProg.lean LOADS. Nothing in Lean hashes anything: it is a label: what it is worth is what the hold of that sum in a sandbox is worth. -/
noncomputable def Try.pinned : Pinned := { name := "ytbkbnhpadkkcaaa", sum := "1f99a6317f39f821fc59ecccef787ae475bb9a3dc8584be262ddd97847e4e46d", checked := Try.checked }
namespace Rows
def none {H : Type} : Left H := { results := [], args := [] }

/-- 'amnesialaw03.VectorMakes': WHATEVER THE INPUT: true; the input reads as it did. -/
def vectorMakesSpec : ChangeSpec := { name := "vectorMakes", fn := fun _ => fun
  | [d1, d2, d3, d4] => { results := [.lit (.bool true)], args := [d1, d2, d3, d4] }
  | _ => none }
def vectorMakesRow : OpenClaim := { program := "ytbkbnhpadkkcaaa", sum := "1f99a6317f39f821fc59ecccef787ae475bb9a3dc8584be262ddd97847e4e46d", func := "amnesia/amnesialaw03.VectorMakes", spec := "vectorMakes", apart := false }
def VectorMakesSaid : Prop := vectorMakesRow.holds Try.pinned (OpenSpec.ofChange vectorMakesSpec)

/-- ITS FALSE NEIGHBOUR: 'it returns false'. Refute it at one input. -/
def vectorMakesWrong : ChangeSpec := { name := "vectorMakes", fn := fun _ => fun
  | [d1, d2, d3, d4] => { results := [.lit (.bool false)], args := [d1, d2, d3, d4] }
  | _ => none }
def VectorMakesWrongFalsely : Prop := vectorMakesRow.holds Try.pinned (OpenSpec.ofChange vectorMakesWrong)

/-- 'amnesialaw03.VectorMerges': WHATEVER THE INPUT: true; the input reads as it did. -/
def vectorMergesSpec : ChangeSpec := { name := "vectorMerges", fn := fun _ => fun
  | [d1, d2, d3] => { results := [.lit (.bool true)], args := [d1, d2, d3] }
  | _ => none }
def vectorMergesRow : OpenClaim := { program := "ytbkbnhpadkkcaaa", sum := "1f99a6317f39f821fc59ecccef787ae475bb9a3dc8584be262ddd97847e4e46d", func := "amnesia/amnesialaw03.VectorMerges", spec := "vectorMerges", apart := false }
def VectorMergesSaid : Prop := vectorMergesRow.holds Try.pinned (OpenSpec.ofChange vectorMergesSpec)

/-- ITS FALSE NEIGHBOUR: 'it returns false'. Refute it at one input. -/
def vectorMergesWrong : ChangeSpec := { name := "vectorMerges", fn := fun _ => fun
  | [d1, d2, d3] => { results := [.lit (.bool false)], args := [d1, d2, d3] }
  | _ => none }
def VectorMergesWrongFalsely : Prop := vectorMergesRow.holds Try.pinned (OpenSpec.ofChange vectorMergesWrong)

/-- 'amnesialaw03.VectorVoices': WHATEVER THE INPUT: true; the input reads as it did. -/
def vectorVoicesSpec : ChangeSpec := { name := "vectorVoices", fn := fun _ => fun
  | [d1, d2, d3] => { results := [.lit (.bool true)], args := [d1, d2, d3] }
  | _ => none }
def vectorVoicesRow : OpenClaim := { program := "ytbkbnhpadkkcaaa", sum := "1f99a6317f39f821fc59ecccef787ae475bb9a3dc8584be262ddd97847e4e46d", func := "amnesia/amnesialaw03.VectorVoices", spec := "vectorVoices", apart := false }
def VectorVoicesSaid : Prop := vectorVoicesRow.holds Try.pinned (OpenSpec.ofChange vectorVoicesSpec)

/-- ITS FALSE NEIGHBOUR: 'it returns false'. Refute it at one input. -/
def vectorVoicesWrong : ChangeSpec := { name := "vectorVoices", fn := fun _ => fun
  | [d1, d2, d3] => { results := [.lit (.bool false)], args := [d1, d2, d3] }
  | _ => none }
def VectorVoicesWrongFalsely : Prop := vectorVoicesRow.holds Try.pinned (OpenSpec.ofChange vectorVoicesWrong)

/-- 'amnesialaw03.VectorTogether': WHATEVER THE INPUT: true; the input reads as it did. -/
def vectorTogetherSpec : ChangeSpec := { name := "vectorTogether", fn := fun _ => fun
  | [d1, d2] => { results := [.lit (.bool true)], args := [d1, d2] }
  | _ => none }
def vectorTogetherRow : OpenClaim := { program := "ytbkbnhpadkkcaaa", sum := "1f99a6317f39f821fc59ecccef787ae475bb9a3dc8584be262ddd97847e4e46d", func := "amnesia/amnesialaw03.VectorTogether", spec := "vectorTogether", apart := false }
def VectorTogetherSaid : Prop := vectorTogetherRow.holds Try.pinned (OpenSpec.ofChange vectorTogetherSpec)

/-- ITS FALSE NEIGHBOUR: 'it returns false'. Refute it at one input. -/
def vectorTogetherWrong : ChangeSpec := { name := "vectorTogether", fn := fun _ => fun
  | [d1, d2] => { results := [.lit (.bool false)], args := [d1, d2] }
  | _ => none }
def VectorTogetherWrongFalsely : Prop := vectorTogetherRow.holds Try.pinned (OpenSpec.ofChange vectorTogetherWrong)

/-- 'amnesialaw03.VectorLeast': WHATEVER THE INPUT: true; the input reads as it did. -/
def vectorLeastSpec : ChangeSpec := { name := "vectorLeast", fn := fun _ => fun
  | [d1, d2, d3] => { results := [.lit (.bool true)], args := [d1, d2, d3] }
  | _ => none }
def vectorLeastRow : OpenClaim := { program := "ytbkbnhpadkkcaaa", sum := "1f99a6317f39f821fc59ecccef787ae475bb9a3dc8584be262ddd97847e4e46d", func := "amnesia/amnesialaw03.VectorLeast", spec := "vectorLeast", apart := false }
def VectorLeastSaid : Prop := vectorLeastRow.holds Try.pinned (OpenSpec.ofChange vectorLeastSpec)

/-- ITS FALSE NEIGHBOUR: 'it returns false'. Refute it at one input. -/
def vectorLeastWrong : ChangeSpec := { name := "vectorLeast", fn := fun _ => fun
  | [d1, d2, d3] => { results := [.lit (.bool false)], args := [d1, d2, d3] }
  | _ => none }
def VectorLeastWrongFalsely : Prop := vectorLeastRow.holds Try.pinned (OpenSpec.ofChange vectorLeastWrong)

/-- 'amnesialaw03.VectorPartial': WHATEVER THE INPUT: true; the input reads as it did. -/
def vectorPartialSpec : ChangeSpec := { name := "vectorPartial", fn := fun _ => fun
  | [d1, d2, d3] => { results := [.lit (.bool true)], args := [d1, d2, d3] }
  | _ => none }
def vectorPartialRow : OpenClaim := { program := "ytbkbnhpadkkcaaa", sum := "1f99a6317f39f821fc59ecccef787ae475bb9a3dc8584be262ddd97847e4e46d", func := "amnesia/amnesialaw03.VectorPartial", spec := "vectorPartial", apart := false }
def VectorPartialSaid : Prop := vectorPartialRow.holds Try.pinned (OpenSpec.ofChange vectorPartialSpec)

/-- ITS FALSE NEIGHBOUR: 'it returns false'. Refute it at one input. -/
def vectorPartialWrong : ChangeSpec := { name := "vectorPartial", fn := fun _ => fun
  | [d1, d2, d3] => { results := [.lit (.bool false)], args := [d1, d2, d3] }
  | _ => none }
def VectorPartialWrongFalsely : Prop := vectorPartialRow.holds Try.pinned (OpenSpec.ofChange vectorPartialWrong)

/-- 'amnesialaw03.VectorOwn': WHATEVER THE INPUT: true; the input reads as it did. -/
def vectorOwnSpec : ChangeSpec := { name := "vectorOwn", fn := fun _ => fun
  | [d1, d2, d3, d4] => { results := [.lit (.bool true)], args := [d1, d2, d3, d4] }
  | _ => none }
def vectorOwnRow : OpenClaim := { program := "ytbkbnhpadkkcaaa", sum := "1f99a6317f39f821fc59ecccef787ae475bb9a3dc8584be262ddd97847e4e46d", func := "amnesia/amnesialaw03.VectorOwn", spec := "vectorOwn", apart := false }
def VectorOwnSaid : Prop := vectorOwnRow.holds Try.pinned (OpenSpec.ofChange vectorOwnSpec)

/-- ITS FALSE NEIGHBOUR: 'it returns false'. Refute it at one input. -/
def vectorOwnWrong : ChangeSpec := { name := "vectorOwn", fn := fun _ => fun
  | [d1, d2, d3, d4] => { results := [.lit (.bool false)], args := [d1, d2, d3, d4] }
  | _ => none }
def VectorOwnWrongFalsely : Prop := vectorOwnRow.holds Try.pinned (OpenSpec.ofChange vectorOwnWrong)

/- THE SECOND FORM. 'bulk': how many values and letters a reading holds, each counted each time it is reached (what is shared counts as often as it is met; a slice's spare places count too). A statement '..UptoSaid' is the law's where the arguments, and the package variables that the reading takes, are together of bulk at most 1048576: NARROWER than '..Said'. Prove '..Said' where nothing that the law and all that it calls make is longer than what came in: it says more and counts as full. Else prove '..UptoSaid'. A law counts once. -/
mutual
def uptoBulk {H : Type} : DataW H → Nat
  | .lit (.string bytes) => bytes.length + 1
  | .lit _ => 1
  | .nil => 1
  | .ptr d => uptoBulk d + 1
  | .slice elems spare => uptoBulkAll elems + uptoBulkAll spare + 1
  | .agg parts => uptoBulkAll parts + 1
  | .iface _ d => uptoBulk d + 1
  | .map entries => uptoBulkEntries entries + 1
  | .held _ => 1
def uptoBulkAll {H : Type} : List (DataW H) → Nat
  | [] => 0
  | d :: r => uptoBulk d + uptoBulkAll r
def uptoBulkEntries {H : Type} : List (Lit × DataW H) → Nat
  | [] => 0
  | x :: r => uptoBulkEntry x + uptoBulkEntries r
def uptoBulkEntry {H : Type} : Lit × DataW H → Nat
  | (.string bytes, d) => bytes.length + uptoBulk d + 1
  | (_, d) => uptoBulk d + 1
 end
def uptoSmall : (H : Type) → List (DataW H) → Bool := fun _ ds => decide (uptoBulkAll ds ≤ 1048576)
def OpenSpec.upto (s : _root_.Go.ChangeSpec) : _root_.Go.OpenSpec := { _root_.Go.OpenSpec.ofChange s with cond := some uptoSmall }

/-- 'amnesialaw03.VectorMakes', WHERE WHAT IT READS IS OF BULK AT MOST 1048576: true; the input reads as it did. -/
def vectorMakesUptoRow : OpenClaim := { program := "ytbkbnhpadkkcaaa", sum := "1f99a6317f39f821fc59ecccef787ae475bb9a3dc8584be262ddd97847e4e46d", func := "amnesia/amnesialaw03.VectorMakes", spec := "vectorMakes", apart := false, narrowed := true }
def VectorMakesUptoSaid : Prop := vectorMakesUptoRow.holds Try.pinned (OpenSpec.upto vectorMakesSpec)

/-- 'amnesialaw03.VectorMerges', WHERE WHAT IT READS IS OF BULK AT MOST 1048576: true; the input reads as it did. -/
def vectorMergesUptoRow : OpenClaim := { program := "ytbkbnhpadkkcaaa", sum := "1f99a6317f39f821fc59ecccef787ae475bb9a3dc8584be262ddd97847e4e46d", func := "amnesia/amnesialaw03.VectorMerges", spec := "vectorMerges", apart := false, narrowed := true }
def VectorMergesUptoSaid : Prop := vectorMergesUptoRow.holds Try.pinned (OpenSpec.upto vectorMergesSpec)

/-- 'amnesialaw03.VectorVoices', WHERE WHAT IT READS IS OF BULK AT MOST 1048576: true; the input reads as it did. -/
def vectorVoicesUptoRow : OpenClaim := { program := "ytbkbnhpadkkcaaa", sum := "1f99a6317f39f821fc59ecccef787ae475bb9a3dc8584be262ddd97847e4e46d", func := "amnesia/amnesialaw03.VectorVoices", spec := "vectorVoices", apart := false, narrowed := true }
def VectorVoicesUptoSaid : Prop := vectorVoicesUptoRow.holds Try.pinned (OpenSpec.upto vectorVoicesSpec)

/-- 'amnesialaw03.VectorTogether', WHERE WHAT IT READS IS OF BULK AT MOST 1048576: true; the input reads as it did. -/
def vectorTogetherUptoRow : OpenClaim := { program := "ytbkbnhpadkkcaaa", sum := "1f99a6317f39f821fc59ecccef787ae475bb9a3dc8584be262ddd97847e4e46d", func := "amnesia/amnesialaw03.VectorTogether", spec := "vectorTogether", apart := false, narrowed := true }
def VectorTogetherUptoSaid : Prop := vectorTogetherUptoRow.holds Try.pinned (OpenSpec.upto vectorTogetherSpec)

/-- 'amnesialaw03.VectorLeast', WHERE WHAT IT READS IS OF BULK AT MOST 1048576: true; the input reads as it did. -/
def vectorLeastUptoRow : OpenClaim := { program := "ytbkbnhpadkkcaaa", sum := "1f99a6317f39f821fc59ecccef787ae475bb9a3dc8584be262ddd97847e4e46d", func := "amnesia/amnesialaw03.VectorLeast", spec := "vectorLeast", apart := false, narrowed := true }
def VectorLeastUptoSaid : Prop := vectorLeastUptoRow.holds Try.pinned (OpenSpec.upto vectorLeastSpec)

/-- 'amnesialaw03.VectorPartial', WHERE WHAT IT READS IS OF BULK AT MOST 1048576: true; the input reads as it did. -/
def vectorPartialUptoRow : OpenClaim := { program := "ytbkbnhpadkkcaaa", sum := "1f99a6317f39f821fc59ecccef787ae475bb9a3dc8584be262ddd97847e4e46d", func := "amnesia/amnesialaw03.VectorPartial", spec := "vectorPartial", apart := false, narrowed := true }
def VectorPartialUptoSaid : Prop := vectorPartialUptoRow.holds Try.pinned (OpenSpec.upto vectorPartialSpec)

/-- 'amnesialaw03.VectorOwn', WHERE WHAT IT READS IS OF BULK AT MOST 1048576: true; the input reads as it did. -/
def vectorOwnUptoRow : OpenClaim := { program := "ytbkbnhpadkkcaaa", sum := "1f99a6317f39f821fc59ecccef787ae475bb9a3dc8584be262ddd97847e4e46d", func := "amnesia/amnesialaw03.VectorOwn", spec := "vectorOwn", apart := false, narrowed := true }
def VectorOwnUptoSaid : Prop := vectorOwnUptoRow.holds Try.pinned (OpenSpec.upto vectorOwnSpec)

end Rows
end Go.Proofs.Ytbkbnhpadkkcaaa
