/-
  Functions of Go's library whose contracts are proved by hand, as resolved code.
-/
import Derived.Test.YtfoglingdnhjpaaGreatDoorXComp
import Derived.Test.YtfoglingdnhjpaaGreatDoorXFn
import Derived.Test.YtfoglingdnhjpaaGreatDoorXG
import Derived.Test.YtfoglingdnhjpaaGreatDoorXP
import Derived.Test.YtfoglingdnhjpaaGreatDoorProg
import Derived.KernelRfl
namespace Go.Ax
set_option linter.all false
open Go.Proofs P

def xf_slices_Clone_Ack_Ack : XFunc := ⟨none, none, true, 1, [.tmp 2], (rs [o 2 (.mv (.c (.nil 123 4 true)))] [0]
 (.seq (rs [om 3 0, o 4 (.eqn true false (.s 3))] [0, 4]
 (.cond (.s 4) (rs [o 2 (.mv (.c (.nil 123 4 true)))] [2]
 (.ret [2])) .skip))
 (rs [o 5 (.bsl 123 4 true 0 [] []), om 6 0, o 7 (.app 123 4 32 true (.s 5) (.s 6)), om 2 7] [2]
 (.ret [2]))))⟩

def xf_slices_Clone_Answer_Answer : XFunc := ⟨none, none, false, 1, [.tmp 2], (rs [o 2 (.mv (.c (.nil 100 6 false)))] [0]
 (.seq (rs [om 3 0, o 4 (.eqn true false (.s 3))] [0, 4]
 (.cond (.s 4) (rs [o 2 (.mv (.c (.nil 100 6 false)))] [2]
 (.ret [2])) .skip))
 (rs [o 5 (.bsl 100 6 false 0 [] []), om 6 0, o 7 (.app 100 6 64 false (.s 5) (.s 6)), om 2 7] [2]
 (.ret [2]))))⟩

def xf_slices_Clone_Ballot_Ballot : XFunc := ⟨none, none, false, 1, [.tmp 2], (rs [o 2 (.mv (.c (.nil 98 6 false)))] [0]
 (.seq (rs [om 3 0, o 4 (.eqn true false (.s 3))] [0, 4]
 (.cond (.s 4) (rs [o 2 (.mv (.c (.nil 98 6 false)))] [2]
 (.ret [2])) .skip))
 (rs [o 5 (.bsl 98 6 false 0 [] []), om 6 0, o 7 (.app 98 6 64 false (.s 5) (.s 6)), om 2 7] [2]
 (.ret [2]))))⟩

def xf_slices_Clone_Entry_Entry : XFunc := ⟨none, none, true, 1, [.tmp 2], (rs [o 2 (.mv (.c (.nil 50 5 true)))] [0]
 (.seq (rs [om 3 0, o 4 (.eqn true false (.s 3))] [0, 4]
 (.cond (.s 4) (rs [o 2 (.mv (.c (.nil 50 5 true)))] [2]
 (.ret [2])) .skip))
 (rs [o 5 (.bsl 50 5 true 0 [] []), om 6 0, o 7 (.app 50 5 48 true (.s 5) (.s 6)), om 2 7] [2]
 (.ret [2]))))⟩

def xf_slices_Clone_Mark_Mark : XFunc := ⟨none, none, true, 1, [.tmp 2], (rs [o 2 (.mv (.c (.nil 125 3 true)))] [0]
 (.seq (rs [om 3 0, o 4 (.eqn true false (.s 3))] [0, 4]
 (.cond (.s 4) (rs [o 2 (.mv (.c (.nil 125 3 true)))] [2]
 (.ret [2])) .skip))
 (rs [o 5 (.bsl 125 3 true 0 [] []), om 6 0, o 7 (.app 125 3 24 true (.s 5) (.s 6)), om 2 7] [2]
 (.ret [2]))))⟩

def xf_slices_Clone_Vector_Draw : XFunc := ⟨none, none, true, 1, [.tmp 2], (rs [o 2 (.mv (.c (.nil 26 2 true)))] [0]
 (.seq (rs [om 3 0, o 4 (.eqn true false (.s 3))] [0, 4]
 (.cond (.s 4) (rs [o 2 (.mv (.c (.nil 26 2 true)))] [2]
 (.ret [2])) .skip))
 (rs [o 5 (.bsl 26 2 true 0 [] []), om 6 0, o 7 (.app 26 2 16 true (.s 5) (.s 6)), om 2 7] [2]
 (.ret [2]))))⟩
theorem r_slices_Clone_Ack_Ack : progT Tryz.prog 142 = some xf_slices_Clone_Ack_Ack.plain := by kernel_rfl
theorem r_slices_Clone_Answer_Answer : progT Tryz.prog 145 = some xf_slices_Clone_Answer_Answer.plain := by kernel_rfl
theorem r_slices_Clone_Ballot_Ballot : progT Tryz.prog 144 = some xf_slices_Clone_Ballot_Ballot.plain := by kernel_rfl
theorem r_slices_Clone_Entry_Entry : progT Tryz.prog 140 = some xf_slices_Clone_Entry_Entry.plain := by kernel_rfl
theorem r_slices_Clone_Mark_Mark : progT Tryz.prog 143 = some xf_slices_Clone_Mark_Mark.plain := by kernel_rfl
theorem r_slices_Clone_Vector_Draw : progT Tryz.prog 141 = some xf_slices_Clone_Vector_Draw.plain := by kernel_rfl

end Go.Ax
