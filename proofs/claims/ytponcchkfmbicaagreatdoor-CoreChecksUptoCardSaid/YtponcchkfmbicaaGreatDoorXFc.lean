/-
  Functions of Go's library whose contracts are proved by hand, as resolved code.
-/
import Derived.Test.YtponcchkfmbicaaGreatDoorXComp
import Derived.Test.YtponcchkfmbicaaGreatDoorXFn
import Derived.Test.YtponcchkfmbicaaGreatDoorXG
import Derived.Test.YtponcchkfmbicaaGreatDoorXP
import Derived.Test.YtponcchkfmbicaaGreatDoorProg
import Derived.KernelRfl
namespace Go.Ax
set_option linter.all false
open Go.Proofs P

def xf_slices_Clone_Ack_Ack : XFunc := ⟨none, true, 1, [.tmp 2], (rs [o 2 (.mv (.c (.nil 67 4 true)))] [0]
 (.seq (rs [om 3 0, o 4 (.eqn true false (.s 3))] [0, 4]
 (.cond (.s 4) (rs [o 2 (.mv (.c (.nil 67 4 true)))] [2]
 (.ret [2])) .skip))
 (rs [o 5 (.bsl 67 4 true 0 [] []), om 6 0, o 7 (.app 67 4 32 true (.s 5) (.s 6)), om 2 7] [2]
 (.ret [2]))))⟩

def xf_slices_Clone_Answer_Answer : XFunc := ⟨none, false, 1, [.tmp 2], (rs [o 2 (.mv (.c (.nil 73 6 false)))] [0]
 (.seq (rs [om 3 0, o 4 (.eqn true false (.s 3))] [0, 4]
 (.cond (.s 4) (rs [o 2 (.mv (.c (.nil 73 6 false)))] [2]
 (.ret [2])) .skip))
 (rs [o 5 (.bsl 73 6 false 0 [] []), om 6 0, o 7 (.app 73 6 64 false (.s 5) (.s 6)), om 2 7] [2]
 (.ret [2]))))⟩

def xf_slices_Clone_Ballot_Ballot : XFunc := ⟨none, false, 1, [.tmp 2], (rs [o 2 (.mv (.c (.nil 71 6 false)))] [0]
 (.seq (rs [om 3 0, o 4 (.eqn true false (.s 3))] [0, 4]
 (.cond (.s 4) (rs [o 2 (.mv (.c (.nil 71 6 false)))] [2]
 (.ret [2])) .skip))
 (rs [o 5 (.bsl 71 6 false 0 [] []), om 6 0, o 7 (.app 71 6 64 false (.s 5) (.s 6)), om 2 7] [2]
 (.ret [2]))))⟩

def xf_slices_Clone_Entry_Entry : XFunc := ⟨none, true, 1, [.tmp 2], (rs [o 2 (.mv (.c (.nil 38 5 true)))] [0]
 (.seq (rs [om 3 0, o 4 (.eqn true false (.s 3))] [0, 4]
 (.cond (.s 4) (rs [o 2 (.mv (.c (.nil 38 5 true)))] [2]
 (.ret [2])) .skip))
 (rs [o 5 (.bsl 38 5 true 0 [] []), om 6 0, o 7 (.app 38 5 48 true (.s 5) (.s 6)), om 2 7] [2]
 (.ret [2]))))⟩

def xf_slices_Clone_Mark_Mark : XFunc := ⟨none, true, 1, [.tmp 2], (rs [o 2 (.mv (.c (.nil 69 3 true)))] [0]
 (.seq (rs [om 3 0, o 4 (.eqn true false (.s 3))] [0, 4]
 (.cond (.s 4) (rs [o 2 (.mv (.c (.nil 69 3 true)))] [2]
 (.ret [2])) .skip))
 (rs [o 5 (.bsl 69 3 true 0 [] []), om 6 0, o 7 (.app 69 3 24 true (.s 5) (.s 6)), om 2 7] [2]
 (.ret [2]))))⟩

def xf_slices_Clone_Vector_Draw : XFunc := ⟨none, true, 1, [.tmp 2], (rs [o 2 (.mv (.c (.nil 43 2 true)))] [0]
 (.seq (rs [om 3 0, o 4 (.eqn true false (.s 3))] [0, 4]
 (.cond (.s 4) (rs [o 2 (.mv (.c (.nil 43 2 true)))] [2]
 (.ret [2])) .skip))
 (rs [o 5 (.bsl 43 2 true 0 [] []), om 6 0, o 7 (.app 43 2 16 true (.s 5) (.s 6)), om 2 7] [2]
 (.ret [2]))))⟩
theorem r_slices_Clone_Ack_Ack : progT Tryz.prog 121 = some xf_slices_Clone_Ack_Ack.plain := by kernel_rfl
theorem r_slices_Clone_Answer_Answer : progT Tryz.prog 124 = some xf_slices_Clone_Answer_Answer.plain := by kernel_rfl
theorem r_slices_Clone_Ballot_Ballot : progT Tryz.prog 123 = some xf_slices_Clone_Ballot_Ballot.plain := by kernel_rfl
theorem r_slices_Clone_Entry_Entry : progT Tryz.prog 119 = some xf_slices_Clone_Entry_Entry.plain := by kernel_rfl
theorem r_slices_Clone_Mark_Mark : progT Tryz.prog 122 = some xf_slices_Clone_Mark_Mark.plain := by kernel_rfl
theorem r_slices_Clone_Vector_Draw : progT Tryz.prog 120 = some xf_slices_Clone_Vector_Draw.plain := by kernel_rfl

end Go.Ax
