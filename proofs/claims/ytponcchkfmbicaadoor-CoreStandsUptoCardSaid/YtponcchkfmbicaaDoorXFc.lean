/-
  Functions of Go's library whose contracts are proved by hand, as resolved code.
-/
import Derived.Test.YtponcchkfmbicaaDoorXComp
import Derived.Test.YtponcchkfmbicaaDoorXFn
import Derived.Test.YtponcchkfmbicaaDoorXG
import Derived.Test.YtponcchkfmbicaaDoorXP
import Derived.Test.YtponcchkfmbicaaDoorProg
import Derived.KernelRfl
namespace Go.Ax
set_option linter.all false
open Go.Proofs P

def xf_slices_Clone_Ack_Ack : XFunc := ⟨none, true, 1, [.tmp 2], (rs [o 2 (.mv (.c (.nil 111 4 true)))] [0]
 (.seq (rs [om 3 0, o 4 (.eqn true false (.s 3))] [0, 4]
 (.cond (.s 4) (rs [o 2 (.mv (.c (.nil 111 4 true)))] [2]
 (.ret [2])) .skip))
 (rs [o 5 (.bsl 111 4 true 0 [] []), om 6 0, o 7 (.app 111 4 32 true (.s 5) (.s 6)), om 2 7] [2]
 (.ret [2]))))⟩

def xf_slices_Clone_Answer_Answer : XFunc := ⟨none, false, 1, [.tmp 2], (rs [o 2 (.mv (.c (.nil 117 6 false)))] [0]
 (.seq (rs [om 3 0, o 4 (.eqn true false (.s 3))] [0, 4]
 (.cond (.s 4) (rs [o 2 (.mv (.c (.nil 117 6 false)))] [2]
 (.ret [2])) .skip))
 (rs [o 5 (.bsl 117 6 false 0 [] []), om 6 0, o 7 (.app 117 6 64 false (.s 5) (.s 6)), om 2 7] [2]
 (.ret [2]))))⟩

def xf_slices_Clone_Ballot_Ballot : XFunc := ⟨none, false, 1, [.tmp 2], (rs [o 2 (.mv (.c (.nil 115 6 false)))] [0]
 (.seq (rs [om 3 0, o 4 (.eqn true false (.s 3))] [0, 4]
 (.cond (.s 4) (rs [o 2 (.mv (.c (.nil 115 6 false)))] [2]
 (.ret [2])) .skip))
 (rs [o 5 (.bsl 115 6 false 0 [] []), om 6 0, o 7 (.app 115 6 64 false (.s 5) (.s 6)), om 2 7] [2]
 (.ret [2]))))⟩

def xf_slices_Clone_Entry_Entry : XFunc := ⟨none, true, 1, [.tmp 2], (rs [o 2 (.mv (.c (.nil 55 5 true)))] [0]
 (.seq (rs [om 3 0, o 4 (.eqn true false (.s 3))] [0, 4]
 (.cond (.s 4) (rs [o 2 (.mv (.c (.nil 55 5 true)))] [2]
 (.ret [2])) .skip))
 (rs [o 5 (.bsl 55 5 true 0 [] []), om 6 0, o 7 (.app 55 5 48 true (.s 5) (.s 6)), om 2 7] [2]
 (.ret [2]))))⟩

def xf_slices_Clone_Mark_Mark : XFunc := ⟨none, true, 1, [.tmp 2], (rs [o 2 (.mv (.c (.nil 113 3 true)))] [0]
 (.seq (rs [om 3 0, o 4 (.eqn true false (.s 3))] [0, 4]
 (.cond (.s 4) (rs [o 2 (.mv (.c (.nil 113 3 true)))] [2]
 (.ret [2])) .skip))
 (rs [o 5 (.bsl 113 3 true 0 [] []), om 6 0, o 7 (.app 113 3 24 true (.s 5) (.s 6)), om 2 7] [2]
 (.ret [2]))))⟩

def xf_slices_Clone_Vector_Draw : XFunc := ⟨none, true, 1, [.tmp 2], (rs [o 2 (.mv (.c (.nil 26 2 true)))] [0]
 (.seq (rs [om 3 0, o 4 (.eqn true false (.s 3))] [0, 4]
 (.cond (.s 4) (rs [o 2 (.mv (.c (.nil 26 2 true)))] [2]
 (.ret [2])) .skip))
 (rs [o 5 (.bsl 26 2 true 0 [] []), om 6 0, o 7 (.app 26 2 16 true (.s 5) (.s 6)), om 2 7] [2]
 (.ret [2]))))⟩
theorem r_slices_Clone_Ack_Ack : progT Tryd.prog 62 = some xf_slices_Clone_Ack_Ack.plain := by kernel_rfl
theorem r_slices_Clone_Answer_Answer : progT Tryd.prog 65 = some xf_slices_Clone_Answer_Answer.plain := by kernel_rfl
theorem r_slices_Clone_Ballot_Ballot : progT Tryd.prog 64 = some xf_slices_Clone_Ballot_Ballot.plain := by kernel_rfl
theorem r_slices_Clone_Entry_Entry : progT Tryd.prog 60 = some xf_slices_Clone_Entry_Entry.plain := by kernel_rfl
theorem r_slices_Clone_Mark_Mark : progT Tryd.prog 63 = some xf_slices_Clone_Mark_Mark.plain := by kernel_rfl
theorem r_slices_Clone_Vector_Draw : progT Tryd.prog 61 = some xf_slices_Clone_Vector_Draw.plain := by kernel_rfl

end Go.Ax
