/-
  Functions of Go's library whose contracts are proved by hand, as resolved code.
-/
import Derived.Test.YtponcchkfmbicaaXComp
import Derived.Test.YtponcchkfmbicaaXFn
import Derived.Test.YtponcchkfmbicaaXG
import Derived.Test.YtponcchkfmbicaaProg
import Derived.KernelRfl
namespace Go.Ax
open Go.Proofs

def xf_slices_Clone_Ack_Ack : XFunc := ⟨none, true, 1, [.tmp 2], (.seq (.reg [⟨(some 2), .mv (.c (.nil 118 4 true)), none⟩] none [0])
 (.seq (.seq (.reg [⟨(some 3), .mv (.s 0), none⟩, ⟨(some 4), .eqn true false (.s 3), none⟩] none [0, 4])
 (.cond (.s 4) (.seq (.reg [⟨(some 2), .mv (.c (.nil 118 4 true)), none⟩] none [2])
 (.ret [2])) .skip))
 (.seq (.reg [⟨(some 5), .bsl 118 4 true 0 [] [], none⟩, ⟨(some 6), .mv (.s 0), none⟩, ⟨(some 7), .app 118 4 32 true (.s 5) (.s 6), none⟩, ⟨(some 2), .mv (.s 7), none⟩] none [2])
 (.ret [2]))))⟩

def xf_slices_Clone_Answer_Answer : XFunc := ⟨none, false, 1, [.tmp 2], (.seq (.reg [⟨(some 2), .mv (.c (.nil 90 6 false)), none⟩] none [0])
 (.seq (.seq (.reg [⟨(some 3), .mv (.s 0), none⟩, ⟨(some 4), .eqn true false (.s 3), none⟩] none [0, 4])
 (.cond (.s 4) (.seq (.reg [⟨(some 2), .mv (.c (.nil 90 6 false)), none⟩] none [2])
 (.ret [2])) .skip))
 (.seq (.reg [⟨(some 5), .bsl 90 6 false 0 [] [], none⟩, ⟨(some 6), .mv (.s 0), none⟩, ⟨(some 7), .app 90 6 64 false (.s 5) (.s 6), none⟩, ⟨(some 2), .mv (.s 7), none⟩] none [2])
 (.ret [2]))))⟩

def xf_slices_Clone_Ballot_Ballot : XFunc := ⟨none, false, 1, [.tmp 2], (.seq (.reg [⟨(some 2), .mv (.c (.nil 88 6 false)), none⟩] none [0])
 (.seq (.seq (.reg [⟨(some 3), .mv (.s 0), none⟩, ⟨(some 4), .eqn true false (.s 3), none⟩] none [0, 4])
 (.cond (.s 4) (.seq (.reg [⟨(some 2), .mv (.c (.nil 88 6 false)), none⟩] none [2])
 (.ret [2])) .skip))
 (.seq (.reg [⟨(some 5), .bsl 88 6 false 0 [] [], none⟩, ⟨(some 6), .mv (.s 0), none⟩, ⟨(some 7), .app 88 6 64 false (.s 5) (.s 6), none⟩, ⟨(some 2), .mv (.s 7), none⟩] none [2])
 (.ret [2]))))⟩

def xf_slices_Clone_Entry_Entry : XFunc := ⟨none, true, 1, [.tmp 2], (.seq (.reg [⟨(some 2), .mv (.c (.nil 55 5 true)), none⟩] none [0])
 (.seq (.seq (.reg [⟨(some 3), .mv (.s 0), none⟩, ⟨(some 4), .eqn true false (.s 3), none⟩] none [0, 4])
 (.cond (.s 4) (.seq (.reg [⟨(some 2), .mv (.c (.nil 55 5 true)), none⟩] none [2])
 (.ret [2])) .skip))
 (.seq (.reg [⟨(some 5), .bsl 55 5 true 0 [] [], none⟩, ⟨(some 6), .mv (.s 0), none⟩, ⟨(some 7), .app 55 5 48 true (.s 5) (.s 6), none⟩, ⟨(some 2), .mv (.s 7), none⟩] none [2])
 (.ret [2]))))⟩

def xf_slices_Clone_Mark_Mark : XFunc := ⟨none, true, 1, [.tmp 2], (.seq (.reg [⟨(some 2), .mv (.c (.nil 121 3 true)), none⟩] none [0])
 (.seq (.seq (.reg [⟨(some 3), .mv (.s 0), none⟩, ⟨(some 4), .eqn true false (.s 3), none⟩] none [0, 4])
 (.cond (.s 4) (.seq (.reg [⟨(some 2), .mv (.c (.nil 121 3 true)), none⟩] none [2])
 (.ret [2])) .skip))
 (.seq (.reg [⟨(some 5), .bsl 121 3 true 0 [] [], none⟩, ⟨(some 6), .mv (.s 0), none⟩, ⟨(some 7), .app 121 3 24 true (.s 5) (.s 6), none⟩, ⟨(some 2), .mv (.s 7), none⟩] none [2])
 (.ret [2]))))⟩

def xf_slices_Clone_Vector_Draw : XFunc := ⟨none, true, 1, [.tmp 2], (.seq (.reg [⟨(some 2), .mv (.c (.nil 60 2 true)), none⟩] none [0])
 (.seq (.seq (.reg [⟨(some 3), .mv (.s 0), none⟩, ⟨(some 4), .eqn true false (.s 3), none⟩] none [0, 4])
 (.cond (.s 4) (.seq (.reg [⟨(some 2), .mv (.c (.nil 60 2 true)), none⟩] none [2])
 (.ret [2])) .skip))
 (.seq (.reg [⟨(some 5), .bsl 60 2 true 0 [] [], none⟩, ⟨(some 6), .mv (.s 0), none⟩, ⟨(some 7), .app 60 2 16 true (.s 5) (.s 6), none⟩, ⟨(some 2), .mv (.s 7), none⟩] none [2])
 (.ret [2]))))⟩
theorem r_slices_Clone_Ack_Ack : progT Try.prog 51 = some xf_slices_Clone_Ack_Ack.plain := by kernel_rfl
theorem r_slices_Clone_Answer_Answer : progT Try.prog 54 = some xf_slices_Clone_Answer_Answer.plain := by kernel_rfl
theorem r_slices_Clone_Ballot_Ballot : progT Try.prog 53 = some xf_slices_Clone_Ballot_Ballot.plain := by kernel_rfl
theorem r_slices_Clone_Entry_Entry : progT Try.prog 49 = some xf_slices_Clone_Entry_Entry.plain := by kernel_rfl
theorem r_slices_Clone_Mark_Mark : progT Try.prog 52 = some xf_slices_Clone_Mark_Mark.plain := by kernel_rfl
theorem r_slices_Clone_Vector_Draw : progT Try.prog 50 = some xf_slices_Clone_Vector_Draw.plain := by kernel_rfl

end Go.Ax
