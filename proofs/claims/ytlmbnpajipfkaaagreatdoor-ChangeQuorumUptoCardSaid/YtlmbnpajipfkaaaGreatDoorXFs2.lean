/-
  The functions of this seat as resolved code, and that the program resolves to them (part 3).
-/
import Derived.Test.YtlmbnpajipfkaaaGreatDoorXComp
import Derived.Test.YtlmbnpajipfkaaaGreatDoorXFn
import Derived.Test.YtlmbnpajipfkaaaGreatDoorXG
import Derived.Test.YtlmbnpajipfkaaaGreatDoorXP
import Derived.Test.YtlmbnpajipfkaaaGreatDoorProg
import Derived.KernelRfl
namespace Go.Ax
set_option linter.all false
open Go.Proofs P

def xf_tally_ack_draw : XFunc := ⟨none, true, 1, [.cell 2 (some 2)], (rs [o 1 (bx 0), o 2 (.alloc [y, y])] [1, 2]
 (rs [of 3 1 1, ol 4 2 3, p (t 2 2 4)] [2]
 (.ret [2])))⟩

def xf_tally_ack_fresh : XFunc := ⟨none, true, 1, [.cell 2 (some 4)], (rs [o 1 (bx 0), o 2 (.alloc l9)] [1, 2]
 (rs [ol 3 4 1, p (t 4 2 3)] [2]
 (.ret [2])))⟩

def xf_tally_ack_node : XFunc := ⟨none, true, 1, [.tmp 2], (rs [o 1 (bx 0), o 2 (.mv (j 0))] [1]
 (rs [of 3 0 1, o 4 (k 3), om 2 4] [2]
 (.ret [2])))⟩

def xf_tally_mark_above : XFunc := ⟨none, true, 2, [.tmp 4], (rs [o 2 (bx 0), o 3 (bx 1), o 4 (.mv (.c w))] []
 (rs [o 4 (.mv (.c w))] [4]
 (.ret [4])))⟩

def xf_tally_mark_draw : XFunc := ⟨none, true, 1, [.cell 2 (some 2)], (rs [o 1 (bx 0), o 2 (.alloc [y, y])] [1, 2]
 (rs [of 3 1 1, ol 4 2 3, p (t 2 2 4)] [2]
 (.ret [2])))⟩

def xf_tally_mark_fresh : XFunc := ⟨none, true, 1, [.cell 2 (some 3)], (rs [o 1 (bx 0), o 2 (.alloc l7)] [1, 2]
 (rs [ol 3 3 1, p (t 3 2 3)] [2]
 (.ret [2])))⟩

def xf_tally_mark_node : XFunc := ⟨none, true, 1, [.tmp 2], (rs [o 1 (bx 0), o 2 (.mv (j 0))] [1]
 (rs [of 3 0 1, o 4 (k 3), om 2 4] [2]
 (.ret [2])))⟩

def xf_tally_ballot_above : XFunc := ⟨none, true, 2, [.tmp 4], (rs [o 2 (bx 0), o 3 (bx 1), o 4 (.mv (.c w))] [2, 3]
 (.seq (rs [of 5 3 2, o 6 (k 5), of 7 3 3, o 8 (k 7), o 9 (n 6 8)] [2, 3, 9]
 (.cond (.s 9) (rs [of 10 3 2, o 11 (k 10), of 12 3 3, o 13 (k 12), o 14 (bg 11 13), om 4 14] [4]
 (.ret [4])) .skip))
 (rs [of 15 5 2, o 16 (k 15), of 17 4 2, o 18 (k 17), of 19 5 3, o 20 (k 19), of 21 4 3, o 22 (k 21), o 23 (c 150 [16, 18, 20, 22]), om 4 23] [4]
 (.ret [4]))))⟩

def xf_tally_ballot_draw : XFunc := ⟨none, true, 1, [.cell 2 (some 2)], (rs [o 1 (bx 0), o 2 (.alloc [y, y])] [1, 2]
 (rs [of 3 1 1, ol 4 2 3, p (t 2 2 4)] [2]
 (.ret [2])))⟩

def xf_tally_ballot_node : XFunc := ⟨none, true, 1, [.tmp 2], (rs [o 1 (bx 0), o 2 (.mv (j 0))] [1]
 (rs [of 3 0 1, o 4 (k 3), om 2 4] [2]
 (.ret [2])))⟩

def xf_tally_longer : XFunc := ⟨none, true, 4, [.tmp 8], (rs [o 8 (.mv (.c w))] [0, 1, 2, 3]
 (ss [am 9 0, a 10 (le 9), am 11 2, a 12 (le 11), a 13 (bg 10 12), am 14 13, d 15 (m 0) 14, d 16 (le 15) 14, d 17 (m 2) 14, d 18 (le 17) 14, d 19 (q 16 18) 14, d 20 (m 19) 14, bb 21 1 20, bb 22 3 20, b 23 (bg 21 22) 20, d 24 (ka 20 23) 14, a 25 (ko 14 24), am 8 25] [8]
 (.ret [8])))⟩

def xf_tally_answer_above : XFunc := ⟨none, true, 2, [.tmp 4], (rs [o 2 (bx 0), o 3 (bx 1), o 4 (.mv (.c w))] [2, 3]
 (.seq (rs [of 5 3 2, o 6 (k 5), of 7 3 3, o 8 (k 7), o 9 (n 6 8)] [2, 3, 9]
 (.cond (.s 9) (rs [of 10 3 2, o 11 (k 10), of 12 3 3, o 13 (k 12), o 14 (bg 11 13), om 4 14] [4]
 (.ret [4])) .skip))
 (rs [of 15 5 2, o 16 (k 15), of 17 4 2, o 18 (k 17), of 19 5 3, o 20 (k 19), of 21 4 3, o 22 (k 21), o 23 (c 150 [16, 18, 20, 22]), om 4 23] [4]
 (.ret [4]))))⟩

def xf_tally_answer_draw : XFunc := ⟨none, true, 1, [.cell 2 (some 2)], (rs [o 1 (bx 0), o 2 (.alloc [y, y])] [1, 2]
 (rs [of 3 1 1, ol 4 2 3, p (t 2 2 4)] [2]
 (.ret [2])))⟩

def xf_tally_answer_fresh : XFunc := ⟨none, true, 1, [.cell 2 (some 6)], (rs [o 1 (bx 0), o 2 (.alloc l2)] [1, 2]
 (rs [of 3 5 1, o 4 (k 3), o 5 (.app 50 5 48 true (.c (.nil 50 5 true)) (.s 4)), of 6 5 1, p (t 1 6 5)] [1, 2]
 (rs [ol 7 6 1, p (t 6 2 7)] [2]
 (.ret [2]))))⟩

def xf_tally_answer_node : XFunc := ⟨none, true, 1, [.tmp 2], (rs [o 1 (bx 0), o 2 (.mv (j 0))] [1]
 (rs [of 3 0 1, o 4 (k 3), om 2 4] [2]
 (.ret [2])))⟩

def xf_gosem_cut_vars : XFunc := ⟨none, true, 0, [], (.reg [o 0 (.build l5 [(6, 1, (.c v))]), o 1 (.build l5 [(0, 1, (.c v)), (1, 1, (.c v)), (3, 1, (.c v)), (6, 1, (.c v)), (7, 1, (.c v))]), o 2 (.build l5 [(0, 1, (.c v)), (1, 1, (.c v)), (3, 1, (.c v)), (4, 1, (.c v)), (6, 1, (.c v)), (9, 1, (.c v))]), o 3 (.build l5 [(0, 1, (.c v)), (1, 1, (.c v)), (3, 1, (.c v)), (9, 1, (.c v))]), o 4 (.build l5 [(0, 1, (.c v)), (1, 1, (.c v)), (4, 1, (.c v)), (9, 1, (.c v))]), o 5 (.build l5 [(0, 1, (.c v)), (1, 1, (.c v)), (9, 1, (.c v))]), o 6 (.build l5 [(0, 1, (.c v)), (1, 1, (.c v)), (2, 1, (.c v)), (4, 1, (.c v)), (8, 1, (.c v)), (9, 1, (.c v))]), o 7 (.build l5 [(0, 1, (.c v)), (1, 1, (.c v)), (4, 1, (.c v)), (8, 1, (.c v)), (9, 1, (.c v))]), o 8 (.build l5 [(0, 1, (.c v)), (5, 1, (.c v)), (9, 1, (.c v))]), o 9 (.build l5 [(0, 1, (.c v)), (1, 1, (.c v)), (4, 1, (.c v)), (5, 1, (.c v)), (8, 1, (.c v)), (9, 1, (.c v))]), o 10 (.build l5 [(0, 1, (.c v)), (1, 1, (.c v)), (9, 1, (.c v))]), o 11 (.build l5 [(0, 1, (.c v)), (1, 1, (.c v)), (4, 1, (.c v)), (8, 1, (.c v)), (9, 1, (.c v))]), o 12 (.build l5 [(3, 1, (.c v)), (6, 1, (.c v))]), o 13 (.build l5 [(0, 1, (.c v)), (1, 1, (.c v)), (4, 1, (.c v)), (6, 1, (.c v)), (7, 1, (.c v))]), o 14 (.build [w, w, w, w, w, w, w, w, w, w, w, w, w, w, w, w, w, w, w, w, w, w, w, w, w, w, w, w, w, w, w, w, w, w, w, w, w, w, w, w, w, w, w, w, w, w, w, w, w, w, w, w, w, w, w, w, w, w, w, w, w, w, w, w, w, w, w, w, w, w, w, w, w, w, w, w, w, w, w, w, w, w, w, w, w, w, w, w, w, w, w, w, w, w, w, w, w, w, w, w, w, w, w, w, w, w, w, w, w, w, w, w, w, w, w, w, w, w, w, w, w, w, w, w, w, w, w, w, w, w, w, w, w, w, w, w, w, w, w, w, w, w, w, w, w, w, w, w, w, w] [(10, 10, (.s 0)), (20, 10, (.s 1)), (30, 10, (.s 2)), (40, 10, (.s 3)), (50, 10, (.s 4)), (60, 10, (.s 5)), (70, 10, (.s 6)), (80, 10, (.s 7)), (90, 10, (.s 8)), (100, 10, (.s 9)), (110, 10, (.s 10)), (120, 10, (.s 11)), (130, 10, (.s 12)), (140, 10, (.s 13))]), p (.store 150 (.c (.dptr usesD)) (.s 14))] none [])⟩
theorem r_tally_ack_draw : progT Tryz.prog 139 = some xf_tally_ack_draw.plain := by kernel_rfl
theorem r_tally_ack_fresh : progT Tryz.prog 140 = some xf_tally_ack_fresh.plain := by kernel_rfl
theorem r_tally_ack_node : progT Tryz.prog 141 = some xf_tally_ack_node.plain := by kernel_rfl
theorem r_tally_mark_above : progT Tryz.prog 143 = some xf_tally_mark_above.plain := by kernel_rfl
theorem r_tally_mark_draw : progT Tryz.prog 144 = some xf_tally_mark_draw.plain := by kernel_rfl
theorem r_tally_mark_fresh : progT Tryz.prog 145 = some xf_tally_mark_fresh.plain := by kernel_rfl
theorem r_tally_mark_node : progT Tryz.prog 146 = some xf_tally_mark_node.plain := by kernel_rfl
theorem r_tally_ballot_above : progT Tryz.prog 147 = some xf_tally_ballot_above.plain := by kernel_rfl
theorem r_tally_ballot_draw : progT Tryz.prog 148 = some xf_tally_ballot_draw.plain := by kernel_rfl
theorem r_tally_ballot_node : progT Tryz.prog 149 = some xf_tally_ballot_node.plain := by kernel_rfl
theorem r_tally_longer : progT Tryz.prog 150 = some xf_tally_longer.plain := by kernel_rfl
theorem r_tally_answer_above : progT Tryz.prog 151 = some xf_tally_answer_above.plain := by kernel_rfl
theorem r_tally_answer_draw : progT Tryz.prog 152 = some xf_tally_answer_draw.plain := by kernel_rfl
theorem r_tally_answer_fresh : progT Tryz.prog 153 = some xf_tally_answer_fresh.plain := by kernel_rfl
theorem r_tally_answer_node : progT Tryz.prog 154 = some xf_tally_answer_node.plain := by kernel_rfl
theorem r_gosem_cut_vars : progT Tryz.prog 161 = some xf_gosem_cut_vars.plain := by kernel_rfl

end Go.Ax
