/-
  The functions of this seat as resolved code, and that the program resolves to them (part 4).
-/
import Derived.Test.YticchmjgonkcjaaGreatDoorXComp
import Derived.Test.YticchmjgonkcjaaGreatDoorXFn
import Derived.Test.YticchmjgonkcjaaGreatDoorXG
import Derived.Test.YticchmjgonkcjaaGreatDoorXP
import Derived.Test.YticchmjgonkcjaaGreatDoorProg
import Derived.KernelRfl
namespace Go.Ax
set_option linter.all false
open Go.Proofs P

def xf_ref04_Do_k0 : List (Nat × Option (Nat × Nat × Bool)) := [(0, none), (3, none), (5, none), (8, none), (9, none)]
def xf_ref04_Do_b0 : XCode := (.seq (rs [om 46 9, om 47 0, o 48 (le 47), o 49 (bl 46 48)] [0, 3, 5, 8, 9, 49]
 (.cond (.s 49) .skip (.exit 1 [0, 3, 5, 8])))
 (.seq (.block 2 (rs [om 52 0, om 53 9, o 54 (ia 2 52 53), of 55 0 54, o 56 (k 55), om 57 8, o 58 (bh 56 57)] [0, 3, 5, 8, 9, 58]
 (.cond (.s 58) (.reg [om 59 0, om 60 9, o 61 (ia 2 59 60), of 62 0 61, o 63 (k 62), o 64 (baj 63 1), om 8 64] none [0, 3, 5, 8, 9]) .skip)))
 (.reg [om 50 9, o 51 (baj 50 1), om 9 51] none [0, 3, 5, 8, 9])))
def xf_ref04_Do : XFunc := ⟨none, true, 2, [.tmp 4, .cell 5 (some 3)], (rs [o 3 (bx 1), o 4 (.mv (.c (.nil 279 2 true))), o 5 (.alloc l9)] [0, 3, 5]
 (.seq (rs [ol 10 3 3, o 11 (c 176 [10]), o 12 (nj 11 0)] [0, 3, 5, 12]
 (.cond (.s 12) (rs [om 13 0, o 14 (.build l9 []), om 4 13, p (t 3 5 14)] [4, 5]
 (.ret [4, 5])) .skip))
 (rs [om 16 0, of 17 1 3, o 18 (k 17), o 19 (c 178 [16, 18]), om 15 19, o 20 (e 15 0), o 21 (e 15 1), om 6 20, om 7 21] [0, 3, 5, 6, 7]
 (.seq (rs [of 22 0 3, o 23 (k 22)] [0, 3, 5, 6, 7, 23]
 (.block 0 (rs [o 25 (qj 23 1), om 24 25] [0, 3, 5, 6, 7, 23, 24]
 (.cond (.s 24) (.seq (rs [om 26 7] [0, 3, 5, 6, 26]
 (.cond (.s 26) (rp (some []) [om 27 0, of 28 1 3, o 29 (k 28), om 30 6, o 31 (.build l9 [(0, 1, (j 2)), (1, 1, (.s 29)), (2, 1, (.s 30))]), om 4 27, p (t 3 5 31)] [4, 5]
 (.ret [4, 5])) .skip))
 (rp (some [(6, 8), (6, 10)]) [om 32 0, of 33 1 3, o 34 (k 33), of 35 2 3, o 36 (k 35), o 37 (.build [z, x] [(0, 1, (.s 34)), (1, 1, (.s 36))]), o 38 (c 179 [32, 37]), of 39 1 3, o 40 (k 39), of 41 2 3, o 42 (k 41), o 43 (.build l9 [(0, 1, (j 1)), (1, 1, (.s 40)), (2, 1, (.s 42))]), om 4 38, p (t 3 5 43)] [4, 5]
 (.ret [4, 5]))) (rs [o 45 (qj 23 2), om 44 45] [0, 3, 5, 6, 7, 23, 44]
 (.cond (.s 44) (rs [o 8 (.mv (j 0))] [0, 3, 5, 8]
 (.seq (rs [o 9 (.mv (j 0))] [0, 3, 5, 8, 9]
 (.block 1 (.loop xf_ref04_Do_k0 xf_ref04_Do_b0)))
 (.seq (rs [om 65 8, o 66 (bhj 65 1024)] [0, 3, 5, 8, 66]
 (.cond (.s 66) (rs [om 67 0, o 68 (.build l9 [(0, 1, (j 3))]), om 4 67, p (t 3 5 68)] [4, 5]
 (.ret [4, 5])) .skip))
 (rp (some [(5, 8)]) [om 69 0, om 70 8, of 71 2 3, o 72 (k 71), o 73 (.build [z, x] [(0, 1, (.s 70)), (1, 1, (.s 72))]), o 74 (c 179 [69, 73]), om 75 8, of 76 2 3, o 77 (k 76), o 78 (.build l9 [(0, 1, (j 1)), (1, 1, (.s 75)), (2, 1, (.s 77))]), om 4 74, p (t 3 5 78)] [4, 5]
 (.ret [4, 5]))))) (rs [o 80 (qj 23 3), om 79 80] [0, 3, 5, 6, 7, 79]
 (.cond (.s 79) (.seq (rs [om 81 7] [0, 3, 5, 6, 81]
 (.cond (.s 81) (rp (some []) [om 82 0, of 83 1 3, o 84 (k 83), om 85 6, o 86 (.build l9 [(0, 1, (j 4)), (1, 1, (.s 84)), (2, 1, (.s 85))]), om 4 82, p (t 3 5 86)] [4, 5]
 (.ret [4, 5])) .skip))
 (rp (some []) [om 87 0, of 88 1 3, o 89 (k 88), o 90 (.build l9 [(0, 1, (j 5)), (1, 1, (.s 89))]), om 4 87, p (t 3 5 90)] [4, 5]
 (.ret [4, 5]))) .skip))))))))
 (rs [om 91 0, om 92 0, o 93 (le 92), o 94 (.build l9 [(0, 1, (j 6)), (1, 1, (.s 93))]), om 4 91, p (t 3 5 94)] [4, 5]
 (.ret [4, 5]))))))⟩

def xf_ref04_Get_k0 : List (Nat × Option (Nat × Nat × Bool)) := [(0, none), (1, none), (6, none)]
def xf_ref04_Get_b0 : XCode := (.seq (rs [om 7 6, om 8 0, o 9 (le 8), o 10 (bl 7 9)] [0, 1, 6, 10]
 (.cond (.s 10) .skip (.exit 0 [])))
 (.seq (.block 1 (rs [om 13 0, om 14 6, o 15 (ia 2 13 14), of 16 0 15, o 17 (k 16), om 18 1, o 19 (q 17 18)] [0, 1, 6, 19]
 (.cond (.s 19) (rs [om 20 0, om 21 6, o 22 (ia 2 20 21), of 23 1 22, o 24 (k 23), om 4 24, o 5 (.mv (.c v))] [4, 5]
 (.ret [4, 5])) .skip)))
 (.reg [om 11 6, o 12 (baj 11 1), om 6 12] none [0, 1, 6])))
def xf_ref04_Get : XFunc := ⟨none, true, 2, [.tmp 4, .tmp 5], (rs [o 4 (.mv (.c x)), o 5 (.mv (.c w))] [0, 1]
 (.seq (rs [o 6 (.mv (j 0))] [0, 1, 6]
 (.block 0 (.loop xf_ref04_Get_k0 xf_ref04_Get_b0)))
 (rs [o 4 (.mv (.c x)), o 5 (.mv (.c w))] [4, 5]
 (.ret [4, 5]))))⟩

def xf_ref04_put_k0 : List (Nat × Option (Nat × Nat × Bool)) := [(0, none), (3, none), (5, some (279, 2, true)), (6, none), (7, none)]
def xf_ref04_put_b0 : XCode := (.seq (rs [om 8 7, om 9 0, o 10 (le 9), o 11 (bl 8 10)] [0, 3, 5, 6, 7, 11]
 (.cond (.s 11) .skip (.exit 0 [3, 5, 6])))
 (.seq (.block 1 (.seq (sp (some []) [am 14 6, a 15 (nt 14), am 16 15, b 17 (f 0 3) 16, b 18 (k 17) 16, bb 19 0 16, bb 20 7 16, u 21 (ia 2 19 20) 16, u 22 (f 0 21) 16, u 23 (k 22) 16, u 24 (bl 18 23) 16, a 25 (ka 16 24)] [0, 3, 5, 6, 7, 25]
 (.cond (.s 25) (rs [om 26 5, ol 27 2 3, o 28 (.bsl 279 2 true 1 [z, x] [(0, 2, (.s 27))]), o 29 (.app 279 2 24 true (.s 26) (.s 28)), om 5 29] [0, 3, 5, 7]
 (.reg [o 6 (.mv (.c v))] none [0, 3, 5, 6, 7])) .skip))
 (.reg [om 30 5, om 31 0, om 32 7, o 33 (ia 2 31 32), ol 34 2 33, o 35 (.bsl 279 2 true 1 [z, x] [(0, 2, (.s 34))]), o 36 (.app 279 2 24 true (.s 30) (.s 35)), om 5 36] none [0, 3, 5, 6, 7])))
 (.reg [om 12 7, o 13 (baj 12 1), om 7 13] none [0, 3, 5, 6, 7])))
def xf_ref04_put : XFunc := ⟨none, true, 2, [.tmp 4], (rs [o 3 (bx 1), o 4 (.mv (.c (.nil 279 2 true)))] [0, 3]
 (rs [o 5 (.mv (.c (.nil 279 2 true)))] [0, 3, 5]
 (rs [o 6 (.mv (.c w))] [0, 3, 5, 6]
 (.seq (rs [o 7 (.mv (j 0))] [0, 3, 5, 6, 7]
 (.block 0 (.loop xf_ref04_put_k0 xf_ref04_put_b0)))
 (.seq (rs [om 37 6, o 38 (nt 37)] [3, 5, 38]
 (.cond (.s 38) (.reg [om 39 5, ol 40 2 3, o 41 (.bsl 279 2 true 1 [z, x] [(0, 2, (.s 40))]), o 42 (.app 279 2 24 true (.s 39) (.s 41)), om 5 42] none [5]) .skip))
 (rs [om 43 5, om 4 43] [4]
 (.ret [4])))))))⟩

def xf_tally_ack_above : XFunc := ⟨none, true, 2, [.tmp 4], (rs [o 2 (bx 0), o 3 (bx 1), o 4 (.mv (.c w))] [2, 3]
 (rs [of 5 3 2, o 6 (k 5), of 7 3 3, o 8 (k 7), o 9 (bg 6 8), om 4 9] [4]
 (.ret [4])))⟩

def xf_tally_ack_draw : XFunc := ⟨none, true, 1, [.cell 2 (some 2)], (rs [o 1 (bx 0), o 2 (.alloc [y, y])] [1, 2]
 (rs [of 3 1 1, ol 4 2 3, p (t 2 2 4)] [2]
 (.ret [2])))⟩

def xf_tally_ack_fresh : XFunc := ⟨none, true, 1, [.cell 2 (some 4)], (rs [o 1 (bx 0), o 2 (.alloc l12)] [1, 2]
 (rs [ol 3 4 1, p (t 4 2 3)] [2]
 (.ret [2])))⟩

def xf_tally_ack_node : XFunc := ⟨none, true, 1, [.tmp 2], (rs [o 1 (bx 0), o 2 (.mv (j 0))] [1]
 (rs [of 3 0 1, o 4 (k 3), om 2 4] [2]
 (.ret [2])))⟩

def xf_tally_mark_above : XFunc := ⟨none, true, 2, [.tmp 4], (rs [o 2 (bx 0), o 3 (bx 1), o 4 (.mv (.c w))] []
 (rs [o 4 (.mv (.c w))] [4]
 (.ret [4])))⟩

def xf_tally_mark_draw : XFunc := ⟨none, true, 1, [.cell 2 (some 2)], (rs [o 1 (bx 0), o 2 (.alloc [y, y])] [1, 2]
 (rs [of 3 1 1, ol 4 2 3, p (t 2 2 4)] [2]
 (.ret [2])))⟩

def xf_tally_mark_fresh : XFunc := ⟨none, true, 1, [.cell 2 (some 3)], (rs [o 1 (bx 0), o 2 (.alloc l8)] [1, 2]
 (rs [ol 3 3 1, p (t 3 2 3)] [2]
 (.ret [2])))⟩

def xf_tally_mark_node : XFunc := ⟨none, true, 1, [.tmp 2], (rs [o 1 (bx 0), o 2 (.mv (j 0))] [1]
 (rs [of 3 0 1, o 4 (k 3), om 2 4] [2]
 (.ret [2])))⟩

def xf_tally_ballot_above : XFunc := ⟨none, true, 2, [.tmp 4], (rs [o 2 (bx 0), o 3 (bx 1), o 4 (.mv (.c w))] [2, 3]
 (.seq (rs [of 5 3 2, o 6 (k 5), of 7 3 3, o 8 (k 7), o 9 (n 6 8)] [2, 3, 9]
 (.cond (.s 9) (rs [of 10 3 2, o 11 (k 10), of 12 3 3, o 13 (k 12), o 14 (bg 11 13), om 4 14] [4]
 (.ret [4])) .skip))
 (rs [of 15 5 2, o 16 (k 15), of 17 4 2, o 18 (k 17), of 19 5 3, o 20 (k 19), of 21 4 3, o 22 (k 21), o 23 (c 207 [16, 18, 20, 22]), om 4 23] [4]
 (.ret [4]))))⟩

def xf_tally_ballot_draw : XFunc := ⟨none, true, 1, [.cell 2 (some 2)], (rs [o 1 (bx 0), o 2 (.alloc [y, y])] [1, 2]
 (rs [of 3 1 1, ol 4 2 3, p (t 2 2 4)] [2]
 (.ret [2])))⟩

def xf_tally_ballot_node : XFunc := ⟨none, true, 1, [.tmp 2], (rs [o 1 (bx 0), o 2 (.mv (j 0))] [1]
 (rs [of 3 0 1, o 4 (k 3), om 2 4] [2]
 (.ret [2])))⟩

def xf_tally_longer : XFunc := ⟨none, true, 4, [.tmp 8], (rs [o 8 (.mv (.c w))] [0, 1, 2, 3]
 (ss [am 9 0, a 10 (le 9), am 11 2, a 12 (le 11), a 13 (bg 10 12), am 14 13, d 15 (m 0) 14, d 16 (le 15) 14, d 17 (m 2) 14, d 18 (le 17) 14, d 19 (q 16 18) 14, d 20 (m 19) 14, bb 21 1 20, bb 22 3 20, b 23 (bg 21 22) 20, d 24 (ka 20 23) 14, a 25 (ko 14 24), am 8 25] [8]
 (.ret [8])))⟩

def xf_tally_answer_above : XFunc := ⟨none, true, 2, [.tmp 4], (rs [o 2 (bx 0), o 3 (bx 1), o 4 (.mv (.c w))] [2, 3]
 (.seq (rs [of 5 3 2, o 6 (k 5), of 7 3 3, o 8 (k 7), o 9 (n 6 8)] [2, 3, 9]
 (.cond (.s 9) (rs [of 10 3 2, o 11 (k 10), of 12 3 3, o 13 (k 12), o 14 (bg 11 13), om 4 14] [4]
 (.ret [4])) .skip))
 (rs [of 15 5 2, o 16 (k 15), of 17 4 2, o 18 (k 17), of 19 5 3, o 20 (k 19), of 21 4 3, o 22 (k 21), o 23 (c 207 [16, 18, 20, 22]), om 4 23] [4]
 (.ret [4]))))⟩

def xf_tally_answer_draw : XFunc := ⟨none, true, 1, [.cell 2 (some 2)], (rs [o 1 (bx 0), o 2 (.alloc [y, y])] [1, 2]
 (rs [of 3 1 1, ol 4 2 3, p (t 2 2 4)] [2]
 (.ret [2])))⟩

def xf_tally_answer_fresh : XFunc := ⟨none, true, 1, [.cell 2 (some 6)], (rs [o 1 (bx 0), o 2 (.alloc l3)] [1, 2]
 (rs [of 3 5 1, o 4 (k 3), o 5 (.app 38 5 48 true (.c (.nil 38 5 true)) (.s 4)), of 6 5 1, p (t 1 6 5)] [1, 2]
 (rs [ol 7 6 1, p (t 6 2 7)] [2]
 (.ret [2]))))⟩

def xf_tally_answer_node : XFunc := ⟨none, true, 1, [.tmp 2], (rs [o 1 (bx 0), o 2 (.mv (j 0))] [1]
 (rs [of 3 0 1, o 4 (k 3), om 2 4] [2]
 (.ret [2])))⟩

def xf_gosem_cut_vars : XFunc := ⟨none, true, 0, [], (.reg [o 0 (.build l6 [(6, 1, (.c v))]), o 1 (.build l6 [(0, 1, (.c v)), (1, 1, (.c v)), (3, 1, (.c v)), (6, 1, (.c v)), (7, 1, (.c v))]), o 2 (.build l6 [(0, 1, (.c v)), (1, 1, (.c v)), (3, 1, (.c v)), (4, 1, (.c v)), (6, 1, (.c v)), (9, 1, (.c v))]), o 3 (.build l6 [(0, 1, (.c v)), (1, 1, (.c v)), (3, 1, (.c v)), (9, 1, (.c v))]), o 4 (.build l6 [(0, 1, (.c v)), (1, 1, (.c v)), (4, 1, (.c v)), (9, 1, (.c v))]), o 5 (.build l6 [(0, 1, (.c v)), (1, 1, (.c v)), (9, 1, (.c v))]), o 6 (.build l6 [(0, 1, (.c v)), (1, 1, (.c v)), (2, 1, (.c v)), (4, 1, (.c v)), (8, 1, (.c v)), (9, 1, (.c v))]), o 7 (.build l6 [(0, 1, (.c v)), (1, 1, (.c v)), (4, 1, (.c v)), (8, 1, (.c v)), (9, 1, (.c v))]), o 8 (.build l6 [(0, 1, (.c v)), (5, 1, (.c v)), (9, 1, (.c v))]), o 9 (.build l6 [(0, 1, (.c v)), (1, 1, (.c v)), (4, 1, (.c v)), (5, 1, (.c v)), (8, 1, (.c v)), (9, 1, (.c v))]), o 10 (.build l6 [(0, 1, (.c v)), (1, 1, (.c v)), (9, 1, (.c v))]), o 11 (.build l6 [(0, 1, (.c v)), (1, 1, (.c v)), (4, 1, (.c v)), (8, 1, (.c v)), (9, 1, (.c v))]), o 12 (.build l6 [(3, 1, (.c v)), (6, 1, (.c v))]), o 13 (.build l6 [(0, 1, (.c v)), (1, 1, (.c v)), (4, 1, (.c v)), (6, 1, (.c v)), (7, 1, (.c v))]), o 14 (.build [w, w, w, w, w, w, w, w, w, w, w, w, w, w, w, w, w, w, w, w, w, w, w, w, w, w, w, w, w, w, w, w, w, w, w, w, w, w, w, w, w, w, w, w, w, w, w, w, w, w, w, w, w, w, w, w, w, w, w, w, w, w, w, w, w, w, w, w, w, w, w, w, w, w, w, w, w, w, w, w, w, w, w, w, w, w, w, w, w, w, w, w, w, w, w, w, w, w, w, w, w, w, w, w, w, w, w, w, w, w, w, w, w, w, w, w, w, w, w, w, w, w, w, w, w, w, w, w, w, w, w, w, w, w, w, w, w, w, w, w, w, w, w, w, w, w, w, w, w, w] [(10, 10, (.s 0)), (20, 10, (.s 1)), (30, 10, (.s 2)), (40, 10, (.s 3)), (50, 10, (.s 4)), (60, 10, (.s 5)), (70, 10, (.s 6)), (80, 10, (.s 7)), (90, 10, (.s 8)), (100, 10, (.s 9)), (110, 10, (.s 10)), (120, 10, (.s 11)), (130, 10, (.s 12)), (140, 10, (.s 13))]), p (.store 150 (.c (.dptr usesD)) (.s 14))] none [])⟩
theorem r_ref04_Do : progT Tryz.prog 177 = some xf_ref04_Do.plain := by kernel_rfl
theorem r_ref04_Get : progT Tryz.prog 178 = some xf_ref04_Get.plain := by kernel_rfl
theorem r_ref04_put : progT Tryz.prog 179 = some xf_ref04_put.plain := by kernel_rfl
theorem r_tally_ack_above : progT Tryz.prog 195 = some xf_tally_ack_above.plain := by kernel_rfl
theorem r_tally_ack_draw : progT Tryz.prog 196 = some xf_tally_ack_draw.plain := by kernel_rfl
theorem r_tally_ack_fresh : progT Tryz.prog 197 = some xf_tally_ack_fresh.plain := by kernel_rfl
theorem r_tally_ack_node : progT Tryz.prog 198 = some xf_tally_ack_node.plain := by kernel_rfl
theorem r_tally_mark_above : progT Tryz.prog 200 = some xf_tally_mark_above.plain := by kernel_rfl
theorem r_tally_mark_draw : progT Tryz.prog 201 = some xf_tally_mark_draw.plain := by kernel_rfl
theorem r_tally_mark_fresh : progT Tryz.prog 202 = some xf_tally_mark_fresh.plain := by kernel_rfl
theorem r_tally_mark_node : progT Tryz.prog 203 = some xf_tally_mark_node.plain := by kernel_rfl
theorem r_tally_ballot_above : progT Tryz.prog 204 = some xf_tally_ballot_above.plain := by kernel_rfl
theorem r_tally_ballot_draw : progT Tryz.prog 205 = some xf_tally_ballot_draw.plain := by kernel_rfl
theorem r_tally_ballot_node : progT Tryz.prog 206 = some xf_tally_ballot_node.plain := by kernel_rfl
theorem r_tally_longer : progT Tryz.prog 207 = some xf_tally_longer.plain := by kernel_rfl
theorem r_tally_answer_above : progT Tryz.prog 208 = some xf_tally_answer_above.plain := by kernel_rfl
theorem r_tally_answer_draw : progT Tryz.prog 209 = some xf_tally_answer_draw.plain := by kernel_rfl
theorem r_tally_answer_fresh : progT Tryz.prog 210 = some xf_tally_answer_fresh.plain := by kernel_rfl
theorem r_tally_answer_node : progT Tryz.prog 211 = some xf_tally_answer_node.plain := by kernel_rfl
theorem r_gosem_cut_vars : progT Tryz.prog 218 = some xf_gosem_cut_vars.plain := by kernel_rfl

end Go.Ax
