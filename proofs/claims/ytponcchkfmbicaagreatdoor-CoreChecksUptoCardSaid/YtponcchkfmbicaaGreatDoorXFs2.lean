/-
  The functions of this seat as resolved code, and that the program resolves to them (part 3).
-/
import Derived.Test.YtponcchkfmbicaaGreatDoorXComp
import Derived.Test.YtponcchkfmbicaaGreatDoorXFn
import Derived.Test.YtponcchkfmbicaaGreatDoorXG
import Derived.Test.YtponcchkfmbicaaGreatDoorXP
import Derived.Test.YtponcchkfmbicaaGreatDoorProg
import Derived.KernelRfl
namespace Go.Ax
set_option linter.all false
open Go.Proofs P

def xf_plain_markDraw : XFunc := ⟨none, true, 2, [.cell 4 (some 2)], (rs [o 4 (.alloc [y, y])] [0, 1, 4]
 (rs [om 5 0, o 6 (baj 5 1), o 7 (.bin .mul (j 1000003) (.s 6)), om 8 1, o 9 (ba 7 8), o 10 (.conv .u64 (.s 9)), o 11 (.build [y, y] [(0, 1, (.s 10)), (1, 1, (.c (.dat (.int .u64 12379813738877118345))))]), p (t 2 4 11)] [4]
 (.ret [4])))⟩

def xf_plain_markEntry : XFunc := ⟨none, true, 2, [.cell 4 (some 5)], (rs [o 4 (.alloc l11)] [0, 1, 4]
 (rs [om 5 0, o 6 (.bin .sub (j (-1000)) (.s 5)), om 7 1, o 8 (.bin .sub (j (-5)) (.s 7)), o 9 (.build l11 [(0, 1, (.s 6)), (1, 1, (.s 8))]), p (t 5 4 9)] [4]
 (.ret [4])))⟩

def xf_plain_markCell : XFunc := ⟨none, true, 2, [.cell 4 (some 2)], (rs [o 4 (.alloc [z, x])] [0, 1, 4]
 (rs [om 5 0, o 6 (baj 5 1), o 7 (.bin .mul (j (-1000003)) (.s 6)), om 8 1, o 9 (bs 7 8), o 10 (.build [z, x] [(0, 1, (.s 9))]), p (t 2 4 10)] [4]
 (.ret [4])))⟩

def xf_plain_markRow : XFunc := ⟨none, true, 2, [.cell 4 (some 7)], (rs [o 4 (.alloc l9)] [0, 1, 4]
 (rs [om 5 0, o 6 (baj 5 1), o 7 (.bin .mul (j (-1000003)) (.s 6)), om 8 1, o 9 (bs 7 8), o 10 (.build l9 [(0, 1, (.s 9)), (2, 1, (j (-9)))]), p (t 7 4 10)] [4]
 (.ret [4])))⟩

def xf_plain_markResult : XFunc := ⟨none, true, 2, [.cell 4 (some 3)], (rs [o 4 (.alloc l7)] [0, 1, 4]
 (rs [om 5 0, o 6 (baj 5 1), o 7 (.bin .mul (j (-1000003)) (.s 6)), om 8 1, o 9 (bs 7 8), o 10 (.build l7 [(0, 1, (.s 9))]), p (t 3 4 10)] [4]
 (.ret [4])))⟩

def xf_plain_markStamp : XFunc := ⟨none, true, 2, [.cell 4 (some 3)], (rs [o 4 (.alloc l8)] [0, 1, 4]
 (rs [om 5 0, o 6 (baj 5 1), o 7 (.bin .mul (j (-1000003)) (.s 6)), om 8 1, o 9 (bs 7 8), o 10 (.build l8 [(0, 1, (.s 9))]), p (t 3 4 10)] [4]
 (.ret [4])))⟩

def xf_plain_markAck : XFunc := ⟨none, true, 2, [.cell 4 (some 4)], (rs [o 4 (.alloc l10)] [0, 1, 4]
 (rs [om 5 0, o 6 (baj 5 1), o 7 (.bin .mul (j (-1000003)) (.s 6)), om 8 1, o 9 (bs 7 8), o 10 (.build l10 [(0, 1, (.s 9))]), p (t 4 4 10)] [4]
 (.ret [4])))⟩

def xf_plain_markMark : XFunc := ⟨none, true, 2, [.cell 4 (some 3)], (rs [o 4 (.alloc l8)] [0, 1, 4]
 (rs [om 5 0, o 6 (baj 5 1), o 7 (.bin .mul (j (-1000003)) (.s 6)), om 8 1, o 9 (bs 7 8), o 10 (.build l8 [(0, 1, (.s 9))]), p (t 3 4 10)] [4]
 (.ret [4])))⟩

def xf_ref05_results_k0 : List (Nat × Option (Nat × Nat × Bool)) := [(0, none), (1, none), (5, some (36, 3, true)), (6, none)]
def xf_ref05_results_b0 : XCode := (.seq (rs [om 9 6, om 10 1, o 11 (bl 9 10)] [0, 1, 5, 6, 11]
 (.cond (.s 11) .skip (.exit 0 [5])))
 (.seq (.block 1 (.reg [om 14 5, om 15 0, om 16 6, o 17 (ia 5 15 16), of 18 2 17, ol 19 3 18, o 20 (.bsl 36 3 true 1 l7 [(0, 3, (.s 19))]), o 21 (.app 36 3 32 true (.s 14) (.s 20)), om 5 21] none [0, 1, 5, 6]))
 (.reg [om 12 6, o 13 (baj 12 1), om 6 13] none [0, 1, 5, 6])))
def xf_ref05_results : XFunc := ⟨none, true, 2, [.tmp 4], (rs [o 4 (.mv (.c (.nil 40 3 true)))] [0, 1]
 (rs [o 5 (.mv (.c (.nil 36 3 true)))] [0, 1, 5]
 (.seq (rs [o 6 (.mv (j 0))] [0, 1, 5, 6]
 (.block 0 (.loop xf_ref05_results_k0 xf_ref05_results_b0)))
 (rs [om 23 5, o 24 (c 177 [23]), om 22 24, o 25 (e 22 0), o 26 (e 22 1), om 7 25, om 8 26] [8]
 (rs [om 27 8, om 4 27] [4]
 (.ret [4]))))))⟩

def xf_ref05_row : XFunc := ⟨none, true, 3, [.cell 6 (some 7)], (rs [o 6 (.alloc l9)] [0, 1, 2, 6]
 (rp (some [(3, 15), (5, 15), (9, 15), (11, 15)]) [om 9 0, om 10 1, o 11 (bsj 10 1), o 12 (ia 5 9 11), of 13 0 12, o 14 (k 13), om 15 0, om 16 1, o 17 (bsj 16 1), o 18 (ia 5 15 17), of 19 1 18, o 20 (k 19), om 21 1, om 22 2, o 23 (.build l9 [(0, 1, (.s 14)), (1, 1, (.s 20)), (2, 1, (.s 21)), (3, 1, (.s 22))]), o 7 (.alloc l9), p (t 7 7 23)] [0, 1, 2, 6, 7]
 (.seq (rs [om 24 2] [0, 1, 6, 7, 24]
 (.cond (.s 24) (rs [om 25 0, om 26 1, o 27 (c 166 [25, 26]), om 8 27] [1, 6, 7, 8]
 (.reg [om 28 8, om 29 1, o 30 (bsj 29 1), o 31 (ia 3 28 30), ol 32 3 31, of 33 4 7, p (t 3 33 32)] none [6, 7])) .skip))
 (rs [ol 34 7 7, p (t 7 6 34)] [6]
 (.ret [6])))))⟩

def xf_message_short : XFunc := ⟨none, true, 1, [.tmp 2], (rs [o 2 (.mv (.c w))] [0]
 (ss [am 3 0, a 4 (qj 3 2), am 5 4, d 6 (m 0) 5, d 7 (qj 6 14) 5, a 8 (ko 5 7), am 2 8] [2]
 (.ret [2])))⟩

def xf_ledger_Check : XFunc := ⟨none, true, 1, [.tmp 2], (rs [o 1 (bx 0), o 2 (.mv (j 0))] [1]
 (.seq (rs [of 4 0 1, o 5 (k 4)] [1, 5]
 (.block 0 (.seq (rs [o 7 (qj 5 1), om 6 7] [1, 5, 6]
 (.cond (.s 6) .skip (.reg [o 8 (qj 5 3), om 6 8] none [1, 5, 6])))
 (.cond (.s 6) (ss [a 9 (f 1 1), a 10 (k 9), a 11 (blj 10 0), am 12 11, d 13 (f 1 1) 12, d 14 (k 13) 12, d 15 (bhj 14 1024) 12, a 16 (ko 12 15)] [1, 16]
 (.cond (.s 16) (rs [o 2 (.mv (j 41))] [2]
 (.ret [2])) .skip)) (.seq (rs [o 18 (qj 5 2), om 17 18] [1, 5, 17]
 (.cond (.s 17) .skip (.reg [o 19 (qj 5 4), om 17 19] none [1, 17])))
 (.cond (.s 17) (rs [of 20 1 1, o 21 (k 20), o 22 (nj 21 0)] [1, 22]
 (.cond (.s 22) (rs [o 2 (.mv (j 41))] [2]
 (.ret [2])) .skip)) (rs [o 2 (.mv (j 40))] [2]
 (.ret [2]))))))))
 (rs [o 3 (.mv (j 0))] [1, 3]
 (.seq (rs [of 23 0 1, o 24 (k 23)] [1, 3, 24]
 (.block 1 (.seq (.block 3 (.block 2 (.seq (.seq (rs [o 26 (qj 24 1), om 25 26] [1, 3, 24, 25]
 (.cond (.s 25) (.exit 2 [1]) .skip))
 (rs [o 28 (qj 24 2), om 27 28] [1, 3, 27]
 (.cond (.s 27) (.exit 3 [1]) .skip)))
 (.exit 1 [1, 3]))))
 (rs [o 3 (.mv (j 64))] [1, 3]
 (.exit 1 [1, 3])))))
 (.seq (rs [of 29 2 1, o 30 (k 29), o 31 (.len true (.s 30)), om 32 3, o 33 (bg 31 32)] [33]
 (.cond (.s 33) (rs [o 2 (.mv (j 42))] [2]
 (.ret [2])) .skip))
 (rs [o 2 (.mv (j 0))] [2]
 (.ret [2])))))))⟩

def xf_oplog_Each : XFunc := ⟨none, false, 2, [.tmp 4], (rs [o 3 (bx 1), o 4 (.mv (.c (.dat .nilf)))] [0, 3]
 (rs [om 6 0, o 7 (.call (fc 178) [(.s 6), (.c (.nil 38 5 true))]), o 5 (.alloc [(.nil 38 5 true)]), p (t 1 5 7)] [3, 5]
 (rs [o 8 (.mkfn (.func 179) [] [(.s 3), (.s 5)]), om 4 8] [4]
 (.ret [4]))))⟩

def xf_oplog_fits : XFunc := ⟨none, true, 2, [.tmp 4], (rs [o 3 (bx 1), o 4 (.mv (j 0))] [0, 3]
 (.seq (ss [a 8 (f 0 3), a 9 (k 8), a 10 (blj 9 0), am 11 10, d 12 (f 0 3) 11, d 13 (k 12) 11, d 14 (bhj 13 16) 11, a 15 (ko 11 14)] [0, 3, 15]
 (.cond (.s 15) (rs [o 4 (.mv (j 62))] [4]
 (.ret [4])) .skip))
 (.seq (rs [of 16 1 3, o 17 (k 16), o 18 (blj 17 1)] [0, 3, 18]
 (.cond (.s 18) (rs [o 4 (.mv (j 63))] [4]
 (.ret [4])) .skip))
 (.seq (rs [of 19 2 3, ol 20 3 19, o 21 (c 169 [20]), om 5 21] [0, 3, 5]
 (rs [om 22 5, o 23 (nj 22 0)] [0, 3, 5, 23]
 (.cond (.s 23) (rs [om 24 5, om 4 24] [4]
 (.ret [4])) .skip)))
 (.seq (rs [om 26 0, of 27 0 3, o 28 (k 27), o 29 (.mget true (.int .i64 0) (.s 26) (.s 28)), om 25 29, o 30 (e 25 0), o 31 (e 25 1), om 6 30, om 7 31] [3, 6, 7]
 (ss [am 32 7, am 33 32, bb 34 6 33, b 35 (f 1 3) 33, b 36 (k 35) 33, b 37 (bh 34 36) 33, a 38 (ka 33 37)] [38]
 (.cond (.s 38) (rs [o 4 (.mv (j 64))] [4]
 (.ret [4])) .skip)))
 (rs [o 4 (.mv (j 0))] [4]
 (.ret [4])))))))⟩

def xf_ref09_voters_k0 : List (Nat × Option (Nat × Nat × Bool)) := [(1, none), (2, none), (3, none), (4, none), (9, none)]
def xf_ref09_voters_b0 : XCode := (.seq (rs [om 10 9, om 11 2, o 12 (le 11), o 13 (bl 10 12)] [1, 2, 3, 4, 9, 13]
 (.cond (.s 13) .skip (.exit 0 [])))
 (.seq (.block 1 (sp (some []) [am 16 2, am 17 9, a 18 (ia 1 16 17), a 19 (k 18), a 20 (blj 19 0), am 21 20, d 22 (m 2) 21, d 23 (m 9) 21, r 24 (ia 1 22 23) 21, r 25 (k 24) 21, d 26 (m 1) 21, r 27 (bh 25 26) 21, a 28 (ko 21 27), am 29 28, d 30 (m 2) 29, d 31 (m 9) 29, r 32 (ia 1 30 31) 29, r 33 (k 32) 29, d 34 (f 0 4) 29, d 35 (k 34) 29, r 36 (q 33 35) 29, a 37 (ko 29 36), am 38 37, d 39 (m 9) 38, d 40 (bgj 39 0) 38, r 41 (m 40) 38, bb 42 2 41, bb 43 9 41, u 44 (ia 1 42 43) 41, u 45 (k 44) 41, bb 46 2 41, bb 47 9 41, b 48 (bsj 47 1) 41, u 49 (ia 1 46 48) 41, u 50 (k 49) 41, u 51 (bm 45 50) 41, r 52 (ka 41 51) 38, a 53 (ko 38 52), am 54 53, d 55 (m 3) 54, d 56 (m 9) 54, r 57 (ia 2 55 56) 54, r 58 (l 2 57) 54, d 59 (f 6 4) 54, d 60 (k 59) 54, d 61 (m 2) 54, d 62 (m 9) 54, r 63 (ia 1 61 62) 54, r 64 (k 63) 54, r 65 (ia 2 60 64) 54, r 66 (l 2 65) 54, r 67 (.eqv true true [.i, .i] (.s 58) (.s 66)) 54, a 68 (ko 54 67)] [1, 2, 3, 4, 9, 68]
 (.cond (.s 68) (rs [o 8 (.mv (.c w))] [8]
 (.ret [8])) .skip)))
 (.reg [om 14 9, o 15 (baj 14 1), om 9 15] none [1, 2, 3, 4, 9])))
def xf_ref09_voters : XFunc := ⟨none, true, 4, [.tmp 8], (rs [o 4 (bx 0), o 8 (.mv (.c w))] [1, 2, 3, 4]
 (.seq (rs [o 9 (.mv (j 0))] [1, 2, 3, 4, 9]
 (.block 0 (.loop xf_ref09_voters_k0 xf_ref09_voters_b0)))
 (rs [o 8 (.mv (.c v))] [8]
 (.ret [8]))))⟩

def xf_ref05_Entry : XFunc := ⟨none, true, 1, [.tmp 2], (rs [o 1 (bx 0), o 2 (.mv (j 0))] [1]
 (.seq (ss [a 3 (f 0 1), a 4 (k 3), a 5 (blj 4 0), am 6 5, d 7 (f 0 1) 6, d 8 (k 7) 6, d 9 (bhj 8 16) 6, a 10 (ko 6 9)] [1, 10]
 (.cond (.s 10) (rs [o 2 (.mv (j 62))] [2]
 (.ret [2])) .skip))
 (.seq (rs [of 11 1 1, o 12 (k 11), o 13 (blj 12 1)] [1, 13]
 (.cond (.s 13) (rs [o 2 (.mv (j 63))] [2]
 (.ret [2])) .skip))
 (rs [of 14 2 1, ol 15 3 14, o 16 (c 180 [15]), om 2 16] [2]
 (.ret [2])))))⟩

def xf_client_entry : XFunc := ⟨none, true, 2, [.tmp 4], (rs [o 4 (.mv (j 0))] [0, 1]
 (.seq (ss [am 5 0, a 6 (blj 5 0), am 7 6, d 8 (m 0) 7, d 9 (bhj 8 16) 7, a 10 (ko 7 9)] [1, 10]
 (.cond (.s 10) (rs [o 4 (.mv (j 62))] [4]
 (.ret [4])) .skip))
 (.seq (rs [om 11 1, o 12 (blj 11 1)] [12]
 (.cond (.s 12) (rs [o 4 (.mv (j 63))] [4]
 (.ret [4])) .skip))
 (rs [o 4 (.mv (j 0))] [4]
 (.ret [4])))))⟩

def xf_ledger_New : XFunc := ⟨none, false, 0, [.tmp 0], (rs [o 0 (.mv (.c (.dat .nilp)))] []
 (rs [o 1 .mkmap, o 2 (.build [(.dat .nilm), z] [(0, 1, (.s 1))]), o 3 (bx 2), om 0 3] [0]
 (.ret [0])))⟩

def xf_ledger_Ledger_Do : XFunc := ⟨none, false, 2, [.cell 4 (some 3)], (rs [o 3 (bx 1), o 4 (.alloc l7)] [0, 3, 4]
 (rs [om 6 0, ol 7 3 3, o 8 (c 181 [6, 7]), o 5 (.alloc l7), p (t 3 5 8)] [0, 4, 5]
 (.seq (rs [of 9 0 5, o 10 (k 9), o 11 (qj 10 1)] [0, 4, 5, 11]
 (.cond (.s 11) (.reg [om 12 0, of 13 1 5, o 14 (k 13), of 15 2 5, o 16 (k 15), o 17 (c 182 [12, 14, 16])] none [4, 5]) .skip))
 (rs [ol 18 3 5, p (t 3 4 18)] [4]
 (.ret [4])))))⟩

def xf_ref04_Replay_k0 : List (Nat × Option (Nat × Nat × Bool)) := [(0, none), (4, some (237, 2, true)), (5, some (40, 3, true)), (6, none)]
def xf_ref04_Replay_b0 : XCode := (.seq (rs [om 9 6, om 10 0, o 11 (le 10), o 12 (bl 9 11)] [0, 4, 5, 6, 12]
 (.cond (.s 12) .skip (.exit 0 [4, 5])))
 (.seq (.block 1 (rs [om 16 4, om 17 0, om 18 6, o 19 (ia 3 17 18), ol 20 3 19, o 21 (c 183 [16, 20]), om 15 21, o 22 (e 15 0), o 23 (e 15 1), o 8 (.alloc l7), om 7 22, p (t 3 8 23)] [0, 5, 6, 7, 8]
 (rs [om 24 7, om 4 24] [0, 4, 5, 6, 8]
 (.reg [om 25 5, ol 26 3 8, o 27 (.bsl 40 3 true 1 l7 [(0, 3, (.s 26))]), o 28 (.app 40 3 32 true (.s 25) (.s 27)), om 5 28] none [0, 4, 5, 6]))))
 (.reg [om 13 6, o 14 (baj 13 1), om 6 14] none [0, 4, 5, 6])))
def xf_ref04_Replay : XFunc := ⟨none, true, 1, [.tmp 2, .tmp 3], (rs [o 2 (.mv (.c (.nil 237 2 true))), o 3 (.mv (.c (.nil 40 3 true)))] [0]
 (rs [o 4 (.mv (.c (.nil 237 2 true)))] [0, 4]
 (rs [o 5 (.mv (.c (.nil 40 3 true)))] [0, 4, 5]
 (.seq (rs [o 6 (.mv (j 0))] [0, 4, 5, 6]
 (.block 0 (.loop xf_ref04_Replay_k0 xf_ref04_Replay_b0)))
 (rs [om 29 4, om 30 5, om 2 29, om 3 30] [2, 3]
 (.ret [2, 3]))))))⟩

def xf_oplog_joined : XFunc := ⟨none, true, 2, [.tmp 4], (rs [o 4 (.mv (.c (.nil 38 5 true)))] [0, 1]
 (rs [om 6 0, o 7 (le 6), om 8 1, o 9 (le 8), o 10 (ba 7 9), o 11 (.mksl 38 5 48 true l11 (.s 10) (.s 10)), om 5 11] [0, 1, 5]
 (rs [om 12 5, om 13 0, o 14 (.cpy 5 (.s 12) (.s 13))] [0, 1, 5]
 (rs [om 15 5, om 16 0, o 17 (le 16), o 18 (.slice 5 (.s 15) (some (.s 17)) none), om 19 1, o 20 (.cpy 5 (.s 18) (.s 19))] [5]
 (rs [om 21 5, om 4 21] [4]
 (.ret [4]))))))⟩

def xf_oplog_Each_1_k0 : List (Nat × Option (Nat × Nat × Bool)) := [(0, none), (2, none), (4, none)]
def xf_oplog_Each_1_b0 : XCode := (.seq (rs [om 8 4, o 9 (k 2), o 10 (le 9), o 11 (bl 8 10)] [0, 2, 4, 11]
 (.cond (.s 11) .skip (.exit 0 [])))
 (.seq (.block 1 (rs [om 14 0, om 15 4, o 16 (baj 15 1), o 17 (k 2), om 18 4, o 19 (ia 5 17 18), ol 20 5 19, o 21 (.call (.s 14) [(.s 16), (.s 20)]), o 22 (nt 21)] [0, 2, 4, 22]
 (.cond (.s 22) (.ret []) .skip)))
 (.reg [om 12 4, o 13 (baj 12 1), om 4 13] none [0, 2, 4])))
def xf_oplog_Each_1 : XFunc := ⟨none, false, 1, [], (rs [o 5 (k 1), o 6 (.mm true (.s 5) (j 1)), o 7 (bsj 6 1), om 4 7] [0, 2, 4]
 (.block 0 (.loop xf_oplog_Each_1_k0 xf_oplog_Each_1_b0)))⟩

def xf_ref04_Check : XFunc := ⟨none, true, 1, [.tmp 2], (rs [o 1 (bx 0), o 2 (.mv (j 0))] [1]
 (rs [of 7 0 1, o 8 (k 7), o 9 (qj 8 1), om 3 9] [1, 3]
 (rs [of 10 0 1, o 11 (k 10), o 12 (qj 11 2), om 4 12] [1, 3, 4]
 (rs [of 13 0 1, o 14 (k 13), o 15 (qj 14 3), om 5 15] [1, 3, 4, 5]
 (rs [of 16 0 1, o 17 (k 16), o 18 (qj 17 4), om 6 18] [1, 3, 4, 5, 6]
 (.seq (ss [am 19 3, a 20 (nt 19), am 21 20, bb 22 4 21, b 23 (nt 22) 21, a 24 (ka 21 23), am 25 24, bb 26 5 25, b 27 (nt 26) 25, a 28 (ka 25 27), am 29 28, bb 30 6 29, b 31 (nt 30) 29, a 32 (ka 29 31)] [1, 3, 4, 5, 6, 32]
 (.cond (.s 32) (rs [o 2 (.mv (j 40))] [2]
 (.ret [2])) .skip))
 (.seq (ss [am 33 3, am 34 33, d 35 (m 5) 34, a 36 (ko 34 35), am 37 36, b 38 (f 1 1) 37, b 39 (k 38) 37, b 40 (blj 39 0) 37, bb 41 40 37, d 42 (f 1 1) 41, d 43 (k 42) 41, d 44 (bhj 43 1024) 41, b 45 (ko 41 44) 37, a 46 (ka 37 45), am 47 46, d 48 (m 4) 47, d 49 (m 48) 47, d 50 (m 6) 49, d 51 (ko 49 50) 47, d 52 (m 51) 47, b 53 (f 1 1) 52, b 54 (k 53) 52, b 55 (nj 54 0) 52, d 56 (ka 52 55) 47, a 57 (ko 47 56)] [1, 3, 4, 5, 6, 57]
 (.cond (.s 57) (rs [o 2 (.mv (j 41))] [2]
 (.ret [2])) .skip))
 (.seq (ss [am 58 3, am 59 58, d 60 (m 4) 59, a 61 (ko 59 60), am 62 61, b 63 (f 2 1) 62, b 64 (k 63) 62, b 65 (.len true (.s 64)) 62, b 66 (bgj 65 64) 62, a 67 (ka 62 66), am 68 67, d 69 (m 5) 68, d 70 (m 69) 68, d 71 (m 6) 70, d 72 (ko 70 71) 68, d 73 (m 72) 68, b 74 (f 2 1) 73, b 75 (k 74) 73, b 76 (.eqv true false [.s] (.s 75) (.c x)) 73, d 77 (ka 73 76) 68, a 78 (ko 68 77)] [78]
 (.cond (.s 78) (rs [o 2 (.mv (j 42))] [2]
 (.ret [2])) .skip))
 (rs [o 2 (.mv (j 0))] [2]
 (.ret [2]))))))))))⟩

def xf_ledger_Ledger_Would : XFunc := ⟨none, false, 2, [.cell 4 (some 3)], (rs [o 3 (bx 1), o 4 (.alloc l7)] [0, 3, 4]
 (.seq (ss [am 7 0, a 8 (.eqn false false (.s 7)), am 9 8, d 10 (l 3 3) 9, r 11 (c 169 [10]) 9, r 12 (nj 11 0) 9, a 13 (ko 9 12)] [0, 3, 4, 13]
 (.cond (.s 13) (rs [o 14 (.build l7 []), p (t 3 4 14)] [4]
 (.ret [4])) .skip))
 (rp (some [(3, 10), (5, 10), (6, 10)]) [om 16 0, o 17 (nc 16), of 18 0 17, o 19 (k 18), of 20 1 3, o 21 (k 20), o 22 (.mget true (.agg [(.str ⟨#[]⟩)]) (.s 19) (.s 21)), om 15 22, o 23 (e 15 0), o 24 (e 15 1), o 5 (.alloc [x]), p (t 1 5 23), om 6 24] [0, 3, 4, 5, 6]
 (.seq (rs [of 25 0 3, o 26 (k 25)] [0, 3, 4, 5, 6, 26]
 (.block 0 (rs [o 28 (qj 26 1), om 27 28] [0, 3, 4, 5, 6, 26, 27]
 (.cond (.s 27) (.seq (rs [om 29 6] [3, 4, 5, 29]
 (.cond (.s 29) (rs [of 30 1 3, o 31 (k 30), of 32 0 5, o 33 (k 32), o 34 (.build l7 [(0, 1, (j 2)), (1, 1, (.s 31)), (2, 1, (.s 33))]), p (t 3 4 34)] [4]
 (.ret [4])) .skip))
 (rs [of 35 1 3, o 36 (k 35), of 37 2 3, o 38 (k 37), o 39 (.build l7 [(0, 1, (j 1)), (1, 1, (.s 36)), (2, 1, (.s 38))]), p (t 3 4 39)] [4]
 (.ret [4]))) (rs [o 41 (qj 26 2), om 40 41] [0, 3, 4, 5, 6, 26, 40]
 (.cond (.s 40) (.seq (rs [om 42 0, o 43 (nc 42), of 44 1 43, o 45 (k 44), o 46 (qj 45 1024)] [0, 3, 4, 46]
 (.cond (.s 46) (rs [o 47 (.build l7 [(0, 1, (j 3))]), p (t 3 4 47)] [4]
 (.ret [4])) .skip))
 (rp (some []) [om 48 0, o 49 (nc 48), of 50 1 49, o 51 (k 50), of 52 2 3, o 53 (k 52), o 54 (.build l7 [(0, 1, (j 1)), (1, 1, (.s 51)), (2, 1, (.s 53))]), p (t 3 4 54)] [4]
 (.ret [4]))) (rs [o 56 (qj 26 3), om 55 56] [0, 3, 4, 5, 6, 55]
 (.cond (.s 55) (.seq (rs [om 57 6] [3, 4, 5, 57]
 (.cond (.s 57) (rs [of 58 1 3, o 59 (k 58), of 60 0 5, o 61 (k 60), o 62 (.build l7 [(0, 1, (j 4)), (1, 1, (.s 59)), (2, 1, (.s 61))]), p (t 3 4 62)] [4]
 (.ret [4])) .skip))
 (rs [of 63 1 3, o 64 (k 63), o 65 (.build l7 [(0, 1, (j 5)), (1, 1, (.s 64))]), p (t 3 4 65)] [4]
 (.ret [4]))) .skip))))))))
 (rs [om 66 0, o 67 (nc 66), of 68 0 67, o 69 (k 68), o 70 (.mlen (.s 69)), o 71 (.build l7 [(0, 1, (j 6)), (1, 1, (.s 70))]), p (t 3 4 71)] [4]
 (.ret [4]))))))⟩

def xf_ledger_Ledger_put : XFunc := ⟨none, false, 3, [], (.seq (rs [om 6 0, o 7 (nc 6), of 8 0 7, o 9 (k 8), o 10 (.eqm false (.s 9))] [0, 1, 2, 10]
 (.cond (.s 10) (.reg [om 11 0, o 12 .mkmap, o 13 (nc 11), of 14 0 13, p (t 1 14 12)] none [0, 1, 2]) .skip))
 (rs [om 15 0, o 16 (nc 15), of 17 0 16, o 18 (k 17), om 19 1, om 20 2, o 21 (.build [x] [(0, 1, (.s 20))]), p (.mput (.s 18) (.s 19) (.s 21))] [0, 1]
 (.reg [om 22 0, om 23 0, o 24 (nc 23), of 25 1 24, o 26 (k 25), om 27 1, o 28 (baj 27 1), o 29 (.mm true (.s 26) (.s 28)), o 30 (nc 22), of 31 1 30, p (t 1 31 29)] none [])))⟩

def xf_ref04_Do_k0 : List (Nat × Option (Nat × Nat × Bool)) := [(0, none), (3, none), (5, none), (8, none), (9, none)]
def xf_ref04_Do_b0 : XCode := (.seq (rs [om 46 9, om 47 0, o 48 (le 47), o 49 (bl 46 48)] [0, 3, 5, 8, 9, 49]
 (.cond (.s 49) .skip (.exit 1 [0, 3, 5, 8])))
 (.seq (.block 2 (rs [om 52 0, om 53 9, o 54 (ia 2 52 53), of 55 0 54, o 56 (k 55), om 57 8, o 58 (bh 56 57)] [0, 3, 5, 8, 9, 58]
 (.cond (.s 58) (.reg [om 59 0, om 60 9, o 61 (ia 2 59 60), of 62 0 61, o 63 (k 62), o 64 (baj 63 1), om 8 64] none [0, 3, 5, 8, 9]) .skip)))
 (.reg [om 50 9, o 51 (baj 50 1), om 9 51] none [0, 3, 5, 8, 9])))
def xf_ref04_Do : XFunc := ⟨none, true, 2, [.tmp 4, .cell 5 (some 3)], (rs [o 3 (bx 1), o 4 (.mv (.c (.nil 237 2 true))), o 5 (.alloc l7)] [0, 3, 5]
 (.seq (rs [ol 10 3 3, o 11 (c 180 [10]), o 12 (nj 11 0)] [0, 3, 5, 12]
 (.cond (.s 12) (rs [om 13 0, o 14 (.build l7 []), om 4 13, p (t 3 5 14)] [4, 5]
 (.ret [4, 5])) .skip))
 (rs [om 16 0, of 17 1 3, o 18 (k 17), o 19 (c 184 [16, 18]), om 15 19, o 20 (e 15 0), o 21 (e 15 1), om 6 20, om 7 21] [0, 3, 5, 6, 7]
 (.seq (rs [of 22 0 3, o 23 (k 22)] [0, 3, 5, 6, 7, 23]
 (.block 0 (rs [o 25 (qj 23 1), om 24 25] [0, 3, 5, 6, 7, 23, 24]
 (.cond (.s 24) (.seq (rs [om 26 7] [0, 3, 5, 6, 26]
 (.cond (.s 26) (rp (some []) [om 27 0, of 28 1 3, o 29 (k 28), om 30 6, o 31 (.build l7 [(0, 1, (j 2)), (1, 1, (.s 29)), (2, 1, (.s 30))]), om 4 27, p (t 3 5 31)] [4, 5]
 (.ret [4, 5])) .skip))
 (rp (some [(6, 8), (6, 10)]) [om 32 0, of 33 1 3, o 34 (k 33), of 35 2 3, o 36 (k 35), o 37 (.build [z, x] [(0, 1, (.s 34)), (1, 1, (.s 36))]), o 38 (c 185 [32, 37]), of 39 1 3, o 40 (k 39), of 41 2 3, o 42 (k 41), o 43 (.build l7 [(0, 1, (j 1)), (1, 1, (.s 40)), (2, 1, (.s 42))]), om 4 38, p (t 3 5 43)] [4, 5]
 (.ret [4, 5]))) (rs [o 45 (qj 23 2), om 44 45] [0, 3, 5, 6, 7, 23, 44]
 (.cond (.s 44) (rs [o 8 (.mv (j 0))] [0, 3, 5, 8]
 (.seq (rs [o 9 (.mv (j 0))] [0, 3, 5, 8, 9]
 (.block 1 (.loop xf_ref04_Do_k0 xf_ref04_Do_b0)))
 (.seq (rs [om 65 8, o 66 (bhj 65 1024)] [0, 3, 5, 8, 66]
 (.cond (.s 66) (rs [om 67 0, o 68 (.build l7 [(0, 1, (j 3))]), om 4 67, p (t 3 5 68)] [4, 5]
 (.ret [4, 5])) .skip))
 (rp (some [(5, 8)]) [om 69 0, om 70 8, of 71 2 3, o 72 (k 71), o 73 (.build [z, x] [(0, 1, (.s 70)), (1, 1, (.s 72))]), o 74 (c 185 [69, 73]), om 75 8, of 76 2 3, o 77 (k 76), o 78 (.build l7 [(0, 1, (j 1)), (1, 1, (.s 75)), (2, 1, (.s 77))]), om 4 74, p (t 3 5 78)] [4, 5]
 (.ret [4, 5]))))) (rs [o 80 (qj 23 3), om 79 80] [0, 3, 5, 6, 7, 79]
 (.cond (.s 79) (.seq (rs [om 81 7] [0, 3, 5, 6, 81]
 (.cond (.s 81) (rp (some []) [om 82 0, of 83 1 3, o 84 (k 83), om 85 6, o 86 (.build l7 [(0, 1, (j 4)), (1, 1, (.s 84)), (2, 1, (.s 85))]), om 4 82, p (t 3 5 86)] [4, 5]
 (.ret [4, 5])) .skip))
 (rp (some []) [om 87 0, of 88 1 3, o 89 (k 88), o 90 (.build l7 [(0, 1, (j 5)), (1, 1, (.s 89))]), om 4 87, p (t 3 5 90)] [4, 5]
 (.ret [4, 5]))) .skip))))))))
 (rs [om 91 0, om 92 0, o 93 (le 92), o 94 (.build l7 [(0, 1, (j 6)), (1, 1, (.s 93))]), om 4 91, p (t 3 5 94)] [4, 5]
 (.ret [4, 5]))))))⟩

def xf_ref04_Get_k0 : List (Nat × Option (Nat × Nat × Bool)) := [(0, none), (1, none), (6, none)]
def xf_ref04_Get_b0 : XCode := (.seq (rs [om 7 6, om 8 0, o 9 (le 8), o 10 (bl 7 9)] [0, 1, 6, 10]
 (.cond (.s 10) .skip (.exit 0 [])))
 (.seq (.block 1 (rs [om 13 0, om 14 6, o 15 (ia 2 13 14), of 16 0 15, o 17 (k 16), om 18 1, o 19 (q 17 18)] [0, 1, 6, 19]
 (.cond (.s 19) (rs [om 20 0, om 21 6, o 22 (ia 2 20 21), of 23 1 22, o 24 (k 23), om 4 24, o 5 (.mv (.c v))] [4, 5]
 (.ret [4, 5])) .skip)))
 (.reg [om 11 6, o 12 (baj 11 1), om 6 12] none [0, 1, 6])))
def xf_ref04_Get : XFunc := ⟨none, true, 2, [.tmp 4, .tmp 5], (rs [o 4 (.mv (.c x)), o 5 (.mv (.c w))] [0, 1]
 (.seq (rs [o 6 (.mv (j 0))] [0, 1, 6]
 (.block 0 (.loop xf_ref04_Get_k0 xf_ref04_Get_b0)))
 (rs [o 4 (.mv (.c x)), o 5 (.mv (.c w))] [4, 5]
 (.ret [4, 5]))))⟩

def xf_ref04_put_k0 : List (Nat × Option (Nat × Nat × Bool)) := [(0, none), (3, none), (5, some (237, 2, true)), (6, none), (7, none)]
def xf_ref04_put_b0 : XCode := (.seq (rs [om 8 7, om 9 0, o 10 (le 9), o 11 (bl 8 10)] [0, 3, 5, 6, 7, 11]
 (.cond (.s 11) .skip (.exit 0 [3, 5, 6])))
 (.seq (.block 1 (.seq (sp (some []) [am 14 6, a 15 (nt 14), am 16 15, b 17 (f 0 3) 16, b 18 (k 17) 16, bb 19 0 16, bb 20 7 16, u 21 (ia 2 19 20) 16, u 22 (f 0 21) 16, u 23 (k 22) 16, u 24 (bl 18 23) 16, a 25 (ka 16 24)] [0, 3, 5, 6, 7, 25]
 (.cond (.s 25) (rs [om 26 5, ol 27 2 3, o 28 (.bsl 237 2 true 1 [z, x] [(0, 2, (.s 27))]), o 29 (.app 237 2 24 true (.s 26) (.s 28)), om 5 29] [0, 3, 5, 7]
 (.reg [o 6 (.mv (.c v))] none [0, 3, 5, 6, 7])) .skip))
 (.reg [om 30 5, om 31 0, om 32 7, o 33 (ia 2 31 32), ol 34 2 33, o 35 (.bsl 237 2 true 1 [z, x] [(0, 2, (.s 34))]), o 36 (.app 237 2 24 true (.s 30) (.s 35)), om 5 36] none [0, 3, 5, 6, 7])))
 (.reg [om 12 7, o 13 (baj 12 1), om 7 13] none [0, 3, 5, 6, 7])))
def xf_ref04_put : XFunc := ⟨none, true, 2, [.tmp 4], (rs [o 3 (bx 1), o 4 (.mv (.c (.nil 237 2 true)))] [0, 3]
 (rs [o 5 (.mv (.c (.nil 237 2 true)))] [0, 3, 5]
 (rs [o 6 (.mv (.c w))] [0, 3, 5, 6]
 (.seq (rs [o 7 (.mv (j 0))] [0, 3, 5, 6, 7]
 (.block 0 (.loop xf_ref04_put_k0 xf_ref04_put_b0)))
 (.seq (rs [om 37 6, o 38 (nt 37)] [3, 5, 38]
 (.cond (.s 38) (.reg [om 39 5, ol 40 2 3, o 41 (.bsl 237 2 true 1 [z, x] [(0, 2, (.s 40))]), o 42 (.app 237 2 24 true (.s 39) (.s 41)), om 5 42] none [5]) .skip))
 (rs [om 43 5, om 4 43] [4]
 (.ret [4])))))))⟩

def xf_tally_ack_draw : XFunc := ⟨none, true, 1, [.cell 2 (some 2)], (rs [o 1 (bx 0), o 2 (.alloc [y, y])] [1, 2]
 (rs [of 3 1 1, ol 4 2 3, p (t 2 2 4)] [2]
 (.ret [2])))⟩

def xf_tally_ack_fresh : XFunc := ⟨none, true, 1, [.cell 2 (some 4)], (rs [o 1 (bx 0), o 2 (.alloc l10)] [1, 2]
 (rs [ol 3 4 1, p (t 4 2 3)] [2]
 (.ret [2])))⟩

def xf_tally_ack_node : XFunc := ⟨none, true, 1, [.tmp 2], (rs [o 1 (bx 0), o 2 (.mv (j 0))] [1]
 (rs [of 3 0 1, o 4 (k 3), om 2 4] [2]
 (.ret [2])))⟩

def xf_tally_mark_draw : XFunc := ⟨none, true, 1, [.cell 2 (some 2)], (rs [o 1 (bx 0), o 2 (.alloc [y, y])] [1, 2]
 (rs [of 3 1 1, ol 4 2 3, p (t 2 2 4)] [2]
 (.ret [2])))⟩

def xf_tally_mark_fresh : XFunc := ⟨none, true, 1, [.cell 2 (some 3)], (rs [o 1 (bx 0), o 2 (.alloc l8)] [1, 2]
 (rs [ol 3 3 1, p (t 3 2 3)] [2]
 (.ret [2])))⟩

def xf_tally_mark_node : XFunc := ⟨none, true, 1, [.tmp 2], (rs [o 1 (bx 0), o 2 (.mv (j 0))] [1]
 (rs [of 3 0 1, o 4 (k 3), om 2 4] [2]
 (.ret [2])))⟩

def xf_tally_ballot_draw : XFunc := ⟨none, true, 1, [.cell 2 (some 2)], (rs [o 1 (bx 0), o 2 (.alloc [y, y])] [1, 2]
 (rs [of 3 1 1, ol 4 2 3, p (t 2 2 4)] [2]
 (.ret [2])))⟩

def xf_tally_ballot_fresh : XFunc := ⟨none, true, 1, [.cell 2 (some 6)], (rs [o 1 (bx 0), o 2 (.alloc l2)] [1, 2]
 (rs [of 3 5 1, o 4 (k 3), o 5 (.app 38 5 48 true (.c (.nil 38 5 true)) (.s 4)), of 6 5 1, p (t 1 6 5)] [1, 2]
 (rs [ol 7 6 1, p (t 6 2 7)] [2]
 (.ret [2]))))⟩

def xf_tally_ballot_node : XFunc := ⟨none, true, 1, [.tmp 2], (rs [o 1 (bx 0), o 2 (.mv (j 0))] [1]
 (rs [of 3 0 1, o 4 (k 3), om 2 4] [2]
 (.ret [2])))⟩

def xf_tally_answer_draw : XFunc := ⟨none, true, 1, [.cell 2 (some 2)], (rs [o 1 (bx 0), o 2 (.alloc [y, y])] [1, 2]
 (rs [of 3 1 1, ol 4 2 3, p (t 2 2 4)] [2]
 (.ret [2])))⟩

def xf_tally_answer_fresh : XFunc := ⟨none, true, 1, [.cell 2 (some 6)], (rs [o 1 (bx 0), o 2 (.alloc l2)] [1, 2]
 (rs [of 3 5 1, o 4 (k 3), o 5 (.app 38 5 48 true (.c (.nil 38 5 true)) (.s 4)), of 6 5 1, p (t 1 6 5)] [1, 2]
 (rs [ol 7 6 1, p (t 6 2 7)] [2]
 (.ret [2]))))⟩

def xf_tally_answer_node : XFunc := ⟨none, true, 1, [.tmp 2], (rs [o 1 (bx 0), o 2 (.mv (j 0))] [1]
 (rs [of 3 0 1, o 4 (k 3), om 2 4] [2]
 (.ret [2])))⟩

def xf_gosem_cut_vars : XFunc := ⟨none, true, 0, [], (.reg [o 0 (.build l6 [(6, 1, (.c v))]), o 1 (.build l6 [(0, 1, (.c v)), (1, 1, (.c v)), (3, 1, (.c v)), (6, 1, (.c v)), (7, 1, (.c v))]), o 2 (.build l6 [(0, 1, (.c v)), (1, 1, (.c v)), (3, 1, (.c v)), (4, 1, (.c v)), (6, 1, (.c v)), (9, 1, (.c v))]), o 3 (.build l6 [(0, 1, (.c v)), (1, 1, (.c v)), (3, 1, (.c v)), (9, 1, (.c v))]), o 4 (.build l6 [(0, 1, (.c v)), (1, 1, (.c v)), (4, 1, (.c v)), (9, 1, (.c v))]), o 5 (.build l6 [(0, 1, (.c v)), (1, 1, (.c v)), (9, 1, (.c v))]), o 6 (.build l6 [(0, 1, (.c v)), (1, 1, (.c v)), (2, 1, (.c v)), (4, 1, (.c v)), (8, 1, (.c v)), (9, 1, (.c v))]), o 7 (.build l6 [(0, 1, (.c v)), (1, 1, (.c v)), (4, 1, (.c v)), (8, 1, (.c v)), (9, 1, (.c v))]), o 8 (.build l6 [(0, 1, (.c v)), (5, 1, (.c v)), (9, 1, (.c v))]), o 9 (.build l6 [(0, 1, (.c v)), (1, 1, (.c v)), (4, 1, (.c v)), (5, 1, (.c v)), (8, 1, (.c v)), (9, 1, (.c v))]), o 10 (.build l6 [(0, 1, (.c v)), (1, 1, (.c v)), (9, 1, (.c v))]), o 11 (.build l6 [(0, 1, (.c v)), (1, 1, (.c v)), (4, 1, (.c v)), (8, 1, (.c v)), (9, 1, (.c v))]), o 12 (.build l6 [(3, 1, (.c v)), (6, 1, (.c v))]), o 13 (.build l6 [(0, 1, (.c v)), (1, 1, (.c v)), (4, 1, (.c v)), (6, 1, (.c v)), (7, 1, (.c v))]), o 14 (.build [w, w, w, w, w, w, w, w, w, w, w, w, w, w, w, w, w, w, w, w, w, w, w, w, w, w, w, w, w, w, w, w, w, w, w, w, w, w, w, w, w, w, w, w, w, w, w, w, w, w, w, w, w, w, w, w, w, w, w, w, w, w, w, w, w, w, w, w, w, w, w, w, w, w, w, w, w, w, w, w, w, w, w, w, w, w, w, w, w, w, w, w, w, w, w, w, w, w, w, w, w, w, w, w, w, w, w, w, w, w, w, w, w, w, w, w, w, w, w, w, w, w, w, w, w, w, w, w, w, w, w, w, w, w, w, w, w, w, w, w, w, w, w, w, w, w, w, w, w, w] [(10, 10, (.s 0)), (20, 10, (.s 1)), (30, 10, (.s 2)), (40, 10, (.s 3)), (50, 10, (.s 4)), (60, 10, (.s 5)), (70, 10, (.s 6)), (80, 10, (.s 7)), (90, 10, (.s 8)), (100, 10, (.s 9)), (110, 10, (.s 10)), (120, 10, (.s 11)), (130, 10, (.s 12)), (140, 10, (.s 13))]), p (.store 150 (.c (.dptr usesD)) (.s 14))] none [])⟩
theorem r_plain_markDraw : progT Tryz.prog 158 = some xf_plain_markDraw.plain := by kernel_rfl
theorem r_plain_markEntry : progT Tryz.prog 159 = some xf_plain_markEntry.plain := by kernel_rfl
theorem r_plain_markCell : progT Tryz.prog 160 = some xf_plain_markCell.plain := by kernel_rfl
theorem r_plain_markRow : progT Tryz.prog 161 = some xf_plain_markRow.plain := by kernel_rfl
theorem r_plain_markResult : progT Tryz.prog 162 = some xf_plain_markResult.plain := by kernel_rfl
theorem r_plain_markStamp : progT Tryz.prog 163 = some xf_plain_markStamp.plain := by kernel_rfl
theorem r_plain_markAck : progT Tryz.prog 164 = some xf_plain_markAck.plain := by kernel_rfl
theorem r_plain_markMark : progT Tryz.prog 165 = some xf_plain_markMark.plain := by kernel_rfl
theorem r_ref05_results : progT Tryz.prog 166 = some xf_ref05_results.plain := by kernel_rfl
theorem r_ref05_row : progT Tryz.prog 167 = some xf_ref05_row.plain := by kernel_rfl
theorem r_message_short : progT Tryz.prog 168 = some xf_message_short.plain := by kernel_rfl
theorem r_ledger_Check : progT Tryz.prog 169 = some xf_ledger_Check.plain := by kernel_rfl
theorem r_oplog_Each : progT Tryz.prog 170 = some xf_oplog_Each.plain := by kernel_rfl
theorem r_oplog_fits : progT Tryz.prog 171 = some xf_oplog_fits.plain := by kernel_rfl
theorem r_ref09_voters : progT Tryz.prog 172 = some xf_ref09_voters.plain := by kernel_rfl
theorem r_ref05_Entry : progT Tryz.prog 173 = some xf_ref05_Entry.plain := by kernel_rfl
theorem r_client_entry : progT Tryz.prog 174 = some xf_client_entry.plain := by kernel_rfl
theorem r_ledger_New : progT Tryz.prog 175 = some xf_ledger_New.plain := by kernel_rfl
theorem r_ledger_Ledger_Do : progT Tryz.prog 176 = some xf_ledger_Ledger_Do.plain := by kernel_rfl
theorem r_ref04_Replay : progT Tryz.prog 177 = some xf_ref04_Replay.plain := by kernel_rfl
theorem r_oplog_joined : progT Tryz.prog 178 = some xf_oplog_joined.plain := by kernel_rfl
theorem r_oplog_Each_1 : progT Tryz.prog 179 = some xf_oplog_Each_1.plain := by kernel_rfl
theorem r_ref04_Check : progT Tryz.prog 180 = some xf_ref04_Check.plain := by kernel_rfl
theorem r_ledger_Ledger_Would : progT Tryz.prog 181 = some xf_ledger_Ledger_Would.plain := by kernel_rfl
theorem r_ledger_Ledger_put : progT Tryz.prog 182 = some xf_ledger_Ledger_put.plain := by kernel_rfl
theorem r_ref04_Do : progT Tryz.prog 183 = some xf_ref04_Do.plain := by kernel_rfl
theorem r_ref04_Get : progT Tryz.prog 184 = some xf_ref04_Get.plain := by kernel_rfl
theorem r_ref04_put : progT Tryz.prog 185 = some xf_ref04_put.plain := by kernel_rfl
theorem r_tally_ack_draw : progT Tryz.prog 201 = some xf_tally_ack_draw.plain := by kernel_rfl
theorem r_tally_ack_fresh : progT Tryz.prog 202 = some xf_tally_ack_fresh.plain := by kernel_rfl
theorem r_tally_ack_node : progT Tryz.prog 203 = some xf_tally_ack_node.plain := by kernel_rfl
theorem r_tally_mark_draw : progT Tryz.prog 204 = some xf_tally_mark_draw.plain := by kernel_rfl
theorem r_tally_mark_fresh : progT Tryz.prog 205 = some xf_tally_mark_fresh.plain := by kernel_rfl
theorem r_tally_mark_node : progT Tryz.prog 206 = some xf_tally_mark_node.plain := by kernel_rfl
theorem r_tally_ballot_draw : progT Tryz.prog 207 = some xf_tally_ballot_draw.plain := by kernel_rfl
theorem r_tally_ballot_fresh : progT Tryz.prog 208 = some xf_tally_ballot_fresh.plain := by kernel_rfl
theorem r_tally_ballot_node : progT Tryz.prog 209 = some xf_tally_ballot_node.plain := by kernel_rfl
theorem r_tally_answer_draw : progT Tryz.prog 210 = some xf_tally_answer_draw.plain := by kernel_rfl
theorem r_tally_answer_fresh : progT Tryz.prog 211 = some xf_tally_answer_fresh.plain := by kernel_rfl
theorem r_tally_answer_node : progT Tryz.prog 212 = some xf_tally_answer_node.plain := by kernel_rfl
theorem r_gosem_cut_vars : progT Tryz.prog 218 = some xf_gosem_cut_vars.plain := by kernel_rfl

end Go.Ax
