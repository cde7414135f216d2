/-
  The functions of this seat as resolved code, and that the program resolves to them (part 3).
-/
import Derived.Test.YtfoglingdnhjpaaGreatDoorXComp
import Derived.Test.YtfoglingdnhjpaaGreatDoorXFn
import Derived.Test.YtfoglingdnhjpaaGreatDoorXG
import Derived.Test.YtfoglingdnhjpaaGreatDoorXP
import Derived.Test.YtfoglingdnhjpaaGreatDoorProg
import Derived.KernelRfl
namespace Go.Ax
set_option linter.all false
open Go.Proofs P

def xf_message_asks : XFunc := ⟨none, none, true, 2, [.tmp 4], (rs [o 3 (bx 1), o 4 (.mv (.c w))] [0, 3]
 (.seq (ss [a 5 (f 0 3), a 6 (k 5), a 7 (blj 6 0), am 8 7, d 9 (f 0 3) 8, d 10 (k 9) 8, d 11 (bhj 10 16) 8, a 12 (ko 8 11), am 13 12, d 14 (f 1 3) 13, d 15 (k 14) 13, d 16 (blj 15 1) 13, a 17 (ko 13 16)] [0, 3, 17]
 (.cond (.s 17) (rs [o 4 (.mv (.c w))] [4]
 (.ret [4])) .skip))
 (.seq (rs [om 18 0, o 19 (c 146 [18])] [0, 3, 19]
 (.cond (.s 19) (rs [of 20 2 3, ol 21 3 20, o 22 (.build [z, z, x] []), o 23 (.eqv false true [.i, .i, .s] (.s 21) (.s 22)), om 4 23] [4]
 (.ret [4])) .skip))
 (.seq (ss [am 24 0, a 25 (qj 24 13), am 26 25, b 27 (f 2 3) 26, b 28 (f 0 27) 26, b 29 (k 28) 26, b 30 (nj 29 3) 26, a 31 (ka 26 30), am 32 31, b 33 (f 2 3) 32, b 34 (f 0 33) 32, b 35 (k 34) 32, b 36 (nj 35 4) 32, a 37 (ka 32 36)] [3, 37]
 (.cond (.s 37) (rs [o 4 (.mv (.c w))] [4]
 (.ret [4])) .skip))
 (rs [of 38 2 3, ol 39 3 38, o 40 (c 147 [39]), o 41 (qj 40 0), om 4 41] [4]
 (.ret [4]))))))⟩

def xf_message_answers : XFunc := ⟨none, none, true, 1, [.tmp 2], (rs [o 1 (bx 0), o 2 (.mv (.c w))] [1]
 (ss [a 4 (f 1 1), a 5 (k 4), a 6 (bhj 5 0), am 7 6, b 8 (f 1 1) 7, b 9 (k 8) 7, b 10 (blj 9 1024) 7, a 11 (ka 7 10), am 3 11] [1, 3]
 (.seq (rs [of 12 0 1, o 13 (k 12)] [1, 3, 13]
 (.block 0 (.seq (rs [o 15 (qj 13 1), om 14 15] [1, 3, 13, 14]
 (.cond (.s 14) .skip (rs [o 16 (qj 13 2), om 14 16] [1, 3, 13, 14]
 (.cond (.s 14) .skip (.reg [o 17 (qj 13 4), om 14 17] none [1, 3, 13, 14])))))
 (.cond (.s 14) (ss [am 18 3, am 19 18, b 20 (f 2 1) 19, b 21 (k 20) 19, b 22 (.len true (.s 21)) 19, b 23 (bmj 22 64) 19, a 24 (ka 19 23), am 2 24] [2]
 (.ret [2])) (rs [o 26 (qj 13 5), om 25 26] [1, 3, 13, 25]
 (.cond (.s 25) (ss [am 27 3, am 28 27, b 29 (f 2 1) 28, b 30 (k 29) 28, b 31 (.eqv false false [.s] (.s 30) (.c x)) 28, a 32 (ka 28 31), am 2 32] [2]
 (.ret [2])) (rs [o 34 (qj 13 6), om 33 34] [1, 13, 33]
 (.cond (.s 33) (ss [a 35 (f 1 1), a 36 (k 35), a 37 (bhj 36 0), am 38 37, b 39 (f 1 1) 38, b 40 (k 39) 38, b 41 (bmj 40 1024) 38, a 42 (ka 38 41), am 43 42, b 44 (f 2 1) 43, b 45 (k 44) 43, b 46 (.eqv false false [.s] (.s 45) (.c x)) 43, a 47 (ka 43 46), am 2 47] [2]
 (.ret [2])) (.seq (rs [o 49 (qj 13 3), om 48 49] [1, 13, 48]
 (.cond (.s 48) .skip (.reg [o 50 (qj 13 7), om 48 50] none [1, 48])))
 (.cond (.s 48) (ss [a 51 (f 1 1), a 52 (k 51), a 53 (qj 52 0), am 54 53, b 55 (f 2 1) 54, b 56 (k 55) 54, b 57 (.eqv false false [.s] (.s 56) (.c x)) 54, a 58 (ka 54 57), am 2 58] [2]
 (.ret [2])) .skip))))))))))
 (rs [o 2 (.mv (.c w))] [2]
 (.ret [2])))))⟩

def xf_message_reads : XFunc := ⟨none, none, true, 1, [.tmp 2], (rs [o 1 (bx 0), o 2 (.mv (.c w))] [1]
 (.seq (rs [of 3 0 1, o 4 (k 3)] [1, 4]
 (.block 0 (rs [o 6 (qj 4 14), om 5 6] [1, 4, 5]
 (.cond (.s 5) (ss [a 7 (f 8 1), a 8 (f 0 7), a 9 (k 8), a 10 (qj 9 4), am 11 10, d 12 (f 8 1) 11, d 13 (f 0 12) 11, d 14 (k 13) 11, d 15 (qj 14 5) 11, a 16 (ko 11 15), am 17 16, d 18 (f 8 1) 17, d 19 (f 0 18) 17, d 20 (k 19) 17, d 21 (qj 20 6) 17, a 22 (ko 17 21), am 2 22] [2]
 (.ret [2])) (rs [o 24 (qj 4 2), om 23 24] [1, 23]
 (.cond (.s 23) (rs [of 25 11 1, o 26 (k 25), o 27 (qj 26 0), of 28 8 1, of 29 0 28, o 30 (k 29), o 31 (qj 30 7), o 32 (.eqv false false [.b] (.s 27) (.s 31)), om 2 32] [2]
 (.ret [2])) .skip))))))
 (rs [o 2 (.mv (.c v))] [2]
 (.ret [2]))))⟩

def xf_message_Between : XFunc := ⟨none, none, true, 1, [.tmp 2], (rs [o 2 (.mv (.c w))] [0]
 (ss [am 3 0, a 4 (bhj 3 3), am 5 4, bb 6 0 5, b 7 (bmj 6 12) 5, a 8 (ka 5 7), am 2 8] [2]
 (.ret [2])))⟩

def xf_vector_Over : XFunc := ⟨none, none, true, 2, [.tmp 4], (rs [o 3 (bx 1), o 4 (.mv (.c w))] [0, 3]
 (sp (some []) [a 5 (l 2 3), a 6 (c 150 [5]), am 7 6, bb 8 0 7, b 9 (le 8) 7, b 10 (f 1 3) 7, b 11 (k 10) 7, b 12 (le 11) 7, b 13 (q 9 12) 7, a 14 (ka 7 13), am 15 14, bb 16 0 15, b 17 (f 0 3) 15, b 18 (k 17) 15, u 19 (ia 2 16 18) 15, u 20 (l 2 19) 15, b 21 (f 1 3) 15, b 22 (k 21) 15, b 23 (f 0 3) 15, b 24 (k 23) 15, u 25 (ia 2 22 24) 15, u 26 (l 2 25) 15, u 27 (c 126 [20, 26]) 15, u 28 (bgj 27 0) 15, a 29 (ka 15 28), am 4 29] [4]
 (.ret [4])))⟩

def xf_nonce_Compare : XFunc := ⟨none, none, true, 2, [.tmp 4], (rs [o 2 (bx 0), o 3 (bx 1), o 4 (.mv (j 0))] [2, 3]
 (.seq (.block 0 (rs [ol 6 2 2, ol 7 2 3, o 8 (.eqv false true [.i, .i] (.s 6) (.s 7)), om 5 8] [2, 3, 5]
 (.cond (.s 5) (rs [o 4 (.mv (j 0))] [4]
 (.ret [4])) (.seq (rs [of 10 0 2, o 11 (k 10), of 12 0 3, o 13 (k 12), o 14 (bl 11 13), om 9 14] [2, 3, 9]
 (.cond (.s 9) .skip (.sreg [a 15 (f 0 2), a 16 (k 15), a 17 (f 0 3), a 18 (k 17), a 19 (q 16 18), am 20 19, b 21 (f 1 2) 20, b 22 (k 21) 20, b 23 (f 1 3) 20, b 24 (k 23) 20, b 25 (bl 22 24) 20, a 26 (ka 20 25), am 9 26] none [9])))
 (.cond (.s 9) (rs [o 4 (.mv (j (-1)))] [4]
 (.ret [4])) .skip)))))
 (rs [o 4 (.mv (j 1))] [4]
 (.ret [4]))))⟩

def xf_vector_Merge_k0 : List (Nat × Option (Nat × Nat × Bool)) := [(0, none), (14, some (30, 1, false)), (15, none), (16, none)]
def xf_vector_Merge_b0 : XCode := (rs [o 17 (bl 16 15)] [0, 14, 15, 16, 17]
 (.seq (.cond (.s 17) .skip (.exit 0 [0]))
 (.seq (.block 1 (rs [o 18 (ia 1 14 16), o 19 (k 18), om 5 19] [0, 5, 14, 15, 16]
 (ss [am 20 5, a 21 (c 151 [20]), a 22 (nt 21), am 23 22, d 24 (m 5) 23, d 25 (le 24) 23, d 26 (m 0) 23, r 27 (.iadr 1 (.s 26) (j 0)) 23, r 28 (k 27) 23, r 29 (le 28) 23, r 30 (n 25 29) 23, a 31 (ko 23 30)] [0, 14, 15, 16, 31]
 (.cond (.s 31) (rs [o 2 (.mv (.c (.nil 26 2 true))), o 3 (.mv (j 30))] [2, 3]
 (.ret [2, 3])) .skip))))
 (.reg [o 32 (baj 16 1), om 16 32] none [0, 14, 15, 16]))))
def xf_vector_Merge_k2 : List (Nat × Option (Nat × Nat × Bool)) := [(6, some (26, 2, true)), (38, some (30, 1, false)), (39, none), (40, none), (44, some (26, 2, true)), (45, none), (46, none)]
def xf_vector_Merge_b2 : XCode := (rs [o 47 (bl 46 45)] [6, 38, 39, 40, 44, 45, 46, 47]
 (.seq (.cond (.s 47) .skip (.exit 4 [6, 38, 39, 40]))
 (.seq (.block 5 (rs [om 48 46, o 49 (ia 2 44 46), ol 50 2 49, o 10 (.alloc [y, y]), om 9 48, p (t 2 10 50)] [6, 9, 10, 38, 39, 40, 44, 45, 46]
 (rp (some []) [om 51 6, om 52 9, o 53 (ia 2 51 52), ol 54 2 53, ol 55 2 10, o 56 (c 126 [54, 55]), o 57 (blj 56 0)] [6, 9, 10, 38, 39, 40, 44, 45, 46, 57]
 (.cond (.s 57) (.reg [om 58 6, om 59 9, ol 60 2 10, o 61 (ia 2 58 59), p (t 2 61 60)] none [6, 38, 39, 40, 44, 45, 46]) .skip))))
 (.reg [o 62 (baj 46 1), om 46 62] none [6, 38, 39, 40, 44, 45, 46]))))
def xf_vector_Merge_k1 : List (Nat × Option (Nat × Nat × Bool)) := [(6, some (26, 2, true)), (38, some (30, 1, false)), (39, none), (40, none)]
def xf_vector_Merge_b1 : XCode := (rs [o 41 (bl 40 39)] [6, 38, 39, 40, 41]
 (.seq (.cond (.s 41) .skip (.exit 2 [6]))
 (.seq (.block 3 (rs [o 42 (ia 1 38 40), o 43 (k 42), om 8 43] [6, 8, 38, 39, 40]
 (rs [om 44 8, o 45 (le 44), o 46 (.mv (j 0))] [6, 38, 39, 40, 44, 45, 46]
 (.block 4 (.loop xf_vector_Merge_k2 xf_vector_Merge_b2)))))
 (.reg [o 63 (baj 40 1), om 40 63] none [6, 38, 39, 40]))))
def xf_vector_Merge : XFunc := ⟨none, none, true, 1, [.tmp 2, .tmp 3], (rs [o 2 (.mv (.c (.nil 26 2 true))), o 3 (.mv (j 0))] [0]
 (.seq (rs [om 11 0, o 12 (le 11), o 13 (qj 12 0)] [0, 13]
 (.cond (.s 13) (rs [o 2 (.mv (.c (.nil 26 2 true))), o 3 (.mv (j 30))] [2, 3]
 (.ret [2, 3])) .skip))
 (.seq (rs [om 14 0, o 15 (le 14), o 16 (.mv (j 0))] [0, 14, 15, 16]
 (.block 0 (.loop xf_vector_Merge_k0 xf_vector_Merge_b0)))
 (rs [om 33 0, o 34 (.iadr 1 (.s 33) (j 0)), o 35 (k 34), o 36 (le 35), o 37 (.mksl 26 2 16 true [y, y] (.s 36) (.s 36)), om 6 37] [0, 6]
 (.seq (rs [om 38 0, o 39 (le 38), o 40 (.mv (j 0))] [6, 38, 39, 40]
 (.block 2 (.loop xf_vector_Merge_k1 xf_vector_Merge_b1)))
 (rs [om 64 6, om 2 64, o 3 (.mv (j 0))] [2, 3]
 (.ret [2, 3])))))))⟩

def xf_tally_PruneAcks : XFunc := ⟨none, none, true, 2, [.tmp 4], (rs [o 4 (.mv (.c (.nil 123 4 true)))] [0, 1]
 (rs [om 5 0, o 6 (.call (fc 153) [(.s 5), (.c (.fn (.func 154) [] []))]), o 7 (.build [(.nil 208 4 true)] [(0, 1, (.s 6))]), om 8 1, o 9 (c 155 [7, 8]), o 10 (.call (fc 152) [(.s 9), (.c (.fn (.func 156) [] []))]), om 4 10] [4]
 (.ret [4])))⟩

def xf_tally_PruneMarks : XFunc := ⟨none, none, true, 2, [.tmp 4], (rs [o 4 (.mv (.c (.nil 125 3 true)))] [0, 1]
 (rs [om 5 0, o 6 (.call (fc 158) [(.s 5), (.c (.fn (.func 159) [] []))]), o 7 (.build [(.nil 217 3 true)] [(0, 1, (.s 6))]), om 8 1, o 9 (c 160 [7, 8]), o 10 (.call (fc 157) [(.s 9), (.c (.fn (.func 161) [] []))]), om 4 10] [4]
 (.ret [4])))⟩

def xf_tally_PruneBallots : XFunc := ⟨none, none, true, 2, [.tmp 4], (rs [o 4 (.mv (.c (.nil 98 6 false)))] [0, 1]
 (rs [om 5 0, o 6 (.call (fc 163) [(.s 5), (.c (.fn (.func 164) [] []))]), o 7 (.build [(.nil 226 6 false)] [(0, 1, (.s 6))]), om 8 1, o 9 (c 165 [7, 8]), o 10 (.call (fc 162) [(.s 9), (.c (.fn (.func 166) [] []))]), om 4 10] [4]
 (.ret [4])))⟩

def xf_tally_PruneAnswers : XFunc := ⟨none, none, true, 2, [.tmp 4], (rs [o 4 (.mv (.c (.nil 100 6 false)))] [0, 1]
 (rs [om 5 0, o 6 (.call (fc 168) [(.s 5), (.c (.fn (.func 169) [] []))]), o 7 (.build [(.nil 235 6 false)] [(0, 1, (.s 6))]), om 8 1, o 9 (c 170 [7, 8]), o 10 (.call (fc 167) [(.s 9), (.c (.fn (.func 171) [] []))]), om 4 10] [4]
 (.ret [4])))⟩

def xf_core_Primary : XFunc := ⟨none, none, true, 2, [.tmp 4], (rs [o 2 (bx 0), o 4 (.mv (j 0))] [1, 2]
 (.seq (ss [a 5 (l 4 2), a 6 (c 107 [5]), a 7 (nj 6 0), am 8 7, d 9 (m 1) 8, d 10 (blj 9 0) 8, a 11 (ko 8 10), am 12 11, d 13 (m 1) 12, d 14 (bgj 13 4294967296) 12, a 15 (ko 12 14)] [1, 2, 15]
 (.cond (.s 15) (rs [o 4 (.mv (j (-1)))] [4]
 (.ret [4])) .skip))
 (rs [om 16 1, ol 17 4 2, o 18 (c 80 [17]), o 19 (.bin .rem (.s 16) (.s 18)), om 4 19] [4]
 (.ret [4]))))⟩

def xf_rejoin_part_one : XFunc := ⟨none, none, false, 3, [], (rs [o 5 (bx 2)] [0, 1, 5]
 (rp (some [(3, 14), (7, 14), (9, 14), (10, 14)]) [om 9 0, o 10 (nc 9), of 11 0 10, ol 12 4 11, om 13 0, o 14 (nc 13), of 15 4 14, ol 16 12 15, om 17 1, ol 18 18 5, o 19 (c 172 [12, 16, 17, 18]), om 8 19, o 20 (e 8 0), o 21 (e 8 1), o 6 (.alloc l3), p (t 19 6 20), om 7 21] [0, 6, 7]
 (.seq (rs [om 22 7, o 23 (nj 22 0)] [0, 6, 7, 23]
 (.cond (.s 23) (.reg [om 24 7, o 25 (.build [z] [(0, 1, (.s 24))]), o 26 (.mkifc 145 (.s 25)), p .stop] none [0, 6]) .skip))
 (.reg [om 27 0, om 28 0, o 29 (nc 28), of 30 16 29, o 31 (k 30), ol 32 19 6, o 33 (.bsl 71 19 false 1 l3 [(0, 19, (.s 32))]), o 34 (.app 71 19 200 false (.s 31) (.s 33)), o 35 (nc 27), of 36 16 35, p (t 1 36 34)] (some [(4, 6)]) []))))⟩

def xf_tally_PutAnswer : XFunc := ⟨none, none, true, 2, [.tmp 4], (rs [o 3 (bx 1), o 4 (.mv (.c (.nil 100 6 false)))] [0, 3]
 (rp (some [(1, 3)]) [om 5 0, o 6 (.call (fc 168) [(.s 5), (.c (.fn (.func 169) [] []))]), o 7 (.build [(.nil 235 6 false)] [(0, 1, (.s 6))]), ol 8 6 3, o 9 (c 173 [7, 8]), o 10 (.call (fc 167) [(.s 9), (.c (.fn (.func 171) [] []))]), om 4 10] [4]
 (.ret [4])))⟩

def xf_tally_Settle_k0 : List (Nat × Option (Nat × Nat × Bool)) := [(0, none), (1, none), (4, none), (6, none), (30, some (100, 6, false)), (31, none), (32, none)]
def xf_tally_Settle_b0 : XCode := (rs [o 33 (bl 32 31)] [0, 1, 4, 6, 30, 31, 32, 33]
 (.seq (.cond (.s 33) .skip (.exit 0 [0, 1, 4, 6]))
 (.seq (.block 1 (rs [o 34 (ia 6 30 32), ol 35 6 34, o 8 (.alloc l2), p (t 6 8 35)] [0, 1, 4, 6, 8, 30, 31, 32]
 (.reg [om 36 6, of 37 3 8, o 38 (k 37), o 39 (.mm true (.s 36) (.s 38)), om 6 39] none [0, 1, 4, 6, 30, 31, 32])))
 (.reg [o 40 (baj 32 1), om 32 40] none [0, 1, 4, 6, 30, 31, 32]))))
def xf_tally_Settle_k1 : List (Nat × Option (Nat × Nat × Bool)) := [(4, none), (6, none), (9, none), (44, some (100, 6, false)), (45, none), (46, none)]
def xf_tally_Settle_b1 : XCode := (rs [o 47 (bl 46 45)] [4, 6, 9, 44, 45, 46, 47]
 (.seq (.cond (.s 47) .skip (.exit 2 [4]))
 (.seq (.block 3 (rs [o 48 (ia 6 44 46), ol 49 6 48, o 11 (.alloc l2), p (t 6 11 49)] [4, 6, 9, 11, 44, 45, 46]
 (sp (some []) [a 50 (f 3 11), a 51 (k 50), am 52 6, a 53 (q 51 52), am 54 53, b 55 (f 0 11) 54, b 56 (k 55) 54, bb 57 6 54, bb 58 9 54, u 59 (.bin .rem (.s 57) (.s 58)) 54, bb 60 9 54, u 61 (ba 59 60) 54, bb 62 9 54, u 63 (.bin .rem (.s 61) (.s 62)) 54, u 64 (q 56 63) 54, a 65 (ka 54 64)] [4, 6, 9, 11, 44, 45, 46, 65]
 (.cond (.s 65) (rs [ol 66 6 11, o 67 (c 174 [66]), p (t 6 4 67), o 5 (.mv (j 0))] [4, 5]
 (.ret [4, 5])) .skip))))
 (.reg [o 68 (baj 46 1), om 46 68] none [4, 6, 9, 44, 45, 46]))))
def xf_tally_Settle : XFunc := ⟨none, none, true, 2, [.cell 4 (some 6), .tmp 5], (rs [o 4 (.alloc l2), o 5 (.mv (j 0))] [0, 1, 4]
 (.seq (ss [am 12 0, a 13 (blj 12 1), am 14 13, d 15 (m 0) 14, d 16 (bgj 15 3) 14, a 17 (ko 14 16), am 18 17, d 19 (m 1) 18, d 20 (le 19) 18, d 21 (m 0) 18, d 22 (baj 21 1) 18, d 23 (bl 20 22) 18, a 24 (ko 18 23)] [0, 1, 4, 24]
 (.cond (.s 24) (rs [o 25 (.build l2 []), p (t 6 4 25), o 5 (.mv (j 81))] [4, 5]
 (.ret [4, 5])) .skip))
 (rs [om 26 1, o 27 (.iadr 6 (.s 26) (j 0)), of 28 3 27, o 29 (k 28), om 6 29] [0, 1, 4, 6]
 (.seq (rs [om 30 1, o 31 (le 30), o 32 (.mv (j 0))] [0, 1, 4, 6, 30, 31, 32]
 (.block 0 (.loop xf_tally_Settle_k0 xf_tally_Settle_b0)))
 (rs [om 41 0, o 42 (.bin .mul (j 2) (.s 41)), o 43 (baj 42 1), om 9 43] [1, 4, 6, 9]
 (.seq (rs [om 44 1, o 45 (le 44), o 46 (.mv (j 0))] [4, 6, 9, 44, 45, 46]
 (.block 2 (.loop xf_tally_Settle_k1 xf_tally_Settle_b1)))
 (rs [o 69 (.build l2 []), p (t 6 4 69), o 5 (.mv (j 81))] [4, 5]
 (.ret [4, 5]))))))))⟩

def xf_rejoin_part_take : XFunc := ⟨none, none, false, 4, [], (rp (some [(5, 9), (9, 18)]) [om 8 0, om 9 0, o 10 (nc 9), of 11 4 10, of 12 0 11, o 13 (k 12), om 14 1, om 15 1, om 16 2, o 17 (.app 50 5 48 true (.c (.nil 50 5 true)) (.s 16)), om 18 3, om 19 2, o 20 (le 19), o 21 (.mm false (.s 18) (.s 20)), om 22 0, o 23 (nc 22), of 24 4 23, of 25 6 24, o 26 (k 25), o 27 (.build l1 [(0, 1, (.s 13)), (1, 1, (j 1)), (2, 1, (.s 14)), (3, 1, (.s 15)), (4, 1, (.s 17)), (5, 1, (.s 21)), (6, 1, (.s 26))]), o 28 (nc 8), of 29 4 28, p (t 12 29 27)] [0, 1, 2]
 (rs [om 30 2, o 31 (le 30), om 32 0, o 33 (nc 32), of 34 4 33, of 35 5 34, o 36 (k 35), o 37 (bg 31 36)] [0, 1, 2, 37]
 (.cond (.s 37) (.reg [om 38 0, om 39 0, o 40 (nc 39), of 41 0 40, ol 42 4 41, om 43 1, o 44 (c 132 [42, 43]), om 45 1, om 46 2, o 47 (le 46), o 48 (.build l4 [(0, 1, (j 4)), (2, 1, (.s 45)), (11, 1, (.s 47))]), o 49 (c 133 [38, 44, 48])] none []) .skip)))⟩

def xf_ref09_voters_k0 : List (Nat × Option (Nat × Nat × Bool)) := [(1, none), (2, none), (3, none), (4, none), (9, none)]
def xf_ref09_voters_b0 : XCode := (.seq (rs [om 10 9, om 11 2, o 12 (le 11), o 13 (bl 10 12)] [1, 2, 3, 4, 9, 13]
 (.cond (.s 13) .skip (.exit 0 [])))
 (.seq (.block 1 (sp (some []) [am 16 2, am 17 9, a 18 (ia 1 16 17), a 19 (k 18), a 20 (blj 19 0), am 21 20, d 22 (m 2) 21, d 23 (m 9) 21, r 24 (ia 1 22 23) 21, r 25 (k 24) 21, d 26 (m 1) 21, r 27 (bh 25 26) 21, a 28 (ko 21 27), am 29 28, d 30 (m 2) 29, d 31 (m 9) 29, r 32 (ia 1 30 31) 29, r 33 (k 32) 29, d 34 (f 0 4) 29, d 35 (k 34) 29, r 36 (q 33 35) 29, a 37 (ko 29 36), am 38 37, d 39 (m 9) 38, d 40 (bgj 39 0) 38, r 41 (m 40) 38, bb 42 2 41, bb 43 9 41, u 44 (ia 1 42 43) 41, u 45 (k 44) 41, bb 46 2 41, bb 47 9 41, b 48 (bsj 47 1) 41, u 49 (ia 1 46 48) 41, u 50 (k 49) 41, u 51 (bm 45 50) 41, r 52 (ka 41 51) 38, a 53 (ko 38 52), am 54 53, d 55 (m 3) 54, d 56 (m 9) 54, r 57 (ia 2 55 56) 54, r 58 (l 2 57) 54, d 59 (f 6 4) 54, d 60 (k 59) 54, d 61 (m 2) 54, d 62 (m 9) 54, r 63 (ia 1 61 62) 54, r 64 (k 63) 54, r 65 (ia 2 60 64) 54, r 66 (l 2 65) 54, r 67 (.eqv true true [.i, .i] (.s 58) (.s 66)) 54, a 68 (ko 54 67)] [1, 2, 3, 4, 9, 68]
 (.cond (.s 68) (rs [o 8 (.mv (.c w))] [8]
 (.ret [8])) .skip)))
 (.reg [om 14 9, o 15 (baj 14 1), om 9 15] none [1, 2, 3, 4, 9])))
def xf_ref09_voters : XFunc := ⟨none, none, true, 4, [.tmp 8], (rs [o 4 (bx 0), o 8 (.mv (.c w))] [1, 2, 3, 4]
 (.seq (rs [o 9 (.mv (j 0))] [1, 2, 3, 4, 9]
 (.block 0 (.loop xf_ref09_voters_k0 xf_ref09_voters_b0)))
 (rs [o 8 (.mv (.c v))] [8]
 (.ret [8]))))⟩

def xf_ref05_Entry : XFunc := ⟨none, none, true, 1, [.tmp 2], (rs [o 1 (bx 0), o 2 (.mv (j 0))] [1]
 (.seq (ss [a 3 (f 0 1), a 4 (k 3), a 5 (blj 4 0), am 6 5, d 7 (f 0 1) 6, d 8 (k 7) 6, d 9 (bhj 8 16) 6, a 10 (ko 6 9)] [1, 10]
 (.cond (.s 10) (rs [o 2 (.mv (j 62))] [2]
 (.ret [2])) .skip))
 (.seq (rs [of 11 1 1, o 12 (k 11), o 13 (blj 12 1)] [1, 13]
 (.cond (.s 13) (rs [o 2 (.mv (j 63))] [2]
 (.ret [2])) .skip))
 (rs [of 14 2 1, ol 15 3 14, o 16 (c 175 [15]), om 2 16] [2]
 (.ret [2])))))⟩

def xf_core_voters_k0 : List (Nat × Option (Nat × Nat × Bool)) := [(1, none), (2, none), (3, none), (13, some (123, 4, true)), (14, none), (15, none)]
def xf_core_voters_b0 : XCode := (rs [o 16 (bl 15 14)] [1, 2, 3, 13, 14, 15, 16]
 (.seq (.cond (.s 16) .skip (.exit 0 [1, 2, 3]))
 (.seq (.block 1 (rs [o 17 (ia 4 13 15), ol 18 4 17, o 5 (.alloc l9), p (t 4 5 18)] [1, 2, 3, 5, 13, 14, 15]
 (.reg [o 19 (.aadr 1 4 (.s 3) (j 0)), o 20 (k 19), of 21 0 5, o 22 (k 21), of 23 1 5, ol 24 2 23, o 25 (.build l7 [(0, 1, (.s 22)), (1, 2, (.s 24))]), o 26 (.bsl 195 3 true 1 l7 [(0, 3, (.s 25))]), o 27 (.app 195 3 24 true (.s 20) (.s 26)), o 28 (.aadr 1 4 (.s 3) (j 0)), p (t 1 28 27)] none [1, 2, 3, 13, 14, 15])))
 (.reg [o 29 (baj 15 1), om 15 29] none [1, 2, 3, 13, 14, 15]))))
def xf_core_voters_k1 : List (Nat × Option (Nat × Nat × Bool)) := [(1, none), (2, none), (3, none), (31, some (125, 3, true)), (32, none), (33, none)]
def xf_core_voters_b1 : XCode := (rs [o 34 (bl 33 32)] [1, 2, 3, 31, 32, 33, 34]
 (.seq (.cond (.s 34) .skip (.exit 2 [1, 2, 3]))
 (.seq (.block 3 (rs [o 35 (ia 3 31 33), ol 36 3 35, o 7 (.alloc l7), p (t 3 7 36)] [1, 2, 3, 7, 31, 32, 33]
 (.reg [o 37 (.aadr 1 4 (.s 3) (j 1)), o 38 (k 37), of 39 0 7, o 40 (k 39), of 41 1 7, ol 42 2 41, o 43 (.build l7 [(0, 1, (.s 40)), (1, 2, (.s 42))]), o 44 (.bsl 195 3 true 1 l7 [(0, 3, (.s 43))]), o 45 (.app 195 3 24 true (.s 38) (.s 44)), o 46 (.aadr 1 4 (.s 3) (j 1)), p (t 1 46 45)] none [1, 2, 3, 31, 32, 33])))
 (.reg [o 47 (baj 33 1), om 33 47] none [1, 2, 3, 31, 32, 33]))))
def xf_core_voters_k2 : List (Nat × Option (Nat × Nat × Bool)) := [(1, none), (2, none), (3, none), (49, some (98, 6, false)), (50, none), (51, none)]
def xf_core_voters_b2 : XCode := (rs [o 52 (bl 51 50)] [1, 2, 3, 49, 50, 51, 52]
 (.seq (.cond (.s 52) .skip (.exit 4 [1, 2, 3]))
 (.seq (.block 5 (rs [o 53 (ia 6 49 51), ol 54 6 53, o 9 (.alloc l2), p (t 6 9 54)] [1, 2, 3, 9, 49, 50, 51]
 (.reg [o 55 (.aadr 1 4 (.s 3) (j 2)), o 56 (k 55), of 57 0 9, o 58 (k 57), of 59 1 9, ol 60 2 59, o 61 (.build l7 [(0, 1, (.s 58)), (1, 2, (.s 60))]), o 62 (.bsl 195 3 true 1 l7 [(0, 3, (.s 61))]), o 63 (.app 195 3 24 true (.s 56) (.s 62)), o 64 (.aadr 1 4 (.s 3) (j 2)), p (t 1 64 63)] none [1, 2, 3, 49, 50, 51])))
 (.reg [o 65 (baj 51 1), om 51 65] none [1, 2, 3, 49, 50, 51]))))
def xf_core_voters_k3 : List (Nat × Option (Nat × Nat × Bool)) := [(2, none), (3, none), (67, some (100, 6, false)), (68, none), (69, none)]
def xf_core_voters_b3 : XCode := (rs [o 70 (bl 69 68)] [2, 3, 67, 68, 69, 70]
 (.seq (.cond (.s 70) .skip (.exit 6 [2, 3]))
 (.seq (.block 7 (rs [o 71 (ia 6 67 69), ol 72 6 71, o 11 (.alloc l2), p (t 6 11 72)] [2, 3, 11, 67, 68, 69]
 (.reg [o 73 (.aadr 1 4 (.s 3) (j 3)), o 74 (k 73), of 75 0 11, o 76 (k 75), of 77 1 11, ol 78 2 77, o 79 (.build l7 [(0, 1, (.s 76)), (1, 2, (.s 78))]), o 80 (.bsl 195 3 true 1 l7 [(0, 3, (.s 79))]), o 81 (.app 195 3 24 true (.s 74) (.s 80)), o 82 (.aadr 1 4 (.s 3) (j 3)), p (t 1 82 81)] none [2, 3, 67, 68, 69])))
 (.reg [o 83 (baj 69 1), om 69 83] none [2, 3, 67, 68, 69]))))
def xf_core_voters : XFunc := ⟨none, none, true, 1, [.cell 2 (some 4)], (rs [o 1 (bx 0), o 2 (.alloc l8)] [1, 2]
 (rs [o 3 (.alloc l8)] [1, 2, 3]
 (.seq (rs [of 12 8 1, o 13 (k 12), o 14 (le 13), o 15 (.mv (j 0))] [1, 2, 3, 13, 14, 15]
 (.block 0 (.loop xf_core_voters_k0 xf_core_voters_b0)))
 (.seq (rs [of 30 9 1, o 31 (k 30), o 32 (le 31), o 33 (.mv (j 0))] [1, 2, 3, 31, 32, 33]
 (.block 2 (.loop xf_core_voters_k1 xf_core_voters_b1)))
 (.seq (rs [of 48 10 1, o 49 (k 48), o 50 (le 49), o 51 (.mv (j 0))] [1, 2, 3, 49, 50, 51]
 (.block 4 (.loop xf_core_voters_k2 xf_core_voters_b2)))
 (.seq (rs [of 66 11 1, o 67 (k 66), o 68 (le 67), o 69 (.mv (j 0))] [2, 3, 67, 68, 69]
 (.block 6 (.loop xf_core_voters_k3 xf_core_voters_b3)))
 (rs [ol 84 4 3, p (t 4 2 84)] [2]
 (.ret [2]))))))))⟩

def xf_message_short : XFunc := ⟨none, none, true, 1, [.tmp 2], (rs [o 2 (.mv (.c w))] [0]
 (ss [am 3 0, a 4 (qj 3 2), am 5 4, d 6 (m 0) 5, d 7 (qj 6 14) 5, a 8 (ko 5 7), am 2 8] [2]
 (.ret [2])))⟩

def xf_ledger_Check : XFunc := ⟨none, none, true, 1, [.tmp 2], (rs [o 1 (bx 0), o 2 (.mv (j 0))] [1]
 (.seq (rs [of 4 0 1, o 5 (k 4)] [1, 5]
 (.block 0 (.seq (rs [o 7 (qj 5 1), om 6 7] [1, 5, 6]
 (.cond (.s 6) .skip (.reg [o 8 (qj 5 3), om 6 8] none [1, 5, 6])))
 (.cond (.s 6) (ss [a 9 (f 1 1), a 10 (k 9), a 11 (blj 10 0), am 12 11, d 13 (f 1 1) 12, d 14 (k 13) 12, d 15 (bhj 14 1024) 12, a 16 (ko 12 15)] [1, 16]
 (.cond (.s 16) (rs [o 2 (.mv (j 41))] [2]
 (.ret [2])) .skip)) (.seq (rs [o 18 (qj 5 2), om 17 18] [1, 5, 17]
 (.cond (.s 17) .skip (.reg [o 19 (qj 5 4), om 17 19] none [1, 17])))
 (.cond (.s 17) (rs [of 20 1 1, o 21 (k 20), o 22 (nj 21 0)] [1, 22]
 (.cond (.s 22) (rs [o 2 (.mv (j 41))] [2]
 (.ret [2])) .skip)) (rs [o 2 (.mv (j 40))] [2]
 (.ret [2]))))))))
 (rs [o 3 (.mv (j 0))] [1, 3]
 (.seq (rs [of 23 0 1, o 24 (k 23)] [1, 3, 24]
 (.block 1 (.seq (.block 3 (.block 2 (.seq (.seq (rs [o 26 (qj 24 1), om 25 26] [1, 3, 24, 25]
 (.cond (.s 25) (.exit 2 [1]) .skip))
 (rs [o 28 (qj 24 2), om 27 28] [1, 3, 27]
 (.cond (.s 27) (.exit 3 [1]) .skip)))
 (.exit 1 [1, 3]))))
 (rs [o 3 (.mv (j 64))] [1, 3]
 (.exit 1 [1, 3])))))
 (.seq (rs [of 29 2 1, o 30 (k 29), o 31 (.len true (.s 30)), om 32 3, o 33 (bg 31 32)] [33]
 (.cond (.s 33) (rs [o 2 (.mv (j 42))] [2]
 (.ret [2])) .skip))
 (rs [o 2 (.mv (j 0))] [2]
 (.ret [2])))))))⟩

def xf_oplog_Each : XFunc := ⟨none, none, false, 2, [.tmp 4], (rs [o 3 (bx 1), o 4 (.mv (.c (.dat .nilf)))] [0, 3]
 (rs [om 6 0, o 7 (.call (fc 176) [(.s 6), (.c (.nil 50 5 true))]), o 5 (.alloc [(.nil 50 5 true)]), p (t 1 5 7)] [3, 5]
 (rs [o 8 (.mkfn (.func 177) [] [(.s 3), (.s 5)]), om 4 8] [4]
 (.ret [4]))))⟩

def xf_oplog_fits : XFunc := ⟨none, none, false, 2, [.tmp 4], (rs [o 3 (bx 1), o 4 (.mv (j 0))] [0, 3]
 (.seq (ss [a 8 (f 0 3), a 9 (k 8), a 10 (blj 9 0), am 11 10, d 12 (f 0 3) 11, d 13 (k 12) 11, d 14 (bhj 13 16) 11, a 15 (ko 11 14)] [0, 3, 15]
 (.cond (.s 15) (rs [o 4 (.mv (j 62))] [4]
 (.ret [4])) .skip))
 (.seq (rs [of 16 1 3, o 17 (k 16), o 18 (blj 17 1)] [0, 3, 18]
 (.cond (.s 18) (rs [o 4 (.mv (j 63))] [4]
 (.ret [4])) .skip))
 (.seq (rs [of 19 2 3, ol 20 3 19, o 21 (c 147 [20]), om 5 21] [0, 3, 5]
 (rs [om 22 5, o 23 (nj 22 0)] [0, 3, 5, 23]
 (.cond (.s 23) (rs [om 24 5, om 4 24] [4]
 (.ret [4])) .skip)))
 (.seq (rs [om 26 0, of 27 0 3, o 28 (k 27), o 29 (.mget true (.int .i64 0) (.s 26) (.s 28)), om 25 29, o 30 (e 25 0), o 31 (e 25 1), om 6 30, om 7 31] [3, 6, 7]
 (ss [am 32 7, am 33 32, bb 34 6 33, b 35 (f 1 3) 33, b 36 (k 35) 33, b 37 (bh 34 36) 33, a 38 (ka 33 37)] [38]
 (.cond (.s 38) (rs [o 4 (.mv (j 64))] [4]
 (.ret [4])) .skip)))
 (rs [o 4 (.mv (j 0))] [4]
 (.ret [4])))))))⟩

def xf_vector_speaks : XFunc := ⟨none, none, true, 1, [.tmp 2], (rs [o 1 (bx 0), o 2 (.mv (.c w))] [1]
 (ss [a 3 (f 1 1), a 4 (k 3), a 5 (c 151 [4]), am 6 5, b 7 (f 0 1) 6, b 8 (k 7) 6, b 9 (bhj 8 0) 6, a 10 (ka 6 9), am 11 10, b 12 (f 0 1) 11, b 13 (k 12) 11, b 14 (f 1 1) 11, b 15 (k 14) 11, b 16 (le 15) 11, b 17 (bl 13 16) 11, a 18 (ka 11 17), am 2 18] [2]
 (.ret [2])))⟩

def xf_vector_fits : XFunc := ⟨none, none, true, 1, [.tmp 2], (rs [o 2 (.mv (.c w))] [0]
 (ss [am 3 0, a 4 (le 3), a 5 (bhj 4 1), am 6 5, bb 7 0 6, b 8 (le 7) 6, b 9 (bmj 8 7) 6, a 10 (ka 6 9), am 2 10] [2]
 (.ret [2])))⟩

def xf_tally_turned_ack_Ack_k0 : List (Nat × Option (Nat × Nat × Bool)) := [(1, none), (5, some (123, 4, true)), (8, some (208, 4, true)), (9, none), (10, none)]
def xf_tally_turned_ack_Ack_b0 : XCode := (rs [o 11 (bl 10 9)] [1, 5, 8, 9, 10, 11]
 (.seq (.cond (.s 11) .skip (.exit 0 [5]))
 (.seq (.block 1 (rs [o 12 (ia 4 8 10), ol 13 4 12, o 7 (.alloc l9), p (t 4 7 13)] [1, 5, 7, 8, 9, 10]
 (.reg [om 14 5, om 15 1, ol 16 4 7, o 17 (.call (.s 15) [(.s 16)]), o 18 (.bsl 123 4 true 1 l9 [(0, 4, (.s 17))]), o 19 (.app 123 4 32 true (.s 14) (.s 18)), om 5 19] none [1, 5, 8, 9, 10])))
 (.reg [o 20 (baj 10 1), om 10 20] none [1, 5, 8, 9, 10]))))
def xf_tally_turned_ack_Ack : XFunc := ⟨none, none, true, 2, [.tmp 4], (rs [o 4 (.mv (.c (.nil 123 4 true)))] [0, 1]
 (rs [o 5 (.mv (.c (.nil 123 4 true)))] [0, 1, 5]
 (.seq (rs [om 8 0, o 9 (le 8), o 10 (.mv (j 0))] [1, 5, 8, 9, 10]
 (.block 0 (.loop xf_tally_turned_ack_Ack_k0 xf_tally_turned_ack_Ack_b0)))
 (rs [om 21 5, om 4 21] [4]
 (.ret [4])))))⟩

def xf_tally_turned_Ack_ack_k0 : List (Nat × Option (Nat × Nat × Bool)) := [(1, none), (5, some (208, 4, true)), (8, some (123, 4, true)), (9, none), (10, none)]
def xf_tally_turned_Ack_ack_b0 : XCode := (rs [o 11 (bl 10 9)] [1, 5, 8, 9, 10, 11]
 (.seq (.cond (.s 11) .skip (.exit 0 [5]))
 (.seq (.block 1 (rs [o 12 (ia 4 8 10), ol 13 4 12, o 7 (.alloc l9), p (t 4 7 13)] [1, 5, 7, 8, 9, 10]
 (.reg [om 14 5, om 15 1, ol 16 4 7, o 17 (.call (.s 15) [(.s 16)]), o 18 (.bsl 208 4 true 1 l9 [(0, 4, (.s 17))]), o 19 (.app 208 4 32 true (.s 14) (.s 18)), om 5 19] none [1, 5, 8, 9, 10])))
 (.reg [o 20 (baj 10 1), om 10 20] none [1, 5, 8, 9, 10]))))
def xf_tally_turned_Ack_ack : XFunc := ⟨none, none, true, 2, [.tmp 4], (rs [o 4 (.mv (.c (.nil 208 4 true)))] [0, 1]
 (rs [o 5 (.mv (.c (.nil 208 4 true)))] [0, 1, 5]
 (.seq (rs [om 8 0, o 9 (le 8), o 10 (.mv (j 0))] [1, 5, 8, 9, 10]
 (.block 0 (.loop xf_tally_turned_Ack_ack_k0 xf_tally_turned_Ack_ack_b0)))
 (rs [om 21 5, om 4 21] [4]
 (.ret [4])))))⟩

def xf_tally_toAck : XFunc := ⟨none, none, true, 1, [.cell 2 (some 4)], (rs [o 1 (bx 0), o 2 (.alloc l9)] [1, 2]
 (rs [ol 3 4 1, p (t 4 2 3)] [2]
 (.ret [2])))⟩

def xf_tally_box_ack_prune_k0 : List (Nat × Option (Nat × Nat × Bool)) := [(1, none), (5, some (208, 4, true)), (10, some (208, 4, true)), (11, none), (12, none)]
def xf_tally_box_ack_prune_b0 : XCode := (rs [o 13 (bl 12 11)] [1, 5, 10, 11, 12, 13]
 (.seq (.cond (.s 13) .skip (.exit 0 [5]))
 (.seq (.block 1 (rs [o 14 (ia 4 10 12), ol 15 4 14, o 7 (.alloc l9), p (t 4 7 15)] [1, 5, 7, 10, 11, 12]
 (rs [ol 16 4 7, o 17 (.mkifc 208 (.s 16)), o 18 (.inv [(208, 196), (217, 201), (226, 206), (235, 211)] (.s 17) []), om 8 18] [1, 5, 7, 8, 10, 11, 12]
 (sp (some [(11, 14), (11, 15)]) [am 19 8, a 20 (blj 19 0), am 21 20, d 22 (m 8) 21, d 23 (m 1) 21, d 24 (le 23) 21, d 25 (bh 22 24) 21, a 26 (ko 21 25), am 27 26, d 28 (l 4 7) 27, d 29 (.mkifc 208 (.s 28)) 27, r 30 (.inv [(208, 194), (217, 199), (226, 204), (235, 210)] (.s 29) []) 27, d 31 (m 1) 27, d 32 (m 8) 27, r 33 (ia 2 31 32) 27, r 34 (l 2 33) 27, r 35 (c 126 [30, 34]) 27, r 36 (bhj 35 0) 27, a 37 (ko 27 36)] [1, 5, 7, 10, 11, 12, 37]
 (.cond (.s 37) (.reg [om 38 5, ol 39 4 7, o 40 (.mkifc 208 (.s 39)), o 41 (.inv [(208, 195), (217, 200), (226, 205), (235, 174)] (.s 40) []), o 42 (.bsl 208 4 true 1 l9 [(0, 4, (.s 41))]), o 43 (.app 208 4 32 true (.s 38) (.s 42)), om 5 43] none [1, 5, 10, 11, 12]) .skip)))))
 (.reg [o 44 (baj 12 1), om 12 44] none [1, 5, 10, 11, 12]))))
def xf_tally_box_ack_prune : XFunc := ⟨none, none, true, 2, [.tmp 4], (rs [o 2 (bx 0), o 4 (.mv (.c (.nil 208 4 true)))] [1, 2]
 (rs [o 5 (.mv (.c (.nil 208 4 true)))] [1, 2, 5]
 (.seq (rs [of 9 0 2, o 10 (k 9), o 11 (le 10), o 12 (.mv (j 0))] [1, 5, 10, 11, 12]
 (.block 0 (.loop xf_tally_box_ack_prune_k0 xf_tally_box_ack_prune_b0)))
 (rs [om 45 5, om 4 45] [4]
 (.ret [4])))))⟩

def xf_tally_fromAck : XFunc := ⟨none, none, true, 1, [.cell 2 (some 4)], (rs [o 1 (bx 0), o 2 (.alloc l9)] [1, 2]
 (rs [ol 3 4 1, p (t 4 2 3)] [2]
 (.ret [2])))⟩

def xf_tally_turned_mark_Mark_k0 : List (Nat × Option (Nat × Nat × Bool)) := [(1, none), (5, some (125, 3, true)), (8, some (217, 3, true)), (9, none), (10, none)]
def xf_tally_turned_mark_Mark_b0 : XCode := (rs [o 11 (bl 10 9)] [1, 5, 8, 9, 10, 11]
 (.seq (.cond (.s 11) .skip (.exit 0 [5]))
 (.seq (.block 1 (rs [o 12 (ia 3 8 10), ol 13 3 12, o 7 (.alloc l7), p (t 3 7 13)] [1, 5, 7, 8, 9, 10]
 (.reg [om 14 5, om 15 1, ol 16 3 7, o 17 (.call (.s 15) [(.s 16)]), o 18 (.bsl 125 3 true 1 l7 [(0, 3, (.s 17))]), o 19 (.app 125 3 24 true (.s 14) (.s 18)), om 5 19] none [1, 5, 8, 9, 10])))
 (.reg [o 20 (baj 10 1), om 10 20] none [1, 5, 8, 9, 10]))))
def xf_tally_turned_mark_Mark : XFunc := ⟨none, none, true, 2, [.tmp 4], (rs [o 4 (.mv (.c (.nil 125 3 true)))] [0, 1]
 (rs [o 5 (.mv (.c (.nil 125 3 true)))] [0, 1, 5]
 (.seq (rs [om 8 0, o 9 (le 8), o 10 (.mv (j 0))] [1, 5, 8, 9, 10]
 (.block 0 (.loop xf_tally_turned_mark_Mark_k0 xf_tally_turned_mark_Mark_b0)))
 (rs [om 21 5, om 4 21] [4]
 (.ret [4])))))⟩

def xf_tally_turned_Mark_mark_k0 : List (Nat × Option (Nat × Nat × Bool)) := [(1, none), (5, some (217, 3, true)), (8, some (125, 3, true)), (9, none), (10, none)]
def xf_tally_turned_Mark_mark_b0 : XCode := (rs [o 11 (bl 10 9)] [1, 5, 8, 9, 10, 11]
 (.seq (.cond (.s 11) .skip (.exit 0 [5]))
 (.seq (.block 1 (rs [o 12 (ia 3 8 10), ol 13 3 12, o 7 (.alloc l7), p (t 3 7 13)] [1, 5, 7, 8, 9, 10]
 (.reg [om 14 5, om 15 1, ol 16 3 7, o 17 (.call (.s 15) [(.s 16)]), o 18 (.bsl 217 3 true 1 l7 [(0, 3, (.s 17))]), o 19 (.app 217 3 24 true (.s 14) (.s 18)), om 5 19] none [1, 5, 8, 9, 10])))
 (.reg [o 20 (baj 10 1), om 10 20] none [1, 5, 8, 9, 10]))))
def xf_tally_turned_Mark_mark : XFunc := ⟨none, none, true, 2, [.tmp 4], (rs [o 4 (.mv (.c (.nil 217 3 true)))] [0, 1]
 (rs [o 5 (.mv (.c (.nil 217 3 true)))] [0, 1, 5]
 (.seq (rs [om 8 0, o 9 (le 8), o 10 (.mv (j 0))] [1, 5, 8, 9, 10]
 (.block 0 (.loop xf_tally_turned_Mark_mark_k0 xf_tally_turned_Mark_mark_b0)))
 (rs [om 21 5, om 4 21] [4]
 (.ret [4])))))⟩

def xf_tally_toMark : XFunc := ⟨none, none, true, 1, [.cell 2 (some 3)], (rs [o 1 (bx 0), o 2 (.alloc l7)] [1, 2]
 (rs [ol 3 3 1, p (t 3 2 3)] [2]
 (.ret [2])))⟩

def xf_tally_box_mark_prune_k0 : List (Nat × Option (Nat × Nat × Bool)) := [(1, none), (5, some (217, 3, true)), (10, some (217, 3, true)), (11, none), (12, none)]
def xf_tally_box_mark_prune_b0 : XCode := (rs [o 13 (bl 12 11)] [1, 5, 10, 11, 12, 13]
 (.seq (.cond (.s 13) .skip (.exit 0 [5]))
 (.seq (.block 1 (rs [o 14 (ia 3 10 12), ol 15 3 14, o 7 (.alloc l7), p (t 3 7 15)] [1, 5, 7, 10, 11, 12]
 (rs [ol 16 3 7, o 17 (.mkifc 217 (.s 16)), o 18 (.inv [(208, 196), (217, 201), (226, 206), (235, 211)] (.s 17) []), om 8 18] [1, 5, 7, 8, 10, 11, 12]
 (sp (some [(11, 14), (11, 15)]) [am 19 8, a 20 (blj 19 0), am 21 20, d 22 (m 8) 21, d 23 (m 1) 21, d 24 (le 23) 21, d 25 (bh 22 24) 21, a 26 (ko 21 25), am 27 26, d 28 (l 3 7) 27, d 29 (.mkifc 217 (.s 28)) 27, r 30 (.inv [(208, 194), (217, 199), (226, 204), (235, 210)] (.s 29) []) 27, d 31 (m 1) 27, d 32 (m 8) 27, r 33 (ia 2 31 32) 27, r 34 (l 2 33) 27, r 35 (c 126 [30, 34]) 27, r 36 (bhj 35 0) 27, a 37 (ko 27 36)] [1, 5, 7, 10, 11, 12, 37]
 (.cond (.s 37) (.reg [om 38 5, ol 39 3 7, o 40 (.mkifc 217 (.s 39)), o 41 (.inv [(208, 195), (217, 200), (226, 205), (235, 174)] (.s 40) []), o 42 (.bsl 217 3 true 1 l7 [(0, 3, (.s 41))]), o 43 (.app 217 3 24 true (.s 38) (.s 42)), om 5 43] none [1, 5, 10, 11, 12]) .skip)))))
 (.reg [o 44 (baj 12 1), om 12 44] none [1, 5, 10, 11, 12]))))
def xf_tally_box_mark_prune : XFunc := ⟨none, none, true, 2, [.tmp 4], (rs [o 2 (bx 0), o 4 (.mv (.c (.nil 217 3 true)))] [1, 2]
 (rs [o 5 (.mv (.c (.nil 217 3 true)))] [1, 2, 5]
 (.seq (rs [of 9 0 2, o 10 (k 9), o 11 (le 10), o 12 (.mv (j 0))] [1, 5, 10, 11, 12]
 (.block 0 (.loop xf_tally_box_mark_prune_k0 xf_tally_box_mark_prune_b0)))
 (rs [om 45 5, om 4 45] [4]
 (.ret [4])))))⟩

def xf_tally_fromMark : XFunc := ⟨none, none, true, 1, [.cell 2 (some 3)], (rs [o 1 (bx 0), o 2 (.alloc l7)] [1, 2]
 (rs [ol 3 3 1, p (t 3 2 3)] [2]
 (.ret [2])))⟩

def xf_tally_turned_ballot_Ballot_k0 : List (Nat × Option (Nat × Nat × Bool)) := [(1, none), (5, some (98, 6, false)), (8, some (226, 6, false)), (9, none), (10, none)]
def xf_tally_turned_ballot_Ballot_b0 : XCode := (rs [o 11 (bl 10 9)] [1, 5, 8, 9, 10, 11]
 (.seq (.cond (.s 11) .skip (.exit 0 [5]))
 (.seq (.block 1 (rs [o 12 (ia 6 8 10), ol 13 6 12, o 7 (.alloc l2), p (t 6 7 13)] [1, 5, 7, 8, 9, 10]
 (.reg [om 14 5, om 15 1, ol 16 6 7, o 17 (.call (.s 15) [(.s 16)]), o 18 (.bsl 98 6 false 1 l2 [(0, 6, (.s 17))]), o 19 (.app 98 6 64 false (.s 14) (.s 18)), om 5 19] none [1, 5, 8, 9, 10])))
 (.reg [o 20 (baj 10 1), om 10 20] none [1, 5, 8, 9, 10]))))
def xf_tally_turned_ballot_Ballot : XFunc := ⟨none, none, true, 2, [.tmp 4], (rs [o 4 (.mv (.c (.nil 98 6 false)))] [0, 1]
 (rs [o 5 (.mv (.c (.nil 98 6 false)))] [0, 1, 5]
 (.seq (rs [om 8 0, o 9 (le 8), o 10 (.mv (j 0))] [1, 5, 8, 9, 10]
 (.block 0 (.loop xf_tally_turned_ballot_Ballot_k0 xf_tally_turned_ballot_Ballot_b0)))
 (rs [om 21 5, om 4 21] [4]
 (.ret [4])))))⟩

def xf_tally_turned_Ballot_ballot_k0 : List (Nat × Option (Nat × Nat × Bool)) := [(1, none), (5, some (226, 6, false)), (8, some (98, 6, false)), (9, none), (10, none)]
def xf_tally_turned_Ballot_ballot_b0 : XCode := (rs [o 11 (bl 10 9)] [1, 5, 8, 9, 10, 11]
 (.seq (.cond (.s 11) .skip (.exit 0 [5]))
 (.seq (.block 1 (rs [o 12 (ia 6 8 10), ol 13 6 12, o 7 (.alloc l2), p (t 6 7 13)] [1, 5, 7, 8, 9, 10]
 (.reg [om 14 5, om 15 1, ol 16 6 7, o 17 (.call (.s 15) [(.s 16)]), o 18 (.bsl 226 6 false 1 l2 [(0, 6, (.s 17))]), o 19 (.app 226 6 64 false (.s 14) (.s 18)), om 5 19] none [1, 5, 8, 9, 10])))
 (.reg [o 20 (baj 10 1), om 10 20] none [1, 5, 8, 9, 10]))))
def xf_tally_turned_Ballot_ballot : XFunc := ⟨none, none, true, 2, [.tmp 4], (rs [o 4 (.mv (.c (.nil 226 6 false)))] [0, 1]
 (rs [o 5 (.mv (.c (.nil 226 6 false)))] [0, 1, 5]
 (.seq (rs [om 8 0, o 9 (le 8), o 10 (.mv (j 0))] [1, 5, 8, 9, 10]
 (.block 0 (.loop xf_tally_turned_Ballot_ballot_k0 xf_tally_turned_Ballot_ballot_b0)))
 (rs [om 21 5, om 4 21] [4]
 (.ret [4])))))⟩

def xf_tally_toBallot : XFunc := ⟨none, none, true, 1, [.cell 2 (some 6)], (rs [o 1 (bx 0), o 2 (.alloc l2)] [1, 2]
 (rs [ol 3 6 1, p (t 6 2 3)] [2]
 (.ret [2])))⟩

def xf_tally_box_ballot_prune_k0 : List (Nat × Option (Nat × Nat × Bool)) := [(1, none), (5, some (226, 6, false)), (10, some (226, 6, false)), (11, none), (12, none)]
def xf_tally_box_ballot_prune_b0 : XCode := (rs [o 13 (bl 12 11)] [1, 5, 10, 11, 12, 13]
 (.seq (.cond (.s 13) .skip (.exit 0 [5]))
 (.seq (.block 1 (rs [o 14 (ia 6 10 12), ol 15 6 14, o 7 (.alloc l2), p (t 6 7 15)] [1, 5, 7, 10, 11, 12]
 (rs [ol 16 6 7, o 17 (.mkifc 226 (.s 16)), o 18 (.inv [(208, 196), (217, 201), (226, 206), (235, 211)] (.s 17) []), om 8 18] [1, 5, 7, 8, 10, 11, 12]
 (sp (some [(11, 14), (11, 15)]) [am 19 8, a 20 (blj 19 0), am 21 20, d 22 (m 8) 21, d 23 (m 1) 21, d 24 (le 23) 21, d 25 (bh 22 24) 21, a 26 (ko 21 25), am 27 26, d 28 (l 6 7) 27, d 29 (.mkifc 226 (.s 28)) 27, r 30 (.inv [(208, 194), (217, 199), (226, 204), (235, 210)] (.s 29) []) 27, d 31 (m 1) 27, d 32 (m 8) 27, r 33 (ia 2 31 32) 27, r 34 (l 2 33) 27, r 35 (c 126 [30, 34]) 27, r 36 (bhj 35 0) 27, a 37 (ko 27 36)] [1, 5, 7, 10, 11, 12, 37]
 (.cond (.s 37) (.reg [om 38 5, ol 39 6 7, o 40 (.mkifc 226 (.s 39)), o 41 (.inv [(208, 195), (217, 200), (226, 205), (235, 174)] (.s 40) []), o 42 (.bsl 226 6 false 1 l2 [(0, 6, (.s 41))]), o 43 (.app 226 6 64 false (.s 38) (.s 42)), om 5 43] none [1, 5, 10, 11, 12]) .skip)))))
 (.reg [o 44 (baj 12 1), om 12 44] none [1, 5, 10, 11, 12]))))
def xf_tally_box_ballot_prune : XFunc := ⟨none, none, true, 2, [.tmp 4], (rs [o 2 (bx 0), o 4 (.mv (.c (.nil 226 6 false)))] [1, 2]
 (rs [o 5 (.mv (.c (.nil 226 6 false)))] [1, 2, 5]
 (.seq (rs [of 9 0 2, o 10 (k 9), o 11 (le 10), o 12 (.mv (j 0))] [1, 5, 10, 11, 12]
 (.block 0 (.loop xf_tally_box_ballot_prune_k0 xf_tally_box_ballot_prune_b0)))
 (rs [om 45 5, om 4 45] [4]
 (.ret [4])))))⟩

def xf_tally_fromBallot : XFunc := ⟨none, none, true, 1, [.cell 2 (some 6)], (rs [o 1 (bx 0), o 2 (.alloc l2)] [1, 2]
 (rs [ol 3 6 1, p (t 6 2 3)] [2]
 (.ret [2])))⟩

def xf_tally_turned_answer_Answer_k0 : List (Nat × Option (Nat × Nat × Bool)) := [(1, none), (5, some (100, 6, false)), (8, some (235, 6, false)), (9, none), (10, none)]
def xf_tally_turned_answer_Answer_b0 : XCode := (rs [o 11 (bl 10 9)] [1, 5, 8, 9, 10, 11]
 (.seq (.cond (.s 11) .skip (.exit 0 [5]))
 (.seq (.block 1 (rs [o 12 (ia 6 8 10), ol 13 6 12, o 7 (.alloc l2), p (t 6 7 13)] [1, 5, 7, 8, 9, 10]
 (.reg [om 14 5, om 15 1, ol 16 6 7, o 17 (.call (.s 15) [(.s 16)]), o 18 (.bsl 100 6 false 1 l2 [(0, 6, (.s 17))]), o 19 (.app 100 6 64 false (.s 14) (.s 18)), om 5 19] none [1, 5, 8, 9, 10])))
 (.reg [o 20 (baj 10 1), om 10 20] none [1, 5, 8, 9, 10]))))
def xf_tally_turned_answer_Answer : XFunc := ⟨none, none, true, 2, [.tmp 4], (rs [o 4 (.mv (.c (.nil 100 6 false)))] [0, 1]
 (rs [o 5 (.mv (.c (.nil 100 6 false)))] [0, 1, 5]
 (.seq (rs [om 8 0, o 9 (le 8), o 10 (.mv (j 0))] [1, 5, 8, 9, 10]
 (.block 0 (.loop xf_tally_turned_answer_Answer_k0 xf_tally_turned_answer_Answer_b0)))
 (rs [om 21 5, om 4 21] [4]
 (.ret [4])))))⟩

def xf_tally_turned_Answer_answer_k0 : List (Nat × Option (Nat × Nat × Bool)) := [(1, none), (5, some (235, 6, false)), (8, some (100, 6, false)), (9, none), (10, none)]
def xf_tally_turned_Answer_answer_b0 : XCode := (rs [o 11 (bl 10 9)] [1, 5, 8, 9, 10, 11]
 (.seq (.cond (.s 11) .skip (.exit 0 [5]))
 (.seq (.block 1 (rs [o 12 (ia 6 8 10), ol 13 6 12, o 7 (.alloc l2), p (t 6 7 13)] [1, 5, 7, 8, 9, 10]
 (.reg [om 14 5, om 15 1, ol 16 6 7, o 17 (.call (.s 15) [(.s 16)]), o 18 (.bsl 235 6 false 1 l2 [(0, 6, (.s 17))]), o 19 (.app 235 6 64 false (.s 14) (.s 18)), om 5 19] none [1, 5, 8, 9, 10])))
 (.reg [o 20 (baj 10 1), om 10 20] none [1, 5, 8, 9, 10]))))
def xf_tally_turned_Answer_answer : XFunc := ⟨none, none, true, 2, [.tmp 4], (rs [o 4 (.mv (.c (.nil 235 6 false)))] [0, 1]
 (rs [o 5 (.mv (.c (.nil 235 6 false)))] [0, 1, 5]
 (.seq (rs [om 8 0, o 9 (le 8), o 10 (.mv (j 0))] [1, 5, 8, 9, 10]
 (.block 0 (.loop xf_tally_turned_Answer_answer_k0 xf_tally_turned_Answer_answer_b0)))
 (rs [om 21 5, om 4 21] [4]
 (.ret [4])))))⟩

def xf_tally_toAnswer : XFunc := ⟨none, none, true, 1, [.cell 2 (some 6)], (rs [o 1 (bx 0), o 2 (.alloc l2)] [1, 2]
 (rs [ol 3 6 1, p (t 6 2 3)] [2]
 (.ret [2])))⟩

def xf_tally_box_answer_prune_k0 : List (Nat × Option (Nat × Nat × Bool)) := [(1, none), (5, some (235, 6, false)), (10, some (235, 6, false)), (11, none), (12, none)]
def xf_tally_box_answer_prune_b0 : XCode := (rs [o 13 (bl 12 11)] [1, 5, 10, 11, 12, 13]
 (.seq (.cond (.s 13) .skip (.exit 0 [5]))
 (.seq (.block 1 (rs [o 14 (ia 6 10 12), ol 15 6 14, o 7 (.alloc l2), p (t 6 7 15)] [1, 5, 7, 10, 11, 12]
 (rs [ol 16 6 7, o 17 (.mkifc 235 (.s 16)), o 18 (.inv [(208, 196), (217, 201), (226, 206), (235, 211)] (.s 17) []), om 8 18] [1, 5, 7, 8, 10, 11, 12]
 (sp (some [(11, 14), (11, 15)]) [am 19 8, a 20 (blj 19 0), am 21 20, d 22 (m 8) 21, d 23 (m 1) 21, d 24 (le 23) 21, d 25 (bh 22 24) 21, a 26 (ko 21 25), am 27 26, d 28 (l 6 7) 27, d 29 (.mkifc 235 (.s 28)) 27, r 30 (.inv [(208, 194), (217, 199), (226, 204), (235, 210)] (.s 29) []) 27, d 31 (m 1) 27, d 32 (m 8) 27, r 33 (ia 2 31 32) 27, r 34 (l 2 33) 27, r 35 (c 126 [30, 34]) 27, r 36 (bhj 35 0) 27, a 37 (ko 27 36)] [1, 5, 7, 10, 11, 12, 37]
 (.cond (.s 37) (.reg [om 38 5, ol 39 6 7, o 40 (.mkifc 235 (.s 39)), o 41 (.inv [(208, 195), (217, 200), (226, 205), (235, 174)] (.s 40) []), o 42 (.bsl 235 6 false 1 l2 [(0, 6, (.s 41))]), o 43 (.app 235 6 64 false (.s 38) (.s 42)), om 5 43] none [1, 5, 10, 11, 12]) .skip)))))
 (.reg [o 44 (baj 12 1), om 12 44] none [1, 5, 10, 11, 12]))))
def xf_tally_box_answer_prune : XFunc := ⟨none, none, true, 2, [.tmp 4], (rs [o 2 (bx 0), o 4 (.mv (.c (.nil 235 6 false)))] [1, 2]
 (rs [o 5 (.mv (.c (.nil 235 6 false)))] [1, 2, 5]
 (.seq (rs [of 9 0 2, o 10 (k 9), o 11 (le 10), o 12 (.mv (j 0))] [1, 5, 10, 11, 12]
 (.block 0 (.loop xf_tally_box_answer_prune_k0 xf_tally_box_answer_prune_b0)))
 (rs [om 45 5, om 4 45] [4]
 (.ret [4])))))⟩

def xf_tally_fromAnswer : XFunc := ⟨none, none, true, 1, [.cell 2 (some 6)], (rs [o 1 (bx 0), o 2 (.alloc l2)] [1, 2]
 (rs [ol 3 6 1, p (t 6 2 3)] [2]
 (.ret [2])))⟩

def xf_core_One : XFunc := ⟨none, none, true, 4, [.cell 8 (some 19), .tmp 9], (rs [o 4 (bx 0), o 5 (bx 1), o 7 (bx 3), o 8 (.alloc l3), o 9 (.mv (j 0))] [2, 4, 5, 7, 8]
 (.seq (rs [ol 12 4 4, ol 13 12 5, o 14 (c 75 [12, 13]), om 10 14] [2, 4, 5, 7, 8, 10]
 (rs [om 15 10, o 16 (nj 15 0)] [2, 4, 5, 7, 8, 10, 16]
 (.cond (.s 16) (rs [o 17 (.build l3 []), om 18 10, p (t 19 8 17), om 9 18] [8, 9]
 (.ret [8, 9])) .skip)))
 (ss [am 19 2, a 20 (bhj 19 0), am 21 20, bb 22 2 21, b 23 (l 4 4) 21, u 24 (c 80 [23]) 21, u 25 (bl 22 24) 21, a 26 (ka 21 25), am 27 26, bb 28 2 27, b 29 (f 0 5) 27, b 30 (k 29) 27, b 31 (n 28 30) 27, a 32 (ka 27 31), am 11 32] [2, 5, 7, 8, 11]
 (.seq (ss [am 33 11, a 34 (nt 33), am 35 34, bb 36 2 35, b 37 (blj 36 7) 35, bb 38 37 35, d 39 (m 2) 38, d 40 (bhj 39 23) 38, b 41 (ko 38 40) 35, a 42 (ka 35 41)] [2, 5, 7, 8, 42]
 (.cond (.s 42) (rs [o 43 (.build l3 []), p (t 19 8 43), o 9 (.mv (j 3))] [8, 9]
 (.ret [8, 9])) .skip))
 (rs [ol 44 12 5, om 45 2, ol 46 18 7, o 47 (c 115 [44, 45, 46]), p (t 19 8 47), o 9 (.mv (j 0))] [8, 9]
 (.ret [8, 9]))))))⟩

def xf_tally_box_answer_put_k0 : List (Nat × Option (Nat × Nat × Bool)) := [(2, none), (3, none), (5, none), (6, none), (19, some (235, 6, false)), (20, none), (21, none)]
def xf_tally_box_answer_put_b0 : XCode := (rs [o 22 (bl 21 20)] [2, 3, 5, 6, 19, 20, 21, 22]
 (.seq (.cond (.s 22) .skip (.exit 0 [2, 3, 5, 6]))
 (.seq (.block 1 (rs [om 23 21, o 24 (ia 6 19 21), ol 25 6 24, o 8 (.alloc l2), om 7 23, p (t 6 8 25)] [2, 3, 5, 6, 7, 8, 19, 20, 21]
 (rp (some [(2, 3)]) [ol 26 6 8, o 27 (.mkifc 235 (.s 26)), o 28 (.inv [(208, 196), (217, 201), (226, 206), (235, 211)] (.s 27) []), ol 29 6 3, o 30 (.mkifc 235 (.s 29)), o 31 (.inv [(208, 196), (217, 201), (226, 206), (235, 211)] (.s 30) []), o 32 (q 28 31)] [2, 3, 5, 6, 7, 19, 20, 21, 32]
 (.cond (.s 32) (rs [om 33 7, om 5 33, o 6 (.mv (.c v))] [2, 3, 5, 6]
 (.exit 0 [2, 3, 5, 6])) .skip))))
 (.reg [o 34 (baj 21 1), om 21 34] none [2, 3, 5, 6, 19, 20, 21]))))
def xf_tally_box_answer_put_k1 : List (Nat × Option (Nat × Nat × Bool)) := [(2, none), (3, none), (5, none), (6, none), (38, some (235, 6, false)), (39, none), (40, none)]
def xf_tally_box_answer_put_b1 : XCode := (rs [o 41 (bl 40 39)] [2, 3, 5, 6, 38, 39, 40, 41]
 (.seq (.cond (.s 41) .skip (.exit 2 [2, 3, 5, 6]))
 (.seq (.block 3 (rs [om 42 40, o 43 (ia 6 38 40), ol 44 6 43, o 10 (.alloc l2), om 9 42, p (t 6 10 44)] [2, 3, 5, 6, 9, 10, 38, 39, 40]
 (rp (some [(2, 3)]) [ol 45 6 10, o 46 (.mkifc 235 (.s 45)), o 47 (.inv [(208, 196), (217, 201), (226, 206), (235, 211)] (.s 46) []), ol 48 6 3, o 49 (.mkifc 235 (.s 48)), o 50 (.inv [(208, 196), (217, 201), (226, 206), (235, 211)] (.s 49) []), o 51 (bg 47 50)] [2, 3, 5, 6, 9, 38, 39, 40, 51]
 (.cond (.s 51) (rs [om 52 9, om 5 52] [2, 3, 5, 6]
 (.exit 2 [2, 3, 5, 6])) .skip))))
 (.reg [o 53 (baj 40 1), om 40 53] none [2, 3, 5, 6, 38, 39, 40]))))
def xf_tally_box_answer_put_k2 : List (Nat × Option (Nat × Nat × Bool)) := [(2, none), (3, none), (5, none), (6, none), (11, some (235, 6, false)), (55, some (235, 6, false)), (56, none), (57, none)]
def xf_tally_box_answer_put_b2 : XCode := (rs [o 58 (bl 57 56)] [2, 3, 5, 6, 11, 55, 56, 57, 58]
 (.seq (.cond (.s 58) .skip (.exit 4 [2, 3, 5, 11]))
 (.seq (.block 5 (rs [om 59 57, o 60 (ia 6 55 57), ol 61 6 60, o 13 (.alloc l2), om 12 59, p (t 6 13 61)] [2, 3, 5, 6, 11, 12, 13, 55, 56, 57]
 (.seq (ss [am 62 12, am 63 5, a 64 (q 62 63), am 65 64, bb 66 6 65, a 67 (ka 65 66)] [2, 3, 5, 6, 11, 12, 13, 55, 56, 57, 67]
 (.cond (.s 67) (rp (some [(2, 3)]) [ol 68 6 3, o 69 (.mkifc 235 (.s 68)), o 70 (.inv [(208, 194), (217, 199), (226, 204), (235, 210)] (.s 69) []), ol 71 6 13, o 72 (.mkifc 235 (.s 71)), o 73 (.inv [(208, 194), (217, 199), (226, 204), (235, 210)] (.s 72) []), o 74 (c 126 [70, 73]), om 14 74] [2, 3, 5, 6, 11, 13, 14, 55, 56, 57]
 (rs [om 75 14, o 76 (bgj 75 0), om 77 76, h 78 (m 14) 77, h 79 (qj 78 0) 77, h 80 (m 79) 77, g 81 (l 6 3) 80, g 82 (.mkifc 235 (.s 81)) 80, g 83 (l 6 13) 80, g 84 (.inv [(208, 193), (217, 198), (226, 203), (235, 209)] (.s 82) [(.s 83)]) 80, h 85 (ka 80 84) 77, o 86 (ko 77 85)] [2, 3, 5, 6, 11, 13, 55, 56, 57, 86]
 (.cond (.s 86) (.reg [ol 87 6 3, p (t 6 13 87)] none [2, 3, 5, 6, 11, 13, 55, 56, 57]) .skip))) (rs [om 88 12, om 89 5, o 90 (q 88 89)] [2, 3, 5, 6, 11, 13, 55, 56, 57, 90]
 (.cond (.s 90) (.reg [om 91 11, ol 92 6 3, o 93 (.mkifc 235 (.s 92)), o 94 (.inv [(208, 195), (217, 200), (226, 205), (235, 174)] (.s 93) []), o 95 (.bsl 235 6 false 1 l2 [(0, 6, (.s 94))]), o 96 (.app 235 6 64 false (.s 91) (.s 95)), om 11 96] none [2, 3, 5, 6, 11, 13, 55, 56, 57]) .skip))))
 (.reg [om 97 11, ol 98 6 13, o 99 (.mkifc 235 (.s 98)), o 100 (.inv [(208, 195), (217, 200), (226, 205), (235, 174)] (.s 99) []), o 101 (.bsl 235 6 false 1 l2 [(0, 6, (.s 100))]), o 102 (.app 235 6 64 false (.s 97) (.s 101)), om 11 102] none [2, 3, 5, 6, 11, 55, 56, 57]))))
 (.reg [o 103 (baj 57 1), om 57 103] none [2, 3, 5, 6, 11, 55, 56, 57]))))
def xf_tally_box_answer_put : XFunc := ⟨none, none, true, 2, [.tmp 4], (rs [o 2 (bx 0), o 3 (bx 1), o 4 (.mv (.c (.nil 235 6 false)))] [2, 3]
 (rs [of 15 0 2, o 16 (k 15), o 17 (le 16), om 5 17, o 6 (.mv (.c w))] [2, 3, 5, 6]
 (.seq (rs [of 18 0 2, o 19 (k 18), o 20 (le 19), o 21 (.mv (j 0))] [2, 3, 5, 6, 19, 20, 21]
 (.block 0 (.loop xf_tally_box_answer_put_k0 xf_tally_box_answer_put_b0)))
 (.seq (rs [om 35 6, o 36 (nt 35)] [2, 3, 5, 6, 36]
 (.cond (.s 36) (rs [of 37 0 2, o 38 (k 37), o 39 (le 38), o 40 (.mv (j 0))] [2, 3, 5, 6, 38, 39, 40]
 (.block 2 (.loop xf_tally_box_answer_put_k1 xf_tally_box_answer_put_b1))) .skip))
 (rs [o 11 (.mv (.c (.nil 235 6 false)))] [2, 3, 5, 6, 11]
 (.seq (rs [of 54 0 2, o 55 (k 54), o 56 (le 55), o 57 (.mv (j 0))] [2, 3, 5, 6, 11, 55, 56, 57]
 (.block 4 (.loop xf_tally_box_answer_put_k2 xf_tally_box_answer_put_b2)))
 (.seq (rs [om 104 5, of 105 0 2, o 106 (k 105), o 107 (le 106), o 108 (q 104 107)] [3, 11, 108]
 (.cond (.s 108) (.reg [om 109 11, ol 110 6 3, o 111 (.mkifc 235 (.s 110)), o 112 (.inv [(208, 195), (217, 200), (226, 205), (235, 174)] (.s 111) []), o 113 (.bsl 235 6 false 1 l2 [(0, 6, (.s 112))]), o 114 (.app 235 6 64 false (.s 109) (.s 113)), om 11 114] none [11]) .skip))
 (rs [om 115 11, om 4 115] [4]
 (.ret [4])))))))))⟩

def xf_tally_answer_fresh : XFunc := ⟨none, none, true, 1, [.cell 2 (some 6)], (rs [o 1 (bx 0), o 2 (.alloc l2)] [1, 2]
 (rs [of 3 5 1, o 4 (k 3), o 5 (.app 50 5 48 true (.c (.nil 50 5 true)) (.s 4)), of 6 5 1, p (t 1 6 5)] [1, 2]
 (rs [ol 7 6 1, p (t 6 2 7)] [2]
 (.ret [2]))))⟩

def xf_ref04_Check : XFunc := ⟨none, none, true, 1, [.tmp 2], (rs [o 1 (bx 0), o 2 (.mv (j 0))] [1]
 (rs [of 7 0 1, o 8 (k 7), o 9 (qj 8 1), om 3 9] [1, 3]
 (rs [of 10 0 1, o 11 (k 10), o 12 (qj 11 2), om 4 12] [1, 3, 4]
 (rs [of 13 0 1, o 14 (k 13), o 15 (qj 14 3), om 5 15] [1, 3, 4, 5]
 (rs [of 16 0 1, o 17 (k 16), o 18 (qj 17 4), om 6 18] [1, 3, 4, 5, 6]
 (.seq (ss [am 19 3, a 20 (nt 19), am 21 20, bb 22 4 21, b 23 (nt 22) 21, a 24 (ka 21 23), am 25 24, bb 26 5 25, b 27 (nt 26) 25, a 28 (ka 25 27), am 29 28, bb 30 6 29, b 31 (nt 30) 29, a 32 (ka 29 31)] [1, 3, 4, 5, 6, 32]
 (.cond (.s 32) (rs [o 2 (.mv (j 40))] [2]
 (.ret [2])) .skip))
 (.seq (ss [am 33 3, am 34 33, d 35 (m 5) 34, a 36 (ko 34 35), am 37 36, b 38 (f 1 1) 37, b 39 (k 38) 37, b 40 (blj 39 0) 37, bb 41 40 37, d 42 (f 1 1) 41, d 43 (k 42) 41, d 44 (bhj 43 1024) 41, b 45 (ko 41 44) 37, a 46 (ka 37 45), am 47 46, d 48 (m 4) 47, d 49 (m 48) 47, d 50 (m 6) 49, d 51 (ko 49 50) 47, d 52 (m 51) 47, b 53 (f 1 1) 52, b 54 (k 53) 52, b 55 (nj 54 0) 52, d 56 (ka 52 55) 47, a 57 (ko 47 56)] [1, 3, 4, 5, 6, 57]
 (.cond (.s 57) (rs [o 2 (.mv (j 41))] [2]
 (.ret [2])) .skip))
 (.seq (ss [am 58 3, am 59 58, d 60 (m 4) 59, a 61 (ko 59 60), am 62 61, b 63 (f 2 1) 62, b 64 (k 63) 62, b 65 (.len true (.s 64)) 62, b 66 (bgj 65 64) 62, a 67 (ka 62 66), am 68 67, d 69 (m 5) 68, d 70 (m 69) 68, d 71 (m 6) 70, d 72 (ko 70 71) 68, d 73 (m 72) 68, b 74 (f 2 1) 73, b 75 (k 74) 73, b 76 (.eqv true false [.s] (.s 75) (.c x)) 73, d 77 (ka 73 76) 68, a 78 (ko 68 77)] [78]
 (.cond (.s 78) (rs [o 2 (.mv (j 42))] [2]
 (.ret [2])) .skip))
 (rs [o 2 (.mv (j 0))] [2]
 (.ret [2]))))))))))⟩

def xf_oplog_joined : XFunc := ⟨none, none, true, 2, [.tmp 4], (rs [o 4 (.mv (.c (.nil 50 5 true)))] [0, 1]
 (rs [om 6 0, o 7 (le 6), om 8 1, o 9 (le 8), o 10 (ba 7 9), o 11 (.mksl 50 5 48 true l10 (.s 10) (.s 10)), om 5 11] [0, 1, 5]
 (rs [om 12 5, om 13 0, o 14 (.cpy 5 (.s 12) (.s 13))] [0, 1, 5]
 (rs [om 15 5, om 16 0, o 17 (le 16), o 18 (.slice 5 (.s 15) (some (.s 17)) none), om 19 1, o 20 (.cpy 5 (.s 18) (.s 19))] [5]
 (rs [om 21 5, om 4 21] [4]
 (.ret [4]))))))⟩

def xf_oplog_Each_1_k0 : List (Nat × Option (Nat × Nat × Bool)) := [(0, none), (2, none), (4, none)]
def xf_oplog_Each_1_b0 : XCode := (.seq (rs [om 8 4, o 9 (k 2), o 10 (le 9), o 11 (bl 8 10)] [0, 2, 4, 11]
 (.cond (.s 11) .skip (.exit 0 [])))
 (.seq (.block 1 (rs [om 14 0, om 15 4, o 16 (baj 15 1), o 17 (k 2), om 18 4, o 19 (ia 5 17 18), ol 20 5 19, o 21 (.call (.s 14) [(.s 16), (.s 20)]), o 22 (nt 21)] [0, 2, 4, 22]
 (.cond (.s 22) (.ret []) .skip)))
 (.reg [om 12 4, o 13 (baj 12 1), om 4 13] none [0, 2, 4])))
def xf_oplog_Each_1 : XFunc := ⟨none, none, false, 1, [], (rs [o 5 (k 1), o 6 (.mm true (.s 5) (j 1)), o 7 (bsj 6 1), om 4 7] [0, 2, 4]
 (.block 0 (.loop xf_oplog_Each_1_k0 xf_oplog_Each_1_b0)))⟩

def xf_tally_ack_above : XFunc := ⟨none, none, true, 2, [.tmp 4], (rs [o 2 (bx 0), o 3 (bx 1), o 4 (.mv (.c w))] [2, 3]
 (rs [of 5 3 2, o 6 (k 5), of 7 3 3, o 8 (k 7), o 9 (bg 6 8), om 4 9] [4]
 (.ret [4])))⟩

def xf_tally_ack_draw : XFunc := ⟨none, none, true, 1, [.cell 2 (some 2)], (rs [o 1 (bx 0), o 2 (.alloc [y, y])] [1, 2]
 (rs [of 3 1 1, ol 4 2 3, p (t 2 2 4)] [2]
 (.ret [2])))⟩

def xf_tally_ack_fresh : XFunc := ⟨none, none, true, 1, [.cell 2 (some 4)], (rs [o 1 (bx 0), o 2 (.alloc l9)] [1, 2]
 (rs [ol 3 4 1, p (t 4 2 3)] [2]
 (.ret [2])))⟩

def xf_tally_ack_node : XFunc := ⟨none, none, true, 1, [.tmp 2], (rs [o 1 (bx 0), o 2 (.mv (j 0))] [1]
 (rs [of 3 0 1, o 4 (k 3), om 2 4] [2]
 (.ret [2])))⟩

def xf_tally_mark_above : XFunc := ⟨none, none, true, 2, [.tmp 4], (rs [o 2 (bx 0), o 3 (bx 1), o 4 (.mv (.c w))] []
 (rs [o 4 (.mv (.c w))] [4]
 (.ret [4])))⟩

def xf_tally_mark_draw : XFunc := ⟨none, none, true, 1, [.cell 2 (some 2)], (rs [o 1 (bx 0), o 2 (.alloc [y, y])] [1, 2]
 (rs [of 3 1 1, ol 4 2 3, p (t 2 2 4)] [2]
 (.ret [2])))⟩

def xf_tally_mark_fresh : XFunc := ⟨none, none, true, 1, [.cell 2 (some 3)], (rs [o 1 (bx 0), o 2 (.alloc l7)] [1, 2]
 (rs [ol 3 3 1, p (t 3 2 3)] [2]
 (.ret [2])))⟩

def xf_tally_mark_node : XFunc := ⟨none, none, true, 1, [.tmp 2], (rs [o 1 (bx 0), o 2 (.mv (j 0))] [1]
 (rs [of 3 0 1, o 4 (k 3), om 2 4] [2]
 (.ret [2])))⟩

def xf_tally_ballot_above : XFunc := ⟨none, none, true, 2, [.tmp 4], (rs [o 2 (bx 0), o 3 (bx 1), o 4 (.mv (.c w))] [2, 3]
 (.seq (rs [of 5 3 2, o 6 (k 5), of 7 3 3, o 8 (k 7), o 9 (n 6 8)] [2, 3, 9]
 (.cond (.s 9) (rs [of 10 3 2, o 11 (k 10), of 12 3 3, o 13 (k 12), o 14 (bg 11 13), om 4 14] [4]
 (.ret [4])) .skip))
 (rs [of 15 5 2, o 16 (k 15), of 17 4 2, o 18 (k 17), of 19 5 3, o 20 (k 19), of 21 4 3, o 22 (k 21), o 23 (c 207 [16, 18, 20, 22]), om 4 23] [4]
 (.ret [4]))))⟩

def xf_tally_ballot_draw : XFunc := ⟨none, none, true, 1, [.cell 2 (some 2)], (rs [o 1 (bx 0), o 2 (.alloc [y, y])] [1, 2]
 (rs [of 3 1 1, ol 4 2 3, p (t 2 2 4)] [2]
 (.ret [2])))⟩

def xf_tally_ballot_fresh : XFunc := ⟨none, none, true, 1, [.cell 2 (some 6)], (rs [o 1 (bx 0), o 2 (.alloc l2)] [1, 2]
 (rs [of 3 5 1, o 4 (k 3), o 5 (.app 50 5 48 true (.c (.nil 50 5 true)) (.s 4)), of 6 5 1, p (t 1 6 5)] [1, 2]
 (rs [ol 7 6 1, p (t 6 2 7)] [2]
 (.ret [2]))))⟩

def xf_tally_ballot_node : XFunc := ⟨none, none, true, 1, [.tmp 2], (rs [o 1 (bx 0), o 2 (.mv (j 0))] [1]
 (rs [of 3 0 1, o 4 (k 3), om 2 4] [2]
 (.ret [2])))⟩

def xf_tally_longer : XFunc := ⟨none, none, true, 4, [.tmp 8], (rs [o 8 (.mv (.c w))] [0, 1, 2, 3]
 (ss [am 9 0, a 10 (le 9), am 11 2, a 12 (le 11), a 13 (bg 10 12), am 14 13, d 15 (m 0) 14, d 16 (le 15) 14, d 17 (m 2) 14, d 18 (le 17) 14, d 19 (q 16 18) 14, d 20 (m 19) 14, bb 21 1 20, bb 22 3 20, b 23 (bg 21 22) 20, d 24 (ka 20 23) 14, a 25 (ko 14 24), am 8 25] [8]
 (.ret [8])))⟩

def xf_tally_answer_above : XFunc := ⟨none, none, true, 2, [.tmp 4], (rs [o 2 (bx 0), o 3 (bx 1), o 4 (.mv (.c w))] [2, 3]
 (.seq (rs [of 5 3 2, o 6 (k 5), of 7 3 3, o 8 (k 7), o 9 (n 6 8)] [2, 3, 9]
 (.cond (.s 9) (rs [of 10 3 2, o 11 (k 10), of 12 3 3, o 13 (k 12), o 14 (bg 11 13), om 4 14] [4]
 (.ret [4])) .skip))
 (rs [of 15 5 2, o 16 (k 15), of 17 4 2, o 18 (k 17), of 19 5 3, o 20 (k 19), of 21 4 3, o 22 (k 21), o 23 (c 207 [16, 18, 20, 22]), om 4 23] [4]
 (.ret [4]))))⟩

def xf_tally_answer_draw : XFunc := ⟨none, none, true, 1, [.cell 2 (some 2)], (rs [o 1 (bx 0), o 2 (.alloc [y, y])] [1, 2]
 (rs [of 3 1 1, ol 4 2 3, p (t 2 2 4)] [2]
 (.ret [2])))⟩

def xf_tally_answer_node : XFunc := ⟨none, none, true, 1, [.tmp 2], (rs [o 1 (bx 0), o 2 (.mv (j 0))] [1]
 (rs [of 3 0 1, o 4 (k 3), om 2 4] [2]
 (.ret [2])))⟩

def xf_gosem_cut_vars : XFunc := ⟨none, none, true, 0, [], (.reg [o 0 (.build l6 [(6, 1, (.c v))]), o 1 (.build l6 [(0, 1, (.c v)), (1, 1, (.c v)), (3, 1, (.c v)), (6, 1, (.c v)), (7, 1, (.c v))]), o 2 (.build l6 [(0, 1, (.c v)), (1, 1, (.c v)), (3, 1, (.c v)), (4, 1, (.c v)), (6, 1, (.c v)), (9, 1, (.c v))]), o 3 (.build l6 [(0, 1, (.c v)), (1, 1, (.c v)), (3, 1, (.c v)), (9, 1, (.c v))]), o 4 (.build l6 [(0, 1, (.c v)), (1, 1, (.c v)), (4, 1, (.c v)), (9, 1, (.c v))]), o 5 (.build l6 [(0, 1, (.c v)), (1, 1, (.c v)), (9, 1, (.c v))]), o 6 (.build l6 [(0, 1, (.c v)), (1, 1, (.c v)), (2, 1, (.c v)), (4, 1, (.c v)), (8, 1, (.c v)), (9, 1, (.c v))]), o 7 (.build l6 [(0, 1, (.c v)), (1, 1, (.c v)), (4, 1, (.c v)), (8, 1, (.c v)), (9, 1, (.c v))]), o 8 (.build l6 [(0, 1, (.c v)), (5, 1, (.c v)), (9, 1, (.c v))]), o 9 (.build l6 [(0, 1, (.c v)), (1, 1, (.c v)), (4, 1, (.c v)), (5, 1, (.c v)), (8, 1, (.c v)), (9, 1, (.c v))]), o 10 (.build l6 [(0, 1, (.c v)), (1, 1, (.c v)), (9, 1, (.c v))]), o 11 (.build l6 [(0, 1, (.c v)), (1, 1, (.c v)), (4, 1, (.c v)), (8, 1, (.c v)), (9, 1, (.c v))]), o 12 (.build l6 [(3, 1, (.c v)), (6, 1, (.c v))]), o 13 (.build l6 [(0, 1, (.c v)), (1, 1, (.c v)), (4, 1, (.c v)), (6, 1, (.c v)), (7, 1, (.c v))]), o 14 (.build [w, w, w, w, w, w, w, w, w, w, w, w, w, w, w, w, w, w, w, w, w, w, w, w, w, w, w, w, w, w, w, w, w, w, w, w, w, w, w, w, w, w, w, w, w, w, w, w, w, w, w, w, w, w, w, w, w, w, w, w, w, w, w, w, w, w, w, w, w, w, w, w, w, w, w, w, w, w, w, w, w, w, w, w, w, w, w, w, w, w, w, w, w, w, w, w, w, w, w, w, w, w, w, w, w, w, w, w, w, w, w, w, w, w, w, w, w, w, w, w, w, w, w, w, w, w, w, w, w, w, w, w, w, w, w, w, w, w, w, w, w, w, w, w, w, w, w, w, w, w] [(10, 10, (.s 0)), (20, 10, (.s 1)), (30, 10, (.s 2)), (40, 10, (.s 3)), (50, 10, (.s 4)), (60, 10, (.s 5)), (70, 10, (.s 6)), (80, 10, (.s 7)), (90, 10, (.s 8)), (100, 10, (.s 9)), (110, 10, (.s 10)), (120, 10, (.s 11)), (130, 10, (.s 12)), (140, 10, (.s 13))]), p (.store 150 (.c (.dptr usesD)) (.s 14))] none [])⟩
theorem r_message_asks : progT Tryz.prog 120 = some xf_message_asks.plain := by kernel_rfl
theorem r_message_answers : progT Tryz.prog 121 = some xf_message_answers.plain := by kernel_rfl
theorem r_message_reads : progT Tryz.prog 122 = some xf_message_reads.plain := by kernel_rfl
theorem r_message_Between : progT Tryz.prog 124 = some xf_message_Between.plain := by kernel_rfl
theorem r_vector_Over : progT Tryz.prog 125 = some xf_vector_Over.plain := by kernel_rfl
theorem r_nonce_Compare : progT Tryz.prog 126 = some xf_nonce_Compare.plain := by kernel_rfl
theorem r_vector_Merge : progT Tryz.prog 127 = some xf_vector_Merge.plain := by kernel_rfl
theorem r_tally_PruneAcks : progT Tryz.prog 128 = some xf_tally_PruneAcks.plain := by kernel_rfl
theorem r_tally_PruneMarks : progT Tryz.prog 129 = some xf_tally_PruneMarks.plain := by kernel_rfl
theorem r_tally_PruneBallots : progT Tryz.prog 130 = some xf_tally_PruneBallots.plain := by kernel_rfl
theorem r_tally_PruneAnswers : progT Tryz.prog 131 = some xf_tally_PruneAnswers.plain := by kernel_rfl
theorem r_core_Primary : progT Tryz.prog 132 = some xf_core_Primary.plain := by kernel_rfl
theorem r_rejoin_part_one : progT Tryz.prog 133 = some xf_rejoin_part_one.plain := by kernel_rfl
theorem r_tally_PutAnswer : progT Tryz.prog 134 = some xf_tally_PutAnswer.plain := by kernel_rfl
theorem r_tally_Settle : progT Tryz.prog 135 = some xf_tally_Settle.plain := by kernel_rfl
theorem r_rejoin_part_take : progT Tryz.prog 136 = some xf_rejoin_part_take.plain := by kernel_rfl
theorem r_ref09_voters : progT Tryz.prog 137 = some xf_ref09_voters.plain := by kernel_rfl
theorem r_ref05_Entry : progT Tryz.prog 138 = some xf_ref05_Entry.plain := by kernel_rfl
theorem r_core_voters : progT Tryz.prog 139 = some xf_core_voters.plain := by kernel_rfl
theorem r_message_short : progT Tryz.prog 146 = some xf_message_short.plain := by kernel_rfl
theorem r_ledger_Check : progT Tryz.prog 147 = some xf_ledger_Check.plain := by kernel_rfl
theorem r_oplog_Each : progT Tryz.prog 148 = some xf_oplog_Each.plain := by kernel_rfl
theorem r_oplog_fits : progT Tryz.prog 149 = some xf_oplog_fits.plain := by kernel_rfl
theorem r_vector_speaks : progT Tryz.prog 150 = some xf_vector_speaks.plain := by kernel_rfl
theorem r_vector_fits : progT Tryz.prog 151 = some xf_vector_fits.plain := by kernel_rfl
theorem r_tally_turned_ack_Ack : progT Tryz.prog 152 = some xf_tally_turned_ack_Ack.plain := by kernel_rfl
theorem r_tally_turned_Ack_ack : progT Tryz.prog 153 = some xf_tally_turned_Ack_ack.plain := by kernel_rfl
theorem r_tally_toAck : progT Tryz.prog 154 = some xf_tally_toAck.plain := by kernel_rfl
theorem r_tally_box_ack_prune : progT Tryz.prog 155 = some xf_tally_box_ack_prune.plain := by kernel_rfl
theorem r_tally_fromAck : progT Tryz.prog 156 = some xf_tally_fromAck.plain := by kernel_rfl
theorem r_tally_turned_mark_Mark : progT Tryz.prog 157 = some xf_tally_turned_mark_Mark.plain := by kernel_rfl
theorem r_tally_turned_Mark_mark : progT Tryz.prog 158 = some xf_tally_turned_Mark_mark.plain := by kernel_rfl
theorem r_tally_toMark : progT Tryz.prog 159 = some xf_tally_toMark.plain := by kernel_rfl
theorem r_tally_box_mark_prune : progT Tryz.prog 160 = some xf_tally_box_mark_prune.plain := by kernel_rfl
theorem r_tally_fromMark : progT Tryz.prog 161 = some xf_tally_fromMark.plain := by kernel_rfl
theorem r_tally_turned_ballot_Ballot : progT Tryz.prog 162 = some xf_tally_turned_ballot_Ballot.plain := by kernel_rfl
theorem r_tally_turned_Ballot_ballot : progT Tryz.prog 163 = some xf_tally_turned_Ballot_ballot.plain := by kernel_rfl
theorem r_tally_toBallot : progT Tryz.prog 164 = some xf_tally_toBallot.plain := by kernel_rfl
theorem r_tally_box_ballot_prune : progT Tryz.prog 165 = some xf_tally_box_ballot_prune.plain := by kernel_rfl
theorem r_tally_fromBallot : progT Tryz.prog 166 = some xf_tally_fromBallot.plain := by kernel_rfl
theorem r_tally_turned_answer_Answer : progT Tryz.prog 167 = some xf_tally_turned_answer_Answer.plain := by kernel_rfl
theorem r_tally_turned_Answer_answer : progT Tryz.prog 168 = some xf_tally_turned_Answer_answer.plain := by kernel_rfl
theorem r_tally_toAnswer : progT Tryz.prog 169 = some xf_tally_toAnswer.plain := by kernel_rfl
theorem r_tally_box_answer_prune : progT Tryz.prog 170 = some xf_tally_box_answer_prune.plain := by kernel_rfl
theorem r_tally_fromAnswer : progT Tryz.prog 171 = some xf_tally_fromAnswer.plain := by kernel_rfl
theorem r_core_One : progT Tryz.prog 172 = some xf_core_One.plain := by kernel_rfl
theorem r_tally_box_answer_put : progT Tryz.prog 173 = some xf_tally_box_answer_put.plain := by kernel_rfl
theorem r_tally_answer_fresh : progT Tryz.prog 174 = some xf_tally_answer_fresh.plain := by kernel_rfl
theorem r_ref04_Check : progT Tryz.prog 175 = some xf_ref04_Check.plain := by kernel_rfl
theorem r_oplog_joined : progT Tryz.prog 176 = some xf_oplog_joined.plain := by kernel_rfl
theorem r_oplog_Each_1 : progT Tryz.prog 177 = some xf_oplog_Each_1.plain := by kernel_rfl
theorem r_tally_ack_above : progT Tryz.prog 193 = some xf_tally_ack_above.plain := by kernel_rfl
theorem r_tally_ack_draw : progT Tryz.prog 194 = some xf_tally_ack_draw.plain := by kernel_rfl
theorem r_tally_ack_fresh : progT Tryz.prog 195 = some xf_tally_ack_fresh.plain := by kernel_rfl
theorem r_tally_ack_node : progT Tryz.prog 196 = some xf_tally_ack_node.plain := by kernel_rfl
theorem r_tally_mark_above : progT Tryz.prog 198 = some xf_tally_mark_above.plain := by kernel_rfl
theorem r_tally_mark_draw : progT Tryz.prog 199 = some xf_tally_mark_draw.plain := by kernel_rfl
theorem r_tally_mark_fresh : progT Tryz.prog 200 = some xf_tally_mark_fresh.plain := by kernel_rfl
theorem r_tally_mark_node : progT Tryz.prog 201 = some xf_tally_mark_node.plain := by kernel_rfl
theorem r_tally_ballot_above : progT Tryz.prog 203 = some xf_tally_ballot_above.plain := by kernel_rfl
theorem r_tally_ballot_draw : progT Tryz.prog 204 = some xf_tally_ballot_draw.plain := by kernel_rfl
theorem r_tally_ballot_fresh : progT Tryz.prog 205 = some xf_tally_ballot_fresh.plain := by kernel_rfl
theorem r_tally_ballot_node : progT Tryz.prog 206 = some xf_tally_ballot_node.plain := by kernel_rfl
theorem r_tally_longer : progT Tryz.prog 207 = some xf_tally_longer.plain := by kernel_rfl
theorem r_tally_answer_above : progT Tryz.prog 209 = some xf_tally_answer_above.plain := by kernel_rfl
theorem r_tally_answer_draw : progT Tryz.prog 210 = some xf_tally_answer_draw.plain := by kernel_rfl
theorem r_tally_answer_node : progT Tryz.prog 211 = some xf_tally_answer_node.plain := by kernel_rfl
theorem r_gosem_cut_vars : progT Tryz.prog 217 = some xf_gosem_cut_vars.plain := by kernel_rfl

end Go.Ax
