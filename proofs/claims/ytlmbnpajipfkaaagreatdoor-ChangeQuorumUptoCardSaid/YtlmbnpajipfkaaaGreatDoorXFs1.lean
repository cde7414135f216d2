/-
  The functions of this seat as resolved code, and that the program resolves to them (part 2).
-/
import Derived.Test.YtlmbnpajipfkaaaGreatDoorXComp
import Derived.Test.YtlmbnpajipfkaaaGreatDoorXFn
import Derived.Test.YtlmbnpajipfkaaaGreatDoorXG
import Derived.Test.YtlmbnpajipfkaaaGreatDoorXP
import Derived.Test.YtlmbnpajipfkaaaGreatDoorProg
import Derived.KernelRfl
namespace Go.Ax
set_option linter.all false
open Go.Proofs P

def xf_message_numbers : XFunc := ⟨none, true, 2, [.tmp 4], (rs [o 2 (bx 0), o 3 (bx 1), o 4 (.mv (.c w))] [2, 3]
 (rs [of 7 0 3, o 8 (k 7), o 9 (.aadr 10 15 (.c (.dptr usesD)) (.s 8)), ol 10 10 9, o 5 (.alloc l5), p (t 10 5 10)] [2, 3, 5]
 (rs [of 11 0 2, o 12 (k 11), o 13 (.bin .mul (j 2) (.s 12)), o 14 (baj 13 1), om 6 14] [2, 3, 5, 6]
 (.seq (ss [a 15 (f 1 3), a 16 (k 15), a 17 (blj 16 0), am 18 17, d 19 (f 1 3) 18, d 20 (k 19) 18, d 21 (m 6) 18, d 22 (bh 20 21) 18, a 23 (ko 18 22), am 24 23, d 25 (f 2 3) 24, d 26 (k 25) 24, d 27 (blj 26 0) 24, a 28 (ko 24 27), am 29 28, d 30 (f 2 3) 29, d 31 (k 30) 29, d 32 (bgj 31 4294967296) 29, a 33 (ko 29 32), am 34 33, d 35 (f 11 3) 34, d 36 (k 35) 34, d 37 (blj 36 0) 34, a 38 (ko 34 37), am 39 38, d 40 (f 11 3) 39, d 41 (k 40) 39, d 42 (f 1 2) 39, d 43 (k 42) 39, d 44 (bg 41 43) 39, a 45 (ko 39 44), am 46 45, d 47 (f 12 3) 46, d 48 (k 47) 46, d 49 (blj 48 0) 46, a 50 (ko 46 49), am 51 50, d 52 (f 13 3) 51, d 53 (k 52) 51, d 54 (blj 53 0) 51, a 55 (ko 51 54)] [2, 3, 5, 6, 55]
 (.cond (.s 55) (rs [o 4 (.mv (.c w))] [4]
 (.ret [4])) .skip))
 (.seq (rs [of 56 0 3, o 57 (k 56)] [2, 3, 5, 6, 57]
 (.block 0 (.seq (.block 5 (.seq (.block 4 (.seq (.block 3 (.seq (.block 2 (.seq (.block 1 (.seq (.seq (rs [o 59 (qj 57 3), om 58 59] [2, 3, 5, 6, 57, 58]
 (.cond (.s 58) (.exit 1 [2, 3, 6]) .skip))
 (.seq (rs [o 61 (qj 57 5), om 60 61] [2, 3, 5, 6, 57, 60]
 (.cond (.s 60) (.exit 2 [2, 3, 6]) .skip))
 (.seq (rs [o 63 (qj 57 14), om 62 63] [2, 3, 5, 6, 57, 62]
 (.cond (.s 62) (.exit 3 [2, 3]) .skip))
 (.seq (rs [o 65 (qj 57 8), om 64 65] [3, 5, 6, 57, 64]
 (.cond (.s 64) (.exit 4 [3, 5, 6]) .skip))
 (.seq (rs [o 67 (qj 57 6), om 66 67] [3, 5, 57, 66]
 (.cond (.s 66) .skip (.reg [o 68 (qj 57 7), om 66 68] none [3, 5, 66])))
 (.cond (.s 66) (.exit 5 [3, 5]) .skip))))))
 (.exit 0 [3, 5])))
 (rs [of 69 11 3, o 70 (k 69), o 71 (blj 70 1)] [2, 3, 6, 71]
 (.cond (.s 71) (rs [o 4 (.mv (.c w))] [4]
 (.ret [4])) .skip))))
 (.seq (sp (some []) [a 72 (f 1 3), a 73 (k 72), a 74 (f 2 3), a 75 (k 74), am 76 6, a 77 (.bin .rem (.s 75) (.s 76)), a 78 (q 73 77), am 79 78, b 80 (f 12 3) 79, b 81 (k 80) 79, b 82 (f 1 2) 79, b 83 (k 82) 79, b 84 (bm 81 83) 79, a 85 (ka 79 84), am 4 85] [4]
 (.ret [4]))
 (.exit 0 [3, 5]))))
 (.seq (rs [of 86 12 3, o 87 (k 86), of 88 1 2, o 89 (k 88), o 90 (bm 87 89), om 4 90] [4]
 (.ret [4]))
 (.exit 0 [3, 5]))))
 (rp (some []) [of 91 1 3, o 92 (k 91), of 93 2 3, o 94 (k 93), om 95 6, o 96 (.bin .rem (.s 94) (.s 95)), o 97 (n 92 96)] [3, 5, 97]
 (.cond (.s 97) (rs [o 4 (.mv (.c w))] [4]
 (.ret [4])) .skip))))
 (.seq (rs [of 98 2 3, o 99 (k 98), o 100 (blj 99 1)] [3, 5, 100]
 (.cond (.s 100) (rs [o 4 (.mv (.c w))] [4]
 (.ret [4])) .skip))
 (.exit 0 [3, 5])))))
 (ss [a 101 (.aadr 1 10 (.s 5) (j 2)), a 102 (k 101), a 103 (nt 102), am 104 103, d 105 (f 13 3) 104, d 106 (k 105) 104, d 107 (f 2 3) 104, d 108 (k 107) 104, d 109 (bl 106 108) 104, a 110 (ko 104 109), am 111 110, b 112 (.aadr 1 10 (.s 5) (j 8)) 111, b 113 (k 112) 111, b 114 (nt 113) 111, bb 115 114 111, d 116 (f 12 3) 115, d 117 (k 116) 115, d 118 (f 16 3) 115, d 119 (k 118) 115, d 120 (le 119) 115, d 121 (bm 117 120) 115, b 122 (ko 115 121) 111, a 123 (ka 111 122), am 4 123] [4]
 (.ret [4])))))))⟩

def xf_message_asks : XFunc := ⟨none, true, 2, [.tmp 4], (rs [o 3 (bx 1), o 4 (.mv (.c w))] [0, 3]
 (.seq (ss [a 5 (f 0 3), a 6 (k 5), a 7 (blj 6 0), am 8 7, d 9 (f 0 3) 8, d 10 (k 9) 8, d 11 (bhj 10 16) 8, a 12 (ko 8 11), am 13 12, d 14 (f 1 3) 13, d 15 (k 14) 13, d 16 (blj 15 1) 13, a 17 (ko 13 16)] [0, 3, 17]
 (.cond (.s 17) (rs [o 4 (.mv (.c w))] [4]
 (.ret [4])) .skip))
 (.seq (rs [om 18 0, o 19 (c 81 [18])] [0, 3, 19]
 (.cond (.s 19) (rs [of 20 2 3, ol 21 3 20, o 22 (.build l10 []), o 23 (.eqv false true [.i, .i, .s] (.s 21) (.s 22)), om 4 23] [4]
 (.ret [4])) .skip))
 (.seq (ss [am 24 0, a 25 (qj 24 13), am 26 25, b 27 (f 2 3) 26, b 28 (f 0 27) 26, b 29 (k 28) 26, b 30 (nj 29 3) 26, a 31 (ka 26 30), am 32 31, b 33 (f 2 3) 32, b 34 (f 0 33) 32, b 35 (k 34) 32, b 36 (nj 35 4) 32, a 37 (ka 32 36)] [3, 37]
 (.cond (.s 37) (rs [o 4 (.mv (.c w))] [4]
 (.ret [4])) .skip))
 (rs [of 38 2 3, ol 39 3 38, o 40 (c 82 [39]), o 41 (qj 40 0), om 4 41] [4]
 (.ret [4]))))))⟩

def xf_message_answers : XFunc := ⟨none, true, 1, [.tmp 2], (rs [o 1 (bx 0), o 2 (.mv (.c w))] [1]
 (ss [a 4 (f 1 1), a 5 (k 4), a 6 (bhj 5 0), am 7 6, b 8 (f 1 1) 7, b 9 (k 8) 7, b 10 (blj 9 1024) 7, a 11 (ka 7 10), am 3 11] [1, 3]
 (.seq (rs [of 12 0 1, o 13 (k 12)] [1, 3, 13]
 (.block 0 (.seq (rs [o 15 (qj 13 1), om 14 15] [1, 3, 13, 14]
 (.cond (.s 14) .skip (rs [o 16 (qj 13 2), om 14 16] [1, 3, 13, 14]
 (.cond (.s 14) .skip (.reg [o 17 (qj 13 4), om 14 17] none [1, 3, 13, 14])))))
 (.cond (.s 14) (ss [am 18 3, am 19 18, b 20 (f 2 1) 19, b 21 (k 20) 19, b 22 (.len true (.s 21)) 19, b 23 (bmj 22 64) 19, a 24 (ka 19 23), am 2 24] [2]
 (.ret [2])) (rs [o 26 (qj 13 5), om 25 26] [1, 3, 13, 25]
 (.cond (.s 25) (ss [am 27 3, am 28 27, b 29 (f 2 1) 28, b 30 (k 29) 28, b 31 (.eqv false false [.s] (.s 30) (.c x)) 28, a 32 (ka 28 31), am 2 32] [2]
 (.ret [2])) (rs [o 34 (qj 13 6), om 33 34] [1, 13, 33]
 (.cond (.s 33) (ss [a 35 (f 1 1), a 36 (k 35), a 37 (bhj 36 0), am 38 37, b 39 (f 1 1) 38, b 40 (k 39) 38, b 41 (bmj 40 1024) 38, a 42 (ka 38 41), am 43 42, b 44 (f 2 1) 43, b 45 (k 44) 43, b 46 (.eqv false false [.s] (.s 45) (.c x)) 43, a 47 (ka 43 46), am 2 47] [2]
 (.ret [2])) (.seq (rs [o 49 (qj 13 3), om 48 49] [1, 13, 48]
 (.cond (.s 48) .skip (.reg [o 50 (qj 13 7), om 48 50] none [1, 48])))
 (.cond (.s 48) (ss [a 51 (f 1 1), a 52 (k 51), a 53 (qj 52 0), am 54 53, b 55 (f 2 1) 54, b 56 (k 55) 54, b 57 (.eqv false false [.s] (.s 56) (.c x)) 54, a 58 (ka 54 57), am 2 58] [2]
 (.ret [2])) .skip))))))))))
 (rs [o 2 (.mv (.c w))] [2]
 (.ret [2])))))⟩

def xf_message_reads : XFunc := ⟨none, true, 1, [.tmp 2], (rs [o 1 (bx 0), o 2 (.mv (.c w))] [1]
 (.seq (rs [of 3 0 1, o 4 (k 3)] [1, 4]
 (.block 0 (rs [o 6 (qj 4 14), om 5 6] [1, 4, 5]
 (.cond (.s 5) (ss [a 7 (f 8 1), a 8 (f 0 7), a 9 (k 8), a 10 (qj 9 4), am 11 10, d 12 (f 8 1) 11, d 13 (f 0 12) 11, d 14 (k 13) 11, d 15 (qj 14 5) 11, a 16 (ko 11 15), am 17 16, d 18 (f 8 1) 17, d 19 (f 0 18) 17, d 20 (k 19) 17, d 21 (qj 20 6) 17, a 22 (ko 17 21), am 2 22] [2]
 (.ret [2])) (rs [o 24 (qj 4 2), om 23 24] [1, 23]
 (.cond (.s 23) (rs [of 25 11 1, o 26 (k 25), o 27 (qj 26 0), of 28 8 1, of 29 0 28, o 30 (k 29), o 31 (qj 30 7), o 32 (.eqv false false [.b] (.s 27) (.s 31)), om 2 32] [2]
 (.ret [2])) .skip))))))
 (rs [o 2 (.mv (.c v))] [2]
 (.ret [2]))))⟩

def xf_message_Between : XFunc := ⟨none, true, 1, [.tmp 2], (rs [o 2 (.mv (.c w))] [0]
 (ss [am 3 0, a 4 (bhj 3 3), am 5 4, bb 6 0 5, b 7 (bmj 6 12) 5, a 8 (ka 5 7), am 2 8] [2]
 (.ret [2])))⟩

def xf_vector_Over : XFunc := ⟨none, true, 2, [.tmp 4], (rs [o 3 (bx 1), o 4 (.mv (.c w))] [0, 3]
 (sp (some []) [a 5 (l 2 3), a 6 (c 85 [5]), am 7 6, bb 8 0 7, b 9 (le 8) 7, b 10 (f 1 3) 7, b 11 (k 10) 7, b 12 (le 11) 7, b 13 (q 9 12) 7, a 14 (ka 7 13), am 15 14, bb 16 0 15, b 17 (f 0 3) 15, b 18 (k 17) 15, u 19 (ia 2 16 18) 15, u 20 (l 2 19) 15, b 21 (f 1 3) 15, b 22 (k 21) 15, b 23 (f 0 3) 15, b 24 (k 23) 15, u 25 (ia 2 22 24) 15, u 26 (l 2 25) 15, u 27 (c 60 [20, 26]) 15, u 28 (bgj 27 0) 15, a 29 (ka 15 28), am 4 29] [4]
 (.ret [4])))⟩

def xf_nonce_Compare : XFunc := ⟨none, true, 2, [.tmp 4], (rs [o 2 (bx 0), o 3 (bx 1), o 4 (.mv (j 0))] [2, 3]
 (.seq (.block 0 (rs [ol 6 2 2, ol 7 2 3, o 8 (.eqv false true [.i, .i] (.s 6) (.s 7)), om 5 8] [2, 3, 5]
 (.cond (.s 5) (rs [o 4 (.mv (j 0))] [4]
 (.ret [4])) (.seq (rs [of 10 0 2, o 11 (k 10), of 12 0 3, o 13 (k 12), o 14 (bl 11 13), om 9 14] [2, 3, 9]
 (.cond (.s 9) .skip (.sreg [a 15 (f 0 2), a 16 (k 15), a 17 (f 0 3), a 18 (k 17), a 19 (q 16 18), am 20 19, b 21 (f 1 2) 20, b 22 (k 21) 20, b 23 (f 1 3) 20, b 24 (k 23) 20, b 25 (bl 22 24) 20, a 26 (ka 20 25), am 9 26] none [9])))
 (.cond (.s 9) (rs [o 4 (.mv (j (-1)))] [4]
 (.ret [4])) .skip)))))
 (rs [o 4 (.mv (j 1))] [4]
 (.ret [4]))))⟩

def xf_vector_Merge_k0 : List (Nat × Option (Nat × Nat × Bool)) := [(0, none), (14, some (30, 1, false)), (15, none), (16, none)]
def xf_vector_Merge_b0 : XCode := (rs [o 17 (bl 16 15)] [0, 14, 15, 16, 17]
 (.seq (.cond (.s 17) .skip (.exit 0 [0]))
 (.seq (.block 1 (rs [o 18 (ia 1 14 16), o 19 (k 18), om 5 19] [0, 5, 14, 15, 16]
 (ss [am 20 5, a 21 (c 86 [20]), a 22 (nt 21), am 23 22, d 24 (m 5) 23, d 25 (le 24) 23, d 26 (m 0) 23, r 27 (.iadr 1 (.s 26) (j 0)) 23, r 28 (k 27) 23, r 29 (le 28) 23, r 30 (n 25 29) 23, a 31 (ko 23 30)] [0, 14, 15, 16, 31]
 (.cond (.s 31) (rs [o 2 (.mv (.c (.nil 55 2 true))), o 3 (.mv (j 30))] [2, 3]
 (.ret [2, 3])) .skip))))
 (.reg [o 32 (baj 16 1), om 16 32] none [0, 14, 15, 16]))))
def xf_vector_Merge_k2 : List (Nat × Option (Nat × Nat × Bool)) := [(6, some (55, 2, true)), (38, some (30, 1, false)), (39, none), (40, none), (44, some (55, 2, true)), (45, none), (46, none)]
def xf_vector_Merge_b2 : XCode := (rs [o 47 (bl 46 45)] [6, 38, 39, 40, 44, 45, 46, 47]
 (.seq (.cond (.s 47) .skip (.exit 4 [6, 38, 39, 40]))
 (.seq (.block 5 (rs [om 48 46, o 49 (ia 2 44 46), ol 50 2 49, o 10 (.alloc [y, y]), om 9 48, p (t 2 10 50)] [6, 9, 10, 38, 39, 40, 44, 45, 46]
 (rp (some []) [om 51 6, om 52 9, o 53 (ia 2 51 52), ol 54 2 53, ol 55 2 10, o 56 (c 60 [54, 55]), o 57 (blj 56 0)] [6, 9, 10, 38, 39, 40, 44, 45, 46, 57]
 (.cond (.s 57) (.reg [om 58 6, om 59 9, ol 60 2 10, o 61 (ia 2 58 59), p (t 2 61 60)] none [6, 38, 39, 40, 44, 45, 46]) .skip))))
 (.reg [o 62 (baj 46 1), om 46 62] none [6, 38, 39, 40, 44, 45, 46]))))
def xf_vector_Merge_k1 : List (Nat × Option (Nat × Nat × Bool)) := [(6, some (55, 2, true)), (38, some (30, 1, false)), (39, none), (40, none)]
def xf_vector_Merge_b1 : XCode := (rs [o 41 (bl 40 39)] [6, 38, 39, 40, 41]
 (.seq (.cond (.s 41) .skip (.exit 2 [6]))
 (.seq (.block 3 (rs [o 42 (ia 1 38 40), o 43 (k 42), om 8 43] [6, 8, 38, 39, 40]
 (rs [om 44 8, o 45 (le 44), o 46 (.mv (j 0))] [6, 38, 39, 40, 44, 45, 46]
 (.block 4 (.loop xf_vector_Merge_k2 xf_vector_Merge_b2)))))
 (.reg [o 63 (baj 40 1), om 40 63] none [6, 38, 39, 40]))))
def xf_vector_Merge : XFunc := ⟨none, true, 1, [.tmp 2, .tmp 3], (rs [o 2 (.mv (.c (.nil 55 2 true))), o 3 (.mv (j 0))] [0]
 (.seq (rs [om 11 0, o 12 (le 11), o 13 (qj 12 0)] [0, 13]
 (.cond (.s 13) (rs [o 2 (.mv (.c (.nil 55 2 true))), o 3 (.mv (j 30))] [2, 3]
 (.ret [2, 3])) .skip))
 (.seq (rs [om 14 0, o 15 (le 14), o 16 (.mv (j 0))] [0, 14, 15, 16]
 (.block 0 (.loop xf_vector_Merge_k0 xf_vector_Merge_b0)))
 (rs [om 33 0, o 34 (.iadr 1 (.s 33) (j 0)), o 35 (k 34), o 36 (le 35), o 37 (.mksl 55 2 16 true [y, y] (.s 36) (.s 36)), om 6 37] [0, 6]
 (.seq (rs [om 38 0, o 39 (le 38), o 40 (.mv (j 0))] [6, 38, 39, 40]
 (.block 2 (.loop xf_vector_Merge_k1 xf_vector_Merge_b1)))
 (rs [om 64 6, om 2 64, o 3 (.mv (j 0))] [2, 3]
 (.ret [2, 3])))))))⟩

def xf_tally_PruneAcks : XFunc := ⟨none, true, 2, [.tmp 4], (rs [o 4 (.mv (.c (.nil 83 4 true)))] [0, 1]
 (rs [om 5 0, o 6 (.call (fc 88) [(.s 5), (.c (.fn (.func 89) [] []))]), o 7 (.build [(.nil 157 4 true)] [(0, 1, (.s 6))]), om 8 1, o 9 (c 90 [7, 8]), o 10 (.call (fc 87) [(.s 9), (.c (.fn (.func 91) [] []))]), om 4 10] [4]
 (.ret [4])))⟩

def xf_tally_PruneMarks : XFunc := ⟨none, true, 2, [.tmp 4], (rs [o 4 (.mv (.c (.nil 108 3 true)))] [0, 1]
 (rs [om 5 0, o 6 (.call (fc 93) [(.s 5), (.c (.fn (.func 94) [] []))]), o 7 (.build [(.nil 166 3 true)] [(0, 1, (.s 6))]), om 8 1, o 9 (c 95 [7, 8]), o 10 (.call (fc 92) [(.s 9), (.c (.fn (.func 96) [] []))]), om 4 10] [4]
 (.ret [4])))⟩

def xf_tally_PruneBallots : XFunc := ⟨none, true, 2, [.tmp 4], (rs [o 4 (.mv (.c (.nil 85 6 false)))] [0, 1]
 (rs [om 5 0, o 6 (.call (fc 98) [(.s 5), (.c (.fn (.func 99) [] []))]), o 7 (.build [(.nil 175 6 false)] [(0, 1, (.s 6))]), om 8 1, o 9 (c 100 [7, 8]), o 10 (.call (fc 97) [(.s 9), (.c (.fn (.func 101) [] []))]), om 4 10] [4]
 (.ret [4])))⟩

def xf_tally_PruneAnswers : XFunc := ⟨none, true, 2, [.tmp 4], (rs [o 4 (.mv (.c (.nil 110 6 false)))] [0, 1]
 (rs [om 5 0, o 6 (.call (fc 103) [(.s 5), (.c (.fn (.func 104) [] []))]), o 7 (.build [(.nil 184 6 false)] [(0, 1, (.s 6))]), om 8 1, o 9 (c 105 [7, 8]), o 10 (.call (fc 102) [(.s 9), (.c (.fn (.func 106) [] []))]), om 4 10] [4]
 (.ret [4])))⟩

def xf_change_start : XFunc := ⟨none, false, 1, [], (.seq (rs [om 3 0, o 4 (c 107 [3]), o 5 (nt 4)] [0, 5]
 (.cond (.s 5) (.ret []) .skip))
 (rp (some []) [om 6 0, o 7 (nc 6), of 8 0 7, of 9 0 8, of 10 0 9, o 11 (k 10), om 12 0, o 13 (nc 12), of 14 0 13, of 15 4 14, of 16 9 15, o 17 (k 16), o 18 (c 24 [11, 17]), om 2 18] [0, 2]
 (rp (some []) [om 19 0, om 20 0, o 21 (nc 20), of 22 0 21, of 23 4 22, of 24 9 23, o 25 (k 24), om 26 0, o 27 (nc 26), of 28 17 27, of 29 1 28, o 30 (k 29), om 31 0, o 32 (nc 31), of 33 0 32, of 34 4 33, of 35 6 34, o 36 (k 35), om 37 0, o 38 (nc 37), of 39 17 38, of 40 1 39, o 41 (k 40), o 42 (ia 2 36 41), ol 43 2 42, o 44 (.build l7 [(0, 1, (.s 30)), (1, 2, (.s 43))]), o 45 (c 108 [25, 44]), o 46 (nc 19), of 47 0 46, of 48 4 47, of 49 9 48, p (t 1 49 45)] [0, 2]
 (sp (some []) [am 50 2, a 51 (nt 50), am 52 51, bb 53 0 52, u 54 (nc 53) 52, u 55 (f 0 54) 52, u 56 (f 0 55) 52, u 57 (f 0 56) 52, u 58 (k 57) 52, bb 59 0 52, u 60 (nc 59) 52, u 61 (f 0 60) 52, u 62 (f 4 61) 52, u 63 (f 9 62) 52, u 64 (k 63) 52, u 65 (c 24 [58, 64]) 52, a 66 (ka 52 65)] [0, 66]
 (.cond (.s 66) (.reg [om 67 0, o 68 (nc 67), of 69 0 68, o 70 (c 25 [69])] none []) .skip)))))⟩

def xf_change_vote : XFunc := ⟨none, false, 1, [], (.seq (sp (some []) [am 6 0, a 7 (c 107 [6]), a 8 (nt 7), am 9 8, d 10 (m 0) 9, r 11 (nc 10) 9, r 12 (f 0 11) 9, r 13 (.peek 42 [(.s 12)]) 9, d 14 (m 0) 9, r 15 (nc 14) 9, r 16 (f 0 15) 9, r 17 (f 4 16) 9, r 18 (f 0 17) 9, r 19 (k 18) 9, r 20 (n 13 19) 9, a 21 (ko 9 20)] [0, 21]
 (.cond (.s 21) (.ret []) .skip))
 (rp (some [(4, 34), (10, 34), (15, 34), (16, 34), (17, 34), (22, 34), (27, 34), (32, 34)]) [om 22 0, o 23 (nc 22), of 24 17 23, of 25 1 24, o 26 (k 25), om 27 0, o 28 (nc 27), of 29 0 28, of 30 4 29, of 31 6 30, o 32 (k 31), om 33 0, o 34 (nc 33), of 35 17 34, of 36 1 35, o 37 (k 36), o 38 (ia 2 32 37), ol 39 2 38, om 40 0, o 41 (nc 40), of 42 17 41, of 43 13 42, o 44 (k 43), om 45 0, o 46 (nc 45), of 47 17 46, of 48 12 47, o 49 (k 48), om 50 0, o 51 (nc 50), of 52 17 51, of 53 16 52, o 54 (k 53), o 55 (.build l2 [(0, 1, (.s 26)), (1, 2, (.s 39)), (3, 1, (.s 44)), (4, 1, (.s 49)), (5, 1, (.s 54))]), o 2 (.alloc l2), p (t 6 2 55)] [0, 2]
 (rp (some []) [om 56 0, om 57 0, o 58 (nc 57), of 59 0 58, of 60 4 59, of 61 10 60, o 62 (k 61), ol 63 6 2, o 64 (c 109 [62, 63]), o 65 (nc 56), of 66 0 65, of 67 4 66, of 68 10 67, p (t 1 68 64)] [0]
 (rp (some [(5, 39), (11, 39), (17, 39), (18, 39), (19, 39), (25, 39), (31, 39), (37, 39)]) [om 69 0, o 70 (nc 69), of 71 0 70, of 72 4 71, of 73 0 72, o 74 (k 73), om 75 0, o 76 (nc 75), of 77 0 76, of 78 4 77, of 79 6 78, o 80 (k 79), om 81 0, o 82 (nc 81), of 83 0 82, of 84 4 83, of 85 0 84, o 86 (k 85), o 87 (ia 2 80 86), ol 88 2 87, om 89 0, o 90 (nc 89), of 91 0 90, of 92 4 91, of 93 3 92, o 94 (k 93), om 95 0, o 96 (nc 95), of 97 0 96, of 98 4 97, of 99 5 98, o 100 (k 99), om 101 0, o 102 (nc 101), of 103 0 102, of 104 4 103, of 105 4 104, o 106 (k 105), o 107 (.build l2 [(0, 1, (.s 74)), (1, 2, (.s 88)), (3, 1, (.s 94)), (4, 1, (.s 100)), (5, 1, (.s 106))]), o 3 (.alloc l2), p (t 6 3 107)] [0, 3]
 (rp (some [(5, 17), (6, 17), (12, 17), (13, 17)]) [om 109 0, o 110 (nc 109), of 111 0 110, of 112 0 111, of 113 0 112, o 114 (k 113), ol 115 6 3, om 116 0, o 117 (nc 116), of 118 0 117, of 119 4 118, of 120 10 119, o 121 (k 120), o 122 (c 110 [114, 115, 121]), om 108 122, o 123 (e 108 0), o 124 (e 108 1), o 4 (.alloc l2), p (t 6 4 123), om 5 124] [0, 4, 5]
 (rs [om 125 5, o 126 (qj 125 0)] [0, 4, 126]
 (.cond (.s 126) (.reg [om 127 0, ol 128 6 4, o 129 (c 111 [127, 128])] none []) .skip)))))))⟩

def xf_change_install : XFunc := ⟨none, false, 1, [], (.seq (sp (some []) [am 2 0, a 3 (nc 2), a 4 (f 17 3), a 5 (f 2 4), a 6 (k 5), am 7 0, a 8 (nc 7), a 9 (f 0 8), a 10 (f 4 9), a 11 (f 2 10), a 12 (k 11), a 13 (bl 6 12), am 14 13, d 15 (m 0) 14, r 16 (nc 15) 14, r 17 (f 17 16) 14, r 18 (f 2 17) 14, r 19 (k 18) 14, d 20 (m 0) 14, r 21 (nc 20) 14, r 22 (f 0 21) 14, r 23 (f 4 22) 14, r 24 (f 2 23) 14, r 25 (k 24) 14, r 26 (q 19 25) 14, r 27 (m 26) 14, bb 28 0 27, u 29 (nc 28) 27, u 30 (f 0 29) 27, u 31 (f 4 30) 27, u 32 (f 1 31) 27, u 33 (k 32) 27, u 34 (qj 33 1) 27, r 35 (ka 27 34) 14, a 36 (ko 14 35)] [0, 36]
 (.cond (.s 36) (.ret []) .skip))
 (rs [om 37 0, o 38 (nc 37), of 39 0 38, o 40 (c 47 [39])] [0]
 (rp (some []) [om 41 0, om 42 0, om 43 0, om 44 0, om 45 0, o 46 (nc 45), of 47 17 46, of 48 2 47, o 49 (k 48), om 50 0, o 51 (nc 50), of 52 17 51, of 53 2 52, o 54 (k 53), o 55 (nc 41), of 56 0 55, of 57 4 56, of 58 1 57, p (.store 1 (.s 58) (j 1)), o 59 (nc 42), of 60 0 59, of 61 4 60, of 62 2 61, p (t 1 62 49), o 63 (nc 43), of 64 0 63, of 65 4 64, of 66 3 65, p (t 1 66 54), o 67 (nc 44), of 68 0 67, of 69 4 68, of 70 7 69, p (.store 1 (.s 70) (j 0))] [0]
 (rs [om 71 0, om 72 0, o 73 (nc 72), of 74 17 73, of 75 16 74, o 76 (k 75), o 77 (.app 50 5 48 true (.c (.nil 50 5 true)) (.s 76)), o 78 (nc 71), of 79 0 78, of 80 4 79, of 81 4 80, p (t 1 81 77)] [0]
 (rp (some []) [om 82 0, om 83 0, o 84 (nc 83), of 85 0 84, of 86 4 85, of 87 5 86, o 88 (k 87), om 89 0, o 90 (nc 89), of 91 17 90, of 92 12 91, o 93 (k 92), o 94 (.mm true (.s 88) (.s 93)), om 95 0, o 96 (nc 95), of 97 0 96, of 98 4 97, of 99 4 98, o 100 (k 99), o 101 (le 100), o 102 (.mm false (.s 94) (.s 101)), o 103 (nc 82), of 104 0 103, of 105 4 104, of 106 5 105, p (t 1 106 102)] [0]
 (rp (some []) [om 107 0, o 108 (nc 107), of 109 0 108, of 110 4 109, of 111 4 110, o 112 (k 111), o 113 (le 112), om 114 0, o 115 (nc 114), of 116 0 115, of 117 4 116, of 118 5 117, o 119 (k 118), o 120 (bg 113 119)] [0, 120]
 (.cond (.s 120) (.reg [om 121 0, o 122 (nc 121), of 123 0 122, om 124 0, o 125 (nc 124), of 126 0 125, o 127 (.peek 42 [(.s 126)]), om 128 0, o 129 (nc 128), of 130 0 129, of 131 4 130, of 132 2 131, o 133 (k 132), om 134 0, o 135 (nc 134), of 136 0 135, of 137 4 136, of 138 4 137, o 139 (k 138), o 140 (le 139), o 141 (.build l4 [(0, 1, (j 4)), (2, 1, (.s 133)), (11, 1, (.s 140))]), o 142 (c 43 [123, 127, 141])] (some []) []) .skip)))))))⟩

def xf_core_voters_k0 : List (Nat × Option (Nat × Nat × Bool)) := [(1, none), (2, none), (3, none), (13, some (83, 4, true)), (14, none), (15, none)]
def xf_core_voters_b0 : XCode := (rs [o 16 (bl 15 14)] [1, 2, 3, 13, 14, 15, 16]
 (.seq (.cond (.s 16) .skip (.exit 0 [1, 2, 3]))
 (.seq (.block 1 (rs [o 17 (ia 4 13 15), ol 18 4 17, o 5 (.alloc l9), p (t 4 5 18)] [1, 2, 3, 5, 13, 14, 15]
 (.reg [o 19 (.aadr 1 4 (.s 3) (j 0)), o 20 (k 19), of 21 0 5, o 22 (k 21), of 23 1 5, ol 24 2 23, o 25 (.build l7 [(0, 1, (.s 22)), (1, 2, (.s 24))]), o 26 (.bsl 135 3 true 1 l7 [(0, 3, (.s 25))]), o 27 (.app 135 3 24 true (.s 20) (.s 26)), o 28 (.aadr 1 4 (.s 3) (j 0)), p (t 1 28 27)] none [1, 2, 3, 13, 14, 15])))
 (.reg [o 29 (baj 15 1), om 15 29] none [1, 2, 3, 13, 14, 15]))))
def xf_core_voters_k1 : List (Nat × Option (Nat × Nat × Bool)) := [(1, none), (2, none), (3, none), (31, some (108, 3, true)), (32, none), (33, none)]
def xf_core_voters_b1 : XCode := (rs [o 34 (bl 33 32)] [1, 2, 3, 31, 32, 33, 34]
 (.seq (.cond (.s 34) .skip (.exit 2 [1, 2, 3]))
 (.seq (.block 3 (rs [o 35 (ia 3 31 33), ol 36 3 35, o 7 (.alloc l7), p (t 3 7 36)] [1, 2, 3, 7, 31, 32, 33]
 (.reg [o 37 (.aadr 1 4 (.s 3) (j 1)), o 38 (k 37), of 39 0 7, o 40 (k 39), of 41 1 7, ol 42 2 41, o 43 (.build l7 [(0, 1, (.s 40)), (1, 2, (.s 42))]), o 44 (.bsl 135 3 true 1 l7 [(0, 3, (.s 43))]), o 45 (.app 135 3 24 true (.s 38) (.s 44)), o 46 (.aadr 1 4 (.s 3) (j 1)), p (t 1 46 45)] none [1, 2, 3, 31, 32, 33])))
 (.reg [o 47 (baj 33 1), om 33 47] none [1, 2, 3, 31, 32, 33]))))
def xf_core_voters_k2 : List (Nat × Option (Nat × Nat × Bool)) := [(1, none), (2, none), (3, none), (49, some (85, 6, false)), (50, none), (51, none)]
def xf_core_voters_b2 : XCode := (rs [o 52 (bl 51 50)] [1, 2, 3, 49, 50, 51, 52]
 (.seq (.cond (.s 52) .skip (.exit 4 [1, 2, 3]))
 (.seq (.block 5 (rs [o 53 (ia 6 49 51), ol 54 6 53, o 9 (.alloc l2), p (t 6 9 54)] [1, 2, 3, 9, 49, 50, 51]
 (.reg [o 55 (.aadr 1 4 (.s 3) (j 2)), o 56 (k 55), of 57 0 9, o 58 (k 57), of 59 1 9, ol 60 2 59, o 61 (.build l7 [(0, 1, (.s 58)), (1, 2, (.s 60))]), o 62 (.bsl 135 3 true 1 l7 [(0, 3, (.s 61))]), o 63 (.app 135 3 24 true (.s 56) (.s 62)), o 64 (.aadr 1 4 (.s 3) (j 2)), p (t 1 64 63)] none [1, 2, 3, 49, 50, 51])))
 (.reg [o 65 (baj 51 1), om 51 65] none [1, 2, 3, 49, 50, 51]))))
def xf_core_voters_k3 : List (Nat × Option (Nat × Nat × Bool)) := [(2, none), (3, none), (67, some (110, 6, false)), (68, none), (69, none)]
def xf_core_voters_b3 : XCode := (rs [o 70 (bl 69 68)] [2, 3, 67, 68, 69, 70]
 (.seq (.cond (.s 70) .skip (.exit 6 [2, 3]))
 (.seq (.block 7 (rs [o 71 (ia 6 67 69), ol 72 6 71, o 11 (.alloc l2), p (t 6 11 72)] [2, 3, 11, 67, 68, 69]
 (.reg [o 73 (.aadr 1 4 (.s 3) (j 3)), o 74 (k 73), of 75 0 11, o 76 (k 75), of 77 1 11, ol 78 2 77, o 79 (.build l7 [(0, 1, (.s 76)), (1, 2, (.s 78))]), o 80 (.bsl 135 3 true 1 l7 [(0, 3, (.s 79))]), o 81 (.app 135 3 24 true (.s 74) (.s 80)), o 82 (.aadr 1 4 (.s 3) (j 3)), p (t 1 82 81)] none [2, 3, 67, 68, 69])))
 (.reg [o 83 (baj 69 1), om 69 83] none [2, 3, 67, 68, 69]))))
def xf_core_voters : XFunc := ⟨none, true, 1, [.cell 2 (some 4)], (rs [o 1 (bx 0), o 2 (.alloc l8)] [1, 2]
 (rs [o 3 (.alloc l8)] [1, 2, 3]
 (.seq (rs [of 12 8 1, o 13 (k 12), o 14 (le 13), o 15 (.mv (j 0))] [1, 2, 3, 13, 14, 15]
 (.block 0 (.loop xf_core_voters_k0 xf_core_voters_b0)))
 (.seq (rs [of 30 9 1, o 31 (k 30), o 32 (le 31), o 33 (.mv (j 0))] [1, 2, 3, 31, 32, 33]
 (.block 2 (.loop xf_core_voters_k1 xf_core_voters_b1)))
 (.seq (rs [of 48 10 1, o 49 (k 48), o 50 (le 49), o 51 (.mv (j 0))] [1, 2, 3, 49, 50, 51]
 (.block 4 (.loop xf_core_voters_k2 xf_core_voters_b2)))
 (.seq (rs [of 66 11 1, o 67 (k 66), o 68 (le 67), o 69 (.mv (j 0))] [2, 3, 67, 68, 69]
 (.block 6 (.loop xf_core_voters_k3 xf_core_voters_b3)))
 (rs [ol 84 4 3, p (t 4 2 84)] [2]
 (.ret [2]))))))))⟩

def xf_core_out : XFunc := ⟨none, true, 3, [.cell 6 (some 19)], (rs [o 3 (bx 0), o 5 (bx 2), o 6 (.alloc l3)] [1, 3, 5, 6]
 (rs [of 7 0 3, o 8 (k 7), of 9 1 5, p (t 1 9 8)] [1, 3, 5, 6]
 (rs [of 10 16 5, o 11 (k 10), o 12 (c 72 [11]), of 13 16 5, p (t 1 13 12)] [1, 3, 5, 6]
 (.seq (rs [of 14 0 5, o 15 (k 14), o 16 (c 58 [15])] [1, 3, 5, 6, 16]
 (.cond (.s 16) (.reg [of 17 6 3, o 18 (k 17), of 19 17 5, p (t 1 19 18)] none [1, 5, 6]) .skip))
 (rs [of 20 17 5, o 21 (k 20), o 22 (c 73 [21]), of 23 17 5, p (t 1 23 22)] [1, 5, 6]
 (rs [om 24 1, ol 25 18 5, o 26 (.build l3 [(0, 1, (.s 24)), (1, 18, (.s 25))]), p (t 19 6 26)] [6]
 (.ret [6])))))))⟩

def xf_core_One : XFunc := ⟨none, true, 4, [.cell 8 (some 19), .tmp 9], (rs [o 4 (bx 0), o 5 (bx 1), o 7 (bx 3), o 8 (.alloc l3), o 9 (.mv (j 0))] [2, 4, 5, 7, 8]
 (.seq (rs [ol 12 4 4, ol 13 12 5, o 14 (c 22 [12, 13]), om 10 14] [2, 4, 5, 7, 8, 10]
 (rs [om 15 10, o 16 (nj 15 0)] [2, 4, 5, 7, 8, 10, 16]
 (.cond (.s 16) (rs [o 17 (.build l3 []), om 18 10, p (t 19 8 17), om 9 18] [8, 9]
 (.ret [8, 9])) .skip)))
 (ss [am 19 2, a 20 (bhj 19 0), am 21 20, bb 22 2 21, b 23 (l 4 4) 21, u 24 (c 5 [23]) 21, u 25 (bl 22 24) 21, a 26 (ka 21 25), am 27 26, bb 28 2 27, b 29 (f 0 5) 27, b 30 (k 29) 27, b 31 (n 28 30) 27, a 32 (ka 27 31), am 11 32] [2, 5, 7, 8, 11]
 (.seq (ss [am 33 11, a 34 (nt 33), am 35 34, bb 36 2 35, b 37 (blj 36 7) 35, bb 38 37 35, d 39 (m 2) 38, d 40 (bhj 39 23) 38, b 41 (ko 38 40) 35, a 42 (ka 35 41)] [2, 5, 7, 8, 42]
 (.cond (.s 42) (rs [o 43 (.build l3 []), p (t 19 8 43), o 9 (.mv (j 3))] [8, 9]
 (.ret [8, 9])) .skip))
 (rs [ol 44 12 5, om 45 2, ol 46 18 7, o 47 (c 70 [44, 45, 46]), p (t 19 8 47), o 9 (.mv (j 0))] [8, 9]
 (.ret [8, 9]))))))⟩

def xf_client_check_k0 : List (Nat × Option (Nat × Nat × Bool)) := [(3, none), (12, some (50, 5, true)), (13, none), (14, none)]
def xf_client_check_b0 : XCode := (rs [o 15 (bl 14 13)] [3, 12, 13, 14, 15]
 (.seq (.cond (.s 15) .skip (.exit 0 []))
 (.seq (.block 1 (rs [o 16 (ia 5 12 14), ol 17 5 16, o 5 (.alloc [z, z, z, z, x]), p (t 5 5 17)] [3, 5, 12, 13, 14]
 (.seq (rs [of 18 0 5, o 19 (k 18), of 20 1 5, o 21 (k 20), o 22 (c 112 [19, 21]), om 6 22] [3, 5, 6, 12, 13, 14]
 (rs [om 23 6, o 24 (nj 23 0)] [3, 5, 6, 12, 13, 14, 24]
 (.cond (.s 24) (rs [om 25 6, om 2 25] [2]
 (.ret [2])) .skip)))
 (.seq (rs [of 26 2 5, ol 27 3 26, o 28 (c 82 [27]), om 7 28] [3, 5, 7, 12, 13, 14]
 (rs [om 29 7, o 30 (nj 29 0)] [3, 5, 7, 12, 13, 14, 30]
 (.cond (.s 30) (rs [om 31 7, om 2 31] [2]
 (.ret [2])) .skip)))
 (.seq (rs [of 32 1 5, o 33 (k 32), om 34 3, of 35 0 5, o 36 (k 35), o 37 (.mget false (.int .i64 0) (.s 34) (.s 36)), o 38 (bm 33 37)] [3, 5, 12, 13, 14, 38]
 (.cond (.s 38) (rs [o 2 (.mv (j 64))] [2]
 (.ret [2])) .skip))
 (.reg [om 39 3, of 40 0 5, o 41 (k 40), of 42 1 5, o 43 (k 42), p (.mput (.s 39) (.s 41) (.s 43))] none [3, 12, 13, 14]))))))
 (.reg [o 44 (baj 14 1), om 14 44] none [3, 12, 13, 14]))))
def xf_client_check : XFunc := ⟨none, true, 1, [.tmp 2], (rs [o 2 (.mv (j 0))] [0]
 (.seq (rs [om 8 0, o 9 (le 8), o 10 (bgj 9 256)] [0, 10]
 (.cond (.s 10) (rs [o 2 (.mv (j 60))] [2]
 (.ret [2])) .skip))
 (rs [o 11 .mkmap, om 3 11] [0, 3]
 (.seq (rs [om 12 0, o 13 (le 12), o 14 (.mv (j 0))] [3, 12, 13, 14]
 (.block 0 (.loop xf_client_check_k0 xf_client_check_b0)))
 (rs [o 2 (.mv (j 0))] [2]
 (.ret [2]))))))⟩

def xf_client_rows_k0 : List (Nat × Option (Nat × Nat × Bool)) := [(5, some (105, 7, true)), (6, none), (12, some (50, 5, true)), (13, none), (14, none)]
def xf_client_rows_b0 : XCode := (rs [o 15 (bl 14 13)] [5, 6, 12, 13, 14, 15]
 (.seq (.cond (.s 15) .skip (.exit 0 [5]))
 (.seq (.block 1 (rs [om 16 14, o 17 (ia 5 12 14), ol 18 5 17, o 8 (.alloc [z, z, z, z, x]), om 7 16, p (t 5 8 18)] [5, 6, 7, 8, 12, 13, 14]
 (.reg [om 19 5, of 20 0 8, o 21 (k 20), of 22 1 8, o 23 (k 22), om 24 7, o 25 (baj 24 1), om 26 6, of 27 2 8, ol 28 3 27, o 29 (c 114 [26, 28]), o 30 (.build [z, z, z, w, z, z, x] [(0, 1, (.s 21)), (1, 1, (.s 23)), (2, 1, (.s 25)), (3, 1, (.c v)), (4, 3, (.s 29))]), o 31 (.bsl 105 7 true 1 [z, z, z, w, z, z, x] [(0, 7, (.s 30))]), o 32 (.app 105 7 64 true (.s 19) (.s 31)), om 5 32] (some [(2, 10), (4, 10)]) [5, 6, 12, 13, 14])))
 (.reg [o 33 (baj 14 1), om 14 33] none [5, 6, 12, 13, 14]))))
def xf_client_rows : XFunc := ⟨none, true, 2, [.tmp 4], (rs [o 4 (.mv (.c (.nil 105 7 true)))] [0, 1]
 (rs [o 5 (.mv (.c (.nil 105 7 true)))] [0, 1, 5]
 (rs [o 9 (c 113 []), om 6 9] [0, 1, 5, 6]
 (.seq (rs [om 10 0, om 11 1, o 12 (.slice 5 (.s 10) none (some (.s 11))), o 13 (le 12), o 14 (.mv (j 0))] [5, 6, 12, 13, 14]
 (.block 0 (.loop xf_client_rows_k0 xf_client_rows_b0)))
 (rs [om 34 5, om 4 34] [4]
 (.ret [4]))))))⟩

def xf_ref05_Entry : XFunc := ⟨none, true, 1, [.tmp 2], (rs [o 1 (bx 0), o 2 (.mv (j 0))] [1]
 (.seq (ss [a 3 (f 0 1), a 4 (k 3), a 5 (blj 4 0), am 6 5, d 7 (f 0 1) 6, d 8 (k 7) 6, d 9 (bhj 8 16) 6, a 10 (ko 6 9)] [1, 10]
 (.cond (.s 10) (rs [o 2 (.mv (j 62))] [2]
 (.ret [2])) .skip))
 (.seq (rs [of 11 1 1, o 12 (k 11), o 13 (blj 12 1)] [1, 13]
 (.cond (.s 13) (rs [o 2 (.mv (j 63))] [2]
 (.ret [2])) .skip))
 (rs [of 14 2 1, ol 15 3 14, o 16 (c 115 [15]), om 2 16] [2]
 (.ret [2])))))⟩

def xf_message_short : XFunc := ⟨none, true, 1, [.tmp 2], (rs [o 2 (.mv (.c w))] [0]
 (ss [am 3 0, a 4 (qj 3 2), am 5 4, d 6 (m 0) 5, d 7 (qj 6 14) 5, a 8 (ko 5 7), am 2 8] [2]
 (.ret [2])))⟩

def xf_ledger_Check : XFunc := ⟨none, true, 1, [.tmp 2], (rs [o 1 (bx 0), o 2 (.mv (j 0))] [1]
 (.seq (rs [of 4 0 1, o 5 (k 4)] [1, 5]
 (.block 0 (.seq (rs [o 7 (qj 5 1), om 6 7] [1, 5, 6]
 (.cond (.s 6) .skip (.reg [o 8 (qj 5 3), om 6 8] none [1, 5, 6])))
 (.cond (.s 6) (ss [a 9 (f 1 1), a 10 (k 9), a 11 (blj 10 0), am 12 11, d 13 (f 1 1) 12, d 14 (k 13) 12, d 15 (bhj 14 1024) 12, a 16 (ko 12 15)] [1, 16]
 (.cond (.s 16) (rs [o 2 (.mv (j 41))] [2]
 (.ret [2])) .skip)) (.seq (rs [o 18 (qj 5 2), om 17 18] [1, 5, 17]
 (.cond (.s 17) .skip (.reg [o 19 (qj 5 4), om 17 19] none [1, 17])))
 (.cond (.s 17) (rs [of 20 1 1, o 21 (k 20), o 22 (nj 21 0)] [1, 22]
 (.cond (.s 22) (rs [o 2 (.mv (j 41))] [2]
 (.ret [2])) .skip)) (rs [o 2 (.mv (j 40))] [2]
 (.ret [2]))))))))
 (rs [o 3 (.mv (j 0))] [1, 3]
 (.seq (rs [of 23 0 1, o 24 (k 23)] [1, 3, 24]
 (.block 1 (.seq (.block 3 (.block 2 (.seq (.seq (rs [o 26 (qj 24 1), om 25 26] [1, 3, 24, 25]
 (.cond (.s 25) (.exit 2 [1]) .skip))
 (rs [o 28 (qj 24 2), om 27 28] [1, 3, 27]
 (.cond (.s 27) (.exit 3 [1]) .skip)))
 (.exit 1 [1, 3]))))
 (rs [o 3 (.mv (j 64))] [1, 3]
 (.exit 1 [1, 3])))))
 (.seq (rs [of 29 2 1, o 30 (k 29), o 31 (.len true (.s 30)), om 32 3, o 33 (bg 31 32)] [33]
 (.cond (.s 33) (rs [o 2 (.mv (j 42))] [2]
 (.ret [2])) .skip))
 (rs [o 2 (.mv (j 0))] [2]
 (.ret [2])))))))⟩

def xf_oplog_Each : XFunc := ⟨none, false, 2, [.tmp 4], (rs [o 3 (bx 1), o 4 (.mv (.c (.dat .nilf)))] [0, 3]
 (rs [om 6 0, o 7 (.call (fc 116) [(.s 6), (.c (.nil 50 5 true))]), o 5 (.alloc [(.nil 50 5 true)]), p (t 1 5 7)] [3, 5]
 (rs [o 8 (.mkfn (.func 117) [] [(.s 3), (.s 5)]), om 4 8] [4]
 (.ret [4]))))⟩

def xf_oplog_fits : XFunc := ⟨none, true, 2, [.tmp 4], (rs [o 3 (bx 1), o 4 (.mv (j 0))] [0, 3]
 (.seq (ss [a 8 (f 0 3), a 9 (k 8), a 10 (blj 9 0), am 11 10, d 12 (f 0 3) 11, d 13 (k 12) 11, d 14 (bhj 13 16) 11, a 15 (ko 11 14)] [0, 3, 15]
 (.cond (.s 15) (rs [o 4 (.mv (j 62))] [4]
 (.ret [4])) .skip))
 (.seq (rs [of 16 1 3, o 17 (k 16), o 18 (blj 17 1)] [0, 3, 18]
 (.cond (.s 18) (rs [o 4 (.mv (j 63))] [4]
 (.ret [4])) .skip))
 (.seq (rs [of 19 2 3, ol 20 3 19, o 21 (c 82 [20]), om 5 21] [0, 3, 5]
 (rs [om 22 5, o 23 (nj 22 0)] [0, 3, 5, 23]
 (.cond (.s 23) (rs [om 24 5, om 4 24] [4]
 (.ret [4])) .skip)))
 (.seq (rs [om 26 0, of 27 0 3, o 28 (k 27), o 29 (.mget true (.int .i64 0) (.s 26) (.s 28)), om 25 29, o 30 (e 25 0), o 31 (e 25 1), om 6 30, om 7 31] [3, 6, 7]
 (ss [am 32 7, am 33 32, bb 34 6 33, b 35 (f 1 3) 33, b 36 (k 35) 33, b 37 (bh 34 36) 33, a 38 (ka 33 37)] [38]
 (.cond (.s 38) (rs [o 4 (.mv (j 64))] [4]
 (.ret [4])) .skip)))
 (rs [o 4 (.mv (j 0))] [4]
 (.ret [4])))))))⟩

def xf_vector_speaks : XFunc := ⟨none, true, 1, [.tmp 2], (rs [o 1 (bx 0), o 2 (.mv (.c w))] [1]
 (ss [a 3 (f 1 1), a 4 (k 3), a 5 (c 86 [4]), am 6 5, b 7 (f 0 1) 6, b 8 (k 7) 6, b 9 (bhj 8 0) 6, a 10 (ka 6 9), am 11 10, b 12 (f 0 1) 11, b 13 (k 12) 11, b 14 (f 1 1) 11, b 15 (k 14) 11, b 16 (le 15) 11, b 17 (bl 13 16) 11, a 18 (ka 11 17), am 2 18] [2]
 (.ret [2])))⟩

def xf_vector_fits : XFunc := ⟨none, true, 1, [.tmp 2], (rs [o 2 (.mv (.c w))] [0]
 (ss [am 3 0, a 4 (le 3), a 5 (bhj 4 1), am 6 5, bb 7 0 6, b 8 (le 7) 6, b 9 (bmj 8 7) 6, a 10 (ka 6 9), am 2 10] [2]
 (.ret [2])))⟩

def xf_tally_turned_ack_Ack_k0 : List (Nat × Option (Nat × Nat × Bool)) := [(1, none), (5, some (83, 4, true)), (8, some (157, 4, true)), (9, none), (10, none)]
def xf_tally_turned_ack_Ack_b0 : XCode := (rs [o 11 (bl 10 9)] [1, 5, 8, 9, 10, 11]
 (.seq (.cond (.s 11) .skip (.exit 0 [5]))
 (.seq (.block 1 (rs [o 12 (ia 4 8 10), ol 13 4 12, o 7 (.alloc l9), p (t 4 7 13)] [1, 5, 7, 8, 9, 10]
 (.reg [om 14 5, om 15 1, ol 16 4 7, o 17 (.call (.s 15) [(.s 16)]), o 18 (.bsl 83 4 true 1 l9 [(0, 4, (.s 17))]), o 19 (.app 83 4 32 true (.s 14) (.s 18)), om 5 19] none [1, 5, 8, 9, 10])))
 (.reg [o 20 (baj 10 1), om 10 20] none [1, 5, 8, 9, 10]))))
def xf_tally_turned_ack_Ack : XFunc := ⟨none, true, 2, [.tmp 4], (rs [o 4 (.mv (.c (.nil 83 4 true)))] [0, 1]
 (rs [o 5 (.mv (.c (.nil 83 4 true)))] [0, 1, 5]
 (.seq (rs [om 8 0, o 9 (le 8), o 10 (.mv (j 0))] [1, 5, 8, 9, 10]
 (.block 0 (.loop xf_tally_turned_ack_Ack_k0 xf_tally_turned_ack_Ack_b0)))
 (rs [om 21 5, om 4 21] [4]
 (.ret [4])))))⟩

def xf_tally_turned_Ack_ack_k0 : List (Nat × Option (Nat × Nat × Bool)) := [(1, none), (5, some (157, 4, true)), (8, some (83, 4, true)), (9, none), (10, none)]
def xf_tally_turned_Ack_ack_b0 : XCode := (rs [o 11 (bl 10 9)] [1, 5, 8, 9, 10, 11]
 (.seq (.cond (.s 11) .skip (.exit 0 [5]))
 (.seq (.block 1 (rs [o 12 (ia 4 8 10), ol 13 4 12, o 7 (.alloc l9), p (t 4 7 13)] [1, 5, 7, 8, 9, 10]
 (.reg [om 14 5, om 15 1, ol 16 4 7, o 17 (.call (.s 15) [(.s 16)]), o 18 (.bsl 157 4 true 1 l9 [(0, 4, (.s 17))]), o 19 (.app 157 4 32 true (.s 14) (.s 18)), om 5 19] none [1, 5, 8, 9, 10])))
 (.reg [o 20 (baj 10 1), om 10 20] none [1, 5, 8, 9, 10]))))
def xf_tally_turned_Ack_ack : XFunc := ⟨none, true, 2, [.tmp 4], (rs [o 4 (.mv (.c (.nil 157 4 true)))] [0, 1]
 (rs [o 5 (.mv (.c (.nil 157 4 true)))] [0, 1, 5]
 (.seq (rs [om 8 0, o 9 (le 8), o 10 (.mv (j 0))] [1, 5, 8, 9, 10]
 (.block 0 (.loop xf_tally_turned_Ack_ack_k0 xf_tally_turned_Ack_ack_b0)))
 (rs [om 21 5, om 4 21] [4]
 (.ret [4])))))⟩

def xf_tally_toAck : XFunc := ⟨none, true, 1, [.cell 2 (some 4)], (rs [o 1 (bx 0), o 2 (.alloc l9)] [1, 2]
 (rs [ol 3 4 1, p (t 4 2 3)] [2]
 (.ret [2])))⟩

def xf_tally_box_ack_prune_k0 : List (Nat × Option (Nat × Nat × Bool)) := [(1, none), (5, some (157, 4, true)), (10, some (157, 4, true)), (11, none), (12, none)]
def xf_tally_box_ack_prune_b0 : XCode := (rs [o 13 (bl 12 11)] [1, 5, 10, 11, 12, 13]
 (.seq (.cond (.s 13) .skip (.exit 0 [5]))
 (.seq (.block 1 (rs [o 14 (ia 4 10 12), ol 15 4 14, o 7 (.alloc l9), p (t 4 7 15)] [1, 5, 7, 10, 11, 12]
 (rs [ol 16 4 7, o 17 (.mkifc 157 (.s 16)), o 18 (.inv [(157, 141), (166, 146), (175, 149), (184, 154)] (.s 17) []), om 8 18] [1, 5, 7, 8, 10, 11, 12]
 (sp (some [(11, 14), (11, 15)]) [am 19 8, a 20 (blj 19 0), am 21 20, d 22 (m 8) 21, d 23 (m 1) 21, d 24 (le 23) 21, d 25 (bh 22 24) 21, a 26 (ko 21 25), am 27 26, d 28 (l 4 7) 27, d 29 (.mkifc 157 (.s 28)) 27, r 30 (.inv [(157, 139), (166, 144), (175, 148), (184, 152)] (.s 29) []) 27, d 31 (m 1) 27, d 32 (m 8) 27, r 33 (ia 2 31 32) 27, r 34 (l 2 33) 27, r 35 (c 60 [30, 34]) 27, r 36 (bhj 35 0) 27, a 37 (ko 27 36)] [1, 5, 7, 10, 11, 12, 37]
 (.cond (.s 37) (.reg [om 38 5, ol 39 4 7, o 40 (.mkifc 157 (.s 39)), o 41 (.inv [(157, 140), (166, 145), (175, 120), (184, 153)] (.s 40) []), o 42 (.bsl 157 4 true 1 l9 [(0, 4, (.s 41))]), o 43 (.app 157 4 32 true (.s 38) (.s 42)), om 5 43] none [1, 5, 10, 11, 12]) .skip)))))
 (.reg [o 44 (baj 12 1), om 12 44] none [1, 5, 10, 11, 12]))))
def xf_tally_box_ack_prune : XFunc := ⟨none, true, 2, [.tmp 4], (rs [o 2 (bx 0), o 4 (.mv (.c (.nil 157 4 true)))] [1, 2]
 (rs [o 5 (.mv (.c (.nil 157 4 true)))] [1, 2, 5]
 (.seq (rs [of 9 0 2, o 10 (k 9), o 11 (le 10), o 12 (.mv (j 0))] [1, 5, 10, 11, 12]
 (.block 0 (.loop xf_tally_box_ack_prune_k0 xf_tally_box_ack_prune_b0)))
 (rs [om 45 5, om 4 45] [4]
 (.ret [4])))))⟩

def xf_tally_fromAck : XFunc := ⟨none, true, 1, [.cell 2 (some 4)], (rs [o 1 (bx 0), o 2 (.alloc l9)] [1, 2]
 (rs [ol 3 4 1, p (t 4 2 3)] [2]
 (.ret [2])))⟩

def xf_tally_turned_mark_Mark_k0 : List (Nat × Option (Nat × Nat × Bool)) := [(1, none), (5, some (108, 3, true)), (8, some (166, 3, true)), (9, none), (10, none)]
def xf_tally_turned_mark_Mark_b0 : XCode := (rs [o 11 (bl 10 9)] [1, 5, 8, 9, 10, 11]
 (.seq (.cond (.s 11) .skip (.exit 0 [5]))
 (.seq (.block 1 (rs [o 12 (ia 3 8 10), ol 13 3 12, o 7 (.alloc l7), p (t 3 7 13)] [1, 5, 7, 8, 9, 10]
 (.reg [om 14 5, om 15 1, ol 16 3 7, o 17 (.call (.s 15) [(.s 16)]), o 18 (.bsl 108 3 true 1 l7 [(0, 3, (.s 17))]), o 19 (.app 108 3 24 true (.s 14) (.s 18)), om 5 19] none [1, 5, 8, 9, 10])))
 (.reg [o 20 (baj 10 1), om 10 20] none [1, 5, 8, 9, 10]))))
def xf_tally_turned_mark_Mark : XFunc := ⟨none, true, 2, [.tmp 4], (rs [o 4 (.mv (.c (.nil 108 3 true)))] [0, 1]
 (rs [o 5 (.mv (.c (.nil 108 3 true)))] [0, 1, 5]
 (.seq (rs [om 8 0, o 9 (le 8), o 10 (.mv (j 0))] [1, 5, 8, 9, 10]
 (.block 0 (.loop xf_tally_turned_mark_Mark_k0 xf_tally_turned_mark_Mark_b0)))
 (rs [om 21 5, om 4 21] [4]
 (.ret [4])))))⟩

def xf_tally_turned_Mark_mark_k0 : List (Nat × Option (Nat × Nat × Bool)) := [(1, none), (5, some (166, 3, true)), (8, some (108, 3, true)), (9, none), (10, none)]
def xf_tally_turned_Mark_mark_b0 : XCode := (rs [o 11 (bl 10 9)] [1, 5, 8, 9, 10, 11]
 (.seq (.cond (.s 11) .skip (.exit 0 [5]))
 (.seq (.block 1 (rs [o 12 (ia 3 8 10), ol 13 3 12, o 7 (.alloc l7), p (t 3 7 13)] [1, 5, 7, 8, 9, 10]
 (.reg [om 14 5, om 15 1, ol 16 3 7, o 17 (.call (.s 15) [(.s 16)]), o 18 (.bsl 166 3 true 1 l7 [(0, 3, (.s 17))]), o 19 (.app 166 3 24 true (.s 14) (.s 18)), om 5 19] none [1, 5, 8, 9, 10])))
 (.reg [o 20 (baj 10 1), om 10 20] none [1, 5, 8, 9, 10]))))
def xf_tally_turned_Mark_mark : XFunc := ⟨none, true, 2, [.tmp 4], (rs [o 4 (.mv (.c (.nil 166 3 true)))] [0, 1]
 (rs [o 5 (.mv (.c (.nil 166 3 true)))] [0, 1, 5]
 (.seq (rs [om 8 0, o 9 (le 8), o 10 (.mv (j 0))] [1, 5, 8, 9, 10]
 (.block 0 (.loop xf_tally_turned_Mark_mark_k0 xf_tally_turned_Mark_mark_b0)))
 (rs [om 21 5, om 4 21] [4]
 (.ret [4])))))⟩

def xf_tally_toMark : XFunc := ⟨none, true, 1, [.cell 2 (some 3)], (rs [o 1 (bx 0), o 2 (.alloc l7)] [1, 2]
 (rs [ol 3 3 1, p (t 3 2 3)] [2]
 (.ret [2])))⟩

def xf_tally_box_mark_prune_k0 : List (Nat × Option (Nat × Nat × Bool)) := [(1, none), (5, some (166, 3, true)), (10, some (166, 3, true)), (11, none), (12, none)]
def xf_tally_box_mark_prune_b0 : XCode := (rs [o 13 (bl 12 11)] [1, 5, 10, 11, 12, 13]
 (.seq (.cond (.s 13) .skip (.exit 0 [5]))
 (.seq (.block 1 (rs [o 14 (ia 3 10 12), ol 15 3 14, o 7 (.alloc l7), p (t 3 7 15)] [1, 5, 7, 10, 11, 12]
 (rs [ol 16 3 7, o 17 (.mkifc 166 (.s 16)), o 18 (.inv [(157, 141), (166, 146), (175, 149), (184, 154)] (.s 17) []), om 8 18] [1, 5, 7, 8, 10, 11, 12]
 (sp (some [(11, 14), (11, 15)]) [am 19 8, a 20 (blj 19 0), am 21 20, d 22 (m 8) 21, d 23 (m 1) 21, d 24 (le 23) 21, d 25 (bh 22 24) 21, a 26 (ko 21 25), am 27 26, d 28 (l 3 7) 27, d 29 (.mkifc 166 (.s 28)) 27, r 30 (.inv [(157, 139), (166, 144), (175, 148), (184, 152)] (.s 29) []) 27, d 31 (m 1) 27, d 32 (m 8) 27, r 33 (ia 2 31 32) 27, r 34 (l 2 33) 27, r 35 (c 60 [30, 34]) 27, r 36 (bhj 35 0) 27, a 37 (ko 27 36)] [1, 5, 7, 10, 11, 12, 37]
 (.cond (.s 37) (.reg [om 38 5, ol 39 3 7, o 40 (.mkifc 166 (.s 39)), o 41 (.inv [(157, 140), (166, 145), (175, 120), (184, 153)] (.s 40) []), o 42 (.bsl 166 3 true 1 l7 [(0, 3, (.s 41))]), o 43 (.app 166 3 24 true (.s 38) (.s 42)), om 5 43] none [1, 5, 10, 11, 12]) .skip)))))
 (.reg [o 44 (baj 12 1), om 12 44] none [1, 5, 10, 11, 12]))))
def xf_tally_box_mark_prune : XFunc := ⟨none, true, 2, [.tmp 4], (rs [o 2 (bx 0), o 4 (.mv (.c (.nil 166 3 true)))] [1, 2]
 (rs [o 5 (.mv (.c (.nil 166 3 true)))] [1, 2, 5]
 (.seq (rs [of 9 0 2, o 10 (k 9), o 11 (le 10), o 12 (.mv (j 0))] [1, 5, 10, 11, 12]
 (.block 0 (.loop xf_tally_box_mark_prune_k0 xf_tally_box_mark_prune_b0)))
 (rs [om 45 5, om 4 45] [4]
 (.ret [4])))))⟩

def xf_tally_fromMark : XFunc := ⟨none, true, 1, [.cell 2 (some 3)], (rs [o 1 (bx 0), o 2 (.alloc l7)] [1, 2]
 (rs [ol 3 3 1, p (t 3 2 3)] [2]
 (.ret [2])))⟩

def xf_tally_turned_ballot_Ballot_k0 : List (Nat × Option (Nat × Nat × Bool)) := [(1, none), (5, some (85, 6, false)), (8, some (175, 6, false)), (9, none), (10, none)]
def xf_tally_turned_ballot_Ballot_b0 : XCode := (rs [o 11 (bl 10 9)] [1, 5, 8, 9, 10, 11]
 (.seq (.cond (.s 11) .skip (.exit 0 [5]))
 (.seq (.block 1 (rs [o 12 (ia 6 8 10), ol 13 6 12, o 7 (.alloc l2), p (t 6 7 13)] [1, 5, 7, 8, 9, 10]
 (.reg [om 14 5, om 15 1, ol 16 6 7, o 17 (.call (.s 15) [(.s 16)]), o 18 (.bsl 85 6 false 1 l2 [(0, 6, (.s 17))]), o 19 (.app 85 6 64 false (.s 14) (.s 18)), om 5 19] none [1, 5, 8, 9, 10])))
 (.reg [o 20 (baj 10 1), om 10 20] none [1, 5, 8, 9, 10]))))
def xf_tally_turned_ballot_Ballot : XFunc := ⟨none, true, 2, [.tmp 4], (rs [o 4 (.mv (.c (.nil 85 6 false)))] [0, 1]
 (rs [o 5 (.mv (.c (.nil 85 6 false)))] [0, 1, 5]
 (.seq (rs [om 8 0, o 9 (le 8), o 10 (.mv (j 0))] [1, 5, 8, 9, 10]
 (.block 0 (.loop xf_tally_turned_ballot_Ballot_k0 xf_tally_turned_ballot_Ballot_b0)))
 (rs [om 21 5, om 4 21] [4]
 (.ret [4])))))⟩

def xf_tally_turned_Ballot_ballot_k0 : List (Nat × Option (Nat × Nat × Bool)) := [(1, none), (5, some (175, 6, false)), (8, some (85, 6, false)), (9, none), (10, none)]
def xf_tally_turned_Ballot_ballot_b0 : XCode := (rs [o 11 (bl 10 9)] [1, 5, 8, 9, 10, 11]
 (.seq (.cond (.s 11) .skip (.exit 0 [5]))
 (.seq (.block 1 (rs [o 12 (ia 6 8 10), ol 13 6 12, o 7 (.alloc l2), p (t 6 7 13)] [1, 5, 7, 8, 9, 10]
 (.reg [om 14 5, om 15 1, ol 16 6 7, o 17 (.call (.s 15) [(.s 16)]), o 18 (.bsl 175 6 false 1 l2 [(0, 6, (.s 17))]), o 19 (.app 175 6 64 false (.s 14) (.s 18)), om 5 19] none [1, 5, 8, 9, 10])))
 (.reg [o 20 (baj 10 1), om 10 20] none [1, 5, 8, 9, 10]))))
def xf_tally_turned_Ballot_ballot : XFunc := ⟨none, true, 2, [.tmp 4], (rs [o 4 (.mv (.c (.nil 175 6 false)))] [0, 1]
 (rs [o 5 (.mv (.c (.nil 175 6 false)))] [0, 1, 5]
 (.seq (rs [om 8 0, o 9 (le 8), o 10 (.mv (j 0))] [1, 5, 8, 9, 10]
 (.block 0 (.loop xf_tally_turned_Ballot_ballot_k0 xf_tally_turned_Ballot_ballot_b0)))
 (rs [om 21 5, om 4 21] [4]
 (.ret [4])))))⟩

def xf_tally_toBallot : XFunc := ⟨none, true, 1, [.cell 2 (some 6)], (rs [o 1 (bx 0), o 2 (.alloc l2)] [1, 2]
 (rs [ol 3 6 1, p (t 6 2 3)] [2]
 (.ret [2])))⟩

def xf_tally_box_ballot_prune_k0 : List (Nat × Option (Nat × Nat × Bool)) := [(1, none), (5, some (175, 6, false)), (10, some (175, 6, false)), (11, none), (12, none)]
def xf_tally_box_ballot_prune_b0 : XCode := (rs [o 13 (bl 12 11)] [1, 5, 10, 11, 12, 13]
 (.seq (.cond (.s 13) .skip (.exit 0 [5]))
 (.seq (.block 1 (rs [o 14 (ia 6 10 12), ol 15 6 14, o 7 (.alloc l2), p (t 6 7 15)] [1, 5, 7, 10, 11, 12]
 (rs [ol 16 6 7, o 17 (.mkifc 175 (.s 16)), o 18 (.inv [(157, 141), (166, 146), (175, 149), (184, 154)] (.s 17) []), om 8 18] [1, 5, 7, 8, 10, 11, 12]
 (sp (some [(11, 14), (11, 15)]) [am 19 8, a 20 (blj 19 0), am 21 20, d 22 (m 8) 21, d 23 (m 1) 21, d 24 (le 23) 21, d 25 (bh 22 24) 21, a 26 (ko 21 25), am 27 26, d 28 (l 6 7) 27, d 29 (.mkifc 175 (.s 28)) 27, r 30 (.inv [(157, 139), (166, 144), (175, 148), (184, 152)] (.s 29) []) 27, d 31 (m 1) 27, d 32 (m 8) 27, r 33 (ia 2 31 32) 27, r 34 (l 2 33) 27, r 35 (c 60 [30, 34]) 27, r 36 (bhj 35 0) 27, a 37 (ko 27 36)] [1, 5, 7, 10, 11, 12, 37]
 (.cond (.s 37) (.reg [om 38 5, ol 39 6 7, o 40 (.mkifc 175 (.s 39)), o 41 (.inv [(157, 140), (166, 145), (175, 120), (184, 153)] (.s 40) []), o 42 (.bsl 175 6 false 1 l2 [(0, 6, (.s 41))]), o 43 (.app 175 6 64 false (.s 38) (.s 42)), om 5 43] none [1, 5, 10, 11, 12]) .skip)))))
 (.reg [o 44 (baj 12 1), om 12 44] none [1, 5, 10, 11, 12]))))
def xf_tally_box_ballot_prune : XFunc := ⟨none, true, 2, [.tmp 4], (rs [o 2 (bx 0), o 4 (.mv (.c (.nil 175 6 false)))] [1, 2]
 (rs [o 5 (.mv (.c (.nil 175 6 false)))] [1, 2, 5]
 (.seq (rs [of 9 0 2, o 10 (k 9), o 11 (le 10), o 12 (.mv (j 0))] [1, 5, 10, 11, 12]
 (.block 0 (.loop xf_tally_box_ballot_prune_k0 xf_tally_box_ballot_prune_b0)))
 (rs [om 45 5, om 4 45] [4]
 (.ret [4])))))⟩

def xf_tally_fromBallot : XFunc := ⟨none, true, 1, [.cell 2 (some 6)], (rs [o 1 (bx 0), o 2 (.alloc l2)] [1, 2]
 (rs [ol 3 6 1, p (t 6 2 3)] [2]
 (.ret [2])))⟩

def xf_tally_turned_answer_Answer_k0 : List (Nat × Option (Nat × Nat × Bool)) := [(1, none), (5, some (110, 6, false)), (8, some (184, 6, false)), (9, none), (10, none)]
def xf_tally_turned_answer_Answer_b0 : XCode := (rs [o 11 (bl 10 9)] [1, 5, 8, 9, 10, 11]
 (.seq (.cond (.s 11) .skip (.exit 0 [5]))
 (.seq (.block 1 (rs [o 12 (ia 6 8 10), ol 13 6 12, o 7 (.alloc l2), p (t 6 7 13)] [1, 5, 7, 8, 9, 10]
 (.reg [om 14 5, om 15 1, ol 16 6 7, o 17 (.call (.s 15) [(.s 16)]), o 18 (.bsl 110 6 false 1 l2 [(0, 6, (.s 17))]), o 19 (.app 110 6 64 false (.s 14) (.s 18)), om 5 19] none [1, 5, 8, 9, 10])))
 (.reg [o 20 (baj 10 1), om 10 20] none [1, 5, 8, 9, 10]))))
def xf_tally_turned_answer_Answer : XFunc := ⟨none, true, 2, [.tmp 4], (rs [o 4 (.mv (.c (.nil 110 6 false)))] [0, 1]
 (rs [o 5 (.mv (.c (.nil 110 6 false)))] [0, 1, 5]
 (.seq (rs [om 8 0, o 9 (le 8), o 10 (.mv (j 0))] [1, 5, 8, 9, 10]
 (.block 0 (.loop xf_tally_turned_answer_Answer_k0 xf_tally_turned_answer_Answer_b0)))
 (rs [om 21 5, om 4 21] [4]
 (.ret [4])))))⟩

def xf_tally_turned_Answer_answer_k0 : List (Nat × Option (Nat × Nat × Bool)) := [(1, none), (5, some (184, 6, false)), (8, some (110, 6, false)), (9, none), (10, none)]
def xf_tally_turned_Answer_answer_b0 : XCode := (rs [o 11 (bl 10 9)] [1, 5, 8, 9, 10, 11]
 (.seq (.cond (.s 11) .skip (.exit 0 [5]))
 (.seq (.block 1 (rs [o 12 (ia 6 8 10), ol 13 6 12, o 7 (.alloc l2), p (t 6 7 13)] [1, 5, 7, 8, 9, 10]
 (.reg [om 14 5, om 15 1, ol 16 6 7, o 17 (.call (.s 15) [(.s 16)]), o 18 (.bsl 184 6 false 1 l2 [(0, 6, (.s 17))]), o 19 (.app 184 6 64 false (.s 14) (.s 18)), om 5 19] none [1, 5, 8, 9, 10])))
 (.reg [o 20 (baj 10 1), om 10 20] none [1, 5, 8, 9, 10]))))
def xf_tally_turned_Answer_answer : XFunc := ⟨none, true, 2, [.tmp 4], (rs [o 4 (.mv (.c (.nil 184 6 false)))] [0, 1]
 (rs [o 5 (.mv (.c (.nil 184 6 false)))] [0, 1, 5]
 (.seq (rs [om 8 0, o 9 (le 8), o 10 (.mv (j 0))] [1, 5, 8, 9, 10]
 (.block 0 (.loop xf_tally_turned_Answer_answer_k0 xf_tally_turned_Answer_answer_b0)))
 (rs [om 21 5, om 4 21] [4]
 (.ret [4])))))⟩

def xf_tally_toAnswer : XFunc := ⟨none, true, 1, [.cell 2 (some 6)], (rs [o 1 (bx 0), o 2 (.alloc l2)] [1, 2]
 (rs [ol 3 6 1, p (t 6 2 3)] [2]
 (.ret [2])))⟩

def xf_tally_box_answer_prune_k0 : List (Nat × Option (Nat × Nat × Bool)) := [(1, none), (5, some (184, 6, false)), (10, some (184, 6, false)), (11, none), (12, none)]
def xf_tally_box_answer_prune_b0 : XCode := (rs [o 13 (bl 12 11)] [1, 5, 10, 11, 12, 13]
 (.seq (.cond (.s 13) .skip (.exit 0 [5]))
 (.seq (.block 1 (rs [o 14 (ia 6 10 12), ol 15 6 14, o 7 (.alloc l2), p (t 6 7 15)] [1, 5, 7, 10, 11, 12]
 (rs [ol 16 6 7, o 17 (.mkifc 184 (.s 16)), o 18 (.inv [(157, 141), (166, 146), (175, 149), (184, 154)] (.s 17) []), om 8 18] [1, 5, 7, 8, 10, 11, 12]
 (sp (some [(11, 14), (11, 15)]) [am 19 8, a 20 (blj 19 0), am 21 20, d 22 (m 8) 21, d 23 (m 1) 21, d 24 (le 23) 21, d 25 (bh 22 24) 21, a 26 (ko 21 25), am 27 26, d 28 (l 6 7) 27, d 29 (.mkifc 184 (.s 28)) 27, r 30 (.inv [(157, 139), (166, 144), (175, 148), (184, 152)] (.s 29) []) 27, d 31 (m 1) 27, d 32 (m 8) 27, r 33 (ia 2 31 32) 27, r 34 (l 2 33) 27, r 35 (c 60 [30, 34]) 27, r 36 (bhj 35 0) 27, a 37 (ko 27 36)] [1, 5, 7, 10, 11, 12, 37]
 (.cond (.s 37) (.reg [om 38 5, ol 39 6 7, o 40 (.mkifc 184 (.s 39)), o 41 (.inv [(157, 140), (166, 145), (175, 120), (184, 153)] (.s 40) []), o 42 (.bsl 184 6 false 1 l2 [(0, 6, (.s 41))]), o 43 (.app 184 6 64 false (.s 38) (.s 42)), om 5 43] none [1, 5, 10, 11, 12]) .skip)))))
 (.reg [o 44 (baj 12 1), om 12 44] none [1, 5, 10, 11, 12]))))
def xf_tally_box_answer_prune : XFunc := ⟨none, true, 2, [.tmp 4], (rs [o 2 (bx 0), o 4 (.mv (.c (.nil 184 6 false)))] [1, 2]
 (rs [o 5 (.mv (.c (.nil 184 6 false)))] [1, 2, 5]
 (.seq (rs [of 9 0 2, o 10 (k 9), o 11 (le 10), o 12 (.mv (j 0))] [1, 5, 10, 11, 12]
 (.block 0 (.loop xf_tally_box_answer_prune_k0 xf_tally_box_answer_prune_b0)))
 (rs [om 45 5, om 4 45] [4]
 (.ret [4])))))⟩

def xf_tally_fromAnswer : XFunc := ⟨none, true, 1, [.cell 2 (some 6)], (rs [o 1 (bx 0), o 2 (.alloc l2)] [1, 2]
 (rs [ol 3 6 1, p (t 6 2 3)] [2]
 (.ret [2])))⟩

def xf_change_step_later : XFunc := ⟨none, false, 1, [.tmp 2], (rs [o 2 (.mv (.c w))] [0]
 (.seq (sp (some []) [am 3 0, a 4 (nc 3), a 5 (f 17 4), a 6 (f 2 5), a 7 (k 6), am 8 0, a 9 (nc 8), a 10 (f 0 9), a 11 (f 4 10), a 12 (f 2 11), a 13 (k 12), a 14 (bl 7 13), am 15 14, d 16 (m 0) 15, r 17 (nc 16) 15, r 18 (f 17 17) 15, r 19 (f 2 18) 15, r 20 (k 19) 15, d 21 (m 0) 15, r 22 (nc 21) 15, r 23 (f 0 22) 15, r 24 (f 4 23) 15, r 25 (f 2 24) 15, r 26 (k 25) 15, r 27 (q 20 26) 15, r 28 (m 27) 15, bb 29 0 28, u 30 (nc 29) 28, u 31 (f 0 30) 28, u 32 (f 4 31) 28, u 33 (f 1 32) 28, u 34 (k 33) 28, u 35 (qj 34 1) 28, r 36 (ka 28 35) 15, a 37 (ko 15 36)] [0, 37]
 (.cond (.s 37) (rs [o 2 (.mv (.c w))] [2]
 (.ret [2])) .skip))
 (.seq (rp (some []) [om 38 0, o 39 (nc 38), of 40 17 39, of 41 2 40, o 42 (k 41), om 43 0, o 44 (nc 43), of 45 0 44, of 46 4 45, of 47 2 46, o 48 (k 47), o 49 (bg 42 48)] [0, 49]
 (.cond (.s 49) (.reg [om 50 0, o 51 (nc 50), of 52 0 51, om 53 0, o 54 (nc 53), of 55 17 54, of 56 2 55, o 57 (k 56), o 58 (c 27 [52, 57])] (some []) []) .skip))
 (rs [o 2 (.mv (.c v))] [2]
 (.ret [2])))))⟩

def xf_tally_PutMark : XFunc := ⟨none, true, 2, [.tmp 4], (rs [o 3 (bx 1), o 4 (.mv (.c (.nil 108 3 true)))] [0, 3]
 (rp (some [(1, 3)]) [om 5 0, o 6 (.call (fc 93) [(.s 5), (.c (.fn (.func 94) [] []))]), o 7 (.build [(.nil 166 3 true)] [(0, 1, (.s 6))]), ol 8 3 3, o 9 (c 118 [7, 8]), o 10 (.call (fc 92) [(.s 9), (.c (.fn (.func 96) [] []))]), om 4 10] [4]
 (.ret [4])))⟩

def xf_tally_PutBallot : XFunc := ⟨none, true, 2, [.tmp 4], (rs [o 3 (bx 1), o 4 (.mv (.c (.nil 85 6 false)))] [0, 3]
 (rp (some [(1, 3)]) [om 5 0, o 6 (.call (fc 98) [(.s 5), (.c (.fn (.func 99) [] []))]), o 7 (.build [(.nil 175 6 false)] [(0, 1, (.s 6))]), ol 8 6 3, o 9 (c 119 [7, 8]), o 10 (.call (fc 97) [(.s 9), (.c (.fn (.func 101) [] []))]), om 4 10] [4]
 (.ret [4])))⟩

def xf_tally_Choose_k0 : List (Nat × Option (Nat × Nat × Bool)) := [(6, none), (8, none), (9, none), (21, some (85, 6, false)), (22, none), (23, none)]
def xf_tally_Choose_b0 : XCode := (rs [o 24 (bl 23 22)] [6, 8, 9, 21, 22, 23, 24]
 (.seq (.cond (.s 24) .skip (.exit 0 [6, 8, 9]))
 (.seq (.block 1 (rs [o 25 (ia 6 21 23), ol 26 6 25, o 11 (.alloc l2), p (t 6 11 26)] [6, 8, 9, 11, 21, 22, 23]
 (rs [om 27 9, of 28 4 11, o 29 (k 28), o 30 (.mm true (.s 27) (.s 29)), om 9 30] [6, 8, 9, 11, 21, 22, 23]
 (ss [a 31 (f 3 11), a 32 (k 31), a 33 (f 3 8), a 34 (k 33), a 35 (bg 32 34), am 36 35, d 37 (f 3 11) 36, d 38 (k 37) 36, d 39 (f 3 8) 36, d 40 (k 39) 36, d 41 (q 38 40) 36, d 42 (m 41) 36, b 43 (f 5 11) 42, b 44 (k 43) 42, b 45 (le 44) 42, b 46 (f 5 8) 42, b 47 (k 46) 42, b 48 (le 47) 42, b 49 (bg 45 48) 42, bb 50 49 42, d 51 (f 5 11) 50, d 52 (k 51) 50, d 53 (le 52) 50, d 54 (f 5 8) 50, d 55 (k 54) 50, d 56 (le 55) 50, d 57 (q 53 56) 50, d 58 (m 57) 50, b 59 (f 0 11) 58, b 60 (k 59) 58, b 61 (f 0 8) 58, b 62 (k 61) 58, b 63 (bl 60 62) 58, d 64 (ka 58 63) 50, b 65 (ko 50 64) 42, d 66 (ka 42 65) 36, a 67 (ko 36 66)] [6, 8, 9, 11, 21, 22, 23, 67]
 (.cond (.s 67) (.reg [ol 68 6 11, p (t 6 8 68)] none [6, 8, 9, 21, 22, 23]) .skip)))))
 (.reg [o 69 (baj 23 1), om 23 69] none [6, 8, 9, 21, 22, 23]))))
def xf_tally_Choose : XFunc := ⟨none, true, 3, [.cell 6 (some 6), .tmp 7], (rs [o 4 (bx 1), o 6 (.alloc l2), o 7 (.mv (j 0))] [0, 2, 4, 6]
 (.seq (rs [om 13 2, o 14 (le 13), om 15 0, o 16 (bl 14 15)] [2, 4, 6, 16]
 (.cond (.s 16) (rs [o 17 (.build l2 []), p (t 6 6 17), o 7 (.mv (j 81))] [6, 7]
 (.ret [6, 7])) .skip))
 (rp (some [(0, 3), (2, 3), (2, 4)]) [ol 18 6 4, of 19 4 4, o 20 (k 19), o 8 (.alloc l2), p (t 6 8 18), om 9 20] [2, 6, 8, 9]
 (.seq (rs [om 21 2, o 22 (le 21), o 23 (.mv (j 0))] [6, 8, 9, 21, 22, 23]
 (.block 0 (.loop xf_tally_Choose_k0 xf_tally_Choose_b0)))
 (rs [ol 70 6 8, o 71 (c 120 [70]), o 12 (.alloc l2), p (t 6 12 71)] [6, 8, 9, 12]
 (rs [om 72 9, of 73 5 8, o 74 (k 73), o 75 (le 74), o 76 (.mm false (.s 72) (.s 75)), o 77 (.mm true (j 0) (.s 76)), of 78 4 12, p (t 1 78 77)] [6, 12]
 (rs [ol 79 6 12, p (t 6 6 79), o 7 (.mv (j 0))] [6, 7]
 (.ret [6, 7]))))))))⟩

def xf_change_step_lead : XFunc := ⟨none, false, 2, [], (rs [o 3 (bx 1)] [0, 3]
 (rs [om 7 0, o 8 (nc 7), of 9 0 8, o 10 (c 47 [9])] [0, 3]
 (rp (some [(11, 16), (11, 21), (11, 26)]) [om 11 0, om 12 0, om 13 0, om 14 0, om 15 0, o 16 (nc 15), of 17 0 16, of 18 4 17, of 19 2 18, o 20 (k 19), of 21 5 3, o 22 (k 21), o 23 (nc 11), of 24 0 23, of 25 4 24, of 26 1 25, p (.store 1 (.s 26) (j 1)), o 27 (nc 12), of 28 0 27, of 29 4 28, of 30 3 29, p (t 1 30 20), o 31 (nc 13), of 32 0 31, of 33 4 32, of 34 7 33, p (.store 1 (.s 34) (j 0)), o 35 (nc 14), of 36 0 35, of 37 4 36, of 38 4 37, p (t 1 38 22)] [0, 3]
 (rp (some []) [om 39 0, om 40 0, o 41 (nc 40), of 42 0 41, of 43 4 42, of 44 5 43, o 45 (k 44), of 46 5 3, o 47 (k 46), o 48 (le 47), o 49 (.mm false (.s 45) (.s 48)), o 50 (nc 39), of 51 0 50, of 52 4 51, of 53 5 52, p (t 1 53 49)] [0, 3]
 (rp (some []) [om 54 0, o 55 (nc 54), of 56 0 55, om 57 0, o 58 (nc 57), of 59 0 58, of 60 4 59, of 61 2 60, o 62 (k 61), of 63 5 3, o 64 (k 63), of 65 4 3, o 66 (k 65), o 67 (.build l4 [(0, 1, (j 8)), (2, 1, (.s 62)), (16, 1, (.s 64)), (12, 1, (.s 66))]), o 68 (c 23 [56, 67])] [0, 3]
 (rp (some [(4, 17), (9, 17), (11, 17), (12, 17)]) [om 70 0, o 71 (nc 70), of 72 0 71, of 73 0 72, ol 74 4 73, om 75 0, o 76 (nc 75), of 77 0 76, of 78 4 77, ol 79 12 78, of 80 4 3, o 81 (k 80), o 82 (c 26 [74, 79, 81]), om 69 82, o 83 (e 69 0), o 84 (e 69 1), o 85 (e 69 2), o 4 (.alloc l1), p (t 12 4 83), om 5 84, om 6 85] [0, 4, 5]
 (rs [om 86 0, ol 87 12 4, o 88 (nc 86), of 89 0 88, of 90 4 89, p (t 12 90 87)] [0, 5]
 (.reg [om 91 0, om 92 0, o 93 (nc 92), of 94 0 93, of 95 16 94, o 96 (k 95), om 97 5, o 98 (.app 62 19 200 false (.s 96) (.s 97)), o 99 (nc 91), of 100 0 99, of 101 16 100, p (t 1 101 98)] none []))))))))⟩

def xf_client_entry : XFunc := ⟨none, true, 2, [.tmp 4], (rs [o 4 (.mv (j 0))] [0, 1]
 (.seq (ss [am 5 0, a 6 (blj 5 0), am 7 6, d 8 (m 0) 7, d 9 (bhj 8 16) 7, a 10 (ko 7 9)] [1, 10]
 (.cond (.s 10) (rs [o 4 (.mv (j 62))] [4]
 (.ret [4])) .skip))
 (.seq (rs [om 11 1, o 12 (blj 11 1)] [12]
 (.cond (.s 12) (rs [o 4 (.mv (j 63))] [4]
 (.ret [4])) .skip))
 (rs [o 4 (.mv (j 0))] [4]
 (.ret [4])))))⟩

def xf_ledger_New : XFunc := ⟨none, false, 0, [.tmp 0], (rs [o 0 (.mv (.c (.dat .nilp)))] []
 (rs [o 1 .mkmap, o 2 (.build [(.dat .nilm), z] [(0, 1, (.s 1))]), o 3 (bx 2), om 0 3] [0]
 (.ret [0])))⟩

def xf_ledger_Ledger_Do : XFunc := ⟨none, false, 2, [.cell 4 (some 3)], (rs [o 3 (bx 1), o 4 (.alloc l10)] [0, 3, 4]
 (rs [om 6 0, ol 7 3 3, o 8 (c 121 [6, 7]), o 5 (.alloc l10), p (t 3 5 8)] [0, 4, 5]
 (.seq (rs [of 9 0 5, o 10 (k 9), o 11 (qj 10 1)] [0, 4, 5, 11]
 (.cond (.s 11) (.reg [om 12 0, of 13 1 5, o 14 (k 13), of 15 2 5, o 16 (k 15), o 17 (c 122 [12, 14, 16])] none [4, 5]) .skip))
 (rs [ol 18 3 5, p (t 3 4 18)] [4]
 (.ret [4])))))⟩

def xf_ref04_Check : XFunc := ⟨none, true, 1, [.tmp 2], (rs [o 1 (bx 0), o 2 (.mv (j 0))] [1]
 (rs [of 7 0 1, o 8 (k 7), o 9 (qj 8 1), om 3 9] [1, 3]
 (rs [of 10 0 1, o 11 (k 10), o 12 (qj 11 2), om 4 12] [1, 3, 4]
 (rs [of 13 0 1, o 14 (k 13), o 15 (qj 14 3), om 5 15] [1, 3, 4, 5]
 (rs [of 16 0 1, o 17 (k 16), o 18 (qj 17 4), om 6 18] [1, 3, 4, 5, 6]
 (.seq (ss [am 19 3, a 20 (nt 19), am 21 20, bb 22 4 21, b 23 (nt 22) 21, a 24 (ka 21 23), am 25 24, bb 26 5 25, b 27 (nt 26) 25, a 28 (ka 25 27), am 29 28, bb 30 6 29, b 31 (nt 30) 29, a 32 (ka 29 31)] [1, 3, 4, 5, 6, 32]
 (.cond (.s 32) (rs [o 2 (.mv (j 40))] [2]
 (.ret [2])) .skip))
 (.seq (ss [am 33 3, am 34 33, d 35 (m 5) 34, a 36 (ko 34 35), am 37 36, b 38 (f 1 1) 37, b 39 (k 38) 37, b 40 (blj 39 0) 37, bb 41 40 37, d 42 (f 1 1) 41, d 43 (k 42) 41, d 44 (bhj 43 1024) 41, b 45 (ko 41 44) 37, a 46 (ka 37 45), am 47 46, d 48 (m 4) 47, d 49 (m 48) 47, d 50 (m 6) 49, d 51 (ko 49 50) 47, d 52 (m 51) 47, b 53 (f 1 1) 52, b 54 (k 53) 52, b 55 (nj 54 0) 52, d 56 (ka 52 55) 47, a 57 (ko 47 56)] [1, 3, 4, 5, 6, 57]
 (.cond (.s 57) (rs [o 2 (.mv (j 41))] [2]
 (.ret [2])) .skip))
 (.seq (ss [am 58 3, am 59 58, d 60 (m 4) 59, a 61 (ko 59 60), am 62 61, b 63 (f 2 1) 62, b 64 (k 63) 62, b 65 (.len true (.s 64)) 62, b 66 (bgj 65 64) 62, a 67 (ka 62 66), am 68 67, d 69 (m 5) 68, d 70 (m 69) 68, d 71 (m 6) 70, d 72 (ko 70 71) 68, d 73 (m 72) 68, b 74 (f 2 1) 73, b 75 (k 74) 73, b 76 (.eqv true false [.s] (.s 75) (.c x)) 73, d 77 (ka 73 76) 68, a 78 (ko 68 77)] [78]
 (.cond (.s 78) (rs [o 2 (.mv (j 42))] [2]
 (.ret [2])) .skip))
 (rs [o 2 (.mv (j 0))] [2]
 (.ret [2]))))))))))⟩

def xf_oplog_joined : XFunc := ⟨none, true, 2, [.tmp 4], (rs [o 4 (.mv (.c (.nil 50 5 true)))] [0, 1]
 (rs [om 6 0, o 7 (le 6), om 8 1, o 9 (le 8), o 10 (ba 7 9), o 11 (.mksl 50 5 48 true [z, z, z, z, x] (.s 10) (.s 10)), om 5 11] [0, 1, 5]
 (rs [om 12 5, om 13 0, o 14 (.cpy 5 (.s 12) (.s 13))] [0, 1, 5]
 (rs [om 15 5, om 16 0, o 17 (le 16), o 18 (.slice 5 (.s 15) (some (.s 17)) none), om 19 1, o 20 (.cpy 5 (.s 18) (.s 19))] [5]
 (rs [om 21 5, om 4 21] [4]
 (.ret [4]))))))⟩

def xf_oplog_Each_1_k0 : List (Nat × Option (Nat × Nat × Bool)) := [(0, none), (2, none), (4, none)]
def xf_oplog_Each_1_b0 : XCode := (.seq (rs [om 8 4, o 9 (k 2), o 10 (le 9), o 11 (bl 8 10)] [0, 2, 4, 11]
 (.cond (.s 11) .skip (.exit 0 [])))
 (.seq (.block 1 (rs [om 14 0, om 15 4, o 16 (baj 15 1), o 17 (k 2), om 18 4, o 19 (ia 5 17 18), ol 20 5 19, o 21 (.call (.s 14) [(.s 16), (.s 20)]), o 22 (nt 21)] [0, 2, 4, 22]
 (.cond (.s 22) (.ret []) .skip)))
 (.reg [om 12 4, o 13 (baj 12 1), om 4 13] none [0, 2, 4])))
def xf_oplog_Each_1 : XFunc := ⟨none, false, 1, [], (rs [o 5 (k 1), o 6 (.mm true (.s 5) (j 1)), o 7 (bsj 6 1), om 4 7] [0, 2, 4]
 (.block 0 (.loop xf_oplog_Each_1_k0 xf_oplog_Each_1_b0)))⟩

def xf_tally_box_mark_put_k0 : List (Nat × Option (Nat × Nat × Bool)) := [(2, none), (3, none), (5, none), (6, none), (19, some (166, 3, true)), (20, none), (21, none)]
def xf_tally_box_mark_put_b0 : XCode := (rs [o 22 (bl 21 20)] [2, 3, 5, 6, 19, 20, 21, 22]
 (.seq (.cond (.s 22) .skip (.exit 0 [2, 3, 5, 6]))
 (.seq (.block 1 (rs [om 23 21, o 24 (ia 3 19 21), ol 25 3 24, o 8 (.alloc l7), om 7 23, p (t 3 8 25)] [2, 3, 5, 6, 7, 8, 19, 20, 21]
 (rp (some [(2, 3)]) [ol 26 3 8, o 27 (.mkifc 166 (.s 26)), o 28 (.inv [(157, 141), (166, 146), (175, 149), (184, 154)] (.s 27) []), ol 29 3 3, o 30 (.mkifc 166 (.s 29)), o 31 (.inv [(157, 141), (166, 146), (175, 149), (184, 154)] (.s 30) []), o 32 (q 28 31)] [2, 3, 5, 6, 7, 19, 20, 21, 32]
 (.cond (.s 32) (rs [om 33 7, om 5 33, o 6 (.mv (.c v))] [2, 3, 5, 6]
 (.exit 0 [2, 3, 5, 6])) .skip))))
 (.reg [o 34 (baj 21 1), om 21 34] none [2, 3, 5, 6, 19, 20, 21]))))
def xf_tally_box_mark_put_k1 : List (Nat × Option (Nat × Nat × Bool)) := [(2, none), (3, none), (5, none), (6, none), (38, some (166, 3, true)), (39, none), (40, none)]
def xf_tally_box_mark_put_b1 : XCode := (rs [o 41 (bl 40 39)] [2, 3, 5, 6, 38, 39, 40, 41]
 (.seq (.cond (.s 41) .skip (.exit 2 [2, 3, 5, 6]))
 (.seq (.block 3 (rs [om 42 40, o 43 (ia 3 38 40), ol 44 3 43, o 10 (.alloc l7), om 9 42, p (t 3 10 44)] [2, 3, 5, 6, 9, 10, 38, 39, 40]
 (rp (some [(2, 3)]) [ol 45 3 10, o 46 (.mkifc 166 (.s 45)), o 47 (.inv [(157, 141), (166, 146), (175, 149), (184, 154)] (.s 46) []), ol 48 3 3, o 49 (.mkifc 166 (.s 48)), o 50 (.inv [(157, 141), (166, 146), (175, 149), (184, 154)] (.s 49) []), o 51 (bg 47 50)] [2, 3, 5, 6, 9, 38, 39, 40, 51]
 (.cond (.s 51) (rs [om 52 9, om 5 52] [2, 3, 5, 6]
 (.exit 2 [2, 3, 5, 6])) .skip))))
 (.reg [o 53 (baj 40 1), om 40 53] none [2, 3, 5, 6, 38, 39, 40]))))
def xf_tally_box_mark_put_k2 : List (Nat × Option (Nat × Nat × Bool)) := [(2, none), (3, none), (5, none), (6, none), (11, some (166, 3, true)), (55, some (166, 3, true)), (56, none), (57, none)]
def xf_tally_box_mark_put_b2 : XCode := (rs [o 58 (bl 57 56)] [2, 3, 5, 6, 11, 55, 56, 57, 58]
 (.seq (.cond (.s 58) .skip (.exit 4 [2, 3, 5, 11]))
 (.seq (.block 5 (rs [om 59 57, o 60 (ia 3 55 57), ol 61 3 60, o 13 (.alloc l7), om 12 59, p (t 3 13 61)] [2, 3, 5, 6, 11, 12, 13, 55, 56, 57]
 (.seq (ss [am 62 12, am 63 5, a 64 (q 62 63), am 65 64, bb 66 6 65, a 67 (ka 65 66)] [2, 3, 5, 6, 11, 12, 13, 55, 56, 57, 67]
 (.cond (.s 67) (rp (some [(2, 3)]) [ol 68 3 3, o 69 (.mkifc 166 (.s 68)), o 70 (.inv [(157, 139), (166, 144), (175, 148), (184, 152)] (.s 69) []), ol 71 3 13, o 72 (.mkifc 166 (.s 71)), o 73 (.inv [(157, 139), (166, 144), (175, 148), (184, 152)] (.s 72) []), o 74 (c 60 [70, 73]), om 14 74] [2, 3, 5, 6, 11, 13, 14, 55, 56, 57]
 (rs [om 75 14, o 76 (bgj 75 0), om 77 76, h 78 (m 14) 77, h 79 (qj 78 0) 77, h 80 (m 79) 77, g 81 (l 3 3) 80, g 82 (.mkifc 166 (.s 81)) 80, g 83 (l 3 13) 80, g 84 (.inv [(157, 138), (166, 143), (175, 147), (184, 151)] (.s 82) [(.s 83)]) 80, h 85 (ka 80 84) 77, o 86 (ko 77 85)] [2, 3, 5, 6, 11, 13, 55, 56, 57, 86]
 (.cond (.s 86) (.reg [ol 87 3 3, p (t 3 13 87)] none [2, 3, 5, 6, 11, 13, 55, 56, 57]) .skip))) (rs [om 88 12, om 89 5, o 90 (q 88 89)] [2, 3, 5, 6, 11, 13, 55, 56, 57, 90]
 (.cond (.s 90) (.reg [om 91 11, ol 92 3 3, o 93 (.mkifc 166 (.s 92)), o 94 (.inv [(157, 140), (166, 145), (175, 120), (184, 153)] (.s 93) []), o 95 (.bsl 166 3 true 1 l7 [(0, 3, (.s 94))]), o 96 (.app 166 3 24 true (.s 91) (.s 95)), om 11 96] none [2, 3, 5, 6, 11, 13, 55, 56, 57]) .skip))))
 (.reg [om 97 11, ol 98 3 13, o 99 (.mkifc 166 (.s 98)), o 100 (.inv [(157, 140), (166, 145), (175, 120), (184, 153)] (.s 99) []), o 101 (.bsl 166 3 true 1 l7 [(0, 3, (.s 100))]), o 102 (.app 166 3 24 true (.s 97) (.s 101)), om 11 102] none [2, 3, 5, 6, 11, 55, 56, 57]))))
 (.reg [o 103 (baj 57 1), om 57 103] none [2, 3, 5, 6, 11, 55, 56, 57]))))
def xf_tally_box_mark_put : XFunc := ⟨none, true, 2, [.tmp 4], (rs [o 2 (bx 0), o 3 (bx 1), o 4 (.mv (.c (.nil 166 3 true)))] [2, 3]
 (rs [of 15 0 2, o 16 (k 15), o 17 (le 16), om 5 17, o 6 (.mv (.c w))] [2, 3, 5, 6]
 (.seq (rs [of 18 0 2, o 19 (k 18), o 20 (le 19), o 21 (.mv (j 0))] [2, 3, 5, 6, 19, 20, 21]
 (.block 0 (.loop xf_tally_box_mark_put_k0 xf_tally_box_mark_put_b0)))
 (.seq (rs [om 35 6, o 36 (nt 35)] [2, 3, 5, 6, 36]
 (.cond (.s 36) (rs [of 37 0 2, o 38 (k 37), o 39 (le 38), o 40 (.mv (j 0))] [2, 3, 5, 6, 38, 39, 40]
 (.block 2 (.loop xf_tally_box_mark_put_k1 xf_tally_box_mark_put_b1))) .skip))
 (rs [o 11 (.mv (.c (.nil 166 3 true)))] [2, 3, 5, 6, 11]
 (.seq (rs [of 54 0 2, o 55 (k 54), o 56 (le 55), o 57 (.mv (j 0))] [2, 3, 5, 6, 11, 55, 56, 57]
 (.block 4 (.loop xf_tally_box_mark_put_k2 xf_tally_box_mark_put_b2)))
 (.seq (rs [om 104 5, of 105 0 2, o 106 (k 105), o 107 (le 106), o 108 (q 104 107)] [3, 11, 108]
 (.cond (.s 108) (.reg [om 109 11, ol 110 3 3, o 111 (.mkifc 166 (.s 110)), o 112 (.inv [(157, 140), (166, 145), (175, 120), (184, 153)] (.s 111) []), o 113 (.bsl 166 3 true 1 l7 [(0, 3, (.s 112))]), o 114 (.app 166 3 24 true (.s 109) (.s 113)), om 11 114] none [11]) .skip))
 (rs [om 115 11, om 4 115] [4]
 (.ret [4])))))))))⟩

def xf_tally_box_ballot_put_k0 : List (Nat × Option (Nat × Nat × Bool)) := [(2, none), (3, none), (5, none), (6, none), (19, some (175, 6, false)), (20, none), (21, none)]
def xf_tally_box_ballot_put_b0 : XCode := (rs [o 22 (bl 21 20)] [2, 3, 5, 6, 19, 20, 21, 22]
 (.seq (.cond (.s 22) .skip (.exit 0 [2, 3, 5, 6]))
 (.seq (.block 1 (rs [om 23 21, o 24 (ia 6 19 21), ol 25 6 24, o 8 (.alloc l2), om 7 23, p (t 6 8 25)] [2, 3, 5, 6, 7, 8, 19, 20, 21]
 (rp (some [(2, 3)]) [ol 26 6 8, o 27 (.mkifc 175 (.s 26)), o 28 (.inv [(157, 141), (166, 146), (175, 149), (184, 154)] (.s 27) []), ol 29 6 3, o 30 (.mkifc 175 (.s 29)), o 31 (.inv [(157, 141), (166, 146), (175, 149), (184, 154)] (.s 30) []), o 32 (q 28 31)] [2, 3, 5, 6, 7, 19, 20, 21, 32]
 (.cond (.s 32) (rs [om 33 7, om 5 33, o 6 (.mv (.c v))] [2, 3, 5, 6]
 (.exit 0 [2, 3, 5, 6])) .skip))))
 (.reg [o 34 (baj 21 1), om 21 34] none [2, 3, 5, 6, 19, 20, 21]))))
def xf_tally_box_ballot_put_k1 : List (Nat × Option (Nat × Nat × Bool)) := [(2, none), (3, none), (5, none), (6, none), (38, some (175, 6, false)), (39, none), (40, none)]
def xf_tally_box_ballot_put_b1 : XCode := (rs [o 41 (bl 40 39)] [2, 3, 5, 6, 38, 39, 40, 41]
 (.seq (.cond (.s 41) .skip (.exit 2 [2, 3, 5, 6]))
 (.seq (.block 3 (rs [om 42 40, o 43 (ia 6 38 40), ol 44 6 43, o 10 (.alloc l2), om 9 42, p (t 6 10 44)] [2, 3, 5, 6, 9, 10, 38, 39, 40]
 (rp (some [(2, 3)]) [ol 45 6 10, o 46 (.mkifc 175 (.s 45)), o 47 (.inv [(157, 141), (166, 146), (175, 149), (184, 154)] (.s 46) []), ol 48 6 3, o 49 (.mkifc 175 (.s 48)), o 50 (.inv [(157, 141), (166, 146), (175, 149), (184, 154)] (.s 49) []), o 51 (bg 47 50)] [2, 3, 5, 6, 9, 38, 39, 40, 51]
 (.cond (.s 51) (rs [om 52 9, om 5 52] [2, 3, 5, 6]
 (.exit 2 [2, 3, 5, 6])) .skip))))
 (.reg [o 53 (baj 40 1), om 40 53] none [2, 3, 5, 6, 38, 39, 40]))))
def xf_tally_box_ballot_put_k2 : List (Nat × Option (Nat × Nat × Bool)) := [(2, none), (3, none), (5, none), (6, none), (11, some (175, 6, false)), (55, some (175, 6, false)), (56, none), (57, none)]
def xf_tally_box_ballot_put_b2 : XCode := (rs [o 58 (bl 57 56)] [2, 3, 5, 6, 11, 55, 56, 57, 58]
 (.seq (.cond (.s 58) .skip (.exit 4 [2, 3, 5, 11]))
 (.seq (.block 5 (rs [om 59 57, o 60 (ia 6 55 57), ol 61 6 60, o 13 (.alloc l2), om 12 59, p (t 6 13 61)] [2, 3, 5, 6, 11, 12, 13, 55, 56, 57]
 (.seq (ss [am 62 12, am 63 5, a 64 (q 62 63), am 65 64, bb 66 6 65, a 67 (ka 65 66)] [2, 3, 5, 6, 11, 12, 13, 55, 56, 57, 67]
 (.cond (.s 67) (rp (some [(2, 3)]) [ol 68 6 3, o 69 (.mkifc 175 (.s 68)), o 70 (.inv [(157, 139), (166, 144), (175, 148), (184, 152)] (.s 69) []), ol 71 6 13, o 72 (.mkifc 175 (.s 71)), o 73 (.inv [(157, 139), (166, 144), (175, 148), (184, 152)] (.s 72) []), o 74 (c 60 [70, 73]), om 14 74] [2, 3, 5, 6, 11, 13, 14, 55, 56, 57]
 (rs [om 75 14, o 76 (bgj 75 0), om 77 76, h 78 (m 14) 77, h 79 (qj 78 0) 77, h 80 (m 79) 77, g 81 (l 6 3) 80, g 82 (.mkifc 175 (.s 81)) 80, g 83 (l 6 13) 80, g 84 (.inv [(157, 138), (166, 143), (175, 147), (184, 151)] (.s 82) [(.s 83)]) 80, h 85 (ka 80 84) 77, o 86 (ko 77 85)] [2, 3, 5, 6, 11, 13, 55, 56, 57, 86]
 (.cond (.s 86) (.reg [ol 87 6 3, p (t 6 13 87)] none [2, 3, 5, 6, 11, 13, 55, 56, 57]) .skip))) (rs [om 88 12, om 89 5, o 90 (q 88 89)] [2, 3, 5, 6, 11, 13, 55, 56, 57, 90]
 (.cond (.s 90) (.reg [om 91 11, ol 92 6 3, o 93 (.mkifc 175 (.s 92)), o 94 (.inv [(157, 140), (166, 145), (175, 120), (184, 153)] (.s 93) []), o 95 (.bsl 175 6 false 1 l2 [(0, 6, (.s 94))]), o 96 (.app 175 6 64 false (.s 91) (.s 95)), om 11 96] none [2, 3, 5, 6, 11, 13, 55, 56, 57]) .skip))))
 (.reg [om 97 11, ol 98 6 13, o 99 (.mkifc 175 (.s 98)), o 100 (.inv [(157, 140), (166, 145), (175, 120), (184, 153)] (.s 99) []), o 101 (.bsl 175 6 false 1 l2 [(0, 6, (.s 100))]), o 102 (.app 175 6 64 false (.s 97) (.s 101)), om 11 102] none [2, 3, 5, 6, 11, 55, 56, 57]))))
 (.reg [o 103 (baj 57 1), om 57 103] none [2, 3, 5, 6, 11, 55, 56, 57]))))
def xf_tally_box_ballot_put : XFunc := ⟨none, true, 2, [.tmp 4], (rs [o 2 (bx 0), o 3 (bx 1), o 4 (.mv (.c (.nil 175 6 false)))] [2, 3]
 (rs [of 15 0 2, o 16 (k 15), o 17 (le 16), om 5 17, o 6 (.mv (.c w))] [2, 3, 5, 6]
 (.seq (rs [of 18 0 2, o 19 (k 18), o 20 (le 19), o 21 (.mv (j 0))] [2, 3, 5, 6, 19, 20, 21]
 (.block 0 (.loop xf_tally_box_ballot_put_k0 xf_tally_box_ballot_put_b0)))
 (.seq (rs [om 35 6, o 36 (nt 35)] [2, 3, 5, 6, 36]
 (.cond (.s 36) (rs [of 37 0 2, o 38 (k 37), o 39 (le 38), o 40 (.mv (j 0))] [2, 3, 5, 6, 38, 39, 40]
 (.block 2 (.loop xf_tally_box_ballot_put_k1 xf_tally_box_ballot_put_b1))) .skip))
 (rs [o 11 (.mv (.c (.nil 175 6 false)))] [2, 3, 5, 6, 11]
 (.seq (rs [of 54 0 2, o 55 (k 54), o 56 (le 55), o 57 (.mv (j 0))] [2, 3, 5, 6, 11, 55, 56, 57]
 (.block 4 (.loop xf_tally_box_ballot_put_k2 xf_tally_box_ballot_put_b2)))
 (.seq (rs [om 104 5, of 105 0 2, o 106 (k 105), o 107 (le 106), o 108 (q 104 107)] [3, 11, 108]
 (.cond (.s 108) (.reg [om 109 11, ol 110 6 3, o 111 (.mkifc 175 (.s 110)), o 112 (.inv [(157, 140), (166, 145), (175, 120), (184, 153)] (.s 111) []), o 113 (.bsl 175 6 false 1 l2 [(0, 6, (.s 112))]), o 114 (.app 175 6 64 false (.s 109) (.s 113)), om 11 114] none [11]) .skip))
 (rs [om 115 11, om 4 115] [4]
 (.ret [4])))))))))⟩

def xf_tally_ballot_fresh : XFunc := ⟨none, true, 1, [.cell 2 (some 6)], (rs [o 1 (bx 0), o 2 (.alloc l2)] [1, 2]
 (rs [of 3 5 1, o 4 (k 3), o 5 (.app 50 5 48 true (.c (.nil 50 5 true)) (.s 4)), of 6 5 1, p (t 1 6 5)] [1, 2]
 (rs [ol 7 6 1, p (t 6 2 7)] [2]
 (.ret [2]))))⟩

def xf_ledger_Ledger_Would : XFunc := ⟨none, false, 2, [.cell 4 (some 3)], (rs [o 3 (bx 1), o 4 (.alloc l10)] [0, 3, 4]
 (.seq (ss [am 7 0, a 8 (.eqn false false (.s 7)), am 9 8, d 10 (l 3 3) 9, r 11 (c 82 [10]) 9, r 12 (nj 11 0) 9, a 13 (ko 9 12)] [0, 3, 4, 13]
 (.cond (.s 13) (rs [o 14 (.build l10 []), p (t 3 4 14)] [4]
 (.ret [4])) .skip))
 (rp (some [(3, 10), (5, 10), (6, 10)]) [om 16 0, o 17 (nc 16), of 18 0 17, o 19 (k 18), of 20 1 3, o 21 (k 20), o 22 (.mget true (.agg [(.str ⟨#[]⟩)]) (.s 19) (.s 21)), om 15 22, o 23 (e 15 0), o 24 (e 15 1), o 5 (.alloc [x]), p (t 1 5 23), om 6 24] [0, 3, 4, 5, 6]
 (.seq (rs [of 25 0 3, o 26 (k 25)] [0, 3, 4, 5, 6, 26]
 (.block 0 (rs [o 28 (qj 26 1), om 27 28] [0, 3, 4, 5, 6, 26, 27]
 (.cond (.s 27) (.seq (rs [om 29 6] [3, 4, 5, 29]
 (.cond (.s 29) (rs [of 30 1 3, o 31 (k 30), of 32 0 5, o 33 (k 32), o 34 (.build l10 [(0, 1, (j 2)), (1, 1, (.s 31)), (2, 1, (.s 33))]), p (t 3 4 34)] [4]
 (.ret [4])) .skip))
 (rs [of 35 1 3, o 36 (k 35), of 37 2 3, o 38 (k 37), o 39 (.build l10 [(0, 1, (j 1)), (1, 1, (.s 36)), (2, 1, (.s 38))]), p (t 3 4 39)] [4]
 (.ret [4]))) (rs [o 41 (qj 26 2), om 40 41] [0, 3, 4, 5, 6, 26, 40]
 (.cond (.s 40) (.seq (rs [om 42 0, o 43 (nc 42), of 44 1 43, o 45 (k 44), o 46 (qj 45 1024)] [0, 3, 4, 46]
 (.cond (.s 46) (rs [o 47 (.build l10 [(0, 1, (j 3))]), p (t 3 4 47)] [4]
 (.ret [4])) .skip))
 (rp (some []) [om 48 0, o 49 (nc 48), of 50 1 49, o 51 (k 50), of 52 2 3, o 53 (k 52), o 54 (.build l10 [(0, 1, (j 1)), (1, 1, (.s 51)), (2, 1, (.s 53))]), p (t 3 4 54)] [4]
 (.ret [4]))) (rs [o 56 (qj 26 3), om 55 56] [0, 3, 4, 5, 6, 55]
 (.cond (.s 55) (.seq (rs [om 57 6] [3, 4, 5, 57]
 (.cond (.s 57) (rs [of 58 1 3, o 59 (k 58), of 60 0 5, o 61 (k 60), o 62 (.build l10 [(0, 1, (j 4)), (1, 1, (.s 59)), (2, 1, (.s 61))]), p (t 3 4 62)] [4]
 (.ret [4])) .skip))
 (rs [of 63 1 3, o 64 (k 63), o 65 (.build l10 [(0, 1, (j 5)), (1, 1, (.s 64))]), p (t 3 4 65)] [4]
 (.ret [4]))) .skip))))))))
 (rs [om 66 0, o 67 (nc 66), of 68 0 67, o 69 (k 68), o 70 (.mlen (.s 69)), o 71 (.build l10 [(0, 1, (j 6)), (1, 1, (.s 70))]), p (t 3 4 71)] [4]
 (.ret [4]))))))⟩

def xf_ledger_Ledger_put : XFunc := ⟨none, false, 3, [], (.seq (rs [om 6 0, o 7 (nc 6), of 8 0 7, o 9 (k 8), o 10 (.eqm false (.s 9))] [0, 1, 2, 10]
 (.cond (.s 10) (.reg [om 11 0, o 12 .mkmap, o 13 (nc 11), of 14 0 13, p (t 1 14 12)] none [0, 1, 2]) .skip))
 (rs [om 15 0, o 16 (nc 15), of 17 0 16, o 18 (k 17), om 19 1, om 20 2, o 21 (.build [x] [(0, 1, (.s 20))]), p (.mput (.s 18) (.s 19) (.s 21))] [0, 1]
 (.reg [om 22 0, om 23 0, o 24 (nc 23), of 25 1 24, o 26 (k 25), om 27 1, o 28 (baj 27 1), o 29 (.mm true (.s 26) (.s 28)), o 30 (nc 22), of 31 1 30, p (t 1 31 29)] none [])))⟩

def xf_tally_ack_above : XFunc := ⟨none, true, 2, [.tmp 4], (rs [o 2 (bx 0), o 3 (bx 1), o 4 (.mv (.c w))] [2, 3]
 (rs [of 5 3 2, o 6 (k 5), of 7 3 3, o 8 (k 7), o 9 (bg 6 8), om 4 9] [4]
 (.ret [4])))⟩
theorem r_message_numbers : progT Tryz.prog 53 = some xf_message_numbers.plain := by kernel_rfl
theorem r_message_asks : progT Tryz.prog 54 = some xf_message_asks.plain := by kernel_rfl
theorem r_message_answers : progT Tryz.prog 55 = some xf_message_answers.plain := by kernel_rfl
theorem r_message_reads : progT Tryz.prog 56 = some xf_message_reads.plain := by kernel_rfl
theorem r_message_Between : progT Tryz.prog 58 = some xf_message_Between.plain := by kernel_rfl
theorem r_vector_Over : progT Tryz.prog 59 = some xf_vector_Over.plain := by kernel_rfl
theorem r_nonce_Compare : progT Tryz.prog 60 = some xf_nonce_Compare.plain := by kernel_rfl
theorem r_vector_Merge : progT Tryz.prog 61 = some xf_vector_Merge.plain := by kernel_rfl
theorem r_tally_PruneAcks : progT Tryz.prog 62 = some xf_tally_PruneAcks.plain := by kernel_rfl
theorem r_tally_PruneMarks : progT Tryz.prog 63 = some xf_tally_PruneMarks.plain := by kernel_rfl
theorem r_tally_PruneBallots : progT Tryz.prog 64 = some xf_tally_PruneBallots.plain := by kernel_rfl
theorem r_tally_PruneAnswers : progT Tryz.prog 65 = some xf_tally_PruneAnswers.plain := by kernel_rfl
theorem r_change_start : progT Tryz.prog 66 = some xf_change_start.plain := by kernel_rfl
theorem r_change_vote : progT Tryz.prog 67 = some xf_change_vote.plain := by kernel_rfl
theorem r_change_install : progT Tryz.prog 68 = some xf_change_install.plain := by kernel_rfl
theorem r_core_voters : progT Tryz.prog 69 = some xf_core_voters.plain := by kernel_rfl
theorem r_core_out : progT Tryz.prog 70 = some xf_core_out.plain := by kernel_rfl
theorem r_core_One : progT Tryz.prog 71 = some xf_core_One.plain := by kernel_rfl
theorem r_client_check : progT Tryz.prog 78 = some xf_client_check.plain := by kernel_rfl
theorem r_client_rows : progT Tryz.prog 79 = some xf_client_rows.plain := by kernel_rfl
theorem r_ref05_Entry : progT Tryz.prog 80 = some xf_ref05_Entry.plain := by kernel_rfl
theorem r_message_short : progT Tryz.prog 81 = some xf_message_short.plain := by kernel_rfl
theorem r_ledger_Check : progT Tryz.prog 82 = some xf_ledger_Check.plain := by kernel_rfl
theorem r_oplog_Each : progT Tryz.prog 83 = some xf_oplog_Each.plain := by kernel_rfl
theorem r_oplog_fits : progT Tryz.prog 84 = some xf_oplog_fits.plain := by kernel_rfl
theorem r_vector_speaks : progT Tryz.prog 85 = some xf_vector_speaks.plain := by kernel_rfl
theorem r_vector_fits : progT Tryz.prog 86 = some xf_vector_fits.plain := by kernel_rfl
theorem r_tally_turned_ack_Ack : progT Tryz.prog 87 = some xf_tally_turned_ack_Ack.plain := by kernel_rfl
theorem r_tally_turned_Ack_ack : progT Tryz.prog 88 = some xf_tally_turned_Ack_ack.plain := by kernel_rfl
theorem r_tally_toAck : progT Tryz.prog 89 = some xf_tally_toAck.plain := by kernel_rfl
theorem r_tally_box_ack_prune : progT Tryz.prog 90 = some xf_tally_box_ack_prune.plain := by kernel_rfl
theorem r_tally_fromAck : progT Tryz.prog 91 = some xf_tally_fromAck.plain := by kernel_rfl
theorem r_tally_turned_mark_Mark : progT Tryz.prog 92 = some xf_tally_turned_mark_Mark.plain := by kernel_rfl
theorem r_tally_turned_Mark_mark : progT Tryz.prog 93 = some xf_tally_turned_Mark_mark.plain := by kernel_rfl
theorem r_tally_toMark : progT Tryz.prog 94 = some xf_tally_toMark.plain := by kernel_rfl
theorem r_tally_box_mark_prune : progT Tryz.prog 95 = some xf_tally_box_mark_prune.plain := by kernel_rfl
theorem r_tally_fromMark : progT Tryz.prog 96 = some xf_tally_fromMark.plain := by kernel_rfl
theorem r_tally_turned_ballot_Ballot : progT Tryz.prog 97 = some xf_tally_turned_ballot_Ballot.plain := by kernel_rfl
theorem r_tally_turned_Ballot_ballot : progT Tryz.prog 98 = some xf_tally_turned_Ballot_ballot.plain := by kernel_rfl
theorem r_tally_toBallot : progT Tryz.prog 99 = some xf_tally_toBallot.plain := by kernel_rfl
theorem r_tally_box_ballot_prune : progT Tryz.prog 100 = some xf_tally_box_ballot_prune.plain := by kernel_rfl
theorem r_tally_fromBallot : progT Tryz.prog 101 = some xf_tally_fromBallot.plain := by kernel_rfl
theorem r_tally_turned_answer_Answer : progT Tryz.prog 102 = some xf_tally_turned_answer_Answer.plain := by kernel_rfl
theorem r_tally_turned_Answer_answer : progT Tryz.prog 103 = some xf_tally_turned_Answer_answer.plain := by kernel_rfl
theorem r_tally_toAnswer : progT Tryz.prog 104 = some xf_tally_toAnswer.plain := by kernel_rfl
theorem r_tally_box_answer_prune : progT Tryz.prog 105 = some xf_tally_box_answer_prune.plain := by kernel_rfl
theorem r_tally_fromAnswer : progT Tryz.prog 106 = some xf_tally_fromAnswer.plain := by kernel_rfl
theorem r_change_step_later : progT Tryz.prog 107 = some xf_change_step_later.plain := by kernel_rfl
theorem r_tally_PutMark : progT Tryz.prog 108 = some xf_tally_PutMark.plain := by kernel_rfl
theorem r_tally_PutBallot : progT Tryz.prog 109 = some xf_tally_PutBallot.plain := by kernel_rfl
theorem r_tally_Choose : progT Tryz.prog 110 = some xf_tally_Choose.plain := by kernel_rfl
theorem r_change_step_lead : progT Tryz.prog 111 = some xf_change_step_lead.plain := by kernel_rfl
theorem r_client_entry : progT Tryz.prog 112 = some xf_client_entry.plain := by kernel_rfl
theorem r_ledger_New : progT Tryz.prog 113 = some xf_ledger_New.plain := by kernel_rfl
theorem r_ledger_Ledger_Do : progT Tryz.prog 114 = some xf_ledger_Ledger_Do.plain := by kernel_rfl
theorem r_ref04_Check : progT Tryz.prog 115 = some xf_ref04_Check.plain := by kernel_rfl
theorem r_oplog_joined : progT Tryz.prog 116 = some xf_oplog_joined.plain := by kernel_rfl
theorem r_oplog_Each_1 : progT Tryz.prog 117 = some xf_oplog_Each_1.plain := by kernel_rfl
theorem r_tally_box_mark_put : progT Tryz.prog 118 = some xf_tally_box_mark_put.plain := by kernel_rfl
theorem r_tally_box_ballot_put : progT Tryz.prog 119 = some xf_tally_box_ballot_put.plain := by kernel_rfl
theorem r_tally_ballot_fresh : progT Tryz.prog 120 = some xf_tally_ballot_fresh.plain := by kernel_rfl
theorem r_ledger_Ledger_Would : progT Tryz.prog 121 = some xf_ledger_Ledger_Would.plain := by kernel_rfl
theorem r_ledger_Ledger_put : progT Tryz.prog 122 = some xf_ledger_Ledger_put.plain := by kernel_rfl
theorem r_tally_ack_above : progT Tryz.prog 138 = some xf_tally_ack_above.plain := by kernel_rfl

end Go.Ax
