/-
  The functions of this seat as resolved code, and that the program resolves to them (part 2).
-/
import Derived.Test.YtponcchkfmbicaaGreatDoorXComp
import Derived.Test.YtponcchkfmbicaaGreatDoorXFn
import Derived.Test.YtponcchkfmbicaaGreatDoorXG
import Derived.Test.YtponcchkfmbicaaGreatDoorXP
import Derived.Test.YtponcchkfmbicaaGreatDoorProg
import Derived.KernelRfl
namespace Go.Ax
open Go.Proofs P

def xf_message_Check : XFunc := ⟨none, true, 2, [.tmp 4], (rs [o 2 (bx 0), o 3 (bx 1), o 4 (.mv (j 0))] [2, 3]
 (.seq (rs [ol 8 4 2, o 9 (c 111 [8]), o 10 (nt 9)] [2, 3, 10]
 (.cond (.s 10) (rs [o 4 (.mv (j 1))] [4]
 (.ret [4])) .skip))
 (.seq (rs [of 11 0 3, o 12 (k 11), o 13 (c 112 [12]), o 14 (nt 13)] [2, 3, 14]
 (.cond (.s 14) (rs [o 4 (.mv (j 70))] [4]
 (.ret [4])) .skip))
 (rs [of 15 0 3, o 16 (k 15), o 17 (.aadr 10 15 (.c (.dptr usesD)) (.s 16)), ol 18 10 17, o 5 (.alloc l6), p (t 10 5 18)] [2, 3, 5]
 (.seq (ss [a 19 (l 18 3), a 20 (c 113 [19]), a 21 (nt 20), am 22 21, d 23 (l 4 2) 22, d 24 (l 18 3) 22, (⟨(some 25), c 114 [23, 24], some (22, false)⟩, false), (⟨(some 26), nt 25, some (22, false)⟩, false), a 27 (ko 22 26)] [2, 3, 5, 27]
 (.cond (.s 27) (rs [o 4 (.mv (j 71))] [4]
 (.ret [4])) .skip))
 (.seq (rs [o 28 (.aadr 1 10 (.s 5) (j 6)), o 29 (k 28), om 30 29, g 31 (f 0 3) 30, g 32 (k 31) 30, g 33 (f 3 3) 30, g 34 (l 5 33) 30, g 35 (c 115 [32, 34]) 30, g 36 (nt 35) 30, o 37 (ka 30 36), om 38 37, ⟨(some 39), .aadr 1 10 (.s 5) (j 7), some (38, false)⟩, ⟨(some 40), k 39, some (38, false)⟩, ⟨(some 41), m 40, some (38, false)⟩, g 42 (f 8 3) 41, g 43 (l 3 42) 41, g 44 (c 116 [43]) 41, g 45 (nt 44) 41, g 46 (m 45) 41, ⟨(some 47), l 18 3, some (46, false)⟩, ⟨(some 48), c 117 [47], some (46, false)⟩, ⟨(some 49), nt 48, some (46, false)⟩, g 50 (ko 46 49) 41, ⟨(some 51), ka 41 50, some (38, false)⟩, o 52 (ko 38 51), om 53 52, ⟨(some 54), .aadr 1 10 (.s 5) (j 9), some (53, false)⟩, ⟨(some 55), k 54, some (53, false)⟩, ⟨(some 56), m 55, some (53, false)⟩, g 57 (f 17 3) 56, g 58 (k 57) 56, g 59 (le 58) 56, g 60 (f 0 2) 56, g 61 (k 60) 56, g 62 (.bin .mul (j 2) (.s 61)) 56, g 63 (baj 62 1) 56, g 64 (n 59 63) 56, ⟨(some 65), ka 56 64, some (53, false)⟩, o 66 (ko 53 65), om 67 66, ⟨(some 68), .aadr 1 10 (.s 5) (j 5), some (67, false)⟩, ⟨(some 69), k 68, some (67, false)⟩, ⟨(some 70), m 69, some (67, false)⟩, g 71 (f 14 3) 70, g 72 (l 2 71) 70, g 73 (.build [y, y] []) 70, g 74 (.eqv false true [.i, .i] (.s 72) (.s 73)) 70, ⟨(some 75), ka 70 74, some (67, false)⟩, o 76 (ko 67 75)] [2, 3, 5, 76]
 (.cond (.s 76) (rs [o 4 (.mv (j 71))] [4]
 (.ret [4])) .skip))
 (.seq (rs [o 77 (.aadr 1 10 (.s 5) (j 8)), o 78 (k 77)] [2, 3, 78]
 (.cond (.s 78) (rs [of 80 16 3, o 81 (k 80), of 82 1 2, o 83 (k 82), o 84 (c 118 [81, 83]), om 79 84, o 85 (e 79 0), o 86 (e 79 1), om 6 85, om 7 86] [2, 3, 6]
 (rs [om 87 6, o 88 (nj 87 0)] [2, 3, 88]
 (.cond (.s 88) (rs [o 4 (.mv (j 71))] [4]
 (.ret [4])) .skip))) .skip))
 (.seq (sp (some []) [a 89 (f 0 3), a 90 (k 89), a 91 (qj 90 9), am 92 91, b 93 (f 17 3) 92, b 94 (k 93) 92, b 95 (f 1 3) 92, b 96 (k 95) 92, (g 97 (ia 2 94 96) 92, false), (g 98 (l 2 97) 92, false), b 99 (f 14 3) 92, b 100 (l 2 99) 92, (g 101 (.eqv true true [.i, .i] (.s 98) (.s 100)) 92, false), a 102 (ka 92 101), am 103 102, d 104 (f 0 3) 103, d 105 (k 104) 103, d 106 (qj 105 10) 103, d 107 (m 106) 103, b 108 (f 16 3) 107, b 109 (k 108) 107, b 110 (le 109) 107, b 111 (bgj 110 0) 107, d 112 (ka 107 111) 103, (⟨(some 113), m 112, some (103, false)⟩, false), b 114 (f 1 3) 113, b 115 (k 114) 113, b 116 (f 2 3) 113, b 117 (k 116) 113, b 118 (f 0 2) 113, b 119 (k 118) 113, b 120 (.bin .mul (j 2) (.s 119)) 113, b 121 (baj 120 1) 113, (g 122 (.bin .rem (.s 117) (.s 121)) 113, false), (g 123 (n 115 122) 113, false), (⟨(some 124), ka 113 123, some (103, false)⟩, false), a 125 (ko 103 124)] [125]
 (.cond (.s 125) (rs [o 4 (.mv (j 71))] [4]
 (.ret [4])) .skip))
 (rs [o 4 (.mv (j 0))] [4]
 (.ret [4]))))))))))⟩

def xf_core_twin_k0 : List (Nat × Option (Nat × Nat × Bool)) := [(1, none), (2, none), (27, none), (28, none)]
def xf_core_twin_b0 : XCode := (rs [o 29 (bl 28 27)] [1, 2, 27, 28, 29]
 (.seq (.cond (.s 29) .skip (.exit 0 [1, 2]))
 (.seq (.block 1 (rs [om 30 28, om 3 30] [1, 2, 3, 27, 28]
 (.reg [of 31 10 1, o 32 (k 31), om 33 3, of 34 10 1, o 35 (k 34), om 36 3, o 37 (ia 6 35 36), of 38 5 37, o 39 (k 38), o 40 (c 119 [39]), o 41 (ia 6 32 33), of 42 5 41, p (t 1 42 40)] (some [(1, 9)]) [1, 2, 27, 28])))
 (.reg [o 43 (baj 28 1), om 28 43] none [1, 2, 27, 28]))))
def xf_core_twin_k1 : List (Nat × Option (Nat × Nat × Bool)) := [(1, none), (2, none), (50, none), (51, none)]
def xf_core_twin_b1 : XCode := (rs [o 52 (bl 51 50)] [1, 2, 50, 51, 52]
 (.seq (.cond (.s 52) .skip (.exit 2 [1, 2]))
 (.seq (.block 3 (rs [om 53 51, om 4 53] [1, 2, 4, 50, 51]
 (.reg [of 54 11 1, o 55 (k 54), om 56 4, of 57 11 1, o 58 (k 57), om 59 4, o 60 (ia 6 58 59), of 61 5 60, o 62 (k 61), o 63 (c 119 [62]), o 64 (ia 6 55 56), of 65 5 64, p (t 1 65 63)] (some [(1, 9)]) [1, 2, 50, 51])))
 (.reg [o 66 (baj 51 1), om 51 66] none [1, 2, 50, 51]))))
def xf_core_twin : XFunc := ⟨none, true, 1, [.cell 2 (some 12)], (rs [o 1 (bx 0), o 2 (.alloc l1)] [1, 2]
 (rs [of 5 4 1, o 6 (k 5), o 7 (c 119 [6]), of 8 4 1, p (t 1 8 7)] [1, 2]
 (rs [of 9 6 1, o 10 (k 9), o 11 (c 120 [10]), of 12 6 1, p (t 1 12 11)] [1, 2]
 (rs [of 13 8 1, o 14 (k 13), o 15 (c 121 [14]), of 16 8 1, p (t 1 16 15)] [1, 2]
 (rs [of 17 9 1, o 18 (k 17), o 19 (c 122 [18]), of 20 9 1, p (t 1 20 19)] [1, 2]
 (rs [of 21 10 1, o 22 (k 21), o 23 (c 123 [22]), of 24 10 1, p (t 1 24 23)] [1, 2]
 (.seq (rs [of 25 10 1, o 26 (k 25), o 27 (le 26), o 28 (.mv (j 0))] [1, 2, 27, 28]
 (.block 0 (.loop xf_core_twin_k0 xf_core_twin_b0)))
 (rs [of 44 11 1, o 45 (k 44), o 46 (c 124 [45]), of 47 11 1, p (t 1 47 46)] [1, 2]
 (.seq (rs [of 48 11 1, o 49 (k 48), o 50 (le 49), o 51 (.mv (j 0))] [1, 2, 50, 51]
 (.block 2 (.loop xf_core_twin_k1 xf_core_twin_b1)))
 (rs [ol 67 12 1, p (t 12 2 67)] [2]
 (.ret [2])))))))))))⟩

def xf_nonce_Compare : XFunc := ⟨none, true, 2, [.tmp 4], (rs [o 2 (bx 0), o 3 (bx 1), o 4 (.mv (j 0))] [2, 3]
 (.seq (.block 0 (rs [ol 6 2 2, ol 7 2 3, o 8 (.eqv false true [.i, .i] (.s 6) (.s 7)), om 5 8] [2, 3, 5]
 (.cond (.s 5) (rs [o 4 (.mv (j 0))] [4]
 (.ret [4])) (.seq (rs [of 10 0 2, o 11 (k 10), of 12 0 3, o 13 (k 12), o 14 (bl 11 13), om 9 14] [2, 3, 9]
 (.cond (.s 9) .skip (.sreg [a 15 (f 0 2), a 16 (k 15), a 17 (f 0 3), a 18 (k 17), a 19 (q 16 18), am 20 19, b 21 (f 1 2) 20, b 22 (k 21) 20, b 23 (f 1 3) 20, b 24 (k 23) 20, b 25 (bl 22 24) 20, a 26 (ka 20 25), am 9 26] none [9])))
 (.cond (.s 9) (rs [o 4 (.mv (j (-1)))] [4]
 (.ret [4])) .skip)))))
 (rs [o 4 (.mv (j 1))] [4]
 (.ret [4]))))⟩

def xf_vector_Merge_k0 : List (Nat × Option (Nat × Nat × Bool)) := [(0, none), (14, some (27, 1, false)), (15, none), (16, none)]
def xf_vector_Merge_b0 : XCode := (rs [o 17 (bl 16 15)] [0, 14, 15, 16, 17]
 (.seq (.cond (.s 17) .skip (.exit 0 [0]))
 (.seq (.block 1 (rs [o 18 (ia 1 14 16), o 19 (k 18), om 5 19] [0, 5, 14, 15, 16]
 (ss [am 20 5, a 21 (c 125 [20]), a 22 (nt 21), am 23 22, d 24 (m 5) 23, d 25 (le 24) 23, d 26 (m 0) 23, (⟨(some 27), .iadr 1 (.s 26) (j 0), some (23, false)⟩, false), (⟨(some 28), k 27, some (23, false)⟩, false), (⟨(some 29), le 28, some (23, false)⟩, false), (⟨(some 30), n 25 29, some (23, false)⟩, false), a 31 (ko 23 30)] [0, 14, 15, 16, 31]
 (.cond (.s 31) (rs [o 2 (.mv (.c (.nil 43 2 true))), o 3 (.mv (j 30))] [2, 3]
 (.ret [2, 3])) .skip))))
 (.reg [o 32 (baj 16 1), om 16 32] none [0, 14, 15, 16]))))
def xf_vector_Merge_k2 : List (Nat × Option (Nat × Nat × Bool)) := [(6, some (43, 2, true)), (38, some (27, 1, false)), (39, none), (40, none), (44, some (43, 2, true)), (45, none), (46, none)]
def xf_vector_Merge_b2 : XCode := (rs [o 47 (bl 46 45)] [6, 38, 39, 40, 44, 45, 46, 47]
 (.seq (.cond (.s 47) .skip (.exit 4 [6, 38, 39, 40]))
 (.seq (.block 5 (rs [om 48 46, o 49 (ia 2 44 46), ol 50 2 49, o 10 (.alloc [y, y]), om 9 48, p (t 2 10 50)] [6, 9, 10, 38, 39, 40, 44, 45, 46]
 (rp (some []) [om 51 6, om 52 9, o 53 (ia 2 51 52), ol 54 2 53, ol 55 2 10, o 56 (c 43 [54, 55]), o 57 (blj 56 0)] [6, 9, 10, 38, 39, 40, 44, 45, 46, 57]
 (.cond (.s 57) (.reg [om 58 6, om 59 9, ol 60 2 10, o 61 (ia 2 58 59), p (t 2 61 60)] none [6, 38, 39, 40, 44, 45, 46]) .skip))))
 (.reg [o 62 (baj 46 1), om 46 62] none [6, 38, 39, 40, 44, 45, 46]))))
def xf_vector_Merge_k1 : List (Nat × Option (Nat × Nat × Bool)) := [(6, some (43, 2, true)), (38, some (27, 1, false)), (39, none), (40, none)]
def xf_vector_Merge_b1 : XCode := (rs [o 41 (bl 40 39)] [6, 38, 39, 40, 41]
 (.seq (.cond (.s 41) .skip (.exit 2 [6]))
 (.seq (.block 3 (rs [o 42 (ia 1 38 40), o 43 (k 42), om 8 43] [6, 8, 38, 39, 40]
 (rs [om 44 8, o 45 (le 44), o 46 (.mv (j 0))] [6, 38, 39, 40, 44, 45, 46]
 (.block 4 (.loop xf_vector_Merge_k2 xf_vector_Merge_b2)))))
 (.reg [o 63 (baj 40 1), om 40 63] none [6, 38, 39, 40]))))
def xf_vector_Merge : XFunc := ⟨none, true, 1, [.tmp 2, .tmp 3], (rs [o 2 (.mv (.c (.nil 43 2 true))), o 3 (.mv (j 0))] [0]
 (.seq (rs [om 11 0, o 12 (le 11), o 13 (qj 12 0)] [0, 13]
 (.cond (.s 13) (rs [o 2 (.mv (.c (.nil 43 2 true))), o 3 (.mv (j 30))] [2, 3]
 (.ret [2, 3])) .skip))
 (.seq (rs [om 14 0, o 15 (le 14), o 16 (.mv (j 0))] [0, 14, 15, 16]
 (.block 0 (.loop xf_vector_Merge_k0 xf_vector_Merge_b0)))
 (rs [om 33 0, o 34 (.iadr 1 (.s 33) (j 0)), o 35 (k 34), o 36 (le 35), o 37 (.mksl 43 2 16 true [y, y] (.s 36) (.s 36)), om 6 37] [0, 6]
 (.seq (rs [om 38 0, o 39 (le 38), o 40 (.mv (j 0))] [6, 38, 39, 40]
 (.block 2 (.loop xf_vector_Merge_k1 xf_vector_Merge_b1)))
 (rs [om 64 6, om 2 64, o 3 (.mv (j 0))] [2, 3]
 (.ret [2, 3])))))))⟩

def xf_tally_PruneAcks : XFunc := ⟨none, true, 2, [.tmp 4], (rs [o 4 (.mv (.c (.nil 67 4 true)))] [0, 1]
 (rs [om 5 0, o 6 (.call (fc 127) [(.s 5), (.c (.fn (.func 128) [] []))]), o 7 (.build [(.nil 185 4 true)] [(0, 1, (.s 6))]), om 8 1, o 9 (c 129 [7, 8]), o 10 (.call (fc 126) [(.s 9), (.c (.fn (.func 130) [] []))]), om 4 10] [4]
 (.ret [4])))⟩

def xf_tally_PruneMarks : XFunc := ⟨none, true, 2, [.tmp 4], (rs [o 4 (.mv (.c (.nil 69 3 true)))] [0, 1]
 (rs [om 5 0, o 6 (.call (fc 132) [(.s 5), (.c (.fn (.func 133) [] []))]), o 7 (.build [(.nil 194 3 true)] [(0, 1, (.s 6))]), om 8 1, o 9 (c 134 [7, 8]), o 10 (.call (fc 131) [(.s 9), (.c (.fn (.func 135) [] []))]), om 4 10] [4]
 (.ret [4])))⟩

def xf_tally_PruneBallots : XFunc := ⟨none, true, 2, [.tmp 4], (rs [o 4 (.mv (.c (.nil 71 6 false)))] [0, 1]
 (rs [om 5 0, o 6 (.call (fc 137) [(.s 5), (.c (.fn (.func 138) [] []))]), o 7 (.build [(.nil 203 6 false)] [(0, 1, (.s 6))]), om 8 1, o 9 (c 139 [7, 8]), o 10 (.call (fc 136) [(.s 9), (.c (.fn (.func 140) [] []))]), om 4 10] [4]
 (.ret [4])))⟩

def xf_tally_PruneAnswers : XFunc := ⟨none, true, 2, [.tmp 4], (rs [o 4 (.mv (.c (.nil 73 6 false)))] [0, 1]
 (rs [om 5 0, o 6 (.call (fc 142) [(.s 5), (.c (.fn (.func 143) [] []))]), o 7 (.build [(.nil 212 6 false)] [(0, 1, (.s 6))]), om 8 1, o 9 (c 144 [7, 8]), o 10 (.call (fc 141) [(.s 9), (.c (.fn (.func 145) [] []))]), om 4 10] [4]
 (.ret [4])))⟩

def xf_plain_Given_Entries : XFunc := ⟨none, false, 2, [.tmp 4], (rs [o 4 (.mv (.c (.nil 38 5 true)))] [0, 1]
 (rs [om 6 1, o 7 (c 72 [6]), o 8 (.build l11 [(0, 1, (j (-77))), (1, 1, (j (-88)))]), o 9 (.bsl 38 5 true 1 l11 [(0, 5, (.s 8))]), o 10 (.app 38 5 48 true (.s 7) (.s 9)), om 5 10] [0, 1, 5]
 (rs [om 11 0, om 12 0, o 13 (nc 12), of 14 4 13, o 15 (k 14), om 16 5, o 17 (.bsl 25 1 false 1 [(.nil 38 5 true)] [(0, 1, (.s 16))]), o 18 (.app 25 1 24 false (.s 15) (.s 17)), o 19 (nc 11), of 20 4 19, p (t 1 20 18)] [0, 1, 5]
 (rp (some [(4, 6), (4, 7)]) [om 21 0, om 22 0, o 23 (nc 22), of 24 5 23, o 25 (k 24), om 26 5, o 27 (c 72 [26]), o 28 (.bsl 25 1 false 1 [(.nil 38 5 true)] [(0, 1, (.s 27))]), o 29 (.app 25 1 24 false (.s 25) (.s 28)), o 30 (nc 21), of 31 5 30, p (t 1 31 29)] [1, 5]
 (rs [om 32 5, om 33 1, o 34 (le 33), o 35 (.slice 5 (.s 32) none (some (.s 34))), om 4 35] [4]
 (.ret [4]))))))⟩

def xf_plain_Given_Vector : XFunc := ⟨none, false, 2, [.tmp 4], (rs [o 4 (.mv (.c (.nil 43 2 true)))] [0, 1]
 (rs [om 6 1, o 7 (c 73 [6]), o 8 (.build [y, y] [(0, 1, (.c (.dat (.int .u64 77)))), (1, 1, (.c (.dat (.int .u64 88))))]), o 9 (.bsl 43 2 true 1 [y, y] [(0, 2, (.s 8))]), o 10 (.app 43 2 16 true (.s 7) (.s 9)), om 5 10] [0, 1, 5]
 (rs [om 11 0, om 12 0, o 13 (nc 12), of 14 2 13, o 15 (k 14), om 16 5, o 17 (.bsl 27 1 false 1 [(.nil 43 2 true)] [(0, 1, (.s 16))]), o 18 (.app 27 1 24 false (.s 15) (.s 17)), o 19 (nc 11), of 20 2 19, p (t 1 20 18)] [0, 1, 5]
 (rp (some [(4, 6), (4, 7)]) [om 21 0, om 22 0, o 23 (nc 22), of 24 3 23, o 25 (k 24), om 26 5, o 27 (c 73 [26]), o 28 (.bsl 27 1 false 1 [(.nil 43 2 true)] [(0, 1, (.s 27))]), o 29 (.app 27 1 24 false (.s 25) (.s 28)), o 30 (nc 21), of 31 3 30, p (t 1 31 29)] [1, 5]
 (rs [om 32 5, om 33 1, o 34 (le 33), o 35 (.slice 2 (.s 32) none (some (.s 34))), om 4 35] [4]
 (.ret [4]))))))⟩

def xf_ref07_Between : XFunc := ⟨none, true, 1, [.tmp 2], (rs [o 2 (.mv (.c w))] [0]
 (ss [am 3 0, a 4 (bhj 3 3), am 5 4, bb 6 0 5, b 7 (bmj 6 12) 5, a 8 (ka 5 7), am 2 8] [2]
 (.ret [2])))⟩

def xf_ref09_below : XFunc := ⟨none, true, 2, [.tmp 4], (rs [o 2 (bx 0), o 3 (bx 1), o 4 (.mv (.c w))] [2, 3]
 (rs [ol 5 2 2, ol 6 2 3, o 7 (c 146 [5, 6]), o 8 (blj 7 0), om 4 8] [4]
 (.ret [4])))⟩

def xf_ref09_Pruned_k0 : List (Nat × Option (Nat × Nat × Bool)) := [(1, none), (2, none), (3, none), (4, none)]
def xf_ref09_Pruned_b0 : XCode := (.seq (rs [om 11 4, of 12 8 1, o 13 (k 12), o 14 (le 13), o 15 (bl 11 14)] [1, 2, 3, 4, 15]
 (.cond (.s 15) .skip (.exit 0 [1, 2, 3])))
 (.seq (.block 1 (rp (some []) [of 18 8 1, o 19 (k 18), om 20 4, o 21 (ia 4 19 20), of 22 1 21, ol 23 2 22, of 24 6 1, o 25 (k 24), of 26 8 1, o 27 (k 26), om 28 4, o 29 (ia 4 27 28), of 30 0 29, o 31 (k 30), o 32 (ia 2 25 31), ol 33 2 32, o 34 (c 52 [23, 33]), o 35 (nt 34)] [1, 2, 3, 4, 35]
 (.cond (.s 35) (.reg [of 36 8 3, o 37 (k 36), of 38 8 1, o 39 (k 38), om 40 4, o 41 (ia 4 39 40), ol 42 4 41, o 43 (.bsl 67 4 true 1 l10 [(0, 4, (.s 42))]), o 44 (.app 67 4 32 true (.s 37) (.s 43)), of 45 8 3, p (t 1 45 44)] (some [(1, 7)]) [1, 2, 3, 4]) .skip)))
 (.reg [om 16 4, o 17 (baj 16 1), om 4 17] none [1, 2, 3, 4])))
def xf_ref09_Pruned_k1 : List (Nat × Option (Nat × Nat × Bool)) := [(1, none), (2, none), (3, none), (5, none)]
def xf_ref09_Pruned_b1 : XCode := (.seq (rs [om 47 5, of 48 9 1, o 49 (k 48), o 50 (le 49), o 51 (bl 47 50)] [1, 2, 3, 5, 51]
 (.cond (.s 51) .skip (.exit 2 [1, 2, 3])))
 (.seq (.block 3 (rp (some []) [of 54 9 1, o 55 (k 54), om 56 5, o 57 (ia 3 55 56), of 58 1 57, ol 59 2 58, of 60 6 1, o 61 (k 60), of 62 9 1, o 63 (k 62), om 64 5, o 65 (ia 3 63 64), of 66 0 65, o 67 (k 66), o 68 (ia 2 61 67), ol 69 2 68, o 70 (c 52 [59, 69]), o 71 (nt 70)] [1, 2, 3, 5, 71]
 (.cond (.s 71) (.reg [of 72 9 3, o 73 (k 72), of 74 9 1, o 75 (k 74), om 76 5, o 77 (ia 3 75 76), ol 78 3 77, o 79 (.bsl 69 3 true 1 l8 [(0, 3, (.s 78))]), o 80 (.app 69 3 24 true (.s 73) (.s 79)), of 81 9 3, p (t 1 81 80)] (some [(1, 7)]) [1, 2, 3, 5]) .skip)))
 (.reg [om 52 5, o 53 (baj 52 1), om 5 53] none [1, 2, 3, 5])))
def xf_ref09_Pruned_k2 : List (Nat × Option (Nat × Nat × Bool)) := [(1, none), (2, none), (3, none), (6, none)]
def xf_ref09_Pruned_b2 : XCode := (.seq (rs [om 83 6, of 84 10 1, o 85 (k 84), o 86 (le 85), o 87 (bl 83 86)] [1, 2, 3, 6, 87]
 (.cond (.s 87) .skip (.exit 4 [1, 2, 3])))
 (.seq (.block 5 (rp (some []) [of 90 10 1, o 91 (k 90), om 92 6, o 93 (ia 6 91 92), of 94 1 93, ol 95 2 94, of 96 6 1, o 97 (k 96), of 98 10 1, o 99 (k 98), om 100 6, o 101 (ia 6 99 100), of 102 0 101, o 103 (k 102), o 104 (ia 2 97 103), ol 105 2 104, o 106 (c 52 [95, 105]), o 107 (nt 106)] [1, 2, 3, 6, 107]
 (.cond (.s 107) (.reg [of 108 10 3, o 109 (k 108), of 110 10 1, o 111 (k 110), om 112 6, o 113 (ia 6 111 112), ol 114 6 113, o 115 (.bsl 71 6 false 1 l2 [(0, 6, (.s 114))]), o 116 (.app 71 6 64 false (.s 109) (.s 115)), of 117 10 3, p (t 1 117 116)] (some [(1, 7)]) [1, 2, 3, 6]) .skip)))
 (.reg [om 88 6, o 89 (baj 88 1), om 6 89] none [1, 2, 3, 6])))
def xf_ref09_Pruned_k3 : List (Nat × Option (Nat × Nat × Bool)) := [(1, none), (2, none), (3, none), (7, none)]
def xf_ref09_Pruned_b3 : XCode := (.seq (rs [om 119 7, of 120 11 1, o 121 (k 120), o 122 (le 121), o 123 (bl 119 122)] [1, 2, 3, 7, 123]
 (.cond (.s 123) .skip (.exit 6 [2, 3])))
 (.seq (.block 7 (rp (some []) [of 126 11 1, o 127 (k 126), om 128 7, o 129 (ia 6 127 128), of 130 1 129, ol 131 2 130, of 132 6 1, o 133 (k 132), of 134 11 1, o 135 (k 134), om 136 7, o 137 (ia 6 135 136), of 138 0 137, o 139 (k 138), o 140 (ia 2 133 139), ol 141 2 140, o 142 (c 52 [131, 141]), o 143 (nt 142)] [1, 2, 3, 7, 143]
 (.cond (.s 143) (.reg [of 144 11 3, o 145 (k 144), of 146 11 1, o 147 (k 146), om 148 7, o 149 (ia 6 147 148), ol 150 6 149, o 151 (.bsl 73 6 false 1 l2 [(0, 6, (.s 150))]), o 152 (.app 73 6 64 false (.s 145) (.s 151)), of 153 11 3, p (t 1 153 152)] (some [(1, 7)]) [1, 2, 3, 7]) .skip)))
 (.reg [om 124 7, o 125 (baj 124 1), om 7 125] none [1, 2, 3, 7])))
def xf_ref09_Pruned : XFunc := ⟨none, false, 1, [.cell 2 (some 12)], (rs [o 1 (bx 0), o 2 (.alloc l1)] [1, 2]
 (rs [ol 8 12 1, o 9 (c 21 [8]), o 3 (.alloc l1), p (t 12 3 9)] [1, 2, 3]
 (rs [of 10 8 3, p (.store 1 (.s 10) (.c (.nil 67 4 true)))] [1, 2, 3]
 (.seq (rs [o 4 (.mv (j 0))] [1, 2, 3, 4]
 (.block 0 (.loop xf_ref09_Pruned_k0 xf_ref09_Pruned_b0)))
 (rs [of 46 9 3, p (.store 1 (.s 46) (.c (.nil 69 3 true)))] [1, 2, 3]
 (.seq (rs [o 5 (.mv (j 0))] [1, 2, 3, 5]
 (.block 2 (.loop xf_ref09_Pruned_k1 xf_ref09_Pruned_b1)))
 (rs [of 82 10 3, p (.store 1 (.s 82) (.c (.nil 71 6 false)))] [1, 2, 3]
 (.seq (rs [o 6 (.mv (j 0))] [1, 2, 3, 6]
 (.block 4 (.loop xf_ref09_Pruned_k2 xf_ref09_Pruned_b2)))
 (rs [of 118 11 3, p (.store 1 (.s 118) (.c (.nil 73 6 false)))] [1, 2, 3]
 (.seq (rs [o 7 (.mv (j 0))] [1, 2, 3, 7]
 (.block 6 (.loop xf_ref09_Pruned_k3 xf_ref09_Pruned_b3)))
 (rs [ol 154 12 3, p (t 12 2 154)] [2]
 (.ret [2]))))))))))))⟩

def xf_plain_SameVector_k0 : List (Nat × Option (Nat × Nat × Bool)) := [(0, none), (1, none), (5, none)]
def xf_plain_SameVector_b0 : XCode := (.seq (rs [om 11 5, om 12 0, o 13 (le 12), o 14 (bl 11 13)] [0, 1, 5, 14]
 (.cond (.s 14) .skip (.exit 0 [])))
 (.seq (.block 1 (rp (some []) [om 17 0, om 18 5, o 19 (ia 2 17 18), ol 20 2 19, om 21 1, om 22 5, o 23 (ia 2 21 22), ol 24 2 23, o 25 (.eqv true true [.i, .i] (.s 20) (.s 24))] [0, 1, 5, 25]
 (.cond (.s 25) (rs [o 4 (.mv (.c w))] [4]
 (.ret [4])) .skip)))
 (.reg [om 15 5, o 16 (baj 15 1), om 5 16] none [0, 1, 5])))
def xf_plain_SameVector : XFunc := ⟨none, true, 2, [.tmp 4], (rs [o 4 (.mv (.c w))] [0, 1]
 (.seq (rs [om 6 0, o 7 (le 6), om 8 1, o 9 (le 8), o 10 (n 7 9)] [0, 1, 10]
 (.cond (.s 10) (rs [o 4 (.mv (.c w))] [4]
 (.ret [4])) .skip))
 (.seq (rs [o 5 (.mv (j 0))] [0, 1, 5]
 (.block 0 (.loop xf_plain_SameVector_k0 xf_plain_SameVector_b0)))
 (rs [o 4 (.mv (.c v))] [4]
 (.ret [4])))))⟩

def xf_plain_sameAcks_k0 : List (Nat × Option (Nat × Nat × Bool)) := [(0, none), (1, none), (5, none)]
def xf_plain_sameAcks_b0 : XCode := (.seq (rs [om 11 5, om 12 0, o 13 (le 12), o 14 (bl 11 13)] [0, 1, 5, 14]
 (.cond (.s 14) .skip (.exit 0 [])))
 (.seq (.block 1 (rp (some []) [om 17 0, om 18 5, o 19 (ia 4 17 18), ol 20 4 19, om 21 1, om 22 5, o 23 (ia 4 21 22), ol 24 4 23, o 25 (.eqv true true [.i, .i, .i, .i] (.s 20) (.s 24))] [0, 1, 5, 25]
 (.cond (.s 25) (rs [o 4 (.mv (.c w))] [4]
 (.ret [4])) .skip)))
 (.reg [om 15 5, o 16 (baj 15 1), om 5 16] none [0, 1, 5])))
def xf_plain_sameAcks : XFunc := ⟨none, true, 2, [.tmp 4], (rs [o 4 (.mv (.c w))] [0, 1]
 (.seq (rs [om 6 0, o 7 (le 6), om 8 1, o 9 (le 8), o 10 (n 7 9)] [0, 1, 10]
 (.cond (.s 10) (rs [o 4 (.mv (.c w))] [4]
 (.ret [4])) .skip))
 (.seq (rs [o 5 (.mv (j 0))] [0, 1, 5]
 (.block 0 (.loop xf_plain_sameAcks_k0 xf_plain_sameAcks_b0)))
 (rs [o 4 (.mv (.c v))] [4]
 (.ret [4])))))⟩

def xf_plain_sameMarks_k0 : List (Nat × Option (Nat × Nat × Bool)) := [(0, none), (1, none), (5, none)]
def xf_plain_sameMarks_b0 : XCode := (.seq (rs [om 11 5, om 12 0, o 13 (le 12), o 14 (bl 11 13)] [0, 1, 5, 14]
 (.cond (.s 14) .skip (.exit 0 [])))
 (.seq (.block 1 (rp (some []) [om 17 0, om 18 5, o 19 (ia 3 17 18), ol 20 3 19, om 21 1, om 22 5, o 23 (ia 3 21 22), ol 24 3 23, o 25 (.eqv true true [.i, .i, .i] (.s 20) (.s 24))] [0, 1, 5, 25]
 (.cond (.s 25) (rs [o 4 (.mv (.c w))] [4]
 (.ret [4])) .skip)))
 (.reg [om 15 5, o 16 (baj 15 1), om 5 16] none [0, 1, 5])))
def xf_plain_sameMarks : XFunc := ⟨none, true, 2, [.tmp 4], (rs [o 4 (.mv (.c w))] [0, 1]
 (.seq (rs [om 6 0, o 7 (le 6), om 8 1, o 9 (le 8), o 10 (n 7 9)] [0, 1, 10]
 (.cond (.s 10) (rs [o 4 (.mv (.c w))] [4]
 (.ret [4])) .skip))
 (.seq (rs [o 5 (.mv (j 0))] [0, 1, 5]
 (.block 0 (.loop xf_plain_sameMarks_k0 xf_plain_sameMarks_b0)))
 (rs [o 4 (.mv (.c v))] [4]
 (.ret [4])))))⟩

def xf_plain_SameBallots_k0 : List (Nat × Option (Nat × Nat × Bool)) := [(0, none), (1, none), (5, none)]
def xf_plain_SameBallots_b0 : XCode := (.seq (rs [om 11 5, om 12 0, o 13 (le 12), o 14 (bl 11 13)] [0, 1, 5, 14]
 (.cond (.s 14) .skip (.exit 0 [])))
 (.seq (.block 1 (sp (some []) [am 17 0, am 18 5, a 19 (ia 6 17 18), a 20 (f 0 19), a 21 (k 20), am 22 1, am 23 5, a 24 (ia 6 22 23), a 25 (f 0 24), a 26 (k 25), a 27 (n 21 26), am 28 27, d 29 (m 0) 28, d 30 (m 5) 28, (⟨(some 31), ia 6 29 30, some (28, false)⟩, false), (⟨(some 32), f 1 31, some (28, false)⟩, false), (⟨(some 33), l 2 32, some (28, false)⟩, false), d 34 (m 1) 28, d 35 (m 5) 28, (⟨(some 36), ia 6 34 35, some (28, false)⟩, false), (⟨(some 37), f 1 36, some (28, false)⟩, false), (⟨(some 38), l 2 37, some (28, false)⟩, false), (⟨(some 39), .eqv true true [.i, .i] (.s 33) (.s 38), some (28, false)⟩, false), a 40 (ko 28 39), am 41 40, d 42 (m 0) 41, d 43 (m 5) 41, (⟨(some 44), ia 6 42 43, some (41, false)⟩, false), (⟨(some 45), f 3 44, some (41, false)⟩, false), (⟨(some 46), k 45, some (41, false)⟩, false), d 47 (m 1) 41, d 48 (m 5) 41, (⟨(some 49), ia 6 47 48, some (41, false)⟩, false), (⟨(some 50), f 3 49, some (41, false)⟩, false), (⟨(some 51), k 50, some (41, false)⟩, false), (⟨(some 52), n 46 51, some (41, false)⟩, false), a 53 (ko 41 52), am 54 53, d 55 (m 0) 54, d 56 (m 5) 54, (⟨(some 57), ia 6 55 56, some (54, false)⟩, false), (⟨(some 58), f 4 57, some (54, false)⟩, false), (⟨(some 59), k 58, some (54, false)⟩, false), d 60 (m 1) 54, d 61 (m 5) 54, (⟨(some 62), ia 6 60 61, some (54, false)⟩, false), (⟨(some 63), f 4 62, some (54, false)⟩, false), (⟨(some 64), k 63, some (54, false)⟩, false), (⟨(some 65), n 59 64, some (54, false)⟩, false), a 66 (ko 54 65), am 67 66, d 68 (m 0) 67, d 69 (m 5) 67, (⟨(some 70), ia 6 68 69, some (67, false)⟩, false), (⟨(some 71), f 5 70, some (67, false)⟩, false), (⟨(some 72), k 71, some (67, false)⟩, false), d 73 (m 1) 67, d 74 (m 5) 67, (⟨(some 75), ia 6 73 74, some (67, false)⟩, false), (⟨(some 76), f 5 75, some (67, false)⟩, false), (⟨(some 77), k 76, some (67, false)⟩, false), (⟨(some 78), c 24 [72, 77], some (67, false)⟩, false), (⟨(some 79), nt 78, some (67, false)⟩, false), a 80 (ko 67 79)] [0, 1, 5, 80]
 (.cond (.s 80) (rs [o 4 (.mv (.c w))] [4]
 (.ret [4])) .skip)))
 (.reg [om 15 5, o 16 (baj 15 1), om 5 16] none [0, 1, 5])))
def xf_plain_SameBallots : XFunc := ⟨none, true, 2, [.tmp 4], (rs [o 4 (.mv (.c w))] [0, 1]
 (.seq (rs [om 6 0, o 7 (le 6), om 8 1, o 9 (le 8), o 10 (n 7 9)] [0, 1, 10]
 (.cond (.s 10) (rs [o 4 (.mv (.c w))] [4]
 (.ret [4])) .skip))
 (.seq (rs [o 5 (.mv (j 0))] [0, 1, 5]
 (.block 0 (.loop xf_plain_SameBallots_k0 xf_plain_SameBallots_b0)))
 (rs [o 4 (.mv (.c v))] [4]
 (.ret [4])))))⟩

def xf_plain_SameAnswers_k0 : List (Nat × Option (Nat × Nat × Bool)) := [(0, none), (1, none), (5, none)]
def xf_plain_SameAnswers_b0 : XCode := (.seq (rs [om 11 5, om 12 0, o 13 (le 12), o 14 (bl 11 13)] [0, 1, 5, 14]
 (.cond (.s 14) .skip (.exit 0 [])))
 (.seq (.block 1 (sp (some []) [am 17 0, am 18 5, a 19 (ia 6 17 18), a 20 (f 0 19), a 21 (k 20), am 22 1, am 23 5, a 24 (ia 6 22 23), a 25 (f 0 24), a 26 (k 25), a 27 (n 21 26), am 28 27, d 29 (m 0) 28, d 30 (m 5) 28, (⟨(some 31), ia 6 29 30, some (28, false)⟩, false), (⟨(some 32), f 1 31, some (28, false)⟩, false), (⟨(some 33), l 2 32, some (28, false)⟩, false), d 34 (m 1) 28, d 35 (m 5) 28, (⟨(some 36), ia 6 34 35, some (28, false)⟩, false), (⟨(some 37), f 1 36, some (28, false)⟩, false), (⟨(some 38), l 2 37, some (28, false)⟩, false), (⟨(some 39), .eqv true true [.i, .i] (.s 33) (.s 38), some (28, false)⟩, false), a 40 (ko 28 39), am 41 40, d 42 (m 0) 41, d 43 (m 5) 41, (⟨(some 44), ia 6 42 43, some (41, false)⟩, false), (⟨(some 45), f 3 44, some (41, false)⟩, false), (⟨(some 46), k 45, some (41, false)⟩, false), d 47 (m 1) 41, d 48 (m 5) 41, (⟨(some 49), ia 6 47 48, some (41, false)⟩, false), (⟨(some 50), f 3 49, some (41, false)⟩, false), (⟨(some 51), k 50, some (41, false)⟩, false), (⟨(some 52), n 46 51, some (41, false)⟩, false), a 53 (ko 41 52), am 54 53, d 55 (m 0) 54, d 56 (m 5) 54, (⟨(some 57), ia 6 55 56, some (54, false)⟩, false), (⟨(some 58), f 4 57, some (54, false)⟩, false), (⟨(some 59), k 58, some (54, false)⟩, false), d 60 (m 1) 54, d 61 (m 5) 54, (⟨(some 62), ia 6 60 61, some (54, false)⟩, false), (⟨(some 63), f 4 62, some (54, false)⟩, false), (⟨(some 64), k 63, some (54, false)⟩, false), (⟨(some 65), n 59 64, some (54, false)⟩, false), a 66 (ko 54 65), am 67 66, d 68 (m 0) 67, d 69 (m 5) 67, (⟨(some 70), ia 6 68 69, some (67, false)⟩, false), (⟨(some 71), f 5 70, some (67, false)⟩, false), (⟨(some 72), k 71, some (67, false)⟩, false), d 73 (m 1) 67, d 74 (m 5) 67, (⟨(some 75), ia 6 73 74, some (67, false)⟩, false), (⟨(some 76), f 5 75, some (67, false)⟩, false), (⟨(some 77), k 76, some (67, false)⟩, false), (⟨(some 78), c 24 [72, 77], some (67, false)⟩, false), (⟨(some 79), nt 78, some (67, false)⟩, false), a 80 (ko 67 79)] [0, 1, 5, 80]
 (.cond (.s 80) (rs [o 4 (.mv (.c w))] [4]
 (.ret [4])) .skip)))
 (.reg [om 15 5, o 16 (baj 15 1), om 5 16] none [0, 1, 5])))
def xf_plain_SameAnswers : XFunc := ⟨none, true, 2, [.tmp 4], (rs [o 4 (.mv (.c w))] [0, 1]
 (.seq (rs [om 6 0, o 7 (le 6), om 8 1, o 9 (le 8), o 10 (n 7 9)] [0, 1, 10]
 (.cond (.s 10) (rs [o 4 (.mv (.c w))] [4]
 (.ret [4])) .skip))
 (.seq (rs [o 5 (.mv (j 0))] [0, 1, 5]
 (.block 0 (.loop xf_plain_SameAnswers_k0 xf_plain_SameAnswers_b0)))
 (rs [o 4 (.mv (.c v))] [4]
 (.ret [4])))))⟩

def xf_plain_SameInts_k0 : List (Nat × Option (Nat × Nat × Bool)) := [(0, none), (1, none), (5, none)]
def xf_plain_SameInts_b0 : XCode := (.seq (rs [om 11 5, om 12 0, o 13 (le 12), o 14 (bl 11 13)] [0, 1, 5, 14]
 (.cond (.s 14) .skip (.exit 0 [])))
 (.seq (.block 1 (rp (some []) [om 17 0, om 18 5, o 19 (ia 1 17 18), o 20 (k 19), om 21 1, om 22 5, o 23 (ia 1 21 22), o 24 (k 23), o 25 (n 20 24)] [0, 1, 5, 25]
 (.cond (.s 25) (rs [o 4 (.mv (.c w))] [4]
 (.ret [4])) .skip)))
 (.reg [om 15 5, o 16 (baj 15 1), om 5 16] none [0, 1, 5])))
def xf_plain_SameInts : XFunc := ⟨none, true, 2, [.tmp 4], (rs [o 4 (.mv (.c w))] [0, 1]
 (.seq (rs [om 6 0, o 7 (le 6), om 8 1, o 9 (le 8), o 10 (n 7 9)] [0, 1, 10]
 (.cond (.s 10) (rs [o 4 (.mv (.c w))] [4]
 (.ret [4])) .skip))
 (.seq (rs [o 5 (.mv (j 0))] [0, 1, 5]
 (.block 0 (.loop xf_plain_SameInts_k0 xf_plain_SameInts_b0)))
 (rs [o 4 (.mv (.c v))] [4]
 (.ret [4])))))⟩

def xf_law09_three : XFunc := ⟨none, false, 0, [.cell 0 (some 4)], (rs [o 0 (.alloc [z, z, z, w])] [0]
 (rs [o 1 (.build [z, z, z, w] [(0, 1, (j 1)), (1, 1, (j 4)), (2, 1, (j 6))]), p (t 4 0 1)] [0]
 (.ret [0])))⟩

def xf_law09_commit : XFunc := ⟨none, false, 2, [.cell 4 (some 18)], (rs [o 4 (.alloc l4)] [0, 1, 4]
 (rs [om 5 0, o 6 (.build [y, y] [(1, 1, (.s 5))]), om 7 1, o 8 (.build [y, y] [(1, 1, (.s 7))]), o 9 (.build [y, y] []), o 10 (.bsl 43 2 true 3 [y, y, y, y, y, y] [(0, 2, (.s 6)), (2, 2, (.s 8)), (4, 2, (.s 9))]), o 11 (.build l4 [(0, 1, (j 5)), (17, 1, (.s 10))]), p (t 18 4 11)] [4]
 (.ret [4])))⟩

def xf_ref09_CheckConfig : XFunc := ⟨none, true, 1, [.tmp 2], (rs [o 1 (bx 0), o 2 (.mv (j 0))] [1]
 (.seq (rs [ol 3 4 1, o 4 (c 65 [3]), o 5 (nt 4)] [5]
 (.cond (.s 5) (rs [o 2 (.mv (j 1))] [2]
 (.ret [2])) .skip))
 (rs [o 2 (.mv (j 0))] [2]
 (.ret [2]))))⟩

def xf_ref09_may_k0 : List (Nat × Option (Nat × Nat × Bool)) := [(3, none), (7, none)]
def xf_ref09_may_b0 : XCode := (.seq (rs [om 125 7, of 126 8 3, o 127 (k 126), o 128 (le 127), o 129 (bl 125 128)] [3, 7, 129]
 (.cond (.s 129) .skip (.exit 1 [])))
 (.seq (.block 2 (sp (some []) [a 132 (f 8 3), a 133 (k 132), am 134 7, a 135 (ia 4 133 134), a 136 (f 3 135), a 137 (k 136), a 138 (blj 137 1), am 139 138, d 140 (f 8 3) 139, d 141 (k 140) 139, d 142 (m 7) 139, (⟨(some 143), ia 4 141 142, some (139, false)⟩, false), (⟨(some 144), f 3 143, some (139, false)⟩, false), (⟨(some 145), k 144, some (139, false)⟩, false), d 146 (f 4 3) 139, d 147 (k 146) 139, d 148 (le 147) 139, (⟨(some 149), bg 145 148, some (139, false)⟩, false), a 150 (ko 139 149)] [3, 7, 150]
 (.cond (.s 150) (rs [o 4 (.mv (.c w))] [4]
 (.ret [4])) .skip)))
 (.reg [om 130 7, o 131 (baj 130 1), om 7 131] none [3, 7])))
def xf_ref09_may_k1 : List (Nat × Option (Nat × Nat × Bool)) := [(2, none), (3, none), (8, none)]
def xf_ref09_may_b1 : XCode := (.seq (rs [om 186 8, of 187 10 3, o 188 (k 187), o 189 (le 188), o 190 (bl 186 189)] [2, 3, 8, 190]
 (.cond (.s 190) .skip (.exit 3 [])))
 (.seq (.block 4 (rs [of 193 10 3, o 194 (k 193), om 195 8, o 196 (ia 6 194 195), ol 197 6 196, o 9 (.alloc l2), p (t 6 9 197)] [2, 3, 8, 9]
 (ss [a 198 (f 3 9), a 199 (k 198), a 200 (blj 199 0), am 201 200, d 202 (f 3 9) 201, d 203 (k 202) 201, d 204 (f 2 3) 201, d 205 (k 204) 201, d 206 (bh 203 205) 201, a 207 (ko 201 206), am 208 207, d 209 (l 4 2) 208, d 210 (f 5 9) 208, d 211 (k 210) 208, d 212 (f 4 9) 208, d 213 (k 212) 208, (⟨(some 214), c 147 [209, 211, 213], some (208, false)⟩, false), (⟨(some 215), nt 214, some (208, false)⟩, false), a 216 (ko 208 215)] [2, 3, 8, 216]
 (.cond (.s 216) (rs [o 4 (.mv (.c w))] [4]
 (.ret [4])) .skip))))
 (.reg [om 191 8, o 192 (baj 191 1), om 8 192] none [2, 3, 8])))
def xf_ref09_may : XFunc := ⟨none, true, 2, [.tmp 4], (rs [o 2 (bx 0), o 3 (bx 1), o 4 (.mv (.c w))] [2, 3]
 (rs [ol 10 4 2, o 11 (c 89 [10]), om 5 11] [2, 3, 5]
 (.seq (ss [a 12 (f 0 3), a 13 (k 12), a 14 (blj 13 0), am 15 14, d 16 (f 0 3) 15, d 17 (k 16) 15, d 18 (m 5) 15, d 19 (bh 17 18) 15, a 20 (ko 15 19), am 21 20, d 22 (f 2 3) 21, d 23 (k 22) 21, d 24 (blj 23 0) 21, a 25 (ko 21 24), am 26 25, d 27 (f 2 3) 26, d 28 (k 27) 26, d 29 (bgj 28 4294967296) 26, a 30 (ko 26 29), am 31 30, d 32 (f 3 3) 31, d 33 (k 32) 31, d 34 (blj 33 0) 31, a 35 (ko 31 34), am 36 35, d 37 (f 3 3) 36, d 38 (k 37) 36, d 39 (f 2 3) 36, d 40 (k 39) 36, d 41 (bg 38 40) 36, a 42 (ko 36 41), am 43 42, d 44 (l 4 2) 43, d 45 (f 4 3) 43, d 46 (k 45) 43, d 47 (f 5 3) 43, d 48 (k 47) 43, (⟨(some 49), c 147 [44, 46, 48], some (43, false)⟩, false), (⟨(some 50), nt 49, some (43, false)⟩, false), a 51 (ko 43 50), am 52 51, d 53 (f 6 3) 52, d 54 (k 53) 52, d 55 (le 54) 52, d 56 (m 5) 52, d 57 (n 55 56) 52, a 58 (ko 52 57), am 59 58, d 60 (f 7 3) 59, d 61 (k 60) 59, d 62 (blj 61 0) 59, a 63 (ko 59 62), am 64 63, d 65 (f 7 3) 64, d 66 (k 65) 64, d 67 (f 2 2) 64, d 68 (k 67) 64, d 69 (bh 66 68) 64, a 70 (ko 64 69), am 71 70, d 72 (l 12 3) 71, d 73 (m 5) 71, (⟨(some 74), c 148 [72, 73], some (71, false)⟩, false), (⟨(some 75), nt 74, some (71, false)⟩, false), a 76 (ko 71 75)] [2, 3, 5, 76]
 (.cond (.s 76) (rs [o 4 (.mv (.c w))] [4]
 (.ret [4])) .skip))
 (rp (some []) [of 77 0 3, o 78 (k 77), of 79 2 3, o 80 (k 79), om 81 5, o 82 (.bin .rem (.s 80) (.s 81)), o 83 (q 78 82), om 6 83] [2, 3, 5, 6]
 (.seq (rs [of 84 1 3, o 85 (k 84)] [2, 3, 5, 6, 85]
 (.block 0 (rs [o 87 (qj 85 1), om 86 87] [2, 3, 5, 6, 85, 86]
 (.cond (.s 86) (.seq (ss [a 88 (f 3 3), a 89 (k 88), a 90 (f 2 3), a 91 (k 90), a 92 (n 89 91), am 93 92, d 94 (f 9 3) 93, d 95 (k 94) 93, d 96 (le 95) 93, d 97 (f 10 3) 93, d 98 (k 97) 93, d 99 (le 98) 93, d 100 (ba 96 99) 93, d 101 (f 11 3) 93, d 102 (k 101) 93, d 103 (le 102) 93, d 104 (ba 100 103) 93, d 105 (bgj 104 0) 93, a 106 (ko 93 105), am 107 106, d 108 (m 6) 107, d 109 (m 108) 107, b 110 (f 7 3) 109, b 111 (k 110) 109, b 112 (nj 111 0) 109, d 113 (ka 109 112) 107, a 114 (ko 107 113), am 115 114, d 116 (m 6) 115, d 117 (nt 116) 115, d 118 (m 117) 115, b 119 (f 8 3) 118, b 120 (k 119) 118, b 121 (le 120) 118, b 122 (bgj 121 0) 118, d 123 (ka 118 122) 115, a 124 (ko 115 123)] [3, 124]
 (.cond (.s 124) (rs [o 4 (.mv (.c w))] [4]
 (.ret [4])) .skip))
 (.seq (rs [o 7 (.mv (j 0))] [3, 7]
 (.block 1 (.loop xf_ref09_may_k0 xf_ref09_may_b0)))
 (rs [o 4 (.mv (.c v))] [4]
 (.ret [4])))) (rs [o 152 (qj 85 2), om 151 152] [2, 3, 5, 6, 85, 151]
 (.cond (.s 151) (.seq (ss [a 153 (f 3 3), a 154 (k 153), a 155 (f 2 3), a 156 (k 155), a 157 (q 154 156), am 158 157, d 159 (f 8 3) 158, d 160 (k 159) 158, d 161 (le 160) 158, d 162 (f 11 3) 158, d 163 (k 162) 158, d 164 (le 163) 158, d 165 (ba 161 164) 158, d 166 (bgj 165 0) 158, a 167 (ko 158 166), am 168 167, d 169 (m 6) 168, d 170 (nt 169) 168, d 171 (m 170) 168, b 172 (f 10 3) 171, b 173 (k 172) 171, b 174 (le 173) 171, b 175 (bgj 174 0) 171, d 176 (ka 171 175) 168, a 177 (ko 168 176), am 178 177, d 179 (f 10 3) 178, d 180 (k 179) 178, d 181 (le 180) 178, d 182 (f 0 2) 178, d 183 (k 182) 178, d 184 (bh 181 183) 178, a 185 (ko 178 184)] [2, 3, 185]
 (.cond (.s 185) (rs [o 4 (.mv (.c w))] [4]
 (.ret [4])) .skip))
 (.seq (rs [o 8 (.mv (j 0))] [2, 3, 8]
 (.block 3 (.loop xf_ref09_may_k1 xf_ref09_may_b1)))
 (rs [o 4 (.mv (.c v))] [4]
 (.ret [4])))) (rs [o 218 (qj 85 3), om 217 218] [2, 3, 5, 217]
 (.cond (.s 217) (rs [ol 219 4 2, ol 220 12 3, om 221 5, o 222 (c 149 [219, 220, 221]), om 4 222] [4]
 (.ret [4])) .skip))))))))
 (rs [o 4 (.mv (.c w))] [4]
 (.ret [4])))))))⟩

def xf_ref07_Config : XFunc := ⟨none, true, 1, [.tmp 2], (rs [o 1 (bx 0), o 2 (.mv (.c w))] [1]
 (ss [a 3 (f 0 1), a 4 (k 3), a 5 (bhj 4 1), am 6 5, b 7 (f 0 1) 6, b 8 (k 7) 6, b 9 (bmj 8 3) 6, a 10 (ka 6 9), am 11 10, b 12 (f 1 1) 11, b 13 (k 12) 11, b 14 (bhj 13 1) 11, a 15 (ka 11 14), am 16 15, b 17 (f 1 1) 16, b 18 (k 17) 16, b 19 (bmj 18 256) 16, a 20 (ka 16 19), am 21 20, b 22 (f 2 1) 21, b 23 (k 22) 21, b 24 (bhj 23 6) 21, a 25 (ka 21 24), am 26 25, b 27 (f 2 1) 26, b 28 (k 27) 26, b 29 (bmj 28 100) 26, a 30 (ka 26 29), am 2 30] [2]
 (.ret [2])))⟩

def xf_ref07_Uses_k0 : List (Nat × Option (Nat × Nat × Bool)) := [(3, none), (4, some (4, 1, true)), (5, none)]
def xf_ref07_Uses_b0 : XCode := (.seq (rs [om 33 5, om 34 3, o 35 (.len true (.s 34)), o 36 (bl 33 35)] [3, 4, 5, 36]
 (.cond (.s 36) .skip (.exit 1 [4])))
 (.seq (.block 2 (.reg [om 39 4, om 40 3, om 41 5, o 42 (.sidx (.s 40) (.s 41)), o 43 (.eqv true false [.i] (.s 42) (.c (.dat (.int .u8 46)))), o 44 (.bsl 4 1 true 1 [w] [(0, 1, (.s 43))]), o 45 (.app 4 1 1 true (.s 39) (.s 44)), om 4 45] none [3, 4, 5]))
 (.reg [om 37 5, o 38 (baj 37 1), om 5 38] none [3, 4, 5])))
def xf_ref07_Uses : XFunc := ⟨none, true, 1, [.tmp 2], (rs [o 2 (.mv (.c (.nil 4 1 true)))] [0]
 (rs [o 3 (.mv (.c x))] [0, 3]
 (.seq (rs [om 6 0] [3, 6]
 (.block 0 (rs [o 8 (qj 6 1), om 7 8] [3, 6, 7]
 (.cond (.s 7) (.reg [o 3 (.mv (.c (.dat (.str ⟨#[46, 46, 46, 46, 46, 46, 101, 46, 46, 46]⟩))))] none [3]) (rs [o 10 (qj 6 2), om 9 10] [3, 6, 9]
 (.cond (.s 9) (.reg [o 3 (.mv (.c (.dat (.str ⟨#[110, 118, 46, 112, 46, 46, 101, 114, 46, 46]⟩))))] none [3]) (rs [o 12 (qj 6 3), om 11 12] [3, 6, 11]
 (.cond (.s 11) (.reg [o 3 (.mv (.c (.dat (.str ⟨#[110, 118, 46, 112, 99, 46, 101, 46, 46, 120]⟩))))] none [3]) (rs [o 14 (qj 6 4), om 13 14] [3, 6, 13]
 (.cond (.s 13) (.reg [o 3 (.mv (.c (.dat (.str ⟨#[110, 118, 46, 112, 46, 46, 46, 46, 46, 120]⟩))))] none [3]) (rs [o 16 (qj 6 5), om 15 16] [3, 6, 15]
 (.cond (.s 15) (.reg [o 3 (.mv (.c (.dat (.str ⟨#[110, 118, 46, 46, 99, 46, 46, 46, 46, 120]⟩))))] none [3]) (.seq (rs [o 18 (qj 6 6), om 17 18] [3, 6, 17]
 (.cond (.s 17) .skip (.reg [o 19 (qj 6 11), om 17 19] none [3, 6, 17])))
 (.cond (.s 17) (.reg [o 3 (.mv (.c (.dat (.str ⟨#[110, 118, 46, 46, 46, 46, 46, 46, 46, 120]⟩))))] none [3]) (rs [o 21 (qj 6 7), om 20 21] [3, 6, 20]
 (.cond (.s 20) (.reg [o 3 (.mv (.c (.dat (.str ⟨#[110, 118, 108, 46, 99, 46, 46, 46, 103, 120]⟩))))] none [3]) (.seq (rs [o 23 (qj 6 8), om 22 23] [3, 6, 22]
 (.cond (.s 22) .skip (.reg [o 24 (qj 6 12), om 22 24] none [3, 6, 22])))
 (.cond (.s 22) (.reg [o 3 (.mv (.c (.dat (.str ⟨#[110, 118, 46, 46, 99, 46, 46, 46, 103, 120]⟩))))] none [3]) (rs [o 26 (qj 6 9), om 25 26] [3, 6, 25]
 (.cond (.s 25) (.reg [o 3 (.mv (.c (.dat (.str ⟨#[110, 46, 46, 46, 46, 100, 46, 46, 46, 120]⟩))))] none [3]) (rs [o 28 (qj 6 10), om 27 28] [3, 6, 27]
 (.cond (.s 27) (.reg [o 3 (.mv (.c (.dat (.str ⟨#[110, 118, 46, 46, 99, 100, 46, 46, 103, 120]⟩))))] none [3]) (rs [o 30 (qj 6 13), om 29 30] [3, 6, 29]
 (.cond (.s 29) (.reg [o 3 (.mv (.c (.dat (.str ⟨#[46, 46, 46, 112, 46, 46, 101, 46, 46, 46]⟩))))] none [3]) (rs [o 32 (qj 6 14), om 31 32] [3, 31]
 (.cond (.s 31) (.reg [o 3 (.mv (.c (.dat (.str ⟨#[110, 118, 46, 46, 99, 46, 101, 114, 46, 46]⟩))))] none [3]) .skip))))))))))))))))))))))))))
 (rs [o 4 (.mv (.c (.nil 4 1 true)))] [3, 4]
 (.seq (rs [o 5 (.mv (j 0))] [3, 4, 5]
 (.block 1 (.loop xf_ref07_Uses_k0 xf_ref07_Uses_b0)))
 (rs [om 46 4, om 2 46] [2]
 (.ret [2])))))))⟩

def xf_ref07_unused : XFunc := ⟨none, true, 2, [.tmp 4], (rs [o 2 (bx 0), o 4 (.mv (.c w))] [1, 2]
 (rp (some []) [of 10 1 2, o 11 (k 10), o 12 (qj 11 0), of 13 2 2, o 14 (k 13), o 15 (qj 14 0), of 16 13 2, o 17 (k 16), o 18 (qj 17 0), of 19 11 2, o 20 (k 19), o 21 (qj 20 0), of 22 12 2, o 23 (k 22), o 24 (qj 23 0), om 5 12, om 6 15, om 7 18, om 8 21, om 9 24] [1, 2, 5, 6, 7, 8, 9]
 (ss [am 25 1, a 26 (.iadr 1 (.s 25) (j 0)), a 27 (k 26), am 28 27, d 29 (m 5) 28, a 30 (ko 28 29), am 31 30, bb 32 1 31, (g 33 (.iadr 1 (.s 32) (j 1)) 31, false), (g 34 (k 33) 31, false), (g 35 (m 34) 31, false), d 36 (m 6) 35, (g 37 (ko 35 36) 31, false), a 38 (ka 31 37), am 39 38, bb 40 1 39, (g 41 (.iadr 1 (.s 40) (j 2)) 39, false), (g 42 (k 41) 39, false), (g 43 (m 42) 39, false), d 44 (m 7) 43, (g 45 (ko 43 44) 39, false), a 46 (ka 39 45), am 47 46, bb 48 1 47, (g 49 (.iadr 1 (.s 48) (j 3)) 47, false), (g 50 (k 49) 47, false), (g 51 (m 50) 47, false), d 52 (m 8) 51, (g 53 (ko 51 52) 47, false), a 54 (ka 47 53), am 55 54, bb 56 1 55, (g 57 (.iadr 1 (.s 56) (j 4)) 55, false), (g 58 (k 57) 55, false), (g 59 (m 58) 55, false), d 60 (m 9) 59, (g 61 (ko 59 60) 55, false), a 62 (ka 55 61), am 63 62, bb 64 1 63, (g 65 (.iadr 1 (.s 64) (j 5)) 63, false), (g 66 (k 65) 63, false), (g 67 (m 66) 63, false), d 68 (f 14 2) 67, d 69 (l 2 68) 67, d 70 (.build [y, y] []) 67, d 71 (.eqv false true [.i, .i] (.s 69) (.s 70)) 67, (g 72 (ko 67 71) 63, false), a 73 (ka 63 72), am 74 73, bb 75 1 74, (g 76 (.iadr 1 (.s 75) (j 6)) 74, false), (g 77 (k 76) 74, false), (g 78 (m 77) 74, false), d 79 (f 3 2) 78, d 80 (l 5 79) 78, d 81 (.build l11 []) 78, d 82 (.eqv false true [.i, .i, .i, .i, .s] (.s 80) (.s 81)) 78, (g 83 (ko 78 82) 74, false), a 84 (ka 74 83), am 85 84, bb 86 1 85, (g 87 (.iadr 1 (.s 86) (j 7)) 85, false), (g 88 (k 87) 85, false), (g 89 (m 88) 85, false), d 90 (f 8 2) 89, d 91 (l 3 90) 89, d 92 (.build l7 []) 89, d 93 (.eqv false true [.i, .i, .s] (.s 91) (.s 92)) 89, (g 94 (ko 89 93) 85, false), a 95 (ka 85 94), am 96 95, bb 97 1 96, (g 98 (.iadr 1 (.s 97) (j 8)) 96, false), (g 99 (k 98) 96, false), (g 100 (m 99) 96, false), d 101 (f 16 2) 100, d 102 (k 101) 100, d 103 (le 102) 100, d 104 (qj 103 0) 100, (g 105 (ko 100 104) 96, false), a 106 (ka 96 105), am 107 106, bb 108 1 107, (g 109 (.iadr 1 (.s 108) (j 9)) 107, false), (g 110 (k 109) 107, false), (g 111 (m 110) 107, false), d 112 (f 17 2) 111, d 113 (k 112) 111, d 114 (le 113) 111, d 115 (qj 114 0) 111, (g 116 (ko 111 115) 107, false), a 117 (ka 107 116), am 4 117] [4]
 (.ret [4]))))⟩

def xf_ref07_fields : XFunc := ⟨none, true, 4, [.tmp 8], (rs [o 4 (bx 0), o 5 (bx 1), o 8 (.mv (.c w))] [2, 3, 4, 5]
 (rs [of 10 0 4, o 11 (k 10), o 12 (.bin .mul (j 2) (.s 11)), o 13 (baj 12 1), om 9 13] [2, 3, 4, 5, 9]
 (.seq (ss [am 14 3, a 15 (.iadr 1 (.s 14) (j 0)), a 16 (k 15), am 17 16, b 18 (f 1 5) 17, b 19 (k 18) 17, b 20 (blj 19 0) 17, bb 21 20 17, d 22 (f 1 5) 21, d 23 (k 22) 21, d 24 (m 9) 21, d 25 (bh 23 24) 21, b 26 (ko 21 25) 17, a 27 (ka 17 26), am 28 27, d 29 (m 3) 28, (⟨(some 30), .iadr 1 (.s 29) (j 1), some (28, false)⟩, false), (⟨(some 31), k 30, some (28, false)⟩, false), (⟨(some 32), m 31, some (28, false)⟩, false), b 33 (f 2 5) 32, b 34 (k 33) 32, b 35 (blj 34 0) 32, bb 36 35 32, d 37 (f 2 5) 36, d 38 (k 37) 36, d 39 (bgj 38 4294967296) 36, b 40 (ko 36 39) 32, (⟨(some 41), ka 32 40, some (28, false)⟩, false), a 42 (ko 28 41)] [2, 3, 4, 5, 9, 42]
 (.cond (.s 42) (rs [o 8 (.mv (.c w))] [8]
 (.ret [8])) .skip))
 (.seq (ss [am 43 2, a 44 (qj 43 6), am 45 44, d 46 (m 2) 45, d 47 (qj 46 7) 45, a 48 (ko 45 47), am 49 48, d 50 (m 2) 49, d 51 (qj 50 8) 49, a 52 (ko 49 51), am 53 52, b 54 (f 2 5) 53, b 55 (k 54) 53, b 56 (blj 55 1) 53, a 57 (ka 53 56)] [2, 3, 4, 5, 9, 57]
 (.cond (.s 57) (rs [o 8 (.mv (.c w))] [8]
 (.ret [8])) .skip))
 (.seq (sp (some []) [am 58 2, a 59 (qj 58 3), am 60 59, d 61 (m 2) 60, d 62 (qj 61 5) 60, a 63 (ko 60 62), am 64 63, d 65 (m 2) 64, d 66 (qj 65 8) 64, a 67 (ko 64 66), am 68 67, b 69 (f 1 5) 68, b 70 (k 69) 68, b 71 (f 2 5) 68, b 72 (k 71) 68, bb 73 9 68, (g 74 (.bin .rem (.s 72) (.s 73)) 68, false), (g 75 (n 70 74) 68, false), a 76 (ka 68 75)] [2, 3, 4, 5, 9, 76]
 (.cond (.s 76) (rs [o 8 (.mv (.c w))] [8]
 (.ret [8])) .skip))
 (.seq (ss [am 77 3, a 78 (.iadr 1 (.s 77) (j 2)), a 79 (k 78), am 80 79, b 81 (f 13 5) 80, b 82 (k 81) 80, b 83 (blj 82 0) 80, bb 84 83 80, d 85 (f 13 5) 84, d 86 (k 85) 84, d 87 (f 2 5) 84, d 88 (k 87) 84, d 89 (bh 86 88) 84, b 90 (ko 84 89) 80, a 91 (ka 80 90)] [2, 3, 4, 5, 9, 91]
 (.cond (.s 91) (rs [o 8 (.mv (.c w))] [8]
 (.ret [8])) .skip))
 (.seq (ss [am 92 3, a 93 (.iadr 1 (.s 92) (j 3)), a 94 (k 93), am 95 94, b 96 (f 11 5) 95, b 97 (k 96) 95, b 98 (blj 97 0) 95, bb 99 98 95, d 100 (f 11 5) 99, d 101 (k 100) 99, d 102 (f 1 4) 99, d 103 (k 102) 99, d 104 (bg 101 103) 99, b 105 (ko 99 104) 95, bb 106 105 95, d 107 (m 2) 106, d 108 (qj 107 3) 106, d 109 (m 108) 106, b 110 (f 11 5) 109, b 111 (k 110) 109, b 112 (blj 111 1) 109, d 113 (ka 109 112) 106, b 114 (ko 106 113) 95, bb 115 114 95, d 116 (m 2) 115, d 117 (qj 116 2) 115, d 118 (m 117) 115, b 119 (f 11 5) 118, b 120 (k 119) 118, b 121 (qj 120 0) 118, b 122 (f 8 5) 118, b 123 (f 0 122) 118, b 124 (k 123) 118, b 125 (qj 124 7) 118, b 126 (.eqv true false [.b] (.s 121) (.s 125)) 118, d 127 (ka 118 126) 115, b 128 (ko 115 127) 95, a 129 (ka 95 128)] [2, 3, 4, 5, 9, 129]
 (.cond (.s 129) (rs [o 8 (.mv (.c w))] [8]
 (.ret [8])) .skip))
 (.seq (ss [am 130 3, a 131 (.iadr 1 (.s 130) (j 8)), a 132 (k 131), am 133 132, b 134 (f 16 5) 133, b 135 (k 134) 133, b 136 (f 1 4) 133, b 137 (k 136) 133, (g 138 (c 150 [135, 137]) 133, false), (g 139 (nj 138 0) 133, false), a 140 (ka 133 139)] [2, 3, 4, 5, 9, 140]
 (.cond (.s 140) (rs [o 8 (.mv (.c w))] [8]
 (.ret [8])) .skip))
 (.seq (ss [am 141 3, a 142 (.iadr 1 (.s 141) (j 4)), a 143 (k 142), am 144 143, b 145 (f 12 5) 144, b 146 (k 145) 144, b 147 (blj 146 0) 144, bb 148 147 144, d 149 (f 12 5) 148, d 150 (k 149) 148, d 151 (f 1 4) 148, d 152 (k 151) 148, d 153 (bg 150 152) 148, b 154 (ko 148 153) 144, (g 155 (m 154) 144, false), d 156 (m 3) 155, (⟨(some 157), .iadr 1 (.s 156) (j 8), some (155, false)⟩, false), (⟨(some 158), k 157, some (155, false)⟩, false), (⟨(some 159), m 158, some (155, false)⟩, false), b 160 (f 12 5) 159, b 161 (k 160) 159, b 162 (f 16 5) 159, b 163 (k 162) 159, b 164 (le 163) 159, b 165 (bg 161 164) 159, (⟨(some 166), ka 159 165, some (155, false)⟩, false), (g 167 (ko 155 166) 144, false), a 168 (ka 144 167)] [2, 3, 5, 9, 168]
 (.cond (.s 168) (rs [o 8 (.mv (.c w))] [8]
 (.ret [8])) .skip))
 (.seq (sp (some []) [am 169 2, a 170 (qj 169 10), am 171 170, b 172 (f 16 5) 171, b 173 (k 172) 171, b 174 (le 173) 171, b 175 (bgj 174 0) 171, a 176 (ka 171 175), am 177 176, b 178 (f 1 5) 177, b 179 (k 178) 177, b 180 (f 2 5) 177, b 181 (k 180) 177, bb 182 9 177, (g 183 (.bin .rem (.s 181) (.s 182)) 177, false), (g 184 (n 179 183) 177, false), a 185 (ka 177 184)] [2, 3, 5, 9, 185]
 (.cond (.s 185) (rs [o 8 (.mv (.c w))] [8]
 (.ret [8])) .skip))
 (.seq (ss [am 186 3, a 187 (.iadr 1 (.s 186) (j 9)), a 188 (k 187), am 189 188, b 190 (f 17 5) 189, b 191 (k 190) 189, b 192 (le 191) 189, bb 193 9 189, b 194 (n 192 193) 189, a 195 (ka 189 194)] [2, 3, 5, 195]
 (.cond (.s 195) (rs [o 8 (.mv (.c w))] [8]
 (.ret [8])) .skip))
 (.seq (sp (some []) [am 196 3, a 197 (.iadr 1 (.s 196) (j 5)), a 198 (k 197), am 199 198, b 200 (f 14 5) 199, b 201 (l 2 200) 199, b 202 (.build [y, y] []) 199, b 203 (.eqv false true [.i, .i] (.s 201) (.s 202)) 199, a 204 (ka 199 203), am 205 204, d 206 (m 2) 205, d 207 (qj 206 9) 205, (⟨(some 208), m 207, some (205, false)⟩, false), b 209 (f 14 5) 208, b 210 (l 2 209) 208, b 211 (f 17 5) 208, b 212 (k 211) 208, b 213 (f 1 5) 208, b 214 (k 213) 208, (g 215 (ia 2 212 214) 208, false), (g 216 (l 2 215) 208, false), (g 217 (.eqv true true [.i, .i] (.s 210) (.s 216)) 208, false), (⟨(some 218), ka 208 217, some (205, false)⟩, false), a 219 (ko 205 218)] [2, 3, 5, 219]
 (.cond (.s 219) (rs [o 8 (.mv (.c w))] [8]
 (.ret [8])) .skip))
 (.seq (ss [am 220 2, a 221 (qj 220 14), am 222 221, b 223 (f 8 5) 222, b 224 (f 0 223) 222, b 225 (k 224) 222, b 226 (blj 225 4) 222, bb 227 226 222, d 228 (f 8 5) 227, d 229 (f 0 228) 227, d 230 (k 229) 227, d 231 (bgj 230 6) 227, b 232 (ko 227 231) 222, a 233 (ka 222 232)] [2, 3, 5, 233]
 (.cond (.s 233) (rs [o 8 (.mv (.c w))] [8]
 (.ret [8])) .skip))
 (ss [am 234 3, a 235 (.iadr 1 (.s 234) (j 6)), a 236 (k 235), a 237 (nt 236), am 238 237, d 239 (m 2) 238, d 240 (f 3 5) 238, d 241 (l 5 240) 238, (⟨(some 242), c 151 [239, 241], some (238, false)⟩, false), a 243 (ko 238 242), am 244 243, bb 245 3 244, (g 246 (.iadr 1 (.s 245) (j 7)) 244, false), (g 247 (k 246) 244, false), (g 248 (nt 247) 244, false), (g 249 (m 248) 244, false), d 250 (f 8 5) 249, d 251 (l 3 250) 249, (⟨(some 252), c 152 [251], some (249, false)⟩, false), (g 253 (ko 249 252) 244, false), a 254 (ka 244 253), am 8 254] [8]
 (.ret [8])))))))))))))))⟩

def xf_core_leads : XFunc := ⟨none, true, 2, [.tmp 4], (rs [o 2 (bx 0), o 3 (bx 1), o 4 (.mv (.c w))] [2, 3]
 (rp (some []) [of 5 0 3, o 6 (k 5), of 7 2 3, o 8 (k 7), of 9 0 2, o 10 (k 9), o 11 (.bin .mul (j 2) (.s 10)), o 12 (baj 11 1), o 13 (.bin .rem (.s 8) (.s 12)), o 14 (q 6 13), om 4 14] [4]
 (.ret [4])))⟩

def xf_core_CheckConfig : XFunc := ⟨none, true, 1, [.tmp 2], (rs [o 1 (bx 0), o 2 (.mv (j 0))] [1]
 (.seq (ss [a 3 (f 0 1), a 4 (k 3), a 5 (blj 4 1), am 6 5, d 7 (f 0 1) 6, d 8 (k 7) 6, d 9 (bgj 8 3) 6, a 10 (ko 6 9), am 11 10, d 12 (f 1 1) 11, d 13 (k 12) 11, d 14 (blj 13 1) 11, a 15 (ko 11 14), am 16 15, d 17 (f 1 1) 16, d 18 (k 17) 16, d 19 (bgj 18 256) 16, a 20 (ko 16 19), am 21 20, d 22 (f 2 1) 21, d 23 (k 22) 21, d 24 (blj 23 6) 21, a 25 (ko 21 24), am 26 25, d 27 (f 2 1) 26, d 28 (k 27) 26, d 29 (bgj 28 100) 26, a 30 (ko 26 29)] [30]
 (.cond (.s 30) (rs [o 2 (.mv (j 1))] [2]
 (.ret [2])) .skip))
 (rs [o 2 (.mv (j 0))] [2]
 (.ret [2]))))⟩

def xf_core_Nodes : XFunc := ⟨none, true, 1, [.tmp 2], (rs [o 1 (bx 0), o 2 (.mv (j 0))] [1]
 (.seq (rs [ol 3 4 1, o 4 (c 70 [3]), o 5 (nj 4 0)] [1, 5]
 (.cond (.s 5) (rs [o 2 (.mv (j 0))] [2]
 (.ret [2])) .skip))
 (rs [of 6 0 1, o 7 (k 6), o 8 (.bin .mul (j 2) (.s 7)), o 9 (baj 8 1), om 2 9] [2]
 (.ret [2]))))⟩

def xf_plain_CopyEntries : XFunc := ⟨none, false, 1, [.tmp 2], (rs [o 2 (.mv (.c (.nil 38 5 true)))] [0]
 (rs [om 3 0, o 4 (.app 38 5 48 true (.c (.nil 38 5 true)) (.s 3)), om 2 4] [2]
 (.ret [2])))⟩

def xf_plain_CopyVector : XFunc := ⟨none, false, 1, [.tmp 2], (rs [o 2 (.mv (.c (.nil 43 2 true)))] [0]
 (rs [om 3 0, o 4 (.app 43 2 16 true (.c (.nil 43 2 true)) (.s 3)), om 2 4] [2]
 (.ret [2])))⟩

def xf_core_logged : XFunc := ⟨none, true, 3, [.tmp 6], (rs [o 3 (bx 0), o 6 (.mv (.c w))] [1, 2, 3]
 (rs [om 10 1, of 11 1 3, o 12 (k 11), o 13 (c 118 [10, 12]), om 9 13, o 14 (e 9 0), o 15 (e 9 1), om 7 14, om 8 15] [1, 2, 7]
 (ss [am 16 7, a 17 (qj 16 0), am 18 17, bb 19 2 18, b 20 (bhj 19 0) 18, a 21 (ka 18 20), am 22 21, bb 23 2 22, bb 24 1 22, b 25 (le 24) 22, b 26 (bm 23 25) 22, a 27 (ka 22 26), am 6 27] [6]
 (.ret [6]))))⟩

def xf_core_voted_k1 : List (Nat × Option (Nat × Nat × Bool)) := [(1, none), (3, none), (6, none), (10, none), (11, none), (14, some (228, 3, true)), (15, none), (16, none)]
def xf_core_voted_b1 : XCode := (rs [o 17 (bl 16 15)] [1, 3, 6, 10, 11, 14, 15, 16, 17]
 (.seq (.cond (.s 17) .skip (.exit 2 [1, 3, 10, 11]))
 (.seq (.block 3 (rs [o 18 (ia 3 14 16), ol 19 3 18, o 8 (.alloc l8), p (t 3 8 19)] [1, 3, 6, 8, 10, 11, 14, 15, 16]
 (.seq (sp (some []) [a 20 (f 0 8), a 21 (k 20), am 22 6, a 23 (bm 21 22), am 24 23, d 25 (f 0 8) 24, d 26 (k 25) 24, d 27 (f 6 1) 24, d 28 (k 27) 24, d 29 (le 28) 24, d 30 (bh 26 29) 24, a 31 (ko 24 30), am 32 31, d 33 (f 0 8) 32, d 34 (k 33) 32, d 35 (f 0 1) 32, d 36 (k 35) 32, d 37 (q 34 36) 32, a 38 (ko 32 37), am 39 38, d 40 (f 6 1) 39, d 41 (k 40) 39, d 42 (f 0 8) 39, d 43 (k 42) 39, (⟨(some 44), ia 2 41 43, some (39, false)⟩, false), (⟨(some 45), l 2 44, some (39, false)⟩, false), d 46 (f 1 8) 39, d 47 (l 2 46) 39, (⟨(some 48), .eqv true true [.i, .i] (.s 45) (.s 47), some (39, false)⟩, false), a 49 (ko 39 48)] [1, 3, 8, 10, 11, 14, 15, 16, 49]
 (.cond (.s 49) (rs [o 3 (.mv (.c w))] [3]
 (.exit 0 [3])) .skip))
 (.reg [of 50 0 8, o 51 (k 50), om 6 51] none [1, 3, 6, 10, 11, 14, 15, 16]))))
 (.reg [o 52 (baj 16 1), om 16 52] none [1, 3, 6, 10, 11, 14, 15, 16]))))
def xf_core_voted_k0 : List (Nat × Option (Nat × Nat × Bool)) := [(1, none), (3, none), (10, none), (11, none)]
def xf_core_voted_b0 : XCode := (rs [o 12 (blj 11 4)] [1, 3, 10, 11, 12]
 (.seq (.cond (.s 12) .skip (.exit 0 [3]))
 (.seq (.block 1 (rs [o 13 (.idx none 1 4 (.s 10) (.s 11)), om 5 13] [1, 3, 5, 10, 11]
 (rs [o 6 (.mv (j (-1)))] [1, 3, 5, 6, 10, 11]
 (rs [om 14 5, o 15 (le 14), o 16 (.mv (j 0))] [1, 3, 6, 10, 11, 14, 15, 16]
 (.block 2 (.loop xf_core_voted_k1 xf_core_voted_b1))))))
 (.reg [o 53 (baj 11 1), om 11 53] none [1, 3, 10, 11]))))
def xf_core_voted : XFunc := ⟨none, true, 1, [.tmp 2], (rs [o 1 (bx 0), o 2 (.mv (.c w))] [1]
 (rs [o 3 (.mv (.c v))] [1, 3]
 (.seq .skip
 (.seq (rs [ol 9 12 1, o 10 (c 153 [9]), o 11 (.mv (j 0))] [1, 3, 10, 11]
 (.block 0 (.loop xf_core_voted_k0 xf_core_voted_b0)))
 (rs [om 54 3, om 2 54] [2]
 (.ret [2]))))))⟩

def xf_core_normal_k0 : List (Nat × Option (Nat × Nat × Bool)) := [(3, none), (39, some (67, 4, true)), (40, none), (41, none)]
def xf_core_normal_b0 : XCode := (rs [o 42 (bl 41 40)] [3, 39, 40, 41, 42]
 (.seq (.cond (.s 42) .skip (.exit 0 [3]))
 (.seq (.block 1 (rs [o 43 (ia 4 39 41), ol 44 4 43, o 6 (.alloc l10), p (t 4 6 44)] [3, 6, 39, 40, 41]
 (ss [a 45 (f 3 6), a 46 (k 45), a 47 (blj 46 1), am 48 47, d 49 (f 3 6) 48, d 50 (k 49) 48, d 51 (f 4 3) 48, d 52 (k 51) 48, d 53 (le 52) 48, d 54 (bg 50 53) 48, a 55 (ko 48 54)] [3, 39, 40, 41, 55]
 (.cond (.s 55) (rs [o 4 (.mv (.c w))] [4]
 (.ret [4])) .skip))))
 (.reg [o 56 (baj 41 1), om 41 56] none [3, 39, 40, 41]))))
def xf_core_normal : XFunc := ⟨none, true, 2, [.tmp 4], (rs [o 2 (bx 0), o 3 (bx 1), o 4 (.mv (.c w))] [2, 3]
 (.seq (ss [a 7 (f 3 3), a 8 (k 7), a 9 (f 2 3), a 10 (k 9), a 11 (n 8 10), am 12 11, d 13 (f 9 3) 12, d 14 (k 13) 12, d 15 (le 14) 12, d 16 (bgj 15 0) 12, a 17 (ko 12 16), am 18 17, d 19 (f 10 3) 18, d 20 (k 19) 18, d 21 (le 20) 18, d 22 (bgj 21 0) 18, a 23 (ko 18 22), am 24 23, d 25 (f 11 3) 24, d 26 (k 25) 24, d 27 (le 26) 24, d 28 (bgj 27 0) 24, a 29 (ko 24 28)] [2, 3, 29]
 (.cond (.s 29) (rs [o 4 (.mv (.c w))] [4]
 (.ret [4])) .skip))
 (.seq (rs [ol 30 4 2, ol 31 12 3, o 32 (c 69 [30, 31]), o 33 (nt 32)] [3, 33]
 (.cond (.s 33) (rs [of 34 8 3, o 35 (k 34), o 36 (le 35), o 37 (qj 36 0), om 4 37] [4]
 (.ret [4])) .skip))
 (.seq (rs [of 38 8 3, o 39 (k 38), o 40 (le 39), o 41 (.mv (j 0))] [3, 39, 40, 41]
 (.block 0 (.loop xf_core_normal_k0 xf_core_normal_b0)))
 (rs [of 57 7 3, o 58 (k 57), o 59 (qj 58 0), om 4 59] [4]
 (.ret [4]))))))⟩

def xf_core_changing_k0 : List (Nat × Option (Nat × Nat × Bool)) := [(2, none), (3, none), (45, some (71, 6, false)), (46, none), (47, none)]
def xf_core_changing_b0 : XCode := (rs [o 48 (bl 47 46)] [2, 3, 45, 46, 47, 48]
 (.seq (.cond (.s 48) .skip (.exit 0 []))
 (.seq (.block 1 (rs [o 49 (ia 6 45 47), ol 50 6 49, o 6 (.alloc l2), p (t 6 6 50)] [2, 3, 6, 45, 46, 47]
 (ss [a 51 (f 3 6), a 52 (k 51), a 53 (blj 52 0), am 54 53, d 55 (f 3 6) 54, d 56 (k 55) 54, d 57 (f 2 3) 54, d 58 (k 57) 54, d 59 (bh 56 58) 54, a 60 (ko 54 59), am 61 60, d 62 (l 4 2) 61, d 63 (f 5 6) 61, d 64 (k 63) 61, d 65 (f 4 6) 61, d 66 (k 65) 61, (⟨(some 67), c 74 [62, 64, 66], some (61, false)⟩, false), (⟨(some 68), nt 67, some (61, false)⟩, false), a 69 (ko 61 68)] [2, 3, 45, 46, 47, 69]
 (.cond (.s 69) (rs [o 4 (.mv (.c w))] [4]
 (.ret [4])) .skip))))
 (.reg [o 70 (baj 47 1), om 47 70] none [2, 3, 45, 46, 47]))))
def xf_core_changing : XFunc := ⟨none, true, 2, [.tmp 4], (rs [o 2 (bx 0), o 3 (bx 1), o 4 (.mv (.c w))] [2, 3]
 (.seq (ss [a 7 (f 3 3), a 8 (k 7), a 9 (f 2 3), a 10 (k 9), a 11 (bh 8 10), am 12 11, d 13 (f 8 3) 12, d 14 (k 13) 12, d 15 (le 14) 12, d 16 (bgj 15 0) 12, a 17 (ko 12 16), am 18 17, d 19 (f 11 3) 18, d 20 (k 19) 18, d 21 (le 20) 18, d 22 (bgj 21 0) 18, a 23 (ko 18 22), am 24 23, d 25 (f 10 3) 24, d 26 (k 25) 24, d 27 (le 26) 24, d 28 (f 0 2) 24, d 29 (k 28) 24, d 30 (bh 27 29) 24, a 31 (ko 24 30), am 32 31, d 33 (l 4 2) 32, d 34 (l 12 3) 32, (⟨(some 35), c 69 [33, 34], some (32, false)⟩, false), (⟨(some 36), nt 35, some (32, false)⟩, false), (⟨(some 37), m 36, some (32, false)⟩, false), b 38 (f 10 3) 37, b 39 (k 38) 37, b 40 (le 39) 37, b 41 (bgj 40 0) 37, (⟨(some 42), ka 37 41, some (32, false)⟩, false), a 43 (ko 32 42)] [2, 3, 43]
 (.cond (.s 43) (rs [o 4 (.mv (.c w))] [4]
 (.ret [4])) .skip))
 (.seq (rs [of 44 10 3, o 45 (k 44), o 46 (le 45), o 47 (.mv (j 0))] [2, 3, 45, 46, 47]
 (.block 0 (.loop xf_core_changing_k0 xf_core_changing_b0)))
 (rs [o 4 (.mv (.c v))] [4]
 (.ret [4])))))⟩

def xf_core_recovering_k0 : List (Nat × Option (Nat × Nat × Bool)) := [(2, none), (60, some (73, 6, false)), (61, none), (62, none)]
def xf_core_recovering_b0 : XCode := (rs [o 63 (bl 62 61)] [2, 60, 61, 62, 63]
 (.seq (.cond (.s 63) .skip (.exit 0 []))
 (.seq (.block 1 (rs [o 64 (ia 6 60 62), ol 65 6 64, o 6 (.alloc l2), p (t 6 6 65)] [2, 6, 60, 61, 62]
 (sp (some [(19, 23)]) [a 66 (f 3 6), a 67 (k 66), a 68 (blj 67 0), am 69 68, d 70 (f 3 6) 69, d 71 (k 70) 69, d 72 (bgj 71 4294967296) 69, a 73 (ko 69 72), am 74 73, d 75 (l 4 2) 74, d 76 (f 5 6) 74, d 77 (k 76) 74, d 78 (f 4 6) 74, d 79 (k 78) 74, (⟨(some 80), c 74 [75, 77, 79], some (74, false)⟩, false), (⟨(some 81), nt 80, some (74, false)⟩, false), a 82 (ko 74 81), am 83 82, d 84 (f 0 6) 83, d 85 (k 84) 83, d 86 (l 4 2) 83, d 87 (f 3 6) 83, d 88 (k 87) 83, (⟨(some 89), c 20 [86, 88], some (83, false)⟩, false), (⟨(some 90), n 85 89, some (83, false)⟩, false), (⟨(some 91), m 90, some (83, false)⟩, false), b 92 (f 5 6) 91, b 93 (k 92) 91, b 94 (le 93) 91, b 95 (bgj 94 0) 91, (⟨(some 96), ka 91 95, some (83, false)⟩, false), a 97 (ko 83 96)] [2, 60, 61, 62, 97]
 (.cond (.s 97) (rs [o 4 (.mv (.c w))] [4]
 (.ret [4])) .skip))))
 (.reg [o 98 (baj 62 1), om 62 98] none [2, 60, 61, 62]))))
def xf_core_recovering : XFunc := ⟨none, true, 2, [.tmp 4], (rs [o 2 (bx 0), o 3 (bx 1), o 4 (.mv (.c w))] [2, 3]
 (.seq (ss [a 7 (f 2 3), a 8 (k 7), a 9 (nj 8 0), am 10 9, d 11 (f 3 3) 10, d 12 (k 11) 10, d 13 (nj 12 0) 10, a 14 (ko 10 13), am 15 14, d 16 (f 5 3) 15, d 17 (k 16) 15, d 18 (nj 17 0) 15, a 19 (ko 15 18), am 20 19, d 21 (f 7 3) 20, d 22 (k 21) 20, d 23 (nj 22 0) 20, a 24 (ko 20 23), am 25 24, d 26 (f 4 3) 25, d 27 (k 26) 25, d 28 (le 27) 25, d 29 (bgj 28 0) 25, a 30 (ko 25 29), am 31 30, d 32 (f 8 3) 31, d 33 (k 32) 31, d 34 (le 33) 31, d 35 (bgj 34 0) 31, a 36 (ko 31 35), am 37 36, d 38 (f 9 3) 37, d 39 (k 38) 37, d 40 (le 39) 37, d 41 (bgj 40 0) 37, a 42 (ko 37 41), am 43 42, d 44 (f 10 3) 43, d 45 (k 44) 43, d 46 (le 45) 43, d 47 (bgj 46 0) 43, a 48 (ko 43 47), am 49 48, d 50 (f 6 3) 49, d 51 (k 50) 49, d 52 (f 0 3) 49, d 53 (k 52) 49, (⟨(some 54), ia 2 51 53, some (49, false)⟩, false), (⟨(some 55), l 2 54, some (49, false)⟩, false), d 56 (.build [y, y] []) 49, (⟨(some 57), .eqv false true [.i, .i] (.s 55) (.s 56), some (49, false)⟩, false), a 58 (ko 49 57)] [2, 3, 58]
 (.cond (.s 58) (rs [o 4 (.mv (.c w))] [4]
 (.ret [4])) .skip))
 (.seq (rs [of 59 11 3, o 60 (k 59), o 61 (le 60), o 62 (.mv (j 0))] [2, 60, 61, 62]
 (.block 0 (.loop xf_core_recovering_k0 xf_core_recovering_b0)))
 (rs [o 4 (.mv (.c v))] [4]
 (.ret [4])))))⟩

def xf_vector_speaks : XFunc := ⟨none, true, 1, [.tmp 2], (rs [o 1 (bx 0), o 2 (.mv (.c w))] [1]
 (ss [a 3 (f 1 1), a 4 (k 3), a 5 (c 125 [4]), am 6 5, b 7 (f 0 1) 6, b 8 (k 7) 6, b 9 (bhj 8 0) 6, a 10 (ka 6 9), am 11 10, b 12 (f 0 1) 11, b 13 (k 12) 11, b 14 (f 1 1) 11, b 15 (k 14) 11, b 16 (le 15) 11, b 17 (bl 13 16) 11, a 18 (ka 11 17), am 2 18] [2]
 (.ret [2])))⟩

def xf_slices_EqualFunc_Ballot_Ballot_Ballot_Ballot_k0 : List (Nat × Option (Nat × Nat × Bool)) := [(1, none), (2, none), (15, some (71, 6, false)), (16, none), (17, none)]
def xf_slices_EqualFunc_Ballot_Ballot_Ballot_Ballot_b0 : XCode := (rs [o 18 (bl 17 16)] [1, 2, 15, 16, 17, 18]
 (.seq (.cond (.s 18) .skip (.exit 0 []))
 (.seq (.block 1 (rs [om 19 17, o 20 (ia 6 15 17), ol 21 6 20, o 8 (.alloc l2), om 7 19, p (t 6 8 21)] [1, 2, 7, 8, 15, 16, 17]
 (rs [om 22 1, om 23 7, o 24 (ia 6 22 23), ol 25 6 24, o 9 (.alloc l2), p (t 6 9 25)] [1, 2, 8, 9, 15, 16, 17]
 (rs [om 26 2, ol 27 6 8, ol 28 6 9, o 29 (.call (.s 26) [(.s 27), (.s 28)]), o 30 (nt 29)] [1, 2, 15, 16, 17, 30]
 (.cond (.s 30) (rs [o 6 (.mv (.c w))] [6]
 (.ret [6])) .skip)))))
 (.reg [o 31 (baj 17 1), om 17 31] none [1, 2, 15, 16, 17]))))
def xf_slices_EqualFunc_Ballot_Ballot_Ballot_Ballot : XFunc := ⟨none, true, 3, [.tmp 6], (rs [o 6 (.mv (.c w))] [0, 1, 2]
 (.seq (rs [om 10 0, o 11 (le 10), om 12 1, o 13 (le 12), o 14 (n 11 13)] [0, 1, 2, 14]
 (.cond (.s 14) (rs [o 6 (.mv (.c w))] [6]
 (.ret [6])) .skip))
 (.seq (rs [om 15 0, o 16 (le 15), o 17 (.mv (j 0))] [1, 2, 15, 16, 17]
 (.block 0 (.loop xf_slices_EqualFunc_Ballot_Ballot_Ballot_Ballot_k0 xf_slices_EqualFunc_Ballot_Ballot_Ballot_Ballot_b0)))
 (rs [o 6 (.mv (.c v))] [6]
 (.ret [6])))))⟩

def xf_core_Alike_1 : XFunc := ⟨none, true, 2, [.tmp 4], (rs [o 2 (bx 0), o 3 (bx 1), o 4 (.mv (.c w))] [2, 3]
 (ss [a 5 (f 0 2), a 6 (k 5), a 7 (f 0 3), a 8 (k 7), a 9 (q 6 8), am 10 9, b 11 (f 1 2) 10, b 12 (l 2 11) 10, b 13 (f 1 3) 10, b 14 (l 2 13) 10, b 15 (.eqv false true [.i, .i] (.s 12) (.s 14)) 10, a 16 (ka 10 15), am 17 16, b 18 (f 3 2) 17, b 19 (k 18) 17, b 20 (f 3 3) 17, b 21 (k 20) 17, b 22 (q 19 21) 17, a 23 (ka 17 22), am 24 23, b 25 (f 4 2) 24, b 26 (k 25) 24, b 27 (f 4 3) 24, b 28 (k 27) 24, b 29 (q 26 28) 24, a 30 (ka 24 29), am 31 30, b 32 (f 5 2) 31, b 33 (k 32) 31, b 34 (f 5 3) 31, b 35 (k 34) 31, (g 36 (c 82 [33, 35]) 31, false), a 37 (ka 31 36), am 4 37] [4]
 (.ret [4])))⟩

def xf_slices_Equal_Entry_Entry_k0 : List (Nat × Option (Nat × Nat × Bool)) := [(0, none), (1, none), (12, none), (13, none)]
def xf_slices_Equal_Entry_Entry_b0 : XCode := (rs [o 14 (bl 13 12)] [0, 1, 12, 13, 14]
 (.seq (.cond (.s 14) .skip (.exit 0 []))
 (.seq (.block 1 (rs [om 15 13, om 5 15] [0, 1, 5, 12, 13]
 (rp (some []) [om 16 0, om 17 5, o 18 (ia 5 16 17), ol 19 5 18, om 20 1, om 21 5, o 22 (ia 5 20 21), ol 23 5 22, o 24 (.eqv true true [.i, .i, .i, .i, .s] (.s 19) (.s 23))] [0, 1, 12, 13, 24]
 (.cond (.s 24) (rs [o 4 (.mv (.c w))] [4]
 (.ret [4])) .skip))))
 (.reg [o 25 (baj 13 1), om 13 25] none [0, 1, 12, 13]))))
def xf_slices_Equal_Entry_Entry : XFunc := ⟨none, true, 2, [.tmp 4], (rs [o 4 (.mv (.c w))] [0, 1]
 (.seq (rs [om 6 0, o 7 (le 6), om 8 1, o 9 (le 8), o 10 (n 7 9)] [0, 1, 10]
 (.cond (.s 10) (rs [o 4 (.mv (.c w))] [4]
 (.ret [4])) .skip))
 (.seq (rs [om 11 0, o 12 (le 11), o 13 (.mv (j 0))] [0, 1, 12, 13]
 (.block 0 (.loop xf_slices_Equal_Entry_Entry_k0 xf_slices_Equal_Entry_Entry_b0)))
 (rs [o 4 (.mv (.c v))] [4]
 (.ret [4])))))⟩

def xf_slices_EqualFunc_Answer_Answer_Answer_Answer_k0 : List (Nat × Option (Nat × Nat × Bool)) := [(1, none), (2, none), (15, some (73, 6, false)), (16, none), (17, none)]
def xf_slices_EqualFunc_Answer_Answer_Answer_Answer_b0 : XCode := (rs [o 18 (bl 17 16)] [1, 2, 15, 16, 17, 18]
 (.seq (.cond (.s 18) .skip (.exit 0 []))
 (.seq (.block 1 (rs [om 19 17, o 20 (ia 6 15 17), ol 21 6 20, o 8 (.alloc l2), om 7 19, p (t 6 8 21)] [1, 2, 7, 8, 15, 16, 17]
 (rs [om 22 1, om 23 7, o 24 (ia 6 22 23), ol 25 6 24, o 9 (.alloc l2), p (t 6 9 25)] [1, 2, 8, 9, 15, 16, 17]
 (rs [om 26 2, ol 27 6 8, ol 28 6 9, o 29 (.call (.s 26) [(.s 27), (.s 28)]), o 30 (nt 29)] [1, 2, 15, 16, 17, 30]
 (.cond (.s 30) (rs [o 6 (.mv (.c w))] [6]
 (.ret [6])) .skip)))))
 (.reg [o 31 (baj 17 1), om 17 31] none [1, 2, 15, 16, 17]))))
def xf_slices_EqualFunc_Answer_Answer_Answer_Answer : XFunc := ⟨none, true, 3, [.tmp 6], (rs [o 6 (.mv (.c w))] [0, 1, 2]
 (.seq (rs [om 10 0, o 11 (le 10), om 12 1, o 13 (le 12), o 14 (n 11 13)] [0, 1, 2, 14]
 (.cond (.s 14) (rs [o 6 (.mv (.c w))] [6]
 (.ret [6])) .skip))
 (.seq (rs [om 15 0, o 16 (le 15), o 17 (.mv (j 0))] [1, 2, 15, 16, 17]
 (.block 0 (.loop xf_slices_EqualFunc_Answer_Answer_Answer_Answer_k0 xf_slices_EqualFunc_Answer_Answer_Answer_Answer_b0)))
 (rs [o 6 (.mv (.c v))] [6]
 (.ret [6])))))⟩

def xf_core_Alike_2 : XFunc := ⟨none, true, 2, [.tmp 4], (rs [o 2 (bx 0), o 3 (bx 1), o 4 (.mv (.c w))] [2, 3]
 (ss [a 5 (f 0 2), a 6 (k 5), a 7 (f 0 3), a 8 (k 7), a 9 (q 6 8), am 10 9, b 11 (f 1 2) 10, b 12 (l 2 11) 10, b 13 (f 1 3) 10, b 14 (l 2 13) 10, b 15 (.eqv false true [.i, .i] (.s 12) (.s 14)) 10, a 16 (ka 10 15), am 17 16, b 18 (f 3 2) 17, b 19 (k 18) 17, b 20 (f 3 3) 17, b 21 (k 20) 17, b 22 (q 19 21) 17, a 23 (ka 17 22), am 24 23, b 25 (f 4 2) 24, b 26 (k 25) 24, b 27 (f 4 3) 24, b 28 (k 27) 24, b 29 (q 26 28) 24, a 30 (ka 24 29), am 31 30, b 32 (f 5 2) 31, b 33 (k 32) 31, b 34 (f 5 3) 31, b 35 (k 34) 31, (g 36 (c 82 [33, 35]) 31, false), a 37 (ka 31 36), am 4 37] [4]
 (.ret [4])))⟩

def xf_slices_Equal_Vector_Draw_k0 : List (Nat × Option (Nat × Nat × Bool)) := [(0, none), (1, none), (12, none), (13, none)]
def xf_slices_Equal_Vector_Draw_b0 : XCode := (rs [o 14 (bl 13 12)] [0, 1, 12, 13, 14]
 (.seq (.cond (.s 14) .skip (.exit 0 []))
 (.seq (.block 1 (rs [om 15 13, om 5 15] [0, 1, 5, 12, 13]
 (rp (some []) [om 16 0, om 17 5, o 18 (ia 2 16 17), ol 19 2 18, om 20 1, om 21 5, o 22 (ia 2 20 21), ol 23 2 22, o 24 (.eqv true true [.i, .i] (.s 19) (.s 23))] [0, 1, 12, 13, 24]
 (.cond (.s 24) (rs [o 4 (.mv (.c w))] [4]
 (.ret [4])) .skip))))
 (.reg [o 25 (baj 13 1), om 13 25] none [0, 1, 12, 13]))))
def xf_slices_Equal_Vector_Draw : XFunc := ⟨none, true, 2, [.tmp 4], (rs [o 4 (.mv (.c w))] [0, 1]
 (.seq (rs [om 6 0, o 7 (le 6), om 8 1, o 9 (le 8), o 10 (n 7 9)] [0, 1, 10]
 (.cond (.s 10) (rs [o 4 (.mv (.c w))] [4]
 (.ret [4])) .skip))
 (.seq (rs [om 11 0, o 12 (le 11), o 13 (.mv (j 0))] [0, 1, 12, 13]
 (.block 0 (.loop xf_slices_Equal_Vector_Draw_k0 xf_slices_Equal_Vector_Draw_b0)))
 (rs [o 4 (.mv (.c v))] [4]
 (.ret [4])))))⟩

def xf_slices_Equal_Ack_Ack_k0 : List (Nat × Option (Nat × Nat × Bool)) := [(0, none), (1, none), (12, none), (13, none)]
def xf_slices_Equal_Ack_Ack_b0 : XCode := (rs [o 14 (bl 13 12)] [0, 1, 12, 13, 14]
 (.seq (.cond (.s 14) .skip (.exit 0 []))
 (.seq (.block 1 (rs [om 15 13, om 5 15] [0, 1, 5, 12, 13]
 (rp (some []) [om 16 0, om 17 5, o 18 (ia 4 16 17), ol 19 4 18, om 20 1, om 21 5, o 22 (ia 4 20 21), ol 23 4 22, o 24 (.eqv true true [.i, .i, .i, .i] (.s 19) (.s 23))] [0, 1, 12, 13, 24]
 (.cond (.s 24) (rs [o 4 (.mv (.c w))] [4]
 (.ret [4])) .skip))))
 (.reg [o 25 (baj 13 1), om 13 25] none [0, 1, 12, 13]))))
def xf_slices_Equal_Ack_Ack : XFunc := ⟨none, true, 2, [.tmp 4], (rs [o 4 (.mv (.c w))] [0, 1]
 (.seq (rs [om 6 0, o 7 (le 6), om 8 1, o 9 (le 8), o 10 (n 7 9)] [0, 1, 10]
 (.cond (.s 10) (rs [o 4 (.mv (.c w))] [4]
 (.ret [4])) .skip))
 (.seq (rs [om 11 0, o 12 (le 11), o 13 (.mv (j 0))] [0, 1, 12, 13]
 (.block 0 (.loop xf_slices_Equal_Ack_Ack_k0 xf_slices_Equal_Ack_Ack_b0)))
 (rs [o 4 (.mv (.c v))] [4]
 (.ret [4])))))⟩

def xf_slices_Equal_Mark_Mark_k0 : List (Nat × Option (Nat × Nat × Bool)) := [(0, none), (1, none), (12, none), (13, none)]
def xf_slices_Equal_Mark_Mark_b0 : XCode := (rs [o 14 (bl 13 12)] [0, 1, 12, 13, 14]
 (.seq (.cond (.s 14) .skip (.exit 0 []))
 (.seq (.block 1 (rs [om 15 13, om 5 15] [0, 1, 5, 12, 13]
 (rp (some []) [om 16 0, om 17 5, o 18 (ia 3 16 17), ol 19 3 18, om 20 1, om 21 5, o 22 (ia 3 20 21), ol 23 3 22, o 24 (.eqv true true [.i, .i, .i] (.s 19) (.s 23))] [0, 1, 12, 13, 24]
 (.cond (.s 24) (rs [o 4 (.mv (.c w))] [4]
 (.ret [4])) .skip))))
 (.reg [o 25 (baj 13 1), om 13 25] none [0, 1, 12, 13]))))
def xf_slices_Equal_Mark_Mark : XFunc := ⟨none, true, 2, [.tmp 4], (rs [o 4 (.mv (.c w))] [0, 1]
 (.seq (rs [om 6 0, o 7 (le 6), om 8 1, o 9 (le 8), o 10 (n 7 9)] [0, 1, 10]
 (.cond (.s 10) (rs [o 4 (.mv (.c w))] [4]
 (.ret [4])) .skip))
 (.seq (rs [om 11 0, o 12 (le 11), o 13 (.mv (j 0))] [0, 1, 12, 13]
 (.block 0 (.loop xf_slices_Equal_Mark_Mark_k0 xf_slices_Equal_Mark_Mark_b0)))
 (rs [o 4 (.mv (.c v))] [4]
 (.ret [4])))))⟩

def xf_ref09_self : XFunc := ⟨none, true, 2, [.tmp 4], (rs [o 2 (bx 0), o 4 (.mv (j 0))] [1, 2]
 (rs [ol 6 4 2, o 7 (c 63 [6]), om 5 7] [1, 2, 5]
 (.seq (rs [om 8 5, o 9 (qj 8 0), om 10 9, g 11 (m 1) 10, g 12 (blj 11 0) 10, g 13 (m 12) 10, ⟨(some 14), m 1, some (13, false)⟩, ⟨(some 15), l 4 2, some (13, false)⟩, ⟨(some 16), c 89 [15], some (13, false)⟩, ⟨(some 17), bh 14 16, some (13, false)⟩, g 18 (ko 13 17) 10, o 19 (ka 10 18)] [5, 19]
 (.cond (.s 19) (.reg [o 5 (.mv (j 3))] none [5]) .skip))
 (rs [om 20 5, om 4 20] [4]
 (.ret [4])))))⟩

def xf_ref09_Nodes : XFunc := ⟨none, true, 1, [.tmp 2], (rs [o 1 (bx 0), o 2 (.mv (j 0))] [1]
 (.seq (rs [ol 3 4 1, o 4 (c 63 [3]), o 5 (nj 4 0)] [1, 5]
 (.cond (.s 5) (rs [o 2 (.mv (j 0))] [2]
 (.ret [2])) .skip))
 (rs [of 6 0 1, o 7 (k 6), o 8 (.bin .mul (j 2) (.s 7)), o 9 (baj 8 1), om 2 9] [2]
 (.ret [2]))))⟩

def xf_client_Between : XFunc := ⟨none, true, 3, [.tmp 6, .tmp 7], (rs [o 6 (.mv (.c (.nil 159 7 true))), o 7 (.mv (j 0))] [0, 1, 2]
 (.seq (rs [om 9 0, o 10 (c 154 [9]), om 8 10] [0, 1, 2, 8]
 (rs [om 11 8, o 12 (nj 11 0)] [0, 1, 2, 8, 12]
 (.cond (.s 12) (rs [om 13 8, o 6 (.mv (.c (.nil 159 7 true))), om 7 13] [6, 7]
 (.ret [6, 7])) .skip)))
 (.seq (ss [am 14 1, a 15 (blj 14 0), am 16 15, d 17 (m 1) 16, d 18 (m 0) 16, d 19 (le 18) 16, d 20 (bg 17 19) 16, a 21 (ko 16 20), am 22 21, d 23 (m 2) 22, d 24 (blj 23 0) 22, a 25 (ko 22 24), am 26 25, d 27 (m 2) 26, d 28 (m 0) 26, d 29 (le 28) 26, d 30 (bg 27 29) 26, a 31 (ko 26 30), am 32 31, d 33 (m 1) 32, d 34 (m 2) 32, d 35 (bg 33 34) 32, a 36 (ko 32 35)] [0, 1, 2, 36]
 (.cond (.s 36) (rs [o 6 (.mv (.c (.nil 159 7 true))), o 7 (.mv (j 50))] [6, 7]
 (.ret [6, 7])) .skip))
 (rs [om 37 0, om 38 2, o 39 (c 155 [37, 38]), om 40 1, o 41 (.slice 7 (.s 39) (some (.s 40)) none), o 42 (.app 159 7 64 true (.c (.nil 159 7 true)) (.s 41)), om 6 42, o 7 (.mv (j 0))] [6, 7]
 (.ret [6, 7])))))⟩

def xf_core_out : XFunc := ⟨none, true, 3, [.cell 6 (some 19)], (rs [o 3 (bx 0), o 5 (bx 2), o 6 (.alloc l3)] [1, 3, 5, 6]
 (rs [of 7 0 3, o 8 (k 7), of 9 1 5, p (t 1 9 8)] [1, 3, 5, 6]
 (rs [of 10 16 5, o 11 (k 10), o 12 (c 119 [11]), of 13 16 5, p (t 1 13 12)] [1, 3, 5, 6]
 (.seq (rs [of 14 0 5, o 15 (k 14), o 16 (c 26 [15])] [1, 3, 5, 6, 16]
 (.cond (.s 16) (.reg [of 17 6 3, o 18 (k 17), of 19 17 5, p (t 1 19 18)] none [1, 5, 6]) .skip))
 (rs [of 20 17 5, o 21 (k 20), o 22 (c 120 [21]), of 23 17 5, p (t 1 23 22)] [1, 5, 6]
 (rs [om 24 1, ol 25 18 5, o 26 (.build l3 [(0, 1, (.s 24)), (1, 18, (.s 25))]), p (t 19 6 26)] [6]
 (.ret [6])))))))⟩

def xf_core_self : XFunc := ⟨none, true, 2, [.tmp 4], (rs [o 2 (bx 0), o 4 (.mv (j 0))] [1, 2]
 (.seq (rs [ol 6 4 2, o 7 (c 70 [6]), om 5 7] [1, 2, 5]
 (rs [om 8 5, o 9 (nj 8 0)] [1, 2, 5, 9]
 (.cond (.s 9) (rs [om 10 5, om 4 10] [4]
 (.ret [4])) .skip)))
 (.seq (ss [am 11 1, a 12 (blj 11 0), am 13 12, d 14 (m 1) 13, d 15 (l 4 2) 13, (⟨(some 16), c 71 [15], some (13, false)⟩, false), (⟨(some 17), bh 14 16, some (13, false)⟩, false), a 18 (ko 13 17)] [18]
 (.cond (.s 18) (rs [o 4 (.mv (j 3))] [4]
 (.ret [4])) .skip))
 (rs [o 4 (.mv (j 0))] [4]
 (.ret [4])))))⟩

def xf_vector_New : XFunc := ⟨none, false, 1, [.tmp 2, .tmp 3], (rs [o 2 (.mv (.c (.nil 43 2 true))), o 3 (.mv (j 0))] [0]
 (.seq (ss [am 4 0, a 5 (blj 4 1), am 6 5, d 7 (m 0) 6, d 8 (bgj 7 7) 6, a 9 (ko 6 8)] [0, 9]
 (.cond (.s 9) (rs [o 2 (.mv (.c (.nil 43 2 true))), o 3 (.mv (j 3))] [2, 3]
 (.ret [2, 3])) .skip))
 (rs [om 10 0, o 11 (.mksl 43 2 16 true [y, y] (.s 10) (.s 10)), om 2 11, o 3 (.mv (j 0))] [2, 3]
 (.ret [2, 3]))))⟩

def xf_plain_Book_Entries : XFunc := ⟨none, false, 2, [], (rs [om 4 1, o 5 (le 4), o 6 (bgj 5 0)] [0, 1, 6]
 (.cond (.s 6) (.reg [om 7 0, om 8 0, o 9 (nc 8), of 10 3 9, o 11 (k 10), om 12 1, o 13 (.bsl 25 1 false 1 [(.nil 38 5 true)] [(0, 1, (.s 12))]), o 14 (.app 25 1 24 false (.s 11) (.s 13)), o 15 (nc 7), of 16 3 15, p (t 1 16 14)] none []) .skip))⟩

def xf_plain_Book_Vector : XFunc := ⟨none, false, 2, [], (rs [om 4 1, o 5 (le 4), o 6 (bgj 5 0)] [0, 1, 6]
 (.cond (.s 6) (.reg [om 7 0, om 8 0, o 9 (nc 8), of 10 2 9, o 11 (k 10), om 12 1, o 13 (.bsl 27 1 false 1 [(.nil 43 2 true)] [(0, 1, (.s 12))]), o 14 (.app 27 1 24 false (.s 11) (.s 13)), o 15 (nc 7), of 16 2 15, p (t 1 16 14)] none []) .skip))⟩

def xf_plain_Book_Acks : XFunc := ⟨none, false, 2, [], (rs [om 4 1, o 5 (le 4), o 6 (bgj 5 0)] [0, 1, 6]
 (.cond (.s 6) (.reg [om 7 0, om 8 0, o 9 (nc 8), of 10 8 9, o 11 (k 10), om 12 1, o 13 (.bsl 28 1 false 1 [(.nil 67 4 true)] [(0, 1, (.s 12))]), o 14 (.app 28 1 24 false (.s 11) (.s 13)), o 15 (nc 7), of 16 8 15, p (t 1 16 14)] none []) .skip))⟩

def xf_plain_Book_Marks : XFunc := ⟨none, false, 2, [], (rs [om 4 1, o 5 (le 4), o 6 (bgj 5 0)] [0, 1, 6]
 (.cond (.s 6) (.reg [om 7 0, om 8 0, o 9 (nc 8), of 10 9 9, o 11 (k 10), om 12 1, o 13 (.bsl 29 1 false 1 [(.nil 69 3 true)] [(0, 1, (.s 12))]), o 14 (.app 29 1 24 false (.s 11) (.s 13)), o 15 (nc 7), of 16 9 15, p (t 1 16 14)] none []) .skip))⟩
theorem r_message_Check : progT Tryz.prog 41 = some xf_message_Check.plain := by kernel_rfl
theorem r_core_twin : progT Tryz.prog 42 = some xf_core_twin.plain := by kernel_rfl
theorem r_nonce_Compare : progT Tryz.prog 43 = some xf_nonce_Compare.plain := by kernel_rfl
theorem r_vector_Merge : progT Tryz.prog 44 = some xf_vector_Merge.plain := by kernel_rfl
theorem r_tally_PruneAcks : progT Tryz.prog 45 = some xf_tally_PruneAcks.plain := by kernel_rfl
theorem r_tally_PruneMarks : progT Tryz.prog 46 = some xf_tally_PruneMarks.plain := by kernel_rfl
theorem r_tally_PruneBallots : progT Tryz.prog 47 = some xf_tally_PruneBallots.plain := by kernel_rfl
theorem r_tally_PruneAnswers : progT Tryz.prog 48 = some xf_tally_PruneAnswers.plain := by kernel_rfl
theorem r_plain_Given_Entries : progT Tryz.prog 49 = some xf_plain_Given_Entries.plain := by kernel_rfl
theorem r_plain_Given_Vector : progT Tryz.prog 50 = some xf_plain_Given_Vector.plain := by kernel_rfl
theorem r_ref07_Between : progT Tryz.prog 51 = some xf_ref07_Between.plain := by kernel_rfl
theorem r_ref09_below : progT Tryz.prog 52 = some xf_ref09_below.plain := by kernel_rfl
theorem r_ref09_Pruned : progT Tryz.prog 53 = some xf_ref09_Pruned.plain := by kernel_rfl
theorem r_plain_SameVector : progT Tryz.prog 54 = some xf_plain_SameVector.plain := by kernel_rfl
theorem r_plain_sameAcks : progT Tryz.prog 55 = some xf_plain_sameAcks.plain := by kernel_rfl
theorem r_plain_sameMarks : progT Tryz.prog 56 = some xf_plain_sameMarks.plain := by kernel_rfl
theorem r_plain_SameBallots : progT Tryz.prog 57 = some xf_plain_SameBallots.plain := by kernel_rfl
theorem r_plain_SameAnswers : progT Tryz.prog 58 = some xf_plain_SameAnswers.plain := by kernel_rfl
theorem r_plain_SameInts : progT Tryz.prog 60 = some xf_plain_SameInts.plain := by kernel_rfl
theorem r_law09_three : progT Tryz.prog 61 = some xf_law09_three.plain := by kernel_rfl
theorem r_law09_commit : progT Tryz.prog 62 = some xf_law09_commit.plain := by kernel_rfl
theorem r_ref09_CheckConfig : progT Tryz.prog 63 = some xf_ref09_CheckConfig.plain := by kernel_rfl
theorem r_ref09_may : progT Tryz.prog 64 = some xf_ref09_may.plain := by kernel_rfl
theorem r_ref07_Config : progT Tryz.prog 65 = some xf_ref07_Config.plain := by kernel_rfl
theorem r_ref07_Uses : progT Tryz.prog 66 = some xf_ref07_Uses.plain := by kernel_rfl
theorem r_ref07_unused : progT Tryz.prog 67 = some xf_ref07_unused.plain := by kernel_rfl
theorem r_ref07_fields : progT Tryz.prog 68 = some xf_ref07_fields.plain := by kernel_rfl
theorem r_core_leads : progT Tryz.prog 69 = some xf_core_leads.plain := by kernel_rfl
theorem r_core_CheckConfig : progT Tryz.prog 70 = some xf_core_CheckConfig.plain := by kernel_rfl
theorem r_core_Nodes : progT Tryz.prog 71 = some xf_core_Nodes.plain := by kernel_rfl
theorem r_plain_CopyEntries : progT Tryz.prog 72 = some xf_plain_CopyEntries.plain := by kernel_rfl
theorem r_plain_CopyVector : progT Tryz.prog 73 = some xf_plain_CopyVector.plain := by kernel_rfl
theorem r_core_logged : progT Tryz.prog 74 = some xf_core_logged.plain := by kernel_rfl
theorem r_core_voted : progT Tryz.prog 75 = some xf_core_voted.plain := by kernel_rfl
theorem r_core_normal : progT Tryz.prog 76 = some xf_core_normal.plain := by kernel_rfl
theorem r_core_changing : progT Tryz.prog 77 = some xf_core_changing.plain := by kernel_rfl
theorem r_core_recovering : progT Tryz.prog 78 = some xf_core_recovering.plain := by kernel_rfl
theorem r_vector_speaks : progT Tryz.prog 79 = some xf_vector_speaks.plain := by kernel_rfl
theorem r_slices_EqualFunc_Ballot_Ballot_Ballot_Ballot : progT Tryz.prog 80 = some xf_slices_EqualFunc_Ballot_Ballot_Ballot_Ballot.plain := by kernel_rfl
theorem r_core_Alike_1 : progT Tryz.prog 81 = some xf_core_Alike_1.plain := by kernel_rfl
theorem r_slices_Equal_Entry_Entry : progT Tryz.prog 82 = some xf_slices_Equal_Entry_Entry.plain := by kernel_rfl
theorem r_slices_EqualFunc_Answer_Answer_Answer_Answer : progT Tryz.prog 83 = some xf_slices_EqualFunc_Answer_Answer_Answer_Answer.plain := by kernel_rfl
theorem r_core_Alike_2 : progT Tryz.prog 84 = some xf_core_Alike_2.plain := by kernel_rfl
theorem r_slices_Equal_Vector_Draw : progT Tryz.prog 85 = some xf_slices_Equal_Vector_Draw.plain := by kernel_rfl
theorem r_slices_Equal_Ack_Ack : progT Tryz.prog 86 = some xf_slices_Equal_Ack_Ack.plain := by kernel_rfl
theorem r_slices_Equal_Mark_Mark : progT Tryz.prog 87 = some xf_slices_Equal_Mark_Mark.plain := by kernel_rfl
theorem r_ref09_self : progT Tryz.prog 88 = some xf_ref09_self.plain := by kernel_rfl
theorem r_ref09_Nodes : progT Tryz.prog 89 = some xf_ref09_Nodes.plain := by kernel_rfl
theorem r_client_Between : progT Tryz.prog 90 = some xf_client_Between.plain := by kernel_rfl
theorem r_core_out : progT Tryz.prog 91 = some xf_core_out.plain := by kernel_rfl
theorem r_core_self : progT Tryz.prog 92 = some xf_core_self.plain := by kernel_rfl
theorem r_vector_New : progT Tryz.prog 93 = some xf_vector_New.plain := by kernel_rfl
theorem r_plain_Book_Entries : progT Tryz.prog 94 = some xf_plain_Book_Entries.plain := by kernel_rfl
theorem r_plain_Book_Vector : progT Tryz.prog 95 = some xf_plain_Book_Vector.plain := by kernel_rfl
theorem r_plain_Book_Acks : progT Tryz.prog 96 = some xf_plain_Book_Acks.plain := by kernel_rfl
theorem r_plain_Book_Marks : progT Tryz.prog 97 = some xf_plain_Book_Marks.plain := by kernel_rfl

end Go.Ax
