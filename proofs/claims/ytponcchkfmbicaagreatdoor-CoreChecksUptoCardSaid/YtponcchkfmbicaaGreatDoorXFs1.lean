/-
  The functions of this seat as resolved code, and that the program resolves to them (part 2).
-/
import Derived.Test.YtponcchkfmbicaaGreatDoorXComp
import Derived.Test.YtponcchkfmbicaaGreatDoorXFn
import Derived.Test.YtponcchkfmbicaaGreatDoorXG
import Derived.Test.YtponcchkfmbicaaGreatDoorXP
import Derived.Test.YtponcchkfmbicaaGreatDoorProg
import Derived.KernelRfl
namespace Go.Ax
set_option linter.all false
open Go.Proofs P

def xf_core_normal_k0 : List (Nat × Option (Nat × Nat × Bool)) := [(3, none), (39, some (67, 4, true)), (40, none), (41, none)]
def xf_core_normal_b0 : XCode := (rs [o 42 (bl 41 40)] [3, 39, 40, 41, 42]
 (.seq (.cond (.s 42) .skip (.exit 0 [3]))
 (.seq (.block 1 (rs [o 43 (ia 4 39 41), ol 44 4 43, o 6 (.alloc l10), p (t 4 6 44)] [3, 6, 39, 40, 41]
 (ss [a 45 (f 3 6), a 46 (k 45), a 47 (blj 46 1), am 48 47, d 49 (f 3 6) 48, d 50 (k 49) 48, d 51 (f 4 3) 48, d 52 (k 51) 48, d 53 (le 52) 48, d 54 (bg 50 53) 48, a 55 (ko 48 54)] [3, 39, 40, 41, 55]
 (.cond (.s 55) (rs [o 4 (.mv (.c w))] [4]
 (.ret [4])) .skip))))
 (.reg [o 56 (baj 41 1), om 41 56] none [3, 39, 40, 41]))))
def xf_core_normal : XFunc := ⟨none, true, 2, [.tmp 4], (rs [o 2 (bx 0), o 3 (bx 1), o 4 (.mv (.c w))] [2, 3]
 (.seq (ss [a 7 (f 3 3), a 8 (k 7), a 9 (f 2 3), a 10 (k 9), a 11 (n 8 10), am 12 11, d 13 (f 9 3) 12, d 14 (k 13) 12, d 15 (le 14) 12, d 16 (bgj 15 0) 12, a 17 (ko 12 16), am 18 17, d 19 (f 10 3) 18, d 20 (k 19) 18, d 21 (le 20) 18, d 22 (bgj 21 0) 18, a 23 (ko 18 22), am 24 23, d 25 (f 11 3) 24, d 26 (k 25) 24, d 27 (le 26) 24, d 28 (bgj 27 0) 24, a 29 (ko 24 28)] [2, 3, 29]
 (.cond (.s 29) (rs [o 4 (.mv (.c w))] [4]
 (.ret [4])) .skip))
 (.seq (rs [ol 30 4 2, ol 31 12 3, o 32 (c 69 [30, 31]), o 33 (nt 32)] [3, 33]
 (.cond (.s 33) (rs [of 34 8 3, o 35 (k 34), o 36 (le 35), o 37 (qj 36 0), om 4 37] [4]
 (.ret [4])) .skip))
 (.seq (rs [of 38 8 3, o 39 (k 38), o 40 (le 39), o 41 (.mv (j 0))] [3, 39, 40, 41]
 (.block 0 (.loop xf_core_normal_k0 xf_core_normal_b0)))
 (rs [of 57 7 3, o 58 (k 57), o 59 (qj 58 0), om 4 59] [4]
 (.ret [4]))))))⟩

def xf_core_changing_k0 : List (Nat × Option (Nat × Nat × Bool)) := [(2, none), (3, none), (45, some (71, 6, false)), (46, none), (47, none)]
def xf_core_changing_b0 : XCode := (rs [o 48 (bl 47 46)] [2, 3, 45, 46, 47, 48]
 (.seq (.cond (.s 48) .skip (.exit 0 []))
 (.seq (.block 1 (rs [o 49 (ia 6 45 47), ol 50 6 49, o 6 (.alloc l2), p (t 6 6 50)] [2, 3, 6, 45, 46, 47]
 (ss [a 51 (f 3 6), a 52 (k 51), a 53 (blj 52 0), am 54 53, d 55 (f 3 6) 54, d 56 (k 55) 54, d 57 (f 2 3) 54, d 58 (k 57) 54, d 59 (bh 56 58) 54, a 60 (ko 54 59), am 61 60, d 62 (l 4 2) 61, d 63 (f 5 6) 61, d 64 (k 63) 61, d 65 (f 4 6) 61, d 66 (k 65) 61, r 67 (c 74 [62, 64, 66]) 61, r 68 (nt 67) 61, a 69 (ko 61 68)] [2, 3, 45, 46, 47, 69]
 (.cond (.s 69) (rs [o 4 (.mv (.c w))] [4]
 (.ret [4])) .skip))))
 (.reg [o 70 (baj 47 1), om 47 70] none [2, 3, 45, 46, 47]))))
def xf_core_changing : XFunc := ⟨none, true, 2, [.tmp 4], (rs [o 2 (bx 0), o 3 (bx 1), o 4 (.mv (.c w))] [2, 3]
 (.seq (ss [a 7 (f 3 3), a 8 (k 7), a 9 (f 2 3), a 10 (k 9), a 11 (bh 8 10), am 12 11, d 13 (f 8 3) 12, d 14 (k 13) 12, d 15 (le 14) 12, d 16 (bgj 15 0) 12, a 17 (ko 12 16), am 18 17, d 19 (f 11 3) 18, d 20 (k 19) 18, d 21 (le 20) 18, d 22 (bgj 21 0) 18, a 23 (ko 18 22), am 24 23, d 25 (f 10 3) 24, d 26 (k 25) 24, d 27 (le 26) 24, d 28 (f 0 2) 24, d 29 (k 28) 24, d 30 (bh 27 29) 24, a 31 (ko 24 30), am 32 31, d 33 (l 4 2) 32, d 34 (l 12 3) 32, r 35 (c 69 [33, 34]) 32, r 36 (nt 35) 32, r 37 (m 36) 32, b 38 (f 10 3) 37, b 39 (k 38) 37, b 40 (le 39) 37, b 41 (bgj 40 0) 37, r 42 (ka 37 41) 32, a 43 (ko 32 42)] [2, 3, 43]
 (.cond (.s 43) (rs [o 4 (.mv (.c w))] [4]
 (.ret [4])) .skip))
 (.seq (rs [of 44 10 3, o 45 (k 44), o 46 (le 45), o 47 (.mv (j 0))] [2, 3, 45, 46, 47]
 (.block 0 (.loop xf_core_changing_k0 xf_core_changing_b0)))
 (rs [o 4 (.mv (.c v))] [4]
 (.ret [4])))))⟩

def xf_core_recovering_k0 : List (Nat × Option (Nat × Nat × Bool)) := [(2, none), (60, some (73, 6, false)), (61, none), (62, none)]
def xf_core_recovering_b0 : XCode := (rs [o 63 (bl 62 61)] [2, 60, 61, 62, 63]
 (.seq (.cond (.s 63) .skip (.exit 0 []))
 (.seq (.block 1 (rs [o 64 (ia 6 60 62), ol 65 6 64, o 6 (.alloc l2), p (t 6 6 65)] [2, 6, 60, 61, 62]
 (sp (some [(19, 23)]) [a 66 (f 3 6), a 67 (k 66), a 68 (blj 67 0), am 69 68, d 70 (f 3 6) 69, d 71 (k 70) 69, d 72 (bgj 71 4294967296) 69, a 73 (ko 69 72), am 74 73, d 75 (l 4 2) 74, d 76 (f 5 6) 74, d 77 (k 76) 74, d 78 (f 4 6) 74, d 79 (k 78) 74, r 80 (c 74 [75, 77, 79]) 74, r 81 (nt 80) 74, a 82 (ko 74 81), am 83 82, d 84 (f 0 6) 83, d 85 (k 84) 83, d 86 (l 4 2) 83, d 87 (f 3 6) 83, d 88 (k 87) 83, r 89 (c 20 [86, 88]) 83, r 90 (n 85 89) 83, r 91 (m 90) 83, b 92 (f 5 6) 91, b 93 (k 92) 91, b 94 (le 93) 91, b 95 (bgj 94 0) 91, r 96 (ka 91 95) 83, a 97 (ko 83 96)] [2, 60, 61, 62, 97]
 (.cond (.s 97) (rs [o 4 (.mv (.c w))] [4]
 (.ret [4])) .skip))))
 (.reg [o 98 (baj 62 1), om 62 98] none [2, 60, 61, 62]))))
def xf_core_recovering : XFunc := ⟨none, true, 2, [.tmp 4], (rs [o 2 (bx 0), o 3 (bx 1), o 4 (.mv (.c w))] [2, 3]
 (.seq (ss [a 7 (f 2 3), a 8 (k 7), a 9 (nj 8 0), am 10 9, d 11 (f 3 3) 10, d 12 (k 11) 10, d 13 (nj 12 0) 10, a 14 (ko 10 13), am 15 14, d 16 (f 5 3) 15, d 17 (k 16) 15, d 18 (nj 17 0) 15, a 19 (ko 15 18), am 20 19, d 21 (f 7 3) 20, d 22 (k 21) 20, d 23 (nj 22 0) 20, a 24 (ko 20 23), am 25 24, d 26 (f 4 3) 25, d 27 (k 26) 25, d 28 (le 27) 25, d 29 (bgj 28 0) 25, a 30 (ko 25 29), am 31 30, d 32 (f 8 3) 31, d 33 (k 32) 31, d 34 (le 33) 31, d 35 (bgj 34 0) 31, a 36 (ko 31 35), am 37 36, d 38 (f 9 3) 37, d 39 (k 38) 37, d 40 (le 39) 37, d 41 (bgj 40 0) 37, a 42 (ko 37 41), am 43 42, d 44 (f 10 3) 43, d 45 (k 44) 43, d 46 (le 45) 43, d 47 (bgj 46 0) 43, a 48 (ko 43 47), am 49 48, d 50 (f 6 3) 49, d 51 (k 50) 49, d 52 (f 0 3) 49, d 53 (k 52) 49, r 54 (ia 2 51 53) 49, r 55 (l 2 54) 49, d 56 (.build [y, y] []) 49, r 57 (.eqv false true [.i, .i] (.s 55) (.s 56)) 49, a 58 (ko 49 57)] [2, 3, 58]
 (.cond (.s 58) (rs [o 4 (.mv (.c w))] [4]
 (.ret [4])) .skip))
 (.seq (rs [of 59 11 3, o 60 (k 59), o 61 (le 60), o 62 (.mv (j 0))] [2, 60, 61, 62]
 (.block 0 (.loop xf_core_recovering_k0 xf_core_recovering_b0)))
 (rs [o 4 (.mv (.c v))] [4]
 (.ret [4])))))⟩

def xf_vector_speaks : XFunc := ⟨none, true, 1, [.tmp 2], (rs [o 1 (bx 0), o 2 (.mv (.c w))] [1]
 (ss [a 3 (f 1 1), a 4 (k 3), a 5 (c 125 [4]), am 6 5, b 7 (f 0 1) 6, b 8 (k 7) 6, b 9 (bhj 8 0) 6, a 10 (ka 6 9), am 11 10, b 12 (f 0 1) 11, b 13 (k 12) 11, b 14 (f 1 1) 11, b 15 (k 14) 11, b 16 (le 15) 11, b 17 (bl 13 16) 11, a 18 (ka 11 17), am 2 18] [2]
 (.ret [2])))⟩

def xf_slices_EqualFunc_Ballot_Ballot_Ballot_Ballot_k0 : List (Nat × Option (Nat × Nat × Bool)) := [(1, none), (2, none), (15, some (71, 6, false)), (16, none), (17, none)]
def xf_slices_EqualFunc_Ballot_Ballot_Ballot_Ballot_b0 : XCode := (rs [o 18 (bl 17 16)] [1, 2, 15, 16, 17, 18]
 (.seq (.cond (.s 18) .skip (.exit 0 []))
 (.seq (.block 1 (rs [om 19 17, o 20 (ia 6 15 17), ol 21 6 20, o 8 (.alloc l2), om 7 19, p (t 6 8 21)] [1, 2, 7, 8, 15, 16, 17]
 (rs [om 22 1, om 23 7, o 24 (ia 6 22 23), ol 25 6 24, o 9 (.alloc l2), p (t 6 9 25)] [1, 2, 8, 9, 15, 16, 17]
 (rs [om 26 2, ol 27 6 8, ol 28 6 9, o 29 (.call (.s 26) [(.s 27), (.s 28)]), o 30 (nt 29)] [1, 2, 15, 16, 17, 30]
 (.cond (.s 30) (rs [o 6 (.mv (.c w))] [6]
 (.ret [6])) .skip)))))
 (.reg [o 31 (baj 17 1), om 17 31] none [1, 2, 15, 16, 17]))))
def xf_slices_EqualFunc_Ballot_Ballot_Ballot_Ballot : XFunc := ⟨none, true, 3, [.tmp 6], (rs [o 6 (.mv (.c w))] [0, 1, 2]
 (.seq (rs [om 10 0, o 11 (le 10), om 12 1, o 13 (le 12), o 14 (n 11 13)] [0, 1, 2, 14]
 (.cond (.s 14) (rs [o 6 (.mv (.c w))] [6]
 (.ret [6])) .skip))
 (.seq (rs [om 15 0, o 16 (le 15), o 17 (.mv (j 0))] [1, 2, 15, 16, 17]
 (.block 0 (.loop xf_slices_EqualFunc_Ballot_Ballot_Ballot_Ballot_k0 xf_slices_EqualFunc_Ballot_Ballot_Ballot_Ballot_b0)))
 (rs [o 6 (.mv (.c v))] [6]
 (.ret [6])))))⟩

def xf_core_Alike_1 : XFunc := ⟨none, true, 2, [.tmp 4], (rs [o 2 (bx 0), o 3 (bx 1), o 4 (.mv (.c w))] [2, 3]
 (ss [a 5 (f 0 2), a 6 (k 5), a 7 (f 0 3), a 8 (k 7), a 9 (q 6 8), am 10 9, b 11 (f 1 2) 10, b 12 (l 2 11) 10, b 13 (f 1 3) 10, b 14 (l 2 13) 10, b 15 (.eqv false true [.i, .i] (.s 12) (.s 14)) 10, a 16 (ka 10 15), am 17 16, b 18 (f 3 2) 17, b 19 (k 18) 17, b 20 (f 3 3) 17, b 21 (k 20) 17, b 22 (q 19 21) 17, a 23 (ka 17 22), am 24 23, b 25 (f 4 2) 24, b 26 (k 25) 24, b 27 (f 4 3) 24, b 28 (k 27) 24, b 29 (q 26 28) 24, a 30 (ka 24 29), am 31 30, b 32 (f 5 2) 31, b 33 (k 32) 31, b 34 (f 5 3) 31, b 35 (k 34) 31, u 36 (c 82 [33, 35]) 31, a 37 (ka 31 36), am 4 37] [4]
 (.ret [4])))⟩

def xf_slices_Equal_Entry_Entry_k0 : List (Nat × Option (Nat × Nat × Bool)) := [(0, none), (1, none), (12, none), (13, none)]
def xf_slices_Equal_Entry_Entry_b0 : XCode := (rs [o 14 (bl 13 12)] [0, 1, 12, 13, 14]
 (.seq (.cond (.s 14) .skip (.exit 0 []))
 (.seq (.block 1 (rs [om 15 13, om 5 15] [0, 1, 5, 12, 13]
 (rp (some []) [om 16 0, om 17 5, o 18 (ia 5 16 17), ol 19 5 18, om 20 1, om 21 5, o 22 (ia 5 20 21), ol 23 5 22, o 24 (.eqv true true [.i, .i, .i, .i, .s] (.s 19) (.s 23))] [0, 1, 12, 13, 24]
 (.cond (.s 24) (rs [o 4 (.mv (.c w))] [4]
 (.ret [4])) .skip))))
 (.reg [o 25 (baj 13 1), om 13 25] none [0, 1, 12, 13]))))
def xf_slices_Equal_Entry_Entry : XFunc := ⟨none, true, 2, [.tmp 4], (rs [o 4 (.mv (.c w))] [0, 1]
 (.seq (rs [om 6 0, o 7 (le 6), om 8 1, o 9 (le 8), o 10 (n 7 9)] [0, 1, 10]
 (.cond (.s 10) (rs [o 4 (.mv (.c w))] [4]
 (.ret [4])) .skip))
 (.seq (rs [om 11 0, o 12 (le 11), o 13 (.mv (j 0))] [0, 1, 12, 13]
 (.block 0 (.loop xf_slices_Equal_Entry_Entry_k0 xf_slices_Equal_Entry_Entry_b0)))
 (rs [o 4 (.mv (.c v))] [4]
 (.ret [4])))))⟩

def xf_slices_EqualFunc_Answer_Answer_Answer_Answer_k0 : List (Nat × Option (Nat × Nat × Bool)) := [(1, none), (2, none), (15, some (73, 6, false)), (16, none), (17, none)]
def xf_slices_EqualFunc_Answer_Answer_Answer_Answer_b0 : XCode := (rs [o 18 (bl 17 16)] [1, 2, 15, 16, 17, 18]
 (.seq (.cond (.s 18) .skip (.exit 0 []))
 (.seq (.block 1 (rs [om 19 17, o 20 (ia 6 15 17), ol 21 6 20, o 8 (.alloc l2), om 7 19, p (t 6 8 21)] [1, 2, 7, 8, 15, 16, 17]
 (rs [om 22 1, om 23 7, o 24 (ia 6 22 23), ol 25 6 24, o 9 (.alloc l2), p (t 6 9 25)] [1, 2, 8, 9, 15, 16, 17]
 (rs [om 26 2, ol 27 6 8, ol 28 6 9, o 29 (.call (.s 26) [(.s 27), (.s 28)]), o 30 (nt 29)] [1, 2, 15, 16, 17, 30]
 (.cond (.s 30) (rs [o 6 (.mv (.c w))] [6]
 (.ret [6])) .skip)))))
 (.reg [o 31 (baj 17 1), om 17 31] none [1, 2, 15, 16, 17]))))
def xf_slices_EqualFunc_Answer_Answer_Answer_Answer : XFunc := ⟨none, true, 3, [.tmp 6], (rs [o 6 (.mv (.c w))] [0, 1, 2]
 (.seq (rs [om 10 0, o 11 (le 10), om 12 1, o 13 (le 12), o 14 (n 11 13)] [0, 1, 2, 14]
 (.cond (.s 14) (rs [o 6 (.mv (.c w))] [6]
 (.ret [6])) .skip))
 (.seq (rs [om 15 0, o 16 (le 15), o 17 (.mv (j 0))] [1, 2, 15, 16, 17]
 (.block 0 (.loop xf_slices_EqualFunc_Answer_Answer_Answer_Answer_k0 xf_slices_EqualFunc_Answer_Answer_Answer_Answer_b0)))
 (rs [o 6 (.mv (.c v))] [6]
 (.ret [6])))))⟩

def xf_core_Alike_2 : XFunc := ⟨none, true, 2, [.tmp 4], (rs [o 2 (bx 0), o 3 (bx 1), o 4 (.mv (.c w))] [2, 3]
 (ss [a 5 (f 0 2), a 6 (k 5), a 7 (f 0 3), a 8 (k 7), a 9 (q 6 8), am 10 9, b 11 (f 1 2) 10, b 12 (l 2 11) 10, b 13 (f 1 3) 10, b 14 (l 2 13) 10, b 15 (.eqv false true [.i, .i] (.s 12) (.s 14)) 10, a 16 (ka 10 15), am 17 16, b 18 (f 3 2) 17, b 19 (k 18) 17, b 20 (f 3 3) 17, b 21 (k 20) 17, b 22 (q 19 21) 17, a 23 (ka 17 22), am 24 23, b 25 (f 4 2) 24, b 26 (k 25) 24, b 27 (f 4 3) 24, b 28 (k 27) 24, b 29 (q 26 28) 24, a 30 (ka 24 29), am 31 30, b 32 (f 5 2) 31, b 33 (k 32) 31, b 34 (f 5 3) 31, b 35 (k 34) 31, u 36 (c 82 [33, 35]) 31, a 37 (ka 31 36), am 4 37] [4]
 (.ret [4])))⟩

def xf_slices_Equal_Vector_Draw_k0 : List (Nat × Option (Nat × Nat × Bool)) := [(0, none), (1, none), (12, none), (13, none)]
def xf_slices_Equal_Vector_Draw_b0 : XCode := (rs [o 14 (bl 13 12)] [0, 1, 12, 13, 14]
 (.seq (.cond (.s 14) .skip (.exit 0 []))
 (.seq (.block 1 (rs [om 15 13, om 5 15] [0, 1, 5, 12, 13]
 (rp (some []) [om 16 0, om 17 5, o 18 (ia 2 16 17), ol 19 2 18, om 20 1, om 21 5, o 22 (ia 2 20 21), ol 23 2 22, o 24 (.eqv true true [.i, .i] (.s 19) (.s 23))] [0, 1, 12, 13, 24]
 (.cond (.s 24) (rs [o 4 (.mv (.c w))] [4]
 (.ret [4])) .skip))))
 (.reg [o 25 (baj 13 1), om 13 25] none [0, 1, 12, 13]))))
def xf_slices_Equal_Vector_Draw : XFunc := ⟨none, true, 2, [.tmp 4], (rs [o 4 (.mv (.c w))] [0, 1]
 (.seq (rs [om 6 0, o 7 (le 6), om 8 1, o 9 (le 8), o 10 (n 7 9)] [0, 1, 10]
 (.cond (.s 10) (rs [o 4 (.mv (.c w))] [4]
 (.ret [4])) .skip))
 (.seq (rs [om 11 0, o 12 (le 11), o 13 (.mv (j 0))] [0, 1, 12, 13]
 (.block 0 (.loop xf_slices_Equal_Vector_Draw_k0 xf_slices_Equal_Vector_Draw_b0)))
 (rs [o 4 (.mv (.c v))] [4]
 (.ret [4])))))⟩

def xf_slices_Equal_Ack_Ack_k0 : List (Nat × Option (Nat × Nat × Bool)) := [(0, none), (1, none), (12, none), (13, none)]
def xf_slices_Equal_Ack_Ack_b0 : XCode := (rs [o 14 (bl 13 12)] [0, 1, 12, 13, 14]
 (.seq (.cond (.s 14) .skip (.exit 0 []))
 (.seq (.block 1 (rs [om 15 13, om 5 15] [0, 1, 5, 12, 13]
 (rp (some []) [om 16 0, om 17 5, o 18 (ia 4 16 17), ol 19 4 18, om 20 1, om 21 5, o 22 (ia 4 20 21), ol 23 4 22, o 24 (.eqv true true [.i, .i, .i, .i] (.s 19) (.s 23))] [0, 1, 12, 13, 24]
 (.cond (.s 24) (rs [o 4 (.mv (.c w))] [4]
 (.ret [4])) .skip))))
 (.reg [o 25 (baj 13 1), om 13 25] none [0, 1, 12, 13]))))
def xf_slices_Equal_Ack_Ack : XFunc := ⟨none, true, 2, [.tmp 4], (rs [o 4 (.mv (.c w))] [0, 1]
 (.seq (rs [om 6 0, o 7 (le 6), om 8 1, o 9 (le 8), o 10 (n 7 9)] [0, 1, 10]
 (.cond (.s 10) (rs [o 4 (.mv (.c w))] [4]
 (.ret [4])) .skip))
 (.seq (rs [om 11 0, o 12 (le 11), o 13 (.mv (j 0))] [0, 1, 12, 13]
 (.block 0 (.loop xf_slices_Equal_Ack_Ack_k0 xf_slices_Equal_Ack_Ack_b0)))
 (rs [o 4 (.mv (.c v))] [4]
 (.ret [4])))))⟩

def xf_slices_Equal_Mark_Mark_k0 : List (Nat × Option (Nat × Nat × Bool)) := [(0, none), (1, none), (12, none), (13, none)]
def xf_slices_Equal_Mark_Mark_b0 : XCode := (rs [o 14 (bl 13 12)] [0, 1, 12, 13, 14]
 (.seq (.cond (.s 14) .skip (.exit 0 []))
 (.seq (.block 1 (rs [om 15 13, om 5 15] [0, 1, 5, 12, 13]
 (rp (some []) [om 16 0, om 17 5, o 18 (ia 3 16 17), ol 19 3 18, om 20 1, om 21 5, o 22 (ia 3 20 21), ol 23 3 22, o 24 (.eqv true true [.i, .i, .i] (.s 19) (.s 23))] [0, 1, 12, 13, 24]
 (.cond (.s 24) (rs [o 4 (.mv (.c w))] [4]
 (.ret [4])) .skip))))
 (.reg [o 25 (baj 13 1), om 13 25] none [0, 1, 12, 13]))))
def xf_slices_Equal_Mark_Mark : XFunc := ⟨none, true, 2, [.tmp 4], (rs [o 4 (.mv (.c w))] [0, 1]
 (.seq (rs [om 6 0, o 7 (le 6), om 8 1, o 9 (le 8), o 10 (n 7 9)] [0, 1, 10]
 (.cond (.s 10) (rs [o 4 (.mv (.c w))] [4]
 (.ret [4])) .skip))
 (.seq (rs [om 11 0, o 12 (le 11), o 13 (.mv (j 0))] [0, 1, 12, 13]
 (.block 0 (.loop xf_slices_Equal_Mark_Mark_k0 xf_slices_Equal_Mark_Mark_b0)))
 (rs [o 4 (.mv (.c v))] [4]
 (.ret [4])))))⟩

def xf_ref09_self : XFunc := ⟨none, true, 2, [.tmp 4], (rs [o 2 (bx 0), o 4 (.mv (j 0))] [1, 2]
 (rs [ol 6 4 2, o 7 (c 63 [6]), om 5 7] [1, 2, 5]
 (.seq (rs [om 8 5, o 9 (qj 8 0), om 10 9, g 11 (m 1) 10, g 12 (blj 11 0) 10, g 13 (m 12) 10, h 14 (m 1) 13, h 15 (l 4 2) 13, h 16 (c 89 [15]) 13, h 17 (bh 14 16) 13, g 18 (ko 13 17) 10, o 19 (ka 10 18)] [5, 19]
 (.cond (.s 19) (.reg [o 5 (.mv (j 3))] none [5]) .skip))
 (rs [om 20 5, om 4 20] [4]
 (.ret [4])))))⟩

def xf_ref09_Nodes : XFunc := ⟨none, true, 1, [.tmp 2], (rs [o 1 (bx 0), o 2 (.mv (j 0))] [1]
 (.seq (rs [ol 3 4 1, o 4 (c 63 [3]), o 5 (nj 4 0)] [1, 5]
 (.cond (.s 5) (rs [o 2 (.mv (j 0))] [2]
 (.ret [2])) .skip))
 (rs [of 6 0 1, o 7 (k 6), o 8 (.bin .mul (j 2) (.s 7)), o 9 (baj 8 1), om 2 9] [2]
 (.ret [2]))))⟩

def xf_client_Between : XFunc := ⟨none, true, 3, [.tmp 6, .tmp 7], (rs [o 6 (.mv (.c (.nil 159 7 true))), o 7 (.mv (j 0))] [0, 1, 2]
 (.seq (rs [om 9 0, o 10 (c 154 [9]), om 8 10] [0, 1, 2, 8]
 (rs [om 11 8, o 12 (nj 11 0)] [0, 1, 2, 8, 12]
 (.cond (.s 12) (rs [om 13 8, o 6 (.mv (.c (.nil 159 7 true))), om 7 13] [6, 7]
 (.ret [6, 7])) .skip)))
 (.seq (ss [am 14 1, a 15 (blj 14 0), am 16 15, d 17 (m 1) 16, d 18 (m 0) 16, d 19 (le 18) 16, d 20 (bg 17 19) 16, a 21 (ko 16 20), am 22 21, d 23 (m 2) 22, d 24 (blj 23 0) 22, a 25 (ko 22 24), am 26 25, d 27 (m 2) 26, d 28 (m 0) 26, d 29 (le 28) 26, d 30 (bg 27 29) 26, a 31 (ko 26 30), am 32 31, d 33 (m 1) 32, d 34 (m 2) 32, d 35 (bg 33 34) 32, a 36 (ko 32 35)] [0, 1, 2, 36]
 (.cond (.s 36) (rs [o 6 (.mv (.c (.nil 159 7 true))), o 7 (.mv (j 50))] [6, 7]
 (.ret [6, 7])) .skip))
 (rs [om 37 0, om 38 2, o 39 (c 155 [37, 38]), om 40 1, o 41 (.slice 7 (.s 39) (some (.s 40)) none), o 42 (.app 159 7 64 true (.c (.nil 159 7 true)) (.s 41)), om 6 42, o 7 (.mv (j 0))] [6, 7]
 (.ret [6, 7])))))⟩

def xf_core_out : XFunc := ⟨none, true, 3, [.cell 6 (some 19)], (rs [o 3 (bx 0), o 5 (bx 2), o 6 (.alloc l3)] [1, 3, 5, 6]
 (rs [of 7 0 3, o 8 (k 7), of 9 1 5, p (t 1 9 8)] [1, 3, 5, 6]
 (rs [of 10 16 5, o 11 (k 10), o 12 (c 119 [11]), of 13 16 5, p (t 1 13 12)] [1, 3, 5, 6]
 (.seq (rs [of 14 0 5, o 15 (k 14), o 16 (c 26 [15])] [1, 3, 5, 6, 16]
 (.cond (.s 16) (.reg [of 17 6 3, o 18 (k 17), of 19 17 5, p (t 1 19 18)] none [1, 5, 6]) .skip))
 (rs [of 20 17 5, o 21 (k 20), o 22 (c 120 [21]), of 23 17 5, p (t 1 23 22)] [1, 5, 6]
 (rs [om 24 1, ol 25 18 5, o 26 (.build l3 [(0, 1, (.s 24)), (1, 18, (.s 25))]), p (t 19 6 26)] [6]
 (.ret [6])))))))⟩

def xf_core_self : XFunc := ⟨none, true, 2, [.tmp 4], (rs [o 2 (bx 0), o 4 (.mv (j 0))] [1, 2]
 (.seq (rs [ol 6 4 2, o 7 (c 70 [6]), om 5 7] [1, 2, 5]
 (rs [om 8 5, o 9 (nj 8 0)] [1, 2, 5, 9]
 (.cond (.s 9) (rs [om 10 5, om 4 10] [4]
 (.ret [4])) .skip)))
 (.seq (ss [am 11 1, a 12 (blj 11 0), am 13 12, d 14 (m 1) 13, d 15 (l 4 2) 13, r 16 (c 71 [15]) 13, r 17 (bh 14 16) 13, a 18 (ko 13 17)] [18]
 (.cond (.s 18) (rs [o 4 (.mv (j 3))] [4]
 (.ret [4])) .skip))
 (rs [o 4 (.mv (j 0))] [4]
 (.ret [4])))))⟩

def xf_vector_New : XFunc := ⟨none, false, 1, [.tmp 2, .tmp 3], (rs [o 2 (.mv (.c (.nil 43 2 true))), o 3 (.mv (j 0))] [0]
 (.seq (ss [am 4 0, a 5 (blj 4 1), am 6 5, d 7 (m 0) 6, d 8 (bgj 7 7) 6, a 9 (ko 6 8)] [0, 9]
 (.cond (.s 9) (rs [o 2 (.mv (.c (.nil 43 2 true))), o 3 (.mv (j 3))] [2, 3]
 (.ret [2, 3])) .skip))
 (rs [om 10 0, o 11 (.mksl 43 2 16 true [y, y] (.s 10) (.s 10)), om 2 11, o 3 (.mv (j 0))] [2, 3]
 (.ret [2, 3]))))⟩

def xf_plain_Book_Entries : XFunc := ⟨none, false, 2, [], (rs [om 4 1, o 5 (le 4), o 6 (bgj 5 0)] [0, 1, 6]
 (.cond (.s 6) (.reg [om 7 0, om 8 0, o 9 (nc 8), of 10 3 9, o 11 (k 10), om 12 1, o 13 (.bsl 25 1 false 1 [(.nil 38 5 true)] [(0, 1, (.s 12))]), o 14 (.app 25 1 24 false (.s 11) (.s 13)), o 15 (nc 7), of 16 3 15, p (t 1 16 14)] none []) .skip))⟩

def xf_plain_Book_Vector : XFunc := ⟨none, false, 2, [], (rs [om 4 1, o 5 (le 4), o 6 (bgj 5 0)] [0, 1, 6]
 (.cond (.s 6) (.reg [om 7 0, om 8 0, o 9 (nc 8), of 10 2 9, o 11 (k 10), om 12 1, o 13 (.bsl 27 1 false 1 [(.nil 43 2 true)] [(0, 1, (.s 12))]), o 14 (.app 27 1 24 false (.s 11) (.s 13)), o 15 (nc 7), of 16 2 15, p (t 1 16 14)] none []) .skip))⟩

def xf_plain_Book_Acks : XFunc := ⟨none, false, 2, [], (rs [om 4 1, o 5 (le 4), o 6 (bgj 5 0)] [0, 1, 6]
 (.cond (.s 6) (.reg [om 7 0, om 8 0, o 9 (nc 8), of 10 8 9, o 11 (k 10), om 12 1, o 13 (.bsl 28 1 false 1 [(.nil 67 4 true)] [(0, 1, (.s 12))]), o 14 (.app 28 1 24 false (.s 11) (.s 13)), o 15 (nc 7), of 16 8 15, p (t 1 16 14)] none []) .skip))⟩

def xf_plain_Book_Marks : XFunc := ⟨none, false, 2, [], (rs [om 4 1, o 5 (le 4), o 6 (bgj 5 0)] [0, 1, 6]
 (.cond (.s 6) (.reg [om 7 0, om 8 0, o 9 (nc 8), of 10 9 9, o 11 (k 10), om 12 1, o 13 (.bsl 29 1 false 1 [(.nil 69 3 true)] [(0, 1, (.s 12))]), o 14 (.app 29 1 24 false (.s 11) (.s 13)), o 15 (nc 7), of 16 9 15, p (t 1 16 14)] none []) .skip))⟩

def xf_plain_Book_apartBytes_k1 : List (Nat × Option (Nat × Nat × Bool)) := [(3, some (136, 1, false)), (4, none), (5, none)]
def xf_plain_Book_apartBytes_b1 : XCode := (.seq (rs [om 22 5, om 23 3, om 24 4, o 25 (ia 1 23 24), o 26 (k 25), o 27 (le 26), o 28 (bl 22 27)] [3, 4, 5, 28]
 (.cond (.s 28) .skip (.exit 2 [3, 4])))
 (.seq (.block 3 (.reg [om 31 3, om 32 4, o 33 (ia 1 31 32), o 34 (k 33), om 35 5, om 36 4, om 37 5, o 38 (c 156 [36, 37]), o 39 (ia 1 34 35), p (t 1 39 38)] (some [(2, 7), (3, 7)]) [3, 4, 5]))
 (.reg [om 29 5, o 30 (baj 29 1), om 5 30] none [3, 4, 5])))
def xf_plain_Book_apartBytes_k0 : List (Nat × Option (Nat × Nat × Bool)) := [(3, some (136, 1, false)), (4, none)]
def xf_plain_Book_apartBytes_b0 : XCode := (.seq (rs [om 16 4, om 17 3, o 18 (le 17), o 19 (bl 16 18)] [3, 4, 19]
 (.cond (.s 19) .skip (.exit 0 [3])))
 (.seq (.block 1 (rs [o 5 (.mv (j 0))] [3, 4, 5]
 (.block 2 (.loop xf_plain_Book_apartBytes_k1 xf_plain_Book_apartBytes_b1))))
 (.reg [om 20 4, o 21 (baj 20 1), om 4 21] none [3, 4])))
def xf_plain_Book_apartBytes_k3 : List (Nat × Option (Nat × Nat × Bool)) := [(3, some (136, 1, false)), (6, some (136, 1, false)), (7, none), (8, some (5, 1, true)), (9, none)]
def xf_plain_Book_apartBytes_b3 : XCode := (.seq (rs [om 50 9, o 51 (blj 50 70)] [3, 6, 7, 8, 9, 51]
 (.cond (.s 51) .skip (.exit 6 [3, 6, 7, 8])))
 (.seq (.block 7 (.reg [om 54 8, om 55 7, om 56 8, o 57 (le 56), o 58 (c 156 [55, 57]), o 59 (.bsl 5 1 true 1 [(.dat (.int .u8 0))] [(0, 1, (.s 58))]), o 60 (.app 5 1 1 true (.s 54) (.s 59)), om 8 60] none [3, 6, 7, 8, 9]))
 (.reg [om 52 9, o 53 (baj 52 1), om 9 53] none [3, 6, 7, 8, 9])))
def xf_plain_Book_apartBytes_k2 : List (Nat × Option (Nat × Nat × Bool)) := [(3, some (136, 1, false)), (6, some (136, 1, false)), (7, none)]
def xf_plain_Book_apartBytes_b2 : XCode := (.seq (rs [om 40 7, om 41 3, o 42 (le 41), o 43 (bl 40 42)] [3, 6, 7, 43]
 (.cond (.s 43) .skip (.exit 4 [3, 6])))
 (.seq (.block 5 (rs [om 46 3, om 47 7, o 48 (ia 1 46 47), o 49 (k 48), om 8 49] [3, 6, 7, 8]
 (.seq (rs [o 9 (.mv (j 0))] [3, 6, 7, 8, 9]
 (.block 6 (.loop xf_plain_Book_apartBytes_k3 xf_plain_Book_apartBytes_b3)))
 (.reg [om 61 6, om 62 8, o 63 (.bsl 136 1 false 1 [(.nil 5 1 true)] [(0, 1, (.s 62))]), o 64 (.app 136 1 24 false (.s 61) (.s 63)), om 6 64] none [3, 6, 7]))))
 (.reg [om 44 7, o 45 (baj 44 1), om 7 45] none [3, 6, 7])))
def xf_plain_Book_apartBytes_k5 : List (Nat × Option (Nat × Nat × Bool)) := [(3, some (136, 1, false)), (6, some (136, 1, false)), (10, none), (11, none)]
def xf_plain_Book_apartBytes_b5 : XCode := (.seq (rs [om 71 11, om 72 6, om 73 10, o 74 (ia 1 72 73), o 75 (k 74), o 76 (le 75), o 77 (bl 71 76)] [3, 6, 10, 11, 77]
 (.cond (.s 77) .skip (.exit 10 [3, 6, 10])))
 (.seq (.block 11 (sp (some [(2, 9), (3, 9), (5, 9), (6, 9), (22, 29), (23, 29), (25, 29), (26, 29)]) [am 80 6, am 81 10, a 82 (ia 1 80 81), a 83 (k 82), am 84 11, a 85 (ia 1 83 84), a 86 (k 85), am 87 10, am 88 11, a 89 (c 156 [87, 88]), a 90 (n 86 89), am 91 90, d 92 (m 11) 91, d 93 (m 3) 91, d 94 (m 10) 91, r 95 (ia 1 93 94) 91, r 96 (k 95) 91, r 97 (le 96) 91, r 98 (bl 92 97) 91, r 99 (m 98) 91, bb 100 3 99, bb 101 10 99, u 102 (ia 1 100 101) 99, u 103 (k 102) 99, bb 104 11 99, u 105 (ia 1 103 104) 99, u 106 (k 105) 99, bb 107 10 99, bb 108 11 99, u 109 (c 156 [107, 108]) 99, u 110 (n 106 109) 99, r 111 (ka 99 110) 91, a 112 (ko 91 111)] [3, 6, 10, 11, 112]
 (.cond (.s 112) (rs [o 2 (.mv (.c w))] [2]
 (.ret [2])) .skip)))
 (.reg [om 78 11, o 79 (baj 78 1), om 11 79] none [3, 6, 10, 11])))
def xf_plain_Book_apartBytes_k4 : List (Nat × Option (Nat × Nat × Bool)) := [(3, some (136, 1, false)), (6, some (136, 1, false)), (10, none)]
def xf_plain_Book_apartBytes_b4 : XCode := (.seq (rs [om 65 10, om 66 3, o 67 (le 66), o 68 (bl 65 67)] [3, 6, 10, 68]
 (.cond (.s 68) .skip (.exit 8 [])))
 (.seq (.block 9 (rs [o 11 (.mv (j 0))] [3, 6, 10, 11]
 (.block 10 (.loop xf_plain_Book_apartBytes_k5 xf_plain_Book_apartBytes_b5))))
 (.reg [om 69 10, o 70 (baj 69 1), om 10 70] none [3, 6, 10])))
def xf_plain_Book_apartBytes : XFunc := ⟨none, false, 1, [.tmp 2], (rs [o 2 (.mv (.c w))] [0]
 (rs [om 12 0, o 13 (nc 12), of 14 0 13, o 15 (k 14), om 3 15] [3]
 (.seq (rs [o 4 (.mv (j 0))] [3, 4]
 (.block 0 (.loop xf_plain_Book_apartBytes_k0 xf_plain_Book_apartBytes_b0)))
 (rs [o 6 (.mv (.c (.nil 136 1 false)))] [3, 6]
 (.seq (rs [o 7 (.mv (j 0))] [3, 6, 7]
 (.block 4 (.loop xf_plain_Book_apartBytes_k2 xf_plain_Book_apartBytes_b2)))
 (.seq (rs [o 10 (.mv (j 0))] [3, 6, 10]
 (.block 8 (.loop xf_plain_Book_apartBytes_k4 xf_plain_Book_apartBytes_b4)))
 (rs [o 2 (.mv (.c v))] [2]
 (.ret [2]))))))))⟩

def xf_plain_Book_apartInts_k1 : List (Nat × Option (Nat × Nat × Bool)) := [(3, some (138, 1, false)), (4, none), (5, none)]
def xf_plain_Book_apartInts_b1 : XCode := (.seq (rs [om 22 5, om 23 3, om 24 4, o 25 (ia 1 23 24), o 26 (k 25), o 27 (le 26), o 28 (bl 22 27)] [3, 4, 5, 28]
 (.cond (.s 28) .skip (.exit 2 [3, 4])))
 (.seq (.block 3 (.reg [om 31 3, om 32 4, o 33 (ia 1 31 32), o 34 (k 33), om 35 5, om 36 4, om 37 5, o 38 (c 157 [36, 37]), o 39 (ia 1 34 35), p (t 1 39 38)] (some [(2, 7), (3, 7)]) [3, 4, 5]))
 (.reg [om 29 5, o 30 (baj 29 1), om 5 30] none [3, 4, 5])))
def xf_plain_Book_apartInts_k0 : List (Nat × Option (Nat × Nat × Bool)) := [(3, some (138, 1, false)), (4, none)]
def xf_plain_Book_apartInts_b0 : XCode := (.seq (rs [om 16 4, om 17 3, o 18 (le 17), o 19 (bl 16 18)] [3, 4, 19]
 (.cond (.s 19) .skip (.exit 0 [3])))
 (.seq (.block 1 (rs [o 5 (.mv (j 0))] [3, 4, 5]
 (.block 2 (.loop xf_plain_Book_apartInts_k1 xf_plain_Book_apartInts_b1))))
 (.reg [om 20 4, o 21 (baj 20 1), om 4 21] none [3, 4])))
def xf_plain_Book_apartInts_k3 : List (Nat × Option (Nat × Nat × Bool)) := [(3, some (138, 1, false)), (6, some (138, 1, false)), (7, none), (8, some (3, 1, true)), (9, none)]
def xf_plain_Book_apartInts_b3 : XCode := (.seq (rs [om 50 9, o 51 (blj 50 70)] [3, 6, 7, 8, 9, 51]
 (.cond (.s 51) .skip (.exit 6 [3, 6, 7, 8])))
 (.seq (.block 7 (.reg [om 54 8, om 55 7, om 56 8, o 57 (le 56), o 58 (c 157 [55, 57]), o 59 (.bsl 3 1 true 1 [z] [(0, 1, (.s 58))]), o 60 (.app 3 1 8 true (.s 54) (.s 59)), om 8 60] none [3, 6, 7, 8, 9]))
 (.reg [om 52 9, o 53 (baj 52 1), om 9 53] none [3, 6, 7, 8, 9])))
def xf_plain_Book_apartInts_k2 : List (Nat × Option (Nat × Nat × Bool)) := [(3, some (138, 1, false)), (6, some (138, 1, false)), (7, none)]
def xf_plain_Book_apartInts_b2 : XCode := (.seq (rs [om 40 7, om 41 3, o 42 (le 41), o 43 (bl 40 42)] [3, 6, 7, 43]
 (.cond (.s 43) .skip (.exit 4 [3, 6])))
 (.seq (.block 5 (rs [om 46 3, om 47 7, o 48 (ia 1 46 47), o 49 (k 48), om 8 49] [3, 6, 7, 8]
 (.seq (rs [o 9 (.mv (j 0))] [3, 6, 7, 8, 9]
 (.block 6 (.loop xf_plain_Book_apartInts_k3 xf_plain_Book_apartInts_b3)))
 (.reg [om 61 6, om 62 8, o 63 (.bsl 138 1 false 1 [(.nil 3 1 true)] [(0, 1, (.s 62))]), o 64 (.app 138 1 24 false (.s 61) (.s 63)), om 6 64] none [3, 6, 7]))))
 (.reg [om 44 7, o 45 (baj 44 1), om 7 45] none [3, 6, 7])))
def xf_plain_Book_apartInts_k5 : List (Nat × Option (Nat × Nat × Bool)) := [(3, some (138, 1, false)), (6, some (138, 1, false)), (10, none), (11, none)]
def xf_plain_Book_apartInts_b5 : XCode := (.seq (rs [om 71 11, om 72 6, om 73 10, o 74 (ia 1 72 73), o 75 (k 74), o 76 (le 75), o 77 (bl 71 76)] [3, 6, 10, 11, 77]
 (.cond (.s 77) .skip (.exit 10 [3, 6, 10])))
 (.seq (.block 11 (sp (some [(2, 9), (3, 9), (5, 9), (6, 9), (22, 29), (23, 29), (25, 29), (26, 29)]) [am 80 6, am 81 10, a 82 (ia 1 80 81), a 83 (k 82), am 84 11, a 85 (ia 1 83 84), a 86 (k 85), am 87 10, am 88 11, a 89 (c 157 [87, 88]), a 90 (n 86 89), am 91 90, d 92 (m 11) 91, d 93 (m 3) 91, d 94 (m 10) 91, r 95 (ia 1 93 94) 91, r 96 (k 95) 91, r 97 (le 96) 91, r 98 (bl 92 97) 91, r 99 (m 98) 91, bb 100 3 99, bb 101 10 99, u 102 (ia 1 100 101) 99, u 103 (k 102) 99, bb 104 11 99, u 105 (ia 1 103 104) 99, u 106 (k 105) 99, bb 107 10 99, bb 108 11 99, u 109 (c 157 [107, 108]) 99, u 110 (n 106 109) 99, r 111 (ka 99 110) 91, a 112 (ko 91 111)] [3, 6, 10, 11, 112]
 (.cond (.s 112) (rs [o 2 (.mv (.c w))] [2]
 (.ret [2])) .skip)))
 (.reg [om 78 11, o 79 (baj 78 1), om 11 79] none [3, 6, 10, 11])))
def xf_plain_Book_apartInts_k4 : List (Nat × Option (Nat × Nat × Bool)) := [(3, some (138, 1, false)), (6, some (138, 1, false)), (10, none)]
def xf_plain_Book_apartInts_b4 : XCode := (.seq (rs [om 65 10, om 66 3, o 67 (le 66), o 68 (bl 65 67)] [3, 6, 10, 68]
 (.cond (.s 68) .skip (.exit 8 [])))
 (.seq (.block 9 (rs [o 11 (.mv (j 0))] [3, 6, 10, 11]
 (.block 10 (.loop xf_plain_Book_apartInts_k5 xf_plain_Book_apartInts_b5))))
 (.reg [om 69 10, o 70 (baj 69 1), om 10 70] none [3, 6, 10])))
def xf_plain_Book_apartInts : XFunc := ⟨none, false, 1, [.tmp 2], (rs [o 2 (.mv (.c w))] [0]
 (rs [om 12 0, o 13 (nc 12), of 14 1 13, o 15 (k 14), om 3 15] [3]
 (.seq (rs [o 4 (.mv (j 0))] [3, 4]
 (.block 0 (.loop xf_plain_Book_apartInts_k0 xf_plain_Book_apartInts_b0)))
 (rs [o 6 (.mv (.c (.nil 138 1 false)))] [3, 6]
 (.seq (rs [o 7 (.mv (j 0))] [3, 6, 7]
 (.block 4 (.loop xf_plain_Book_apartInts_k2 xf_plain_Book_apartInts_b2)))
 (.seq (rs [o 10 (.mv (j 0))] [3, 6, 10]
 (.block 8 (.loop xf_plain_Book_apartInts_k4 xf_plain_Book_apartInts_b4)))
 (rs [o 2 (.mv (.c v))] [2]
 (.ret [2]))))))))⟩

def xf_plain_Book_apartVector_k1 : List (Nat × Option (Nat × Nat × Bool)) := [(3, some (27, 1, false)), (4, none), (5, none)]
def xf_plain_Book_apartVector_b1 : XCode := (.seq (rs [om 22 5, om 23 3, om 24 4, o 25 (ia 1 23 24), o 26 (k 25), o 27 (le 26), o 28 (bl 22 27)] [3, 4, 5, 28]
 (.cond (.s 28) .skip (.exit 2 [3, 4])))
 (.seq (.block 3 (.reg [om 31 3, om 32 4, o 33 (ia 1 31 32), o 34 (k 33), om 35 5, om 36 4, om 37 5, o 38 (c 158 [36, 37]), o 39 (ia 2 34 35), p (t 2 39 38)] (some [(2, 7), (3, 7)]) [3, 4, 5]))
 (.reg [om 29 5, o 30 (baj 29 1), om 5 30] none [3, 4, 5])))
def xf_plain_Book_apartVector_k0 : List (Nat × Option (Nat × Nat × Bool)) := [(3, some (27, 1, false)), (4, none)]
def xf_plain_Book_apartVector_b0 : XCode := (.seq (rs [om 16 4, om 17 3, o 18 (le 17), o 19 (bl 16 18)] [3, 4, 19]
 (.cond (.s 19) .skip (.exit 0 [3])))
 (.seq (.block 1 (rs [o 5 (.mv (j 0))] [3, 4, 5]
 (.block 2 (.loop xf_plain_Book_apartVector_k1 xf_plain_Book_apartVector_b1))))
 (.reg [om 20 4, o 21 (baj 20 1), om 4 21] none [3, 4])))
def xf_plain_Book_apartVector_k3 : List (Nat × Option (Nat × Nat × Bool)) := [(3, some (27, 1, false)), (6, some (27, 1, false)), (7, none), (8, some (43, 2, true)), (9, none)]
def xf_plain_Book_apartVector_b3 : XCode := (.seq (rs [om 50 9, o 51 (blj 50 70)] [3, 6, 7, 8, 9, 51]
 (.cond (.s 51) .skip (.exit 6 [3, 6, 7, 8])))
 (.seq (.block 7 (.reg [om 54 8, om 55 7, om 56 8, o 57 (le 56), o 58 (c 158 [55, 57]), o 59 (.bsl 43 2 true 1 [y, y] [(0, 2, (.s 58))]), o 60 (.app 43 2 16 true (.s 54) (.s 59)), om 8 60] none [3, 6, 7, 8, 9]))
 (.reg [om 52 9, o 53 (baj 52 1), om 9 53] none [3, 6, 7, 8, 9])))
def xf_plain_Book_apartVector_k2 : List (Nat × Option (Nat × Nat × Bool)) := [(3, some (27, 1, false)), (6, some (27, 1, false)), (7, none)]
def xf_plain_Book_apartVector_b2 : XCode := (.seq (rs [om 40 7, om 41 3, o 42 (le 41), o 43 (bl 40 42)] [3, 6, 7, 43]
 (.cond (.s 43) .skip (.exit 4 [3, 6])))
 (.seq (.block 5 (rs [om 46 3, om 47 7, o 48 (ia 1 46 47), o 49 (k 48), om 8 49] [3, 6, 7, 8]
 (.seq (rs [o 9 (.mv (j 0))] [3, 6, 7, 8, 9]
 (.block 6 (.loop xf_plain_Book_apartVector_k3 xf_plain_Book_apartVector_b3)))
 (.reg [om 61 6, om 62 8, o 63 (.bsl 27 1 false 1 [(.nil 43 2 true)] [(0, 1, (.s 62))]), o 64 (.app 27 1 24 false (.s 61) (.s 63)), om 6 64] none [3, 6, 7]))))
 (.reg [om 44 7, o 45 (baj 44 1), om 7 45] none [3, 6, 7])))
def xf_plain_Book_apartVector_k5 : List (Nat × Option (Nat × Nat × Bool)) := [(3, some (27, 1, false)), (6, some (27, 1, false)), (10, none), (11, none)]
def xf_plain_Book_apartVector_b5 : XCode := (.seq (rs [om 71 11, om 72 6, om 73 10, o 74 (ia 1 72 73), o 75 (k 74), o 76 (le 75), o 77 (bl 71 76)] [3, 6, 10, 11, 77]
 (.cond (.s 77) .skip (.exit 10 [3, 6, 10])))
 (.seq (.block 11 (sp (some [(2, 9), (3, 9), (5, 9), (6, 9), (22, 29), (23, 29), (25, 29), (26, 29)]) [am 80 6, am 81 10, a 82 (ia 1 80 81), a 83 (k 82), am 84 11, a 85 (ia 2 83 84), a 86 (l 2 85), am 87 10, am 88 11, a 89 (c 158 [87, 88]), a 90 (.eqv true true [.i, .i] (.s 86) (.s 89)), am 91 90, d 92 (m 11) 91, d 93 (m 3) 91, d 94 (m 10) 91, r 95 (ia 1 93 94) 91, r 96 (k 95) 91, r 97 (le 96) 91, r 98 (bl 92 97) 91, r 99 (m 98) 91, bb 100 3 99, bb 101 10 99, u 102 (ia 1 100 101) 99, u 103 (k 102) 99, bb 104 11 99, u 105 (ia 2 103 104) 99, u 106 (l 2 105) 99, bb 107 10 99, bb 108 11 99, u 109 (c 158 [107, 108]) 99, u 110 (.eqv true true [.i, .i] (.s 106) (.s 109)) 99, r 111 (ka 99 110) 91, a 112 (ko 91 111)] [3, 6, 10, 11, 112]
 (.cond (.s 112) (rs [o 2 (.mv (.c w))] [2]
 (.ret [2])) .skip)))
 (.reg [om 78 11, o 79 (baj 78 1), om 11 79] none [3, 6, 10, 11])))
def xf_plain_Book_apartVector_k4 : List (Nat × Option (Nat × Nat × Bool)) := [(3, some (27, 1, false)), (6, some (27, 1, false)), (10, none)]
def xf_plain_Book_apartVector_b4 : XCode := (.seq (rs [om 65 10, om 66 3, o 67 (le 66), o 68 (bl 65 67)] [3, 6, 10, 68]
 (.cond (.s 68) .skip (.exit 8 [])))
 (.seq (.block 9 (rs [o 11 (.mv (j 0))] [3, 6, 10, 11]
 (.block 10 (.loop xf_plain_Book_apartVector_k5 xf_plain_Book_apartVector_b5))))
 (.reg [om 69 10, o 70 (baj 69 1), om 10 70] none [3, 6, 10])))
def xf_plain_Book_apartVector : XFunc := ⟨none, false, 1, [.tmp 2], (rs [o 2 (.mv (.c w))] [0]
 (rs [om 12 0, o 13 (nc 12), of 14 2 13, o 15 (k 14), om 3 15] [3]
 (.seq (rs [o 4 (.mv (j 0))] [3, 4]
 (.block 0 (.loop xf_plain_Book_apartVector_k0 xf_plain_Book_apartVector_b0)))
 (rs [o 6 (.mv (.c (.nil 27 1 false)))] [3, 6]
 (.seq (rs [o 7 (.mv (j 0))] [3, 6, 7]
 (.block 4 (.loop xf_plain_Book_apartVector_k2 xf_plain_Book_apartVector_b2)))
 (.seq (rs [o 10 (.mv (j 0))] [3, 6, 10]
 (.block 8 (.loop xf_plain_Book_apartVector_k4 xf_plain_Book_apartVector_b4)))
 (rs [o 2 (.mv (.c v))] [2]
 (.ret [2]))))))))⟩

def xf_plain_Book_apartEntries_k1 : List (Nat × Option (Nat × Nat × Bool)) := [(3, some (25, 1, false)), (4, none), (5, none)]
def xf_plain_Book_apartEntries_b1 : XCode := (.seq (rs [om 22 5, om 23 3, om 24 4, o 25 (ia 1 23 24), o 26 (k 25), o 27 (le 26), o 28 (bl 22 27)] [3, 4, 5, 28]
 (.cond (.s 28) .skip (.exit 2 [3, 4])))
 (.seq (.block 3 (.reg [om 31 3, om 32 4, o 33 (ia 1 31 32), o 34 (k 33), om 35 5, om 36 4, om 37 5, o 38 (c 159 [36, 37]), o 39 (ia 5 34 35), p (t 5 39 38)] (some [(2, 7), (3, 7)]) [3, 4, 5]))
 (.reg [om 29 5, o 30 (baj 29 1), om 5 30] none [3, 4, 5])))
def xf_plain_Book_apartEntries_k0 : List (Nat × Option (Nat × Nat × Bool)) := [(3, some (25, 1, false)), (4, none)]
def xf_plain_Book_apartEntries_b0 : XCode := (.seq (rs [om 16 4, om 17 3, o 18 (le 17), o 19 (bl 16 18)] [3, 4, 19]
 (.cond (.s 19) .skip (.exit 0 [3])))
 (.seq (.block 1 (rs [o 5 (.mv (j 0))] [3, 4, 5]
 (.block 2 (.loop xf_plain_Book_apartEntries_k1 xf_plain_Book_apartEntries_b1))))
 (.reg [om 20 4, o 21 (baj 20 1), om 4 21] none [3, 4])))
def xf_plain_Book_apartEntries_k3 : List (Nat × Option (Nat × Nat × Bool)) := [(3, some (25, 1, false)), (6, some (25, 1, false)), (7, none), (8, some (38, 5, true)), (9, none)]
def xf_plain_Book_apartEntries_b3 : XCode := (.seq (rs [om 50 9, o 51 (blj 50 70)] [3, 6, 7, 8, 9, 51]
 (.cond (.s 51) .skip (.exit 6 [3, 6, 7, 8])))
 (.seq (.block 7 (.reg [om 54 8, om 55 7, om 56 8, o 57 (le 56), o 58 (c 159 [55, 57]), o 59 (.bsl 38 5 true 1 l11 [(0, 5, (.s 58))]), o 60 (.app 38 5 48 true (.s 54) (.s 59)), om 8 60] none [3, 6, 7, 8, 9]))
 (.reg [om 52 9, o 53 (baj 52 1), om 9 53] none [3, 6, 7, 8, 9])))
def xf_plain_Book_apartEntries_k2 : List (Nat × Option (Nat × Nat × Bool)) := [(3, some (25, 1, false)), (6, some (25, 1, false)), (7, none)]
def xf_plain_Book_apartEntries_b2 : XCode := (.seq (rs [om 40 7, om 41 3, o 42 (le 41), o 43 (bl 40 42)] [3, 6, 7, 43]
 (.cond (.s 43) .skip (.exit 4 [3, 6])))
 (.seq (.block 5 (rs [om 46 3, om 47 7, o 48 (ia 1 46 47), o 49 (k 48), om 8 49] [3, 6, 7, 8]
 (.seq (rs [o 9 (.mv (j 0))] [3, 6, 7, 8, 9]
 (.block 6 (.loop xf_plain_Book_apartEntries_k3 xf_plain_Book_apartEntries_b3)))
 (.reg [om 61 6, om 62 8, o 63 (.bsl 25 1 false 1 [(.nil 38 5 true)] [(0, 1, (.s 62))]), o 64 (.app 25 1 24 false (.s 61) (.s 63)), om 6 64] none [3, 6, 7]))))
 (.reg [om 44 7, o 45 (baj 44 1), om 7 45] none [3, 6, 7])))
def xf_plain_Book_apartEntries_k5 : List (Nat × Option (Nat × Nat × Bool)) := [(3, some (25, 1, false)), (6, some (25, 1, false)), (10, none), (11, none)]
def xf_plain_Book_apartEntries_b5 : XCode := (.seq (rs [om 71 11, om 72 6, om 73 10, o 74 (ia 1 72 73), o 75 (k 74), o 76 (le 75), o 77 (bl 71 76)] [3, 6, 10, 11, 77]
 (.cond (.s 77) .skip (.exit 10 [3, 6, 10])))
 (.seq (.block 11 (sp (some [(2, 9), (3, 9), (5, 9), (6, 9), (22, 29), (23, 29), (25, 29), (26, 29)]) [am 80 6, am 81 10, a 82 (ia 1 80 81), a 83 (k 82), am 84 11, a 85 (ia 5 83 84), a 86 (l 5 85), am 87 10, am 88 11, a 89 (c 159 [87, 88]), a 90 (.eqv true true [.i, .i, .i, .i, .s] (.s 86) (.s 89)), am 91 90, d 92 (m 11) 91, d 93 (m 3) 91, d 94 (m 10) 91, r 95 (ia 1 93 94) 91, r 96 (k 95) 91, r 97 (le 96) 91, r 98 (bl 92 97) 91, r 99 (m 98) 91, bb 100 3 99, bb 101 10 99, u 102 (ia 1 100 101) 99, u 103 (k 102) 99, bb 104 11 99, u 105 (ia 5 103 104) 99, u 106 (l 5 105) 99, bb 107 10 99, bb 108 11 99, u 109 (c 159 [107, 108]) 99, u 110 (.eqv true true [.i, .i, .i, .i, .s] (.s 106) (.s 109)) 99, r 111 (ka 99 110) 91, a 112 (ko 91 111)] [3, 6, 10, 11, 112]
 (.cond (.s 112) (rs [o 2 (.mv (.c w))] [2]
 (.ret [2])) .skip)))
 (.reg [om 78 11, o 79 (baj 78 1), om 11 79] none [3, 6, 10, 11])))
def xf_plain_Book_apartEntries_k4 : List (Nat × Option (Nat × Nat × Bool)) := [(3, some (25, 1, false)), (6, some (25, 1, false)), (10, none)]
def xf_plain_Book_apartEntries_b4 : XCode := (.seq (rs [om 65 10, om 66 3, o 67 (le 66), o 68 (bl 65 67)] [3, 6, 10, 68]
 (.cond (.s 68) .skip (.exit 8 [])))
 (.seq (.block 9 (rs [o 11 (.mv (j 0))] [3, 6, 10, 11]
 (.block 10 (.loop xf_plain_Book_apartEntries_k5 xf_plain_Book_apartEntries_b5))))
 (.reg [om 69 10, o 70 (baj 69 1), om 10 70] none [3, 6, 10])))
def xf_plain_Book_apartEntries : XFunc := ⟨none, false, 1, [.tmp 2], (rs [o 2 (.mv (.c w))] [0]
 (rs [om 12 0, o 13 (nc 12), of 14 3 13, o 15 (k 14), om 3 15] [3]
 (.seq (rs [o 4 (.mv (j 0))] [3, 4]
 (.block 0 (.loop xf_plain_Book_apartEntries_k0 xf_plain_Book_apartEntries_b0)))
 (rs [o 6 (.mv (.c (.nil 25 1 false)))] [3, 6]
 (.seq (rs [o 7 (.mv (j 0))] [3, 6, 7]
 (.block 4 (.loop xf_plain_Book_apartEntries_k2 xf_plain_Book_apartEntries_b2)))
 (.seq (rs [o 10 (.mv (j 0))] [3, 6, 10]
 (.block 8 (.loop xf_plain_Book_apartEntries_k4 xf_plain_Book_apartEntries_b4)))
 (rs [o 2 (.mv (.c v))] [2]
 (.ret [2]))))))))⟩

def xf_plain_Book_apartCells_k1 : List (Nat × Option (Nat × Nat × Bool)) := [(3, some (235, 1, false)), (4, none), (5, none)]
def xf_plain_Book_apartCells_b1 : XCode := (.seq (rs [om 22 5, om 23 3, om 24 4, o 25 (ia 1 23 24), o 26 (k 25), o 27 (le 26), o 28 (bl 22 27)] [3, 4, 5, 28]
 (.cond (.s 28) .skip (.exit 2 [3, 4])))
 (.seq (.block 3 (.reg [om 31 3, om 32 4, o 33 (ia 1 31 32), o 34 (k 33), om 35 5, om 36 4, om 37 5, o 38 (c 160 [36, 37]), o 39 (ia 2 34 35), p (t 2 39 38)] (some [(2, 7), (3, 7)]) [3, 4, 5]))
 (.reg [om 29 5, o 30 (baj 29 1), om 5 30] none [3, 4, 5])))
def xf_plain_Book_apartCells_k0 : List (Nat × Option (Nat × Nat × Bool)) := [(3, some (235, 1, false)), (4, none)]
def xf_plain_Book_apartCells_b0 : XCode := (.seq (rs [om 16 4, om 17 3, o 18 (le 17), o 19 (bl 16 18)] [3, 4, 19]
 (.cond (.s 19) .skip (.exit 0 [3])))
 (.seq (.block 1 (rs [o 5 (.mv (j 0))] [3, 4, 5]
 (.block 2 (.loop xf_plain_Book_apartCells_k1 xf_plain_Book_apartCells_b1))))
 (.reg [om 20 4, o 21 (baj 20 1), om 4 21] none [3, 4])))
def xf_plain_Book_apartCells_k3 : List (Nat × Option (Nat × Nat × Bool)) := [(3, some (235, 1, false)), (6, some (235, 1, false)), (7, none), (8, some (237, 2, true)), (9, none)]
def xf_plain_Book_apartCells_b3 : XCode := (.seq (rs [om 50 9, o 51 (blj 50 70)] [3, 6, 7, 8, 9, 51]
 (.cond (.s 51) .skip (.exit 6 [3, 6, 7, 8])))
 (.seq (.block 7 (.reg [om 54 8, om 55 7, om 56 8, o 57 (le 56), o 58 (c 160 [55, 57]), o 59 (.bsl 237 2 true 1 [z, x] [(0, 2, (.s 58))]), o 60 (.app 237 2 24 true (.s 54) (.s 59)), om 8 60] none [3, 6, 7, 8, 9]))
 (.reg [om 52 9, o 53 (baj 52 1), om 9 53] none [3, 6, 7, 8, 9])))
def xf_plain_Book_apartCells_k2 : List (Nat × Option (Nat × Nat × Bool)) := [(3, some (235, 1, false)), (6, some (235, 1, false)), (7, none)]
def xf_plain_Book_apartCells_b2 : XCode := (.seq (rs [om 40 7, om 41 3, o 42 (le 41), o 43 (bl 40 42)] [3, 6, 7, 43]
 (.cond (.s 43) .skip (.exit 4 [3, 6])))
 (.seq (.block 5 (rs [om 46 3, om 47 7, o 48 (ia 1 46 47), o 49 (k 48), om 8 49] [3, 6, 7, 8]
 (.seq (rs [o 9 (.mv (j 0))] [3, 6, 7, 8, 9]
 (.block 6 (.loop xf_plain_Book_apartCells_k3 xf_plain_Book_apartCells_b3)))
 (.reg [om 61 6, om 62 8, o 63 (.bsl 235 1 false 1 [(.nil 237 2 true)] [(0, 1, (.s 62))]), o 64 (.app 235 1 24 false (.s 61) (.s 63)), om 6 64] none [3, 6, 7]))))
 (.reg [om 44 7, o 45 (baj 44 1), om 7 45] none [3, 6, 7])))
def xf_plain_Book_apartCells_k5 : List (Nat × Option (Nat × Nat × Bool)) := [(3, some (235, 1, false)), (6, some (235, 1, false)), (10, none), (11, none)]
def xf_plain_Book_apartCells_b5 : XCode := (.seq (rs [om 71 11, om 72 6, om 73 10, o 74 (ia 1 72 73), o 75 (k 74), o 76 (le 75), o 77 (bl 71 76)] [3, 6, 10, 11, 77]
 (.cond (.s 77) .skip (.exit 10 [3, 6, 10])))
 (.seq (.block 11 (sp (some [(2, 9), (3, 9), (5, 9), (6, 9), (22, 29), (23, 29), (25, 29), (26, 29)]) [am 80 6, am 81 10, a 82 (ia 1 80 81), a 83 (k 82), am 84 11, a 85 (ia 2 83 84), a 86 (l 2 85), am 87 10, am 88 11, a 89 (c 160 [87, 88]), a 90 (.eqv true true [.i, .s] (.s 86) (.s 89)), am 91 90, d 92 (m 11) 91, d 93 (m 3) 91, d 94 (m 10) 91, r 95 (ia 1 93 94) 91, r 96 (k 95) 91, r 97 (le 96) 91, r 98 (bl 92 97) 91, r 99 (m 98) 91, bb 100 3 99, bb 101 10 99, u 102 (ia 1 100 101) 99, u 103 (k 102) 99, bb 104 11 99, u 105 (ia 2 103 104) 99, u 106 (l 2 105) 99, bb 107 10 99, bb 108 11 99, u 109 (c 160 [107, 108]) 99, u 110 (.eqv true true [.i, .s] (.s 106) (.s 109)) 99, r 111 (ka 99 110) 91, a 112 (ko 91 111)] [3, 6, 10, 11, 112]
 (.cond (.s 112) (rs [o 2 (.mv (.c w))] [2]
 (.ret [2])) .skip)))
 (.reg [om 78 11, o 79 (baj 78 1), om 11 79] none [3, 6, 10, 11])))
def xf_plain_Book_apartCells_k4 : List (Nat × Option (Nat × Nat × Bool)) := [(3, some (235, 1, false)), (6, some (235, 1, false)), (10, none)]
def xf_plain_Book_apartCells_b4 : XCode := (.seq (rs [om 65 10, om 66 3, o 67 (le 66), o 68 (bl 65 67)] [3, 6, 10, 68]
 (.cond (.s 68) .skip (.exit 8 [])))
 (.seq (.block 9 (rs [o 11 (.mv (j 0))] [3, 6, 10, 11]
 (.block 10 (.loop xf_plain_Book_apartCells_k5 xf_plain_Book_apartCells_b5))))
 (.reg [om 69 10, o 70 (baj 69 1), om 10 70] none [3, 6, 10])))
def xf_plain_Book_apartCells : XFunc := ⟨none, false, 1, [.tmp 2], (rs [o 2 (.mv (.c w))] [0]
 (rs [om 12 0, o 13 (nc 12), of 14 4 13, o 15 (k 14), om 3 15] [3]
 (.seq (rs [o 4 (.mv (j 0))] [3, 4]
 (.block 0 (.loop xf_plain_Book_apartCells_k0 xf_plain_Book_apartCells_b0)))
 (rs [o 6 (.mv (.c (.nil 235 1 false)))] [3, 6]
 (.seq (rs [o 7 (.mv (j 0))] [3, 6, 7]
 (.block 4 (.loop xf_plain_Book_apartCells_k2 xf_plain_Book_apartCells_b2)))
 (.seq (rs [o 10 (.mv (j 0))] [3, 6, 10]
 (.block 8 (.loop xf_plain_Book_apartCells_k4 xf_plain_Book_apartCells_b4)))
 (rs [o 2 (.mv (.c v))] [2]
 (.ret [2]))))))))⟩

def xf_plain_Book_apartRows_k1 : List (Nat × Option (Nat × Nat × Bool)) := [(3, some (155, 1, false)), (4, none), (5, none)]
def xf_plain_Book_apartRows_b1 : XCode := (.seq (rs [om 22 5, om 23 3, om 24 4, o 25 (ia 1 23 24), o 26 (k 25), o 27 (le 26), o 28 (bl 22 27)] [3, 4, 5, 28]
 (.cond (.s 28) .skip (.exit 2 [3, 4])))
 (.seq (.block 3 (.reg [om 31 3, om 32 4, o 33 (ia 1 31 32), o 34 (k 33), om 35 5, om 36 4, om 37 5, o 38 (c 161 [36, 37]), o 39 (ia 7 34 35), p (t 7 39 38)] (some [(2, 7), (3, 7)]) [3, 4, 5]))
 (.reg [om 29 5, o 30 (baj 29 1), om 5 30] none [3, 4, 5])))
def xf_plain_Book_apartRows_k0 : List (Nat × Option (Nat × Nat × Bool)) := [(3, some (155, 1, false)), (4, none)]
def xf_plain_Book_apartRows_b0 : XCode := (.seq (rs [om 16 4, om 17 3, o 18 (le 17), o 19 (bl 16 18)] [3, 4, 19]
 (.cond (.s 19) .skip (.exit 0 [3])))
 (.seq (.block 1 (rs [o 5 (.mv (j 0))] [3, 4, 5]
 (.block 2 (.loop xf_plain_Book_apartRows_k1 xf_plain_Book_apartRows_b1))))
 (.reg [om 20 4, o 21 (baj 20 1), om 4 21] none [3, 4])))
def xf_plain_Book_apartRows_k3 : List (Nat × Option (Nat × Nat × Bool)) := [(3, some (155, 1, false)), (6, some (155, 1, false)), (7, none), (8, some (159, 7, true)), (9, none)]
def xf_plain_Book_apartRows_b3 : XCode := (.seq (rs [om 50 9, o 51 (blj 50 70)] [3, 6, 7, 8, 9, 51]
 (.cond (.s 51) .skip (.exit 6 [3, 6, 7, 8])))
 (.seq (.block 7 (.reg [om 54 8, om 55 7, om 56 8, o 57 (le 56), o 58 (c 161 [55, 57]), o 59 (.bsl 159 7 true 1 l9 [(0, 7, (.s 58))]), o 60 (.app 159 7 64 true (.s 54) (.s 59)), om 8 60] none [3, 6, 7, 8, 9]))
 (.reg [om 52 9, o 53 (baj 52 1), om 9 53] none [3, 6, 7, 8, 9])))
def xf_plain_Book_apartRows_k2 : List (Nat × Option (Nat × Nat × Bool)) := [(3, some (155, 1, false)), (6, some (155, 1, false)), (7, none)]
def xf_plain_Book_apartRows_b2 : XCode := (.seq (rs [om 40 7, om 41 3, o 42 (le 41), o 43 (bl 40 42)] [3, 6, 7, 43]
 (.cond (.s 43) .skip (.exit 4 [3, 6])))
 (.seq (.block 5 (rs [om 46 3, om 47 7, o 48 (ia 1 46 47), o 49 (k 48), om 8 49] [3, 6, 7, 8]
 (.seq (rs [o 9 (.mv (j 0))] [3, 6, 7, 8, 9]
 (.block 6 (.loop xf_plain_Book_apartRows_k3 xf_plain_Book_apartRows_b3)))
 (.reg [om 61 6, om 62 8, o 63 (.bsl 155 1 false 1 [(.nil 159 7 true)] [(0, 1, (.s 62))]), o 64 (.app 155 1 24 false (.s 61) (.s 63)), om 6 64] none [3, 6, 7]))))
 (.reg [om 44 7, o 45 (baj 44 1), om 7 45] none [3, 6, 7])))
def xf_plain_Book_apartRows_k5 : List (Nat × Option (Nat × Nat × Bool)) := [(3, some (155, 1, false)), (6, some (155, 1, false)), (10, none), (11, none)]
def xf_plain_Book_apartRows_b5 : XCode := (.seq (rs [om 71 11, om 72 6, om 73 10, o 74 (ia 1 72 73), o 75 (k 74), o 76 (le 75), o 77 (bl 71 76)] [3, 6, 10, 11, 77]
 (.cond (.s 77) .skip (.exit 10 [3, 6, 10])))
 (.seq (.block 11 (sp (some [(2, 9), (3, 9), (5, 9), (6, 9), (22, 29), (23, 29), (25, 29), (26, 29)]) [am 80 6, am 81 10, a 82 (ia 1 80 81), a 83 (k 82), am 84 11, a 85 (ia 7 83 84), a 86 (l 7 85), am 87 10, am 88 11, a 89 (c 161 [87, 88]), a 90 (.eqv true true [.i, .i, .i, .b, .i, .i, .s] (.s 86) (.s 89)), am 91 90, d 92 (m 11) 91, d 93 (m 3) 91, d 94 (m 10) 91, r 95 (ia 1 93 94) 91, r 96 (k 95) 91, r 97 (le 96) 91, r 98 (bl 92 97) 91, r 99 (m 98) 91, bb 100 3 99, bb 101 10 99, u 102 (ia 1 100 101) 99, u 103 (k 102) 99, bb 104 11 99, u 105 (ia 7 103 104) 99, u 106 (l 7 105) 99, bb 107 10 99, bb 108 11 99, u 109 (c 161 [107, 108]) 99, u 110 (.eqv true true [.i, .i, .i, .b, .i, .i, .s] (.s 106) (.s 109)) 99, r 111 (ka 99 110) 91, a 112 (ko 91 111)] [3, 6, 10, 11, 112]
 (.cond (.s 112) (rs [o 2 (.mv (.c w))] [2]
 (.ret [2])) .skip)))
 (.reg [om 78 11, o 79 (baj 78 1), om 11 79] none [3, 6, 10, 11])))
def xf_plain_Book_apartRows_k4 : List (Nat × Option (Nat × Nat × Bool)) := [(3, some (155, 1, false)), (6, some (155, 1, false)), (10, none)]
def xf_plain_Book_apartRows_b4 : XCode := (.seq (rs [om 65 10, om 66 3, o 67 (le 66), o 68 (bl 65 67)] [3, 6, 10, 68]
 (.cond (.s 68) .skip (.exit 8 [])))
 (.seq (.block 9 (rs [o 11 (.mv (j 0))] [3, 6, 10, 11]
 (.block 10 (.loop xf_plain_Book_apartRows_k5 xf_plain_Book_apartRows_b5))))
 (.reg [om 69 10, o 70 (baj 69 1), om 10 70] none [3, 6, 10])))
def xf_plain_Book_apartRows : XFunc := ⟨none, false, 1, [.tmp 2], (rs [o 2 (.mv (.c w))] [0]
 (rs [om 12 0, o 13 (nc 12), of 14 5 13, o 15 (k 14), om 3 15] [3]
 (.seq (rs [o 4 (.mv (j 0))] [3, 4]
 (.block 0 (.loop xf_plain_Book_apartRows_k0 xf_plain_Book_apartRows_b0)))
 (rs [o 6 (.mv (.c (.nil 155 1 false)))] [3, 6]
 (.seq (rs [o 7 (.mv (j 0))] [3, 6, 7]
 (.block 4 (.loop xf_plain_Book_apartRows_k2 xf_plain_Book_apartRows_b2)))
 (.seq (rs [o 10 (.mv (j 0))] [3, 6, 10]
 (.block 8 (.loop xf_plain_Book_apartRows_k4 xf_plain_Book_apartRows_b4)))
 (rs [o 2 (.mv (.c v))] [2]
 (.ret [2]))))))))⟩

def xf_plain_Book_apartResults_k1 : List (Nat × Option (Nat × Nat × Bool)) := [(3, some (240, 1, false)), (4, none), (5, none)]
def xf_plain_Book_apartResults_b1 : XCode := (.seq (rs [om 22 5, om 23 3, om 24 4, o 25 (ia 1 23 24), o 26 (k 25), o 27 (le 26), o 28 (bl 22 27)] [3, 4, 5, 28]
 (.cond (.s 28) .skip (.exit 2 [3, 4])))
 (.seq (.block 3 (.reg [om 31 3, om 32 4, o 33 (ia 1 31 32), o 34 (k 33), om 35 5, om 36 4, om 37 5, o 38 (c 162 [36, 37]), o 39 (ia 3 34 35), p (t 3 39 38)] (some [(2, 7), (3, 7)]) [3, 4, 5]))
 (.reg [om 29 5, o 30 (baj 29 1), om 5 30] none [3, 4, 5])))
def xf_plain_Book_apartResults_k0 : List (Nat × Option (Nat × Nat × Bool)) := [(3, some (240, 1, false)), (4, none)]
def xf_plain_Book_apartResults_b0 : XCode := (.seq (rs [om 16 4, om 17 3, o 18 (le 17), o 19 (bl 16 18)] [3, 4, 19]
 (.cond (.s 19) .skip (.exit 0 [3])))
 (.seq (.block 1 (rs [o 5 (.mv (j 0))] [3, 4, 5]
 (.block 2 (.loop xf_plain_Book_apartResults_k1 xf_plain_Book_apartResults_b1))))
 (.reg [om 20 4, o 21 (baj 20 1), om 4 21] none [3, 4])))
def xf_plain_Book_apartResults_k3 : List (Nat × Option (Nat × Nat × Bool)) := [(3, some (240, 1, false)), (6, some (240, 1, false)), (7, none), (8, some (40, 3, true)), (9, none)]
def xf_plain_Book_apartResults_b3 : XCode := (.seq (rs [om 50 9, o 51 (blj 50 70)] [3, 6, 7, 8, 9, 51]
 (.cond (.s 51) .skip (.exit 6 [3, 6, 7, 8])))
 (.seq (.block 7 (.reg [om 54 8, om 55 7, om 56 8, o 57 (le 56), o 58 (c 162 [55, 57]), o 59 (.bsl 40 3 true 1 l7 [(0, 3, (.s 58))]), o 60 (.app 40 3 32 true (.s 54) (.s 59)), om 8 60] none [3, 6, 7, 8, 9]))
 (.reg [om 52 9, o 53 (baj 52 1), om 9 53] none [3, 6, 7, 8, 9])))
def xf_plain_Book_apartResults_k2 : List (Nat × Option (Nat × Nat × Bool)) := [(3, some (240, 1, false)), (6, some (240, 1, false)), (7, none)]
def xf_plain_Book_apartResults_b2 : XCode := (.seq (rs [om 40 7, om 41 3, o 42 (le 41), o 43 (bl 40 42)] [3, 6, 7, 43]
 (.cond (.s 43) .skip (.exit 4 [3, 6])))
 (.seq (.block 5 (rs [om 46 3, om 47 7, o 48 (ia 1 46 47), o 49 (k 48), om 8 49] [3, 6, 7, 8]
 (.seq (rs [o 9 (.mv (j 0))] [3, 6, 7, 8, 9]
 (.block 6 (.loop xf_plain_Book_apartResults_k3 xf_plain_Book_apartResults_b3)))
 (.reg [om 61 6, om 62 8, o 63 (.bsl 240 1 false 1 [(.nil 40 3 true)] [(0, 1, (.s 62))]), o 64 (.app 240 1 24 false (.s 61) (.s 63)), om 6 64] none [3, 6, 7]))))
 (.reg [om 44 7, o 45 (baj 44 1), om 7 45] none [3, 6, 7])))
def xf_plain_Book_apartResults_k5 : List (Nat × Option (Nat × Nat × Bool)) := [(3, some (240, 1, false)), (6, some (240, 1, false)), (10, none), (11, none)]
def xf_plain_Book_apartResults_b5 : XCode := (.seq (rs [om 71 11, om 72 6, om 73 10, o 74 (ia 1 72 73), o 75 (k 74), o 76 (le 75), o 77 (bl 71 76)] [3, 6, 10, 11, 77]
 (.cond (.s 77) .skip (.exit 10 [3, 6, 10])))
 (.seq (.block 11 (sp (some [(2, 9), (3, 9), (5, 9), (6, 9), (22, 29), (23, 29), (25, 29), (26, 29)]) [am 80 6, am 81 10, a 82 (ia 1 80 81), a 83 (k 82), am 84 11, a 85 (ia 3 83 84), a 86 (l 3 85), am 87 10, am 88 11, a 89 (c 162 [87, 88]), a 90 (.eqv true true [.i, .i, .s] (.s 86) (.s 89)), am 91 90, d 92 (m 11) 91, d 93 (m 3) 91, d 94 (m 10) 91, r 95 (ia 1 93 94) 91, r 96 (k 95) 91, r 97 (le 96) 91, r 98 (bl 92 97) 91, r 99 (m 98) 91, bb 100 3 99, bb 101 10 99, u 102 (ia 1 100 101) 99, u 103 (k 102) 99, bb 104 11 99, u 105 (ia 3 103 104) 99, u 106 (l 3 105) 99, bb 107 10 99, bb 108 11 99, u 109 (c 162 [107, 108]) 99, u 110 (.eqv true true [.i, .i, .s] (.s 106) (.s 109)) 99, r 111 (ka 99 110) 91, a 112 (ko 91 111)] [3, 6, 10, 11, 112]
 (.cond (.s 112) (rs [o 2 (.mv (.c w))] [2]
 (.ret [2])) .skip)))
 (.reg [om 78 11, o 79 (baj 78 1), om 11 79] none [3, 6, 10, 11])))
def xf_plain_Book_apartResults_k4 : List (Nat × Option (Nat × Nat × Bool)) := [(3, some (240, 1, false)), (6, some (240, 1, false)), (10, none)]
def xf_plain_Book_apartResults_b4 : XCode := (.seq (rs [om 65 10, om 66 3, o 67 (le 66), o 68 (bl 65 67)] [3, 6, 10, 68]
 (.cond (.s 68) .skip (.exit 8 [])))
 (.seq (.block 9 (rs [o 11 (.mv (j 0))] [3, 6, 10, 11]
 (.block 10 (.loop xf_plain_Book_apartResults_k5 xf_plain_Book_apartResults_b5))))
 (.reg [om 69 10, o 70 (baj 69 1), om 10 70] none [3, 6, 10])))
def xf_plain_Book_apartResults : XFunc := ⟨none, false, 1, [.tmp 2], (rs [o 2 (.mv (.c w))] [0]
 (rs [om 12 0, o 13 (nc 12), of 14 6 13, o 15 (k 14), om 3 15] [3]
 (.seq (rs [o 4 (.mv (j 0))] [3, 4]
 (.block 0 (.loop xf_plain_Book_apartResults_k0 xf_plain_Book_apartResults_b0)))
 (rs [o 6 (.mv (.c (.nil 240 1 false)))] [3, 6]
 (.seq (rs [o 7 (.mv (j 0))] [3, 6, 7]
 (.block 4 (.loop xf_plain_Book_apartResults_k2 xf_plain_Book_apartResults_b2)))
 (.seq (rs [o 10 (.mv (j 0))] [3, 6, 10]
 (.block 8 (.loop xf_plain_Book_apartResults_k4 xf_plain_Book_apartResults_b4)))
 (rs [o 2 (.mv (.c v))] [2]
 (.ret [2]))))))))⟩

def xf_plain_Book_apartStamps_k1 : List (Nat × Option (Nat × Nat × Bool)) := [(3, some (242, 1, false)), (4, none), (5, none)]
def xf_plain_Book_apartStamps_b1 : XCode := (.seq (rs [om 22 5, om 23 3, om 24 4, o 25 (ia 1 23 24), o 26 (k 25), o 27 (le 26), o 28 (bl 22 27)] [3, 4, 5, 28]
 (.cond (.s 28) .skip (.exit 2 [3, 4])))
 (.seq (.block 3 (.reg [om 31 3, om 32 4, o 33 (ia 1 31 32), o 34 (k 33), om 35 5, om 36 4, om 37 5, o 38 (c 163 [36, 37]), o 39 (ia 3 34 35), p (t 3 39 38)] (some [(2, 7), (3, 7)]) [3, 4, 5]))
 (.reg [om 29 5, o 30 (baj 29 1), om 5 30] none [3, 4, 5])))
def xf_plain_Book_apartStamps_k0 : List (Nat × Option (Nat × Nat × Bool)) := [(3, some (242, 1, false)), (4, none)]
def xf_plain_Book_apartStamps_b0 : XCode := (.seq (rs [om 16 4, om 17 3, o 18 (le 17), o 19 (bl 16 18)] [3, 4, 19]
 (.cond (.s 19) .skip (.exit 0 [3])))
 (.seq (.block 1 (rs [o 5 (.mv (j 0))] [3, 4, 5]
 (.block 2 (.loop xf_plain_Book_apartStamps_k1 xf_plain_Book_apartStamps_b1))))
 (.reg [om 20 4, o 21 (baj 20 1), om 4 21] none [3, 4])))
def xf_plain_Book_apartStamps_k3 : List (Nat × Option (Nat × Nat × Bool)) := [(3, some (242, 1, false)), (6, some (242, 1, false)), (7, none), (8, some (243, 3, true)), (9, none)]
def xf_plain_Book_apartStamps_b3 : XCode := (.seq (rs [om 50 9, o 51 (blj 50 70)] [3, 6, 7, 8, 9, 51]
 (.cond (.s 51) .skip (.exit 6 [3, 6, 7, 8])))
 (.seq (.block 7 (.reg [om 54 8, om 55 7, om 56 8, o 57 (le 56), o 58 (c 163 [55, 57]), o 59 (.bsl 243 3 true 1 l8 [(0, 3, (.s 58))]), o 60 (.app 243 3 24 true (.s 54) (.s 59)), om 8 60] none [3, 6, 7, 8, 9]))
 (.reg [om 52 9, o 53 (baj 52 1), om 9 53] none [3, 6, 7, 8, 9])))
def xf_plain_Book_apartStamps_k2 : List (Nat × Option (Nat × Nat × Bool)) := [(3, some (242, 1, false)), (6, some (242, 1, false)), (7, none)]
def xf_plain_Book_apartStamps_b2 : XCode := (.seq (rs [om 40 7, om 41 3, o 42 (le 41), o 43 (bl 40 42)] [3, 6, 7, 43]
 (.cond (.s 43) .skip (.exit 4 [3, 6])))
 (.seq (.block 5 (rs [om 46 3, om 47 7, o 48 (ia 1 46 47), o 49 (k 48), om 8 49] [3, 6, 7, 8]
 (.seq (rs [o 9 (.mv (j 0))] [3, 6, 7, 8, 9]
 (.block 6 (.loop xf_plain_Book_apartStamps_k3 xf_plain_Book_apartStamps_b3)))
 (.reg [om 61 6, om 62 8, o 63 (.bsl 242 1 false 1 [(.nil 243 3 true)] [(0, 1, (.s 62))]), o 64 (.app 242 1 24 false (.s 61) (.s 63)), om 6 64] none [3, 6, 7]))))
 (.reg [om 44 7, o 45 (baj 44 1), om 7 45] none [3, 6, 7])))
def xf_plain_Book_apartStamps_k5 : List (Nat × Option (Nat × Nat × Bool)) := [(3, some (242, 1, false)), (6, some (242, 1, false)), (10, none), (11, none)]
def xf_plain_Book_apartStamps_b5 : XCode := (.seq (rs [om 71 11, om 72 6, om 73 10, o 74 (ia 1 72 73), o 75 (k 74), o 76 (le 75), o 77 (bl 71 76)] [3, 6, 10, 11, 77]
 (.cond (.s 77) .skip (.exit 10 [3, 6, 10])))
 (.seq (.block 11 (sp (some [(2, 9), (3, 9), (5, 9), (6, 9), (22, 29), (23, 29), (25, 29), (26, 29)]) [am 80 6, am 81 10, a 82 (ia 1 80 81), a 83 (k 82), am 84 11, a 85 (ia 3 83 84), a 86 (l 3 85), am 87 10, am 88 11, a 89 (c 163 [87, 88]), a 90 (.eqv true true [.i, .i, .i] (.s 86) (.s 89)), am 91 90, d 92 (m 11) 91, d 93 (m 3) 91, d 94 (m 10) 91, r 95 (ia 1 93 94) 91, r 96 (k 95) 91, r 97 (le 96) 91, r 98 (bl 92 97) 91, r 99 (m 98) 91, bb 100 3 99, bb 101 10 99, u 102 (ia 1 100 101) 99, u 103 (k 102) 99, bb 104 11 99, u 105 (ia 3 103 104) 99, u 106 (l 3 105) 99, bb 107 10 99, bb 108 11 99, u 109 (c 163 [107, 108]) 99, u 110 (.eqv true true [.i, .i, .i] (.s 106) (.s 109)) 99, r 111 (ka 99 110) 91, a 112 (ko 91 111)] [3, 6, 10, 11, 112]
 (.cond (.s 112) (rs [o 2 (.mv (.c w))] [2]
 (.ret [2])) .skip)))
 (.reg [om 78 11, o 79 (baj 78 1), om 11 79] none [3, 6, 10, 11])))
def xf_plain_Book_apartStamps_k4 : List (Nat × Option (Nat × Nat × Bool)) := [(3, some (242, 1, false)), (6, some (242, 1, false)), (10, none)]
def xf_plain_Book_apartStamps_b4 : XCode := (.seq (rs [om 65 10, om 66 3, o 67 (le 66), o 68 (bl 65 67)] [3, 6, 10, 68]
 (.cond (.s 68) .skip (.exit 8 [])))
 (.seq (.block 9 (rs [o 11 (.mv (j 0))] [3, 6, 10, 11]
 (.block 10 (.loop xf_plain_Book_apartStamps_k5 xf_plain_Book_apartStamps_b5))))
 (.reg [om 69 10, o 70 (baj 69 1), om 10 70] none [3, 6, 10])))
def xf_plain_Book_apartStamps : XFunc := ⟨none, false, 1, [.tmp 2], (rs [o 2 (.mv (.c w))] [0]
 (rs [om 12 0, o 13 (nc 12), of 14 7 13, o 15 (k 14), om 3 15] [3]
 (.seq (rs [o 4 (.mv (j 0))] [3, 4]
 (.block 0 (.loop xf_plain_Book_apartStamps_k0 xf_plain_Book_apartStamps_b0)))
 (rs [o 6 (.mv (.c (.nil 242 1 false)))] [3, 6]
 (.seq (rs [o 7 (.mv (j 0))] [3, 6, 7]
 (.block 4 (.loop xf_plain_Book_apartStamps_k2 xf_plain_Book_apartStamps_b2)))
 (.seq (rs [o 10 (.mv (j 0))] [3, 6, 10]
 (.block 8 (.loop xf_plain_Book_apartStamps_k4 xf_plain_Book_apartStamps_b4)))
 (rs [o 2 (.mv (.c v))] [2]
 (.ret [2]))))))))⟩

def xf_plain_Book_apartAcks_k1 : List (Nat × Option (Nat × Nat × Bool)) := [(3, some (28, 1, false)), (4, none), (5, none)]
def xf_plain_Book_apartAcks_b1 : XCode := (.seq (rs [om 22 5, om 23 3, om 24 4, o 25 (ia 1 23 24), o 26 (k 25), o 27 (le 26), o 28 (bl 22 27)] [3, 4, 5, 28]
 (.cond (.s 28) .skip (.exit 2 [3, 4])))
 (.seq (.block 3 (.reg [om 31 3, om 32 4, o 33 (ia 1 31 32), o 34 (k 33), om 35 5, om 36 4, om 37 5, o 38 (c 164 [36, 37]), o 39 (ia 4 34 35), p (t 4 39 38)] (some [(2, 7), (3, 7)]) [3, 4, 5]))
 (.reg [om 29 5, o 30 (baj 29 1), om 5 30] none [3, 4, 5])))
def xf_plain_Book_apartAcks_k0 : List (Nat × Option (Nat × Nat × Bool)) := [(3, some (28, 1, false)), (4, none)]
def xf_plain_Book_apartAcks_b0 : XCode := (.seq (rs [om 16 4, om 17 3, o 18 (le 17), o 19 (bl 16 18)] [3, 4, 19]
 (.cond (.s 19) .skip (.exit 0 [3])))
 (.seq (.block 1 (rs [o 5 (.mv (j 0))] [3, 4, 5]
 (.block 2 (.loop xf_plain_Book_apartAcks_k1 xf_plain_Book_apartAcks_b1))))
 (.reg [om 20 4, o 21 (baj 20 1), om 4 21] none [3, 4])))
def xf_plain_Book_apartAcks_k3 : List (Nat × Option (Nat × Nat × Bool)) := [(3, some (28, 1, false)), (6, some (28, 1, false)), (7, none), (8, some (67, 4, true)), (9, none)]
def xf_plain_Book_apartAcks_b3 : XCode := (.seq (rs [om 50 9, o 51 (blj 50 70)] [3, 6, 7, 8, 9, 51]
 (.cond (.s 51) .skip (.exit 6 [3, 6, 7, 8])))
 (.seq (.block 7 (.reg [om 54 8, om 55 7, om 56 8, o 57 (le 56), o 58 (c 164 [55, 57]), o 59 (.bsl 67 4 true 1 l10 [(0, 4, (.s 58))]), o 60 (.app 67 4 32 true (.s 54) (.s 59)), om 8 60] none [3, 6, 7, 8, 9]))
 (.reg [om 52 9, o 53 (baj 52 1), om 9 53] none [3, 6, 7, 8, 9])))
def xf_plain_Book_apartAcks_k2 : List (Nat × Option (Nat × Nat × Bool)) := [(3, some (28, 1, false)), (6, some (28, 1, false)), (7, none)]
def xf_plain_Book_apartAcks_b2 : XCode := (.seq (rs [om 40 7, om 41 3, o 42 (le 41), o 43 (bl 40 42)] [3, 6, 7, 43]
 (.cond (.s 43) .skip (.exit 4 [3, 6])))
 (.seq (.block 5 (rs [om 46 3, om 47 7, o 48 (ia 1 46 47), o 49 (k 48), om 8 49] [3, 6, 7, 8]
 (.seq (rs [o 9 (.mv (j 0))] [3, 6, 7, 8, 9]
 (.block 6 (.loop xf_plain_Book_apartAcks_k3 xf_plain_Book_apartAcks_b3)))
 (.reg [om 61 6, om 62 8, o 63 (.bsl 28 1 false 1 [(.nil 67 4 true)] [(0, 1, (.s 62))]), o 64 (.app 28 1 24 false (.s 61) (.s 63)), om 6 64] none [3, 6, 7]))))
 (.reg [om 44 7, o 45 (baj 44 1), om 7 45] none [3, 6, 7])))
def xf_plain_Book_apartAcks_k5 : List (Nat × Option (Nat × Nat × Bool)) := [(3, some (28, 1, false)), (6, some (28, 1, false)), (10, none), (11, none)]
def xf_plain_Book_apartAcks_b5 : XCode := (.seq (rs [om 71 11, om 72 6, om 73 10, o 74 (ia 1 72 73), o 75 (k 74), o 76 (le 75), o 77 (bl 71 76)] [3, 6, 10, 11, 77]
 (.cond (.s 77) .skip (.exit 10 [3, 6, 10])))
 (.seq (.block 11 (sp (some [(2, 9), (3, 9), (5, 9), (6, 9), (22, 29), (23, 29), (25, 29), (26, 29)]) [am 80 6, am 81 10, a 82 (ia 1 80 81), a 83 (k 82), am 84 11, a 85 (ia 4 83 84), a 86 (l 4 85), am 87 10, am 88 11, a 89 (c 164 [87, 88]), a 90 (.eqv true true [.i, .i, .i, .i] (.s 86) (.s 89)), am 91 90, d 92 (m 11) 91, d 93 (m 3) 91, d 94 (m 10) 91, r 95 (ia 1 93 94) 91, r 96 (k 95) 91, r 97 (le 96) 91, r 98 (bl 92 97) 91, r 99 (m 98) 91, bb 100 3 99, bb 101 10 99, u 102 (ia 1 100 101) 99, u 103 (k 102) 99, bb 104 11 99, u 105 (ia 4 103 104) 99, u 106 (l 4 105) 99, bb 107 10 99, bb 108 11 99, u 109 (c 164 [107, 108]) 99, u 110 (.eqv true true [.i, .i, .i, .i] (.s 106) (.s 109)) 99, r 111 (ka 99 110) 91, a 112 (ko 91 111)] [3, 6, 10, 11, 112]
 (.cond (.s 112) (rs [o 2 (.mv (.c w))] [2]
 (.ret [2])) .skip)))
 (.reg [om 78 11, o 79 (baj 78 1), om 11 79] none [3, 6, 10, 11])))
def xf_plain_Book_apartAcks_k4 : List (Nat × Option (Nat × Nat × Bool)) := [(3, some (28, 1, false)), (6, some (28, 1, false)), (10, none)]
def xf_plain_Book_apartAcks_b4 : XCode := (.seq (rs [om 65 10, om 66 3, o 67 (le 66), o 68 (bl 65 67)] [3, 6, 10, 68]
 (.cond (.s 68) .skip (.exit 8 [])))
 (.seq (.block 9 (rs [o 11 (.mv (j 0))] [3, 6, 10, 11]
 (.block 10 (.loop xf_plain_Book_apartAcks_k5 xf_plain_Book_apartAcks_b5))))
 (.reg [om 69 10, o 70 (baj 69 1), om 10 70] none [3, 6, 10])))
def xf_plain_Book_apartAcks : XFunc := ⟨none, false, 1, [.tmp 2], (rs [o 2 (.mv (.c w))] [0]
 (rs [om 12 0, o 13 (nc 12), of 14 8 13, o 15 (k 14), om 3 15] [3]
 (.seq (rs [o 4 (.mv (j 0))] [3, 4]
 (.block 0 (.loop xf_plain_Book_apartAcks_k0 xf_plain_Book_apartAcks_b0)))
 (rs [o 6 (.mv (.c (.nil 28 1 false)))] [3, 6]
 (.seq (rs [o 7 (.mv (j 0))] [3, 6, 7]
 (.block 4 (.loop xf_plain_Book_apartAcks_k2 xf_plain_Book_apartAcks_b2)))
 (.seq (rs [o 10 (.mv (j 0))] [3, 6, 10]
 (.block 8 (.loop xf_plain_Book_apartAcks_k4 xf_plain_Book_apartAcks_b4)))
 (rs [o 2 (.mv (.c v))] [2]
 (.ret [2]))))))))⟩

def xf_plain_Book_apartMarks_k1 : List (Nat × Option (Nat × Nat × Bool)) := [(3, some (29, 1, false)), (4, none), (5, none)]
def xf_plain_Book_apartMarks_b1 : XCode := (.seq (rs [om 22 5, om 23 3, om 24 4, o 25 (ia 1 23 24), o 26 (k 25), o 27 (le 26), o 28 (bl 22 27)] [3, 4, 5, 28]
 (.cond (.s 28) .skip (.exit 2 [3, 4])))
 (.seq (.block 3 (.reg [om 31 3, om 32 4, o 33 (ia 1 31 32), o 34 (k 33), om 35 5, om 36 4, om 37 5, o 38 (c 165 [36, 37]), o 39 (ia 3 34 35), p (t 3 39 38)] (some [(2, 7), (3, 7)]) [3, 4, 5]))
 (.reg [om 29 5, o 30 (baj 29 1), om 5 30] none [3, 4, 5])))
def xf_plain_Book_apartMarks_k0 : List (Nat × Option (Nat × Nat × Bool)) := [(3, some (29, 1, false)), (4, none)]
def xf_plain_Book_apartMarks_b0 : XCode := (.seq (rs [om 16 4, om 17 3, o 18 (le 17), o 19 (bl 16 18)] [3, 4, 19]
 (.cond (.s 19) .skip (.exit 0 [3])))
 (.seq (.block 1 (rs [o 5 (.mv (j 0))] [3, 4, 5]
 (.block 2 (.loop xf_plain_Book_apartMarks_k1 xf_plain_Book_apartMarks_b1))))
 (.reg [om 20 4, o 21 (baj 20 1), om 4 21] none [3, 4])))
def xf_plain_Book_apartMarks_k3 : List (Nat × Option (Nat × Nat × Bool)) := [(3, some (29, 1, false)), (6, some (29, 1, false)), (7, none), (8, some (69, 3, true)), (9, none)]
def xf_plain_Book_apartMarks_b3 : XCode := (.seq (rs [om 50 9, o 51 (blj 50 70)] [3, 6, 7, 8, 9, 51]
 (.cond (.s 51) .skip (.exit 6 [3, 6, 7, 8])))
 (.seq (.block 7 (.reg [om 54 8, om 55 7, om 56 8, o 57 (le 56), o 58 (c 165 [55, 57]), o 59 (.bsl 69 3 true 1 l8 [(0, 3, (.s 58))]), o 60 (.app 69 3 24 true (.s 54) (.s 59)), om 8 60] none [3, 6, 7, 8, 9]))
 (.reg [om 52 9, o 53 (baj 52 1), om 9 53] none [3, 6, 7, 8, 9])))
def xf_plain_Book_apartMarks_k2 : List (Nat × Option (Nat × Nat × Bool)) := [(3, some (29, 1, false)), (6, some (29, 1, false)), (7, none)]
def xf_plain_Book_apartMarks_b2 : XCode := (.seq (rs [om 40 7, om 41 3, o 42 (le 41), o 43 (bl 40 42)] [3, 6, 7, 43]
 (.cond (.s 43) .skip (.exit 4 [3, 6])))
 (.seq (.block 5 (rs [om 46 3, om 47 7, o 48 (ia 1 46 47), o 49 (k 48), om 8 49] [3, 6, 7, 8]
 (.seq (rs [o 9 (.mv (j 0))] [3, 6, 7, 8, 9]
 (.block 6 (.loop xf_plain_Book_apartMarks_k3 xf_plain_Book_apartMarks_b3)))
 (.reg [om 61 6, om 62 8, o 63 (.bsl 29 1 false 1 [(.nil 69 3 true)] [(0, 1, (.s 62))]), o 64 (.app 29 1 24 false (.s 61) (.s 63)), om 6 64] none [3, 6, 7]))))
 (.reg [om 44 7, o 45 (baj 44 1), om 7 45] none [3, 6, 7])))
def xf_plain_Book_apartMarks_k5 : List (Nat × Option (Nat × Nat × Bool)) := [(3, some (29, 1, false)), (6, some (29, 1, false)), (10, none), (11, none)]
def xf_plain_Book_apartMarks_b5 : XCode := (.seq (rs [om 71 11, om 72 6, om 73 10, o 74 (ia 1 72 73), o 75 (k 74), o 76 (le 75), o 77 (bl 71 76)] [3, 6, 10, 11, 77]
 (.cond (.s 77) .skip (.exit 10 [3, 6, 10])))
 (.seq (.block 11 (sp (some [(2, 9), (3, 9), (5, 9), (6, 9), (22, 29), (23, 29), (25, 29), (26, 29)]) [am 80 6, am 81 10, a 82 (ia 1 80 81), a 83 (k 82), am 84 11, a 85 (ia 3 83 84), a 86 (l 3 85), am 87 10, am 88 11, a 89 (c 165 [87, 88]), a 90 (.eqv true true [.i, .i, .i] (.s 86) (.s 89)), am 91 90, d 92 (m 11) 91, d 93 (m 3) 91, d 94 (m 10) 91, r 95 (ia 1 93 94) 91, r 96 (k 95) 91, r 97 (le 96) 91, r 98 (bl 92 97) 91, r 99 (m 98) 91, bb 100 3 99, bb 101 10 99, u 102 (ia 1 100 101) 99, u 103 (k 102) 99, bb 104 11 99, u 105 (ia 3 103 104) 99, u 106 (l 3 105) 99, bb 107 10 99, bb 108 11 99, u 109 (c 165 [107, 108]) 99, u 110 (.eqv true true [.i, .i, .i] (.s 106) (.s 109)) 99, r 111 (ka 99 110) 91, a 112 (ko 91 111)] [3, 6, 10, 11, 112]
 (.cond (.s 112) (rs [o 2 (.mv (.c w))] [2]
 (.ret [2])) .skip)))
 (.reg [om 78 11, o 79 (baj 78 1), om 11 79] none [3, 6, 10, 11])))
def xf_plain_Book_apartMarks_k4 : List (Nat × Option (Nat × Nat × Bool)) := [(3, some (29, 1, false)), (6, some (29, 1, false)), (10, none)]
def xf_plain_Book_apartMarks_b4 : XCode := (.seq (rs [om 65 10, om 66 3, o 67 (le 66), o 68 (bl 65 67)] [3, 6, 10, 68]
 (.cond (.s 68) .skip (.exit 8 [])))
 (.seq (.block 9 (rs [o 11 (.mv (j 0))] [3, 6, 10, 11]
 (.block 10 (.loop xf_plain_Book_apartMarks_k5 xf_plain_Book_apartMarks_b5))))
 (.reg [om 69 10, o 70 (baj 69 1), om 10 70] none [3, 6, 10])))
def xf_plain_Book_apartMarks : XFunc := ⟨none, false, 1, [.tmp 2], (rs [o 2 (.mv (.c w))] [0]
 (rs [om 12 0, o 13 (nc 12), of 14 9 13, o 15 (k 14), om 3 15] [3]
 (.seq (rs [o 4 (.mv (j 0))] [3, 4]
 (.block 0 (.loop xf_plain_Book_apartMarks_k0 xf_plain_Book_apartMarks_b0)))
 (rs [o 6 (.mv (.c (.nil 29 1 false)))] [3, 6]
 (.seq (rs [o 7 (.mv (j 0))] [3, 6, 7]
 (.block 4 (.loop xf_plain_Book_apartMarks_k2 xf_plain_Book_apartMarks_b2)))
 (.seq (rs [o 10 (.mv (j 0))] [3, 6, 10]
 (.block 8 (.loop xf_plain_Book_apartMarks_k4 xf_plain_Book_apartMarks_b4)))
 (rs [o 2 (.mv (.c v))] [2]
 (.ret [2]))))))))⟩

def xf_ref09_Primary : XFunc := ⟨none, true, 2, [.tmp 4], (rs [o 2 (bx 0), o 4 (.mv (j 0))] [1, 2]
 (.seq (ss [a 5 (l 4 2), a 6 (c 63 [5]), a 7 (nj 6 0), am 8 7, d 9 (m 1) 8, d 10 (blj 9 0) 8, a 11 (ko 8 10), am 12 11, d 13 (m 1) 12, d 14 (bgj 13 4294967296) 12, a 15 (ko 12 14)] [1, 2, 15]
 (.cond (.s 15) (rs [o 4 (.mv (j (-1)))] [4]
 (.ret [4])) .skip))
 (rs [om 16 1, ol 17 4 2, o 18 (c 89 [17]), o 19 (.bin .rem (.s 16) (.s 18)), om 4 19] [4]
 (.ret [4]))))⟩

def xf_ref05_Between_k0 : List (Nat × Option (Nat × Nat × Bool)) := [(0, none), (2, none), (9, some (40, 3, true)), (10, some (159, 7, true)), (11, none)]
def xf_ref05_Between_b0 : XCode := (.seq (rs [om 46 11, om 47 2, o 48 (bm 46 47)] [0, 2, 9, 10, 11, 48]
 (.cond (.s 48) .skip (.exit 0 [10])))
 (.seq (.block 1 (rs [om 51 0, om 52 11, o 53 (.call (fc 167) [(.s 51), (.s 52), (.c w)]), o 12 (.alloc l9), p (t 7 12 53)] [0, 2, 9, 10, 11, 12]
 (rs [of 54 3 12, p (.store 1 (.s 54) (.c v))] [0, 2, 9, 10, 11, 12]
 (rs [om 55 9, om 56 11, o 57 (bsj 56 1), o 58 (ia 3 55 57), ol 59 3 58, of 60 4 12, p (t 3 60 59)] [0, 2, 9, 10, 11, 12]
 (.reg [om 61 10, ol 62 7 12, o 63 (.bsl 159 7 true 1 l9 [(0, 7, (.s 62))]), o 64 (.app 159 7 64 true (.s 61) (.s 63)), om 10 64] none [0, 2, 9, 10, 11])))))
 (.reg [om 49 11, o 50 (baj 49 1), om 11 50] none [0, 2, 9, 10, 11])))
def xf_ref05_Between : XFunc := ⟨none, true, 3, [.tmp 6, .tmp 7], (rs [o 6 (.mv (.c (.nil 159 7 true))), o 7 (.mv (j 0))] [0, 1, 2]
 (rs [om 13 0, o 14 (.call (fc 150) [(.s 13), (j 256)]), om 8 14] [0, 1, 2, 8]
 (.seq (rs [om 15 8, o 16 (nj 15 0)] [0, 1, 2, 8, 16]
 (.cond (.s 16) (rs [om 17 8, o 6 (.mv (.c (.nil 159 7 true))), om 7 17] [6, 7]
 (.ret [6, 7])) .skip))
 (.seq (ss [am 18 1, a 19 (blj 18 0), am 20 19, d 21 (m 1) 20, d 22 (m 0) 20, d 23 (le 22) 20, d 24 (bg 21 23) 20, a 25 (ko 20 24), am 26 25, d 27 (m 2) 26, d 28 (blj 27 0) 26, a 29 (ko 26 28), am 30 29, d 31 (m 2) 30, d 32 (m 0) 30, d 33 (le 32) 30, d 34 (bg 31 33) 30, a 35 (ko 30 34), am 36 35, d 37 (m 1) 36, d 38 (m 2) 36, d 39 (bg 37 38) 36, a 40 (ko 36 39)] [0, 1, 2, 40]
 (.cond (.s 40) (rs [o 6 (.mv (.c (.nil 159 7 true))), o 7 (.mv (j 50))] [6, 7]
 (.ret [6, 7])) .skip))
 (rs [om 41 0, om 42 2, o 43 (c 166 [41, 42]), om 9 43] [0, 1, 2, 9]
 (rs [o 10 (.mv (.c (.nil 159 7 true)))] [0, 1, 2, 9, 10]
 (.seq (rs [om 44 1, o 45 (baj 44 1), om 11 45] [0, 2, 9, 10, 11]
 (.block 0 (.loop xf_ref05_Between_k0 xf_ref05_Between_b0)))
 (rs [om 65 10, om 6 65, o 7 (.mv (j 0))] [6, 7]
 (.ret [6, 7])))))))))⟩

def xf_plain_SameMsg : XFunc := ⟨none, true, 2, [.tmp 4], (rs [o 2 (bx 0), o 3 (bx 1), o 4 (.mv (.c w))] [2, 3]
 (ss [a 5 (f 0 2), a 6 (k 5), a 7 (f 0 3), a 8 (k 7), a 9 (q 6 8), am 10 9, b 11 (f 1 2) 10, b 12 (k 11) 10, b 13 (f 1 3) 10, b 14 (k 13) 10, b 15 (q 12 14) 10, a 16 (ka 10 15), am 17 16, b 18 (f 2 2) 17, b 19 (k 18) 17, b 20 (f 2 3) 17, b 21 (k 20) 17, b 22 (q 19 21) 17, a 23 (ka 17 22), am 24 23, b 25 (f 3 2) 24, b 26 (l 5 25) 24, b 27 (f 3 3) 24, b 28 (l 5 27) 24, b 29 (.eqv false true [.i, .i, .i, .i, .s] (.s 26) (.s 28)) 24, a 30 (ka 24 29), am 31 30, b 32 (f 8 2) 31, b 33 (l 3 32) 31, b 34 (f 8 3) 31, b 35 (l 3 34) 31, b 36 (.eqv false true [.i, .i, .s] (.s 33) (.s 35)) 31, a 37 (ka 31 36), am 38 37, b 39 (f 11 2) 38, b 40 (k 39) 38, b 41 (f 11 3) 38, b 42 (k 41) 38, b 43 (q 40 42) 38, a 44 (ka 38 43), am 45 44, b 46 (f 12 2) 45, b 47 (k 46) 45, b 48 (f 12 3) 45, b 49 (k 48) 45, b 50 (q 47 49) 45, a 51 (ka 45 50), am 52 51, b 53 (f 13 2) 52, b 54 (k 53) 52, b 55 (f 13 3) 52, b 56 (k 55) 52, b 57 (q 54 56) 52, a 58 (ka 52 57), am 59 58, b 60 (f 14 2) 59, b 61 (l 2 60) 59, b 62 (f 14 3) 59, b 63 (l 2 62) 59, b 64 (.eqv false true [.i, .i] (.s 61) (.s 63)) 59, a 65 (ka 59 64), am 66 65, b 67 (f 16 2) 66, b 68 (k 67) 66, b 69 (f 16 3) 66, b 70 (k 69) 66, u 71 (c 24 [68, 70]) 66, a 72 (ka 66 71), am 73 72, b 74 (f 17 2) 73, b 75 (k 74) 73, b 76 (f 17 3) 73, b 77 (k 76) 73, u 78 (c 54 [75, 77]) 73, a 79 (ka 73 78), am 4 79] [4]
 (.ret [4])))⟩

def xf_message_config : XFunc := ⟨none, true, 1, [.tmp 2], (rs [o 1 (bx 0), o 2 (.mv (.c w))] [1]
 (ss [a 3 (f 0 1), a 4 (k 3), a 5 (bhj 4 1), am 6 5, b 7 (f 0 1) 6, b 8 (k 7) 6, b 9 (bmj 8 3) 6, a 10 (ka 6 9), am 11 10, b 12 (f 1 1) 11, b 13 (k 12) 11, b 14 (bhj 13 1) 11, a 15 (ka 11 14), am 16 15, b 17 (f 1 1) 16, b 18 (k 17) 16, b 19 (bmj 18 256) 16, a 20 (ka 16 19), am 21 20, b 22 (f 2 1) 21, b 23 (k 22) 21, b 24 (bhj 23 6) 21, a 25 (ka 21 24), am 26 25, b 27 (f 2 1) 26, b 28 (k 27) 26, b 29 (bmj 28 100) 26, a 30 (ka 26 29), am 2 30] [2]
 (.ret [2])))⟩

def xf_message_is : XFunc := ⟨none, true, 1, [.tmp 2], (rs [o 2 (.mv (.c w))] [0]
 (ss [am 3 0, a 4 (bhj 3 1), am 5 4, bb 6 0 5, b 7 (bmj 6 14) 5, a 8 (ka 5 7), am 2 8] [2]
 (.ret [2])))⟩

def xf_message_unused_k0 : List (Nat × Option (Nat × Nat × Bool)) := [(1, none), (42, none), (43, none)]
def xf_message_unused_b0 : XCode := (rs [o 44 (blj 43 10)] [1, 42, 43, 44]
 (.seq (.cond (.s 44) .skip (.exit 0 []))
 (.seq (.block 1 (rs [om 45 43, o 46 (.idx none 1 10 (.s 42) (.s 43)), om 4 45, om 5 46] [1, 4, 5, 42, 43]
 (ss [am 47 5, a 48 (nt 47), am 49 48, b 50 (f 0 1) 49, b 51 (k 50) 49, bb 52 4 49, u 53 (.aadr 10 15 (.c (.dptr usesD)) (.s 51)) 49, u 54 (.aadr 1 10 (.s 53) (.s 52)) 49, u 55 (k 54) 49, u 56 (nt 55) 49, a 57 (ka 49 56)] [1, 42, 43, 57]
 (.cond (.s 57) (rs [o 2 (.mv (.c w))] [2]
 (.ret [2])) .skip))))
 (.reg [o 58 (baj 43 1), om 43 58] none [1, 42, 43]))))
def xf_message_unused : XFunc := ⟨none, true, 1, [.tmp 2], (rs [o 1 (bx 0), o 2 (.mv (.c w))] [1]
 (rp (some [(1, 36), (4, 36), (7, 36), (10, 36), (13, 36), (16, 36), (20, 36), (24, 36), (28, 36), (32, 36)]) [of 6 1 1, o 7 (k 6), o 8 (qj 7 0), of 9 2 1, o 10 (k 9), o 11 (qj 10 0), of 12 13 1, o 13 (k 12), o 14 (qj 13 0), of 15 11 1, o 16 (k 15), o 17 (qj 16 0), of 18 12 1, o 19 (k 18), o 20 (qj 19 0), of 21 14 1, ol 22 2 21, o 23 (.build [y, y] []), o 24 (.eqv false true [.i, .i] (.s 22) (.s 23)), of 25 3 1, ol 26 5 25, o 27 (.build l11 []), o 28 (.eqv false true [.i, .i, .i, .i, .s] (.s 26) (.s 27)), of 29 8 1, ol 30 3 29, o 31 (.build l7 []), o 32 (.eqv false true [.i, .i, .s] (.s 30) (.s 31)), of 33 16 1, o 34 (k 33), o 35 (le 34), o 36 (qj 35 0), of 37 17 1, o 38 (k 37), o 39 (le 38), o 40 (qj 39 0), o 41 (.build l6 [(0, 1, (.s 8)), (1, 1, (.s 11)), (2, 1, (.s 14)), (3, 1, (.s 17)), (4, 1, (.s 20)), (5, 1, (.s 24)), (6, 1, (.s 28)), (7, 1, (.s 32)), (8, 1, (.s 36)), (9, 1, (.s 40))]), o 3 (.alloc l6), p (t 10 3 41)] [1, 3]
 (.seq (rs [ol 42 10 3, o 43 (.mv (j 0))] [1, 42, 43]
 (.block 0 (.loop xf_message_unused_k0 xf_message_unused_b0)))
 (rs [o 2 (.mv (.c v))] [2]
 (.ret [2])))))⟩

def xf_message_numbers : XFunc := ⟨none, true, 2, [.tmp 4], (rs [o 2 (bx 0), o 3 (bx 1), o 4 (.mv (.c w))] [2, 3]
 (rs [of 7 0 3, o 8 (k 7), o 9 (.aadr 10 15 (.c (.dptr usesD)) (.s 8)), ol 10 10 9, o 5 (.alloc l6), p (t 10 5 10)] [2, 3, 5]
 (rs [of 11 0 2, o 12 (k 11), o 13 (.bin .mul (j 2) (.s 12)), o 14 (baj 13 1), om 6 14] [2, 3, 5, 6]
 (.seq (ss [a 15 (f 1 3), a 16 (k 15), a 17 (blj 16 0), am 18 17, d 19 (f 1 3) 18, d 20 (k 19) 18, d 21 (m 6) 18, d 22 (bh 20 21) 18, a 23 (ko 18 22), am 24 23, d 25 (f 2 3) 24, d 26 (k 25) 24, d 27 (blj 26 0) 24, a 28 (ko 24 27), am 29 28, d 30 (f 2 3) 29, d 31 (k 30) 29, d 32 (bgj 31 4294967296) 29, a 33 (ko 29 32), am 34 33, d 35 (f 11 3) 34, d 36 (k 35) 34, d 37 (blj 36 0) 34, a 38 (ko 34 37), am 39 38, d 40 (f 11 3) 39, d 41 (k 40) 39, d 42 (f 1 2) 39, d 43 (k 42) 39, d 44 (bg 41 43) 39, a 45 (ko 39 44), am 46 45, d 47 (f 12 3) 46, d 48 (k 47) 46, d 49 (blj 48 0) 46, a 50 (ko 46 49), am 51 50, d 52 (f 13 3) 51, d 53 (k 52) 51, d 54 (blj 53 0) 51, a 55 (ko 51 54)] [2, 3, 5, 6, 55]
 (.cond (.s 55) (rs [o 4 (.mv (.c w))] [4]
 (.ret [4])) .skip))
 (.seq (rs [of 56 0 3, o 57 (k 56)] [2, 3, 5, 6, 57]
 (.block 0 (.seq (.block 5 (.seq (.block 4 (.seq (.block 3 (.seq (.block 2 (.seq (.block 1 (.seq (.seq (rs [o 59 (qj 57 3), om 58 59] [2, 3, 5, 6, 57, 58]
 (.cond (.s 58) (.exit 1 [2, 3, 6]) .skip))
 (.seq (rs [o 61 (qj 57 5), om 60 61] [2, 3, 5, 6, 57, 60]
 (.cond (.s 60) (.exit 2 [2, 3, 6]) .skip))
 (.seq (rs [o 63 (qj 57 14), om 62 63] [2, 3, 5, 6, 57, 62]
 (.cond (.s 62) (.exit 3 [2, 3]) .skip))
 (.seq (rs [o 65 (qj 57 8), om 64 65] [3, 5, 6, 57, 64]
 (.cond (.s 64) (.exit 4 [3, 5, 6]) .skip))
 (.seq (rs [o 67 (qj 57 6), om 66 67] [3, 5, 57, 66]
 (.cond (.s 66) .skip (.reg [o 68 (qj 57 7), om 66 68] none [3, 5, 66])))
 (.cond (.s 66) (.exit 5 [3, 5]) .skip))))))
 (.exit 0 [3, 5])))
 (rs [of 69 11 3, o 70 (k 69), o 71 (blj 70 1)] [2, 3, 6, 71]
 (.cond (.s 71) (rs [o 4 (.mv (.c w))] [4]
 (.ret [4])) .skip))))
 (.seq (sp (some []) [a 72 (f 1 3), a 73 (k 72), a 74 (f 2 3), a 75 (k 74), am 76 6, a 77 (.bin .rem (.s 75) (.s 76)), a 78 (q 73 77), am 79 78, b 80 (f 12 3) 79, b 81 (k 80) 79, b 82 (f 1 2) 79, b 83 (k 82) 79, b 84 (bm 81 83) 79, a 85 (ka 79 84), am 4 85] [4]
 (.ret [4]))
 (.exit 0 [3, 5]))))
 (.seq (rs [of 86 12 3, o 87 (k 86), of 88 1 2, o 89 (k 88), o 90 (bm 87 89), om 4 90] [4]
 (.ret [4]))
 (.exit 0 [3, 5]))))
 (rp (some []) [of 91 1 3, o 92 (k 91), of 93 2 3, o 94 (k 93), om 95 6, o 96 (.bin .rem (.s 94) (.s 95)), o 97 (n 92 96)] [3, 5, 97]
 (.cond (.s 97) (rs [o 4 (.mv (.c w))] [4]
 (.ret [4])) .skip))))
 (.seq (rs [of 98 2 3, o 99 (k 98), o 100 (blj 99 1)] [3, 5, 100]
 (.cond (.s 100) (rs [o 4 (.mv (.c w))] [4]
 (.ret [4])) .skip))
 (.exit 0 [3, 5])))))
 (ss [a 101 (.aadr 1 10 (.s 5) (j 2)), a 102 (k 101), a 103 (nt 102), am 104 103, d 105 (f 13 3) 104, d 106 (k 105) 104, d 107 (f 2 3) 104, d 108 (k 107) 104, d 109 (bl 106 108) 104, a 110 (ko 104 109), am 111 110, b 112 (.aadr 1 10 (.s 5) (j 8)) 111, b 113 (k 112) 111, b 114 (nt 113) 111, bb 115 114 111, d 116 (f 12 3) 115, d 117 (k 116) 115, d 118 (f 16 3) 115, d 119 (k 118) 115, d 120 (le 119) 115, d 121 (bm 117 120) 115, b 122 (ko 115 121) 111, a 123 (ka 111 122), am 4 123] [4]
 (.ret [4])))))))⟩

def xf_message_asks : XFunc := ⟨none, true, 2, [.tmp 4], (rs [o 3 (bx 1), o 4 (.mv (.c w))] [0, 3]
 (.seq (ss [a 5 (f 0 3), a 6 (k 5), a 7 (blj 6 0), am 8 7, d 9 (f 0 3) 8, d 10 (k 9) 8, d 11 (bhj 10 16) 8, a 12 (ko 8 11), am 13 12, d 14 (f 1 3) 13, d 15 (k 14) 13, d 16 (blj 15 1) 13, a 17 (ko 13 16)] [0, 3, 17]
 (.cond (.s 17) (rs [o 4 (.mv (.c w))] [4]
 (.ret [4])) .skip))
 (.seq (rs [om 18 0, o 19 (c 168 [18])] [0, 3, 19]
 (.cond (.s 19) (rs [of 20 2 3, ol 21 3 20, o 22 (.build l7 []), o 23 (.eqv false true [.i, .i, .s] (.s 21) (.s 22)), om 4 23] [4]
 (.ret [4])) .skip))
 (.seq (ss [am 24 0, a 25 (qj 24 13), am 26 25, b 27 (f 2 3) 26, b 28 (f 0 27) 26, b 29 (k 28) 26, b 30 (nj 29 3) 26, a 31 (ka 26 30), am 32 31, b 33 (f 2 3) 32, b 34 (f 0 33) 32, b 35 (k 34) 32, b 36 (nj 35 4) 32, a 37 (ka 32 36)] [3, 37]
 (.cond (.s 37) (rs [o 4 (.mv (.c w))] [4]
 (.ret [4])) .skip))
 (rs [of 38 2 3, ol 39 3 38, o 40 (c 169 [39]), o 41 (qj 40 0), om 4 41] [4]
 (.ret [4]))))))⟩

def xf_message_answers : XFunc := ⟨none, true, 1, [.tmp 2], (rs [o 1 (bx 0), o 2 (.mv (.c w))] [1]
 (ss [a 4 (f 1 1), a 5 (k 4), a 6 (bhj 5 0), am 7 6, b 8 (f 1 1) 7, b 9 (k 8) 7, b 10 (blj 9 1024) 7, a 11 (ka 7 10), am 3 11] [1, 3]
 (.seq (rs [of 12 0 1, o 13 (k 12)] [1, 3, 13]
 (.block 0 (.seq (rs [o 15 (qj 13 1), om 14 15] [1, 3, 13, 14]
 (.cond (.s 14) .skip (rs [o 16 (qj 13 2), om 14 16] [1, 3, 13, 14]
 (.cond (.s 14) .skip (.reg [o 17 (qj 13 4), om 14 17] none [1, 3, 13, 14])))))
 (.cond (.s 14) (ss [am 18 3, am 19 18, b 20 (f 2 1) 19, b 21 (k 20) 19, b 22 (.len true (.s 21)) 19, b 23 (bmj 22 64) 19, a 24 (ka 19 23), am 2 24] [2]
 (.ret [2])) (rs [o 26 (qj 13 5), om 25 26] [1, 3, 13, 25]
 (.cond (.s 25) (ss [am 27 3, am 28 27, b 29 (f 2 1) 28, b 30 (k 29) 28, b 31 (.eqv false false [.s] (.s 30) (.c x)) 28, a 32 (ka 28 31), am 2 32] [2]
 (.ret [2])) (rs [o 34 (qj 13 6), om 33 34] [1, 13, 33]
 (.cond (.s 33) (ss [a 35 (f 1 1), a 36 (k 35), a 37 (bhj 36 0), am 38 37, b 39 (f 1 1) 38, b 40 (k 39) 38, b 41 (bmj 40 1024) 38, a 42 (ka 38 41), am 43 42, b 44 (f 2 1) 43, b 45 (k 44) 43, b 46 (.eqv false false [.s] (.s 45) (.c x)) 43, a 47 (ka 43 46), am 2 47] [2]
 (.ret [2])) (.seq (rs [o 49 (qj 13 3), om 48 49] [1, 13, 48]
 (.cond (.s 48) .skip (.reg [o 50 (qj 13 7), om 48 50] none [1, 48])))
 (.cond (.s 48) (ss [a 51 (f 1 1), a 52 (k 51), a 53 (qj 52 0), am 54 53, b 55 (f 2 1) 54, b 56 (k 55) 54, b 57 (.eqv false false [.s] (.s 56) (.c x)) 54, a 58 (ka 54 57), am 2 58] [2]
 (.ret [2])) .skip))))))))))
 (rs [o 2 (.mv (.c w))] [2]
 (.ret [2])))))⟩

def xf_message_reads : XFunc := ⟨none, true, 1, [.tmp 2], (rs [o 1 (bx 0), o 2 (.mv (.c w))] [1]
 (.seq (rs [of 3 0 1, o 4 (k 3)] [1, 4]
 (.block 0 (rs [o 6 (qj 4 14), om 5 6] [1, 4, 5]
 (.cond (.s 5) (ss [a 7 (f 8 1), a 8 (f 0 7), a 9 (k 8), a 10 (qj 9 4), am 11 10, d 12 (f 8 1) 11, d 13 (f 0 12) 11, d 14 (k 13) 11, d 15 (qj 14 5) 11, a 16 (ko 11 15), am 17 16, d 18 (f 8 1) 17, d 19 (f 0 18) 17, d 20 (k 19) 17, d 21 (qj 20 6) 17, a 22 (ko 17 21), am 2 22] [2]
 (.ret [2])) (rs [o 24 (qj 4 2), om 23 24] [1, 23]
 (.cond (.s 23) (rs [of 25 11 1, o 26 (k 25), o 27 (qj 26 0), of 28 8 1, of 29 0 28, o 30 (k 29), o 31 (qj 30 7), o 32 (.eqv false false [.b] (.s 27) (.s 31)), om 2 32] [2]
 (.ret [2])) .skip))))))
 (rs [o 2 (.mv (.c v))] [2]
 (.ret [2]))))⟩

def xf_vector_fits : XFunc := ⟨none, true, 1, [.tmp 2], (rs [o 2 (.mv (.c w))] [0]
 (ss [am 3 0, a 4 (le 3), a 5 (bhj 4 1), am 6 5, bb 7 0 6, b 8 (le 7) 6, b 9 (bmj 8 7) 6, a 10 (ka 6 9), am 2 10] [2]
 (.ret [2])))⟩

def xf_tally_turned_ack_Ack_k0 : List (Nat × Option (Nat × Nat × Bool)) := [(1, none), (5, some (67, 4, true)), (8, some (185, 4, true)), (9, none), (10, none)]
def xf_tally_turned_ack_Ack_b0 : XCode := (rs [o 11 (bl 10 9)] [1, 5, 8, 9, 10, 11]
 (.seq (.cond (.s 11) .skip (.exit 0 [5]))
 (.seq (.block 1 (rs [o 12 (ia 4 8 10), ol 13 4 12, o 7 (.alloc l10), p (t 4 7 13)] [1, 5, 7, 8, 9, 10]
 (.reg [om 14 5, om 15 1, ol 16 4 7, o 17 (.call (.s 15) [(.s 16)]), o 18 (.bsl 67 4 true 1 l10 [(0, 4, (.s 17))]), o 19 (.app 67 4 32 true (.s 14) (.s 18)), om 5 19] none [1, 5, 8, 9, 10])))
 (.reg [o 20 (baj 10 1), om 10 20] none [1, 5, 8, 9, 10]))))
def xf_tally_turned_ack_Ack : XFunc := ⟨none, true, 2, [.tmp 4], (rs [o 4 (.mv (.c (.nil 67 4 true)))] [0, 1]
 (rs [o 5 (.mv (.c (.nil 67 4 true)))] [0, 1, 5]
 (.seq (rs [om 8 0, o 9 (le 8), o 10 (.mv (j 0))] [1, 5, 8, 9, 10]
 (.block 0 (.loop xf_tally_turned_ack_Ack_k0 xf_tally_turned_ack_Ack_b0)))
 (rs [om 21 5, om 4 21] [4]
 (.ret [4])))))⟩

def xf_tally_turned_Ack_ack_k0 : List (Nat × Option (Nat × Nat × Bool)) := [(1, none), (5, some (185, 4, true)), (8, some (67, 4, true)), (9, none), (10, none)]
def xf_tally_turned_Ack_ack_b0 : XCode := (rs [o 11 (bl 10 9)] [1, 5, 8, 9, 10, 11]
 (.seq (.cond (.s 11) .skip (.exit 0 [5]))
 (.seq (.block 1 (rs [o 12 (ia 4 8 10), ol 13 4 12, o 7 (.alloc l10), p (t 4 7 13)] [1, 5, 7, 8, 9, 10]
 (.reg [om 14 5, om 15 1, ol 16 4 7, o 17 (.call (.s 15) [(.s 16)]), o 18 (.bsl 185 4 true 1 l10 [(0, 4, (.s 17))]), o 19 (.app 185 4 32 true (.s 14) (.s 18)), om 5 19] none [1, 5, 8, 9, 10])))
 (.reg [o 20 (baj 10 1), om 10 20] none [1, 5, 8, 9, 10]))))
def xf_tally_turned_Ack_ack : XFunc := ⟨none, true, 2, [.tmp 4], (rs [o 4 (.mv (.c (.nil 185 4 true)))] [0, 1]
 (rs [o 5 (.mv (.c (.nil 185 4 true)))] [0, 1, 5]
 (.seq (rs [om 8 0, o 9 (le 8), o 10 (.mv (j 0))] [1, 5, 8, 9, 10]
 (.block 0 (.loop xf_tally_turned_Ack_ack_k0 xf_tally_turned_Ack_ack_b0)))
 (rs [om 21 5, om 4 21] [4]
 (.ret [4])))))⟩

def xf_tally_toAck : XFunc := ⟨none, true, 1, [.cell 2 (some 4)], (rs [o 1 (bx 0), o 2 (.alloc l10)] [1, 2]
 (rs [ol 3 4 1, p (t 4 2 3)] [2]
 (.ret [2])))⟩

def xf_tally_box_ack_prune_k0 : List (Nat × Option (Nat × Nat × Bool)) := [(1, none), (5, some (185, 4, true)), (10, some (185, 4, true)), (11, none), (12, none)]
def xf_tally_box_ack_prune_b0 : XCode := (rs [o 13 (bl 12 11)] [1, 5, 10, 11, 12, 13]
 (.seq (.cond (.s 13) .skip (.exit 0 [5]))
 (.seq (.block 1 (rs [o 14 (ia 4 10 12), ol 15 4 14, o 7 (.alloc l10), p (t 4 7 15)] [1, 5, 7, 10, 11, 12]
 (rs [ol 16 4 7, o 17 (.mkifc 185 (.s 16)), o 18 (.inv [(185, 203), (194, 206), (203, 209), (212, 212)] (.s 17) []), om 8 18] [1, 5, 7, 8, 10, 11, 12]
 (sp (some [(11, 14), (11, 15)]) [am 19 8, a 20 (blj 19 0), am 21 20, d 22 (m 8) 21, d 23 (m 1) 21, d 24 (le 23) 21, d 25 (bh 22 24) 21, a 26 (ko 21 25), am 27 26, d 28 (l 4 7) 27, d 29 (.mkifc 185 (.s 28)) 27, r 30 (.inv [(185, 201), (194, 204), (203, 207), (212, 210)] (.s 29) []) 27, d 31 (m 1) 27, d 32 (m 8) 27, r 33 (ia 2 31 32) 27, r 34 (l 2 33) 27, r 35 (c 43 [30, 34]) 27, r 36 (bhj 35 0) 27, a 37 (ko 27 36)] [1, 5, 7, 10, 11, 12, 37]
 (.cond (.s 37) (.reg [om 38 5, ol 39 4 7, o 40 (.mkifc 185 (.s 39)), o 41 (.inv [(185, 202), (194, 205), (203, 208), (212, 211)] (.s 40) []), o 42 (.bsl 185 4 true 1 l10 [(0, 4, (.s 41))]), o 43 (.app 185 4 32 true (.s 38) (.s 42)), om 5 43] none [1, 5, 10, 11, 12]) .skip)))))
 (.reg [o 44 (baj 12 1), om 12 44] none [1, 5, 10, 11, 12]))))
def xf_tally_box_ack_prune : XFunc := ⟨none, true, 2, [.tmp 4], (rs [o 2 (bx 0), o 4 (.mv (.c (.nil 185 4 true)))] [1, 2]
 (rs [o 5 (.mv (.c (.nil 185 4 true)))] [1, 2, 5]
 (.seq (rs [of 9 0 2, o 10 (k 9), o 11 (le 10), o 12 (.mv (j 0))] [1, 5, 10, 11, 12]
 (.block 0 (.loop xf_tally_box_ack_prune_k0 xf_tally_box_ack_prune_b0)))
 (rs [om 45 5, om 4 45] [4]
 (.ret [4])))))⟩

def xf_tally_fromAck : XFunc := ⟨none, true, 1, [.cell 2 (some 4)], (rs [o 1 (bx 0), o 2 (.alloc l10)] [1, 2]
 (rs [ol 3 4 1, p (t 4 2 3)] [2]
 (.ret [2])))⟩

def xf_tally_turned_mark_Mark_k0 : List (Nat × Option (Nat × Nat × Bool)) := [(1, none), (5, some (69, 3, true)), (8, some (194, 3, true)), (9, none), (10, none)]
def xf_tally_turned_mark_Mark_b0 : XCode := (rs [o 11 (bl 10 9)] [1, 5, 8, 9, 10, 11]
 (.seq (.cond (.s 11) .skip (.exit 0 [5]))
 (.seq (.block 1 (rs [o 12 (ia 3 8 10), ol 13 3 12, o 7 (.alloc l8), p (t 3 7 13)] [1, 5, 7, 8, 9, 10]
 (.reg [om 14 5, om 15 1, ol 16 3 7, o 17 (.call (.s 15) [(.s 16)]), o 18 (.bsl 69 3 true 1 l8 [(0, 3, (.s 17))]), o 19 (.app 69 3 24 true (.s 14) (.s 18)), om 5 19] none [1, 5, 8, 9, 10])))
 (.reg [o 20 (baj 10 1), om 10 20] none [1, 5, 8, 9, 10]))))
def xf_tally_turned_mark_Mark : XFunc := ⟨none, true, 2, [.tmp 4], (rs [o 4 (.mv (.c (.nil 69 3 true)))] [0, 1]
 (rs [o 5 (.mv (.c (.nil 69 3 true)))] [0, 1, 5]
 (.seq (rs [om 8 0, o 9 (le 8), o 10 (.mv (j 0))] [1, 5, 8, 9, 10]
 (.block 0 (.loop xf_tally_turned_mark_Mark_k0 xf_tally_turned_mark_Mark_b0)))
 (rs [om 21 5, om 4 21] [4]
 (.ret [4])))))⟩

def xf_tally_turned_Mark_mark_k0 : List (Nat × Option (Nat × Nat × Bool)) := [(1, none), (5, some (194, 3, true)), (8, some (69, 3, true)), (9, none), (10, none)]
def xf_tally_turned_Mark_mark_b0 : XCode := (rs [o 11 (bl 10 9)] [1, 5, 8, 9, 10, 11]
 (.seq (.cond (.s 11) .skip (.exit 0 [5]))
 (.seq (.block 1 (rs [o 12 (ia 3 8 10), ol 13 3 12, o 7 (.alloc l8), p (t 3 7 13)] [1, 5, 7, 8, 9, 10]
 (.reg [om 14 5, om 15 1, ol 16 3 7, o 17 (.call (.s 15) [(.s 16)]), o 18 (.bsl 194 3 true 1 l8 [(0, 3, (.s 17))]), o 19 (.app 194 3 24 true (.s 14) (.s 18)), om 5 19] none [1, 5, 8, 9, 10])))
 (.reg [o 20 (baj 10 1), om 10 20] none [1, 5, 8, 9, 10]))))
def xf_tally_turned_Mark_mark : XFunc := ⟨none, true, 2, [.tmp 4], (rs [o 4 (.mv (.c (.nil 194 3 true)))] [0, 1]
 (rs [o 5 (.mv (.c (.nil 194 3 true)))] [0, 1, 5]
 (.seq (rs [om 8 0, o 9 (le 8), o 10 (.mv (j 0))] [1, 5, 8, 9, 10]
 (.block 0 (.loop xf_tally_turned_Mark_mark_k0 xf_tally_turned_Mark_mark_b0)))
 (rs [om 21 5, om 4 21] [4]
 (.ret [4])))))⟩

def xf_tally_toMark : XFunc := ⟨none, true, 1, [.cell 2 (some 3)], (rs [o 1 (bx 0), o 2 (.alloc l8)] [1, 2]
 (rs [ol 3 3 1, p (t 3 2 3)] [2]
 (.ret [2])))⟩

def xf_tally_box_mark_prune_k0 : List (Nat × Option (Nat × Nat × Bool)) := [(1, none), (5, some (194, 3, true)), (10, some (194, 3, true)), (11, none), (12, none)]
def xf_tally_box_mark_prune_b0 : XCode := (rs [o 13 (bl 12 11)] [1, 5, 10, 11, 12, 13]
 (.seq (.cond (.s 13) .skip (.exit 0 [5]))
 (.seq (.block 1 (rs [o 14 (ia 3 10 12), ol 15 3 14, o 7 (.alloc l8), p (t 3 7 15)] [1, 5, 7, 10, 11, 12]
 (rs [ol 16 3 7, o 17 (.mkifc 194 (.s 16)), o 18 (.inv [(185, 203), (194, 206), (203, 209), (212, 212)] (.s 17) []), om 8 18] [1, 5, 7, 8, 10, 11, 12]
 (sp (some [(11, 14), (11, 15)]) [am 19 8, a 20 (blj 19 0), am 21 20, d 22 (m 8) 21, d 23 (m 1) 21, d 24 (le 23) 21, d 25 (bh 22 24) 21, a 26 (ko 21 25), am 27 26, d 28 (l 3 7) 27, d 29 (.mkifc 194 (.s 28)) 27, r 30 (.inv [(185, 201), (194, 204), (203, 207), (212, 210)] (.s 29) []) 27, d 31 (m 1) 27, d 32 (m 8) 27, r 33 (ia 2 31 32) 27, r 34 (l 2 33) 27, r 35 (c 43 [30, 34]) 27, r 36 (bhj 35 0) 27, a 37 (ko 27 36)] [1, 5, 7, 10, 11, 12, 37]
 (.cond (.s 37) (.reg [om 38 5, ol 39 3 7, o 40 (.mkifc 194 (.s 39)), o 41 (.inv [(185, 202), (194, 205), (203, 208), (212, 211)] (.s 40) []), o 42 (.bsl 194 3 true 1 l8 [(0, 3, (.s 41))]), o 43 (.app 194 3 24 true (.s 38) (.s 42)), om 5 43] none [1, 5, 10, 11, 12]) .skip)))))
 (.reg [o 44 (baj 12 1), om 12 44] none [1, 5, 10, 11, 12]))))
def xf_tally_box_mark_prune : XFunc := ⟨none, true, 2, [.tmp 4], (rs [o 2 (bx 0), o 4 (.mv (.c (.nil 194 3 true)))] [1, 2]
 (rs [o 5 (.mv (.c (.nil 194 3 true)))] [1, 2, 5]
 (.seq (rs [of 9 0 2, o 10 (k 9), o 11 (le 10), o 12 (.mv (j 0))] [1, 5, 10, 11, 12]
 (.block 0 (.loop xf_tally_box_mark_prune_k0 xf_tally_box_mark_prune_b0)))
 (rs [om 45 5, om 4 45] [4]
 (.ret [4])))))⟩

def xf_tally_fromMark : XFunc := ⟨none, true, 1, [.cell 2 (some 3)], (rs [o 1 (bx 0), o 2 (.alloc l8)] [1, 2]
 (rs [ol 3 3 1, p (t 3 2 3)] [2]
 (.ret [2])))⟩

def xf_tally_turned_ballot_Ballot_k0 : List (Nat × Option (Nat × Nat × Bool)) := [(1, none), (5, some (71, 6, false)), (8, some (203, 6, false)), (9, none), (10, none)]
def xf_tally_turned_ballot_Ballot_b0 : XCode := (rs [o 11 (bl 10 9)] [1, 5, 8, 9, 10, 11]
 (.seq (.cond (.s 11) .skip (.exit 0 [5]))
 (.seq (.block 1 (rs [o 12 (ia 6 8 10), ol 13 6 12, o 7 (.alloc l2), p (t 6 7 13)] [1, 5, 7, 8, 9, 10]
 (.reg [om 14 5, om 15 1, ol 16 6 7, o 17 (.call (.s 15) [(.s 16)]), o 18 (.bsl 71 6 false 1 l2 [(0, 6, (.s 17))]), o 19 (.app 71 6 64 false (.s 14) (.s 18)), om 5 19] none [1, 5, 8, 9, 10])))
 (.reg [o 20 (baj 10 1), om 10 20] none [1, 5, 8, 9, 10]))))
def xf_tally_turned_ballot_Ballot : XFunc := ⟨none, true, 2, [.tmp 4], (rs [o 4 (.mv (.c (.nil 71 6 false)))] [0, 1]
 (rs [o 5 (.mv (.c (.nil 71 6 false)))] [0, 1, 5]
 (.seq (rs [om 8 0, o 9 (le 8), o 10 (.mv (j 0))] [1, 5, 8, 9, 10]
 (.block 0 (.loop xf_tally_turned_ballot_Ballot_k0 xf_tally_turned_ballot_Ballot_b0)))
 (rs [om 21 5, om 4 21] [4]
 (.ret [4])))))⟩

def xf_tally_turned_Ballot_ballot_k0 : List (Nat × Option (Nat × Nat × Bool)) := [(1, none), (5, some (203, 6, false)), (8, some (71, 6, false)), (9, none), (10, none)]
def xf_tally_turned_Ballot_ballot_b0 : XCode := (rs [o 11 (bl 10 9)] [1, 5, 8, 9, 10, 11]
 (.seq (.cond (.s 11) .skip (.exit 0 [5]))
 (.seq (.block 1 (rs [o 12 (ia 6 8 10), ol 13 6 12, o 7 (.alloc l2), p (t 6 7 13)] [1, 5, 7, 8, 9, 10]
 (.reg [om 14 5, om 15 1, ol 16 6 7, o 17 (.call (.s 15) [(.s 16)]), o 18 (.bsl 203 6 false 1 l2 [(0, 6, (.s 17))]), o 19 (.app 203 6 64 false (.s 14) (.s 18)), om 5 19] none [1, 5, 8, 9, 10])))
 (.reg [o 20 (baj 10 1), om 10 20] none [1, 5, 8, 9, 10]))))
def xf_tally_turned_Ballot_ballot : XFunc := ⟨none, true, 2, [.tmp 4], (rs [o 4 (.mv (.c (.nil 203 6 false)))] [0, 1]
 (rs [o 5 (.mv (.c (.nil 203 6 false)))] [0, 1, 5]
 (.seq (rs [om 8 0, o 9 (le 8), o 10 (.mv (j 0))] [1, 5, 8, 9, 10]
 (.block 0 (.loop xf_tally_turned_Ballot_ballot_k0 xf_tally_turned_Ballot_ballot_b0)))
 (rs [om 21 5, om 4 21] [4]
 (.ret [4])))))⟩

def xf_tally_toBallot : XFunc := ⟨none, true, 1, [.cell 2 (some 6)], (rs [o 1 (bx 0), o 2 (.alloc l2)] [1, 2]
 (rs [ol 3 6 1, p (t 6 2 3)] [2]
 (.ret [2])))⟩

def xf_tally_box_ballot_prune_k0 : List (Nat × Option (Nat × Nat × Bool)) := [(1, none), (5, some (203, 6, false)), (10, some (203, 6, false)), (11, none), (12, none)]
def xf_tally_box_ballot_prune_b0 : XCode := (rs [o 13 (bl 12 11)] [1, 5, 10, 11, 12, 13]
 (.seq (.cond (.s 13) .skip (.exit 0 [5]))
 (.seq (.block 1 (rs [o 14 (ia 6 10 12), ol 15 6 14, o 7 (.alloc l2), p (t 6 7 15)] [1, 5, 7, 10, 11, 12]
 (rs [ol 16 6 7, o 17 (.mkifc 203 (.s 16)), o 18 (.inv [(185, 203), (194, 206), (203, 209), (212, 212)] (.s 17) []), om 8 18] [1, 5, 7, 8, 10, 11, 12]
 (sp (some [(11, 14), (11, 15)]) [am 19 8, a 20 (blj 19 0), am 21 20, d 22 (m 8) 21, d 23 (m 1) 21, d 24 (le 23) 21, d 25 (bh 22 24) 21, a 26 (ko 21 25), am 27 26, d 28 (l 6 7) 27, d 29 (.mkifc 203 (.s 28)) 27, r 30 (.inv [(185, 201), (194, 204), (203, 207), (212, 210)] (.s 29) []) 27, d 31 (m 1) 27, d 32 (m 8) 27, r 33 (ia 2 31 32) 27, r 34 (l 2 33) 27, r 35 (c 43 [30, 34]) 27, r 36 (bhj 35 0) 27, a 37 (ko 27 36)] [1, 5, 7, 10, 11, 12, 37]
 (.cond (.s 37) (.reg [om 38 5, ol 39 6 7, o 40 (.mkifc 203 (.s 39)), o 41 (.inv [(185, 202), (194, 205), (203, 208), (212, 211)] (.s 40) []), o 42 (.bsl 203 6 false 1 l2 [(0, 6, (.s 41))]), o 43 (.app 203 6 64 false (.s 38) (.s 42)), om 5 43] none [1, 5, 10, 11, 12]) .skip)))))
 (.reg [o 44 (baj 12 1), om 12 44] none [1, 5, 10, 11, 12]))))
def xf_tally_box_ballot_prune : XFunc := ⟨none, true, 2, [.tmp 4], (rs [o 2 (bx 0), o 4 (.mv (.c (.nil 203 6 false)))] [1, 2]
 (rs [o 5 (.mv (.c (.nil 203 6 false)))] [1, 2, 5]
 (.seq (rs [of 9 0 2, o 10 (k 9), o 11 (le 10), o 12 (.mv (j 0))] [1, 5, 10, 11, 12]
 (.block 0 (.loop xf_tally_box_ballot_prune_k0 xf_tally_box_ballot_prune_b0)))
 (rs [om 45 5, om 4 45] [4]
 (.ret [4])))))⟩

def xf_tally_fromBallot : XFunc := ⟨none, true, 1, [.cell 2 (some 6)], (rs [o 1 (bx 0), o 2 (.alloc l2)] [1, 2]
 (rs [ol 3 6 1, p (t 6 2 3)] [2]
 (.ret [2])))⟩

def xf_tally_turned_answer_Answer_k0 : List (Nat × Option (Nat × Nat × Bool)) := [(1, none), (5, some (73, 6, false)), (8, some (212, 6, false)), (9, none), (10, none)]
def xf_tally_turned_answer_Answer_b0 : XCode := (rs [o 11 (bl 10 9)] [1, 5, 8, 9, 10, 11]
 (.seq (.cond (.s 11) .skip (.exit 0 [5]))
 (.seq (.block 1 (rs [o 12 (ia 6 8 10), ol 13 6 12, o 7 (.alloc l2), p (t 6 7 13)] [1, 5, 7, 8, 9, 10]
 (.reg [om 14 5, om 15 1, ol 16 6 7, o 17 (.call (.s 15) [(.s 16)]), o 18 (.bsl 73 6 false 1 l2 [(0, 6, (.s 17))]), o 19 (.app 73 6 64 false (.s 14) (.s 18)), om 5 19] none [1, 5, 8, 9, 10])))
 (.reg [o 20 (baj 10 1), om 10 20] none [1, 5, 8, 9, 10]))))
def xf_tally_turned_answer_Answer : XFunc := ⟨none, true, 2, [.tmp 4], (rs [o 4 (.mv (.c (.nil 73 6 false)))] [0, 1]
 (rs [o 5 (.mv (.c (.nil 73 6 false)))] [0, 1, 5]
 (.seq (rs [om 8 0, o 9 (le 8), o 10 (.mv (j 0))] [1, 5, 8, 9, 10]
 (.block 0 (.loop xf_tally_turned_answer_Answer_k0 xf_tally_turned_answer_Answer_b0)))
 (rs [om 21 5, om 4 21] [4]
 (.ret [4])))))⟩

def xf_tally_turned_Answer_answer_k0 : List (Nat × Option (Nat × Nat × Bool)) := [(1, none), (5, some (212, 6, false)), (8, some (73, 6, false)), (9, none), (10, none)]
def xf_tally_turned_Answer_answer_b0 : XCode := (rs [o 11 (bl 10 9)] [1, 5, 8, 9, 10, 11]
 (.seq (.cond (.s 11) .skip (.exit 0 [5]))
 (.seq (.block 1 (rs [o 12 (ia 6 8 10), ol 13 6 12, o 7 (.alloc l2), p (t 6 7 13)] [1, 5, 7, 8, 9, 10]
 (.reg [om 14 5, om 15 1, ol 16 6 7, o 17 (.call (.s 15) [(.s 16)]), o 18 (.bsl 212 6 false 1 l2 [(0, 6, (.s 17))]), o 19 (.app 212 6 64 false (.s 14) (.s 18)), om 5 19] none [1, 5, 8, 9, 10])))
 (.reg [o 20 (baj 10 1), om 10 20] none [1, 5, 8, 9, 10]))))
def xf_tally_turned_Answer_answer : XFunc := ⟨none, true, 2, [.tmp 4], (rs [o 4 (.mv (.c (.nil 212 6 false)))] [0, 1]
 (rs [o 5 (.mv (.c (.nil 212 6 false)))] [0, 1, 5]
 (.seq (rs [om 8 0, o 9 (le 8), o 10 (.mv (j 0))] [1, 5, 8, 9, 10]
 (.block 0 (.loop xf_tally_turned_Answer_answer_k0 xf_tally_turned_Answer_answer_b0)))
 (rs [om 21 5, om 4 21] [4]
 (.ret [4])))))⟩

def xf_tally_toAnswer : XFunc := ⟨none, true, 1, [.cell 2 (some 6)], (rs [o 1 (bx 0), o 2 (.alloc l2)] [1, 2]
 (rs [ol 3 6 1, p (t 6 2 3)] [2]
 (.ret [2])))⟩

def xf_tally_box_answer_prune_k0 : List (Nat × Option (Nat × Nat × Bool)) := [(1, none), (5, some (212, 6, false)), (10, some (212, 6, false)), (11, none), (12, none)]
def xf_tally_box_answer_prune_b0 : XCode := (rs [o 13 (bl 12 11)] [1, 5, 10, 11, 12, 13]
 (.seq (.cond (.s 13) .skip (.exit 0 [5]))
 (.seq (.block 1 (rs [o 14 (ia 6 10 12), ol 15 6 14, o 7 (.alloc l2), p (t 6 7 15)] [1, 5, 7, 10, 11, 12]
 (rs [ol 16 6 7, o 17 (.mkifc 212 (.s 16)), o 18 (.inv [(185, 203), (194, 206), (203, 209), (212, 212)] (.s 17) []), om 8 18] [1, 5, 7, 8, 10, 11, 12]
 (sp (some [(11, 14), (11, 15)]) [am 19 8, a 20 (blj 19 0), am 21 20, d 22 (m 8) 21, d 23 (m 1) 21, d 24 (le 23) 21, d 25 (bh 22 24) 21, a 26 (ko 21 25), am 27 26, d 28 (l 6 7) 27, d 29 (.mkifc 212 (.s 28)) 27, r 30 (.inv [(185, 201), (194, 204), (203, 207), (212, 210)] (.s 29) []) 27, d 31 (m 1) 27, d 32 (m 8) 27, r 33 (ia 2 31 32) 27, r 34 (l 2 33) 27, r 35 (c 43 [30, 34]) 27, r 36 (bhj 35 0) 27, a 37 (ko 27 36)] [1, 5, 7, 10, 11, 12, 37]
 (.cond (.s 37) (.reg [om 38 5, ol 39 6 7, o 40 (.mkifc 212 (.s 39)), o 41 (.inv [(185, 202), (194, 205), (203, 208), (212, 211)] (.s 40) []), o 42 (.bsl 212 6 false 1 l2 [(0, 6, (.s 41))]), o 43 (.app 212 6 64 false (.s 38) (.s 42)), om 5 43] none [1, 5, 10, 11, 12]) .skip)))))
 (.reg [o 44 (baj 12 1), om 12 44] none [1, 5, 10, 11, 12]))))
def xf_tally_box_answer_prune : XFunc := ⟨none, true, 2, [.tmp 4], (rs [o 2 (bx 0), o 4 (.mv (.c (.nil 212 6 false)))] [1, 2]
 (rs [o 5 (.mv (.c (.nil 212 6 false)))] [1, 2, 5]
 (.seq (rs [of 9 0 2, o 10 (k 9), o 11 (le 10), o 12 (.mv (j 0))] [1, 5, 10, 11, 12]
 (.block 0 (.loop xf_tally_box_answer_prune_k0 xf_tally_box_answer_prune_b0)))
 (rs [om 45 5, om 4 45] [4]
 (.ret [4])))))⟩

def xf_tally_fromAnswer : XFunc := ⟨none, true, 1, [.cell 2 (some 6)], (rs [o 1 (bx 0), o 2 (.alloc l2)] [1, 2]
 (rs [ol 3 6 1, p (t 6 2 3)] [2]
 (.ret [2])))⟩

def xf_ref02_Compare : XFunc := ⟨none, true, 2, [.tmp 4], (rs [o 2 (bx 0), o 3 (bx 1), o 4 (.mv (j 0))] [2, 3]
 (.seq (rs [of 5 0 2, o 6 (k 5), of 7 0 3, o 8 (k 7), o 9 (n 6 8)] [2, 3, 9]
 (.cond (.s 9) (.seq (rs [of 10 0 2, o 11 (k 10), of 12 0 3, o 13 (k 12), o 14 (bl 11 13)] [14]
 (.cond (.s 14) (rs [o 4 (.mv (j (-1)))] [4]
 (.ret [4])) .skip))
 (rs [o 4 (.mv (j 1))] [4]
 (.ret [4]))) .skip))
 (.seq (rs [of 15 1 2, o 16 (k 15), of 17 1 3, o 18 (k 17), o 19 (bl 16 18)] [2, 3, 19]
 (.cond (.s 19) (rs [o 4 (.mv (j (-1)))] [4]
 (.ret [4])) .skip))
 (.seq (rs [of 20 1 2, o 21 (k 20), of 22 1 3, o 23 (k 22), o 24 (bg 21 23)] [24]
 (.cond (.s 24) (rs [o 4 (.mv (j 1))] [4]
 (.ret [4])) .skip))
 (rs [o 4 (.mv (j 0))] [4]
 (.ret [4]))))))⟩

def xf_ref09_logged : XFunc := ⟨none, true, 3, [.tmp 6], (rs [o 3 (bx 0), o 6 (.mv (.c w))] [1, 2, 3]
 (ss [am 7 1, a 8 (f 1 3), a 9 (k 8), a 10 (c 150 [7, 9]), a 11 (qj 10 0), am 12 11, bb 13 2 12, b 14 (bhj 13 0) 12, a 15 (ka 12 14), am 16 15, bb 17 2 16, bb 18 1 16, b 19 (le 18) 16, b 20 (bm 17 19) 16, a 21 (ka 16 20), am 6 21] [6]
 (.ret [6])))⟩

def xf_ref09_votes_k0 : List (Nat × Option (Nat × Nat × Bool)) := [(1, none), (2, none), (5, some (3, 1, true)), (6, some (3, 1, true)), (7, some (3, 1, true)), (8, some (3, 1, true)), (9, some (43, 2, true)), (10, some (43, 2, true)), (11, some (43, 2, true)), (12, some (43, 2, true)), (13, none)]
def xf_ref09_votes_b0 : XCode := (.seq (rs [om 17 13, of 18 8 2, o 19 (k 18), o 20 (le 19), o 21 (bl 17 20)] [1, 2, 5, 6, 7, 8, 9, 10, 11, 12, 13, 21]
 (.cond (.s 21) .skip (.exit 0 [1, 2, 5, 6, 7, 8, 9, 10, 11, 12])))
 (.seq (.block 1 (rs [om 24 5, of 25 8 2, o 26 (k 25), om 27 13, o 28 (ia 4 26 27), of 29 0 28, o 30 (k 29), o 31 (.bsl 3 1 true 1 [z] [(0, 1, (.s 30))]), o 32 (.app 3 1 8 true (.s 24) (.s 31)), om 5 32] [1, 2, 5, 6, 7, 8, 9, 10, 11, 12, 13]
 (.reg [om 33 9, of 34 8 2, o 35 (k 34), om 36 13, o 37 (ia 4 35 36), of 38 1 37, ol 39 2 38, o 40 (.bsl 43 2 true 1 [y, y] [(0, 2, (.s 39))]), o 41 (.app 43 2 16 true (.s 33) (.s 40)), om 9 41] none [1, 2, 5, 6, 7, 8, 9, 10, 11, 12, 13])))
 (.reg [om 22 13, o 23 (baj 22 1), om 13 23] none [1, 2, 5, 6, 7, 8, 9, 10, 11, 12, 13])))
def xf_ref09_votes_k1 : List (Nat × Option (Nat × Nat × Bool)) := [(1, none), (2, none), (5, some (3, 1, true)), (6, some (3, 1, true)), (7, some (3, 1, true)), (8, some (3, 1, true)), (9, some (43, 2, true)), (10, some (43, 2, true)), (11, some (43, 2, true)), (12, some (43, 2, true)), (14, none)]
def xf_ref09_votes_b1 : XCode := (.seq (rs [om 42 14, of 43 9 2, o 44 (k 43), o 45 (le 44), o 46 (bl 42 45)] [1, 2, 5, 6, 7, 8, 9, 10, 11, 12, 14, 46]
 (.cond (.s 46) .skip (.exit 2 [1, 2, 5, 6, 7, 8, 9, 10, 11, 12])))
 (.seq (.block 3 (rs [om 49 6, of 50 9 2, o 51 (k 50), om 52 14, o 53 (ia 3 51 52), of 54 0 53, o 55 (k 54), o 56 (.bsl 3 1 true 1 [z] [(0, 1, (.s 55))]), o 57 (.app 3 1 8 true (.s 49) (.s 56)), om 6 57] [1, 2, 5, 6, 7, 8, 9, 10, 11, 12, 14]
 (.reg [om 58 10, of 59 9 2, o 60 (k 59), om 61 14, o 62 (ia 3 60 61), of 63 1 62, ol 64 2 63, o 65 (.bsl 43 2 true 1 [y, y] [(0, 2, (.s 64))]), o 66 (.app 43 2 16 true (.s 58) (.s 65)), om 10 66] none [1, 2, 5, 6, 7, 8, 9, 10, 11, 12, 14])))
 (.reg [om 47 14, o 48 (baj 47 1), om 14 48] none [1, 2, 5, 6, 7, 8, 9, 10, 11, 12, 14])))
def xf_ref09_votes_k2 : List (Nat × Option (Nat × Nat × Bool)) := [(1, none), (2, none), (5, some (3, 1, true)), (6, some (3, 1, true)), (7, some (3, 1, true)), (8, some (3, 1, true)), (9, some (43, 2, true)), (10, some (43, 2, true)), (11, some (43, 2, true)), (12, some (43, 2, true)), (15, none)]
def xf_ref09_votes_b2 : XCode := (.seq (rs [om 67 15, of 68 10 2, o 69 (k 68), o 70 (le 69), o 71 (bl 67 70)] [1, 2, 5, 6, 7, 8, 9, 10, 11, 12, 15, 71]
 (.cond (.s 71) .skip (.exit 4 [1, 2, 5, 6, 7, 8, 9, 10, 11, 12])))
 (.seq (.block 5 (rs [om 74 7, of 75 10 2, o 76 (k 75), om 77 15, o 78 (ia 6 76 77), of 79 0 78, o 80 (k 79), o 81 (.bsl 3 1 true 1 [z] [(0, 1, (.s 80))]), o 82 (.app 3 1 8 true (.s 74) (.s 81)), om 7 82] [1, 2, 5, 6, 7, 8, 9, 10, 11, 12, 15]
 (.reg [om 83 11, of 84 10 2, o 85 (k 84), om 86 15, o 87 (ia 6 85 86), of 88 1 87, ol 89 2 88, o 90 (.bsl 43 2 true 1 [y, y] [(0, 2, (.s 89))]), o 91 (.app 43 2 16 true (.s 83) (.s 90)), om 11 91] none [1, 2, 5, 6, 7, 8, 9, 10, 11, 12, 15])))
 (.reg [om 72 15, o 73 (baj 72 1), om 15 73] none [1, 2, 5, 6, 7, 8, 9, 10, 11, 12, 15])))
def xf_ref09_votes_k3 : List (Nat × Option (Nat × Nat × Bool)) := [(1, none), (2, none), (5, some (3, 1, true)), (6, some (3, 1, true)), (7, some (3, 1, true)), (8, some (3, 1, true)), (9, some (43, 2, true)), (10, some (43, 2, true)), (11, some (43, 2, true)), (12, some (43, 2, true)), (16, none)]
def xf_ref09_votes_b3 : XCode := (.seq (rs [om 92 16, of 93 11 2, o 94 (k 93), o 95 (le 94), o 96 (bl 92 95)] [1, 2, 5, 6, 7, 8, 9, 10, 11, 12, 16, 96]
 (.cond (.s 96) .skip (.exit 6 [1, 2, 5, 6, 7, 8, 9, 10, 11, 12])))
 (.seq (.block 7 (rs [om 99 8, of 100 11 2, o 101 (k 100), om 102 16, o 103 (ia 6 101 102), of 104 0 103, o 105 (k 104), o 106 (.bsl 3 1 true 1 [z] [(0, 1, (.s 105))]), o 107 (.app 3 1 8 true (.s 99) (.s 106)), om 8 107] [1, 2, 5, 6, 7, 8, 9, 10, 11, 12, 16]
 (.reg [om 108 12, of 109 11 2, o 110 (k 109), om 111 16, o 112 (ia 6 110 111), of 113 1 112, ol 114 2 113, o 115 (.bsl 43 2 true 1 [y, y] [(0, 2, (.s 114))]), o 116 (.app 43 2 16 true (.s 108) (.s 115)), om 12 116] none [1, 2, 5, 6, 7, 8, 9, 10, 11, 12, 16])))
 (.reg [om 97 16, o 98 (baj 97 1), om 16 98] none [1, 2, 5, 6, 7, 8, 9, 10, 11, 12, 16])))
def xf_ref09_votes : XFunc := ⟨none, true, 2, [.tmp 4], (rs [o 2 (bx 0), o 4 (.mv (.c w))] [1, 2]
 (rs [o 5 (.mv (.c (.nil 3 1 true))), o 6 (.mv (.c (.nil 3 1 true))), o 7 (.mv (.c (.nil 3 1 true))), o 8 (.mv (.c (.nil 3 1 true)))] [1, 2, 5, 6, 7, 8]
 (rs [o 9 (.mv (.c (.nil 43 2 true))), o 10 (.mv (.c (.nil 43 2 true))), o 11 (.mv (.c (.nil 43 2 true))), o 12 (.mv (.c (.nil 43 2 true)))] [1, 2, 5, 6, 7, 8, 9, 10, 11, 12]
 (.seq (rs [o 13 (.mv (j 0))] [1, 2, 5, 6, 7, 8, 9, 10, 11, 12, 13]
 (.block 0 (.loop xf_ref09_votes_k0 xf_ref09_votes_b0)))
 (.seq (rs [o 14 (.mv (j 0))] [1, 2, 5, 6, 7, 8, 9, 10, 11, 12, 14]
 (.block 2 (.loop xf_ref09_votes_k1 xf_ref09_votes_b1)))
 (.seq (rs [o 15 (.mv (j 0))] [1, 2, 5, 6, 7, 8, 9, 10, 11, 12, 15]
 (.block 4 (.loop xf_ref09_votes_k2 xf_ref09_votes_b2)))
 (.seq (rs [o 16 (.mv (j 0))] [1, 2, 5, 6, 7, 8, 9, 10, 11, 12, 16]
 (.block 6 (.loop xf_ref09_votes_k3 xf_ref09_votes_b3)))
 (ss [a 117 (l 12 2), am 118 1, am 119 5, am 120 9, a 121 (c 172 [117, 118, 119, 120]), am 122 121, b 123 (l 12 2) 122, bb 124 1 122, bb 125 6 122, bb 126 10 122, u 127 (c 172 [123, 124, 125, 126]) 122, a 128 (ka 122 127), am 129 128, b 130 (l 12 2) 129, bb 131 1 129, bb 132 7 129, bb 133 11 129, u 134 (c 172 [130, 131, 132, 133]) 129, a 135 (ka 129 134), am 136 135, b 137 (l 12 2) 136, bb 138 1 136, bb 139 8 136, bb 140 12 136, u 141 (c 172 [137, 138, 139, 140]) 136, a 142 (ka 136 141), am 4 142] [4]
 (.ret [4])))))))))⟩

def xf_ref09_recovering_k0 : List (Nat × Option (Nat × Nat × Bool)) := [(2, none), (3, none), (4, none), (7, none)]
def xf_ref09_recovering_b0 : XCode := (.seq (rs [om 47 7, of 48 11 4, o 49 (k 48), o 50 (le 49), o 51 (bl 47 50)] [2, 3, 4, 7, 51]
 (.cond (.s 51) .skip (.exit 0 [])))
 (.seq (.block 1 (rs [of 54 11 4, o 55 (k 54), om 56 7, o 57 (ia 6 55 56), ol 58 6 57, o 8 (.alloc l2), p (t 6 8 58)] [2, 3, 4, 7, 8]
 (sp (some []) [a 59 (f 3 8), a 60 (k 59), a 61 (blj 60 0), am 62 61, d 63 (f 3 8) 62, d 64 (k 63) 62, d 65 (bgj 64 4294967296) 62, a 66 (ko 62 65), am 67 66, d 68 (l 4 3) 67, d 69 (f 5 8) 67, d 70 (k 69) 67, d 71 (f 4 8) 67, d 72 (k 71) 67, r 73 (c 147 [68, 70, 72]) 67, r 74 (nt 73) 67, a 75 (ko 67 74), am 76 75, d 77 (f 0 8) 76, d 78 (k 77) 76, d 79 (f 3 8) 76, d 80 (k 79) 76, d 81 (m 2) 76, r 82 (.bin .rem (.s 80) (.s 81)) 76, r 83 (n 78 82) 76, r 84 (m 83) 76, b 85 (f 5 8) 84, b 86 (k 85) 84, b 87 (le 86) 84, b 88 (bgj 87 0) 84, r 89 (ka 84 88) 76, a 90 (ko 76 89)] [2, 3, 4, 7, 90]
 (.cond (.s 90) (rs [o 6 (.mv (.c w))] [6]
 (.ret [6])) .skip))))
 (.reg [om 52 7, o 53 (baj 52 1), om 7 53] none [2, 3, 4, 7])))
def xf_ref09_recovering : XFunc := ⟨none, true, 3, [.tmp 6], (rs [o 3 (bx 0), o 4 (bx 1), o 6 (.mv (.c w))] [2, 3, 4]
 (.seq (ss [a 9 (f 2 4), a 10 (k 9), a 11 (f 3 4), a 12 (k 11), a 13 (ba 10 12), a 14 (f 5 4), a 15 (k 14), a 16 (ba 13 15), a 17 (f 7 4), a 18 (k 17), a 19 (ba 16 18), a 20 (f 4 4), a 21 (k 20), a 22 (le 21), a 23 (ba 19 22), a 24 (f 8 4), a 25 (k 24), a 26 (le 25), a 27 (ba 23 26), a 28 (f 9 4), a 29 (k 28), a 30 (le 29), a 31 (ba 27 30), a 32 (f 10 4), a 33 (k 32), a 34 (le 33), a 35 (ba 31 34), a 36 (bgj 35 0), am 37 36, d 38 (f 6 4) 37, d 39 (k 38) 37, d 40 (f 0 4) 37, d 41 (k 40) 37, r 42 (ia 2 39 41) 37, r 43 (l 2 42) 37, d 44 (.build [y, y] []) 37, r 45 (.eqv false true [.i, .i] (.s 43) (.s 44)) 37, a 46 (ko 37 45)] [2, 3, 4, 46]
 (.cond (.s 46) (rs [o 6 (.mv (.c w))] [6]
 (.ret [6])) .skip))
 (.seq (rs [o 7 (.mv (j 0))] [2, 3, 4, 7]
 (.block 0 (.loop xf_ref09_recovering_k0 xf_ref09_recovering_b0)))
 (rs [o 6 (.mv (.c v))] [6]
 (.ret [6])))))⟩

def xf_ref05_Log_k1 : List (Nat × Option (Nat × Nat × Bool)) := [(0, none), (5, none), (7, none)]
def xf_ref05_Log_b1 : XCode := (.seq (rs [om 26 7, om 27 5, o 28 (bl 26 27)] [0, 5, 7, 28]
 (.cond (.s 28) .skip (.exit 2 [0, 5])))
 (.seq (.block 3 (sp (some []) [am 31 0, am 32 7, a 33 (ia 5 31 32), a 34 (f 0 33), a 35 (k 34), am 36 0, am 37 5, a 38 (ia 5 36 37), a 39 (f 0 38), a 40 (k 39), a 41 (q 35 40), am 42 41, bb 43 0 42, bb 44 7 42, u 45 (ia 5 43 44) 42, u 46 (f 1 45) 42, u 47 (k 46) 42, bb 48 0 42, bb 49 5 42, u 50 (ia 5 48 49) 42, u 51 (f 1 50) 42, u 52 (k 51) 42, u 53 (bh 47 52) 42, a 54 (ka 42 53)] [0, 5, 7, 54]
 (.cond (.s 54) (rs [o 4 (.mv (j 64))] [4]
 (.ret [4])) .skip)))
 (.reg [om 29 7, o 30 (baj 29 1), om 7 30] none [0, 5, 7])))
def xf_ref05_Log_k0 : List (Nat × Option (Nat × Nat × Bool)) := [(0, none), (5, none)]
def xf_ref05_Log_b0 : XCode := (.seq (rs [om 12 5, om 13 0, o 14 (le 13), o 15 (bl 12 14)] [0, 5, 15]
 (.cond (.s 15) .skip (.exit 0 [])))
 (.seq (.block 1 (rs [om 18 0, om 19 5, o 20 (ia 5 18 19), ol 21 5 20, o 22 (c 173 [21]), om 6 22] [0, 5, 6]
 (.seq (rs [om 23 6, o 24 (nj 23 0)] [0, 5, 6, 24]
 (.cond (.s 24) (rs [om 25 6, om 4 25] [4]
 (.ret [4])) .skip))
 (rs [o 7 (.mv (j 0))] [0, 5, 7]
 (.block 2 (.loop xf_ref05_Log_k1 xf_ref05_Log_b1))))))
 (.reg [om 16 5, o 17 (baj 16 1), om 5 17] none [0, 5])))
def xf_ref05_Log : XFunc := ⟨none, true, 2, [.tmp 4], (rs [o 4 (.mv (j 0))] [0, 1]
 (.seq (rs [om 8 0, o 9 (le 8), om 10 1, o 11 (bg 9 10)] [0, 11]
 (.cond (.s 11) (rs [o 4 (.mv (j 60))] [4]
 (.ret [4])) .skip))
 (.seq (rs [o 5 (.mv (j 0))] [0, 5]
 (.block 0 (.loop xf_ref05_Log_k0 xf_ref05_Log_b0)))
 (rs [o 4 (.mv (j 0))] [4]
 (.ret [4])))))⟩

def xf_ref07_entry : XFunc := ⟨none, true, 2, [.tmp 4], (rs [o 3 (bx 1), o 4 (.mv (.c w))] [0, 3]
 (.seq (ss [am 5 0, a 6 (qj 5 2), am 7 6, d 8 (m 0) 7, d 9 (qj 8 14) 7, a 10 (ko 7 9)] [0, 3, 10]
 (.cond (.s 10) (ss [a 11 (f 0 3), a 12 (k 11), a 13 (bhj 12 0), am 14 13, b 15 (f 0 3) 14, b 16 (k 15) 14, b 17 (blj 16 16) 14, a 18 (ka 14 17), am 19 18, b 20 (f 1 3) 19, b 21 (k 20) 19, b 22 (bhj 21 1) 19, a 23 (ka 19 22), am 24 23, b 25 (f 2 3) 24, b 26 (l 3 25) 24, b 27 (.build l7 []) 24, b 28 (.eqv false true [.i, .i, .s] (.s 26) (.s 27)) 24, a 29 (ka 24 28), am 4 29] [4]
 (.ret [4])) .skip))
 (ss [a 30 (l 5 3), a 31 (c 173 [30]), a 32 (qj 31 0), am 33 32, bb 34 0 33, b 35 (nj 34 13) 33, bb 36 35 33, d 37 (f 2 3) 36, d 38 (f 0 37) 36, d 39 (k 38) 36, d 40 (qj 39 3) 36, b 41 (ko 36 40) 33, bb 42 41 33, d 43 (f 2 3) 42, d 44 (f 0 43) 42, d 45 (k 44) 42, d 46 (qj 45 4) 42, b 47 (ko 42 46) 33, a 48 (ka 33 47), am 4 48] [4]
 (.ret [4]))))⟩

def xf_ref07_result : XFunc := ⟨none, true, 1, [.tmp 2], (rs [o 1 (bx 0), o 2 (.mv (.c w))] [1]
 (ss [a 4 (f 1 1), a 5 (k 4), a 6 (bhj 5 0), am 7 6, b 8 (f 1 1) 7, b 9 (k 8) 7, b 10 (blj 9 1024) 7, a 11 (ka 7 10), am 3 11] [1, 3]
 (.seq (rs [of 12 0 1, o 13 (k 12)] [1, 3, 13]
 (.block 0 (.seq (rs [o 15 (qj 13 1), om 14 15] [1, 3, 13, 14]
 (.cond (.s 14) .skip (rs [o 16 (qj 13 2), om 14 16] [1, 3, 13, 14]
 (.cond (.s 14) .skip (.reg [o 17 (qj 13 4), om 14 17] none [1, 3, 13, 14])))))
 (.cond (.s 14) (ss [am 18 3, am 19 18, b 20 (f 2 1) 19, b 21 (k 20) 19, b 22 (.len true (.s 21)) 19, b 23 (bmj 22 64) 19, a 24 (ka 19 23), am 2 24] [2]
 (.ret [2])) (rs [o 26 (qj 13 5), om 25 26] [1, 3, 13, 25]
 (.cond (.s 25) (ss [am 27 3, am 28 27, b 29 (f 2 1) 28, b 30 (k 29) 28, b 31 (.eqv false false [.s] (.s 30) (.c x)) 28, a 32 (ka 28 31), am 2 32] [2]
 (.ret [2])) (rs [o 34 (qj 13 6), om 33 34] [1, 13, 33]
 (.cond (.s 33) (ss [a 35 (f 1 1), a 36 (k 35), a 37 (bhj 36 0), am 38 37, b 39 (f 1 1) 38, b 40 (k 39) 38, b 41 (bmj 40 1024) 38, a 42 (ka 38 41), am 43 42, b 44 (f 2 1) 43, b 45 (k 44) 43, b 46 (.eqv false false [.s] (.s 45) (.c x)) 43, a 47 (ka 43 46), am 2 47] [2]
 (.ret [2])) (.seq (rs [o 49 (qj 13 3), om 48 49] [1, 13, 48]
 (.cond (.s 48) .skip (.reg [o 50 (qj 13 7), om 48 50] none [1, 48])))
 (.cond (.s 48) (ss [a 51 (f 1 1), a 52 (k 51), a 53 (qj 52 0), am 54 53, b 55 (f 2 1) 54, b 56 (k 55) 54, b 57 (.eqv false false [.s] (.s 56) (.c x)) 54, a 58 (ka 54 57), am 2 58] [2]
 (.ret [2])) .skip))))))))))
 (rs [o 2 (.mv (.c w))] [2]
 (.ret [2])))))⟩

def xf_core_voters_k0 : List (Nat × Option (Nat × Nat × Bool)) := [(1, none), (2, none), (3, none), (13, some (67, 4, true)), (14, none), (15, none)]
def xf_core_voters_b0 : XCode := (rs [o 16 (bl 15 14)] [1, 2, 3, 13, 14, 15, 16]
 (.seq (.cond (.s 16) .skip (.exit 0 [1, 2, 3]))
 (.seq (.block 1 (rs [o 17 (ia 4 13 15), ol 18 4 17, o 5 (.alloc l10), p (t 4 5 18)] [1, 2, 3, 5, 13, 14, 15]
 (.reg [o 19 (.aadr 1 4 (.s 3) (j 0)), o 20 (k 19), of 21 0 5, o 22 (k 21), of 23 1 5, ol 24 2 23, o 25 (.build l8 [(0, 1, (.s 22)), (1, 2, (.s 24))]), o 26 (.bsl 228 3 true 1 l8 [(0, 3, (.s 25))]), o 27 (.app 228 3 24 true (.s 20) (.s 26)), o 28 (.aadr 1 4 (.s 3) (j 0)), p (t 1 28 27)] none [1, 2, 3, 13, 14, 15])))
 (.reg [o 29 (baj 15 1), om 15 29] none [1, 2, 3, 13, 14, 15]))))
def xf_core_voters_k1 : List (Nat × Option (Nat × Nat × Bool)) := [(1, none), (2, none), (3, none), (31, some (69, 3, true)), (32, none), (33, none)]
def xf_core_voters_b1 : XCode := (rs [o 34 (bl 33 32)] [1, 2, 3, 31, 32, 33, 34]
 (.seq (.cond (.s 34) .skip (.exit 2 [1, 2, 3]))
 (.seq (.block 3 (rs [o 35 (ia 3 31 33), ol 36 3 35, o 7 (.alloc l8), p (t 3 7 36)] [1, 2, 3, 7, 31, 32, 33]
 (.reg [o 37 (.aadr 1 4 (.s 3) (j 1)), o 38 (k 37), of 39 0 7, o 40 (k 39), of 41 1 7, ol 42 2 41, o 43 (.build l8 [(0, 1, (.s 40)), (1, 2, (.s 42))]), o 44 (.bsl 228 3 true 1 l8 [(0, 3, (.s 43))]), o 45 (.app 228 3 24 true (.s 38) (.s 44)), o 46 (.aadr 1 4 (.s 3) (j 1)), p (t 1 46 45)] none [1, 2, 3, 31, 32, 33])))
 (.reg [o 47 (baj 33 1), om 33 47] none [1, 2, 3, 31, 32, 33]))))
def xf_core_voters_k2 : List (Nat × Option (Nat × Nat × Bool)) := [(1, none), (2, none), (3, none), (49, some (71, 6, false)), (50, none), (51, none)]
def xf_core_voters_b2 : XCode := (rs [o 52 (bl 51 50)] [1, 2, 3, 49, 50, 51, 52]
 (.seq (.cond (.s 52) .skip (.exit 4 [1, 2, 3]))
 (.seq (.block 5 (rs [o 53 (ia 6 49 51), ol 54 6 53, o 9 (.alloc l2), p (t 6 9 54)] [1, 2, 3, 9, 49, 50, 51]
 (.reg [o 55 (.aadr 1 4 (.s 3) (j 2)), o 56 (k 55), of 57 0 9, o 58 (k 57), of 59 1 9, ol 60 2 59, o 61 (.build l8 [(0, 1, (.s 58)), (1, 2, (.s 60))]), o 62 (.bsl 228 3 true 1 l8 [(0, 3, (.s 61))]), o 63 (.app 228 3 24 true (.s 56) (.s 62)), o 64 (.aadr 1 4 (.s 3) (j 2)), p (t 1 64 63)] none [1, 2, 3, 49, 50, 51])))
 (.reg [o 65 (baj 51 1), om 51 65] none [1, 2, 3, 49, 50, 51]))))
def xf_core_voters_k3 : List (Nat × Option (Nat × Nat × Bool)) := [(2, none), (3, none), (67, some (73, 6, false)), (68, none), (69, none)]
def xf_core_voters_b3 : XCode := (rs [o 70 (bl 69 68)] [2, 3, 67, 68, 69, 70]
 (.seq (.cond (.s 70) .skip (.exit 6 [2, 3]))
 (.seq (.block 7 (rs [o 71 (ia 6 67 69), ol 72 6 71, o 11 (.alloc l2), p (t 6 11 72)] [2, 3, 11, 67, 68, 69]
 (.reg [o 73 (.aadr 1 4 (.s 3) (j 3)), o 74 (k 73), of 75 0 11, o 76 (k 75), of 77 1 11, ol 78 2 77, o 79 (.build l8 [(0, 1, (.s 76)), (1, 2, (.s 78))]), o 80 (.bsl 228 3 true 1 l8 [(0, 3, (.s 79))]), o 81 (.app 228 3 24 true (.s 74) (.s 80)), o 82 (.aadr 1 4 (.s 3) (j 3)), p (t 1 82 81)] none [2, 3, 67, 68, 69])))
 (.reg [o 83 (baj 69 1), om 69 83] none [2, 3, 67, 68, 69]))))
def xf_core_voters : XFunc := ⟨none, true, 1, [.cell 2 (some 4)], (rs [o 1 (bx 0), o 2 (.alloc l12)] [1, 2]
 (rs [o 3 (.alloc l12)] [1, 2, 3]
 (.seq (rs [of 12 8 1, o 13 (k 12), o 14 (le 13), o 15 (.mv (j 0))] [1, 2, 3, 13, 14, 15]
 (.block 0 (.loop xf_core_voters_k0 xf_core_voters_b0)))
 (.seq (rs [of 30 9 1, o 31 (k 30), o 32 (le 31), o 33 (.mv (j 0))] [1, 2, 3, 31, 32, 33]
 (.block 2 (.loop xf_core_voters_k1 xf_core_voters_b1)))
 (.seq (rs [of 48 10 1, o 49 (k 48), o 50 (le 49), o 51 (.mv (j 0))] [1, 2, 3, 49, 50, 51]
 (.block 4 (.loop xf_core_voters_k2 xf_core_voters_b2)))
 (.seq (rs [of 66 11 1, o 67 (k 66), o 68 (le 67), o 69 (.mv (j 0))] [2, 3, 67, 68, 69]
 (.block 6 (.loop xf_core_voters_k3 xf_core_voters_b3)))
 (rs [ol 84 4 3, p (t 4 2 84)] [2]
 (.ret [2]))))))))⟩

def xf_client_check_k0 : List (Nat × Option (Nat × Nat × Bool)) := [(3, none), (12, some (38, 5, true)), (13, none), (14, none)]
def xf_client_check_b0 : XCode := (rs [o 15 (bl 14 13)] [3, 12, 13, 14, 15]
 (.seq (.cond (.s 15) .skip (.exit 0 []))
 (.seq (.block 1 (rs [o 16 (ia 5 12 14), ol 17 5 16, o 5 (.alloc l11), p (t 5 5 17)] [3, 5, 12, 13, 14]
 (.seq (rs [of 18 0 5, o 19 (k 18), of 20 1 5, o 21 (k 20), o 22 (c 174 [19, 21]), om 6 22] [3, 5, 6, 12, 13, 14]
 (rs [om 23 6, o 24 (nj 23 0)] [3, 5, 6, 12, 13, 14, 24]
 (.cond (.s 24) (rs [om 25 6, om 2 25] [2]
 (.ret [2])) .skip)))
 (.seq (rs [of 26 2 5, ol 27 3 26, o 28 (c 169 [27]), om 7 28] [3, 5, 7, 12, 13, 14]
 (rs [om 29 7, o 30 (nj 29 0)] [3, 5, 7, 12, 13, 14, 30]
 (.cond (.s 30) (rs [om 31 7, om 2 31] [2]
 (.ret [2])) .skip)))
 (.seq (rs [of 32 1 5, o 33 (k 32), om 34 3, of 35 0 5, o 36 (k 35), o 37 (.mget false (.int .i64 0) (.s 34) (.s 36)), o 38 (bm 33 37)] [3, 5, 12, 13, 14, 38]
 (.cond (.s 38) (rs [o 2 (.mv (j 64))] [2]
 (.ret [2])) .skip))
 (.reg [om 39 3, of 40 0 5, o 41 (k 40), of 42 1 5, o 43 (k 42), p (.mput (.s 39) (.s 41) (.s 43))] none [3, 12, 13, 14]))))))
 (.reg [o 44 (baj 14 1), om 14 44] none [3, 12, 13, 14]))))
def xf_client_check : XFunc := ⟨none, true, 1, [.tmp 2], (rs [o 2 (.mv (j 0))] [0]
 (.seq (rs [om 8 0, o 9 (le 8), o 10 (bgj 9 256)] [0, 10]
 (.cond (.s 10) (rs [o 2 (.mv (j 60))] [2]
 (.ret [2])) .skip))
 (rs [o 11 .mkmap, om 3 11] [0, 3]
 (.seq (rs [om 12 0, o 13 (le 12), o 14 (.mv (j 0))] [3, 12, 13, 14]
 (.block 0 (.loop xf_client_check_k0 xf_client_check_b0)))
 (rs [o 2 (.mv (j 0))] [2]
 (.ret [2]))))))⟩

def xf_client_rows_k0 : List (Nat × Option (Nat × Nat × Bool)) := [(5, some (159, 7, true)), (6, none), (12, some (38, 5, true)), (13, none), (14, none)]
def xf_client_rows_b0 : XCode := (rs [o 15 (bl 14 13)] [5, 6, 12, 13, 14, 15]
 (.seq (.cond (.s 15) .skip (.exit 0 [5]))
 (.seq (.block 1 (rs [om 16 14, o 17 (ia 5 12 14), ol 18 5 17, o 8 (.alloc l11), om 7 16, p (t 5 8 18)] [5, 6, 7, 8, 12, 13, 14]
 (.reg [om 19 5, of 20 0 8, o 21 (k 20), of 22 1 8, o 23 (k 22), om 24 7, o 25 (baj 24 1), om 26 6, of 27 2 8, ol 28 3 27, o 29 (c 176 [26, 28]), o 30 (.build l9 [(0, 1, (.s 21)), (1, 1, (.s 23)), (2, 1, (.s 25)), (3, 1, (.c v)), (4, 3, (.s 29))]), o 31 (.bsl 159 7 true 1 l9 [(0, 7, (.s 30))]), o 32 (.app 159 7 64 true (.s 19) (.s 31)), om 5 32] (some [(2, 10), (4, 10)]) [5, 6, 12, 13, 14])))
 (.reg [o 33 (baj 14 1), om 14 33] none [5, 6, 12, 13, 14]))))
def xf_client_rows : XFunc := ⟨none, true, 2, [.tmp 4], (rs [o 4 (.mv (.c (.nil 159 7 true)))] [0, 1]
 (rs [o 5 (.mv (.c (.nil 159 7 true)))] [0, 1, 5]
 (rs [o 9 (c 175 []), om 6 9] [0, 1, 5, 6]
 (.seq (rs [om 10 0, om 11 1, o 12 (.slice 5 (.s 10) none (some (.s 11))), o 13 (le 12), o 14 (.mv (j 0))] [5, 6, 12, 13, 14]
 (.block 0 (.loop xf_client_rows_k0 xf_client_rows_b0)))
 (rs [om 34 5, om 4 34] [4]
 (.ret [4]))))))⟩

def xf_plain_markByte : XFunc := ⟨none, true, 2, [.tmp 4], (rs [o 4 (.mv (.c (.dat (.int .u8 0))))] [0, 1]
 (rs [om 5 0, o 6 (.bin .mul (.s 5) (j 31)), om 7 1, o 8 (.bin .mul (.s 7) (j 7)), o 9 (ba 6 8), o 10 (baj 9 5), o 11 (.conv .u8 (.s 10)), om 4 11] [4]
 (.ret [4])))⟩

def xf_plain_markInt : XFunc := ⟨none, true, 2, [.tmp 4], (rs [o 4 (.mv (j 0))] [0, 1]
 (rs [om 5 0, o 6 (baj 5 1), o 7 (.bin .mul (j 100003) (.s 6)), o 8 (.bin .sub (j (-1)) (.s 7)), om 9 1, o 10 (.bin .mul (j 7) (.s 9)), o 11 (bs 8 10), om 4 11] [4]
 (.ret [4])))⟩
theorem r_core_normal : progT Tryz.prog 76 = some xf_core_normal.plain := by kernel_rfl
theorem r_core_changing : progT Tryz.prog 77 = some xf_core_changing.plain := by kernel_rfl
theorem r_core_recovering : progT Tryz.prog 78 = some xf_core_recovering.plain := by kernel_rfl
theorem r_vector_speaks : progT Tryz.prog 79 = some xf_vector_speaks.plain := by kernel_rfl
theorem r_slices_EqualFunc_Ballot_Ballot_Ballot_Ballot : progT Tryz.prog 80 = some xf_slices_EqualFunc_Ballot_Ballot_Ballot_Ballot.plain := by kernel_rfl
theorem r_core_Alike_1 : progT Tryz.prog 81 = some xf_core_Alike_1.plain := by kernel_rfl
theorem r_slices_Equal_Entry_Entry : progT Tryz.prog 82 = some xf_slices_Equal_Entry_Entry.plain := by kernel_rfl
theorem r_slices_EqualFunc_Answer_Answer_Answer_Answer : progT Tryz.prog 83 = some xf_slices_EqualFunc_Answer_Answer_Answer_Answer.plain := by kernel_rfl
theorem r_core_Alike_2 : progT Tryz.prog 84 = some xf_core_Alike_2.plain := by kernel_rfl
theorem r_slices_Equal_Vector_Draw : progT Tryz.prog 85 = some xf_slices_Equal_Vector_Draw.plain := by kernel_rfl
theorem r_slices_Equal_Ack_Ack : progT Tryz.prog 86 = some xf_slices_Equal_Ack_Ack.plain := by kernel_rfl
theorem r_slices_Equal_Mark_Mark : progT Tryz.prog 87 = some xf_slices_Equal_Mark_Mark.plain := by kernel_rfl
theorem r_ref09_self : progT Tryz.prog 88 = some xf_ref09_self.plain := by kernel_rfl
theorem r_ref09_Nodes : progT Tryz.prog 89 = some xf_ref09_Nodes.plain := by kernel_rfl
theorem r_client_Between : progT Tryz.prog 90 = some xf_client_Between.plain := by kernel_rfl
theorem r_core_out : progT Tryz.prog 91 = some xf_core_out.plain := by kernel_rfl
theorem r_core_self : progT Tryz.prog 92 = some xf_core_self.plain := by kernel_rfl
theorem r_vector_New : progT Tryz.prog 93 = some xf_vector_New.plain := by kernel_rfl
theorem r_plain_Book_Entries : progT Tryz.prog 94 = some xf_plain_Book_Entries.plain := by kernel_rfl
theorem r_plain_Book_Vector : progT Tryz.prog 95 = some xf_plain_Book_Vector.plain := by kernel_rfl
theorem r_plain_Book_Acks : progT Tryz.prog 96 = some xf_plain_Book_Acks.plain := by kernel_rfl
theorem r_plain_Book_Marks : progT Tryz.prog 97 = some xf_plain_Book_Marks.plain := by kernel_rfl
theorem r_plain_Book_apartBytes : progT Tryz.prog 98 = some xf_plain_Book_apartBytes.plain := by kernel_rfl
theorem r_plain_Book_apartInts : progT Tryz.prog 99 = some xf_plain_Book_apartInts.plain := by kernel_rfl
theorem r_plain_Book_apartVector : progT Tryz.prog 100 = some xf_plain_Book_apartVector.plain := by kernel_rfl
theorem r_plain_Book_apartEntries : progT Tryz.prog 101 = some xf_plain_Book_apartEntries.plain := by kernel_rfl
theorem r_plain_Book_apartCells : progT Tryz.prog 102 = some xf_plain_Book_apartCells.plain := by kernel_rfl
theorem r_plain_Book_apartRows : progT Tryz.prog 103 = some xf_plain_Book_apartRows.plain := by kernel_rfl
theorem r_plain_Book_apartResults : progT Tryz.prog 104 = some xf_plain_Book_apartResults.plain := by kernel_rfl
theorem r_plain_Book_apartStamps : progT Tryz.prog 105 = some xf_plain_Book_apartStamps.plain := by kernel_rfl
theorem r_plain_Book_apartAcks : progT Tryz.prog 106 = some xf_plain_Book_apartAcks.plain := by kernel_rfl
theorem r_plain_Book_apartMarks : progT Tryz.prog 107 = some xf_plain_Book_apartMarks.plain := by kernel_rfl
theorem r_ref09_Primary : progT Tryz.prog 108 = some xf_ref09_Primary.plain := by kernel_rfl
theorem r_ref05_Between : progT Tryz.prog 109 = some xf_ref05_Between.plain := by kernel_rfl
theorem r_plain_SameMsg : progT Tryz.prog 110 = some xf_plain_SameMsg.plain := by kernel_rfl
theorem r_message_config : progT Tryz.prog 111 = some xf_message_config.plain := by kernel_rfl
theorem r_message_is : progT Tryz.prog 112 = some xf_message_is.plain := by kernel_rfl
theorem r_message_unused : progT Tryz.prog 113 = some xf_message_unused.plain := by kernel_rfl
theorem r_message_numbers : progT Tryz.prog 114 = some xf_message_numbers.plain := by kernel_rfl
theorem r_message_asks : progT Tryz.prog 115 = some xf_message_asks.plain := by kernel_rfl
theorem r_message_answers : progT Tryz.prog 116 = some xf_message_answers.plain := by kernel_rfl
theorem r_message_reads : progT Tryz.prog 117 = some xf_message_reads.plain := by kernel_rfl
theorem r_vector_fits : progT Tryz.prog 125 = some xf_vector_fits.plain := by kernel_rfl
theorem r_tally_turned_ack_Ack : progT Tryz.prog 126 = some xf_tally_turned_ack_Ack.plain := by kernel_rfl
theorem r_tally_turned_Ack_ack : progT Tryz.prog 127 = some xf_tally_turned_Ack_ack.plain := by kernel_rfl
theorem r_tally_toAck : progT Tryz.prog 128 = some xf_tally_toAck.plain := by kernel_rfl
theorem r_tally_box_ack_prune : progT Tryz.prog 129 = some xf_tally_box_ack_prune.plain := by kernel_rfl
theorem r_tally_fromAck : progT Tryz.prog 130 = some xf_tally_fromAck.plain := by kernel_rfl
theorem r_tally_turned_mark_Mark : progT Tryz.prog 131 = some xf_tally_turned_mark_Mark.plain := by kernel_rfl
theorem r_tally_turned_Mark_mark : progT Tryz.prog 132 = some xf_tally_turned_Mark_mark.plain := by kernel_rfl
theorem r_tally_toMark : progT Tryz.prog 133 = some xf_tally_toMark.plain := by kernel_rfl
theorem r_tally_box_mark_prune : progT Tryz.prog 134 = some xf_tally_box_mark_prune.plain := by kernel_rfl
theorem r_tally_fromMark : progT Tryz.prog 135 = some xf_tally_fromMark.plain := by kernel_rfl
theorem r_tally_turned_ballot_Ballot : progT Tryz.prog 136 = some xf_tally_turned_ballot_Ballot.plain := by kernel_rfl
theorem r_tally_turned_Ballot_ballot : progT Tryz.prog 137 = some xf_tally_turned_Ballot_ballot.plain := by kernel_rfl
theorem r_tally_toBallot : progT Tryz.prog 138 = some xf_tally_toBallot.plain := by kernel_rfl
theorem r_tally_box_ballot_prune : progT Tryz.prog 139 = some xf_tally_box_ballot_prune.plain := by kernel_rfl
theorem r_tally_fromBallot : progT Tryz.prog 140 = some xf_tally_fromBallot.plain := by kernel_rfl
theorem r_tally_turned_answer_Answer : progT Tryz.prog 141 = some xf_tally_turned_answer_Answer.plain := by kernel_rfl
theorem r_tally_turned_Answer_answer : progT Tryz.prog 142 = some xf_tally_turned_Answer_answer.plain := by kernel_rfl
theorem r_tally_toAnswer : progT Tryz.prog 143 = some xf_tally_toAnswer.plain := by kernel_rfl
theorem r_tally_box_answer_prune : progT Tryz.prog 144 = some xf_tally_box_answer_prune.plain := by kernel_rfl
theorem r_tally_fromAnswer : progT Tryz.prog 145 = some xf_tally_fromAnswer.plain := by kernel_rfl
theorem r_ref02_Compare : progT Tryz.prog 146 = some xf_ref02_Compare.plain := by kernel_rfl
theorem r_ref09_logged : progT Tryz.prog 147 = some xf_ref09_logged.plain := by kernel_rfl
theorem r_ref09_votes : progT Tryz.prog 148 = some xf_ref09_votes.plain := by kernel_rfl
theorem r_ref09_recovering : progT Tryz.prog 149 = some xf_ref09_recovering.plain := by kernel_rfl
theorem r_ref05_Log : progT Tryz.prog 150 = some xf_ref05_Log.plain := by kernel_rfl
theorem r_ref07_entry : progT Tryz.prog 151 = some xf_ref07_entry.plain := by kernel_rfl
theorem r_ref07_result : progT Tryz.prog 152 = some xf_ref07_result.plain := by kernel_rfl
theorem r_core_voters : progT Tryz.prog 153 = some xf_core_voters.plain := by kernel_rfl
theorem r_client_check : progT Tryz.prog 154 = some xf_client_check.plain := by kernel_rfl
theorem r_client_rows : progT Tryz.prog 155 = some xf_client_rows.plain := by kernel_rfl
theorem r_plain_markByte : progT Tryz.prog 156 = some xf_plain_markByte.plain := by kernel_rfl
theorem r_plain_markInt : progT Tryz.prog 157 = some xf_plain_markInt.plain := by kernel_rfl

end Go.Ax
