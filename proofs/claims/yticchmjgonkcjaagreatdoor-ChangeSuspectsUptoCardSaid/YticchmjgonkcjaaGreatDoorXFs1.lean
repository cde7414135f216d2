/-
  The functions of this seat as resolved code, and that the program resolves to them (part 2).
-/
import Derived.Test.YticchmjgonkcjaaGreatDoorXComp
import Derived.Test.YticchmjgonkcjaaGreatDoorXFn
import Derived.Test.YticchmjgonkcjaaGreatDoorXG
import Derived.Test.YticchmjgonkcjaaGreatDoorXP
import Derived.Test.YticchmjgonkcjaaGreatDoorProg
import Derived.KernelRfl
namespace Go.Ax
set_option linter.all false
open Go.Proofs P

def xf_ref09_Admit_k0 : List (Nat × Option (Nat × Nat × Bool)) := [(5, none), (6, none), (10, none), (11, none)]
def xf_ref09_Admit_b0 : XCode := (.seq (rs [om 73 11, of 74 17 5, o 75 (k 74), o 76 (le 75), o 77 (bl 73 76)] [5, 6, 10, 11, 77]
 (.cond (.s 77) .skip (.exit 1 [6, 10])))
 (.seq (.block 2 (rp (some []) [of 80 6 10, o 81 (k 80), om 82 11, o 83 (ia 2 81 82), ol 84 2 83, of 85 17 5, o 86 (k 85), om 87 11, o 88 (ia 2 86 87), ol 89 2 88, o 90 (c 108 [84, 89])] [5, 6, 10, 11, 90]
 (.cond (.s 90) (.reg [of 91 6 10, o 92 (k 91), om 93 11, of 94 17 5, o 95 (k 94), om 96 11, o 97 (ia 2 95 96), ol 98 2 97, o 99 (ia 2 92 93), p (t 2 99 98)] (some []) [5, 6, 10, 11]) .skip)))
 (.reg [om 78 11, o 79 (baj 78 1), om 11 79] none [5, 6, 10, 11])))
def xf_ref09_Admit : XFunc := ⟨none, true, 3, [.cell 6 (some 12), .tmp 7, .tmp 8], (rs [o 3 (bx 0), o 4 (bx 1), o 5 (bx 2), o 6 (.alloc l1), o 7 (.mv (.c w)), o 8 (.mv (j 0))] [3, 4, 5, 6]
 (rs [ol 12 4 3, ol 13 12 4, o 14 (c 48 [12, 13]), om 9 14] [3, 4, 5, 6, 9]
 (.seq (rs [om 15 9, o 16 (qj 15 0)] [3, 4, 5, 6, 9, 16]
 (.cond (.s 16) (.reg [ol 17 4 3, ol 18 18 5, o 19 (c 58 [17, 18]), om 9 19] none [3, 4, 5, 6, 9]) .skip))
 (.seq (rs [om 20 9, o 21 (nj 20 0)] [3, 4, 5, 6, 9, 21]
 (.cond (.s 21) (rs [o 22 (.build l1 []), om 23 9, p (t 12 6 22), o 7 (.mv (.c w)), om 8 23] [6, 7, 8]
 (.ret [6, 7, 8])) .skip))
 (rs [ol 24 12 4, o 25 (c 25 [24]), o 10 (.alloc l1), p (t 12 10 25)] [3, 4, 5, 6, 10]
 (.seq (.block 0 (rs [of 27 0 5, o 28 (k 27), o 29 (c 107 [28]), o 30 (nt 29), om 26 30] [3, 4, 5, 6, 10, 26]
 (.cond (.s 26) (rs [ol 31 12 10, p (t 12 6 31), o 7 (.mv (.c v)), o 8 (.mv (j 0))] [6, 7, 8]
 (.ret [6, 7, 8])) (rs [of 33 1 5, o 34 (k 33), of 35 0 4, o 36 (k 35), o 37 (q 34 36), om 32 37] [3, 4, 5, 6, 10, 32]
 (.cond (.s 32) (rs [ol 38 12 10, p (t 12 6 38), o 7 (.mv (.c w)), o 8 (.mv (j 0))] [6, 7, 8]
 (.ret [6, 7, 8])) (rs [of 40 3 3, o 41 (k 40), om 39 41] [4, 5, 6, 10, 39]
 (.cond (.s 39) (rs [ol 42 12 10, p (t 12 6 42), o 7 (.mv (.c v)), o 8 (.mv (j 0))] [6, 7, 8]
 (.ret [6, 7, 8])) (sp (some []) [a 44 (f 17 5), a 45 (k 44), a 46 (f 1 5), a 47 (k 46), a 48 (ia 2 45 47), a 49 (l 2 48), a 50 (f 6 4), a 51 (k 50), a 52 (f 1 5), a 53 (k 52), a 54 (ia 2 51 53), a 55 (l 2 54), a 56 (c 108 [49, 55]), am 57 56, d 58 (f 6 4) 57, d 59 (k 58) 57, d 60 (f 0 4) 57, d 61 (k 60) 57, r 62 (ia 2 59 61) 57, r 63 (l 2 62) 57, d 64 (f 17 5) 57, d 65 (k 64) 57, d 66 (f 0 4) 57, d 67 (k 66) 57, r 68 (ia 2 65 67) 57, r 69 (l 2 68) 57, r 70 (c 108 [63, 69]) 57, a 71 (ko 57 70), am 43 71] [5, 6, 10, 43]
 (.cond (.s 43) (rs [ol 72 12 10, p (t 12 6 72), o 7 (.mv (.c w)), o 8 (.mv (j 0))] [6, 7, 8]
 (.ret [6, 7, 8])) .skip)))))))))
 (.seq (rs [o 11 (.mv (j 0))] [5, 6, 10, 11]
 (.block 1 (.loop xf_ref09_Admit_k0 xf_ref09_Admit_b0)))
 (rs [ol 100 12 10, o 101 (c 109 [100]), p (t 12 6 101), o 7 (.mv (.c v)), o 8 (.mv (j 0))] [6, 7, 8]
 (.ret [6, 7, 8])))))))))⟩

def xf_plain_sameAcks_k0 : List (Nat × Option (Nat × Nat × Bool)) := [(0, none), (1, none), (5, none)]
def xf_plain_sameAcks_b0 : XCode := (.seq (rs [om 11 5, om 12 0, o 13 (le 12), o 14 (bl 11 13)] [0, 1, 5, 14]
 (.cond (.s 14) .skip (.exit 0 [])))
 (.seq (.block 1 (rp (some []) [om 17 0, om 18 5, o 19 (ia 4 17 18), ol 20 4 19, om 21 1, om 22 5, o 23 (ia 4 21 22), ol 24 4 23, o 25 (.eqv true true [.i, .i, .i, .i] (.s 20) (.s 24))] [0, 1, 5, 25]
 (.cond (.s 25) (rs [o 4 (.mv (.c w))] [4]
 (.ret [4])) .skip)))
 (.reg [om 15 5, o 16 (baj 15 1), om 5 16] none [0, 1, 5])))
def xf_plain_sameAcks : XFunc := ⟨none, true, 2, [.tmp 4], (rs [o 4 (.mv (.c w))] [0, 1]
 (.seq (rs [om 6 0, o 7 (le 6), om 8 1, o 9 (le 8), o 10 (n 7 9)] [0, 1, 10]
 (.cond (.s 10) (rs [o 4 (.mv (.c w))] [4]
 (.ret [4])) .skip))
 (.seq (rs [o 5 (.mv (j 0))] [0, 1, 5]
 (.block 0 (.loop xf_plain_sameAcks_k0 xf_plain_sameAcks_b0)))
 (rs [o 4 (.mv (.c v))] [4]
 (.ret [4])))))⟩

def xf_plain_sameMarks_k0 : List (Nat × Option (Nat × Nat × Bool)) := [(0, none), (1, none), (5, none)]
def xf_plain_sameMarks_b0 : XCode := (.seq (rs [om 11 5, om 12 0, o 13 (le 12), o 14 (bl 11 13)] [0, 1, 5, 14]
 (.cond (.s 14) .skip (.exit 0 [])))
 (.seq (.block 1 (rp (some []) [om 17 0, om 18 5, o 19 (ia 3 17 18), ol 20 3 19, om 21 1, om 22 5, o 23 (ia 3 21 22), ol 24 3 23, o 25 (.eqv true true [.i, .i, .i] (.s 20) (.s 24))] [0, 1, 5, 25]
 (.cond (.s 25) (rs [o 4 (.mv (.c w))] [4]
 (.ret [4])) .skip)))
 (.reg [om 15 5, o 16 (baj 15 1), om 5 16] none [0, 1, 5])))
def xf_plain_sameMarks : XFunc := ⟨none, true, 2, [.tmp 4], (rs [o 4 (.mv (.c w))] [0, 1]
 (.seq (rs [om 6 0, o 7 (le 6), om 8 1, o 9 (le 8), o 10 (n 7 9)] [0, 1, 10]
 (.cond (.s 10) (rs [o 4 (.mv (.c w))] [4]
 (.ret [4])) .skip))
 (.seq (rs [o 5 (.mv (j 0))] [0, 1, 5]
 (.block 0 (.loop xf_plain_sameMarks_k0 xf_plain_sameMarks_b0)))
 (rs [o 4 (.mv (.c v))] [4]
 (.ret [4])))))⟩

def xf_plain_SameBallots_k0 : List (Nat × Option (Nat × Nat × Bool)) := [(0, none), (1, none), (5, none)]
def xf_plain_SameBallots_b0 : XCode := (.seq (rs [om 11 5, om 12 0, o 13 (le 12), o 14 (bl 11 13)] [0, 1, 5, 14]
 (.cond (.s 14) .skip (.exit 0 [])))
 (.seq (.block 1 (sp (some []) [am 17 0, am 18 5, a 19 (ia 6 17 18), a 20 (f 0 19), a 21 (k 20), am 22 1, am 23 5, a 24 (ia 6 22 23), a 25 (f 0 24), a 26 (k 25), a 27 (n 21 26), am 28 27, d 29 (m 0) 28, d 30 (m 5) 28, r 31 (ia 6 29 30) 28, r 32 (f 1 31) 28, r 33 (l 2 32) 28, d 34 (m 1) 28, d 35 (m 5) 28, r 36 (ia 6 34 35) 28, r 37 (f 1 36) 28, r 38 (l 2 37) 28, r 39 (.eqv true true [.i, .i] (.s 33) (.s 38)) 28, a 40 (ko 28 39), am 41 40, d 42 (m 0) 41, d 43 (m 5) 41, r 44 (ia 6 42 43) 41, r 45 (f 3 44) 41, r 46 (k 45) 41, d 47 (m 1) 41, d 48 (m 5) 41, r 49 (ia 6 47 48) 41, r 50 (f 3 49) 41, r 51 (k 50) 41, r 52 (n 46 51) 41, a 53 (ko 41 52), am 54 53, d 55 (m 0) 54, d 56 (m 5) 54, r 57 (ia 6 55 56) 54, r 58 (f 4 57) 54, r 59 (k 58) 54, d 60 (m 1) 54, d 61 (m 5) 54, r 62 (ia 6 60 61) 54, r 63 (f 4 62) 54, r 64 (k 63) 54, r 65 (n 59 64) 54, a 66 (ko 54 65), am 67 66, d 68 (m 0) 67, d 69 (m 5) 67, r 70 (ia 6 68 69) 67, r 71 (f 5 70) 67, r 72 (k 71) 67, d 73 (m 1) 67, d 74 (m 5) 67, r 75 (ia 6 73 74) 67, r 76 (f 5 75) 67, r 77 (k 76) 67, r 78 (c 35 [72, 77]) 67, r 79 (nt 78) 67, a 80 (ko 67 79)] [0, 1, 5, 80]
 (.cond (.s 80) (rs [o 4 (.mv (.c w))] [4]
 (.ret [4])) .skip)))
 (.reg [om 15 5, o 16 (baj 15 1), om 5 16] none [0, 1, 5])))
def xf_plain_SameBallots : XFunc := ⟨none, true, 2, [.tmp 4], (rs [o 4 (.mv (.c w))] [0, 1]
 (.seq (rs [om 6 0, o 7 (le 6), om 8 1, o 9 (le 8), o 10 (n 7 9)] [0, 1, 10]
 (.cond (.s 10) (rs [o 4 (.mv (.c w))] [4]
 (.ret [4])) .skip))
 (.seq (rs [o 5 (.mv (j 0))] [0, 1, 5]
 (.block 0 (.loop xf_plain_SameBallots_k0 xf_plain_SameBallots_b0)))
 (rs [o 4 (.mv (.c v))] [4]
 (.ret [4])))))⟩

def xf_plain_SameAnswers_k0 : List (Nat × Option (Nat × Nat × Bool)) := [(0, none), (1, none), (5, none)]
def xf_plain_SameAnswers_b0 : XCode := (.seq (rs [om 11 5, om 12 0, o 13 (le 12), o 14 (bl 11 13)] [0, 1, 5, 14]
 (.cond (.s 14) .skip (.exit 0 [])))
 (.seq (.block 1 (sp (some []) [am 17 0, am 18 5, a 19 (ia 6 17 18), a 20 (f 0 19), a 21 (k 20), am 22 1, am 23 5, a 24 (ia 6 22 23), a 25 (f 0 24), a 26 (k 25), a 27 (n 21 26), am 28 27, d 29 (m 0) 28, d 30 (m 5) 28, r 31 (ia 6 29 30) 28, r 32 (f 1 31) 28, r 33 (l 2 32) 28, d 34 (m 1) 28, d 35 (m 5) 28, r 36 (ia 6 34 35) 28, r 37 (f 1 36) 28, r 38 (l 2 37) 28, r 39 (.eqv true true [.i, .i] (.s 33) (.s 38)) 28, a 40 (ko 28 39), am 41 40, d 42 (m 0) 41, d 43 (m 5) 41, r 44 (ia 6 42 43) 41, r 45 (f 3 44) 41, r 46 (k 45) 41, d 47 (m 1) 41, d 48 (m 5) 41, r 49 (ia 6 47 48) 41, r 50 (f 3 49) 41, r 51 (k 50) 41, r 52 (n 46 51) 41, a 53 (ko 41 52), am 54 53, d 55 (m 0) 54, d 56 (m 5) 54, r 57 (ia 6 55 56) 54, r 58 (f 4 57) 54, r 59 (k 58) 54, d 60 (m 1) 54, d 61 (m 5) 54, r 62 (ia 6 60 61) 54, r 63 (f 4 62) 54, r 64 (k 63) 54, r 65 (n 59 64) 54, a 66 (ko 54 65), am 67 66, d 68 (m 0) 67, d 69 (m 5) 67, r 70 (ia 6 68 69) 67, r 71 (f 5 70) 67, r 72 (k 71) 67, d 73 (m 1) 67, d 74 (m 5) 67, r 75 (ia 6 73 74) 67, r 76 (f 5 75) 67, r 77 (k 76) 67, r 78 (c 35 [72, 77]) 67, r 79 (nt 78) 67, a 80 (ko 67 79)] [0, 1, 5, 80]
 (.cond (.s 80) (rs [o 4 (.mv (.c w))] [4]
 (.ret [4])) .skip)))
 (.reg [om 15 5, o 16 (baj 15 1), om 5 16] none [0, 1, 5])))
def xf_plain_SameAnswers : XFunc := ⟨none, true, 2, [.tmp 4], (rs [o 4 (.mv (.c w))] [0, 1]
 (.seq (rs [om 6 0, o 7 (le 6), om 8 1, o 9 (le 8), o 10 (n 7 9)] [0, 1, 10]
 (.cond (.s 10) (rs [o 4 (.mv (.c w))] [4]
 (.ret [4])) .skip))
 (.seq (rs [o 5 (.mv (j 0))] [0, 1, 5]
 (.block 0 (.loop xf_plain_SameAnswers_k0 xf_plain_SameAnswers_b0)))
 (rs [o 4 (.mv (.c v))] [4]
 (.ret [4])))))⟩

def xf_ref09_CheckConfig : XFunc := ⟨none, true, 1, [.tmp 2], (rs [o 1 (bx 0), o 2 (.mv (j 0))] [1]
 (.seq (rs [ol 3 4 1, o 4 (c 103 [3]), o 5 (nt 4)] [5]
 (.cond (.s 5) (rs [o 2 (.mv (j 1))] [2]
 (.ret [2])) .skip))
 (rs [o 2 (.mv (j 0))] [2]
 (.ret [2]))))⟩

def xf_ref09_Nodes : XFunc := ⟨none, true, 1, [.tmp 2], (rs [o 1 (bx 0), o 2 (.mv (j 0))] [1]
 (.seq (rs [ol 3 4 1, o 4 (c 64 [3]), o 5 (nj 4 0)] [1, 5]
 (.cond (.s 5) (rs [o 2 (.mv (j 0))] [2]
 (.ret [2])) .skip))
 (rs [of 6 0 1, o 7 (k 6), o 8 (.bin .mul (j 2) (.s 7)), o 9 (baj 8 1), om 2 9] [2]
 (.ret [2]))))⟩

def xf_ref11_better : XFunc := ⟨none, true, 2, [.tmp 4], (rs [o 2 (bx 0), o 3 (bx 1), o 4 (.mv (.c w))] [2, 3]
 (.seq (rs [of 5 3 2, o 6 (k 5), of 7 3 3, o 8 (k 7), o 9 (n 6 8)] [2, 3, 9]
 (.cond (.s 9) (rs [of 10 3 2, o 11 (k 10), of 12 3 3, o 13 (k 12), o 14 (bg 11 13), om 4 14] [4]
 (.ret [4])) .skip))
 (.seq (rs [of 15 5 2, o 16 (k 15), o 17 (le 16), of 18 5 3, o 19 (k 18), o 20 (le 19), o 21 (n 17 20)] [2, 3, 21]
 (.cond (.s 21) (rs [of 22 5 2, o 23 (k 22), o 24 (le 23), of 25 5 3, o 26 (k 25), o 27 (le 26), o 28 (bg 24 27), om 4 28] [4]
 (.ret [4])) .skip))
 (rs [of 29 4 2, o 30 (k 29), of 31 4 3, o 32 (k 31), o 33 (bg 30 32), om 4 33] [4]
 (.ret [4])))))⟩

def xf_ref09_Carry_k0 : List (Nat × Option (Nat × Nat × Bool)) := [(4, none), (6, none), (10, none), (11, some (141, 7, true)), (13, some (98, 19, false)), (14, none)]
def xf_ref09_Carry_b0 : XCode := (.seq (rs [om 67 14, om 68 11, o 69 (le 68), o 70 (bl 67 69)] [4, 6, 10, 11, 13, 14, 70]
 (.cond (.s 70) .skip (.exit 0 [6, 10, 13])))
 (.seq (.block 1 (rp (some [(1, 26), (3, 26), (6, 26), (8, 26), (11, 26), (13, 26), (16, 26), (18, 26), (22, 26), (24, 26)]) [of 73 0 4, o 74 (k 73), of 75 2 4, o 76 (k 75), om 77 11, om 78 14, o 79 (ia 7 77 78), of 80 2 79, o 81 (k 80), om 82 11, om 83 14, o 84 (ia 7 82 83), of 85 0 84, o 86 (k 85), om 87 11, om 88 14, o 89 (ia 7 87 88), of 90 1 89, o 91 (k 90), o 92 (.build l13 [(0, 1, (.s 86)), (1, 1, (.s 91))]), om 93 11, om 94 14, o 95 (ia 7 93 94), of 96 4 95, ol 97 3 96, o 98 (.build l4 [(0, 1, (j 2)), (1, 1, (.s 74)), (2, 1, (.s 76)), (11, 1, (.s 81)), (3, 5, (.s 92)), (8, 3, (.s 97))]), o 15 (.alloc l4), p (t 18 15 98)] [4, 6, 10, 11, 13, 14, 15]
 (.reg [om 99 13, om 100 11, om 101 14, o 102 (ia 7 100 101), of 103 0 102, o 104 (k 103), o 105 (.bin .add (j 7) (.s 104)), ol 106 18 15, o 107 (.build l2 [(0, 1, (.s 105)), (1, 18, (.s 106))]), o 108 (.bsl 98 19 false 1 l2 [(0, 19, (.s 107))]), o 109 (.app 98 19 200 false (.s 99) (.s 108)), om 13 109] (some []) [4, 6, 10, 11, 13, 14])))
 (.reg [om 71 14, o 72 (baj 71 1), om 14 72] none [4, 6, 10, 11, 13, 14])))
def xf_ref09_Carry : XFunc := ⟨none, true, 3, [.cell 6 (some 12), .tmp 7, .tmp 8], (rs [o 3 (bx 0), o 4 (bx 1), o 6 (.alloc l1), o 7 (.mv (.c (.nil 98 19 false))), o 8 (.mv (j 0))] [2, 3, 4, 6]
 (rs [ol 16 4 3, ol 17 12 4, o 18 (c 48 [16, 17]), om 9 18] [2, 3, 4, 6, 9]
 (.seq (ss [am 19 9, a 20 (qj 19 0), am 21 20, bb 22 2 21, b 23 (blj 22 0) 21, bb 24 23 21, d 25 (m 2) 24, d 26 (f 4 4) 24, d 27 (k 26) 24, d 28 (le 27) 24, d 29 (bg 25 28) 24, b 30 (ko 24 29) 21, a 31 (ka 21 30)] [2, 3, 4, 6, 9, 31]
 (.cond (.s 31) (.reg [o 9 (.mv (j 3))] none [2, 3, 4, 6, 9]) .skip))
 (.seq (rs [om 32 9, o 33 (nj 32 0)] [2, 3, 4, 6, 9, 33]
 (.cond (.s 33) (rs [o 34 (.build l1 []), om 35 9, p (t 12 6 34), o 7 (.mv (.c (.nil 98 19 false))), om 8 35] [6, 7, 8]
 (.ret [6, 7, 8])) .skip))
 (rs [ol 36 12 4, o 37 (c 25 [36]), o 10 (.alloc l1), p (t 12 10 37)] [2, 3, 4, 6, 10]
 (.seq (rs [om 38 2, of 39 5 4, o 40 (k 39), o 41 (bm 38 40)] [2, 3, 4, 6, 10, 41]
 (.cond (.s 41) (rs [ol 42 12 10, p (t 12 6 42), o 7 (.mv (.c (.nil 98 19 false))), o 8 (.mv (j 0))] [6, 7, 8]
 (.ret [6, 7, 8])) .skip))
 (rs [om 43 2, of 44 5 10, p (t 1 44 43)] [2, 3, 4, 6, 10]
 (.seq (sp (some [(5, 9)]) [a 45 (f 1 4), a 46 (k 45), a 47 (nj 46 1), am 48 47, d 49 (f 0 4) 48, d 50 (k 49) 48, d 51 (l 4 3) 48, d 52 (f 2 4) 48, d 53 (k 52) 48, r 54 (c 38 [51, 53]) 48, r 55 (n 50 54) 48, a 56 (ko 48 55)] [2, 4, 6, 10, 56]
 (.cond (.s 56) (rs [ol 57 12 10, p (t 12 6 57), o 7 (.mv (.c (.nil 98 19 false))), o 8 (.mv (j 0))] [6, 7, 8]
 (.ret [6, 7, 8])) .skip))
 (rs [of 59 4 4, o 60 (k 59), of 61 5 4, o 62 (k 61), om 63 2, o 64 (c 110 [60, 62, 63]), om 58 64, o 65 (e 58 0), o 66 (e 58 1), om 11 65, om 12 66] [4, 6, 10, 11]
 (rs [o 13 (.mv (.c (.nil 98 19 false)))] [4, 6, 10, 11, 13]
 (.seq (rs [o 14 (.mv (j 0))] [4, 6, 10, 11, 13, 14]
 (.block 0 (.loop xf_ref09_Carry_k0 xf_ref09_Carry_b0)))
 (rs [ol 110 12 10, om 111 13, p (t 12 6 110), om 7 111, o 8 (.mv (j 0))] [6, 7, 8]
 (.ret [6, 7, 8])))))))))))))⟩

def xf_ref09_stamped : XFunc := ⟨none, true, 2, [.cell 4 (some 18)], (rs [o 2 (bx 0), o 3 (bx 1), o 4 (.alloc l4)] [2, 3, 4]
 (rs [ol 6 18 3, o 7 (c 111 [6]), o 5 (.alloc l4), p (t 18 5 7)] [2, 3, 4, 5]
 (rs [of 8 0 2, o 9 (k 8), of 10 1 5, p (t 1 10 9)] [2, 3, 4, 5]
 (.seq (rs [of 11 0 3, o 12 (k 11), o 13 (c 107 [12])] [2, 4, 5, 13]
 (.cond (.s 13) (.reg [of 14 6 2, o 15 (k 14), o 16 (c 57 [15]), of 17 17 5, p (t 1 17 16)] none [4, 5]) .skip))
 (rs [ol 18 18 5, p (t 18 4 18)] [4]
 (.ret [4]))))))⟩

def xf_core_CheckConfig : XFunc := ⟨none, true, 1, [.tmp 2], (rs [o 1 (bx 0), o 2 (.mv (j 0))] [1]
 (.seq (ss [a 3 (f 0 1), a 4 (k 3), a 5 (blj 4 1), am 6 5, d 7 (f 0 1) 6, d 8 (k 7) 6, d 9 (bgj 8 3) 6, a 10 (ko 6 9), am 11 10, d 12 (f 1 1) 11, d 13 (k 12) 11, d 14 (blj 13 1) 11, a 15 (ko 11 14), am 16 15, d 17 (f 1 1) 16, d 18 (k 17) 16, d 19 (bgj 18 256) 16, a 20 (ko 16 19), am 21 20, d 22 (f 2 1) 21, d 23 (k 22) 21, d 24 (blj 23 6) 21, a 25 (ko 21 24), am 26 25, d 27 (f 2 1) 26, d 28 (k 27) 26, d 29 (bgj 28 100) 26, a 30 (ko 26 29)] [30]
 (.cond (.s 30) (rs [o 2 (.mv (j 1))] [2]
 (.ret [2])) .skip))
 (rs [o 2 (.mv (j 0))] [2]
 (.ret [2]))))⟩

def xf_core_Nodes : XFunc := ⟨none, true, 1, [.tmp 2], (rs [o 1 (bx 0), o 2 (.mv (j 0))] [1]
 (.seq (rs [ol 3 4 1, o 4 (c 69 [3]), o 5 (nj 4 0)] [1, 5]
 (.cond (.s 5) (rs [o 2 (.mv (j 0))] [2]
 (.ret [2])) .skip))
 (rs [of 6 0 1, o 7 (k 6), o 8 (.bin .mul (j 2) (.s 7)), o 9 (baj 8 1), om 2 9] [2]
 (.ret [2]))))⟩

def xf_core_logged : XFunc := ⟨none, true, 3, [.tmp 6], (rs [o 3 (bx 0), o 6 (.mv (.c w))] [1, 2, 3]
 (rs [om 10 1, of 11 1 3, o 12 (k 11), o 13 (c 91 [10, 12]), om 9 13, o 14 (e 9 0), o 15 (e 9 1), om 7 14, om 8 15] [1, 2, 7]
 (ss [am 16 7, a 17 (qj 16 0), am 18 17, bb 19 2 18, b 20 (bhj 19 0) 18, a 21 (ka 18 20), am 22 21, bb 23 2 22, bb 24 1 22, b 25 (le 24) 22, b 26 (bm 23 25) 22, a 27 (ka 22 26), am 6 27] [6]
 (.ret [6]))))⟩

def xf_core_voted_k1 : List (Nat × Option (Nat × Nat × Bool)) := [(1, none), (3, none), (6, none), (10, none), (11, none), (14, some (179, 3, true)), (15, none), (16, none)]
def xf_core_voted_b1 : XCode := (rs [o 17 (bl 16 15)] [1, 3, 6, 10, 11, 14, 15, 16, 17]
 (.seq (.cond (.s 17) .skip (.exit 2 [1, 3, 10, 11]))
 (.seq (.block 3 (rs [o 18 (ia 3 14 16), ol 19 3 18, o 8 (.alloc l8), p (t 3 8 19)] [1, 3, 6, 8, 10, 11, 14, 15, 16]
 (.seq (sp (some []) [a 20 (f 0 8), a 21 (k 20), am 22 6, a 23 (bm 21 22), am 24 23, d 25 (f 0 8) 24, d 26 (k 25) 24, d 27 (f 6 1) 24, d 28 (k 27) 24, d 29 (le 28) 24, d 30 (bh 26 29) 24, a 31 (ko 24 30), am 32 31, d 33 (f 0 8) 32, d 34 (k 33) 32, d 35 (f 0 1) 32, d 36 (k 35) 32, d 37 (q 34 36) 32, a 38 (ko 32 37), am 39 38, d 40 (f 6 1) 39, d 41 (k 40) 39, d 42 (f 0 8) 39, d 43 (k 42) 39, r 44 (ia 2 41 43) 39, r 45 (l 2 44) 39, d 46 (f 1 8) 39, d 47 (l 2 46) 39, r 48 (.eqv true true [.i, .i] (.s 45) (.s 47)) 39, a 49 (ko 39 48)] [1, 3, 8, 10, 11, 14, 15, 16, 49]
 (.cond (.s 49) (rs [o 3 (.mv (.c w))] [3]
 (.exit 0 [3])) .skip))
 (.reg [of 50 0 8, o 51 (k 50), om 6 51] none [1, 3, 6, 10, 11, 14, 15, 16]))))
 (.reg [o 52 (baj 16 1), om 16 52] none [1, 3, 6, 10, 11, 14, 15, 16]))))
def xf_core_voted_k0 : List (Nat × Option (Nat × Nat × Bool)) := [(1, none), (3, none), (10, none), (11, none)]
def xf_core_voted_b0 : XCode := (rs [o 12 (blj 11 4)] [1, 3, 10, 11, 12]
 (.seq (.cond (.s 12) .skip (.exit 0 [3]))
 (.seq (.block 1 (rs [o 13 (.idx none 1 4 (.s 10) (.s 11)), om 5 13] [1, 3, 5, 10, 11]
 (rs [o 6 (.mv (j (-1)))] [1, 3, 5, 6, 10, 11]
 (rs [om 14 5, o 15 (le 14), o 16 (.mv (j 0))] [1, 3, 6, 10, 11, 14, 15, 16]
 (.block 2 (.loop xf_core_voted_k1 xf_core_voted_b1))))))
 (.reg [o 53 (baj 11 1), om 11 53] none [1, 3, 10, 11]))))
def xf_core_voted : XFunc := ⟨none, true, 1, [.tmp 2], (rs [o 1 (bx 0), o 2 (.mv (.c w))] [1]
 (rs [o 3 (.mv (.c v))] [1, 3]
 (.seq .skip
 (.seq (rs [ol 9 12 1, o 10 (c 112 [9]), o 11 (.mv (j 0))] [1, 3, 10, 11]
 (.block 0 (.loop xf_core_voted_k0 xf_core_voted_b0)))
 (rs [om 54 3, om 2 54] [2]
 (.ret [2]))))))⟩

def xf_core_normal_k0 : List (Nat × Option (Nat × Nat × Bool)) := [(3, none), (39, some (172, 4, true)), (40, none), (41, none)]
def xf_core_normal_b0 : XCode := (rs [o 42 (bl 41 40)] [3, 39, 40, 41, 42]
 (.seq (.cond (.s 42) .skip (.exit 0 [3]))
 (.seq (.block 1 (rs [o 43 (ia 4 39 41), ol 44 4 43, o 6 (.alloc l12), p (t 4 6 44)] [3, 6, 39, 40, 41]
 (ss [a 45 (f 3 6), a 46 (k 45), a 47 (blj 46 1), am 48 47, d 49 (f 3 6) 48, d 50 (k 49) 48, d 51 (f 4 3) 48, d 52 (k 51) 48, d 53 (le 52) 48, d 54 (bg 50 53) 48, a 55 (ko 48 54)] [3, 39, 40, 41, 55]
 (.cond (.s 55) (rs [o 4 (.mv (.c w))] [4]
 (.ret [4])) .skip))))
 (.reg [o 56 (baj 41 1), om 41 56] none [3, 39, 40, 41]))))
def xf_core_normal : XFunc := ⟨none, true, 2, [.tmp 4], (rs [o 2 (bx 0), o 3 (bx 1), o 4 (.mv (.c w))] [2, 3]
 (.seq (ss [a 7 (f 3 3), a 8 (k 7), a 9 (f 2 3), a 10 (k 9), a 11 (n 8 10), am 12 11, d 13 (f 9 3) 12, d 14 (k 13) 12, d 15 (le 14) 12, d 16 (bgj 15 0) 12, a 17 (ko 12 16), am 18 17, d 19 (f 10 3) 18, d 20 (k 19) 18, d 21 (le 20) 18, d 22 (bgj 21 0) 18, a 23 (ko 18 22), am 24 23, d 25 (f 11 3) 24, d 26 (k 25) 24, d 27 (le 26) 24, d 28 (bgj 27 0) 24, a 29 (ko 24 28)] [2, 3, 29]
 (.cond (.s 29) (rs [o 4 (.mv (.c w))] [4]
 (.ret [4])) .skip))
 (.seq (rs [ol 30 4 2, ol 31 12 3, o 32 (c 77 [30, 31]), o 33 (nt 32)] [3, 33]
 (.cond (.s 33) (rs [of 34 8 3, o 35 (k 34), o 36 (le 35), o 37 (qj 36 0), om 4 37] [4]
 (.ret [4])) .skip))
 (.seq (rs [of 38 8 3, o 39 (k 38), o 40 (le 39), o 41 (.mv (j 0))] [3, 39, 40, 41]
 (.block 0 (.loop xf_core_normal_k0 xf_core_normal_b0)))
 (rs [of 57 7 3, o 58 (k 57), o 59 (qj 58 0), om 4 59] [4]
 (.ret [4]))))))⟩

def xf_core_changing_k0 : List (Nat × Option (Nat × Nat × Bool)) := [(2, none), (3, none), (45, some (78, 6, false)), (46, none), (47, none)]
def xf_core_changing_b0 : XCode := (rs [o 48 (bl 47 46)] [2, 3, 45, 46, 47, 48]
 (.seq (.cond (.s 48) .skip (.exit 0 []))
 (.seq (.block 1 (rs [o 49 (ia 6 45 47), ol 50 6 49, o 6 (.alloc l3), p (t 6 6 50)] [2, 3, 6, 45, 46, 47]
 (ss [a 51 (f 3 6), a 52 (k 51), a 53 (blj 52 0), am 54 53, d 55 (f 3 6) 54, d 56 (k 55) 54, d 57 (f 2 3) 54, d 58 (k 57) 54, d 59 (bh 56 58) 54, a 60 (ko 54 59), am 61 60, d 62 (l 4 2) 61, d 63 (f 5 6) 61, d 64 (k 63) 61, d 65 (f 4 6) 61, d 66 (k 65) 61, r 67 (c 71 [62, 64, 66]) 61, r 68 (nt 67) 61, a 69 (ko 61 68)] [2, 3, 45, 46, 47, 69]
 (.cond (.s 69) (rs [o 4 (.mv (.c w))] [4]
 (.ret [4])) .skip))))
 (.reg [o 70 (baj 47 1), om 47 70] none [2, 3, 45, 46, 47]))))
def xf_core_changing : XFunc := ⟨none, true, 2, [.tmp 4], (rs [o 2 (bx 0), o 3 (bx 1), o 4 (.mv (.c w))] [2, 3]
 (.seq (ss [a 7 (f 3 3), a 8 (k 7), a 9 (f 2 3), a 10 (k 9), a 11 (bh 8 10), am 12 11, d 13 (f 8 3) 12, d 14 (k 13) 12, d 15 (le 14) 12, d 16 (bgj 15 0) 12, a 17 (ko 12 16), am 18 17, d 19 (f 11 3) 18, d 20 (k 19) 18, d 21 (le 20) 18, d 22 (bgj 21 0) 18, a 23 (ko 18 22), am 24 23, d 25 (f 10 3) 24, d 26 (k 25) 24, d 27 (le 26) 24, d 28 (f 0 2) 24, d 29 (k 28) 24, d 30 (bh 27 29) 24, a 31 (ko 24 30), am 32 31, d 33 (l 4 2) 32, d 34 (l 12 3) 32, r 35 (c 77 [33, 34]) 32, r 36 (nt 35) 32, r 37 (m 36) 32, b 38 (f 10 3) 37, b 39 (k 38) 37, b 40 (le 39) 37, b 41 (bgj 40 0) 37, r 42 (ka 37 41) 32, a 43 (ko 32 42)] [2, 3, 43]
 (.cond (.s 43) (rs [o 4 (.mv (.c w))] [4]
 (.ret [4])) .skip))
 (.seq (rs [of 44 10 3, o 45 (k 44), o 46 (le 45), o 47 (.mv (j 0))] [2, 3, 45, 46, 47]
 (.block 0 (.loop xf_core_changing_k0 xf_core_changing_b0)))
 (rs [o 4 (.mv (.c v))] [4]
 (.ret [4])))))⟩

def xf_core_recovering_k0 : List (Nat × Option (Nat × Nat × Bool)) := [(2, none), (60, some (80, 6, false)), (61, none), (62, none)]
def xf_core_recovering_b0 : XCode := (rs [o 63 (bl 62 61)] [2, 60, 61, 62, 63]
 (.seq (.cond (.s 63) .skip (.exit 0 []))
 (.seq (.block 1 (rs [o 64 (ia 6 60 62), ol 65 6 64, o 6 (.alloc l3), p (t 6 6 65)] [2, 6, 60, 61, 62]
 (sp (some [(19, 23)]) [a 66 (f 3 6), a 67 (k 66), a 68 (blj 67 0), am 69 68, d 70 (f 3 6) 69, d 71 (k 70) 69, d 72 (bgj 71 4294967296) 69, a 73 (ko 69 72), am 74 73, d 75 (l 4 2) 74, d 76 (f 5 6) 74, d 77 (k 76) 74, d 78 (f 4 6) 74, d 79 (k 78) 74, r 80 (c 71 [75, 77, 79]) 74, r 81 (nt 80) 74, a 82 (ko 74 81), am 83 82, d 84 (f 0 6) 83, d 85 (k 84) 83, d 86 (l 4 2) 83, d 87 (f 3 6) 83, d 88 (k 87) 83, r 89 (c 45 [86, 88]) 83, r 90 (n 85 89) 83, r 91 (m 90) 83, b 92 (f 5 6) 91, b 93 (k 92) 91, b 94 (le 93) 91, b 95 (bgj 94 0) 91, r 96 (ka 91 95) 83, a 97 (ko 83 96)] [2, 60, 61, 62, 97]
 (.cond (.s 97) (rs [o 4 (.mv (.c w))] [4]
 (.ret [4])) .skip))))
 (.reg [o 98 (baj 62 1), om 62 98] none [2, 60, 61, 62]))))
def xf_core_recovering : XFunc := ⟨none, true, 2, [.tmp 4], (rs [o 2 (bx 0), o 3 (bx 1), o 4 (.mv (.c w))] [2, 3]
 (.seq (ss [a 7 (f 2 3), a 8 (k 7), a 9 (nj 8 0), am 10 9, d 11 (f 3 3) 10, d 12 (k 11) 10, d 13 (nj 12 0) 10, a 14 (ko 10 13), am 15 14, d 16 (f 5 3) 15, d 17 (k 16) 15, d 18 (nj 17 0) 15, a 19 (ko 15 18), am 20 19, d 21 (f 7 3) 20, d 22 (k 21) 20, d 23 (nj 22 0) 20, a 24 (ko 20 23), am 25 24, d 26 (f 4 3) 25, d 27 (k 26) 25, d 28 (le 27) 25, d 29 (bgj 28 0) 25, a 30 (ko 25 29), am 31 30, d 32 (f 8 3) 31, d 33 (k 32) 31, d 34 (le 33) 31, d 35 (bgj 34 0) 31, a 36 (ko 31 35), am 37 36, d 38 (f 9 3) 37, d 39 (k 38) 37, d 40 (le 39) 37, d 41 (bgj 40 0) 37, a 42 (ko 37 41), am 43 42, d 44 (f 10 3) 43, d 45 (k 44) 43, d 46 (le 45) 43, d 47 (bgj 46 0) 43, a 48 (ko 43 47), am 49 48, d 50 (f 6 3) 49, d 51 (k 50) 49, d 52 (f 0 3) 49, d 53 (k 52) 49, r 54 (ia 2 51 53) 49, r 55 (l 2 54) 49, d 56 (.build [y, y] []) 49, r 57 (.eqv false true [.i, .i] (.s 55) (.s 56)) 49, a 58 (ko 49 57)] [2, 3, 58]
 (.cond (.s 58) (rs [o 4 (.mv (.c w))] [4]
 (.ret [4])) .skip))
 (.seq (rs [of 59 11 3, o 60 (k 59), o 61 (le 60), o 62 (.mv (j 0))] [2, 60, 61, 62]
 (.block 0 (.loop xf_core_recovering_k0 xf_core_recovering_b0)))
 (rs [o 4 (.mv (.c v))] [4]
 (.ret [4])))))⟩

def xf_core_twin_k0 : List (Nat × Option (Nat × Nat × Bool)) := [(1, none), (2, none), (27, none), (28, none)]
def xf_core_twin_b0 : XCode := (rs [o 29 (bl 28 27)] [1, 2, 27, 28, 29]
 (.seq (.cond (.s 29) .skip (.exit 0 [1, 2]))
 (.seq (.block 1 (rs [om 30 28, om 3 30] [1, 2, 3, 27, 28]
 (.reg [of 31 10 1, o 32 (k 31), om 33 3, of 34 10 1, o 35 (k 34), om 36 3, o 37 (ia 6 35 36), of 38 5 37, o 39 (k 38), o 40 (c 113 [39]), o 41 (ia 6 32 33), of 42 5 41, p (t 1 42 40)] (some [(1, 9)]) [1, 2, 27, 28])))
 (.reg [o 43 (baj 28 1), om 28 43] none [1, 2, 27, 28]))))
def xf_core_twin_k1 : List (Nat × Option (Nat × Nat × Bool)) := [(1, none), (2, none), (50, none), (51, none)]
def xf_core_twin_b1 : XCode := (rs [o 52 (bl 51 50)] [1, 2, 50, 51, 52]
 (.seq (.cond (.s 52) .skip (.exit 2 [1, 2]))
 (.seq (.block 3 (rs [om 53 51, om 4 53] [1, 2, 4, 50, 51]
 (.reg [of 54 11 1, o 55 (k 54), om 56 4, of 57 11 1, o 58 (k 57), om 59 4, o 60 (ia 6 58 59), of 61 5 60, o 62 (k 61), o 63 (c 113 [62]), o 64 (ia 6 55 56), of 65 5 64, p (t 1 65 63)] (some [(1, 9)]) [1, 2, 50, 51])))
 (.reg [o 66 (baj 51 1), om 51 66] none [1, 2, 50, 51]))))
def xf_core_twin : XFunc := ⟨none, true, 1, [.cell 2 (some 12)], (rs [o 1 (bx 0), o 2 (.alloc l1)] [1, 2]
 (rs [of 5 4 1, o 6 (k 5), o 7 (c 113 [6]), of 8 4 1, p (t 1 8 7)] [1, 2]
 (rs [of 9 6 1, o 10 (k 9), o 11 (c 114 [10]), of 12 6 1, p (t 1 12 11)] [1, 2]
 (rs [of 13 8 1, o 14 (k 13), o 15 (c 115 [14]), of 16 8 1, p (t 1 16 15)] [1, 2]
 (rs [of 17 9 1, o 18 (k 17), o 19 (c 116 [18]), of 20 9 1, p (t 1 20 19)] [1, 2]
 (rs [of 21 10 1, o 22 (k 21), o 23 (c 117 [22]), of 24 10 1, p (t 1 24 23)] [1, 2]
 (.seq (rs [of 25 10 1, o 26 (k 25), o 27 (le 26), o 28 (.mv (j 0))] [1, 2, 27, 28]
 (.block 0 (.loop xf_core_twin_k0 xf_core_twin_b0)))
 (rs [of 44 11 1, o 45 (k 44), o 46 (c 118 [45]), of 47 11 1, p (t 1 47 46)] [1, 2]
 (.seq (rs [of 48 11 1, o 49 (k 48), o 50 (le 49), o 51 (.mv (j 0))] [1, 2, 50, 51]
 (.block 2 (.loop xf_core_twin_k1 xf_core_twin_b1)))
 (rs [ol 67 12 1, p (t 12 2 67)] [2]
 (.ret [2])))))))))))⟩

def xf_core_leads : XFunc := ⟨none, true, 2, [.tmp 4], (rs [o 2 (bx 0), o 3 (bx 1), o 4 (.mv (.c w))] [2, 3]
 (rp (some []) [of 5 0 3, o 6 (k 5), of 7 2 3, o 8 (k 7), of 9 0 2, o 10 (k 9), o 11 (.bin .mul (j 2) (.s 10)), o 12 (baj 11 1), o 13 (.bin .rem (.s 8) (.s 12)), o 14 (q 6 13), om 4 14] [4]
 (.ret [4])))⟩

def xf_client_Between : XFunc := ⟨none, true, 3, [.tmp 6, .tmp 7], (rs [o 6 (.mv (.c (.nil 141 7 true))), o 7 (.mv (j 0))] [0, 1, 2]
 (.seq (rs [om 9 0, o 10 (c 119 [9]), om 8 10] [0, 1, 2, 8]
 (rs [om 11 8, o 12 (nj 11 0)] [0, 1, 2, 8, 12]
 (.cond (.s 12) (rs [om 13 8, o 6 (.mv (.c (.nil 141 7 true))), om 7 13] [6, 7]
 (.ret [6, 7])) .skip)))
 (.seq (ss [am 14 1, a 15 (blj 14 0), am 16 15, d 17 (m 1) 16, d 18 (m 0) 16, d 19 (le 18) 16, d 20 (bg 17 19) 16, a 21 (ko 16 20), am 22 21, d 23 (m 2) 22, d 24 (blj 23 0) 22, a 25 (ko 22 24), am 26 25, d 27 (m 2) 26, d 28 (m 0) 26, d 29 (le 28) 26, d 30 (bg 27 29) 26, a 31 (ko 26 30), am 32 31, d 33 (m 1) 32, d 34 (m 2) 32, d 35 (bg 33 34) 32, a 36 (ko 32 35)] [0, 1, 2, 36]
 (.cond (.s 36) (rs [o 6 (.mv (.c (.nil 141 7 true))), o 7 (.mv (j 50))] [6, 7]
 (.ret [6, 7])) .skip))
 (rs [om 37 0, om 38 2, o 39 (c 120 [37, 38]), om 40 1, o 41 (.slice 7 (.s 39) (some (.s 40)) none), o 42 (.app 141 7 64 true (.c (.nil 141 7 true)) (.s 41)), om 6 42, o 7 (.mv (j 0))] [6, 7]
 (.ret [6, 7])))))⟩

def xf_change_frame_clear : XFunc := ⟨none, false, 1, [], (.reg [om 2 0, om 3 0, om 4 0, om 5 0, o 6 (nc 2), of 7 4 6, of 8 8 7, p (.store 1 (.s 8) (.c (.nil 172 4 true))), o 9 (nc 3), of 10 4 9, of 11 9 10, p (.store 1 (.s 11) (.c (.nil 86 3 true))), o 12 (nc 4), of 13 4 12, of 14 10 13, p (.store 1 (.s 14) (.c (.nil 78 6 false))), o 15 (nc 5), of 16 4 15, of 17 11 16, p (.store 1 (.s 17) (.c (.nil 80 6 false)))] none [])⟩

def xf_ref09_may_k0 : List (Nat × Option (Nat × Nat × Bool)) := [(3, none), (7, none)]
def xf_ref09_may_b0 : XCode := (.seq (rs [om 125 7, of 126 8 3, o 127 (k 126), o 128 (le 127), o 129 (bl 125 128)] [3, 7, 129]
 (.cond (.s 129) .skip (.exit 1 [])))
 (.seq (.block 2 (sp (some []) [a 132 (f 8 3), a 133 (k 132), am 134 7, a 135 (ia 4 133 134), a 136 (f 3 135), a 137 (k 136), a 138 (blj 137 1), am 139 138, d 140 (f 8 3) 139, d 141 (k 140) 139, d 142 (m 7) 139, r 143 (ia 4 141 142) 139, r 144 (f 3 143) 139, r 145 (k 144) 139, d 146 (f 4 3) 139, d 147 (k 146) 139, d 148 (le 147) 139, r 149 (bg 145 148) 139, a 150 (ko 139 149)] [3, 7, 150]
 (.cond (.s 150) (rs [o 4 (.mv (.c w))] [4]
 (.ret [4])) .skip)))
 (.reg [om 130 7, o 131 (baj 130 1), om 7 131] none [3, 7])))
def xf_ref09_may_k1 : List (Nat × Option (Nat × Nat × Bool)) := [(2, none), (3, none), (8, none)]
def xf_ref09_may_b1 : XCode := (.seq (rs [om 186 8, of 187 10 3, o 188 (k 187), o 189 (le 188), o 190 (bl 186 189)] [2, 3, 8, 190]
 (.cond (.s 190) .skip (.exit 3 [])))
 (.seq (.block 4 (rs [of 193 10 3, o 194 (k 193), om 195 8, o 196 (ia 6 194 195), ol 197 6 196, o 9 (.alloc l3), p (t 6 9 197)] [2, 3, 8, 9]
 (ss [a 198 (f 3 9), a 199 (k 198), a 200 (blj 199 0), am 201 200, d 202 (f 3 9) 201, d 203 (k 202) 201, d 204 (f 2 3) 201, d 205 (k 204) 201, d 206 (bh 203 205) 201, a 207 (ko 201 206), am 208 207, d 209 (l 4 2) 208, d 210 (f 5 9) 208, d 211 (k 210) 208, d 212 (f 4 9) 208, d 213 (k 212) 208, r 214 (c 121 [209, 211, 213]) 208, r 215 (nt 214) 208, a 216 (ko 208 215)] [2, 3, 8, 216]
 (.cond (.s 216) (rs [o 4 (.mv (.c w))] [4]
 (.ret [4])) .skip))))
 (.reg [om 191 8, o 192 (baj 191 1), om 8 192] none [2, 3, 8])))
def xf_ref09_may : XFunc := ⟨none, true, 2, [.tmp 4], (rs [o 2 (bx 0), o 3 (bx 1), o 4 (.mv (.c w))] [2, 3]
 (rs [ol 10 4 2, o 11 (c 65 [10]), om 5 11] [2, 3, 5]
 (.seq (ss [a 12 (f 0 3), a 13 (k 12), a 14 (blj 13 0), am 15 14, d 16 (f 0 3) 15, d 17 (k 16) 15, d 18 (m 5) 15, d 19 (bh 17 18) 15, a 20 (ko 15 19), am 21 20, d 22 (f 2 3) 21, d 23 (k 22) 21, d 24 (blj 23 0) 21, a 25 (ko 21 24), am 26 25, d 27 (f 2 3) 26, d 28 (k 27) 26, d 29 (bgj 28 4294967296) 26, a 30 (ko 26 29), am 31 30, d 32 (f 3 3) 31, d 33 (k 32) 31, d 34 (blj 33 0) 31, a 35 (ko 31 34), am 36 35, d 37 (f 3 3) 36, d 38 (k 37) 36, d 39 (f 2 3) 36, d 40 (k 39) 36, d 41 (bg 38 40) 36, a 42 (ko 36 41), am 43 42, d 44 (l 4 2) 43, d 45 (f 4 3) 43, d 46 (k 45) 43, d 47 (f 5 3) 43, d 48 (k 47) 43, r 49 (c 121 [44, 46, 48]) 43, r 50 (nt 49) 43, a 51 (ko 43 50), am 52 51, d 53 (f 6 3) 52, d 54 (k 53) 52, d 55 (le 54) 52, d 56 (m 5) 52, d 57 (n 55 56) 52, a 58 (ko 52 57), am 59 58, d 60 (f 7 3) 59, d 61 (k 60) 59, d 62 (blj 61 0) 59, a 63 (ko 59 62), am 64 63, d 65 (f 7 3) 64, d 66 (k 65) 64, d 67 (f 2 2) 64, d 68 (k 67) 64, d 69 (bh 66 68) 64, a 70 (ko 64 69), am 71 70, d 72 (l 12 3) 71, d 73 (m 5) 71, r 74 (c 122 [72, 73]) 71, r 75 (nt 74) 71, a 76 (ko 71 75)] [2, 3, 5, 76]
 (.cond (.s 76) (rs [o 4 (.mv (.c w))] [4]
 (.ret [4])) .skip))
 (rp (some []) [of 77 0 3, o 78 (k 77), of 79 2 3, o 80 (k 79), om 81 5, o 82 (.bin .rem (.s 80) (.s 81)), o 83 (q 78 82), om 6 83] [2, 3, 5, 6]
 (.seq (rs [of 84 1 3, o 85 (k 84)] [2, 3, 5, 6, 85]
 (.block 0 (rs [o 87 (qj 85 1), om 86 87] [2, 3, 5, 6, 85, 86]
 (.cond (.s 86) (.seq (ss [a 88 (f 3 3), a 89 (k 88), a 90 (f 2 3), a 91 (k 90), a 92 (n 89 91), am 93 92, d 94 (f 9 3) 93, d 95 (k 94) 93, d 96 (le 95) 93, d 97 (f 10 3) 93, d 98 (k 97) 93, d 99 (le 98) 93, d 100 (ba 96 99) 93, d 101 (f 11 3) 93, d 102 (k 101) 93, d 103 (le 102) 93, d 104 (ba 100 103) 93, d 105 (bgj 104 0) 93, a 106 (ko 93 105), am 107 106, d 108 (m 6) 107, d 109 (m 108) 107, b 110 (f 7 3) 109, b 111 (k 110) 109, b 112 (nj 111 0) 109, d 113 (ka 109 112) 107, a 114 (ko 107 113), am 115 114, d 116 (m 6) 115, d 117 (nt 116) 115, d 118 (m 117) 115, b 119 (f 8 3) 118, b 120 (k 119) 118, b 121 (le 120) 118, b 122 (bgj 121 0) 118, d 123 (ka 118 122) 115, a 124 (ko 115 123)] [3, 124]
 (.cond (.s 124) (rs [o 4 (.mv (.c w))] [4]
 (.ret [4])) .skip))
 (.seq (rs [o 7 (.mv (j 0))] [3, 7]
 (.block 1 (.loop xf_ref09_may_k0 xf_ref09_may_b0)))
 (rs [o 4 (.mv (.c v))] [4]
 (.ret [4])))) (rs [o 152 (qj 85 2), om 151 152] [2, 3, 5, 6, 85, 151]
 (.cond (.s 151) (.seq (ss [a 153 (f 3 3), a 154 (k 153), a 155 (f 2 3), a 156 (k 155), a 157 (q 154 156), am 158 157, d 159 (f 8 3) 158, d 160 (k 159) 158, d 161 (le 160) 158, d 162 (f 11 3) 158, d 163 (k 162) 158, d 164 (le 163) 158, d 165 (ba 161 164) 158, d 166 (bgj 165 0) 158, a 167 (ko 158 166), am 168 167, d 169 (m 6) 168, d 170 (nt 169) 168, d 171 (m 170) 168, b 172 (f 10 3) 171, b 173 (k 172) 171, b 174 (le 173) 171, b 175 (bgj 174 0) 171, d 176 (ka 171 175) 168, a 177 (ko 168 176), am 178 177, d 179 (f 10 3) 178, d 180 (k 179) 178, d 181 (le 180) 178, d 182 (f 0 2) 178, d 183 (k 182) 178, d 184 (bh 181 183) 178, a 185 (ko 178 184)] [2, 3, 185]
 (.cond (.s 185) (rs [o 4 (.mv (.c w))] [4]
 (.ret [4])) .skip))
 (.seq (rs [o 8 (.mv (j 0))] [2, 3, 8]
 (.block 3 (.loop xf_ref09_may_k1 xf_ref09_may_b1)))
 (rs [o 4 (.mv (.c v))] [4]
 (.ret [4])))) (rs [o 218 (qj 85 3), om 217 218] [2, 3, 5, 217]
 (.cond (.s 217) (rs [ol 219 4 2, ol 220 12 3, om 221 5, o 222 (c 123 [219, 220, 221]), om 4 222] [4]
 (.ret [4])) .skip))))))))
 (rs [o 4 (.mv (.c w))] [4]
 (.ret [4])))))))⟩

def xf_core_All_k0 : List (Nat × Option (Nat × Nat × Bool)) := [(4, none), (5, none), (9, some (98, 19, false)), (18, none), (19, none)]
def xf_core_All_b0 : XCode := (rs [o 20 (bl 19 18)] [4, 5, 9, 18, 19, 20]
 (.seq (.cond (.s 20) .skip (.exit 0 [9]))
 (.seq (.block 1 (rs [om 21 19, om 10 21] [4, 5, 9, 10, 18, 19]
 (rs [om 22 10, of 23 0 4, o 24 (k 23), o 25 (n 22 24)] [4, 5, 9, 10, 18, 19, 25]
 (.cond (.s 25) (.reg [om 26 9, ol 27 12 4, om 28 10, ol 29 18 5, o 30 (c 124 [27, 28, 29]), o 31 (.bsl 98 19 false 1 l2 [(0, 19, (.s 30))]), o 32 (.app 98 19 200 false (.s 26) (.s 31)), om 9 32] none [4, 5, 9, 18, 19]) .skip))))
 (.reg [o 33 (baj 19 1), om 19 33] none [4, 5, 9, 18, 19]))))
def xf_core_All : XFunc := ⟨none, true, 3, [.tmp 6, .tmp 7], (rs [o 3 (bx 0), o 4 (bx 1), o 5 (bx 2), o 6 (.mv (.c (.nil 98 19 false))), o 7 (.mv (j 0))] [3, 4, 5]
 (.seq (rs [ol 11 4 3, ol 12 12 4, o 13 (c 44 [11, 12]), om 8 13] [3, 4, 5, 8]
 (rs [om 14 8, o 15 (nj 14 0)] [3, 4, 5, 8, 15]
 (.cond (.s 15) (rs [om 16 8, o 6 (.mv (.c (.nil 98 19 false))), om 7 16] [6, 7]
 (.ret [6, 7])) .skip)))
 (rs [o 9 (.mv (.c (.nil 98 19 false)))] [3, 4, 5, 9]
 (.seq (rs [ol 17 4 3, o 18 (c 70 [17]), o 19 (.mv (j 0))] [4, 5, 9, 18, 19]
 (.block 0 (.loop xf_core_All_k0 xf_core_All_b0)))
 (rs [om 34 9, om 6 34, o 7 (.mv (j 0))] [6, 7]
 (.ret [6, 7]))))))⟩

def xf_change_frame_primary : XFunc := ⟨none, true, 1, [.tmp 2], (rs [o 2 (.mv (j 0))] [0]
 (rp (some []) [om 3 0, o 4 (nc 3), of 5 0 4, ol 6 4 5, om 7 0, o 8 (nc 7), of 9 4 8, of 10 2 9, o 11 (k 10), o 12 (c 45 [6, 11]), om 2 12] [2]
 (.ret [2])))⟩

def xf_change_frame_one : XFunc := ⟨none, false, 3, [], (rs [o 5 (bx 2)] [0, 1, 5]
 (rp (some [(3, 14), (7, 14), (9, 14), (10, 14)]) [om 9 0, o 10 (nc 9), of 11 0 10, ol 12 4 11, om 13 0, o 14 (nc 13), of 15 4 14, ol 16 12 15, om 17 1, ol 18 18 5, o 19 (c 125 [12, 16, 17, 18]), om 8 19, o 20 (e 8 0), o 21 (e 8 1), o 6 (.alloc l2), p (t 19 6 20), om 7 21] [0, 6]
 (.reg [om 22 0, om 23 0, o 24 (nc 23), of 25 16 24, o 26 (k 25), ol 27 19 6, o 28 (.bsl 98 19 false 1 l2 [(0, 19, (.s 27))]), o 29 (.app 98 19 200 false (.s 26) (.s 28)), o 30 (nc 22), of 31 16 30, p (t 1 31 29)] (some [(4, 6)]) [])))⟩

def xf_message_config : XFunc := ⟨none, true, 1, [.tmp 2], (rs [o 1 (bx 0), o 2 (.mv (.c w))] [1]
 (ss [a 3 (f 0 1), a 4 (k 3), a 5 (bhj 4 1), am 6 5, b 7 (f 0 1) 6, b 8 (k 7) 6, b 9 (bmj 8 3) 6, a 10 (ka 6 9), am 11 10, b 12 (f 1 1) 11, b 13 (k 12) 11, b 14 (bhj 13 1) 11, a 15 (ka 11 14), am 16 15, b 17 (f 1 1) 16, b 18 (k 17) 16, b 19 (bmj 18 256) 16, a 20 (ka 16 19), am 21 20, b 22 (f 2 1) 21, b 23 (k 22) 21, b 24 (bhj 23 6) 21, a 25 (ka 21 24), am 26 25, b 27 (f 2 1) 26, b 28 (k 27) 26, b 29 (bmj 28 100) 26, a 30 (ka 26 29), am 2 30] [2]
 (.ret [2])))⟩

def xf_message_is : XFunc := ⟨none, true, 1, [.tmp 2], (rs [o 2 (.mv (.c w))] [0]
 (ss [am 3 0, a 4 (bhj 3 1), am 5 4, bb 6 0 5, b 7 (bmj 6 14) 5, a 8 (ka 5 7), am 2 8] [2]
 (.ret [2])))⟩

def xf_message_unused_k0 : List (Nat × Option (Nat × Nat × Bool)) := [(1, none), (42, none), (43, none)]
def xf_message_unused_b0 : XCode := (rs [o 44 (blj 43 10)] [1, 42, 43, 44]
 (.seq (.cond (.s 44) .skip (.exit 0 []))
 (.seq (.block 1 (rs [om 45 43, o 46 (.idx none 1 10 (.s 42) (.s 43)), om 4 45, om 5 46] [1, 4, 5, 42, 43]
 (ss [am 47 5, a 48 (nt 47), am 49 48, b 50 (f 0 1) 49, b 51 (k 50) 49, bb 52 4 49, u 53 (.aadr 10 15 (.c (.dptr usesD)) (.s 51)) 49, u 54 (.aadr 1 10 (.s 53) (.s 52)) 49, u 55 (k 54) 49, u 56 (nt 55) 49, a 57 (ka 49 56)] [1, 42, 43, 57]
 (.cond (.s 57) (rs [o 2 (.mv (.c w))] [2]
 (.ret [2])) .skip))))
 (.reg [o 58 (baj 43 1), om 43 58] none [1, 42, 43]))))
def xf_message_unused : XFunc := ⟨none, true, 1, [.tmp 2], (rs [o 1 (bx 0), o 2 (.mv (.c w))] [1]
 (rp (some [(1, 36), (4, 36), (7, 36), (10, 36), (13, 36), (16, 36), (20, 36), (24, 36), (28, 36), (32, 36)]) [of 6 1 1, o 7 (k 6), o 8 (qj 7 0), of 9 2 1, o 10 (k 9), o 11 (qj 10 0), of 12 13 1, o 13 (k 12), o 14 (qj 13 0), of 15 11 1, o 16 (k 15), o 17 (qj 16 0), of 18 12 1, o 19 (k 18), o 20 (qj 19 0), of 21 14 1, ol 22 2 21, o 23 (.build [y, y] []), o 24 (.eqv false true [.i, .i] (.s 22) (.s 23)), of 25 3 1, ol 26 5 25, o 27 (.build l13 []), o 28 (.eqv false true [.i, .i, .i, .i, .s] (.s 26) (.s 27)), of 29 8 1, ol 30 3 29, o 31 (.build l9 []), o 32 (.eqv false true [.i, .i, .s] (.s 30) (.s 31)), of 33 16 1, o 34 (k 33), o 35 (le 34), o 36 (qj 35 0), of 37 17 1, o 38 (k 37), o 39 (le 38), o 40 (qj 39 0), o 41 (.build l6 [(0, 1, (.s 8)), (1, 1, (.s 11)), (2, 1, (.s 14)), (3, 1, (.s 17)), (4, 1, (.s 20)), (5, 1, (.s 24)), (6, 1, (.s 28)), (7, 1, (.s 32)), (8, 1, (.s 36)), (9, 1, (.s 40))]), o 3 (.alloc l6), p (t 10 3 41)] [1, 3]
 (.seq (rs [ol 42 10 3, o 43 (.mv (j 0))] [1, 42, 43]
 (.block 0 (.loop xf_message_unused_k0 xf_message_unused_b0)))
 (rs [o 2 (.mv (.c v))] [2]
 (.ret [2])))))⟩

def xf_message_numbers : XFunc := ⟨none, true, 2, [.tmp 4], (rs [o 2 (bx 0), o 3 (bx 1), o 4 (.mv (.c w))] [2, 3]
 (rs [of 7 0 3, o 8 (k 7), o 9 (.aadr 10 15 (.c (.dptr usesD)) (.s 8)), ol 10 10 9, o 5 (.alloc l6), p (t 10 5 10)] [2, 3, 5]
 (rs [of 11 0 2, o 12 (k 11), o 13 (.bin .mul (j 2) (.s 12)), o 14 (baj 13 1), om 6 14] [2, 3, 5, 6]
 (.seq (ss [a 15 (f 1 3), a 16 (k 15), a 17 (blj 16 0), am 18 17, d 19 (f 1 3) 18, d 20 (k 19) 18, d 21 (m 6) 18, d 22 (bh 20 21) 18, a 23 (ko 18 22), am 24 23, d 25 (f 2 3) 24, d 26 (k 25) 24, d 27 (blj 26 0) 24, a 28 (ko 24 27), am 29 28, d 30 (f 2 3) 29, d 31 (k 30) 29, d 32 (bgj 31 4294967296) 29, a 33 (ko 29 32), am 34 33, d 35 (f 11 3) 34, d 36 (k 35) 34, d 37 (blj 36 0) 34, a 38 (ko 34 37), am 39 38, d 40 (f 11 3) 39, d 41 (k 40) 39, d 42 (f 1 2) 39, d 43 (k 42) 39, d 44 (bg 41 43) 39, a 45 (ko 39 44), am 46 45, d 47 (f 12 3) 46, d 48 (k 47) 46, d 49 (blj 48 0) 46, a 50 (ko 46 49), am 51 50, d 52 (f 13 3) 51, d 53 (k 52) 51, d 54 (blj 53 0) 51, a 55 (ko 51 54)] [2, 3, 5, 6, 55]
 (.cond (.s 55) (rs [o 4 (.mv (.c w))] [4]
 (.ret [4])) .skip))
 (.seq (rs [of 56 0 3, o 57 (k 56)] [2, 3, 5, 6, 57]
 (.block 0 (.seq (.block 5 (.seq (.block 4 (.seq (.block 3 (.seq (.block 2 (.seq (.block 1 (.seq (.seq (rs [o 59 (qj 57 3), om 58 59] [2, 3, 5, 6, 57, 58]
 (.cond (.s 58) (.exit 1 [2, 3, 6]) .skip))
 (.seq (rs [o 61 (qj 57 5), om 60 61] [2, 3, 5, 6, 57, 60]
 (.cond (.s 60) (.exit 2 [2, 3, 6]) .skip))
 (.seq (rs [o 63 (qj 57 14), om 62 63] [2, 3, 5, 6, 57, 62]
 (.cond (.s 62) (.exit 3 [2, 3]) .skip))
 (.seq (rs [o 65 (qj 57 8), om 64 65] [3, 5, 6, 57, 64]
 (.cond (.s 64) (.exit 4 [3, 5, 6]) .skip))
 (.seq (rs [o 67 (qj 57 6), om 66 67] [3, 5, 57, 66]
 (.cond (.s 66) .skip (.reg [o 68 (qj 57 7), om 66 68] none [3, 5, 66])))
 (.cond (.s 66) (.exit 5 [3, 5]) .skip))))))
 (.exit 0 [3, 5])))
 (rs [of 69 11 3, o 70 (k 69), o 71 (blj 70 1)] [2, 3, 6, 71]
 (.cond (.s 71) (rs [o 4 (.mv (.c w))] [4]
 (.ret [4])) .skip))))
 (.seq (sp (some []) [a 72 (f 1 3), a 73 (k 72), a 74 (f 2 3), a 75 (k 74), am 76 6, a 77 (.bin .rem (.s 75) (.s 76)), a 78 (q 73 77), am 79 78, b 80 (f 12 3) 79, b 81 (k 80) 79, b 82 (f 1 2) 79, b 83 (k 82) 79, b 84 (bm 81 83) 79, a 85 (ka 79 84), am 4 85] [4]
 (.ret [4]))
 (.exit 0 [3, 5]))))
 (.seq (rs [of 86 12 3, o 87 (k 86), of 88 1 2, o 89 (k 88), o 90 (bm 87 89), om 4 90] [4]
 (.ret [4]))
 (.exit 0 [3, 5]))))
 (rp (some []) [of 91 1 3, o 92 (k 91), of 93 2 3, o 94 (k 93), om 95 6, o 96 (.bin .rem (.s 94) (.s 95)), o 97 (n 92 96)] [3, 5, 97]
 (.cond (.s 97) (rs [o 4 (.mv (.c w))] [4]
 (.ret [4])) .skip))))
 (.seq (rs [of 98 2 3, o 99 (k 98), o 100 (blj 99 1)] [3, 5, 100]
 (.cond (.s 100) (rs [o 4 (.mv (.c w))] [4]
 (.ret [4])) .skip))
 (.exit 0 [3, 5])))))
 (ss [a 101 (.aadr 1 10 (.s 5) (j 2)), a 102 (k 101), a 103 (nt 102), am 104 103, d 105 (f 13 3) 104, d 106 (k 105) 104, d 107 (f 2 3) 104, d 108 (k 107) 104, d 109 (bl 106 108) 104, a 110 (ko 104 109), am 111 110, b 112 (.aadr 1 10 (.s 5) (j 8)) 111, b 113 (k 112) 111, b 114 (nt 113) 111, bb 115 114 111, d 116 (f 12 3) 115, d 117 (k 116) 115, d 118 (f 16 3) 115, d 119 (k 118) 115, d 120 (le 119) 115, d 121 (bm 117 120) 115, b 122 (ko 115 121) 111, a 123 (ka 111 122), am 4 123] [4]
 (.ret [4])))))))⟩

def xf_message_asks : XFunc := ⟨none, true, 2, [.tmp 4], (rs [o 3 (bx 1), o 4 (.mv (.c w))] [0, 3]
 (.seq (ss [a 5 (f 0 3), a 6 (k 5), a 7 (blj 6 0), am 8 7, d 9 (f 0 3) 8, d 10 (k 9) 8, d 11 (bhj 10 16) 8, a 12 (ko 8 11), am 13 12, d 14 (f 1 3) 13, d 15 (k 14) 13, d 16 (blj 15 1) 13, a 17 (ko 13 16)] [0, 3, 17]
 (.cond (.s 17) (rs [o 4 (.mv (.c w))] [4]
 (.ret [4])) .skip))
 (.seq (rs [om 18 0, o 19 (c 126 [18])] [0, 3, 19]
 (.cond (.s 19) (rs [of 20 2 3, ol 21 3 20, o 22 (.build l9 []), o 23 (.eqv false true [.i, .i, .s] (.s 21) (.s 22)), om 4 23] [4]
 (.ret [4])) .skip))
 (.seq (ss [am 24 0, a 25 (qj 24 13), am 26 25, b 27 (f 2 3) 26, b 28 (f 0 27) 26, b 29 (k 28) 26, b 30 (nj 29 3) 26, a 31 (ka 26 30), am 32 31, b 33 (f 2 3) 32, b 34 (f 0 33) 32, b 35 (k 34) 32, b 36 (nj 35 4) 32, a 37 (ka 32 36)] [3, 37]
 (.cond (.s 37) (rs [o 4 (.mv (.c w))] [4]
 (.ret [4])) .skip))
 (rs [of 38 2 3, ol 39 3 38, o 40 (c 127 [39]), o 41 (qj 40 0), om 4 41] [4]
 (.ret [4]))))))⟩

def xf_message_answers : XFunc := ⟨none, true, 1, [.tmp 2], (rs [o 1 (bx 0), o 2 (.mv (.c w))] [1]
 (ss [a 4 (f 1 1), a 5 (k 4), a 6 (bhj 5 0), am 7 6, b 8 (f 1 1) 7, b 9 (k 8) 7, b 10 (blj 9 1024) 7, a 11 (ka 7 10), am 3 11] [1, 3]
 (.seq (rs [of 12 0 1, o 13 (k 12)] [1, 3, 13]
 (.block 0 (.seq (rs [o 15 (qj 13 1), om 14 15] [1, 3, 13, 14]
 (.cond (.s 14) .skip (rs [o 16 (qj 13 2), om 14 16] [1, 3, 13, 14]
 (.cond (.s 14) .skip (.reg [o 17 (qj 13 4), om 14 17] none [1, 3, 13, 14])))))
 (.cond (.s 14) (ss [am 18 3, am 19 18, b 20 (f 2 1) 19, b 21 (k 20) 19, b 22 (.len true (.s 21)) 19, b 23 (bmj 22 64) 19, a 24 (ka 19 23), am 2 24] [2]
 (.ret [2])) (rs [o 26 (qj 13 5), om 25 26] [1, 3, 13, 25]
 (.cond (.s 25) (ss [am 27 3, am 28 27, b 29 (f 2 1) 28, b 30 (k 29) 28, b 31 (.eqv false false [.s] (.s 30) (.c x)) 28, a 32 (ka 28 31), am 2 32] [2]
 (.ret [2])) (rs [o 34 (qj 13 6), om 33 34] [1, 13, 33]
 (.cond (.s 33) (ss [a 35 (f 1 1), a 36 (k 35), a 37 (bhj 36 0), am 38 37, b 39 (f 1 1) 38, b 40 (k 39) 38, b 41 (bmj 40 1024) 38, a 42 (ka 38 41), am 43 42, b 44 (f 2 1) 43, b 45 (k 44) 43, b 46 (.eqv false false [.s] (.s 45) (.c x)) 43, a 47 (ka 43 46), am 2 47] [2]
 (.ret [2])) (.seq (rs [o 49 (qj 13 3), om 48 49] [1, 13, 48]
 (.cond (.s 48) .skip (.reg [o 50 (qj 13 7), om 48 50] none [1, 48])))
 (.cond (.s 48) (ss [a 51 (f 1 1), a 52 (k 51), a 53 (qj 52 0), am 54 53, b 55 (f 2 1) 54, b 56 (k 55) 54, b 57 (.eqv false false [.s] (.s 56) (.c x)) 54, a 58 (ka 54 57), am 2 58] [2]
 (.ret [2])) .skip))))))))))
 (rs [o 2 (.mv (.c w))] [2]
 (.ret [2])))))⟩

def xf_message_reads : XFunc := ⟨none, true, 1, [.tmp 2], (rs [o 1 (bx 0), o 2 (.mv (.c w))] [1]
 (.seq (rs [of 3 0 1, o 4 (k 3)] [1, 4]
 (.block 0 (rs [o 6 (qj 4 14), om 5 6] [1, 4, 5]
 (.cond (.s 5) (ss [a 7 (f 8 1), a 8 (f 0 7), a 9 (k 8), a 10 (qj 9 4), am 11 10, d 12 (f 8 1) 11, d 13 (f 0 12) 11, d 14 (k 13) 11, d 15 (qj 14 5) 11, a 16 (ko 11 15), am 17 16, d 18 (f 8 1) 17, d 19 (f 0 18) 17, d 20 (k 19) 17, d 21 (qj 20 6) 17, a 22 (ko 17 21), am 2 22] [2]
 (.ret [2])) (rs [o 24 (qj 4 2), om 23 24] [1, 23]
 (.cond (.s 23) (rs [of 25 11 1, o 26 (k 25), o 27 (qj 26 0), of 28 8 1, of 29 0 28, o 30 (k 29), o 31 (qj 30 7), o 32 (.eqv false false [.b] (.s 27) (.s 31)), om 2 32] [2]
 (.ret [2])) .skip))))))
 (rs [o 2 (.mv (.c v))] [2]
 (.ret [2]))))⟩

def xf_message_Between : XFunc := ⟨none, true, 1, [.tmp 2], (rs [o 2 (.mv (.c w))] [0]
 (ss [am 3 0, a 4 (bhj 3 3), am 5 4, bb 6 0 5, b 7 (bmj 6 12) 5, a 8 (ka 5 7), am 2 8] [2]
 (.ret [2])))⟩

def xf_vector_Over : XFunc := ⟨none, true, 2, [.tmp 4], (rs [o 3 (bx 1), o 4 (.mv (.c w))] [0, 3]
 (sp (some []) [a 5 (l 2 3), a 6 (c 130 [5]), am 7 6, bb 8 0 7, b 9 (le 8) 7, b 10 (f 1 3) 7, b 11 (k 10) 7, b 12 (le 11) 7, b 13 (q 9 12) 7, a 14 (ka 7 13), am 15 14, bb 16 0 15, b 17 (f 0 3) 15, b 18 (k 17) 15, u 19 (ia 2 16 18) 15, u 20 (l 2 19) 15, b 21 (f 1 3) 15, b 22 (k 21) 15, b 23 (f 0 3) 15, b 24 (k 23) 15, u 25 (ia 2 22 24) 15, u 26 (l 2 25) 15, u 27 (c 94 [20, 26]) 15, u 28 (bgj 27 0) 15, a 29 (ka 15 28), am 4 29] [4]
 (.ret [4])))⟩

def xf_nonce_Compare : XFunc := ⟨none, true, 2, [.tmp 4], (rs [o 2 (bx 0), o 3 (bx 1), o 4 (.mv (j 0))] [2, 3]
 (.seq (.block 0 (rs [ol 6 2 2, ol 7 2 3, o 8 (.eqv false true [.i, .i] (.s 6) (.s 7)), om 5 8] [2, 3, 5]
 (.cond (.s 5) (rs [o 4 (.mv (j 0))] [4]
 (.ret [4])) (.seq (rs [of 10 0 2, o 11 (k 10), of 12 0 3, o 13 (k 12), o 14 (bl 11 13), om 9 14] [2, 3, 9]
 (.cond (.s 9) .skip (.sreg [a 15 (f 0 2), a 16 (k 15), a 17 (f 0 3), a 18 (k 17), a 19 (q 16 18), am 20 19, b 21 (f 1 2) 20, b 22 (k 21) 20, b 23 (f 1 3) 20, b 24 (k 23) 20, b 25 (bl 22 24) 20, a 26 (ka 20 25), am 9 26] none [9])))
 (.cond (.s 9) (rs [o 4 (.mv (j (-1)))] [4]
 (.ret [4])) .skip)))))
 (rs [o 4 (.mv (j 1))] [4]
 (.ret [4]))))⟩

def xf_vector_Merge_k0 : List (Nat × Option (Nat × Nat × Bool)) := [(0, none), (14, some (27, 1, false)), (15, none), (16, none)]
def xf_vector_Merge_b0 : XCode := (rs [o 17 (bl 16 15)] [0, 14, 15, 16, 17]
 (.seq (.cond (.s 17) .skip (.exit 0 [0]))
 (.seq (.block 1 (rs [o 18 (ia 1 14 16), o 19 (k 18), om 5 19] [0, 5, 14, 15, 16]
 (ss [am 20 5, a 21 (c 131 [20]), a 22 (nt 21), am 23 22, d 24 (m 5) 23, d 25 (le 24) 23, d 26 (m 0) 23, r 27 (.iadr 1 (.s 26) (j 0)) 23, r 28 (k 27) 23, r 29 (le 28) 23, r 30 (n 25 29) 23, a 31 (ko 23 30)] [0, 14, 15, 16, 31]
 (.cond (.s 31) (rs [o 2 (.mv (.c (.nil 43 2 true))), o 3 (.mv (j 30))] [2, 3]
 (.ret [2, 3])) .skip))))
 (.reg [o 32 (baj 16 1), om 16 32] none [0, 14, 15, 16]))))
def xf_vector_Merge_k2 : List (Nat × Option (Nat × Nat × Bool)) := [(6, some (43, 2, true)), (38, some (27, 1, false)), (39, none), (40, none), (44, some (43, 2, true)), (45, none), (46, none)]
def xf_vector_Merge_b2 : XCode := (rs [o 47 (bl 46 45)] [6, 38, 39, 40, 44, 45, 46, 47]
 (.seq (.cond (.s 47) .skip (.exit 4 [6, 38, 39, 40]))
 (.seq (.block 5 (rs [om 48 46, o 49 (ia 2 44 46), ol 50 2 49, o 10 (.alloc [y, y]), om 9 48, p (t 2 10 50)] [6, 9, 10, 38, 39, 40, 44, 45, 46]
 (rp (some []) [om 51 6, om 52 9, o 53 (ia 2 51 52), ol 54 2 53, ol 55 2 10, o 56 (c 94 [54, 55]), o 57 (blj 56 0)] [6, 9, 10, 38, 39, 40, 44, 45, 46, 57]
 (.cond (.s 57) (.reg [om 58 6, om 59 9, ol 60 2 10, o 61 (ia 2 58 59), p (t 2 61 60)] none [6, 38, 39, 40, 44, 45, 46]) .skip))))
 (.reg [o 62 (baj 46 1), om 46 62] none [6, 38, 39, 40, 44, 45, 46]))))
def xf_vector_Merge_k1 : List (Nat × Option (Nat × Nat × Bool)) := [(6, some (43, 2, true)), (38, some (27, 1, false)), (39, none), (40, none)]
def xf_vector_Merge_b1 : XCode := (rs [o 41 (bl 40 39)] [6, 38, 39, 40, 41]
 (.seq (.cond (.s 41) .skip (.exit 2 [6]))
 (.seq (.block 3 (rs [o 42 (ia 1 38 40), o 43 (k 42), om 8 43] [6, 8, 38, 39, 40]
 (rs [om 44 8, o 45 (le 44), o 46 (.mv (j 0))] [6, 38, 39, 40, 44, 45, 46]
 (.block 4 (.loop xf_vector_Merge_k2 xf_vector_Merge_b2)))))
 (.reg [o 63 (baj 40 1), om 40 63] none [6, 38, 39, 40]))))
def xf_vector_Merge : XFunc := ⟨none, true, 1, [.tmp 2, .tmp 3], (rs [o 2 (.mv (.c (.nil 43 2 true))), o 3 (.mv (j 0))] [0]
 (.seq (rs [om 11 0, o 12 (le 11), o 13 (qj 12 0)] [0, 13]
 (.cond (.s 13) (rs [o 2 (.mv (.c (.nil 43 2 true))), o 3 (.mv (j 30))] [2, 3]
 (.ret [2, 3])) .skip))
 (.seq (rs [om 14 0, o 15 (le 14), o 16 (.mv (j 0))] [0, 14, 15, 16]
 (.block 0 (.loop xf_vector_Merge_k0 xf_vector_Merge_b0)))
 (rs [om 33 0, o 34 (.iadr 1 (.s 33) (j 0)), o 35 (k 34), o 36 (le 35), o 37 (.mksl 43 2 16 true [y, y] (.s 36) (.s 36)), om 6 37] [0, 6]
 (.seq (rs [om 38 0, o 39 (le 38), o 40 (.mv (j 0))] [6, 38, 39, 40]
 (.block 2 (.loop xf_vector_Merge_k1 xf_vector_Merge_b1)))
 (rs [om 64 6, om 2 64, o 3 (.mv (j 0))] [2, 3]
 (.ret [2, 3])))))))⟩

def xf_tally_PruneAcks : XFunc := ⟨none, true, 2, [.tmp 4], (rs [o 4 (.mv (.c (.nil 172 4 true)))] [0, 1]
 (rs [om 5 0, o 6 (.call (fc 133) [(.s 5), (.c (.fn (.func 134) [] []))]), o 7 (.build [(.nil 200 4 true)] [(0, 1, (.s 6))]), om 8 1, o 9 (c 135 [7, 8]), o 10 (.call (fc 132) [(.s 9), (.c (.fn (.func 136) [] []))]), om 4 10] [4]
 (.ret [4])))⟩

def xf_tally_PruneMarks : XFunc := ⟨none, true, 2, [.tmp 4], (rs [o 4 (.mv (.c (.nil 86 3 true)))] [0, 1]
 (rs [om 5 0, o 6 (.call (fc 138) [(.s 5), (.c (.fn (.func 139) [] []))]), o 7 (.build [(.nil 209 3 true)] [(0, 1, (.s 6))]), om 8 1, o 9 (c 140 [7, 8]), o 10 (.call (fc 137) [(.s 9), (.c (.fn (.func 141) [] []))]), om 4 10] [4]
 (.ret [4])))⟩

def xf_tally_PruneBallots : XFunc := ⟨none, true, 2, [.tmp 4], (rs [o 4 (.mv (.c (.nil 78 6 false)))] [0, 1]
 (rs [om 5 0, o 6 (.call (fc 143) [(.s 5), (.c (.fn (.func 144) [] []))]), o 7 (.build [(.nil 218 6 false)] [(0, 1, (.s 6))]), om 8 1, o 9 (c 145 [7, 8]), o 10 (.call (fc 142) [(.s 9), (.c (.fn (.func 146) [] []))]), om 4 10] [4]
 (.ret [4])))⟩

def xf_tally_PruneAnswers : XFunc := ⟨none, true, 2, [.tmp 4], (rs [o 4 (.mv (.c (.nil 80 6 false)))] [0, 1]
 (rs [om 5 0, o 6 (.call (fc 148) [(.s 5), (.c (.fn (.func 149) [] []))]), o 7 (.build [(.nil 227 6 false)] [(0, 1, (.s 6))]), om 8 1, o 9 (c 150 [7, 8]), o 10 (.call (fc 147) [(.s 9), (.c (.fn (.func 151) [] []))]), om 4 10] [4]
 (.ret [4])))⟩

def xf_change_start : XFunc := ⟨none, false, 1, [], (.seq (rs [om 3 0, o 4 (c 152 [3]), o 5 (nt 4)] [0, 5]
 (.cond (.s 5) (.ret []) .skip))
 (rp (some []) [om 6 0, o 7 (nc 6), of 8 0 7, of 9 0 8, of 10 0 9, o 11 (k 10), om 12 0, o 13 (nc 12), of 14 0 13, of 15 4 14, of 16 9 15, o 17 (k 16), o 18 (c 50 [11, 17]), om 2 18] [0, 2]
 (rp (some []) [om 19 0, om 20 0, o 21 (nc 20), of 22 0 21, of 23 4 22, of 24 9 23, o 25 (k 24), om 26 0, o 27 (nc 26), of 28 17 27, of 29 1 28, o 30 (k 29), om 31 0, o 32 (nc 31), of 33 0 32, of 34 4 33, of 35 6 34, o 36 (k 35), om 37 0, o 38 (nc 37), of 39 17 38, of 40 1 39, o 41 (k 40), o 42 (ia 2 36 41), ol 43 2 42, o 44 (.build l8 [(0, 1, (.s 30)), (1, 2, (.s 43))]), o 45 (c 153 [25, 44]), o 46 (nc 19), of 47 0 46, of 48 4 47, of 49 9 48, p (t 1 49 45)] [0, 2]
 (sp (some []) [am 50 2, a 51 (nt 50), am 52 51, bb 53 0 52, u 54 (nc 53) 52, u 55 (f 0 54) 52, u 56 (f 0 55) 52, u 57 (f 0 56) 52, u 58 (k 57) 52, bb 59 0 52, u 60 (nc 59) 52, u 61 (f 0 60) 52, u 62 (f 4 61) 52, u 63 (f 9 62) 52, u 64 (k 63) 52, u 65 (c 50 [58, 64]) 52, a 66 (ka 52 65)] [0, 66]
 (.cond (.s 66) (.reg [om 67 0, o 68 (nc 67), of 69 0 68, o 70 (c 51 [69])] none []) .skip)))))⟩

def xf_change_vote : XFunc := ⟨none, false, 1, [], (.seq (sp (some []) [am 6 0, a 7 (c 152 [6]), a 8 (nt 7), am 9 8, d 10 (m 0) 9, r 11 (nc 10) 9, r 12 (f 0 11) 9, r 13 (.peek 82 [(.s 12)]) 9, d 14 (m 0) 9, r 15 (nc 14) 9, r 16 (f 0 15) 9, r 17 (f 4 16) 9, r 18 (f 0 17) 9, r 19 (k 18) 9, r 20 (n 13 19) 9, a 21 (ko 9 20)] [0, 21]
 (.cond (.s 21) (.ret []) .skip))
 (rp (some [(4, 34), (10, 34), (15, 34), (16, 34), (17, 34), (22, 34), (27, 34), (32, 34)]) [om 22 0, o 23 (nc 22), of 24 17 23, of 25 1 24, o 26 (k 25), om 27 0, o 28 (nc 27), of 29 0 28, of 30 4 29, of 31 6 30, o 32 (k 31), om 33 0, o 34 (nc 33), of 35 17 34, of 36 1 35, o 37 (k 36), o 38 (ia 2 32 37), ol 39 2 38, om 40 0, o 41 (nc 40), of 42 17 41, of 43 13 42, o 44 (k 43), om 45 0, o 46 (nc 45), of 47 17 46, of 48 12 47, o 49 (k 48), om 50 0, o 51 (nc 50), of 52 17 51, of 53 16 52, o 54 (k 53), o 55 (.build l3 [(0, 1, (.s 26)), (1, 2, (.s 39)), (3, 1, (.s 44)), (4, 1, (.s 49)), (5, 1, (.s 54))]), o 2 (.alloc l3), p (t 6 2 55)] [0, 2]
 (rp (some []) [om 56 0, om 57 0, o 58 (nc 57), of 59 0 58, of 60 4 59, of 61 10 60, o 62 (k 61), ol 63 6 2, o 64 (c 154 [62, 63]), o 65 (nc 56), of 66 0 65, of 67 4 66, of 68 10 67, p (t 1 68 64)] [0]
 (rp (some [(5, 39), (11, 39), (17, 39), (18, 39), (19, 39), (25, 39), (31, 39), (37, 39)]) [om 69 0, o 70 (nc 69), of 71 0 70, of 72 4 71, of 73 0 72, o 74 (k 73), om 75 0, o 76 (nc 75), of 77 0 76, of 78 4 77, of 79 6 78, o 80 (k 79), om 81 0, o 82 (nc 81), of 83 0 82, of 84 4 83, of 85 0 84, o 86 (k 85), o 87 (ia 2 80 86), ol 88 2 87, om 89 0, o 90 (nc 89), of 91 0 90, of 92 4 91, of 93 3 92, o 94 (k 93), om 95 0, o 96 (nc 95), of 97 0 96, of 98 4 97, of 99 5 98, o 100 (k 99), om 101 0, o 102 (nc 101), of 103 0 102, of 104 4 103, of 105 4 104, o 106 (k 105), o 107 (.build l3 [(0, 1, (.s 74)), (1, 2, (.s 88)), (3, 1, (.s 94)), (4, 1, (.s 100)), (5, 1, (.s 106))]), o 3 (.alloc l3), p (t 6 3 107)] [0, 3]
 (rp (some [(5, 17), (6, 17), (12, 17), (13, 17)]) [om 109 0, o 110 (nc 109), of 111 0 110, of 112 0 111, of 113 0 112, o 114 (k 113), ol 115 6 3, om 116 0, o 117 (nc 116), of 118 0 117, of 119 4 118, of 120 10 119, o 121 (k 120), o 122 (c 155 [114, 115, 121]), om 108 122, o 123 (e 108 0), o 124 (e 108 1), o 4 (.alloc l3), p (t 6 4 123), om 5 124] [0, 4, 5]
 (rs [om 125 5, o 126 (qj 125 0)] [0, 4, 126]
 (.cond (.s 126) (.reg [om 127 0, ol 128 6 4, o 129 (c 156 [127, 128])] none []) .skip)))))))⟩

def xf_change_install : XFunc := ⟨none, false, 1, [], (.seq (sp (some []) [am 2 0, a 3 (nc 2), a 4 (f 17 3), a 5 (f 2 4), a 6 (k 5), am 7 0, a 8 (nc 7), a 9 (f 0 8), a 10 (f 4 9), a 11 (f 2 10), a 12 (k 11), a 13 (bl 6 12), am 14 13, d 15 (m 0) 14, r 16 (nc 15) 14, r 17 (f 17 16) 14, r 18 (f 2 17) 14, r 19 (k 18) 14, d 20 (m 0) 14, r 21 (nc 20) 14, r 22 (f 0 21) 14, r 23 (f 4 22) 14, r 24 (f 2 23) 14, r 25 (k 24) 14, r 26 (q 19 25) 14, r 27 (m 26) 14, bb 28 0 27, u 29 (nc 28) 27, u 30 (f 0 29) 27, u 31 (f 4 30) 27, u 32 (f 1 31) 27, u 33 (k 32) 27, u 34 (qj 33 1) 27, r 35 (ka 27 34) 14, a 36 (ko 14 35)] [0, 36]
 (.cond (.s 36) (.ret []) .skip))
 (rs [om 37 0, o 38 (nc 37), of 39 0 38, o 40 (c 79 [39])] [0]
 (rp (some []) [om 41 0, om 42 0, om 43 0, om 44 0, om 45 0, o 46 (nc 45), of 47 17 46, of 48 2 47, o 49 (k 48), om 50 0, o 51 (nc 50), of 52 17 51, of 53 2 52, o 54 (k 53), o 55 (nc 41), of 56 0 55, of 57 4 56, of 58 1 57, p (.store 1 (.s 58) (j 1)), o 59 (nc 42), of 60 0 59, of 61 4 60, of 62 2 61, p (t 1 62 49), o 63 (nc 43), of 64 0 63, of 65 4 64, of 66 3 65, p (t 1 66 54), o 67 (nc 44), of 68 0 67, of 69 4 68, of 70 7 69, p (.store 1 (.s 70) (j 0))] [0]
 (rs [om 71 0, om 72 0, o 73 (nc 72), of 74 17 73, of 75 16 74, o 76 (k 75), o 77 (.app 38 5 48 true (.c (.nil 38 5 true)) (.s 76)), o 78 (nc 71), of 79 0 78, of 80 4 79, of 81 4 80, p (t 1 81 77)] [0]
 (rp (some []) [om 82 0, om 83 0, o 84 (nc 83), of 85 0 84, of 86 4 85, of 87 5 86, o 88 (k 87), om 89 0, o 90 (nc 89), of 91 17 90, of 92 12 91, o 93 (k 92), o 94 (.mm true (.s 88) (.s 93)), om 95 0, o 96 (nc 95), of 97 0 96, of 98 4 97, of 99 4 98, o 100 (k 99), o 101 (le 100), o 102 (.mm false (.s 94) (.s 101)), o 103 (nc 82), of 104 0 103, of 105 4 104, of 106 5 105, p (t 1 106 102)] [0]
 (rp (some []) [om 107 0, o 108 (nc 107), of 109 0 108, of 110 4 109, of 111 4 110, o 112 (k 111), o 113 (le 112), om 114 0, o 115 (nc 114), of 116 0 115, of 117 4 116, of 118 5 117, o 119 (k 118), o 120 (bg 113 119)] [0, 120]
 (.cond (.s 120) (.reg [om 121 0, o 122 (nc 121), of 123 0 122, om 124 0, o 125 (nc 124), of 126 0 125, o 127 (.peek 82 [(.s 126)]), om 128 0, o 129 (nc 128), of 130 0 129, of 131 4 130, of 132 2 131, o 133 (k 132), om 134 0, o 135 (nc 134), of 136 0 135, of 137 4 136, of 138 4 137, o 139 (k 138), o 140 (le 139), o 141 (.build l4 [(0, 1, (j 4)), (2, 1, (.s 133)), (11, 1, (.s 140))]), o 142 (c 83 [123, 127, 141])] (some []) []) .skip)))))))⟩

def xf_ref07_Config : XFunc := ⟨none, true, 1, [.tmp 2], (rs [o 1 (bx 0), o 2 (.mv (.c w))] [1]
 (ss [a 3 (f 0 1), a 4 (k 3), a 5 (bhj 4 1), am 6 5, b 7 (f 0 1) 6, b 8 (k 7) 6, b 9 (bmj 8 3) 6, a 10 (ka 6 9), am 11 10, b 12 (f 1 1) 11, b 13 (k 12) 11, b 14 (bhj 13 1) 11, a 15 (ka 11 14), am 16 15, b 17 (f 1 1) 16, b 18 (k 17) 16, b 19 (bmj 18 256) 16, a 20 (ka 16 19), am 21 20, b 22 (f 2 1) 21, b 23 (k 22) 21, b 24 (bhj 23 6) 21, a 25 (ka 21 24), am 26 25, b 27 (f 2 1) 26, b 28 (k 27) 26, b 29 (bmj 28 100) 26, a 30 (ka 26 29), am 2 30] [2]
 (.ret [2])))⟩

def xf_ref07_Uses_k0 : List (Nat × Option (Nat × Nat × Bool)) := [(3, none), (4, some (4, 1, true)), (5, none)]
def xf_ref07_Uses_b0 : XCode := (.seq (rs [om 33 5, om 34 3, o 35 (.len true (.s 34)), o 36 (bl 33 35)] [3, 4, 5, 36]
 (.cond (.s 36) .skip (.exit 1 [4])))
 (.seq (.block 2 (.reg [om 39 4, om 40 3, om 41 5, o 42 (.sidx (.s 40) (.s 41)), o 43 (.eqv true false [.i] (.s 42) (.c (.dat (.int .u8 46)))), o 44 (.bsl 4 1 true 1 [w] [(0, 1, (.s 43))]), o 45 (.app 4 1 1 true (.s 39) (.s 44)), om 4 45] none [3, 4, 5]))
 (.reg [om 37 5, o 38 (baj 37 1), om 5 38] none [3, 4, 5])))
def xf_ref07_Uses : XFunc := ⟨none, true, 1, [.tmp 2], (rs [o 2 (.mv (.c (.nil 4 1 true)))] [0]
 (rs [o 3 (.mv (.c x))] [0, 3]
 (.seq (rs [om 6 0] [3, 6]
 (.block 0 (rs [o 8 (qj 6 1), om 7 8] [3, 6, 7]
 (.cond (.s 7) (.reg [o 3 (.mv (.c (.dat (.str ⟨#[46, 46, 46, 46, 46, 46, 101, 46, 46, 46]⟩))))] none [3]) (rs [o 10 (qj 6 2), om 9 10] [3, 6, 9]
 (.cond (.s 9) (.reg [o 3 (.mv (.c (.dat (.str ⟨#[110, 118, 46, 112, 46, 46, 101, 114, 46, 46]⟩))))] none [3]) (rs [o 12 (qj 6 3), om 11 12] [3, 6, 11]
 (.cond (.s 11) (.reg [o 3 (.mv (.c (.dat (.str ⟨#[110, 118, 46, 112, 99, 46, 101, 46, 46, 120]⟩))))] none [3]) (rs [o 14 (qj 6 4), om 13 14] [3, 6, 13]
 (.cond (.s 13) (.reg [o 3 (.mv (.c (.dat (.str ⟨#[110, 118, 46, 112, 46, 46, 46, 46, 46, 120]⟩))))] none [3]) (rs [o 16 (qj 6 5), om 15 16] [3, 6, 15]
 (.cond (.s 15) (.reg [o 3 (.mv (.c (.dat (.str ⟨#[110, 118, 46, 46, 99, 46, 46, 46, 46, 120]⟩))))] none [3]) (.seq (rs [o 18 (qj 6 6), om 17 18] [3, 6, 17]
 (.cond (.s 17) .skip (.reg [o 19 (qj 6 11), om 17 19] none [3, 6, 17])))
 (.cond (.s 17) (.reg [o 3 (.mv (.c (.dat (.str ⟨#[110, 118, 46, 46, 46, 46, 46, 46, 46, 120]⟩))))] none [3]) (rs [o 21 (qj 6 7), om 20 21] [3, 6, 20]
 (.cond (.s 20) (.reg [o 3 (.mv (.c (.dat (.str ⟨#[110, 118, 108, 46, 99, 46, 46, 46, 103, 120]⟩))))] none [3]) (.seq (rs [o 23 (qj 6 8), om 22 23] [3, 6, 22]
 (.cond (.s 22) .skip (.reg [o 24 (qj 6 12), om 22 24] none [3, 6, 22])))
 (.cond (.s 22) (.reg [o 3 (.mv (.c (.dat (.str ⟨#[110, 118, 46, 46, 99, 46, 46, 46, 103, 120]⟩))))] none [3]) (rs [o 26 (qj 6 9), om 25 26] [3, 6, 25]
 (.cond (.s 25) (.reg [o 3 (.mv (.c (.dat (.str ⟨#[110, 46, 46, 46, 46, 100, 46, 46, 46, 120]⟩))))] none [3]) (rs [o 28 (qj 6 10), om 27 28] [3, 6, 27]
 (.cond (.s 27) (.reg [o 3 (.mv (.c (.dat (.str ⟨#[110, 118, 46, 46, 99, 100, 46, 46, 103, 120]⟩))))] none [3]) (rs [o 30 (qj 6 13), om 29 30] [3, 6, 29]
 (.cond (.s 29) (.reg [o 3 (.mv (.c (.dat (.str ⟨#[46, 46, 46, 112, 46, 46, 101, 46, 46, 46]⟩))))] none [3]) (rs [o 32 (qj 6 14), om 31 32] [3, 31]
 (.cond (.s 31) (.reg [o 3 (.mv (.c (.dat (.str ⟨#[110, 118, 46, 46, 99, 46, 101, 114, 46, 46]⟩))))] none [3]) .skip))))))))))))))))))))))))))
 (rs [o 4 (.mv (.c (.nil 4 1 true)))] [3, 4]
 (.seq (rs [o 5 (.mv (j 0))] [3, 4, 5]
 (.block 1 (.loop xf_ref07_Uses_k0 xf_ref07_Uses_b0)))
 (rs [om 46 4, om 2 46] [2]
 (.ret [2])))))))⟩

def xf_ref07_unused : XFunc := ⟨none, true, 2, [.tmp 4], (rs [o 2 (bx 0), o 4 (.mv (.c w))] [1, 2]
 (rp (some []) [of 10 1 2, o 11 (k 10), o 12 (qj 11 0), of 13 2 2, o 14 (k 13), o 15 (qj 14 0), of 16 13 2, o 17 (k 16), o 18 (qj 17 0), of 19 11 2, o 20 (k 19), o 21 (qj 20 0), of 22 12 2, o 23 (k 22), o 24 (qj 23 0), om 5 12, om 6 15, om 7 18, om 8 21, om 9 24] [1, 2, 5, 6, 7, 8, 9]
 (ss [am 25 1, a 26 (.iadr 1 (.s 25) (j 0)), a 27 (k 26), am 28 27, d 29 (m 5) 28, a 30 (ko 28 29), am 31 30, bb 32 1 31, u 33 (.iadr 1 (.s 32) (j 1)) 31, u 34 (k 33) 31, u 35 (m 34) 31, d 36 (m 6) 35, u 37 (ko 35 36) 31, a 38 (ka 31 37), am 39 38, bb 40 1 39, u 41 (.iadr 1 (.s 40) (j 2)) 39, u 42 (k 41) 39, u 43 (m 42) 39, d 44 (m 7) 43, u 45 (ko 43 44) 39, a 46 (ka 39 45), am 47 46, bb 48 1 47, u 49 (.iadr 1 (.s 48) (j 3)) 47, u 50 (k 49) 47, u 51 (m 50) 47, d 52 (m 8) 51, u 53 (ko 51 52) 47, a 54 (ka 47 53), am 55 54, bb 56 1 55, u 57 (.iadr 1 (.s 56) (j 4)) 55, u 58 (k 57) 55, u 59 (m 58) 55, d 60 (m 9) 59, u 61 (ko 59 60) 55, a 62 (ka 55 61), am 63 62, bb 64 1 63, u 65 (.iadr 1 (.s 64) (j 5)) 63, u 66 (k 65) 63, u 67 (m 66) 63, d 68 (f 14 2) 67, d 69 (l 2 68) 67, d 70 (.build [y, y] []) 67, d 71 (.eqv false true [.i, .i] (.s 69) (.s 70)) 67, u 72 (ko 67 71) 63, a 73 (ka 63 72), am 74 73, bb 75 1 74, u 76 (.iadr 1 (.s 75) (j 6)) 74, u 77 (k 76) 74, u 78 (m 77) 74, d 79 (f 3 2) 78, d 80 (l 5 79) 78, d 81 (.build l13 []) 78, d 82 (.eqv false true [.i, .i, .i, .i, .s] (.s 80) (.s 81)) 78, u 83 (ko 78 82) 74, a 84 (ka 74 83), am 85 84, bb 86 1 85, u 87 (.iadr 1 (.s 86) (j 7)) 85, u 88 (k 87) 85, u 89 (m 88) 85, d 90 (f 8 2) 89, d 91 (l 3 90) 89, d 92 (.build l9 []) 89, d 93 (.eqv false true [.i, .i, .s] (.s 91) (.s 92)) 89, u 94 (ko 89 93) 85, a 95 (ka 85 94), am 96 95, bb 97 1 96, u 98 (.iadr 1 (.s 97) (j 8)) 96, u 99 (k 98) 96, u 100 (m 99) 96, d 101 (f 16 2) 100, d 102 (k 101) 100, d 103 (le 102) 100, d 104 (qj 103 0) 100, u 105 (ko 100 104) 96, a 106 (ka 96 105), am 107 106, bb 108 1 107, u 109 (.iadr 1 (.s 108) (j 9)) 107, u 110 (k 109) 107, u 111 (m 110) 107, d 112 (f 17 2) 111, d 113 (k 112) 111, d 114 (le 113) 111, d 115 (qj 114 0) 111, u 116 (ko 111 115) 107, a 117 (ka 107 116), am 4 117] [4]
 (.ret [4]))))⟩

def xf_ref07_fields : XFunc := ⟨none, true, 4, [.tmp 8], (rs [o 4 (bx 0), o 5 (bx 1), o 8 (.mv (.c w))] [2, 3, 4, 5]
 (rs [of 10 0 4, o 11 (k 10), o 12 (.bin .mul (j 2) (.s 11)), o 13 (baj 12 1), om 9 13] [2, 3, 4, 5, 9]
 (.seq (ss [am 14 3, a 15 (.iadr 1 (.s 14) (j 0)), a 16 (k 15), am 17 16, b 18 (f 1 5) 17, b 19 (k 18) 17, b 20 (blj 19 0) 17, bb 21 20 17, d 22 (f 1 5) 21, d 23 (k 22) 21, d 24 (m 9) 21, d 25 (bh 23 24) 21, b 26 (ko 21 25) 17, a 27 (ka 17 26), am 28 27, d 29 (m 3) 28, r 30 (.iadr 1 (.s 29) (j 1)) 28, r 31 (k 30) 28, r 32 (m 31) 28, b 33 (f 2 5) 32, b 34 (k 33) 32, b 35 (blj 34 0) 32, bb 36 35 32, d 37 (f 2 5) 36, d 38 (k 37) 36, d 39 (bgj 38 4294967296) 36, b 40 (ko 36 39) 32, r 41 (ka 32 40) 28, a 42 (ko 28 41)] [2, 3, 4, 5, 9, 42]
 (.cond (.s 42) (rs [o 8 (.mv (.c w))] [8]
 (.ret [8])) .skip))
 (.seq (ss [am 43 2, a 44 (qj 43 6), am 45 44, d 46 (m 2) 45, d 47 (qj 46 7) 45, a 48 (ko 45 47), am 49 48, d 50 (m 2) 49, d 51 (qj 50 8) 49, a 52 (ko 49 51), am 53 52, b 54 (f 2 5) 53, b 55 (k 54) 53, b 56 (blj 55 1) 53, a 57 (ka 53 56)] [2, 3, 4, 5, 9, 57]
 (.cond (.s 57) (rs [o 8 (.mv (.c w))] [8]
 (.ret [8])) .skip))
 (.seq (sp (some []) [am 58 2, a 59 (qj 58 3), am 60 59, d 61 (m 2) 60, d 62 (qj 61 5) 60, a 63 (ko 60 62), am 64 63, d 65 (m 2) 64, d 66 (qj 65 8) 64, a 67 (ko 64 66), am 68 67, b 69 (f 1 5) 68, b 70 (k 69) 68, b 71 (f 2 5) 68, b 72 (k 71) 68, bb 73 9 68, u 74 (.bin .rem (.s 72) (.s 73)) 68, u 75 (n 70 74) 68, a 76 (ka 68 75)] [2, 3, 4, 5, 9, 76]
 (.cond (.s 76) (rs [o 8 (.mv (.c w))] [8]
 (.ret [8])) .skip))
 (.seq (ss [am 77 3, a 78 (.iadr 1 (.s 77) (j 2)), a 79 (k 78), am 80 79, b 81 (f 13 5) 80, b 82 (k 81) 80, b 83 (blj 82 0) 80, bb 84 83 80, d 85 (f 13 5) 84, d 86 (k 85) 84, d 87 (f 2 5) 84, d 88 (k 87) 84, d 89 (bh 86 88) 84, b 90 (ko 84 89) 80, a 91 (ka 80 90)] [2, 3, 4, 5, 9, 91]
 (.cond (.s 91) (rs [o 8 (.mv (.c w))] [8]
 (.ret [8])) .skip))
 (.seq (ss [am 92 3, a 93 (.iadr 1 (.s 92) (j 3)), a 94 (k 93), am 95 94, b 96 (f 11 5) 95, b 97 (k 96) 95, b 98 (blj 97 0) 95, bb 99 98 95, d 100 (f 11 5) 99, d 101 (k 100) 99, d 102 (f 1 4) 99, d 103 (k 102) 99, d 104 (bg 101 103) 99, b 105 (ko 99 104) 95, bb 106 105 95, d 107 (m 2) 106, d 108 (qj 107 3) 106, d 109 (m 108) 106, b 110 (f 11 5) 109, b 111 (k 110) 109, b 112 (blj 111 1) 109, d 113 (ka 109 112) 106, b 114 (ko 106 113) 95, bb 115 114 95, d 116 (m 2) 115, d 117 (qj 116 2) 115, d 118 (m 117) 115, b 119 (f 11 5) 118, b 120 (k 119) 118, b 121 (qj 120 0) 118, b 122 (f 8 5) 118, b 123 (f 0 122) 118, b 124 (k 123) 118, b 125 (qj 124 7) 118, b 126 (.eqv true false [.b] (.s 121) (.s 125)) 118, d 127 (ka 118 126) 115, b 128 (ko 115 127) 95, a 129 (ka 95 128)] [2, 3, 4, 5, 9, 129]
 (.cond (.s 129) (rs [o 8 (.mv (.c w))] [8]
 (.ret [8])) .skip))
 (.seq (ss [am 130 3, a 131 (.iadr 1 (.s 130) (j 8)), a 132 (k 131), am 133 132, b 134 (f 16 5) 133, b 135 (k 134) 133, b 136 (f 1 4) 133, b 137 (k 136) 133, u 138 (c 157 [135, 137]) 133, u 139 (nj 138 0) 133, a 140 (ka 133 139)] [2, 3, 4, 5, 9, 140]
 (.cond (.s 140) (rs [o 8 (.mv (.c w))] [8]
 (.ret [8])) .skip))
 (.seq (ss [am 141 3, a 142 (.iadr 1 (.s 141) (j 4)), a 143 (k 142), am 144 143, b 145 (f 12 5) 144, b 146 (k 145) 144, b 147 (blj 146 0) 144, bb 148 147 144, d 149 (f 12 5) 148, d 150 (k 149) 148, d 151 (f 1 4) 148, d 152 (k 151) 148, d 153 (bg 150 152) 148, b 154 (ko 148 153) 144, u 155 (m 154) 144, d 156 (m 3) 155, r 157 (.iadr 1 (.s 156) (j 8)) 155, r 158 (k 157) 155, r 159 (m 158) 155, b 160 (f 12 5) 159, b 161 (k 160) 159, b 162 (f 16 5) 159, b 163 (k 162) 159, b 164 (le 163) 159, b 165 (bg 161 164) 159, r 166 (ka 159 165) 155, u 167 (ko 155 166) 144, a 168 (ka 144 167)] [2, 3, 5, 9, 168]
 (.cond (.s 168) (rs [o 8 (.mv (.c w))] [8]
 (.ret [8])) .skip))
 (.seq (sp (some []) [am 169 2, a 170 (qj 169 10), am 171 170, b 172 (f 16 5) 171, b 173 (k 172) 171, b 174 (le 173) 171, b 175 (bgj 174 0) 171, a 176 (ka 171 175), am 177 176, b 178 (f 1 5) 177, b 179 (k 178) 177, b 180 (f 2 5) 177, b 181 (k 180) 177, bb 182 9 177, u 183 (.bin .rem (.s 181) (.s 182)) 177, u 184 (n 179 183) 177, a 185 (ka 177 184)] [2, 3, 5, 9, 185]
 (.cond (.s 185) (rs [o 8 (.mv (.c w))] [8]
 (.ret [8])) .skip))
 (.seq (ss [am 186 3, a 187 (.iadr 1 (.s 186) (j 9)), a 188 (k 187), am 189 188, b 190 (f 17 5) 189, b 191 (k 190) 189, b 192 (le 191) 189, bb 193 9 189, b 194 (n 192 193) 189, a 195 (ka 189 194)] [2, 3, 5, 195]
 (.cond (.s 195) (rs [o 8 (.mv (.c w))] [8]
 (.ret [8])) .skip))
 (.seq (sp (some []) [am 196 3, a 197 (.iadr 1 (.s 196) (j 5)), a 198 (k 197), am 199 198, b 200 (f 14 5) 199, b 201 (l 2 200) 199, b 202 (.build [y, y] []) 199, b 203 (.eqv false true [.i, .i] (.s 201) (.s 202)) 199, a 204 (ka 199 203), am 205 204, d 206 (m 2) 205, d 207 (qj 206 9) 205, r 208 (m 207) 205, b 209 (f 14 5) 208, b 210 (l 2 209) 208, b 211 (f 17 5) 208, b 212 (k 211) 208, b 213 (f 1 5) 208, b 214 (k 213) 208, u 215 (ia 2 212 214) 208, u 216 (l 2 215) 208, u 217 (.eqv true true [.i, .i] (.s 210) (.s 216)) 208, r 218 (ka 208 217) 205, a 219 (ko 205 218)] [2, 3, 5, 219]
 (.cond (.s 219) (rs [o 8 (.mv (.c w))] [8]
 (.ret [8])) .skip))
 (.seq (ss [am 220 2, a 221 (qj 220 14), am 222 221, b 223 (f 8 5) 222, b 224 (f 0 223) 222, b 225 (k 224) 222, b 226 (blj 225 4) 222, bb 227 226 222, d 228 (f 8 5) 227, d 229 (f 0 228) 227, d 230 (k 229) 227, d 231 (bgj 230 6) 227, b 232 (ko 227 231) 222, a 233 (ka 222 232)] [2, 3, 5, 233]
 (.cond (.s 233) (rs [o 8 (.mv (.c w))] [8]
 (.ret [8])) .skip))
 (ss [am 234 3, a 235 (.iadr 1 (.s 234) (j 6)), a 236 (k 235), a 237 (nt 236), am 238 237, d 239 (m 2) 238, d 240 (f 3 5) 238, d 241 (l 5 240) 238, r 242 (c 158 [239, 241]) 238, a 243 (ko 238 242), am 244 243, bb 245 3 244, u 246 (.iadr 1 (.s 245) (j 7)) 244, u 247 (k 246) 244, u 248 (nt 247) 244, u 249 (m 248) 244, d 250 (f 8 5) 249, d 251 (l 3 250) 249, r 252 (c 159 [251]) 249, u 253 (ko 249 252) 244, a 254 (ka 244 253), am 8 254] [8]
 (.ret [8])))))))))))))))⟩

def xf_ref07_Between : XFunc := ⟨none, true, 1, [.tmp 2], (rs [o 2 (.mv (.c w))] [0]
 (ss [am 3 0, a 4 (bhj 3 3), am 5 4, bb 6 0 5, b 7 (bmj 6 12) 5, a 8 (ka 5 7), am 2 8] [2]
 (.ret [2])))⟩

def xf_ref09_below : XFunc := ⟨none, true, 2, [.tmp 4], (rs [o 2 (bx 0), o 3 (bx 1), o 4 (.mv (.c w))] [2, 3]
 (rs [ol 5 2 2, ol 6 2 3, o 7 (c 160 [5, 6]), o 8 (blj 7 0), om 4 8] [4]
 (.ret [4])))⟩

def xf_ref09_Pruned_k0 : List (Nat × Option (Nat × Nat × Bool)) := [(1, none), (2, none), (3, none), (4, none)]
def xf_ref09_Pruned_b0 : XCode := (.seq (rs [om 11 4, of 12 8 1, o 13 (k 12), o 14 (le 13), o 15 (bl 11 14)] [1, 2, 3, 4, 15]
 (.cond (.s 15) .skip (.exit 0 [1, 2, 3])))
 (.seq (.block 1 (rp (some []) [of 18 8 1, o 19 (k 18), om 20 4, o 21 (ia 4 19 20), of 22 1 21, ol 23 2 22, of 24 6 1, o 25 (k 24), of 26 8 1, o 27 (k 26), om 28 4, o 29 (ia 4 27 28), of 30 0 29, o 31 (k 30), o 32 (ia 2 25 31), ol 33 2 32, o 34 (c 108 [23, 33]), o 35 (nt 34)] [1, 2, 3, 4, 35]
 (.cond (.s 35) (.reg [of 36 8 3, o 37 (k 36), of 38 8 1, o 39 (k 38), om 40 4, o 41 (ia 4 39 40), ol 42 4 41, o 43 (.bsl 172 4 true 1 l12 [(0, 4, (.s 42))]), o 44 (.app 172 4 32 true (.s 37) (.s 43)), of 45 8 3, p (t 1 45 44)] (some [(1, 7)]) [1, 2, 3, 4]) .skip)))
 (.reg [om 16 4, o 17 (baj 16 1), om 4 17] none [1, 2, 3, 4])))
def xf_ref09_Pruned_k1 : List (Nat × Option (Nat × Nat × Bool)) := [(1, none), (2, none), (3, none), (5, none)]
def xf_ref09_Pruned_b1 : XCode := (.seq (rs [om 47 5, of 48 9 1, o 49 (k 48), o 50 (le 49), o 51 (bl 47 50)] [1, 2, 3, 5, 51]
 (.cond (.s 51) .skip (.exit 2 [1, 2, 3])))
 (.seq (.block 3 (rp (some []) [of 54 9 1, o 55 (k 54), om 56 5, o 57 (ia 3 55 56), of 58 1 57, ol 59 2 58, of 60 6 1, o 61 (k 60), of 62 9 1, o 63 (k 62), om 64 5, o 65 (ia 3 63 64), of 66 0 65, o 67 (k 66), o 68 (ia 2 61 67), ol 69 2 68, o 70 (c 108 [59, 69]), o 71 (nt 70)] [1, 2, 3, 5, 71]
 (.cond (.s 71) (.reg [of 72 9 3, o 73 (k 72), of 74 9 1, o 75 (k 74), om 76 5, o 77 (ia 3 75 76), ol 78 3 77, o 79 (.bsl 86 3 true 1 l8 [(0, 3, (.s 78))]), o 80 (.app 86 3 24 true (.s 73) (.s 79)), of 81 9 3, p (t 1 81 80)] (some [(1, 7)]) [1, 2, 3, 5]) .skip)))
 (.reg [om 52 5, o 53 (baj 52 1), om 5 53] none [1, 2, 3, 5])))
def xf_ref09_Pruned_k2 : List (Nat × Option (Nat × Nat × Bool)) := [(1, none), (2, none), (3, none), (6, none)]
def xf_ref09_Pruned_b2 : XCode := (.seq (rs [om 83 6, of 84 10 1, o 85 (k 84), o 86 (le 85), o 87 (bl 83 86)] [1, 2, 3, 6, 87]
 (.cond (.s 87) .skip (.exit 4 [1, 2, 3])))
 (.seq (.block 5 (rp (some []) [of 90 10 1, o 91 (k 90), om 92 6, o 93 (ia 6 91 92), of 94 1 93, ol 95 2 94, of 96 6 1, o 97 (k 96), of 98 10 1, o 99 (k 98), om 100 6, o 101 (ia 6 99 100), of 102 0 101, o 103 (k 102), o 104 (ia 2 97 103), ol 105 2 104, o 106 (c 108 [95, 105]), o 107 (nt 106)] [1, 2, 3, 6, 107]
 (.cond (.s 107) (.reg [of 108 10 3, o 109 (k 108), of 110 10 1, o 111 (k 110), om 112 6, o 113 (ia 6 111 112), ol 114 6 113, o 115 (.bsl 78 6 false 1 l3 [(0, 6, (.s 114))]), o 116 (.app 78 6 64 false (.s 109) (.s 115)), of 117 10 3, p (t 1 117 116)] (some [(1, 7)]) [1, 2, 3, 6]) .skip)))
 (.reg [om 88 6, o 89 (baj 88 1), om 6 89] none [1, 2, 3, 6])))
def xf_ref09_Pruned_k3 : List (Nat × Option (Nat × Nat × Bool)) := [(1, none), (2, none), (3, none), (7, none)]
def xf_ref09_Pruned_b3 : XCode := (.seq (rs [om 119 7, of 120 11 1, o 121 (k 120), o 122 (le 121), o 123 (bl 119 122)] [1, 2, 3, 7, 123]
 (.cond (.s 123) .skip (.exit 6 [2, 3])))
 (.seq (.block 7 (rp (some []) [of 126 11 1, o 127 (k 126), om 128 7, o 129 (ia 6 127 128), of 130 1 129, ol 131 2 130, of 132 6 1, o 133 (k 132), of 134 11 1, o 135 (k 134), om 136 7, o 137 (ia 6 135 136), of 138 0 137, o 139 (k 138), o 140 (ia 2 133 139), ol 141 2 140, o 142 (c 108 [131, 141]), o 143 (nt 142)] [1, 2, 3, 7, 143]
 (.cond (.s 143) (.reg [of 144 11 3, o 145 (k 144), of 146 11 1, o 147 (k 146), om 148 7, o 149 (ia 6 147 148), ol 150 6 149, o 151 (.bsl 80 6 false 1 l3 [(0, 6, (.s 150))]), o 152 (.app 80 6 64 false (.s 145) (.s 151)), of 153 11 3, p (t 1 153 152)] (some [(1, 7)]) [1, 2, 3, 7]) .skip)))
 (.reg [om 124 7, o 125 (baj 124 1), om 7 125] none [1, 2, 3, 7])))
def xf_ref09_Pruned : XFunc := ⟨none, false, 1, [.cell 2 (some 12)], (rs [o 1 (bx 0), o 2 (.alloc l1)] [1, 2]
 (rs [ol 8 12 1, o 9 (c 25 [8]), o 3 (.alloc l1), p (t 12 3 9)] [1, 2, 3]
 (rs [of 10 8 3, p (.store 1 (.s 10) (.c (.nil 172 4 true)))] [1, 2, 3]
 (.seq (rs [o 4 (.mv (j 0))] [1, 2, 3, 4]
 (.block 0 (.loop xf_ref09_Pruned_k0 xf_ref09_Pruned_b0)))
 (rs [of 46 9 3, p (.store 1 (.s 46) (.c (.nil 86 3 true)))] [1, 2, 3]
 (.seq (rs [o 5 (.mv (j 0))] [1, 2, 3, 5]
 (.block 2 (.loop xf_ref09_Pruned_k1 xf_ref09_Pruned_b1)))
 (rs [of 82 10 3, p (.store 1 (.s 82) (.c (.nil 78 6 false)))] [1, 2, 3]
 (.seq (rs [o 6 (.mv (j 0))] [1, 2, 3, 6]
 (.block 4 (.loop xf_ref09_Pruned_k2 xf_ref09_Pruned_b2)))
 (rs [of 118 11 3, p (.store 1 (.s 118) (.c (.nil 80 6 false)))] [1, 2, 3]
 (.seq (rs [o 7 (.mv (j 0))] [1, 2, 3, 7]
 (.block 6 (.loop xf_ref09_Pruned_k3 xf_ref09_Pruned_b3)))
 (rs [ol 154 12 3, p (t 12 2 154)] [2]
 (.ret [2]))))))))))))⟩

def xf_ref05_Between_k0 : List (Nat × Option (Nat × Nat × Bool)) := [(0, none), (2, none), (9, some (40, 3, true)), (10, some (141, 7, true)), (11, none)]
def xf_ref05_Between_b0 : XCode := (.seq (rs [om 46 11, om 47 2, o 48 (bm 46 47)] [0, 2, 9, 10, 11, 48]
 (.cond (.s 48) .skip (.exit 0 [10])))
 (.seq (.block 1 (rs [om 51 0, om 52 11, o 53 (.call (fc 162) [(.s 51), (.s 52), (.c w)]), o 12 (.alloc l10), p (t 7 12 53)] [0, 2, 9, 10, 11, 12]
 (rs [of 54 3 12, p (.store 1 (.s 54) (.c v))] [0, 2, 9, 10, 11, 12]
 (rs [om 55 9, om 56 11, o 57 (bsj 56 1), o 58 (ia 3 55 57), ol 59 3 58, of 60 4 12, p (t 3 60 59)] [0, 2, 9, 10, 11, 12]
 (.reg [om 61 10, ol 62 7 12, o 63 (.bsl 141 7 true 1 l10 [(0, 7, (.s 62))]), o 64 (.app 141 7 64 true (.s 61) (.s 63)), om 10 64] none [0, 2, 9, 10, 11])))))
 (.reg [om 49 11, o 50 (baj 49 1), om 11 50] none [0, 2, 9, 10, 11])))
def xf_ref05_Between : XFunc := ⟨none, true, 3, [.tmp 6, .tmp 7], (rs [o 6 (.mv (.c (.nil 141 7 true))), o 7 (.mv (j 0))] [0, 1, 2]
 (rs [om 13 0, o 14 (.call (fc 157) [(.s 13), (j 256)]), om 8 14] [0, 1, 2, 8]
 (.seq (rs [om 15 8, o 16 (nj 15 0)] [0, 1, 2, 8, 16]
 (.cond (.s 16) (rs [om 17 8, o 6 (.mv (.c (.nil 141 7 true))), om 7 17] [6, 7]
 (.ret [6, 7])) .skip))
 (.seq (ss [am 18 1, a 19 (blj 18 0), am 20 19, d 21 (m 1) 20, d 22 (m 0) 20, d 23 (le 22) 20, d 24 (bg 21 23) 20, a 25 (ko 20 24), am 26 25, d 27 (m 2) 26, d 28 (blj 27 0) 26, a 29 (ko 26 28), am 30 29, d 31 (m 2) 30, d 32 (m 0) 30, d 33 (le 32) 30, d 34 (bg 31 33) 30, a 35 (ko 30 34), am 36 35, d 37 (m 1) 36, d 38 (m 2) 36, d 39 (bg 37 38) 36, a 40 (ko 36 39)] [0, 1, 2, 40]
 (.cond (.s 40) (rs [o 6 (.mv (.c (.nil 141 7 true))), o 7 (.mv (j 50))] [6, 7]
 (.ret [6, 7])) .skip))
 (rs [om 41 0, om 42 2, o 43 (c 161 [41, 42]), om 9 43] [0, 1, 2, 9]
 (rs [o 10 (.mv (.c (.nil 141 7 true)))] [0, 1, 2, 9, 10]
 (.seq (rs [om 44 1, o 45 (baj 44 1), om 11 45] [0, 2, 9, 10, 11]
 (.block 0 (.loop xf_ref05_Between_k0 xf_ref05_Between_b0)))
 (rs [om 65 10, om 6 65, o 7 (.mv (j 0))] [6, 7]
 (.ret [6, 7])))))))))⟩
theorem r_ref09_Admit : progT Tryz.prog 59 = some xf_ref09_Admit.plain := by kernel_rfl
theorem r_plain_sameAcks : progT Tryz.prog 60 = some xf_plain_sameAcks.plain := by kernel_rfl
theorem r_plain_sameMarks : progT Tryz.prog 61 = some xf_plain_sameMarks.plain := by kernel_rfl
theorem r_plain_SameBallots : progT Tryz.prog 62 = some xf_plain_SameBallots.plain := by kernel_rfl
theorem r_plain_SameAnswers : progT Tryz.prog 63 = some xf_plain_SameAnswers.plain := by kernel_rfl
theorem r_ref09_CheckConfig : progT Tryz.prog 64 = some xf_ref09_CheckConfig.plain := by kernel_rfl
theorem r_ref09_Nodes : progT Tryz.prog 65 = some xf_ref09_Nodes.plain := by kernel_rfl
theorem r_ref11_better : progT Tryz.prog 66 = some xf_ref11_better.plain := by kernel_rfl
theorem r_ref09_Carry : progT Tryz.prog 67 = some xf_ref09_Carry.plain := by kernel_rfl
theorem r_ref09_stamped : progT Tryz.prog 68 = some xf_ref09_stamped.plain := by kernel_rfl
theorem r_core_CheckConfig : progT Tryz.prog 69 = some xf_core_CheckConfig.plain := by kernel_rfl
theorem r_core_Nodes : progT Tryz.prog 70 = some xf_core_Nodes.plain := by kernel_rfl
theorem r_core_logged : progT Tryz.prog 71 = some xf_core_logged.plain := by kernel_rfl
theorem r_core_voted : progT Tryz.prog 72 = some xf_core_voted.plain := by kernel_rfl
theorem r_core_normal : progT Tryz.prog 73 = some xf_core_normal.plain := by kernel_rfl
theorem r_core_changing : progT Tryz.prog 74 = some xf_core_changing.plain := by kernel_rfl
theorem r_core_recovering : progT Tryz.prog 75 = some xf_core_recovering.plain := by kernel_rfl
theorem r_core_twin : progT Tryz.prog 76 = some xf_core_twin.plain := by kernel_rfl
theorem r_core_leads : progT Tryz.prog 77 = some xf_core_leads.plain := by kernel_rfl
theorem r_client_Between : progT Tryz.prog 78 = some xf_client_Between.plain := by kernel_rfl
theorem r_change_frame_clear : progT Tryz.prog 79 = some xf_change_frame_clear.plain := by kernel_rfl
theorem r_ref09_may : progT Tryz.prog 80 = some xf_ref09_may.plain := by kernel_rfl
theorem r_core_All : progT Tryz.prog 81 = some xf_core_All.plain := by kernel_rfl
theorem r_change_frame_primary : progT Tryz.prog 82 = some xf_change_frame_primary.plain := by kernel_rfl
theorem r_change_frame_one : progT Tryz.prog 83 = some xf_change_frame_one.plain := by kernel_rfl
theorem r_message_config : progT Tryz.prog 84 = some xf_message_config.plain := by kernel_rfl
theorem r_message_is : progT Tryz.prog 85 = some xf_message_is.plain := by kernel_rfl
theorem r_message_unused : progT Tryz.prog 86 = some xf_message_unused.plain := by kernel_rfl
theorem r_message_numbers : progT Tryz.prog 87 = some xf_message_numbers.plain := by kernel_rfl
theorem r_message_asks : progT Tryz.prog 88 = some xf_message_asks.plain := by kernel_rfl
theorem r_message_answers : progT Tryz.prog 89 = some xf_message_answers.plain := by kernel_rfl
theorem r_message_reads : progT Tryz.prog 90 = some xf_message_reads.plain := by kernel_rfl
theorem r_message_Between : progT Tryz.prog 92 = some xf_message_Between.plain := by kernel_rfl
theorem r_vector_Over : progT Tryz.prog 93 = some xf_vector_Over.plain := by kernel_rfl
theorem r_nonce_Compare : progT Tryz.prog 94 = some xf_nonce_Compare.plain := by kernel_rfl
theorem r_vector_Merge : progT Tryz.prog 95 = some xf_vector_Merge.plain := by kernel_rfl
theorem r_tally_PruneAcks : progT Tryz.prog 96 = some xf_tally_PruneAcks.plain := by kernel_rfl
theorem r_tally_PruneMarks : progT Tryz.prog 97 = some xf_tally_PruneMarks.plain := by kernel_rfl
theorem r_tally_PruneBallots : progT Tryz.prog 98 = some xf_tally_PruneBallots.plain := by kernel_rfl
theorem r_tally_PruneAnswers : progT Tryz.prog 99 = some xf_tally_PruneAnswers.plain := by kernel_rfl
theorem r_change_start : progT Tryz.prog 100 = some xf_change_start.plain := by kernel_rfl
theorem r_change_vote : progT Tryz.prog 101 = some xf_change_vote.plain := by kernel_rfl
theorem r_change_install : progT Tryz.prog 102 = some xf_change_install.plain := by kernel_rfl
theorem r_ref07_Config : progT Tryz.prog 103 = some xf_ref07_Config.plain := by kernel_rfl
theorem r_ref07_Uses : progT Tryz.prog 104 = some xf_ref07_Uses.plain := by kernel_rfl
theorem r_ref07_unused : progT Tryz.prog 105 = some xf_ref07_unused.plain := by kernel_rfl
theorem r_ref07_fields : progT Tryz.prog 106 = some xf_ref07_fields.plain := by kernel_rfl
theorem r_ref07_Between : progT Tryz.prog 107 = some xf_ref07_Between.plain := by kernel_rfl
theorem r_ref09_below : progT Tryz.prog 108 = some xf_ref09_below.plain := by kernel_rfl
theorem r_ref09_Pruned : progT Tryz.prog 109 = some xf_ref09_Pruned.plain := by kernel_rfl
theorem r_ref05_Between : progT Tryz.prog 110 = some xf_ref05_Between.plain := by kernel_rfl

end Go.Ax
