/-
  The functions of this seat as resolved code, and that the program resolves to them (part 1).
-/
import Derived.Test.YtponcchkfmbicaaDoorXComp
import Derived.Test.YtponcchkfmbicaaDoorXFn
import Derived.Test.YtponcchkfmbicaaDoorXG
import Derived.Test.YtponcchkfmbicaaDoorXP
import Derived.Test.YtponcchkfmbicaaDoorProg
import Derived.KernelRfl
namespace Go.Ax
set_option linter.all false
open Go.Proofs P

def xf_law09_CoreConfigs : XFunc := ⟨none, false, 4, [.tmp 8], (rs [o 4 (bx 0), o 7 (bx 3), o 8 (.mv (.c w))] [1, 2, 4, 7]
 (rs [ol 18 4 4, om 19 2, o 20 (c 5 [18, 19]), om 17 20, o 21 (e 17 0), o 22 (e 17 1), o 9 (.alloc l1), p (t 12 9 21), om 10 22] [1, 2, 4, 7, 9, 10]
 (rs [ol 24 4 4, om 25 2, o 26 (c 6 [24, 25]), om 23 26, o 27 (e 23 0), o 28 (e 23 1), o 11 (.alloc l1), p (t 12 11 27), om 12 28] [1, 2, 4, 7, 9, 10, 11, 12]
 (rs [ol 30 4 4, om 31 2, ol 32 2 7, o 33 (c 7 [30, 31, 32]), om 29 33, o 34 (e 29 0), o 35 (e 29 1), o 13 (.alloc l1), p (t 12 13 34), om 14 35] [1, 2, 4, 7, 9, 10, 11, 12, 13, 14]
 (rs [ol 37 4 4, om 38 2, ol 39 2 7, o 40 (c 8 [37, 38, 39]), om 36 40, o 41 (e 36 0), o 42 (e 36 1), o 15 (.alloc l1), p (t 12 15 41), om 16 42] [1, 4, 9, 10, 11, 12, 13, 14, 15, 16]
 (sp (some [(1, 3), (2, 3), (8, 9), (16, 17)]) [a 43 (l 4 4), a 44 (c 10 [43]), a 45 (c 9 [44]), a 46 (l 4 4), a 47 (c 11 [46]), a 48 (q 45 47), am 49 48, b 50 (l 4 4) 49, u 51 (c 12 [50]) 49, b 52 (l 4 4) 49, u 53 (c 13 [52]) 49, u 54 (q 51 53) 49, a 55 (ka 49 54), am 56 55, b 57 (l 4 4) 56, bb 58 1 56, u 59 (c 14 [57, 58]) 56, b 60 (l 4 4) 56, bb 61 1 56, u 62 (c 15 [60, 61]) 56, u 63 (q 59 62) 56, a 64 (ka 56 63), am 65 64, bb 66 10 65, u 67 (c 9 [66]) 65, bb 68 12 65, u 69 (q 67 68) 65, a 70 (ka 65 69), am 71 70, b 72 (l 12 9) 71, b 73 (l 12 11) 71, u 74 (c 16 [72, 73]) 71, a 75 (ka 71 74), am 76 75, bb 77 14 76, u 78 (c 9 [77]) 76, bb 79 16 76, u 80 (q 78 79) 76, a 81 (ka 76 80), am 82 81, b 83 (l 12 13) 82, b 84 (l 12 15) 82, u 85 (c 16 [83, 84]) 82, a 86 (ka 82 85), am 87 86, u 88 (c 17 []) 87, a 89 (ka 87 88), am 8 89] [8]
 (.ret [8])))))))⟩

def xf_law09_CoreStands : XFunc := ⟨none, false, 5, [.tmp 10], (rs [o 5 (bx 0), o 6 (bx 1), o 7 (bx 2), o 9 (bx 4), o 10 (.mv (.c w))] [3, 5, 6, 7, 9]
 (.seq (rs [o 25 (c 17 []), o 26 (nt 25)] [3, 5, 6, 7, 9, 26]
 (.cond (.s 26) (rs [o 10 (.mv (.c w))] [10]
 (.ret [10])) .skip))
 (rs [ol 28 4 5, om 29 3, o 30 (c 5 [28, 29]), om 27 30, o 31 (e 27 0), o 32 (e 27 1), o 11 (.alloc l1), p (t 12 11 31), om 12 32] [3, 5, 6, 7, 9, 11, 12]
 (rs [ol 34 4 5, om 35 3, ol 36 2 9, o 37 (c 7 [34, 35, 36]), om 33 37, o 38 (e 33 0), o 39 (e 33 1), o 13 (.alloc l1), p (t 12 13 38), om 14 39] [3, 5, 6, 7, 11, 12, 13, 14]
 (.seq (sp (some [(1, 3), (1, 4), (11, 13), (11, 14)]) [am 40 12, a 41 (c 9 [40]), a 42 (qj 41 0), a 43 (l 4 5), a 44 (l 12 11), a 45 (c 18 [43, 44]), a 46 (c 9 [45]), a 47 (qj 46 0), a 48 (.eqv true false [.b] (.s 42) (.s 47)), am 49 48, d 50 (m 14) 49, r 51 (c 9 [50]) 49, r 52 (qj 51 0) 49, d 53 (l 4 5) 49, d 54 (l 12 13) 49, r 55 (c 18 [53, 54]) 49, r 56 (c 9 [55]) 49, r 57 (qj 56 0) 49, r 58 (.eqv true false [.b] (.s 52) (.s 57)) 49, a 59 (ko 49 58)] [3, 5, 6, 7, 59]
 (.cond (.s 59) (rs [o 10 (.mv (.c w))] [10]
 (.ret [10])) .skip))
 (rs [ol 60 4 5, ol 61 12 6, o 62 (c 18 [60, 61]), o 63 (c 9 [62]), o 64 (qj 63 0), om 15 64] [3, 5, 6, 7, 15]
 (rs [ol 66 4 5, ol 67 12 6, ol 68 18 7, o 69 (c 19 [66, 67, 68]), om 65 69, o 70 (e 65 0), o 71 (e 65 1), o 72 (e 65 2), o 16 (.alloc l1), p (t 12 16 70), om 17 71, om 18 72] [3, 5, 6, 7, 15, 16, 18]
 (rs [ol 74 4 5, ol 75 12 6, o 76 (c 20 [74, 75]), om 73 76, o 77 (e 73 0), o 78 (e 73 1), o 79 (e 73 2), o 19 (.alloc l1), p (t 12 19 77), om 20 78, om 21 79] [3, 5, 6, 7, 15, 16, 18, 19, 21]
 (rs [ol 81 4 5, ol 82 12 6, om 83 3, o 84 (c 21 [81, 82, 83]), om 80 84, o 85 (e 80 0), o 86 (e 80 1), o 87 (e 80 2), o 22 (.alloc l1), p (t 12 22 85), om 23 86, om 24 87] [3, 5, 6, 7, 15, 16, 18, 19, 21, 22, 24]
 (.seq (rp (some [(9, 11), (9, 12)]) [om 88 21, o 89 (c 9 [88]), o 90 (qj 89 0), om 91 15, o 92 (.eqv true false [.b] (.s 90) (.s 91)), om 93 92, h 94 (m 15) 93, h 95 (m 94) 93, g 96 (m 18) 95, g 97 (c 9 [96]) 95, g 98 (qj 97 0) 95, g 99 (l 4 5) 95, g 100 (l 18 7) 95, g 101 (c 22 [99, 100]) 95, g 102 (c 9 [101]) 95, g 103 (qj 102 0) 95, g 104 (.eqv true false [.b] (.s 98) (.s 103)) 95, h 105 (ka 95 104) 93, o 106 (ko 93 105), om 107 106, h 108 (m 15) 107, h 109 (m 108) 107, g 110 (m 24) 109, g 111 (c 9 [110]) 109, g 112 (qj 111 0) 109, g 113 (m 3) 109, g 114 (bhj 113 0) 109, g 115 (m 114) 109, g 116 (m 3) 115, g 117 (f 4 6) 115, g 118 (k 117) 115, g 119 (le 118) 115, g 120 (bm 116 119) 115, g 121 (ka 115 120) 109, g 122 (.eqv true false [.b] (.s 112) (.s 121)) 109, h 123 (ka 109 122) 107, o 124 (ko 107 123)] [5, 16, 18, 19, 21, 22, 24, 124]
 (.cond (.s 124) (rs [o 10 (.mv (.c w))] [10]
 (.ret [10])) .skip))
 (ss [am 125 18, a 126 (c 9 [125]), a 127 (nj 126 0), am 128 127, d 129 (l 4 5) 128, d 130 (l 12 16) 128, r 131 (c 18 [129, 130]) 128, r 132 (c 9 [131]) 128, r 133 (qj 132 0) 128, a 134 (ko 128 133), am 135 134, bb 136 21 135, u 137 (c 9 [136]) 135, u 138 (nj 137 0) 135, u 139 (m 138) 135, d 140 (l 4 5) 139, d 141 (l 12 19) 139, r 142 (c 18 [140, 141]) 139, r 143 (c 9 [142]) 139, r 144 (qj 143 0) 139, u 145 (ko 139 144) 135, a 146 (ka 135 145), am 147 146, bb 148 24 147, u 149 (c 9 [148]) 147, u 150 (nj 149 0) 147, u 151 (m 150) 147, d 152 (l 4 5) 151, d 153 (l 12 22) 151, r 154 (c 18 [152, 153]) 151, r 155 (c 9 [154]) 151, r 156 (qj 155 0) 151, u 157 (ko 151 156) 147, a 158 (ka 147 157), am 10 158] [10]
 (.ret [10]))))))))))))⟩

def xf_core_First : XFunc := ⟨none, true, 2, [.cell 4 (some 12), .tmp 5], (rs [o 2 (bx 0), o 4 (.alloc l1), o 5 (.mv (j 0))] [1, 2, 4]
 (.seq (rs [ol 9 4 2, om 10 1, o 11 (c 23 [9, 10]), om 6 11] [1, 2, 4, 6]
 (rs [om 12 6, o 13 (nj 12 0)] [1, 2, 4, 6, 13]
 (.cond (.s 13) (rs [o 14 (.build l1 []), om 15 6, p (t 12 4 14), om 5 15] [4, 5]
 (.ret [4, 5])) .skip)))
 (rs [ol 17 4 2, o 18 (c 12 [17]), o 19 (c 24 [18]), om 16 19, o 20 (e 16 0), o 21 (e 16 1), om 7 20, om 8 21] [1, 4, 7]
 (rs [om 22 1, om 23 7, o 24 (.build l1 [(0, 1, (.s 22)), (1, 1, (j 1)), (6, 1, (.s 23))]), p (t 12 4 24), o 5 (.mv (j 0))] [4, 5]
 (.ret [4, 5])))))⟩

def xf_ref09_First : XFunc := ⟨none, true, 2, [.cell 4 (some 12), .tmp 5], (rs [o 2 (bx 0), o 4 (.alloc l1), o 5 (.mv (j 0))] [1, 2, 4]
 (rs [ol 7 4 2, om 8 1, o 9 (c 25 [7, 8]), om 6 9] [1, 2, 4, 6]
 (.seq (rs [om 10 6, o 11 (nj 10 0)] [1, 2, 4, 6, 11]
 (.cond (.s 11) (rs [o 12 (.build l1 []), om 13 6, p (t 12 4 12), om 5 13] [4, 5]
 (.ret [4, 5])) .skip))
 (rs [om 14 1, ol 15 4 2, o 16 (c 13 [15]), o 17 (.mksl 26 2 16 true [y, y] (.s 16) (.s 16)), o 18 (.build l1 [(0, 1, (.s 14)), (1, 1, (j 1)), (6, 1, (.s 17))]), p (t 12 4 18), o 5 (.mv (j 0))] [4, 5]
 (.ret [4, 5])))))⟩

def xf_core_Reborn : XFunc := ⟨none, true, 3, [.cell 6 (some 12), .tmp 7], (rs [o 3 (bx 0), o 5 (bx 2), o 6 (.alloc l1), o 7 (.mv (j 0))] [1, 3, 5, 6]
 (rs [ol 11 4 3, om 12 1, o 13 (c 23 [11, 12]), om 8 13] [1, 3, 5, 6, 8]
 (.seq (ss [am 14 8, a 15 (qj 14 0), am 16 15, b 17 (l 2 5) 16, b 18 (.build [y, y] []) 16, b 19 (.eqv false true [.i, .i] (.s 17) (.s 18)) 16, a 20 (ka 16 19)] [1, 3, 5, 6, 8, 20]
 (.cond (.s 20) (.reg [o 8 (.mv (j 3))] none [1, 3, 5, 6, 8]) .skip))
 (.seq (rs [om 21 8, o 22 (nj 21 0)] [1, 3, 5, 6, 8, 22]
 (.cond (.s 22) (rs [o 23 (.build l1 []), om 24 8, p (t 12 6 23), om 7 24] [6, 7]
 (.ret [6, 7])) .skip))
 (rs [ol 26 4 3, o 27 (c 12 [26]), o 28 (c 24 [27]), om 25 28, o 29 (e 25 0), o 30 (e 25 1), om 9 29, om 10 30] [1, 5, 6, 9]
 (rs [om 31 9, om 32 1, ol 33 2 5, o 34 (ia 2 31 32), p (t 2 34 33)] [1, 6, 9]
 (rs [om 35 1, om 36 9, o 37 (.build l1 [(0, 1, (.s 35)), (1, 1, (j 3)), (6, 1, (.s 36))]), p (t 12 6 37), o 7 (.mv (j 0))] [6, 7]
 (.ret [6, 7]))))))))⟩

def xf_ref09_Reborn : XFunc := ⟨none, true, 3, [.cell 6 (some 12), .tmp 7], (rs [o 3 (bx 0), o 5 (bx 2), o 6 (.alloc l1), o 7 (.mv (j 0))] [1, 3, 5, 6]
 (rs [ol 10 4 3, om 11 1, o 12 (c 25 [10, 11]), om 8 12] [1, 3, 5, 6, 8]
 (.seq (ss [am 13 8, a 14 (qj 13 0), am 15 14, b 16 (l 2 5) 15, b 17 (.build [y, y] []) 15, b 18 (.eqv false true [.i, .i] (.s 16) (.s 17)) 15, a 19 (ka 15 18)] [1, 3, 5, 6, 8, 19]
 (.cond (.s 19) (.reg [o 8 (.mv (j 3))] none [1, 3, 5, 6, 8]) .skip))
 (.seq (rs [om 20 8, o 21 (nj 20 0)] [1, 3, 5, 6, 8, 21]
 (.cond (.s 21) (rs [o 22 (.build l1 []), om 23 8, p (t 12 6 22), om 7 23] [6, 7]
 (.ret [6, 7])) .skip))
 (rs [om 24 1, ol 25 4 3, o 26 (c 13 [25]), o 27 (.mksl 26 2 16 true [y, y] (.s 26) (.s 26)), o 28 (.build l1 [(0, 1, (.s 24)), (1, 1, (j 3)), (6, 1, (.s 27))]), o 9 (.alloc l1), p (t 12 9 28)] [1, 5, 6, 9]
 (rs [of 29 6 9, o 30 (k 29), om 31 1, ol 32 2 5, o 33 (ia 2 30 31), p (t 2 33 32)] [6, 9]
 (rs [ol 34 12 9, p (t 12 6 34), o 7 (.mv (j 0))] [6, 7]
 (.ret [6, 7]))))))))⟩

def xf_law09_num : XFunc := ⟨none, false, 1, [.tmp 2], (rs [o 2 (.mv (j 0))] [0]
 (rs [om 3 0, om 2 3] [2]
 (.ret [2])))⟩

def xf_core_CheckConfig : XFunc := ⟨none, true, 1, [.tmp 2], (rs [o 1 (bx 0), o 2 (.mv (j 0))] [1]
 (.seq (ss [a 3 (f 0 1), a 4 (k 3), a 5 (blj 4 1), am 6 5, d 7 (f 0 1) 6, d 8 (k 7) 6, d 9 (bgj 8 3) 6, a 10 (ko 6 9), am 11 10, d 12 (f 1 1) 11, d 13 (k 12) 11, d 14 (blj 13 1) 11, a 15 (ko 11 14), am 16 15, d 17 (f 1 1) 16, d 18 (k 17) 16, d 19 (bgj 18 256) 16, a 20 (ko 16 19), am 21 20, d 22 (f 2 1) 21, d 23 (k 22) 21, d 24 (blj 23 6) 21, a 25 (ko 21 24), am 26 25, d 27 (f 2 1) 26, d 28 (k 27) 26, d 29 (bgj 28 100) 26, a 30 (ko 26 29)] [30]
 (.cond (.s 30) (rs [o 2 (.mv (j 1))] [2]
 (.ret [2])) .skip))
 (rs [o 2 (.mv (j 0))] [2]
 (.ret [2]))))⟩

def xf_ref09_CheckConfig : XFunc := ⟨none, true, 1, [.tmp 2], (rs [o 1 (bx 0), o 2 (.mv (j 0))] [1]
 (.seq (rs [ol 3 4 1, o 4 (c 26 [3]), o 5 (nt 4)] [5]
 (.cond (.s 5) (rs [o 2 (.mv (j 1))] [2]
 (.ret [2])) .skip))
 (rs [o 2 (.mv (j 0))] [2]
 (.ret [2]))))⟩

def xf_core_Nodes : XFunc := ⟨none, true, 1, [.tmp 2], (rs [o 1 (bx 0), o 2 (.mv (j 0))] [1]
 (.seq (rs [ol 3 4 1, o 4 (c 10 [3]), o 5 (nj 4 0)] [1, 5]
 (.cond (.s 5) (rs [o 2 (.mv (j 0))] [2]
 (.ret [2])) .skip))
 (rs [of 6 0 1, o 7 (k 6), o 8 (.bin .mul (j 2) (.s 7)), o 9 (baj 8 1), om 2 9] [2]
 (.ret [2]))))⟩

def xf_ref09_Nodes : XFunc := ⟨none, true, 1, [.tmp 2], (rs [o 1 (bx 0), o 2 (.mv (j 0))] [1]
 (.seq (rs [ol 3 4 1, o 4 (c 11 [3]), o 5 (nj 4 0)] [1, 5]
 (.cond (.s 5) (rs [o 2 (.mv (j 0))] [2]
 (.ret [2])) .skip))
 (rs [of 6 0 1, o 7 (k 6), o 8 (.bin .mul (j 2) (.s 7)), o 9 (baj 8 1), om 2 9] [2]
 (.ret [2]))))⟩

def xf_core_Primary : XFunc := ⟨none, true, 2, [.tmp 4], (rs [o 2 (bx 0), o 4 (.mv (j 0))] [1, 2]
 (.seq (ss [a 5 (l 4 2), a 6 (c 10 [5]), a 7 (nj 6 0), am 8 7, d 9 (m 1) 8, d 10 (blj 9 0) 8, a 11 (ko 8 10), am 12 11, d 13 (m 1) 12, d 14 (bgj 13 4294967296) 12, a 15 (ko 12 14)] [1, 2, 15]
 (.cond (.s 15) (rs [o 4 (.mv (j (-1)))] [4]
 (.ret [4])) .skip))
 (rs [om 16 1, ol 17 4 2, o 18 (c 12 [17]), o 19 (.bin .rem (.s 16) (.s 18)), om 4 19] [4]
 (.ret [4]))))⟩

def xf_ref09_Primary : XFunc := ⟨none, true, 2, [.tmp 4], (rs [o 2 (bx 0), o 4 (.mv (j 0))] [1, 2]
 (.seq (ss [a 5 (l 4 2), a 6 (c 11 [5]), a 7 (nj 6 0), am 8 7, d 9 (m 1) 8, d 10 (blj 9 0) 8, a 11 (ko 8 10), am 12 11, d 13 (m 1) 12, d 14 (bgj 13 4294967296) 12, a 15 (ko 12 14)] [1, 2, 15]
 (.cond (.s 15) (rs [o 4 (.mv (j (-1)))] [4]
 (.ret [4])) .skip))
 (rs [om 16 1, ol 17 4 2, o 18 (c 13 [17]), o 19 (.bin .rem (.s 16) (.s 18)), om 4 19] [4]
 (.ret [4]))))⟩

def xf_plain_SameState : XFunc := ⟨none, true, 2, [.tmp 4], (rs [o 2 (bx 0), o 3 (bx 1), o 4 (.mv (.c w))] [2, 3]
 (ss [a 5 (f 0 2), a 6 (k 5), a 7 (f 0 3), a 8 (k 7), a 9 (q 6 8), am 10 9, b 11 (f 1 2) 10, b 12 (k 11) 10, b 13 (f 1 3) 10, b 14 (k 13) 10, b 15 (q 12 14) 10, a 16 (ka 10 15), am 17 16, b 18 (f 2 2) 17, b 19 (k 18) 17, b 20 (f 2 3) 17, b 21 (k 20) 17, b 22 (q 19 21) 17, a 23 (ka 17 22), am 24 23, b 25 (f 3 2) 24, b 26 (k 25) 24, b 27 (f 3 3) 24, b 28 (k 27) 24, b 29 (q 26 28) 24, a 30 (ka 24 29), am 31 30, b 32 (f 5 2) 31, b 33 (k 32) 31, b 34 (f 5 3) 31, b 35 (k 34) 31, b 36 (q 33 35) 31, a 37 (ka 31 36), am 38 37, b 39 (f 7 2) 38, b 40 (k 39) 38, b 41 (f 7 3) 38, b 42 (k 41) 38, b 43 (q 40 42) 38, a 44 (ka 38 43), am 45 44, b 46 (f 4 2) 45, b 47 (k 46) 45, b 48 (f 4 3) 45, b 49 (k 48) 45, u 50 (c 27 [47, 49]) 45, a 51 (ka 45 50), am 52 51, b 53 (f 6 2) 52, b 54 (k 53) 52, b 55 (f 6 3) 52, b 56 (k 55) 52, u 57 (c 28 [54, 56]) 52, a 58 (ka 52 57), am 59 58, b 60 (f 8 2) 59, b 61 (k 60) 59, b 62 (f 8 3) 59, b 63 (k 62) 59, u 64 (c 29 [61, 63]) 59, a 65 (ka 59 64), am 66 65, b 67 (f 9 2) 66, b 68 (k 67) 66, b 69 (f 9 3) 66, b 70 (k 69) 66, u 71 (c 30 [68, 70]) 66, a 72 (ka 66 71), am 73 72, b 74 (f 10 2) 73, b 75 (k 74) 73, b 76 (f 10 3) 73, b 77 (k 76) 73, u 78 (c 31 [75, 77]) 73, a 79 (ka 73 78), am 80 79, b 81 (f 11 2) 80, b 82 (k 81) 80, b 83 (f 11 3) 80, b 84 (k 83) 80, u 85 (c 32 [82, 84]) 80, a 86 (ka 80 85), am 4 86] [4]
 (.ret [4])))⟩

def xf_law09_alive : XFunc := ⟨none, false, 0, [.tmp 0], (rs [o 0 (.mv (.c w))] []
 (rs [o 13 (c 33 []), o 14 (.call (fc 5) [(.s 13), (j 1)]), om 12 14, o 15 (e 12 0), o 16 (e 12 1), o 1 (.alloc l1), p (t 12 1 15), om 2 16] [1, 2]
 (rp (some [(0, 1), (1, 2), (0, 8), (1, 8), (2, 8), (3, 8)]) [o 18 (c 33 []), ol 19 12 1, o 20 (.call (fc 34) [(.c (.dat (.int .u64 4))), (.c y)]), o 21 (c 19 [18, 19, 20]), om 17 21, o 22 (e 17 0), o 23 (e 17 1), o 24 (e 17 2), o 3 (.alloc l1), p (t 12 3 22), om 4 23, om 5 24] [2, 3, 4, 5]
 (rp (some [(0, 1), (1, 2), (0, 8), (1, 8), (2, 8), (3, 8)]) [o 26 (c 33 []), ol 27 12 3, o 28 (.call (fc 34) [(.c y), (.c y)]), o 29 (c 19 [26, 27, 28]), om 25 29, o 30 (e 25 0), o 31 (e 25 1), o 32 (e 25 2), o 6 (.alloc l1), p (t 12 6 30), om 7 31, om 8 32] [2, 3, 4, 5, 7, 8]
 (rp (some [(0, 1), (1, 2), (0, 8), (1, 8), (2, 8), (3, 8)]) [o 34 (c 33 []), ol 35 12 3, o 36 (.call (fc 34) [(.c (.dat (.int .u64 4))), (.c (.dat (.int .u64 3)))]), o 37 (c 19 [34, 35, 36]), om 33 37, o 38 (e 33 0), o 39 (e 33 1), o 40 (e 33 2), o 9 (.alloc l1), p (t 12 9 38), om 10 39, om 11 40] [2, 3, 4, 5, 7, 8, 10, 11]
 (ss [am 41 2, a 42 (c 9 [41]), am 43 5, a 44 (c 9 [43]), a 45 (ba 42 44), am 46 8, a 47 (c 9 [46]), a 48 (ba 45 47), am 49 11, a 50 (c 9 [49]), a 51 (ba 48 50), a 52 (qj 51 0), am 53 52, bb 54 4 53, a 55 (ka 53 54), am 56 55, bb 57 7 56, b 58 (nt 57) 56, a 59 (ka 56 58), am 60 59, bb 61 10 60, b 62 (nt 61) 60, a 63 (ka 60 62), am 64 63, b 65 (f 0 3) 64, b 66 (k 65) 64, b 67 (qj 66 1) 64, a 68 (ka 64 67), am 69 68, b 70 (f 6 3) 69, b 71 (k 70) 69, b 72 (le 71) 69, b 73 (qj 72 3) 69, a 74 (ka 69 73), am 75 74, b 76 (f 6 3) 75, b 77 (k 76) 75, u 78 (.iadr 2 (.s 77) (j 0)) 75, u 79 (f 1 78) 75, u 80 (k 79) 75, u 81 (.eqv false false [.i] (.s 80) (.c (.dat (.int .u64 4)))) 75, a 82 (ka 75 81), am 0 82] [0]
 (.ret [0])))))))⟩

def xf_core_Check : XFunc := ⟨none, true, 2, [.tmp 4], (rs [o 2 (bx 0), o 3 (bx 1), o 4 (.mv (j 0))] [2, 3]
 (.seq (rs [ol 8 4 2, o 9 (c 10 [8]), om 5 9] [2, 3, 5]
 (rs [om 10 5, o 11 (nj 10 0)] [2, 3, 5, 11]
 (.cond (.s 11) (rs [om 12 5, om 4 12] [4]
 (.ret [4])) .skip)))
 (rs [ol 13 4 2, o 14 (c 12 [13]), om 6 14] [2, 3, 6]
 (.seq (ss [a 15 (f 0 3), a 16 (k 15), a 17 (blj 16 0), am 18 17, d 19 (f 0 3) 18, d 20 (k 19) 18, d 21 (m 6) 18, d 22 (bh 20 21) 18, a 23 (ko 18 22), am 24 23, d 25 (f 2 3) 24, d 26 (k 25) 24, d 27 (blj 26 0) 24, a 28 (ko 24 27), am 29 28, d 30 (f 2 3) 29, d 31 (k 30) 29, d 32 (bgj 31 4294967296) 29, a 33 (ko 29 32), am 34 33, d 35 (f 3 3) 34, d 36 (k 35) 34, d 37 (blj 36 0) 34, a 38 (ko 34 37), am 39 38, d 40 (f 3 3) 39, d 41 (k 40) 39, d 42 (f 2 3) 39, d 43 (k 42) 39, d 44 (bg 41 43) 39, a 45 (ko 39 44), am 46 45, d 47 (f 7 3) 46, d 48 (k 47) 46, d 49 (blj 48 0) 46, a 50 (ko 46 49), am 51 50, d 52 (f 7 3) 51, d 53 (k 52) 51, d 54 (f 2 2) 51, d 55 (k 54) 51, d 56 (bh 53 55) 51, a 57 (ko 51 56), am 58 57, d 59 (f 6 3) 58, d 60 (k 59) 58, d 61 (le 60) 58, d 62 (m 6) 58, d 63 (n 61 62) 58, a 64 (ko 58 63), am 65 64, d 66 (l 4 2) 65, d 67 (f 4 3) 65, d 68 (k 67) 65, d 69 (f 5 3) 65, d 70 (k 69) 65, r 71 (c 35 [66, 68, 70]) 65, r 72 (nt 71) 65, a 73 (ko 65 72), am 74 73, d 75 (l 12 3) 74, r 76 (c 36 [75]) 74, r 77 (nt 76) 74, a 78 (ko 74 77)] [2, 3, 78]
 (.cond (.s 78) (rs [o 4 (.mv (j 2))] [4]
 (.ret [4])) .skip))
 (rs [o 7 (.mv (.c w))] [2, 3, 7]
 (.seq (rs [of 79 1 3, o 80 (k 79)] [2, 3, 7, 80]
 (.block 0 (rs [o 82 (qj 80 1), om 81 82] [2, 3, 7, 80, 81]
 (.cond (.s 81) (.reg [ol 83 4 2, ol 84 12 3, o 85 (c 37 [83, 84]), om 7 85] none [7]) (rs [o 87 (qj 80 2), om 86 87] [2, 3, 7, 80, 86]
 (.cond (.s 86) (.reg [ol 88 4 2, ol 89 12 3, o 90 (c 38 [88, 89]), om 7 90] none [7]) (rs [o 92 (qj 80 3), om 91 92] [2, 3, 7, 91]
 (.cond (.s 91) (.reg [ol 93 4 2, ol 94 12 3, o 95 (c 39 [93, 94]), om 7 95] none [7]) .skip))))))))
 (.seq (rs [om 96 7, o 97 (nt 96)] [97]
 (.cond (.s 97) (rs [o 4 (.mv (j 2))] [4]
 (.ret [4])) .skip))
 (rs [o 4 (.mv (j 0))] [4]
 (.ret [4])))))))))⟩

def xf_core_Admit : XFunc := ⟨none, true, 3, [.cell 6 (some 12), .tmp 7, .tmp 8], (rs [o 3 (bx 0), o 4 (bx 1), o 5 (bx 2), o 6 (.alloc l1), o 7 (.mv (.c w)), o 8 (.mv (j 0))] [3, 4, 5, 6]
 (rs [ol 11 4 3, ol 12 12 4, o 13 (c 18 [11, 12]), om 9 13] [3, 4, 5, 6, 9]
 (.seq (rs [om 14 9, o 15 (qj 14 0)] [3, 4, 5, 6, 9, 15]
 (.cond (.s 15) (.reg [ol 16 4 3, ol 17 18 5, o 18 (c 22 [16, 17]), om 9 18] none [3, 4, 5, 6, 9]) .skip))
 (.seq (rs [om 19 9, o 20 (nj 19 0)] [3, 4, 5, 6, 9, 20]
 (.cond (.s 20) (rs [o 21 (.build l1 []), om 22 9, p (t 12 6 21), o 7 (.mv (.c w)), om 8 22] [6, 7, 8]
 (.ret [6, 7, 8])) .skip))
 (rs [ol 23 12 4, o 24 (c 40 [23]), o 10 (.alloc l1), p (t 12 10 24)] [3, 4, 5, 6, 10]
 (.seq (rs [of 25 0 5, o 26 (k 25), o 27 (c 41 [26]), o 28 (nt 27)] [3, 4, 5, 6, 10, 28]
 (.cond (.s 28) (rs [ol 29 12 10, p (t 12 6 29), o 7 (.mv (.c v)), o 8 (.mv (j 0))] [6, 7, 8]
 (.ret [6, 7, 8])) .skip))
 (.seq (rs [of 30 1 5, o 31 (k 30), of 32 0 4, o 33 (k 32), o 34 (q 31 33)] [3, 4, 5, 6, 10, 34]
 (.cond (.s 34) (rs [ol 35 12 10, p (t 12 6 35), o 7 (.mv (.c w)), o 8 (.mv (j 0))] [6, 7, 8]
 (.ret [6, 7, 8])) .skip))
 (.seq (rs [of 36 3 3, o 37 (k 36)] [4, 5, 6, 10, 37]
 (.cond (.s 37) (rs [ol 38 12 10, p (t 12 6 38), o 7 (.mv (.c v)), o 8 (.mv (j 0))] [6, 7, 8]
 (.ret [6, 7, 8])) .skip))
 (.seq (sp (some []) [a 39 (f 6 4), a 40 (k 39), a 41 (f 1 5), a 42 (k 41), a 43 (f 17 5), a 44 (k 43), a 45 (.build [z, (.nil 26 2 true)] [(0, 1, (.s 42)), (1, 1, (.s 44))]), a 46 (c 42 [40, 45]), am 47 46, d 48 (f 17 5) 47, d 49 (k 48) 47, d 50 (f 0 4) 47, d 51 (k 50) 47, r 52 (ia 2 49 51) 47, r 53 (l 2 52) 47, d 54 (f 6 4) 47, d 55 (k 54) 47, d 56 (f 0 4) 47, d 57 (k 56) 47, r 58 (ia 2 55 57) 47, r 59 (l 2 58) 47, r 60 (c 43 [53, 59]) 47, r 61 (bgj 60 0) 47, a 62 (ko 47 61)] [4, 5, 6, 10, 62]
 (.cond (.s 62) (rs [ol 63 12 10, p (t 12 6 63), o 7 (.mv (.c w)), o 8 (.mv (j 0))] [6, 7, 8]
 (.ret [6, 7, 8])) .skip))
 (rs [of 65 6 4, o 66 (k 65), of 67 17 5, o 68 (k 67), o 69 (.bsl 30 1 false 2 [(.nil 26 2 true), (.nil 26 2 true)] [(0, 1, (.s 66)), (1, 1, (.s 68))]), o 70 (c 44 [69]), om 64 70, o 71 (e 64 0), o 72 (e 64 1), of 73 6 10, p (t 1 73 71)] [6, 10]
 (rs [of 74 8 10, o 75 (k 74), of 76 6 10, o 77 (k 76), o 78 (c 45 [75, 77]), of 79 8 10, p (t 1 79 78)] [6, 10]
 (rs [of 80 9 10, o 81 (k 80), of 82 6 10, o 83 (k 82), o 84 (c 46 [81, 83]), of 85 9 10, p (t 1 85 84)] [6, 10]
 (rs [of 86 10 10, o 87 (k 86), of 88 6 10, o 89 (k 88), o 90 (c 47 [87, 89]), of 91 10 10, p (t 1 91 90)] [6, 10]
 (rs [of 92 11 10, o 93 (k 92), of 94 6 10, o 95 (k 94), o 96 (c 48 [93, 95]), of 97 11 10, p (t 1 97 96)] [6, 10]
 (rs [ol 98 12 10, p (t 12 6 98), o 7 (.mv (.c v)), o 8 (.mv (j 0))] [6, 7, 8]
 (.ret [6, 7, 8]))))))))))))))))⟩

def xf_core_Wait : XFunc := ⟨none, true, 2, [.cell 4 (some 12), .tmp 5, .tmp 6], (rs [o 2 (bx 0), o 3 (bx 1), o 4 (.alloc l1), o 5 (.mv (.c w)), o 6 (.mv (j 0))] [2, 3, 4]
 (.seq (rs [ol 9 4 2, ol 10 12 3, o 11 (c 18 [9, 10]), om 7 11] [2, 3, 4, 7]
 (rs [om 12 7, o 13 (nj 12 0)] [2, 3, 4, 7, 13]
 (.cond (.s 13) (rs [o 14 (.build l1 []), om 15 7, p (t 12 4 14), o 5 (.mv (.c w)), om 6 15] [4, 5, 6]
 (.ret [4, 5, 6])) .skip)))
 (rs [ol 16 12 3, o 17 (c 40 [16]), o 8 (.alloc l1), p (t 12 8 17)] [2, 3, 4, 8]
 (.seq (rs [of 18 1 3, o 19 (k 18), o 20 (qj 19 3), om 21 20, h 22 (f 1 3) 21, h 23 (k 22) 21, h 24 (qj 23 1) 21, h 25 (m 24) 21, g 26 (l 4 2) 25, g 27 (l 12 3) 25, g 28 (c 49 [26, 27]) 25, h 29 (ka 25 28) 21, o 30 (ko 21 29)] [2, 4, 8, 30]
 (.cond (.s 30) (rs [ol 31 12 8, p (t 12 4 31), o 5 (.mv (.c w)), o 6 (.mv (j 0))] [4, 5, 6]
 (.ret [4, 5, 6])) .skip))
 (rs [of 32 7 8, o 33 (k 32), o 34 (baj 33 1), of 35 7 8, p (t 1 35 34)] [2, 4, 8]
 (.seq (rs [of 36 7 8, o 37 (k 36), of 38 2 2, o 39 (k 38), o 40 (bl 37 39)] [4, 8, 40]
 (.cond (.s 40) (rs [ol 41 12 8, p (t 12 4 41), o 5 (.mv (.c w)), o 6 (.mv (j 0))] [4, 5, 6]
 (.ret [4, 5, 6])) .skip))
 (rs [of 42 7 8, p (.store 1 (.s 42) (j 0))] [4, 8]
 (rs [ol 43 12 8, p (t 12 4 43), o 5 (.mv (.c v)), o 6 (.mv (j 0))] [4, 5, 6]
 (.ret [4, 5, 6])))))))))⟩

def xf_core_Carry_k0 : List (Nat × Option (Nat × Nat × Bool)) := [(4, none), (6, none), (10, none), (11, some (101, 19, false)), (63, some (99, 7, true)), (64, none), (65, none)]
def xf_core_Carry_b0 : XCode := (rs [o 66 (bl 65 64)] [4, 6, 10, 11, 63, 64, 65, 66]
 (.seq (.cond (.s 66) .skip (.exit 0 [6, 10, 11]))
 (.seq (.block 1 (rs [o 67 (ia 7 63 65), ol 68 7 67, o 15 (.alloc [z, z, z, w, z, z, x]), p (t 7 15 68)] [4, 6, 10, 11, 15, 63, 64, 65]
 (rs [of 69 0 4, o 70 (k 69), of 71 2 4, o 72 (k 71), of 73 2 15, o 74 (k 73), of 75 0 15, o 76 (k 75), of 77 1 15, o 78 (k 77), o 79 (.build [z, z, z, z, x] [(0, 1, (.s 76)), (1, 1, (.s 78))]), of 80 4 15, ol 81 3 80, o 82 (.build l4 [(0, 1, (j 2)), (1, 1, (.s 70)), (2, 1, (.s 72)), (11, 1, (.s 74)), (3, 5, (.s 79)), (8, 3, (.s 81))]), o 16 (.alloc l4), p (t 18 16 82)] [4, 6, 10, 11, 15, 16, 63, 64, 65]
 (.reg [om 83 11, of 84 0 15, o 85 (k 84), o 86 (.bin .add (j 7) (.s 85)), ol 87 18 16, o 88 (.build l5 [(0, 1, (.s 86)), (1, 18, (.s 87))]), o 89 (.bsl 101 19 false 1 l5 [(0, 19, (.s 88))]), o 90 (.app 101 19 200 false (.s 83) (.s 89)), om 11 90] none [4, 6, 10, 11, 63, 64, 65]))))
 (.reg [o 91 (baj 65 1), om 65 91] none [4, 6, 10, 11, 63, 64, 65]))))
def xf_core_Carry : XFunc := ⟨none, true, 3, [.cell 6 (some 12), .tmp 7, .tmp 8], (rs [o 3 (bx 0), o 4 (bx 1), o 6 (.alloc l1), o 7 (.mv (.c (.nil 101 19 false))), o 8 (.mv (j 0))] [2, 3, 4, 6]
 (rs [ol 17 4 3, ol 18 12 4, o 19 (c 18 [17, 18]), om 9 19] [2, 3, 4, 6, 9]
 (.seq (ss [am 20 9, a 21 (qj 20 0), am 22 21, bb 23 2 22, b 24 (blj 23 0) 22, bb 25 24 22, d 26 (m 2) 25, d 27 (f 4 4) 25, d 28 (k 27) 25, d 29 (le 28) 25, d 30 (bg 26 29) 25, b 31 (ko 25 30) 22, a 32 (ka 22 31)] [2, 3, 4, 6, 9, 32]
 (.cond (.s 32) (.reg [o 9 (.mv (j 3))] none [2, 3, 4, 6, 9]) .skip))
 (.seq (rs [om 33 9, o 34 (nj 33 0)] [2, 3, 4, 6, 9, 34]
 (.cond (.s 34) (rs [o 35 (.build l1 []), om 36 9, p (t 12 6 35), o 7 (.mv (.c (.nil 101 19 false))), om 8 36] [6, 7, 8]
 (.ret [6, 7, 8])) .skip))
 (rs [ol 37 12 4, o 38 (c 40 [37]), o 10 (.alloc l1), p (t 12 10 38)] [2, 3, 4, 6, 10]
 (.seq (rs [om 39 2, of 40 5 4, o 41 (k 40), o 42 (bm 39 41)] [2, 3, 4, 6, 10, 42]
 (.cond (.s 42) (rs [ol 43 12 10, p (t 12 6 43), o 7 (.mv (.c (.nil 101 19 false))), o 8 (.mv (j 0))] [6, 7, 8]
 (.ret [6, 7, 8])) .skip))
 (rs [om 44 2, of 45 5 10, p (t 1 45 44)] [2, 3, 4, 6, 10]
 (rs [o 11 (.mv (.c (.nil 101 19 false)))] [2, 3, 4, 6, 10, 11]
 (.seq (ss [a 46 (f 1 4), a 47 (k 46), a 48 (qj 47 1), am 49 48, b 50 (l 4 3) 49, b 51 (l 12 4) 49, u 52 (c 49 [50, 51]) 49, a 53 (ka 49 52)] [2, 4, 6, 10, 11, 53]
 (.cond (.s 53) (rs [of 55 4 4, o 56 (k 55), of 57 5 4, o 58 (k 57), om 59 2, o 60 (c 50 [56, 58, 59]), om 54 60, o 61 (e 54 0), o 62 (e 54 1), om 12 61, om 13 62] [4, 6, 10, 11, 12]
 (rs [om 63 12, o 64 (le 63), o 65 (.mv (j 0))] [4, 6, 10, 11, 63, 64, 65]
 (.block 0 (.loop xf_core_Carry_k0 xf_core_Carry_b0)))) .skip))
 (rs [ol 92 12 10, om 93 11, p (t 12 6 92), om 7 93, o 8 (.mv (j 0))] [6, 7, 8]
 (.ret [6, 7, 8])))))))))))⟩

def xf_message_Check : XFunc := ⟨none, true, 2, [.tmp 4], (rs [o 2 (bx 0), o 3 (bx 1), o 4 (.mv (j 0))] [2, 3]
 (.seq (rs [ol 8 4 2, o 9 (c 51 [8]), o 10 (nt 9)] [2, 3, 10]
 (.cond (.s 10) (rs [o 4 (.mv (j 1))] [4]
 (.ret [4])) .skip))
 (.seq (rs [of 11 0 3, o 12 (k 11), o 13 (c 52 [12]), o 14 (nt 13)] [2, 3, 14]
 (.cond (.s 14) (rs [o 4 (.mv (j 70))] [4]
 (.ret [4])) .skip))
 (rs [of 15 0 3, o 16 (k 15), o 17 (.aadr 10 15 (.c (.dptr usesD)) (.s 16)), ol 18 10 17, o 5 (.alloc l3), p (t 10 5 18)] [2, 3, 5]
 (.seq (ss [a 19 (l 18 3), a 20 (c 53 [19]), a 21 (nt 20), am 22 21, d 23 (l 4 2) 22, d 24 (l 18 3) 22, r 25 (c 54 [23, 24]) 22, r 26 (nt 25) 22, a 27 (ko 22 26)] [2, 3, 5, 27]
 (.cond (.s 27) (rs [o 4 (.mv (j 71))] [4]
 (.ret [4])) .skip))
 (.seq (rs [o 28 (.aadr 1 10 (.s 5) (j 6)), o 29 (k 28), om 30 29, g 31 (f 0 3) 30, g 32 (k 31) 30, g 33 (f 3 3) 30, g 34 (l 5 33) 30, g 35 (c 55 [32, 34]) 30, g 36 (nt 35) 30, o 37 (ka 30 36), om 38 37, h 39 (.aadr 1 10 (.s 5) (j 7)) 38, h 40 (k 39) 38, h 41 (m 40) 38, g 42 (f 8 3) 41, g 43 (l 3 42) 41, g 44 (c 56 [43]) 41, g 45 (nt 44) 41, g 46 (m 45) 41, h 47 (l 18 3) 46, h 48 (c 57 [47]) 46, h 49 (nt 48) 46, g 50 (ko 46 49) 41, h 51 (ka 41 50) 38, o 52 (ko 38 51), om 53 52, h 54 (.aadr 1 10 (.s 5) (j 9)) 53, h 55 (k 54) 53, h 56 (m 55) 53, g 57 (f 17 3) 56, g 58 (k 57) 56, g 59 (le 58) 56, g 60 (f 0 2) 56, g 61 (k 60) 56, g 62 (.bin .mul (j 2) (.s 61)) 56, g 63 (baj 62 1) 56, g 64 (n 59 63) 56, h 65 (ka 56 64) 53, o 66 (ko 53 65), om 67 66, h 68 (.aadr 1 10 (.s 5) (j 5)) 67, h 69 (k 68) 67, h 70 (m 69) 67, g 71 (f 14 3) 70, g 72 (l 2 71) 70, g 73 (.build [y, y] []) 70, g 74 (.eqv false true [.i, .i] (.s 72) (.s 73)) 70, h 75 (ka 70 74) 67, o 76 (ko 67 75)] [2, 3, 5, 76]
 (.cond (.s 76) (rs [o 4 (.mv (j 71))] [4]
 (.ret [4])) .skip))
 (.seq (rs [o 77 (.aadr 1 10 (.s 5) (j 8)), o 78 (k 77)] [2, 3, 78]
 (.cond (.s 78) (rs [of 80 16 3, o 81 (k 80), of 82 1 2, o 83 (k 82), o 84 (c 58 [81, 83]), om 79 84, o 85 (e 79 0), o 86 (e 79 1), om 6 85, om 7 86] [2, 3, 6]
 (rs [om 87 6, o 88 (nj 87 0)] [2, 3, 88]
 (.cond (.s 88) (rs [o 4 (.mv (j 71))] [4]
 (.ret [4])) .skip))) .skip))
 (.seq (sp (some []) [a 89 (f 0 3), a 90 (k 89), a 91 (qj 90 9), am 92 91, b 93 (f 17 3) 92, b 94 (k 93) 92, b 95 (f 1 3) 92, b 96 (k 95) 92, u 97 (ia 2 94 96) 92, u 98 (l 2 97) 92, b 99 (f 14 3) 92, b 100 (l 2 99) 92, u 101 (.eqv true true [.i, .i] (.s 98) (.s 100)) 92, a 102 (ka 92 101), am 103 102, d 104 (f 0 3) 103, d 105 (k 104) 103, d 106 (qj 105 10) 103, d 107 (m 106) 103, b 108 (f 16 3) 107, b 109 (k 108) 107, b 110 (le 109) 107, b 111 (bgj 110 0) 107, d 112 (ka 107 111) 103, r 113 (m 112) 103, b 114 (f 1 3) 113, b 115 (k 114) 113, b 116 (f 2 3) 113, b 117 (k 116) 113, b 118 (f 0 2) 113, b 119 (k 118) 113, b 120 (.bin .mul (j 2) (.s 119)) 113, b 121 (baj 120 1) 113, u 122 (.bin .rem (.s 117) (.s 121)) 113, u 123 (n 115 122) 113, r 124 (ka 113 123) 103, a 125 (ko 103 124)] [125]
 (.cond (.s 125) (rs [o 4 (.mv (j 71))] [4]
 (.ret [4])) .skip))
 (rs [o 4 (.mv (j 0))] [4]
 (.ret [4]))))))))))⟩

def xf_core_self : XFunc := ⟨none, true, 2, [.tmp 4], (rs [o 2 (bx 0), o 4 (.mv (j 0))] [1, 2]
 (.seq (rs [ol 6 4 2, o 7 (c 10 [6]), om 5 7] [1, 2, 5]
 (rs [om 8 5, o 9 (nj 8 0)] [1, 2, 5, 9]
 (.cond (.s 9) (rs [om 10 5, om 4 10] [4]
 (.ret [4])) .skip)))
 (.seq (ss [am 11 1, a 12 (blj 11 0), am 13 12, d 14 (m 1) 13, d 15 (l 4 2) 13, r 16 (c 12 [15]) 13, r 17 (bh 14 16) 13, a 18 (ko 13 17)] [18]
 (.cond (.s 18) (rs [o 4 (.mv (j 3))] [4]
 (.ret [4])) .skip))
 (rs [o 4 (.mv (j 0))] [4]
 (.ret [4])))))⟩

def xf_vector_New : XFunc := ⟨none, false, 1, [.tmp 2, .tmp 3], (rs [o 2 (.mv (.c (.nil 26 2 true))), o 3 (.mv (j 0))] [0]
 (.seq (ss [am 4 0, a 5 (blj 4 1), am 6 5, d 7 (m 0) 6, d 8 (bgj 7 7) 6, a 9 (ko 6 8)] [0, 9]
 (.cond (.s 9) (rs [o 2 (.mv (.c (.nil 26 2 true))), o 3 (.mv (j 3))] [2, 3]
 (.ret [2, 3])) .skip))
 (rs [om 10 0, o 11 (.mksl 26 2 16 true [y, y] (.s 10) (.s 10)), om 2 11, o 3 (.mv (j 0))] [2, 3]
 (.ret [2, 3]))))⟩

def xf_ref09_self : XFunc := ⟨none, true, 2, [.tmp 4], (rs [o 2 (bx 0), o 4 (.mv (j 0))] [1, 2]
 (rs [ol 6 4 2, o 7 (c 11 [6]), om 5 7] [1, 2, 5]
 (.seq (rs [om 8 5, o 9 (qj 8 0), om 10 9, g 11 (m 1) 10, g 12 (blj 11 0) 10, g 13 (m 12) 10, h 14 (m 1) 13, h 15 (l 4 2) 13, h 16 (c 13 [15]) 13, h 17 (bh 14 16) 13, g 18 (ko 13 17) 10, o 19 (ka 10 18)] [5, 19]
 (.cond (.s 19) (.reg [o 5 (.mv (j 3))] none [5]) .skip))
 (rs [om 20 5, om 4 20] [4]
 (.ret [4])))))⟩

def xf_ref07_Config : XFunc := ⟨none, true, 1, [.tmp 2], (rs [o 1 (bx 0), o 2 (.mv (.c w))] [1]
 (ss [a 3 (f 0 1), a 4 (k 3), a 5 (bhj 4 1), am 6 5, b 7 (f 0 1) 6, b 8 (k 7) 6, b 9 (bmj 8 3) 6, a 10 (ka 6 9), am 11 10, b 12 (f 1 1) 11, b 13 (k 12) 11, b 14 (bhj 13 1) 11, a 15 (ka 11 14), am 16 15, b 17 (f 1 1) 16, b 18 (k 17) 16, b 19 (bmj 18 256) 16, a 20 (ka 16 19), am 21 20, b 22 (f 2 1) 21, b 23 (k 22) 21, b 24 (bhj 23 6) 21, a 25 (ka 21 24), am 26 25, b 27 (f 2 1) 26, b 28 (k 27) 26, b 29 (bmj 28 100) 26, a 30 (ka 26 29), am 2 30] [2]
 (.ret [2])))⟩

def xf_plain_SameEntries_k0 : List (Nat × Option (Nat × Nat × Bool)) := [(0, none), (1, none), (5, none)]
def xf_plain_SameEntries_b0 : XCode := (.seq (rs [om 11 5, om 12 0, o 13 (le 12), o 14 (bl 11 13)] [0, 1, 5, 14]
 (.cond (.s 14) .skip (.exit 0 [])))
 (.seq (.block 1 (rp (some []) [om 17 0, om 18 5, o 19 (ia 5 17 18), ol 20 5 19, om 21 1, om 22 5, o 23 (ia 5 21 22), ol 24 5 23, o 25 (.eqv true true [.i, .i, .i, .i, .s] (.s 20) (.s 24))] [0, 1, 5, 25]
 (.cond (.s 25) (rs [o 4 (.mv (.c w))] [4]
 (.ret [4])) .skip)))
 (.reg [om 15 5, o 16 (baj 15 1), om 5 16] none [0, 1, 5])))
def xf_plain_SameEntries : XFunc := ⟨none, true, 2, [.tmp 4], (rs [o 4 (.mv (.c w))] [0, 1]
 (.seq (rs [om 6 0, o 7 (le 6), om 8 1, o 9 (le 8), o 10 (n 7 9)] [0, 1, 10]
 (.cond (.s 10) (rs [o 4 (.mv (.c w))] [4]
 (.ret [4])) .skip))
 (.seq (rs [o 5 (.mv (j 0))] [0, 1, 5]
 (.block 0 (.loop xf_plain_SameEntries_k0 xf_plain_SameEntries_b0)))
 (rs [o 4 (.mv (.c v))] [4]
 (.ret [4])))))⟩

def xf_plain_SameVector_k0 : List (Nat × Option (Nat × Nat × Bool)) := [(0, none), (1, none), (5, none)]
def xf_plain_SameVector_b0 : XCode := (.seq (rs [om 11 5, om 12 0, o 13 (le 12), o 14 (bl 11 13)] [0, 1, 5, 14]
 (.cond (.s 14) .skip (.exit 0 [])))
 (.seq (.block 1 (rp (some []) [om 17 0, om 18 5, o 19 (ia 2 17 18), ol 20 2 19, om 21 1, om 22 5, o 23 (ia 2 21 22), ol 24 2 23, o 25 (.eqv true true [.i, .i] (.s 20) (.s 24))] [0, 1, 5, 25]
 (.cond (.s 25) (rs [o 4 (.mv (.c w))] [4]
 (.ret [4])) .skip)))
 (.reg [om 15 5, o 16 (baj 15 1), om 5 16] none [0, 1, 5])))
def xf_plain_SameVector : XFunc := ⟨none, true, 2, [.tmp 4], (rs [o 4 (.mv (.c w))] [0, 1]
 (.seq (rs [om 6 0, o 7 (le 6), om 8 1, o 9 (le 8), o 10 (n 7 9)] [0, 1, 10]
 (.cond (.s 10) (rs [o 4 (.mv (.c w))] [4]
 (.ret [4])) .skip))
 (.seq (rs [o 5 (.mv (j 0))] [0, 1, 5]
 (.block 0 (.loop xf_plain_SameVector_k0 xf_plain_SameVector_b0)))
 (rs [o 4 (.mv (.c v))] [4]
 (.ret [4])))))⟩

def xf_plain_sameAcks_k0 : List (Nat × Option (Nat × Nat × Bool)) := [(0, none), (1, none), (5, none)]
def xf_plain_sameAcks_b0 : XCode := (.seq (rs [om 11 5, om 12 0, o 13 (le 12), o 14 (bl 11 13)] [0, 1, 5, 14]
 (.cond (.s 14) .skip (.exit 0 [])))
 (.seq (.block 1 (rp (some []) [om 17 0, om 18 5, o 19 (ia 4 17 18), ol 20 4 19, om 21 1, om 22 5, o 23 (ia 4 21 22), ol 24 4 23, o 25 (.eqv true true [.i, .i, .i, .i] (.s 20) (.s 24))] [0, 1, 5, 25]
 (.cond (.s 25) (rs [o 4 (.mv (.c w))] [4]
 (.ret [4])) .skip)))
 (.reg [om 15 5, o 16 (baj 15 1), om 5 16] none [0, 1, 5])))
def xf_plain_sameAcks : XFunc := ⟨none, true, 2, [.tmp 4], (rs [o 4 (.mv (.c w))] [0, 1]
 (.seq (rs [om 6 0, o 7 (le 6), om 8 1, o 9 (le 8), o 10 (n 7 9)] [0, 1, 10]
 (.cond (.s 10) (rs [o 4 (.mv (.c w))] [4]
 (.ret [4])) .skip))
 (.seq (rs [o 5 (.mv (j 0))] [0, 1, 5]
 (.block 0 (.loop xf_plain_sameAcks_k0 xf_plain_sameAcks_b0)))
 (rs [o 4 (.mv (.c v))] [4]
 (.ret [4])))))⟩

def xf_plain_sameMarks_k0 : List (Nat × Option (Nat × Nat × Bool)) := [(0, none), (1, none), (5, none)]
def xf_plain_sameMarks_b0 : XCode := (.seq (rs [om 11 5, om 12 0, o 13 (le 12), o 14 (bl 11 13)] [0, 1, 5, 14]
 (.cond (.s 14) .skip (.exit 0 [])))
 (.seq (.block 1 (rp (some []) [om 17 0, om 18 5, o 19 (ia 3 17 18), ol 20 3 19, om 21 1, om 22 5, o 23 (ia 3 21 22), ol 24 3 23, o 25 (.eqv true true [.i, .i, .i] (.s 20) (.s 24))] [0, 1, 5, 25]
 (.cond (.s 25) (rs [o 4 (.mv (.c w))] [4]
 (.ret [4])) .skip)))
 (.reg [om 15 5, o 16 (baj 15 1), om 5 16] none [0, 1, 5])))
def xf_plain_sameMarks : XFunc := ⟨none, true, 2, [.tmp 4], (rs [o 4 (.mv (.c w))] [0, 1]
 (.seq (rs [om 6 0, o 7 (le 6), om 8 1, o 9 (le 8), o 10 (n 7 9)] [0, 1, 10]
 (.cond (.s 10) (rs [o 4 (.mv (.c w))] [4]
 (.ret [4])) .skip))
 (.seq (rs [o 5 (.mv (j 0))] [0, 1, 5]
 (.block 0 (.loop xf_plain_sameMarks_k0 xf_plain_sameMarks_b0)))
 (rs [o 4 (.mv (.c v))] [4]
 (.ret [4])))))⟩

def xf_plain_SameBallots_k0 : List (Nat × Option (Nat × Nat × Bool)) := [(0, none), (1, none), (5, none)]
def xf_plain_SameBallots_b0 : XCode := (.seq (rs [om 11 5, om 12 0, o 13 (le 12), o 14 (bl 11 13)] [0, 1, 5, 14]
 (.cond (.s 14) .skip (.exit 0 [])))
 (.seq (.block 1 (sp (some []) [am 17 0, am 18 5, a 19 (ia 6 17 18), a 20 (f 0 19), a 21 (k 20), am 22 1, am 23 5, a 24 (ia 6 22 23), a 25 (f 0 24), a 26 (k 25), a 27 (n 21 26), am 28 27, d 29 (m 0) 28, d 30 (m 5) 28, r 31 (ia 6 29 30) 28, r 32 (f 1 31) 28, r 33 (l 2 32) 28, d 34 (m 1) 28, d 35 (m 5) 28, r 36 (ia 6 34 35) 28, r 37 (f 1 36) 28, r 38 (l 2 37) 28, r 39 (.eqv true true [.i, .i] (.s 33) (.s 38)) 28, a 40 (ko 28 39), am 41 40, d 42 (m 0) 41, d 43 (m 5) 41, r 44 (ia 6 42 43) 41, r 45 (f 3 44) 41, r 46 (k 45) 41, d 47 (m 1) 41, d 48 (m 5) 41, r 49 (ia 6 47 48) 41, r 50 (f 3 49) 41, r 51 (k 50) 41, r 52 (n 46 51) 41, a 53 (ko 41 52), am 54 53, d 55 (m 0) 54, d 56 (m 5) 54, r 57 (ia 6 55 56) 54, r 58 (f 4 57) 54, r 59 (k 58) 54, d 60 (m 1) 54, d 61 (m 5) 54, r 62 (ia 6 60 61) 54, r 63 (f 4 62) 54, r 64 (k 63) 54, r 65 (n 59 64) 54, a 66 (ko 54 65), am 67 66, d 68 (m 0) 67, d 69 (m 5) 67, r 70 (ia 6 68 69) 67, r 71 (f 5 70) 67, r 72 (k 71) 67, d 73 (m 1) 67, d 74 (m 5) 67, r 75 (ia 6 73 74) 67, r 76 (f 5 75) 67, r 77 (k 76) 67, r 78 (c 27 [72, 77]) 67, r 79 (nt 78) 67, a 80 (ko 67 79)] [0, 1, 5, 80]
 (.cond (.s 80) (rs [o 4 (.mv (.c w))] [4]
 (.ret [4])) .skip)))
 (.reg [om 15 5, o 16 (baj 15 1), om 5 16] none [0, 1, 5])))
def xf_plain_SameBallots : XFunc := ⟨none, true, 2, [.tmp 4], (rs [o 4 (.mv (.c w))] [0, 1]
 (.seq (rs [om 6 0, o 7 (le 6), om 8 1, o 9 (le 8), o 10 (n 7 9)] [0, 1, 10]
 (.cond (.s 10) (rs [o 4 (.mv (.c w))] [4]
 (.ret [4])) .skip))
 (.seq (rs [o 5 (.mv (j 0))] [0, 1, 5]
 (.block 0 (.loop xf_plain_SameBallots_k0 xf_plain_SameBallots_b0)))
 (rs [o 4 (.mv (.c v))] [4]
 (.ret [4])))))⟩

def xf_plain_SameAnswers_k0 : List (Nat × Option (Nat × Nat × Bool)) := [(0, none), (1, none), (5, none)]
def xf_plain_SameAnswers_b0 : XCode := (.seq (rs [om 11 5, om 12 0, o 13 (le 12), o 14 (bl 11 13)] [0, 1, 5, 14]
 (.cond (.s 14) .skip (.exit 0 [])))
 (.seq (.block 1 (sp (some []) [am 17 0, am 18 5, a 19 (ia 6 17 18), a 20 (f 0 19), a 21 (k 20), am 22 1, am 23 5, a 24 (ia 6 22 23), a 25 (f 0 24), a 26 (k 25), a 27 (n 21 26), am 28 27, d 29 (m 0) 28, d 30 (m 5) 28, r 31 (ia 6 29 30) 28, r 32 (f 1 31) 28, r 33 (l 2 32) 28, d 34 (m 1) 28, d 35 (m 5) 28, r 36 (ia 6 34 35) 28, r 37 (f 1 36) 28, r 38 (l 2 37) 28, r 39 (.eqv true true [.i, .i] (.s 33) (.s 38)) 28, a 40 (ko 28 39), am 41 40, d 42 (m 0) 41, d 43 (m 5) 41, r 44 (ia 6 42 43) 41, r 45 (f 3 44) 41, r 46 (k 45) 41, d 47 (m 1) 41, d 48 (m 5) 41, r 49 (ia 6 47 48) 41, r 50 (f 3 49) 41, r 51 (k 50) 41, r 52 (n 46 51) 41, a 53 (ko 41 52), am 54 53, d 55 (m 0) 54, d 56 (m 5) 54, r 57 (ia 6 55 56) 54, r 58 (f 4 57) 54, r 59 (k 58) 54, d 60 (m 1) 54, d 61 (m 5) 54, r 62 (ia 6 60 61) 54, r 63 (f 4 62) 54, r 64 (k 63) 54, r 65 (n 59 64) 54, a 66 (ko 54 65), am 67 66, d 68 (m 0) 67, d 69 (m 5) 67, r 70 (ia 6 68 69) 67, r 71 (f 5 70) 67, r 72 (k 71) 67, d 73 (m 1) 67, d 74 (m 5) 67, r 75 (ia 6 73 74) 67, r 76 (f 5 75) 67, r 77 (k 76) 67, r 78 (c 27 [72, 77]) 67, r 79 (nt 78) 67, a 80 (ko 67 79)] [0, 1, 5, 80]
 (.cond (.s 80) (rs [o 4 (.mv (.c w))] [4]
 (.ret [4])) .skip)))
 (.reg [om 15 5, o 16 (baj 15 1), om 5 16] none [0, 1, 5])))
def xf_plain_SameAnswers : XFunc := ⟨none, true, 2, [.tmp 4], (rs [o 4 (.mv (.c w))] [0, 1]
 (.seq (rs [om 6 0, o 7 (le 6), om 8 1, o 9 (le 8), o 10 (n 7 9)] [0, 1, 10]
 (.cond (.s 10) (rs [o 4 (.mv (.c w))] [4]
 (.ret [4])) .skip))
 (.seq (rs [o 5 (.mv (j 0))] [0, 1, 5]
 (.block 0 (.loop xf_plain_SameAnswers_k0 xf_plain_SameAnswers_b0)))
 (rs [o 4 (.mv (.c v))] [4]
 (.ret [4])))))⟩

def xf_law09_three : XFunc := ⟨none, false, 0, [.cell 0 (some 4)], (rs [o 0 (.alloc [z, z, z, w])] [0]
 (rs [o 1 (.build [z, z, z, w] [(0, 1, (j 1)), (1, 1, (j 4)), (2, 1, (j 6))]), p (t 4 0 1)] [0]
 (.ret [0])))⟩

def xf_law09_commit : XFunc := ⟨none, false, 2, [.cell 4 (some 18)], (rs [o 4 (.alloc l4)] [0, 1, 4]
 (rs [om 5 0, o 6 (.build [y, y] [(1, 1, (.s 5))]), om 7 1, o 8 (.build [y, y] [(1, 1, (.s 7))]), o 9 (.build [y, y] []), o 10 (.bsl 26 2 true 3 [y, y, y, y, y, y] [(0, 2, (.s 6)), (2, 2, (.s 8)), (4, 2, (.s 9))]), o 11 (.build l4 [(0, 1, (j 5)), (17, 1, (.s 10))]), p (t 18 4 11)] [4]
 (.ret [4])))⟩

def xf_core_logged : XFunc := ⟨none, true, 3, [.tmp 6], (rs [o 3 (bx 0), o 6 (.mv (.c w))] [1, 2, 3]
 (rs [om 10 1, of 11 1 3, o 12 (k 11), o 13 (c 58 [10, 12]), om 9 13, o 14 (e 9 0), o 15 (e 9 1), om 7 14, om 8 15] [1, 2, 7]
 (ss [am 16 7, a 17 (qj 16 0), am 18 17, bb 19 2 18, b 20 (bhj 19 0) 18, a 21 (ka 18 20), am 22 21, bb 23 2 22, bb 24 1 22, b 25 (le 24) 22, b 26 (bm 23 25) 22, a 27 (ka 22 26), am 6 27] [6]
 (.ret [6]))))⟩

def xf_core_voted_k1 : List (Nat × Option (Nat × Nat × Bool)) := [(1, none), (3, none), (6, none), (10, none), (11, none), (14, some (122, 3, true)), (15, none), (16, none)]
def xf_core_voted_b1 : XCode := (rs [o 17 (bl 16 15)] [1, 3, 6, 10, 11, 14, 15, 16, 17]
 (.seq (.cond (.s 17) .skip (.exit 2 [1, 3, 10, 11]))
 (.seq (.block 3 (rs [o 18 (ia 3 14 16), ol 19 3 18, o 8 (.alloc l6), p (t 3 8 19)] [1, 3, 6, 8, 10, 11, 14, 15, 16]
 (.seq (sp (some []) [a 20 (f 0 8), a 21 (k 20), am 22 6, a 23 (bm 21 22), am 24 23, d 25 (f 0 8) 24, d 26 (k 25) 24, d 27 (f 6 1) 24, d 28 (k 27) 24, d 29 (le 28) 24, d 30 (bh 26 29) 24, a 31 (ko 24 30), am 32 31, d 33 (f 0 8) 32, d 34 (k 33) 32, d 35 (f 0 1) 32, d 36 (k 35) 32, d 37 (q 34 36) 32, a 38 (ko 32 37), am 39 38, d 40 (f 6 1) 39, d 41 (k 40) 39, d 42 (f 0 8) 39, d 43 (k 42) 39, r 44 (ia 2 41 43) 39, r 45 (l 2 44) 39, d 46 (f 1 8) 39, d 47 (l 2 46) 39, r 48 (.eqv true true [.i, .i] (.s 45) (.s 47)) 39, a 49 (ko 39 48)] [1, 3, 8, 10, 11, 14, 15, 16, 49]
 (.cond (.s 49) (rs [o 3 (.mv (.c w))] [3]
 (.exit 0 [3])) .skip))
 (.reg [of 50 0 8, o 51 (k 50), om 6 51] none [1, 3, 6, 10, 11, 14, 15, 16]))))
 (.reg [o 52 (baj 16 1), om 16 52] none [1, 3, 6, 10, 11, 14, 15, 16]))))
def xf_core_voted_k0 : List (Nat × Option (Nat × Nat × Bool)) := [(1, none), (3, none), (10, none), (11, none)]
def xf_core_voted_b0 : XCode := (rs [o 12 (blj 11 4)] [1, 3, 10, 11, 12]
 (.seq (.cond (.s 12) .skip (.exit 0 [3]))
 (.seq (.block 1 (rs [o 13 (.idx none 1 4 (.s 10) (.s 11)), om 5 13] [1, 3, 5, 10, 11]
 (rs [o 6 (.mv (j (-1)))] [1, 3, 5, 6, 10, 11]
 (rs [om 14 5, o 15 (le 14), o 16 (.mv (j 0))] [1, 3, 6, 10, 11, 14, 15, 16]
 (.block 2 (.loop xf_core_voted_k1 xf_core_voted_b1))))))
 (.reg [o 53 (baj 11 1), om 11 53] none [1, 3, 10, 11]))))
def xf_core_voted : XFunc := ⟨none, true, 1, [.tmp 2], (rs [o 1 (bx 0), o 2 (.mv (.c w))] [1]
 (rs [o 3 (.mv (.c v))] [1, 3]
 (.seq .skip
 (.seq (rs [ol 9 12 1, o 10 (c 59 [9]), o 11 (.mv (j 0))] [1, 3, 10, 11]
 (.block 0 (.loop xf_core_voted_k0 xf_core_voted_b0)))
 (rs [om 54 3, om 2 54] [2]
 (.ret [2]))))))⟩

def xf_core_normal_k0 : List (Nat × Option (Nat × Nat × Bool)) := [(3, none), (39, some (111, 4, true)), (40, none), (41, none)]
def xf_core_normal_b0 : XCode := (rs [o 42 (bl 41 40)] [3, 39, 40, 41, 42]
 (.seq (.cond (.s 42) .skip (.exit 0 [3]))
 (.seq (.block 1 (rs [o 43 (ia 4 39 41), ol 44 4 43, o 6 (.alloc l8), p (t 4 6 44)] [3, 6, 39, 40, 41]
 (ss [a 45 (f 3 6), a 46 (k 45), a 47 (blj 46 1), am 48 47, d 49 (f 3 6) 48, d 50 (k 49) 48, d 51 (f 4 3) 48, d 52 (k 51) 48, d 53 (le 52) 48, d 54 (bg 50 53) 48, a 55 (ko 48 54)] [3, 39, 40, 41, 55]
 (.cond (.s 55) (rs [o 4 (.mv (.c w))] [4]
 (.ret [4])) .skip))))
 (.reg [o 56 (baj 41 1), om 41 56] none [3, 39, 40, 41]))))
def xf_core_normal : XFunc := ⟨none, true, 2, [.tmp 4], (rs [o 2 (bx 0), o 3 (bx 1), o 4 (.mv (.c w))] [2, 3]
 (.seq (ss [a 7 (f 3 3), a 8 (k 7), a 9 (f 2 3), a 10 (k 9), a 11 (n 8 10), am 12 11, d 13 (f 9 3) 12, d 14 (k 13) 12, d 15 (le 14) 12, d 16 (bgj 15 0) 12, a 17 (ko 12 16), am 18 17, d 19 (f 10 3) 18, d 20 (k 19) 18, d 21 (le 20) 18, d 22 (bgj 21 0) 18, a 23 (ko 18 22), am 24 23, d 25 (f 11 3) 24, d 26 (k 25) 24, d 27 (le 26) 24, d 28 (bgj 27 0) 24, a 29 (ko 24 28)] [2, 3, 29]
 (.cond (.s 29) (rs [o 4 (.mv (.c w))] [4]
 (.ret [4])) .skip))
 (.seq (rs [ol 30 4 2, ol 31 12 3, o 32 (c 49 [30, 31]), o 33 (nt 32)] [3, 33]
 (.cond (.s 33) (rs [of 34 8 3, o 35 (k 34), o 36 (le 35), o 37 (qj 36 0), om 4 37] [4]
 (.ret [4])) .skip))
 (.seq (rs [of 38 8 3, o 39 (k 38), o 40 (le 39), o 41 (.mv (j 0))] [3, 39, 40, 41]
 (.block 0 (.loop xf_core_normal_k0 xf_core_normal_b0)))
 (rs [of 57 7 3, o 58 (k 57), o 59 (qj 58 0), om 4 59] [4]
 (.ret [4]))))))⟩

def xf_core_changing_k0 : List (Nat × Option (Nat × Nat × Bool)) := [(2, none), (3, none), (45, some (115, 6, false)), (46, none), (47, none)]
def xf_core_changing_b0 : XCode := (rs [o 48 (bl 47 46)] [2, 3, 45, 46, 47, 48]
 (.seq (.cond (.s 48) .skip (.exit 0 []))
 (.seq (.block 1 (rs [o 49 (ia 6 45 47), ol 50 6 49, o 6 (.alloc l2), p (t 6 6 50)] [2, 3, 6, 45, 46, 47]
 (ss [a 51 (f 3 6), a 52 (k 51), a 53 (blj 52 0), am 54 53, d 55 (f 3 6) 54, d 56 (k 55) 54, d 57 (f 2 3) 54, d 58 (k 57) 54, d 59 (bh 56 58) 54, a 60 (ko 54 59), am 61 60, d 62 (l 4 2) 61, d 63 (f 5 6) 61, d 64 (k 63) 61, d 65 (f 4 6) 61, d 66 (k 65) 61, r 67 (c 35 [62, 64, 66]) 61, r 68 (nt 67) 61, a 69 (ko 61 68)] [2, 3, 45, 46, 47, 69]
 (.cond (.s 69) (rs [o 4 (.mv (.c w))] [4]
 (.ret [4])) .skip))))
 (.reg [o 70 (baj 47 1), om 47 70] none [2, 3, 45, 46, 47]))))
def xf_core_changing : XFunc := ⟨none, true, 2, [.tmp 4], (rs [o 2 (bx 0), o 3 (bx 1), o 4 (.mv (.c w))] [2, 3]
 (.seq (ss [a 7 (f 3 3), a 8 (k 7), a 9 (f 2 3), a 10 (k 9), a 11 (bh 8 10), am 12 11, d 13 (f 8 3) 12, d 14 (k 13) 12, d 15 (le 14) 12, d 16 (bgj 15 0) 12, a 17 (ko 12 16), am 18 17, d 19 (f 11 3) 18, d 20 (k 19) 18, d 21 (le 20) 18, d 22 (bgj 21 0) 18, a 23 (ko 18 22), am 24 23, d 25 (f 10 3) 24, d 26 (k 25) 24, d 27 (le 26) 24, d 28 (f 0 2) 24, d 29 (k 28) 24, d 30 (bh 27 29) 24, a 31 (ko 24 30), am 32 31, d 33 (l 4 2) 32, d 34 (l 12 3) 32, r 35 (c 49 [33, 34]) 32, r 36 (nt 35) 32, r 37 (m 36) 32, b 38 (f 10 3) 37, b 39 (k 38) 37, b 40 (le 39) 37, b 41 (bgj 40 0) 37, r 42 (ka 37 41) 32, a 43 (ko 32 42)] [2, 3, 43]
 (.cond (.s 43) (rs [o 4 (.mv (.c w))] [4]
 (.ret [4])) .skip))
 (.seq (rs [of 44 10 3, o 45 (k 44), o 46 (le 45), o 47 (.mv (j 0))] [2, 3, 45, 46, 47]
 (.block 0 (.loop xf_core_changing_k0 xf_core_changing_b0)))
 (rs [o 4 (.mv (.c v))] [4]
 (.ret [4])))))⟩

def xf_core_recovering_k0 : List (Nat × Option (Nat × Nat × Bool)) := [(2, none), (60, some (117, 6, false)), (61, none), (62, none)]
def xf_core_recovering_b0 : XCode := (rs [o 63 (bl 62 61)] [2, 60, 61, 62, 63]
 (.seq (.cond (.s 63) .skip (.exit 0 []))
 (.seq (.block 1 (rs [o 64 (ia 6 60 62), ol 65 6 64, o 6 (.alloc l2), p (t 6 6 65)] [2, 6, 60, 61, 62]
 (sp (some [(19, 23)]) [a 66 (f 3 6), a 67 (k 66), a 68 (blj 67 0), am 69 68, d 70 (f 3 6) 69, d 71 (k 70) 69, d 72 (bgj 71 4294967296) 69, a 73 (ko 69 72), am 74 73, d 75 (l 4 2) 74, d 76 (f 5 6) 74, d 77 (k 76) 74, d 78 (f 4 6) 74, d 79 (k 78) 74, r 80 (c 35 [75, 77, 79]) 74, r 81 (nt 80) 74, a 82 (ko 74 81), am 83 82, d 84 (f 0 6) 83, d 85 (k 84) 83, d 86 (l 4 2) 83, d 87 (f 3 6) 83, d 88 (k 87) 83, r 89 (c 14 [86, 88]) 83, r 90 (n 85 89) 83, r 91 (m 90) 83, b 92 (f 5 6) 91, b 93 (k 92) 91, b 94 (le 93) 91, b 95 (bgj 94 0) 91, r 96 (ka 91 95) 83, a 97 (ko 83 96)] [2, 60, 61, 62, 97]
 (.cond (.s 97) (rs [o 4 (.mv (.c w))] [4]
 (.ret [4])) .skip))))
 (.reg [o 98 (baj 62 1), om 62 98] none [2, 60, 61, 62]))))
def xf_core_recovering : XFunc := ⟨none, true, 2, [.tmp 4], (rs [o 2 (bx 0), o 3 (bx 1), o 4 (.mv (.c w))] [2, 3]
 (.seq (ss [a 7 (f 2 3), a 8 (k 7), a 9 (nj 8 0), am 10 9, d 11 (f 3 3) 10, d 12 (k 11) 10, d 13 (nj 12 0) 10, a 14 (ko 10 13), am 15 14, d 16 (f 5 3) 15, d 17 (k 16) 15, d 18 (nj 17 0) 15, a 19 (ko 15 18), am 20 19, d 21 (f 7 3) 20, d 22 (k 21) 20, d 23 (nj 22 0) 20, a 24 (ko 20 23), am 25 24, d 26 (f 4 3) 25, d 27 (k 26) 25, d 28 (le 27) 25, d 29 (bgj 28 0) 25, a 30 (ko 25 29), am 31 30, d 32 (f 8 3) 31, d 33 (k 32) 31, d 34 (le 33) 31, d 35 (bgj 34 0) 31, a 36 (ko 31 35), am 37 36, d 38 (f 9 3) 37, d 39 (k 38) 37, d 40 (le 39) 37, d 41 (bgj 40 0) 37, a 42 (ko 37 41), am 43 42, d 44 (f 10 3) 43, d 45 (k 44) 43, d 46 (le 45) 43, d 47 (bgj 46 0) 43, a 48 (ko 43 47), am 49 48, d 50 (f 6 3) 49, d 51 (k 50) 49, d 52 (f 0 3) 49, d 53 (k 52) 49, r 54 (ia 2 51 53) 49, r 55 (l 2 54) 49, d 56 (.build [y, y] []) 49, r 57 (.eqv false true [.i, .i] (.s 55) (.s 56)) 49, a 58 (ko 49 57)] [2, 3, 58]
 (.cond (.s 58) (rs [o 4 (.mv (.c w))] [4]
 (.ret [4])) .skip))
 (.seq (rs [of 59 11 3, o 60 (k 59), o 61 (le 60), o 62 (.mv (j 0))] [2, 60, 61, 62]
 (.block 0 (.loop xf_core_recovering_k0 xf_core_recovering_b0)))
 (rs [o 4 (.mv (.c v))] [4]
 (.ret [4])))))⟩

def xf_core_twin_k0 : List (Nat × Option (Nat × Nat × Bool)) := [(1, none), (2, none), (27, none), (28, none)]
def xf_core_twin_b0 : XCode := (rs [o 29 (bl 28 27)] [1, 2, 27, 28, 29]
 (.seq (.cond (.s 29) .skip (.exit 0 [1, 2]))
 (.seq (.block 1 (rs [om 30 28, om 3 30] [1, 2, 3, 27, 28]
 (.reg [of 31 10 1, o 32 (k 31), om 33 3, of 34 10 1, o 35 (k 34), om 36 3, o 37 (ia 6 35 36), of 38 5 37, o 39 (k 38), o 40 (c 60 [39]), o 41 (ia 6 32 33), of 42 5 41, p (t 1 42 40)] (some [(1, 9)]) [1, 2, 27, 28])))
 (.reg [o 43 (baj 28 1), om 28 43] none [1, 2, 27, 28]))))
def xf_core_twin_k1 : List (Nat × Option (Nat × Nat × Bool)) := [(1, none), (2, none), (50, none), (51, none)]
def xf_core_twin_b1 : XCode := (rs [o 52 (bl 51 50)] [1, 2, 50, 51, 52]
 (.seq (.cond (.s 52) .skip (.exit 2 [1, 2]))
 (.seq (.block 3 (rs [om 53 51, om 4 53] [1, 2, 4, 50, 51]
 (.reg [of 54 11 1, o 55 (k 54), om 56 4, of 57 11 1, o 58 (k 57), om 59 4, o 60 (ia 6 58 59), of 61 5 60, o 62 (k 61), o 63 (c 60 [62]), o 64 (ia 6 55 56), of 65 5 64, p (t 1 65 63)] (some [(1, 9)]) [1, 2, 50, 51])))
 (.reg [o 66 (baj 51 1), om 51 66] none [1, 2, 50, 51]))))
def xf_core_twin : XFunc := ⟨none, true, 1, [.cell 2 (some 12)], (rs [o 1 (bx 0), o 2 (.alloc l1)] [1, 2]
 (rs [of 5 4 1, o 6 (k 5), o 7 (c 60 [6]), of 8 4 1, p (t 1 8 7)] [1, 2]
 (rs [of 9 6 1, o 10 (k 9), o 11 (c 61 [10]), of 12 6 1, p (t 1 12 11)] [1, 2]
 (rs [of 13 8 1, o 14 (k 13), o 15 (c 62 [14]), of 16 8 1, p (t 1 16 15)] [1, 2]
 (rs [of 17 9 1, o 18 (k 17), o 19 (c 63 [18]), of 20 9 1, p (t 1 20 19)] [1, 2]
 (rs [of 21 10 1, o 22 (k 21), o 23 (c 64 [22]), of 24 10 1, p (t 1 24 23)] [1, 2]
 (.seq (rs [of 25 10 1, o 26 (k 25), o 27 (le 26), o 28 (.mv (j 0))] [1, 2, 27, 28]
 (.block 0 (.loop xf_core_twin_k0 xf_core_twin_b0)))
 (rs [of 44 11 1, o 45 (k 44), o 46 (c 65 [45]), of 47 11 1, p (t 1 47 46)] [1, 2]
 (.seq (rs [of 48 11 1, o 49 (k 48), o 50 (le 49), o 51 (.mv (j 0))] [1, 2, 50, 51]
 (.block 2 (.loop xf_core_twin_k1 xf_core_twin_b1)))
 (rs [ol 67 12 1, p (t 12 2 67)] [2]
 (.ret [2])))))))))))⟩

def xf_message_Between : XFunc := ⟨none, true, 1, [.tmp 2], (rs [o 2 (.mv (.c w))] [0]
 (ss [am 3 0, a 4 (bhj 3 3), am 5 4, bb 6 0 5, b 7 (bmj 6 12) 5, a 8 (ka 5 7), am 2 8] [2]
 (.ret [2])))⟩

def xf_vector_Over : XFunc := ⟨none, true, 2, [.tmp 4], (rs [o 3 (bx 1), o 4 (.mv (.c w))] [0, 3]
 (sp (some []) [a 5 (l 2 3), a 6 (c 66 [5]), am 7 6, bb 8 0 7, b 9 (le 8) 7, b 10 (f 1 3) 7, b 11 (k 10) 7, b 12 (le 11) 7, b 13 (q 9 12) 7, a 14 (ka 7 13), am 15 14, bb 16 0 15, b 17 (f 0 3) 15, b 18 (k 17) 15, u 19 (ia 2 16 18) 15, u 20 (l 2 19) 15, b 21 (f 1 3) 15, b 22 (k 21) 15, b 23 (f 0 3) 15, b 24 (k 23) 15, u 25 (ia 2 22 24) 15, u 26 (l 2 25) 15, u 27 (c 43 [20, 26]) 15, u 28 (bgj 27 0) 15, a 29 (ka 15 28), am 4 29] [4]
 (.ret [4])))⟩

def xf_nonce_Compare : XFunc := ⟨none, true, 2, [.tmp 4], (rs [o 2 (bx 0), o 3 (bx 1), o 4 (.mv (j 0))] [2, 3]
 (.seq (.block 0 (rs [ol 6 2 2, ol 7 2 3, o 8 (.eqv false true [.i, .i] (.s 6) (.s 7)), om 5 8] [2, 3, 5]
 (.cond (.s 5) (rs [o 4 (.mv (j 0))] [4]
 (.ret [4])) (.seq (rs [of 10 0 2, o 11 (k 10), of 12 0 3, o 13 (k 12), o 14 (bl 11 13), om 9 14] [2, 3, 9]
 (.cond (.s 9) .skip (.sreg [a 15 (f 0 2), a 16 (k 15), a 17 (f 0 3), a 18 (k 17), a 19 (q 16 18), am 20 19, b 21 (f 1 2) 20, b 22 (k 21) 20, b 23 (f 1 3) 20, b 24 (k 23) 20, b 25 (bl 22 24) 20, a 26 (ka 20 25), am 9 26] none [9])))
 (.cond (.s 9) (rs [o 4 (.mv (j (-1)))] [4]
 (.ret [4])) .skip)))))
 (rs [o 4 (.mv (j 1))] [4]
 (.ret [4]))))⟩

def xf_vector_Merge_k0 : List (Nat × Option (Nat × Nat × Bool)) := [(0, none), (14, some (30, 1, false)), (15, none), (16, none)]
def xf_vector_Merge_b0 : XCode := (rs [o 17 (bl 16 15)] [0, 14, 15, 16, 17]
 (.seq (.cond (.s 17) .skip (.exit 0 [0]))
 (.seq (.block 1 (rs [o 18 (ia 1 14 16), o 19 (k 18), om 5 19] [0, 5, 14, 15, 16]
 (ss [am 20 5, a 21 (c 67 [20]), a 22 (nt 21), am 23 22, d 24 (m 5) 23, d 25 (le 24) 23, d 26 (m 0) 23, r 27 (.iadr 1 (.s 26) (j 0)) 23, r 28 (k 27) 23, r 29 (le 28) 23, r 30 (n 25 29) 23, a 31 (ko 23 30)] [0, 14, 15, 16, 31]
 (.cond (.s 31) (rs [o 2 (.mv (.c (.nil 26 2 true))), o 3 (.mv (j 30))] [2, 3]
 (.ret [2, 3])) .skip))))
 (.reg [o 32 (baj 16 1), om 16 32] none [0, 14, 15, 16]))))
def xf_vector_Merge_k2 : List (Nat × Option (Nat × Nat × Bool)) := [(6, some (26, 2, true)), (38, some (30, 1, false)), (39, none), (40, none), (44, some (26, 2, true)), (45, none), (46, none)]
def xf_vector_Merge_b2 : XCode := (rs [o 47 (bl 46 45)] [6, 38, 39, 40, 44, 45, 46, 47]
 (.seq (.cond (.s 47) .skip (.exit 4 [6, 38, 39, 40]))
 (.seq (.block 5 (rs [om 48 46, o 49 (ia 2 44 46), ol 50 2 49, o 10 (.alloc [y, y]), om 9 48, p (t 2 10 50)] [6, 9, 10, 38, 39, 40, 44, 45, 46]
 (rp (some []) [om 51 6, om 52 9, o 53 (ia 2 51 52), ol 54 2 53, ol 55 2 10, o 56 (c 43 [54, 55]), o 57 (blj 56 0)] [6, 9, 10, 38, 39, 40, 44, 45, 46, 57]
 (.cond (.s 57) (.reg [om 58 6, om 59 9, ol 60 2 10, o 61 (ia 2 58 59), p (t 2 61 60)] none [6, 38, 39, 40, 44, 45, 46]) .skip))))
 (.reg [o 62 (baj 46 1), om 46 62] none [6, 38, 39, 40, 44, 45, 46]))))
def xf_vector_Merge_k1 : List (Nat × Option (Nat × Nat × Bool)) := [(6, some (26, 2, true)), (38, some (30, 1, false)), (39, none), (40, none)]
def xf_vector_Merge_b1 : XCode := (rs [o 41 (bl 40 39)] [6, 38, 39, 40, 41]
 (.seq (.cond (.s 41) .skip (.exit 2 [6]))
 (.seq (.block 3 (rs [o 42 (ia 1 38 40), o 43 (k 42), om 8 43] [6, 8, 38, 39, 40]
 (rs [om 44 8, o 45 (le 44), o 46 (.mv (j 0))] [6, 38, 39, 40, 44, 45, 46]
 (.block 4 (.loop xf_vector_Merge_k2 xf_vector_Merge_b2)))))
 (.reg [o 63 (baj 40 1), om 40 63] none [6, 38, 39, 40]))))
def xf_vector_Merge : XFunc := ⟨none, true, 1, [.tmp 2, .tmp 3], (rs [o 2 (.mv (.c (.nil 26 2 true))), o 3 (.mv (j 0))] [0]
 (.seq (rs [om 11 0, o 12 (le 11), o 13 (qj 12 0)] [0, 13]
 (.cond (.s 13) (rs [o 2 (.mv (.c (.nil 26 2 true))), o 3 (.mv (j 30))] [2, 3]
 (.ret [2, 3])) .skip))
 (.seq (rs [om 14 0, o 15 (le 14), o 16 (.mv (j 0))] [0, 14, 15, 16]
 (.block 0 (.loop xf_vector_Merge_k0 xf_vector_Merge_b0)))
 (rs [om 33 0, o 34 (.iadr 1 (.s 33) (j 0)), o 35 (k 34), o 36 (le 35), o 37 (.mksl 26 2 16 true [y, y] (.s 36) (.s 36)), om 6 37] [0, 6]
 (.seq (rs [om 38 0, o 39 (le 38), o 40 (.mv (j 0))] [6, 38, 39, 40]
 (.block 2 (.loop xf_vector_Merge_k1 xf_vector_Merge_b1)))
 (rs [om 64 6, om 2 64, o 3 (.mv (j 0))] [2, 3]
 (.ret [2, 3])))))))⟩

def xf_tally_PruneAcks : XFunc := ⟨none, true, 2, [.tmp 4], (rs [o 4 (.mv (.c (.nil 111 4 true)))] [0, 1]
 (rs [om 5 0, o 6 (.call (fc 69) [(.s 5), (.c (.fn (.func 70) [] []))]), o 7 (.build [(.nil 133 4 true)] [(0, 1, (.s 6))]), om 8 1, o 9 (c 71 [7, 8]), o 10 (.call (fc 68) [(.s 9), (.c (.fn (.func 72) [] []))]), om 4 10] [4]
 (.ret [4])))⟩

def xf_tally_PruneMarks : XFunc := ⟨none, true, 2, [.tmp 4], (rs [o 4 (.mv (.c (.nil 113 3 true)))] [0, 1]
 (rs [om 5 0, o 6 (.call (fc 74) [(.s 5), (.c (.fn (.func 75) [] []))]), o 7 (.build [(.nil 142 3 true)] [(0, 1, (.s 6))]), om 8 1, o 9 (c 76 [7, 8]), o 10 (.call (fc 73) [(.s 9), (.c (.fn (.func 77) [] []))]), om 4 10] [4]
 (.ret [4])))⟩

def xf_tally_PruneBallots : XFunc := ⟨none, true, 2, [.tmp 4], (rs [o 4 (.mv (.c (.nil 115 6 false)))] [0, 1]
 (rs [om 5 0, o 6 (.call (fc 79) [(.s 5), (.c (.fn (.func 80) [] []))]), o 7 (.build [(.nil 151 6 false)] [(0, 1, (.s 6))]), om 8 1, o 9 (c 81 [7, 8]), o 10 (.call (fc 78) [(.s 9), (.c (.fn (.func 82) [] []))]), om 4 10] [4]
 (.ret [4])))⟩

def xf_tally_PruneAnswers : XFunc := ⟨none, true, 2, [.tmp 4], (rs [o 4 (.mv (.c (.nil 117 6 false)))] [0, 1]
 (rs [om 5 0, o 6 (.call (fc 84) [(.s 5), (.c (.fn (.func 85) [] []))]), o 7 (.build [(.nil 160 6 false)] [(0, 1, (.s 6))]), om 8 1, o 9 (c 86 [7, 8]), o 10 (.call (fc 83) [(.s 9), (.c (.fn (.func 87) [] []))]), om 4 10] [4]
 (.ret [4])))⟩

def xf_core_leads : XFunc := ⟨none, true, 2, [.tmp 4], (rs [o 2 (bx 0), o 3 (bx 1), o 4 (.mv (.c w))] [2, 3]
 (rp (some []) [of 5 0 3, o 6 (k 5), of 7 2 3, o 8 (k 7), of 9 0 2, o 10 (k 9), o 11 (.bin .mul (j 2) (.s 10)), o 12 (baj 11 1), o 13 (.bin .rem (.s 8) (.s 12)), o 14 (q 6 13), om 4 14] [4]
 (.ret [4])))⟩

def xf_client_Between : XFunc := ⟨none, true, 3, [.tmp 6, .tmp 7], (rs [o 6 (.mv (.c (.nil 99 7 true))), o 7 (.mv (j 0))] [0, 1, 2]
 (.seq (rs [om 9 0, o 10 (c 88 [9]), om 8 10] [0, 1, 2, 8]
 (rs [om 11 8, o 12 (nj 11 0)] [0, 1, 2, 8, 12]
 (.cond (.s 12) (rs [om 13 8, o 6 (.mv (.c (.nil 99 7 true))), om 7 13] [6, 7]
 (.ret [6, 7])) .skip)))
 (.seq (ss [am 14 1, a 15 (blj 14 0), am 16 15, d 17 (m 1) 16, d 18 (m 0) 16, d 19 (le 18) 16, d 20 (bg 17 19) 16, a 21 (ko 16 20), am 22 21, d 23 (m 2) 22, d 24 (blj 23 0) 22, a 25 (ko 22 24), am 26 25, d 27 (m 2) 26, d 28 (m 0) 26, d 29 (le 28) 26, d 30 (bg 27 29) 26, a 31 (ko 26 30), am 32 31, d 33 (m 1) 32, d 34 (m 2) 32, d 35 (bg 33 34) 32, a 36 (ko 32 35)] [0, 1, 2, 36]
 (.cond (.s 36) (rs [o 6 (.mv (.c (.nil 99 7 true))), o 7 (.mv (j 50))] [6, 7]
 (.ret [6, 7])) .skip))
 (rs [om 37 0, om 38 2, o 39 (c 89 [37, 38]), om 40 1, o 41 (.slice 7 (.s 39) (some (.s 40)) none), o 42 (.app 99 7 64 true (.c (.nil 99 7 true)) (.s 41)), om 6 42, o 7 (.mv (j 0))] [6, 7]
 (.ret [6, 7])))))⟩

def xf_message_config : XFunc := ⟨none, true, 1, [.tmp 2], (rs [o 1 (bx 0), o 2 (.mv (.c w))] [1]
 (ss [a 3 (f 0 1), a 4 (k 3), a 5 (bhj 4 1), am 6 5, b 7 (f 0 1) 6, b 8 (k 7) 6, b 9 (bmj 8 3) 6, a 10 (ka 6 9), am 11 10, b 12 (f 1 1) 11, b 13 (k 12) 11, b 14 (bhj 13 1) 11, a 15 (ka 11 14), am 16 15, b 17 (f 1 1) 16, b 18 (k 17) 16, b 19 (bmj 18 256) 16, a 20 (ka 16 19), am 21 20, b 22 (f 2 1) 21, b 23 (k 22) 21, b 24 (bhj 23 6) 21, a 25 (ka 21 24), am 26 25, b 27 (f 2 1) 26, b 28 (k 27) 26, b 29 (bmj 28 100) 26, a 30 (ka 26 29), am 2 30] [2]
 (.ret [2])))⟩

def xf_message_is : XFunc := ⟨none, true, 1, [.tmp 2], (rs [o 2 (.mv (.c w))] [0]
 (ss [am 3 0, a 4 (bhj 3 1), am 5 4, bb 6 0 5, b 7 (bmj 6 14) 5, a 8 (ka 5 7), am 2 8] [2]
 (.ret [2])))⟩

def xf_message_unused_k0 : List (Nat × Option (Nat × Nat × Bool)) := [(1, none), (42, none), (43, none)]
def xf_message_unused_b0 : XCode := (rs [o 44 (blj 43 10)] [1, 42, 43, 44]
 (.seq (.cond (.s 44) .skip (.exit 0 []))
 (.seq (.block 1 (rs [om 45 43, o 46 (.idx none 1 10 (.s 42) (.s 43)), om 4 45, om 5 46] [1, 4, 5, 42, 43]
 (ss [am 47 5, a 48 (nt 47), am 49 48, b 50 (f 0 1) 49, b 51 (k 50) 49, bb 52 4 49, u 53 (.aadr 10 15 (.c (.dptr usesD)) (.s 51)) 49, u 54 (.aadr 1 10 (.s 53) (.s 52)) 49, u 55 (k 54) 49, u 56 (nt 55) 49, a 57 (ka 49 56)] [1, 42, 43, 57]
 (.cond (.s 57) (rs [o 2 (.mv (.c w))] [2]
 (.ret [2])) .skip))))
 (.reg [o 58 (baj 43 1), om 43 58] none [1, 42, 43]))))
def xf_message_unused : XFunc := ⟨none, true, 1, [.tmp 2], (rs [o 1 (bx 0), o 2 (.mv (.c w))] [1]
 (rp (some [(1, 36), (4, 36), (7, 36), (10, 36), (13, 36), (16, 36), (20, 36), (24, 36), (28, 36), (32, 36)]) [of 6 1 1, o 7 (k 6), o 8 (qj 7 0), of 9 2 1, o 10 (k 9), o 11 (qj 10 0), of 12 13 1, o 13 (k 12), o 14 (qj 13 0), of 15 11 1, o 16 (k 15), o 17 (qj 16 0), of 18 12 1, o 19 (k 18), o 20 (qj 19 0), of 21 14 1, ol 22 2 21, o 23 (.build [y, y] []), o 24 (.eqv false true [.i, .i] (.s 22) (.s 23)), of 25 3 1, ol 26 5 25, o 27 (.build [z, z, z, z, x] []), o 28 (.eqv false true [.i, .i, .i, .i, .s] (.s 26) (.s 27)), of 29 8 1, ol 30 3 29, o 31 (.build l9 []), o 32 (.eqv false true [.i, .i, .s] (.s 30) (.s 31)), of 33 16 1, o 34 (k 33), o 35 (le 34), o 36 (qj 35 0), of 37 17 1, o 38 (k 37), o 39 (le 38), o 40 (qj 39 0), o 41 (.build l3 [(0, 1, (.s 8)), (1, 1, (.s 11)), (2, 1, (.s 14)), (3, 1, (.s 17)), (4, 1, (.s 20)), (5, 1, (.s 24)), (6, 1, (.s 28)), (7, 1, (.s 32)), (8, 1, (.s 36)), (9, 1, (.s 40))]), o 3 (.alloc l3), p (t 10 3 41)] [1, 3]
 (.seq (rs [ol 42 10 3, o 43 (.mv (j 0))] [1, 42, 43]
 (.block 0 (.loop xf_message_unused_k0 xf_message_unused_b0)))
 (rs [o 2 (.mv (.c v))] [2]
 (.ret [2])))))⟩

def xf_message_numbers : XFunc := ⟨none, true, 2, [.tmp 4], (rs [o 2 (bx 0), o 3 (bx 1), o 4 (.mv (.c w))] [2, 3]
 (rs [of 7 0 3, o 8 (k 7), o 9 (.aadr 10 15 (.c (.dptr usesD)) (.s 8)), ol 10 10 9, o 5 (.alloc l3), p (t 10 5 10)] [2, 3, 5]
 (rs [of 11 0 2, o 12 (k 11), o 13 (.bin .mul (j 2) (.s 12)), o 14 (baj 13 1), om 6 14] [2, 3, 5, 6]
 (.seq (ss [a 15 (f 1 3), a 16 (k 15), a 17 (blj 16 0), am 18 17, d 19 (f 1 3) 18, d 20 (k 19) 18, d 21 (m 6) 18, d 22 (bh 20 21) 18, a 23 (ko 18 22), am 24 23, d 25 (f 2 3) 24, d 26 (k 25) 24, d 27 (blj 26 0) 24, a 28 (ko 24 27), am 29 28, d 30 (f 2 3) 29, d 31 (k 30) 29, d 32 (bgj 31 4294967296) 29, a 33 (ko 29 32), am 34 33, d 35 (f 11 3) 34, d 36 (k 35) 34, d 37 (blj 36 0) 34, a 38 (ko 34 37), am 39 38, d 40 (f 11 3) 39, d 41 (k 40) 39, d 42 (f 1 2) 39, d 43 (k 42) 39, d 44 (bg 41 43) 39, a 45 (ko 39 44), am 46 45, d 47 (f 12 3) 46, d 48 (k 47) 46, d 49 (blj 48 0) 46, a 50 (ko 46 49), am 51 50, d 52 (f 13 3) 51, d 53 (k 52) 51, d 54 (blj 53 0) 51, a 55 (ko 51 54)] [2, 3, 5, 6, 55]
 (.cond (.s 55) (rs [o 4 (.mv (.c w))] [4]
 (.ret [4])) .skip))
 (.seq (rs [of 56 0 3, o 57 (k 56)] [2, 3, 5, 6, 57]
 (.block 0 (.seq (.block 5 (.seq (.block 4 (.seq (.block 3 (.seq (.block 2 (.seq (.block 1 (.seq (.seq (rs [o 59 (qj 57 3), om 58 59] [2, 3, 5, 6, 57, 58]
 (.cond (.s 58) (.exit 1 [2, 3, 6]) .skip))
 (.seq (rs [o 61 (qj 57 5), om 60 61] [2, 3, 5, 6, 57, 60]
 (.cond (.s 60) (.exit 2 [2, 3, 6]) .skip))
 (.seq (rs [o 63 (qj 57 14), om 62 63] [2, 3, 5, 6, 57, 62]
 (.cond (.s 62) (.exit 3 [2, 3]) .skip))
 (.seq (rs [o 65 (qj 57 8), om 64 65] [3, 5, 6, 57, 64]
 (.cond (.s 64) (.exit 4 [3, 5, 6]) .skip))
 (.seq (rs [o 67 (qj 57 6), om 66 67] [3, 5, 57, 66]
 (.cond (.s 66) .skip (.reg [o 68 (qj 57 7), om 66 68] none [3, 5, 66])))
 (.cond (.s 66) (.exit 5 [3, 5]) .skip))))))
 (.exit 0 [3, 5])))
 (rs [of 69 11 3, o 70 (k 69), o 71 (blj 70 1)] [2, 3, 6, 71]
 (.cond (.s 71) (rs [o 4 (.mv (.c w))] [4]
 (.ret [4])) .skip))))
 (.seq (sp (some []) [a 72 (f 1 3), a 73 (k 72), a 74 (f 2 3), a 75 (k 74), am 76 6, a 77 (.bin .rem (.s 75) (.s 76)), a 78 (q 73 77), am 79 78, b 80 (f 12 3) 79, b 81 (k 80) 79, b 82 (f 1 2) 79, b 83 (k 82) 79, b 84 (bm 81 83) 79, a 85 (ka 79 84), am 4 85] [4]
 (.ret [4]))
 (.exit 0 [3, 5]))))
 (.seq (rs [of 86 12 3, o 87 (k 86), of 88 1 2, o 89 (k 88), o 90 (bm 87 89), om 4 90] [4]
 (.ret [4]))
 (.exit 0 [3, 5]))))
 (rp (some []) [of 91 1 3, o 92 (k 91), of 93 2 3, o 94 (k 93), om 95 6, o 96 (.bin .rem (.s 94) (.s 95)), o 97 (n 92 96)] [3, 5, 97]
 (.cond (.s 97) (rs [o 4 (.mv (.c w))] [4]
 (.ret [4])) .skip))))
 (.seq (rs [of 98 2 3, o 99 (k 98), o 100 (blj 99 1)] [3, 5, 100]
 (.cond (.s 100) (rs [o 4 (.mv (.c w))] [4]
 (.ret [4])) .skip))
 (.exit 0 [3, 5])))))
 (ss [a 101 (.aadr 1 10 (.s 5) (j 2)), a 102 (k 101), a 103 (nt 102), am 104 103, d 105 (f 13 3) 104, d 106 (k 105) 104, d 107 (f 2 3) 104, d 108 (k 107) 104, d 109 (bl 106 108) 104, a 110 (ko 104 109), am 111 110, b 112 (.aadr 1 10 (.s 5) (j 8)) 111, b 113 (k 112) 111, b 114 (nt 113) 111, bb 115 114 111, d 116 (f 12 3) 115, d 117 (k 116) 115, d 118 (f 16 3) 115, d 119 (k 118) 115, d 120 (le 119) 115, d 121 (bm 117 120) 115, b 122 (ko 115 121) 111, a 123 (ka 111 122), am 4 123] [4]
 (.ret [4])))))))⟩

def xf_message_asks : XFunc := ⟨none, true, 2, [.tmp 4], (rs [o 3 (bx 1), o 4 (.mv (.c w))] [0, 3]
 (.seq (ss [a 5 (f 0 3), a 6 (k 5), a 7 (blj 6 0), am 8 7, d 9 (f 0 3) 8, d 10 (k 9) 8, d 11 (bhj 10 16) 8, a 12 (ko 8 11), am 13 12, d 14 (f 1 3) 13, d 15 (k 14) 13, d 16 (blj 15 1) 13, a 17 (ko 13 16)] [0, 3, 17]
 (.cond (.s 17) (rs [o 4 (.mv (.c w))] [4]
 (.ret [4])) .skip))
 (.seq (rs [om 18 0, o 19 (c 90 [18])] [0, 3, 19]
 (.cond (.s 19) (rs [of 20 2 3, ol 21 3 20, o 22 (.build l9 []), o 23 (.eqv false true [.i, .i, .s] (.s 21) (.s 22)), om 4 23] [4]
 (.ret [4])) .skip))
 (.seq (ss [am 24 0, a 25 (qj 24 13), am 26 25, b 27 (f 2 3) 26, b 28 (f 0 27) 26, b 29 (k 28) 26, b 30 (nj 29 3) 26, a 31 (ka 26 30), am 32 31, b 33 (f 2 3) 32, b 34 (f 0 33) 32, b 35 (k 34) 32, b 36 (nj 35 4) 32, a 37 (ka 32 36)] [3, 37]
 (.cond (.s 37) (rs [o 4 (.mv (.c w))] [4]
 (.ret [4])) .skip))
 (rs [of 38 2 3, ol 39 3 38, o 40 (c 91 [39]), o 41 (qj 40 0), om 4 41] [4]
 (.ret [4]))))))⟩

def xf_message_answers : XFunc := ⟨none, true, 1, [.tmp 2], (rs [o 1 (bx 0), o 2 (.mv (.c w))] [1]
 (ss [a 4 (f 1 1), a 5 (k 4), a 6 (bhj 5 0), am 7 6, b 8 (f 1 1) 7, b 9 (k 8) 7, b 10 (blj 9 1024) 7, a 11 (ka 7 10), am 3 11] [1, 3]
 (.seq (rs [of 12 0 1, o 13 (k 12)] [1, 3, 13]
 (.block 0 (.seq (rs [o 15 (qj 13 1), om 14 15] [1, 3, 13, 14]
 (.cond (.s 14) .skip (rs [o 16 (qj 13 2), om 14 16] [1, 3, 13, 14]
 (.cond (.s 14) .skip (.reg [o 17 (qj 13 4), om 14 17] none [1, 3, 13, 14])))))
 (.cond (.s 14) (ss [am 18 3, am 19 18, b 20 (f 2 1) 19, b 21 (k 20) 19, b 22 (.len true (.s 21)) 19, b 23 (bmj 22 64) 19, a 24 (ka 19 23), am 2 24] [2]
 (.ret [2])) (rs [o 26 (qj 13 5), om 25 26] [1, 3, 13, 25]
 (.cond (.s 25) (ss [am 27 3, am 28 27, b 29 (f 2 1) 28, b 30 (k 29) 28, b 31 (.eqv false false [.s] (.s 30) (.c x)) 28, a 32 (ka 28 31), am 2 32] [2]
 (.ret [2])) (rs [o 34 (qj 13 6), om 33 34] [1, 13, 33]
 (.cond (.s 33) (ss [a 35 (f 1 1), a 36 (k 35), a 37 (bhj 36 0), am 38 37, b 39 (f 1 1) 38, b 40 (k 39) 38, b 41 (bmj 40 1024) 38, a 42 (ka 38 41), am 43 42, b 44 (f 2 1) 43, b 45 (k 44) 43, b 46 (.eqv false false [.s] (.s 45) (.c x)) 43, a 47 (ka 43 46), am 2 47] [2]
 (.ret [2])) (.seq (rs [o 49 (qj 13 3), om 48 49] [1, 13, 48]
 (.cond (.s 48) .skip (.reg [o 50 (qj 13 7), om 48 50] none [1, 48])))
 (.cond (.s 48) (ss [a 51 (f 1 1), a 52 (k 51), a 53 (qj 52 0), am 54 53, b 55 (f 2 1) 54, b 56 (k 55) 54, b 57 (.eqv false false [.s] (.s 56) (.c x)) 54, a 58 (ka 54 57), am 2 58] [2]
 (.ret [2])) .skip))))))))))
 (rs [o 2 (.mv (.c w))] [2]
 (.ret [2])))))⟩

def xf_message_reads : XFunc := ⟨none, true, 1, [.tmp 2], (rs [o 1 (bx 0), o 2 (.mv (.c w))] [1]
 (.seq (rs [of 3 0 1, o 4 (k 3)] [1, 4]
 (.block 0 (rs [o 6 (qj 4 14), om 5 6] [1, 4, 5]
 (.cond (.s 5) (ss [a 7 (f 8 1), a 8 (f 0 7), a 9 (k 8), a 10 (qj 9 4), am 11 10, d 12 (f 8 1) 11, d 13 (f 0 12) 11, d 14 (k 13) 11, d 15 (qj 14 5) 11, a 16 (ko 11 15), am 17 16, d 18 (f 8 1) 17, d 19 (f 0 18) 17, d 20 (k 19) 17, d 21 (qj 20 6) 17, a 22 (ko 17 21), am 2 22] [2]
 (.ret [2])) (rs [o 24 (qj 4 2), om 23 24] [1, 23]
 (.cond (.s 23) (rs [of 25 11 1, o 26 (k 25), o 27 (qj 26 0), of 28 8 1, of 29 0 28, o 30 (k 29), o 31 (qj 30 7), o 32 (.eqv false false [.b] (.s 27) (.s 31)), om 2 32] [2]
 (.ret [2])) .skip))))))
 (rs [o 2 (.mv (.c v))] [2]
 (.ret [2]))))⟩

def xf_core_voters_k0 : List (Nat × Option (Nat × Nat × Bool)) := [(1, none), (2, none), (3, none), (13, some (111, 4, true)), (14, none), (15, none)]
def xf_core_voters_b0 : XCode := (rs [o 16 (bl 15 14)] [1, 2, 3, 13, 14, 15, 16]
 (.seq (.cond (.s 16) .skip (.exit 0 [1, 2, 3]))
 (.seq (.block 1 (rs [o 17 (ia 4 13 15), ol 18 4 17, o 5 (.alloc l8), p (t 4 5 18)] [1, 2, 3, 5, 13, 14, 15]
 (.reg [o 19 (.aadr 1 4 (.s 3) (j 0)), o 20 (k 19), of 21 0 5, o 22 (k 21), of 23 1 5, ol 24 2 23, o 25 (.build l6 [(0, 1, (.s 22)), (1, 2, (.s 24))]), o 26 (.bsl 122 3 true 1 l6 [(0, 3, (.s 25))]), o 27 (.app 122 3 24 true (.s 20) (.s 26)), o 28 (.aadr 1 4 (.s 3) (j 0)), p (t 1 28 27)] none [1, 2, 3, 13, 14, 15])))
 (.reg [o 29 (baj 15 1), om 15 29] none [1, 2, 3, 13, 14, 15]))))
def xf_core_voters_k1 : List (Nat × Option (Nat × Nat × Bool)) := [(1, none), (2, none), (3, none), (31, some (113, 3, true)), (32, none), (33, none)]
def xf_core_voters_b1 : XCode := (rs [o 34 (bl 33 32)] [1, 2, 3, 31, 32, 33, 34]
 (.seq (.cond (.s 34) .skip (.exit 2 [1, 2, 3]))
 (.seq (.block 3 (rs [o 35 (ia 3 31 33), ol 36 3 35, o 7 (.alloc l6), p (t 3 7 36)] [1, 2, 3, 7, 31, 32, 33]
 (.reg [o 37 (.aadr 1 4 (.s 3) (j 1)), o 38 (k 37), of 39 0 7, o 40 (k 39), of 41 1 7, ol 42 2 41, o 43 (.build l6 [(0, 1, (.s 40)), (1, 2, (.s 42))]), o 44 (.bsl 122 3 true 1 l6 [(0, 3, (.s 43))]), o 45 (.app 122 3 24 true (.s 38) (.s 44)), o 46 (.aadr 1 4 (.s 3) (j 1)), p (t 1 46 45)] none [1, 2, 3, 31, 32, 33])))
 (.reg [o 47 (baj 33 1), om 33 47] none [1, 2, 3, 31, 32, 33]))))
def xf_core_voters_k2 : List (Nat × Option (Nat × Nat × Bool)) := [(1, none), (2, none), (3, none), (49, some (115, 6, false)), (50, none), (51, none)]
def xf_core_voters_b2 : XCode := (rs [o 52 (bl 51 50)] [1, 2, 3, 49, 50, 51, 52]
 (.seq (.cond (.s 52) .skip (.exit 4 [1, 2, 3]))
 (.seq (.block 5 (rs [o 53 (ia 6 49 51), ol 54 6 53, o 9 (.alloc l2), p (t 6 9 54)] [1, 2, 3, 9, 49, 50, 51]
 (.reg [o 55 (.aadr 1 4 (.s 3) (j 2)), o 56 (k 55), of 57 0 9, o 58 (k 57), of 59 1 9, ol 60 2 59, o 61 (.build l6 [(0, 1, (.s 58)), (1, 2, (.s 60))]), o 62 (.bsl 122 3 true 1 l6 [(0, 3, (.s 61))]), o 63 (.app 122 3 24 true (.s 56) (.s 62)), o 64 (.aadr 1 4 (.s 3) (j 2)), p (t 1 64 63)] none [1, 2, 3, 49, 50, 51])))
 (.reg [o 65 (baj 51 1), om 51 65] none [1, 2, 3, 49, 50, 51]))))
def xf_core_voters_k3 : List (Nat × Option (Nat × Nat × Bool)) := [(2, none), (3, none), (67, some (117, 6, false)), (68, none), (69, none)]
def xf_core_voters_b3 : XCode := (rs [o 70 (bl 69 68)] [2, 3, 67, 68, 69, 70]
 (.seq (.cond (.s 70) .skip (.exit 6 [2, 3]))
 (.seq (.block 7 (rs [o 71 (ia 6 67 69), ol 72 6 71, o 11 (.alloc l2), p (t 6 11 72)] [2, 3, 11, 67, 68, 69]
 (.reg [o 73 (.aadr 1 4 (.s 3) (j 3)), o 74 (k 73), of 75 0 11, o 76 (k 75), of 77 1 11, ol 78 2 77, o 79 (.build l6 [(0, 1, (.s 76)), (1, 2, (.s 78))]), o 80 (.bsl 122 3 true 1 l6 [(0, 3, (.s 79))]), o 81 (.app 122 3 24 true (.s 74) (.s 80)), o 82 (.aadr 1 4 (.s 3) (j 3)), p (t 1 82 81)] none [2, 3, 67, 68, 69])))
 (.reg [o 83 (baj 69 1), om 69 83] none [2, 3, 67, 68, 69]))))
def xf_core_voters : XFunc := ⟨none, true, 1, [.cell 2 (some 4)], (rs [o 1 (bx 0), o 2 (.alloc l7)] [1, 2]
 (rs [o 3 (.alloc l7)] [1, 2, 3]
 (.seq (rs [of 12 8 1, o 13 (k 12), o 14 (le 13), o 15 (.mv (j 0))] [1, 2, 3, 13, 14, 15]
 (.block 0 (.loop xf_core_voters_k0 xf_core_voters_b0)))
 (.seq (rs [of 30 9 1, o 31 (k 30), o 32 (le 31), o 33 (.mv (j 0))] [1, 2, 3, 31, 32, 33]
 (.block 2 (.loop xf_core_voters_k1 xf_core_voters_b1)))
 (.seq (rs [of 48 10 1, o 49 (k 48), o 50 (le 49), o 51 (.mv (j 0))] [1, 2, 3, 49, 50, 51]
 (.block 4 (.loop xf_core_voters_k2 xf_core_voters_b2)))
 (.seq (rs [of 66 11 1, o 67 (k 66), o 68 (le 67), o 69 (.mv (j 0))] [2, 3, 67, 68, 69]
 (.block 6 (.loop xf_core_voters_k3 xf_core_voters_b3)))
 (rs [ol 84 4 3, p (t 4 2 84)] [2]
 (.ret [2]))))))))⟩

def xf_vector_speaks : XFunc := ⟨none, true, 1, [.tmp 2], (rs [o 1 (bx 0), o 2 (.mv (.c w))] [1]
 (ss [a 3 (f 1 1), a 4 (k 3), a 5 (c 67 [4]), am 6 5, b 7 (f 0 1) 6, b 8 (k 7) 6, b 9 (bhj 8 0) 6, a 10 (ka 6 9), am 11 10, b 12 (f 0 1) 11, b 13 (k 12) 11, b 14 (f 1 1) 11, b 15 (k 14) 11, b 16 (le 15) 11, b 17 (bl 13 16) 11, a 18 (ka 11 17), am 2 18] [2]
 (.ret [2])))⟩

def xf_vector_fits : XFunc := ⟨none, true, 1, [.tmp 2], (rs [o 2 (.mv (.c w))] [0]
 (ss [am 3 0, a 4 (le 3), a 5 (bhj 4 1), am 6 5, bb 7 0 6, b 8 (le 7) 6, b 9 (bmj 8 7) 6, a 10 (ka 6 9), am 2 10] [2]
 (.ret [2])))⟩

def xf_tally_turned_ack_Ack_k0 : List (Nat × Option (Nat × Nat × Bool)) := [(1, none), (5, some (111, 4, true)), (8, some (133, 4, true)), (9, none), (10, none)]
def xf_tally_turned_ack_Ack_b0 : XCode := (rs [o 11 (bl 10 9)] [1, 5, 8, 9, 10, 11]
 (.seq (.cond (.s 11) .skip (.exit 0 [5]))
 (.seq (.block 1 (rs [o 12 (ia 4 8 10), ol 13 4 12, o 7 (.alloc l8), p (t 4 7 13)] [1, 5, 7, 8, 9, 10]
 (.reg [om 14 5, om 15 1, ol 16 4 7, o 17 (.call (.s 15) [(.s 16)]), o 18 (.bsl 111 4 true 1 l8 [(0, 4, (.s 17))]), o 19 (.app 111 4 32 true (.s 14) (.s 18)), om 5 19] none [1, 5, 8, 9, 10])))
 (.reg [o 20 (baj 10 1), om 10 20] none [1, 5, 8, 9, 10]))))
def xf_tally_turned_ack_Ack : XFunc := ⟨none, true, 2, [.tmp 4], (rs [o 4 (.mv (.c (.nil 111 4 true)))] [0, 1]
 (rs [o 5 (.mv (.c (.nil 111 4 true)))] [0, 1, 5]
 (.seq (rs [om 8 0, o 9 (le 8), o 10 (.mv (j 0))] [1, 5, 8, 9, 10]
 (.block 0 (.loop xf_tally_turned_ack_Ack_k0 xf_tally_turned_ack_Ack_b0)))
 (rs [om 21 5, om 4 21] [4]
 (.ret [4])))))⟩

def xf_tally_turned_Ack_ack_k0 : List (Nat × Option (Nat × Nat × Bool)) := [(1, none), (5, some (133, 4, true)), (8, some (111, 4, true)), (9, none), (10, none)]
def xf_tally_turned_Ack_ack_b0 : XCode := (rs [o 11 (bl 10 9)] [1, 5, 8, 9, 10, 11]
 (.seq (.cond (.s 11) .skip (.exit 0 [5]))
 (.seq (.block 1 (rs [o 12 (ia 4 8 10), ol 13 4 12, o 7 (.alloc l8), p (t 4 7 13)] [1, 5, 7, 8, 9, 10]
 (.reg [om 14 5, om 15 1, ol 16 4 7, o 17 (.call (.s 15) [(.s 16)]), o 18 (.bsl 133 4 true 1 l8 [(0, 4, (.s 17))]), o 19 (.app 133 4 32 true (.s 14) (.s 18)), om 5 19] none [1, 5, 8, 9, 10])))
 (.reg [o 20 (baj 10 1), om 10 20] none [1, 5, 8, 9, 10]))))
def xf_tally_turned_Ack_ack : XFunc := ⟨none, true, 2, [.tmp 4], (rs [o 4 (.mv (.c (.nil 133 4 true)))] [0, 1]
 (rs [o 5 (.mv (.c (.nil 133 4 true)))] [0, 1, 5]
 (.seq (rs [om 8 0, o 9 (le 8), o 10 (.mv (j 0))] [1, 5, 8, 9, 10]
 (.block 0 (.loop xf_tally_turned_Ack_ack_k0 xf_tally_turned_Ack_ack_b0)))
 (rs [om 21 5, om 4 21] [4]
 (.ret [4])))))⟩

def xf_tally_toAck : XFunc := ⟨none, true, 1, [.cell 2 (some 4)], (rs [o 1 (bx 0), o 2 (.alloc l8)] [1, 2]
 (rs [ol 3 4 1, p (t 4 2 3)] [2]
 (.ret [2])))⟩

def xf_tally_box_ack_prune_k0 : List (Nat × Option (Nat × Nat × Bool)) := [(1, none), (5, some (133, 4, true)), (10, some (133, 4, true)), (11, none), (12, none)]
def xf_tally_box_ack_prune_b0 : XCode := (rs [o 13 (bl 12 11)] [1, 5, 10, 11, 12, 13]
 (.seq (.cond (.s 13) .skip (.exit 0 [5]))
 (.seq (.block 1 (rs [o 14 (ia 4 10 12), ol 15 4 14, o 7 (.alloc l8), p (t 4 7 15)] [1, 5, 7, 10, 11, 12]
 (rs [ol 16 4 7, o 17 (.mkifc 133 (.s 16)), o 18 (.inv [(133, 118), (142, 121), (151, 124), (160, 127)] (.s 17) []), om 8 18] [1, 5, 7, 8, 10, 11, 12]
 (sp (some [(11, 14), (11, 15)]) [am 19 8, a 20 (blj 19 0), am 21 20, d 22 (m 8) 21, d 23 (m 1) 21, d 24 (le 23) 21, d 25 (bh 22 24) 21, a 26 (ko 21 25), am 27 26, d 28 (l 4 7) 27, d 29 (.mkifc 133 (.s 28)) 27, r 30 (.inv [(133, 116), (142, 119), (151, 122), (160, 125)] (.s 29) []) 27, d 31 (m 1) 27, d 32 (m 8) 27, r 33 (ia 2 31 32) 27, r 34 (l 2 33) 27, r 35 (c 43 [30, 34]) 27, r 36 (bhj 35 0) 27, a 37 (ko 27 36)] [1, 5, 7, 10, 11, 12, 37]
 (.cond (.s 37) (.reg [om 38 5, ol 39 4 7, o 40 (.mkifc 133 (.s 39)), o 41 (.inv [(133, 117), (142, 120), (151, 123), (160, 126)] (.s 40) []), o 42 (.bsl 133 4 true 1 l8 [(0, 4, (.s 41))]), o 43 (.app 133 4 32 true (.s 38) (.s 42)), om 5 43] none [1, 5, 10, 11, 12]) .skip)))))
 (.reg [o 44 (baj 12 1), om 12 44] none [1, 5, 10, 11, 12]))))
def xf_tally_box_ack_prune : XFunc := ⟨none, true, 2, [.tmp 4], (rs [o 2 (bx 0), o 4 (.mv (.c (.nil 133 4 true)))] [1, 2]
 (rs [o 5 (.mv (.c (.nil 133 4 true)))] [1, 2, 5]
 (.seq (rs [of 9 0 2, o 10 (k 9), o 11 (le 10), o 12 (.mv (j 0))] [1, 5, 10, 11, 12]
 (.block 0 (.loop xf_tally_box_ack_prune_k0 xf_tally_box_ack_prune_b0)))
 (rs [om 45 5, om 4 45] [4]
 (.ret [4])))))⟩

def xf_tally_fromAck : XFunc := ⟨none, true, 1, [.cell 2 (some 4)], (rs [o 1 (bx 0), o 2 (.alloc l8)] [1, 2]
 (rs [ol 3 4 1, p (t 4 2 3)] [2]
 (.ret [2])))⟩

def xf_tally_turned_mark_Mark_k0 : List (Nat × Option (Nat × Nat × Bool)) := [(1, none), (5, some (113, 3, true)), (8, some (142, 3, true)), (9, none), (10, none)]
def xf_tally_turned_mark_Mark_b0 : XCode := (rs [o 11 (bl 10 9)] [1, 5, 8, 9, 10, 11]
 (.seq (.cond (.s 11) .skip (.exit 0 [5]))
 (.seq (.block 1 (rs [o 12 (ia 3 8 10), ol 13 3 12, o 7 (.alloc l6), p (t 3 7 13)] [1, 5, 7, 8, 9, 10]
 (.reg [om 14 5, om 15 1, ol 16 3 7, o 17 (.call (.s 15) [(.s 16)]), o 18 (.bsl 113 3 true 1 l6 [(0, 3, (.s 17))]), o 19 (.app 113 3 24 true (.s 14) (.s 18)), om 5 19] none [1, 5, 8, 9, 10])))
 (.reg [o 20 (baj 10 1), om 10 20] none [1, 5, 8, 9, 10]))))
def xf_tally_turned_mark_Mark : XFunc := ⟨none, true, 2, [.tmp 4], (rs [o 4 (.mv (.c (.nil 113 3 true)))] [0, 1]
 (rs [o 5 (.mv (.c (.nil 113 3 true)))] [0, 1, 5]
 (.seq (rs [om 8 0, o 9 (le 8), o 10 (.mv (j 0))] [1, 5, 8, 9, 10]
 (.block 0 (.loop xf_tally_turned_mark_Mark_k0 xf_tally_turned_mark_Mark_b0)))
 (rs [om 21 5, om 4 21] [4]
 (.ret [4])))))⟩

def xf_tally_turned_Mark_mark_k0 : List (Nat × Option (Nat × Nat × Bool)) := [(1, none), (5, some (142, 3, true)), (8, some (113, 3, true)), (9, none), (10, none)]
def xf_tally_turned_Mark_mark_b0 : XCode := (rs [o 11 (bl 10 9)] [1, 5, 8, 9, 10, 11]
 (.seq (.cond (.s 11) .skip (.exit 0 [5]))
 (.seq (.block 1 (rs [o 12 (ia 3 8 10), ol 13 3 12, o 7 (.alloc l6), p (t 3 7 13)] [1, 5, 7, 8, 9, 10]
 (.reg [om 14 5, om 15 1, ol 16 3 7, o 17 (.call (.s 15) [(.s 16)]), o 18 (.bsl 142 3 true 1 l6 [(0, 3, (.s 17))]), o 19 (.app 142 3 24 true (.s 14) (.s 18)), om 5 19] none [1, 5, 8, 9, 10])))
 (.reg [o 20 (baj 10 1), om 10 20] none [1, 5, 8, 9, 10]))))
def xf_tally_turned_Mark_mark : XFunc := ⟨none, true, 2, [.tmp 4], (rs [o 4 (.mv (.c (.nil 142 3 true)))] [0, 1]
 (rs [o 5 (.mv (.c (.nil 142 3 true)))] [0, 1, 5]
 (.seq (rs [om 8 0, o 9 (le 8), o 10 (.mv (j 0))] [1, 5, 8, 9, 10]
 (.block 0 (.loop xf_tally_turned_Mark_mark_k0 xf_tally_turned_Mark_mark_b0)))
 (rs [om 21 5, om 4 21] [4]
 (.ret [4])))))⟩

def xf_tally_toMark : XFunc := ⟨none, true, 1, [.cell 2 (some 3)], (rs [o 1 (bx 0), o 2 (.alloc l6)] [1, 2]
 (rs [ol 3 3 1, p (t 3 2 3)] [2]
 (.ret [2])))⟩

def xf_tally_box_mark_prune_k0 : List (Nat × Option (Nat × Nat × Bool)) := [(1, none), (5, some (142, 3, true)), (10, some (142, 3, true)), (11, none), (12, none)]
def xf_tally_box_mark_prune_b0 : XCode := (rs [o 13 (bl 12 11)] [1, 5, 10, 11, 12, 13]
 (.seq (.cond (.s 13) .skip (.exit 0 [5]))
 (.seq (.block 1 (rs [o 14 (ia 3 10 12), ol 15 3 14, o 7 (.alloc l6), p (t 3 7 15)] [1, 5, 7, 10, 11, 12]
 (rs [ol 16 3 7, o 17 (.mkifc 142 (.s 16)), o 18 (.inv [(133, 118), (142, 121), (151, 124), (160, 127)] (.s 17) []), om 8 18] [1, 5, 7, 8, 10, 11, 12]
 (sp (some [(11, 14), (11, 15)]) [am 19 8, a 20 (blj 19 0), am 21 20, d 22 (m 8) 21, d 23 (m 1) 21, d 24 (le 23) 21, d 25 (bh 22 24) 21, a 26 (ko 21 25), am 27 26, d 28 (l 3 7) 27, d 29 (.mkifc 142 (.s 28)) 27, r 30 (.inv [(133, 116), (142, 119), (151, 122), (160, 125)] (.s 29) []) 27, d 31 (m 1) 27, d 32 (m 8) 27, r 33 (ia 2 31 32) 27, r 34 (l 2 33) 27, r 35 (c 43 [30, 34]) 27, r 36 (bhj 35 0) 27, a 37 (ko 27 36)] [1, 5, 7, 10, 11, 12, 37]
 (.cond (.s 37) (.reg [om 38 5, ol 39 3 7, o 40 (.mkifc 142 (.s 39)), o 41 (.inv [(133, 117), (142, 120), (151, 123), (160, 126)] (.s 40) []), o 42 (.bsl 142 3 true 1 l6 [(0, 3, (.s 41))]), o 43 (.app 142 3 24 true (.s 38) (.s 42)), om 5 43] none [1, 5, 10, 11, 12]) .skip)))))
 (.reg [o 44 (baj 12 1), om 12 44] none [1, 5, 10, 11, 12]))))
def xf_tally_box_mark_prune : XFunc := ⟨none, true, 2, [.tmp 4], (rs [o 2 (bx 0), o 4 (.mv (.c (.nil 142 3 true)))] [1, 2]
 (rs [o 5 (.mv (.c (.nil 142 3 true)))] [1, 2, 5]
 (.seq (rs [of 9 0 2, o 10 (k 9), o 11 (le 10), o 12 (.mv (j 0))] [1, 5, 10, 11, 12]
 (.block 0 (.loop xf_tally_box_mark_prune_k0 xf_tally_box_mark_prune_b0)))
 (rs [om 45 5, om 4 45] [4]
 (.ret [4])))))⟩

def xf_tally_fromMark : XFunc := ⟨none, true, 1, [.cell 2 (some 3)], (rs [o 1 (bx 0), o 2 (.alloc l6)] [1, 2]
 (rs [ol 3 3 1, p (t 3 2 3)] [2]
 (.ret [2])))⟩

def xf_tally_turned_ballot_Ballot_k0 : List (Nat × Option (Nat × Nat × Bool)) := [(1, none), (5, some (115, 6, false)), (8, some (151, 6, false)), (9, none), (10, none)]
def xf_tally_turned_ballot_Ballot_b0 : XCode := (rs [o 11 (bl 10 9)] [1, 5, 8, 9, 10, 11]
 (.seq (.cond (.s 11) .skip (.exit 0 [5]))
 (.seq (.block 1 (rs [o 12 (ia 6 8 10), ol 13 6 12, o 7 (.alloc l2), p (t 6 7 13)] [1, 5, 7, 8, 9, 10]
 (.reg [om 14 5, om 15 1, ol 16 6 7, o 17 (.call (.s 15) [(.s 16)]), o 18 (.bsl 115 6 false 1 l2 [(0, 6, (.s 17))]), o 19 (.app 115 6 64 false (.s 14) (.s 18)), om 5 19] none [1, 5, 8, 9, 10])))
 (.reg [o 20 (baj 10 1), om 10 20] none [1, 5, 8, 9, 10]))))
def xf_tally_turned_ballot_Ballot : XFunc := ⟨none, true, 2, [.tmp 4], (rs [o 4 (.mv (.c (.nil 115 6 false)))] [0, 1]
 (rs [o 5 (.mv (.c (.nil 115 6 false)))] [0, 1, 5]
 (.seq (rs [om 8 0, o 9 (le 8), o 10 (.mv (j 0))] [1, 5, 8, 9, 10]
 (.block 0 (.loop xf_tally_turned_ballot_Ballot_k0 xf_tally_turned_ballot_Ballot_b0)))
 (rs [om 21 5, om 4 21] [4]
 (.ret [4])))))⟩

def xf_tally_turned_Ballot_ballot_k0 : List (Nat × Option (Nat × Nat × Bool)) := [(1, none), (5, some (151, 6, false)), (8, some (115, 6, false)), (9, none), (10, none)]
def xf_tally_turned_Ballot_ballot_b0 : XCode := (rs [o 11 (bl 10 9)] [1, 5, 8, 9, 10, 11]
 (.seq (.cond (.s 11) .skip (.exit 0 [5]))
 (.seq (.block 1 (rs [o 12 (ia 6 8 10), ol 13 6 12, o 7 (.alloc l2), p (t 6 7 13)] [1, 5, 7, 8, 9, 10]
 (.reg [om 14 5, om 15 1, ol 16 6 7, o 17 (.call (.s 15) [(.s 16)]), o 18 (.bsl 151 6 false 1 l2 [(0, 6, (.s 17))]), o 19 (.app 151 6 64 false (.s 14) (.s 18)), om 5 19] none [1, 5, 8, 9, 10])))
 (.reg [o 20 (baj 10 1), om 10 20] none [1, 5, 8, 9, 10]))))
def xf_tally_turned_Ballot_ballot : XFunc := ⟨none, true, 2, [.tmp 4], (rs [o 4 (.mv (.c (.nil 151 6 false)))] [0, 1]
 (rs [o 5 (.mv (.c (.nil 151 6 false)))] [0, 1, 5]
 (.seq (rs [om 8 0, o 9 (le 8), o 10 (.mv (j 0))] [1, 5, 8, 9, 10]
 (.block 0 (.loop xf_tally_turned_Ballot_ballot_k0 xf_tally_turned_Ballot_ballot_b0)))
 (rs [om 21 5, om 4 21] [4]
 (.ret [4])))))⟩

def xf_tally_toBallot : XFunc := ⟨none, true, 1, [.cell 2 (some 6)], (rs [o 1 (bx 0), o 2 (.alloc l2)] [1, 2]
 (rs [ol 3 6 1, p (t 6 2 3)] [2]
 (.ret [2])))⟩

def xf_tally_box_ballot_prune_k0 : List (Nat × Option (Nat × Nat × Bool)) := [(1, none), (5, some (151, 6, false)), (10, some (151, 6, false)), (11, none), (12, none)]
def xf_tally_box_ballot_prune_b0 : XCode := (rs [o 13 (bl 12 11)] [1, 5, 10, 11, 12, 13]
 (.seq (.cond (.s 13) .skip (.exit 0 [5]))
 (.seq (.block 1 (rs [o 14 (ia 6 10 12), ol 15 6 14, o 7 (.alloc l2), p (t 6 7 15)] [1, 5, 7, 10, 11, 12]
 (rs [ol 16 6 7, o 17 (.mkifc 151 (.s 16)), o 18 (.inv [(133, 118), (142, 121), (151, 124), (160, 127)] (.s 17) []), om 8 18] [1, 5, 7, 8, 10, 11, 12]
 (sp (some [(11, 14), (11, 15)]) [am 19 8, a 20 (blj 19 0), am 21 20, d 22 (m 8) 21, d 23 (m 1) 21, d 24 (le 23) 21, d 25 (bh 22 24) 21, a 26 (ko 21 25), am 27 26, d 28 (l 6 7) 27, d 29 (.mkifc 151 (.s 28)) 27, r 30 (.inv [(133, 116), (142, 119), (151, 122), (160, 125)] (.s 29) []) 27, d 31 (m 1) 27, d 32 (m 8) 27, r 33 (ia 2 31 32) 27, r 34 (l 2 33) 27, r 35 (c 43 [30, 34]) 27, r 36 (bhj 35 0) 27, a 37 (ko 27 36)] [1, 5, 7, 10, 11, 12, 37]
 (.cond (.s 37) (.reg [om 38 5, ol 39 6 7, o 40 (.mkifc 151 (.s 39)), o 41 (.inv [(133, 117), (142, 120), (151, 123), (160, 126)] (.s 40) []), o 42 (.bsl 151 6 false 1 l2 [(0, 6, (.s 41))]), o 43 (.app 151 6 64 false (.s 38) (.s 42)), om 5 43] none [1, 5, 10, 11, 12]) .skip)))))
 (.reg [o 44 (baj 12 1), om 12 44] none [1, 5, 10, 11, 12]))))
def xf_tally_box_ballot_prune : XFunc := ⟨none, true, 2, [.tmp 4], (rs [o 2 (bx 0), o 4 (.mv (.c (.nil 151 6 false)))] [1, 2]
 (rs [o 5 (.mv (.c (.nil 151 6 false)))] [1, 2, 5]
 (.seq (rs [of 9 0 2, o 10 (k 9), o 11 (le 10), o 12 (.mv (j 0))] [1, 5, 10, 11, 12]
 (.block 0 (.loop xf_tally_box_ballot_prune_k0 xf_tally_box_ballot_prune_b0)))
 (rs [om 45 5, om 4 45] [4]
 (.ret [4])))))⟩

def xf_tally_fromBallot : XFunc := ⟨none, true, 1, [.cell 2 (some 6)], (rs [o 1 (bx 0), o 2 (.alloc l2)] [1, 2]
 (rs [ol 3 6 1, p (t 6 2 3)] [2]
 (.ret [2])))⟩

def xf_tally_turned_answer_Answer_k0 : List (Nat × Option (Nat × Nat × Bool)) := [(1, none), (5, some (117, 6, false)), (8, some (160, 6, false)), (9, none), (10, none)]
def xf_tally_turned_answer_Answer_b0 : XCode := (rs [o 11 (bl 10 9)] [1, 5, 8, 9, 10, 11]
 (.seq (.cond (.s 11) .skip (.exit 0 [5]))
 (.seq (.block 1 (rs [o 12 (ia 6 8 10), ol 13 6 12, o 7 (.alloc l2), p (t 6 7 13)] [1, 5, 7, 8, 9, 10]
 (.reg [om 14 5, om 15 1, ol 16 6 7, o 17 (.call (.s 15) [(.s 16)]), o 18 (.bsl 117 6 false 1 l2 [(0, 6, (.s 17))]), o 19 (.app 117 6 64 false (.s 14) (.s 18)), om 5 19] none [1, 5, 8, 9, 10])))
 (.reg [o 20 (baj 10 1), om 10 20] none [1, 5, 8, 9, 10]))))
def xf_tally_turned_answer_Answer : XFunc := ⟨none, true, 2, [.tmp 4], (rs [o 4 (.mv (.c (.nil 117 6 false)))] [0, 1]
 (rs [o 5 (.mv (.c (.nil 117 6 false)))] [0, 1, 5]
 (.seq (rs [om 8 0, o 9 (le 8), o 10 (.mv (j 0))] [1, 5, 8, 9, 10]
 (.block 0 (.loop xf_tally_turned_answer_Answer_k0 xf_tally_turned_answer_Answer_b0)))
 (rs [om 21 5, om 4 21] [4]
 (.ret [4])))))⟩

def xf_tally_turned_Answer_answer_k0 : List (Nat × Option (Nat × Nat × Bool)) := [(1, none), (5, some (160, 6, false)), (8, some (117, 6, false)), (9, none), (10, none)]
def xf_tally_turned_Answer_answer_b0 : XCode := (rs [o 11 (bl 10 9)] [1, 5, 8, 9, 10, 11]
 (.seq (.cond (.s 11) .skip (.exit 0 [5]))
 (.seq (.block 1 (rs [o 12 (ia 6 8 10), ol 13 6 12, o 7 (.alloc l2), p (t 6 7 13)] [1, 5, 7, 8, 9, 10]
 (.reg [om 14 5, om 15 1, ol 16 6 7, o 17 (.call (.s 15) [(.s 16)]), o 18 (.bsl 160 6 false 1 l2 [(0, 6, (.s 17))]), o 19 (.app 160 6 64 false (.s 14) (.s 18)), om 5 19] none [1, 5, 8, 9, 10])))
 (.reg [o 20 (baj 10 1), om 10 20] none [1, 5, 8, 9, 10]))))
def xf_tally_turned_Answer_answer : XFunc := ⟨none, true, 2, [.tmp 4], (rs [o 4 (.mv (.c (.nil 160 6 false)))] [0, 1]
 (rs [o 5 (.mv (.c (.nil 160 6 false)))] [0, 1, 5]
 (.seq (rs [om 8 0, o 9 (le 8), o 10 (.mv (j 0))] [1, 5, 8, 9, 10]
 (.block 0 (.loop xf_tally_turned_Answer_answer_k0 xf_tally_turned_Answer_answer_b0)))
 (rs [om 21 5, om 4 21] [4]
 (.ret [4])))))⟩

def xf_tally_toAnswer : XFunc := ⟨none, true, 1, [.cell 2 (some 6)], (rs [o 1 (bx 0), o 2 (.alloc l2)] [1, 2]
 (rs [ol 3 6 1, p (t 6 2 3)] [2]
 (.ret [2])))⟩

def xf_tally_box_answer_prune_k0 : List (Nat × Option (Nat × Nat × Bool)) := [(1, none), (5, some (160, 6, false)), (10, some (160, 6, false)), (11, none), (12, none)]
def xf_tally_box_answer_prune_b0 : XCode := (rs [o 13 (bl 12 11)] [1, 5, 10, 11, 12, 13]
 (.seq (.cond (.s 13) .skip (.exit 0 [5]))
 (.seq (.block 1 (rs [o 14 (ia 6 10 12), ol 15 6 14, o 7 (.alloc l2), p (t 6 7 15)] [1, 5, 7, 10, 11, 12]
 (rs [ol 16 6 7, o 17 (.mkifc 160 (.s 16)), o 18 (.inv [(133, 118), (142, 121), (151, 124), (160, 127)] (.s 17) []), om 8 18] [1, 5, 7, 8, 10, 11, 12]
 (sp (some [(11, 14), (11, 15)]) [am 19 8, a 20 (blj 19 0), am 21 20, d 22 (m 8) 21, d 23 (m 1) 21, d 24 (le 23) 21, d 25 (bh 22 24) 21, a 26 (ko 21 25), am 27 26, d 28 (l 6 7) 27, d 29 (.mkifc 160 (.s 28)) 27, r 30 (.inv [(133, 116), (142, 119), (151, 122), (160, 125)] (.s 29) []) 27, d 31 (m 1) 27, d 32 (m 8) 27, r 33 (ia 2 31 32) 27, r 34 (l 2 33) 27, r 35 (c 43 [30, 34]) 27, r 36 (bhj 35 0) 27, a 37 (ko 27 36)] [1, 5, 7, 10, 11, 12, 37]
 (.cond (.s 37) (.reg [om 38 5, ol 39 6 7, o 40 (.mkifc 160 (.s 39)), o 41 (.inv [(133, 117), (142, 120), (151, 123), (160, 126)] (.s 40) []), o 42 (.bsl 160 6 false 1 l2 [(0, 6, (.s 41))]), o 43 (.app 160 6 64 false (.s 38) (.s 42)), om 5 43] none [1, 5, 10, 11, 12]) .skip)))))
 (.reg [o 44 (baj 12 1), om 12 44] none [1, 5, 10, 11, 12]))))
def xf_tally_box_answer_prune : XFunc := ⟨none, true, 2, [.tmp 4], (rs [o 2 (bx 0), o 4 (.mv (.c (.nil 160 6 false)))] [1, 2]
 (rs [o 5 (.mv (.c (.nil 160 6 false)))] [1, 2, 5]
 (.seq (rs [of 9 0 2, o 10 (k 9), o 11 (le 10), o 12 (.mv (j 0))] [1, 5, 10, 11, 12]
 (.block 0 (.loop xf_tally_box_answer_prune_k0 xf_tally_box_answer_prune_b0)))
 (rs [om 45 5, om 4 45] [4]
 (.ret [4])))))⟩

def xf_tally_fromAnswer : XFunc := ⟨none, true, 1, [.cell 2 (some 6)], (rs [o 1 (bx 0), o 2 (.alloc l2)] [1, 2]
 (rs [ol 3 6 1, p (t 6 2 3)] [2]
 (.ret [2])))⟩

def xf_client_check_k0 : List (Nat × Option (Nat × Nat × Bool)) := [(3, none), (12, some (55, 5, true)), (13, none), (14, none)]
def xf_client_check_b0 : XCode := (rs [o 15 (bl 14 13)] [3, 12, 13, 14, 15]
 (.seq (.cond (.s 15) .skip (.exit 0 []))
 (.seq (.block 1 (rs [o 16 (ia 5 12 14), ol 17 5 16, o 5 (.alloc [z, z, z, z, x]), p (t 5 5 17)] [3, 5, 12, 13, 14]
 (.seq (rs [of 18 0 5, o 19 (k 18), of 20 1 5, o 21 (k 20), o 22 (c 94 [19, 21]), om 6 22] [3, 5, 6, 12, 13, 14]
 (rs [om 23 6, o 24 (nj 23 0)] [3, 5, 6, 12, 13, 14, 24]
 (.cond (.s 24) (rs [om 25 6, om 2 25] [2]
 (.ret [2])) .skip)))
 (.seq (rs [of 26 2 5, ol 27 3 26, o 28 (c 91 [27]), om 7 28] [3, 5, 7, 12, 13, 14]
 (rs [om 29 7, o 30 (nj 29 0)] [3, 5, 7, 12, 13, 14, 30]
 (.cond (.s 30) (rs [om 31 7, om 2 31] [2]
 (.ret [2])) .skip)))
 (.seq (rs [of 32 1 5, o 33 (k 32), om 34 3, of 35 0 5, o 36 (k 35), o 37 (.mget false (.int .i64 0) (.s 34) (.s 36)), o 38 (bm 33 37)] [3, 5, 12, 13, 14, 38]
 (.cond (.s 38) (rs [o 2 (.mv (j 64))] [2]
 (.ret [2])) .skip))
 (.reg [om 39 3, of 40 0 5, o 41 (k 40), of 42 1 5, o 43 (k 42), p (.mput (.s 39) (.s 41) (.s 43))] none [3, 12, 13, 14]))))))
 (.reg [o 44 (baj 14 1), om 14 44] none [3, 12, 13, 14]))))
def xf_client_check : XFunc := ⟨none, true, 1, [.tmp 2], (rs [o 2 (.mv (j 0))] [0]
 (.seq (rs [om 8 0, o 9 (le 8), o 10 (bgj 9 256)] [0, 10]
 (.cond (.s 10) (rs [o 2 (.mv (j 60))] [2]
 (.ret [2])) .skip))
 (rs [o 11 .mkmap, om 3 11] [0, 3]
 (.seq (rs [om 12 0, o 13 (le 12), o 14 (.mv (j 0))] [3, 12, 13, 14]
 (.block 0 (.loop xf_client_check_k0 xf_client_check_b0)))
 (rs [o 2 (.mv (j 0))] [2]
 (.ret [2]))))))⟩

def xf_client_rows_k0 : List (Nat × Option (Nat × Nat × Bool)) := [(5, some (99, 7, true)), (6, none), (12, some (55, 5, true)), (13, none), (14, none)]
def xf_client_rows_b0 : XCode := (rs [o 15 (bl 14 13)] [5, 6, 12, 13, 14, 15]
 (.seq (.cond (.s 15) .skip (.exit 0 [5]))
 (.seq (.block 1 (rs [om 16 14, o 17 (ia 5 12 14), ol 18 5 17, o 8 (.alloc [z, z, z, z, x]), om 7 16, p (t 5 8 18)] [5, 6, 7, 8, 12, 13, 14]
 (.reg [om 19 5, of 20 0 8, o 21 (k 20), of 22 1 8, o 23 (k 22), om 24 7, o 25 (baj 24 1), om 26 6, of 27 2 8, ol 28 3 27, o 29 (c 96 [26, 28]), o 30 (.build [z, z, z, w, z, z, x] [(0, 1, (.s 21)), (1, 1, (.s 23)), (2, 1, (.s 25)), (3, 1, (.c v)), (4, 3, (.s 29))]), o 31 (.bsl 99 7 true 1 [z, z, z, w, z, z, x] [(0, 7, (.s 30))]), o 32 (.app 99 7 64 true (.s 19) (.s 31)), om 5 32] (some [(2, 10), (4, 10)]) [5, 6, 12, 13, 14])))
 (.reg [o 33 (baj 14 1), om 14 33] none [5, 6, 12, 13, 14]))))
def xf_client_rows : XFunc := ⟨none, true, 2, [.tmp 4], (rs [o 4 (.mv (.c (.nil 99 7 true)))] [0, 1]
 (rs [o 5 (.mv (.c (.nil 99 7 true)))] [0, 1, 5]
 (rs [o 9 (c 95 []), om 6 9] [0, 1, 5, 6]
 (.seq (rs [om 10 0, om 11 1, o 12 (.slice 5 (.s 10) none (some (.s 11))), o 13 (le 12), o 14 (.mv (j 0))] [5, 6, 12, 13, 14]
 (.block 0 (.loop xf_client_rows_k0 xf_client_rows_b0)))
 (rs [om 34 5, om 4 34] [4]
 (.ret [4]))))))⟩

def xf_message_short : XFunc := ⟨none, true, 1, [.tmp 2], (rs [o 2 (.mv (.c w))] [0]
 (ss [am 3 0, a 4 (qj 3 2), am 5 4, d 6 (m 0) 5, d 7 (qj 6 14) 5, a 8 (ko 5 7), am 2 8] [2]
 (.ret [2])))⟩

def xf_ledger_Check : XFunc := ⟨none, true, 1, [.tmp 2], (rs [o 1 (bx 0), o 2 (.mv (j 0))] [1]
 (.seq (rs [of 4 0 1, o 5 (k 4)] [1, 5]
 (.block 0 (.seq (rs [o 7 (qj 5 1), om 6 7] [1, 5, 6]
 (.cond (.s 6) .skip (.reg [o 8 (qj 5 3), om 6 8] none [1, 5, 6])))
 (.cond (.s 6) (ss [a 9 (f 1 1), a 10 (k 9), a 11 (blj 10 0), am 12 11, d 13 (f 1 1) 12, d 14 (k 13) 12, d 15 (bhj 14 1024) 12, a 16 (ko 12 15)] [1, 16]
 (.cond (.s 16) (rs [o 2 (.mv (j 41))] [2]
 (.ret [2])) .skip)) (.seq (rs [o 18 (qj 5 2), om 17 18] [1, 5, 17]
 (.cond (.s 17) .skip (.reg [o 19 (qj 5 4), om 17 19] none [1, 17])))
 (.cond (.s 17) (rs [of 20 1 1, o 21 (k 20), o 22 (nj 21 0)] [1, 22]
 (.cond (.s 22) (rs [o 2 (.mv (j 41))] [2]
 (.ret [2])) .skip)) (rs [o 2 (.mv (j 40))] [2]
 (.ret [2]))))))))
 (rs [o 3 (.mv (j 0))] [1, 3]
 (.seq (rs [of 23 0 1, o 24 (k 23)] [1, 3, 24]
 (.block 1 (.seq (.block 3 (.block 2 (.seq (.seq (rs [o 26 (qj 24 1), om 25 26] [1, 3, 24, 25]
 (.cond (.s 25) (.exit 2 [1]) .skip))
 (rs [o 28 (qj 24 2), om 27 28] [1, 3, 27]
 (.cond (.s 27) (.exit 3 [1]) .skip)))
 (.exit 1 [1, 3]))))
 (rs [o 3 (.mv (j 64))] [1, 3]
 (.exit 1 [1, 3])))))
 (.seq (rs [of 29 2 1, o 30 (k 29), o 31 (.len true (.s 30)), om 32 3, o 33 (bg 31 32)] [33]
 (.cond (.s 33) (rs [o 2 (.mv (j 42))] [2]
 (.ret [2])) .skip))
 (rs [o 2 (.mv (j 0))] [2]
 (.ret [2])))))))⟩

def xf_oplog_Each : XFunc := ⟨none, false, 2, [.tmp 4], (rs [o 3 (bx 1), o 4 (.mv (.c (.dat .nilf)))] [0, 3]
 (rs [om 6 0, o 7 (.call (fc 97) [(.s 6), (.c (.nil 55 5 true))]), o 5 (.alloc [(.nil 55 5 true)]), p (t 1 5 7)] [3, 5]
 (rs [o 8 (.mkfn (.func 98) [] [(.s 3), (.s 5)]), om 4 8] [4]
 (.ret [4]))))⟩

def xf_oplog_fits : XFunc := ⟨none, true, 2, [.tmp 4], (rs [o 3 (bx 1), o 4 (.mv (j 0))] [0, 3]
 (.seq (ss [a 8 (f 0 3), a 9 (k 8), a 10 (blj 9 0), am 11 10, d 12 (f 0 3) 11, d 13 (k 12) 11, d 14 (bhj 13 16) 11, a 15 (ko 11 14)] [0, 3, 15]
 (.cond (.s 15) (rs [o 4 (.mv (j 62))] [4]
 (.ret [4])) .skip))
 (.seq (rs [of 16 1 3, o 17 (k 16), o 18 (blj 17 1)] [0, 3, 18]
 (.cond (.s 18) (rs [o 4 (.mv (j 63))] [4]
 (.ret [4])) .skip))
 (.seq (rs [of 19 2 3, ol 20 3 19, o 21 (c 91 [20]), om 5 21] [0, 3, 5]
 (rs [om 22 5, o 23 (nj 22 0)] [0, 3, 5, 23]
 (.cond (.s 23) (rs [om 24 5, om 4 24] [4]
 (.ret [4])) .skip)))
 (.seq (rs [om 26 0, of 27 0 3, o 28 (k 27), o 29 (.mget true (.int .i64 0) (.s 26) (.s 28)), om 25 29, o 30 (e 25 0), o 31 (e 25 1), om 6 30, om 7 31] [3, 6, 7]
 (ss [am 32 7, am 33 32, bb 34 6 33, b 35 (f 1 3) 33, b 36 (k 35) 33, b 37 (bh 34 36) 33, a 38 (ka 33 37)] [38]
 (.cond (.s 38) (rs [o 4 (.mv (j 64))] [4]
 (.ret [4])) .skip)))
 (rs [o 4 (.mv (j 0))] [4]
 (.ret [4])))))))⟩

def xf_client_entry : XFunc := ⟨none, true, 2, [.tmp 4], (rs [o 4 (.mv (j 0))] [0, 1]
 (.seq (ss [am 5 0, a 6 (blj 5 0), am 7 6, d 8 (m 0) 7, d 9 (bhj 8 16) 7, a 10 (ko 7 9)] [1, 10]
 (.cond (.s 10) (rs [o 4 (.mv (j 62))] [4]
 (.ret [4])) .skip))
 (.seq (rs [om 11 1, o 12 (blj 11 1)] [12]
 (.cond (.s 12) (rs [o 4 (.mv (j 63))] [4]
 (.ret [4])) .skip))
 (rs [o 4 (.mv (j 0))] [4]
 (.ret [4])))))⟩

def xf_ledger_New : XFunc := ⟨none, false, 0, [.tmp 0], (rs [o 0 (.mv (.c (.dat .nilp)))] []
 (rs [o 1 .mkmap, o 2 (.build [(.dat .nilm), z] [(0, 1, (.s 1))]), o 3 (bx 2), om 0 3] [0]
 (.ret [0])))⟩

def xf_ledger_Ledger_Do : XFunc := ⟨none, false, 2, [.cell 4 (some 3)], (rs [o 3 (bx 1), o 4 (.alloc l9)] [0, 3, 4]
 (rs [om 6 0, ol 7 3 3, o 8 (c 99 [6, 7]), o 5 (.alloc l9), p (t 3 5 8)] [0, 4, 5]
 (.seq (rs [of 9 0 5, o 10 (k 9), o 11 (qj 10 1)] [0, 4, 5, 11]
 (.cond (.s 11) (.reg [om 12 0, of 13 1 5, o 14 (k 13), of 15 2 5, o 16 (k 15), o 17 (c 100 [12, 14, 16])] none [4, 5]) .skip))
 (rs [ol 18 3 5, p (t 3 4 18)] [4]
 (.ret [4])))))⟩

def xf_oplog_joined : XFunc := ⟨none, true, 2, [.tmp 4], (rs [o 4 (.mv (.c (.nil 55 5 true)))] [0, 1]
 (rs [om 6 0, o 7 (le 6), om 8 1, o 9 (le 8), o 10 (ba 7 9), o 11 (.mksl 55 5 48 true [z, z, z, z, x] (.s 10) (.s 10)), om 5 11] [0, 1, 5]
 (rs [om 12 5, om 13 0, o 14 (.cpy 5 (.s 12) (.s 13))] [0, 1, 5]
 (rs [om 15 5, om 16 0, o 17 (le 16), o 18 (.slice 5 (.s 15) (some (.s 17)) none), om 19 1, o 20 (.cpy 5 (.s 18) (.s 19))] [5]
 (rs [om 21 5, om 4 21] [4]
 (.ret [4]))))))⟩

def xf_oplog_Each_1_k0 : List (Nat × Option (Nat × Nat × Bool)) := [(0, none), (2, none), (4, none)]
def xf_oplog_Each_1_b0 : XCode := (.seq (rs [om 8 4, o 9 (k 2), o 10 (le 9), o 11 (bl 8 10)] [0, 2, 4, 11]
 (.cond (.s 11) .skip (.exit 0 [])))
 (.seq (.block 1 (rs [om 14 0, om 15 4, o 16 (baj 15 1), o 17 (k 2), om 18 4, o 19 (ia 5 17 18), ol 20 5 19, o 21 (.call (.s 14) [(.s 16), (.s 20)]), o 22 (nt 21)] [0, 2, 4, 22]
 (.cond (.s 22) (.ret []) .skip)))
 (.reg [om 12 4, o 13 (baj 12 1), om 4 13] none [0, 2, 4])))
def xf_oplog_Each_1 : XFunc := ⟨none, false, 1, [], (rs [o 5 (k 1), o 6 (.mm true (.s 5) (j 1)), o 7 (bsj 6 1), om 4 7] [0, 2, 4]
 (.block 0 (.loop xf_oplog_Each_1_k0 xf_oplog_Each_1_b0)))⟩

def xf_ledger_Ledger_Would : XFunc := ⟨none, false, 2, [.cell 4 (some 3)], (rs [o 3 (bx 1), o 4 (.alloc l9)] [0, 3, 4]
 (.seq (ss [am 7 0, a 8 (.eqn false false (.s 7)), am 9 8, d 10 (l 3 3) 9, r 11 (c 91 [10]) 9, r 12 (nj 11 0) 9, a 13 (ko 9 12)] [0, 3, 4, 13]
 (.cond (.s 13) (rs [o 14 (.build l9 []), p (t 3 4 14)] [4]
 (.ret [4])) .skip))
 (rp (some [(3, 10), (5, 10), (6, 10)]) [om 16 0, o 17 (nc 16), of 18 0 17, o 19 (k 18), of 20 1 3, o 21 (k 20), o 22 (.mget true (.agg [(.str ⟨#[]⟩)]) (.s 19) (.s 21)), om 15 22, o 23 (e 15 0), o 24 (e 15 1), o 5 (.alloc [x]), p (t 1 5 23), om 6 24] [0, 3, 4, 5, 6]
 (.seq (rs [of 25 0 3, o 26 (k 25)] [0, 3, 4, 5, 6, 26]
 (.block 0 (rs [o 28 (qj 26 1), om 27 28] [0, 3, 4, 5, 6, 26, 27]
 (.cond (.s 27) (.seq (rs [om 29 6] [3, 4, 5, 29]
 (.cond (.s 29) (rs [of 30 1 3, o 31 (k 30), of 32 0 5, o 33 (k 32), o 34 (.build l9 [(0, 1, (j 2)), (1, 1, (.s 31)), (2, 1, (.s 33))]), p (t 3 4 34)] [4]
 (.ret [4])) .skip))
 (rs [of 35 1 3, o 36 (k 35), of 37 2 3, o 38 (k 37), o 39 (.build l9 [(0, 1, (j 1)), (1, 1, (.s 36)), (2, 1, (.s 38))]), p (t 3 4 39)] [4]
 (.ret [4]))) (rs [o 41 (qj 26 2), om 40 41] [0, 3, 4, 5, 6, 26, 40]
 (.cond (.s 40) (.seq (rs [om 42 0, o 43 (nc 42), of 44 1 43, o 45 (k 44), o 46 (qj 45 1024)] [0, 3, 4, 46]
 (.cond (.s 46) (rs [o 47 (.build l9 [(0, 1, (j 3))]), p (t 3 4 47)] [4]
 (.ret [4])) .skip))
 (rp (some []) [om 48 0, o 49 (nc 48), of 50 1 49, o 51 (k 50), of 52 2 3, o 53 (k 52), o 54 (.build l9 [(0, 1, (j 1)), (1, 1, (.s 51)), (2, 1, (.s 53))]), p (t 3 4 54)] [4]
 (.ret [4]))) (rs [o 56 (qj 26 3), om 55 56] [0, 3, 4, 5, 6, 55]
 (.cond (.s 55) (.seq (rs [om 57 6] [3, 4, 5, 57]
 (.cond (.s 57) (rs [of 58 1 3, o 59 (k 58), of 60 0 5, o 61 (k 60), o 62 (.build l9 [(0, 1, (j 4)), (1, 1, (.s 59)), (2, 1, (.s 61))]), p (t 3 4 62)] [4]
 (.ret [4])) .skip))
 (rs [of 63 1 3, o 64 (k 63), o 65 (.build l9 [(0, 1, (j 5)), (1, 1, (.s 64))]), p (t 3 4 65)] [4]
 (.ret [4]))) .skip))))))))
 (rs [om 66 0, o 67 (nc 66), of 68 0 67, o 69 (k 68), o 70 (.mlen (.s 69)), o 71 (.build l9 [(0, 1, (j 6)), (1, 1, (.s 70))]), p (t 3 4 71)] [4]
 (.ret [4]))))))⟩

def xf_ledger_Ledger_put : XFunc := ⟨none, false, 3, [], (.seq (rs [om 6 0, o 7 (nc 6), of 8 0 7, o 9 (k 8), o 10 (.eqm false (.s 9))] [0, 1, 2, 10]
 (.cond (.s 10) (.reg [om 11 0, o 12 .mkmap, o 13 (nc 11), of 14 0 13, p (t 1 14 12)] none [0, 1, 2]) .skip))
 (rs [om 15 0, o 16 (nc 15), of 17 0 16, o 18 (k 17), om 19 1, om 20 2, o 21 (.build [x] [(0, 1, (.s 20))]), p (.mput (.s 18) (.s 19) (.s 21))] [0, 1]
 (.reg [om 22 0, om 23 0, o 24 (nc 23), of 25 1 24, o 26 (k 25), om 27 1, o 28 (baj 27 1), o 29 (.mm true (.s 26) (.s 28)), o 30 (nc 22), of 31 1 30, p (t 1 31 29)] none [])))⟩

def xf_tally_ack_draw : XFunc := ⟨none, true, 1, [.cell 2 (some 2)], (rs [o 1 (bx 0), o 2 (.alloc [y, y])] [1, 2]
 (rs [of 3 1 1, ol 4 2 3, p (t 2 2 4)] [2]
 (.ret [2])))⟩

def xf_tally_ack_fresh : XFunc := ⟨none, true, 1, [.cell 2 (some 4)], (rs [o 1 (bx 0), o 2 (.alloc l8)] [1, 2]
 (rs [ol 3 4 1, p (t 4 2 3)] [2]
 (.ret [2])))⟩

def xf_tally_ack_node : XFunc := ⟨none, true, 1, [.tmp 2], (rs [o 1 (bx 0), o 2 (.mv (j 0))] [1]
 (rs [of 3 0 1, o 4 (k 3), om 2 4] [2]
 (.ret [2])))⟩

def xf_tally_mark_draw : XFunc := ⟨none, true, 1, [.cell 2 (some 2)], (rs [o 1 (bx 0), o 2 (.alloc [y, y])] [1, 2]
 (rs [of 3 1 1, ol 4 2 3, p (t 2 2 4)] [2]
 (.ret [2])))⟩

def xf_tally_mark_fresh : XFunc := ⟨none, true, 1, [.cell 2 (some 3)], (rs [o 1 (bx 0), o 2 (.alloc l6)] [1, 2]
 (rs [ol 3 3 1, p (t 3 2 3)] [2]
 (.ret [2])))⟩

def xf_tally_mark_node : XFunc := ⟨none, true, 1, [.tmp 2], (rs [o 1 (bx 0), o 2 (.mv (j 0))] [1]
 (rs [of 3 0 1, o 4 (k 3), om 2 4] [2]
 (.ret [2])))⟩

def xf_tally_ballot_draw : XFunc := ⟨none, true, 1, [.cell 2 (some 2)], (rs [o 1 (bx 0), o 2 (.alloc [y, y])] [1, 2]
 (rs [of 3 1 1, ol 4 2 3, p (t 2 2 4)] [2]
 (.ret [2])))⟩

def xf_tally_ballot_fresh : XFunc := ⟨none, true, 1, [.cell 2 (some 6)], (rs [o 1 (bx 0), o 2 (.alloc l2)] [1, 2]
 (rs [of 3 5 1, o 4 (k 3), o 5 (.app 55 5 48 true (.c (.nil 55 5 true)) (.s 4)), of 6 5 1, p (t 1 6 5)] [1, 2]
 (rs [ol 7 6 1, p (t 6 2 7)] [2]
 (.ret [2]))))⟩

def xf_tally_ballot_node : XFunc := ⟨none, true, 1, [.tmp 2], (rs [o 1 (bx 0), o 2 (.mv (j 0))] [1]
 (rs [of 3 0 1, o 4 (k 3), om 2 4] [2]
 (.ret [2])))⟩

def xf_tally_answer_draw : XFunc := ⟨none, true, 1, [.cell 2 (some 2)], (rs [o 1 (bx 0), o 2 (.alloc [y, y])] [1, 2]
 (rs [of 3 1 1, ol 4 2 3, p (t 2 2 4)] [2]
 (.ret [2])))⟩

def xf_tally_answer_fresh : XFunc := ⟨none, true, 1, [.cell 2 (some 6)], (rs [o 1 (bx 0), o 2 (.alloc l2)] [1, 2]
 (rs [of 3 5 1, o 4 (k 3), o 5 (.app 55 5 48 true (.c (.nil 55 5 true)) (.s 4)), of 6 5 1, p (t 1 6 5)] [1, 2]
 (rs [ol 7 6 1, p (t 6 2 7)] [2]
 (.ret [2]))))⟩

def xf_tally_answer_node : XFunc := ⟨none, true, 1, [.tmp 2], (rs [o 1 (bx 0), o 2 (.mv (j 0))] [1]
 (rs [of 3 0 1, o 4 (k 3), om 2 4] [2]
 (.ret [2])))⟩

def xf_gosem_cut_vars : XFunc := ⟨none, true, 0, [], (.reg [o 0 (.build l3 [(6, 1, (.c v))]), o 1 (.build l3 [(0, 1, (.c v)), (1, 1, (.c v)), (3, 1, (.c v)), (6, 1, (.c v)), (7, 1, (.c v))]), o 2 (.build l3 [(0, 1, (.c v)), (1, 1, (.c v)), (3, 1, (.c v)), (4, 1, (.c v)), (6, 1, (.c v)), (9, 1, (.c v))]), o 3 (.build l3 [(0, 1, (.c v)), (1, 1, (.c v)), (3, 1, (.c v)), (9, 1, (.c v))]), o 4 (.build l3 [(0, 1, (.c v)), (1, 1, (.c v)), (4, 1, (.c v)), (9, 1, (.c v))]), o 5 (.build l3 [(0, 1, (.c v)), (1, 1, (.c v)), (9, 1, (.c v))]), o 6 (.build l3 [(0, 1, (.c v)), (1, 1, (.c v)), (2, 1, (.c v)), (4, 1, (.c v)), (8, 1, (.c v)), (9, 1, (.c v))]), o 7 (.build l3 [(0, 1, (.c v)), (1, 1, (.c v)), (4, 1, (.c v)), (8, 1, (.c v)), (9, 1, (.c v))]), o 8 (.build l3 [(0, 1, (.c v)), (5, 1, (.c v)), (9, 1, (.c v))]), o 9 (.build l3 [(0, 1, (.c v)), (1, 1, (.c v)), (4, 1, (.c v)), (5, 1, (.c v)), (8, 1, (.c v)), (9, 1, (.c v))]), o 10 (.build l3 [(0, 1, (.c v)), (1, 1, (.c v)), (9, 1, (.c v))]), o 11 (.build l3 [(0, 1, (.c v)), (1, 1, (.c v)), (4, 1, (.c v)), (8, 1, (.c v)), (9, 1, (.c v))]), o 12 (.build l3 [(3, 1, (.c v)), (6, 1, (.c v))]), o 13 (.build l3 [(0, 1, (.c v)), (1, 1, (.c v)), (4, 1, (.c v)), (6, 1, (.c v)), (7, 1, (.c v))]), o 14 (.build [w, w, w, w, w, w, w, w, w, w, w, w, w, w, w, w, w, w, w, w, w, w, w, w, w, w, w, w, w, w, w, w, w, w, w, w, w, w, w, w, w, w, w, w, w, w, w, w, w, w, w, w, w, w, w, w, w, w, w, w, w, w, w, w, w, w, w, w, w, w, w, w, w, w, w, w, w, w, w, w, w, w, w, w, w, w, w, w, w, w, w, w, w, w, w, w, w, w, w, w, w, w, w, w, w, w, w, w, w, w, w, w, w, w, w, w, w, w, w, w, w, w, w, w, w, w, w, w, w, w, w, w, w, w, w, w, w, w, w, w, w, w, w, w, w, w, w, w, w, w] [(10, 10, (.s 0)), (20, 10, (.s 1)), (30, 10, (.s 2)), (40, 10, (.s 3)), (50, 10, (.s 4)), (60, 10, (.s 5)), (70, 10, (.s 6)), (80, 10, (.s 7)), (90, 10, (.s 8)), (100, 10, (.s 9)), (110, 10, (.s 10)), (120, 10, (.s 11)), (130, 10, (.s 12)), (140, 10, (.s 13))]), p (.store 150 (.c (.dptr usesD)) (.s 14))] none [])⟩
theorem r_law09_CoreConfigs : progT Tryd.prog 3 = some xf_law09_CoreConfigs.plain := by kernel_rfl
theorem r_law09_CoreStands : progT Tryd.prog 4 = some xf_law09_CoreStands.plain := by kernel_rfl
theorem r_core_First : progT Tryd.prog 5 = some xf_core_First.plain := by kernel_rfl
theorem r_ref09_First : progT Tryd.prog 6 = some xf_ref09_First.plain := by kernel_rfl
theorem r_core_Reborn : progT Tryd.prog 7 = some xf_core_Reborn.plain := by kernel_rfl
theorem r_ref09_Reborn : progT Tryd.prog 8 = some xf_ref09_Reborn.plain := by kernel_rfl
theorem r_law09_num : progT Tryd.prog 9 = some xf_law09_num.plain := by kernel_rfl
theorem r_core_CheckConfig : progT Tryd.prog 10 = some xf_core_CheckConfig.plain := by kernel_rfl
theorem r_ref09_CheckConfig : progT Tryd.prog 11 = some xf_ref09_CheckConfig.plain := by kernel_rfl
theorem r_core_Nodes : progT Tryd.prog 12 = some xf_core_Nodes.plain := by kernel_rfl
theorem r_ref09_Nodes : progT Tryd.prog 13 = some xf_ref09_Nodes.plain := by kernel_rfl
theorem r_core_Primary : progT Tryd.prog 14 = some xf_core_Primary.plain := by kernel_rfl
theorem r_ref09_Primary : progT Tryd.prog 15 = some xf_ref09_Primary.plain := by kernel_rfl
theorem r_plain_SameState : progT Tryd.prog 16 = some xf_plain_SameState.plain := by kernel_rfl
theorem r_law09_alive : progT Tryd.prog 17 = some xf_law09_alive.plain := by kernel_rfl
theorem r_core_Check : progT Tryd.prog 18 = some xf_core_Check.plain := by kernel_rfl
theorem r_core_Admit : progT Tryd.prog 19 = some xf_core_Admit.plain := by kernel_rfl
theorem r_core_Wait : progT Tryd.prog 20 = some xf_core_Wait.plain := by kernel_rfl
theorem r_core_Carry : progT Tryd.prog 21 = some xf_core_Carry.plain := by kernel_rfl
theorem r_message_Check : progT Tryd.prog 22 = some xf_message_Check.plain := by kernel_rfl
theorem r_core_self : progT Tryd.prog 23 = some xf_core_self.plain := by kernel_rfl
theorem r_vector_New : progT Tryd.prog 24 = some xf_vector_New.plain := by kernel_rfl
theorem r_ref09_self : progT Tryd.prog 25 = some xf_ref09_self.plain := by kernel_rfl
theorem r_ref07_Config : progT Tryd.prog 26 = some xf_ref07_Config.plain := by kernel_rfl
theorem r_plain_SameEntries : progT Tryd.prog 27 = some xf_plain_SameEntries.plain := by kernel_rfl
theorem r_plain_SameVector : progT Tryd.prog 28 = some xf_plain_SameVector.plain := by kernel_rfl
theorem r_plain_sameAcks : progT Tryd.prog 29 = some xf_plain_sameAcks.plain := by kernel_rfl
theorem r_plain_sameMarks : progT Tryd.prog 30 = some xf_plain_sameMarks.plain := by kernel_rfl
theorem r_plain_SameBallots : progT Tryd.prog 31 = some xf_plain_SameBallots.plain := by kernel_rfl
theorem r_plain_SameAnswers : progT Tryd.prog 32 = some xf_plain_SameAnswers.plain := by kernel_rfl
theorem r_law09_three : progT Tryd.prog 33 = some xf_law09_three.plain := by kernel_rfl
theorem r_law09_commit : progT Tryd.prog 34 = some xf_law09_commit.plain := by kernel_rfl
theorem r_core_logged : progT Tryd.prog 35 = some xf_core_logged.plain := by kernel_rfl
theorem r_core_voted : progT Tryd.prog 36 = some xf_core_voted.plain := by kernel_rfl
theorem r_core_normal : progT Tryd.prog 37 = some xf_core_normal.plain := by kernel_rfl
theorem r_core_changing : progT Tryd.prog 38 = some xf_core_changing.plain := by kernel_rfl
theorem r_core_recovering : progT Tryd.prog 39 = some xf_core_recovering.plain := by kernel_rfl
theorem r_core_twin : progT Tryd.prog 40 = some xf_core_twin.plain := by kernel_rfl
theorem r_message_Between : progT Tryd.prog 41 = some xf_message_Between.plain := by kernel_rfl
theorem r_vector_Over : progT Tryd.prog 42 = some xf_vector_Over.plain := by kernel_rfl
theorem r_nonce_Compare : progT Tryd.prog 43 = some xf_nonce_Compare.plain := by kernel_rfl
theorem r_vector_Merge : progT Tryd.prog 44 = some xf_vector_Merge.plain := by kernel_rfl
theorem r_tally_PruneAcks : progT Tryd.prog 45 = some xf_tally_PruneAcks.plain := by kernel_rfl
theorem r_tally_PruneMarks : progT Tryd.prog 46 = some xf_tally_PruneMarks.plain := by kernel_rfl
theorem r_tally_PruneBallots : progT Tryd.prog 47 = some xf_tally_PruneBallots.plain := by kernel_rfl
theorem r_tally_PruneAnswers : progT Tryd.prog 48 = some xf_tally_PruneAnswers.plain := by kernel_rfl
theorem r_core_leads : progT Tryd.prog 49 = some xf_core_leads.plain := by kernel_rfl
theorem r_client_Between : progT Tryd.prog 50 = some xf_client_Between.plain := by kernel_rfl
theorem r_message_config : progT Tryd.prog 51 = some xf_message_config.plain := by kernel_rfl
theorem r_message_is : progT Tryd.prog 52 = some xf_message_is.plain := by kernel_rfl
theorem r_message_unused : progT Tryd.prog 53 = some xf_message_unused.plain := by kernel_rfl
theorem r_message_numbers : progT Tryd.prog 54 = some xf_message_numbers.plain := by kernel_rfl
theorem r_message_asks : progT Tryd.prog 55 = some xf_message_asks.plain := by kernel_rfl
theorem r_message_answers : progT Tryd.prog 56 = some xf_message_answers.plain := by kernel_rfl
theorem r_message_reads : progT Tryd.prog 57 = some xf_message_reads.plain := by kernel_rfl
theorem r_core_voters : progT Tryd.prog 59 = some xf_core_voters.plain := by kernel_rfl
theorem r_vector_speaks : progT Tryd.prog 66 = some xf_vector_speaks.plain := by kernel_rfl
theorem r_vector_fits : progT Tryd.prog 67 = some xf_vector_fits.plain := by kernel_rfl
theorem r_tally_turned_ack_Ack : progT Tryd.prog 68 = some xf_tally_turned_ack_Ack.plain := by kernel_rfl
theorem r_tally_turned_Ack_ack : progT Tryd.prog 69 = some xf_tally_turned_Ack_ack.plain := by kernel_rfl
theorem r_tally_toAck : progT Tryd.prog 70 = some xf_tally_toAck.plain := by kernel_rfl
theorem r_tally_box_ack_prune : progT Tryd.prog 71 = some xf_tally_box_ack_prune.plain := by kernel_rfl
theorem r_tally_fromAck : progT Tryd.prog 72 = some xf_tally_fromAck.plain := by kernel_rfl
theorem r_tally_turned_mark_Mark : progT Tryd.prog 73 = some xf_tally_turned_mark_Mark.plain := by kernel_rfl
theorem r_tally_turned_Mark_mark : progT Tryd.prog 74 = some xf_tally_turned_Mark_mark.plain := by kernel_rfl
theorem r_tally_toMark : progT Tryd.prog 75 = some xf_tally_toMark.plain := by kernel_rfl
theorem r_tally_box_mark_prune : progT Tryd.prog 76 = some xf_tally_box_mark_prune.plain := by kernel_rfl
theorem r_tally_fromMark : progT Tryd.prog 77 = some xf_tally_fromMark.plain := by kernel_rfl
theorem r_tally_turned_ballot_Ballot : progT Tryd.prog 78 = some xf_tally_turned_ballot_Ballot.plain := by kernel_rfl
theorem r_tally_turned_Ballot_ballot : progT Tryd.prog 79 = some xf_tally_turned_Ballot_ballot.plain := by kernel_rfl
theorem r_tally_toBallot : progT Tryd.prog 80 = some xf_tally_toBallot.plain := by kernel_rfl
theorem r_tally_box_ballot_prune : progT Tryd.prog 81 = some xf_tally_box_ballot_prune.plain := by kernel_rfl
theorem r_tally_fromBallot : progT Tryd.prog 82 = some xf_tally_fromBallot.plain := by kernel_rfl
theorem r_tally_turned_answer_Answer : progT Tryd.prog 83 = some xf_tally_turned_answer_Answer.plain := by kernel_rfl
theorem r_tally_turned_Answer_answer : progT Tryd.prog 84 = some xf_tally_turned_Answer_answer.plain := by kernel_rfl
theorem r_tally_toAnswer : progT Tryd.prog 85 = some xf_tally_toAnswer.plain := by kernel_rfl
theorem r_tally_box_answer_prune : progT Tryd.prog 86 = some xf_tally_box_answer_prune.plain := by kernel_rfl
theorem r_tally_fromAnswer : progT Tryd.prog 87 = some xf_tally_fromAnswer.plain := by kernel_rfl
theorem r_client_check : progT Tryd.prog 88 = some xf_client_check.plain := by kernel_rfl
theorem r_client_rows : progT Tryd.prog 89 = some xf_client_rows.plain := by kernel_rfl
theorem r_message_short : progT Tryd.prog 90 = some xf_message_short.plain := by kernel_rfl
theorem r_ledger_Check : progT Tryd.prog 91 = some xf_ledger_Check.plain := by kernel_rfl
theorem r_oplog_Each : progT Tryd.prog 92 = some xf_oplog_Each.plain := by kernel_rfl
theorem r_oplog_fits : progT Tryd.prog 93 = some xf_oplog_fits.plain := by kernel_rfl
theorem r_client_entry : progT Tryd.prog 94 = some xf_client_entry.plain := by kernel_rfl
theorem r_ledger_New : progT Tryd.prog 95 = some xf_ledger_New.plain := by kernel_rfl
theorem r_ledger_Ledger_Do : progT Tryd.prog 96 = some xf_ledger_Ledger_Do.plain := by kernel_rfl
theorem r_oplog_joined : progT Tryd.prog 97 = some xf_oplog_joined.plain := by kernel_rfl
theorem r_oplog_Each_1 : progT Tryd.prog 98 = some xf_oplog_Each_1.plain := by kernel_rfl
theorem r_ledger_Ledger_Would : progT Tryd.prog 99 = some xf_ledger_Ledger_Would.plain := by kernel_rfl
theorem r_ledger_Ledger_put : progT Tryd.prog 100 = some xf_ledger_Ledger_put.plain := by kernel_rfl
theorem r_tally_ack_draw : progT Tryd.prog 116 = some xf_tally_ack_draw.plain := by kernel_rfl
theorem r_tally_ack_fresh : progT Tryd.prog 117 = some xf_tally_ack_fresh.plain := by kernel_rfl
theorem r_tally_ack_node : progT Tryd.prog 118 = some xf_tally_ack_node.plain := by kernel_rfl
theorem r_tally_mark_draw : progT Tryd.prog 119 = some xf_tally_mark_draw.plain := by kernel_rfl
theorem r_tally_mark_fresh : progT Tryd.prog 120 = some xf_tally_mark_fresh.plain := by kernel_rfl
theorem r_tally_mark_node : progT Tryd.prog 121 = some xf_tally_mark_node.plain := by kernel_rfl
theorem r_tally_ballot_draw : progT Tryd.prog 122 = some xf_tally_ballot_draw.plain := by kernel_rfl
theorem r_tally_ballot_fresh : progT Tryd.prog 123 = some xf_tally_ballot_fresh.plain := by kernel_rfl
theorem r_tally_ballot_node : progT Tryd.prog 124 = some xf_tally_ballot_node.plain := by kernel_rfl
theorem r_tally_answer_draw : progT Tryd.prog 125 = some xf_tally_answer_draw.plain := by kernel_rfl
theorem r_tally_answer_fresh : progT Tryd.prog 126 = some xf_tally_answer_fresh.plain := by kernel_rfl
theorem r_tally_answer_node : progT Tryd.prog 127 = some xf_tally_answer_node.plain := by kernel_rfl
theorem r_gosem_cut_vars : progT Tryd.prog 133 = some xf_gosem_cut_vars.plain := by kernel_rfl

end Go.Ax
