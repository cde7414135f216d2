/-
  The functions of this seat as resolved code, and that the program resolves to them (part 1).
-/
import Derived.Test.YticchmjgonkcjaaGreatDoorXComp
import Derived.Test.YticchmjgonkcjaaGreatDoorXFn
import Derived.Test.YticchmjgonkcjaaGreatDoorXG
import Derived.Test.YticchmjgonkcjaaGreatDoorXP
import Derived.Test.YticchmjgonkcjaaGreatDoorProg
import Derived.KernelRfl
namespace Go.Ax
set_option linter.all false
open Go.Proofs P

def xf_law11_ChangeStarts : XFunc := ⟨none, false, 3, [.tmp 6], (rs [o 3 (bx 0), o 4 (bx 1), o 5 (bx 2), o 6 (.mv (.c w))] [3, 4, 5]
 (rs [o 7 (.alloc l5)] [3, 4, 5, 7]
 (rp (some [(0, 2), (2, 3), (0, 4), (0, 10), (1, 10), (2, 10), (3, 10), (4, 10), (5, 10)]) [ol 15 4 3, ol 16 12 4, o 17 (c 8 [7, 16]), ol 18 18 5, o 19 (c 9 [7, 18]), o 20 (c 7 [15, 17, 19]), om 14 20, o 21 (e 14 0), o 22 (e 14 1), o 23 (e 14 2), o 8 (.alloc l1), p (t 12 8 21), om 9 22, om 10 23] [3, 4, 5, 7, 8, 9, 10]
 (rs [ol 25 4 3, ol 26 12 4, ol 27 18 5, o 28 (c 10 [25, 26, 27]), om 24 28, o 29 (e 24 0), o 30 (e 24 1), o 31 (e 24 2), o 11 (.alloc l1), p (t 12 11 29), om 12 30, om 13 31] [7, 8, 9, 10, 11, 12, 13]
 (rs [ol 32 12 8, om 33 9, om 34 10, ol 35 12 11, om 36 12, om 37 13, o 38 (c 11 [32, 33, 34, 35, 36, 37]), om 39 38, g 40 (c 12 [7]) 39, o 41 (ka 39 40), om 42 41, g 43 (c 13 []) 42, o 44 (ka 42 43), om 6 44] [6]
 (.ret [6]))))))⟩

def xf_law11_ChangeVotes : XFunc := ⟨none, false, 3, [.tmp 6], (rs [o 3 (bx 0), o 4 (bx 1), o 5 (bx 2), o 6 (.mv (.c w))] [3, 4, 5]
 (rs [o 7 (.alloc l5)] [3, 4, 5, 7]
 (rp (some [(0, 2), (2, 3), (0, 4), (0, 10), (1, 10), (2, 10), (3, 10), (4, 10), (5, 10)]) [ol 15 4 3, ol 16 12 4, o 17 (c 8 [7, 16]), ol 18 18 5, o 19 (c 9 [7, 18]), o 20 (c 14 [15, 17, 19]), om 14 20, o 21 (e 14 0), o 22 (e 14 1), o 23 (e 14 2), o 8 (.alloc l1), p (t 12 8 21), om 9 22, om 10 23] [3, 4, 5, 7, 8, 9, 10]
 (rs [ol 25 4 3, ol 26 12 4, ol 27 18 5, o 28 (c 15 [25, 26, 27]), om 24 28, o 29 (e 24 0), o 30 (e 24 1), o 31 (e 24 2), o 11 (.alloc l1), p (t 12 11 29), om 12 30, om 13 31] [7, 8, 9, 10, 11, 12, 13]
 (rs [ol 32 12 8, om 33 9, om 34 10, ol 35 12 11, om 36 12, om 37 13, o 38 (c 11 [32, 33, 34, 35, 36, 37]), om 39 38, g 40 (c 12 [7]) 39, o 41 (ka 39 40), om 42 41, g 43 (c 13 []) 42, o 44 (ka 42 43), om 6 44] [6]
 (.ret [6]))))))⟩

def xf_law11_ChangeInstalls : XFunc := ⟨none, false, 3, [.tmp 6], (rs [o 3 (bx 0), o 4 (bx 1), o 5 (bx 2), o 6 (.mv (.c w))] [3, 4, 5]
 (rs [o 7 (.alloc l5)] [3, 4, 5, 7]
 (rp (some [(0, 2), (2, 3), (0, 4), (0, 10), (1, 10), (2, 10), (3, 10), (4, 10), (5, 10)]) [ol 15 4 3, ol 16 12 4, o 17 (c 8 [7, 16]), ol 18 18 5, o 19 (c 9 [7, 18]), o 20 (c 16 [15, 17, 19]), om 14 20, o 21 (e 14 0), o 22 (e 14 1), o 23 (e 14 2), o 8 (.alloc l1), p (t 12 8 21), om 9 22, om 10 23] [3, 4, 5, 7, 8, 9, 10]
 (rs [ol 25 4 3, ol 26 12 4, ol 27 18 5, o 28 (c 17 [25, 26, 27]), om 24 28, o 29 (e 24 0), o 30 (e 24 1), o 31 (e 24 2), o 11 (.alloc l1), p (t 12 11 29), om 12 30, om 13 31] [7, 8, 9, 10, 11, 12, 13]
 (rs [ol 32 12 8, om 33 9, om 34 10, ol 35 12 11, om 36 12, om 37 13, o 38 (c 11 [32, 33, 34, 35, 36, 37]), om 39 38, g 40 (c 12 [7]) 39, o 41 (ka 39 40), om 42 41, g 43 (c 13 []) 42, o 44 (ka 42 43), om 6 44] [6]
 (.ret [6]))))))⟩

def xf_law11_ChangeSuspects : XFunc := ⟨none, false, 2, [.tmp 4], (rs [o 2 (bx 0), o 3 (bx 1), o 4 (.mv (.c w))] [2, 3]
 (rs [o 5 (.alloc l5)] [2, 3, 5]
 (rs [ol 17 12 3, o 18 (c 8 [5, 17]), o 6 (.alloc l1), p (t 12 6 18)] [2, 3, 5, 6]
 (rs [ol 20 4 2, ol 21 12 6, o 22 (c 18 [20, 21]), om 19 22, o 23 (e 19 0), o 24 (e 19 1), o 25 (e 19 2), o 7 (.alloc l1), p (t 12 7 23), om 8 24, om 9 25] [2, 3, 5, 6, 7, 8, 9]
 (rs [ol 27 4 2, ol 28 12 3, o 29 (c 19 [27, 28]), om 26 29, o 30 (e 26 0), o 31 (e 26 1), o 32 (e 26 2), o 10 (.alloc l1), p (t 12 10 30), om 11 31, om 12 32] [2, 3, 5, 6, 7, 8, 9, 10, 11, 12]
 (rs [ol 34 4 2, ol 35 12 6, o 36 (c 20 [34, 35]), om 33 36, o 37 (e 33 0), o 38 (e 33 1), om 13 37, om 14 38] [2, 3, 5, 7, 8, 9, 10, 11, 12, 13, 14]
 (rs [ol 40 4 2, ol 41 12 3, o 42 (c 21 [40, 41]), om 39 42, o 43 (e 39 0), o 44 (e 39 1), om 15 43, om 16 44] [5, 7, 8, 9, 10, 11, 12, 13, 14, 15, 16]
 (ss [a 45 (l 12 7), am 46 8, am 47 9, a 48 (l 12 10), am 49 11, am 50 12, a 51 (c 11 [45, 46, 47, 48, 49, 50]), am 52 51, bb 53 14 52, u 54 (c 22 [53]) 52, bb 55 16 52, u 56 (q 54 55) 52, a 57 (ka 52 56), am 58 57, bb 59 13 58, bb 60 15 58, u 61 (c 23 [59, 60]) 58, a 62 (ka 58 61), am 63 62, u 64 (c 12 [5]) 63, a 65 (ka 63 64), am 66 65, u 67 (c 13 []) 66, a 68 (ka 66 67), am 4 68] [4]
 (.ret [4])))))))))⟩

def xf_change_Start : XFunc := ⟨none, true, 3, [.cell 6 (some 12), .tmp 7, .tmp 8], (rs [o 3 (bx 0), o 4 (bx 1), o 5 (bx 2), o 6 (.alloc l1), o 7 (.mv (.c (.nil 98 19 false))), o 8 (.mv (j 0))] [3, 4, 5, 6]
 (rs [ol 9 4 3, ol 10 12 4, ol 11 18 5, o 12 (.call (fc 24) [(.s 9), (.s 10), (.s 11), (j 6)]), o 13 (e 12 0), o 14 (e 12 1), o 15 (e 12 2), p (t 12 6 13), om 7 14, om 8 15] [6, 7, 8]
 (.ret [6, 7, 8])))⟩

def xf_plain_Given_State_k0 : List (Nat × Option (Nat × Nat × Bool)) := [(0, none), (3, none), (4, none), (5, none)]
def xf_plain_Given_State_b0 : XCode := (.seq (rs [om 19 5, of 20 10 3, o 21 (k 20), o 22 (le 21), o 23 (bl 19 22)] [0, 3, 4, 5, 23]
 (.cond (.s 23) .skip (.exit 0 [0, 3, 4])))
 (.seq (.block 1 (.reg [of 26 10 3, o 27 (k 26), om 28 5, om 29 0, of 30 10 3, o 31 (k 30), om 32 5, o 33 (ia 6 31 32), of 34 5 33, o 35 (k 34), o 36 (c 26 [29, 35]), o 37 (ia 6 27 28), of 38 5 37, p (t 1 38 36)] (some [(1, 10)]) [0, 3, 4, 5]))
 (.reg [om 24 5, o 25 (baj 24 1), om 5 25] none [0, 3, 4, 5])))
def xf_plain_Given_State_k1 : List (Nat × Option (Nat × Nat × Bool)) := [(0, none), (3, none), (4, none), (6, none)]
def xf_plain_Given_State_b1 : XCode := (.seq (rs [om 39 6, of 40 11 3, o 41 (k 40), o 42 (le 41), o 43 (bl 39 42)] [0, 3, 4, 6, 43]
 (.cond (.s 43) .skip (.exit 2 [0, 3, 4])))
 (.seq (.block 3 (.reg [of 46 11 3, o 47 (k 46), om 48 6, om 49 0, of 50 11 3, o 51 (k 50), om 52 6, o 53 (ia 6 51 52), of 54 5 53, o 55 (k 54), o 56 (c 26 [49, 55]), o 57 (ia 6 47 48), of 58 5 57, p (t 1 58 56)] (some [(1, 10)]) [0, 3, 4, 6]))
 (.reg [om 44 6, o 45 (baj 44 1), om 6 45] none [0, 3, 4, 6])))
def xf_plain_Given_State : XFunc := ⟨none, false, 2, [.cell 4 (some 12)], (rs [o 3 (bx 1), o 4 (.alloc l1)] [0, 3, 4]
 (rs [ol 7 12 3, o 8 (c 25 [7]), p (t 12 3 8)] [0, 3, 4]
 (rs [om 9 0, of 10 4 3, o 11 (k 10), o 12 (c 26 [9, 11]), of 13 4 3, p (t 1 13 12)] [0, 3, 4]
 (rs [om 14 0, of 15 6 3, o 16 (k 15), o 17 (c 27 [14, 16]), of 18 6 3, p (t 1 18 17)] [0, 3, 4]
 (.seq (rs [o 5 (.mv (j 0))] [0, 3, 4, 5]
 (.block 0 (.loop xf_plain_Given_State_k0 xf_plain_Given_State_b0)))
 (.seq (rs [o 6 (.mv (j 0))] [0, 3, 4, 6]
 (.block 2 (.loop xf_plain_Given_State_k1 xf_plain_Given_State_b1)))
 (rp (some [(4, 6)]) [om 59 0, om 60 0, o 61 (nc 60), of 62 8 61, o 63 (k 62), ol 64 12 3, o 65 (.bsl 33 12 false 1 l1 [(0, 12, (.s 64))]), o 66 (.app 33 12 192 false (.s 63) (.s 65)), o 67 (nc 59), of 68 8 67, p (t 1 68 66)] [0, 3, 4]
 (rp (some [(4, 6), (4, 7)]) [om 69 0, om 70 0, o 71 (nc 70), of 72 9 71, o 73 (k 72), ol 74 12 3, o 75 (c 25 [74]), o 76 (.bsl 33 12 false 1 l1 [(0, 12, (.s 75))]), o 77 (.app 33 12 192 false (.s 73) (.s 76)), o 78 (nc 69), of 79 9 78, p (t 1 79 77)] [3, 4]
 (rs [ol 80 12 3, p (t 12 4 80)] [4]
 (.ret [4]))))))))))⟩

def xf_plain_Given_Msg : XFunc := ⟨none, false, 2, [.cell 4 (some 18)], (rs [o 3 (bx 1), o 4 (.alloc l4)] [0, 3, 4]
 (rs [om 5 0, of 6 16 3, o 7 (k 6), o 8 (c 26 [5, 7]), of 9 16 3, p (t 1 9 8)] [0, 3, 4]
 (rs [om 10 0, of 11 17 3, o 12 (k 11), o 13 (c 27 [10, 12]), of 14 17 3, p (t 1 14 13)] [3, 4]
 (rs [ol 15 18 3, p (t 18 4 15)] [4]
 (.ret [4])))))⟩

def xf_ref11_Start_k0 : List (Nat × Option (Nat × Nat × Bool)) := [(3, none), (5, none), (6, none), (9, none), (12, some (98, 19, false)), (13, none), (14, some (86, 3, true)), (15, none), (16, none)]
def xf_ref11_Start_b0 : XCode := (.seq (rs [om 73 16, of 74 9 9, o 75 (k 74), o 76 (le 75), o 77 (bl 73 76)] [3, 5, 6, 9, 12, 13, 14, 15, 16, 77]
 (.cond (.s 77) .skip (.exit 0 [3, 5, 6, 9, 12, 13, 14, 15])))
 (.seq (.block 1 (.seq (rp (some []) [of 80 9 9, o 81 (k 80), om 82 16, o 83 (ia 3 81 82), of 84 0 83, o 85 (k 84), of 86 1 5, o 87 (k 86), o 88 (q 85 87)] [3, 5, 6, 9, 12, 13, 14, 15, 16, 88]
 (.cond (.s 88) (rs [ol 89 12 9, om 90 12, p (t 12 6 89), om 7 90, o 8 (.mv (j 0))] [6, 7, 8]
 (.ret [6, 7, 8])) .skip))
 (.seq (sp (some []) [a 91 (f 9 9), a 92 (k 91), am 93 16, a 94 (ia 3 92 93), a 95 (f 0 94), a 96 (k 95), a 97 (f 1 5), a 98 (k 97), a 99 (bg 96 98), am 100 99, bb 101 15 100, b 102 (nt 101) 100, a 103 (ka 100 102)] [3, 5, 6, 9, 12, 13, 14, 15, 16, 103]
 (.cond (.s 103) (rp (some []) [om 104 14, of 105 1 5, o 106 (k 105), of 107 6 9, o 108 (k 107), of 109 1 5, o 110 (k 109), o 111 (ia 2 108 110), ol 112 2 111, o 113 (.build l8 [(0, 1, (.s 106)), (1, 2, (.s 112))]), o 114 (.bsl 86 3 true 1 l8 [(0, 3, (.s 113))]), o 115 (.app 86 3 24 true (.s 104) (.s 114)), om 14 115] [3, 5, 6, 9, 12, 13, 14, 16]
 (.reg [o 15 (.mv (.c v))] none [3, 5, 6, 9, 12, 13, 14, 15, 16])) .skip))
 (.reg [om 116 14, of 117 9 9, o 118 (k 117), om 119 16, o 120 (ia 3 118 119), ol 121 3 120, o 122 (.bsl 86 3 true 1 l8 [(0, 3, (.s 121))]), o 123 (.app 86 3 24 true (.s 116) (.s 122)), om 14 123] none [3, 5, 6, 9, 12, 13, 14, 15, 16]))))
 (.reg [om 78 16, o 79 (baj 78 1), om 16 79] none [3, 5, 6, 9, 12, 13, 14, 15, 16])))
def xf_ref11_Start : XFunc := ⟨none, true, 3, [.cell 6 (some 12), .tmp 7, .tmp 8], (rs [o 3 (bx 0), o 4 (bx 1), o 5 (bx 2), o 6 (.alloc l1), o 7 (.mv (.c (.nil 98 19 false))), o 8 (.mv (j 0))] [3, 4, 5, 6]
 (rs [ol 18 4 3, ol 19 12 4, ol 20 18 5, o 21 (.call (fc 28) [(.s 18), (.s 19), (.s 20), (j 6)]), om 17 21, o 22 (e 17 0), o 23 (e 17 1), o 24 (e 17 2), o 9 (.alloc l1), p (t 12 9 22), om 10 23, om 11 24] [3, 5, 6, 9, 10, 11]
 (.seq (ss [am 25 11, a 26 (nj 25 0), am 27 26, d 28 (m 10) 27, d 29 (nt 28) 27, a 30 (ko 27 29), am 31 30, d 32 (f 1 9) 31, d 33 (k 32) 31, d 34 (qj 33 3) 31, a 35 (ko 31 34), am 36 35, d 37 (f 2 5) 36, d 38 (k 37) 36, d 39 (f 2 9) 36, d 40 (k 39) 36, d 41 (bl 38 40) 36, a 42 (ko 36 41), am 43 42, d 44 (f 2 5) 43, d 45 (k 44) 43, d 46 (f 2 9) 43, d 47 (k 46) 43, d 48 (q 45 47) 43, d 49 (m 48) 43, b 50 (f 1 9) 49, b 51 (k 50) 49, b 52 (qj 51 1) 49, d 53 (ka 49 52) 43, a 54 (ko 43 53)] [3, 5, 6, 9, 11, 54]
 (.cond (.s 54) (rs [ol 55 12 9, om 56 11, p (t 12 6 55), o 7 (.mv (.c (.nil 98 19 false))), om 8 56] [6, 7, 8]
 (.ret [6, 7, 8])) .skip))
 (rs [o 12 (.mv (.c (.nil 98 19 false)))] [3, 5, 6, 9, 12]
 (.seq (rs [of 57 2 5, o 58 (k 57), of 59 2 9, o 60 (k 59), o 61 (bg 58 60)] [3, 5, 6, 9, 12, 61]
 (.cond (.s 61) (.reg [ol 63 4 3, ol 64 12 9, of 65 2 5, o 66 (k 65), o 67 (c 29 [63, 64, 66]), om 62 67, o 68 (e 62 0), o 69 (e 62 1), p (t 12 9 68), om 12 69] none [3, 5, 6, 9, 12]) .skip))
 (rs [of 70 9 9, o 71 (k 70), o 72 (le 71), om 13 72] [3, 5, 6, 9, 12, 13]
 (rs [o 14 (.mv (.c (.nil 86 3 true)))] [3, 5, 6, 9, 12, 13, 14]
 (rs [o 15 (.mv (.c w))] [3, 5, 6, 9, 12, 13, 14, 15]
 (.seq (rs [o 16 (.mv (j 0))] [3, 5, 6, 9, 12, 13, 14, 15, 16]
 (.block 0 (.loop xf_ref11_Start_k0 xf_ref11_Start_b0)))
 (.seq (rs [om 124 15, o 125 (nt 124)] [3, 5, 6, 9, 12, 13, 14, 125]
 (.cond (.s 125) (.reg [om 126 14, of 127 1 5, o 128 (k 127), of 129 6 9, o 130 (k 129), of 131 1 5, o 132 (k 131), o 133 (ia 2 130 132), ol 134 2 133, o 135 (.build l8 [(0, 1, (.s 128)), (1, 2, (.s 134))]), o 136 (.bsl 86 3 true 1 l8 [(0, 3, (.s 135))]), o 137 (.app 86 3 24 true (.s 126) (.s 136)), om 14 137] (some []) [3, 6, 9, 12, 13, 14]) .skip))
 (rs [om 138 14, of 139 9 9, p (t 1 139 138)] [3, 6, 9, 12, 13]
 (.seq (rs [om 140 13, of 141 0 3, o 142 (k 141), o 143 (bsj 142 1), o 144 (q 140 143)] [3, 6, 9, 12, 144]
 (.cond (.s 144) (.reg [om 145 12, ol 146 4 3, ol 147 12 9, o 148 (c 30 [146, 147]), o 149 (.app 98 19 200 false (.s 145) (.s 148)), om 12 149] none [6, 9, 12]) .skip))
 (rs [ol 150 12 9, om 151 12, p (t 12 6 150), om 7 151, o 8 (.mv (j 0))] [6, 7, 8]
 (.ret [6, 7, 8]))))))))))))))⟩

def xf_law11_same : XFunc := ⟨none, false, 6, [.tmp 12], (rs [o 6 (bx 0), o 9 (bx 3), o 12 (.mv (.c w))] [1, 2, 4, 5, 6, 9]
 (ss [am 13 2, a 14 (c 22 [13]), am 15 5, a 16 (q 14 15), am 17 16, b 18 (l 12 6) 17, b 19 (l 12 9) 17, u 20 (c 31 [18, 19]) 17, a 21 (ka 17 20), am 22 21, bb 23 1 22, bb 24 4 22, u 25 (c 23 [23, 24]) 22, a 26 (ka 22 25), am 12 26] [12]
 (.ret [12])))⟩

def xf_plain_Given_Intact_k0 : List (Nat × Option (Nat × Nat × Bool)) := [(0, none), (3, none)]
def xf_plain_Given_Intact_b0 : XCode := (.seq (rs [om 8 3, om 9 0, o 10 (nc 9), of 11 0 10, o 12 (k 11), o 13 (le 12), o 14 (bl 8 13)] [0, 3, 14]
 (.cond (.s 14) .skip (.exit 0 [0])))
 (.seq (.block 1 (rp (some []) [om 17 0, o 18 (nc 17), of 19 0 18, o 20 (k 19), om 21 3, o 22 (ia 1 20 21), o 23 (k 22), om 24 0, o 25 (nc 24), of 26 1 25, o 27 (k 26), om 28 3, o 29 (ia 1 27 28), o 30 (k 29), o 31 (c 32 [23, 30]), o 32 (nt 31)] [0, 3, 32]
 (.cond (.s 32) (rs [o 2 (.mv (.c w))] [2]
 (.ret [2])) .skip)))
 (.reg [om 15 3, o 16 (baj 15 1), om 3 16] none [0, 3])))
def xf_plain_Given_Intact_k1 : List (Nat × Option (Nat × Nat × Bool)) := [(0, none), (4, none)]
def xf_plain_Given_Intact_b1 : XCode := (.seq (rs [om 33 4, om 34 0, o 35 (nc 34), of 36 8 35, o 37 (k 36), o 38 (le 37), o 39 (bl 33 38)] [0, 4, 39]
 (.cond (.s 39) .skip (.exit 2 [0])))
 (.seq (.block 3 (rp (some []) [om 42 0, o 43 (nc 42), of 44 8 43, o 45 (k 44), om 46 4, o 47 (ia 12 45 46), ol 48 12 47, om 49 0, o 50 (nc 49), of 51 9 50, o 52 (k 51), om 53 4, o 54 (ia 12 52 53), ol 55 12 54, o 56 (c 31 [48, 55]), o 57 (nt 56)] [0, 4, 57]
 (.cond (.s 57) (rs [o 2 (.mv (.c w))] [2]
 (.ret [2])) .skip)))
 (.reg [om 40 4, o 41 (baj 40 1), om 4 41] none [0, 4])))
def xf_plain_Given_Intact_k2 : List (Nat × Option (Nat × Nat × Bool)) := [(0, none), (5, none)]
def xf_plain_Given_Intact_b2 : XCode := (.seq (rs [om 58 5, om 59 0, o 60 (nc 59), of 61 6 60, o 62 (k 61), o 63 (le 62), o 64 (bl 58 63)] [0, 5, 64]
 (.cond (.s 64) .skip (.exit 4 [0])))
 (.seq (.block 5 (rp (some []) [om 67 0, o 68 (nc 67), of 69 6 68, o 70 (k 69), om 71 5, o 72 (ia 1 70 71), o 73 (k 72), om 74 0, o 75 (nc 74), of 76 7 75, o 77 (k 76), om 78 5, o 79 (ia 1 77 78), o 80 (k 79), o 81 (c 33 [73, 80]), o 82 (nt 81)] [0, 5, 82]
 (.cond (.s 82) (rs [o 2 (.mv (.c w))] [2]
 (.ret [2])) .skip)))
 (.reg [om 65 5, o 66 (baj 65 1), om 5 66] none [0, 5])))
def xf_plain_Given_Intact_k3 : List (Nat × Option (Nat × Nat × Bool)) := [(0, none), (6, none)]
def xf_plain_Given_Intact_b3 : XCode := (.seq (rs [om 83 6, om 84 0, o 85 (nc 84), of 86 2 85, o 87 (k 86), o 88 (le 87), o 89 (bl 83 88)] [0, 6, 89]
 (.cond (.s 89) .skip (.exit 6 [0])))
 (.seq (.block 7 (rp (some []) [om 92 0, o 93 (nc 92), of 94 2 93, o 95 (k 94), om 96 6, o 97 (ia 1 95 96), o 98 (k 97), om 99 0, o 100 (nc 99), of 101 3 100, o 102 (k 101), om 103 6, o 104 (ia 1 102 103), o 105 (k 104), o 106 (c 34 [98, 105]), o 107 (nt 106)] [0, 6, 107]
 (.cond (.s 107) (rs [o 2 (.mv (.c w))] [2]
 (.ret [2])) .skip)))
 (.reg [om 90 6, o 91 (baj 90 1), om 6 91] none [0, 6])))
def xf_plain_Given_Intact_k4 : List (Nat × Option (Nat × Nat × Bool)) := [(0, none), (7, none)]
def xf_plain_Given_Intact_b4 : XCode := (.seq (rs [om 108 7, om 109 0, o 110 (nc 109), of 111 4 110, o 112 (k 111), o 113 (le 112), o 114 (bl 108 113)] [0, 7, 114]
 (.cond (.s 114) .skip (.exit 8 [])))
 (.seq (.block 9 (rp (some []) [om 117 0, o 118 (nc 117), of 119 4 118, o 120 (k 119), om 121 7, o 122 (ia 1 120 121), o 123 (k 122), om 124 0, o 125 (nc 124), of 126 5 125, o 127 (k 126), om 128 7, o 129 (ia 1 127 128), o 130 (k 129), o 131 (c 35 [123, 130]), o 132 (nt 131)] [0, 7, 132]
 (.cond (.s 132) (rs [o 2 (.mv (.c w))] [2]
 (.ret [2])) .skip)))
 (.reg [om 115 7, o 116 (baj 115 1), om 7 116] none [0, 7])))
def xf_plain_Given_Intact : XFunc := ⟨none, false, 1, [.tmp 2], (rs [o 2 (.mv (.c w))] [0]
 (.seq (rs [o 3 (.mv (j 0))] [0, 3]
 (.block 0 (.loop xf_plain_Given_Intact_k0 xf_plain_Given_Intact_b0)))
 (.seq (rs [o 4 (.mv (j 0))] [0, 4]
 (.block 2 (.loop xf_plain_Given_Intact_k1 xf_plain_Given_Intact_b1)))
 (.seq (rs [o 5 (.mv (j 0))] [0, 5]
 (.block 4 (.loop xf_plain_Given_Intact_k2 xf_plain_Given_Intact_b2)))
 (.seq (rs [o 6 (.mv (j 0))] [0, 6]
 (.block 6 (.loop xf_plain_Given_Intact_k3 xf_plain_Given_Intact_b3)))
 (.seq (rs [o 7 (.mv (j 0))] [0, 7]
 (.block 8 (.loop xf_plain_Given_Intact_k4 xf_plain_Given_Intact_b4)))
 (rs [o 2 (.mv (.c v))] [2]
 (.ret [2]))))))))⟩

def xf_law11_alive : XFunc := ⟨none, false, 0, [.tmp 0], (rs [o 0 (.mv (.c w))] []
 (rs [o 11 (c 36 []), o 12 (.call (fc 37) [(j 1)]), o 13 (c 18 [11, 12]), om 10 13, o 14 (e 10 0), o 15 (e 10 1), o 16 (e 10 2), o 1 (.alloc l1), p (t 12 1 14), om 2 15, om 3 16] [1, 2, 3]
 (.seq (ss [am 17 3, a 18 (c 22 [17]), a 19 (nj 18 0), am 20 19, d 21 (f 1 1) 20, d 22 (k 21) 20, d 23 (nj 22 2) 20, a 24 (ko 20 23), am 25 24, d 26 (f 2 1) 25, d 27 (k 26) 25, d 28 (nj 27 1) 25, a 29 (ko 25 28), am 30 29, d 31 (m 2) 30, d 32 (le 31) 30, d 33 (nj 32 2) 30, a 34 (ko 30 33), am 35 34, d 36 (m 2) 35, r 37 (.iadr 19 (.s 36) (j 0)) 35, r 38 (f 0 37) 35, r 39 (k 38) 35, r 40 (nj 39 0) 35, a 41 (ko 35 40), am 42 41, d 43 (m 2) 42, r 44 (.iadr 19 (.s 43) (j 1)) 42, r 45 (f 0 44) 42, r 46 (k 45) 42, r 47 (nj 46 2) 42, a 48 (ko 42 47)] [1, 2, 48]
 (.cond (.s 48) (rs [o 0 (.mv (.c w))] [0]
 (.ret [0])) .skip))
 (rp (some [(0, 3), (1, 3), (0, 5), (1, 5), (0, 11), (1, 11), (3, 11), (5, 11), (6, 11)]) [o 50 (c 36 []), o 51 (.call (fc 37) [(j 2)]), om 52 2, o 53 (.iadr 19 (.s 52) (j 1)), of 54 1 53, ol 55 18 54, o 56 (c 7 [50, 51, 55]), om 49 56, o 57 (e 49 0), o 58 (e 49 1), o 59 (e 49 2), o 4 (.alloc l1), p (t 12 4 57), om 5 58, om 6 59] [1, 5, 6]
 (.seq (ss [am 60 6, a 61 (c 22 [60]), a 62 (nj 61 0), am 63 62, d 64 (m 5) 63, d 65 (le 64) 63, d 66 (nj 65 3) 63, a 67 (ko 63 66), am 68 67, d 69 (m 5) 68, r 70 (.iadr 19 (.s 69) (j 2)) 68, r 71 (f 0 70) 68, r 72 (k 71) 68, r 73 (nj 72 1) 68, a 74 (ko 68 73), am 75 74, d 76 (m 5) 75, r 77 (.iadr 19 (.s 76) (j 2)) 75, r 78 (f 1 77) 75, r 79 (f 0 78) 75, r 80 (k 79) 75, r 81 (nj 80 7) 75, a 82 (ko 75 81)] [1, 5, 82]
 (.cond (.s 82) (rs [o 0 (.mv (.c w))] [0]
 (.ret [0])) .skip))
 (rp (some [(0, 1), (0, 3), (0, 5), (0, 11), (1, 11), (3, 11), (5, 11), (6, 11)]) [o 84 (c 36 []), ol 85 12 1, om 86 5, o 87 (.iadr 19 (.s 86) (j 2)), of 88 1 87, ol 89 18 88, o 90 (c 14 [84, 85, 89]), om 83 90, o 91 (e 83 0), o 92 (e 83 1), o 93 (e 83 2), o 7 (.alloc l1), p (t 12 7 91), om 8 92, om 9 93] [7, 8, 9]
 (ss [am 94 9, a 95 (c 22 [94]), a 96 (qj 95 0), am 97 96, b 98 (f 1 7) 97, b 99 (k 98) 97, b 100 (qj 99 1) 97, a 101 (ka 97 100), am 102 101, bb 103 8 102, b 104 (le 103) 102, b 105 (qj 104 2) 102, a 106 (ka 102 105), am 107 106, bb 108 8 107, u 109 (.iadr 19 (.s 108) (j 0)) 107, u 110 (f 1 109) 107, u 111 (f 0 110) 107, u 112 (k 111) 107, u 113 (qj 112 8) 107, a 114 (ka 107 113), am 0 114] [0]
 (.ret [0]))))))))⟩

def xf_change_Vote : XFunc := ⟨none, true, 3, [.cell 6 (some 12), .tmp 7, .tmp 8], (rs [o 3 (bx 0), o 4 (bx 1), o 5 (bx 2), o 6 (.alloc l1), o 7 (.mv (.c (.nil 98 19 false))), o 8 (.mv (j 0))] [3, 4, 5, 6]
 (rs [ol 9 4 3, ol 10 12 4, ol 11 18 5, o 12 (.call (fc 24) [(.s 9), (.s 10), (.s 11), (j 7)]), o 13 (e 12 0), o 14 (e 12 1), o 15 (e 12 2), p (t 12 6 13), om 7 14, om 8 15] [6, 7, 8]
 (.ret [6, 7, 8])))⟩

def xf_ref11_Vote : XFunc := ⟨none, true, 3, [.cell 6 (some 12), .tmp 7, .tmp 8], (rs [o 3 (bx 0), o 4 (bx 1), o 5 (bx 2), o 6 (.alloc l1), o 7 (.mv (.c (.nil 98 19 false))), o 8 (.mv (j 0))] [3, 4, 5, 6]
 (rs [ol 16 4 3, ol 17 12 4, ol 18 18 5, o 19 (.call (fc 28) [(.s 16), (.s 17), (.s 18), (j 7)]), om 15 19, o 20 (e 15 0), o 21 (e 15 1), o 22 (e 15 2), o 9 (.alloc l1), p (t 12 9 20), om 10 21, om 11 22] [3, 5, 6, 9, 10, 11]
 (.seq (ss [am 23 11, a 24 (nj 23 0), am 25 24, d 26 (m 10) 25, d 27 (nt 26) 25, a 28 (ko 25 27), am 29 28, d 30 (f 1 9) 29, d 31 (k 30) 29, d 32 (qj 31 3) 29, a 33 (ko 29 32), am 34 33, d 35 (f 2 5) 34, d 36 (k 35) 34, d 37 (f 2 9) 34, d 38 (k 37) 34, d 39 (bl 36 38) 34, a 40 (ko 34 39), am 41 40, d 42 (f 2 5) 41, d 43 (k 42) 41, d 44 (f 2 9) 41, d 45 (k 44) 41, d 46 (q 43 45) 41, d 47 (m 46) 41, b 48 (f 1 9) 47, b 49 (k 48) 47, b 50 (qj 49 1) 47, d 51 (ka 47 50) 41, a 52 (ko 41 51)] [3, 5, 6, 9, 11, 52]
 (.cond (.s 52) (rs [ol 53 12 9, om 54 11, p (t 12 6 53), o 7 (.mv (.c (.nil 98 19 false))), om 8 54] [6, 7, 8]
 (.ret [6, 7, 8])) .skip))
 (rs [o 12 (.mv (.c (.nil 98 19 false)))] [3, 5, 6, 9, 12]
 (.seq (rs [of 55 2 5, o 56 (k 55), of 57 2 9, o 58 (k 57), o 59 (bg 56 58)] [3, 5, 6, 9, 12, 59]
 (.cond (.s 59) (.reg [ol 61 4 3, ol 62 12 9, of 63 2 5, o 64 (k 63), o 65 (c 29 [61, 62, 64]), om 60 65, o 66 (e 60 0), o 67 (e 60 1), p (t 12 9 66), om 12 67] none [3, 5, 6, 9, 12]) .skip))
 (.seq (rp (some [(3, 5)]) [ol 68 4 3, of 69 2 9, o 70 (k 69), o 71 (c 38 [68, 70]), of 72 0 9, o 73 (k 72), o 74 (n 71 73)] [3, 5, 6, 9, 12, 74]
 (.cond (.s 74) (rs [ol 75 12 9, om 76 12, p (t 12 6 75), om 7 76, o 8 (.mv (j 0))] [6, 7, 8]
 (.ret [6, 7, 8])) .skip))
 (rp (some [(1, 16), (3, 16), (5, 16), (7, 16), (8, 16), (9, 16), (11, 16), (13, 16)]) [of 77 10 9, o 78 (k 77), of 79 1 5, o 80 (k 79), of 81 6 9, o 82 (k 81), of 83 1 5, o 84 (k 83), o 85 (ia 2 82 84), ol 86 2 85, of 87 13 5, o 88 (k 87), of 89 12 5, o 90 (k 89), of 91 16 5, o 92 (k 91), o 93 (c 40 [92]), o 94 (.build l3 [(0, 1, (.s 80)), (1, 2, (.s 86)), (3, 1, (.s 88)), (4, 1, (.s 90)), (5, 1, (.s 93))]), o 95 (c 39 [78, 94]), of 96 10 9, p (t 1 96 95)] [3, 6, 9, 12]
 (.seq (rs [of 97 10 9, o 98 (k 97), o 99 (le 98), of 100 0 3, o 101 (k 100), o 102 (bl 99 101)] [3, 6, 9, 12, 102]
 (.cond (.s 102) (rs [ol 103 12 9, om 104 12, p (t 12 6 103), om 7 104, o 8 (.mv (j 0))] [6, 7, 8]
 (.ret [6, 7, 8])) .skip))
 (rs [ol 106 4 3, ol 107 12 9, o 108 (c 41 [106, 107]), om 105 108, o 109 (e 105 0), o 110 (e 105 1), o 13 (.alloc l1), p (t 12 13 109), om 14 110] [6, 12, 13, 14]
 (rp (some [(0, 3)]) [ol 111 12 13, om 112 12, om 113 14, o 114 (.app 98 19 200 false (.s 112) (.s 113)), p (t 12 6 111), om 7 114, o 8 (.mv (j 0))] [6, 7, 8]
 (.ret [6, 7, 8])))))))))))⟩

def xf_change_Install : XFunc := ⟨none, true, 3, [.cell 6 (some 12), .tmp 7, .tmp 8], (rs [o 3 (bx 0), o 4 (bx 1), o 5 (bx 2), o 6 (.alloc l1), o 7 (.mv (.c (.nil 98 19 false))), o 8 (.mv (j 0))] [3, 4, 5, 6]
 (rs [ol 9 4 3, ol 10 12 4, ol 11 18 5, o 12 (.call (fc 24) [(.s 9), (.s 10), (.s 11), (j 8)]), o 13 (e 12 0), o 14 (e 12 1), o 15 (e 12 2), p (t 12 6 13), om 7 14, om 8 15] [6, 7, 8]
 (.ret [6, 7, 8])))⟩

def xf_ref11_Install : XFunc := ⟨none, true, 3, [.cell 6 (some 12), .tmp 7, .tmp 8], (rs [o 3 (bx 0), o 4 (bx 1), o 5 (bx 2), o 6 (.alloc l1), o 7 (.mv (.c (.nil 98 19 false))), o 8 (.mv (j 0))] [3, 4, 5, 6]
 (rs [ol 15 4 3, ol 16 12 4, ol 17 18 5, o 18 (.call (fc 28) [(.s 15), (.s 16), (.s 17), (j 8)]), om 14 18, o 19 (e 14 0), o 20 (e 14 1), o 21 (e 14 2), o 9 (.alloc l1), p (t 12 9 19), om 10 20, om 11 21] [3, 5, 6, 9, 10, 11]
 (.seq (ss [am 22 11, a 23 (nj 22 0), am 24 23, d 25 (m 10) 24, d 26 (nt 25) 24, a 27 (ko 24 26), am 28 27, d 29 (f 1 9) 28, d 30 (k 29) 28, d 31 (qj 30 3) 28, a 32 (ko 28 31), am 33 32, d 34 (f 2 5) 33, d 35 (k 34) 33, d 36 (f 2 9) 33, d 37 (k 36) 33, d 38 (bl 35 37) 33, a 39 (ko 33 38), am 40 39, d 41 (f 2 5) 40, d 42 (k 41) 40, d 43 (f 2 9) 40, d 44 (k 43) 40, d 45 (q 42 44) 40, d 46 (m 45) 40, b 47 (f 1 9) 46, b 48 (k 47) 46, b 49 (qj 48 1) 46, d 50 (ka 46 49) 40, a 51 (ko 40 50)] [3, 5, 6, 9, 11, 51]
 (.cond (.s 51) (rs [ol 52 12 9, om 53 11, p (t 12 6 52), o 7 (.mv (.c (.nil 98 19 false))), om 8 53] [6, 7, 8]
 (.ret [6, 7, 8])) .skip))
 (rs [ol 54 12 9, o 55 (c 42 [54]), p (t 12 9 55)] [3, 5, 6, 9]
 (rs [of 56 1 9, p (.store 1 (.s 56) (j 1))] [3, 5, 6, 9]
 (rs [of 57 2 5, o 58 (k 57), of 59 2 9, p (t 1 59 58)] [3, 5, 6, 9]
 (rs [of 60 2 5, o 61 (k 60), of 62 3 9, p (t 1 62 61)] [3, 5, 6, 9]
 (rs [of 63 16 5, o 64 (k 63), o 65 (c 40 [64]), of 66 4 9, p (t 1 66 65)] [3, 5, 6, 9]
 (.seq (rs [of 67 12 5, o 68 (k 67), of 69 5 9, o 70 (k 69), o 71 (bg 68 70)] [3, 5, 6, 9, 71]
 (.cond (.s 71) (.reg [of 72 12 5, o 73 (k 72), of 74 5 9, p (t 1 74 73)] none [3, 5, 6, 9]) .skip))
 (.seq (rs [of 75 5 9, o 76 (k 75), of 77 4 9, o 78 (k 77), o 79 (le 78), o 80 (bg 76 79)] [3, 5, 6, 9, 80]
 (.cond (.s 80) (.reg [of 81 4 9, o 82 (k 81), o 83 (le 82), of 84 5 9, p (t 1 84 83)] none [3, 5, 6, 9]) .skip))
 (.seq (rs [of 85 4 9, o 86 (k 85), o 87 (le 86), of 88 5 9, o 89 (k 88), o 90 (q 87 89)] [3, 5, 6, 9, 90]
 (.cond (.s 90) (rs [ol 91 12 9, p (t 12 6 91), o 7 (.mv (.c (.nil 98 19 false))), o 8 (.mv (j 0))] [6, 7, 8]
 (.ret [6, 7, 8])) .skip))
 (rs [ol 93 4 3, ol 94 12 9, of 95 1 5, o 96 (k 95), of 97 2 9, o 98 (k 97), of 99 4 9, o 100 (k 99), o 101 (le 100), o 102 (.build l4 [(0, 1, (j 4)), (2, 1, (.s 98)), (11, 1, (.s 101))]), o 103 (c 43 [93, 94, 96, 102]), om 92 103, o 104 (e 92 0), o 105 (e 92 1), o 12 (.alloc l2), p (t 19 12 104), om 13 105] [6, 9, 12]
 (rp (some [(0, 2), (1, 3), (2, 3)]) [ol 106 12 9, ol 107 19 12, o 108 (.bsl 98 19 false 1 l2 [(0, 19, (.s 107))]), p (t 12 6 106), om 7 108, o 8 (.mv (j 0))] [6, 7, 8]
 (.ret [6, 7, 8]))))))))))))))⟩

def xf_change_Suspect : XFunc := ⟨none, true, 2, [.cell 4 (some 12), .tmp 5, .tmp 6], (rs [o 2 (bx 0), o 3 (bx 1), o 4 (.alloc l1), o 5 (.mv (.c (.nil 98 19 false))), o 6 (.mv (j 0))] [2, 3, 4]
 (.seq (rs [ol 12 4 2, ol 13 12 3, o 14 (c 44 [12, 13]), om 7 14] [2, 3, 4, 7]
 (rs [om 15 7, o 16 (nj 15 0)] [2, 3, 4, 7, 16]
 (.cond (.s 16) (rs [o 17 (.build l1 []), om 18 7, p (t 12 4 17), o 5 (.mv (.c (.nil 98 19 false))), om 6 18] [4, 5, 6]
 (.ret [4, 5, 6])) .skip)))
 (.seq (rp (some [(11, 13)]) [of 19 1 3, o 20 (k 19), o 21 (qj 20 3), om 22 21, h 23 (f 1 3) 22, h 24 (k 23) 22, h 25 (qj 24 1) 22, h 26 (m 25) 22, g 27 (l 4 2) 26, g 28 (f 2 3) 26, g 29 (k 28) 26, g 30 (c 45 [27, 29]) 26, g 31 (f 0 3) 26, g 32 (k 31) 26, g 33 (q 30 32) 26, h 34 (ka 26 33) 22, o 35 (ko 22 34)] [2, 3, 4, 35]
 (.cond (.s 35) (rs [o 36 (.build l1 []), p (t 12 4 36), o 5 (.mv (.c (.nil 98 19 false))), o 6 (.mv (j 90))] [4, 5, 6]
 (.ret [4, 5, 6])) .skip))
 (rs [ol 38 4 2, ol 39 12 3, o 40 (.call (fc 46) [(.s 38), (.s 39), (j 0)]), om 37 40, o 41 (e 37 0), o 42 (e 37 1), o 43 (e 37 2), o 8 (.alloc l1), p (t 12 8 41), om 9 42, om 10 43] [2, 3, 4, 8]
 (rs [ol 44 4 2, ol 45 12 8, o 46 (.build l7 [(0, 4, (.s 44)), (4, 12, (.s 45))]), o 47 (bx 46), om 11 47] [3, 4, 11]
 (.seq (rs [of 48 2 3, o 49 (k 48), o 50 (blj 49 4294967296)] [3, 4, 11, 50]
 (.cond (.s 50) (.reg [om 51 11, of 52 2 3, o 53 (k 52), o 54 (baj 53 1), o 55 (c 47 [51, 54])] none [4, 11]) .skip))
 (rp (some [(7, 8)]) [om 56 11, o 57 (nc 56), of 58 4 57, ol 59 12 58, om 60 11, o 61 (nc 60), of 62 16 61, o 63 (k 62), p (t 12 4 59), om 5 63, o 6 (.mv (j 0))] [4, 5, 6]
 (.ret [4, 5, 6]))))))))⟩

def xf_ref11_Suspect : XFunc := ⟨none, true, 2, [.cell 4 (some 12), .tmp 5, .tmp 6], (rs [o 2 (bx 0), o 3 (bx 1), o 4 (.alloc l1), o 5 (.mv (.c (.nil 98 19 false))), o 6 (.mv (j 0))] [2, 3, 4]
 (rs [ol 10 4 2, ol 11 12 3, o 12 (c 48 [10, 11]), om 7 12] [2, 3, 4, 7]
 (.seq (rp (some [(12, 16)]) [om 13 7, o 14 (qj 13 0), om 15 14, g 16 (f 1 3) 15, g 17 (k 16) 15, g 18 (qj 17 3) 15, g 19 (m 18) 15, h 20 (f 1 3) 19, h 21 (k 20) 19, h 22 (qj 21 1) 19, h 23 (m 22) 19, g 24 (f 0 3) 23, g 25 (k 24) 23, g 26 (l 4 2) 23, g 27 (f 2 3) 23, g 28 (k 27) 23, g 29 (c 38 [26, 28]) 23, g 30 (q 25 29) 23, h 31 (ka 23 30) 19, g 32 (ko 19 31) 15, o 33 (ka 15 32)] [2, 3, 4, 7, 33]
 (.cond (.s 33) (.reg [o 7 (.mv (j 90))] none [2, 3, 4, 7]) .skip))
 (.seq (rs [om 34 7, o 35 (nj 34 0)] [2, 3, 4, 7, 35]
 (.cond (.s 35) (rs [o 36 (.build l1 []), om 37 7, p (t 12 4 36), o 5 (.mv (.c (.nil 98 19 false))), om 6 37] [4, 5, 6]
 (.ret [4, 5, 6])) .skip))
 (.seq (rs [of 38 2 3, o 39 (k 38), o 40 (qj 39 4294967296)] [2, 3, 4, 40]
 (.cond (.s 40) (rs [ol 41 12 3, o 42 (c 25 [41]), p (t 12 4 42), o 5 (.mv (.c (.nil 98 19 false))), o 6 (.mv (j 0))] [4, 5, 6]
 (.ret [4, 5, 6])) .skip))
 (rs [ol 44 4 2, ol 45 12 3, of 46 2 3, o 47 (k 46), o 48 (baj 47 1), o 49 (c 29 [44, 45, 48]), om 43 49, o 50 (e 43 0), o 51 (e 43 1), o 8 (.alloc l1), p (t 12 8 50), om 9 51] [4, 8, 9]
 (rs [ol 52 12 8, om 53 9, p (t 12 4 52), om 5 53, o 6 (.mv (j 0))] [4, 5, 6]
 (.ret [4, 5, 6]))))))))⟩

def xf_change_Again : XFunc := ⟨none, true, 2, [.tmp 4, .tmp 5], (rs [o 2 (bx 0), o 3 (bx 1), o 4 (.mv (.c (.nil 98 19 false))), o 5 (.mv (j 0))] [2, 3]
 (.seq (rs [ol 8 4 2, ol 9 12 3, o 10 (c 44 [8, 9]), om 6 10] [2, 3, 6]
 (rs [om 11 6, o 12 (nj 11 0)] [2, 3, 6, 12]
 (.cond (.s 12) (rs [om 13 6, o 4 (.mv (.c (.nil 98 19 false))), om 5 13] [4, 5]
 (.ret [4, 5])) .skip)))
 (.seq (rs [of 14 1 3, o 15 (k 14), o 16 (nj 15 2)] [2, 3, 16]
 (.cond (.s 16) (rs [o 4 (.mv (.c (.nil 98 19 false))), o 5 (.mv (j 90))] [4, 5]
 (.ret [4, 5])) .skip))
 (rs [ol 17 4 2, ol 18 12 3, o 19 (.build l7 [(0, 4, (.s 17)), (4, 12, (.s 18))]), o 20 (bx 19), om 7 20] [2, 3, 7]
 (rs [om 21 7, of 22 2 3, o 23 (k 22), o 24 (.build l4 [(0, 1, (j 6)), (2, 1, (.s 23))]), o 25 (c 49 [21, 24])] [2, 3, 7]
 (.seq (rs [of 26 0 2, o 27 (k 26), of 28 9 3, o 29 (k 28), o 30 (c 50 [27, 29])] [7, 30]
 (.cond (.s 30) (.reg [om 31 7, o 32 (c 51 [31])] none [7]) .skip))
 (rs [om 33 7, o 34 (nc 33), of 35 16 34, o 36 (k 35), om 4 36, o 5 (.mv (j 0))] [4, 5]
 (.ret [4, 5]))))))))⟩

def xf_ref11_Again : XFunc := ⟨none, true, 2, [.tmp 4, .tmp 5], (rs [o 2 (bx 0), o 3 (bx 1), o 4 (.mv (.c (.nil 98 19 false))), o 5 (.mv (j 0))] [2, 3]
 (rs [ol 9 4 2, ol 10 12 3, o 11 (c 48 [9, 10]), om 6 11] [2, 3, 6]
 (.seq (ss [am 12 6, a 13 (qj 12 0), am 14 13, b 15 (f 1 3) 14, b 16 (k 15) 14, b 17 (nj 16 2) 14, a 18 (ka 14 17)] [2, 3, 6, 18]
 (.cond (.s 18) (.reg [o 6 (.mv (j 90))] none [2, 3, 6]) .skip))
 (.seq (rs [om 19 6, o 20 (nj 19 0)] [2, 3, 6, 20]
 (.cond (.s 20) (rs [om 21 6, o 4 (.mv (.c (.nil 98 19 false))), om 5 21] [4, 5]
 (.ret [4, 5])) .skip))
 (rs [ol 23 4 2, ol 24 12 3, of 25 2 3, o 26 (k 25), o 27 (.build l4 [(0, 1, (j 6)), (2, 1, (.s 26))]), o 28 (c 52 [23, 24, 27]), om 22 28, o 29 (e 22 0), o 30 (e 22 1), om 7 29, om 8 30] [2, 3, 7]
 (.seq (rs [of 31 9 3, o 32 (k 31), o 33 (le 32), of 34 0 2, o 35 (k 34), o 36 (bh 33 35)] [2, 3, 7, 36]
 (.cond (.s 36) (.reg [om 37 7, ol 38 4 2, ol 39 12 3, o 40 (c 30 [38, 39]), o 41 (.app 98 19 200 false (.s 37) (.s 40)), om 7 41] none [7]) .skip))
 (rs [om 42 7, om 4 42, o 5 (.mv (j 0))] [4, 5]
 (.ret [4, 5]))))))))⟩

def xf_law11_num : XFunc := ⟨none, false, 1, [.tmp 2], (rs [o 2 (.mv (j 0))] [0]
 (rs [om 3 0, om 2 3] [2]
 (.ret [2])))⟩

def xf_plain_SameSends_k0 : List (Nat × Option (Nat × Nat × Bool)) := [(0, none), (1, none), (5, none)]
def xf_plain_SameSends_b0 : XCode := (.seq (rs [om 11 5, om 12 0, o 13 (le 12), o 14 (bl 11 13)] [0, 1, 5, 14]
 (.cond (.s 14) .skip (.exit 0 [])))
 (.seq (.block 1 (sp (some []) [am 17 0, am 18 5, a 19 (ia 19 17 18), a 20 (f 0 19), a 21 (k 20), am 22 1, am 23 5, a 24 (ia 19 22 23), a 25 (f 0 24), a 26 (k 25), a 27 (n 21 26), am 28 27, d 29 (m 0) 28, d 30 (m 5) 28, r 31 (ia 19 29 30) 28, r 32 (f 1 31) 28, r 33 (l 18 32) 28, d 34 (m 1) 28, d 35 (m 5) 28, r 36 (ia 19 34 35) 28, r 37 (f 1 36) 28, r 38 (l 18 37) 28, r 39 (c 53 [33, 38]) 28, r 40 (nt 39) 28, a 41 (ko 28 40)] [0, 1, 5, 41]
 (.cond (.s 41) (rs [o 4 (.mv (.c w))] [4]
 (.ret [4])) .skip)))
 (.reg [om 15 5, o 16 (baj 15 1), om 5 16] none [0, 1, 5])))
def xf_plain_SameSends : XFunc := ⟨none, true, 2, [.tmp 4], (rs [o 4 (.mv (.c w))] [0, 1]
 (.seq (rs [om 6 0, o 7 (le 6), om 8 1, o 9 (le 8), o 10 (n 7 9)] [0, 1, 10]
 (.cond (.s 10) (rs [o 4 (.mv (.c w))] [4]
 (.ret [4])) .skip))
 (.seq (rs [o 5 (.mv (j 0))] [0, 1, 5]
 (.block 0 (.loop xf_plain_SameSends_k0 xf_plain_SameSends_b0)))
 (rs [o 4 (.mv (.c v))] [4]
 (.ret [4])))))⟩

def xf_change_handle : XFunc := ⟨none, true, 4, [.cell 8 (some 12), .tmp 9, .tmp 10], (rs [o 4 (bx 0), o 5 (bx 1), o 6 (bx 2), o 8 (.alloc l1), o 9 (.mv (.c (.nil 98 19 false))), o 10 (.mv (j 0))] [3, 4, 5, 6, 8]
 (rs [ol 16 4 4, ol 17 12 5, o 18 (c 44 [16, 17]), om 11 18] [3, 4, 5, 6, 8, 11]
 (.seq (ss [am 19 11, a 20 (qj 19 0), am 21 20, b 22 (f 0 6) 21, b 23 (k 22) 21, bb 24 3 21, b 25 (n 23 24) 21, a 26 (ka 21 25)] [3, 4, 5, 6, 8, 11, 26]
 (.cond (.s 26) (.reg [o 11 (.mv (j 70))] none [3, 4, 5, 6, 8, 11]) .skip))
 (.seq (rs [om 27 11, o 28 (qj 27 0)] [3, 4, 5, 6, 8, 11, 28]
 (.cond (.s 28) (.reg [ol 29 4 4, ol 30 18 6, o 31 (c 54 [29, 30]), om 11 31] none [3, 4, 5, 6, 8, 11]) .skip))
 (.seq (rs [om 32 11, o 33 (nj 32 0)] [3, 4, 5, 6, 8, 11, 33]
 (.cond (.s 33) (rs [o 34 (.build l1 []), om 35 11, p (t 12 8 34), o 9 (.mv (.c (.nil 98 19 false))), om 10 35] [8, 9, 10]
 (.ret [8, 9, 10])) .skip))
 (rs [ol 37 4 4, ol 38 12 5, ol 39 18 6, o 40 (c 55 [37, 38, 39]), om 36 40, o 41 (e 36 0), o 42 (e 36 1), o 43 (e 36 2), o 12 (.alloc l1), p (t 12 12 41), om 13 42, om 14 43] [3, 4, 6, 8, 12, 13]
 (rs [ol 44 4 4, ol 45 12 12, o 46 (.build l7 [(0, 4, (.s 44)), (4, 12, (.s 45))]), ol 47 18 6, o 48 (.build [z, z, z, w, z, z, z, z, (.nil 38 5 true), z, (.nil 43 2 true), z, (.nil 172 4 true), (.nil 86 3 true), (.nil 78 6 false), (.nil 80 6 false), (.nil 98 19 false), z, z, z, z, z, z, z, x, z, z, x, z, z, z, y, y, (.nil 38 5 true), (.nil 43 2 true)] [(0, 17, (.s 46)), (17, 18, (.s 47))]), o 49 (bx 48), om 15 49] [3, 8, 12, 13, 15]
 (.seq (ss [am 50 13, am 51 50, b 52 (f 1 12) 51, b 53 (k 52) 51, b 54 (nj 53 3) 51, a 55 (ka 51 54)] [3, 8, 15, 55]
 (.cond (.s 55) (.reg [o 56 (c 56 []), om 57 3, o 58 (bsj 57 6), o 59 (.idx none 1 3 (.s 56) (.s 58)), om 60 15, o 61 (.call (.s 59) [(.s 60)])] none [8, 15]) .skip))
 (rp (some [(9, 10)]) [om 62 15, o 63 (nc 62), of 64 0 63, of 65 4 64, ol 66 12 65, om 67 15, o 68 (nc 67), of 69 0 68, of 70 16 69, o 71 (k 70), p (t 12 8 66), om 9 71, o 10 (.mv (j 0))] [8, 9, 10]
 (.ret [8, 9, 10]))))))))))⟩

def xf_plain_CopyState_k0 : List (Nat × Option (Nat × Nat × Bool)) := [(1, none), (2, none), (3, some (78, 6, false)), (4, none)]
def xf_plain_CopyState_b0 : XCode := (.seq (rs [om 25 4, of 26 10 1, o 27 (k 26), o 28 (le 27), o 29 (bl 25 28)] [1, 2, 3, 4, 29]
 (.cond (.s 29) .skip (.exit 0 [1, 2, 3])))
 (.seq (.block 1 (rs [of 32 10 1, o 33 (k 32), om 34 4, o 35 (ia 6 33 34), ol 36 6 35, o 5 (.alloc l3), p (t 6 5 36)] [1, 2, 3, 4, 5]
 (rs [of 37 5 5, o 38 (k 37), o 39 (c 40 [38]), of 40 5 5, p (t 1 40 39)] [1, 2, 3, 4, 5]
 (.reg [om 41 3, ol 42 6 5, o 43 (.bsl 78 6 false 1 l3 [(0, 6, (.s 42))]), o 44 (.app 78 6 64 false (.s 41) (.s 43)), om 3 44] none [1, 2, 3, 4]))))
 (.reg [om 30 4, o 31 (baj 30 1), om 4 31] none [1, 2, 3, 4])))
def xf_plain_CopyState_k1 : List (Nat × Option (Nat × Nat × Bool)) := [(1, none), (2, none), (6, some (80, 6, false)), (7, none)]
def xf_plain_CopyState_b1 : XCode := (.seq (rs [om 47 7, of 48 11 1, o 49 (k 48), o 50 (le 49), o 51 (bl 47 50)] [1, 2, 6, 7, 51]
 (.cond (.s 51) .skip (.exit 2 [1, 2, 6])))
 (.seq (.block 3 (rs [of 54 11 1, o 55 (k 54), om 56 7, o 57 (ia 6 55 56), ol 58 6 57, o 8 (.alloc l3), p (t 6 8 58)] [1, 2, 6, 7, 8]
 (rs [of 59 5 8, o 60 (k 59), o 61 (c 40 [60]), of 62 5 8, p (t 1 62 61)] [1, 2, 6, 7, 8]
 (.reg [om 63 6, ol 64 6 8, o 65 (.bsl 80 6 false 1 l3 [(0, 6, (.s 64))]), o 66 (.app 80 6 64 false (.s 63) (.s 65)), om 6 66] none [1, 2, 6, 7]))))
 (.reg [om 52 7, o 53 (baj 52 1), om 7 53] none [1, 2, 6, 7])))
def xf_plain_CopyState : XFunc := ⟨none, false, 1, [.cell 2 (some 12)], (rs [o 1 (bx 0), o 2 (.alloc l1)] [1, 2]
 (rs [of 9 4 1, o 10 (k 9), o 11 (c 40 [10]), of 12 4 1, p (t 1 12 11)] [1, 2]
 (rs [of 13 6 1, o 14 (k 13), o 15 (c 57 [14]), of 16 6 1, p (t 1 16 15)] [1, 2]
 (rs [of 17 8 1, o 18 (k 17), o 19 (.app 172 4 32 true (.c (.nil 172 4 true)) (.s 18)), of 20 8 1, p (t 1 20 19)] [1, 2]
 (rs [of 21 9 1, o 22 (k 21), o 23 (.app 86 3 24 true (.c (.nil 86 3 true)) (.s 22)), of 24 9 1, p (t 1 24 23)] [1, 2]
 (rs [o 3 (.mv (.c (.nil 78 6 false)))] [1, 2, 3]
 (.seq (rs [o 4 (.mv (j 0))] [1, 2, 3, 4]
 (.block 0 (.loop xf_plain_CopyState_k0 xf_plain_CopyState_b0)))
 (rs [om 45 3, of 46 10 1, p (t 1 46 45)] [1, 2]
 (rs [o 6 (.mv (.c (.nil 80 6 false)))] [1, 2, 6]
 (.seq (rs [o 7 (.mv (j 0))] [1, 2, 6, 7]
 (.block 2 (.loop xf_plain_CopyState_k1 xf_plain_CopyState_b1)))
 (rs [om 67 6, of 68 11 1, p (t 1 68 67)] [1, 2]
 (rs [ol 69 12 1, p (t 12 2 69)] [2]
 (.ret [2])))))))))))))⟩

def xf_plain_Given_Entries : XFunc := ⟨none, false, 2, [.tmp 4], (rs [o 4 (.mv (.c (.nil 38 5 true)))] [0, 1]
 (rs [om 6 1, o 7 (c 40 [6]), o 8 (.build l13 [(0, 1, (j (-77))), (1, 1, (j (-88)))]), o 9 (.bsl 38 5 true 1 l13 [(0, 5, (.s 8))]), o 10 (.app 38 5 48 true (.s 7) (.s 9)), om 5 10] [0, 1, 5]
 (rs [om 11 0, om 12 0, o 13 (nc 12), of 14 4 13, o 15 (k 14), om 16 5, o 17 (.bsl 25 1 false 1 [(.nil 38 5 true)] [(0, 1, (.s 16))]), o 18 (.app 25 1 24 false (.s 15) (.s 17)), o 19 (nc 11), of 20 4 19, p (t 1 20 18)] [0, 1, 5]
 (rp (some [(4, 6), (4, 7)]) [om 21 0, om 22 0, o 23 (nc 22), of 24 5 23, o 25 (k 24), om 26 5, o 27 (c 40 [26]), o 28 (.bsl 25 1 false 1 [(.nil 38 5 true)] [(0, 1, (.s 27))]), o 29 (.app 25 1 24 false (.s 25) (.s 28)), o 30 (nc 21), of 31 5 30, p (t 1 31 29)] [1, 5]
 (rs [om 32 5, om 33 1, o 34 (le 33), o 35 (.slice 5 (.s 32) none (some (.s 34))), om 4 35] [4]
 (.ret [4]))))))⟩

def xf_plain_Given_Vector : XFunc := ⟨none, false, 2, [.tmp 4], (rs [o 4 (.mv (.c (.nil 43 2 true)))] [0, 1]
 (rs [om 6 1, o 7 (c 57 [6]), o 8 (.build [y, y] [(0, 1, (.c (.dat (.int .u64 77)))), (1, 1, (.c (.dat (.int .u64 88))))]), o 9 (.bsl 43 2 true 1 [y, y] [(0, 2, (.s 8))]), o 10 (.app 43 2 16 true (.s 7) (.s 9)), om 5 10] [0, 1, 5]
 (rs [om 11 0, om 12 0, o 13 (nc 12), of 14 2 13, o 15 (k 14), om 16 5, o 17 (.bsl 27 1 false 1 [(.nil 43 2 true)] [(0, 1, (.s 16))]), o 18 (.app 27 1 24 false (.s 15) (.s 17)), o 19 (nc 11), of 20 2 19, p (t 1 20 18)] [0, 1, 5]
 (rp (some [(4, 6), (4, 7)]) [om 21 0, om 22 0, o 23 (nc 22), of 24 3 23, o 25 (k 24), om 26 5, o 27 (c 57 [26]), o 28 (.bsl 27 1 false 1 [(.nil 43 2 true)] [(0, 1, (.s 27))]), o 29 (.app 27 1 24 false (.s 25) (.s 28)), o 30 (nc 21), of 31 3 30, p (t 1 31 29)] [1, 5]
 (rs [om 32 5, om 33 1, o 34 (le 33), o 35 (.slice 2 (.s 32) none (some (.s 34))), om 4 35] [4]
 (.ret [4]))))))⟩

def xf_ref11_admitted : XFunc := ⟨none, true, 4, [.cell 8 (some 12), .tmp 9, .tmp 10], (rs [o 4 (bx 0), o 5 (bx 1), o 6 (bx 2), o 8 (.alloc l1), o 9 (.mv (.c w)), o 10 (.mv (j 0))] [3, 4, 5, 6, 8]
 (rs [ol 12 4 4, ol 13 12 5, o 14 (c 48 [12, 13]), om 11 14] [3, 4, 5, 6, 8, 11]
 (.seq (ss [am 15 11, a 16 (qj 15 0), am 17 16, b 18 (f 0 6) 17, b 19 (k 18) 17, bb 20 3 17, b 21 (n 19 20) 17, a 22 (ka 17 21)] [4, 5, 6, 8, 11, 22]
 (.cond (.s 22) (.reg [o 11 (.mv (j 70))] none [4, 5, 6, 8, 11]) .skip))
 (.seq (rs [om 23 11, o 24 (qj 23 0)] [4, 5, 6, 8, 11, 24]
 (.cond (.s 24) (.reg [ol 25 4 4, ol 26 18 6, o 27 (c 58 [25, 26]), om 11 27] none [4, 5, 6, 8, 11]) .skip))
 (.seq (rs [om 28 11, o 29 (nj 28 0)] [4, 5, 6, 8, 11, 29]
 (.cond (.s 29) (rs [o 30 (.build l1 []), om 31 11, p (t 12 8 30), o 9 (.mv (.c w)), om 10 31] [8, 9, 10]
 (.ret [8, 9, 10])) .skip))
 (rs [ol 32 4 4, ol 33 12 5, ol 34 18 6, o 35 (c 59 [32, 33, 34]), o 36 (e 35 0), o 37 (e 35 1), o 38 (e 35 2), p (t 12 8 36), om 9 37, om 10 38] [8, 9, 10]
 (.ret [8, 9, 10])))))))⟩

def xf_ref11_goTo : XFunc := ⟨none, false, 3, [.cell 6 (some 12), .tmp 7], (rs [o 3 (bx 0), o 4 (bx 1), o 6 (.alloc l1), o 7 (.mv (.c (.nil 98 19 false)))] [2, 3, 4, 6]
 (rs [ol 11 12 4, o 12 (c 42 [11]), o 8 (.alloc l1), p (t 12 8 12)] [2, 3, 6, 8]
 (rs [of 13 1 8, p (.store 1 (.s 13) (j 2))] [2, 3, 6, 8]
 (rs [om 14 2, of 15 2 8, p (t 1 15 14)] [2, 3, 6, 8]
 (rs [ol 17 4 3, ol 18 12 8, om 19 2, o 20 (.build l4 [(0, 1, (j 6)), (2, 1, (.s 19))]), o 21 (c 52 [17, 18, 20]), om 16 21, o 22 (e 16 0), o 23 (e 16 1), om 9 22, om 10 23] [6, 8, 9]
 (rs [ol 24 12 8, om 25 9, p (t 12 6 24), om 7 25] [6, 7]
 (.ret [6, 7])))))))⟩

def xf_ref11_ballot : XFunc := ⟨none, true, 2, [.tmp 4], (rs [o 2 (bx 0), o 3 (bx 1), o 4 (.mv (.c (.nil 98 19 false)))] [2, 3]
 (rs [ol 8 4 2, of 9 2 3, o 10 (k 9), o 11 (c 38 [8, 10]), om 5 11] [2, 3, 5]
 (.seq (rs [om 12 5, of 13 0 3, o 14 (k 13), o 15 (q 12 14)] [2, 3, 5, 15]
 (.cond (.s 15) (rs [o 4 (.mv (.c (.nil 98 19 false)))] [4]
 (.ret [4])) .skip))
 (rs [ol 17 4 2, ol 18 12 3, om 19 5, of 20 2 3, o 21 (k 20), of 22 3 3, o 23 (k 22), of 24 5 3, o 25 (k 24), of 26 4 3, o 27 (k 26), o 28 (.build l4 [(0, 1, (j 7)), (2, 1, (.s 21)), (13, 1, (.s 23)), (12, 1, (.s 25)), (16, 1, (.s 27))]), o 29 (c 43 [17, 18, 19, 28]), om 16 29, o 30 (e 16 0), o 31 (e 16 1), o 6 (.alloc l2), p (t 19 6 30), om 7 31] [6]
 (rs [ol 32 19 6, o 33 (.bsl 98 19 false 1 l2 [(0, 19, (.s 32))]), om 4 33] [4]
 (.ret [4]))))))⟩

def xf_plain_SameState : XFunc := ⟨none, true, 2, [.tmp 4], (rs [o 2 (bx 0), o 3 (bx 1), o 4 (.mv (.c w))] [2, 3]
 (ss [a 5 (f 0 2), a 6 (k 5), a 7 (f 0 3), a 8 (k 7), a 9 (q 6 8), am 10 9, b 11 (f 1 2) 10, b 12 (k 11) 10, b 13 (f 1 3) 10, b 14 (k 13) 10, b 15 (q 12 14) 10, a 16 (ka 10 15), am 17 16, b 18 (f 2 2) 17, b 19 (k 18) 17, b 20 (f 2 3) 17, b 21 (k 20) 17, b 22 (q 19 21) 17, a 23 (ka 17 22), am 24 23, b 25 (f 3 2) 24, b 26 (k 25) 24, b 27 (f 3 3) 24, b 28 (k 27) 24, b 29 (q 26 28) 24, a 30 (ka 24 29), am 31 30, b 32 (f 5 2) 31, b 33 (k 32) 31, b 34 (f 5 3) 31, b 35 (k 34) 31, b 36 (q 33 35) 31, a 37 (ka 31 36), am 38 37, b 39 (f 7 2) 38, b 40 (k 39) 38, b 41 (f 7 3) 38, b 42 (k 41) 38, b 43 (q 40 42) 38, a 44 (ka 38 43), am 45 44, b 46 (f 4 2) 45, b 47 (k 46) 45, b 48 (f 4 3) 45, b 49 (k 48) 45, u 50 (c 35 [47, 49]) 45, a 51 (ka 45 50), am 52 51, b 53 (f 6 2) 52, b 54 (k 53) 52, b 55 (f 6 3) 52, b 56 (k 55) 52, u 57 (c 34 [54, 56]) 52, a 58 (ka 52 57), am 59 58, b 60 (f 8 2) 59, b 61 (k 60) 59, b 62 (f 8 3) 59, b 63 (k 62) 59, u 64 (c 60 [61, 63]) 59, a 65 (ka 59 64), am 66 65, b 67 (f 9 2) 66, b 68 (k 67) 66, b 69 (f 9 3) 66, b 70 (k 69) 66, u 71 (c 61 [68, 70]) 66, a 72 (ka 66 71), am 73 72, b 74 (f 10 2) 73, b 75 (k 74) 73, b 76 (f 10 3) 73, b 77 (k 76) 73, u 78 (c 62 [75, 77]) 73, a 79 (ka 73 78), am 80 79, b 81 (f 11 2) 80, b 82 (k 81) 80, b 83 (f 11 3) 80, b 84 (k 83) 80, u 85 (c 63 [82, 84]) 80, a 86 (ka 80 85), am 4 86] [4]
 (.ret [4])))⟩

def xf_plain_SameInts_k0 : List (Nat × Option (Nat × Nat × Bool)) := [(0, none), (1, none), (5, none)]
def xf_plain_SameInts_b0 : XCode := (.seq (rs [om 11 5, om 12 0, o 13 (le 12), o 14 (bl 11 13)] [0, 1, 5, 14]
 (.cond (.s 14) .skip (.exit 0 [])))
 (.seq (.block 1 (rp (some []) [om 17 0, om 18 5, o 19 (ia 1 17 18), o 20 (k 19), om 21 1, om 22 5, o 23 (ia 1 21 22), o 24 (k 23), o 25 (n 20 24)] [0, 1, 5, 25]
 (.cond (.s 25) (rs [o 4 (.mv (.c w))] [4]
 (.ret [4])) .skip)))
 (.reg [om 15 5, o 16 (baj 15 1), om 5 16] none [0, 1, 5])))
def xf_plain_SameInts : XFunc := ⟨none, true, 2, [.tmp 4], (rs [o 4 (.mv (.c w))] [0, 1]
 (.seq (rs [om 6 0, o 7 (le 6), om 8 1, o 9 (le 8), o 10 (n 7 9)] [0, 1, 10]
 (.cond (.s 10) (rs [o 4 (.mv (.c w))] [4]
 (.ret [4])) .skip))
 (.seq (rs [o 5 (.mv (j 0))] [0, 1, 5]
 (.block 0 (.loop xf_plain_SameInts_k0 xf_plain_SameInts_b0)))
 (rs [o 4 (.mv (.c v))] [4]
 (.ret [4])))))⟩

def xf_plain_SameVector_k0 : List (Nat × Option (Nat × Nat × Bool)) := [(0, none), (1, none), (5, none)]
def xf_plain_SameVector_b0 : XCode := (.seq (rs [om 11 5, om 12 0, o 13 (le 12), o 14 (bl 11 13)] [0, 1, 5, 14]
 (.cond (.s 14) .skip (.exit 0 [])))
 (.seq (.block 1 (rp (some []) [om 17 0, om 18 5, o 19 (ia 2 17 18), ol 20 2 19, om 21 1, om 22 5, o 23 (ia 2 21 22), ol 24 2 23, o 25 (.eqv true true [.i, .i] (.s 20) (.s 24))] [0, 1, 5, 25]
 (.cond (.s 25) (rs [o 4 (.mv (.c w))] [4]
 (.ret [4])) .skip)))
 (.reg [om 15 5, o 16 (baj 15 1), om 5 16] none [0, 1, 5])))
def xf_plain_SameVector : XFunc := ⟨none, true, 2, [.tmp 4], (rs [o 4 (.mv (.c w))] [0, 1]
 (.seq (rs [om 6 0, o 7 (le 6), om 8 1, o 9 (le 8), o 10 (n 7 9)] [0, 1, 10]
 (.cond (.s 10) (rs [o 4 (.mv (.c w))] [4]
 (.ret [4])) .skip))
 (.seq (rs [o 5 (.mv (j 0))] [0, 1, 5]
 (.block 0 (.loop xf_plain_SameVector_k0 xf_plain_SameVector_b0)))
 (rs [o 4 (.mv (.c v))] [4]
 (.ret [4])))))⟩

def xf_plain_SameEntries_k0 : List (Nat × Option (Nat × Nat × Bool)) := [(0, none), (1, none), (5, none)]
def xf_plain_SameEntries_b0 : XCode := (.seq (rs [om 11 5, om 12 0, o 13 (le 12), o 14 (bl 11 13)] [0, 1, 5, 14]
 (.cond (.s 14) .skip (.exit 0 [])))
 (.seq (.block 1 (rp (some []) [om 17 0, om 18 5, o 19 (ia 5 17 18), ol 20 5 19, om 21 1, om 22 5, o 23 (ia 5 21 22), ol 24 5 23, o 25 (.eqv true true [.i, .i, .i, .i, .s] (.s 20) (.s 24))] [0, 1, 5, 25]
 (.cond (.s 25) (rs [o 4 (.mv (.c w))] [4]
 (.ret [4])) .skip)))
 (.reg [om 15 5, o 16 (baj 15 1), om 5 16] none [0, 1, 5])))
def xf_plain_SameEntries : XFunc := ⟨none, true, 2, [.tmp 4], (rs [o 4 (.mv (.c w))] [0, 1]
 (.seq (rs [om 6 0, o 7 (le 6), om 8 1, o 9 (le 8), o 10 (n 7 9)] [0, 1, 10]
 (.cond (.s 10) (rs [o 4 (.mv (.c w))] [4]
 (.ret [4])) .skip))
 (.seq (rs [o 5 (.mv (j 0))] [0, 1, 5]
 (.block 0 (.loop xf_plain_SameEntries_k0 xf_plain_SameEntries_b0)))
 (rs [o 4 (.mv (.c v))] [4]
 (.ret [4])))))⟩

def xf_law11_three : XFunc := ⟨none, false, 0, [.cell 0 (some 4)], (rs [o 0 (.alloc [z, z, z, w])] [0]
 (rs [o 1 (.build [z, z, z, w] [(0, 1, (j 1)), (1, 1, (j 4)), (2, 1, (j 6))]), p (t 4 0 1)] [0]
 (.ret [0])))⟩

def xf_law11_backup : XFunc := ⟨none, false, 1, [.cell 2 (some 12)], (rs [o 2 (.alloc l1)] [0, 2]
 (rs [om 3 0, o 4 (.mksl 43 2 16 true [y, y] (j 3) (j 3)), o 5 (.build l1 [(0, 1, (.s 3)), (1, 1, (j 1)), (6, 1, (.s 4))]), p (t 12 2 5)] [2]
 (.ret [2])))⟩

def xf_ref09_Primary : XFunc := ⟨none, true, 2, [.tmp 4], (rs [o 2 (bx 0), o 4 (.mv (j 0))] [1, 2]
 (.seq (ss [a 5 (l 4 2), a 6 (c 64 [5]), a 7 (nj 6 0), am 8 7, d 9 (m 1) 8, d 10 (blj 9 0) 8, a 11 (ko 8 10), am 12 11, d 13 (m 1) 12, d 14 (bgj 13 4294967296) 12, a 15 (ko 12 14)] [1, 2, 15]
 (.cond (.s 15) (rs [o 4 (.mv (j (-1)))] [4]
 (.ret [4])) .skip))
 (rs [om 16 1, ol 17 4 2, o 18 (c 65 [17]), o 19 (.bin .rem (.s 16) (.s 18)), om 4 19] [4]
 (.ret [4]))))⟩

def xf_ref11_put_k0 : List (Nat × Option (Nat × Nat × Bool)) := [(0, none), (3, none), (5, some (78, 6, false)), (6, none), (7, none)]
def xf_ref11_put_b0 : XCode := (.seq (rs [om 9 7, om 10 0, o 11 (le 10), o 12 (bl 9 11)] [0, 3, 5, 6, 7, 12]
 (.cond (.s 12) .skip (.exit 0 [3, 5, 6])))
 (.seq (.block 1 (.seq (rp (some []) [om 15 0, om 16 7, o 17 (ia 6 15 16), of 18 0 17, o 19 (k 18), of 20 0 3, o 21 (k 20), o 22 (q 19 21)] [0, 3, 5, 6, 7, 22]
 (.cond (.s 22) (rs [om 23 0, om 24 7, o 25 (ia 6 23 24), ol 26 6 25, o 8 (.alloc l3), p (t 6 8 26)] [0, 3, 5, 7, 8]
 (.seq (rs [ol 27 6 3, ol 28 6 8, o 29 (c 66 [27, 28])] [0, 3, 5, 7, 8, 29]
 (.cond (.s 29) (.reg [ol 30 6 3, p (t 6 8 30)] none [0, 3, 5, 7, 8]) .skip))
 (rs [om 31 5, ol 32 6 8, o 33 (.bsl 78 6 false 1 l3 [(0, 6, (.s 32))]), o 34 (.app 78 6 64 false (.s 31) (.s 33)), om 5 34] [0, 3, 5, 7]
 (rs [o 6 (.mv (.c v))] [0, 3, 5, 6, 7]
 (.exit 1 [0, 3, 5, 6, 7]))))) .skip))
 (.seq (sp (some []) [am 35 0, am 36 7, a 37 (ia 6 35 36), a 38 (f 0 37), a 39 (k 38), a 40 (f 0 3), a 41 (k 40), a 42 (bg 39 41), am 43 42, bb 44 6 43, b 45 (nt 44) 43, a 46 (ka 43 45)] [0, 3, 5, 6, 7, 46]
 (.cond (.s 46) (rs [om 47 5, ol 48 6 3, o 49 (.bsl 78 6 false 1 l3 [(0, 6, (.s 48))]), o 50 (.app 78 6 64 false (.s 47) (.s 49)), om 5 50] [0, 3, 5, 7]
 (.reg [o 6 (.mv (.c v))] none [0, 3, 5, 6, 7])) .skip))
 (.reg [om 51 5, om 52 0, om 53 7, o 54 (ia 6 52 53), ol 55 6 54, o 56 (.bsl 78 6 false 1 l3 [(0, 6, (.s 55))]), o 57 (.app 78 6 64 false (.s 51) (.s 56)), om 5 57] none [0, 3, 5, 6, 7]))))
 (.reg [om 13 7, o 14 (baj 13 1), om 7 14] none [0, 3, 5, 6, 7])))
def xf_ref11_put : XFunc := ⟨none, true, 2, [.tmp 4], (rs [o 3 (bx 1), o 4 (.mv (.c (.nil 78 6 false)))] [0, 3]
 (rs [o 5 (.mv (.c (.nil 78 6 false)))] [0, 3, 5]
 (rs [o 6 (.mv (.c w))] [0, 3, 5, 6]
 (.seq (rs [o 7 (.mv (j 0))] [0, 3, 5, 6, 7]
 (.block 0 (.loop xf_ref11_put_k0 xf_ref11_put_b0)))
 (.seq (rs [om 58 6, o 59 (nt 58)] [3, 5, 59]
 (.cond (.s 59) (.reg [om 60 5, ol 61 6 3, o 62 (.bsl 78 6 false 1 l3 [(0, 6, (.s 61))]), o 63 (.app 78 6 64 false (.s 60) (.s 62)), om 5 63] none [5]) .skip))
 (rs [om 64 5, om 4 64] [4]
 (.ret [4])))))))⟩

def xf_plain_CopyEntries : XFunc := ⟨none, false, 1, [.tmp 2], (rs [o 2 (.mv (.c (.nil 38 5 true)))] [0]
 (rs [om 3 0, o 4 (.app 38 5 48 true (.c (.nil 38 5 true)) (.s 3)), om 2 4] [2]
 (.ret [2])))⟩

def xf_ref11_lead_k0 : List (Nat × Option (Nat × Nat × Bool)) := [(2, none), (3, none), (4, none), (6, some (78, 6, false)), (7, none), (8, none), (9, none)]
def xf_ref11_lead_b0 : XCode := (.seq (rs [om 31 9, om 32 6, o 33 (le 32), o 34 (bl 31 33)] [2, 3, 4, 6, 7, 8, 9, 34]
 (.cond (.s 34) .skip (.exit 0 [2, 3, 4, 7, 8])))
 (.seq (.block 1 (.seq (sp (some []) [am 37 6, am 38 9, a 39 (ia 6 37 38), a 40 (f 3 39), a 41 (k 40), a 42 (f 3 7), a 43 (k 42), a 44 (bg 41 43), am 45 44, d 46 (m 6) 45, d 47 (m 9) 45, r 48 (ia 6 46 47) 45, r 49 (f 3 48) 45, r 50 (k 49) 45, d 51 (f 3 7) 45, d 52 (k 51) 45, r 53 (q 50 52) 45, r 54 (m 53) 45, bb 55 6 54, bb 56 9 54, u 57 (ia 6 55 56) 54, u 58 (f 5 57) 54, u 59 (k 58) 54, u 60 (le 59) 54, b 61 (f 5 7) 54, b 62 (k 61) 54, b 63 (le 62) 54, u 64 (bg 60 63) 54, r 65 (ka 54 64) 45, a 66 (ko 45 65)] [2, 3, 4, 6, 7, 8, 9, 66]
 (.cond (.s 66) (.reg [om 67 6, om 68 9, o 69 (ia 6 67 68), ol 70 6 69, p (t 6 7 70)] none [2, 3, 4, 6, 7, 8, 9]) .skip))
 (rs [om 71 6, om 72 9, o 73 (ia 6 71 72), of 74 4 73, o 75 (k 74), om 76 8, o 77 (bg 75 76)] [2, 3, 4, 6, 7, 8, 9, 77]
 (.cond (.s 77) (.reg [om 78 6, om 79 9, o 80 (ia 6 78 79), of 81 4 80, o 82 (k 81), om 8 82] none [2, 3, 4, 6, 7, 8, 9]) .skip))))
 (.reg [om 35 9, o 36 (baj 35 1), om 9 36] none [2, 3, 4, 6, 7, 8, 9])))
def xf_ref11_lead : XFunc := ⟨none, false, 2, [.cell 4 (some 12), .tmp 5], (rs [o 2 (bx 0), o 3 (bx 1), o 4 (.alloc l1), o 5 (.mv (.c (.nil 98 19 false)))] [2, 3, 4]
 (rs [of 16 10 3, o 17 (k 16), of 18 0 3, o 19 (k 18), of 20 3 3, o 21 (k 20), of 22 5 3, o 23 (k 22), of 24 4 3, o 25 (k 24), o 26 (.build l3 [(0, 1, (.s 19)), (3, 1, (.s 21)), (4, 1, (.s 23)), (5, 1, (.s 25))]), o 27 (c 39 [17, 26]), om 6 27] [2, 3, 4, 6]
 (rs [om 28 6, o 29 (.iadr 6 (.s 28) (j 0)), ol 30 6 29, o 7 (.alloc l3), p (t 6 7 30)] [2, 3, 4, 6, 7]
 (rs [o 8 (.mv (j 0))] [2, 3, 4, 6, 7, 8]
 (.seq (rs [o 9 (.mv (j 0))] [2, 3, 4, 6, 7, 8, 9]
 (.block 0 (.loop xf_ref11_lead_k0 xf_ref11_lead_b0)))
 (.seq (rs [om 83 8, of 84 5 7, o 85 (k 84), o 86 (le 85), o 87 (bg 83 86)] [2, 3, 4, 7, 8, 87]
 (.cond (.s 87) (.reg [of 88 5 7, o 89 (k 88), o 90 (le 89), om 8 90] none [2, 3, 4, 7, 8]) .skip))
 (rs [ol 91 12 3, o 92 (c 42 [91]), o 10 (.alloc l1), p (t 12 10 92)] [2, 4, 7, 8, 10]
 (rs [of 93 1 10, p (.store 1 (.s 93) (j 1))] [2, 4, 7, 8, 10]
 (rs [of 94 2 10, o 95 (k 94), of 96 3 10, p (t 1 96 95)] [2, 4, 7, 8, 10]
 (rs [of 97 5 7, o 98 (k 97), o 99 (c 40 [98]), of 100 4 10, p (t 1 100 99)] [2, 4, 8, 10]
 (.seq (rs [of 101 5 10, o 102 (k 101), of 103 4 10, o 104 (k 103), o 105 (le 104), o 106 (bg 102 105)] [2, 4, 8, 10, 106]
 (.cond (.s 106) (.reg [of 107 4 10, o 108 (k 107), o 109 (le 108), of 110 5 10, p (t 1 110 109)] none [2, 4, 8, 10]) .skip))
 (rs [ol 112 4 2, ol 113 12 10, of 114 2 10, o 115 (k 114), om 116 8, of 117 4 10, o 118 (k 117), o 119 (.build l4 [(0, 1, (j 8)), (2, 1, (.s 115)), (12, 1, (.s 116)), (16, 1, (.s 118))]), o 120 (c 52 [112, 113, 119]), om 111 120, o 121 (e 111 0), o 122 (e 111 1), om 11 121, om 12 122] [2, 4, 8, 10, 11]
 (rs [ol 124 4 2, ol 125 12 10, om 126 8, o 127 (c 67 [124, 125, 126]), om 123 127, o 128 (e 123 0), o 129 (e 123 1), o 130 (e 123 2), o 13 (.alloc l1), p (t 12 13 128), om 14 129, om 15 130] [4, 11, 13, 14]
 (rp (some [(0, 3)]) [ol 131 12 13, om 132 11, om 133 14, o 134 (.app 98 19 200 false (.s 132) (.s 133)), p (t 12 4 131), om 5 134] [4, 5]
 (.ret [4, 5])))))))))))))))⟩

def xf_ref11_bare : XFunc := ⟨none, true, 1, [.cell 2 (some 12)], (rs [o 1 (bx 0), o 2 (.alloc l1)] [1, 2]
 (rs [ol 4 12 1, o 5 (c 25 [4]), o 3 (.alloc l1), p (t 12 3 5)] [2, 3]
 (rs [of 6 7 3, p (.store 1 (.s 6) (j 0))] [2, 3]
 (rs [of 7 8 3, p (.store 1 (.s 7) (.c (.nil 172 4 true)))] [2, 3]
 (rs [of 8 9 3, p (.store 1 (.s 8) (.c (.nil 86 3 true)))] [2, 3]
 (rs [of 9 10 3, p (.store 1 (.s 9) (.c (.nil 78 6 false)))] [2, 3]
 (rs [of 10 11 3, p (.store 1 (.s 10) (.c (.nil 80 6 false)))] [2, 3]
 (rs [ol 11 12 3, p (t 12 2 11)] [2]
 (.ret [2])))))))))⟩

def xf_ref09_One : XFunc := ⟨none, true, 4, [.cell 8 (some 19), .tmp 9], (rs [o 4 (bx 0), o 5 (bx 1), o 7 (bx 3), o 8 (.alloc l2), o 9 (.mv (j 0))] [2, 4, 5, 7, 8]
 (rs [ol 14 4 4, ol 15 12 5, o 16 (c 48 [14, 15]), om 10 16] [2, 4, 5, 7, 8, 10]
 (rs [ol 17 4 4, o 18 (c 65 [17]), om 11 18] [2, 5, 7, 8, 10, 11]
 (ss [am 19 2, a 20 (bhj 19 0), am 21 20, bb 22 2 21, bb 23 11 21, b 24 (bl 22 23) 21, a 25 (ka 21 24), am 26 25, bb 27 2 26, b 28 (f 0 5) 26, b 29 (k 28) 26, b 30 (n 27 29) 26, a 31 (ka 26 30), am 12 31] [2, 5, 7, 8, 10, 12]
 (ss [am 32 2, a 33 (bhj 32 7), am 34 33, bb 35 2 34, b 36 (blj 35 23) 34, a 37 (ka 34 36), am 13 37] [2, 5, 7, 8, 10, 12, 13]
 (.seq (ss [am 38 10, a 39 (qj 38 0), am 40 39, bb 41 12 40, b 42 (nt 41) 40, a 43 (ka 40 42), am 44 43, bb 45 13 44, b 46 (nt 45) 44, a 47 (ka 44 46)] [2, 5, 7, 8, 10, 47]
 (.cond (.s 47) (.reg [o 10 (.mv (j 3))] none [2, 5, 7, 8, 10]) .skip))
 (.seq (rs [om 48 10, o 49 (nj 48 0)] [2, 5, 7, 8, 10, 49]
 (.cond (.s 49) (rs [o 50 (.build l2 []), om 51 10, p (t 19 8 50), om 9 51] [8, 9]
 (.ret [8, 9])) .skip))
 (rs [om 52 2, ol 53 12 5, ol 54 18 7, o 55 (c 68 [53, 54]), o 56 (.build l2 [(0, 1, (.s 52)), (1, 18, (.s 55))]), p (t 19 8 56), o 9 (.mv (j 0))] [8, 9]
 (.ret [8, 9])))))))))⟩

def xf_core_Check : XFunc := ⟨none, true, 2, [.tmp 4], (rs [o 2 (bx 0), o 3 (bx 1), o 4 (.mv (j 0))] [2, 3]
 (.seq (rs [ol 8 4 2, o 9 (c 69 [8]), om 5 9] [2, 3, 5]
 (rs [om 10 5, o 11 (nj 10 0)] [2, 3, 5, 11]
 (.cond (.s 11) (rs [om 12 5, om 4 12] [4]
 (.ret [4])) .skip)))
 (rs [ol 13 4 2, o 14 (c 70 [13]), om 6 14] [2, 3, 6]
 (.seq (ss [a 15 (f 0 3), a 16 (k 15), a 17 (blj 16 0), am 18 17, d 19 (f 0 3) 18, d 20 (k 19) 18, d 21 (m 6) 18, d 22 (bh 20 21) 18, a 23 (ko 18 22), am 24 23, d 25 (f 2 3) 24, d 26 (k 25) 24, d 27 (blj 26 0) 24, a 28 (ko 24 27), am 29 28, d 30 (f 2 3) 29, d 31 (k 30) 29, d 32 (bgj 31 4294967296) 29, a 33 (ko 29 32), am 34 33, d 35 (f 3 3) 34, d 36 (k 35) 34, d 37 (blj 36 0) 34, a 38 (ko 34 37), am 39 38, d 40 (f 3 3) 39, d 41 (k 40) 39, d 42 (f 2 3) 39, d 43 (k 42) 39, d 44 (bg 41 43) 39, a 45 (ko 39 44), am 46 45, d 47 (f 7 3) 46, d 48 (k 47) 46, d 49 (blj 48 0) 46, a 50 (ko 46 49), am 51 50, d 52 (f 7 3) 51, d 53 (k 52) 51, d 54 (f 2 2) 51, d 55 (k 54) 51, d 56 (bh 53 55) 51, a 57 (ko 51 56), am 58 57, d 59 (f 6 3) 58, d 60 (k 59) 58, d 61 (le 60) 58, d 62 (m 6) 58, d 63 (n 61 62) 58, a 64 (ko 58 63), am 65 64, d 66 (l 4 2) 65, d 67 (f 4 3) 65, d 68 (k 67) 65, d 69 (f 5 3) 65, d 70 (k 69) 65, r 71 (c 71 [66, 68, 70]) 65, r 72 (nt 71) 65, a 73 (ko 65 72), am 74 73, d 75 (l 12 3) 74, r 76 (c 72 [75]) 74, r 77 (nt 76) 74, a 78 (ko 74 77)] [2, 3, 78]
 (.cond (.s 78) (rs [o 4 (.mv (j 2))] [4]
 (.ret [4])) .skip))
 (rs [o 7 (.mv (.c w))] [2, 3, 7]
 (.seq (rs [of 79 1 3, o 80 (k 79)] [2, 3, 7, 80]
 (.block 0 (rs [o 82 (qj 80 1), om 81 82] [2, 3, 7, 80, 81]
 (.cond (.s 81) (.reg [ol 83 4 2, ol 84 12 3, o 85 (c 73 [83, 84]), om 7 85] none [7]) (rs [o 87 (qj 80 2), om 86 87] [2, 3, 7, 80, 86]
 (.cond (.s 86) (.reg [ol 88 4 2, ol 89 12 3, o 90 (c 74 [88, 89]), om 7 90] none [7]) (rs [o 92 (qj 80 3), om 91 92] [2, 3, 7, 91]
 (.cond (.s 91) (.reg [ol 93 4 2, ol 94 12 3, o 95 (c 75 [93, 94]), om 7 95] none [7]) .skip))))))))
 (.seq (rs [om 96 7, o 97 (nt 96)] [97]
 (.cond (.s 97) (rs [o 4 (.mv (j 2))] [4]
 (.ret [4])) .skip))
 (rs [o 4 (.mv (j 0))] [4]
 (.ret [4])))))))))⟩

def xf_core_Primary : XFunc := ⟨none, true, 2, [.tmp 4], (rs [o 2 (bx 0), o 4 (.mv (j 0))] [1, 2]
 (.seq (ss [a 5 (l 4 2), a 6 (c 69 [5]), a 7 (nj 6 0), am 8 7, d 9 (m 1) 8, d 10 (blj 9 0) 8, a 11 (ko 8 10), am 12 11, d 13 (m 1) 12, d 14 (bgj 13 4294967296) 12, a 15 (ko 12 14)] [1, 2, 15]
 (.cond (.s 15) (rs [o 4 (.mv (j (-1)))] [4]
 (.ret [4])) .skip))
 (rs [om 16 1, ol 17 4 2, o 18 (c 70 [17]), o 19 (.bin .rem (.s 16) (.s 18)), om 4 19] [4]
 (.ret [4]))))⟩

def xf_core_Carry_k0 : List (Nat × Option (Nat × Nat × Bool)) := [(4, none), (6, none), (10, none), (11, some (98, 19, false)), (63, some (141, 7, true)), (64, none), (65, none)]
def xf_core_Carry_b0 : XCode := (rs [o 66 (bl 65 64)] [4, 6, 10, 11, 63, 64, 65, 66]
 (.seq (.cond (.s 66) .skip (.exit 0 [6, 10, 11]))
 (.seq (.block 1 (rs [o 67 (ia 7 63 65), ol 68 7 67, o 15 (.alloc l10), p (t 7 15 68)] [4, 6, 10, 11, 15, 63, 64, 65]
 (rs [of 69 0 4, o 70 (k 69), of 71 2 4, o 72 (k 71), of 73 2 15, o 74 (k 73), of 75 0 15, o 76 (k 75), of 77 1 15, o 78 (k 77), o 79 (.build l13 [(0, 1, (.s 76)), (1, 1, (.s 78))]), of 80 4 15, ol 81 3 80, o 82 (.build l4 [(0, 1, (j 2)), (1, 1, (.s 70)), (2, 1, (.s 72)), (11, 1, (.s 74)), (3, 5, (.s 79)), (8, 3, (.s 81))]), o 16 (.alloc l4), p (t 18 16 82)] [4, 6, 10, 11, 15, 16, 63, 64, 65]
 (.reg [om 83 11, of 84 0 15, o 85 (k 84), o 86 (.bin .add (j 7) (.s 85)), ol 87 18 16, o 88 (.build l2 [(0, 1, (.s 86)), (1, 18, (.s 87))]), o 89 (.bsl 98 19 false 1 l2 [(0, 19, (.s 88))]), o 90 (.app 98 19 200 false (.s 83) (.s 89)), om 11 90] none [4, 6, 10, 11, 63, 64, 65]))))
 (.reg [o 91 (baj 65 1), om 65 91] none [4, 6, 10, 11, 63, 64, 65]))))
def xf_core_Carry : XFunc := ⟨none, true, 3, [.cell 6 (some 12), .tmp 7, .tmp 8], (rs [o 3 (bx 0), o 4 (bx 1), o 6 (.alloc l1), o 7 (.mv (.c (.nil 98 19 false))), o 8 (.mv (j 0))] [2, 3, 4, 6]
 (rs [ol 17 4 3, ol 18 12 4, o 19 (c 44 [17, 18]), om 9 19] [2, 3, 4, 6, 9]
 (.seq (ss [am 20 9, a 21 (qj 20 0), am 22 21, bb 23 2 22, b 24 (blj 23 0) 22, bb 25 24 22, d 26 (m 2) 25, d 27 (f 4 4) 25, d 28 (k 27) 25, d 29 (le 28) 25, d 30 (bg 26 29) 25, b 31 (ko 25 30) 22, a 32 (ka 22 31)] [2, 3, 4, 6, 9, 32]
 (.cond (.s 32) (.reg [o 9 (.mv (j 3))] none [2, 3, 4, 6, 9]) .skip))
 (.seq (rs [om 33 9, o 34 (nj 33 0)] [2, 3, 4, 6, 9, 34]
 (.cond (.s 34) (rs [o 35 (.build l1 []), om 36 9, p (t 12 6 35), o 7 (.mv (.c (.nil 98 19 false))), om 8 36] [6, 7, 8]
 (.ret [6, 7, 8])) .skip))
 (rs [ol 37 12 4, o 38 (c 76 [37]), o 10 (.alloc l1), p (t 12 10 38)] [2, 3, 4, 6, 10]
 (.seq (rs [om 39 2, of 40 5 4, o 41 (k 40), o 42 (bm 39 41)] [2, 3, 4, 6, 10, 42]
 (.cond (.s 42) (rs [ol 43 12 10, p (t 12 6 43), o 7 (.mv (.c (.nil 98 19 false))), o 8 (.mv (j 0))] [6, 7, 8]
 (.ret [6, 7, 8])) .skip))
 (rs [om 44 2, of 45 5 10, p (t 1 45 44)] [2, 3, 4, 6, 10]
 (rs [o 11 (.mv (.c (.nil 98 19 false)))] [2, 3, 4, 6, 10, 11]
 (.seq (ss [a 46 (f 1 4), a 47 (k 46), a 48 (qj 47 1), am 49 48, b 50 (l 4 3) 49, b 51 (l 12 4) 49, u 52 (c 77 [50, 51]) 49, a 53 (ka 49 52)] [2, 4, 6, 10, 11, 53]
 (.cond (.s 53) (rs [of 55 4 4, o 56 (k 55), of 57 5 4, o 58 (k 57), om 59 2, o 60 (c 78 [56, 58, 59]), om 54 60, o 61 (e 54 0), o 62 (e 54 1), om 12 61, om 13 62] [4, 6, 10, 11, 12]
 (rs [om 63 12, o 64 (le 63), o 65 (.mv (j 0))] [4, 6, 10, 11, 63, 64, 65]
 (.block 0 (.loop xf_core_Carry_k0 xf_core_Carry_b0)))) .skip))
 (rs [ol 92 12 10, om 93 11, p (t 12 6 92), om 7 93, o 8 (.mv (j 0))] [6, 7, 8]
 (.ret [6, 7, 8])))))))))))⟩

def xf_change_frame_goes : XFunc := ⟨none, false, 2, [], (rs [om 4 0, om 5 0, om 6 0, om 7 1, o 8 (nc 4), of 9 4 8, of 10 1 9, p (.store 1 (.s 10) (j 2)), o 11 (nc 5), of 12 4 11, of 13 2 12, p (t 1 13 7), o 14 (nc 6), of 15 4 14, of 16 7 15, p (.store 1 (.s 16) (j 0))] [0, 1]
 (rs [om 17 0, o 18 (c 79 [17])] [0, 1]
 (.reg [om 19 0, om 20 1, o 21 (.build l4 [(0, 1, (j 6)), (2, 1, (.s 20))]), o 22 (c 49 [19, 21])] none [])))⟩

def xf_ref09_Check : XFunc := ⟨none, true, 2, [.tmp 4], (rs [o 2 (bx 0), o 3 (bx 1), o 4 (.mv (j 0))] [2, 3]
 (rs [ol 6 4 2, o 7 (c 64 [6]), om 5 7] [2, 3, 5]
 (.seq (ss [am 8 5, a 9 (qj 8 0), am 10 9, b 11 (l 4 2) 10, b 12 (l 12 3) 10, u 13 (c 80 [11, 12]) 10, u 14 (nt 13) 10, a 15 (ka 10 14)] [5, 15]
 (.cond (.s 15) (.reg [o 5 (.mv (j 2))] none [5]) .skip))
 (rs [om 16 5, om 4 16] [4]
 (.ret [4])))))⟩

def xf_change_frame_all : XFunc := ⟨none, false, 2, [], (rs [o 3 (bx 1)] [0, 3]
 (rp (some []) [om 7 0, o 8 (nc 7), of 9 0 8, ol 10 4 9, om 11 0, o 12 (nc 11), of 13 4 12, ol 14 12 13, ol 15 18 3, o 16 (c 81 [10, 14, 15]), om 6 16, o 17 (e 6 0), o 18 (e 6 1), om 4 17, om 5 18] [0, 4]
 (.reg [om 19 0, om 20 0, o 21 (nc 20), of 22 16 21, o 23 (k 22), om 24 4, o 25 (.app 98 19 200 false (.s 23) (.s 24)), o 26 (nc 19), of 27 16 26, p (t 1 27 25)] none [])))⟩

def xf_tally_Marked : XFunc := ⟨none, true, 2, [.tmp 4], (rs [o 4 (.mv (.c w))] [0, 1]
 (rs [om 5 1, o 6 (le 5), om 7 0, o 8 (bh 6 7), om 4 8] [4]
 (.ret [4])))⟩

def xf_change_frame_ballot : XFunc := ⟨none, false, 1, [], (rs [om 3 0, o 4 (.peek 82 [(.s 3)]), om 2 4] [0, 2]
 (rs [om 5 2, om 6 0, o 7 (nc 6), of 8 4 7, of 9 0 8, o 10 (k 9), o 11 (n 5 10)] [0, 2, 11]
 (.cond (.s 11) (.reg [om 12 0, om 13 2, om 14 0, o 15 (nc 14), of 16 4 15, of 17 2 16, o 18 (k 17), om 19 0, o 20 (nc 19), of 21 4 20, of 22 3 21, o 23 (k 22), om 24 0, o 25 (nc 24), of 26 4 25, of 27 5 26, o 28 (k 27), om 29 0, o 30 (nc 29), of 31 4 30, of 32 4 31, o 33 (k 32), o 34 (.build l4 [(0, 1, (j 7)), (2, 1, (.s 18)), (13, 1, (.s 23)), (12, 1, (.s 28)), (16, 1, (.s 33))]), o 35 (c 83 [12, 13, 34])] (some []) []) .skip)))⟩

def xf_ref09_All_k0 : List (Nat × Option (Nat × Nat × Bool)) := [(3, none), (4, none), (5, none), (9, some (98, 19, false)), (10, none)]
def xf_ref09_All_b0 : XCode := (.seq (rs [om 17 10, ol 18 4 3, o 19 (c 65 [18]), o 20 (bl 17 19)] [3, 4, 5, 9, 10, 20]
 (.cond (.s 20) .skip (.exit 0 [9])))
 (.seq (.block 1 (rs [om 23 10, of 24 0 4, o 25 (k 24), o 26 (n 23 25)] [3, 4, 5, 9, 10, 26]
 (.cond (.s 26) (.reg [om 27 9, om 28 10, ol 29 12 4, ol 30 18 5, o 31 (c 68 [29, 30]), o 32 (.build l2 [(0, 1, (.s 28)), (1, 18, (.s 31))]), o 33 (.bsl 98 19 false 1 l2 [(0, 19, (.s 32))]), o 34 (.app 98 19 200 false (.s 27) (.s 33)), om 9 34] none [3, 4, 5, 9, 10]) .skip)))
 (.reg [om 21 10, o 22 (baj 21 1), om 10 22] none [3, 4, 5, 9, 10])))
def xf_ref09_All : XFunc := ⟨none, false, 3, [.tmp 6, .tmp 7], (rs [o 3 (bx 0), o 4 (bx 1), o 5 (bx 2), o 6 (.mv (.c (.nil 98 19 false))), o 7 (.mv (j 0))] [3, 4, 5]
 (rs [ol 11 4 3, ol 12 12 4, o 13 (c 48 [11, 12]), om 8 13] [3, 4, 5, 8]
 (.seq (rs [om 14 8, o 15 (nj 14 0)] [3, 4, 5, 8, 15]
 (.cond (.s 15) (rs [om 16 8, o 6 (.mv (.c (.nil 98 19 false))), om 7 16] [6, 7]
 (.ret [6, 7])) .skip))
 (rs [o 9 (.mv (.c (.nil 98 19 false)))] [3, 4, 5, 9]
 (.seq (rs [o 10 (.mv (j 0))] [3, 4, 5, 9, 10]
 (.block 0 (.loop xf_ref09_All_k0 xf_ref09_All_b0)))
 (rs [om 35 9, om 6 35, o 7 (.mv (j 0))] [6, 7]
 (.ret [6, 7])))))))⟩

def xf_plain_SameMsg : XFunc := ⟨none, true, 2, [.tmp 4], (rs [o 2 (bx 0), o 3 (bx 1), o 4 (.mv (.c w))] [2, 3]
 (ss [a 5 (f 0 2), a 6 (k 5), a 7 (f 0 3), a 8 (k 7), a 9 (q 6 8), am 10 9, b 11 (f 1 2) 10, b 12 (k 11) 10, b 13 (f 1 3) 10, b 14 (k 13) 10, b 15 (q 12 14) 10, a 16 (ka 10 15), am 17 16, b 18 (f 2 2) 17, b 19 (k 18) 17, b 20 (f 2 3) 17, b 21 (k 20) 17, b 22 (q 19 21) 17, a 23 (ka 17 22), am 24 23, b 25 (f 3 2) 24, b 26 (l 5 25) 24, b 27 (f 3 3) 24, b 28 (l 5 27) 24, b 29 (.eqv false true [.i, .i, .i, .i, .s] (.s 26) (.s 28)) 24, a 30 (ka 24 29), am 31 30, b 32 (f 8 2) 31, b 33 (l 3 32) 31, b 34 (f 8 3) 31, b 35 (l 3 34) 31, b 36 (.eqv false true [.i, .i, .s] (.s 33) (.s 35)) 31, a 37 (ka 31 36), am 38 37, b 39 (f 11 2) 38, b 40 (k 39) 38, b 41 (f 11 3) 38, b 42 (k 41) 38, b 43 (q 40 42) 38, a 44 (ka 38 43), am 45 44, b 46 (f 12 2) 45, b 47 (k 46) 45, b 48 (f 12 3) 45, b 49 (k 48) 45, b 50 (q 47 49) 45, a 51 (ka 45 50), am 52 51, b 53 (f 13 2) 52, b 54 (k 53) 52, b 55 (f 13 3) 52, b 56 (k 55) 52, b 57 (q 54 56) 52, a 58 (ka 52 57), am 59 58, b 60 (f 14 2) 59, b 61 (l 2 60) 59, b 62 (f 14 3) 59, b 63 (l 2 62) 59, b 64 (.eqv false true [.i, .i] (.s 61) (.s 63)) 59, a 65 (ka 59 64), am 66 65, b 67 (f 16 2) 66, b 68 (k 67) 66, b 69 (f 16 3) 66, b 70 (k 69) 66, u 71 (c 35 [68, 70]) 66, a 72 (ka 66 71), am 73 72, b 74 (f 17 2) 73, b 75 (k 74) 73, b 76 (f 17 3) 73, b 77 (k 76) 73, u 78 (c 34 [75, 77]) 73, a 79 (ka 73 78), am 4 79] [4]
 (.ret [4])))⟩

def xf_message_Check : XFunc := ⟨none, true, 2, [.tmp 4], (rs [o 2 (bx 0), o 3 (bx 1), o 4 (.mv (j 0))] [2, 3]
 (.seq (rs [ol 8 4 2, o 9 (c 84 [8]), o 10 (nt 9)] [2, 3, 10]
 (.cond (.s 10) (rs [o 4 (.mv (j 1))] [4]
 (.ret [4])) .skip))
 (.seq (rs [of 11 0 3, o 12 (k 11), o 13 (c 85 [12]), o 14 (nt 13)] [2, 3, 14]
 (.cond (.s 14) (rs [o 4 (.mv (j 70))] [4]
 (.ret [4])) .skip))
 (rs [of 15 0 3, o 16 (k 15), o 17 (.aadr 10 15 (.c (.dptr usesD)) (.s 16)), ol 18 10 17, o 5 (.alloc l6), p (t 10 5 18)] [2, 3, 5]
 (.seq (ss [a 19 (l 18 3), a 20 (c 86 [19]), a 21 (nt 20), am 22 21, d 23 (l 4 2) 22, d 24 (l 18 3) 22, r 25 (c 87 [23, 24]) 22, r 26 (nt 25) 22, a 27 (ko 22 26)] [2, 3, 5, 27]
 (.cond (.s 27) (rs [o 4 (.mv (j 71))] [4]
 (.ret [4])) .skip))
 (.seq (rs [o 28 (.aadr 1 10 (.s 5) (j 6)), o 29 (k 28), om 30 29, g 31 (f 0 3) 30, g 32 (k 31) 30, g 33 (f 3 3) 30, g 34 (l 5 33) 30, g 35 (c 88 [32, 34]) 30, g 36 (nt 35) 30, o 37 (ka 30 36), om 38 37, h 39 (.aadr 1 10 (.s 5) (j 7)) 38, h 40 (k 39) 38, h 41 (m 40) 38, g 42 (f 8 3) 41, g 43 (l 3 42) 41, g 44 (c 89 [43]) 41, g 45 (nt 44) 41, g 46 (m 45) 41, h 47 (l 18 3) 46, h 48 (c 90 [47]) 46, h 49 (nt 48) 46, g 50 (ko 46 49) 41, h 51 (ka 41 50) 38, o 52 (ko 38 51), om 53 52, h 54 (.aadr 1 10 (.s 5) (j 9)) 53, h 55 (k 54) 53, h 56 (m 55) 53, g 57 (f 17 3) 56, g 58 (k 57) 56, g 59 (le 58) 56, g 60 (f 0 2) 56, g 61 (k 60) 56, g 62 (.bin .mul (j 2) (.s 61)) 56, g 63 (baj 62 1) 56, g 64 (n 59 63) 56, h 65 (ka 56 64) 53, o 66 (ko 53 65), om 67 66, h 68 (.aadr 1 10 (.s 5) (j 5)) 67, h 69 (k 68) 67, h 70 (m 69) 67, g 71 (f 14 3) 70, g 72 (l 2 71) 70, g 73 (.build [y, y] []) 70, g 74 (.eqv false true [.i, .i] (.s 72) (.s 73)) 70, h 75 (ka 70 74) 67, o 76 (ko 67 75)] [2, 3, 5, 76]
 (.cond (.s 76) (rs [o 4 (.mv (j 71))] [4]
 (.ret [4])) .skip))
 (.seq (rs [o 77 (.aadr 1 10 (.s 5) (j 8)), o 78 (k 77)] [2, 3, 78]
 (.cond (.s 78) (rs [of 80 16 3, o 81 (k 80), of 82 1 2, o 83 (k 82), o 84 (c 91 [81, 83]), om 79 84, o 85 (e 79 0), o 86 (e 79 1), om 6 85, om 7 86] [2, 3, 6]
 (rs [om 87 6, o 88 (nj 87 0)] [2, 3, 88]
 (.cond (.s 88) (rs [o 4 (.mv (j 71))] [4]
 (.ret [4])) .skip))) .skip))
 (.seq (sp (some []) [a 89 (f 0 3), a 90 (k 89), a 91 (qj 90 9), am 92 91, b 93 (f 17 3) 92, b 94 (k 93) 92, b 95 (f 1 3) 92, b 96 (k 95) 92, u 97 (ia 2 94 96) 92, u 98 (l 2 97) 92, b 99 (f 14 3) 92, b 100 (l 2 99) 92, u 101 (.eqv true true [.i, .i] (.s 98) (.s 100)) 92, a 102 (ka 92 101), am 103 102, d 104 (f 0 3) 103, d 105 (k 104) 103, d 106 (qj 105 10) 103, d 107 (m 106) 103, b 108 (f 16 3) 107, b 109 (k 108) 107, b 110 (le 109) 107, b 111 (bgj 110 0) 107, d 112 (ka 107 111) 103, r 113 (m 112) 103, b 114 (f 1 3) 113, b 115 (k 114) 113, b 116 (f 2 3) 113, b 117 (k 116) 113, b 118 (f 0 2) 113, b 119 (k 118) 113, b 120 (.bin .mul (j 2) (.s 119)) 113, b 121 (baj 120 1) 113, u 122 (.bin .rem (.s 117) (.s 121)) 113, u 123 (n 115 122) 113, r 124 (ka 113 123) 103, a 125 (ko 103 124)] [125]
 (.cond (.s 125) (rs [o 4 (.mv (j 71))] [4]
 (.ret [4])) .skip))
 (rs [o 4 (.mv (j 0))] [4]
 (.ret [4]))))))))))⟩

def xf_core_Admit : XFunc := ⟨none, true, 3, [.cell 6 (some 12), .tmp 7, .tmp 8], (rs [o 3 (bx 0), o 4 (bx 1), o 5 (bx 2), o 6 (.alloc l1), o 7 (.mv (.c w)), o 8 (.mv (j 0))] [3, 4, 5, 6]
 (rs [ol 11 4 3, ol 12 12 4, o 13 (c 44 [11, 12]), om 9 13] [3, 4, 5, 6, 9]
 (.seq (rs [om 14 9, o 15 (qj 14 0)] [3, 4, 5, 6, 9, 15]
 (.cond (.s 15) (.reg [ol 16 4 3, ol 17 18 5, o 18 (c 54 [16, 17]), om 9 18] none [3, 4, 5, 6, 9]) .skip))
 (.seq (rs [om 19 9, o 20 (nj 19 0)] [3, 4, 5, 6, 9, 20]
 (.cond (.s 20) (rs [o 21 (.build l1 []), om 22 9, p (t 12 6 21), o 7 (.mv (.c w)), om 8 22] [6, 7, 8]
 (.ret [6, 7, 8])) .skip))
 (rs [ol 23 12 4, o 24 (c 76 [23]), o 10 (.alloc l1), p (t 12 10 24)] [3, 4, 5, 6, 10]
 (.seq (rs [of 25 0 5, o 26 (k 25), o 27 (c 92 [26]), o 28 (nt 27)] [3, 4, 5, 6, 10, 28]
 (.cond (.s 28) (rs [ol 29 12 10, p (t 12 6 29), o 7 (.mv (.c v)), o 8 (.mv (j 0))] [6, 7, 8]
 (.ret [6, 7, 8])) .skip))
 (.seq (rs [of 30 1 5, o 31 (k 30), of 32 0 4, o 33 (k 32), o 34 (q 31 33)] [3, 4, 5, 6, 10, 34]
 (.cond (.s 34) (rs [ol 35 12 10, p (t 12 6 35), o 7 (.mv (.c w)), o 8 (.mv (j 0))] [6, 7, 8]
 (.ret [6, 7, 8])) .skip))
 (.seq (rs [of 36 3 3, o 37 (k 36)] [4, 5, 6, 10, 37]
 (.cond (.s 37) (rs [ol 38 12 10, p (t 12 6 38), o 7 (.mv (.c v)), o 8 (.mv (j 0))] [6, 7, 8]
 (.ret [6, 7, 8])) .skip))
 (.seq (sp (some []) [a 39 (f 6 4), a 40 (k 39), a 41 (f 1 5), a 42 (k 41), a 43 (f 17 5), a 44 (k 43), a 45 (.build [z, (.nil 43 2 true)] [(0, 1, (.s 42)), (1, 1, (.s 44))]), a 46 (c 93 [40, 45]), am 47 46, d 48 (f 17 5) 47, d 49 (k 48) 47, d 50 (f 0 4) 47, d 51 (k 50) 47, r 52 (ia 2 49 51) 47, r 53 (l 2 52) 47, d 54 (f 6 4) 47, d 55 (k 54) 47, d 56 (f 0 4) 47, d 57 (k 56) 47, r 58 (ia 2 55 57) 47, r 59 (l 2 58) 47, r 60 (c 94 [53, 59]) 47, r 61 (bgj 60 0) 47, a 62 (ko 47 61)] [4, 5, 6, 10, 62]
 (.cond (.s 62) (rs [ol 63 12 10, p (t 12 6 63), o 7 (.mv (.c w)), o 8 (.mv (j 0))] [6, 7, 8]
 (.ret [6, 7, 8])) .skip))
 (rs [of 65 6 4, o 66 (k 65), of 67 17 5, o 68 (k 67), o 69 (.bsl 27 1 false 2 [(.nil 43 2 true), (.nil 43 2 true)] [(0, 1, (.s 66)), (1, 1, (.s 68))]), o 70 (c 95 [69]), om 64 70, o 71 (e 64 0), o 72 (e 64 1), of 73 6 10, p (t 1 73 71)] [6, 10]
 (rs [of 74 8 10, o 75 (k 74), of 76 6 10, o 77 (k 76), o 78 (c 96 [75, 77]), of 79 8 10, p (t 1 79 78)] [6, 10]
 (rs [of 80 9 10, o 81 (k 80), of 82 6 10, o 83 (k 82), o 84 (c 97 [81, 83]), of 85 9 10, p (t 1 85 84)] [6, 10]
 (rs [of 86 10 10, o 87 (k 86), of 88 6 10, o 89 (k 88), o 90 (c 98 [87, 89]), of 91 10 10, p (t 1 91 90)] [6, 10]
 (rs [of 92 11 10, o 93 (k 92), of 94 6 10, o 95 (k 94), o 96 (c 99 [93, 95]), of 97 11 10, p (t 1 97 96)] [6, 10]
 (rs [ol 98 12 10, p (t 12 6 98), o 7 (.mv (.c v)), o 8 (.mv (j 0))] [6, 7, 8]
 (.ret [6, 7, 8]))))))))))))))))⟩

def xf_change_handlers : XFunc := ⟨none, true, 0, [.cell 0 (some 3)], (rs [o 0 (.alloc [(.dat .nilf), (.dat .nilf), (.dat .nilf)])] [0]
 (rs [o 1 (.build [(.dat .nilf), (.dat .nilf), (.dat .nilf)] [(0, 1, (.c (.fn (.func 100) [] []))), (1, 1, (.c (.fn (.func 101) [] []))), (2, 1, (.c (.fn (.func 102) [] [])))]), p (t 3 0 1)] [0]
 (.ret [0])))⟩

def xf_plain_CopyVector : XFunc := ⟨none, false, 1, [.tmp 2], (rs [o 2 (.mv (.c (.nil 43 2 true)))] [0]
 (rs [om 3 0, o 4 (.app 43 2 16 true (.c (.nil 43 2 true)) (.s 3)), om 2 4] [2]
 (.ret [2])))⟩

def xf_ref07_Check : XFunc := ⟨none, true, 2, [.tmp 4], (rs [o 2 (bx 0), o 3 (bx 1), o 4 (.mv (j 0))] [2, 3]
 (.seq (rs [ol 7 4 2, o 8 (c 103 [7]), o 9 (nt 8)] [2, 3, 9]
 (.cond (.s 9) (rs [o 4 (.mv (j 1))] [4]
 (.ret [4])) .skip))
 (rs [of 10 0 3, o 11 (k 10), om 5 11] [2, 3, 5]
 (rs [om 12 5, o 13 (c 104 [12]), om 6 13] [2, 3, 5, 6]
 (.seq (rs [om 14 6, o 15 (le 14), o 16 (qj 15 0)] [2, 3, 5, 6, 16]
 (.cond (.s 16) (rs [o 4 (.mv (j 70))] [4]
 (.ret [4])) .skip))
 (.seq (ss [a 17 (l 18 3), am 18 6, a 19 (c 105 [17, 18]), a 20 (nt 19), am 21 20, d 22 (l 4 2) 21, d 23 (l 18 3) 21, d 24 (m 5) 21, d 25 (m 6) 21, r 26 (c 106 [22, 23, 24, 25]) 21, r 27 (nt 26) 21, a 28 (ko 21 27)] [28]
 (.cond (.s 28) (rs [o 4 (.mv (j 71))] [4]
 (.ret [4])) .skip))
 (rs [o 4 (.mv (j 0))] [4]
 (.ret [4]))))))))⟩
theorem r_law11_ChangeStarts : progT Tryz.prog 3 = some xf_law11_ChangeStarts.plain := by kernel_rfl
theorem r_law11_ChangeVotes : progT Tryz.prog 4 = some xf_law11_ChangeVotes.plain := by kernel_rfl
theorem r_law11_ChangeInstalls : progT Tryz.prog 5 = some xf_law11_ChangeInstalls.plain := by kernel_rfl
theorem r_law11_ChangeSuspects : progT Tryz.prog 6 = some xf_law11_ChangeSuspects.plain := by kernel_rfl
theorem r_change_Start : progT Tryz.prog 7 = some xf_change_Start.plain := by kernel_rfl
theorem r_plain_Given_State : progT Tryz.prog 8 = some xf_plain_Given_State.plain := by kernel_rfl
theorem r_plain_Given_Msg : progT Tryz.prog 9 = some xf_plain_Given_Msg.plain := by kernel_rfl
theorem r_ref11_Start : progT Tryz.prog 10 = some xf_ref11_Start.plain := by kernel_rfl
theorem r_law11_same : progT Tryz.prog 11 = some xf_law11_same.plain := by kernel_rfl
theorem r_plain_Given_Intact : progT Tryz.prog 12 = some xf_plain_Given_Intact.plain := by kernel_rfl
theorem r_law11_alive : progT Tryz.prog 13 = some xf_law11_alive.plain := by kernel_rfl
theorem r_change_Vote : progT Tryz.prog 14 = some xf_change_Vote.plain := by kernel_rfl
theorem r_ref11_Vote : progT Tryz.prog 15 = some xf_ref11_Vote.plain := by kernel_rfl
theorem r_change_Install : progT Tryz.prog 16 = some xf_change_Install.plain := by kernel_rfl
theorem r_ref11_Install : progT Tryz.prog 17 = some xf_ref11_Install.plain := by kernel_rfl
theorem r_change_Suspect : progT Tryz.prog 18 = some xf_change_Suspect.plain := by kernel_rfl
theorem r_ref11_Suspect : progT Tryz.prog 19 = some xf_ref11_Suspect.plain := by kernel_rfl
theorem r_change_Again : progT Tryz.prog 20 = some xf_change_Again.plain := by kernel_rfl
theorem r_ref11_Again : progT Tryz.prog 21 = some xf_ref11_Again.plain := by kernel_rfl
theorem r_law11_num : progT Tryz.prog 22 = some xf_law11_num.plain := by kernel_rfl
theorem r_plain_SameSends : progT Tryz.prog 23 = some xf_plain_SameSends.plain := by kernel_rfl
theorem r_change_handle : progT Tryz.prog 24 = some xf_change_handle.plain := by kernel_rfl
theorem r_plain_CopyState : progT Tryz.prog 25 = some xf_plain_CopyState.plain := by kernel_rfl
theorem r_plain_Given_Entries : progT Tryz.prog 26 = some xf_plain_Given_Entries.plain := by kernel_rfl
theorem r_plain_Given_Vector : progT Tryz.prog 27 = some xf_plain_Given_Vector.plain := by kernel_rfl
theorem r_ref11_admitted : progT Tryz.prog 28 = some xf_ref11_admitted.plain := by kernel_rfl
theorem r_ref11_goTo : progT Tryz.prog 29 = some xf_ref11_goTo.plain := by kernel_rfl
theorem r_ref11_ballot : progT Tryz.prog 30 = some xf_ref11_ballot.plain := by kernel_rfl
theorem r_plain_SameState : progT Tryz.prog 31 = some xf_plain_SameState.plain := by kernel_rfl
theorem r_plain_SameInts : progT Tryz.prog 33 = some xf_plain_SameInts.plain := by kernel_rfl
theorem r_plain_SameVector : progT Tryz.prog 34 = some xf_plain_SameVector.plain := by kernel_rfl
theorem r_plain_SameEntries : progT Tryz.prog 35 = some xf_plain_SameEntries.plain := by kernel_rfl
theorem r_law11_three : progT Tryz.prog 36 = some xf_law11_three.plain := by kernel_rfl
theorem r_law11_backup : progT Tryz.prog 37 = some xf_law11_backup.plain := by kernel_rfl
theorem r_ref09_Primary : progT Tryz.prog 38 = some xf_ref09_Primary.plain := by kernel_rfl
theorem r_ref11_put : progT Tryz.prog 39 = some xf_ref11_put.plain := by kernel_rfl
theorem r_plain_CopyEntries : progT Tryz.prog 40 = some xf_plain_CopyEntries.plain := by kernel_rfl
theorem r_ref11_lead : progT Tryz.prog 41 = some xf_ref11_lead.plain := by kernel_rfl
theorem r_ref11_bare : progT Tryz.prog 42 = some xf_ref11_bare.plain := by kernel_rfl
theorem r_ref09_One : progT Tryz.prog 43 = some xf_ref09_One.plain := by kernel_rfl
theorem r_core_Check : progT Tryz.prog 44 = some xf_core_Check.plain := by kernel_rfl
theorem r_core_Primary : progT Tryz.prog 45 = some xf_core_Primary.plain := by kernel_rfl
theorem r_core_Carry : progT Tryz.prog 46 = some xf_core_Carry.plain := by kernel_rfl
theorem r_change_frame_goes : progT Tryz.prog 47 = some xf_change_frame_goes.plain := by kernel_rfl
theorem r_ref09_Check : progT Tryz.prog 48 = some xf_ref09_Check.plain := by kernel_rfl
theorem r_change_frame_all : progT Tryz.prog 49 = some xf_change_frame_all.plain := by kernel_rfl
theorem r_tally_Marked : progT Tryz.prog 50 = some xf_tally_Marked.plain := by kernel_rfl
theorem r_change_frame_ballot : progT Tryz.prog 51 = some xf_change_frame_ballot.plain := by kernel_rfl
theorem r_ref09_All : progT Tryz.prog 52 = some xf_ref09_All.plain := by kernel_rfl
theorem r_plain_SameMsg : progT Tryz.prog 53 = some xf_plain_SameMsg.plain := by kernel_rfl
theorem r_message_Check : progT Tryz.prog 54 = some xf_message_Check.plain := by kernel_rfl
theorem r_core_Admit : progT Tryz.prog 55 = some xf_core_Admit.plain := by kernel_rfl
theorem r_change_handlers : progT Tryz.prog 56 = some xf_change_handlers.plain := by kernel_rfl
theorem r_plain_CopyVector : progT Tryz.prog 57 = some xf_plain_CopyVector.plain := by kernel_rfl
theorem r_ref07_Check : progT Tryz.prog 58 = some xf_ref07_Check.plain := by kernel_rfl

end Go.Ax
