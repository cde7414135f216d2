/-
  The functions of this seat as resolved code, and that the program resolves to them (part 3).
-/
import Derived.Test.YtponcchkfmbicaaGreatDoorXComp
import Derived.Test.YtponcchkfmbicaaGreatDoorXFn
import Derived.Test.YtponcchkfmbicaaGreatDoorXG
import Derived.Test.YtponcchkfmbicaaGreatDoorXP
import Derived.Test.YtponcchkfmbicaaGreatDoorProg
import Derived.KernelRfl
namespace Go.Ax
open Go.Proofs P

def xf_plain_Book_apartBytes_k1 : List (Nat × Option (Nat × Nat × Bool)) := [(3, some (136, 1, false)), (4, none), (5, none)]
def xf_plain_Book_apartBytes_b1 : XCode := (.seq (rs [om 22 5, om 23 3, om 24 4, o 25 (ia 1 23 24), o 26 (k 25), o 27 (le 26), o 28 (bl 22 27)] [3, 4, 5, 28]
 (.cond (.s 28) .skip (.exit 2 [3, 4])))
 (.seq (.block 3 (.reg [om 31 3, om 32 4, o 33 (ia 1 31 32), o 34 (k 33), om 35 5, om 36 4, om 37 5, o 38 (c 156 [36, 37]), o 39 (ia 1 34 35), p (t 1 39 38)] (some [(2, 7), (3, 7)]) [3, 4, 5]))
 (.reg [om 29 5, o 30 (baj 29 1), om 5 30] none [3, 4, 5])))
def xf_plain_Book_apartBytes_k0 : List (Nat × Option (Nat × Nat × Bool)) := [(3, some (136, 1, false)), (4, none)]
def xf_plain_Book_apartBytes_b0 : XCode := (.seq (rs [om 16 4, om 17 3, o 18 (le 17), o 19 (bl 16 18)] [3, 4, 19]
 (.cond (.s 19) .skip (.exit 0 [3])))
 (.seq (.block 1 (rs [o 5 (.mv (j 0))] [3, 4, 5]
 (.block 2 (.loop xf_plain_Book_apartBytes_k1 xf_plain_Book_apartBytes_b1))))
 (.reg [om 20 4, o 21 (baj 20 1), om 4 21] none [3, 4])))
def xf_plain_Book_apartBytes_k3 : List (Nat × Option (Nat × Nat × Bool)) := [(3, some (136, 1, false)), (6, some (136, 1, false)), (7, none), (8, some (5, 1, true)), (9, none)]
def xf_plain_Book_apartBytes_b3 : XCode := (.seq (rs [om 50 9, o 51 (blj 50 70)] [3, 6, 7, 8, 9, 51]
 (.cond (.s 51) .skip (.exit 6 [3, 6, 7, 8])))
 (.seq (.block 7 (.reg [om 54 8, om 55 7, om 56 8, o 57 (le 56), o 58 (c 156 [55, 57]), o 59 (.bsl 5 1 true 1 [(.dat (.int .u8 0))] [(0, 1, (.s 58))]), o 60 (.app 5 1 1 true (.s 54) (.s 59)), om 8 60] none [3, 6, 7, 8, 9]))
 (.reg [om 52 9, o 53 (baj 52 1), om 9 53] none [3, 6, 7, 8, 9])))
def xf_plain_Book_apartBytes_k2 : List (Nat × Option (Nat × Nat × Bool)) := [(3, some (136, 1, false)), (6, some (136, 1, false)), (7, none)]
def xf_plain_Book_apartBytes_b2 : XCode := (.seq (rs [om 40 7, om 41 3, o 42 (le 41), o 43 (bl 40 42)] [3, 6, 7, 43]
 (.cond (.s 43) .skip (.exit 4 [3, 6])))
 (.seq (.block 5 (rs [om 46 3, om 47 7, o 48 (ia 1 46 47), o 49 (k 48), om 8 49] [3, 6, 7, 8]
 (.seq (rs [o 9 (.mv (j 0))] [3, 6, 7, 8, 9]
 (.block 6 (.loop xf_plain_Book_apartBytes_k3 xf_plain_Book_apartBytes_b3)))
 (.reg [om 61 6, om 62 8, o 63 (.bsl 136 1 false 1 [(.nil 5 1 true)] [(0, 1, (.s 62))]), o 64 (.app 136 1 24 false (.s 61) (.s 63)), om 6 64] none [3, 6, 7]))))
 (.reg [om 44 7, o 45 (baj 44 1), om 7 45] none [3, 6, 7])))
def xf_plain_Book_apartBytes_k5 : List (Nat × Option (Nat × Nat × Bool)) := [(3, some (136, 1, false)), (6, some (136, 1, false)), (10, none), (11, none)]
def xf_plain_Book_apartBytes_b5 : XCode := (.seq (rs [om 71 11, om 72 6, om 73 10, o 74 (ia 1 72 73), o 75 (k 74), o 76 (le 75), o 77 (bl 71 76)] [3, 6, 10, 11, 77]
 (.cond (.s 77) .skip (.exit 10 [3, 6, 10])))
 (.seq (.block 11 (sp (some [(2, 9), (3, 9), (5, 9), (6, 9), (22, 29), (23, 29), (25, 29), (26, 29)]) [am 80 6, am 81 10, a 82 (ia 1 80 81), a 83 (k 82), am 84 11, a 85 (ia 1 83 84), a 86 (k 85), am 87 10, am 88 11, a 89 (c 156 [87, 88]), a 90 (n 86 89), am 91 90, d 92 (m 11) 91, d 93 (m 3) 91, d 94 (m 10) 91, (⟨(some 95), ia 1 93 94, some (91, false)⟩, false), (⟨(some 96), k 95, some (91, false)⟩, false), (⟨(some 97), le 96, some (91, false)⟩, false), (⟨(some 98), bl 92 97, some (91, false)⟩, false), (⟨(some 99), m 98, some (91, false)⟩, false), bb 100 3 99, bb 101 10 99, (g 102 (ia 1 100 101) 99, false), (g 103 (k 102) 99, false), bb 104 11 99, (g 105 (ia 1 103 104) 99, false), (g 106 (k 105) 99, false), bb 107 10 99, bb 108 11 99, (g 109 (c 156 [107, 108]) 99, false), (g 110 (n 106 109) 99, false), (⟨(some 111), ka 99 110, some (91, false)⟩, false), a 112 (ko 91 111)] [3, 6, 10, 11, 112]
 (.cond (.s 112) (rs [o 2 (.mv (.c w))] [2]
 (.ret [2])) .skip)))
 (.reg [om 78 11, o 79 (baj 78 1), om 11 79] none [3, 6, 10, 11])))
def xf_plain_Book_apartBytes_k4 : List (Nat × Option (Nat × Nat × Bool)) := [(3, some (136, 1, false)), (6, some (136, 1, false)), (10, none)]
def xf_plain_Book_apartBytes_b4 : XCode := (.seq (rs [om 65 10, om 66 3, o 67 (le 66), o 68 (bl 65 67)] [3, 6, 10, 68]
 (.cond (.s 68) .skip (.exit 8 [])))
 (.seq (.block 9 (rs [o 11 (.mv (j 0))] [3, 6, 10, 11]
 (.block 10 (.loop xf_plain_Book_apartBytes_k5 xf_plain_Book_apartBytes_b5))))
 (.reg [om 69 10, o 70 (baj 69 1), om 10 70] none [3, 6, 10])))
def xf_plain_Book_apartBytes : XFunc := ⟨none, false, 1, [.tmp 2], (rs [o 2 (.mv (.c w))] [0]
 (rs [om 12 0, o 13 (nc 12), of 14 0 13, o 15 (k 14), om 3 15] [3]
 (.seq (rs [o 4 (.mv (j 0))] [3, 4]
 (.block 0 (.loop xf_plain_Book_apartBytes_k0 xf_plain_Book_apartBytes_b0)))
 (rs [o 6 (.mv (.c (.nil 136 1 false)))] [3, 6]
 (.seq (rs [o 7 (.mv (j 0))] [3, 6, 7]
 (.block 4 (.loop xf_plain_Book_apartBytes_k2 xf_plain_Book_apartBytes_b2)))
 (.seq (rs [o 10 (.mv (j 0))] [3, 6, 10]
 (.block 8 (.loop xf_plain_Book_apartBytes_k4 xf_plain_Book_apartBytes_b4)))
 (rs [o 2 (.mv (.c v))] [2]
 (.ret [2]))))))))⟩

def xf_plain_Book_apartInts_k1 : List (Nat × Option (Nat × Nat × Bool)) := [(3, some (138, 1, false)), (4, none), (5, none)]
def xf_plain_Book_apartInts_b1 : XCode := (.seq (rs [om 22 5, om 23 3, om 24 4, o 25 (ia 1 23 24), o 26 (k 25), o 27 (le 26), o 28 (bl 22 27)] [3, 4, 5, 28]
 (.cond (.s 28) .skip (.exit 2 [3, 4])))
 (.seq (.block 3 (.reg [om 31 3, om 32 4, o 33 (ia 1 31 32), o 34 (k 33), om 35 5, om 36 4, om 37 5, o 38 (c 157 [36, 37]), o 39 (ia 1 34 35), p (t 1 39 38)] (some [(2, 7), (3, 7)]) [3, 4, 5]))
 (.reg [om 29 5, o 30 (baj 29 1), om 5 30] none [3, 4, 5])))
def xf_plain_Book_apartInts_k0 : List (Nat × Option (Nat × Nat × Bool)) := [(3, some (138, 1, false)), (4, none)]
def xf_plain_Book_apartInts_b0 : XCode := (.seq (rs [om 16 4, om 17 3, o 18 (le 17), o 19 (bl 16 18)] [3, 4, 19]
 (.cond (.s 19) .skip (.exit 0 [3])))
 (.seq (.block 1 (rs [o 5 (.mv (j 0))] [3, 4, 5]
 (.block 2 (.loop xf_plain_Book_apartInts_k1 xf_plain_Book_apartInts_b1))))
 (.reg [om 20 4, o 21 (baj 20 1), om 4 21] none [3, 4])))
def xf_plain_Book_apartInts_k3 : List (Nat × Option (Nat × Nat × Bool)) := [(3, some (138, 1, false)), (6, some (138, 1, false)), (7, none), (8, some (3, 1, true)), (9, none)]
def xf_plain_Book_apartInts_b3 : XCode := (.seq (rs [om 50 9, o 51 (blj 50 70)] [3, 6, 7, 8, 9, 51]
 (.cond (.s 51) .skip (.exit 6 [3, 6, 7, 8])))
 (.seq (.block 7 (.reg [om 54 8, om 55 7, om 56 8, o 57 (le 56), o 58 (c 157 [55, 57]), o 59 (.bsl 3 1 true 1 [z] [(0, 1, (.s 58))]), o 60 (.app 3 1 8 true (.s 54) (.s 59)), om 8 60] none [3, 6, 7, 8, 9]))
 (.reg [om 52 9, o 53 (baj 52 1), om 9 53] none [3, 6, 7, 8, 9])))
def xf_plain_Book_apartInts_k2 : List (Nat × Option (Nat × Nat × Bool)) := [(3, some (138, 1, false)), (6, some (138, 1, false)), (7, none)]
def xf_plain_Book_apartInts_b2 : XCode := (.seq (rs [om 40 7, om 41 3, o 42 (le 41), o 43 (bl 40 42)] [3, 6, 7, 43]
 (.cond (.s 43) .skip (.exit 4 [3, 6])))
 (.seq (.block 5 (rs [om 46 3, om 47 7, o 48 (ia 1 46 47), o 49 (k 48), om 8 49] [3, 6, 7, 8]
 (.seq (rs [o 9 (.mv (j 0))] [3, 6, 7, 8, 9]
 (.block 6 (.loop xf_plain_Book_apartInts_k3 xf_plain_Book_apartInts_b3)))
 (.reg [om 61 6, om 62 8, o 63 (.bsl 138 1 false 1 [(.nil 3 1 true)] [(0, 1, (.s 62))]), o 64 (.app 138 1 24 false (.s 61) (.s 63)), om 6 64] none [3, 6, 7]))))
 (.reg [om 44 7, o 45 (baj 44 1), om 7 45] none [3, 6, 7])))
def xf_plain_Book_apartInts_k5 : List (Nat × Option (Nat × Nat × Bool)) := [(3, some (138, 1, false)), (6, some (138, 1, false)), (10, none), (11, none)]
def xf_plain_Book_apartInts_b5 : XCode := (.seq (rs [om 71 11, om 72 6, om 73 10, o 74 (ia 1 72 73), o 75 (k 74), o 76 (le 75), o 77 (bl 71 76)] [3, 6, 10, 11, 77]
 (.cond (.s 77) .skip (.exit 10 [3, 6, 10])))
 (.seq (.block 11 (sp (some [(2, 9), (3, 9), (5, 9), (6, 9), (22, 29), (23, 29), (25, 29), (26, 29)]) [am 80 6, am 81 10, a 82 (ia 1 80 81), a 83 (k 82), am 84 11, a 85 (ia 1 83 84), a 86 (k 85), am 87 10, am 88 11, a 89 (c 157 [87, 88]), a 90 (n 86 89), am 91 90, d 92 (m 11) 91, d 93 (m 3) 91, d 94 (m 10) 91, (⟨(some 95), ia 1 93 94, some (91, false)⟩, false), (⟨(some 96), k 95, some (91, false)⟩, false), (⟨(some 97), le 96, some (91, false)⟩, false), (⟨(some 98), bl 92 97, some (91, false)⟩, false), (⟨(some 99), m 98, some (91, false)⟩, false), bb 100 3 99, bb 101 10 99, (g 102 (ia 1 100 101) 99, false), (g 103 (k 102) 99, false), bb 104 11 99, (g 105 (ia 1 103 104) 99, false), (g 106 (k 105) 99, false), bb 107 10 99, bb 108 11 99, (g 109 (c 157 [107, 108]) 99, false), (g 110 (n 106 109) 99, false), (⟨(some 111), ka 99 110, some (91, false)⟩, false), a 112 (ko 91 111)] [3, 6, 10, 11, 112]
 (.cond (.s 112) (rs [o 2 (.mv (.c w))] [2]
 (.ret [2])) .skip)))
 (.reg [om 78 11, o 79 (baj 78 1), om 11 79] none [3, 6, 10, 11])))
def xf_plain_Book_apartInts_k4 : List (Nat × Option (Nat × Nat × Bool)) := [(3, some (138, 1, false)), (6, some (138, 1, false)), (10, none)]
def xf_plain_Book_apartInts_b4 : XCode := (.seq (rs [om 65 10, om 66 3, o 67 (le 66), o 68 (bl 65 67)] [3, 6, 10, 68]
 (.cond (.s 68) .skip (.exit 8 [])))
 (.seq (.block 9 (rs [o 11 (.mv (j 0))] [3, 6, 10, 11]
 (.block 10 (.loop xf_plain_Book_apartInts_k5 xf_plain_Book_apartInts_b5))))
 (.reg [om 69 10, o 70 (baj 69 1), om 10 70] none [3, 6, 10])))
def xf_plain_Book_apartInts : XFunc := ⟨none, false, 1, [.tmp 2], (rs [o 2 (.mv (.c w))] [0]
 (rs [om 12 0, o 13 (nc 12), of 14 1 13, o 15 (k 14), om 3 15] [3]
 (.seq (rs [o 4 (.mv (j 0))] [3, 4]
 (.block 0 (.loop xf_plain_Book_apartInts_k0 xf_plain_Book_apartInts_b0)))
 (rs [o 6 (.mv (.c (.nil 138 1 false)))] [3, 6]
 (.seq (rs [o 7 (.mv (j 0))] [3, 6, 7]
 (.block 4 (.loop xf_plain_Book_apartInts_k2 xf_plain_Book_apartInts_b2)))
 (.seq (rs [o 10 (.mv (j 0))] [3, 6, 10]
 (.block 8 (.loop xf_plain_Book_apartInts_k4 xf_plain_Book_apartInts_b4)))
 (rs [o 2 (.mv (.c v))] [2]
 (.ret [2]))))))))⟩

def xf_plain_Book_apartVector_k1 : List (Nat × Option (Nat × Nat × Bool)) := [(3, some (27, 1, false)), (4, none), (5, none)]
def xf_plain_Book_apartVector_b1 : XCode := (.seq (rs [om 22 5, om 23 3, om 24 4, o 25 (ia 1 23 24), o 26 (k 25), o 27 (le 26), o 28 (bl 22 27)] [3, 4, 5, 28]
 (.cond (.s 28) .skip (.exit 2 [3, 4])))
 (.seq (.block 3 (.reg [om 31 3, om 32 4, o 33 (ia 1 31 32), o 34 (k 33), om 35 5, om 36 4, om 37 5, o 38 (c 158 [36, 37]), o 39 (ia 2 34 35), p (t 2 39 38)] (some [(2, 7), (3, 7)]) [3, 4, 5]))
 (.reg [om 29 5, o 30 (baj 29 1), om 5 30] none [3, 4, 5])))
def xf_plain_Book_apartVector_k0 : List (Nat × Option (Nat × Nat × Bool)) := [(3, some (27, 1, false)), (4, none)]
def xf_plain_Book_apartVector_b0 : XCode := (.seq (rs [om 16 4, om 17 3, o 18 (le 17), o 19 (bl 16 18)] [3, 4, 19]
 (.cond (.s 19) .skip (.exit 0 [3])))
 (.seq (.block 1 (rs [o 5 (.mv (j 0))] [3, 4, 5]
 (.block 2 (.loop xf_plain_Book_apartVector_k1 xf_plain_Book_apartVector_b1))))
 (.reg [om 20 4, o 21 (baj 20 1), om 4 21] none [3, 4])))
def xf_plain_Book_apartVector_k3 : List (Nat × Option (Nat × Nat × Bool)) := [(3, some (27, 1, false)), (6, some (27, 1, false)), (7, none), (8, some (43, 2, true)), (9, none)]
def xf_plain_Book_apartVector_b3 : XCode := (.seq (rs [om 50 9, o 51 (blj 50 70)] [3, 6, 7, 8, 9, 51]
 (.cond (.s 51) .skip (.exit 6 [3, 6, 7, 8])))
 (.seq (.block 7 (.reg [om 54 8, om 55 7, om 56 8, o 57 (le 56), o 58 (c 158 [55, 57]), o 59 (.bsl 43 2 true 1 [y, y] [(0, 2, (.s 58))]), o 60 (.app 43 2 16 true (.s 54) (.s 59)), om 8 60] none [3, 6, 7, 8, 9]))
 (.reg [om 52 9, o 53 (baj 52 1), om 9 53] none [3, 6, 7, 8, 9])))
def xf_plain_Book_apartVector_k2 : List (Nat × Option (Nat × Nat × Bool)) := [(3, some (27, 1, false)), (6, some (27, 1, false)), (7, none)]
def xf_plain_Book_apartVector_b2 : XCode := (.seq (rs [om 40 7, om 41 3, o 42 (le 41), o 43 (bl 40 42)] [3, 6, 7, 43]
 (.cond (.s 43) .skip (.exit 4 [3, 6])))
 (.seq (.block 5 (rs [om 46 3, om 47 7, o 48 (ia 1 46 47), o 49 (k 48), om 8 49] [3, 6, 7, 8]
 (.seq (rs [o 9 (.mv (j 0))] [3, 6, 7, 8, 9]
 (.block 6 (.loop xf_plain_Book_apartVector_k3 xf_plain_Book_apartVector_b3)))
 (.reg [om 61 6, om 62 8, o 63 (.bsl 27 1 false 1 [(.nil 43 2 true)] [(0, 1, (.s 62))]), o 64 (.app 27 1 24 false (.s 61) (.s 63)), om 6 64] none [3, 6, 7]))))
 (.reg [om 44 7, o 45 (baj 44 1), om 7 45] none [3, 6, 7])))
def xf_plain_Book_apartVector_k5 : List (Nat × Option (Nat × Nat × Bool)) := [(3, some (27, 1, false)), (6, some (27, 1, false)), (10, none), (11, none)]
def xf_plain_Book_apartVector_b5 : XCode := (.seq (rs [om 71 11, om 72 6, om 73 10, o 74 (ia 1 72 73), o 75 (k 74), o 76 (le 75), o 77 (bl 71 76)] [3, 6, 10, 11, 77]
 (.cond (.s 77) .skip (.exit 10 [3, 6, 10])))
 (.seq (.block 11 (sp (some [(2, 9), (3, 9), (5, 9), (6, 9), (22, 29), (23, 29), (25, 29), (26, 29)]) [am 80 6, am 81 10, a 82 (ia 1 80 81), a 83 (k 82), am 84 11, a 85 (ia 2 83 84), a 86 (l 2 85), am 87 10, am 88 11, a 89 (c 158 [87, 88]), a 90 (.eqv true true [.i, .i] (.s 86) (.s 89)), am 91 90, d 92 (m 11) 91, d 93 (m 3) 91, d 94 (m 10) 91, (⟨(some 95), ia 1 93 94, some (91, false)⟩, false), (⟨(some 96), k 95, some (91, false)⟩, false), (⟨(some 97), le 96, some (91, false)⟩, false), (⟨(some 98), bl 92 97, some (91, false)⟩, false), (⟨(some 99), m 98, some (91, false)⟩, false), bb 100 3 99, bb 101 10 99, (g 102 (ia 1 100 101) 99, false), (g 103 (k 102) 99, false), bb 104 11 99, (g 105 (ia 2 103 104) 99, false), (g 106 (l 2 105) 99, false), bb 107 10 99, bb 108 11 99, (g 109 (c 158 [107, 108]) 99, false), (g 110 (.eqv true true [.i, .i] (.s 106) (.s 109)) 99, false), (⟨(some 111), ka 99 110, some (91, false)⟩, false), a 112 (ko 91 111)] [3, 6, 10, 11, 112]
 (.cond (.s 112) (rs [o 2 (.mv (.c w))] [2]
 (.ret [2])) .skip)))
 (.reg [om 78 11, o 79 (baj 78 1), om 11 79] none [3, 6, 10, 11])))
def xf_plain_Book_apartVector_k4 : List (Nat × Option (Nat × Nat × Bool)) := [(3, some (27, 1, false)), (6, some (27, 1, false)), (10, none)]
def xf_plain_Book_apartVector_b4 : XCode := (.seq (rs [om 65 10, om 66 3, o 67 (le 66), o 68 (bl 65 67)] [3, 6, 10, 68]
 (.cond (.s 68) .skip (.exit 8 [])))
 (.seq (.block 9 (rs [o 11 (.mv (j 0))] [3, 6, 10, 11]
 (.block 10 (.loop xf_plain_Book_apartVector_k5 xf_plain_Book_apartVector_b5))))
 (.reg [om 69 10, o 70 (baj 69 1), om 10 70] none [3, 6, 10])))
def xf_plain_Book_apartVector : XFunc := ⟨none, false, 1, [.tmp 2], (rs [o 2 (.mv (.c w))] [0]
 (rs [om 12 0, o 13 (nc 12), of 14 2 13, o 15 (k 14), om 3 15] [3]
 (.seq (rs [o 4 (.mv (j 0))] [3, 4]
 (.block 0 (.loop xf_plain_Book_apartVector_k0 xf_plain_Book_apartVector_b0)))
 (rs [o 6 (.mv (.c (.nil 27 1 false)))] [3, 6]
 (.seq (rs [o 7 (.mv (j 0))] [3, 6, 7]
 (.block 4 (.loop xf_plain_Book_apartVector_k2 xf_plain_Book_apartVector_b2)))
 (.seq (rs [o 10 (.mv (j 0))] [3, 6, 10]
 (.block 8 (.loop xf_plain_Book_apartVector_k4 xf_plain_Book_apartVector_b4)))
 (rs [o 2 (.mv (.c v))] [2]
 (.ret [2]))))))))⟩

def xf_plain_Book_apartEntries_k1 : List (Nat × Option (Nat × Nat × Bool)) := [(3, some (25, 1, false)), (4, none), (5, none)]
def xf_plain_Book_apartEntries_b1 : XCode := (.seq (rs [om 22 5, om 23 3, om 24 4, o 25 (ia 1 23 24), o 26 (k 25), o 27 (le 26), o 28 (bl 22 27)] [3, 4, 5, 28]
 (.cond (.s 28) .skip (.exit 2 [3, 4])))
 (.seq (.block 3 (.reg [om 31 3, om 32 4, o 33 (ia 1 31 32), o 34 (k 33), om 35 5, om 36 4, om 37 5, o 38 (c 159 [36, 37]), o 39 (ia 5 34 35), p (t 5 39 38)] (some [(2, 7), (3, 7)]) [3, 4, 5]))
 (.reg [om 29 5, o 30 (baj 29 1), om 5 30] none [3, 4, 5])))
def xf_plain_Book_apartEntries_k0 : List (Nat × Option (Nat × Nat × Bool)) := [(3, some (25, 1, false)), (4, none)]
def xf_plain_Book_apartEntries_b0 : XCode := (.seq (rs [om 16 4, om 17 3, o 18 (le 17), o 19 (bl 16 18)] [3, 4, 19]
 (.cond (.s 19) .skip (.exit 0 [3])))
 (.seq (.block 1 (rs [o 5 (.mv (j 0))] [3, 4, 5]
 (.block 2 (.loop xf_plain_Book_apartEntries_k1 xf_plain_Book_apartEntries_b1))))
 (.reg [om 20 4, o 21 (baj 20 1), om 4 21] none [3, 4])))
def xf_plain_Book_apartEntries_k3 : List (Nat × Option (Nat × Nat × Bool)) := [(3, some (25, 1, false)), (6, some (25, 1, false)), (7, none), (8, some (38, 5, true)), (9, none)]
def xf_plain_Book_apartEntries_b3 : XCode := (.seq (rs [om 50 9, o 51 (blj 50 70)] [3, 6, 7, 8, 9, 51]
 (.cond (.s 51) .skip (.exit 6 [3, 6, 7, 8])))
 (.seq (.block 7 (.reg [om 54 8, om 55 7, om 56 8, o 57 (le 56), o 58 (c 159 [55, 57]), o 59 (.bsl 38 5 true 1 l11 [(0, 5, (.s 58))]), o 60 (.app 38 5 48 true (.s 54) (.s 59)), om 8 60] none [3, 6, 7, 8, 9]))
 (.reg [om 52 9, o 53 (baj 52 1), om 9 53] none [3, 6, 7, 8, 9])))
def xf_plain_Book_apartEntries_k2 : List (Nat × Option (Nat × Nat × Bool)) := [(3, some (25, 1, false)), (6, some (25, 1, false)), (7, none)]
def xf_plain_Book_apartEntries_b2 : XCode := (.seq (rs [om 40 7, om 41 3, o 42 (le 41), o 43 (bl 40 42)] [3, 6, 7, 43]
 (.cond (.s 43) .skip (.exit 4 [3, 6])))
 (.seq (.block 5 (rs [om 46 3, om 47 7, o 48 (ia 1 46 47), o 49 (k 48), om 8 49] [3, 6, 7, 8]
 (.seq (rs [o 9 (.mv (j 0))] [3, 6, 7, 8, 9]
 (.block 6 (.loop xf_plain_Book_apartEntries_k3 xf_plain_Book_apartEntries_b3)))
 (.reg [om 61 6, om 62 8, o 63 (.bsl 25 1 false 1 [(.nil 38 5 true)] [(0, 1, (.s 62))]), o 64 (.app 25 1 24 false (.s 61) (.s 63)), om 6 64] none [3, 6, 7]))))
 (.reg [om 44 7, o 45 (baj 44 1), om 7 45] none [3, 6, 7])))
def xf_plain_Book_apartEntries_k5 : List (Nat × Option (Nat × Nat × Bool)) := [(3, some (25, 1, false)), (6, some (25, 1, false)), (10, none), (11, none)]
def xf_plain_Book_apartEntries_b5 : XCode := (.seq (rs [om 71 11, om 72 6, om 73 10, o 74 (ia 1 72 73), o 75 (k 74), o 76 (le 75), o 77 (bl 71 76)] [3, 6, 10, 11, 77]
 (.cond (.s 77) .skip (.exit 10 [3, 6, 10])))
 (.seq (.block 11 (sp (some [(2, 9), (3, 9), (5, 9), (6, 9), (22, 29), (23, 29), (25, 29), (26, 29)]) [am 80 6, am 81 10, a 82 (ia 1 80 81), a 83 (k 82), am 84 11, a 85 (ia 5 83 84), a 86 (l 5 85), am 87 10, am 88 11, a 89 (c 159 [87, 88]), a 90 (.eqv true true [.i, .i, .i, .i, .s] (.s 86) (.s 89)), am 91 90, d 92 (m 11) 91, d 93 (m 3) 91, d 94 (m 10) 91, (⟨(some 95), ia 1 93 94, some (91, false)⟩, false), (⟨(some 96), k 95, some (91, false)⟩, false), (⟨(some 97), le 96, some (91, false)⟩, false), (⟨(some 98), bl 92 97, some (91, false)⟩, false), (⟨(some 99), m 98, some (91, false)⟩, false), bb 100 3 99, bb 101 10 99, (g 102 (ia 1 100 101) 99, false), (g 103 (k 102) 99, false), bb 104 11 99, (g 105 (ia 5 103 104) 99, false), (g 106 (l 5 105) 99, false), bb 107 10 99, bb 108 11 99, (g 109 (c 159 [107, 108]) 99, false), (g 110 (.eqv true true [.i, .i, .i, .i, .s] (.s 106) (.s 109)) 99, false), (⟨(some 111), ka 99 110, some (91, false)⟩, false), a 112 (ko 91 111)] [3, 6, 10, 11, 112]
 (.cond (.s 112) (rs [o 2 (.mv (.c w))] [2]
 (.ret [2])) .skip)))
 (.reg [om 78 11, o 79 (baj 78 1), om 11 79] none [3, 6, 10, 11])))
def xf_plain_Book_apartEntries_k4 : List (Nat × Option (Nat × Nat × Bool)) := [(3, some (25, 1, false)), (6, some (25, 1, false)), (10, none)]
def xf_plain_Book_apartEntries_b4 : XCode := (.seq (rs [om 65 10, om 66 3, o 67 (le 66), o 68 (bl 65 67)] [3, 6, 10, 68]
 (.cond (.s 68) .skip (.exit 8 [])))
 (.seq (.block 9 (rs [o 11 (.mv (j 0))] [3, 6, 10, 11]
 (.block 10 (.loop xf_plain_Book_apartEntries_k5 xf_plain_Book_apartEntries_b5))))
 (.reg [om 69 10, o 70 (baj 69 1), om 10 70] none [3, 6, 10])))
def xf_plain_Book_apartEntries : XFunc := ⟨none, false, 1, [.tmp 2], (rs [o 2 (.mv (.c w))] [0]
 (rs [om 12 0, o 13 (nc 12), of 14 3 13, o 15 (k 14), om 3 15] [3]
 (.seq (rs [o 4 (.mv (j 0))] [3, 4]
 (.block 0 (.loop xf_plain_Book_apartEntries_k0 xf_plain_Book_apartEntries_b0)))
 (rs [o 6 (.mv (.c (.nil 25 1 false)))] [3, 6]
 (.seq (rs [o 7 (.mv (j 0))] [3, 6, 7]
 (.block 4 (.loop xf_plain_Book_apartEntries_k2 xf_plain_Book_apartEntries_b2)))
 (.seq (rs [o 10 (.mv (j 0))] [3, 6, 10]
 (.block 8 (.loop xf_plain_Book_apartEntries_k4 xf_plain_Book_apartEntries_b4)))
 (rs [o 2 (.mv (.c v))] [2]
 (.ret [2]))))))))⟩

def xf_plain_Book_apartCells_k1 : List (Nat × Option (Nat × Nat × Bool)) := [(3, some (235, 1, false)), (4, none), (5, none)]
def xf_plain_Book_apartCells_b1 : XCode := (.seq (rs [om 22 5, om 23 3, om 24 4, o 25 (ia 1 23 24), o 26 (k 25), o 27 (le 26), o 28 (bl 22 27)] [3, 4, 5, 28]
 (.cond (.s 28) .skip (.exit 2 [3, 4])))
 (.seq (.block 3 (.reg [om 31 3, om 32 4, o 33 (ia 1 31 32), o 34 (k 33), om 35 5, om 36 4, om 37 5, o 38 (c 160 [36, 37]), o 39 (ia 2 34 35), p (t 2 39 38)] (some [(2, 7), (3, 7)]) [3, 4, 5]))
 (.reg [om 29 5, o 30 (baj 29 1), om 5 30] none [3, 4, 5])))
def xf_plain_Book_apartCells_k0 : List (Nat × Option (Nat × Nat × Bool)) := [(3, some (235, 1, false)), (4, none)]
def xf_plain_Book_apartCells_b0 : XCode := (.seq (rs [om 16 4, om 17 3, o 18 (le 17), o 19 (bl 16 18)] [3, 4, 19]
 (.cond (.s 19) .skip (.exit 0 [3])))
 (.seq (.block 1 (rs [o 5 (.mv (j 0))] [3, 4, 5]
 (.block 2 (.loop xf_plain_Book_apartCells_k1 xf_plain_Book_apartCells_b1))))
 (.reg [om 20 4, o 21 (baj 20 1), om 4 21] none [3, 4])))
def xf_plain_Book_apartCells_k3 : List (Nat × Option (Nat × Nat × Bool)) := [(3, some (235, 1, false)), (6, some (235, 1, false)), (7, none), (8, some (237, 2, true)), (9, none)]
def xf_plain_Book_apartCells_b3 : XCode := (.seq (rs [om 50 9, o 51 (blj 50 70)] [3, 6, 7, 8, 9, 51]
 (.cond (.s 51) .skip (.exit 6 [3, 6, 7, 8])))
 (.seq (.block 7 (.reg [om 54 8, om 55 7, om 56 8, o 57 (le 56), o 58 (c 160 [55, 57]), o 59 (.bsl 237 2 true 1 [z, x] [(0, 2, (.s 58))]), o 60 (.app 237 2 24 true (.s 54) (.s 59)), om 8 60] none [3, 6, 7, 8, 9]))
 (.reg [om 52 9, o 53 (baj 52 1), om 9 53] none [3, 6, 7, 8, 9])))
def xf_plain_Book_apartCells_k2 : List (Nat × Option (Nat × Nat × Bool)) := [(3, some (235, 1, false)), (6, some (235, 1, false)), (7, none)]
def xf_plain_Book_apartCells_b2 : XCode := (.seq (rs [om 40 7, om 41 3, o 42 (le 41), o 43 (bl 40 42)] [3, 6, 7, 43]
 (.cond (.s 43) .skip (.exit 4 [3, 6])))
 (.seq (.block 5 (rs [om 46 3, om 47 7, o 48 (ia 1 46 47), o 49 (k 48), om 8 49] [3, 6, 7, 8]
 (.seq (rs [o 9 (.mv (j 0))] [3, 6, 7, 8, 9]
 (.block 6 (.loop xf_plain_Book_apartCells_k3 xf_plain_Book_apartCells_b3)))
 (.reg [om 61 6, om 62 8, o 63 (.bsl 235 1 false 1 [(.nil 237 2 true)] [(0, 1, (.s 62))]), o 64 (.app 235 1 24 false (.s 61) (.s 63)), om 6 64] none [3, 6, 7]))))
 (.reg [om 44 7, o 45 (baj 44 1), om 7 45] none [3, 6, 7])))
def xf_plain_Book_apartCells_k5 : List (Nat × Option (Nat × Nat × Bool)) := [(3, some (235, 1, false)), (6, some (235, 1, false)), (10, none), (11, none)]
def xf_plain_Book_apartCells_b5 : XCode := (.seq (rs [om 71 11, om 72 6, om 73 10, o 74 (ia 1 72 73), o 75 (k 74), o 76 (le 75), o 77 (bl 71 76)] [3, 6, 10, 11, 77]
 (.cond (.s 77) .skip (.exit 10 [3, 6, 10])))
 (.seq (.block 11 (sp (some [(2, 9), (3, 9), (5, 9), (6, 9), (22, 29), (23, 29), (25, 29), (26, 29)]) [am 80 6, am 81 10, a 82 (ia 1 80 81), a 83 (k 82), am 84 11, a 85 (ia 2 83 84), a 86 (l 2 85), am 87 10, am 88 11, a 89 (c 160 [87, 88]), a 90 (.eqv true true [.i, .s] (.s 86) (.s 89)), am 91 90, d 92 (m 11) 91, d 93 (m 3) 91, d 94 (m 10) 91, (⟨(some 95), ia 1 93 94, some (91, false)⟩, false), (⟨(some 96), k 95, some (91, false)⟩, false), (⟨(some 97), le 96, some (91, false)⟩, false), (⟨(some 98), bl 92 97, some (91, false)⟩, false), (⟨(some 99), m 98, some (91, false)⟩, false), bb 100 3 99, bb 101 10 99, (g 102 (ia 1 100 101) 99, false), (g 103 (k 102) 99, false), bb 104 11 99, (g 105 (ia 2 103 104) 99, false), (g 106 (l 2 105) 99, false), bb 107 10 99, bb 108 11 99, (g 109 (c 160 [107, 108]) 99, false), (g 110 (.eqv true true [.i, .s] (.s 106) (.s 109)) 99, false), (⟨(some 111), ka 99 110, some (91, false)⟩, false), a 112 (ko 91 111)] [3, 6, 10, 11, 112]
 (.cond (.s 112) (rs [o 2 (.mv (.c w))] [2]
 (.ret [2])) .skip)))
 (.reg [om 78 11, o 79 (baj 78 1), om 11 79] none [3, 6, 10, 11])))
def xf_plain_Book_apartCells_k4 : List (Nat × Option (Nat × Nat × Bool)) := [(3, some (235, 1, false)), (6, some (235, 1, false)), (10, none)]
def xf_plain_Book_apartCells_b4 : XCode := (.seq (rs [om 65 10, om 66 3, o 67 (le 66), o 68 (bl 65 67)] [3, 6, 10, 68]
 (.cond (.s 68) .skip (.exit 8 [])))
 (.seq (.block 9 (rs [o 11 (.mv (j 0))] [3, 6, 10, 11]
 (.block 10 (.loop xf_plain_Book_apartCells_k5 xf_plain_Book_apartCells_b5))))
 (.reg [om 69 10, o 70 (baj 69 1), om 10 70] none [3, 6, 10])))
def xf_plain_Book_apartCells : XFunc := ⟨none, false, 1, [.tmp 2], (rs [o 2 (.mv (.c w))] [0]
 (rs [om 12 0, o 13 (nc 12), of 14 4 13, o 15 (k 14), om 3 15] [3]
 (.seq (rs [o 4 (.mv (j 0))] [3, 4]
 (.block 0 (.loop xf_plain_Book_apartCells_k0 xf_plain_Book_apartCells_b0)))
 (rs [o 6 (.mv (.c (.nil 235 1 false)))] [3, 6]
 (.seq (rs [o 7 (.mv (j 0))] [3, 6, 7]
 (.block 4 (.loop xf_plain_Book_apartCells_k2 xf_plain_Book_apartCells_b2)))
 (.seq (rs [o 10 (.mv (j 0))] [3, 6, 10]
 (.block 8 (.loop xf_plain_Book_apartCells_k4 xf_plain_Book_apartCells_b4)))
 (rs [o 2 (.mv (.c v))] [2]
 (.ret [2]))))))))⟩

def xf_plain_Book_apartRows_k1 : List (Nat × Option (Nat × Nat × Bool)) := [(3, some (155, 1, false)), (4, none), (5, none)]
def xf_plain_Book_apartRows_b1 : XCode := (.seq (rs [om 22 5, om 23 3, om 24 4, o 25 (ia 1 23 24), o 26 (k 25), o 27 (le 26), o 28 (bl 22 27)] [3, 4, 5, 28]
 (.cond (.s 28) .skip (.exit 2 [3, 4])))
 (.seq (.block 3 (.reg [om 31 3, om 32 4, o 33 (ia 1 31 32), o 34 (k 33), om 35 5, om 36 4, om 37 5, o 38 (c 161 [36, 37]), o 39 (ia 7 34 35), p (t 7 39 38)] (some [(2, 7), (3, 7)]) [3, 4, 5]))
 (.reg [om 29 5, o 30 (baj 29 1), om 5 30] none [3, 4, 5])))
def xf_plain_Book_apartRows_k0 : List (Nat × Option (Nat × Nat × Bool)) := [(3, some (155, 1, false)), (4, none)]
def xf_plain_Book_apartRows_b0 : XCode := (.seq (rs [om 16 4, om 17 3, o 18 (le 17), o 19 (bl 16 18)] [3, 4, 19]
 (.cond (.s 19) .skip (.exit 0 [3])))
 (.seq (.block 1 (rs [o 5 (.mv (j 0))] [3, 4, 5]
 (.block 2 (.loop xf_plain_Book_apartRows_k1 xf_plain_Book_apartRows_b1))))
 (.reg [om 20 4, o 21 (baj 20 1), om 4 21] none [3, 4])))
def xf_plain_Book_apartRows_k3 : List (Nat × Option (Nat × Nat × Bool)) := [(3, some (155, 1, false)), (6, some (155, 1, false)), (7, none), (8, some (159, 7, true)), (9, none)]
def xf_plain_Book_apartRows_b3 : XCode := (.seq (rs [om 50 9, o 51 (blj 50 70)] [3, 6, 7, 8, 9, 51]
 (.cond (.s 51) .skip (.exit 6 [3, 6, 7, 8])))
 (.seq (.block 7 (.reg [om 54 8, om 55 7, om 56 8, o 57 (le 56), o 58 (c 161 [55, 57]), o 59 (.bsl 159 7 true 1 l9 [(0, 7, (.s 58))]), o 60 (.app 159 7 64 true (.s 54) (.s 59)), om 8 60] none [3, 6, 7, 8, 9]))
 (.reg [om 52 9, o 53 (baj 52 1), om 9 53] none [3, 6, 7, 8, 9])))
def xf_plain_Book_apartRows_k2 : List (Nat × Option (Nat × Nat × Bool)) := [(3, some (155, 1, false)), (6, some (155, 1, false)), (7, none)]
def xf_plain_Book_apartRows_b2 : XCode := (.seq (rs [om 40 7, om 41 3, o 42 (le 41), o 43 (bl 40 42)] [3, 6, 7, 43]
 (.cond (.s 43) .skip (.exit 4 [3, 6])))
 (.seq (.block 5 (rs [om 46 3, om 47 7, o 48 (ia 1 46 47), o 49 (k 48), om 8 49] [3, 6, 7, 8]
 (.seq (rs [o 9 (.mv (j 0))] [3, 6, 7, 8, 9]
 (.block 6 (.loop xf_plain_Book_apartRows_k3 xf_plain_Book_apartRows_b3)))
 (.reg [om 61 6, om 62 8, o 63 (.bsl 155 1 false 1 [(.nil 159 7 true)] [(0, 1, (.s 62))]), o 64 (.app 155 1 24 false (.s 61) (.s 63)), om 6 64] none [3, 6, 7]))))
 (.reg [om 44 7, o 45 (baj 44 1), om 7 45] none [3, 6, 7])))
def xf_plain_Book_apartRows_k5 : List (Nat × Option (Nat × Nat × Bool)) := [(3, some (155, 1, false)), (6, some (155, 1, false)), (10, none), (11, none)]
def xf_plain_Book_apartRows_b5 : XCode := (.seq (rs [om 71 11, om 72 6, om 73 10, o 74 (ia 1 72 73), o 75 (k 74), o 76 (le 75), o 77 (bl 71 76)] [3, 6, 10, 11, 77]
 (.cond (.s 77) .skip (.exit 10 [3, 6, 10])))
 (.seq (.block 11 (sp (some [(2, 9), (3, 9), (5, 9), (6, 9), (22, 29), (23, 29), (25, 29), (26, 29)]) [am 80 6, am 81 10, a 82 (ia 1 80 81), a 83 (k 82), am 84 11, a 85 (ia 7 83 84), a 86 (l 7 85), am 87 10, am 88 11, a 89 (c 161 [87, 88]), a 90 (.eqv true true [.i, .i, .i, .b, .i, .i, .s] (.s 86) (.s 89)), am 91 90, d 92 (m 11) 91, d 93 (m 3) 91, d 94 (m 10) 91, (⟨(some 95), ia 1 93 94, some (91, false)⟩, false), (⟨(some 96), k 95, some (91, false)⟩, false), (⟨(some 97), le 96, some (91, false)⟩, false), (⟨(some 98), bl 92 97, some (91, false)⟩, false), (⟨(some 99), m 98, some (91, false)⟩, false), bb 100 3 99, bb 101 10 99, (g 102 (ia 1 100 101) 99, false), (g 103 (k 102) 99, false), bb 104 11 99, (g 105 (ia 7 103 104) 99, false), (g 106 (l 7 105) 99, false), bb 107 10 99, bb 108 11 99, (g 109 (c 161 [107, 108]) 99, false), (g 110 (.eqv true true [.i, .i, .i, .b, .i, .i, .s] (.s 106) (.s 109)) 99, false), (⟨(some 111), ka 99 110, some (91, false)⟩, false), a 112 (ko 91 111)] [3, 6, 10, 11, 112]
 (.cond (.s 112) (rs [o 2 (.mv (.c w))] [2]
 (.ret [2])) .skip)))
 (.reg [om 78 11, o 79 (baj 78 1), om 11 79] none [3, 6, 10, 11])))
def xf_plain_Book_apartRows_k4 : List (Nat × Option (Nat × Nat × Bool)) := [(3, some (155, 1, false)), (6, some (155, 1, false)), (10, none)]
def xf_plain_Book_apartRows_b4 : XCode := (.seq (rs [om 65 10, om 66 3, o 67 (le 66), o 68 (bl 65 67)] [3, 6, 10, 68]
 (.cond (.s 68) .skip (.exit 8 [])))
 (.seq (.block 9 (rs [o 11 (.mv (j 0))] [3, 6, 10, 11]
 (.block 10 (.loop xf_plain_Book_apartRows_k5 xf_plain_Book_apartRows_b5))))
 (.reg [om 69 10, o 70 (baj 69 1), om 10 70] none [3, 6, 10])))
def xf_plain_Book_apartRows : XFunc := ⟨none, false, 1, [.tmp 2], (rs [o 2 (.mv (.c w))] [0]
 (rs [om 12 0, o 13 (nc 12), of 14 5 13, o 15 (k 14), om 3 15] [3]
 (.seq (rs [o 4 (.mv (j 0))] [3, 4]
 (.block 0 (.loop xf_plain_Book_apartRows_k0 xf_plain_Book_apartRows_b0)))
 (rs [o 6 (.mv (.c (.nil 155 1 false)))] [3, 6]
 (.seq (rs [o 7 (.mv (j 0))] [3, 6, 7]
 (.block 4 (.loop xf_plain_Book_apartRows_k2 xf_plain_Book_apartRows_b2)))
 (.seq (rs [o 10 (.mv (j 0))] [3, 6, 10]
 (.block 8 (.loop xf_plain_Book_apartRows_k4 xf_plain_Book_apartRows_b4)))
 (rs [o 2 (.mv (.c v))] [2]
 (.ret [2]))))))))⟩

def xf_plain_Book_apartResults_k1 : List (Nat × Option (Nat × Nat × Bool)) := [(3, some (240, 1, false)), (4, none), (5, none)]
def xf_plain_Book_apartResults_b1 : XCode := (.seq (rs [om 22 5, om 23 3, om 24 4, o 25 (ia 1 23 24), o 26 (k 25), o 27 (le 26), o 28 (bl 22 27)] [3, 4, 5, 28]
 (.cond (.s 28) .skip (.exit 2 [3, 4])))
 (.seq (.block 3 (.reg [om 31 3, om 32 4, o 33 (ia 1 31 32), o 34 (k 33), om 35 5, om 36 4, om 37 5, o 38 (c 162 [36, 37]), o 39 (ia 3 34 35), p (t 3 39 38)] (some [(2, 7), (3, 7)]) [3, 4, 5]))
 (.reg [om 29 5, o 30 (baj 29 1), om 5 30] none [3, 4, 5])))
def xf_plain_Book_apartResults_k0 : List (Nat × Option (Nat × Nat × Bool)) := [(3, some (240, 1, false)), (4, none)]
def xf_plain_Book_apartResults_b0 : XCode := (.seq (rs [om 16 4, om 17 3, o 18 (le 17), o 19 (bl 16 18)] [3, 4, 19]
 (.cond (.s 19) .skip (.exit 0 [3])))
 (.seq (.block 1 (rs [o 5 (.mv (j 0))] [3, 4, 5]
 (.block 2 (.loop xf_plain_Book_apartResults_k1 xf_plain_Book_apartResults_b1))))
 (.reg [om 20 4, o 21 (baj 20 1), om 4 21] none [3, 4])))
def xf_plain_Book_apartResults_k3 : List (Nat × Option (Nat × Nat × Bool)) := [(3, some (240, 1, false)), (6, some (240, 1, false)), (7, none), (8, some (40, 3, true)), (9, none)]
def xf_plain_Book_apartResults_b3 : XCode := (.seq (rs [om 50 9, o 51 (blj 50 70)] [3, 6, 7, 8, 9, 51]
 (.cond (.s 51) .skip (.exit 6 [3, 6, 7, 8])))
 (.seq (.block 7 (.reg [om 54 8, om 55 7, om 56 8, o 57 (le 56), o 58 (c 162 [55, 57]), o 59 (.bsl 40 3 true 1 l7 [(0, 3, (.s 58))]), o 60 (.app 40 3 32 true (.s 54) (.s 59)), om 8 60] none [3, 6, 7, 8, 9]))
 (.reg [om 52 9, o 53 (baj 52 1), om 9 53] none [3, 6, 7, 8, 9])))
def xf_plain_Book_apartResults_k2 : List (Nat × Option (Nat × Nat × Bool)) := [(3, some (240, 1, false)), (6, some (240, 1, false)), (7, none)]
def xf_plain_Book_apartResults_b2 : XCode := (.seq (rs [om 40 7, om 41 3, o 42 (le 41), o 43 (bl 40 42)] [3, 6, 7, 43]
 (.cond (.s 43) .skip (.exit 4 [3, 6])))
 (.seq (.block 5 (rs [om 46 3, om 47 7, o 48 (ia 1 46 47), o 49 (k 48), om 8 49] [3, 6, 7, 8]
 (.seq (rs [o 9 (.mv (j 0))] [3, 6, 7, 8, 9]
 (.block 6 (.loop xf_plain_Book_apartResults_k3 xf_plain_Book_apartResults_b3)))
 (.reg [om 61 6, om 62 8, o 63 (.bsl 240 1 false 1 [(.nil 40 3 true)] [(0, 1, (.s 62))]), o 64 (.app 240 1 24 false (.s 61) (.s 63)), om 6 64] none [3, 6, 7]))))
 (.reg [om 44 7, o 45 (baj 44 1), om 7 45] none [3, 6, 7])))
def xf_plain_Book_apartResults_k5 : List (Nat × Option (Nat × Nat × Bool)) := [(3, some (240, 1, false)), (6, some (240, 1, false)), (10, none), (11, none)]
def xf_plain_Book_apartResults_b5 : XCode := (.seq (rs [om 71 11, om 72 6, om 73 10, o 74 (ia 1 72 73), o 75 (k 74), o 76 (le 75), o 77 (bl 71 76)] [3, 6, 10, 11, 77]
 (.cond (.s 77) .skip (.exit 10 [3, 6, 10])))
 (.seq (.block 11 (sp (some [(2, 9), (3, 9), (5, 9), (6, 9), (22, 29), (23, 29), (25, 29), (26, 29)]) [am 80 6, am 81 10, a 82 (ia 1 80 81), a 83 (k 82), am 84 11, a 85 (ia 3 83 84), a 86 (l 3 85), am 87 10, am 88 11, a 89 (c 162 [87, 88]), a 90 (.eqv true true [.i, .i, .s] (.s 86) (.s 89)), am 91 90, d 92 (m 11) 91, d 93 (m 3) 91, d 94 (m 10) 91, (⟨(some 95), ia 1 93 94, some (91, false)⟩, false), (⟨(some 96), k 95, some (91, false)⟩, false), (⟨(some 97), le 96, some (91, false)⟩, false), (⟨(some 98), bl 92 97, some (91, false)⟩, false), (⟨(some 99), m 98, some (91, false)⟩, false), bb 100 3 99, bb 101 10 99, (g 102 (ia 1 100 101) 99, false), (g 103 (k 102) 99, false), bb 104 11 99, (g 105 (ia 3 103 104) 99, false), (g 106 (l 3 105) 99, false), bb 107 10 99, bb 108 11 99, (g 109 (c 162 [107, 108]) 99, false), (g 110 (.eqv true true [.i, .i, .s] (.s 106) (.s 109)) 99, false), (⟨(some 111), ka 99 110, some (91, false)⟩, false), a 112 (ko 91 111)] [3, 6, 10, 11, 112]
 (.cond (.s 112) (rs [o 2 (.mv (.c w))] [2]
 (.ret [2])) .skip)))
 (.reg [om 78 11, o 79 (baj 78 1), om 11 79] none [3, 6, 10, 11])))
def xf_plain_Book_apartResults_k4 : List (Nat × Option (Nat × Nat × Bool)) := [(3, some (240, 1, false)), (6, some (240, 1, false)), (10, none)]
def xf_plain_Book_apartResults_b4 : XCode := (.seq (rs [om 65 10, om 66 3, o 67 (le 66), o 68 (bl 65 67)] [3, 6, 10, 68]
 (.cond (.s 68) .skip (.exit 8 [])))
 (.seq (.block 9 (rs [o 11 (.mv (j 0))] [3, 6, 10, 11]
 (.block 10 (.loop xf_plain_Book_apartResults_k5 xf_plain_Book_apartResults_b5))))
 (.reg [om 69 10, o 70 (baj 69 1), om 10 70] none [3, 6, 10])))
def xf_plain_Book_apartResults : XFunc := ⟨none, false, 1, [.tmp 2], (rs [o 2 (.mv (.c w))] [0]
 (rs [om 12 0, o 13 (nc 12), of 14 6 13, o 15 (k 14), om 3 15] [3]
 (.seq (rs [o 4 (.mv (j 0))] [3, 4]
 (.block 0 (.loop xf_plain_Book_apartResults_k0 xf_plain_Book_apartResults_b0)))
 (rs [o 6 (.mv (.c (.nil 240 1 false)))] [3, 6]
 (.seq (rs [o 7 (.mv (j 0))] [3, 6, 7]
 (.block 4 (.loop xf_plain_Book_apartResults_k2 xf_plain_Book_apartResults_b2)))
 (.seq (rs [o 10 (.mv (j 0))] [3, 6, 10]
 (.block 8 (.loop xf_plain_Book_apartResults_k4 xf_plain_Book_apartResults_b4)))
 (rs [o 2 (.mv (.c v))] [2]
 (.ret [2]))))))))⟩

def xf_plain_Book_apartStamps_k1 : List (Nat × Option (Nat × Nat × Bool)) := [(3, some (242, 1, false)), (4, none), (5, none)]
def xf_plain_Book_apartStamps_b1 : XCode := (.seq (rs [om 22 5, om 23 3, om 24 4, o 25 (ia 1 23 24), o 26 (k 25), o 27 (le 26), o 28 (bl 22 27)] [3, 4, 5, 28]
 (.cond (.s 28) .skip (.exit 2 [3, 4])))
 (.seq (.block 3 (.reg [om 31 3, om 32 4, o 33 (ia 1 31 32), o 34 (k 33), om 35 5, om 36 4, om 37 5, o 38 (c 163 [36, 37]), o 39 (ia 3 34 35), p (t 3 39 38)] (some [(2, 7), (3, 7)]) [3, 4, 5]))
 (.reg [om 29 5, o 30 (baj 29 1), om 5 30] none [3, 4, 5])))
def xf_plain_Book_apartStamps_k0 : List (Nat × Option (Nat × Nat × Bool)) := [(3, some (242, 1, false)), (4, none)]
def xf_plain_Book_apartStamps_b0 : XCode := (.seq (rs [om 16 4, om 17 3, o 18 (le 17), o 19 (bl 16 18)] [3, 4, 19]
 (.cond (.s 19) .skip (.exit 0 [3])))
 (.seq (.block 1 (rs [o 5 (.mv (j 0))] [3, 4, 5]
 (.block 2 (.loop xf_plain_Book_apartStamps_k1 xf_plain_Book_apartStamps_b1))))
 (.reg [om 20 4, o 21 (baj 20 1), om 4 21] none [3, 4])))
def xf_plain_Book_apartStamps_k3 : List (Nat × Option (Nat × Nat × Bool)) := [(3, some (242, 1, false)), (6, some (242, 1, false)), (7, none), (8, some (243, 3, true)), (9, none)]
def xf_plain_Book_apartStamps_b3 : XCode := (.seq (rs [om 50 9, o 51 (blj 50 70)] [3, 6, 7, 8, 9, 51]
 (.cond (.s 51) .skip (.exit 6 [3, 6, 7, 8])))
 (.seq (.block 7 (.reg [om 54 8, om 55 7, om 56 8, o 57 (le 56), o 58 (c 163 [55, 57]), o 59 (.bsl 243 3 true 1 l8 [(0, 3, (.s 58))]), o 60 (.app 243 3 24 true (.s 54) (.s 59)), om 8 60] none [3, 6, 7, 8, 9]))
 (.reg [om 52 9, o 53 (baj 52 1), om 9 53] none [3, 6, 7, 8, 9])))
def xf_plain_Book_apartStamps_k2 : List (Nat × Option (Nat × Nat × Bool)) := [(3, some (242, 1, false)), (6, some (242, 1, false)), (7, none)]
def xf_plain_Book_apartStamps_b2 : XCode := (.seq (rs [om 40 7, om 41 3, o 42 (le 41), o 43 (bl 40 42)] [3, 6, 7, 43]
 (.cond (.s 43) .skip (.exit 4 [3, 6])))
 (.seq (.block 5 (rs [om 46 3, om 47 7, o 48 (ia 1 46 47), o 49 (k 48), om 8 49] [3, 6, 7, 8]
 (.seq (rs [o 9 (.mv (j 0))] [3, 6, 7, 8, 9]
 (.block 6 (.loop xf_plain_Book_apartStamps_k3 xf_plain_Book_apartStamps_b3)))
 (.reg [om 61 6, om 62 8, o 63 (.bsl 242 1 false 1 [(.nil 243 3 true)] [(0, 1, (.s 62))]), o 64 (.app 242 1 24 false (.s 61) (.s 63)), om 6 64] none [3, 6, 7]))))
 (.reg [om 44 7, o 45 (baj 44 1), om 7 45] none [3, 6, 7])))
def xf_plain_Book_apartStamps_k5 : List (Nat × Option (Nat × Nat × Bool)) := [(3, some (242, 1, false)), (6, some (242, 1, false)), (10, none), (11, none)]
def xf_plain_Book_apartStamps_b5 : XCode := (.seq (rs [om 71 11, om 72 6, om 73 10, o 74 (ia 1 72 73), o 75 (k 74), o 76 (le 75), o 77 (bl 71 76)] [3, 6, 10, 11, 77]
 (.cond (.s 77) .skip (.exit 10 [3, 6, 10])))
 (.seq (.block 11 (sp (some [(2, 9), (3, 9), (5, 9), (6, 9), (22, 29), (23, 29), (25, 29), (26, 29)]) [am 80 6, am 81 10, a 82 (ia 1 80 81), a 83 (k 82), am 84 11, a 85 (ia 3 83 84), a 86 (l 3 85), am 87 10, am 88 11, a 89 (c 163 [87, 88]), a 90 (.eqv true true [.i, .i, .i] (.s 86) (.s 89)), am 91 90, d 92 (m 11) 91, d 93 (m 3) 91, d 94 (m 10) 91, (⟨(some 95), ia 1 93 94, some (91, false)⟩, false), (⟨(some 96), k 95, some (91, false)⟩, false), (⟨(some 97), le 96, some (91, false)⟩, false), (⟨(some 98), bl 92 97, some (91, false)⟩, false), (⟨(some 99), m 98, some (91, false)⟩, false), bb 100 3 99, bb 101 10 99, (g 102 (ia 1 100 101) 99, false), (g 103 (k 102) 99, false), bb 104 11 99, (g 105 (ia 3 103 104) 99, false), (g 106 (l 3 105) 99, false), bb 107 10 99, bb 108 11 99, (g 109 (c 163 [107, 108]) 99, false), (g 110 (.eqv true true [.i, .i, .i] (.s 106) (.s 109)) 99, false), (⟨(some 111), ka 99 110, some (91, false)⟩, false), a 112 (ko 91 111)] [3, 6, 10, 11, 112]
 (.cond (.s 112) (rs [o 2 (.mv (.c w))] [2]
 (.ret [2])) .skip)))
 (.reg [om 78 11, o 79 (baj 78 1), om 11 79] none [3, 6, 10, 11])))
def xf_plain_Book_apartStamps_k4 : List (Nat × Option (Nat × Nat × Bool)) := [(3, some (242, 1, false)), (6, some (242, 1, false)), (10, none)]
def xf_plain_Book_apartStamps_b4 : XCode := (.seq (rs [om 65 10, om 66 3, o 67 (le 66), o 68 (bl 65 67)] [3, 6, 10, 68]
 (.cond (.s 68) .skip (.exit 8 [])))
 (.seq (.block 9 (rs [o 11 (.mv (j 0))] [3, 6, 10, 11]
 (.block 10 (.loop xf_plain_Book_apartStamps_k5 xf_plain_Book_apartStamps_b5))))
 (.reg [om 69 10, o 70 (baj 69 1), om 10 70] none [3, 6, 10])))
def xf_plain_Book_apartStamps : XFunc := ⟨none, false, 1, [.tmp 2], (rs [o 2 (.mv (.c w))] [0]
 (rs [om 12 0, o 13 (nc 12), of 14 7 13, o 15 (k 14), om 3 15] [3]
 (.seq (rs [o 4 (.mv (j 0))] [3, 4]
 (.block 0 (.loop xf_plain_Book_apartStamps_k0 xf_plain_Book_apartStamps_b0)))
 (rs [o 6 (.mv (.c (.nil 242 1 false)))] [3, 6]
 (.seq (rs [o 7 (.mv (j 0))] [3, 6, 7]
 (.block 4 (.loop xf_plain_Book_apartStamps_k2 xf_plain_Book_apartStamps_b2)))
 (.seq (rs [o 10 (.mv (j 0))] [3, 6, 10]
 (.block 8 (.loop xf_plain_Book_apartStamps_k4 xf_plain_Book_apartStamps_b4)))
 (rs [o 2 (.mv (.c v))] [2]
 (.ret [2]))))))))⟩

def xf_plain_Book_apartAcks_k1 : List (Nat × Option (Nat × Nat × Bool)) := [(3, some (28, 1, false)), (4, none), (5, none)]
def xf_plain_Book_apartAcks_b1 : XCode := (.seq (rs [om 22 5, om 23 3, om 24 4, o 25 (ia 1 23 24), o 26 (k 25), o 27 (le 26), o 28 (bl 22 27)] [3, 4, 5, 28]
 (.cond (.s 28) .skip (.exit 2 [3, 4])))
 (.seq (.block 3 (.reg [om 31 3, om 32 4, o 33 (ia 1 31 32), o 34 (k 33), om 35 5, om 36 4, om 37 5, o 38 (c 164 [36, 37]), o 39 (ia 4 34 35), p (t 4 39 38)] (some [(2, 7), (3, 7)]) [3, 4, 5]))
 (.reg [om 29 5, o 30 (baj 29 1), om 5 30] none [3, 4, 5])))
def xf_plain_Book_apartAcks_k0 : List (Nat × Option (Nat × Nat × Bool)) := [(3, some (28, 1, false)), (4, none)]
def xf_plain_Book_apartAcks_b0 : XCode := (.seq (rs [om 16 4, om 17 3, o 18 (le 17), o 19 (bl 16 18)] [3, 4, 19]
 (.cond (.s 19) .skip (.exit 0 [3])))
 (.seq (.block 1 (rs [o 5 (.mv (j 0))] [3, 4, 5]
 (.block 2 (.loop xf_plain_Book_apartAcks_k1 xf_plain_Book_apartAcks_b1))))
 (.reg [om 20 4, o 21 (baj 20 1), om 4 21] none [3, 4])))
def xf_plain_Book_apartAcks_k3 : List (Nat × Option (Nat × Nat × Bool)) := [(3, some (28, 1, false)), (6, some (28, 1, false)), (7, none), (8, some (67, 4, true)), (9, none)]
def xf_plain_Book_apartAcks_b3 : XCode := (.seq (rs [om 50 9, o 51 (blj 50 70)] [3, 6, 7, 8, 9, 51]
 (.cond (.s 51) .skip (.exit 6 [3, 6, 7, 8])))
 (.seq (.block 7 (.reg [om 54 8, om 55 7, om 56 8, o 57 (le 56), o 58 (c 164 [55, 57]), o 59 (.bsl 67 4 true 1 l10 [(0, 4, (.s 58))]), o 60 (.app 67 4 32 true (.s 54) (.s 59)), om 8 60] none [3, 6, 7, 8, 9]))
 (.reg [om 52 9, o 53 (baj 52 1), om 9 53] none [3, 6, 7, 8, 9])))
def xf_plain_Book_apartAcks_k2 : List (Nat × Option (Nat × Nat × Bool)) := [(3, some (28, 1, false)), (6, some (28, 1, false)), (7, none)]
def xf_plain_Book_apartAcks_b2 : XCode := (.seq (rs [om 40 7, om 41 3, o 42 (le 41), o 43 (bl 40 42)] [3, 6, 7, 43]
 (.cond (.s 43) .skip (.exit 4 [3, 6])))
 (.seq (.block 5 (rs [om 46 3, om 47 7, o 48 (ia 1 46 47), o 49 (k 48), om 8 49] [3, 6, 7, 8]
 (.seq (rs [o 9 (.mv (j 0))] [3, 6, 7, 8, 9]
 (.block 6 (.loop xf_plain_Book_apartAcks_k3 xf_plain_Book_apartAcks_b3)))
 (.reg [om 61 6, om 62 8, o 63 (.bsl 28 1 false 1 [(.nil 67 4 true)] [(0, 1, (.s 62))]), o 64 (.app 28 1 24 false (.s 61) (.s 63)), om 6 64] none [3, 6, 7]))))
 (.reg [om 44 7, o 45 (baj 44 1), om 7 45] none [3, 6, 7])))
def xf_plain_Book_apartAcks_k5 : List (Nat × Option (Nat × Nat × Bool)) := [(3, some (28, 1, false)), (6, some (28, 1, false)), (10, none), (11, none)]
def xf_plain_Book_apartAcks_b5 : XCode := (.seq (rs [om 71 11, om 72 6, om 73 10, o 74 (ia 1 72 73), o 75 (k 74), o 76 (le 75), o 77 (bl 71 76)] [3, 6, 10, 11, 77]
 (.cond (.s 77) .skip (.exit 10 [3, 6, 10])))
 (.seq (.block 11 (sp (some [(2, 9), (3, 9), (5, 9), (6, 9), (22, 29), (23, 29), (25, 29), (26, 29)]) [am 80 6, am 81 10, a 82 (ia 1 80 81), a 83 (k 82), am 84 11, a 85 (ia 4 83 84), a 86 (l 4 85), am 87 10, am 88 11, a 89 (c 164 [87, 88]), a 90 (.eqv true true [.i, .i, .i, .i] (.s 86) (.s 89)), am 91 90, d 92 (m 11) 91, d 93 (m 3) 91, d 94 (m 10) 91, (⟨(some 95), ia 1 93 94, some (91, false)⟩, false), (⟨(some 96), k 95, some (91, false)⟩, false), (⟨(some 97), le 96, some (91, false)⟩, false), (⟨(some 98), bl 92 97, some (91, false)⟩, false), (⟨(some 99), m 98, some (91, false)⟩, false), bb 100 3 99, bb 101 10 99, (g 102 (ia 1 100 101) 99, false), (g 103 (k 102) 99, false), bb 104 11 99, (g 105 (ia 4 103 104) 99, false), (g 106 (l 4 105) 99, false), bb 107 10 99, bb 108 11 99, (g 109 (c 164 [107, 108]) 99, false), (g 110 (.eqv true true [.i, .i, .i, .i] (.s 106) (.s 109)) 99, false), (⟨(some 111), ka 99 110, some (91, false)⟩, false), a 112 (ko 91 111)] [3, 6, 10, 11, 112]
 (.cond (.s 112) (rs [o 2 (.mv (.c w))] [2]
 (.ret [2])) .skip)))
 (.reg [om 78 11, o 79 (baj 78 1), om 11 79] none [3, 6, 10, 11])))
def xf_plain_Book_apartAcks_k4 : List (Nat × Option (Nat × Nat × Bool)) := [(3, some (28, 1, false)), (6, some (28, 1, false)), (10, none)]
def xf_plain_Book_apartAcks_b4 : XCode := (.seq (rs [om 65 10, om 66 3, o 67 (le 66), o 68 (bl 65 67)] [3, 6, 10, 68]
 (.cond (.s 68) .skip (.exit 8 [])))
 (.seq (.block 9 (rs [o 11 (.mv (j 0))] [3, 6, 10, 11]
 (.block 10 (.loop xf_plain_Book_apartAcks_k5 xf_plain_Book_apartAcks_b5))))
 (.reg [om 69 10, o 70 (baj 69 1), om 10 70] none [3, 6, 10])))
def xf_plain_Book_apartAcks : XFunc := ⟨none, false, 1, [.tmp 2], (rs [o 2 (.mv (.c w))] [0]
 (rs [om 12 0, o 13 (nc 12), of 14 8 13, o 15 (k 14), om 3 15] [3]
 (.seq (rs [o 4 (.mv (j 0))] [3, 4]
 (.block 0 (.loop xf_plain_Book_apartAcks_k0 xf_plain_Book_apartAcks_b0)))
 (rs [o 6 (.mv (.c (.nil 28 1 false)))] [3, 6]
 (.seq (rs [o 7 (.mv (j 0))] [3, 6, 7]
 (.block 4 (.loop xf_plain_Book_apartAcks_k2 xf_plain_Book_apartAcks_b2)))
 (.seq (rs [o 10 (.mv (j 0))] [3, 6, 10]
 (.block 8 (.loop xf_plain_Book_apartAcks_k4 xf_plain_Book_apartAcks_b4)))
 (rs [o 2 (.mv (.c v))] [2]
 (.ret [2]))))))))⟩

def xf_plain_Book_apartMarks_k1 : List (Nat × Option (Nat × Nat × Bool)) := [(3, some (29, 1, false)), (4, none), (5, none)]
def xf_plain_Book_apartMarks_b1 : XCode := (.seq (rs [om 22 5, om 23 3, om 24 4, o 25 (ia 1 23 24), o 26 (k 25), o 27 (le 26), o 28 (bl 22 27)] [3, 4, 5, 28]
 (.cond (.s 28) .skip (.exit 2 [3, 4])))
 (.seq (.block 3 (.reg [om 31 3, om 32 4, o 33 (ia 1 31 32), o 34 (k 33), om 35 5, om 36 4, om 37 5, o 38 (c 165 [36, 37]), o 39 (ia 3 34 35), p (t 3 39 38)] (some [(2, 7), (3, 7)]) [3, 4, 5]))
 (.reg [om 29 5, o 30 (baj 29 1), om 5 30] none [3, 4, 5])))
def xf_plain_Book_apartMarks_k0 : List (Nat × Option (Nat × Nat × Bool)) := [(3, some (29, 1, false)), (4, none)]
def xf_plain_Book_apartMarks_b0 : XCode := (.seq (rs [om 16 4, om 17 3, o 18 (le 17), o 19 (bl 16 18)] [3, 4, 19]
 (.cond (.s 19) .skip (.exit 0 [3])))
 (.seq (.block 1 (rs [o 5 (.mv (j 0))] [3, 4, 5]
 (.block 2 (.loop xf_plain_Book_apartMarks_k1 xf_plain_Book_apartMarks_b1))))
 (.reg [om 20 4, o 21 (baj 20 1), om 4 21] none [3, 4])))
def xf_plain_Book_apartMarks_k3 : List (Nat × Option (Nat × Nat × Bool)) := [(3, some (29, 1, false)), (6, some (29, 1, false)), (7, none), (8, some (69, 3, true)), (9, none)]
def xf_plain_Book_apartMarks_b3 : XCode := (.seq (rs [om 50 9, o 51 (blj 50 70)] [3, 6, 7, 8, 9, 51]
 (.cond (.s 51) .skip (.exit 6 [3, 6, 7, 8])))
 (.seq (.block 7 (.reg [om 54 8, om 55 7, om 56 8, o 57 (le 56), o 58 (c 165 [55, 57]), o 59 (.bsl 69 3 true 1 l8 [(0, 3, (.s 58))]), o 60 (.app 69 3 24 true (.s 54) (.s 59)), om 8 60] none [3, 6, 7, 8, 9]))
 (.reg [om 52 9, o 53 (baj 52 1), om 9 53] none [3, 6, 7, 8, 9])))
def xf_plain_Book_apartMarks_k2 : List (Nat × Option (Nat × Nat × Bool)) := [(3, some (29, 1, false)), (6, some (29, 1, false)), (7, none)]
def xf_plain_Book_apartMarks_b2 : XCode := (.seq (rs [om 40 7, om 41 3, o 42 (le 41), o 43 (bl 40 42)] [3, 6, 7, 43]
 (.cond (.s 43) .skip (.exit 4 [3, 6])))
 (.seq (.block 5 (rs [om 46 3, om 47 7, o 48 (ia 1 46 47), o 49 (k 48), om 8 49] [3, 6, 7, 8]
 (.seq (rs [o 9 (.mv (j 0))] [3, 6, 7, 8, 9]
 (.block 6 (.loop xf_plain_Book_apartMarks_k3 xf_plain_Book_apartMarks_b3)))
 (.reg [om 61 6, om 62 8, o 63 (.bsl 29 1 false 1 [(.nil 69 3 true)] [(0, 1, (.s 62))]), o 64 (.app 29 1 24 false (.s 61) (.s 63)), om 6 64] none [3, 6, 7]))))
 (.reg [om 44 7, o 45 (baj 44 1), om 7 45] none [3, 6, 7])))
def xf_plain_Book_apartMarks_k5 : List (Nat × Option (Nat × Nat × Bool)) := [(3, some (29, 1, false)), (6, some (29, 1, false)), (10, none), (11, none)]
def xf_plain_Book_apartMarks_b5 : XCode := (.seq (rs [om 71 11, om 72 6, om 73 10, o 74 (ia 1 72 73), o 75 (k 74), o 76 (le 75), o 77 (bl 71 76)] [3, 6, 10, 11, 77]
 (.cond (.s 77) .skip (.exit 10 [3, 6, 10])))
 (.seq (.block 11 (sp (some [(2, 9), (3, 9), (5, 9), (6, 9), (22, 29), (23, 29), (25, 29), (26, 29)]) [am 80 6, am 81 10, a 82 (ia 1 80 81), a 83 (k 82), am 84 11, a 85 (ia 3 83 84), a 86 (l 3 85), am 87 10, am 88 11, a 89 (c 165 [87, 88]), a 90 (.eqv true true [.i, .i, .i] (.s 86) (.s 89)), am 91 90, d 92 (m 11) 91, d 93 (m 3) 91, d 94 (m 10) 91, (⟨(some 95), ia 1 93 94, some (91, false)⟩, false), (⟨(some 96), k 95, some (91, false)⟩, false), (⟨(some 97), le 96, some (91, false)⟩, false), (⟨(some 98), bl 92 97, some (91, false)⟩, false), (⟨(some 99), m 98, some (91, false)⟩, false), bb 100 3 99, bb 101 10 99, (g 102 (ia 1 100 101) 99, false), (g 103 (k 102) 99, false), bb 104 11 99, (g 105 (ia 3 103 104) 99, false), (g 106 (l 3 105) 99, false), bb 107 10 99, bb 108 11 99, (g 109 (c 165 [107, 108]) 99, false), (g 110 (.eqv true true [.i, .i, .i] (.s 106) (.s 109)) 99, false), (⟨(some 111), ka 99 110, some (91, false)⟩, false), a 112 (ko 91 111)] [3, 6, 10, 11, 112]
 (.cond (.s 112) (rs [o 2 (.mv (.c w))] [2]
 (.ret [2])) .skip)))
 (.reg [om 78 11, o 79 (baj 78 1), om 11 79] none [3, 6, 10, 11])))
def xf_plain_Book_apartMarks_k4 : List (Nat × Option (Nat × Nat × Bool)) := [(3, some (29, 1, false)), (6, some (29, 1, false)), (10, none)]
def xf_plain_Book_apartMarks_b4 : XCode := (.seq (rs [om 65 10, om 66 3, o 67 (le 66), o 68 (bl 65 67)] [3, 6, 10, 68]
 (.cond (.s 68) .skip (.exit 8 [])))
 (.seq (.block 9 (rs [o 11 (.mv (j 0))] [3, 6, 10, 11]
 (.block 10 (.loop xf_plain_Book_apartMarks_k5 xf_plain_Book_apartMarks_b5))))
 (.reg [om 69 10, o 70 (baj 69 1), om 10 70] none [3, 6, 10])))
def xf_plain_Book_apartMarks : XFunc := ⟨none, false, 1, [.tmp 2], (rs [o 2 (.mv (.c w))] [0]
 (rs [om 12 0, o 13 (nc 12), of 14 9 13, o 15 (k 14), om 3 15] [3]
 (.seq (rs [o 4 (.mv (j 0))] [3, 4]
 (.block 0 (.loop xf_plain_Book_apartMarks_k0 xf_plain_Book_apartMarks_b0)))
 (rs [o 6 (.mv (.c (.nil 29 1 false)))] [3, 6]
 (.seq (rs [o 7 (.mv (j 0))] [3, 6, 7]
 (.block 4 (.loop xf_plain_Book_apartMarks_k2 xf_plain_Book_apartMarks_b2)))
 (.seq (rs [o 10 (.mv (j 0))] [3, 6, 10]
 (.block 8 (.loop xf_plain_Book_apartMarks_k4 xf_plain_Book_apartMarks_b4)))
 (rs [o 2 (.mv (.c v))] [2]
 (.ret [2]))))))))⟩

def xf_ref09_Primary : XFunc := ⟨none, true, 2, [.tmp 4], (rs [o 2 (bx 0), o 4 (.mv (j 0))] [1, 2]
 (.seq (ss [a 5 (l 4 2), a 6 (c 63 [5]), a 7 (nj 6 0), am 8 7, d 9 (m 1) 8, d 10 (blj 9 0) 8, a 11 (ko 8 10), am 12 11, d 13 (m 1) 12, d 14 (bgj 13 4294967296) 12, a 15 (ko 12 14)] [1, 2, 15]
 (.cond (.s 15) (rs [o 4 (.mv (j (-1)))] [4]
 (.ret [4])) .skip))
 (rs [om 16 1, ol 17 4 2, o 18 (c 89 [17]), o 19 (.bin .rem (.s 16) (.s 18)), om 4 19] [4]
 (.ret [4]))))⟩

def xf_ref05_Between_k0 : List (Nat × Option (Nat × Nat × Bool)) := [(0, none), (2, none), (9, some (40, 3, true)), (10, some (159, 7, true)), (11, none)]
def xf_ref05_Between_b0 : XCode := (.seq (rs [om 46 11, om 47 2, o 48 (bm 46 47)] [0, 2, 9, 10, 11, 48]
 (.cond (.s 48) .skip (.exit 0 [10])))
 (.seq (.block 1 (rs [om 51 0, om 52 11, o 53 (.call (fc 167) [(.s 51), (.s 52), (.c w)]), o 12 (.alloc l9), p (t 7 12 53)] [0, 2, 9, 10, 11, 12]
 (rs [of 54 3 12, p (.store 1 (.s 54) (.c v))] [0, 2, 9, 10, 11, 12]
 (rs [om 55 9, om 56 11, o 57 (bsj 56 1), o 58 (ia 3 55 57), ol 59 3 58, of 60 4 12, p (t 3 60 59)] [0, 2, 9, 10, 11, 12]
 (.reg [om 61 10, ol 62 7 12, o 63 (.bsl 159 7 true 1 l9 [(0, 7, (.s 62))]), o 64 (.app 159 7 64 true (.s 61) (.s 63)), om 10 64] none [0, 2, 9, 10, 11])))))
 (.reg [om 49 11, o 50 (baj 49 1), om 11 50] none [0, 2, 9, 10, 11])))
def xf_ref05_Between : XFunc := ⟨none, true, 3, [.tmp 6, .tmp 7], (rs [o 6 (.mv (.c (.nil 159 7 true))), o 7 (.mv (j 0))] [0, 1, 2]
 (rs [om 13 0, o 14 (.call (fc 150) [(.s 13), (j 256)]), om 8 14] [0, 1, 2, 8]
 (.seq (rs [om 15 8, o 16 (nj 15 0)] [0, 1, 2, 8, 16]
 (.cond (.s 16) (rs [om 17 8, o 6 (.mv (.c (.nil 159 7 true))), om 7 17] [6, 7]
 (.ret [6, 7])) .skip))
 (.seq (ss [am 18 1, a 19 (blj 18 0), am 20 19, d 21 (m 1) 20, d 22 (m 0) 20, d 23 (le 22) 20, d 24 (bg 21 23) 20, a 25 (ko 20 24), am 26 25, d 27 (m 2) 26, d 28 (blj 27 0) 26, a 29 (ko 26 28), am 30 29, d 31 (m 2) 30, d 32 (m 0) 30, d 33 (le 32) 30, d 34 (bg 31 33) 30, a 35 (ko 30 34), am 36 35, d 37 (m 1) 36, d 38 (m 2) 36, d 39 (bg 37 38) 36, a 40 (ko 36 39)] [0, 1, 2, 40]
 (.cond (.s 40) (rs [o 6 (.mv (.c (.nil 159 7 true))), o 7 (.mv (j 50))] [6, 7]
 (.ret [6, 7])) .skip))
 (rs [om 41 0, om 42 2, o 43 (c 166 [41, 42]), om 9 43] [0, 1, 2, 9]
 (rs [o 10 (.mv (.c (.nil 159 7 true)))] [0, 1, 2, 9, 10]
 (.seq (rs [om 44 1, o 45 (baj 44 1), om 11 45] [0, 2, 9, 10, 11]
 (.block 0 (.loop xf_ref05_Between_k0 xf_ref05_Between_b0)))
 (rs [om 65 10, om 6 65, o 7 (.mv (j 0))] [6, 7]
 (.ret [6, 7])))))))))⟩

def xf_plain_SameMsg : XFunc := ⟨none, true, 2, [.tmp 4], (rs [o 2 (bx 0), o 3 (bx 1), o 4 (.mv (.c w))] [2, 3]
 (ss [a 5 (f 0 2), a 6 (k 5), a 7 (f 0 3), a 8 (k 7), a 9 (q 6 8), am 10 9, b 11 (f 1 2) 10, b 12 (k 11) 10, b 13 (f 1 3) 10, b 14 (k 13) 10, b 15 (q 12 14) 10, a 16 (ka 10 15), am 17 16, b 18 (f 2 2) 17, b 19 (k 18) 17, b 20 (f 2 3) 17, b 21 (k 20) 17, b 22 (q 19 21) 17, a 23 (ka 17 22), am 24 23, b 25 (f 3 2) 24, b 26 (l 5 25) 24, b 27 (f 3 3) 24, b 28 (l 5 27) 24, b 29 (.eqv false true [.i, .i, .i, .i, .s] (.s 26) (.s 28)) 24, a 30 (ka 24 29), am 31 30, b 32 (f 8 2) 31, b 33 (l 3 32) 31, b 34 (f 8 3) 31, b 35 (l 3 34) 31, b 36 (.eqv false true [.i, .i, .s] (.s 33) (.s 35)) 31, a 37 (ka 31 36), am 38 37, b 39 (f 11 2) 38, b 40 (k 39) 38, b 41 (f 11 3) 38, b 42 (k 41) 38, b 43 (q 40 42) 38, a 44 (ka 38 43), am 45 44, b 46 (f 12 2) 45, b 47 (k 46) 45, b 48 (f 12 3) 45, b 49 (k 48) 45, b 50 (q 47 49) 45, a 51 (ka 45 50), am 52 51, b 53 (f 13 2) 52, b 54 (k 53) 52, b 55 (f 13 3) 52, b 56 (k 55) 52, b 57 (q 54 56) 52, a 58 (ka 52 57), am 59 58, b 60 (f 14 2) 59, b 61 (l 2 60) 59, b 62 (f 14 3) 59, b 63 (l 2 62) 59, b 64 (.eqv false true [.i, .i] (.s 61) (.s 63)) 59, a 65 (ka 59 64), am 66 65, b 67 (f 16 2) 66, b 68 (k 67) 66, b 69 (f 16 3) 66, b 70 (k 69) 66, (g 71 (c 24 [68, 70]) 66, false), a 72 (ka 66 71), am 73 72, b 74 (f 17 2) 73, b 75 (k 74) 73, b 76 (f 17 3) 73, b 77 (k 76) 73, (g 78 (c 54 [75, 77]) 73, false), a 79 (ka 73 78), am 4 79] [4]
 (.ret [4])))⟩

def xf_message_config : XFunc := ⟨none, true, 1, [.tmp 2], (rs [o 1 (bx 0), o 2 (.mv (.c w))] [1]
 (ss [a 3 (f 0 1), a 4 (k 3), a 5 (bhj 4 1), am 6 5, b 7 (f 0 1) 6, b 8 (k 7) 6, b 9 (bmj 8 3) 6, a 10 (ka 6 9), am 11 10, b 12 (f 1 1) 11, b 13 (k 12) 11, b 14 (bhj 13 1) 11, a 15 (ka 11 14), am 16 15, b 17 (f 1 1) 16, b 18 (k 17) 16, b 19 (bmj 18 256) 16, a 20 (ka 16 19), am 21 20, b 22 (f 2 1) 21, b 23 (k 22) 21, b 24 (bhj 23 6) 21, a 25 (ka 21 24), am 26 25, b 27 (f 2 1) 26, b 28 (k 27) 26, b 29 (bmj 28 100) 26, a 30 (ka 26 29), am 2 30] [2]
 (.ret [2])))⟩

def xf_message_is : XFunc := ⟨none, true, 1, [.tmp 2], (rs [o 2 (.mv (.c w))] [0]
 (ss [am 3 0, a 4 (bhj 3 1), am 5 4, bb 6 0 5, b 7 (bmj 6 14) 5, a 8 (ka 5 7), am 2 8] [2]
 (.ret [2])))⟩

def xf_message_unused_k0 : List (Nat × Option (Nat × Nat × Bool)) := [(1, none), (42, none), (43, none)]
def xf_message_unused_b0 : XCode := (rs [o 44 (blj 43 10)] [1, 42, 43, 44]
 (.seq (.cond (.s 44) .skip (.exit 0 []))
 (.seq (.block 1 (rs [om 45 43, o 46 (.idx none 1 10 (.s 42) (.s 43)), om 4 45, om 5 46] [1, 4, 5, 42, 43]
 (ss [am 47 5, a 48 (nt 47), am 49 48, b 50 (f 0 1) 49, b 51 (k 50) 49, bb 52 4 49, (g 53 (.aadr 10 15 (.c (.dptr usesD)) (.s 51)) 49, false), (g 54 (.aadr 1 10 (.s 53) (.s 52)) 49, false), (g 55 (k 54) 49, false), (g 56 (nt 55) 49, false), a 57 (ka 49 56)] [1, 42, 43, 57]
 (.cond (.s 57) (rs [o 2 (.mv (.c w))] [2]
 (.ret [2])) .skip))))
 (.reg [o 58 (baj 43 1), om 43 58] none [1, 42, 43]))))
def xf_message_unused : XFunc := ⟨none, true, 1, [.tmp 2], (rs [o 1 (bx 0), o 2 (.mv (.c w))] [1]
 (rp (some [(1, 36), (4, 36), (7, 36), (10, 36), (13, 36), (16, 36), (20, 36), (24, 36), (28, 36), (32, 36)]) [of 6 1 1, o 7 (k 6), o 8 (qj 7 0), of 9 2 1, o 10 (k 9), o 11 (qj 10 0), of 12 13 1, o 13 (k 12), o 14 (qj 13 0), of 15 11 1, o 16 (k 15), o 17 (qj 16 0), of 18 12 1, o 19 (k 18), o 20 (qj 19 0), of 21 14 1, ol 22 2 21, o 23 (.build [y, y] []), o 24 (.eqv false true [.i, .i] (.s 22) (.s 23)), of 25 3 1, ol 26 5 25, o 27 (.build l11 []), o 28 (.eqv false true [.i, .i, .i, .i, .s] (.s 26) (.s 27)), of 29 8 1, ol 30 3 29, o 31 (.build l7 []), o 32 (.eqv false true [.i, .i, .s] (.s 30) (.s 31)), of 33 16 1, o 34 (k 33), o 35 (le 34), o 36 (qj 35 0), of 37 17 1, o 38 (k 37), o 39 (le 38), o 40 (qj 39 0), o 41 (.build l6 [(0, 1, (.s 8)), (1, 1, (.s 11)), (2, 1, (.s 14)), (3, 1, (.s 17)), (4, 1, (.s 20)), (5, 1, (.s 24)), (6, 1, (.s 28)), (7, 1, (.s 32)), (8, 1, (.s 36)), (9, 1, (.s 40))]), o 3 (.alloc l6), p (t 10 3 41)] [1, 3]
 (.seq (rs [ol 42 10 3, o 43 (.mv (j 0))] [1, 42, 43]
 (.block 0 (.loop xf_message_unused_k0 xf_message_unused_b0)))
 (rs [o 2 (.mv (.c v))] [2]
 (.ret [2])))))⟩

def xf_message_numbers : XFunc := ⟨none, true, 2, [.tmp 4], (rs [o 2 (bx 0), o 3 (bx 1), o 4 (.mv (.c w))] [2, 3]
 (rs [of 7 0 3, o 8 (k 7), o 9 (.aadr 10 15 (.c (.dptr usesD)) (.s 8)), ol 10 10 9, o 5 (.alloc l6), p (t 10 5 10)] [2, 3, 5]
 (rs [of 11 0 2, o 12 (k 11), o 13 (.bin .mul (j 2) (.s 12)), o 14 (baj 13 1), om 6 14] [2, 3, 5, 6]
 (.seq (ss [a 15 (f 1 3), a 16 (k 15), a 17 (blj 16 0), am 18 17, d 19 (f 1 3) 18, d 20 (k 19) 18, d 21 (m 6) 18, d 22 (bh 20 21) 18, a 23 (ko 18 22), am 24 23, d 25 (f 2 3) 24, d 26 (k 25) 24, d 27 (blj 26 0) 24, a 28 (ko 24 27), am 29 28, d 30 (f 2 3) 29, d 31 (k 30) 29, d 32 (bgj 31 4294967296) 29, a 33 (ko 29 32), am 34 33, d 35 (f 11 3) 34, d 36 (k 35) 34, d 37 (blj 36 0) 34, a 38 (ko 34 37), am 39 38, d 40 (f 11 3) 39, d 41 (k 40) 39, d 42 (f 1 2) 39, d 43 (k 42) 39, d 44 (bg 41 43) 39, a 45 (ko 39 44), am 46 45, d 47 (f 12 3) 46, d 48 (k 47) 46, d 49 (blj 48 0) 46, a 50 (ko 46 49), am 51 50, d 52 (f 13 3) 51, d 53 (k 52) 51, d 54 (blj 53 0) 51, a 55 (ko 51 54)] [2, 3, 5, 6, 55]
 (.cond (.s 55) (rs [o 4 (.mv (.c w))] [4]
 (.ret [4])) .skip))
 (.seq (rs [of 56 0 3, o 57 (k 56)] [2, 3, 5, 6, 57]
 (.block 0 (.seq (.block 5 (.seq (.block 4 (.seq (.block 3 (.seq (.block 2 (.seq (.block 1 (.seq (.seq (rs [o 59 (qj 57 3), om 58 59] [2, 3, 5, 6, 57, 58]
 (.cond (.s 58) (.exit 1 [2, 3, 6]) .skip))
 (.seq (rs [o 61 (qj 57 5), om 60 61] [2, 3, 5, 6, 57, 60]
 (.cond (.s 60) (.exit 2 [2, 3, 6]) .skip))
 (.seq (rs [o 63 (qj 57 14), om 62 63] [2, 3, 5, 6, 57, 62]
 (.cond (.s 62) (.exit 3 [2, 3]) .skip))
 (.seq (rs [o 65 (qj 57 8), om 64 65] [3, 5, 6, 57, 64]
 (.cond (.s 64) (.exit 4 [3, 5, 6]) .skip))
 (.seq (rs [o 67 (qj 57 6), om 66 67] [3, 5, 57, 66]
 (.cond (.s 66) .skip (.reg [o 68 (qj 57 7), om 66 68] none [3, 5, 66])))
 (.cond (.s 66) (.exit 5 [3, 5]) .skip))))))
 (.exit 0 [3, 5])))
 (rs [of 69 11 3, o 70 (k 69), o 71 (blj 70 1)] [2, 3, 6, 71]
 (.cond (.s 71) (rs [o 4 (.mv (.c w))] [4]
 (.ret [4])) .skip))))
 (.seq (sp (some []) [a 72 (f 1 3), a 73 (k 72), a 74 (f 2 3), a 75 (k 74), am 76 6, a 77 (.bin .rem (.s 75) (.s 76)), a 78 (q 73 77), am 79 78, b 80 (f 12 3) 79, b 81 (k 80) 79, b 82 (f 1 2) 79, b 83 (k 82) 79, b 84 (bm 81 83) 79, a 85 (ka 79 84), am 4 85] [4]
 (.ret [4]))
 (.exit 0 [3, 5]))))
 (.seq (rs [of 86 12 3, o 87 (k 86), of 88 1 2, o 89 (k 88), o 90 (bm 87 89), om 4 90] [4]
 (.ret [4]))
 (.exit 0 [3, 5]))))
 (rp (some []) [of 91 1 3, o 92 (k 91), of 93 2 3, o 94 (k 93), om 95 6, o 96 (.bin .rem (.s 94) (.s 95)), o 97 (n 92 96)] [3, 5, 97]
 (.cond (.s 97) (rs [o 4 (.mv (.c w))] [4]
 (.ret [4])) .skip))))
 (.seq (rs [of 98 2 3, o 99 (k 98), o 100 (blj 99 1)] [3, 5, 100]
 (.cond (.s 100) (rs [o 4 (.mv (.c w))] [4]
 (.ret [4])) .skip))
 (.exit 0 [3, 5])))))
 (ss [a 101 (.aadr 1 10 (.s 5) (j 2)), a 102 (k 101), a 103 (nt 102), am 104 103, d 105 (f 13 3) 104, d 106 (k 105) 104, d 107 (f 2 3) 104, d 108 (k 107) 104, d 109 (bl 106 108) 104, a 110 (ko 104 109), am 111 110, b 112 (.aadr 1 10 (.s 5) (j 8)) 111, b 113 (k 112) 111, b 114 (nt 113) 111, bb 115 114 111, d 116 (f 12 3) 115, d 117 (k 116) 115, d 118 (f 16 3) 115, d 119 (k 118) 115, d 120 (le 119) 115, d 121 (bm 117 120) 115, b 122 (ko 115 121) 111, a 123 (ka 111 122), am 4 123] [4]
 (.ret [4])))))))⟩

def xf_message_asks : XFunc := ⟨none, true, 2, [.tmp 4], (rs [o 3 (bx 1), o 4 (.mv (.c w))] [0, 3]
 (.seq (ss [a 5 (f 0 3), a 6 (k 5), a 7 (blj 6 0), am 8 7, d 9 (f 0 3) 8, d 10 (k 9) 8, d 11 (bhj 10 16) 8, a 12 (ko 8 11), am 13 12, d 14 (f 1 3) 13, d 15 (k 14) 13, d 16 (blj 15 1) 13, a 17 (ko 13 16)] [0, 3, 17]
 (.cond (.s 17) (rs [o 4 (.mv (.c w))] [4]
 (.ret [4])) .skip))
 (.seq (rs [om 18 0, o 19 (c 168 [18])] [0, 3, 19]
 (.cond (.s 19) (rs [of 20 2 3, ol 21 3 20, o 22 (.build l7 []), o 23 (.eqv false true [.i, .i, .s] (.s 21) (.s 22)), om 4 23] [4]
 (.ret [4])) .skip))
 (.seq (ss [am 24 0, a 25 (qj 24 13), am 26 25, b 27 (f 2 3) 26, b 28 (f 0 27) 26, b 29 (k 28) 26, b 30 (nj 29 3) 26, a 31 (ka 26 30), am 32 31, b 33 (f 2 3) 32, b 34 (f 0 33) 32, b 35 (k 34) 32, b 36 (nj 35 4) 32, a 37 (ka 32 36)] [3, 37]
 (.cond (.s 37) (rs [o 4 (.mv (.c w))] [4]
 (.ret [4])) .skip))
 (rs [of 38 2 3, ol 39 3 38, o 40 (c 169 [39]), o 41 (qj 40 0), om 4 41] [4]
 (.ret [4]))))))⟩

def xf_message_answers : XFunc := ⟨none, true, 1, [.tmp 2], (rs [o 1 (bx 0), o 2 (.mv (.c w))] [1]
 (ss [a 4 (f 1 1), a 5 (k 4), a 6 (bhj 5 0), am 7 6, b 8 (f 1 1) 7, b 9 (k 8) 7, b 10 (blj 9 1024) 7, a 11 (ka 7 10), am 3 11] [1, 3]
 (.seq (rs [of 12 0 1, o 13 (k 12)] [1, 3, 13]
 (.block 0 (.seq (rs [o 15 (qj 13 1), om 14 15] [1, 3, 13, 14]
 (.cond (.s 14) .skip (rs [o 16 (qj 13 2), om 14 16] [1, 3, 13, 14]
 (.cond (.s 14) .skip (.reg [o 17 (qj 13 4), om 14 17] none [1, 3, 13, 14])))))
 (.cond (.s 14) (ss [am 18 3, am 19 18, b 20 (f 2 1) 19, b 21 (k 20) 19, b 22 (.len true (.s 21)) 19, b 23 (bmj 22 64) 19, a 24 (ka 19 23), am 2 24] [2]
 (.ret [2])) (rs [o 26 (qj 13 5), om 25 26] [1, 3, 13, 25]
 (.cond (.s 25) (ss [am 27 3, am 28 27, b 29 (f 2 1) 28, b 30 (k 29) 28, b 31 (.eqv false false [.s] (.s 30) (.c x)) 28, a 32 (ka 28 31), am 2 32] [2]
 (.ret [2])) (rs [o 34 (qj 13 6), om 33 34] [1, 13, 33]
 (.cond (.s 33) (ss [a 35 (f 1 1), a 36 (k 35), a 37 (bhj 36 0), am 38 37, b 39 (f 1 1) 38, b 40 (k 39) 38, b 41 (bmj 40 1024) 38, a 42 (ka 38 41), am 43 42, b 44 (f 2 1) 43, b 45 (k 44) 43, b 46 (.eqv false false [.s] (.s 45) (.c x)) 43, a 47 (ka 43 46), am 2 47] [2]
 (.ret [2])) (.seq (rs [o 49 (qj 13 3), om 48 49] [1, 13, 48]
 (.cond (.s 48) .skip (.reg [o 50 (qj 13 7), om 48 50] none [1, 48])))
 (.cond (.s 48) (ss [a 51 (f 1 1), a 52 (k 51), a 53 (qj 52 0), am 54 53, b 55 (f 2 1) 54, b 56 (k 55) 54, b 57 (.eqv false false [.s] (.s 56) (.c x)) 54, a 58 (ka 54 57), am 2 58] [2]
 (.ret [2])) .skip))))))))))
 (rs [o 2 (.mv (.c w))] [2]
 (.ret [2])))))⟩

def xf_message_reads : XFunc := ⟨none, true, 1, [.tmp 2], (rs [o 1 (bx 0), o 2 (.mv (.c w))] [1]
 (.seq (rs [of 3 0 1, o 4 (k 3)] [1, 4]
 (.block 0 (rs [o 6 (qj 4 14), om 5 6] [1, 4, 5]
 (.cond (.s 5) (ss [a 7 (f 8 1), a 8 (f 0 7), a 9 (k 8), a 10 (qj 9 4), am 11 10, d 12 (f 8 1) 11, d 13 (f 0 12) 11, d 14 (k 13) 11, d 15 (qj 14 5) 11, a 16 (ko 11 15), am 17 16, d 18 (f 8 1) 17, d 19 (f 0 18) 17, d 20 (k 19) 17, d 21 (qj 20 6) 17, a 22 (ko 17 21), am 2 22] [2]
 (.ret [2])) (rs [o 24 (qj 4 2), om 23 24] [1, 23]
 (.cond (.s 23) (rs [of 25 11 1, o 26 (k 25), o 27 (qj 26 0), of 28 8 1, of 29 0 28, o 30 (k 29), o 31 (qj 30 7), o 32 (.eqv false false [.b] (.s 27) (.s 31)), om 2 32] [2]
 (.ret [2])) .skip))))))
 (rs [o 2 (.mv (.c v))] [2]
 (.ret [2]))))⟩

def xf_vector_fits : XFunc := ⟨none, true, 1, [.tmp 2], (rs [o 2 (.mv (.c w))] [0]
 (ss [am 3 0, a 4 (le 3), a 5 (bhj 4 1), am 6 5, bb 7 0 6, b 8 (le 7) 6, b 9 (bmj 8 7) 6, a 10 (ka 6 9), am 2 10] [2]
 (.ret [2])))⟩

def xf_tally_turned_ack_Ack_k0 : List (Nat × Option (Nat × Nat × Bool)) := [(1, none), (5, some (67, 4, true)), (8, some (185, 4, true)), (9, none), (10, none)]
def xf_tally_turned_ack_Ack_b0 : XCode := (rs [o 11 (bl 10 9)] [1, 5, 8, 9, 10, 11]
 (.seq (.cond (.s 11) .skip (.exit 0 [5]))
 (.seq (.block 1 (rs [o 12 (ia 4 8 10), ol 13 4 12, o 7 (.alloc l10), p (t 4 7 13)] [1, 5, 7, 8, 9, 10]
 (.reg [om 14 5, om 15 1, ol 16 4 7, o 17 (.call (.s 15) [(.s 16)]), o 18 (.bsl 67 4 true 1 l10 [(0, 4, (.s 17))]), o 19 (.app 67 4 32 true (.s 14) (.s 18)), om 5 19] none [1, 5, 8, 9, 10])))
 (.reg [o 20 (baj 10 1), om 10 20] none [1, 5, 8, 9, 10]))))
def xf_tally_turned_ack_Ack : XFunc := ⟨none, true, 2, [.tmp 4], (rs [o 4 (.mv (.c (.nil 67 4 true)))] [0, 1]
 (rs [o 5 (.mv (.c (.nil 67 4 true)))] [0, 1, 5]
 (.seq (rs [om 8 0, o 9 (le 8), o 10 (.mv (j 0))] [1, 5, 8, 9, 10]
 (.block 0 (.loop xf_tally_turned_ack_Ack_k0 xf_tally_turned_ack_Ack_b0)))
 (rs [om 21 5, om 4 21] [4]
 (.ret [4])))))⟩

def xf_tally_turned_Ack_ack_k0 : List (Nat × Option (Nat × Nat × Bool)) := [(1, none), (5, some (185, 4, true)), (8, some (67, 4, true)), (9, none), (10, none)]
def xf_tally_turned_Ack_ack_b0 : XCode := (rs [o 11 (bl 10 9)] [1, 5, 8, 9, 10, 11]
 (.seq (.cond (.s 11) .skip (.exit 0 [5]))
 (.seq (.block 1 (rs [o 12 (ia 4 8 10), ol 13 4 12, o 7 (.alloc l10), p (t 4 7 13)] [1, 5, 7, 8, 9, 10]
 (.reg [om 14 5, om 15 1, ol 16 4 7, o 17 (.call (.s 15) [(.s 16)]), o 18 (.bsl 185 4 true 1 l10 [(0, 4, (.s 17))]), o 19 (.app 185 4 32 true (.s 14) (.s 18)), om 5 19] none [1, 5, 8, 9, 10])))
 (.reg [o 20 (baj 10 1), om 10 20] none [1, 5, 8, 9, 10]))))
def xf_tally_turned_Ack_ack : XFunc := ⟨none, true, 2, [.tmp 4], (rs [o 4 (.mv (.c (.nil 185 4 true)))] [0, 1]
 (rs [o 5 (.mv (.c (.nil 185 4 true)))] [0, 1, 5]
 (.seq (rs [om 8 0, o 9 (le 8), o 10 (.mv (j 0))] [1, 5, 8, 9, 10]
 (.block 0 (.loop xf_tally_turned_Ack_ack_k0 xf_tally_turned_Ack_ack_b0)))
 (rs [om 21 5, om 4 21] [4]
 (.ret [4])))))⟩

def xf_tally_toAck : XFunc := ⟨none, true, 1, [.cell 2 (some 4)], (rs [o 1 (bx 0), o 2 (.alloc l10)] [1, 2]
 (rs [ol 3 4 1, p (t 4 2 3)] [2]
 (.ret [2])))⟩

def xf_tally_box_ack_prune_k0 : List (Nat × Option (Nat × Nat × Bool)) := [(1, none), (5, some (185, 4, true)), (10, some (185, 4, true)), (11, none), (12, none)]
def xf_tally_box_ack_prune_b0 : XCode := (rs [o 13 (bl 12 11)] [1, 5, 10, 11, 12, 13]
 (.seq (.cond (.s 13) .skip (.exit 0 [5]))
 (.seq (.block 1 (rs [o 14 (ia 4 10 12), ol 15 4 14, o 7 (.alloc l10), p (t 4 7 15)] [1, 5, 7, 10, 11, 12]
 (rs [ol 16 4 7, o 17 (.mkifc 185 (.s 16)), o 18 (.inv [(185, 203), (194, 206), (203, 209), (212, 212)] (.s 17) []), om 8 18] [1, 5, 7, 8, 10, 11, 12]
 (sp (some [(11, 14), (11, 15)]) [am 19 8, a 20 (blj 19 0), am 21 20, d 22 (m 8) 21, d 23 (m 1) 21, d 24 (le 23) 21, d 25 (bh 22 24) 21, a 26 (ko 21 25), am 27 26, d 28 (l 4 7) 27, d 29 (.mkifc 185 (.s 28)) 27, (⟨(some 30), .inv [(185, 201), (194, 204), (203, 207), (212, 210)] (.s 29) [], some (27, false)⟩, false), d 31 (m 1) 27, d 32 (m 8) 27, (⟨(some 33), ia 2 31 32, some (27, false)⟩, false), (⟨(some 34), l 2 33, some (27, false)⟩, false), (⟨(some 35), c 43 [30, 34], some (27, false)⟩, false), (⟨(some 36), bhj 35 0, some (27, false)⟩, false), a 37 (ko 27 36)] [1, 5, 7, 10, 11, 12, 37]
 (.cond (.s 37) (.reg [om 38 5, ol 39 4 7, o 40 (.mkifc 185 (.s 39)), o 41 (.inv [(185, 202), (194, 205), (203, 208), (212, 211)] (.s 40) []), o 42 (.bsl 185 4 true 1 l10 [(0, 4, (.s 41))]), o 43 (.app 185 4 32 true (.s 38) (.s 42)), om 5 43] none [1, 5, 10, 11, 12]) .skip)))))
 (.reg [o 44 (baj 12 1), om 12 44] none [1, 5, 10, 11, 12]))))
def xf_tally_box_ack_prune : XFunc := ⟨none, true, 2, [.tmp 4], (rs [o 2 (bx 0), o 4 (.mv (.c (.nil 185 4 true)))] [1, 2]
 (rs [o 5 (.mv (.c (.nil 185 4 true)))] [1, 2, 5]
 (.seq (rs [of 9 0 2, o 10 (k 9), o 11 (le 10), o 12 (.mv (j 0))] [1, 5, 10, 11, 12]
 (.block 0 (.loop xf_tally_box_ack_prune_k0 xf_tally_box_ack_prune_b0)))
 (rs [om 45 5, om 4 45] [4]
 (.ret [4])))))⟩

def xf_tally_fromAck : XFunc := ⟨none, true, 1, [.cell 2 (some 4)], (rs [o 1 (bx 0), o 2 (.alloc l10)] [1, 2]
 (rs [ol 3 4 1, p (t 4 2 3)] [2]
 (.ret [2])))⟩

def xf_tally_turned_mark_Mark_k0 : List (Nat × Option (Nat × Nat × Bool)) := [(1, none), (5, some (69, 3, true)), (8, some (194, 3, true)), (9, none), (10, none)]
def xf_tally_turned_mark_Mark_b0 : XCode := (rs [o 11 (bl 10 9)] [1, 5, 8, 9, 10, 11]
 (.seq (.cond (.s 11) .skip (.exit 0 [5]))
 (.seq (.block 1 (rs [o 12 (ia 3 8 10), ol 13 3 12, o 7 (.alloc l8), p (t 3 7 13)] [1, 5, 7, 8, 9, 10]
 (.reg [om 14 5, om 15 1, ol 16 3 7, o 17 (.call (.s 15) [(.s 16)]), o 18 (.bsl 69 3 true 1 l8 [(0, 3, (.s 17))]), o 19 (.app 69 3 24 true (.s 14) (.s 18)), om 5 19] none [1, 5, 8, 9, 10])))
 (.reg [o 20 (baj 10 1), om 10 20] none [1, 5, 8, 9, 10]))))
def xf_tally_turned_mark_Mark : XFunc := ⟨none, true, 2, [.tmp 4], (rs [o 4 (.mv (.c (.nil 69 3 true)))] [0, 1]
 (rs [o 5 (.mv (.c (.nil 69 3 true)))] [0, 1, 5]
 (.seq (rs [om 8 0, o 9 (le 8), o 10 (.mv (j 0))] [1, 5, 8, 9, 10]
 (.block 0 (.loop xf_tally_turned_mark_Mark_k0 xf_tally_turned_mark_Mark_b0)))
 (rs [om 21 5, om 4 21] [4]
 (.ret [4])))))⟩

def xf_tally_turned_Mark_mark_k0 : List (Nat × Option (Nat × Nat × Bool)) := [(1, none), (5, some (194, 3, true)), (8, some (69, 3, true)), (9, none), (10, none)]
def xf_tally_turned_Mark_mark_b0 : XCode := (rs [o 11 (bl 10 9)] [1, 5, 8, 9, 10, 11]
 (.seq (.cond (.s 11) .skip (.exit 0 [5]))
 (.seq (.block 1 (rs [o 12 (ia 3 8 10), ol 13 3 12, o 7 (.alloc l8), p (t 3 7 13)] [1, 5, 7, 8, 9, 10]
 (.reg [om 14 5, om 15 1, ol 16 3 7, o 17 (.call (.s 15) [(.s 16)]), o 18 (.bsl 194 3 true 1 l8 [(0, 3, (.s 17))]), o 19 (.app 194 3 24 true (.s 14) (.s 18)), om 5 19] none [1, 5, 8, 9, 10])))
 (.reg [o 20 (baj 10 1), om 10 20] none [1, 5, 8, 9, 10]))))
def xf_tally_turned_Mark_mark : XFunc := ⟨none, true, 2, [.tmp 4], (rs [o 4 (.mv (.c (.nil 194 3 true)))] [0, 1]
 (rs [o 5 (.mv (.c (.nil 194 3 true)))] [0, 1, 5]
 (.seq (rs [om 8 0, o 9 (le 8), o 10 (.mv (j 0))] [1, 5, 8, 9, 10]
 (.block 0 (.loop xf_tally_turned_Mark_mark_k0 xf_tally_turned_Mark_mark_b0)))
 (rs [om 21 5, om 4 21] [4]
 (.ret [4])))))⟩

def xf_tally_toMark : XFunc := ⟨none, true, 1, [.cell 2 (some 3)], (rs [o 1 (bx 0), o 2 (.alloc l8)] [1, 2]
 (rs [ol 3 3 1, p (t 3 2 3)] [2]
 (.ret [2])))⟩

def xf_tally_box_mark_prune_k0 : List (Nat × Option (Nat × Nat × Bool)) := [(1, none), (5, some (194, 3, true)), (10, some (194, 3, true)), (11, none), (12, none)]
def xf_tally_box_mark_prune_b0 : XCode := (rs [o 13 (bl 12 11)] [1, 5, 10, 11, 12, 13]
 (.seq (.cond (.s 13) .skip (.exit 0 [5]))
 (.seq (.block 1 (rs [o 14 (ia 3 10 12), ol 15 3 14, o 7 (.alloc l8), p (t 3 7 15)] [1, 5, 7, 10, 11, 12]
 (rs [ol 16 3 7, o 17 (.mkifc 194 (.s 16)), o 18 (.inv [(185, 203), (194, 206), (203, 209), (212, 212)] (.s 17) []), om 8 18] [1, 5, 7, 8, 10, 11, 12]
 (sp (some [(11, 14), (11, 15)]) [am 19 8, a 20 (blj 19 0), am 21 20, d 22 (m 8) 21, d 23 (m 1) 21, d 24 (le 23) 21, d 25 (bh 22 24) 21, a 26 (ko 21 25), am 27 26, d 28 (l 3 7) 27, d 29 (.mkifc 194 (.s 28)) 27, (⟨(some 30), .inv [(185, 201), (194, 204), (203, 207), (212, 210)] (.s 29) [], some (27, false)⟩, false), d 31 (m 1) 27, d 32 (m 8) 27, (⟨(some 33), ia 2 31 32, some (27, false)⟩, false), (⟨(some 34), l 2 33, some (27, false)⟩, false), (⟨(some 35), c 43 [30, 34], some (27, false)⟩, false), (⟨(some 36), bhj 35 0, some (27, false)⟩, false), a 37 (ko 27 36)] [1, 5, 7, 10, 11, 12, 37]
 (.cond (.s 37) (.reg [om 38 5, ol 39 3 7, o 40 (.mkifc 194 (.s 39)), o 41 (.inv [(185, 202), (194, 205), (203, 208), (212, 211)] (.s 40) []), o 42 (.bsl 194 3 true 1 l8 [(0, 3, (.s 41))]), o 43 (.app 194 3 24 true (.s 38) (.s 42)), om 5 43] none [1, 5, 10, 11, 12]) .skip)))))
 (.reg [o 44 (baj 12 1), om 12 44] none [1, 5, 10, 11, 12]))))
def xf_tally_box_mark_prune : XFunc := ⟨none, true, 2, [.tmp 4], (rs [o 2 (bx 0), o 4 (.mv (.c (.nil 194 3 true)))] [1, 2]
 (rs [o 5 (.mv (.c (.nil 194 3 true)))] [1, 2, 5]
 (.seq (rs [of 9 0 2, o 10 (k 9), o 11 (le 10), o 12 (.mv (j 0))] [1, 5, 10, 11, 12]
 (.block 0 (.loop xf_tally_box_mark_prune_k0 xf_tally_box_mark_prune_b0)))
 (rs [om 45 5, om 4 45] [4]
 (.ret [4])))))⟩

def xf_tally_fromMark : XFunc := ⟨none, true, 1, [.cell 2 (some 3)], (rs [o 1 (bx 0), o 2 (.alloc l8)] [1, 2]
 (rs [ol 3 3 1, p (t 3 2 3)] [2]
 (.ret [2])))⟩

def xf_tally_turned_ballot_Ballot_k0 : List (Nat × Option (Nat × Nat × Bool)) := [(1, none), (5, some (71, 6, false)), (8, some (203, 6, false)), (9, none), (10, none)]
def xf_tally_turned_ballot_Ballot_b0 : XCode := (rs [o 11 (bl 10 9)] [1, 5, 8, 9, 10, 11]
 (.seq (.cond (.s 11) .skip (.exit 0 [5]))
 (.seq (.block 1 (rs [o 12 (ia 6 8 10), ol 13 6 12, o 7 (.alloc l2), p (t 6 7 13)] [1, 5, 7, 8, 9, 10]
 (.reg [om 14 5, om 15 1, ol 16 6 7, o 17 (.call (.s 15) [(.s 16)]), o 18 (.bsl 71 6 false 1 l2 [(0, 6, (.s 17))]), o 19 (.app 71 6 64 false (.s 14) (.s 18)), om 5 19] none [1, 5, 8, 9, 10])))
 (.reg [o 20 (baj 10 1), om 10 20] none [1, 5, 8, 9, 10]))))
def xf_tally_turned_ballot_Ballot : XFunc := ⟨none, true, 2, [.tmp 4], (rs [o 4 (.mv (.c (.nil 71 6 false)))] [0, 1]
 (rs [o 5 (.mv (.c (.nil 71 6 false)))] [0, 1, 5]
 (.seq (rs [om 8 0, o 9 (le 8), o 10 (.mv (j 0))] [1, 5, 8, 9, 10]
 (.block 0 (.loop xf_tally_turned_ballot_Ballot_k0 xf_tally_turned_ballot_Ballot_b0)))
 (rs [om 21 5, om 4 21] [4]
 (.ret [4])))))⟩

def xf_tally_turned_Ballot_ballot_k0 : List (Nat × Option (Nat × Nat × Bool)) := [(1, none), (5, some (203, 6, false)), (8, some (71, 6, false)), (9, none), (10, none)]
def xf_tally_turned_Ballot_ballot_b0 : XCode := (rs [o 11 (bl 10 9)] [1, 5, 8, 9, 10, 11]
 (.seq (.cond (.s 11) .skip (.exit 0 [5]))
 (.seq (.block 1 (rs [o 12 (ia 6 8 10), ol 13 6 12, o 7 (.alloc l2), p (t 6 7 13)] [1, 5, 7, 8, 9, 10]
 (.reg [om 14 5, om 15 1, ol 16 6 7, o 17 (.call (.s 15) [(.s 16)]), o 18 (.bsl 203 6 false 1 l2 [(0, 6, (.s 17))]), o 19 (.app 203 6 64 false (.s 14) (.s 18)), om 5 19] none [1, 5, 8, 9, 10])))
 (.reg [o 20 (baj 10 1), om 10 20] none [1, 5, 8, 9, 10]))))
def xf_tally_turned_Ballot_ballot : XFunc := ⟨none, true, 2, [.tmp 4], (rs [o 4 (.mv (.c (.nil 203 6 false)))] [0, 1]
 (rs [o 5 (.mv (.c (.nil 203 6 false)))] [0, 1, 5]
 (.seq (rs [om 8 0, o 9 (le 8), o 10 (.mv (j 0))] [1, 5, 8, 9, 10]
 (.block 0 (.loop xf_tally_turned_Ballot_ballot_k0 xf_tally_turned_Ballot_ballot_b0)))
 (rs [om 21 5, om 4 21] [4]
 (.ret [4])))))⟩

def xf_tally_toBallot : XFunc := ⟨none, true, 1, [.cell 2 (some 6)], (rs [o 1 (bx 0), o 2 (.alloc l2)] [1, 2]
 (rs [ol 3 6 1, p (t 6 2 3)] [2]
 (.ret [2])))⟩

def xf_tally_box_ballot_prune_k0 : List (Nat × Option (Nat × Nat × Bool)) := [(1, none), (5, some (203, 6, false)), (10, some (203, 6, false)), (11, none), (12, none)]
def xf_tally_box_ballot_prune_b0 : XCode := (rs [o 13 (bl 12 11)] [1, 5, 10, 11, 12, 13]
 (.seq (.cond (.s 13) .skip (.exit 0 [5]))
 (.seq (.block 1 (rs [o 14 (ia 6 10 12), ol 15 6 14, o 7 (.alloc l2), p (t 6 7 15)] [1, 5, 7, 10, 11, 12]
 (rs [ol 16 6 7, o 17 (.mkifc 203 (.s 16)), o 18 (.inv [(185, 203), (194, 206), (203, 209), (212, 212)] (.s 17) []), om 8 18] [1, 5, 7, 8, 10, 11, 12]
 (sp (some [(11, 14), (11, 15)]) [am 19 8, a 20 (blj 19 0), am 21 20, d 22 (m 8) 21, d 23 (m 1) 21, d 24 (le 23) 21, d 25 (bh 22 24) 21, a 26 (ko 21 25), am 27 26, d 28 (l 6 7) 27, d 29 (.mkifc 203 (.s 28)) 27, (⟨(some 30), .inv [(185, 201), (194, 204), (203, 207), (212, 210)] (.s 29) [], some (27, false)⟩, false), d 31 (m 1) 27, d 32 (m 8) 27, (⟨(some 33), ia 2 31 32, some (27, false)⟩, false), (⟨(some 34), l 2 33, some (27, false)⟩, false), (⟨(some 35), c 43 [30, 34], some (27, false)⟩, false), (⟨(some 36), bhj 35 0, some (27, false)⟩, false), a 37 (ko 27 36)] [1, 5, 7, 10, 11, 12, 37]
 (.cond (.s 37) (.reg [om 38 5, ol 39 6 7, o 40 (.mkifc 203 (.s 39)), o 41 (.inv [(185, 202), (194, 205), (203, 208), (212, 211)] (.s 40) []), o 42 (.bsl 203 6 false 1 l2 [(0, 6, (.s 41))]), o 43 (.app 203 6 64 false (.s 38) (.s 42)), om 5 43] none [1, 5, 10, 11, 12]) .skip)))))
 (.reg [o 44 (baj 12 1), om 12 44] none [1, 5, 10, 11, 12]))))
def xf_tally_box_ballot_prune : XFunc := ⟨none, true, 2, [.tmp 4], (rs [o 2 (bx 0), o 4 (.mv (.c (.nil 203 6 false)))] [1, 2]
 (rs [o 5 (.mv (.c (.nil 203 6 false)))] [1, 2, 5]
 (.seq (rs [of 9 0 2, o 10 (k 9), o 11 (le 10), o 12 (.mv (j 0))] [1, 5, 10, 11, 12]
 (.block 0 (.loop xf_tally_box_ballot_prune_k0 xf_tally_box_ballot_prune_b0)))
 (rs [om 45 5, om 4 45] [4]
 (.ret [4])))))⟩

def xf_tally_fromBallot : XFunc := ⟨none, true, 1, [.cell 2 (some 6)], (rs [o 1 (bx 0), o 2 (.alloc l2)] [1, 2]
 (rs [ol 3 6 1, p (t 6 2 3)] [2]
 (.ret [2])))⟩

def xf_tally_turned_answer_Answer_k0 : List (Nat × Option (Nat × Nat × Bool)) := [(1, none), (5, some (73, 6, false)), (8, some (212, 6, false)), (9, none), (10, none)]
def xf_tally_turned_answer_Answer_b0 : XCode := (rs [o 11 (bl 10 9)] [1, 5, 8, 9, 10, 11]
 (.seq (.cond (.s 11) .skip (.exit 0 [5]))
 (.seq (.block 1 (rs [o 12 (ia 6 8 10), ol 13 6 12, o 7 (.alloc l2), p (t 6 7 13)] [1, 5, 7, 8, 9, 10]
 (.reg [om 14 5, om 15 1, ol 16 6 7, o 17 (.call (.s 15) [(.s 16)]), o 18 (.bsl 73 6 false 1 l2 [(0, 6, (.s 17))]), o 19 (.app 73 6 64 false (.s 14) (.s 18)), om 5 19] none [1, 5, 8, 9, 10])))
 (.reg [o 20 (baj 10 1), om 10 20] none [1, 5, 8, 9, 10]))))
def xf_tally_turned_answer_Answer : XFunc := ⟨none, true, 2, [.tmp 4], (rs [o 4 (.mv (.c (.nil 73 6 false)))] [0, 1]
 (rs [o 5 (.mv (.c (.nil 73 6 false)))] [0, 1, 5]
 (.seq (rs [om 8 0, o 9 (le 8), o 10 (.mv (j 0))] [1, 5, 8, 9, 10]
 (.block 0 (.loop xf_tally_turned_answer_Answer_k0 xf_tally_turned_answer_Answer_b0)))
 (rs [om 21 5, om 4 21] [4]
 (.ret [4])))))⟩

def xf_tally_turned_Answer_answer_k0 : List (Nat × Option (Nat × Nat × Bool)) := [(1, none), (5, some (212, 6, false)), (8, some (73, 6, false)), (9, none), (10, none)]
def xf_tally_turned_Answer_answer_b0 : XCode := (rs [o 11 (bl 10 9)] [1, 5, 8, 9, 10, 11]
 (.seq (.cond (.s 11) .skip (.exit 0 [5]))
 (.seq (.block 1 (rs [o 12 (ia 6 8 10), ol 13 6 12, o 7 (.alloc l2), p (t 6 7 13)] [1, 5, 7, 8, 9, 10]
 (.reg [om 14 5, om 15 1, ol 16 6 7, o 17 (.call (.s 15) [(.s 16)]), o 18 (.bsl 212 6 false 1 l2 [(0, 6, (.s 17))]), o 19 (.app 212 6 64 false (.s 14) (.s 18)), om 5 19] none [1, 5, 8, 9, 10])))
 (.reg [o 20 (baj 10 1), om 10 20] none [1, 5, 8, 9, 10]))))
def xf_tally_turned_Answer_answer : XFunc := ⟨none, true, 2, [.tmp 4], (rs [o 4 (.mv (.c (.nil 212 6 false)))] [0, 1]
 (rs [o 5 (.mv (.c (.nil 212 6 false)))] [0, 1, 5]
 (.seq (rs [om 8 0, o 9 (le 8), o 10 (.mv (j 0))] [1, 5, 8, 9, 10]
 (.block 0 (.loop xf_tally_turned_Answer_answer_k0 xf_tally_turned_Answer_answer_b0)))
 (rs [om 21 5, om 4 21] [4]
 (.ret [4])))))⟩
theorem r_plain_Book_apartBytes : progT Tryz.prog 98 = some xf_plain_Book_apartBytes.plain := by kernel_rfl
theorem r_plain_Book_apartInts : progT Tryz.prog 99 = some xf_plain_Book_apartInts.plain := by kernel_rfl
theorem r_plain_Book_apartVector : progT Tryz.prog 100 = some xf_plain_Book_apartVector.plain := by kernel_rfl
theorem r_plain_Book_apartEntries : progT Tryz.prog 101 = some xf_plain_Book_apartEntries.plain := by kernel_rfl
theorem r_plain_Book_apartCells : progT Tryz.prog 102 = some xf_plain_Book_apartCells.plain := by kernel_rfl
theorem r_plain_Book_apartRows : progT Tryz.prog 103 = some xf_plain_Book_apartRows.plain := by kernel_rfl
theorem r_plain_Book_apartResults : progT Tryz.prog 104 = some xf_plain_Book_apartResults.plain := by kernel_rfl
theorem r_plain_Book_apartStamps : progT Tryz.prog 105 = some xf_plain_Book_apartStamps.plain := by kernel_rfl
theorem r_plain_Book_apartAcks : progT Tryz.prog 106 = some xf_plain_Book_apartAcks.plain := by kernel_rfl
theorem r_plain_Book_apartMarks : progT Tryz.prog 107 = some xf_plain_Book_apartMarks.plain := by kernel_rfl
theorem r_ref09_Primary : progT Tryz.prog 108 = some xf_ref09_Primary.plain := by kernel_rfl
theorem r_ref05_Between : progT Tryz.prog 109 = some xf_ref05_Between.plain := by kernel_rfl
theorem r_plain_SameMsg : progT Tryz.prog 110 = some xf_plain_SameMsg.plain := by kernel_rfl
theorem r_message_config : progT Tryz.prog 111 = some xf_message_config.plain := by kernel_rfl
theorem r_message_is : progT Tryz.prog 112 = some xf_message_is.plain := by kernel_rfl
theorem r_message_unused : progT Tryz.prog 113 = some xf_message_unused.plain := by kernel_rfl
theorem r_message_numbers : progT Tryz.prog 114 = some xf_message_numbers.plain := by kernel_rfl
theorem r_message_asks : progT Tryz.prog 115 = some xf_message_asks.plain := by kernel_rfl
theorem r_message_answers : progT Tryz.prog 116 = some xf_message_answers.plain := by kernel_rfl
theorem r_message_reads : progT Tryz.prog 117 = some xf_message_reads.plain := by kernel_rfl
theorem r_vector_fits : progT Tryz.prog 125 = some xf_vector_fits.plain := by kernel_rfl
theorem r_tally_turned_ack_Ack : progT Tryz.prog 126 = some xf_tally_turned_ack_Ack.plain := by kernel_rfl
theorem r_tally_turned_Ack_ack : progT Tryz.prog 127 = some xf_tally_turned_Ack_ack.plain := by kernel_rfl
theorem r_tally_toAck : progT Tryz.prog 128 = some xf_tally_toAck.plain := by kernel_rfl
theorem r_tally_box_ack_prune : progT Tryz.prog 129 = some xf_tally_box_ack_prune.plain := by kernel_rfl
theorem r_tally_fromAck : progT Tryz.prog 130 = some xf_tally_fromAck.plain := by kernel_rfl
theorem r_tally_turned_mark_Mark : progT Tryz.prog 131 = some xf_tally_turned_mark_Mark.plain := by kernel_rfl
theorem r_tally_turned_Mark_mark : progT Tryz.prog 132 = some xf_tally_turned_Mark_mark.plain := by kernel_rfl
theorem r_tally_toMark : progT Tryz.prog 133 = some xf_tally_toMark.plain := by kernel_rfl
theorem r_tally_box_mark_prune : progT Tryz.prog 134 = some xf_tally_box_mark_prune.plain := by kernel_rfl
theorem r_tally_fromMark : progT Tryz.prog 135 = some xf_tally_fromMark.plain := by kernel_rfl
theorem r_tally_turned_ballot_Ballot : progT Tryz.prog 136 = some xf_tally_turned_ballot_Ballot.plain := by kernel_rfl
theorem r_tally_turned_Ballot_ballot : progT Tryz.prog 137 = some xf_tally_turned_Ballot_ballot.plain := by kernel_rfl
theorem r_tally_toBallot : progT Tryz.prog 138 = some xf_tally_toBallot.plain := by kernel_rfl
theorem r_tally_box_ballot_prune : progT Tryz.prog 139 = some xf_tally_box_ballot_prune.plain := by kernel_rfl
theorem r_tally_fromBallot : progT Tryz.prog 140 = some xf_tally_fromBallot.plain := by kernel_rfl
theorem r_tally_turned_answer_Answer : progT Tryz.prog 141 = some xf_tally_turned_answer_Answer.plain := by kernel_rfl
theorem r_tally_turned_Answer_answer : progT Tryz.prog 142 = some xf_tally_turned_Answer_answer.plain := by kernel_rfl

end Go.Ax
