/-
  The functions of this seat as resolved code, and that the program resolves to them (part 3).
-/
import Derived.Test.YticchmjgonkcjaaGreatDoorXComp
import Derived.Test.YticchmjgonkcjaaGreatDoorXFn
import Derived.Test.YticchmjgonkcjaaGreatDoorXG
import Derived.Test.YticchmjgonkcjaaGreatDoorXP
import Derived.Test.YticchmjgonkcjaaGreatDoorProg
import Derived.KernelRfl
namespace Go.Ax
set_option linter.all false
open Go.Proofs P

def xf_plain_CopyMsg : XFunc := ⟨none, false, 1, [.cell 2 (some 18)], (rs [o 1 (bx 0), o 2 (.alloc l4)] [1, 2]
 (rs [of 3 16 1, o 4 (k 3), o 5 (c 40 [4]), of 6 16 1, p (t 1 6 5)] [1, 2]
 (rs [of 7 17 1, o 8 (k 7), o 9 (c 57 [8]), of 10 17 1, p (t 1 10 9)] [1, 2]
 (rs [ol 11 18 1, p (t 18 2 11)] [2]
 (.ret [2])))))⟩

def xf_core_voters_k0 : List (Nat × Option (Nat × Nat × Bool)) := [(1, none), (2, none), (3, none), (13, some (172, 4, true)), (14, none), (15, none)]
def xf_core_voters_b0 : XCode := (rs [o 16 (bl 15 14)] [1, 2, 3, 13, 14, 15, 16]
 (.seq (.cond (.s 16) .skip (.exit 0 [1, 2, 3]))
 (.seq (.block 1 (rs [o 17 (ia 4 13 15), ol 18 4 17, o 5 (.alloc l12), p (t 4 5 18)] [1, 2, 3, 5, 13, 14, 15]
 (.reg [o 19 (.aadr 1 4 (.s 3) (j 0)), o 20 (k 19), of 21 0 5, o 22 (k 21), of 23 1 5, ol 24 2 23, o 25 (.build l8 [(0, 1, (.s 22)), (1, 2, (.s 24))]), o 26 (.bsl 179 3 true 1 l8 [(0, 3, (.s 25))]), o 27 (.app 179 3 24 true (.s 20) (.s 26)), o 28 (.aadr 1 4 (.s 3) (j 0)), p (t 1 28 27)] none [1, 2, 3, 13, 14, 15])))
 (.reg [o 29 (baj 15 1), om 15 29] none [1, 2, 3, 13, 14, 15]))))
def xf_core_voters_k1 : List (Nat × Option (Nat × Nat × Bool)) := [(1, none), (2, none), (3, none), (31, some (86, 3, true)), (32, none), (33, none)]
def xf_core_voters_b1 : XCode := (rs [o 34 (bl 33 32)] [1, 2, 3, 31, 32, 33, 34]
 (.seq (.cond (.s 34) .skip (.exit 2 [1, 2, 3]))
 (.seq (.block 3 (rs [o 35 (ia 3 31 33), ol 36 3 35, o 7 (.alloc l8), p (t 3 7 36)] [1, 2, 3, 7, 31, 32, 33]
 (.reg [o 37 (.aadr 1 4 (.s 3) (j 1)), o 38 (k 37), of 39 0 7, o 40 (k 39), of 41 1 7, ol 42 2 41, o 43 (.build l8 [(0, 1, (.s 40)), (1, 2, (.s 42))]), o 44 (.bsl 179 3 true 1 l8 [(0, 3, (.s 43))]), o 45 (.app 179 3 24 true (.s 38) (.s 44)), o 46 (.aadr 1 4 (.s 3) (j 1)), p (t 1 46 45)] none [1, 2, 3, 31, 32, 33])))
 (.reg [o 47 (baj 33 1), om 33 47] none [1, 2, 3, 31, 32, 33]))))
def xf_core_voters_k2 : List (Nat × Option (Nat × Nat × Bool)) := [(1, none), (2, none), (3, none), (49, some (78, 6, false)), (50, none), (51, none)]
def xf_core_voters_b2 : XCode := (rs [o 52 (bl 51 50)] [1, 2, 3, 49, 50, 51, 52]
 (.seq (.cond (.s 52) .skip (.exit 4 [1, 2, 3]))
 (.seq (.block 5 (rs [o 53 (ia 6 49 51), ol 54 6 53, o 9 (.alloc l3), p (t 6 9 54)] [1, 2, 3, 9, 49, 50, 51]
 (.reg [o 55 (.aadr 1 4 (.s 3) (j 2)), o 56 (k 55), of 57 0 9, o 58 (k 57), of 59 1 9, ol 60 2 59, o 61 (.build l8 [(0, 1, (.s 58)), (1, 2, (.s 60))]), o 62 (.bsl 179 3 true 1 l8 [(0, 3, (.s 61))]), o 63 (.app 179 3 24 true (.s 56) (.s 62)), o 64 (.aadr 1 4 (.s 3) (j 2)), p (t 1 64 63)] none [1, 2, 3, 49, 50, 51])))
 (.reg [o 65 (baj 51 1), om 51 65] none [1, 2, 3, 49, 50, 51]))))
def xf_core_voters_k3 : List (Nat × Option (Nat × Nat × Bool)) := [(2, none), (3, none), (67, some (80, 6, false)), (68, none), (69, none)]
def xf_core_voters_b3 : XCode := (rs [o 70 (bl 69 68)] [2, 3, 67, 68, 69, 70]
 (.seq (.cond (.s 70) .skip (.exit 6 [2, 3]))
 (.seq (.block 7 (rs [o 71 (ia 6 67 69), ol 72 6 71, o 11 (.alloc l3), p (t 6 11 72)] [2, 3, 11, 67, 68, 69]
 (.reg [o 73 (.aadr 1 4 (.s 3) (j 3)), o 74 (k 73), of 75 0 11, o 76 (k 75), of 77 1 11, ol 78 2 77, o 79 (.build l8 [(0, 1, (.s 76)), (1, 2, (.s 78))]), o 80 (.bsl 179 3 true 1 l8 [(0, 3, (.s 79))]), o 81 (.app 179 3 24 true (.s 74) (.s 80)), o 82 (.aadr 1 4 (.s 3) (j 3)), p (t 1 82 81)] none [2, 3, 67, 68, 69])))
 (.reg [o 83 (baj 69 1), om 69 83] none [2, 3, 67, 68, 69]))))
def xf_core_voters : XFunc := ⟨none, true, 1, [.cell 2 (some 4)], (rs [o 1 (bx 0), o 2 (.alloc l11)] [1, 2]
 (rs [o 3 (.alloc l11)] [1, 2, 3]
 (.seq (rs [of 12 8 1, o 13 (k 12), o 14 (le 13), o 15 (.mv (j 0))] [1, 2, 3, 13, 14, 15]
 (.block 0 (.loop xf_core_voters_k0 xf_core_voters_b0)))
 (.seq (rs [of 30 9 1, o 31 (k 30), o 32 (le 31), o 33 (.mv (j 0))] [1, 2, 3, 31, 32, 33]
 (.block 2 (.loop xf_core_voters_k1 xf_core_voters_b1)))
 (.seq (rs [of 48 10 1, o 49 (k 48), o 50 (le 49), o 51 (.mv (j 0))] [1, 2, 3, 49, 50, 51]
 (.block 4 (.loop xf_core_voters_k2 xf_core_voters_b2)))
 (.seq (rs [of 66 11 1, o 67 (k 66), o 68 (le 67), o 69 (.mv (j 0))] [2, 3, 67, 68, 69]
 (.block 6 (.loop xf_core_voters_k3 xf_core_voters_b3)))
 (rs [ol 84 4 3, p (t 4 2 84)] [2]
 (.ret [2]))))))))⟩

def xf_client_check_k0 : List (Nat × Option (Nat × Nat × Bool)) := [(3, none), (12, some (38, 5, true)), (13, none), (14, none)]
def xf_client_check_b0 : XCode := (rs [o 15 (bl 14 13)] [3, 12, 13, 14, 15]
 (.seq (.cond (.s 15) .skip (.exit 0 []))
 (.seq (.block 1 (rs [o 16 (ia 5 12 14), ol 17 5 16, o 5 (.alloc l13), p (t 5 5 17)] [3, 5, 12, 13, 14]
 (.seq (rs [of 18 0 5, o 19 (k 18), of 20 1 5, o 21 (k 20), o 22 (c 163 [19, 21]), om 6 22] [3, 5, 6, 12, 13, 14]
 (rs [om 23 6, o 24 (nj 23 0)] [3, 5, 6, 12, 13, 14, 24]
 (.cond (.s 24) (rs [om 25 6, om 2 25] [2]
 (.ret [2])) .skip)))
 (.seq (rs [of 26 2 5, ol 27 3 26, o 28 (c 127 [27]), om 7 28] [3, 5, 7, 12, 13, 14]
 (rs [om 29 7, o 30 (nj 29 0)] [3, 5, 7, 12, 13, 14, 30]
 (.cond (.s 30) (rs [om 31 7, om 2 31] [2]
 (.ret [2])) .skip)))
 (.seq (rs [of 32 1 5, o 33 (k 32), om 34 3, of 35 0 5, o 36 (k 35), o 37 (.mget false (.int .i64 0) (.s 34) (.s 36)), o 38 (bm 33 37)] [3, 5, 12, 13, 14, 38]
 (.cond (.s 38) (rs [o 2 (.mv (j 64))] [2]
 (.ret [2])) .skip))
 (.reg [om 39 3, of 40 0 5, o 41 (k 40), of 42 1 5, o 43 (k 42), p (.mput (.s 39) (.s 41) (.s 43))] none [3, 12, 13, 14]))))))
 (.reg [o 44 (baj 14 1), om 14 44] none [3, 12, 13, 14]))))
def xf_client_check : XFunc := ⟨none, true, 1, [.tmp 2], (rs [o 2 (.mv (j 0))] [0]
 (.seq (rs [om 8 0, o 9 (le 8), o 10 (bgj 9 256)] [0, 10]
 (.cond (.s 10) (rs [o 2 (.mv (j 60))] [2]
 (.ret [2])) .skip))
 (rs [o 11 .mkmap, om 3 11] [0, 3]
 (.seq (rs [om 12 0, o 13 (le 12), o 14 (.mv (j 0))] [3, 12, 13, 14]
 (.block 0 (.loop xf_client_check_k0 xf_client_check_b0)))
 (rs [o 2 (.mv (j 0))] [2]
 (.ret [2]))))))⟩

def xf_client_rows_k0 : List (Nat × Option (Nat × Nat × Bool)) := [(5, some (141, 7, true)), (6, none), (12, some (38, 5, true)), (13, none), (14, none)]
def xf_client_rows_b0 : XCode := (rs [o 15 (bl 14 13)] [5, 6, 12, 13, 14, 15]
 (.seq (.cond (.s 15) .skip (.exit 0 [5]))
 (.seq (.block 1 (rs [om 16 14, o 17 (ia 5 12 14), ol 18 5 17, o 8 (.alloc l13), om 7 16, p (t 5 8 18)] [5, 6, 7, 8, 12, 13, 14]
 (.reg [om 19 5, of 20 0 8, o 21 (k 20), of 22 1 8, o 23 (k 22), om 24 7, o 25 (baj 24 1), om 26 6, of 27 2 8, ol 28 3 27, o 29 (c 165 [26, 28]), o 30 (.build l10 [(0, 1, (.s 21)), (1, 1, (.s 23)), (2, 1, (.s 25)), (3, 1, (.c v)), (4, 3, (.s 29))]), o 31 (.bsl 141 7 true 1 l10 [(0, 7, (.s 30))]), o 32 (.app 141 7 64 true (.s 19) (.s 31)), om 5 32] (some [(2, 10), (4, 10)]) [5, 6, 12, 13, 14])))
 (.reg [o 33 (baj 14 1), om 14 33] none [5, 6, 12, 13, 14]))))
def xf_client_rows : XFunc := ⟨none, true, 2, [.tmp 4], (rs [o 4 (.mv (.c (.nil 141 7 true)))] [0, 1]
 (rs [o 5 (.mv (.c (.nil 141 7 true)))] [0, 1, 5]
 (rs [o 9 (c 164 []), om 6 9] [0, 1, 5, 6]
 (.seq (rs [om 10 0, om 11 1, o 12 (.slice 5 (.s 10) none (some (.s 11))), o 13 (le 12), o 14 (.mv (j 0))] [5, 6, 12, 13, 14]
 (.block 0 (.loop xf_client_rows_k0 xf_client_rows_b0)))
 (rs [om 34 5, om 4 34] [4]
 (.ret [4]))))))⟩

def xf_ref09_logged : XFunc := ⟨none, true, 3, [.tmp 6], (rs [o 3 (bx 0), o 6 (.mv (.c w))] [1, 2, 3]
 (ss [am 7 1, a 8 (f 1 3), a 9 (k 8), a 10 (c 157 [7, 9]), a 11 (qj 10 0), am 12 11, bb 13 2 12, b 14 (bhj 13 0) 12, a 15 (ka 12 14), am 16 15, bb 17 2 16, bb 18 1 16, b 19 (le 18) 16, b 20 (bm 17 19) 16, a 21 (ka 16 20), am 6 21] [6]
 (.ret [6])))⟩

def xf_ref09_votes_k0 : List (Nat × Option (Nat × Nat × Bool)) := [(1, none), (2, none), (5, some (3, 1, true)), (6, some (3, 1, true)), (7, some (3, 1, true)), (8, some (3, 1, true)), (9, some (43, 2, true)), (10, some (43, 2, true)), (11, some (43, 2, true)), (12, some (43, 2, true)), (13, none)]
def xf_ref09_votes_b0 : XCode := (.seq (rs [om 17 13, of 18 8 2, o 19 (k 18), o 20 (le 19), o 21 (bl 17 20)] [1, 2, 5, 6, 7, 8, 9, 10, 11, 12, 13, 21]
 (.cond (.s 21) .skip (.exit 0 [1, 2, 5, 6, 7, 8, 9, 10, 11, 12])))
 (.seq (.block 1 (rs [om 24 5, of 25 8 2, o 26 (k 25), om 27 13, o 28 (ia 4 26 27), of 29 0 28, o 30 (k 29), o 31 (.bsl 3 1 true 1 [z] [(0, 1, (.s 30))]), o 32 (.app 3 1 8 true (.s 24) (.s 31)), om 5 32] [1, 2, 5, 6, 7, 8, 9, 10, 11, 12, 13]
 (.reg [om 33 9, of 34 8 2, o 35 (k 34), om 36 13, o 37 (ia 4 35 36), of 38 1 37, ol 39 2 38, o 40 (.bsl 43 2 true 1 [y, y] [(0, 2, (.s 39))]), o 41 (.app 43 2 16 true (.s 33) (.s 40)), om 9 41] none [1, 2, 5, 6, 7, 8, 9, 10, 11, 12, 13])))
 (.reg [om 22 13, o 23 (baj 22 1), om 13 23] none [1, 2, 5, 6, 7, 8, 9, 10, 11, 12, 13])))
def xf_ref09_votes_k1 : List (Nat × Option (Nat × Nat × Bool)) := [(1, none), (2, none), (5, some (3, 1, true)), (6, some (3, 1, true)), (7, some (3, 1, true)), (8, some (3, 1, true)), (9, some (43, 2, true)), (10, some (43, 2, true)), (11, some (43, 2, true)), (12, some (43, 2, true)), (14, none)]
def xf_ref09_votes_b1 : XCode := (.seq (rs [om 42 14, of 43 9 2, o 44 (k 43), o 45 (le 44), o 46 (bl 42 45)] [1, 2, 5, 6, 7, 8, 9, 10, 11, 12, 14, 46]
 (.cond (.s 46) .skip (.exit 2 [1, 2, 5, 6, 7, 8, 9, 10, 11, 12])))
 (.seq (.block 3 (rs [om 49 6, of 50 9 2, o 51 (k 50), om 52 14, o 53 (ia 3 51 52), of 54 0 53, o 55 (k 54), o 56 (.bsl 3 1 true 1 [z] [(0, 1, (.s 55))]), o 57 (.app 3 1 8 true (.s 49) (.s 56)), om 6 57] [1, 2, 5, 6, 7, 8, 9, 10, 11, 12, 14]
 (.reg [om 58 10, of 59 9 2, o 60 (k 59), om 61 14, o 62 (ia 3 60 61), of 63 1 62, ol 64 2 63, o 65 (.bsl 43 2 true 1 [y, y] [(0, 2, (.s 64))]), o 66 (.app 43 2 16 true (.s 58) (.s 65)), om 10 66] none [1, 2, 5, 6, 7, 8, 9, 10, 11, 12, 14])))
 (.reg [om 47 14, o 48 (baj 47 1), om 14 48] none [1, 2, 5, 6, 7, 8, 9, 10, 11, 12, 14])))
def xf_ref09_votes_k2 : List (Nat × Option (Nat × Nat × Bool)) := [(1, none), (2, none), (5, some (3, 1, true)), (6, some (3, 1, true)), (7, some (3, 1, true)), (8, some (3, 1, true)), (9, some (43, 2, true)), (10, some (43, 2, true)), (11, some (43, 2, true)), (12, some (43, 2, true)), (15, none)]
def xf_ref09_votes_b2 : XCode := (.seq (rs [om 67 15, of 68 10 2, o 69 (k 68), o 70 (le 69), o 71 (bl 67 70)] [1, 2, 5, 6, 7, 8, 9, 10, 11, 12, 15, 71]
 (.cond (.s 71) .skip (.exit 4 [1, 2, 5, 6, 7, 8, 9, 10, 11, 12])))
 (.seq (.block 5 (rs [om 74 7, of 75 10 2, o 76 (k 75), om 77 15, o 78 (ia 6 76 77), of 79 0 78, o 80 (k 79), o 81 (.bsl 3 1 true 1 [z] [(0, 1, (.s 80))]), o 82 (.app 3 1 8 true (.s 74) (.s 81)), om 7 82] [1, 2, 5, 6, 7, 8, 9, 10, 11, 12, 15]
 (.reg [om 83 11, of 84 10 2, o 85 (k 84), om 86 15, o 87 (ia 6 85 86), of 88 1 87, ol 89 2 88, o 90 (.bsl 43 2 true 1 [y, y] [(0, 2, (.s 89))]), o 91 (.app 43 2 16 true (.s 83) (.s 90)), om 11 91] none [1, 2, 5, 6, 7, 8, 9, 10, 11, 12, 15])))
 (.reg [om 72 15, o 73 (baj 72 1), om 15 73] none [1, 2, 5, 6, 7, 8, 9, 10, 11, 12, 15])))
def xf_ref09_votes_k3 : List (Nat × Option (Nat × Nat × Bool)) := [(1, none), (2, none), (5, some (3, 1, true)), (6, some (3, 1, true)), (7, some (3, 1, true)), (8, some (3, 1, true)), (9, some (43, 2, true)), (10, some (43, 2, true)), (11, some (43, 2, true)), (12, some (43, 2, true)), (16, none)]
def xf_ref09_votes_b3 : XCode := (.seq (rs [om 92 16, of 93 11 2, o 94 (k 93), o 95 (le 94), o 96 (bl 92 95)] [1, 2, 5, 6, 7, 8, 9, 10, 11, 12, 16, 96]
 (.cond (.s 96) .skip (.exit 6 [1, 2, 5, 6, 7, 8, 9, 10, 11, 12])))
 (.seq (.block 7 (rs [om 99 8, of 100 11 2, o 101 (k 100), om 102 16, o 103 (ia 6 101 102), of 104 0 103, o 105 (k 104), o 106 (.bsl 3 1 true 1 [z] [(0, 1, (.s 105))]), o 107 (.app 3 1 8 true (.s 99) (.s 106)), om 8 107] [1, 2, 5, 6, 7, 8, 9, 10, 11, 12, 16]
 (.reg [om 108 12, of 109 11 2, o 110 (k 109), om 111 16, o 112 (ia 6 110 111), of 113 1 112, ol 114 2 113, o 115 (.bsl 43 2 true 1 [y, y] [(0, 2, (.s 114))]), o 116 (.app 43 2 16 true (.s 108) (.s 115)), om 12 116] none [1, 2, 5, 6, 7, 8, 9, 10, 11, 12, 16])))
 (.reg [om 97 16, o 98 (baj 97 1), om 16 98] none [1, 2, 5, 6, 7, 8, 9, 10, 11, 12, 16])))
def xf_ref09_votes : XFunc := ⟨none, true, 2, [.tmp 4], (rs [o 2 (bx 0), o 4 (.mv (.c w))] [1, 2]
 (rs [o 5 (.mv (.c (.nil 3 1 true))), o 6 (.mv (.c (.nil 3 1 true))), o 7 (.mv (.c (.nil 3 1 true))), o 8 (.mv (.c (.nil 3 1 true)))] [1, 2, 5, 6, 7, 8]
 (rs [o 9 (.mv (.c (.nil 43 2 true))), o 10 (.mv (.c (.nil 43 2 true))), o 11 (.mv (.c (.nil 43 2 true))), o 12 (.mv (.c (.nil 43 2 true)))] [1, 2, 5, 6, 7, 8, 9, 10, 11, 12]
 (.seq (rs [o 13 (.mv (j 0))] [1, 2, 5, 6, 7, 8, 9, 10, 11, 12, 13]
 (.block 0 (.loop xf_ref09_votes_k0 xf_ref09_votes_b0)))
 (.seq (rs [o 14 (.mv (j 0))] [1, 2, 5, 6, 7, 8, 9, 10, 11, 12, 14]
 (.block 2 (.loop xf_ref09_votes_k1 xf_ref09_votes_b1)))
 (.seq (rs [o 15 (.mv (j 0))] [1, 2, 5, 6, 7, 8, 9, 10, 11, 12, 15]
 (.block 4 (.loop xf_ref09_votes_k2 xf_ref09_votes_b2)))
 (.seq (rs [o 16 (.mv (j 0))] [1, 2, 5, 6, 7, 8, 9, 10, 11, 12, 16]
 (.block 6 (.loop xf_ref09_votes_k3 xf_ref09_votes_b3)))
 (ss [a 117 (l 12 2), am 118 1, am 119 5, am 120 9, a 121 (c 166 [117, 118, 119, 120]), am 122 121, b 123 (l 12 2) 122, bb 124 1 122, bb 125 6 122, bb 126 10 122, u 127 (c 166 [123, 124, 125, 126]) 122, a 128 (ka 122 127), am 129 128, b 130 (l 12 2) 129, bb 131 1 129, bb 132 7 129, bb 133 11 129, u 134 (c 166 [130, 131, 132, 133]) 129, a 135 (ka 129 134), am 136 135, b 137 (l 12 2) 136, bb 138 1 136, bb 139 8 136, bb 140 12 136, u 141 (c 166 [137, 138, 139, 140]) 136, a 142 (ka 136 141), am 4 142] [4]
 (.ret [4])))))))))⟩

def xf_ref09_recovering_k0 : List (Nat × Option (Nat × Nat × Bool)) := [(2, none), (3, none), (4, none), (7, none)]
def xf_ref09_recovering_b0 : XCode := (.seq (rs [om 47 7, of 48 11 4, o 49 (k 48), o 50 (le 49), o 51 (bl 47 50)] [2, 3, 4, 7, 51]
 (.cond (.s 51) .skip (.exit 0 [])))
 (.seq (.block 1 (rs [of 54 11 4, o 55 (k 54), om 56 7, o 57 (ia 6 55 56), ol 58 6 57, o 8 (.alloc l3), p (t 6 8 58)] [2, 3, 4, 7, 8]
 (sp (some []) [a 59 (f 3 8), a 60 (k 59), a 61 (blj 60 0), am 62 61, d 63 (f 3 8) 62, d 64 (k 63) 62, d 65 (bgj 64 4294967296) 62, a 66 (ko 62 65), am 67 66, d 68 (l 4 3) 67, d 69 (f 5 8) 67, d 70 (k 69) 67, d 71 (f 4 8) 67, d 72 (k 71) 67, r 73 (c 121 [68, 70, 72]) 67, r 74 (nt 73) 67, a 75 (ko 67 74), am 76 75, d 77 (f 0 8) 76, d 78 (k 77) 76, d 79 (f 3 8) 76, d 80 (k 79) 76, d 81 (m 2) 76, r 82 (.bin .rem (.s 80) (.s 81)) 76, r 83 (n 78 82) 76, r 84 (m 83) 76, b 85 (f 5 8) 84, b 86 (k 85) 84, b 87 (le 86) 84, b 88 (bgj 87 0) 84, r 89 (ka 84 88) 76, a 90 (ko 76 89)] [2, 3, 4, 7, 90]
 (.cond (.s 90) (rs [o 6 (.mv (.c w))] [6]
 (.ret [6])) .skip))))
 (.reg [om 52 7, o 53 (baj 52 1), om 7 53] none [2, 3, 4, 7])))
def xf_ref09_recovering : XFunc := ⟨none, true, 3, [.tmp 6], (rs [o 3 (bx 0), o 4 (bx 1), o 6 (.mv (.c w))] [2, 3, 4]
 (.seq (ss [a 9 (f 2 4), a 10 (k 9), a 11 (f 3 4), a 12 (k 11), a 13 (ba 10 12), a 14 (f 5 4), a 15 (k 14), a 16 (ba 13 15), a 17 (f 7 4), a 18 (k 17), a 19 (ba 16 18), a 20 (f 4 4), a 21 (k 20), a 22 (le 21), a 23 (ba 19 22), a 24 (f 8 4), a 25 (k 24), a 26 (le 25), a 27 (ba 23 26), a 28 (f 9 4), a 29 (k 28), a 30 (le 29), a 31 (ba 27 30), a 32 (f 10 4), a 33 (k 32), a 34 (le 33), a 35 (ba 31 34), a 36 (bgj 35 0), am 37 36, d 38 (f 6 4) 37, d 39 (k 38) 37, d 40 (f 0 4) 37, d 41 (k 40) 37, r 42 (ia 2 39 41) 37, r 43 (l 2 42) 37, d 44 (.build [y, y] []) 37, r 45 (.eqv false true [.i, .i] (.s 43) (.s 44)) 37, a 46 (ko 37 45)] [2, 3, 4, 46]
 (.cond (.s 46) (rs [o 6 (.mv (.c w))] [6]
 (.ret [6])) .skip))
 (.seq (rs [o 7 (.mv (j 0))] [2, 3, 4, 7]
 (.block 0 (.loop xf_ref09_recovering_k0 xf_ref09_recovering_b0)))
 (rs [o 6 (.mv (.c v))] [6]
 (.ret [6])))))⟩

def xf_core_out : XFunc := ⟨none, true, 3, [.cell 6 (some 19)], (rs [o 3 (bx 0), o 5 (bx 2), o 6 (.alloc l2)] [1, 3, 5, 6]
 (rs [of 7 0 3, o 8 (k 7), of 9 1 5, p (t 1 9 8)] [1, 3, 5, 6]
 (rs [of 10 16 5, o 11 (k 10), o 12 (c 113 [11]), of 13 16 5, p (t 1 13 12)] [1, 3, 5, 6]
 (.seq (rs [of 14 0 5, o 15 (k 14), o 16 (c 92 [15])] [1, 3, 5, 6, 16]
 (.cond (.s 16) (.reg [of 17 6 3, o 18 (k 17), of 19 17 5, p (t 1 19 18)] none [1, 5, 6]) .skip))
 (rs [of 20 17 5, o 21 (k 20), o 22 (c 114 [21]), of 23 17 5, p (t 1 23 22)] [1, 5, 6]
 (rs [om 24 1, ol 25 18 5, o 26 (.build l2 [(0, 1, (.s 24)), (1, 18, (.s 25))]), p (t 19 6 26)] [6]
 (.ret [6])))))))⟩

def xf_core_One : XFunc := ⟨none, true, 4, [.cell 8 (some 19), .tmp 9], (rs [o 4 (bx 0), o 5 (bx 1), o 7 (bx 3), o 8 (.alloc l2), o 9 (.mv (j 0))] [2, 4, 5, 7, 8]
 (.seq (rs [ol 12 4 4, ol 13 12 5, o 14 (c 44 [12, 13]), om 10 14] [2, 4, 5, 7, 8, 10]
 (rs [om 15 10, o 16 (nj 15 0)] [2, 4, 5, 7, 8, 10, 16]
 (.cond (.s 16) (rs [o 17 (.build l2 []), om 18 10, p (t 19 8 17), om 9 18] [8, 9]
 (.ret [8, 9])) .skip)))
 (ss [am 19 2, a 20 (bhj 19 0), am 21 20, bb 22 2 21, b 23 (l 4 4) 21, u 24 (c 70 [23]) 21, u 25 (bl 22 24) 21, a 26 (ka 21 25), am 27 26, bb 28 2 27, b 29 (f 0 5) 27, b 30 (k 29) 27, b 31 (n 28 30) 27, a 32 (ka 27 31), am 11 32] [2, 5, 7, 8, 11]
 (.seq (ss [am 33 11, a 34 (nt 33), am 35 34, bb 36 2 35, b 37 (blj 36 7) 35, bb 38 37 35, d 39 (m 2) 38, d 40 (bhj 39 23) 38, b 41 (ko 38 40) 35, a 42 (ka 35 41)] [2, 5, 7, 8, 42]
 (.cond (.s 42) (rs [o 43 (.build l2 []), p (t 19 8 43), o 9 (.mv (j 3))] [8, 9]
 (.ret [8, 9])) .skip))
 (rs [ol 44 12 5, om 45 2, ol 46 18 7, o 47 (c 124 [44, 45, 46]), p (t 19 8 47), o 9 (.mv (j 0))] [8, 9]
 (.ret [8, 9]))))))⟩

def xf_message_short : XFunc := ⟨none, true, 1, [.tmp 2], (rs [o 2 (.mv (.c w))] [0]
 (ss [am 3 0, a 4 (qj 3 2), am 5 4, d 6 (m 0) 5, d 7 (qj 6 14) 5, a 8 (ko 5 7), am 2 8] [2]
 (.ret [2])))⟩

def xf_ledger_Check : XFunc := ⟨none, true, 1, [.tmp 2], (rs [o 1 (bx 0), o 2 (.mv (j 0))] [1]
 (.seq (rs [of 4 0 1, o 5 (k 4)] [1, 5]
 (.block 0 (.seq (rs [o 7 (qj 5 1), om 6 7] [1, 5, 6]
 (.cond (.s 6) .skip (.reg [o 8 (qj 5 3), om 6 8] none [1, 5, 6])))
 (.cond (.s 6) (ss [a 9 (f 1 1), a 10 (k 9), a 11 (blj 10 0), am 12 11, d 13 (f 1 1) 12, d 14 (k 13) 12, d 15 (bhj 14 1024) 12, a 16 (ko 12 15)] [1, 16]
 (.cond (.s 16) (rs [o 2 (.mv (j 41))] [2]
 (.ret [2])) .skip)) (.seq (rs [o 18 (qj 5 2), om 17 18] [1, 5, 17]
 (.cond (.s 17) .skip (.reg [o 19 (qj 5 4), om 17 19] none [1, 17])))
 (.cond (.s 17) (rs [of 20 1 1, o 21 (k 20), o 22 (nj 21 0)] [1, 22]
 (.cond (.s 22) (rs [o 2 (.mv (j 41))] [2]
 (.ret [2])) .skip)) (rs [o 2 (.mv (j 40))] [2]
 (.ret [2]))))))))
 (rs [o 3 (.mv (j 0))] [1, 3]
 (.seq (rs [of 23 0 1, o 24 (k 23)] [1, 3, 24]
 (.block 1 (.seq (.block 3 (.block 2 (.seq (.seq (rs [o 26 (qj 24 1), om 25 26] [1, 3, 24, 25]
 (.cond (.s 25) (.exit 2 [1]) .skip))
 (rs [o 28 (qj 24 2), om 27 28] [1, 3, 27]
 (.cond (.s 27) (.exit 3 [1]) .skip)))
 (.exit 1 [1, 3]))))
 (rs [o 3 (.mv (j 64))] [1, 3]
 (.exit 1 [1, 3])))))
 (.seq (rs [of 29 2 1, o 30 (k 29), o 31 (.len true (.s 30)), om 32 3, o 33 (bg 31 32)] [33]
 (.cond (.s 33) (rs [o 2 (.mv (j 42))] [2]
 (.ret [2])) .skip))
 (rs [o 2 (.mv (j 0))] [2]
 (.ret [2])))))))⟩

def xf_oplog_Each : XFunc := ⟨none, false, 2, [.tmp 4], (rs [o 3 (bx 1), o 4 (.mv (.c (.dat .nilf)))] [0, 3]
 (rs [om 6 0, o 7 (.call (fc 167) [(.s 6), (.c (.nil 38 5 true))]), o 5 (.alloc [(.nil 38 5 true)]), p (t 1 5 7)] [3, 5]
 (rs [o 8 (.mkfn (.func 168) [] [(.s 3), (.s 5)]), om 4 8] [4]
 (.ret [4]))))⟩

def xf_oplog_fits : XFunc := ⟨none, true, 2, [.tmp 4], (rs [o 3 (bx 1), o 4 (.mv (j 0))] [0, 3]
 (.seq (ss [a 8 (f 0 3), a 9 (k 8), a 10 (blj 9 0), am 11 10, d 12 (f 0 3) 11, d 13 (k 12) 11, d 14 (bhj 13 16) 11, a 15 (ko 11 14)] [0, 3, 15]
 (.cond (.s 15) (rs [o 4 (.mv (j 62))] [4]
 (.ret [4])) .skip))
 (.seq (rs [of 16 1 3, o 17 (k 16), o 18 (blj 17 1)] [0, 3, 18]
 (.cond (.s 18) (rs [o 4 (.mv (j 63))] [4]
 (.ret [4])) .skip))
 (.seq (rs [of 19 2 3, ol 20 3 19, o 21 (c 127 [20]), om 5 21] [0, 3, 5]
 (rs [om 22 5, o 23 (nj 22 0)] [0, 3, 5, 23]
 (.cond (.s 23) (rs [om 24 5, om 4 24] [4]
 (.ret [4])) .skip)))
 (.seq (rs [om 26 0, of 27 0 3, o 28 (k 27), o 29 (.mget true (.int .i64 0) (.s 26) (.s 28)), om 25 29, o 30 (e 25 0), o 31 (e 25 1), om 6 30, om 7 31] [3, 6, 7]
 (ss [am 32 7, am 33 32, bb 34 6 33, b 35 (f 1 3) 33, b 36 (k 35) 33, b 37 (bh 34 36) 33, a 38 (ka 33 37)] [38]
 (.cond (.s 38) (rs [o 4 (.mv (j 64))] [4]
 (.ret [4])) .skip)))
 (rs [o 4 (.mv (j 0))] [4]
 (.ret [4])))))))⟩

def xf_vector_speaks : XFunc := ⟨none, true, 1, [.tmp 2], (rs [o 1 (bx 0), o 2 (.mv (.c w))] [1]
 (ss [a 3 (f 1 1), a 4 (k 3), a 5 (c 131 [4]), am 6 5, b 7 (f 0 1) 6, b 8 (k 7) 6, b 9 (bhj 8 0) 6, a 10 (ka 6 9), am 11 10, b 12 (f 0 1) 11, b 13 (k 12) 11, b 14 (f 1 1) 11, b 15 (k 14) 11, b 16 (le 15) 11, b 17 (bl 13 16) 11, a 18 (ka 11 17), am 2 18] [2]
 (.ret [2])))⟩

def xf_vector_fits : XFunc := ⟨none, true, 1, [.tmp 2], (rs [o 2 (.mv (.c w))] [0]
 (ss [am 3 0, a 4 (le 3), a 5 (bhj 4 1), am 6 5, bb 7 0 6, b 8 (le 7) 6, b 9 (bmj 8 7) 6, a 10 (ka 6 9), am 2 10] [2]
 (.ret [2])))⟩

def xf_tally_turned_ack_Ack_k0 : List (Nat × Option (Nat × Nat × Bool)) := [(1, none), (5, some (172, 4, true)), (8, some (200, 4, true)), (9, none), (10, none)]
def xf_tally_turned_ack_Ack_b0 : XCode := (rs [o 11 (bl 10 9)] [1, 5, 8, 9, 10, 11]
 (.seq (.cond (.s 11) .skip (.exit 0 [5]))
 (.seq (.block 1 (rs [o 12 (ia 4 8 10), ol 13 4 12, o 7 (.alloc l12), p (t 4 7 13)] [1, 5, 7, 8, 9, 10]
 (.reg [om 14 5, om 15 1, ol 16 4 7, o 17 (.call (.s 15) [(.s 16)]), o 18 (.bsl 172 4 true 1 l12 [(0, 4, (.s 17))]), o 19 (.app 172 4 32 true (.s 14) (.s 18)), om 5 19] none [1, 5, 8, 9, 10])))
 (.reg [o 20 (baj 10 1), om 10 20] none [1, 5, 8, 9, 10]))))
def xf_tally_turned_ack_Ack : XFunc := ⟨none, true, 2, [.tmp 4], (rs [o 4 (.mv (.c (.nil 172 4 true)))] [0, 1]
 (rs [o 5 (.mv (.c (.nil 172 4 true)))] [0, 1, 5]
 (.seq (rs [om 8 0, o 9 (le 8), o 10 (.mv (j 0))] [1, 5, 8, 9, 10]
 (.block 0 (.loop xf_tally_turned_ack_Ack_k0 xf_tally_turned_ack_Ack_b0)))
 (rs [om 21 5, om 4 21] [4]
 (.ret [4])))))⟩

def xf_tally_turned_Ack_ack_k0 : List (Nat × Option (Nat × Nat × Bool)) := [(1, none), (5, some (200, 4, true)), (8, some (172, 4, true)), (9, none), (10, none)]
def xf_tally_turned_Ack_ack_b0 : XCode := (rs [o 11 (bl 10 9)] [1, 5, 8, 9, 10, 11]
 (.seq (.cond (.s 11) .skip (.exit 0 [5]))
 (.seq (.block 1 (rs [o 12 (ia 4 8 10), ol 13 4 12, o 7 (.alloc l12), p (t 4 7 13)] [1, 5, 7, 8, 9, 10]
 (.reg [om 14 5, om 15 1, ol 16 4 7, o 17 (.call (.s 15) [(.s 16)]), o 18 (.bsl 200 4 true 1 l12 [(0, 4, (.s 17))]), o 19 (.app 200 4 32 true (.s 14) (.s 18)), om 5 19] none [1, 5, 8, 9, 10])))
 (.reg [o 20 (baj 10 1), om 10 20] none [1, 5, 8, 9, 10]))))
def xf_tally_turned_Ack_ack : XFunc := ⟨none, true, 2, [.tmp 4], (rs [o 4 (.mv (.c (.nil 200 4 true)))] [0, 1]
 (rs [o 5 (.mv (.c (.nil 200 4 true)))] [0, 1, 5]
 (.seq (rs [om 8 0, o 9 (le 8), o 10 (.mv (j 0))] [1, 5, 8, 9, 10]
 (.block 0 (.loop xf_tally_turned_Ack_ack_k0 xf_tally_turned_Ack_ack_b0)))
 (rs [om 21 5, om 4 21] [4]
 (.ret [4])))))⟩

def xf_tally_toAck : XFunc := ⟨none, true, 1, [.cell 2 (some 4)], (rs [o 1 (bx 0), o 2 (.alloc l12)] [1, 2]
 (rs [ol 3 4 1, p (t 4 2 3)] [2]
 (.ret [2])))⟩

def xf_tally_box_ack_prune_k0 : List (Nat × Option (Nat × Nat × Bool)) := [(1, none), (5, some (200, 4, true)), (10, some (200, 4, true)), (11, none), (12, none)]
def xf_tally_box_ack_prune_b0 : XCode := (rs [o 13 (bl 12 11)] [1, 5, 10, 11, 12, 13]
 (.seq (.cond (.s 13) .skip (.exit 0 [5]))
 (.seq (.block 1 (rs [o 14 (ia 4 10 12), ol 15 4 14, o 7 (.alloc l12), p (t 4 7 15)] [1, 5, 7, 10, 11, 12]
 (rs [ol 16 4 7, o 17 (.mkifc 200 (.s 16)), o 18 (.inv [(200, 198), (209, 203), (218, 206), (227, 211)] (.s 17) []), om 8 18] [1, 5, 7, 8, 10, 11, 12]
 (sp (some [(11, 14), (11, 15)]) [am 19 8, a 20 (blj 19 0), am 21 20, d 22 (m 8) 21, d 23 (m 1) 21, d 24 (le 23) 21, d 25 (bh 22 24) 21, a 26 (ko 21 25), am 27 26, d 28 (l 4 7) 27, d 29 (.mkifc 200 (.s 28)) 27, r 30 (.inv [(200, 196), (209, 201), (218, 205), (227, 209)] (.s 29) []) 27, d 31 (m 1) 27, d 32 (m 8) 27, r 33 (ia 2 31 32) 27, r 34 (l 2 33) 27, r 35 (c 94 [30, 34]) 27, r 36 (bhj 35 0) 27, a 37 (ko 27 36)] [1, 5, 7, 10, 11, 12, 37]
 (.cond (.s 37) (.reg [om 38 5, ol 39 4 7, o 40 (.mkifc 200 (.s 39)), o 41 (.inv [(200, 197), (209, 202), (218, 171), (227, 210)] (.s 40) []), o 42 (.bsl 200 4 true 1 l12 [(0, 4, (.s 41))]), o 43 (.app 200 4 32 true (.s 38) (.s 42)), om 5 43] none [1, 5, 10, 11, 12]) .skip)))))
 (.reg [o 44 (baj 12 1), om 12 44] none [1, 5, 10, 11, 12]))))
def xf_tally_box_ack_prune : XFunc := ⟨none, true, 2, [.tmp 4], (rs [o 2 (bx 0), o 4 (.mv (.c (.nil 200 4 true)))] [1, 2]
 (rs [o 5 (.mv (.c (.nil 200 4 true)))] [1, 2, 5]
 (.seq (rs [of 9 0 2, o 10 (k 9), o 11 (le 10), o 12 (.mv (j 0))] [1, 5, 10, 11, 12]
 (.block 0 (.loop xf_tally_box_ack_prune_k0 xf_tally_box_ack_prune_b0)))
 (rs [om 45 5, om 4 45] [4]
 (.ret [4])))))⟩

def xf_tally_fromAck : XFunc := ⟨none, true, 1, [.cell 2 (some 4)], (rs [o 1 (bx 0), o 2 (.alloc l12)] [1, 2]
 (rs [ol 3 4 1, p (t 4 2 3)] [2]
 (.ret [2])))⟩

def xf_tally_turned_mark_Mark_k0 : List (Nat × Option (Nat × Nat × Bool)) := [(1, none), (5, some (86, 3, true)), (8, some (209, 3, true)), (9, none), (10, none)]
def xf_tally_turned_mark_Mark_b0 : XCode := (rs [o 11 (bl 10 9)] [1, 5, 8, 9, 10, 11]
 (.seq (.cond (.s 11) .skip (.exit 0 [5]))
 (.seq (.block 1 (rs [o 12 (ia 3 8 10), ol 13 3 12, o 7 (.alloc l8), p (t 3 7 13)] [1, 5, 7, 8, 9, 10]
 (.reg [om 14 5, om 15 1, ol 16 3 7, o 17 (.call (.s 15) [(.s 16)]), o 18 (.bsl 86 3 true 1 l8 [(0, 3, (.s 17))]), o 19 (.app 86 3 24 true (.s 14) (.s 18)), om 5 19] none [1, 5, 8, 9, 10])))
 (.reg [o 20 (baj 10 1), om 10 20] none [1, 5, 8, 9, 10]))))
def xf_tally_turned_mark_Mark : XFunc := ⟨none, true, 2, [.tmp 4], (rs [o 4 (.mv (.c (.nil 86 3 true)))] [0, 1]
 (rs [o 5 (.mv (.c (.nil 86 3 true)))] [0, 1, 5]
 (.seq (rs [om 8 0, o 9 (le 8), o 10 (.mv (j 0))] [1, 5, 8, 9, 10]
 (.block 0 (.loop xf_tally_turned_mark_Mark_k0 xf_tally_turned_mark_Mark_b0)))
 (rs [om 21 5, om 4 21] [4]
 (.ret [4])))))⟩

def xf_tally_turned_Mark_mark_k0 : List (Nat × Option (Nat × Nat × Bool)) := [(1, none), (5, some (209, 3, true)), (8, some (86, 3, true)), (9, none), (10, none)]
def xf_tally_turned_Mark_mark_b0 : XCode := (rs [o 11 (bl 10 9)] [1, 5, 8, 9, 10, 11]
 (.seq (.cond (.s 11) .skip (.exit 0 [5]))
 (.seq (.block 1 (rs [o 12 (ia 3 8 10), ol 13 3 12, o 7 (.alloc l8), p (t 3 7 13)] [1, 5, 7, 8, 9, 10]
 (.reg [om 14 5, om 15 1, ol 16 3 7, o 17 (.call (.s 15) [(.s 16)]), o 18 (.bsl 209 3 true 1 l8 [(0, 3, (.s 17))]), o 19 (.app 209 3 24 true (.s 14) (.s 18)), om 5 19] none [1, 5, 8, 9, 10])))
 (.reg [o 20 (baj 10 1), om 10 20] none [1, 5, 8, 9, 10]))))
def xf_tally_turned_Mark_mark : XFunc := ⟨none, true, 2, [.tmp 4], (rs [o 4 (.mv (.c (.nil 209 3 true)))] [0, 1]
 (rs [o 5 (.mv (.c (.nil 209 3 true)))] [0, 1, 5]
 (.seq (rs [om 8 0, o 9 (le 8), o 10 (.mv (j 0))] [1, 5, 8, 9, 10]
 (.block 0 (.loop xf_tally_turned_Mark_mark_k0 xf_tally_turned_Mark_mark_b0)))
 (rs [om 21 5, om 4 21] [4]
 (.ret [4])))))⟩

def xf_tally_toMark : XFunc := ⟨none, true, 1, [.cell 2 (some 3)], (rs [o 1 (bx 0), o 2 (.alloc l8)] [1, 2]
 (rs [ol 3 3 1, p (t 3 2 3)] [2]
 (.ret [2])))⟩

def xf_tally_box_mark_prune_k0 : List (Nat × Option (Nat × Nat × Bool)) := [(1, none), (5, some (209, 3, true)), (10, some (209, 3, true)), (11, none), (12, none)]
def xf_tally_box_mark_prune_b0 : XCode := (rs [o 13 (bl 12 11)] [1, 5, 10, 11, 12, 13]
 (.seq (.cond (.s 13) .skip (.exit 0 [5]))
 (.seq (.block 1 (rs [o 14 (ia 3 10 12), ol 15 3 14, o 7 (.alloc l8), p (t 3 7 15)] [1, 5, 7, 10, 11, 12]
 (rs [ol 16 3 7, o 17 (.mkifc 209 (.s 16)), o 18 (.inv [(200, 198), (209, 203), (218, 206), (227, 211)] (.s 17) []), om 8 18] [1, 5, 7, 8, 10, 11, 12]
 (sp (some [(11, 14), (11, 15)]) [am 19 8, a 20 (blj 19 0), am 21 20, d 22 (m 8) 21, d 23 (m 1) 21, d 24 (le 23) 21, d 25 (bh 22 24) 21, a 26 (ko 21 25), am 27 26, d 28 (l 3 7) 27, d 29 (.mkifc 209 (.s 28)) 27, r 30 (.inv [(200, 196), (209, 201), (218, 205), (227, 209)] (.s 29) []) 27, d 31 (m 1) 27, d 32 (m 8) 27, r 33 (ia 2 31 32) 27, r 34 (l 2 33) 27, r 35 (c 94 [30, 34]) 27, r 36 (bhj 35 0) 27, a 37 (ko 27 36)] [1, 5, 7, 10, 11, 12, 37]
 (.cond (.s 37) (.reg [om 38 5, ol 39 3 7, o 40 (.mkifc 209 (.s 39)), o 41 (.inv [(200, 197), (209, 202), (218, 171), (227, 210)] (.s 40) []), o 42 (.bsl 209 3 true 1 l8 [(0, 3, (.s 41))]), o 43 (.app 209 3 24 true (.s 38) (.s 42)), om 5 43] none [1, 5, 10, 11, 12]) .skip)))))
 (.reg [o 44 (baj 12 1), om 12 44] none [1, 5, 10, 11, 12]))))
def xf_tally_box_mark_prune : XFunc := ⟨none, true, 2, [.tmp 4], (rs [o 2 (bx 0), o 4 (.mv (.c (.nil 209 3 true)))] [1, 2]
 (rs [o 5 (.mv (.c (.nil 209 3 true)))] [1, 2, 5]
 (.seq (rs [of 9 0 2, o 10 (k 9), o 11 (le 10), o 12 (.mv (j 0))] [1, 5, 10, 11, 12]
 (.block 0 (.loop xf_tally_box_mark_prune_k0 xf_tally_box_mark_prune_b0)))
 (rs [om 45 5, om 4 45] [4]
 (.ret [4])))))⟩

def xf_tally_fromMark : XFunc := ⟨none, true, 1, [.cell 2 (some 3)], (rs [o 1 (bx 0), o 2 (.alloc l8)] [1, 2]
 (rs [ol 3 3 1, p (t 3 2 3)] [2]
 (.ret [2])))⟩

def xf_tally_turned_ballot_Ballot_k0 : List (Nat × Option (Nat × Nat × Bool)) := [(1, none), (5, some (78, 6, false)), (8, some (218, 6, false)), (9, none), (10, none)]
def xf_tally_turned_ballot_Ballot_b0 : XCode := (rs [o 11 (bl 10 9)] [1, 5, 8, 9, 10, 11]
 (.seq (.cond (.s 11) .skip (.exit 0 [5]))
 (.seq (.block 1 (rs [o 12 (ia 6 8 10), ol 13 6 12, o 7 (.alloc l3), p (t 6 7 13)] [1, 5, 7, 8, 9, 10]
 (.reg [om 14 5, om 15 1, ol 16 6 7, o 17 (.call (.s 15) [(.s 16)]), o 18 (.bsl 78 6 false 1 l3 [(0, 6, (.s 17))]), o 19 (.app 78 6 64 false (.s 14) (.s 18)), om 5 19] none [1, 5, 8, 9, 10])))
 (.reg [o 20 (baj 10 1), om 10 20] none [1, 5, 8, 9, 10]))))
def xf_tally_turned_ballot_Ballot : XFunc := ⟨none, true, 2, [.tmp 4], (rs [o 4 (.mv (.c (.nil 78 6 false)))] [0, 1]
 (rs [o 5 (.mv (.c (.nil 78 6 false)))] [0, 1, 5]
 (.seq (rs [om 8 0, o 9 (le 8), o 10 (.mv (j 0))] [1, 5, 8, 9, 10]
 (.block 0 (.loop xf_tally_turned_ballot_Ballot_k0 xf_tally_turned_ballot_Ballot_b0)))
 (rs [om 21 5, om 4 21] [4]
 (.ret [4])))))⟩

def xf_tally_turned_Ballot_ballot_k0 : List (Nat × Option (Nat × Nat × Bool)) := [(1, none), (5, some (218, 6, false)), (8, some (78, 6, false)), (9, none), (10, none)]
def xf_tally_turned_Ballot_ballot_b0 : XCode := (rs [o 11 (bl 10 9)] [1, 5, 8, 9, 10, 11]
 (.seq (.cond (.s 11) .skip (.exit 0 [5]))
 (.seq (.block 1 (rs [o 12 (ia 6 8 10), ol 13 6 12, o 7 (.alloc l3), p (t 6 7 13)] [1, 5, 7, 8, 9, 10]
 (.reg [om 14 5, om 15 1, ol 16 6 7, o 17 (.call (.s 15) [(.s 16)]), o 18 (.bsl 218 6 false 1 l3 [(0, 6, (.s 17))]), o 19 (.app 218 6 64 false (.s 14) (.s 18)), om 5 19] none [1, 5, 8, 9, 10])))
 (.reg [o 20 (baj 10 1), om 10 20] none [1, 5, 8, 9, 10]))))
def xf_tally_turned_Ballot_ballot : XFunc := ⟨none, true, 2, [.tmp 4], (rs [o 4 (.mv (.c (.nil 218 6 false)))] [0, 1]
 (rs [o 5 (.mv (.c (.nil 218 6 false)))] [0, 1, 5]
 (.seq (rs [om 8 0, o 9 (le 8), o 10 (.mv (j 0))] [1, 5, 8, 9, 10]
 (.block 0 (.loop xf_tally_turned_Ballot_ballot_k0 xf_tally_turned_Ballot_ballot_b0)))
 (rs [om 21 5, om 4 21] [4]
 (.ret [4])))))⟩

def xf_tally_toBallot : XFunc := ⟨none, true, 1, [.cell 2 (some 6)], (rs [o 1 (bx 0), o 2 (.alloc l3)] [1, 2]
 (rs [ol 3 6 1, p (t 6 2 3)] [2]
 (.ret [2])))⟩

def xf_tally_box_ballot_prune_k0 : List (Nat × Option (Nat × Nat × Bool)) := [(1, none), (5, some (218, 6, false)), (10, some (218, 6, false)), (11, none), (12, none)]
def xf_tally_box_ballot_prune_b0 : XCode := (rs [o 13 (bl 12 11)] [1, 5, 10, 11, 12, 13]
 (.seq (.cond (.s 13) .skip (.exit 0 [5]))
 (.seq (.block 1 (rs [o 14 (ia 6 10 12), ol 15 6 14, o 7 (.alloc l3), p (t 6 7 15)] [1, 5, 7, 10, 11, 12]
 (rs [ol 16 6 7, o 17 (.mkifc 218 (.s 16)), o 18 (.inv [(200, 198), (209, 203), (218, 206), (227, 211)] (.s 17) []), om 8 18] [1, 5, 7, 8, 10, 11, 12]
 (sp (some [(11, 14), (11, 15)]) [am 19 8, a 20 (blj 19 0), am 21 20, d 22 (m 8) 21, d 23 (m 1) 21, d 24 (le 23) 21, d 25 (bh 22 24) 21, a 26 (ko 21 25), am 27 26, d 28 (l 6 7) 27, d 29 (.mkifc 218 (.s 28)) 27, r 30 (.inv [(200, 196), (209, 201), (218, 205), (227, 209)] (.s 29) []) 27, d 31 (m 1) 27, d 32 (m 8) 27, r 33 (ia 2 31 32) 27, r 34 (l 2 33) 27, r 35 (c 94 [30, 34]) 27, r 36 (bhj 35 0) 27, a 37 (ko 27 36)] [1, 5, 7, 10, 11, 12, 37]
 (.cond (.s 37) (.reg [om 38 5, ol 39 6 7, o 40 (.mkifc 218 (.s 39)), o 41 (.inv [(200, 197), (209, 202), (218, 171), (227, 210)] (.s 40) []), o 42 (.bsl 218 6 false 1 l3 [(0, 6, (.s 41))]), o 43 (.app 218 6 64 false (.s 38) (.s 42)), om 5 43] none [1, 5, 10, 11, 12]) .skip)))))
 (.reg [o 44 (baj 12 1), om 12 44] none [1, 5, 10, 11, 12]))))
def xf_tally_box_ballot_prune : XFunc := ⟨none, true, 2, [.tmp 4], (rs [o 2 (bx 0), o 4 (.mv (.c (.nil 218 6 false)))] [1, 2]
 (rs [o 5 (.mv (.c (.nil 218 6 false)))] [1, 2, 5]
 (.seq (rs [of 9 0 2, o 10 (k 9), o 11 (le 10), o 12 (.mv (j 0))] [1, 5, 10, 11, 12]
 (.block 0 (.loop xf_tally_box_ballot_prune_k0 xf_tally_box_ballot_prune_b0)))
 (rs [om 45 5, om 4 45] [4]
 (.ret [4])))))⟩

def xf_tally_fromBallot : XFunc := ⟨none, true, 1, [.cell 2 (some 6)], (rs [o 1 (bx 0), o 2 (.alloc l3)] [1, 2]
 (rs [ol 3 6 1, p (t 6 2 3)] [2]
 (.ret [2])))⟩

def xf_tally_turned_answer_Answer_k0 : List (Nat × Option (Nat × Nat × Bool)) := [(1, none), (5, some (80, 6, false)), (8, some (227, 6, false)), (9, none), (10, none)]
def xf_tally_turned_answer_Answer_b0 : XCode := (rs [o 11 (bl 10 9)] [1, 5, 8, 9, 10, 11]
 (.seq (.cond (.s 11) .skip (.exit 0 [5]))
 (.seq (.block 1 (rs [o 12 (ia 6 8 10), ol 13 6 12, o 7 (.alloc l3), p (t 6 7 13)] [1, 5, 7, 8, 9, 10]
 (.reg [om 14 5, om 15 1, ol 16 6 7, o 17 (.call (.s 15) [(.s 16)]), o 18 (.bsl 80 6 false 1 l3 [(0, 6, (.s 17))]), o 19 (.app 80 6 64 false (.s 14) (.s 18)), om 5 19] none [1, 5, 8, 9, 10])))
 (.reg [o 20 (baj 10 1), om 10 20] none [1, 5, 8, 9, 10]))))
def xf_tally_turned_answer_Answer : XFunc := ⟨none, true, 2, [.tmp 4], (rs [o 4 (.mv (.c (.nil 80 6 false)))] [0, 1]
 (rs [o 5 (.mv (.c (.nil 80 6 false)))] [0, 1, 5]
 (.seq (rs [om 8 0, o 9 (le 8), o 10 (.mv (j 0))] [1, 5, 8, 9, 10]
 (.block 0 (.loop xf_tally_turned_answer_Answer_k0 xf_tally_turned_answer_Answer_b0)))
 (rs [om 21 5, om 4 21] [4]
 (.ret [4])))))⟩

def xf_tally_turned_Answer_answer_k0 : List (Nat × Option (Nat × Nat × Bool)) := [(1, none), (5, some (227, 6, false)), (8, some (80, 6, false)), (9, none), (10, none)]
def xf_tally_turned_Answer_answer_b0 : XCode := (rs [o 11 (bl 10 9)] [1, 5, 8, 9, 10, 11]
 (.seq (.cond (.s 11) .skip (.exit 0 [5]))
 (.seq (.block 1 (rs [o 12 (ia 6 8 10), ol 13 6 12, o 7 (.alloc l3), p (t 6 7 13)] [1, 5, 7, 8, 9, 10]
 (.reg [om 14 5, om 15 1, ol 16 6 7, o 17 (.call (.s 15) [(.s 16)]), o 18 (.bsl 227 6 false 1 l3 [(0, 6, (.s 17))]), o 19 (.app 227 6 64 false (.s 14) (.s 18)), om 5 19] none [1, 5, 8, 9, 10])))
 (.reg [o 20 (baj 10 1), om 10 20] none [1, 5, 8, 9, 10]))))
def xf_tally_turned_Answer_answer : XFunc := ⟨none, true, 2, [.tmp 4], (rs [o 4 (.mv (.c (.nil 227 6 false)))] [0, 1]
 (rs [o 5 (.mv (.c (.nil 227 6 false)))] [0, 1, 5]
 (.seq (rs [om 8 0, o 9 (le 8), o 10 (.mv (j 0))] [1, 5, 8, 9, 10]
 (.block 0 (.loop xf_tally_turned_Answer_answer_k0 xf_tally_turned_Answer_answer_b0)))
 (rs [om 21 5, om 4 21] [4]
 (.ret [4])))))⟩

def xf_tally_toAnswer : XFunc := ⟨none, true, 1, [.cell 2 (some 6)], (rs [o 1 (bx 0), o 2 (.alloc l3)] [1, 2]
 (rs [ol 3 6 1, p (t 6 2 3)] [2]
 (.ret [2])))⟩

def xf_tally_box_answer_prune_k0 : List (Nat × Option (Nat × Nat × Bool)) := [(1, none), (5, some (227, 6, false)), (10, some (227, 6, false)), (11, none), (12, none)]
def xf_tally_box_answer_prune_b0 : XCode := (rs [o 13 (bl 12 11)] [1, 5, 10, 11, 12, 13]
 (.seq (.cond (.s 13) .skip (.exit 0 [5]))
 (.seq (.block 1 (rs [o 14 (ia 6 10 12), ol 15 6 14, o 7 (.alloc l3), p (t 6 7 15)] [1, 5, 7, 10, 11, 12]
 (rs [ol 16 6 7, o 17 (.mkifc 227 (.s 16)), o 18 (.inv [(200, 198), (209, 203), (218, 206), (227, 211)] (.s 17) []), om 8 18] [1, 5, 7, 8, 10, 11, 12]
 (sp (some [(11, 14), (11, 15)]) [am 19 8, a 20 (blj 19 0), am 21 20, d 22 (m 8) 21, d 23 (m 1) 21, d 24 (le 23) 21, d 25 (bh 22 24) 21, a 26 (ko 21 25), am 27 26, d 28 (l 6 7) 27, d 29 (.mkifc 227 (.s 28)) 27, r 30 (.inv [(200, 196), (209, 201), (218, 205), (227, 209)] (.s 29) []) 27, d 31 (m 1) 27, d 32 (m 8) 27, r 33 (ia 2 31 32) 27, r 34 (l 2 33) 27, r 35 (c 94 [30, 34]) 27, r 36 (bhj 35 0) 27, a 37 (ko 27 36)] [1, 5, 7, 10, 11, 12, 37]
 (.cond (.s 37) (.reg [om 38 5, ol 39 6 7, o 40 (.mkifc 227 (.s 39)), o 41 (.inv [(200, 197), (209, 202), (218, 171), (227, 210)] (.s 40) []), o 42 (.bsl 227 6 false 1 l3 [(0, 6, (.s 41))]), o 43 (.app 227 6 64 false (.s 38) (.s 42)), om 5 43] none [1, 5, 10, 11, 12]) .skip)))))
 (.reg [o 44 (baj 12 1), om 12 44] none [1, 5, 10, 11, 12]))))
def xf_tally_box_answer_prune : XFunc := ⟨none, true, 2, [.tmp 4], (rs [o 2 (bx 0), o 4 (.mv (.c (.nil 227 6 false)))] [1, 2]
 (rs [o 5 (.mv (.c (.nil 227 6 false)))] [1, 2, 5]
 (.seq (rs [of 9 0 2, o 10 (k 9), o 11 (le 10), o 12 (.mv (j 0))] [1, 5, 10, 11, 12]
 (.block 0 (.loop xf_tally_box_answer_prune_k0 xf_tally_box_answer_prune_b0)))
 (rs [om 45 5, om 4 45] [4]
 (.ret [4])))))⟩

def xf_tally_fromAnswer : XFunc := ⟨none, true, 1, [.cell 2 (some 6)], (rs [o 1 (bx 0), o 2 (.alloc l3)] [1, 2]
 (rs [ol 3 6 1, p (t 6 2 3)] [2]
 (.ret [2])))⟩

def xf_change_step_later : XFunc := ⟨none, false, 1, [.tmp 2], (rs [o 2 (.mv (.c w))] [0]
 (.seq (sp (some []) [am 3 0, a 4 (nc 3), a 5 (f 17 4), a 6 (f 2 5), a 7 (k 6), am 8 0, a 9 (nc 8), a 10 (f 0 9), a 11 (f 4 10), a 12 (f 2 11), a 13 (k 12), a 14 (bl 7 13), am 15 14, d 16 (m 0) 15, r 17 (nc 16) 15, r 18 (f 17 17) 15, r 19 (f 2 18) 15, r 20 (k 19) 15, d 21 (m 0) 15, r 22 (nc 21) 15, r 23 (f 0 22) 15, r 24 (f 4 23) 15, r 25 (f 2 24) 15, r 26 (k 25) 15, r 27 (q 20 26) 15, r 28 (m 27) 15, bb 29 0 28, u 30 (nc 29) 28, u 31 (f 0 30) 28, u 32 (f 4 31) 28, u 33 (f 1 32) 28, u 34 (k 33) 28, u 35 (qj 34 1) 28, r 36 (ka 28 35) 15, a 37 (ko 15 36)] [0, 37]
 (.cond (.s 37) (rs [o 2 (.mv (.c w))] [2]
 (.ret [2])) .skip))
 (.seq (rp (some []) [om 38 0, o 39 (nc 38), of 40 17 39, of 41 2 40, o 42 (k 41), om 43 0, o 44 (nc 43), of 45 0 44, of 46 4 45, of 47 2 46, o 48 (k 47), o 49 (bg 42 48)] [0, 49]
 (.cond (.s 49) (.reg [om 50 0, o 51 (nc 50), of 52 0 51, om 53 0, o 54 (nc 53), of 55 17 54, of 56 2 55, o 57 (k 56), o 58 (c 47 [52, 57])] (some []) []) .skip))
 (rs [o 2 (.mv (.c v))] [2]
 (.ret [2])))))⟩

def xf_tally_PutMark : XFunc := ⟨none, true, 2, [.tmp 4], (rs [o 3 (bx 1), o 4 (.mv (.c (.nil 86 3 true)))] [0, 3]
 (rp (some [(1, 3)]) [om 5 0, o 6 (.call (fc 138) [(.s 5), (.c (.fn (.func 139) [] []))]), o 7 (.build [(.nil 209 3 true)] [(0, 1, (.s 6))]), ol 8 3 3, o 9 (c 169 [7, 8]), o 10 (.call (fc 137) [(.s 9), (.c (.fn (.func 141) [] []))]), om 4 10] [4]
 (.ret [4])))⟩

def xf_tally_PutBallot : XFunc := ⟨none, true, 2, [.tmp 4], (rs [o 3 (bx 1), o 4 (.mv (.c (.nil 78 6 false)))] [0, 3]
 (rp (some [(1, 3)]) [om 5 0, o 6 (.call (fc 143) [(.s 5), (.c (.fn (.func 144) [] []))]), o 7 (.build [(.nil 218 6 false)] [(0, 1, (.s 6))]), ol 8 6 3, o 9 (c 170 [7, 8]), o 10 (.call (fc 142) [(.s 9), (.c (.fn (.func 146) [] []))]), om 4 10] [4]
 (.ret [4])))⟩

def xf_tally_Choose_k0 : List (Nat × Option (Nat × Nat × Bool)) := [(6, none), (8, none), (9, none), (21, some (78, 6, false)), (22, none), (23, none)]
def xf_tally_Choose_b0 : XCode := (rs [o 24 (bl 23 22)] [6, 8, 9, 21, 22, 23, 24]
 (.seq (.cond (.s 24) .skip (.exit 0 [6, 8, 9]))
 (.seq (.block 1 (rs [o 25 (ia 6 21 23), ol 26 6 25, o 11 (.alloc l3), p (t 6 11 26)] [6, 8, 9, 11, 21, 22, 23]
 (rs [om 27 9, of 28 4 11, o 29 (k 28), o 30 (.mm true (.s 27) (.s 29)), om 9 30] [6, 8, 9, 11, 21, 22, 23]
 (ss [a 31 (f 3 11), a 32 (k 31), a 33 (f 3 8), a 34 (k 33), a 35 (bg 32 34), am 36 35, d 37 (f 3 11) 36, d 38 (k 37) 36, d 39 (f 3 8) 36, d 40 (k 39) 36, d 41 (q 38 40) 36, d 42 (m 41) 36, b 43 (f 5 11) 42, b 44 (k 43) 42, b 45 (le 44) 42, b 46 (f 5 8) 42, b 47 (k 46) 42, b 48 (le 47) 42, b 49 (bg 45 48) 42, bb 50 49 42, d 51 (f 5 11) 50, d 52 (k 51) 50, d 53 (le 52) 50, d 54 (f 5 8) 50, d 55 (k 54) 50, d 56 (le 55) 50, d 57 (q 53 56) 50, d 58 (m 57) 50, b 59 (f 0 11) 58, b 60 (k 59) 58, b 61 (f 0 8) 58, b 62 (k 61) 58, b 63 (bl 60 62) 58, d 64 (ka 58 63) 50, b 65 (ko 50 64) 42, d 66 (ka 42 65) 36, a 67 (ko 36 66)] [6, 8, 9, 11, 21, 22, 23, 67]
 (.cond (.s 67) (.reg [ol 68 6 11, p (t 6 8 68)] none [6, 8, 9, 21, 22, 23]) .skip)))))
 (.reg [o 69 (baj 23 1), om 23 69] none [6, 8, 9, 21, 22, 23]))))
def xf_tally_Choose : XFunc := ⟨none, true, 3, [.cell 6 (some 6), .tmp 7], (rs [o 4 (bx 1), o 6 (.alloc l3), o 7 (.mv (j 0))] [0, 2, 4, 6]
 (.seq (rs [om 13 2, o 14 (le 13), om 15 0, o 16 (bl 14 15)] [2, 4, 6, 16]
 (.cond (.s 16) (rs [o 17 (.build l3 []), p (t 6 6 17), o 7 (.mv (j 81))] [6, 7]
 (.ret [6, 7])) .skip))
 (rp (some [(0, 3), (2, 3), (2, 4)]) [ol 18 6 4, of 19 4 4, o 20 (k 19), o 8 (.alloc l3), p (t 6 8 18), om 9 20] [2, 6, 8, 9]
 (.seq (rs [om 21 2, o 22 (le 21), o 23 (.mv (j 0))] [6, 8, 9, 21, 22, 23]
 (.block 0 (.loop xf_tally_Choose_k0 xf_tally_Choose_b0)))
 (rs [ol 70 6 8, o 71 (c 171 [70]), o 12 (.alloc l3), p (t 6 12 71)] [6, 8, 9, 12]
 (rs [om 72 9, of 73 5 8, o 74 (k 73), o 75 (le 74), o 76 (.mm false (.s 72) (.s 75)), o 77 (.mm true (j 0) (.s 76)), of 78 4 12, p (t 1 78 77)] [6, 12]
 (rs [ol 79 6 12, p (t 6 6 79), o 7 (.mv (j 0))] [6, 7]
 (.ret [6, 7]))))))))⟩

def xf_change_step_lead : XFunc := ⟨none, false, 2, [], (rs [o 3 (bx 1)] [0, 3]
 (rs [om 7 0, o 8 (nc 7), of 9 0 8, o 10 (c 79 [9])] [0, 3]
 (rp (some [(11, 16), (11, 21), (11, 26)]) [om 11 0, om 12 0, om 13 0, om 14 0, om 15 0, o 16 (nc 15), of 17 0 16, of 18 4 17, of 19 2 18, o 20 (k 19), of 21 5 3, o 22 (k 21), o 23 (nc 11), of 24 0 23, of 25 4 24, of 26 1 25, p (.store 1 (.s 26) (j 1)), o 27 (nc 12), of 28 0 27, of 29 4 28, of 30 3 29, p (t 1 30 20), o 31 (nc 13), of 32 0 31, of 33 4 32, of 34 7 33, p (.store 1 (.s 34) (j 0)), o 35 (nc 14), of 36 0 35, of 37 4 36, of 38 4 37, p (t 1 38 22)] [0, 3]
 (rp (some []) [om 39 0, om 40 0, o 41 (nc 40), of 42 0 41, of 43 4 42, of 44 5 43, o 45 (k 44), of 46 5 3, o 47 (k 46), o 48 (le 47), o 49 (.mm false (.s 45) (.s 48)), o 50 (nc 39), of 51 0 50, of 52 4 51, of 53 5 52, p (t 1 53 49)] [0, 3]
 (rp (some []) [om 54 0, o 55 (nc 54), of 56 0 55, om 57 0, o 58 (nc 57), of 59 0 58, of 60 4 59, of 61 2 60, o 62 (k 61), of 63 5 3, o 64 (k 63), of 65 4 3, o 66 (k 65), o 67 (.build l4 [(0, 1, (j 8)), (2, 1, (.s 62)), (16, 1, (.s 64)), (12, 1, (.s 66))]), o 68 (c 49 [56, 67])] [0, 3]
 (rp (some [(4, 17), (9, 17), (11, 17), (12, 17)]) [om 70 0, o 71 (nc 70), of 72 0 71, of 73 0 72, ol 74 4 73, om 75 0, o 76 (nc 75), of 77 0 76, of 78 4 77, ol 79 12 78, of 80 4 3, o 81 (k 80), o 82 (c 46 [74, 79, 81]), om 69 82, o 83 (e 69 0), o 84 (e 69 1), o 85 (e 69 2), o 4 (.alloc l1), p (t 12 4 83), om 5 84, om 6 85] [0, 4, 5]
 (rs [om 86 0, ol 87 12 4, o 88 (nc 86), of 89 0 88, of 90 4 89, p (t 12 90 87)] [0, 5]
 (.reg [om 91 0, om 92 0, o 93 (nc 92), of 94 0 93, of 95 16 94, o 96 (k 95), om 97 5, o 98 (.app 98 19 200 false (.s 96) (.s 97)), o 99 (nc 91), of 100 0 99, of 101 16 100, p (t 1 101 98)] none []))))))))⟩

def xf_ref05_Log_k1 : List (Nat × Option (Nat × Nat × Bool)) := [(0, none), (5, none), (7, none)]
def xf_ref05_Log_b1 : XCode := (.seq (rs [om 26 7, om 27 5, o 28 (bl 26 27)] [0, 5, 7, 28]
 (.cond (.s 28) .skip (.exit 2 [0, 5])))
 (.seq (.block 3 (sp (some []) [am 31 0, am 32 7, a 33 (ia 5 31 32), a 34 (f 0 33), a 35 (k 34), am 36 0, am 37 5, a 38 (ia 5 36 37), a 39 (f 0 38), a 40 (k 39), a 41 (q 35 40), am 42 41, bb 43 0 42, bb 44 7 42, u 45 (ia 5 43 44) 42, u 46 (f 1 45) 42, u 47 (k 46) 42, bb 48 0 42, bb 49 5 42, u 50 (ia 5 48 49) 42, u 51 (f 1 50) 42, u 52 (k 51) 42, u 53 (bh 47 52) 42, a 54 (ka 42 53)] [0, 5, 7, 54]
 (.cond (.s 54) (rs [o 4 (.mv (j 64))] [4]
 (.ret [4])) .skip)))
 (.reg [om 29 7, o 30 (baj 29 1), om 7 30] none [0, 5, 7])))
def xf_ref05_Log_k0 : List (Nat × Option (Nat × Nat × Bool)) := [(0, none), (5, none)]
def xf_ref05_Log_b0 : XCode := (.seq (rs [om 12 5, om 13 0, o 14 (le 13), o 15 (bl 12 14)] [0, 5, 15]
 (.cond (.s 15) .skip (.exit 0 [])))
 (.seq (.block 1 (rs [om 18 0, om 19 5, o 20 (ia 5 18 19), ol 21 5 20, o 22 (c 172 [21]), om 6 22] [0, 5, 6]
 (.seq (rs [om 23 6, o 24 (nj 23 0)] [0, 5, 6, 24]
 (.cond (.s 24) (rs [om 25 6, om 4 25] [4]
 (.ret [4])) .skip))
 (rs [o 7 (.mv (j 0))] [0, 5, 7]
 (.block 2 (.loop xf_ref05_Log_k1 xf_ref05_Log_b1))))))
 (.reg [om 16 5, o 17 (baj 16 1), om 5 17] none [0, 5])))
def xf_ref05_Log : XFunc := ⟨none, true, 2, [.tmp 4], (rs [o 4 (.mv (j 0))] [0, 1]
 (.seq (rs [om 8 0, o 9 (le 8), om 10 1, o 11 (bg 9 10)] [0, 11]
 (.cond (.s 11) (rs [o 4 (.mv (j 60))] [4]
 (.ret [4])) .skip))
 (.seq (rs [o 5 (.mv (j 0))] [0, 5]
 (.block 0 (.loop xf_ref05_Log_k0 xf_ref05_Log_b0)))
 (rs [o 4 (.mv (j 0))] [4]
 (.ret [4])))))⟩

def xf_ref07_entry : XFunc := ⟨none, true, 2, [.tmp 4], (rs [o 3 (bx 1), o 4 (.mv (.c w))] [0, 3]
 (.seq (ss [am 5 0, a 6 (qj 5 2), am 7 6, d 8 (m 0) 7, d 9 (qj 8 14) 7, a 10 (ko 7 9)] [0, 3, 10]
 (.cond (.s 10) (ss [a 11 (f 0 3), a 12 (k 11), a 13 (bhj 12 0), am 14 13, b 15 (f 0 3) 14, b 16 (k 15) 14, b 17 (blj 16 16) 14, a 18 (ka 14 17), am 19 18, b 20 (f 1 3) 19, b 21 (k 20) 19, b 22 (bhj 21 1) 19, a 23 (ka 19 22), am 24 23, b 25 (f 2 3) 24, b 26 (l 3 25) 24, b 27 (.build l9 []) 24, b 28 (.eqv false true [.i, .i, .s] (.s 26) (.s 27)) 24, a 29 (ka 24 28), am 4 29] [4]
 (.ret [4])) .skip))
 (ss [a 30 (l 5 3), a 31 (c 172 [30]), a 32 (qj 31 0), am 33 32, bb 34 0 33, b 35 (nj 34 13) 33, bb 36 35 33, d 37 (f 2 3) 36, d 38 (f 0 37) 36, d 39 (k 38) 36, d 40 (qj 39 3) 36, b 41 (ko 36 40) 33, bb 42 41 33, d 43 (f 2 3) 42, d 44 (f 0 43) 42, d 45 (k 44) 42, d 46 (qj 45 4) 42, b 47 (ko 42 46) 33, a 48 (ka 33 47), am 4 48] [4]
 (.ret [4]))))⟩

def xf_ref07_result : XFunc := ⟨none, true, 1, [.tmp 2], (rs [o 1 (bx 0), o 2 (.mv (.c w))] [1]
 (ss [a 4 (f 1 1), a 5 (k 4), a 6 (bhj 5 0), am 7 6, b 8 (f 1 1) 7, b 9 (k 8) 7, b 10 (blj 9 1024) 7, a 11 (ka 7 10), am 3 11] [1, 3]
 (.seq (rs [of 12 0 1, o 13 (k 12)] [1, 3, 13]
 (.block 0 (.seq (rs [o 15 (qj 13 1), om 14 15] [1, 3, 13, 14]
 (.cond (.s 14) .skip (rs [o 16 (qj 13 2), om 14 16] [1, 3, 13, 14]
 (.cond (.s 14) .skip (.reg [o 17 (qj 13 4), om 14 17] none [1, 3, 13, 14])))))
 (.cond (.s 14) (ss [am 18 3, am 19 18, b 20 (f 2 1) 19, b 21 (k 20) 19, b 22 (.len true (.s 21)) 19, b 23 (bmj 22 64) 19, a 24 (ka 19 23), am 2 24] [2]
 (.ret [2])) (rs [o 26 (qj 13 5), om 25 26] [1, 3, 13, 25]
 (.cond (.s 25) (ss [am 27 3, am 28 27, b 29 (f 2 1) 28, b 30 (k 29) 28, b 31 (.eqv false false [.s] (.s 30) (.c x)) 28, a 32 (ka 28 31), am 2 32] [2]
 (.ret [2])) (rs [o 34 (qj 13 6), om 33 34] [1, 13, 33]
 (.cond (.s 33) (ss [a 35 (f 1 1), a 36 (k 35), a 37 (bhj 36 0), am 38 37, b 39 (f 1 1) 38, b 40 (k 39) 38, b 41 (bmj 40 1024) 38, a 42 (ka 38 41), am 43 42, b 44 (f 2 1) 43, b 45 (k 44) 43, b 46 (.eqv false false [.s] (.s 45) (.c x)) 43, a 47 (ka 43 46), am 2 47] [2]
 (.ret [2])) (.seq (rs [o 49 (qj 13 3), om 48 49] [1, 13, 48]
 (.cond (.s 48) .skip (.reg [o 50 (qj 13 7), om 48 50] none [1, 48])))
 (.cond (.s 48) (ss [a 51 (f 1 1), a 52 (k 51), a 53 (qj 52 0), am 54 53, b 55 (f 2 1) 54, b 56 (k 55) 54, b 57 (.eqv false false [.s] (.s 56) (.c x)) 54, a 58 (ka 54 57), am 2 58] [2]
 (.ret [2])) .skip))))))))))
 (rs [o 2 (.mv (.c w))] [2]
 (.ret [2])))))⟩

def xf_ref02_Compare : XFunc := ⟨none, true, 2, [.tmp 4], (rs [o 2 (bx 0), o 3 (bx 1), o 4 (.mv (j 0))] [2, 3]
 (.seq (rs [of 5 0 2, o 6 (k 5), of 7 0 3, o 8 (k 7), o 9 (n 6 8)] [2, 3, 9]
 (.cond (.s 9) (.seq (rs [of 10 0 2, o 11 (k 10), of 12 0 3, o 13 (k 12), o 14 (bl 11 13)] [14]
 (.cond (.s 14) (rs [o 4 (.mv (j (-1)))] [4]
 (.ret [4])) .skip))
 (rs [o 4 (.mv (j 1))] [4]
 (.ret [4]))) .skip))
 (.seq (rs [of 15 1 2, o 16 (k 15), of 17 1 3, o 18 (k 17), o 19 (bl 16 18)] [2, 3, 19]
 (.cond (.s 19) (rs [o 4 (.mv (j (-1)))] [4]
 (.ret [4])) .skip))
 (.seq (rs [of 20 1 2, o 21 (k 20), of 22 1 3, o 23 (k 22), o 24 (bg 21 23)] [24]
 (.cond (.s 24) (rs [o 4 (.mv (j 1))] [4]
 (.ret [4])) .skip))
 (rs [o 4 (.mv (j 0))] [4]
 (.ret [4]))))))⟩

def xf_ref05_results_k0 : List (Nat × Option (Nat × Nat × Bool)) := [(0, none), (1, none), (5, some (36, 3, true)), (6, none)]
def xf_ref05_results_b0 : XCode := (.seq (rs [om 9 6, om 10 1, o 11 (bl 9 10)] [0, 1, 5, 6, 11]
 (.cond (.s 11) .skip (.exit 0 [5])))
 (.seq (.block 1 (.reg [om 14 5, om 15 0, om 16 6, o 17 (ia 5 15 16), of 18 2 17, ol 19 3 18, o 20 (.bsl 36 3 true 1 l9 [(0, 3, (.s 19))]), o 21 (.app 36 3 32 true (.s 14) (.s 20)), om 5 21] none [0, 1, 5, 6]))
 (.reg [om 12 6, o 13 (baj 12 1), om 6 13] none [0, 1, 5, 6])))
def xf_ref05_results : XFunc := ⟨none, true, 2, [.tmp 4], (rs [o 4 (.mv (.c (.nil 40 3 true)))] [0, 1]
 (rs [o 5 (.mv (.c (.nil 36 3 true)))] [0, 1, 5]
 (.seq (rs [o 6 (.mv (j 0))] [0, 1, 5, 6]
 (.block 0 (.loop xf_ref05_results_k0 xf_ref05_results_b0)))
 (rs [om 23 5, o 24 (c 173 [23]), om 22 24, o 25 (e 22 0), o 26 (e 22 1), om 7 25, om 8 26] [8]
 (rs [om 27 8, om 4 27] [4]
 (.ret [4]))))))⟩

def xf_ref05_row : XFunc := ⟨none, true, 3, [.cell 6 (some 7)], (rs [o 6 (.alloc l10)] [0, 1, 2, 6]
 (rp (some [(3, 15), (5, 15), (9, 15), (11, 15)]) [om 9 0, om 10 1, o 11 (bsj 10 1), o 12 (ia 5 9 11), of 13 0 12, o 14 (k 13), om 15 0, om 16 1, o 17 (bsj 16 1), o 18 (ia 5 15 17), of 19 1 18, o 20 (k 19), om 21 1, om 22 2, o 23 (.build l10 [(0, 1, (.s 14)), (1, 1, (.s 20)), (2, 1, (.s 21)), (3, 1, (.s 22))]), o 7 (.alloc l10), p (t 7 7 23)] [0, 1, 2, 6, 7]
 (.seq (rs [om 24 2] [0, 1, 6, 7, 24]
 (.cond (.s 24) (rs [om 25 0, om 26 1, o 27 (c 161 [25, 26]), om 8 27] [1, 6, 7, 8]
 (.reg [om 28 8, om 29 1, o 30 (bsj 29 1), o 31 (ia 3 28 30), ol 32 3 31, of 33 4 7, p (t 3 33 32)] none [6, 7])) .skip))
 (rs [ol 34 7 7, p (t 7 6 34)] [6]
 (.ret [6])))))⟩

def xf_client_entry : XFunc := ⟨none, true, 2, [.tmp 4], (rs [o 4 (.mv (j 0))] [0, 1]
 (.seq (ss [am 5 0, a 6 (blj 5 0), am 7 6, d 8 (m 0) 7, d 9 (bhj 8 16) 7, a 10 (ko 7 9)] [1, 10]
 (.cond (.s 10) (rs [o 4 (.mv (j 62))] [4]
 (.ret [4])) .skip))
 (.seq (rs [om 11 1, o 12 (blj 11 1)] [12]
 (.cond (.s 12) (rs [o 4 (.mv (j 63))] [4]
 (.ret [4])) .skip))
 (rs [o 4 (.mv (j 0))] [4]
 (.ret [4])))))⟩

def xf_ledger_New : XFunc := ⟨none, false, 0, [.tmp 0], (rs [o 0 (.mv (.c (.dat .nilp)))] []
 (rs [o 1 .mkmap, o 2 (.build [(.dat .nilm), z] [(0, 1, (.s 1))]), o 3 (bx 2), om 0 3] [0]
 (.ret [0])))⟩

def xf_ledger_Ledger_Do : XFunc := ⟨none, false, 2, [.cell 4 (some 3)], (rs [o 3 (bx 1), o 4 (.alloc l9)] [0, 3, 4]
 (rs [om 6 0, ol 7 3 3, o 8 (c 174 [6, 7]), o 5 (.alloc l9), p (t 3 5 8)] [0, 4, 5]
 (.seq (rs [of 9 0 5, o 10 (k 9), o 11 (qj 10 1)] [0, 4, 5, 11]
 (.cond (.s 11) (.reg [om 12 0, of 13 1 5, o 14 (k 13), of 15 2 5, o 16 (k 15), o 17 (c 175 [12, 14, 16])] none [4, 5]) .skip))
 (rs [ol 18 3 5, p (t 3 4 18)] [4]
 (.ret [4])))))⟩

def xf_ref09_voters_k0 : List (Nat × Option (Nat × Nat × Bool)) := [(1, none), (2, none), (3, none), (4, none), (9, none)]
def xf_ref09_voters_b0 : XCode := (.seq (rs [om 10 9, om 11 2, o 12 (le 11), o 13 (bl 10 12)] [1, 2, 3, 4, 9, 13]
 (.cond (.s 13) .skip (.exit 0 [])))
 (.seq (.block 1 (sp (some []) [am 16 2, am 17 9, a 18 (ia 1 16 17), a 19 (k 18), a 20 (blj 19 0), am 21 20, d 22 (m 2) 21, d 23 (m 9) 21, r 24 (ia 1 22 23) 21, r 25 (k 24) 21, d 26 (m 1) 21, r 27 (bh 25 26) 21, a 28 (ko 21 27), am 29 28, d 30 (m 2) 29, d 31 (m 9) 29, r 32 (ia 1 30 31) 29, r 33 (k 32) 29, d 34 (f 0 4) 29, d 35 (k 34) 29, r 36 (q 33 35) 29, a 37 (ko 29 36), am 38 37, d 39 (m 9) 38, d 40 (bgj 39 0) 38, r 41 (m 40) 38, bb 42 2 41, bb 43 9 41, u 44 (ia 1 42 43) 41, u 45 (k 44) 41, bb 46 2 41, bb 47 9 41, b 48 (bsj 47 1) 41, u 49 (ia 1 46 48) 41, u 50 (k 49) 41, u 51 (bm 45 50) 41, r 52 (ka 41 51) 38, a 53 (ko 38 52), am 54 53, d 55 (m 3) 54, d 56 (m 9) 54, r 57 (ia 2 55 56) 54, r 58 (l 2 57) 54, d 59 (f 6 4) 54, d 60 (k 59) 54, d 61 (m 2) 54, d 62 (m 9) 54, r 63 (ia 1 61 62) 54, r 64 (k 63) 54, r 65 (ia 2 60 64) 54, r 66 (l 2 65) 54, r 67 (.eqv true true [.i, .i] (.s 58) (.s 66)) 54, a 68 (ko 54 67)] [1, 2, 3, 4, 9, 68]
 (.cond (.s 68) (rs [o 8 (.mv (.c w))] [8]
 (.ret [8])) .skip)))
 (.reg [om 14 9, o 15 (baj 14 1), om 9 15] none [1, 2, 3, 4, 9])))
def xf_ref09_voters : XFunc := ⟨none, true, 4, [.tmp 8], (rs [o 4 (bx 0), o 8 (.mv (.c w))] [1, 2, 3, 4]
 (.seq (rs [o 9 (.mv (j 0))] [1, 2, 3, 4, 9]
 (.block 0 (.loop xf_ref09_voters_k0 xf_ref09_voters_b0)))
 (rs [o 8 (.mv (.c v))] [8]
 (.ret [8]))))⟩

def xf_oplog_joined : XFunc := ⟨none, true, 2, [.tmp 4], (rs [o 4 (.mv (.c (.nil 38 5 true)))] [0, 1]
 (rs [om 6 0, o 7 (le 6), om 8 1, o 9 (le 8), o 10 (ba 7 9), o 11 (.mksl 38 5 48 true l13 (.s 10) (.s 10)), om 5 11] [0, 1, 5]
 (rs [om 12 5, om 13 0, o 14 (.cpy 5 (.s 12) (.s 13))] [0, 1, 5]
 (rs [om 15 5, om 16 0, o 17 (le 16), o 18 (.slice 5 (.s 15) (some (.s 17)) none), om 19 1, o 20 (.cpy 5 (.s 18) (.s 19))] [5]
 (rs [om 21 5, om 4 21] [4]
 (.ret [4]))))))⟩

def xf_oplog_Each_1_k0 : List (Nat × Option (Nat × Nat × Bool)) := [(0, none), (2, none), (4, none)]
def xf_oplog_Each_1_b0 : XCode := (.seq (rs [om 8 4, o 9 (k 2), o 10 (le 9), o 11 (bl 8 10)] [0, 2, 4, 11]
 (.cond (.s 11) .skip (.exit 0 [])))
 (.seq (.block 1 (rs [om 14 0, om 15 4, o 16 (baj 15 1), o 17 (k 2), om 18 4, o 19 (ia 5 17 18), ol 20 5 19, o 21 (.call (.s 14) [(.s 16), (.s 20)]), o 22 (nt 21)] [0, 2, 4, 22]
 (.cond (.s 22) (.ret []) .skip)))
 (.reg [om 12 4, o 13 (baj 12 1), om 4 13] none [0, 2, 4])))
def xf_oplog_Each_1 : XFunc := ⟨none, false, 1, [], (rs [o 5 (k 1), o 6 (.mm true (.s 5) (j 1)), o 7 (bsj 6 1), om 4 7] [0, 2, 4]
 (.block 0 (.loop xf_oplog_Each_1_k0 xf_oplog_Each_1_b0)))⟩

def xf_tally_box_mark_put_k0 : List (Nat × Option (Nat × Nat × Bool)) := [(2, none), (3, none), (5, none), (6, none), (19, some (209, 3, true)), (20, none), (21, none)]
def xf_tally_box_mark_put_b0 : XCode := (rs [o 22 (bl 21 20)] [2, 3, 5, 6, 19, 20, 21, 22]
 (.seq (.cond (.s 22) .skip (.exit 0 [2, 3, 5, 6]))
 (.seq (.block 1 (rs [om 23 21, o 24 (ia 3 19 21), ol 25 3 24, o 8 (.alloc l8), om 7 23, p (t 3 8 25)] [2, 3, 5, 6, 7, 8, 19, 20, 21]
 (rp (some [(2, 3)]) [ol 26 3 8, o 27 (.mkifc 209 (.s 26)), o 28 (.inv [(200, 198), (209, 203), (218, 206), (227, 211)] (.s 27) []), ol 29 3 3, o 30 (.mkifc 209 (.s 29)), o 31 (.inv [(200, 198), (209, 203), (218, 206), (227, 211)] (.s 30) []), o 32 (q 28 31)] [2, 3, 5, 6, 7, 19, 20, 21, 32]
 (.cond (.s 32) (rs [om 33 7, om 5 33, o 6 (.mv (.c v))] [2, 3, 5, 6]
 (.exit 0 [2, 3, 5, 6])) .skip))))
 (.reg [o 34 (baj 21 1), om 21 34] none [2, 3, 5, 6, 19, 20, 21]))))
def xf_tally_box_mark_put_k1 : List (Nat × Option (Nat × Nat × Bool)) := [(2, none), (3, none), (5, none), (6, none), (38, some (209, 3, true)), (39, none), (40, none)]
def xf_tally_box_mark_put_b1 : XCode := (rs [o 41 (bl 40 39)] [2, 3, 5, 6, 38, 39, 40, 41]
 (.seq (.cond (.s 41) .skip (.exit 2 [2, 3, 5, 6]))
 (.seq (.block 3 (rs [om 42 40, o 43 (ia 3 38 40), ol 44 3 43, o 10 (.alloc l8), om 9 42, p (t 3 10 44)] [2, 3, 5, 6, 9, 10, 38, 39, 40]
 (rp (some [(2, 3)]) [ol 45 3 10, o 46 (.mkifc 209 (.s 45)), o 47 (.inv [(200, 198), (209, 203), (218, 206), (227, 211)] (.s 46) []), ol 48 3 3, o 49 (.mkifc 209 (.s 48)), o 50 (.inv [(200, 198), (209, 203), (218, 206), (227, 211)] (.s 49) []), o 51 (bg 47 50)] [2, 3, 5, 6, 9, 38, 39, 40, 51]
 (.cond (.s 51) (rs [om 52 9, om 5 52] [2, 3, 5, 6]
 (.exit 2 [2, 3, 5, 6])) .skip))))
 (.reg [o 53 (baj 40 1), om 40 53] none [2, 3, 5, 6, 38, 39, 40]))))
def xf_tally_box_mark_put_k2 : List (Nat × Option (Nat × Nat × Bool)) := [(2, none), (3, none), (5, none), (6, none), (11, some (209, 3, true)), (55, some (209, 3, true)), (56, none), (57, none)]
def xf_tally_box_mark_put_b2 : XCode := (rs [o 58 (bl 57 56)] [2, 3, 5, 6, 11, 55, 56, 57, 58]
 (.seq (.cond (.s 58) .skip (.exit 4 [2, 3, 5, 11]))
 (.seq (.block 5 (rs [om 59 57, o 60 (ia 3 55 57), ol 61 3 60, o 13 (.alloc l8), om 12 59, p (t 3 13 61)] [2, 3, 5, 6, 11, 12, 13, 55, 56, 57]
 (.seq (ss [am 62 12, am 63 5, a 64 (q 62 63), am 65 64, bb 66 6 65, a 67 (ka 65 66)] [2, 3, 5, 6, 11, 12, 13, 55, 56, 57, 67]
 (.cond (.s 67) (rp (some [(2, 3)]) [ol 68 3 3, o 69 (.mkifc 209 (.s 68)), o 70 (.inv [(200, 196), (209, 201), (218, 205), (227, 209)] (.s 69) []), ol 71 3 13, o 72 (.mkifc 209 (.s 71)), o 73 (.inv [(200, 196), (209, 201), (218, 205), (227, 209)] (.s 72) []), o 74 (c 94 [70, 73]), om 14 74] [2, 3, 5, 6, 11, 13, 14, 55, 56, 57]
 (rs [om 75 14, o 76 (bgj 75 0), om 77 76, h 78 (m 14) 77, h 79 (qj 78 0) 77, h 80 (m 79) 77, g 81 (l 3 3) 80, g 82 (.mkifc 209 (.s 81)) 80, g 83 (l 3 13) 80, g 84 (.inv [(200, 195), (209, 200), (218, 204), (227, 208)] (.s 82) [(.s 83)]) 80, h 85 (ka 80 84) 77, o 86 (ko 77 85)] [2, 3, 5, 6, 11, 13, 55, 56, 57, 86]
 (.cond (.s 86) (.reg [ol 87 3 3, p (t 3 13 87)] none [2, 3, 5, 6, 11, 13, 55, 56, 57]) .skip))) (rs [om 88 12, om 89 5, o 90 (q 88 89)] [2, 3, 5, 6, 11, 13, 55, 56, 57, 90]
 (.cond (.s 90) (.reg [om 91 11, ol 92 3 3, o 93 (.mkifc 209 (.s 92)), o 94 (.inv [(200, 197), (209, 202), (218, 171), (227, 210)] (.s 93) []), o 95 (.bsl 209 3 true 1 l8 [(0, 3, (.s 94))]), o 96 (.app 209 3 24 true (.s 91) (.s 95)), om 11 96] none [2, 3, 5, 6, 11, 13, 55, 56, 57]) .skip))))
 (.reg [om 97 11, ol 98 3 13, o 99 (.mkifc 209 (.s 98)), o 100 (.inv [(200, 197), (209, 202), (218, 171), (227, 210)] (.s 99) []), o 101 (.bsl 209 3 true 1 l8 [(0, 3, (.s 100))]), o 102 (.app 209 3 24 true (.s 97) (.s 101)), om 11 102] none [2, 3, 5, 6, 11, 55, 56, 57]))))
 (.reg [o 103 (baj 57 1), om 57 103] none [2, 3, 5, 6, 11, 55, 56, 57]))))
def xf_tally_box_mark_put : XFunc := ⟨none, true, 2, [.tmp 4], (rs [o 2 (bx 0), o 3 (bx 1), o 4 (.mv (.c (.nil 209 3 true)))] [2, 3]
 (rs [of 15 0 2, o 16 (k 15), o 17 (le 16), om 5 17, o 6 (.mv (.c w))] [2, 3, 5, 6]
 (.seq (rs [of 18 0 2, o 19 (k 18), o 20 (le 19), o 21 (.mv (j 0))] [2, 3, 5, 6, 19, 20, 21]
 (.block 0 (.loop xf_tally_box_mark_put_k0 xf_tally_box_mark_put_b0)))
 (.seq (rs [om 35 6, o 36 (nt 35)] [2, 3, 5, 6, 36]
 (.cond (.s 36) (rs [of 37 0 2, o 38 (k 37), o 39 (le 38), o 40 (.mv (j 0))] [2, 3, 5, 6, 38, 39, 40]
 (.block 2 (.loop xf_tally_box_mark_put_k1 xf_tally_box_mark_put_b1))) .skip))
 (rs [o 11 (.mv (.c (.nil 209 3 true)))] [2, 3, 5, 6, 11]
 (.seq (rs [of 54 0 2, o 55 (k 54), o 56 (le 55), o 57 (.mv (j 0))] [2, 3, 5, 6, 11, 55, 56, 57]
 (.block 4 (.loop xf_tally_box_mark_put_k2 xf_tally_box_mark_put_b2)))
 (.seq (rs [om 104 5, of 105 0 2, o 106 (k 105), o 107 (le 106), o 108 (q 104 107)] [3, 11, 108]
 (.cond (.s 108) (.reg [om 109 11, ol 110 3 3, o 111 (.mkifc 209 (.s 110)), o 112 (.inv [(200, 197), (209, 202), (218, 171), (227, 210)] (.s 111) []), o 113 (.bsl 209 3 true 1 l8 [(0, 3, (.s 112))]), o 114 (.app 209 3 24 true (.s 109) (.s 113)), om 11 114] none [11]) .skip))
 (rs [om 115 11, om 4 115] [4]
 (.ret [4])))))))))⟩

def xf_tally_box_ballot_put_k0 : List (Nat × Option (Nat × Nat × Bool)) := [(2, none), (3, none), (5, none), (6, none), (19, some (218, 6, false)), (20, none), (21, none)]
def xf_tally_box_ballot_put_b0 : XCode := (rs [o 22 (bl 21 20)] [2, 3, 5, 6, 19, 20, 21, 22]
 (.seq (.cond (.s 22) .skip (.exit 0 [2, 3, 5, 6]))
 (.seq (.block 1 (rs [om 23 21, o 24 (ia 6 19 21), ol 25 6 24, o 8 (.alloc l3), om 7 23, p (t 6 8 25)] [2, 3, 5, 6, 7, 8, 19, 20, 21]
 (rp (some [(2, 3)]) [ol 26 6 8, o 27 (.mkifc 218 (.s 26)), o 28 (.inv [(200, 198), (209, 203), (218, 206), (227, 211)] (.s 27) []), ol 29 6 3, o 30 (.mkifc 218 (.s 29)), o 31 (.inv [(200, 198), (209, 203), (218, 206), (227, 211)] (.s 30) []), o 32 (q 28 31)] [2, 3, 5, 6, 7, 19, 20, 21, 32]
 (.cond (.s 32) (rs [om 33 7, om 5 33, o 6 (.mv (.c v))] [2, 3, 5, 6]
 (.exit 0 [2, 3, 5, 6])) .skip))))
 (.reg [o 34 (baj 21 1), om 21 34] none [2, 3, 5, 6, 19, 20, 21]))))
def xf_tally_box_ballot_put_k1 : List (Nat × Option (Nat × Nat × Bool)) := [(2, none), (3, none), (5, none), (6, none), (38, some (218, 6, false)), (39, none), (40, none)]
def xf_tally_box_ballot_put_b1 : XCode := (rs [o 41 (bl 40 39)] [2, 3, 5, 6, 38, 39, 40, 41]
 (.seq (.cond (.s 41) .skip (.exit 2 [2, 3, 5, 6]))
 (.seq (.block 3 (rs [om 42 40, o 43 (ia 6 38 40), ol 44 6 43, o 10 (.alloc l3), om 9 42, p (t 6 10 44)] [2, 3, 5, 6, 9, 10, 38, 39, 40]
 (rp (some [(2, 3)]) [ol 45 6 10, o 46 (.mkifc 218 (.s 45)), o 47 (.inv [(200, 198), (209, 203), (218, 206), (227, 211)] (.s 46) []), ol 48 6 3, o 49 (.mkifc 218 (.s 48)), o 50 (.inv [(200, 198), (209, 203), (218, 206), (227, 211)] (.s 49) []), o 51 (bg 47 50)] [2, 3, 5, 6, 9, 38, 39, 40, 51]
 (.cond (.s 51) (rs [om 52 9, om 5 52] [2, 3, 5, 6]
 (.exit 2 [2, 3, 5, 6])) .skip))))
 (.reg [o 53 (baj 40 1), om 40 53] none [2, 3, 5, 6, 38, 39, 40]))))
def xf_tally_box_ballot_put_k2 : List (Nat × Option (Nat × Nat × Bool)) := [(2, none), (3, none), (5, none), (6, none), (11, some (218, 6, false)), (55, some (218, 6, false)), (56, none), (57, none)]
def xf_tally_box_ballot_put_b2 : XCode := (rs [o 58 (bl 57 56)] [2, 3, 5, 6, 11, 55, 56, 57, 58]
 (.seq (.cond (.s 58) .skip (.exit 4 [2, 3, 5, 11]))
 (.seq (.block 5 (rs [om 59 57, o 60 (ia 6 55 57), ol 61 6 60, o 13 (.alloc l3), om 12 59, p (t 6 13 61)] [2, 3, 5, 6, 11, 12, 13, 55, 56, 57]
 (.seq (ss [am 62 12, am 63 5, a 64 (q 62 63), am 65 64, bb 66 6 65, a 67 (ka 65 66)] [2, 3, 5, 6, 11, 12, 13, 55, 56, 57, 67]
 (.cond (.s 67) (rp (some [(2, 3)]) [ol 68 6 3, o 69 (.mkifc 218 (.s 68)), o 70 (.inv [(200, 196), (209, 201), (218, 205), (227, 209)] (.s 69) []), ol 71 6 13, o 72 (.mkifc 218 (.s 71)), o 73 (.inv [(200, 196), (209, 201), (218, 205), (227, 209)] (.s 72) []), o 74 (c 94 [70, 73]), om 14 74] [2, 3, 5, 6, 11, 13, 14, 55, 56, 57]
 (rs [om 75 14, o 76 (bgj 75 0), om 77 76, h 78 (m 14) 77, h 79 (qj 78 0) 77, h 80 (m 79) 77, g 81 (l 6 3) 80, g 82 (.mkifc 218 (.s 81)) 80, g 83 (l 6 13) 80, g 84 (.inv [(200, 195), (209, 200), (218, 204), (227, 208)] (.s 82) [(.s 83)]) 80, h 85 (ka 80 84) 77, o 86 (ko 77 85)] [2, 3, 5, 6, 11, 13, 55, 56, 57, 86]
 (.cond (.s 86) (.reg [ol 87 6 3, p (t 6 13 87)] none [2, 3, 5, 6, 11, 13, 55, 56, 57]) .skip))) (rs [om 88 12, om 89 5, o 90 (q 88 89)] [2, 3, 5, 6, 11, 13, 55, 56, 57, 90]
 (.cond (.s 90) (.reg [om 91 11, ol 92 6 3, o 93 (.mkifc 218 (.s 92)), o 94 (.inv [(200, 197), (209, 202), (218, 171), (227, 210)] (.s 93) []), o 95 (.bsl 218 6 false 1 l3 [(0, 6, (.s 94))]), o 96 (.app 218 6 64 false (.s 91) (.s 95)), om 11 96] none [2, 3, 5, 6, 11, 13, 55, 56, 57]) .skip))))
 (.reg [om 97 11, ol 98 6 13, o 99 (.mkifc 218 (.s 98)), o 100 (.inv [(200, 197), (209, 202), (218, 171), (227, 210)] (.s 99) []), o 101 (.bsl 218 6 false 1 l3 [(0, 6, (.s 100))]), o 102 (.app 218 6 64 false (.s 97) (.s 101)), om 11 102] none [2, 3, 5, 6, 11, 55, 56, 57]))))
 (.reg [o 103 (baj 57 1), om 57 103] none [2, 3, 5, 6, 11, 55, 56, 57]))))
def xf_tally_box_ballot_put : XFunc := ⟨none, true, 2, [.tmp 4], (rs [o 2 (bx 0), o 3 (bx 1), o 4 (.mv (.c (.nil 218 6 false)))] [2, 3]
 (rs [of 15 0 2, o 16 (k 15), o 17 (le 16), om 5 17, o 6 (.mv (.c w))] [2, 3, 5, 6]
 (.seq (rs [of 18 0 2, o 19 (k 18), o 20 (le 19), o 21 (.mv (j 0))] [2, 3, 5, 6, 19, 20, 21]
 (.block 0 (.loop xf_tally_box_ballot_put_k0 xf_tally_box_ballot_put_b0)))
 (.seq (rs [om 35 6, o 36 (nt 35)] [2, 3, 5, 6, 36]
 (.cond (.s 36) (rs [of 37 0 2, o 38 (k 37), o 39 (le 38), o 40 (.mv (j 0))] [2, 3, 5, 6, 38, 39, 40]
 (.block 2 (.loop xf_tally_box_ballot_put_k1 xf_tally_box_ballot_put_b1))) .skip))
 (rs [o 11 (.mv (.c (.nil 218 6 false)))] [2, 3, 5, 6, 11]
 (.seq (rs [of 54 0 2, o 55 (k 54), o 56 (le 55), o 57 (.mv (j 0))] [2, 3, 5, 6, 11, 55, 56, 57]
 (.block 4 (.loop xf_tally_box_ballot_put_k2 xf_tally_box_ballot_put_b2)))
 (.seq (rs [om 104 5, of 105 0 2, o 106 (k 105), o 107 (le 106), o 108 (q 104 107)] [3, 11, 108]
 (.cond (.s 108) (.reg [om 109 11, ol 110 6 3, o 111 (.mkifc 218 (.s 110)), o 112 (.inv [(200, 197), (209, 202), (218, 171), (227, 210)] (.s 111) []), o 113 (.bsl 218 6 false 1 l3 [(0, 6, (.s 112))]), o 114 (.app 218 6 64 false (.s 109) (.s 113)), om 11 114] none [11]) .skip))
 (rs [om 115 11, om 4 115] [4]
 (.ret [4])))))))))⟩

def xf_tally_ballot_fresh : XFunc := ⟨none, true, 1, [.cell 2 (some 6)], (rs [o 1 (bx 0), o 2 (.alloc l3)] [1, 2]
 (rs [of 3 5 1, o 4 (k 3), o 5 (.app 38 5 48 true (.c (.nil 38 5 true)) (.s 4)), of 6 5 1, p (t 1 6 5)] [1, 2]
 (rs [ol 7 6 1, p (t 6 2 7)] [2]
 (.ret [2]))))⟩

def xf_ref05_Entry : XFunc := ⟨none, true, 1, [.tmp 2], (rs [o 1 (bx 0), o 2 (.mv (j 0))] [1]
 (.seq (ss [a 3 (f 0 1), a 4 (k 3), a 5 (blj 4 0), am 6 5, d 7 (f 0 1) 6, d 8 (k 7) 6, d 9 (bhj 8 16) 6, a 10 (ko 6 9)] [1, 10]
 (.cond (.s 10) (rs [o 2 (.mv (j 62))] [2]
 (.ret [2])) .skip))
 (.seq (rs [of 11 1 1, o 12 (k 11), o 13 (blj 12 1)] [1, 13]
 (.cond (.s 13) (rs [o 2 (.mv (j 63))] [2]
 (.ret [2])) .skip))
 (rs [of 14 2 1, ol 15 3 14, o 16 (c 176 [15]), om 2 16] [2]
 (.ret [2])))))⟩

def xf_ref04_Replay_k0 : List (Nat × Option (Nat × Nat × Bool)) := [(0, none), (4, some (279, 2, true)), (5, some (40, 3, true)), (6, none)]
def xf_ref04_Replay_b0 : XCode := (.seq (rs [om 9 6, om 10 0, o 11 (le 10), o 12 (bl 9 11)] [0, 4, 5, 6, 12]
 (.cond (.s 12) .skip (.exit 0 [4, 5])))
 (.seq (.block 1 (rs [om 16 4, om 17 0, om 18 6, o 19 (ia 3 17 18), ol 20 3 19, o 21 (c 177 [16, 20]), om 15 21, o 22 (e 15 0), o 23 (e 15 1), o 8 (.alloc l9), om 7 22, p (t 3 8 23)] [0, 5, 6, 7, 8]
 (rs [om 24 7, om 4 24] [0, 4, 5, 6, 8]
 (.reg [om 25 5, ol 26 3 8, o 27 (.bsl 40 3 true 1 l9 [(0, 3, (.s 26))]), o 28 (.app 40 3 32 true (.s 25) (.s 27)), om 5 28] none [0, 4, 5, 6]))))
 (.reg [om 13 6, o 14 (baj 13 1), om 6 14] none [0, 4, 5, 6])))
def xf_ref04_Replay : XFunc := ⟨none, true, 1, [.tmp 2, .tmp 3], (rs [o 2 (.mv (.c (.nil 279 2 true))), o 3 (.mv (.c (.nil 40 3 true)))] [0]
 (rs [o 4 (.mv (.c (.nil 279 2 true)))] [0, 4]
 (rs [o 5 (.mv (.c (.nil 40 3 true)))] [0, 4, 5]
 (.seq (rs [o 6 (.mv (j 0))] [0, 4, 5, 6]
 (.block 0 (.loop xf_ref04_Replay_k0 xf_ref04_Replay_b0)))
 (rs [om 29 4, om 30 5, om 2 29, om 3 30] [2, 3]
 (.ret [2, 3]))))))⟩

def xf_ledger_Ledger_Would : XFunc := ⟨none, false, 2, [.cell 4 (some 3)], (rs [o 3 (bx 1), o 4 (.alloc l9)] [0, 3, 4]
 (.seq (ss [am 7 0, a 8 (.eqn false false (.s 7)), am 9 8, d 10 (l 3 3) 9, r 11 (c 127 [10]) 9, r 12 (nj 11 0) 9, a 13 (ko 9 12)] [0, 3, 4, 13]
 (.cond (.s 13) (rs [o 14 (.build l9 []), p (t 3 4 14)] [4]
 (.ret [4])) .skip))
 (rp (some [(3, 10), (5, 10), (6, 10)]) [om 16 0, o 17 (nc 16), of 18 0 17, o 19 (k 18), of 20 1 3, o 21 (k 20), o 22 (.mget true (.agg [(.str ⟨#[]⟩)]) (.s 19) (.s 21)), om 15 22, o 23 (e 15 0), o 24 (e 15 1), o 5 (.alloc [x]), p (t 1 5 23), om 6 24] [0, 3, 4, 5, 6]
 (.seq (rs [of 25 0 3, o 26 (k 25)] [0, 3, 4, 5, 6, 26]
 (.block 0 (rs [o 28 (qj 26 1), om 27 28] [0, 3, 4, 5, 6, 26, 27]
 (.cond (.s 27) (.seq (rs [om 29 6] [3, 4, 5, 29]
 (.cond (.s 29) (rs [of 30 1 3, o 31 (k 30), of 32 0 5, o 33 (k 32), o 34 (.build l9 [(0, 1, (j 2)), (1, 1, (.s 31)), (2, 1, (.s 33))]), p (t 3 4 34)] [4]
 (.ret [4])) .skip))
 (rs [of 35 1 3, o 36 (k 35), of 37 2 3, o 38 (k 37), o 39 (.build l9 [(0, 1, (j 1)), (1, 1, (.s 36)), (2, 1, (.s 38))]), p (t 3 4 39)] [4]
 (.ret [4]))) (rs [o 41 (qj 26 2), om 40 41] [0, 3, 4, 5, 6, 26, 40]
 (.cond (.s 40) (.seq (rs [om 42 0, o 43 (nc 42), of 44 1 43, o 45 (k 44), o 46 (qj 45 1024)] [0, 3, 4, 46]
 (.cond (.s 46) (rs [o 47 (.build l9 [(0, 1, (j 3))]), p (t 3 4 47)] [4]
 (.ret [4])) .skip))
 (rp (some []) [om 48 0, o 49 (nc 48), of 50 1 49, o 51 (k 50), of 52 2 3, o 53 (k 52), o 54 (.build l9 [(0, 1, (j 1)), (1, 1, (.s 51)), (2, 1, (.s 53))]), p (t 3 4 54)] [4]
 (.ret [4]))) (rs [o 56 (qj 26 3), om 55 56] [0, 3, 4, 5, 6, 55]
 (.cond (.s 55) (.seq (rs [om 57 6] [3, 4, 5, 57]
 (.cond (.s 57) (rs [of 58 1 3, o 59 (k 58), of 60 0 5, o 61 (k 60), o 62 (.build l9 [(0, 1, (j 4)), (1, 1, (.s 59)), (2, 1, (.s 61))]), p (t 3 4 62)] [4]
 (.ret [4])) .skip))
 (rs [of 63 1 3, o 64 (k 63), o 65 (.build l9 [(0, 1, (j 5)), (1, 1, (.s 64))]), p (t 3 4 65)] [4]
 (.ret [4]))) .skip))))))))
 (rs [om 66 0, o 67 (nc 66), of 68 0 67, o 69 (k 68), o 70 (.mlen (.s 69)), o 71 (.build l9 [(0, 1, (j 6)), (1, 1, (.s 70))]), p (t 3 4 71)] [4]
 (.ret [4]))))))⟩

def xf_ledger_Ledger_put : XFunc := ⟨none, false, 3, [], (.seq (rs [om 6 0, o 7 (nc 6), of 8 0 7, o 9 (k 8), o 10 (.eqm false (.s 9))] [0, 1, 2, 10]
 (.cond (.s 10) (.reg [om 11 0, o 12 .mkmap, o 13 (nc 11), of 14 0 13, p (t 1 14 12)] none [0, 1, 2]) .skip))
 (rs [om 15 0, o 16 (nc 15), of 17 0 16, o 18 (k 17), om 19 1, om 20 2, o 21 (.build [x] [(0, 1, (.s 20))]), p (.mput (.s 18) (.s 19) (.s 21))] [0, 1]
 (.reg [om 22 0, om 23 0, o 24 (nc 23), of 25 1 24, o 26 (k 25), om 27 1, o 28 (baj 27 1), o 29 (.mm true (.s 26) (.s 28)), o 30 (nc 22), of 31 1 30, p (t 1 31 29)] none [])))⟩

def xf_ref04_Check : XFunc := ⟨none, true, 1, [.tmp 2], (rs [o 1 (bx 0), o 2 (.mv (j 0))] [1]
 (rs [of 7 0 1, o 8 (k 7), o 9 (qj 8 1), om 3 9] [1, 3]
 (rs [of 10 0 1, o 11 (k 10), o 12 (qj 11 2), om 4 12] [1, 3, 4]
 (rs [of 13 0 1, o 14 (k 13), o 15 (qj 14 3), om 5 15] [1, 3, 4, 5]
 (rs [of 16 0 1, o 17 (k 16), o 18 (qj 17 4), om 6 18] [1, 3, 4, 5, 6]
 (.seq (ss [am 19 3, a 20 (nt 19), am 21 20, bb 22 4 21, b 23 (nt 22) 21, a 24 (ka 21 23), am 25 24, bb 26 5 25, b 27 (nt 26) 25, a 28 (ka 25 27), am 29 28, bb 30 6 29, b 31 (nt 30) 29, a 32 (ka 29 31)] [1, 3, 4, 5, 6, 32]
 (.cond (.s 32) (rs [o 2 (.mv (j 40))] [2]
 (.ret [2])) .skip))
 (.seq (ss [am 33 3, am 34 33, d 35 (m 5) 34, a 36 (ko 34 35), am 37 36, b 38 (f 1 1) 37, b 39 (k 38) 37, b 40 (blj 39 0) 37, bb 41 40 37, d 42 (f 1 1) 41, d 43 (k 42) 41, d 44 (bhj 43 1024) 41, b 45 (ko 41 44) 37, a 46 (ka 37 45), am 47 46, d 48 (m 4) 47, d 49 (m 48) 47, d 50 (m 6) 49, d 51 (ko 49 50) 47, d 52 (m 51) 47, b 53 (f 1 1) 52, b 54 (k 53) 52, b 55 (nj 54 0) 52, d 56 (ka 52 55) 47, a 57 (ko 47 56)] [1, 3, 4, 5, 6, 57]
 (.cond (.s 57) (rs [o 2 (.mv (j 41))] [2]
 (.ret [2])) .skip))
 (.seq (ss [am 58 3, am 59 58, d 60 (m 4) 59, a 61 (ko 59 60), am 62 61, b 63 (f 2 1) 62, b 64 (k 63) 62, b 65 (.len true (.s 64)) 62, b 66 (bgj 65 64) 62, a 67 (ka 62 66), am 68 67, d 69 (m 5) 68, d 70 (m 69) 68, d 71 (m 6) 70, d 72 (ko 70 71) 68, d 73 (m 72) 68, b 74 (f 2 1) 73, b 75 (k 74) 73, b 76 (.eqv true false [.s] (.s 75) (.c x)) 73, d 77 (ka 73 76) 68, a 78 (ko 68 77)] [78]
 (.cond (.s 78) (rs [o 2 (.mv (j 42))] [2]
 (.ret [2])) .skip))
 (rs [o 2 (.mv (j 0))] [2]
 (.ret [2]))))))))))⟩
theorem r_plain_CopyMsg : progT Tryz.prog 111 = some xf_plain_CopyMsg.plain := by kernel_rfl
theorem r_core_voters : progT Tryz.prog 112 = some xf_core_voters.plain := by kernel_rfl
theorem r_client_check : progT Tryz.prog 119 = some xf_client_check.plain := by kernel_rfl
theorem r_client_rows : progT Tryz.prog 120 = some xf_client_rows.plain := by kernel_rfl
theorem r_ref09_logged : progT Tryz.prog 121 = some xf_ref09_logged.plain := by kernel_rfl
theorem r_ref09_votes : progT Tryz.prog 122 = some xf_ref09_votes.plain := by kernel_rfl
theorem r_ref09_recovering : progT Tryz.prog 123 = some xf_ref09_recovering.plain := by kernel_rfl
theorem r_core_out : progT Tryz.prog 124 = some xf_core_out.plain := by kernel_rfl
theorem r_core_One : progT Tryz.prog 125 = some xf_core_One.plain := by kernel_rfl
theorem r_message_short : progT Tryz.prog 126 = some xf_message_short.plain := by kernel_rfl
theorem r_ledger_Check : progT Tryz.prog 127 = some xf_ledger_Check.plain := by kernel_rfl
theorem r_oplog_Each : progT Tryz.prog 128 = some xf_oplog_Each.plain := by kernel_rfl
theorem r_oplog_fits : progT Tryz.prog 129 = some xf_oplog_fits.plain := by kernel_rfl
theorem r_vector_speaks : progT Tryz.prog 130 = some xf_vector_speaks.plain := by kernel_rfl
theorem r_vector_fits : progT Tryz.prog 131 = some xf_vector_fits.plain := by kernel_rfl
theorem r_tally_turned_ack_Ack : progT Tryz.prog 132 = some xf_tally_turned_ack_Ack.plain := by kernel_rfl
theorem r_tally_turned_Ack_ack : progT Tryz.prog 133 = some xf_tally_turned_Ack_ack.plain := by kernel_rfl
theorem r_tally_toAck : progT Tryz.prog 134 = some xf_tally_toAck.plain := by kernel_rfl
theorem r_tally_box_ack_prune : progT Tryz.prog 135 = some xf_tally_box_ack_prune.plain := by kernel_rfl
theorem r_tally_fromAck : progT Tryz.prog 136 = some xf_tally_fromAck.plain := by kernel_rfl
theorem r_tally_turned_mark_Mark : progT Tryz.prog 137 = some xf_tally_turned_mark_Mark.plain := by kernel_rfl
theorem r_tally_turned_Mark_mark : progT Tryz.prog 138 = some xf_tally_turned_Mark_mark.plain := by kernel_rfl
theorem r_tally_toMark : progT Tryz.prog 139 = some xf_tally_toMark.plain := by kernel_rfl
theorem r_tally_box_mark_prune : progT Tryz.prog 140 = some xf_tally_box_mark_prune.plain := by kernel_rfl
theorem r_tally_fromMark : progT Tryz.prog 141 = some xf_tally_fromMark.plain := by kernel_rfl
theorem r_tally_turned_ballot_Ballot : progT Tryz.prog 142 = some xf_tally_turned_ballot_Ballot.plain := by kernel_rfl
theorem r_tally_turned_Ballot_ballot : progT Tryz.prog 143 = some xf_tally_turned_Ballot_ballot.plain := by kernel_rfl
theorem r_tally_toBallot : progT Tryz.prog 144 = some xf_tally_toBallot.plain := by kernel_rfl
theorem r_tally_box_ballot_prune : progT Tryz.prog 145 = some xf_tally_box_ballot_prune.plain := by kernel_rfl
theorem r_tally_fromBallot : progT Tryz.prog 146 = some xf_tally_fromBallot.plain := by kernel_rfl
theorem r_tally_turned_answer_Answer : progT Tryz.prog 147 = some xf_tally_turned_answer_Answer.plain := by kernel_rfl
theorem r_tally_turned_Answer_answer : progT Tryz.prog 148 = some xf_tally_turned_Answer_answer.plain := by kernel_rfl
theorem r_tally_toAnswer : progT Tryz.prog 149 = some xf_tally_toAnswer.plain := by kernel_rfl
theorem r_tally_box_answer_prune : progT Tryz.prog 150 = some xf_tally_box_answer_prune.plain := by kernel_rfl
theorem r_tally_fromAnswer : progT Tryz.prog 151 = some xf_tally_fromAnswer.plain := by kernel_rfl
theorem r_change_step_later : progT Tryz.prog 152 = some xf_change_step_later.plain := by kernel_rfl
theorem r_tally_PutMark : progT Tryz.prog 153 = some xf_tally_PutMark.plain := by kernel_rfl
theorem r_tally_PutBallot : progT Tryz.prog 154 = some xf_tally_PutBallot.plain := by kernel_rfl
theorem r_tally_Choose : progT Tryz.prog 155 = some xf_tally_Choose.plain := by kernel_rfl
theorem r_change_step_lead : progT Tryz.prog 156 = some xf_change_step_lead.plain := by kernel_rfl
theorem r_ref05_Log : progT Tryz.prog 157 = some xf_ref05_Log.plain := by kernel_rfl
theorem r_ref07_entry : progT Tryz.prog 158 = some xf_ref07_entry.plain := by kernel_rfl
theorem r_ref07_result : progT Tryz.prog 159 = some xf_ref07_result.plain := by kernel_rfl
theorem r_ref02_Compare : progT Tryz.prog 160 = some xf_ref02_Compare.plain := by kernel_rfl
theorem r_ref05_results : progT Tryz.prog 161 = some xf_ref05_results.plain := by kernel_rfl
theorem r_ref05_row : progT Tryz.prog 162 = some xf_ref05_row.plain := by kernel_rfl
theorem r_client_entry : progT Tryz.prog 163 = some xf_client_entry.plain := by kernel_rfl
theorem r_ledger_New : progT Tryz.prog 164 = some xf_ledger_New.plain := by kernel_rfl
theorem r_ledger_Ledger_Do : progT Tryz.prog 165 = some xf_ledger_Ledger_Do.plain := by kernel_rfl
theorem r_ref09_voters : progT Tryz.prog 166 = some xf_ref09_voters.plain := by kernel_rfl
theorem r_oplog_joined : progT Tryz.prog 167 = some xf_oplog_joined.plain := by kernel_rfl
theorem r_oplog_Each_1 : progT Tryz.prog 168 = some xf_oplog_Each_1.plain := by kernel_rfl
theorem r_tally_box_mark_put : progT Tryz.prog 169 = some xf_tally_box_mark_put.plain := by kernel_rfl
theorem r_tally_box_ballot_put : progT Tryz.prog 170 = some xf_tally_box_ballot_put.plain := by kernel_rfl
theorem r_tally_ballot_fresh : progT Tryz.prog 171 = some xf_tally_ballot_fresh.plain := by kernel_rfl
theorem r_ref05_Entry : progT Tryz.prog 172 = some xf_ref05_Entry.plain := by kernel_rfl
theorem r_ref04_Replay : progT Tryz.prog 173 = some xf_ref04_Replay.plain := by kernel_rfl
theorem r_ledger_Ledger_Would : progT Tryz.prog 174 = some xf_ledger_Ledger_Would.plain := by kernel_rfl
theorem r_ledger_Ledger_put : progT Tryz.prog 175 = some xf_ledger_Ledger_put.plain := by kernel_rfl
theorem r_ref04_Check : progT Tryz.prog 176 = some xf_ref04_Check.plain := by kernel_rfl

end Go.Ax
