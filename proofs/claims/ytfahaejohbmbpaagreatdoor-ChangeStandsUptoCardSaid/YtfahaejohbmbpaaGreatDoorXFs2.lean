/-
  The functions of this seat as resolved code, and that the program resolves to them (part 3).
-/
import Derived.Test.YtfahaejohbmbpaaGreatDoorXComp
import Derived.Test.YtfahaejohbmbpaaGreatDoorXFn
import Derived.Test.YtfahaejohbmbpaaGreatDoorXG
import Derived.Test.YtfahaejohbmbpaaGreatDoorXP
import Derived.Test.YtfahaejohbmbpaaGreatDoorProg
import Derived.KernelRfl
namespace Go.Ax
set_option linter.all false
open Go.Proofs P

def xf_ref05_Entry : XFunc := ⟨none, true, 1, [.tmp 2], (rs [o 1 (bx 0), o 2 (.mv (j 0))] [1]
 (.seq (ss [a 3 (f 0 1), a 4 (k 3), a 5 (blj 4 0), am 6 5, d 7 (f 0 1) 6, d 8 (k 7) 6, d 9 (bhj 8 16) 6, a 10 (ko 6 9)] [1, 10]
 (.cond (.s 10) (rs [o 2 (.mv (j 62))] [2]
 (.ret [2])) .skip))
 (.seq (rs [of 11 1 1, o 12 (k 11), o 13 (blj 12 1)] [1, 13]
 (.cond (.s 13) (rs [o 2 (.mv (j 63))] [2]
 (.ret [2])) .skip))
 (rs [of 14 2 1, ol 15 3 14, o 16 (c 134 [15]), om 2 16] [2]
 (.ret [2])))))⟩

def xf_tally_box_mark_put_k0 : List (Nat × Option (Nat × Nat × Bool)) := [(2, none), (3, none), (5, none), (6, none), (19, some (167, 3, true)), (20, none), (21, none)]
def xf_tally_box_mark_put_b0 : XCode := (rs [o 22 (bl 21 20)] [2, 3, 5, 6, 19, 20, 21, 22]
 (.seq (.cond (.s 22) .skip (.exit 0 [2, 3, 5, 6]))
 (.seq (.block 1 (rs [om 23 21, o 24 (ia 3 19 21), ol 25 3 24, o 8 (.alloc l7), om 7 23, p (t 3 8 25)] [2, 3, 5, 6, 7, 8, 19, 20, 21]
 (rp (some [(2, 3)]) [ol 26 3 8, o 27 (.mkifc 167 (.s 26)), o 28 (.inv [(158, 153), (167, 158), (176, 161), (185, 166)] (.s 27) []), ol 29 3 3, o 30 (.mkifc 167 (.s 29)), o 31 (.inv [(158, 153), (167, 158), (176, 161), (185, 166)] (.s 30) []), o 32 (q 28 31)] [2, 3, 5, 6, 7, 19, 20, 21, 32]
 (.cond (.s 32) (rs [om 33 7, om 5 33, o 6 (.mv (.c v))] [2, 3, 5, 6]
 (.exit 0 [2, 3, 5, 6])) .skip))))
 (.reg [o 34 (baj 21 1), om 21 34] none [2, 3, 5, 6, 19, 20, 21]))))
def xf_tally_box_mark_put_k1 : List (Nat × Option (Nat × Nat × Bool)) := [(2, none), (3, none), (5, none), (6, none), (38, some (167, 3, true)), (39, none), (40, none)]
def xf_tally_box_mark_put_b1 : XCode := (rs [o 41 (bl 40 39)] [2, 3, 5, 6, 38, 39, 40, 41]
 (.seq (.cond (.s 41) .skip (.exit 2 [2, 3, 5, 6]))
 (.seq (.block 3 (rs [om 42 40, o 43 (ia 3 38 40), ol 44 3 43, o 10 (.alloc l7), om 9 42, p (t 3 10 44)] [2, 3, 5, 6, 9, 10, 38, 39, 40]
 (rp (some [(2, 3)]) [ol 45 3 10, o 46 (.mkifc 167 (.s 45)), o 47 (.inv [(158, 153), (167, 158), (176, 161), (185, 166)] (.s 46) []), ol 48 3 3, o 49 (.mkifc 167 (.s 48)), o 50 (.inv [(158, 153), (167, 158), (176, 161), (185, 166)] (.s 49) []), o 51 (bg 47 50)] [2, 3, 5, 6, 9, 38, 39, 40, 51]
 (.cond (.s 51) (rs [om 52 9, om 5 52] [2, 3, 5, 6]
 (.exit 2 [2, 3, 5, 6])) .skip))))
 (.reg [o 53 (baj 40 1), om 40 53] none [2, 3, 5, 6, 38, 39, 40]))))
def xf_tally_box_mark_put_k2 : List (Nat × Option (Nat × Nat × Bool)) := [(2, none), (3, none), (5, none), (6, none), (11, some (167, 3, true)), (55, some (167, 3, true)), (56, none), (57, none)]
def xf_tally_box_mark_put_b2 : XCode := (rs [o 58 (bl 57 56)] [2, 3, 5, 6, 11, 55, 56, 57, 58]
 (.seq (.cond (.s 58) .skip (.exit 4 [2, 3, 5, 11]))
 (.seq (.block 5 (rs [om 59 57, o 60 (ia 3 55 57), ol 61 3 60, o 13 (.alloc l7), om 12 59, p (t 3 13 61)] [2, 3, 5, 6, 11, 12, 13, 55, 56, 57]
 (.seq (ss [am 62 12, am 63 5, a 64 (q 62 63), am 65 64, bb 66 6 65, a 67 (ka 65 66)] [2, 3, 5, 6, 11, 12, 13, 55, 56, 57, 67]
 (.cond (.s 67) (rp (some [(2, 3)]) [ol 68 3 3, o 69 (.mkifc 167 (.s 68)), o 70 (.inv [(158, 151), (167, 156), (176, 160), (185, 164)] (.s 69) []), ol 71 3 13, o 72 (.mkifc 167 (.s 71)), o 73 (.inv [(158, 151), (167, 156), (176, 160), (185, 164)] (.s 72) []), o 74 (c 42 [70, 73]), om 14 74] [2, 3, 5, 6, 11, 13, 14, 55, 56, 57]
 (rs [om 75 14, o 76 (bgj 75 0), om 77 76, h 78 (m 14) 77, h 79 (qj 78 0) 77, h 80 (m 79) 77, g 81 (l 3 3) 80, g 82 (.mkifc 167 (.s 81)) 80, g 83 (l 3 13) 80, g 84 (.inv [(158, 150), (167, 155), (176, 159), (185, 163)] (.s 82) [(.s 83)]) 80, h 85 (ka 80 84) 77, o 86 (ko 77 85)] [2, 3, 5, 6, 11, 13, 55, 56, 57, 86]
 (.cond (.s 86) (.reg [ol 87 3 3, p (t 3 13 87)] none [2, 3, 5, 6, 11, 13, 55, 56, 57]) .skip))) (rs [om 88 12, om 89 5, o 90 (q 88 89)] [2, 3, 5, 6, 11, 13, 55, 56, 57, 90]
 (.cond (.s 90) (.reg [om 91 11, ol 92 3 3, o 93 (.mkifc 167 (.s 92)), o 94 (.inv [(158, 152), (167, 157), (176, 130), (185, 165)] (.s 93) []), o 95 (.bsl 167 3 true 1 l7 [(0, 3, (.s 94))]), o 96 (.app 167 3 24 true (.s 91) (.s 95)), om 11 96] none [2, 3, 5, 6, 11, 13, 55, 56, 57]) .skip))))
 (.reg [om 97 11, ol 98 3 13, o 99 (.mkifc 167 (.s 98)), o 100 (.inv [(158, 152), (167, 157), (176, 130), (185, 165)] (.s 99) []), o 101 (.bsl 167 3 true 1 l7 [(0, 3, (.s 100))]), o 102 (.app 167 3 24 true (.s 97) (.s 101)), om 11 102] none [2, 3, 5, 6, 11, 55, 56, 57]))))
 (.reg [o 103 (baj 57 1), om 57 103] none [2, 3, 5, 6, 11, 55, 56, 57]))))
def xf_tally_box_mark_put : XFunc := ⟨none, true, 2, [.tmp 4], (rs [o 2 (bx 0), o 3 (bx 1), o 4 (.mv (.c (.nil 167 3 true)))] [2, 3]
 (rs [of 15 0 2, o 16 (k 15), o 17 (le 16), om 5 17, o 6 (.mv (.c w))] [2, 3, 5, 6]
 (.seq (rs [of 18 0 2, o 19 (k 18), o 20 (le 19), o 21 (.mv (j 0))] [2, 3, 5, 6, 19, 20, 21]
 (.block 0 (.loop xf_tally_box_mark_put_k0 xf_tally_box_mark_put_b0)))
 (.seq (rs [om 35 6, o 36 (nt 35)] [2, 3, 5, 6, 36]
 (.cond (.s 36) (rs [of 37 0 2, o 38 (k 37), o 39 (le 38), o 40 (.mv (j 0))] [2, 3, 5, 6, 38, 39, 40]
 (.block 2 (.loop xf_tally_box_mark_put_k1 xf_tally_box_mark_put_b1))) .skip))
 (rs [o 11 (.mv (.c (.nil 167 3 true)))] [2, 3, 5, 6, 11]
 (.seq (rs [of 54 0 2, o 55 (k 54), o 56 (le 55), o 57 (.mv (j 0))] [2, 3, 5, 6, 11, 55, 56, 57]
 (.block 4 (.loop xf_tally_box_mark_put_k2 xf_tally_box_mark_put_b2)))
 (.seq (rs [om 104 5, of 105 0 2, o 106 (k 105), o 107 (le 106), o 108 (q 104 107)] [3, 11, 108]
 (.cond (.s 108) (.reg [om 109 11, ol 110 3 3, o 111 (.mkifc 167 (.s 110)), o 112 (.inv [(158, 152), (167, 157), (176, 130), (185, 165)] (.s 111) []), o 113 (.bsl 167 3 true 1 l7 [(0, 3, (.s 112))]), o 114 (.app 167 3 24 true (.s 109) (.s 113)), om 11 114] none [11]) .skip))
 (rs [om 115 11, om 4 115] [4]
 (.ret [4])))))))))⟩

def xf_tally_box_ballot_put_k0 : List (Nat × Option (Nat × Nat × Bool)) := [(2, none), (3, none), (5, none), (6, none), (19, some (176, 6, false)), (20, none), (21, none)]
def xf_tally_box_ballot_put_b0 : XCode := (rs [o 22 (bl 21 20)] [2, 3, 5, 6, 19, 20, 21, 22]
 (.seq (.cond (.s 22) .skip (.exit 0 [2, 3, 5, 6]))
 (.seq (.block 1 (rs [om 23 21, o 24 (ia 6 19 21), ol 25 6 24, o 8 (.alloc l2), om 7 23, p (t 6 8 25)] [2, 3, 5, 6, 7, 8, 19, 20, 21]
 (rp (some [(2, 3)]) [ol 26 6 8, o 27 (.mkifc 176 (.s 26)), o 28 (.inv [(158, 153), (167, 158), (176, 161), (185, 166)] (.s 27) []), ol 29 6 3, o 30 (.mkifc 176 (.s 29)), o 31 (.inv [(158, 153), (167, 158), (176, 161), (185, 166)] (.s 30) []), o 32 (q 28 31)] [2, 3, 5, 6, 7, 19, 20, 21, 32]
 (.cond (.s 32) (rs [om 33 7, om 5 33, o 6 (.mv (.c v))] [2, 3, 5, 6]
 (.exit 0 [2, 3, 5, 6])) .skip))))
 (.reg [o 34 (baj 21 1), om 21 34] none [2, 3, 5, 6, 19, 20, 21]))))
def xf_tally_box_ballot_put_k1 : List (Nat × Option (Nat × Nat × Bool)) := [(2, none), (3, none), (5, none), (6, none), (38, some (176, 6, false)), (39, none), (40, none)]
def xf_tally_box_ballot_put_b1 : XCode := (rs [o 41 (bl 40 39)] [2, 3, 5, 6, 38, 39, 40, 41]
 (.seq (.cond (.s 41) .skip (.exit 2 [2, 3, 5, 6]))
 (.seq (.block 3 (rs [om 42 40, o 43 (ia 6 38 40), ol 44 6 43, o 10 (.alloc l2), om 9 42, p (t 6 10 44)] [2, 3, 5, 6, 9, 10, 38, 39, 40]
 (rp (some [(2, 3)]) [ol 45 6 10, o 46 (.mkifc 176 (.s 45)), o 47 (.inv [(158, 153), (167, 158), (176, 161), (185, 166)] (.s 46) []), ol 48 6 3, o 49 (.mkifc 176 (.s 48)), o 50 (.inv [(158, 153), (167, 158), (176, 161), (185, 166)] (.s 49) []), o 51 (bg 47 50)] [2, 3, 5, 6, 9, 38, 39, 40, 51]
 (.cond (.s 51) (rs [om 52 9, om 5 52] [2, 3, 5, 6]
 (.exit 2 [2, 3, 5, 6])) .skip))))
 (.reg [o 53 (baj 40 1), om 40 53] none [2, 3, 5, 6, 38, 39, 40]))))
def xf_tally_box_ballot_put_k2 : List (Nat × Option (Nat × Nat × Bool)) := [(2, none), (3, none), (5, none), (6, none), (11, some (176, 6, false)), (55, some (176, 6, false)), (56, none), (57, none)]
def xf_tally_box_ballot_put_b2 : XCode := (rs [o 58 (bl 57 56)] [2, 3, 5, 6, 11, 55, 56, 57, 58]
 (.seq (.cond (.s 58) .skip (.exit 4 [2, 3, 5, 11]))
 (.seq (.block 5 (rs [om 59 57, o 60 (ia 6 55 57), ol 61 6 60, o 13 (.alloc l2), om 12 59, p (t 6 13 61)] [2, 3, 5, 6, 11, 12, 13, 55, 56, 57]
 (.seq (ss [am 62 12, am 63 5, a 64 (q 62 63), am 65 64, bb 66 6 65, a 67 (ka 65 66)] [2, 3, 5, 6, 11, 12, 13, 55, 56, 57, 67]
 (.cond (.s 67) (rp (some [(2, 3)]) [ol 68 6 3, o 69 (.mkifc 176 (.s 68)), o 70 (.inv [(158, 151), (167, 156), (176, 160), (185, 164)] (.s 69) []), ol 71 6 13, o 72 (.mkifc 176 (.s 71)), o 73 (.inv [(158, 151), (167, 156), (176, 160), (185, 164)] (.s 72) []), o 74 (c 42 [70, 73]), om 14 74] [2, 3, 5, 6, 11, 13, 14, 55, 56, 57]
 (rs [om 75 14, o 76 (bgj 75 0), om 77 76, h 78 (m 14) 77, h 79 (qj 78 0) 77, h 80 (m 79) 77, g 81 (l 6 3) 80, g 82 (.mkifc 176 (.s 81)) 80, g 83 (l 6 13) 80, g 84 (.inv [(158, 150), (167, 155), (176, 159), (185, 163)] (.s 82) [(.s 83)]) 80, h 85 (ka 80 84) 77, o 86 (ko 77 85)] [2, 3, 5, 6, 11, 13, 55, 56, 57, 86]
 (.cond (.s 86) (.reg [ol 87 6 3, p (t 6 13 87)] none [2, 3, 5, 6, 11, 13, 55, 56, 57]) .skip))) (rs [om 88 12, om 89 5, o 90 (q 88 89)] [2, 3, 5, 6, 11, 13, 55, 56, 57, 90]
 (.cond (.s 90) (.reg [om 91 11, ol 92 6 3, o 93 (.mkifc 176 (.s 92)), o 94 (.inv [(158, 152), (167, 157), (176, 130), (185, 165)] (.s 93) []), o 95 (.bsl 176 6 false 1 l2 [(0, 6, (.s 94))]), o 96 (.app 176 6 64 false (.s 91) (.s 95)), om 11 96] none [2, 3, 5, 6, 11, 13, 55, 56, 57]) .skip))))
 (.reg [om 97 11, ol 98 6 13, o 99 (.mkifc 176 (.s 98)), o 100 (.inv [(158, 152), (167, 157), (176, 130), (185, 165)] (.s 99) []), o 101 (.bsl 176 6 false 1 l2 [(0, 6, (.s 100))]), o 102 (.app 176 6 64 false (.s 97) (.s 101)), om 11 102] none [2, 3, 5, 6, 11, 55, 56, 57]))))
 (.reg [o 103 (baj 57 1), om 57 103] none [2, 3, 5, 6, 11, 55, 56, 57]))))
def xf_tally_box_ballot_put : XFunc := ⟨none, true, 2, [.tmp 4], (rs [o 2 (bx 0), o 3 (bx 1), o 4 (.mv (.c (.nil 176 6 false)))] [2, 3]
 (rs [of 15 0 2, o 16 (k 15), o 17 (le 16), om 5 17, o 6 (.mv (.c w))] [2, 3, 5, 6]
 (.seq (rs [of 18 0 2, o 19 (k 18), o 20 (le 19), o 21 (.mv (j 0))] [2, 3, 5, 6, 19, 20, 21]
 (.block 0 (.loop xf_tally_box_ballot_put_k0 xf_tally_box_ballot_put_b0)))
 (.seq (rs [om 35 6, o 36 (nt 35)] [2, 3, 5, 6, 36]
 (.cond (.s 36) (rs [of 37 0 2, o 38 (k 37), o 39 (le 38), o 40 (.mv (j 0))] [2, 3, 5, 6, 38, 39, 40]
 (.block 2 (.loop xf_tally_box_ballot_put_k1 xf_tally_box_ballot_put_b1))) .skip))
 (rs [o 11 (.mv (.c (.nil 176 6 false)))] [2, 3, 5, 6, 11]
 (.seq (rs [of 54 0 2, o 55 (k 54), o 56 (le 55), o 57 (.mv (j 0))] [2, 3, 5, 6, 11, 55, 56, 57]
 (.block 4 (.loop xf_tally_box_ballot_put_k2 xf_tally_box_ballot_put_b2)))
 (.seq (rs [om 104 5, of 105 0 2, o 106 (k 105), o 107 (le 106), o 108 (q 104 107)] [3, 11, 108]
 (.cond (.s 108) (.reg [om 109 11, ol 110 6 3, o 111 (.mkifc 176 (.s 110)), o 112 (.inv [(158, 152), (167, 157), (176, 130), (185, 165)] (.s 111) []), o 113 (.bsl 176 6 false 1 l2 [(0, 6, (.s 112))]), o 114 (.app 176 6 64 false (.s 109) (.s 113)), om 11 114] none [11]) .skip))
 (rs [om 115 11, om 4 115] [4]
 (.ret [4])))))))))⟩

def xf_tally_ballot_fresh : XFunc := ⟨none, true, 1, [.cell 2 (some 6)], (rs [o 1 (bx 0), o 2 (.alloc l2)] [1, 2]
 (rs [of 3 5 1, o 4 (k 3), o 5 (.app 38 5 48 true (.c (.nil 38 5 true)) (.s 4)), of 6 5 1, p (t 1 6 5)] [1, 2]
 (rs [ol 7 6 1, p (t 6 2 7)] [2]
 (.ret [2]))))⟩

def xf_core_One : XFunc := ⟨none, true, 4, [.cell 8 (some 19), .tmp 9], (rs [o 4 (bx 0), o 5 (bx 1), o 7 (bx 3), o 8 (.alloc l3), o 9 (.mv (j 0))] [2, 4, 5, 7, 8]
 (.seq (rs [ol 12 4 4, ol 13 12 5, o 14 (c 14 [12, 13]), om 10 14] [2, 4, 5, 7, 8, 10]
 (rs [om 15 10, o 16 (nj 15 0)] [2, 4, 5, 7, 8, 10, 16]
 (.cond (.s 16) (rs [o 17 (.build l3 []), om 18 10, p (t 19 8 17), om 9 18] [8, 9]
 (.ret [8, 9])) .skip)))
 (ss [am 19 2, a 20 (bhj 19 0), am 21 20, bb 22 2 21, b 23 (l 4 4) 21, u 24 (c 24 [23]) 21, u 25 (bl 22 24) 21, a 26 (ka 21 25), am 27 26, bb 28 2 27, b 29 (f 0 5) 27, b 30 (k 29) 27, b 31 (n 28 30) 27, a 32 (ka 27 31), am 11 32] [2, 5, 7, 8, 11]
 (.seq (ss [am 33 11, a 34 (nt 33), am 35 34, bb 36 2 35, b 37 (blj 36 7) 35, bb 38 37 35, d 39 (m 2) 38, d 40 (bhj 39 23) 38, b 41 (ko 38 40) 35, a 42 (ka 35 41)] [2, 5, 7, 8, 42]
 (.cond (.s 42) (rs [o 43 (.build l3 []), p (t 19 8 43), o 9 (.mv (j 3))] [8, 9]
 (.ret [8, 9])) .skip))
 (rs [ol 44 12 5, om 45 2, ol 46 18 7, o 47 (c 126 [44, 45, 46]), p (t 19 8 47), o 9 (.mv (j 0))] [8, 9]
 (.ret [8, 9]))))))⟩

def xf_ledger_Ledger_Would : XFunc := ⟨none, false, 2, [.cell 4 (some 3)], (rs [o 3 (bx 1), o 4 (.alloc l10)] [0, 3, 4]
 (.seq (ss [am 7 0, a 8 (.eqn false false (.s 7)), am 9 8, d 10 (l 3 3) 9, r 11 (c 89 [10]) 9, r 12 (nj 11 0) 9, a 13 (ko 9 12)] [0, 3, 4, 13]
 (.cond (.s 13) (rs [o 14 (.build l10 []), p (t 3 4 14)] [4]
 (.ret [4])) .skip))
 (rp (some [(3, 10), (5, 10), (6, 10)]) [om 16 0, o 17 (nc 16), of 18 0 17, o 19 (k 18), of 20 1 3, o 21 (k 20), o 22 (.mget true (.agg [(.str ⟨#[]⟩)]) (.s 19) (.s 21)), om 15 22, o 23 (e 15 0), o 24 (e 15 1), o 5 (.alloc [x]), p (t 1 5 23), om 6 24] [0, 3, 4, 5, 6]
 (.seq (rs [of 25 0 3, o 26 (k 25)] [0, 3, 4, 5, 6, 26]
 (.block 0 (rs [o 28 (qj 26 1), om 27 28] [0, 3, 4, 5, 6, 26, 27]
 (.cond (.s 27) (.seq (rs [om 29 6] [3, 4, 5, 29]
 (.cond (.s 29) (rs [of 30 1 3, o 31 (k 30), of 32 0 5, o 33 (k 32), o 34 (.build l10 [(0, 1, (j 2)), (1, 1, (.s 31)), (2, 1, (.s 33))]), p (t 3 4 34)] [4]
 (.ret [4])) .skip))
 (rs [of 35 1 3, o 36 (k 35), of 37 2 3, o 38 (k 37), o 39 (.build l10 [(0, 1, (j 1)), (1, 1, (.s 36)), (2, 1, (.s 38))]), p (t 3 4 39)] [4]
 (.ret [4]))) (rs [o 41 (qj 26 2), om 40 41] [0, 3, 4, 5, 6, 26, 40]
 (.cond (.s 40) (.seq (rs [om 42 0, o 43 (nc 42), of 44 1 43, o 45 (k 44), o 46 (qj 45 1024)] [0, 3, 4, 46]
 (.cond (.s 46) (rs [o 47 (.build l10 [(0, 1, (j 3))]), p (t 3 4 47)] [4]
 (.ret [4])) .skip))
 (rp (some []) [om 48 0, o 49 (nc 48), of 50 1 49, o 51 (k 50), of 52 2 3, o 53 (k 52), o 54 (.build l10 [(0, 1, (j 1)), (1, 1, (.s 51)), (2, 1, (.s 53))]), p (t 3 4 54)] [4]
 (.ret [4]))) (rs [o 56 (qj 26 3), om 55 56] [0, 3, 4, 5, 6, 55]
 (.cond (.s 55) (.seq (rs [om 57 6] [3, 4, 5, 57]
 (.cond (.s 57) (rs [of 58 1 3, o 59 (k 58), of 60 0 5, o 61 (k 60), o 62 (.build l10 [(0, 1, (j 4)), (1, 1, (.s 59)), (2, 1, (.s 61))]), p (t 3 4 62)] [4]
 (.ret [4])) .skip))
 (rs [of 63 1 3, o 64 (k 63), o 65 (.build l10 [(0, 1, (j 5)), (1, 1, (.s 64))]), p (t 3 4 65)] [4]
 (.ret [4]))) .skip))))))))
 (rs [om 66 0, o 67 (nc 66), of 68 0 67, o 69 (k 68), o 70 (.mlen (.s 69)), o 71 (.build l10 [(0, 1, (j 6)), (1, 1, (.s 70))]), p (t 3 4 71)] [4]
 (.ret [4]))))))⟩

def xf_ledger_Ledger_put : XFunc := ⟨none, false, 3, [], (.seq (rs [om 6 0, o 7 (nc 6), of 8 0 7, o 9 (k 8), o 10 (.eqm false (.s 9))] [0, 1, 2, 10]
 (.cond (.s 10) (.reg [om 11 0, o 12 .mkmap, o 13 (nc 11), of 14 0 13, p (t 1 14 12)] none [0, 1, 2]) .skip))
 (rs [om 15 0, o 16 (nc 15), of 17 0 16, o 18 (k 17), om 19 1, om 20 2, o 21 (.build [x] [(0, 1, (.s 20))]), p (.mput (.s 18) (.s 19) (.s 21))] [0, 1]
 (.reg [om 22 0, om 23 0, o 24 (nc 23), of 25 1 24, o 26 (k 25), om 27 1, o 28 (baj 27 1), o 29 (.mm true (.s 26) (.s 28)), o 30 (nc 22), of 31 1 30, p (t 1 31 29)] none [])))⟩

def xf_ref04_Check : XFunc := ⟨none, true, 1, [.tmp 2], (rs [o 1 (bx 0), o 2 (.mv (j 0))] [1]
 (rs [of 7 0 1, o 8 (k 7), o 9 (qj 8 1), om 3 9] [1, 3]
 (rs [of 10 0 1, o 11 (k 10), o 12 (qj 11 2), om 4 12] [1, 3, 4]
 (rs [of 13 0 1, o 14 (k 13), o 15 (qj 14 3), om 5 15] [1, 3, 4, 5]
 (rs [of 16 0 1, o 17 (k 16), o 18 (qj 17 4), om 6 18] [1, 3, 4, 5, 6]
 (.seq (ss [am 19 3, a 20 (nt 19), am 21 20, bb 22 4 21, b 23 (nt 22) 21, a 24 (ka 21 23), am 25 24, bb 26 5 25, b 27 (nt 26) 25, a 28 (ka 25 27), am 29 28, bb 30 6 29, b 31 (nt 30) 29, a 32 (ka 29 31)] [1, 3, 4, 5, 6, 32]
 (.cond (.s 32) (rs [o 2 (.mv (j 40))] [2]
 (.ret [2])) .skip))
 (.seq (ss [am 33 3, am 34 33, d 35 (m 5) 34, a 36 (ko 34 35), am 37 36, b 38 (f 1 1) 37, b 39 (k 38) 37, b 40 (blj 39 0) 37, bb 41 40 37, d 42 (f 1 1) 41, d 43 (k 42) 41, d 44 (bhj 43 1024) 41, b 45 (ko 41 44) 37, a 46 (ka 37 45), am 47 46, d 48 (m 4) 47, d 49 (m 48) 47, d 50 (m 6) 49, d 51 (ko 49 50) 47, d 52 (m 51) 47, b 53 (f 1 1) 52, b 54 (k 53) 52, b 55 (nj 54 0) 52, d 56 (ka 52 55) 47, a 57 (ko 47 56)] [1, 3, 4, 5, 6, 57]
 (.cond (.s 57) (rs [o 2 (.mv (j 41))] [2]
 (.ret [2])) .skip))
 (.seq (ss [am 58 3, am 59 58, d 60 (m 4) 59, a 61 (ko 59 60), am 62 61, b 63 (f 2 1) 62, b 64 (k 63) 62, b 65 (.len true (.s 64)) 62, b 66 (bgj 65 64) 62, a 67 (ka 62 66), am 68 67, d 69 (m 5) 68, d 70 (m 69) 68, d 71 (m 6) 70, d 72 (ko 70 71) 68, d 73 (m 72) 68, b 74 (f 2 1) 73, b 75 (k 74) 73, b 76 (.eqv true false [.s] (.s 75) (.c x)) 73, d 77 (ka 73 76) 68, a 78 (ko 68 77)] [78]
 (.cond (.s 78) (rs [o 2 (.mv (j 42))] [2]
 (.ret [2])) .skip))
 (rs [o 2 (.mv (j 0))] [2]
 (.ret [2]))))))))))⟩

def xf_tally_ack_above : XFunc := ⟨none, true, 2, [.tmp 4], (rs [o 2 (bx 0), o 3 (bx 1), o 4 (.mv (.c w))] [2, 3]
 (rs [of 5 3 2, o 6 (k 5), of 7 3 3, o 8 (k 7), o 9 (bg 6 8), om 4 9] [4]
 (.ret [4])))⟩

def xf_tally_ack_draw : XFunc := ⟨none, true, 1, [.cell 2 (some 2)], (rs [o 1 (bx 0), o 2 (.alloc [y, y])] [1, 2]
 (rs [of 3 1 1, ol 4 2 3, p (t 2 2 4)] [2]
 (.ret [2])))⟩

def xf_tally_ack_fresh : XFunc := ⟨none, true, 1, [.cell 2 (some 4)], (rs [o 1 (bx 0), o 2 (.alloc l9)] [1, 2]
 (rs [ol 3 4 1, p (t 4 2 3)] [2]
 (.ret [2])))⟩

def xf_tally_ack_node : XFunc := ⟨none, true, 1, [.tmp 2], (rs [o 1 (bx 0), o 2 (.mv (j 0))] [1]
 (rs [of 3 0 1, o 4 (k 3), om 2 4] [2]
 (.ret [2])))⟩

def xf_tally_mark_above : XFunc := ⟨none, true, 2, [.tmp 4], (rs [o 2 (bx 0), o 3 (bx 1), o 4 (.mv (.c w))] []
 (rs [o 4 (.mv (.c w))] [4]
 (.ret [4])))⟩

def xf_tally_mark_draw : XFunc := ⟨none, true, 1, [.cell 2 (some 2)], (rs [o 1 (bx 0), o 2 (.alloc [y, y])] [1, 2]
 (rs [of 3 1 1, ol 4 2 3, p (t 2 2 4)] [2]
 (.ret [2])))⟩

def xf_tally_mark_fresh : XFunc := ⟨none, true, 1, [.cell 2 (some 3)], (rs [o 1 (bx 0), o 2 (.alloc l7)] [1, 2]
 (rs [ol 3 3 1, p (t 3 2 3)] [2]
 (.ret [2])))⟩

def xf_tally_mark_node : XFunc := ⟨none, true, 1, [.tmp 2], (rs [o 1 (bx 0), o 2 (.mv (j 0))] [1]
 (rs [of 3 0 1, o 4 (k 3), om 2 4] [2]
 (.ret [2])))⟩

def xf_tally_ballot_above : XFunc := ⟨none, true, 2, [.tmp 4], (rs [o 2 (bx 0), o 3 (bx 1), o 4 (.mv (.c w))] [2, 3]
 (.seq (rs [of 5 3 2, o 6 (k 5), of 7 3 3, o 8 (k 7), o 9 (n 6 8)] [2, 3, 9]
 (.cond (.s 9) (rs [of 10 3 2, o 11 (k 10), of 12 3 3, o 13 (k 12), o 14 (bg 11 13), om 4 14] [4]
 (.ret [4])) .skip))
 (rs [of 15 5 2, o 16 (k 15), of 17 4 2, o 18 (k 17), of 19 5 3, o 20 (k 19), of 21 4 3, o 22 (k 21), o 23 (c 162 [16, 18, 20, 22]), om 4 23] [4]
 (.ret [4]))))⟩

def xf_tally_ballot_draw : XFunc := ⟨none, true, 1, [.cell 2 (some 2)], (rs [o 1 (bx 0), o 2 (.alloc [y, y])] [1, 2]
 (rs [of 3 1 1, ol 4 2 3, p (t 2 2 4)] [2]
 (.ret [2])))⟩

def xf_tally_ballot_node : XFunc := ⟨none, true, 1, [.tmp 2], (rs [o 1 (bx 0), o 2 (.mv (j 0))] [1]
 (rs [of 3 0 1, o 4 (k 3), om 2 4] [2]
 (.ret [2])))⟩

def xf_tally_longer : XFunc := ⟨none, true, 4, [.tmp 8], (rs [o 8 (.mv (.c w))] [0, 1, 2, 3]
 (ss [am 9 0, a 10 (le 9), am 11 2, a 12 (le 11), a 13 (bg 10 12), am 14 13, d 15 (m 0) 14, d 16 (le 15) 14, d 17 (m 2) 14, d 18 (le 17) 14, d 19 (q 16 18) 14, d 20 (m 19) 14, bb 21 1 20, bb 22 3 20, b 23 (bg 21 22) 20, d 24 (ka 20 23) 14, a 25 (ko 14 24), am 8 25] [8]
 (.ret [8])))⟩

def xf_tally_answer_above : XFunc := ⟨none, true, 2, [.tmp 4], (rs [o 2 (bx 0), o 3 (bx 1), o 4 (.mv (.c w))] [2, 3]
 (.seq (rs [of 5 3 2, o 6 (k 5), of 7 3 3, o 8 (k 7), o 9 (n 6 8)] [2, 3, 9]
 (.cond (.s 9) (rs [of 10 3 2, o 11 (k 10), of 12 3 3, o 13 (k 12), o 14 (bg 11 13), om 4 14] [4]
 (.ret [4])) .skip))
 (rs [of 15 5 2, o 16 (k 15), of 17 4 2, o 18 (k 17), of 19 5 3, o 20 (k 19), of 21 4 3, o 22 (k 21), o 23 (c 162 [16, 18, 20, 22]), om 4 23] [4]
 (.ret [4]))))⟩

def xf_tally_answer_draw : XFunc := ⟨none, true, 1, [.cell 2 (some 2)], (rs [o 1 (bx 0), o 2 (.alloc [y, y])] [1, 2]
 (rs [of 3 1 1, ol 4 2 3, p (t 2 2 4)] [2]
 (.ret [2])))⟩

def xf_tally_answer_fresh : XFunc := ⟨none, true, 1, [.cell 2 (some 6)], (rs [o 1 (bx 0), o 2 (.alloc l2)] [1, 2]
 (rs [of 3 5 1, o 4 (k 3), o 5 (.app 38 5 48 true (.c (.nil 38 5 true)) (.s 4)), of 6 5 1, p (t 1 6 5)] [1, 2]
 (rs [ol 7 6 1, p (t 6 2 7)] [2]
 (.ret [2]))))⟩

def xf_tally_answer_node : XFunc := ⟨none, true, 1, [.tmp 2], (rs [o 1 (bx 0), o 2 (.mv (j 0))] [1]
 (rs [of 3 0 1, o 4 (k 3), om 2 4] [2]
 (.ret [2])))⟩

def xf_gosem_cut_vars : XFunc := ⟨none, true, 0, [], (.reg [o 0 (.build l5 [(6, 1, (.c v))]), o 1 (.build l5 [(0, 1, (.c v)), (1, 1, (.c v)), (3, 1, (.c v)), (6, 1, (.c v)), (7, 1, (.c v))]), o 2 (.build l5 [(0, 1, (.c v)), (1, 1, (.c v)), (3, 1, (.c v)), (4, 1, (.c v)), (6, 1, (.c v)), (9, 1, (.c v))]), o 3 (.build l5 [(0, 1, (.c v)), (1, 1, (.c v)), (3, 1, (.c v)), (9, 1, (.c v))]), o 4 (.build l5 [(0, 1, (.c v)), (1, 1, (.c v)), (4, 1, (.c v)), (9, 1, (.c v))]), o 5 (.build l5 [(0, 1, (.c v)), (1, 1, (.c v)), (9, 1, (.c v))]), o 6 (.build l5 [(0, 1, (.c v)), (1, 1, (.c v)), (2, 1, (.c v)), (4, 1, (.c v)), (8, 1, (.c v)), (9, 1, (.c v))]), o 7 (.build l5 [(0, 1, (.c v)), (1, 1, (.c v)), (4, 1, (.c v)), (8, 1, (.c v)), (9, 1, (.c v))]), o 8 (.build l5 [(0, 1, (.c v)), (5, 1, (.c v)), (9, 1, (.c v))]), o 9 (.build l5 [(0, 1, (.c v)), (1, 1, (.c v)), (4, 1, (.c v)), (5, 1, (.c v)), (8, 1, (.c v)), (9, 1, (.c v))]), o 10 (.build l5 [(0, 1, (.c v)), (1, 1, (.c v)), (9, 1, (.c v))]), o 11 (.build l5 [(0, 1, (.c v)), (1, 1, (.c v)), (4, 1, (.c v)), (8, 1, (.c v)), (9, 1, (.c v))]), o 12 (.build l5 [(3, 1, (.c v)), (6, 1, (.c v))]), o 13 (.build l5 [(0, 1, (.c v)), (1, 1, (.c v)), (4, 1, (.c v)), (6, 1, (.c v)), (7, 1, (.c v))]), o 14 (.build [w, w, w, w, w, w, w, w, w, w, w, w, w, w, w, w, w, w, w, w, w, w, w, w, w, w, w, w, w, w, w, w, w, w, w, w, w, w, w, w, w, w, w, w, w, w, w, w, w, w, w, w, w, w, w, w, w, w, w, w, w, w, w, w, w, w, w, w, w, w, w, w, w, w, w, w, w, w, w, w, w, w, w, w, w, w, w, w, w, w, w, w, w, w, w, w, w, w, w, w, w, w, w, w, w, w, w, w, w, w, w, w, w, w, w, w, w, w, w, w, w, w, w, w, w, w, w, w, w, w, w, w, w, w, w, w, w, w, w, w, w, w, w, w, w, w, w, w, w, w] [(10, 10, (.s 0)), (20, 10, (.s 1)), (30, 10, (.s 2)), (40, 10, (.s 3)), (50, 10, (.s 4)), (60, 10, (.s 5)), (70, 10, (.s 6)), (80, 10, (.s 7)), (90, 10, (.s 8)), (100, 10, (.s 9)), (110, 10, (.s 10)), (120, 10, (.s 11)), (130, 10, (.s 12)), (140, 10, (.s 13))]), p (.store 150 (.c (.dptr usesD)) (.s 14))] none [])⟩
theorem r_ref05_Entry : progT Tryz.prog 127 = some xf_ref05_Entry.plain := by kernel_rfl
theorem r_tally_box_mark_put : progT Tryz.prog 128 = some xf_tally_box_mark_put.plain := by kernel_rfl
theorem r_tally_box_ballot_put : progT Tryz.prog 129 = some xf_tally_box_ballot_put.plain := by kernel_rfl
theorem r_tally_ballot_fresh : progT Tryz.prog 130 = some xf_tally_ballot_fresh.plain := by kernel_rfl
theorem r_core_One : progT Tryz.prog 131 = some xf_core_One.plain := by kernel_rfl
theorem r_ledger_Ledger_Would : progT Tryz.prog 132 = some xf_ledger_Ledger_Would.plain := by kernel_rfl
theorem r_ledger_Ledger_put : progT Tryz.prog 133 = some xf_ledger_Ledger_put.plain := by kernel_rfl
theorem r_ref04_Check : progT Tryz.prog 134 = some xf_ref04_Check.plain := by kernel_rfl
theorem r_tally_ack_above : progT Tryz.prog 150 = some xf_tally_ack_above.plain := by kernel_rfl
theorem r_tally_ack_draw : progT Tryz.prog 151 = some xf_tally_ack_draw.plain := by kernel_rfl
theorem r_tally_ack_fresh : progT Tryz.prog 152 = some xf_tally_ack_fresh.plain := by kernel_rfl
theorem r_tally_ack_node : progT Tryz.prog 153 = some xf_tally_ack_node.plain := by kernel_rfl
theorem r_tally_mark_above : progT Tryz.prog 155 = some xf_tally_mark_above.plain := by kernel_rfl
theorem r_tally_mark_draw : progT Tryz.prog 156 = some xf_tally_mark_draw.plain := by kernel_rfl
theorem r_tally_mark_fresh : progT Tryz.prog 157 = some xf_tally_mark_fresh.plain := by kernel_rfl
theorem r_tally_mark_node : progT Tryz.prog 158 = some xf_tally_mark_node.plain := by kernel_rfl
theorem r_tally_ballot_above : progT Tryz.prog 159 = some xf_tally_ballot_above.plain := by kernel_rfl
theorem r_tally_ballot_draw : progT Tryz.prog 160 = some xf_tally_ballot_draw.plain := by kernel_rfl
theorem r_tally_ballot_node : progT Tryz.prog 161 = some xf_tally_ballot_node.plain := by kernel_rfl
theorem r_tally_longer : progT Tryz.prog 162 = some xf_tally_longer.plain := by kernel_rfl
theorem r_tally_answer_above : progT Tryz.prog 163 = some xf_tally_answer_above.plain := by kernel_rfl
theorem r_tally_answer_draw : progT Tryz.prog 164 = some xf_tally_answer_draw.plain := by kernel_rfl
theorem r_tally_answer_fresh : progT Tryz.prog 165 = some xf_tally_answer_fresh.plain := by kernel_rfl
theorem r_tally_answer_node : progT Tryz.prog 166 = some xf_tally_answer_node.plain := by kernel_rfl
theorem r_gosem_cut_vars : progT Tryz.prog 173 = some xf_gosem_cut_vars.plain := by kernel_rfl

end Go.Ax
