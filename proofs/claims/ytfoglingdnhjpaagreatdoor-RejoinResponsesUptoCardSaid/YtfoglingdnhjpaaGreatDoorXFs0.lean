/-
  The functions of this seat as resolved code, and that the program resolves to them (part 1).
-/
import Derived.Test.YtfoglingdnhjpaaGreatDoorXComp
import Derived.Test.YtfoglingdnhjpaaGreatDoorXFn
import Derived.Test.YtfoglingdnhjpaaGreatDoorXG
import Derived.Test.YtfoglingdnhjpaaGreatDoorXP
import Derived.Test.YtfoglingdnhjpaaGreatDoorProg
import Derived.KernelRfl
namespace Go.Ax
set_option linter.all false
open Go.Proofs P

def xf_law12_RejoinStarts : XFunc := ⟨none, none, false, 3, [.tmp 6], (rs [o 3 (bx 0), o 5 (bx 2), o 6 (.mv (.c w))] [1, 3, 5]
 (rs [ol 14 4 3, om 15 1, ol 16 2 5, o 17 (c 13 [14, 15, 16]), om 13 17, o 18 (e 13 0), o 19 (e 13 1), o 20 (e 13 2), o 7 (.alloc l1), p (t 12 7 18), om 8 19, om 9 20] [1, 3, 5, 7, 8, 9]
 (rs [ol 22 4 3, om 23 1, ol 24 2 5, o 25 (c 14 [22, 23, 24]), om 21 25, o 26 (e 21 0), o 27 (e 21 1), o 28 (e 21 2), o 10 (.alloc l1), p (t 12 10 26), om 11 27, om 12 28] [7, 8, 9, 10, 11, 12]
 (rs [ol 29 12 7, om 30 8, om 31 9, ol 32 12 10, om 33 11, om 34 12, o 35 (c 15 [29, 30, 31, 32, 33, 34]), om 36 35, g 37 (c 16 []) 36, o 38 (ka 36 37), om 6 38] [6]
 (.ret [6])))))⟩

def xf_law12_RejoinRecoveries : XFunc := ⟨none, none, false, 3, [.tmp 6], (rs [o 3 (bx 0), o 4 (bx 1), o 5 (bx 2), o 6 (.mv (.c w))] [3, 4, 5]
 (rs [o 7 (.alloc l5)] [3, 4, 5, 7]
 (rp (some [(0, 2), (2, 3), (0, 4), (0, 10), (1, 10), (2, 10), (3, 10), (4, 10), (5, 10)]) [ol 15 4 3, ol 16 12 4, o 17 (c 18 [7, 16]), ol 18 18 5, o 19 (c 19 [7, 18]), o 20 (c 17 [15, 17, 19]), om 14 20, o 21 (e 14 0), o 22 (e 14 1), o 23 (e 14 2), o 8 (.alloc l1), p (t 12 8 21), om 9 22, om 10 23] [3, 4, 5, 7, 8, 9, 10]
 (rs [ol 25 4 3, ol 26 12 4, ol 27 18 5, o 28 (c 20 [25, 26, 27]), om 24 28, o 29 (e 24 0), o 30 (e 24 1), o 31 (e 24 2), o 11 (.alloc l1), p (t 12 11 29), om 12 30, om 13 31] [7, 8, 9, 10, 11, 12, 13]
 (rs [ol 32 12 8, om 33 9, om 34 10, ol 35 12 11, om 36 12, om 37 13, o 38 (c 15 [32, 33, 34, 35, 36, 37]), om 39 38, g 40 (c 21 [7]) 39, o 41 (ka 39 40), om 42 41, g 43 (c 16 []) 42, o 44 (ka 42 43), om 6 44] [6]
 (.ret [6]))))))⟩

def xf_law12_RejoinResponses : XFunc := ⟨none, none, false, 3, [.tmp 6], (rs [o 3 (bx 0), o 4 (bx 1), o 5 (bx 2), o 6 (.mv (.c w))] [3, 4, 5]
 (rs [o 7 (.alloc l5)] [3, 4, 5, 7]
 (rp (some [(0, 2), (2, 3), (0, 4), (0, 10), (1, 10), (2, 10), (3, 10), (4, 10), (5, 10)]) [ol 15 4 3, ol 16 12 4, o 17 (c 18 [7, 16]), ol 18 18 5, o 19 (c 19 [7, 18]), o 20 (c 22 [15, 17, 19]), om 14 20, o 21 (e 14 0), o 22 (e 14 1), o 23 (e 14 2), o 8 (.alloc l1), p (t 12 8 21), om 9 22, om 10 23] [3, 4, 5, 7, 8, 9, 10]
 (rs [ol 25 4 3, ol 26 12 4, ol 27 18 5, o 28 (c 23 [25, 26, 27]), om 24 28, o 29 (e 24 0), o 30 (e 24 1), o 31 (e 24 2), o 11 (.alloc l1), p (t 12 11 29), om 12 30, om 13 31] [7, 8, 9, 10, 11, 12, 13]
 (rs [ol 32 12 8, om 33 9, om 34 10, ol 35 12 11, om 36 12, om 37 13, o 38 (c 15 [32, 33, 34, 35, 36, 37]), om 39 38, g 40 (c 21 [7]) 39, o 41 (ka 39 40), om 42 41, g 43 (c 16 []) 42, o 44 (ka 42 43), om 6 44] [6]
 (.ret [6]))))))⟩

def xf_law12_RejoinGets : XFunc := ⟨none, none, false, 3, [.tmp 6], (rs [o 3 (bx 0), o 4 (bx 1), o 5 (bx 2), o 6 (.mv (.c w))] [3, 4, 5]
 (rs [o 7 (.alloc l5)] [3, 4, 5, 7]
 (rp (some [(0, 2), (2, 3), (0, 4), (0, 10), (1, 10), (2, 10), (3, 10), (4, 10), (5, 10)]) [ol 15 4 3, ol 16 12 4, o 17 (c 18 [7, 16]), ol 18 18 5, o 19 (c 19 [7, 18]), o 20 (c 28 [15, 17, 19]), om 14 20, o 21 (e 14 0), o 22 (e 14 1), o 23 (e 14 2), o 8 (.alloc l1), p (t 12 8 21), om 9 22, om 10 23] [3, 4, 5, 7, 8, 9, 10]
 (rs [ol 25 4 3, ol 26 12 4, ol 27 18 5, o 28 (c 29 [25, 26, 27]), om 24 28, o 29 (e 24 0), o 30 (e 24 1), o 31 (e 24 2), o 11 (.alloc l1), p (t 12 11 29), om 12 30, om 13 31] [7, 8, 9, 10, 11, 12, 13]
 (rs [ol 32 12 8, om 33 9, om 34 10, ol 35 12 11, om 36 12, om 37 13, o 38 (c 15 [32, 33, 34, 35, 36, 37]), om 39 38, g 40 (c 21 [7]) 39, o 41 (ka 39 40), om 42 41, g 43 (c 16 []) 42, o 44 (ka 42 43), om 6 44] [6]
 (.ret [6]))))))⟩

def xf_law12_RejoinNews : XFunc := ⟨none, none, false, 3, [.tmp 6], (rs [o 3 (bx 0), o 4 (bx 1), o 5 (bx 2), o 6 (.mv (.c w))] [3, 4, 5]
 (rs [o 7 (.alloc l5)] [3, 4, 5, 7]
 (rp (some [(0, 2), (2, 3), (0, 4), (0, 10), (1, 10), (2, 10), (3, 10), (4, 10), (5, 10)]) [ol 15 4 3, ol 16 12 4, o 17 (c 18 [7, 16]), ol 18 18 5, o 19 (c 19 [7, 18]), o 20 (c 30 [15, 17, 19]), om 14 20, o 21 (e 14 0), o 22 (e 14 1), o 23 (e 14 2), o 8 (.alloc l1), p (t 12 8 21), om 9 22, om 10 23] [3, 4, 5, 7, 8, 9, 10]
 (rs [ol 25 4 3, ol 26 12 4, ol 27 18 5, o 28 (c 31 [25, 26, 27]), om 24 28, o 29 (e 24 0), o 30 (e 24 1), o 31 (e 24 2), o 11 (.alloc l1), p (t 12 11 29), om 12 30, om 13 31] [7, 8, 9, 10, 11, 12, 13]
 (rs [ol 32 12 8, om 33 9, om 34 10, ol 35 12 11, om 36 12, om 37 13, o 38 (c 15 [32, 33, 34, 35, 36, 37]), om 39 38, g 40 (c 21 [7]) 39, o 41 (ka 39 40), om 42 41, g 43 (c 16 []) 42, o 44 (ka 42 43), om 6 44] [6]
 (.ret [6]))))))⟩

def xf_law12_RejoinAsks : XFunc := ⟨none, none, false, 2, [.tmp 4], (rs [o 2 (bx 0), o 3 (bx 1), o 4 (.mv (.c w))] [2, 3]
 (rs [o 5 (.alloc l5)] [2, 3, 5]
 (rp (some [(0, 2), (0, 8), (1, 8), (2, 8), (3, 8)]) [ol 13 4 2, ol 14 12 3, o 15 (c 18 [5, 14]), o 16 (c 39 [13, 15]), om 12 16, o 17 (e 12 0), o 18 (e 12 1), o 19 (e 12 2), o 6 (.alloc l1), p (t 12 6 17), om 7 18, om 8 19] [2, 3, 5, 6, 7, 8]
 (rs [ol 21 4 2, ol 22 12 3, o 23 (c 40 [21, 22]), om 20 23, o 24 (e 20 0), o 25 (e 20 1), o 26 (e 20 2), o 9 (.alloc l1), p (t 12 9 24), om 10 25, om 11 26] [5, 6, 7, 8, 9, 10, 11]
 (rs [ol 27 12 6, om 28 7, om 29 8, ol 30 12 9, om 31 10, om 32 11, o 33 (c 15 [27, 28, 29, 30, 31, 32]), om 34 33, g 35 (c 21 [5]) 34, o 36 (ka 34 35), om 37 36, g 38 (c 16 []) 37, o 39 (ka 37 38), om 4 39] [4]
 (.ret [4]))))))⟩

def xf_rejoin_Start : XFunc := ⟨none, none, true, 3, [.cell 6 (some 12), .tmp 7, .tmp 8], (rs [o 3 (bx 0), o 5 (bx 2), o 6 (.alloc l1), o 7 (.mv (.c (.nil 71 19 false))), o 8 (.mv (j 0))] [1, 3, 5, 6]
 (rs [ol 12 4 3, om 13 1, ol 14 2 5, o 15 (c 43 [12, 13, 14]), om 11 15, o 16 (e 11 0), o 17 (e 11 1), o 9 (.alloc l1), p (t 12 9 16), om 10 17] [3, 6, 9, 10]
 (.seq (rs [om 18 10, o 19 (nj 18 0)] [3, 6, 9, 10, 19]
 (.cond (.s 19) (rs [o 20 (.build l1 []), om 21 10, p (t 12 6 20), o 7 (.mv (.c (.nil 71 19 false))), om 8 21] [6, 7, 8]
 (.ret [6, 7, 8])) .skip))
 (rp (some [(0, 3)]) [ol 22 12 9, ol 23 4 3, ol 24 12 9, o 25 (c 44 [23, 24]), p (t 12 6 22), om 7 25, o 8 (.mv (j 0))] [6, 7, 8]
 (.ret [6, 7, 8])))))⟩

def xf_ref12_Start : XFunc := ⟨none, none, true, 3, [.cell 6 (some 12), .tmp 7, .tmp 8], (rs [o 3 (bx 0), o 5 (bx 2), o 6 (.alloc l1), o 7 (.mv (.c (.nil 71 19 false))), o 8 (.mv (j 0))] [1, 3, 5, 6]
 (rs [ol 12 4 3, om 13 1, ol 14 2 5, o 15 (c 45 [12, 13, 14]), om 11 15, o 16 (e 11 0), o 17 (e 11 1), o 9 (.alloc l1), p (t 12 9 16), om 10 17] [3, 6, 9, 10]
 (.seq (rs [om 18 10, o 19 (nj 18 0)] [3, 6, 9, 10, 19]
 (.cond (.s 19) (rs [o 20 (.build l1 []), om 21 10, p (t 12 6 20), o 7 (.mv (.c (.nil 71 19 false))), om 8 21] [6, 7, 8]
 (.ret [6, 7, 8])) .skip))
 (rp (some [(0, 3)]) [ol 22 12 9, ol 23 4 3, ol 24 12 9, o 25 (c 46 [23, 24]), p (t 12 6 22), om 7 25, o 8 (.mv (j 0))] [6, 7, 8]
 (.ret [6, 7, 8])))))⟩

def xf_law12_same : XFunc := ⟨none, none, false, 6, [.tmp 12], (rs [o 6 (bx 0), o 9 (bx 3), o 12 (.mv (.c w))] [1, 2, 4, 5, 6, 9]
 (ss [am 13 2, am 14 5, a 15 (q 13 14), am 16 15, b 17 (l 12 6) 16, b 18 (l 12 9) 16, u 19 (c 38 [17, 18]) 16, a 20 (ka 16 19), am 21 20, bb 22 1 21, bb 23 4 21, u 24 (c 47 [22, 23]) 21, a 25 (ka 21 24), am 12 25] [12]
 (.ret [12])))⟩

def xf_law12_works : XFunc := ⟨none, none, false, 0, [.tmp 0], (rs [o 0 (.mv (.c w))] []
 (rs [o 21 (.build [z, z, z, w] [(0, 1, (j 1)), (1, 1, (j 4)), (2, 1, (j 6))]), o 1 (.alloc [z, z, z, w]), p (t 4 1 21)] [1]
 (rs [o 22 (.build [y, y] [(1, 1, (.c (.dat (.int .u64 5))))]), o 2 (.alloc [y, y]), p (t 2 2 22)] [1, 2]
 (rs [ol 24 4 1, ol 25 2 2, o 26 (.call (fc 13) [(.s 24), (j 0), (.s 25)]), om 23 26, o 27 (e 23 0), o 28 (e 23 1), o 29 (e 23 2), o 3 (.alloc l1), p (t 12 3 27), om 4 28, om 5 29] [1, 2, 3, 4, 5]
 (.seq (sp (some []) [am 30 5, a 31 (nj 30 0), am 32 31, d 33 (f 1 3) 32, d 34 (k 33) 32, d 35 (nj 34 3) 32, a 36 (ko 32 35), am 37 36, d 38 (m 4) 37, d 39 (le 38) 37, d 40 (nj 39 2) 37, a 41 (ko 37 40), am 42 41, d 43 (m 4) 42, r 44 (.iadr 19 (.s 43) (j 0)) 42, r 45 (f 0 44) 42, r 46 (k 45) 42, r 47 (nj 46 1) 42, a 48 (ko 42 47), am 49 48, d 50 (m 4) 49, r 51 (.iadr 19 (.s 50) (j 1)) 49, r 52 (f 1 51) 49, r 53 (f 0 52) 49, r 54 (k 53) 49, r 55 (nj 54 9) 49, a 56 (ko 49 55), am 57 56, d 58 (m 4) 57, r 59 (.iadr 19 (.s 58) (j 1)) 57, r 60 (f 1 59) 57, r 61 (f 14 60) 57, r 62 (l 2 61) 57, d 63 (l 2 2) 57, r 64 (.eqv true true [.i, .i] (.s 62) (.s 63)) 57, a 65 (ko 57 64)] [1, 3, 4, 65]
 (.cond (.s 65) (rs [o 0 (.mv (.c w))] [0]
 (.ret [0])) .skip))
 (rs [o 66 (.build [z, z, x] [(0, 1, (j 4))]), o 67 (.build l10 [(0, 1, (j 1)), (1, 1, (j 1)), (2, 3, (.s 66))]), o 6 (.alloc l10), p (t 5 6 67)] [1, 3, 4, 6]
 (rp (some [(0, 2), (1, 2), (0, 4), (1, 4)]) [ol 68 5 6, o 69 (.bsl 50 5 true 1 l10 [(0, 5, (.s 68))]), o 70 (.mksl 26 2 16 true [y, y] (j 3) (j 3)), o 71 (.build l1 [(0, 1, (j 1)), (1, 1, (j 1)), (2, 1, (j 1)), (3, 1, (j 1)), (4, 1, (.s 69)), (6, 1, (.s 70))]), o 7 (.alloc l1), p (t 12 7 71)] [1, 3, 4, 6, 7]
 (rs [o 72 (.mksl 26 2 16 true [y, y] (j 3) (j 3)), o 73 (.build l1 [(0, 1, (j 2)), (1, 1, (j 1)), (2, 1, (j 1)), (3, 1, (j 1)), (6, 1, (.s 72))]), o 8 (.alloc l1), p (t 12 8 73)] [1, 3, 4, 6, 7, 8]
 (rp (some [(0, 11), (1, 11), (3, 11), (5, 11), (6, 11)]) [ol 75 4 1, ol 76 12 7, om 77 4, o 78 (.iadr 19 (.s 77) (j 0)), of 79 1 78, ol 80 18 79, o 81 (c 17 [75, 76, 80]), om 74 81, o 82 (e 74 0), o 83 (e 74 1), o 84 (e 74 2), o 9 (.alloc l1), p (t 12 9 82), om 10 83, om 11 84] [1, 3, 4, 6, 8, 10, 11]
 (rp (some [(0, 11), (1, 11), (3, 11), (5, 11), (6, 11)]) [ol 86 4 1, ol 87 12 8, om 88 4, o 89 (.iadr 19 (.s 88) (j 1)), of 90 1 89, ol 91 18 90, o 92 (c 17 [86, 87, 91]), om 85 92, o 93 (e 85 0), o 94 (e 85 1), o 95 (e 85 2), o 12 (.alloc l1), p (t 12 12 93), om 13 94, om 14 95] [1, 3, 6, 10, 11, 13, 14]
 (.seq (ss [am 96 11, a 97 (nj 96 0), am 98 97, d 99 (m 14) 98, d 100 (nj 99 0) 98, a 101 (ko 98 100), am 102 101, d 103 (m 10) 102, d 104 (le 103) 102, d 105 (nj 104 1) 102, a 106 (ko 102 105), am 107 106, d 108 (m 13) 107, d 109 (le 108) 107, d 110 (nj 109 1) 107, a 111 (ko 107 110), am 112 111, d 113 (m 10) 112, r 114 (.iadr 19 (.s 113) (j 0)) 112, r 115 (f 0 114) 112, r 116 (k 115) 112, r 117 (nj 116 0) 112, a 118 (ko 112 117), am 119 118, d 120 (m 10) 119, r 121 (.iadr 19 (.s 120) (j 0)) 119, r 122 (f 1 121) 119, r 123 (f 16 122) 119, r 124 (k 123) 119, r 125 (le 124) 119, r 126 (nj 125 1) 119, a 127 (ko 119 126), am 128 127, d 129 (m 13) 128, r 130 (.iadr 19 (.s 129) (j 0)) 128, r 131 (f 1 130) 128, r 132 (f 16 131) 128, r 133 (k 132) 128, r 134 (le 133) 128, r 135 (nj 134 0) 128, a 136 (ko 128 135)] [1, 3, 6, 10, 13, 136]
 (.cond (.s 136) (rs [o 0 (.mv (.c w))] [0]
 (.ret [0])) .skip))
 (rp (some [(0, 11), (1, 11), (3, 11), (5, 11), (6, 11)]) [ol 138 4 1, ol 139 12 3, om 140 10, o 141 (.iadr 19 (.s 140) (j 0)), of 142 1 141, ol 143 18 142, o 144 (c 22 [138, 139, 143]), om 137 144, o 145 (e 137 0), o 146 (e 137 1), o 147 (e 137 2), o 15 (.alloc l1), p (t 12 15 145), om 16 146, om 17 147] [1, 6, 13, 15, 16, 17]
 (rp (some [(0, 11), (1, 11), (3, 11), (5, 11), (6, 11)]) [ol 149 4 1, ol 150 12 15, om 151 13, o 152 (.iadr 19 (.s 151) (j 0)), of 153 1 152, ol 154 18 153, o 155 (c 22 [149, 150, 154]), om 148 155, o 156 (e 148 0), o 157 (e 148 1), o 158 (e 148 2), o 18 (.alloc l1), p (t 12 18 156), om 19 157, om 20 158] [6, 15, 16, 17, 18, 19, 20]
 (sp (some []) [am 159 17, a 160 (qj 159 0), am 161 160, bb 162 20 161, b 163 (qj 162 0) 161, a 164 (ka 161 163), am 165 164, bb 166 16 165, b 167 (le 166) 165, b 168 (qj 167 0) 165, a 169 (ka 165 168), am 170 169, b 171 (f 1 15) 170, b 172 (k 171) 170, b 173 (qj 172 3) 170, a 174 (ka 170 173), am 175 174, b 176 (f 1 18) 175, b 177 (k 176) 175, b 178 (qj 177 1) 175, a 179 (ka 175 178), am 180 179, b 181 (f 2 18) 180, b 182 (k 181) 180, b 183 (qj 182 1) 180, a 184 (ka 180 183), am 185 184, b 186 (f 4 18) 185, b 187 (k 186) 185, b 188 (le 187) 185, b 189 (qj 188 1) 185, a 190 (ka 185 189), am 191 190, b 192 (f 4 18) 191, b 193 (k 192) 191, u 194 (.iadr 5 (.s 193) (j 0)) 191, u 195 (l 5 194) 191, b 196 (l 5 6) 191, u 197 (.eqv false true [.i, .i, .i, .i, .s] (.s 195) (.s 196)) 191, a 198 (ka 191 197), am 199 198, bb 200 19 199, b 201 (le 200) 199, b 202 (qj 201 1) 199, a 203 (ka 199 202), am 204 203, bb 205 19 204, u 206 (.iadr 19 (.s 205) (j 0)) 204, u 207 (f 0 206) 204, u 208 (k 207) 204, u 209 (qj 208 1) 204, a 210 (ka 204 209), am 211 210, bb 212 19 211, u 213 (.iadr 19 (.s 212) (j 0)) 211, u 214 (f 1 213) 211, u 215 (f 0 214) 211, u 216 (k 215) 211, u 217 (qj 216 4) 211, a 218 (ka 211 217), am 0 218] [0]
 (.ret [0])))))))))))))))⟩

def xf_rejoin_Recovery : XFunc := ⟨none, none, true, 3, [.cell 6 (some 12), .tmp 7, .tmp 8], (rs [o 3 (bx 0), o 4 (bx 1), o 5 (bx 2), o 6 (.alloc l1), o 7 (.mv (.c (.nil 71 19 false))), o 8 (.mv (j 0))] [3, 4, 5, 6]
 (rs [ol 9 4 3, ol 10 12 4, ol 11 18 5, o 12 (.call (fc 48) [(j 9), (.s 9), (.s 10), (.s 11)]), o 13 (e 12 0), o 14 (e 12 1), o 15 (e 12 2), p (t 12 6 13), om 7 14, om 8 15] [6, 7, 8]
 (.ret [6, 7, 8])))⟩

def xf_plain_Given_State_k0 : List (Nat × Option (Nat × Nat × Bool)) := [(0, none), (3, none), (4, none), (5, none)]
def xf_plain_Given_State_b0 : XCode := (.seq (rs [om 19 5, of 20 10 3, o 21 (k 20), o 22 (le 21), o 23 (bl 19 22)] [0, 3, 4, 5, 23]
 (.cond (.s 23) .skip (.exit 0 [0, 3, 4])))
 (.seq (.block 1 (.reg [of 26 10 3, o 27 (k 26), om 28 5, om 29 0, of 30 10 3, o 31 (k 30), om 32 5, o 33 (ia 6 31 32), of 34 5 33, o 35 (k 34), o 36 (c 50 [29, 35]), o 37 (ia 6 27 28), of 38 5 37, p (t 1 38 36)] (some [(1, 10)]) [0, 3, 4, 5]))
 (.reg [om 24 5, o 25 (baj 24 1), om 5 25] none [0, 3, 4, 5])))
def xf_plain_Given_State_k1 : List (Nat × Option (Nat × Nat × Bool)) := [(0, none), (3, none), (4, none), (6, none)]
def xf_plain_Given_State_b1 : XCode := (.seq (rs [om 39 6, of 40 11 3, o 41 (k 40), o 42 (le 41), o 43 (bl 39 42)] [0, 3, 4, 6, 43]
 (.cond (.s 43) .skip (.exit 2 [0, 3, 4])))
 (.seq (.block 3 (.reg [of 46 11 3, o 47 (k 46), om 48 6, om 49 0, of 50 11 3, o 51 (k 50), om 52 6, o 53 (ia 6 51 52), of 54 5 53, o 55 (k 54), o 56 (c 50 [49, 55]), o 57 (ia 6 47 48), of 58 5 57, p (t 1 58 56)] (some [(1, 10)]) [0, 3, 4, 6]))
 (.reg [om 44 6, o 45 (baj 44 1), om 6 45] none [0, 3, 4, 6])))
def xf_plain_Given_State : XFunc := ⟨none, none, false, 2, [.cell 4 (some 12)], (rs [o 3 (bx 1), o 4 (.alloc l1)] [0, 3, 4]
 (rs [ol 7 12 3, o 8 (c 49 [7]), p (t 12 3 8)] [0, 3, 4]
 (rs [om 9 0, of 10 4 3, o 11 (k 10), o 12 (c 50 [9, 11]), of 13 4 3, p (t 1 13 12)] [0, 3, 4]
 (rs [om 14 0, of 15 6 3, o 16 (k 15), o 17 (c 51 [14, 16]), of 18 6 3, p (t 1 18 17)] [0, 3, 4]
 (.seq (rs [o 5 (.mv (j 0))] [0, 3, 4, 5]
 (.block 0 (.loop xf_plain_Given_State_k0 xf_plain_Given_State_b0)))
 (.seq (rs [o 6 (.mv (j 0))] [0, 3, 4, 6]
 (.block 2 (.loop xf_plain_Given_State_k1 xf_plain_Given_State_b1)))
 (rp (some [(4, 6)]) [om 59 0, om 60 0, o 61 (nc 60), of 62 8 61, o 63 (k 62), ol 64 12 3, o 65 (.bsl 36 12 false 1 l1 [(0, 12, (.s 64))]), o 66 (.app 36 12 192 false (.s 63) (.s 65)), o 67 (nc 59), of 68 8 67, p (t 1 68 66)] [0, 3, 4]
 (rp (some [(4, 6), (4, 7)]) [om 69 0, om 70 0, o 71 (nc 70), of 72 9 71, o 73 (k 72), ol 74 12 3, o 75 (c 49 [74]), o 76 (.bsl 36 12 false 1 l1 [(0, 12, (.s 75))]), o 77 (.app 36 12 192 false (.s 73) (.s 76)), o 78 (nc 69), of 79 9 78, p (t 1 79 77)] [3, 4]
 (rs [ol 80 12 3, p (t 12 4 80)] [4]
 (.ret [4]))))))))))⟩

def xf_plain_Given_Msg : XFunc := ⟨none, none, false, 2, [.cell 4 (some 18)], (rs [o 3 (bx 1), o 4 (.alloc l4)] [0, 3, 4]
 (rs [om 5 0, of 6 16 3, o 7 (k 6), o 8 (c 50 [5, 7]), of 9 16 3, p (t 1 9 8)] [0, 3, 4]
 (rs [om 10 0, of 11 17 3, o 12 (k 11), o 13 (c 51 [10, 12]), of 14 17 3, p (t 1 14 13)] [3, 4]
 (rs [ol 15 18 3, p (t 18 4 15)] [4]
 (.ret [4])))))⟩

def xf_ref12_Recovery : XFunc := ⟨none, none, true, 3, [.cell 6 (some 12), .tmp 7, .tmp 8], (rs [o 3 (bx 0), o 4 (bx 1), o 5 (bx 2), o 6 (.alloc l1), o 7 (.mv (.c (.nil 71 19 false))), o 8 (.mv (j 0))] [3, 4, 5, 6]
 (rs [ol 14 4 3, ol 15 12 4, ol 16 18 5, o 17 (.call (fc 52) [(.s 14), (.s 15), (.s 16), (j 9)]), om 13 17, o 18 (e 13 0), o 19 (e 13 1), o 20 (e 13 2), o 9 (.alloc l1), p (t 12 9 18), om 10 19, om 11 20] [3, 5, 6, 9, 10, 11]
 (.seq (ss [am 21 10, a 22 (nt 21), am 23 22, d 24 (l 12 9) 23, r 25 (c 53 [24]) 23, r 26 (nt 25) 23, a 27 (ko 23 26)] [3, 5, 6, 9, 11, 27]
 (.cond (.s 27) (rs [ol 28 12 9, om 29 11, p (t 12 6 28), o 7 (.mv (.c (.nil 71 19 false))), om 8 29] [6, 7, 8]
 (.ret [6, 7, 8])) .skip))
 (rs [of 30 2 9, o 31 (k 30), of 32 14 5, ol 33 2 32, o 34 (.build l4 [(0, 1, (j 10)), (2, 1, (.s 31)), (14, 2, (.s 33))]), o 12 (.alloc l4), p (t 18 12 34)] [3, 5, 6, 9, 12]
 (.seq (rs [ol 35 4 3, ol 36 12 9, o 37 (c 54 [35, 36])] [3, 5, 6, 9, 12, 37]
 (.cond (.s 37) (rs [of 38 4 9, o 39 (k 38), of 40 16 12, p (t 1 40 39)] [3, 5, 6, 9, 12]
 (.reg [of 41 5 9, o 42 (k 41), of 43 12 12, p (t 1 43 42)] none [3, 5, 6, 9, 12])) .skip))
 (rp (some [(0, 6)]) [ol 44 12 9, ol 45 4 3, ol 46 12 9, of 47 1 5, o 48 (k 47), ol 49 18 12, o 50 (c 55 [45, 46, 48, 49]), p (t 12 6 44), om 7 50, o 8 (.mv (j 0))] [6, 7, 8]
 (.ret [6, 7, 8])))))))⟩

def xf_plain_Given_Intact_k0 : List (Nat × Option (Nat × Nat × Bool)) := [(0, none), (3, none)]
def xf_plain_Given_Intact_b0 : XCode := (.seq (rs [om 8 3, om 9 0, o 10 (nc 9), of 11 0 10, o 12 (k 11), o 13 (le 12), o 14 (bl 8 13)] [0, 3, 14]
 (.cond (.s 14) .skip (.exit 0 [0])))
 (.seq (.block 1 (rp (some []) [om 17 0, o 18 (nc 17), of 19 0 18, o 20 (k 19), om 21 3, o 22 (ia 1 20 21), o 23 (k 22), om 24 0, o 25 (nc 24), of 26 1 25, o 27 (k 26), om 28 3, o 29 (ia 1 27 28), o 30 (k 29), o 31 (c 56 [23, 30]), o 32 (nt 31)] [0, 3, 32]
 (.cond (.s 32) (rs [o 2 (.mv (.c w))] [2]
 (.ret [2])) .skip)))
 (.reg [om 15 3, o 16 (baj 15 1), om 3 16] none [0, 3])))
def xf_plain_Given_Intact_k1 : List (Nat × Option (Nat × Nat × Bool)) := [(0, none), (4, none)]
def xf_plain_Given_Intact_b1 : XCode := (.seq (rs [om 33 4, om 34 0, o 35 (nc 34), of 36 8 35, o 37 (k 36), o 38 (le 37), o 39 (bl 33 38)] [0, 4, 39]
 (.cond (.s 39) .skip (.exit 2 [0])))
 (.seq (.block 3 (rp (some []) [om 42 0, o 43 (nc 42), of 44 8 43, o 45 (k 44), om 46 4, o 47 (ia 12 45 46), ol 48 12 47, om 49 0, o 50 (nc 49), of 51 9 50, o 52 (k 51), om 53 4, o 54 (ia 12 52 53), ol 55 12 54, o 56 (c 38 [48, 55]), o 57 (nt 56)] [0, 4, 57]
 (.cond (.s 57) (rs [o 2 (.mv (.c w))] [2]
 (.ret [2])) .skip)))
 (.reg [om 40 4, o 41 (baj 40 1), om 4 41] none [0, 4])))
def xf_plain_Given_Intact_k2 : List (Nat × Option (Nat × Nat × Bool)) := [(0, none), (5, none)]
def xf_plain_Given_Intact_b2 : XCode := (.seq (rs [om 58 5, om 59 0, o 60 (nc 59), of 61 6 60, o 62 (k 61), o 63 (le 62), o 64 (bl 58 63)] [0, 5, 64]
 (.cond (.s 64) .skip (.exit 4 [0])))
 (.seq (.block 5 (rp (some []) [om 67 0, o 68 (nc 67), of 69 6 68, o 70 (k 69), om 71 5, o 72 (ia 1 70 71), o 73 (k 72), om 74 0, o 75 (nc 74), of 76 7 75, o 77 (k 76), om 78 5, o 79 (ia 1 77 78), o 80 (k 79), o 81 (c 57 [73, 80]), o 82 (nt 81)] [0, 5, 82]
 (.cond (.s 82) (rs [o 2 (.mv (.c w))] [2]
 (.ret [2])) .skip)))
 (.reg [om 65 5, o 66 (baj 65 1), om 5 66] none [0, 5])))
def xf_plain_Given_Intact_k3 : List (Nat × Option (Nat × Nat × Bool)) := [(0, none), (6, none)]
def xf_plain_Given_Intact_b3 : XCode := (.seq (rs [om 83 6, om 84 0, o 85 (nc 84), of 86 2 85, o 87 (k 86), o 88 (le 87), o 89 (bl 83 88)] [0, 6, 89]
 (.cond (.s 89) .skip (.exit 6 [0])))
 (.seq (.block 7 (rp (some []) [om 92 0, o 93 (nc 92), of 94 2 93, o 95 (k 94), om 96 6, o 97 (ia 1 95 96), o 98 (k 97), om 99 0, o 100 (nc 99), of 101 3 100, o 102 (k 101), om 103 6, o 104 (ia 1 102 103), o 105 (k 104), o 106 (c 34 [98, 105]), o 107 (nt 106)] [0, 6, 107]
 (.cond (.s 107) (rs [o 2 (.mv (.c w))] [2]
 (.ret [2])) .skip)))
 (.reg [om 90 6, o 91 (baj 90 1), om 6 91] none [0, 6])))
def xf_plain_Given_Intact_k4 : List (Nat × Option (Nat × Nat × Bool)) := [(0, none), (7, none)]
def xf_plain_Given_Intact_b4 : XCode := (.seq (rs [om 108 7, om 109 0, o 110 (nc 109), of 111 4 110, o 112 (k 111), o 113 (le 112), o 114 (bl 108 113)] [0, 7, 114]
 (.cond (.s 114) .skip (.exit 8 [])))
 (.seq (.block 9 (rp (some []) [om 117 0, o 118 (nc 117), of 119 4 118, o 120 (k 119), om 121 7, o 122 (ia 1 120 121), o 123 (k 122), om 124 0, o 125 (nc 124), of 126 5 125, o 127 (k 126), om 128 7, o 129 (ia 1 127 128), o 130 (k 129), o 131 (c 27 [123, 130]), o 132 (nt 131)] [0, 7, 132]
 (.cond (.s 132) (rs [o 2 (.mv (.c w))] [2]
 (.ret [2])) .skip)))
 (.reg [om 115 7, o 116 (baj 115 1), om 7 116] none [0, 7])))
def xf_plain_Given_Intact : XFunc := ⟨none, none, false, 1, [.tmp 2], (rs [o 2 (.mv (.c w))] [0]
 (.seq (rs [o 3 (.mv (j 0))] [0, 3]
 (.block 0 (.loop xf_plain_Given_Intact_k0 xf_plain_Given_Intact_b0)))
 (.seq (rs [o 4 (.mv (j 0))] [0, 4]
 (.block 2 (.loop xf_plain_Given_Intact_k1 xf_plain_Given_Intact_b1)))
 (.seq (rs [o 5 (.mv (j 0))] [0, 5]
 (.block 4 (.loop xf_plain_Given_Intact_k2 xf_plain_Given_Intact_b2)))
 (.seq (rs [o 6 (.mv (j 0))] [0, 6]
 (.block 6 (.loop xf_plain_Given_Intact_k3 xf_plain_Given_Intact_b3)))
 (.seq (rs [o 7 (.mv (j 0))] [0, 7]
 (.block 8 (.loop xf_plain_Given_Intact_k4 xf_plain_Given_Intact_b4)))
 (rs [o 2 (.mv (.c v))] [2]
 (.ret [2]))))))))⟩

def xf_rejoin_Response : XFunc := ⟨none, none, true, 3, [.cell 6 (some 12), .tmp 7, .tmp 8], (rs [o 3 (bx 0), o 4 (bx 1), o 5 (bx 2), o 6 (.alloc l1), o 7 (.mv (.c (.nil 71 19 false))), o 8 (.mv (j 0))] [3, 4, 5, 6]
 (rs [ol 9 4 3, ol 10 12 4, ol 11 18 5, o 12 (.call (fc 48) [(j 10), (.s 9), (.s 10), (.s 11)]), o 13 (e 12 0), o 14 (e 12 1), o 15 (e 12 2), p (t 12 6 13), om 7 14, om 8 15] [6, 7, 8]
 (.ret [6, 7, 8])))⟩

def xf_ref12_Response : XFunc := ⟨none, none, true, 3, [.cell 6 (some 12), .tmp 7, .tmp 8], (rs [o 3 (bx 0), o 4 (bx 1), o 5 (bx 2), o 6 (.alloc l1), o 7 (.mv (.c (.nil 71 19 false))), o 8 (.mv (j 0))] [3, 4, 5, 6]
 (rs [ol 16 4 3, ol 17 12 4, o 18 (c 24 [16, 17]), om 9 18] [3, 4, 5, 6, 9]
 (.seq (ss [am 19 9, a 20 (qj 19 0), am 21 20, b 22 (f 0 5) 21, b 23 (k 22) 21, b 24 (nj 23 10) 21, a 25 (ka 21 24)] [3, 4, 5, 6, 9, 25]
 (.cond (.s 25) (.reg [o 9 (.mv (j 70))] none [3, 4, 5, 6, 9]) .skip))
 (.seq (rs [om 26 9, o 27 (qj 26 0)] [3, 4, 5, 6, 9, 27]
 (.cond (.s 27) (.reg [ol 28 4 3, ol 29 18 5, o 30 (c 25 [28, 29]), om 9 30] none [3, 4, 5, 6, 9]) .skip))
 (.seq (rs [om 31 9, o 32 (nj 31 0)] [3, 4, 5, 6, 9, 32]
 (.cond (.s 32) (rs [o 33 (.build l1 []), om 34 9, p (t 12 6 33), o 7 (.mv (.c (.nil 71 19 false))), om 8 34] [6, 7, 8]
 (.ret [6, 7, 8])) .skip))
 (rs [ol 36 4 3, ol 37 12 4, ol 38 18 5, o 39 (c 58 [36, 37, 38]), om 35 39, o 40 (e 35 0), o 41 (e 35 1), o 42 (e 35 2), o 10 (.alloc l1), p (t 12 10 40), om 11 41, om 12 42] [3, 5, 6, 10, 11]
 (.seq (sp (some []) [am 43 11, a 44 (nt 43), am 45 44, d 46 (f 1 10) 45, d 47 (k 46) 45, d 48 (nj 47 3) 45, a 49 (ko 45 48), am 50 49, d 51 (f 14 5) 50, d 52 (l 2 51) 50, d 53 (f 6 10) 50, d 54 (k 53) 50, d 55 (f 0 10) 50, d 56 (k 55) 50, r 57 (ia 2 54 56) 50, r 58 (l 2 57) 50, r 59 (.eqv true true [.i, .i] (.s 52) (.s 58)) 50, a 60 (ko 50 59)] [3, 5, 6, 10, 60]
 (.cond (.s 60) (rs [ol 61 12 10, p (t 12 6 61), o 7 (.mv (.c (.nil 71 19 false))), o 8 (.mv (j 0))] [6, 7, 8]
 (.ret [6, 7, 8])) .skip))
 (rp (some []) [of 62 11 10, o 63 (k 62), of 64 1 5, o 65 (k 64), of 66 6 10, o 67 (k 66), of 68 1 5, o 69 (k 68), o 70 (ia 2 67 69), ol 71 2 70, of 72 2 5, o 73 (k 72), of 74 12 5, o 75 (k 74), of 76 16 5, o 77 (k 76), o 78 (.build l2 [(0, 1, (.s 65)), (1, 2, (.s 71)), (3, 1, (.s 73)), (4, 1, (.s 75)), (5, 1, (.s 77))]), o 79 (c 59 [63, 78]), of 80 11 10, p (t 1 80 79)] [3, 6, 10]
 (rs [of 82 0 3, o 83 (k 82), of 84 11 10, o 85 (k 84), o 86 (c 60 [83, 85]), om 81 86, o 87 (e 81 0), o 88 (e 81 1), o 13 (.alloc l2), p (t 6 13 87), om 9 88] [3, 6, 9, 10, 13]
 (.seq (rs [om 89 9, o 90 (nj 89 0)] [3, 6, 10, 13, 90]
 (.cond (.s 90) (rs [ol 91 12 10, p (t 12 6 91), o 7 (.mv (.c (.nil 71 19 false))), o 8 (.mv (j 0))] [6, 7, 8]
 (.ret [6, 7, 8])) .skip))
 (rs [ol 93 4 3, ol 94 12 10, of 95 3 13, o 96 (k 95), of 97 5 13, o 98 (k 97), of 99 4 13, o 100 (k 99), o 101 (c 61 [93, 94, 96, 98, 100]), om 92 101, o 102 (e 92 0), o 103 (e 92 1), o 14 (.alloc l1), p (t 12 14 102), om 15 103] [6, 14, 15]
 (rs [ol 104 12 14, om 105 15, p (t 12 6 104), om 7 105, o 8 (.mv (j 0))] [6, 7, 8]
 (.ret [6, 7, 8])))))))))))))⟩

def xf_ref09_Check : XFunc := ⟨none, none, true, 2, [.tmp 4], (rs [o 2 (bx 0), o 3 (bx 1), o 4 (.mv (j 0))] [2, 3]
 (rs [ol 6 4 2, o 7 (c 62 [6]), om 5 7] [2, 3, 5]
 (.seq (ss [am 8 5, a 9 (qj 8 0), am 10 9, b 11 (l 4 2) 10, b 12 (l 12 3) 10, u 13 (c 63 [11, 12]) 10, u 14 (nt 13) 10, a 15 (ka 10 14)] [5, 15]
 (.cond (.s 15) (.reg [o 5 (.mv (j 2))] none [5]) .skip))
 (rs [om 16 5, om 4 16] [4]
 (.ret [4])))))⟩

def xf_ref07_Check : XFunc := ⟨none, none, true, 2, [.tmp 4], (rs [o 2 (bx 0), o 3 (bx 1), o 4 (.mv (j 0))] [2, 3]
 (.seq (rs [ol 7 4 2, o 8 (c 64 [7]), o 9 (nt 8)] [2, 3, 9]
 (.cond (.s 9) (rs [o 4 (.mv (j 1))] [4]
 (.ret [4])) .skip))
 (rs [of 10 0 3, o 11 (k 10), om 5 11] [2, 3, 5]
 (rs [om 12 5, o 13 (c 65 [12]), om 6 13] [2, 3, 5, 6]
 (.seq (rs [om 14 6, o 15 (le 14), o 16 (qj 15 0)] [2, 3, 5, 6, 16]
 (.cond (.s 16) (rs [o 4 (.mv (j 70))] [4]
 (.ret [4])) .skip))
 (.seq (ss [a 17 (l 18 3), am 18 6, a 19 (c 66 [17, 18]), a 20 (nt 19), am 21 20, d 22 (l 4 2) 21, d 23 (l 18 3) 21, d 24 (m 5) 21, d 25 (m 6) 21, r 26 (c 67 [22, 23, 24, 25]) 21, r 27 (nt 26) 21, a 28 (ko 21 27)] [28]
 (.cond (.s 28) (rs [o 4 (.mv (j 71))] [4]
 (.ret [4])) .skip))
 (rs [o 4 (.mv (j 0))] [4]
 (.ret [4]))))))))⟩

def xf_ref02_Compare : XFunc := ⟨none, none, true, 2, [.tmp 4], (rs [o 2 (bx 0), o 3 (bx 1), o 4 (.mv (j 0))] [2, 3]
 (.seq (rs [of 5 0 2, o 6 (k 5), of 7 0 3, o 8 (k 7), o 9 (n 6 8)] [2, 3, 9]
 (.cond (.s 9) (.seq (rs [of 10 0 2, o 11 (k 10), of 12 0 3, o 13 (k 12), o 14 (bl 11 13)] [14]
 (.cond (.s 14) (rs [o 4 (.mv (j (-1)))] [4]
 (.ret [4])) .skip))
 (rs [o 4 (.mv (j 1))] [4]
 (.ret [4]))) .skip))
 (.seq (rs [of 15 1 2, o 16 (k 15), of 17 1 3, o 18 (k 17), o 19 (bl 16 18)] [2, 3, 19]
 (.cond (.s 19) (rs [o 4 (.mv (j (-1)))] [4]
 (.ret [4])) .skip))
 (.seq (rs [of 20 1 2, o 21 (k 20), of 22 1 3, o 23 (k 22), o 24 (bg 21 23)] [24]
 (.cond (.s 24) (rs [o 4 (.mv (j 1))] [4]
 (.ret [4])) .skip))
 (rs [o 4 (.mv (j 0))] [4]
 (.ret [4]))))))⟩

def xf_plain_SameEntries_k0 : List (Nat × Option (Nat × Nat × Bool)) := [(0, none), (1, none), (5, none)]
def xf_plain_SameEntries_b0 : XCode := (.seq (rs [om 11 5, om 12 0, o 13 (le 12), o 14 (bl 11 13)] [0, 1, 5, 14]
 (.cond (.s 14) .skip (.exit 0 [])))
 (.seq (.block 1 (rp (some []) [om 17 0, om 18 5, o 19 (ia 5 17 18), ol 20 5 19, om 21 1, om 22 5, o 23 (ia 5 21 22), ol 24 5 23, o 25 (.eqv true true [.i, .i, .i, .i, .s] (.s 20) (.s 24))] [0, 1, 5, 25]
 (.cond (.s 25) (rs [o 4 (.mv (.c w))] [4]
 (.ret [4])) .skip)))
 (.reg [om 15 5, o 16 (baj 15 1), om 5 16] none [0, 1, 5])))
def xf_plain_SameEntries : XFunc := ⟨none, none, true, 2, [.tmp 4], (rs [o 4 (.mv (.c w))] [0, 1]
 (.seq (rs [om 6 0, o 7 (le 6), om 8 1, o 9 (le 8), o 10 (n 7 9)] [0, 1, 10]
 (.cond (.s 10) (rs [o 4 (.mv (.c w))] [4]
 (.ret [4])) .skip))
 (.seq (rs [o 5 (.mv (j 0))] [0, 1, 5]
 (.block 0 (.loop xf_plain_SameEntries_k0 xf_plain_SameEntries_b0)))
 (rs [o 4 (.mv (.c v))] [4]
 (.ret [4])))))⟩

def xf_rejoin_GetState : XFunc := ⟨none, none, true, 3, [.cell 6 (some 12), .tmp 7, .tmp 8], (rs [o 3 (bx 0), o 4 (bx 1), o 5 (bx 2), o 6 (.alloc l1), o 7 (.mv (.c (.nil 71 19 false))), o 8 (.mv (j 0))] [3, 4, 5, 6]
 (rs [ol 9 4 3, ol 10 12 4, ol 11 18 5, o 12 (.call (fc 48) [(j 11), (.s 9), (.s 10), (.s 11)]), o 13 (e 12 0), o 14 (e 12 1), o 15 (e 12 2), p (t 12 6 13), om 7 14, om 8 15] [6, 7, 8]
 (.ret [6, 7, 8])))⟩

def xf_ref12_GetState : XFunc := ⟨none, none, true, 3, [.cell 6 (some 12), .tmp 7, .tmp 8], (rs [o 3 (bx 0), o 4 (bx 1), o 5 (bx 2), o 6 (.alloc l1), o 7 (.mv (.c (.nil 71 19 false))), o 8 (.mv (j 0))] [3, 4, 5, 6]
 (rs [ol 13 4 3, ol 14 12 4, ol 15 18 5, o 16 (.call (fc 52) [(.s 13), (.s 14), (.s 15), (j 11)]), om 12 16, o 17 (e 12 0), o 18 (e 12 1), o 19 (e 12 2), o 9 (.alloc l1), p (t 12 9 17), om 10 18, om 11 19] [3, 5, 6, 9, 10, 11]
 (.seq (ss [am 20 10, a 21 (nt 20), am 22 21, d 23 (l 12 9) 22, r 24 (c 53 [23]) 22, r 25 (nt 24) 22, a 26 (ko 22 25), am 27 26, d 28 (f 2 5) 27, d 29 (k 28) 27, d 30 (f 2 9) 27, d 31 (k 30) 27, d 32 (n 29 31) 27, a 33 (ko 27 32)] [3, 5, 6, 9, 11, 33]
 (.cond (.s 33) (rs [ol 34 12 9, om 35 11, p (t 12 6 34), o 7 (.mv (.c (.nil 71 19 false))), om 8 35] [6, 7, 8]
 (.ret [6, 7, 8])) .skip))
 (rp (some [(0, 12)]) [ol 36 12 9, ol 37 4 3, ol 38 12 9, of 39 1 5, o 40 (k 39), of 41 2 9, o 42 (k 41), of 43 4 9, o 44 (k 43), of 45 5 9, o 46 (k 45), o 47 (.build l4 [(0, 1, (j 12)), (2, 1, (.s 42)), (16, 1, (.s 44)), (12, 1, (.s 46))]), o 48 (c 55 [37, 38, 40, 47]), p (t 12 6 36), om 7 48, o 8 (.mv (j 0))] [6, 7, 8]
 (.ret [6, 7, 8])))))⟩

def xf_rejoin_NewState : XFunc := ⟨none, none, true, 3, [.cell 6 (some 12), .tmp 7, .tmp 8], (rs [o 3 (bx 0), o 4 (bx 1), o 5 (bx 2), o 6 (.alloc l1), o 7 (.mv (.c (.nil 71 19 false))), o 8 (.mv (j 0))] [3, 4, 5, 6]
 (rs [ol 9 4 3, ol 10 12 4, ol 11 18 5, o 12 (.call (fc 48) [(j 12), (.s 9), (.s 10), (.s 11)]), o 13 (e 12 0), o 14 (e 12 1), o 15 (e 12 2), p (t 12 6 13), om 7 14, om 8 15] [6, 7, 8]
 (.ret [6, 7, 8])))⟩

def xf_ref12_NewState : XFunc := ⟨none, none, true, 3, [.cell 6 (some 12), .tmp 7, .tmp 8], (rs [o 3 (bx 0), o 4 (bx 1), o 5 (bx 2), o 6 (.alloc l1), o 7 (.mv (.c (.nil 71 19 false))), o 8 (.mv (j 0))] [3, 4, 5, 6]
 (rs [ol 15 4 3, ol 16 12 4, ol 17 18 5, o 18 (.call (fc 52) [(.s 15), (.s 16), (.s 17), (j 12)]), om 14 18, o 19 (e 14 0), o 20 (e 14 1), o 21 (e 14 2), o 9 (.alloc l1), p (t 12 9 19), om 10 20, om 11 21] [3, 5, 6, 9, 10, 11]
 (.seq (rp (some []) [om 22 10, o 23 (nt 22), om 24 23, h 25 (f 0 9) 24, h 26 (k 25) 24, h 27 (f 2 5) 24, h 28 (k 27) 24, h 29 (f 0 3) 24, h 30 (k 29) 24, h 31 (.bin .mul (j 2) (.s 30)) 24, h 32 (baj 31 1) 24, h 33 (.bin .rem (.s 28) (.s 32)) 24, h 34 (q 26 33) 24, o 35 (ko 24 34), om 36 35, h 37 (f 2 5) 36, h 38 (k 37) 36, h 39 (f 2 9) 36, h 40 (k 39) 36, h 41 (bl 38 40) 36, o 42 (ko 36 41), om 43 42, h 44 (f 2 5) 43, h 45 (k 44) 43, h 46 (f 2 9) 43, h 47 (k 46) 43, h 48 (q 45 47) 43, h 49 (m 48) 43, g 50 (l 12 9) 49, g 51 (c 53 [50]) 49, h 52 (ka 49 51) 43, h 53 (m 52) 43, g 54 (f 16 5) 53, g 55 (k 54) 53, g 56 (le 55) 53, g 57 (f 4 9) 53, g 58 (k 57) 53, g 59 (le 58) 53, g 60 (bm 56 59) 53, h 61 (ka 53 60) 43, o 62 (ko 43 61)] [3, 5, 6, 9, 11, 62]
 (.cond (.s 62) (rs [ol 63 12 9, om 64 11, p (t 12 6 63), o 7 (.mv (.c (.nil 71 19 false))), om 8 64] [6, 7, 8]
 (.ret [6, 7, 8])) .skip))
 (rs [ol 66 4 3, ol 67 12 9, of 68 2 5, o 69 (k 68), of 70 16 5, o 71 (k 70), of 72 5 9, o 73 (k 72), of 74 12 5, o 75 (k 74), o 76 (.mm true (.s 73) (.s 75)), o 77 (c 61 [66, 67, 69, 71, 76]), om 65 77, o 78 (e 65 0), o 79 (e 65 1), o 12 (.alloc l1), p (t 12 12 78), om 13 79] [6, 12, 13]
 (rs [ol 80 12 12, om 81 13, p (t 12 6 80), om 7 81, o 8 (.mv (j 0))] [6, 7, 8]
 (.ret [6, 7, 8]))))))⟩

def xf_plain_SameVector_k0 : List (Nat × Option (Nat × Nat × Bool)) := [(0, none), (1, none), (5, none)]
def xf_plain_SameVector_b0 : XCode := (.seq (rs [om 11 5, om 12 0, o 13 (le 12), o 14 (bl 11 13)] [0, 1, 5, 14]
 (.cond (.s 14) .skip (.exit 0 [])))
 (.seq (.block 1 (rp (some []) [om 17 0, om 18 5, o 19 (ia 2 17 18), ol 20 2 19, om 21 1, om 22 5, o 23 (ia 2 21 22), ol 24 2 23, o 25 (.eqv true true [.i, .i] (.s 20) (.s 24))] [0, 1, 5, 25]
 (.cond (.s 25) (rs [o 4 (.mv (.c w))] [4]
 (.ret [4])) .skip)))
 (.reg [om 15 5, o 16 (baj 15 1), om 5 16] none [0, 1, 5])))
def xf_plain_SameVector : XFunc := ⟨none, none, true, 2, [.tmp 4], (rs [o 4 (.mv (.c w))] [0, 1]
 (.seq (rs [om 6 0, o 7 (le 6), om 8 1, o 9 (le 8), o 10 (n 7 9)] [0, 1, 10]
 (.cond (.s 10) (rs [o 4 (.mv (.c w))] [4]
 (.ret [4])) .skip))
 (.seq (rs [o 5 (.mv (j 0))] [0, 1, 5]
 (.block 0 (.loop xf_plain_SameVector_k0 xf_plain_SameVector_b0)))
 (rs [o 4 (.mv (.c v))] [4]
 (.ret [4])))))⟩

def xf_plain_CopyVector : XFunc := ⟨none, none, false, 1, [.tmp 2], (rs [o 2 (.mv (.c (.nil 26 2 true)))] [0]
 (rs [om 3 0, o 4 (.app 26 2 16 true (.c (.nil 26 2 true)) (.s 3)), om 2 4] [2]
 (.ret [2])))⟩

def xf_ref09_Pruned_k0 : List (Nat × Option (Nat × Nat × Bool)) := [(1, none), (2, none), (3, none), (4, none)]
def xf_ref09_Pruned_b0 : XCode := (.seq (rs [om 11 4, of 12 8 1, o 13 (k 12), o 14 (le 13), o 15 (bl 11 14)] [1, 2, 3, 4, 15]
 (.cond (.s 15) .skip (.exit 0 [1, 2, 3])))
 (.seq (.block 1 (rp (some []) [of 18 8 1, o 19 (k 18), om 20 4, o 21 (ia 4 19 20), of 22 1 21, ol 23 2 22, of 24 6 1, o 25 (k 24), of 26 8 1, o 27 (k 26), om 28 4, o 29 (ia 4 27 28), of 30 0 29, o 31 (k 30), o 32 (ia 2 25 31), ol 33 2 32, o 34 (c 68 [23, 33]), o 35 (nt 34)] [1, 2, 3, 4, 35]
 (.cond (.s 35) (.reg [of 36 8 3, o 37 (k 36), of 38 8 1, o 39 (k 38), om 40 4, o 41 (ia 4 39 40), ol 42 4 41, o 43 (.bsl 123 4 true 1 l9 [(0, 4, (.s 42))]), o 44 (.app 123 4 32 true (.s 37) (.s 43)), of 45 8 3, p (t 1 45 44)] (some [(1, 7)]) [1, 2, 3, 4]) .skip)))
 (.reg [om 16 4, o 17 (baj 16 1), om 4 17] none [1, 2, 3, 4])))
def xf_ref09_Pruned_k1 : List (Nat × Option (Nat × Nat × Bool)) := [(1, none), (2, none), (3, none), (5, none)]
def xf_ref09_Pruned_b1 : XCode := (.seq (rs [om 47 5, of 48 9 1, o 49 (k 48), o 50 (le 49), o 51 (bl 47 50)] [1, 2, 3, 5, 51]
 (.cond (.s 51) .skip (.exit 2 [1, 2, 3])))
 (.seq (.block 3 (rp (some []) [of 54 9 1, o 55 (k 54), om 56 5, o 57 (ia 3 55 56), of 58 1 57, ol 59 2 58, of 60 6 1, o 61 (k 60), of 62 9 1, o 63 (k 62), om 64 5, o 65 (ia 3 63 64), of 66 0 65, o 67 (k 66), o 68 (ia 2 61 67), ol 69 2 68, o 70 (c 68 [59, 69]), o 71 (nt 70)] [1, 2, 3, 5, 71]
 (.cond (.s 71) (.reg [of 72 9 3, o 73 (k 72), of 74 9 1, o 75 (k 74), om 76 5, o 77 (ia 3 75 76), ol 78 3 77, o 79 (.bsl 125 3 true 1 l7 [(0, 3, (.s 78))]), o 80 (.app 125 3 24 true (.s 73) (.s 79)), of 81 9 3, p (t 1 81 80)] (some [(1, 7)]) [1, 2, 3, 5]) .skip)))
 (.reg [om 52 5, o 53 (baj 52 1), om 5 53] none [1, 2, 3, 5])))
def xf_ref09_Pruned_k2 : List (Nat × Option (Nat × Nat × Bool)) := [(1, none), (2, none), (3, none), (6, none)]
def xf_ref09_Pruned_b2 : XCode := (.seq (rs [om 83 6, of 84 10 1, o 85 (k 84), o 86 (le 85), o 87 (bl 83 86)] [1, 2, 3, 6, 87]
 (.cond (.s 87) .skip (.exit 4 [1, 2, 3])))
 (.seq (.block 5 (rp (some []) [of 90 10 1, o 91 (k 90), om 92 6, o 93 (ia 6 91 92), of 94 1 93, ol 95 2 94, of 96 6 1, o 97 (k 96), of 98 10 1, o 99 (k 98), om 100 6, o 101 (ia 6 99 100), of 102 0 101, o 103 (k 102), o 104 (ia 2 97 103), ol 105 2 104, o 106 (c 68 [95, 105]), o 107 (nt 106)] [1, 2, 3, 6, 107]
 (.cond (.s 107) (.reg [of 108 10 3, o 109 (k 108), of 110 10 1, o 111 (k 110), om 112 6, o 113 (ia 6 111 112), ol 114 6 113, o 115 (.bsl 98 6 false 1 l2 [(0, 6, (.s 114))]), o 116 (.app 98 6 64 false (.s 109) (.s 115)), of 117 10 3, p (t 1 117 116)] (some [(1, 7)]) [1, 2, 3, 6]) .skip)))
 (.reg [om 88 6, o 89 (baj 88 1), om 6 89] none [1, 2, 3, 6])))
def xf_ref09_Pruned_k3 : List (Nat × Option (Nat × Nat × Bool)) := [(1, none), (2, none), (3, none), (7, none)]
def xf_ref09_Pruned_b3 : XCode := (.seq (rs [om 119 7, of 120 11 1, o 121 (k 120), o 122 (le 121), o 123 (bl 119 122)] [1, 2, 3, 7, 123]
 (.cond (.s 123) .skip (.exit 6 [2, 3])))
 (.seq (.block 7 (rp (some []) [of 126 11 1, o 127 (k 126), om 128 7, o 129 (ia 6 127 128), of 130 1 129, ol 131 2 130, of 132 6 1, o 133 (k 132), of 134 11 1, o 135 (k 134), om 136 7, o 137 (ia 6 135 136), of 138 0 137, o 139 (k 138), o 140 (ia 2 133 139), ol 141 2 140, o 142 (c 68 [131, 141]), o 143 (nt 142)] [1, 2, 3, 7, 143]
 (.cond (.s 143) (.reg [of 144 11 3, o 145 (k 144), of 146 11 1, o 147 (k 146), om 148 7, o 149 (ia 6 147 148), ol 150 6 149, o 151 (.bsl 100 6 false 1 l2 [(0, 6, (.s 150))]), o 152 (.app 100 6 64 false (.s 145) (.s 151)), of 153 11 3, p (t 1 153 152)] (some [(1, 7)]) [1, 2, 3, 7]) .skip)))
 (.reg [om 124 7, o 125 (baj 124 1), om 7 125] none [1, 2, 3, 7])))
def xf_ref09_Pruned : XFunc := ⟨none, none, false, 1, [.cell 2 (some 12)], (rs [o 1 (bx 0), o 2 (.alloc l1)] [1, 2]
 (rs [ol 8 12 1, o 9 (c 49 [8]), o 3 (.alloc l1), p (t 12 3 9)] [1, 2, 3]
 (rs [of 10 8 3, p (.store 1 (.s 10) (.c (.nil 123 4 true)))] [1, 2, 3]
 (.seq (rs [o 4 (.mv (j 0))] [1, 2, 3, 4]
 (.block 0 (.loop xf_ref09_Pruned_k0 xf_ref09_Pruned_b0)))
 (rs [of 46 9 3, p (.store 1 (.s 46) (.c (.nil 125 3 true)))] [1, 2, 3]
 (.seq (rs [o 5 (.mv (j 0))] [1, 2, 3, 5]
 (.block 2 (.loop xf_ref09_Pruned_k1 xf_ref09_Pruned_b1)))
 (rs [of 82 10 3, p (.store 1 (.s 82) (.c (.nil 98 6 false)))] [1, 2, 3]
 (.seq (rs [o 6 (.mv (j 0))] [1, 2, 3, 6]
 (.block 4 (.loop xf_ref09_Pruned_k2 xf_ref09_Pruned_b2)))
 (rs [of 118 11 3, p (.store 1 (.s 118) (.c (.nil 100 6 false)))] [1, 2, 3]
 (.seq (rs [o 7 (.mv (j 0))] [1, 2, 3, 7]
 (.block 6 (.loop xf_ref09_Pruned_k3 xf_ref09_Pruned_b3)))
 (rs [ol 154 12 3, p (t 12 2 154)] [2]
 (.ret [2]))))))))))))⟩

def xf_ref09_One : XFunc := ⟨none, none, true, 4, [.cell 8 (some 19), .tmp 9], (rs [o 4 (bx 0), o 5 (bx 1), o 7 (bx 3), o 8 (.alloc l3), o 9 (.mv (j 0))] [2, 4, 5, 7, 8]
 (rs [ol 14 4 4, ol 15 12 5, o 16 (c 24 [14, 15]), om 10 16] [2, 4, 5, 7, 8, 10]
 (rs [ol 17 4 4, o 18 (c 69 [17]), om 11 18] [2, 5, 7, 8, 10, 11]
 (ss [am 19 2, a 20 (bhj 19 0), am 21 20, bb 22 2 21, bb 23 11 21, b 24 (bl 22 23) 21, a 25 (ka 21 24), am 26 25, bb 27 2 26, b 28 (f 0 5) 26, b 29 (k 28) 26, b 30 (n 27 29) 26, a 31 (ka 26 30), am 12 31] [2, 5, 7, 8, 10, 12]
 (ss [am 32 2, a 33 (bhj 32 7), am 34 33, bb 35 2 34, b 36 (blj 35 23) 34, a 37 (ka 34 36), am 13 37] [2, 5, 7, 8, 10, 12, 13]
 (.seq (ss [am 38 10, a 39 (qj 38 0), am 40 39, bb 41 12 40, b 42 (nt 41) 40, a 43 (ka 40 42), am 44 43, bb 45 13 44, b 46 (nt 45) 44, a 47 (ka 44 46)] [2, 5, 7, 8, 10, 47]
 (.cond (.s 47) (.reg [o 10 (.mv (j 3))] none [2, 5, 7, 8, 10]) .skip))
 (.seq (rs [om 48 10, o 49 (nj 48 0)] [2, 5, 7, 8, 10, 49]
 (.cond (.s 49) (rs [o 50 (.build l3 []), om 51 10, p (t 19 8 50), om 9 51] [8, 9]
 (.ret [8, 9])) .skip))
 (rs [om 52 2, ol 53 12 5, ol 54 18 7, o 55 (c 70 [53, 54]), o 56 (.build l3 [(0, 1, (.s 52)), (1, 18, (.s 55))]), p (t 19 8 56), o 9 (.mv (j 0))] [8, 9]
 (.ret [8, 9])))))))))⟩

def xf_plain_SameState : XFunc := ⟨none, none, true, 2, [.tmp 4], (rs [o 2 (bx 0), o 3 (bx 1), o 4 (.mv (.c w))] [2, 3]
 (ss [a 5 (f 0 2), a 6 (k 5), a 7 (f 0 3), a 8 (k 7), a 9 (q 6 8), am 10 9, b 11 (f 1 2) 10, b 12 (k 11) 10, b 13 (f 1 3) 10, b 14 (k 13) 10, b 15 (q 12 14) 10, a 16 (ka 10 15), am 17 16, b 18 (f 2 2) 17, b 19 (k 18) 17, b 20 (f 2 3) 17, b 21 (k 20) 17, b 22 (q 19 21) 17, a 23 (ka 17 22), am 24 23, b 25 (f 3 2) 24, b 26 (k 25) 24, b 27 (f 3 3) 24, b 28 (k 27) 24, b 29 (q 26 28) 24, a 30 (ka 24 29), am 31 30, b 32 (f 5 2) 31, b 33 (k 32) 31, b 34 (f 5 3) 31, b 35 (k 34) 31, b 36 (q 33 35) 31, a 37 (ka 31 36), am 38 37, b 39 (f 7 2) 38, b 40 (k 39) 38, b 41 (f 7 3) 38, b 42 (k 41) 38, b 43 (q 40 42) 38, a 44 (ka 38 43), am 45 44, b 46 (f 4 2) 45, b 47 (k 46) 45, b 48 (f 4 3) 45, b 49 (k 48) 45, u 50 (c 27 [47, 49]) 45, a 51 (ka 45 50), am 52 51, b 53 (f 6 2) 52, b 54 (k 53) 52, b 55 (f 6 3) 52, b 56 (k 55) 52, u 57 (c 34 [54, 56]) 52, a 58 (ka 52 57), am 59 58, b 60 (f 8 2) 59, b 61 (k 60) 59, b 62 (f 8 3) 59, b 63 (k 62) 59, u 64 (c 71 [61, 63]) 59, a 65 (ka 59 64), am 66 65, b 67 (f 9 2) 66, b 68 (k 67) 66, b 69 (f 9 3) 66, b 70 (k 69) 66, u 71 (c 72 [68, 70]) 66, a 72 (ka 66 71), am 73 72, b 74 (f 10 2) 73, b 75 (k 74) 73, b 76 (f 10 3) 73, b 77 (k 76) 73, u 78 (c 73 [75, 77]) 73, a 79 (ka 73 78), am 80 79, b 81 (f 11 2) 80, b 82 (k 81) 80, b 83 (f 11 3) 80, b 84 (k 83) 80, u 85 (c 74 [82, 84]) 80, a 86 (ka 80 85), am 4 86] [4]
 (.ret [4])))⟩

def xf_rejoin_Ask : XFunc := ⟨none, none, true, 2, [.cell 4 (some 12), .tmp 5, .tmp 6], (rs [o 2 (bx 0), o 3 (bx 1), o 4 (.alloc l1), o 5 (.mv (.c (.nil 71 19 false))), o 6 (.mv (j 0))] [2, 3, 4]
 (.seq (rs [ol 11 4 2, ol 12 12 3, o 13 (c 75 [11, 12]), om 7 13] [2, 3, 4, 7]
 (rs [om 14 7, o 15 (nj 14 0)] [2, 3, 4, 7, 15]
 (.cond (.s 15) (rs [o 16 (.build l1 []), om 17 7, p (t 12 4 16), o 5 (.mv (.c (.nil 71 19 false))), om 6 17] [4, 5, 6]
 (.ret [4, 5, 6])) .skip)))
 (.seq (rs [of 18 1 3, o 19 (k 18), o 20 (nj 19 3)] [2, 3, 4, 20]
 (.cond (.s 20) (rs [o 21 (.build l1 []), p (t 12 4 21), o 5 (.mv (.c (.nil 71 19 false))), o 6 (.mv (j 90))] [4, 5, 6]
 (.ret [4, 5, 6])) .skip))
 (rs [ol 23 4 2, ol 24 12 3, o 25 (c 76 [23, 24]), om 22 25, o 26 (e 22 0), o 27 (e 22 1), o 28 (e 22 2), o 8 (.alloc l1), p (t 12 8 26), om 9 27, om 10 28] [2, 3, 4, 8, 10]
 (rp (some [(0, 3)]) [ol 29 12 8, ol 30 4 2, ol 31 12 3, o 32 (c 44 [30, 31]), om 33 10, p (t 12 4 29), om 5 32, om 6 33] [4, 5, 6]
 (.ret [4, 5, 6]))))))⟩

def xf_ref12_Ask : XFunc := ⟨none, none, true, 2, [.cell 4 (some 12), .tmp 5, .tmp 6], (rs [o 2 (bx 0), o 3 (bx 1), o 4 (.alloc l1), o 5 (.mv (.c (.nil 71 19 false))), o 6 (.mv (j 0))] [2, 3, 4]
 (rs [ol 9 4 2, ol 10 12 3, o 11 (c 24 [9, 10]), om 7 11] [2, 3, 4, 7]
 (.seq (ss [am 12 7, a 13 (qj 12 0), am 14 13, b 15 (f 1 3) 14, b 16 (k 15) 14, b 17 (nj 16 3) 14, a 18 (ka 14 17)] [2, 3, 4, 7, 18]
 (.cond (.s 18) (.reg [o 7 (.mv (j 90))] none [2, 3, 4, 7]) .skip))
 (.seq (rs [om 19 7, o 20 (nj 19 0)] [2, 3, 4, 7, 20]
 (.cond (.s 20) (rs [o 21 (.build l1 []), om 22 7, p (t 12 4 21), o 5 (.mv (.c (.nil 71 19 false))), om 6 22] [4, 5, 6]
 (.ret [4, 5, 6])) .skip))
 (rs [ol 23 12 3, o 24 (c 49 [23]), o 8 (.alloc l1), p (t 12 8 24)] [2, 4, 8]
 (rp (some [(0, 3)]) [ol 25 12 8, ol 26 4 2, ol 27 12 8, o 28 (c 46 [26, 27]), p (t 12 4 25), om 5 28, o 6 (.mv (j 0))] [4, 5, 6]
 (.ret [4, 5, 6])))))))⟩

def xf_core_Reborn : XFunc := ⟨none, none, true, 3, [.cell 6 (some 12), .tmp 7], (rs [o 3 (bx 0), o 5 (bx 2), o 6 (.alloc l1), o 7 (.mv (j 0))] [1, 3, 5, 6]
 (rs [ol 11 4 3, om 12 1, o 13 (c 78 [11, 12]), om 8 13] [1, 3, 5, 6, 8]
 (.seq (ss [am 14 8, a 15 (qj 14 0), am 16 15, b 17 (l 2 5) 16, b 18 (.build [y, y] []) 16, b 19 (.eqv false true [.i, .i] (.s 17) (.s 18)) 16, a 20 (ka 16 19)] [1, 3, 5, 6, 8, 20]
 (.cond (.s 20) (.reg [o 8 (.mv (j 3))] none [1, 3, 5, 6, 8]) .skip))
 (.seq (rs [om 21 8, o 22 (nj 21 0)] [1, 3, 5, 6, 8, 22]
 (.cond (.s 22) (rs [o 23 (.build l1 []), om 24 8, p (t 12 6 23), om 7 24] [6, 7]
 (.ret [6, 7])) .skip))
 (rs [ol 26 4 3, o 27 (c 80 [26]), o 28 (c 79 [27]), om 25 28, o 29 (e 25 0), o 30 (e 25 1), om 9 29, om 10 30] [1, 5, 6, 9]
 (rs [om 31 9, om 32 1, ol 33 2 5, o 34 (ia 2 31 32), p (t 2 34 33)] [1, 6, 9]
 (rs [om 35 1, om 36 9, o 37 (.build l1 [(0, 1, (.s 35)), (1, 1, (j 3)), (6, 1, (.s 36))]), p (t 12 6 37), o 7 (.mv (j 0))] [6, 7]
 (.ret [6, 7]))))))))⟩

def xf_rejoin_asking : XFunc := ⟨none, none, true, 2, [.tmp 4], (rs [o 2 (bx 0), o 3 (bx 1), o 4 (.mv (.c (.nil 71 19 false)))] [2, 3]
 (rp (some []) [ol 8 4 2, ol 9 12 3, of 10 6 3, o 11 (k 10), of 12 0 3, o 13 (k 12), o 14 (ia 2 11 13), ol 15 2 14, o 16 (.build l4 [(0, 1, (j 9)), (14, 2, (.s 15))]), o 17 (c 81 [8, 9, 16]), om 7 17, o 18 (e 7 0), o 19 (e 7 1), om 5 18, om 6 19] [5]
 (rs [om 20 5, om 4 20] [4]
 (.ret [4]))))⟩

def xf_ref09_Reborn : XFunc := ⟨none, none, true, 3, [.cell 6 (some 12), .tmp 7], (rs [o 3 (bx 0), o 5 (bx 2), o 6 (.alloc l1), o 7 (.mv (j 0))] [1, 3, 5, 6]
 (rs [ol 10 4 3, om 11 1, o 12 (c 82 [10, 11]), om 8 12] [1, 3, 5, 6, 8]
 (.seq (ss [am 13 8, a 14 (qj 13 0), am 15 14, b 16 (l 2 5) 15, b 17 (.build [y, y] []) 15, b 18 (.eqv false true [.i, .i] (.s 16) (.s 17)) 15, a 19 (ka 15 18)] [1, 3, 5, 6, 8, 19]
 (.cond (.s 19) (.reg [o 8 (.mv (j 3))] none [1, 3, 5, 6, 8]) .skip))
 (.seq (rs [om 20 8, o 21 (nj 20 0)] [1, 3, 5, 6, 8, 21]
 (.cond (.s 21) (rs [o 22 (.build l1 []), om 23 8, p (t 12 6 22), om 7 23] [6, 7]
 (.ret [6, 7])) .skip))
 (rs [om 24 1, ol 25 4 3, o 26 (c 69 [25]), o 27 (.mksl 26 2 16 true [y, y] (.s 26) (.s 26)), o 28 (.build l1 [(0, 1, (.s 24)), (1, 1, (j 3)), (6, 1, (.s 27))]), o 9 (.alloc l1), p (t 12 9 28)] [1, 5, 6, 9]
 (rs [of 29 6 9, o 30 (k 29), om 31 1, ol 32 2 5, o 33 (ia 2 30 31), p (t 2 33 32)] [6, 9]
 (rs [ol 34 12 9, p (t 12 6 34), o 7 (.mv (j 0))] [6, 7]
 (.ret [6, 7]))))))))⟩

def xf_ref12_recovery : XFunc := ⟨none, none, true, 2, [.tmp 4], (rs [o 2 (bx 0), o 3 (bx 1), o 4 (.mv (.c (.nil 71 19 false)))] [2, 3]
 (rp (some []) [ol 8 4 2, ol 9 12 3, of 10 6 3, o 11 (k 10), of 12 0 3, o 13 (k 12), o 14 (ia 2 11 13), ol 15 2 14, o 16 (.build l4 [(0, 1, (j 9)), (14, 2, (.s 15))]), o 17 (c 83 [8, 9, 16]), om 7 17, o 18 (e 7 0), o 19 (e 7 1), om 5 18, om 6 19] [5]
 (rs [om 20 5, om 4 20] [4]
 (.ret [4]))))⟩

def xf_plain_SameSends_k0 : List (Nat × Option (Nat × Nat × Bool)) := [(0, none), (1, none), (5, none)]
def xf_plain_SameSends_b0 : XCode := (.seq (rs [om 11 5, om 12 0, o 13 (le 12), o 14 (bl 11 13)] [0, 1, 5, 14]
 (.cond (.s 14) .skip (.exit 0 [])))
 (.seq (.block 1 (sp (some []) [am 17 0, am 18 5, a 19 (ia 19 17 18), a 20 (f 0 19), a 21 (k 20), am 22 1, am 23 5, a 24 (ia 19 22 23), a 25 (f 0 24), a 26 (k 25), a 27 (n 21 26), am 28 27, d 29 (m 0) 28, d 30 (m 5) 28, r 31 (ia 19 29 30) 28, r 32 (f 1 31) 28, r 33 (l 18 32) 28, d 34 (m 1) 28, d 35 (m 5) 28, r 36 (ia 19 34 35) 28, r 37 (f 1 36) 28, r 38 (l 18 37) 28, r 39 (c 84 [33, 38]) 28, r 40 (nt 39) 28, a 41 (ko 28 40)] [0, 1, 5, 41]
 (.cond (.s 41) (rs [o 4 (.mv (.c w))] [4]
 (.ret [4])) .skip)))
 (.reg [om 15 5, o 16 (baj 15 1), om 5 16] none [0, 1, 5])))
def xf_plain_SameSends : XFunc := ⟨none, none, true, 2, [.tmp 4], (rs [o 4 (.mv (.c w))] [0, 1]
 (.seq (rs [om 6 0, o 7 (le 6), om 8 1, o 9 (le 8), o 10 (n 7 9)] [0, 1, 10]
 (.cond (.s 10) (rs [o 4 (.mv (.c w))] [4]
 (.ret [4])) .skip))
 (.seq (rs [o 5 (.mv (j 0))] [0, 1, 5]
 (.block 0 (.loop xf_plain_SameSends_k0 xf_plain_SameSends_b0)))
 (rs [o 4 (.mv (.c v))] [4]
 (.ret [4])))))⟩

def xf_rejoin_run_rest : XCode := (.seq (.thr [ol 15 4 5, ol 16 12 6, o 17 (c 75 [15, 16])] 18 (.s 17) [0, 5, 6, 7, 8, 9, 10])
 (.seq (rs [of 19 0 7, o 20 (k 19), om 21 0, o 22 (n 20 21)] [0, 5, 6, 7, 8, 9, 10, 22]
 (.cond (.s 22) (.thr [] 23 (j 70) [0, 5, 6, 7, 8, 9, 10]) .skip))
 (.seq (.thr [ol 24 4 5, ol 25 18 7, o 26 (c 87 [24, 25])] 27 (.s 26) [0, 5, 6, 7, 8, 9, 10])
 (rs [ol 29 4 5, ol 30 12 6, ol 31 18 7, o 32 (c 88 [29, 30, 31]), om 28 32, o 33 (e 28 0), o 34 (e 28 1), o 35 (e 28 2), p (t 12 8 33), om 11 34, p (t 1 10 35)] [0, 5, 7, 8, 9, 10, 11]
 (.seq (.thr [o 36 (k 10)] 37 (.s 36) [0, 5, 7, 8, 9, 10, 11])
 (.seq (rs [om 38 11, o 39 (nt 38)] [0, 5, 7, 8, 9, 10, 39]
 (.cond (.s 39) (rs [ol 40 12 8, p (t 12 8 40), p (.store 1 (.s 9) (.c (.nil 71 19 false))), p (.store 1 (.s 10) (j 0))] [8, 9, 10]
 (.ret [8, 9, 10])) .skip))
 (rs [o 41 (.build [(.dat .nilf), (.dat .nilf), (.dat .nilf), (.dat .nilf), (.dat .nilf), (.dat .nilf), (.dat .nilf), (.dat .nilf), (.dat .nilf), (.dat .nilf), (.dat .nilf), (.dat .nilf), (.dat .nilf)] [(9, 1, (.c (.fn (.func 89) [] []))), (10, 1, (.c (.fn (.func 90) [] []))), (11, 1, (.c (.fn (.func 91) [] []))), (12, 1, (.c (.fn (.func 92) [] [])))]), o 12 (.alloc [(.dat .nilf), (.dat .nilf), (.dat .nilf), (.dat .nilf), (.dat .nilf), (.dat .nilf), (.dat .nilf), (.dat .nilf), (.dat .nilf), (.dat .nilf), (.dat .nilf), (.dat .nilf), (.dat .nilf)]), p (t 13 12 41)] [0, 5, 7, 8, 9, 10, 12]
 (rs [ol 42 4 5, ol 43 12 8, o 44 (.build [z, z, z, w, z, z, z, z, (.nil 50 5 true), z, (.nil 26 2 true), z, (.nil 123 4 true), (.nil 125 3 true), (.nil 98 6 false), (.nil 100 6 false), (.nil 71 19 false)] [(0, 4, (.s 42)), (4, 12, (.s 43))]), ol 45 18 7, o 46 (.build [z, z, z, w, z, z, z, z, (.nil 50 5 true), z, (.nil 26 2 true), z, (.nil 123 4 true), (.nil 125 3 true), (.nil 98 6 false), (.nil 100 6 false), (.nil 71 19 false), z, z, z, z, z, z, z, x, z, z, x, z, z, z, y, y, (.nil 50 5 true), (.nil 26 2 true)] [(0, 17, (.s 44)), (17, 18, (.s 45))]), o 47 (bx 46), om 13 47] [0, 8, 9, 10, 12, 13]
 (rs [om 48 0, o 49 (.aadr 1 13 (.s 12) (.s 48)), o 50 (k 49), om 51 13, o 52 (.call (.s 50) [(.s 51)])] [8, 9, 10, 13]
 (rp (some [(9, 10)]) [om 53 13, o 54 (nc 53), of 55 0 54, of 56 4 55, ol 57 12 56, om 58 13, o 59 (nc 58), of 60 0 59, of 61 16 60, o 62 (k 61), p (t 12 8 57), p (t 1 9 62), p (.store 1 (.s 10) (j 0))] [8, 9, 10]
 (.ret [8, 9, 10])))))))))))
def xf_rejoin_run_rec : XCode := (rs [om 10 3, o 11 (.tas 145 (.s 10)), om 9 11, o 12 (e 9 0), o 13 (e 9 1), o 4 (.alloc [z]), p (t 1 4 12), om 5 13] [0, 1, 2, 3, 4, 5]
 (.seq (rs [om 14 5, o 15 (nt 14)] [0, 1, 2, 3, 4, 15]
 (.cond (.s 15) (.reg [om 16 3, p .stop] none [0, 1, 2, 4]) .skip))
 (.reg [o 17 (.build l1 []), of 18 0 4, o 19 (k 18), p (t 12 0 17), p (.store 1 (.s 1) (.c (.nil 71 19 false))), p (t 1 2 19)] (some [(2, 3), (2, 4)]) [])))
def xf_rejoin_run : XFunc := ⟨none, some ⟨xf_rejoin_run_rest, xf_rejoin_run_rec, [8, 9, 10], 145, 3, 14⟩, true, 4, [.cell 8 (some 12), .cell 9 none, .cell 10 none], (.reg [o 5 (bx 1), o 6 (bx 2), o 7 (bx 3), o 8 (.alloc l1), o 9 (.alloc [(.nil 71 19 false)]), o 10 (.alloc [z])] none [0, 5, 6, 7, 8, 9, 10])⟩

def xf_plain_CopyState_k0 : List (Nat × Option (Nat × Nat × Bool)) := [(1, none), (2, none), (3, some (98, 6, false)), (4, none)]
def xf_plain_CopyState_b0 : XCode := (.seq (rs [om 25 4, of 26 10 1, o 27 (k 26), o 28 (le 27), o 29 (bl 25 28)] [1, 2, 3, 4, 29]
 (.cond (.s 29) .skip (.exit 0 [1, 2, 3])))
 (.seq (.block 1 (rs [of 32 10 1, o 33 (k 32), om 34 4, o 35 (ia 6 33 34), ol 36 6 35, o 5 (.alloc l2), p (t 6 5 36)] [1, 2, 3, 4, 5]
 (rs [of 37 5 5, o 38 (k 37), o 39 (c 93 [38]), of 40 5 5, p (t 1 40 39)] [1, 2, 3, 4, 5]
 (.reg [om 41 3, ol 42 6 5, o 43 (.bsl 98 6 false 1 l2 [(0, 6, (.s 42))]), o 44 (.app 98 6 64 false (.s 41) (.s 43)), om 3 44] none [1, 2, 3, 4]))))
 (.reg [om 30 4, o 31 (baj 30 1), om 4 31] none [1, 2, 3, 4])))
def xf_plain_CopyState_k1 : List (Nat × Option (Nat × Nat × Bool)) := [(1, none), (2, none), (6, some (100, 6, false)), (7, none)]
def xf_plain_CopyState_b1 : XCode := (.seq (rs [om 47 7, of 48 11 1, o 49 (k 48), o 50 (le 49), o 51 (bl 47 50)] [1, 2, 6, 7, 51]
 (.cond (.s 51) .skip (.exit 2 [1, 2, 6])))
 (.seq (.block 3 (rs [of 54 11 1, o 55 (k 54), om 56 7, o 57 (ia 6 55 56), ol 58 6 57, o 8 (.alloc l2), p (t 6 8 58)] [1, 2, 6, 7, 8]
 (rs [of 59 5 8, o 60 (k 59), o 61 (c 93 [60]), of 62 5 8, p (t 1 62 61)] [1, 2, 6, 7, 8]
 (.reg [om 63 6, ol 64 6 8, o 65 (.bsl 100 6 false 1 l2 [(0, 6, (.s 64))]), o 66 (.app 100 6 64 false (.s 63) (.s 65)), om 6 66] none [1, 2, 6, 7]))))
 (.reg [om 52 7, o 53 (baj 52 1), om 7 53] none [1, 2, 6, 7])))
def xf_plain_CopyState : XFunc := ⟨none, none, false, 1, [.cell 2 (some 12)], (rs [o 1 (bx 0), o 2 (.alloc l1)] [1, 2]
 (rs [of 9 4 1, o 10 (k 9), o 11 (c 93 [10]), of 12 4 1, p (t 1 12 11)] [1, 2]
 (rs [of 13 6 1, o 14 (k 13), o 15 (c 35 [14]), of 16 6 1, p (t 1 16 15)] [1, 2]
 (rs [of 17 8 1, o 18 (k 17), o 19 (.app 123 4 32 true (.c (.nil 123 4 true)) (.s 18)), of 20 8 1, p (t 1 20 19)] [1, 2]
 (rs [of 21 9 1, o 22 (k 21), o 23 (.app 125 3 24 true (.c (.nil 125 3 true)) (.s 22)), of 24 9 1, p (t 1 24 23)] [1, 2]
 (rs [o 3 (.mv (.c (.nil 98 6 false)))] [1, 2, 3]
 (.seq (rs [o 4 (.mv (j 0))] [1, 2, 3, 4]
 (.block 0 (.loop xf_plain_CopyState_k0 xf_plain_CopyState_b0)))
 (rs [om 45 3, of 46 10 1, p (t 1 46 45)] [1, 2]
 (rs [o 6 (.mv (.c (.nil 100 6 false)))] [1, 2, 6]
 (.seq (rs [o 7 (.mv (j 0))] [1, 2, 6, 7]
 (.block 2 (.loop xf_plain_CopyState_k1 xf_plain_CopyState_b1)))
 (rs [om 67 6, of 68 11 1, p (t 1 68 67)] [1, 2]
 (rs [ol 69 12 1, p (t 12 2 69)] [2]
 (.ret [2])))))))))))))⟩

def xf_plain_Given_Entries : XFunc := ⟨none, none, false, 2, [.tmp 4], (rs [o 4 (.mv (.c (.nil 50 5 true)))] [0, 1]
 (rs [om 6 1, o 7 (c 93 [6]), o 8 (.build l10 [(0, 1, (j (-77))), (1, 1, (j (-88)))]), o 9 (.bsl 50 5 true 1 l10 [(0, 5, (.s 8))]), o 10 (.app 50 5 48 true (.s 7) (.s 9)), om 5 10] [0, 1, 5]
 (rs [om 11 0, om 12 0, o 13 (nc 12), of 14 4 13, o 15 (k 14), om 16 5, o 17 (.bsl 28 1 false 1 [(.nil 50 5 true)] [(0, 1, (.s 16))]), o 18 (.app 28 1 24 false (.s 15) (.s 17)), o 19 (nc 11), of 20 4 19, p (t 1 20 18)] [0, 1, 5]
 (rp (some [(4, 6), (4, 7)]) [om 21 0, om 22 0, o 23 (nc 22), of 24 5 23, o 25 (k 24), om 26 5, o 27 (c 93 [26]), o 28 (.bsl 28 1 false 1 [(.nil 50 5 true)] [(0, 1, (.s 27))]), o 29 (.app 28 1 24 false (.s 25) (.s 28)), o 30 (nc 21), of 31 5 30, p (t 1 31 29)] [1, 5]
 (rs [om 32 5, om 33 1, o 34 (le 33), o 35 (.slice 5 (.s 32) none (some (.s 34))), om 4 35] [4]
 (.ret [4]))))))⟩

def xf_plain_Given_Vector : XFunc := ⟨none, none, false, 2, [.tmp 4], (rs [o 4 (.mv (.c (.nil 26 2 true)))] [0, 1]
 (rs [om 6 1, o 7 (c 35 [6]), o 8 (.build [y, y] [(0, 1, (.c (.dat (.int .u64 77)))), (1, 1, (.c (.dat (.int .u64 88))))]), o 9 (.bsl 26 2 true 1 [y, y] [(0, 2, (.s 8))]), o 10 (.app 26 2 16 true (.s 7) (.s 9)), om 5 10] [0, 1, 5]
 (rs [om 11 0, om 12 0, o 13 (nc 12), of 14 2 13, o 15 (k 14), om 16 5, o 17 (.bsl 30 1 false 1 [(.nil 26 2 true)] [(0, 1, (.s 16))]), o 18 (.app 30 1 24 false (.s 15) (.s 17)), o 19 (nc 11), of 20 2 19, p (t 1 20 18)] [0, 1, 5]
 (rp (some [(4, 6), (4, 7)]) [om 21 0, om 22 0, o 23 (nc 22), of 24 3 23, o 25 (k 24), om 26 5, o 27 (c 35 [26]), o 28 (.bsl 30 1 false 1 [(.nil 26 2 true)] [(0, 1, (.s 27))]), o 29 (.app 30 1 24 false (.s 25) (.s 28)), o 30 (nc 21), of 31 3 30, p (t 1 31 29)] [1, 5]
 (rs [om 32 5, om 33 1, o 34 (le 33), o 35 (.slice 2 (.s 32) none (some (.s 34))), om 4 35] [4]
 (.ret [4]))))))⟩

def xf_ref10_Head : XFunc := ⟨none, none, true, 4, [.cell 8 (some 12), .tmp 9, .tmp 10], (rs [o 4 (bx 0), o 5 (bx 1), o 6 (bx 2), o 8 (.alloc l1), o 9 (.mv (.c w)), o 10 (.mv (j 0))] [3, 4, 5, 6, 8]
 (rs [ol 15 4 4, ol 16 12 5, o 17 (c 24 [15, 16]), om 11 17] [3, 4, 5, 6, 8, 11]
 (.seq (ss [am 18 11, a 19 (qj 18 0), am 20 19, b 21 (f 0 6) 20, b 22 (k 21) 20, bb 23 3 20, b 24 (n 22 23) 20, a 25 (ka 20 24)] [4, 5, 6, 8, 11, 25]
 (.cond (.s 25) (.reg [o 11 (.mv (j 70))] none [4, 5, 6, 8, 11]) .skip))
 (.seq (rs [om 26 11, o 27 (qj 26 0)] [4, 5, 6, 8, 11, 27]
 (.cond (.s 27) (.reg [ol 28 4 4, ol 29 18 6, o 30 (c 25 [28, 29]), om 11 30] none [4, 5, 6, 8, 11]) .skip))
 (.seq (rs [om 31 11, o 32 (nj 31 0)] [4, 5, 6, 8, 11, 32]
 (.cond (.s 32) (rs [o 33 (.build l1 []), om 34 11, p (t 12 8 33), o 9 (.mv (.c w)), om 10 34] [8, 9, 10]
 (.ret [8, 9, 10])) .skip))
 (rs [ol 36 4 4, ol 37 12 5, ol 38 18 6, o 39 (c 58 [36, 37, 38]), om 35 39, o 40 (e 35 0), o 41 (e 35 1), o 42 (e 35 2), o 12 (.alloc l1), p (t 12 12 40), om 13 41, om 14 42] [5, 8, 12, 13]
 (sp (some [(4, 7)]) [a 43 (l 12 12), am 44 13, am 45 44, b 46 (f 1 5) 45, b 47 (k 46) 45, b 48 (nj 47 3) 45, a 49 (ka 45 48), (p (t 12 8 43), false), am 9 49, a 10 (.mv (j 0))] [8, 9, 10]
 (.ret [8, 9, 10]))))))))⟩

def xf_ref12_normal : XFunc := ⟨none, none, true, 1, [.tmp 2], (rs [o 1 (bx 0), o 2 (.mv (.c w))] [1]
 (rs [of 3 1 1, o 4 (k 3), o 5 (qj 4 1), om 2 5] [2]
 (.ret [2])))⟩

def xf_ref10_Leads : XFunc := ⟨none, none, true, 2, [.tmp 4], (rs [o 2 (bx 0), o 3 (bx 1), o 4 (.mv (.c w))] [2, 3]
 (sp (some []) [a 5 (f 1 3), a 6 (k 5), a 7 (qj 6 1), am 8 7, b 9 (f 0 3) 8, b 10 (k 9) 8, b 11 (f 2 3) 8, b 12 (k 11) 8, b 13 (f 0 2) 8, b 14 (k 13) 8, b 15 (.bin .mul (j 2) (.s 14)) 8, b 16 (baj 15 1) 8, u 17 (.bin .rem (.s 12) (.s 16)) 8, u 18 (q 10 17) 8, a 19 (ka 8 18), am 4 19] [4]
 (.ret [4])))⟩

def xf_ref12_one : XFunc := ⟨none, none, true, 4, [.tmp 8], (rs [o 4 (bx 0), o 5 (bx 1), o 7 (bx 3), o 8 (.mv (.c (.nil 71 19 false)))] [2, 4, 5, 7]
 (rs [ol 12 4 4, ol 13 12 5, om 14 2, ol 15 18 7, o 16 (c 37 [12, 13, 14, 15]), om 11 16, o 17 (e 11 0), o 18 (e 11 1), o 9 (.alloc l3), p (t 19 9 17), om 10 18] [9]
 (rs [ol 19 19 9, o 20 (.bsl 71 19 false 1 l3 [(0, 19, (.s 19))]), om 8 20] [8]
 (.ret [8]))))⟩

def xf_ref09_Admit_k0 : List (Nat × Option (Nat × Nat × Bool)) := [(5, none), (6, none), (10, none), (11, none)]
def xf_ref09_Admit_b0 : XCode := (.seq (rs [om 73 11, of 74 17 5, o 75 (k 74), o 76 (le 75), o 77 (bl 73 76)] [5, 6, 10, 11, 77]
 (.cond (.s 77) .skip (.exit 1 [6, 10])))
 (.seq (.block 2 (rp (some []) [of 80 6 10, o 81 (k 80), om 82 11, o 83 (ia 2 81 82), ol 84 2 83, of 85 17 5, o 86 (k 85), om 87 11, o 88 (ia 2 86 87), ol 89 2 88, o 90 (c 68 [84, 89])] [5, 6, 10, 11, 90]
 (.cond (.s 90) (.reg [of 91 6 10, o 92 (k 91), om 93 11, of 94 17 5, o 95 (k 94), om 96 11, o 97 (ia 2 95 96), ol 98 2 97, o 99 (ia 2 92 93), p (t 2 99 98)] (some []) [5, 6, 10, 11]) .skip)))
 (.reg [om 78 11, o 79 (baj 78 1), om 11 79] none [5, 6, 10, 11])))
def xf_ref09_Admit : XFunc := ⟨none, none, true, 3, [.cell 6 (some 12), .tmp 7, .tmp 8], (rs [o 3 (bx 0), o 4 (bx 1), o 5 (bx 2), o 6 (.alloc l1), o 7 (.mv (.c w)), o 8 (.mv (j 0))] [3, 4, 5, 6]
 (rs [ol 12 4 3, ol 13 12 4, o 14 (c 24 [12, 13]), om 9 14] [3, 4, 5, 6, 9]
 (.seq (rs [om 15 9, o 16 (qj 15 0)] [3, 4, 5, 6, 9, 16]
 (.cond (.s 16) (.reg [ol 17 4 3, ol 18 18 5, o 19 (c 25 [17, 18]), om 9 19] none [3, 4, 5, 6, 9]) .skip))
 (.seq (rs [om 20 9, o 21 (nj 20 0)] [3, 4, 5, 6, 9, 21]
 (.cond (.s 21) (rs [o 22 (.build l1 []), om 23 9, p (t 12 6 22), o 7 (.mv (.c w)), om 8 23] [6, 7, 8]
 (.ret [6, 7, 8])) .skip))
 (rs [ol 24 12 4, o 25 (c 49 [24]), o 10 (.alloc l1), p (t 12 10 25)] [3, 4, 5, 6, 10]
 (.seq (.block 0 (rs [of 27 0 5, o 28 (k 27), o 29 (c 94 [28]), o 30 (nt 29), om 26 30] [3, 4, 5, 6, 10, 26]
 (.cond (.s 26) (rs [ol 31 12 10, p (t 12 6 31), o 7 (.mv (.c v)), o 8 (.mv (j 0))] [6, 7, 8]
 (.ret [6, 7, 8])) (rs [of 33 1 5, o 34 (k 33), of 35 0 4, o 36 (k 35), o 37 (q 34 36), om 32 37] [3, 4, 5, 6, 10, 32]
 (.cond (.s 32) (rs [ol 38 12 10, p (t 12 6 38), o 7 (.mv (.c w)), o 8 (.mv (j 0))] [6, 7, 8]
 (.ret [6, 7, 8])) (rs [of 40 3 3, o 41 (k 40), om 39 41] [4, 5, 6, 10, 39]
 (.cond (.s 39) (rs [ol 42 12 10, p (t 12 6 42), o 7 (.mv (.c v)), o 8 (.mv (j 0))] [6, 7, 8]
 (.ret [6, 7, 8])) (sp (some []) [a 44 (f 17 5), a 45 (k 44), a 46 (f 1 5), a 47 (k 46), a 48 (ia 2 45 47), a 49 (l 2 48), a 50 (f 6 4), a 51 (k 50), a 52 (f 1 5), a 53 (k 52), a 54 (ia 2 51 53), a 55 (l 2 54), a 56 (c 68 [49, 55]), am 57 56, d 58 (f 6 4) 57, d 59 (k 58) 57, d 60 (f 0 4) 57, d 61 (k 60) 57, r 62 (ia 2 59 61) 57, r 63 (l 2 62) 57, d 64 (f 17 5) 57, d 65 (k 64) 57, d 66 (f 0 4) 57, d 67 (k 66) 57, r 68 (ia 2 65 67) 57, r 69 (l 2 68) 57, r 70 (c 68 [63, 69]) 57, a 71 (ko 57 70), am 43 71] [5, 6, 10, 43]
 (.cond (.s 43) (rs [ol 72 12 10, p (t 12 6 72), o 7 (.mv (.c w)), o 8 (.mv (j 0))] [6, 7, 8]
 (.ret [6, 7, 8])) .skip)))))))))
 (.seq (rs [o 11 (.mv (j 0))] [5, 6, 10, 11]
 (.block 1 (.loop xf_ref09_Admit_k0 xf_ref09_Admit_b0)))
 (rs [ol 100 12 10, o 101 (c 36 [100]), p (t 12 6 101), o 7 (.mv (.c v)), o 8 (.mv (j 0))] [6, 7, 8]
 (.ret [6, 7, 8])))))))))⟩

def xf_ref08_PutAnswer_k0 : List (Nat × Option (Nat × Nat × Bool)) := [(0, none), (3, none), (5, some (100, 6, false)), (6, none)]
def xf_ref08_PutAnswer_b0 : XCode := (.seq (rs [om 9 6, om 10 0, o 11 (le 10), o 12 (bl 9 11)] [0, 3, 5, 6, 12]
 (.cond (.s 12) .skip (.exit 0 [0, 3, 5])))
 (.seq (.block 1 (rp (some []) [om 15 0, om 16 6, o 17 (ia 6 15 16), of 18 0 17, o 19 (k 18), of 20 0 3, o 21 (k 20), o 22 (q 19 21)] [0, 3, 5, 6, 22]
 (.cond (.s 22) (rs [om 23 5, om 24 0, o 25 (.app 100 6 64 false (.s 23) (.s 24)), om 5 25] [0, 3, 5, 6]
 (.seq (rp (some [(1, 30), (4, 30), (6, 30)]) [of 26 1 3, ol 27 2 26, om 28 0, om 29 6, o 30 (ia 6 28 29), of 31 1 30, ol 32 2 31, of 33 3 3, o 34 (k 33), of 35 5 3, o 36 (k 35), o 37 (le 36), of 38 4 3, o 39 (k 38), om 40 0, om 41 6, o 42 (ia 6 40 41), of 43 3 42, o 44 (k 43), om 45 0, om 46 6, o 47 (ia 6 45 46), of 48 5 47, o 49 (k 48), o 50 (le 49), om 51 0, om 52 6, o 53 (ia 6 51 52), of 54 4 53, o 55 (k 54), o 56 (c 96 [34, 37, 39, 44, 50, 55]), o 57 (c 95 [27, 32, 56])] [3, 5, 6, 57]
 (.cond (.s 57) (.reg [om 58 5, om 59 6, ol 60 6 3, o 61 (ia 6 58 59), p (t 6 61 60)] none [5]) .skip))
 (rs [om 62 5, o 63 (c 97 [62]), om 4 63] [4]
 (.ret [4])))) .skip)))
 (.reg [om 13 6, o 14 (baj 13 1), om 6 14] none [0, 3, 5, 6])))
def xf_ref08_PutAnswer_k1 : List (Nat × Option (Nat × Nat × Bool)) := [(0, none), (3, none), (5, some (100, 6, false)), (7, none), (8, none)]
def xf_ref08_PutAnswer_b1 : XCode := (.seq (rs [om 64 8, om 65 0, o 66 (le 65), o 67 (bl 64 66)] [0, 3, 5, 7, 8, 67]
 (.cond (.s 67) .skip (.exit 2 [3, 5, 7])))
 (.seq (.block 3 (.seq (sp (some []) [am 70 7, a 71 (nt 70), am 72 71, bb 73 0 72, bb 74 8 72, u 75 (ia 6 73 74) 72, u 76 (f 0 75) 72, u 77 (k 76) 72, b 78 (f 0 3) 72, b 79 (k 78) 72, u 80 (bg 77 79) 72, a 81 (ka 72 80)] [0, 3, 5, 7, 8, 81]
 (.cond (.s 81) (rs [om 82 5, ol 83 6 3, o 84 (.bsl 100 6 false 1 l2 [(0, 6, (.s 83))]), o 85 (.app 100 6 64 false (.s 82) (.s 84)), om 5 85] [0, 3, 5, 8]
 (.reg [o 7 (.mv (.c v))] none [0, 3, 5, 7, 8])) .skip))
 (.reg [om 86 5, om 87 0, om 88 8, o 89 (ia 6 87 88), ol 90 6 89, o 91 (.bsl 100 6 false 1 l2 [(0, 6, (.s 90))]), o 92 (.app 100 6 64 false (.s 86) (.s 91)), om 5 92] none [0, 3, 5, 7, 8])))
 (.reg [om 68 8, o 69 (baj 68 1), om 8 69] none [0, 3, 5, 7, 8])))
def xf_ref08_PutAnswer : XFunc := ⟨none, none, true, 2, [.tmp 4], (rs [o 3 (bx 1), o 4 (.mv (.c (.nil 100 6 false)))] [0, 3]
 (rs [o 5 (.mv (.c (.nil 100 6 false)))] [0, 3, 5]
 (.seq (rs [o 6 (.mv (j 0))] [0, 3, 5, 6]
 (.block 0 (.loop xf_ref08_PutAnswer_k0 xf_ref08_PutAnswer_b0)))
 (rs [o 7 (.mv (.c w))] [0, 3, 5, 7]
 (.seq (rs [o 8 (.mv (j 0))] [0, 3, 5, 7, 8]
 (.block 2 (.loop xf_ref08_PutAnswer_k1 xf_ref08_PutAnswer_b1)))
 (.seq (rs [om 93 7, o 94 (nt 93)] [3, 5, 94]
 (.cond (.s 94) (.reg [om 95 5, ol 96 6 3, o 97 (.bsl 100 6 false 1 l2 [(0, 6, (.s 96))]), o 98 (.app 100 6 64 false (.s 95) (.s 97)), om 5 98] none [5]) .skip))
 (rs [om 99 5, o 100 (c 97 [99]), om 4 100] [4]
 (.ret [4]))))))))⟩

def xf_ref08_Settle_k0 : List (Nat × Option (Nat × Nat × Bool)) := [(0, none), (1, none), (4, none), (6, none), (7, none)]
def xf_ref08_Settle_b0 : XCode := (.seq (rs [om 28 7, om 29 1, o 30 (le 29), o 31 (bl 28 30)] [0, 1, 4, 6, 7, 31]
 (.cond (.s 31) .skip (.exit 0 [0, 1, 4, 6])))
 (.seq (.block 1 (rs [om 34 1, om 35 7, o 36 (ia 6 34 35), of 37 3 36, o 38 (k 37), om 39 6, o 40 (bg 38 39)] [0, 1, 4, 6, 7, 40]
 (.cond (.s 40) (.reg [om 41 1, om 42 7, o 43 (ia 6 41 42), of 44 3 43, o 45 (k 44), om 6 45] none [0, 1, 4, 6, 7]) .skip)))
 (.reg [om 32 7, o 33 (baj 32 1), om 7 33] none [0, 1, 4, 6, 7])))
def xf_ref08_Settle_k1 : List (Nat × Option (Nat × Nat × Bool)) := [(0, none), (1, none), (4, none), (6, none), (8, none)]
def xf_ref08_Settle_b1 : XCode := (.seq (rs [om 46 8, om 47 1, o 48 (le 47), o 49 (bl 46 48)] [0, 1, 4, 6, 8, 49]
 (.cond (.s 49) .skip (.exit 2 [4])))
 (.seq (.block 3 (sp (some [(10, 15), (12, 15)]) [am 52 1, am 53 8, a 54 (ia 6 52 53), a 55 (f 3 54), a 56 (k 55), am 57 6, a 58 (q 56 57), am 59 58, bb 60 1 59, bb 61 8 59, u 62 (ia 6 60 61) 59, u 63 (f 0 62) 59, u 64 (k 63) 59, bb 65 0 59, bb 66 6 59, u 67 (c 98 [65, 66]) 59, u 68 (q 64 67) 59, a 69 (ka 59 68)] [0, 1, 4, 6, 8, 69]
 (.cond (.s 69) (rs [om 70 1, om 71 8, o 72 (ia 6 70 71), ol 73 6 72, o 9 (.alloc l2), p (t 6 9 73)] [4, 9]
 (rs [of 74 5 9, o 75 (k 74), o 76 (c 99 [75]), of 77 5 9, p (t 1 77 76)] [4, 9]
 (rs [ol 78 6 9, p (t 6 4 78), o 5 (.mv (j 0))] [4, 5]
 (.ret [4, 5])))) .skip)))
 (.reg [om 50 8, o 51 (baj 50 1), om 8 51] none [0, 1, 4, 6, 8])))
def xf_ref08_Settle : XFunc := ⟨none, none, true, 2, [.cell 4 (some 6), .tmp 5], (rs [o 4 (.alloc l2), o 5 (.mv (j 0))] [0, 1, 4]
 (.seq (ss [am 10 0, a 11 (blj 10 1), am 12 11, d 13 (m 0) 12, d 14 (bgj 13 3) 12, a 15 (ko 12 14), am 16 15, d 17 (m 1) 16, d 18 (le 17) 16, d 19 (m 0) 16, d 20 (baj 19 1) 16, d 21 (bl 18 20) 16, a 22 (ko 16 21)] [0, 1, 4, 22]
 (.cond (.s 22) (rs [o 23 (.build l2 []), p (t 6 4 23), o 5 (.mv (j 81))] [4, 5]
 (.ret [4, 5])) .skip))
 (rs [om 24 1, o 25 (.iadr 6 (.s 24) (j 0)), of 26 3 25, o 27 (k 26), om 6 27] [0, 1, 4, 6]
 (.seq (rs [o 7 (.mv (j 0))] [0, 1, 4, 6, 7]
 (.block 0 (.loop xf_ref08_Settle_k0 xf_ref08_Settle_b0)))
 (.seq (rs [o 8 (.mv (j 0))] [0, 1, 4, 6, 8]
 (.block 2 (.loop xf_ref08_Settle_k1 xf_ref08_Settle_b1)))
 (rs [o 79 (.build l2 []), p (t 6 4 79), o 5 (.mv (j 81))] [4, 5]
 (.ret [4, 5])))))))⟩

def xf_ref12_taken : XFunc := ⟨none, none, true, 5, [.cell 10 (some 12), .tmp 11], (rs [o 5 (bx 0), o 6 (bx 1), o 10 (.alloc l1), o 11 (.mv (.c (.nil 71 19 false)))] [2, 3, 4, 5, 6, 10]
 (rp (some [(1, 5), (5, 11), (1, 12), (1, 14), (5, 14), (11, 14), (12, 14)]) [of 13 0 6, o 14 (k 13), om 15 2, om 16 2, om 17 3, o 18 (c 93 [17]), om 19 4, om 20 3, o 21 (le 20), o 22 (.mm false (.s 19) (.s 21)), of 23 6 6, o 24 (k 23), o 25 (c 35 [24]), o 26 (.build l1 [(0, 1, (.s 14)), (1, 1, (j 1)), (2, 1, (.s 15)), (3, 1, (.s 16)), (4, 1, (.s 18)), (5, 1, (.s 22)), (6, 1, (.s 25))]), o 12 (.alloc l1), p (t 12 12 26)] [2, 5, 10, 12]
 (.seq (rs [of 27 4 12, o 28 (k 27), o 29 (le 28), of 30 5 12, o 31 (k 30), o 32 (q 29 31)] [2, 5, 10, 12, 32]
 (.cond (.s 32) (rs [ol 33 12 12, p (t 12 10 33), o 11 (.mv (.c (.nil 71 19 false)))] [10, 11]
 (.ret [10, 11])) .skip))
 (rp (some [(0, 14)]) [ol 34 12 12, ol 35 4 5, ol 36 12 12, om 37 2, of 38 0 5, o 39 (k 38), o 40 (.bin .mul (j 2) (.s 39)), o 41 (baj 40 1), o 42 (.bin .rem (.s 37) (.s 41)), om 43 2, of 44 4 12, o 45 (k 44), o 46 (le 45), o 47 (.build l4 [(0, 1, (j 4)), (2, 1, (.s 43)), (11, 1, (.s 46))]), o 48 (c 55 [35, 36, 42, 47]), p (t 12 10 34), om 11 48] [10, 11]
 (.ret [10, 11])))))⟩

def xf_ref09_CheckConfig : XFunc := ⟨none, none, true, 1, [.tmp 2], (rs [o 1 (bx 0), o 2 (.mv (j 0))] [1]
 (.seq (rs [ol 3 4 1, o 4 (c 64 [3]), o 5 (nt 4)] [5]
 (.cond (.s 5) (rs [o 2 (.mv (j 1))] [2]
 (.ret [2])) .skip))
 (rs [o 2 (.mv (j 0))] [2]
 (.ret [2]))))⟩

def xf_ref09_may_k0 : List (Nat × Option (Nat × Nat × Bool)) := [(3, none), (7, none)]
def xf_ref09_may_b0 : XCode := (.seq (rs [om 125 7, of 126 8 3, o 127 (k 126), o 128 (le 127), o 129 (bl 125 128)] [3, 7, 129]
 (.cond (.s 129) .skip (.exit 1 [])))
 (.seq (.block 2 (sp (some []) [a 132 (f 8 3), a 133 (k 132), am 134 7, a 135 (ia 4 133 134), a 136 (f 3 135), a 137 (k 136), a 138 (blj 137 1), am 139 138, d 140 (f 8 3) 139, d 141 (k 140) 139, d 142 (m 7) 139, r 143 (ia 4 141 142) 139, r 144 (f 3 143) 139, r 145 (k 144) 139, d 146 (f 4 3) 139, d 147 (k 146) 139, d 148 (le 147) 139, r 149 (bg 145 148) 139, a 150 (ko 139 149)] [3, 7, 150]
 (.cond (.s 150) (rs [o 4 (.mv (.c w))] [4]
 (.ret [4])) .skip)))
 (.reg [om 130 7, o 131 (baj 130 1), om 7 131] none [3, 7])))
def xf_ref09_may_k1 : List (Nat × Option (Nat × Nat × Bool)) := [(2, none), (3, none), (8, none)]
def xf_ref09_may_b1 : XCode := (.seq (rs [om 186 8, of 187 10 3, o 188 (k 187), o 189 (le 188), o 190 (bl 186 189)] [2, 3, 8, 190]
 (.cond (.s 190) .skip (.exit 3 [])))
 (.seq (.block 4 (rs [of 193 10 3, o 194 (k 193), om 195 8, o 196 (ia 6 194 195), ol 197 6 196, o 9 (.alloc l2), p (t 6 9 197)] [2, 3, 8, 9]
 (ss [a 198 (f 3 9), a 199 (k 198), a 200 (blj 199 0), am 201 200, d 202 (f 3 9) 201, d 203 (k 202) 201, d 204 (f 2 3) 201, d 205 (k 204) 201, d 206 (bh 203 205) 201, a 207 (ko 201 206), am 208 207, d 209 (l 4 2) 208, d 210 (f 5 9) 208, d 211 (k 210) 208, d 212 (f 4 9) 208, d 213 (k 212) 208, r 214 (c 100 [209, 211, 213]) 208, r 215 (nt 214) 208, a 216 (ko 208 215)] [2, 3, 8, 216]
 (.cond (.s 216) (rs [o 4 (.mv (.c w))] [4]
 (.ret [4])) .skip))))
 (.reg [om 191 8, o 192 (baj 191 1), om 8 192] none [2, 3, 8])))
def xf_ref09_may : XFunc := ⟨none, none, true, 2, [.tmp 4], (rs [o 2 (bx 0), o 3 (bx 1), o 4 (.mv (.c w))] [2, 3]
 (rs [ol 10 4 2, o 11 (c 69 [10]), om 5 11] [2, 3, 5]
 (.seq (ss [a 12 (f 0 3), a 13 (k 12), a 14 (blj 13 0), am 15 14, d 16 (f 0 3) 15, d 17 (k 16) 15, d 18 (m 5) 15, d 19 (bh 17 18) 15, a 20 (ko 15 19), am 21 20, d 22 (f 2 3) 21, d 23 (k 22) 21, d 24 (blj 23 0) 21, a 25 (ko 21 24), am 26 25, d 27 (f 2 3) 26, d 28 (k 27) 26, d 29 (bgj 28 4294967296) 26, a 30 (ko 26 29), am 31 30, d 32 (f 3 3) 31, d 33 (k 32) 31, d 34 (blj 33 0) 31, a 35 (ko 31 34), am 36 35, d 37 (f 3 3) 36, d 38 (k 37) 36, d 39 (f 2 3) 36, d 40 (k 39) 36, d 41 (bg 38 40) 36, a 42 (ko 36 41), am 43 42, d 44 (l 4 2) 43, d 45 (f 4 3) 43, d 46 (k 45) 43, d 47 (f 5 3) 43, d 48 (k 47) 43, r 49 (c 100 [44, 46, 48]) 43, r 50 (nt 49) 43, a 51 (ko 43 50), am 52 51, d 53 (f 6 3) 52, d 54 (k 53) 52, d 55 (le 54) 52, d 56 (m 5) 52, d 57 (n 55 56) 52, a 58 (ko 52 57), am 59 58, d 60 (f 7 3) 59, d 61 (k 60) 59, d 62 (blj 61 0) 59, a 63 (ko 59 62), am 64 63, d 65 (f 7 3) 64, d 66 (k 65) 64, d 67 (f 2 2) 64, d 68 (k 67) 64, d 69 (bh 66 68) 64, a 70 (ko 64 69), am 71 70, d 72 (l 12 3) 71, d 73 (m 5) 71, r 74 (c 101 [72, 73]) 71, r 75 (nt 74) 71, a 76 (ko 71 75)] [2, 3, 5, 76]
 (.cond (.s 76) (rs [o 4 (.mv (.c w))] [4]
 (.ret [4])) .skip))
 (rp (some []) [of 77 0 3, o 78 (k 77), of 79 2 3, o 80 (k 79), om 81 5, o 82 (.bin .rem (.s 80) (.s 81)), o 83 (q 78 82), om 6 83] [2, 3, 5, 6]
 (.seq (rs [of 84 1 3, o 85 (k 84)] [2, 3, 5, 6, 85]
 (.block 0 (rs [o 87 (qj 85 1), om 86 87] [2, 3, 5, 6, 85, 86]
 (.cond (.s 86) (.seq (ss [a 88 (f 3 3), a 89 (k 88), a 90 (f 2 3), a 91 (k 90), a 92 (n 89 91), am 93 92, d 94 (f 9 3) 93, d 95 (k 94) 93, d 96 (le 95) 93, d 97 (f 10 3) 93, d 98 (k 97) 93, d 99 (le 98) 93, d 100 (ba 96 99) 93, d 101 (f 11 3) 93, d 102 (k 101) 93, d 103 (le 102) 93, d 104 (ba 100 103) 93, d 105 (bgj 104 0) 93, a 106 (ko 93 105), am 107 106, d 108 (m 6) 107, d 109 (m 108) 107, b 110 (f 7 3) 109, b 111 (k 110) 109, b 112 (nj 111 0) 109, d 113 (ka 109 112) 107, a 114 (ko 107 113), am 115 114, d 116 (m 6) 115, d 117 (nt 116) 115, d 118 (m 117) 115, b 119 (f 8 3) 118, b 120 (k 119) 118, b 121 (le 120) 118, b 122 (bgj 121 0) 118, d 123 (ka 118 122) 115, a 124 (ko 115 123)] [3, 124]
 (.cond (.s 124) (rs [o 4 (.mv (.c w))] [4]
 (.ret [4])) .skip))
 (.seq (rs [o 7 (.mv (j 0))] [3, 7]
 (.block 1 (.loop xf_ref09_may_k0 xf_ref09_may_b0)))
 (rs [o 4 (.mv (.c v))] [4]
 (.ret [4])))) (rs [o 152 (qj 85 2), om 151 152] [2, 3, 5, 6, 85, 151]
 (.cond (.s 151) (.seq (ss [a 153 (f 3 3), a 154 (k 153), a 155 (f 2 3), a 156 (k 155), a 157 (q 154 156), am 158 157, d 159 (f 8 3) 158, d 160 (k 159) 158, d 161 (le 160) 158, d 162 (f 11 3) 158, d 163 (k 162) 158, d 164 (le 163) 158, d 165 (ba 161 164) 158, d 166 (bgj 165 0) 158, a 167 (ko 158 166), am 168 167, d 169 (m 6) 168, d 170 (nt 169) 168, d 171 (m 170) 168, b 172 (f 10 3) 171, b 173 (k 172) 171, b 174 (le 173) 171, b 175 (bgj 174 0) 171, d 176 (ka 171 175) 168, a 177 (ko 168 176), am 178 177, d 179 (f 10 3) 178, d 180 (k 179) 178, d 181 (le 180) 178, d 182 (f 0 2) 178, d 183 (k 182) 178, d 184 (bh 181 183) 178, a 185 (ko 178 184)] [2, 3, 185]
 (.cond (.s 185) (rs [o 4 (.mv (.c w))] [4]
 (.ret [4])) .skip))
 (.seq (rs [o 8 (.mv (j 0))] [2, 3, 8]
 (.block 3 (.loop xf_ref09_may_k1 xf_ref09_may_b1)))
 (rs [o 4 (.mv (.c v))] [4]
 (.ret [4])))) (rs [o 218 (qj 85 3), om 217 218] [2, 3, 5, 217]
 (.cond (.s 217) (rs [ol 219 4 2, ol 220 12 3, om 221 5, o 222 (c 102 [219, 220, 221]), om 4 222] [4]
 (.ret [4])) .skip))))))))
 (rs [o 4 (.mv (.c w))] [4]
 (.ret [4])))))))⟩

def xf_ref07_Config : XFunc := ⟨none, none, true, 1, [.tmp 2], (rs [o 1 (bx 0), o 2 (.mv (.c w))] [1]
 (ss [a 3 (f 0 1), a 4 (k 3), a 5 (bhj 4 1), am 6 5, b 7 (f 0 1) 6, b 8 (k 7) 6, b 9 (bmj 8 3) 6, a 10 (ka 6 9), am 11 10, b 12 (f 1 1) 11, b 13 (k 12) 11, b 14 (bhj 13 1) 11, a 15 (ka 11 14), am 16 15, b 17 (f 1 1) 16, b 18 (k 17) 16, b 19 (bmj 18 256) 16, a 20 (ka 16 19), am 21 20, b 22 (f 2 1) 21, b 23 (k 22) 21, b 24 (bhj 23 6) 21, a 25 (ka 21 24), am 26 25, b 27 (f 2 1) 26, b 28 (k 27) 26, b 29 (bmj 28 100) 26, a 30 (ka 26 29), am 2 30] [2]
 (.ret [2])))⟩
theorem r_law12_RejoinStarts : progT Tryz.prog 3 = some xf_law12_RejoinStarts.plain := by kernel_rfl
theorem r_law12_RejoinRecoveries : progT Tryz.prog 4 = some xf_law12_RejoinRecoveries.plain := by kernel_rfl
theorem r_law12_RejoinResponses : progT Tryz.prog 5 = some xf_law12_RejoinResponses.plain := by kernel_rfl
theorem r_law12_RejoinGets : progT Tryz.prog 7 = some xf_law12_RejoinGets.plain := by kernel_rfl
theorem r_law12_RejoinNews : progT Tryz.prog 8 = some xf_law12_RejoinNews.plain := by kernel_rfl
theorem r_law12_RejoinAsks : progT Tryz.prog 11 = some xf_law12_RejoinAsks.plain := by kernel_rfl
theorem r_rejoin_Start : progT Tryz.prog 13 = some xf_rejoin_Start.plain := by kernel_rfl
theorem r_ref12_Start : progT Tryz.prog 14 = some xf_ref12_Start.plain := by kernel_rfl
theorem r_law12_same : progT Tryz.prog 15 = some xf_law12_same.plain := by kernel_rfl
theorem r_law12_works : progT Tryz.prog 16 = some xf_law12_works.plain := by kernel_rfl
theorem r_rejoin_Recovery : progT Tryz.prog 17 = some xf_rejoin_Recovery.plain := by kernel_rfl
theorem r_plain_Given_State : progT Tryz.prog 18 = some xf_plain_Given_State.plain := by kernel_rfl
theorem r_plain_Given_Msg : progT Tryz.prog 19 = some xf_plain_Given_Msg.plain := by kernel_rfl
theorem r_ref12_Recovery : progT Tryz.prog 20 = some xf_ref12_Recovery.plain := by kernel_rfl
theorem r_plain_Given_Intact : progT Tryz.prog 21 = some xf_plain_Given_Intact.plain := by kernel_rfl
theorem r_rejoin_Response : progT Tryz.prog 22 = some xf_rejoin_Response.plain := by kernel_rfl
theorem r_ref12_Response : progT Tryz.prog 23 = some xf_ref12_Response.plain := by kernel_rfl
theorem r_ref09_Check : progT Tryz.prog 24 = some xf_ref09_Check.plain := by kernel_rfl
theorem r_ref07_Check : progT Tryz.prog 25 = some xf_ref07_Check.plain := by kernel_rfl
theorem r_ref02_Compare : progT Tryz.prog 26 = some xf_ref02_Compare.plain := by kernel_rfl
theorem r_plain_SameEntries : progT Tryz.prog 27 = some xf_plain_SameEntries.plain := by kernel_rfl
theorem r_rejoin_GetState : progT Tryz.prog 28 = some xf_rejoin_GetState.plain := by kernel_rfl
theorem r_ref12_GetState : progT Tryz.prog 29 = some xf_ref12_GetState.plain := by kernel_rfl
theorem r_rejoin_NewState : progT Tryz.prog 30 = some xf_rejoin_NewState.plain := by kernel_rfl
theorem r_ref12_NewState : progT Tryz.prog 31 = some xf_ref12_NewState.plain := by kernel_rfl
theorem r_plain_SameVector : progT Tryz.prog 34 = some xf_plain_SameVector.plain := by kernel_rfl
theorem r_plain_CopyVector : progT Tryz.prog 35 = some xf_plain_CopyVector.plain := by kernel_rfl
theorem r_ref09_Pruned : progT Tryz.prog 36 = some xf_ref09_Pruned.plain := by kernel_rfl
theorem r_ref09_One : progT Tryz.prog 37 = some xf_ref09_One.plain := by kernel_rfl
theorem r_plain_SameState : progT Tryz.prog 38 = some xf_plain_SameState.plain := by kernel_rfl
theorem r_rejoin_Ask : progT Tryz.prog 39 = some xf_rejoin_Ask.plain := by kernel_rfl
theorem r_ref12_Ask : progT Tryz.prog 40 = some xf_ref12_Ask.plain := by kernel_rfl
theorem r_core_Reborn : progT Tryz.prog 43 = some xf_core_Reborn.plain := by kernel_rfl
theorem r_rejoin_asking : progT Tryz.prog 44 = some xf_rejoin_asking.plain := by kernel_rfl
theorem r_ref09_Reborn : progT Tryz.prog 45 = some xf_ref09_Reborn.plain := by kernel_rfl
theorem r_ref12_recovery : progT Tryz.prog 46 = some xf_ref12_recovery.plain := by kernel_rfl
theorem r_plain_SameSends : progT Tryz.prog 47 = some xf_plain_SameSends.plain := by kernel_rfl
theorem r_rejoin_run : grdT Tryz.prog 48 86 145 3 85 = some xf_rejoin_run.plain := by kernel_rfl
theorem r_plain_CopyState : progT Tryz.prog 49 = some xf_plain_CopyState.plain := by kernel_rfl
theorem r_plain_Given_Entries : progT Tryz.prog 50 = some xf_plain_Given_Entries.plain := by kernel_rfl
theorem r_plain_Given_Vector : progT Tryz.prog 51 = some xf_plain_Given_Vector.plain := by kernel_rfl
theorem r_ref10_Head : progT Tryz.prog 52 = some xf_ref10_Head.plain := by kernel_rfl
theorem r_ref12_normal : progT Tryz.prog 53 = some xf_ref12_normal.plain := by kernel_rfl
theorem r_ref10_Leads : progT Tryz.prog 54 = some xf_ref10_Leads.plain := by kernel_rfl
theorem r_ref12_one : progT Tryz.prog 55 = some xf_ref12_one.plain := by kernel_rfl
theorem r_ref09_Admit : progT Tryz.prog 58 = some xf_ref09_Admit.plain := by kernel_rfl
theorem r_ref08_PutAnswer : progT Tryz.prog 59 = some xf_ref08_PutAnswer.plain := by kernel_rfl
theorem r_ref08_Settle : progT Tryz.prog 60 = some xf_ref08_Settle.plain := by kernel_rfl
theorem r_ref12_taken : progT Tryz.prog 61 = some xf_ref12_taken.plain := by kernel_rfl
theorem r_ref09_CheckConfig : progT Tryz.prog 62 = some xf_ref09_CheckConfig.plain := by kernel_rfl
theorem r_ref09_may : progT Tryz.prog 63 = some xf_ref09_may.plain := by kernel_rfl
theorem r_ref07_Config : progT Tryz.prog 64 = some xf_ref07_Config.plain := by kernel_rfl

end Go.Ax
