/-
  The functions of this seat as resolved code, and that the program resolves to them (part 1).
-/
import Derived.Test.YtfahaejohbmbpaaGreatDoorXComp
import Derived.Test.YtfahaejohbmbpaaGreatDoorXFn
import Derived.Test.YtfahaejohbmbpaaGreatDoorXG
import Derived.Test.YtfahaejohbmbpaaGreatDoorXP
import Derived.Test.YtfahaejohbmbpaaGreatDoorProg
import Derived.KernelRfl
namespace Go.Ax
set_option linter.all false
open Go.Proofs P

def xf_law11_ChangeChoice_k0 : List (Nat × Option (Nat × Nat × Bool)) := [(3, none), (4, none), (5, none), (7, none), (8, some (58, 19, false)), (11, some (55, 6, false)), (12, none), (13, none), (14, none)]
def xf_law11_ChangeChoice_b0 : XCode := (.seq (rs [om 125 14, om 126 11, o 127 (le 126), o 128 (bl 125 127)] [3, 4, 5, 7, 8, 11, 12, 13, 14, 128]
 (.cond (.s 128) .skip (.exit 0 [3, 4, 5, 7, 8, 11, 12, 13])))
 (.seq (.block 1 (ss [am 131 11, am 132 14, a 133 (ia 6 131 132), a 134 (f 3 133), a 135 (k 134), am 136 12, a 137 (bg 135 136), am 138 137, d 139 (m 11) 138, d 140 (m 14) 138, r 141 (ia 6 139 140) 138, r 142 (f 3 141) 138, r 143 (k 142) 138, d 144 (m 12) 138, r 145 (q 143 144) 138, r 146 (m 145) 138, bb 147 11 146, bb 148 14 146, u 149 (ia 6 147 148) 146, u 150 (f 5 149) 146, u 151 (k 150) 146, u 152 (le 151) 146, bb 153 13 146, u 154 (bg 152 153) 146, r 155 (ka 146 154) 138, a 156 (ko 138 155)] [3, 4, 5, 7, 8, 11, 12, 13, 14, 156]
 (.cond (.s 156) (.reg [om 157 11, om 158 14, o 159 (ia 6 157 158), of 160 3 159, o 161 (k 160), om 162 11, om 163 14, o 164 (ia 6 162 163), of 165 5 164, o 166 (k 165), o 167 (le 166), om 12 161, om 13 167] (some []) [3, 4, 5, 7, 8, 11, 12, 13, 14]) .skip)))
 (.reg [om 129 14, o 130 (baj 129 1), om 14 130] none [3, 4, 5, 7, 8, 11, 12, 13, 14])))
def xf_law11_ChangeChoice_k1 : List (Nat × Option (Nat × Nat × Bool)) := [(3, none), (4, none), (5, none), (7, none), (8, some (58, 19, false)), (11, some (55, 6, false)), (12, none), (13, none), (15, none), (16, none)]
def xf_law11_ChangeChoice_b1 : XCode := (.seq (rs [om 168 16, om 169 11, o 170 (le 169), o 171 (bl 168 170)] [3, 4, 5, 7, 8, 11, 12, 13, 15, 16, 171]
 (.cond (.s 171) .skip (.exit 2 [3, 4, 5, 7, 8, 13, 15])))
 (.seq (.block 3 (.sreg [am 174 15, am 175 174, d 176 (m 11) 175, d 177 (m 16) 175, r 178 (ia 6 176 177) 175, r 179 (f 3 178) 175, r 180 (k 179) 175, d 181 (m 12) 175, r 182 (q 180 181) 175, r 183 (m 182) 175, bb 184 11 183, bb 185 16 183, u 186 (ia 6 184 185) 183, u 187 (f 5 186) 183, u 188 (k 187) 183, b 189 (f 4 7) 183, b 190 (k 189) 183, u 191 (c 11 [188, 190]) 183, r 192 (ka 183 191) 175, a 193 (ko 175 192), am 15 193] (some []) [3, 4, 5, 7, 8, 11, 12, 13, 15, 16]))
 (.reg [om 172 16, o 173 (baj 172 1), om 16 173] none [3, 4, 5, 7, 8, 11, 12, 13, 15, 16])))
def xf_law11_ChangeChoice_k2 : List (Nat × Option (Nat × Nat × Bool)) := [(3, none), (7, none), (8, some (58, 19, false)), (17, none), (18, none)]
def xf_law11_ChangeChoice_b2 : XCode := (.seq (rs [om 231 18, om 232 8, o 233 (le 232), o 234 (bl 231 233)] [3, 7, 8, 17, 18, 234]
 (.cond (.s 234) .skip (.exit 4 [3, 17])))
 (.seq (.block 5 (rs [om 237 8, om 238 18, o 239 (ia 19 237 238), of 240 1 239, of 241 0 240, o 242 (k 241), o 243 (qj 242 8)] [3, 7, 8, 17, 18, 243]
 (.cond (.s 243) (rs [om 244 17, o 245 (baj 244 1), om 17 245] [3, 7, 8, 17, 18]
 (sp (some []) [am 246 8, am 247 18, a 248 (ia 19 246 247), a 249 (f 1 248), a 250 (f 16 249), a 251 (k 250), a 252 (f 4 7), a 253 (k 252), a 254 (c 11 [251, 253]), a 255 (nt 254), am 256 255, d 257 (m 8) 256, d 258 (m 18) 256, r 259 (ia 19 257 258) 256, r 260 (f 1 259) 256, r 261 (f 12 260) 256, r 262 (k 261) 256, d 263 (f 5 7) 256, d 264 (k 263) 256, r 265 (bg 262 264) 256, a 266 (ko 256 265)] [3, 7, 8, 17, 18, 266]
 (.cond (.s 266) (rs [o 6 (.mv (.c w))] [6]
 (.ret [6])) .skip))) .skip)))
 (.reg [om 235 18, o 236 (baj 235 1), om 18 236] none [3, 7, 8, 17, 18])))
def xf_law11_ChangeChoice : XFunc := ⟨none, false, 3, [.tmp 6], (rs [o 3 (bx 0), o 4 (bx 1), o 5 (bx 2), o 6 (.mv (.c w))] [3, 4, 5]
 (.seq (rs [o 19 (c 6 []), o 20 (nt 19)] [3, 4, 5, 20]
 (.cond (.s 20) (rs [o 6 (.mv (.c w))] [6]
 (.ret [6])) .skip))
 (rs [ol 22 4 3, ol 23 12 4, ol 24 18 5, o 25 (c 7 [22, 23, 24]), om 21 25, o 26 (e 21 0), o 27 (e 21 1), o 28 (e 21 2), o 7 (.alloc l1), p (t 12 7 26), om 8 27, om 9 28] [3, 4, 5, 7, 8, 9]
 (.seq (rs [om 29 9, o 30 (c 8 [29]), o 31 (nj 30 0)] [3, 4, 5, 7, 8, 31]
 (.cond (.s 31) (rs [om 32 8, o 33 (le 32), o 34 (qj 33 0), om 6 34] [6]
 (.ret [6])) .skip))
 (ss [a 35 (f 1 7), a 36 (k 35), a 37 (qj 36 1), am 38 37, b 39 (f 1 4) 38, b 40 (k 39) 38, b 41 (qj 40 2) 38, bb 42 41 38, d 43 (f 2 4) 42, d 44 (k 43) 42, d 45 (f 2 7) 42, d 46 (k 45) 42, d 47 (bl 44 46) 42, b 48 (ko 42 47) 38, a 49 (ka 38 48), am 10 49] [3, 4, 5, 7, 8, 10]
 (.seq (rs [om 50 10, o 51 (nt 50)] [3, 4, 5, 7, 8, 51]
 (.cond (.s 51) (ss [a 52 (f 1 7), a 53 (k 52), a 54 (nj 53 1), am 55 54, d 56 (f 1 4) 55, d 57 (k 56) 55, d 58 (qj 57 1) 55, d 59 (m 58) 55, b 60 (f 2 4) 59, b 61 (k 60) 59, b 62 (f 2 7) 59, b 63 (k 62) 59, b 64 (q 61 63) 59, d 65 (ka 59 64) 55, d 66 (m 65) 55, bb 67 8 66, b 68 (le 67) 66, b 69 (qj 68 0) 66, d 70 (ka 66 69) 55, a 71 (ko 55 70), am 6 71] [6]
 (.ret [6])) .skip))
 (.seq (sp (some [(7, 11)]) [a 72 (f 2 4), a 73 (k 72), a 74 (f 2 5), a 75 (k 74), a 76 (bg 73 75), am 77 76, d 78 (f 0 4) 77, d 79 (k 78) 77, d 80 (l 4 3) 77, d 81 (f 2 5) 77, d 82 (k 81) 77, r 83 (c 9 [80, 82]) 77, r 84 (n 79 83) 77, a 85 (ko 77 84), am 86 85, d 87 (f 2 7) 86, d 88 (k 87) 86, d 89 (f 2 5) 86, d 90 (k 89) 86, d 91 (n 88 90) 86, a 92 (ko 86 91), am 93 92, d 94 (f 3 7) 93, d 95 (k 94) 93, d 96 (f 2 5) 93, d 97 (k 96) 93, d 98 (n 95 97) 93, a 99 (ko 93 98)] [3, 4, 5, 7, 8, 99]
 (.cond (.s 99) (rs [o 6 (.mv (.c w))] [6]
 (.ret [6])) .skip))
 (rs [ol 100 12 4, o 101 (c 10 [100]), o 102 (.fld none 10 (.s 101)), om 11 102] [3, 4, 5, 7, 8, 11]
 (.seq (rs [of 103 2 4, o 104 (k 103), of 105 2 5, o 106 (k 105), o 107 (bl 104 106)] [3, 4, 5, 7, 8, 11, 107]
 (.cond (.s 107) (.reg [o 11 (.mv (.c (.nil 55 6 false)))] none [3, 4, 5, 7, 8, 11]) .skip))
 (rs [om 108 11, of 109 3 4, o 110 (k 109), of 111 5 4, o 112 (k 111), of 113 4 4, o 114 (k 113), o 115 (.build l2 [(3, 1, (.s 110)), (4, 1, (.s 112)), (5, 1, (.s 114))]), of 116 13 5, o 117 (k 116), of 118 12 5, o 119 (k 118), of 120 16 5, o 121 (k 120), o 122 (.build l2 [(3, 1, (.s 117)), (4, 1, (.s 119)), (5, 1, (.s 121))]), o 123 (.bsl 55 6 false 2 [z, y, y, z, z, (.nil 38 5 true), z, y, y, z, z, (.nil 38 5 true)] [(0, 6, (.s 115)), (6, 6, (.s 122))]), o 124 (.app 55 6 64 false (.s 108) (.s 123)), om 11 124] [3, 4, 5, 7, 8, 11]
 (rs [o 12 (.mv (j (-1))), o 13 (.mv (j (-1)))] [3, 4, 5, 7, 8, 11, 12, 13]
 (.seq (rs [o 14 (.mv (j 0))] [3, 4, 5, 7, 8, 11, 12, 13, 14]
 (.block 0 (.loop xf_law11_ChangeChoice_k0 xf_law11_ChangeChoice_b0)))
 (rs [o 15 (.mv (.c w))] [3, 4, 5, 7, 8, 11, 12, 13, 15]
 (.seq (rs [o 16 (.mv (j 0))] [3, 4, 5, 7, 8, 11, 12, 13, 15, 16]
 (.block 2 (.loop xf_law11_ChangeChoice_k1 xf_law11_ChangeChoice_b1)))
 (.seq (ss [am 194 15, a 195 (nt 194), am 196 195, d 197 (f 4 7) 196, d 198 (k 197) 196, d 199 (le 198) 196, d 200 (m 13) 196, d 201 (n 199 200) 196, a 202 (ko 196 201)] [3, 4, 5, 7, 8, 202]
 (.cond (.s 202) (rs [o 6 (.mv (.c w))] [6]
 (.ret [6])) .skip))
 (.seq (ss [a 203 (f 5 7), a 204 (k 203), a 205 (f 5 4), a 206 (k 205), a 207 (bl 204 206), am 208 207, b 209 (f 5 7) 208, b 210 (k 209) 208, b 211 (f 4 7) 208, b 212 (k 211) 208, b 213 (le 212) 208, b 214 (bl 210 213) 208, a 215 (ka 208 214), am 216 215, d 217 (f 5 7) 216, d 218 (k 217) 216, d 219 (f 12 5) 216, d 220 (k 219) 216, d 221 (bl 218 220) 216, d 222 (m 221) 216, b 223 (f 5 7) 222, b 224 (k 223) 222, b 225 (f 4 7) 222, b 226 (k 225) 222, b 227 (le 226) 222, b 228 (bl 224 227) 222, d 229 (ka 222 228) 216, a 230 (ko 216 229)] [3, 7, 8, 230]
 (.cond (.s 230) (rs [o 6 (.mv (.c w))] [6]
 (.ret [6])) .skip))
 (rs [o 17 (.mv (j 0))] [3, 7, 8, 17]
 (.seq (rs [o 18 (.mv (j 0))] [3, 7, 8, 17, 18]
 (.block 4 (.loop xf_law11_ChangeChoice_k2 xf_law11_ChangeChoice_b2)))
 (rs [om 267 17, of 268 0 3, o 269 (k 268), o 270 (.bin .mul (j 2) (.s 269)), o 271 (q 267 270), om 6 271] [6]
 (.ret [6]))))))))))))))))))))⟩

def xf_law11_ChangeCounts_k0 : List (Nat × Option (Nat × Nat × Bool)) := [(3, none), (4, none), (5, none), (7, none), (8, some (58, 19, false)), (10, none), (11, none), (12, none)]
def xf_law11_ChangeCounts_b0 : XCode := (.seq (rs [om 32 12, om 33 8, o 34 (le 33), o 35 (bl 32 34)] [3, 4, 5, 7, 8, 10, 11, 12, 35]
 (.cond (.s 35) .skip (.exit 0 [3, 4, 5, 7, 10, 11])))
 (.seq (.block 1 (.seq (rs [om 38 8, om 39 12, o 40 (ia 19 38 39), of 41 1 40, of 42 0 41, o 43 (k 42), o 44 (qj 43 7)] [3, 4, 5, 7, 8, 10, 11, 12, 44]
 (.cond (.s 44) (.reg [om 45 10, o 46 (baj 45 1), om 10 46] none [3, 4, 5, 7, 8, 10, 11, 12]) .skip))
 (rs [om 47 8, om 48 12, o 49 (ia 19 47 48), of 50 1 49, of 51 0 50, o 52 (k 51), o 53 (qj 52 8)] [3, 4, 5, 7, 8, 10, 11, 12, 53]
 (.cond (.s 53) (.reg [om 54 11, o 55 (baj 54 1), om 11 55] none [3, 4, 5, 7, 8, 10, 11, 12]) .skip))))
 (.reg [om 36 12, o 37 (baj 36 1), om 12 37] none [3, 4, 5, 7, 8, 10, 11, 12])))
def xf_law11_ChangeCounts : XFunc := ⟨none, false, 3, [.tmp 6], (rs [o 3 (bx 0), o 4 (bx 1), o 5 (bx 2), o 6 (.mv (.c w))] [3, 4, 5]
 (.seq (rs [o 16 (c 6 []), o 17 (nt 16)] [3, 4, 5, 17]
 (.cond (.s 17) (rs [o 6 (.mv (.c w))] [6]
 (.ret [6])) .skip))
 (rs [ol 19 4 3, ol 20 12 4, ol 21 18 5, o 22 (c 12 [19, 20, 21]), om 18 22, o 23 (e 18 0), o 24 (e 18 1), o 25 (e 18 2), o 7 (.alloc l1), p (t 12 7 23), om 8 24, om 9 25] [3, 4, 5, 7, 8, 9]
 (.seq (rs [om 26 9, o 27 (c 8 [26]), o 28 (nj 27 0)] [3, 4, 5, 7, 8, 28]
 (.cond (.s 28) (rs [om 29 8, o 30 (le 29), o 31 (qj 30 0), om 6 31] [6]
 (.ret [6])) .skip))
 (rs [o 10 (.mv (j 0)), o 11 (.mv (j 0))] [3, 4, 5, 7, 8, 10, 11]
 (.seq (rs [o 12 (.mv (j 0))] [3, 4, 5, 7, 8, 10, 11, 12]
 (.block 0 (.loop xf_law11_ChangeCounts_k0 xf_law11_ChangeCounts_b0)))
 (.seq (ss [am 56 10, a 57 (bgj 56 1), am 58 57, d 59 (m 10) 58, d 60 (qj 59 1) 58, d 61 (m 60) 58, b 62 (f 9 7) 61, b 63 (k 62) 61, b 64 (le 63) 61, b 65 (f 0 3) 61, b 66 (k 65) 61, b 67 (bl 64 66) 61, bb 68 67 61, d 69 (f 0 5) 68, d 70 (k 69) 68, d 71 (nj 70 6) 68, b 72 (ko 68 71) 61, d 73 (ka 61 72) 58, a 74 (ko 58 73), am 75 74, d 76 (m 11) 75, d 77 (bgj 76 0) 75, d 78 (m 77) 75, b 79 (f 0 5) 78, b 80 (k 79) 78, b 81 (nj 80 7) 78, bb 82 81 78, d 83 (f 10 4) 82, d 84 (k 83) 82, d 85 (le 84) 82, d 86 (f 0 3) 82, d 87 (k 86) 82, d 88 (bsj 87 1) 82, d 89 (bl 85 88) 82, b 90 (ko 82 89) 78, bb 91 90 78, d 92 (f 1 7) 91, d 93 (k 92) 91, d 94 (nj 93 1) 91, b 95 (ko 91 94) 78, d 96 (ka 78 95) 75, a 97 (ko 75 96)] [3, 5, 7, 97]
 (.cond (.s 97) (rs [o 6 (.mv (.c w))] [6]
 (.ret [6])) .skip))
 (.seq (ss [a 98 (f 0 5), a 99 (k 98), a 100 (nj 99 6), am 101 100, b 102 (f 0 5) 101, b 103 (k 102) 101, b 104 (nj 103 7) 101, a 105 (ka 101 104), am 106 105, b 107 (f 0 5) 106, b 108 (k 107) 106, b 109 (nj 108 8) 106, a 110 (ka 106 109)] [3, 5, 7, 110]
 (.cond (.s 110) (rs [o 6 (.mv (.c v))] [6]
 (.ret [6])) .skip))
 (rs [ol 112 4 3, ol 113 12 7, ol 114 18 5, o 115 (c 12 [112, 113, 114]), om 111 115, o 116 (e 111 0), o 117 (e 111 1), o 118 (e 111 2), o 13 (.alloc l1), p (t 12 13 116), om 14 117, om 15 118] [7, 13, 14, 15]
 (ss [am 119 15, a 120 (c 8 [119]), a 121 (qj 120 0), am 122 121, bb 123 14 122, b 124 (le 123) 122, b 125 (qj 124 0) 122, a 126 (ka 122 125), am 127 126, b 128 (l 12 13) 127, b 129 (l 12 7) 127, u 130 (c 13 [128, 129]) 127, a 131 (ka 127 130), am 6 131] [6]
 (.ret [6])))))))))))⟩

def xf_law11_ChangeStands_k0 : List (Nat × Option (Nat × Nat × Bool)) := [(2, none), (3, none), (10, none), (11, none)]
def xf_law11_ChangeStands_b0 : XCode := (.seq (rs [om 46 11, om 47 2, o 48 (le 47), o 49 (bl 46 48)] [2, 3, 10, 11, 49]
 (.cond (.s 49) .skip (.exit 0 [])))
 (.seq (.block 1 (rp (some [(0, 11), (1, 11), (4, 11), (5, 11), (6, 11)]) [ol 53 4 3, ol 54 12 10, om 55 2, om 56 11, o 57 (ia 18 55 56), ol 58 18 57, o 59 (c 12 [53, 54, 58]), om 52 59, o 60 (e 52 0), o 61 (e 52 1), o 62 (e 52 2), o 12 (.alloc l1), p (t 12 12 60), om 13 61, om 14 62] [2, 3, 10, 11, 12, 13, 14]
 (.seq (rs [om 63 14, o 64 (c 8 [63]), o 65 (nj 64 0)] [2, 3, 10, 11, 12, 13, 65]
 (.cond (.s 65) (.seq (ss [am 66 13, a 67 (le 66), a 68 (nj 67 0), am 69 68, d 70 (f 1 12) 69, d 71 (k 70) 69, d 72 (nj 71 0) 69, a 73 (ko 69 72)] [2, 3, 10, 11, 73]
 (.cond (.s 73) (rs [o 6 (.mv (.c w))] [6]
 (.ret [6])) .skip))
 (.exit 1 [2, 3, 10, 11])) .skip))
 (rs [of 74 6 10, o 75 (k 74), of 76 6 12, o 77 (k 76), o 78 (c 17 [75, 77]), om 15 78] [2, 3, 10, 11, 12, 13, 15]
 (.seq (ss [a 79 (l 4 3), a 80 (l 12 12), a 81 (c 14 [79, 80]), a 82 (c 8 [81]), a 83 (nj 82 0), am 84 83, d 85 (l 4 3) 84, d 86 (l 12 12) 84, d 87 (m 13) 84, r 88 (c 18 [85, 86, 87]) 84, r 89 (nt 88) 84, a 90 (ko 84 89), am 91 90, d 92 (f 2 12) 91, d 93 (k 92) 91, d 94 (f 2 10) 91, d 95 (k 94) 91, d 96 (bl 93 95) 91, a 97 (ko 91 96), am 98 97, d 99 (f 3 12) 98, d 100 (k 99) 98, d 101 (f 3 10) 98, d 102 (k 101) 98, d 103 (bl 100 102) 98, a 104 (ko 98 103), am 105 104, d 106 (m 15) 105, d 107 (nj 106 1) 105, d 108 (m 107) 105, bb 109 15 108, b 110 (nj 109 2) 108, d 111 (ka 108 110) 105, a 112 (ko 105 111)] [2, 3, 10, 11, 12, 13, 112]
 (.cond (.s 112) (rs [o 6 (.mv (.c w))] [6]
 (.ret [6])) .skip))
 (.seq (rs [of 113 3 12, o 114 (k 113), of 115 3 10, o 116 (k 115), o 117 (bg 114 116), om 118 117, g 119 (f 1 12) 118, g 120 (k 119) 118, g 121 (nj 120 1) 118, o 122 (ka 118 121), om 123 122, h 124 (f 1 12) 123, h 125 (k 124) 123, h 126 (qj 125 2) 123, h 127 (m 126) 123, g 128 (f 3 12) 127, g 129 (k 128) 127, g 130 (f 3 10) 127, g 131 (k 130) 127, g 132 (n 129 131) 127, g 133 (m 132) 127, h 134 (f 5 12) 133, h 135 (k 134) 133, h 136 (f 5 10) 133, h 137 (k 136) 133, h 138 (n 135 137) 133, g 139 (ko 133 138) 127, g 140 (m 139) 127, h 141 (f 4 12) 140, h 142 (k 141) 140, h 143 (f 4 10) 140, h 144 (k 143) 140, h 145 (c 11 [142, 144]) 140, h 146 (nt 145) 140, g 147 (ko 140 146) 127, h 148 (ka 127 147) 123, o 149 (ko 123 148)] [2, 3, 10, 11, 12, 13, 149]
 (.cond (.s 149) (rs [o 6 (.mv (.c w))] [6]
 (.ret [6])) .skip))
 (.seq (ss [a 150 (f 1 12), a 151 (k 150), a 152 (qj 151 3), am 153 152, bb 154 13 153, b 155 (le 154) 153, b 156 (bgj 155 0) 153, a 157 (ka 153 156)] [2, 3, 10, 11, 12, 157]
 (.cond (.s 157) (rs [o 6 (.mv (.c w))] [6]
 (.ret [6])) .skip))
 (.reg [ol 158 12 12, p (t 12 10 158)] none [2, 3, 10, 11]))))))))
 (.reg [om 50 11, o 51 (baj 50 1), om 11 51] none [2, 3, 10, 11])))
def xf_law11_ChangeStands : XFunc := ⟨none, false, 3, [.tmp 6], (rs [o 3 (bx 0), o 4 (bx 1), o 6 (.mv (.c w))] [2, 3, 4]
 (.seq (rs [o 16 (c 6 []), o 17 (nt 16)] [2, 3, 4, 17]
 (.cond (.s 17) (rs [o 6 (.mv (.c w))] [6]
 (.ret [6])) .skip))
 (.seq (rs [ol 18 4 3, ol 19 12 4, o 20 (c 14 [18, 19]), o 21 (c 8 [20]), o 22 (nj 21 0)] [2, 3, 4, 22]
 (.cond (.s 22) (rs [ol 24 4 3, ol 25 12 4, o 26 (c 15 [24, 25]), om 23 26, o 27 (e 23 0), o 28 (e 23 1), o 29 (e 23 2), o 7 (.alloc l1), p (t 12 7 27), om 8 28, om 9 29] [3, 4, 8, 9]
 (ss [am 30 9, a 31 (c 8 [30]), a 32 (nj 31 0), am 33 32, bb 34 8 33, b 35 (le 34) 33, b 36 (qj 35 0) 33, a 37 (ka 33 36), am 38 37, b 39 (l 4 3) 38, b 40 (l 12 4) 38, u 41 (c 16 [39, 40]) 38, u 42 (nj 41 0) 38, a 43 (ka 38 42), am 6 43] [6]
 (.ret [6]))) .skip))
 (rs [ol 44 12 4, o 45 (c 10 [44]), o 10 (.alloc l1), p (t 12 10 45)] [2, 3, 10]
 (.seq (rs [o 11 (.mv (j 0))] [2, 3, 10, 11]
 (.block 0 (.loop xf_law11_ChangeStands_k0 xf_law11_ChangeStands_b0)))
 (rs [o 6 (.mv (.c v))] [6]
 (.ret [6])))))))⟩

def xf_law11_alive : XFunc := ⟨none, false, 0, [.tmp 0], (rs [o 0 (.mv (.c w))] []
 (rs [o 11 (c 19 []), o 12 (.call (fc 20) [(j 1)]), o 13 (c 15 [11, 12]), om 10 13, o 14 (e 10 0), o 15 (e 10 1), o 16 (e 10 2), o 1 (.alloc l1), p (t 12 1 14), om 2 15, om 3 16] [1, 2, 3]
 (.seq (ss [am 17 3, a 18 (c 8 [17]), a 19 (nj 18 0), am 20 19, d 21 (f 1 1) 20, d 22 (k 21) 20, d 23 (nj 22 2) 20, a 24 (ko 20 23), am 25 24, d 26 (f 2 1) 25, d 27 (k 26) 25, d 28 (nj 27 1) 25, a 29 (ko 25 28), am 30 29, d 31 (m 2) 30, d 32 (le 31) 30, d 33 (nj 32 2) 30, a 34 (ko 30 33), am 35 34, d 36 (m 2) 35, r 37 (.iadr 19 (.s 36) (j 0)) 35, r 38 (f 0 37) 35, r 39 (k 38) 35, r 40 (nj 39 0) 35, a 41 (ko 35 40), am 42 41, d 43 (m 2) 42, r 44 (.iadr 19 (.s 43) (j 1)) 42, r 45 (f 0 44) 42, r 46 (k 45) 42, r 47 (nj 46 2) 42, a 48 (ko 42 47)] [1, 2, 48]
 (.cond (.s 48) (rs [o 0 (.mv (.c w))] [0]
 (.ret [0])) .skip))
 (rp (some [(0, 3), (1, 3), (0, 5), (1, 5), (0, 11), (1, 11), (3, 11), (5, 11), (6, 11)]) [o 50 (c 19 []), o 51 (.call (fc 20) [(j 2)]), om 52 2, o 53 (.iadr 19 (.s 52) (j 1)), of 54 1 53, ol 55 18 54, o 56 (c 21 [50, 51, 55]), om 49 56, o 57 (e 49 0), o 58 (e 49 1), o 59 (e 49 2), o 4 (.alloc l1), p (t 12 4 57), om 5 58, om 6 59] [1, 5, 6]
 (.seq (ss [am 60 6, a 61 (c 8 [60]), a 62 (nj 61 0), am 63 62, d 64 (m 5) 63, d 65 (le 64) 63, d 66 (nj 65 3) 63, a 67 (ko 63 66), am 68 67, d 69 (m 5) 68, r 70 (.iadr 19 (.s 69) (j 2)) 68, r 71 (f 0 70) 68, r 72 (k 71) 68, r 73 (nj 72 1) 68, a 74 (ko 68 73), am 75 74, d 76 (m 5) 75, r 77 (.iadr 19 (.s 76) (j 2)) 75, r 78 (f 1 77) 75, r 79 (f 0 78) 75, r 80 (k 79) 75, r 81 (nj 80 7) 75, a 82 (ko 75 81)] [1, 5, 82]
 (.cond (.s 82) (rs [o 0 (.mv (.c w))] [0]
 (.ret [0])) .skip))
 (rp (some [(0, 1), (0, 3), (0, 5), (0, 11), (1, 11), (3, 11), (5, 11), (6, 11)]) [o 84 (c 19 []), ol 85 12 1, om 86 5, o 87 (.iadr 19 (.s 86) (j 2)), of 88 1 87, ol 89 18 88, o 90 (c 7 [84, 85, 89]), om 83 90, o 91 (e 83 0), o 92 (e 83 1), o 93 (e 83 2), o 7 (.alloc l1), p (t 12 7 91), om 8 92, om 9 93] [7, 8, 9]
 (ss [am 94 9, a 95 (c 8 [94]), a 96 (qj 95 0), am 97 96, b 98 (f 1 7) 97, b 99 (k 98) 97, b 100 (qj 99 1) 97, a 101 (ka 97 100), am 102 101, bb 103 8 102, b 104 (le 103) 102, b 105 (qj 104 2) 102, a 106 (ka 102 105), am 107 106, bb 108 8 107, u 109 (.iadr 19 (.s 108) (j 0)) 107, u 110 (f 1 109) 107, u 111 (f 0 110) 107, u 112 (k 111) 107, u 113 (qj 112 8) 107, a 114 (ka 107 113), am 0 114] [0]
 (.ret [0]))))))))⟩

def xf_change_Vote : XFunc := ⟨none, true, 3, [.cell 6 (some 12), .tmp 7, .tmp 8], (rs [o 3 (bx 0), o 4 (bx 1), o 5 (bx 2), o 6 (.alloc l1), o 7 (.mv (.c (.nil 58 19 false))), o 8 (.mv (j 0))] [3, 4, 5, 6]
 (rs [ol 9 4 3, ol 10 12 4, ol 11 18 5, o 12 (.call (fc 22) [(.s 9), (.s 10), (.s 11), (j 7)]), o 13 (e 12 0), o 14 (e 12 1), o 15 (e 12 2), p (t 12 6 13), om 7 14, om 8 15] [6, 7, 8]
 (.ret [6, 7, 8])))⟩

def xf_law11_num : XFunc := ⟨none, false, 1, [.tmp 2], (rs [o 2 (.mv (j 0))] [0]
 (rs [om 3 0, om 2 3] [2]
 (.ret [2])))⟩

def xf_core_Primary : XFunc := ⟨none, true, 2, [.tmp 4], (rs [o 2 (bx 0), o 4 (.mv (j 0))] [1, 2]
 (.seq (ss [a 5 (l 4 2), a 6 (c 23 [5]), a 7 (nj 6 0), am 8 7, d 9 (m 1) 8, d 10 (blj 9 0) 8, a 11 (ko 8 10), am 12 11, d 13 (m 1) 12, d 14 (bgj 13 4294967296) 12, a 15 (ko 12 14)] [1, 2, 15]
 (.cond (.s 15) (rs [o 4 (.mv (j (-1)))] [4]
 (.ret [4])) .skip))
 (rs [om 16 1, ol 17 4 2, o 18 (c 24 [17]), o 19 (.bin .rem (.s 16) (.s 18)), om 4 19] [4]
 (.ret [4]))))⟩

def xf_plain_CopyState_k0 : List (Nat × Option (Nat × Nat × Bool)) := [(1, none), (2, none), (3, some (55, 6, false)), (4, none)]
def xf_plain_CopyState_b0 : XCode := (.seq (rs [om 25 4, of 26 10 1, o 27 (k 26), o 28 (le 27), o 29 (bl 25 28)] [1, 2, 3, 4, 29]
 (.cond (.s 29) .skip (.exit 0 [1, 2, 3])))
 (.seq (.block 1 (rs [of 32 10 1, o 33 (k 32), om 34 4, o 35 (ia 6 33 34), ol 36 6 35, o 5 (.alloc l2), p (t 6 5 36)] [1, 2, 3, 4, 5]
 (rs [of 37 5 5, o 38 (k 37), o 39 (c 25 [38]), of 40 5 5, p (t 1 40 39)] [1, 2, 3, 4, 5]
 (.reg [om 41 3, ol 42 6 5, o 43 (.bsl 55 6 false 1 l2 [(0, 6, (.s 42))]), o 44 (.app 55 6 64 false (.s 41) (.s 43)), om 3 44] none [1, 2, 3, 4]))))
 (.reg [om 30 4, o 31 (baj 30 1), om 4 31] none [1, 2, 3, 4])))
def xf_plain_CopyState_k1 : List (Nat × Option (Nat × Nat × Bool)) := [(1, none), (2, none), (6, some (77, 6, false)), (7, none)]
def xf_plain_CopyState_b1 : XCode := (.seq (rs [om 47 7, of 48 11 1, o 49 (k 48), o 50 (le 49), o 51 (bl 47 50)] [1, 2, 6, 7, 51]
 (.cond (.s 51) .skip (.exit 2 [1, 2, 6])))
 (.seq (.block 3 (rs [of 54 11 1, o 55 (k 54), om 56 7, o 57 (ia 6 55 56), ol 58 6 57, o 8 (.alloc l2), p (t 6 8 58)] [1, 2, 6, 7, 8]
 (rs [of 59 5 8, o 60 (k 59), o 61 (c 25 [60]), of 62 5 8, p (t 1 62 61)] [1, 2, 6, 7, 8]
 (.reg [om 63 6, ol 64 6 8, o 65 (.bsl 77 6 false 1 l2 [(0, 6, (.s 64))]), o 66 (.app 77 6 64 false (.s 63) (.s 65)), om 6 66] none [1, 2, 6, 7]))))
 (.reg [om 52 7, o 53 (baj 52 1), om 7 53] none [1, 2, 6, 7])))
def xf_plain_CopyState : XFunc := ⟨none, false, 1, [.cell 2 (some 12)], (rs [o 1 (bx 0), o 2 (.alloc l1)] [1, 2]
 (rs [of 9 4 1, o 10 (k 9), o 11 (c 25 [10]), of 12 4 1, p (t 1 12 11)] [1, 2]
 (rs [of 13 6 1, o 14 (k 13), o 15 (c 26 [14]), of 16 6 1, p (t 1 16 15)] [1, 2]
 (rs [of 17 8 1, o 18 (k 17), o 19 (.app 102 4 32 true (.c (.nil 102 4 true)) (.s 18)), of 20 8 1, p (t 1 20 19)] [1, 2]
 (rs [of 21 9 1, o 22 (k 21), o 23 (.app 104 3 24 true (.c (.nil 104 3 true)) (.s 22)), of 24 9 1, p (t 1 24 23)] [1, 2]
 (rs [o 3 (.mv (.c (.nil 55 6 false)))] [1, 2, 3]
 (.seq (rs [o 4 (.mv (j 0))] [1, 2, 3, 4]
 (.block 0 (.loop xf_plain_CopyState_k0 xf_plain_CopyState_b0)))
 (rs [om 45 3, of 46 10 1, p (t 1 46 45)] [1, 2]
 (rs [o 6 (.mv (.c (.nil 77 6 false)))] [1, 2, 6]
 (.seq (rs [o 7 (.mv (j 0))] [1, 2, 6, 7]
 (.block 2 (.loop xf_plain_CopyState_k1 xf_plain_CopyState_b1)))
 (rs [om 67 6, of 68 11 1, p (t 1 68 67)] [1, 2]
 (rs [ol 69 12 1, p (t 12 2 69)] [2]
 (.ret [2])))))))))))))⟩

def xf_plain_SameEntries_k0 : List (Nat × Option (Nat × Nat × Bool)) := [(0, none), (1, none), (5, none)]
def xf_plain_SameEntries_b0 : XCode := (.seq (rs [om 11 5, om 12 0, o 13 (le 12), o 14 (bl 11 13)] [0, 1, 5, 14]
 (.cond (.s 14) .skip (.exit 0 [])))
 (.seq (.block 1 (rp (some []) [om 17 0, om 18 5, o 19 (ia 5 17 18), ol 20 5 19, om 21 1, om 22 5, o 23 (ia 5 21 22), ol 24 5 23, o 25 (.eqv true true [.i, .i, .i, .i, .s] (.s 20) (.s 24))] [0, 1, 5, 25]
 (.cond (.s 25) (rs [o 4 (.mv (.c w))] [4]
 (.ret [4])) .skip)))
 (.reg [om 15 5, o 16 (baj 15 1), om 5 16] none [0, 1, 5])))
def xf_plain_SameEntries : XFunc := ⟨none, true, 2, [.tmp 4], (rs [o 4 (.mv (.c w))] [0, 1]
 (.seq (rs [om 6 0, o 7 (le 6), om 8 1, o 9 (le 8), o 10 (n 7 9)] [0, 1, 10]
 (.cond (.s 10) (rs [o 4 (.mv (.c w))] [4]
 (.ret [4])) .skip))
 (.seq (rs [o 5 (.mv (j 0))] [0, 1, 5]
 (.block 0 (.loop xf_plain_SameEntries_k0 xf_plain_SameEntries_b0)))
 (rs [o 4 (.mv (.c v))] [4]
 (.ret [4])))))⟩

def xf_law11_step : XFunc := ⟨none, true, 3, [.cell 6 (some 12), .tmp 7, .tmp 8], (rs [o 3 (bx 0), o 4 (bx 1), o 5 (bx 2), o 6 (.alloc l1), o 7 (.mv (.c (.nil 58 19 false))), o 8 (.mv (j 0))] [3, 4, 5, 6]
 (.seq (rs [of 9 0 5, o 10 (k 9)] [3, 4, 5, 6, 10]
 (.block 0 (rs [o 12 (qj 10 6), om 11 12] [3, 4, 5, 6, 10, 11]
 (.cond (.s 11) (rs [ol 13 4 3, ol 14 12 4, ol 15 18 5, o 16 (c 21 [13, 14, 15]), o 17 (e 16 0), o 18 (e 16 1), o 19 (e 16 2), p (t 12 6 17), om 7 18, om 8 19] [6, 7, 8]
 (.ret [6, 7, 8])) (rs [o 21 (qj 10 7), om 20 21] [3, 4, 5, 6, 10, 20]
 (.cond (.s 20) (rs [ol 22 4 3, ol 23 12 4, ol 24 18 5, o 25 (c 7 [22, 23, 24]), o 26 (e 25 0), o 27 (e 25 1), o 28 (e 25 2), p (t 12 6 26), om 7 27, om 8 28] [6, 7, 8]
 (.ret [6, 7, 8])) (rs [o 30 (qj 10 8), om 29 30] [3, 4, 5, 6, 29]
 (.cond (.s 29) (rs [ol 31 4 3, ol 32 12 4, ol 33 18 5, o 34 (c 27 [31, 32, 33]), o 35 (e 34 0), o 36 (e 34 1), o 37 (e 34 2), p (t 12 6 35), om 7 36, om 8 37] [6, 7, 8]
 (.ret [6, 7, 8])) .skip))))))))
 (rs [ol 38 4 3, ol 39 12 4, o 40 (c 15 [38, 39]), o 41 (e 40 0), o 42 (e 40 1), o 43 (e 40 2), p (t 12 6 41), om 7 42, om 8 43] [6, 7, 8]
 (.ret [6, 7, 8]))))⟩

def xf_plain_SameState : XFunc := ⟨none, true, 2, [.tmp 4], (rs [o 2 (bx 0), o 3 (bx 1), o 4 (.mv (.c w))] [2, 3]
 (ss [a 5 (f 0 2), a 6 (k 5), a 7 (f 0 3), a 8 (k 7), a 9 (q 6 8), am 10 9, b 11 (f 1 2) 10, b 12 (k 11) 10, b 13 (f 1 3) 10, b 14 (k 13) 10, b 15 (q 12 14) 10, a 16 (ka 10 15), am 17 16, b 18 (f 2 2) 17, b 19 (k 18) 17, b 20 (f 2 3) 17, b 21 (k 20) 17, b 22 (q 19 21) 17, a 23 (ka 17 22), am 24 23, b 25 (f 3 2) 24, b 26 (k 25) 24, b 27 (f 3 3) 24, b 28 (k 27) 24, b 29 (q 26 28) 24, a 30 (ka 24 29), am 31 30, b 32 (f 5 2) 31, b 33 (k 32) 31, b 34 (f 5 3) 31, b 35 (k 34) 31, b 36 (q 33 35) 31, a 37 (ka 31 36), am 38 37, b 39 (f 7 2) 38, b 40 (k 39) 38, b 41 (f 7 3) 38, b 42 (k 41) 38, b 43 (q 40 42) 38, a 44 (ka 38 43), am 45 44, b 46 (f 4 2) 45, b 47 (k 46) 45, b 48 (f 4 3) 45, b 49 (k 48) 45, u 50 (c 11 [47, 49]) 45, a 51 (ka 45 50), am 52 51, b 53 (f 6 2) 52, b 54 (k 53) 52, b 55 (f 6 3) 52, b 56 (k 55) 52, u 57 (c 28 [54, 56]) 52, a 58 (ka 52 57), am 59 58, b 60 (f 8 2) 59, b 61 (k 60) 59, b 62 (f 8 3) 59, b 63 (k 62) 59, u 64 (c 29 [61, 63]) 59, a 65 (ka 59 64), am 66 65, b 67 (f 9 2) 66, b 68 (k 67) 66, b 69 (f 9 3) 66, b 70 (k 69) 66, u 71 (c 30 [68, 70]) 66, a 72 (ka 66 71), am 73 72, b 74 (f 10 2) 73, b 75 (k 74) 73, b 76 (f 10 3) 73, b 77 (k 76) 73, u 78 (c 31 [75, 77]) 73, a 79 (ka 73 78), am 80 79, b 81 (f 11 2) 80, b 82 (k 81) 80, b 83 (f 11 3) 80, b 84 (k 83) 80, u 85 (c 32 [82, 84]) 80, a 86 (ka 80 85), am 4 86] [4]
 (.ret [4])))⟩

def xf_core_Check : XFunc := ⟨none, true, 2, [.tmp 4], (rs [o 2 (bx 0), o 3 (bx 1), o 4 (.mv (j 0))] [2, 3]
 (.seq (rs [ol 8 4 2, o 9 (c 23 [8]), om 5 9] [2, 3, 5]
 (rs [om 10 5, o 11 (nj 10 0)] [2, 3, 5, 11]
 (.cond (.s 11) (rs [om 12 5, om 4 12] [4]
 (.ret [4])) .skip)))
 (rs [ol 13 4 2, o 14 (c 24 [13]), om 6 14] [2, 3, 6]
 (.seq (ss [a 15 (f 0 3), a 16 (k 15), a 17 (blj 16 0), am 18 17, d 19 (f 0 3) 18, d 20 (k 19) 18, d 21 (m 6) 18, d 22 (bh 20 21) 18, a 23 (ko 18 22), am 24 23, d 25 (f 2 3) 24, d 26 (k 25) 24, d 27 (blj 26 0) 24, a 28 (ko 24 27), am 29 28, d 30 (f 2 3) 29, d 31 (k 30) 29, d 32 (bgj 31 4294967296) 29, a 33 (ko 29 32), am 34 33, d 35 (f 3 3) 34, d 36 (k 35) 34, d 37 (blj 36 0) 34, a 38 (ko 34 37), am 39 38, d 40 (f 3 3) 39, d 41 (k 40) 39, d 42 (f 2 3) 39, d 43 (k 42) 39, d 44 (bg 41 43) 39, a 45 (ko 39 44), am 46 45, d 47 (f 7 3) 46, d 48 (k 47) 46, d 49 (blj 48 0) 46, a 50 (ko 46 49), am 51 50, d 52 (f 7 3) 51, d 53 (k 52) 51, d 54 (f 2 2) 51, d 55 (k 54) 51, d 56 (bh 53 55) 51, a 57 (ko 51 56), am 58 57, d 59 (f 6 3) 58, d 60 (k 59) 58, d 61 (le 60) 58, d 62 (m 6) 58, d 63 (n 61 62) 58, a 64 (ko 58 63), am 65 64, d 66 (l 4 2) 65, d 67 (f 4 3) 65, d 68 (k 67) 65, d 69 (f 5 3) 65, d 70 (k 69) 65, r 71 (c 33 [66, 68, 70]) 65, r 72 (nt 71) 65, a 73 (ko 65 72), am 74 73, d 75 (l 12 3) 74, r 76 (c 34 [75]) 74, r 77 (nt 76) 74, a 78 (ko 74 77)] [2, 3, 78]
 (.cond (.s 78) (rs [o 4 (.mv (j 2))] [4]
 (.ret [4])) .skip))
 (rs [o 7 (.mv (.c w))] [2, 3, 7]
 (.seq (rs [of 79 1 3, o 80 (k 79)] [2, 3, 7, 80]
 (.block 0 (rs [o 82 (qj 80 1), om 81 82] [2, 3, 7, 80, 81]
 (.cond (.s 81) (.reg [ol 83 4 2, ol 84 12 3, o 85 (c 35 [83, 84]), om 7 85] none [7]) (rs [o 87 (qj 80 2), om 86 87] [2, 3, 7, 80, 86]
 (.cond (.s 86) (.reg [ol 88 4 2, ol 89 12 3, o 90 (c 36 [88, 89]), om 7 90] none [7]) (rs [o 92 (qj 80 3), om 91 92] [2, 3, 7, 91]
 (.cond (.s 91) (.reg [ol 93 4 2, ol 94 12 3, o 95 (c 37 [93, 94]), om 7 95] none [7]) .skip))))))))
 (.seq (rs [om 96 7, o 97 (nt 96)] [97]
 (.cond (.s 97) (rs [o 4 (.mv (j 2))] [4]
 (.ret [4])) .skip))
 (rs [o 4 (.mv (j 0))] [4]
 (.ret [4])))))))))⟩

def xf_change_Suspect : XFunc := ⟨none, true, 2, [.cell 4 (some 12), .tmp 5, .tmp 6], (rs [o 2 (bx 0), o 3 (bx 1), o 4 (.alloc l1), o 5 (.mv (.c (.nil 58 19 false))), o 6 (.mv (j 0))] [2, 3, 4]
 (.seq (rs [ol 12 4 2, ol 13 12 3, o 14 (c 14 [12, 13]), om 7 14] [2, 3, 4, 7]
 (rs [om 15 7, o 16 (nj 15 0)] [2, 3, 4, 7, 16]
 (.cond (.s 16) (rs [o 17 (.build l1 []), om 18 7, p (t 12 4 17), o 5 (.mv (.c (.nil 58 19 false))), om 6 18] [4, 5, 6]
 (.ret [4, 5, 6])) .skip)))
 (.seq (rp (some [(11, 13)]) [of 19 1 3, o 20 (k 19), o 21 (qj 20 3), om 22 21, h 23 (f 1 3) 22, h 24 (k 23) 22, h 25 (qj 24 1) 22, h 26 (m 25) 22, g 27 (l 4 2) 26, g 28 (f 2 3) 26, g 29 (k 28) 26, g 30 (c 9 [27, 29]) 26, g 31 (f 0 3) 26, g 32 (k 31) 26, g 33 (q 30 32) 26, h 34 (ka 26 33) 22, o 35 (ko 22 34)] [2, 3, 4, 35]
 (.cond (.s 35) (rs [o 36 (.build l1 []), p (t 12 4 36), o 5 (.mv (.c (.nil 58 19 false))), o 6 (.mv (j 90))] [4, 5, 6]
 (.ret [4, 5, 6])) .skip))
 (rs [ol 38 4 2, ol 39 12 3, o 40 (.call (fc 38) [(.s 38), (.s 39), (j 0)]), om 37 40, o 41 (e 37 0), o 42 (e 37 1), o 43 (e 37 2), o 8 (.alloc l1), p (t 12 8 41), om 9 42, om 10 43] [2, 3, 4, 8]
 (rs [ol 44 4 2, ol 45 12 8, o 46 (.build l6 [(0, 4, (.s 44)), (4, 12, (.s 45))]), o 47 (bx 46), om 11 47] [3, 4, 11]
 (.seq (rs [of 48 2 3, o 49 (k 48), o 50 (blj 49 4294967296)] [3, 4, 11, 50]
 (.cond (.s 50) (.reg [om 51 11, of 52 2 3, o 53 (k 52), o 54 (baj 53 1), o 55 (c 39 [51, 54])] none [4, 11]) .skip))
 (rp (some [(7, 8)]) [om 56 11, o 57 (nc 56), of 58 4 57, ol 59 12 58, om 60 11, o 61 (nc 60), of 62 16 61, o 63 (k 62), p (t 12 4 59), om 5 63, o 6 (.mv (j 0))] [4, 5, 6]
 (.ret [4, 5, 6]))))))))⟩

def xf_ref09_Check : XFunc := ⟨none, true, 2, [.tmp 4], (rs [o 2 (bx 0), o 3 (bx 1), o 4 (.mv (j 0))] [2, 3]
 (rs [ol 6 4 2, o 7 (c 40 [6]), om 5 7] [2, 3, 5]
 (.seq (ss [am 8 5, a 9 (qj 8 0), am 10 9, b 11 (l 4 2) 10, b 12 (l 12 3) 10, u 13 (c 41 [11, 12]) 10, u 14 (nt 13) 10, a 15 (ka 10 14)] [5, 15]
 (.cond (.s 15) (.reg [o 5 (.mv (j 2))] none [5]) .skip))
 (rs [om 16 5, om 4 16] [4]
 (.ret [4])))))⟩

def xf_vector_Compare_k0 : List (Nat × Option (Nat × Nat × Bool)) := [(0, none), (1, none), (5, none), (6, none), (14, none), (15, none)]
def xf_vector_Compare_b0 : XCode := (rs [o 16 (bl 15 14)] [0, 1, 5, 6, 14, 15, 16]
 (.seq (.cond (.s 16) .skip (.exit 0 [5, 6]))
 (.seq (.block 1 (rs [om 17 15, om 7 17] [0, 1, 5, 6, 7, 14, 15]
 (rp (some []) [om 18 0, om 19 7, o 20 (ia 2 18 19), ol 21 2 20, om 22 1, om 23 7, o 24 (ia 2 22 23), ol 25 2 24, o 26 (c 42 [21, 25])] [0, 1, 5, 6, 14, 15, 26]
 (.block 2 (rs [o 28 (qj 26 1), om 27 28] [0, 1, 5, 6, 14, 15, 26, 27]
 (.cond (.s 27) (.reg [o 5 (.mv (.c v))] none [0, 1, 5, 6, 14, 15]) (rs [o 30 (qj 26 (-1)), om 29 30] [0, 1, 5, 6, 14, 15, 29]
 (.cond (.s 29) (.reg [o 6 (.mv (.c v))] none [0, 1, 5, 6, 14, 15]) .skip))))))))
 (.reg [o 31 (baj 15 1), om 15 31] none [0, 1, 5, 6, 14, 15]))))
def xf_vector_Compare : XFunc := ⟨none, true, 2, [.tmp 4], (rs [o 4 (.mv (j 0))] [0, 1]
 (.seq (rs [om 8 0, o 9 (le 8), om 10 1, o 11 (le 10), o 12 (n 9 11)] [0, 1, 12]
 (.cond (.s 12) (rs [o 4 (.mv (j 0))] [4]
 (.ret [4])) .skip))
 (rs [o 5 (.mv (.c w)), o 6 (.mv (.c w))] [0, 1, 5, 6]
 (.seq (rs [om 13 0, o 14 (le 13), o 15 (.mv (j 0))] [0, 1, 5, 6, 14, 15]
 (.block 0 (.loop xf_vector_Compare_k0 xf_vector_Compare_b0)))
 (.seq (.block 3 (ss [am 33 5, am 34 33, bb 35 6 34, a 36 (ka 34 35), am 32 36] [5, 6, 32]
 (.cond (.s 32) (rs [o 4 (.mv (j 4))] [4]
 (.ret [4])) (rs [om 38 5, om 37 38] [6, 37]
 (.cond (.s 37) (rs [o 4 (.mv (j 3))] [4]
 (.ret [4])) (rs [om 40 6, om 39 40] [39]
 (.cond (.s 39) (rs [o 4 (.mv (j 2))] [4]
 (.ret [4])) .skip)))))))
 (rs [o 4 (.mv (j 1))] [4]
 (.ret [4])))))))⟩

def xf_law11_right_k0 : List (Nat × Option (Nat × Nat × Bool)) := [(2, none), (3, none), (4, none), (7, none)]
def xf_law11_right_b0 : XCode := (.seq (rs [om 9 7, om 10 2, o 11 (le 10), o 12 (bl 9 11)] [2, 3, 4, 7, 12]
 (.cond (.s 12) .skip (.exit 0 [])))
 (.seq (.block 1 (rs [om 15 2, om 16 7, o 17 (ia 19 15 16), of 18 1 17, ol 19 18 18, o 8 (.alloc l4), p (t 18 8 19)] [2, 3, 4, 7, 8]
 (.seq (sp (some []) [a 20 (l 4 3), a 21 (l 18 8), a 22 (c 43 [20, 21]), a 23 (c 8 [22]), a 24 (nj 23 0), am 25 24, d 26 (f 1 8) 25, d 27 (k 26) 25, d 28 (f 0 4) 25, d 29 (k 28) 25, d 30 (n 27 29) 25, a 31 (ko 25 30), am 32 31, d 33 (f 2 8) 32, d 34 (k 33) 32, d 35 (f 2 4) 32, d 36 (k 35) 32, d 37 (n 34 36) 32, a 38 (ko 32 37), am 39 38, d 40 (m 2) 39, d 41 (m 7) 39, r 42 (ia 19 40 41) 39, r 43 (f 0 42) 39, r 44 (k 43) 39, d 45 (f 0 4) 39, d 46 (k 45) 39, r 47 (q 44 46) 39, a 48 (ko 39 47)] [2, 3, 4, 7, 8, 48]
 (.cond (.s 48) (rs [o 6 (.mv (.c w))] [6]
 (.ret [6])) .skip))
 (rs [of 49 0 8, o 50 (k 49), o 51 (qj 50 2)] [2, 3, 4, 7, 8, 51]
 (.cond (.s 51) (rp (some []) [om 52 2, om 53 7, o 54 (ia 19 52 53), of 55 0 54, o 56 (k 55), of 57 3 8, of 58 0 57, o 59 (k 58), o 60 (.bin .add (j 7) (.s 59)), o 61 (n 56 60)] [2, 3, 4, 7, 61]
 (.cond (.s 61) (rs [o 6 (.mv (.c w))] [6]
 (.ret [6])) .skip)) (sp (some [(9, 13), (11, 13)]) [am 62 2, am 63 7, a 64 (ia 19 62 63), a 65 (f 0 64), a 66 (k 65), a 67 (blj 66 0), am 68 67, d 69 (m 2) 68, d 70 (m 7) 68, r 71 (ia 19 69 70) 68, r 72 (f 0 71) 68, r 73 (k 72) 68, d 74 (l 4 3) 68, r 75 (c 24 [74]) 68, r 76 (bh 73 75) 68, a 77 (ko 68 76), am 78 77, d 79 (f 17 8) 78, d 80 (k 79) 78, d 81 (f 6 4) 78, d 82 (k 81) 78, r 83 (c 28 [80, 82]) 78, r 84 (nt 83) 78, a 85 (ko 78 84)] [2, 3, 4, 7, 85]
 (.cond (.s 85) (rs [o 6 (.mv (.c w))] [6]
 (.ret [6])) .skip)))))))
 (.reg [om 13 7, o 14 (baj 13 1), om 7 14] none [2, 3, 4, 7])))
def xf_law11_right : XFunc := ⟨none, false, 3, [.tmp 6], (rs [o 3 (bx 0), o 4 (bx 1), o 6 (.mv (.c w))] [2, 3, 4]
 (.seq (rs [o 7 (.mv (j 0))] [2, 3, 4, 7]
 (.block 0 (.loop xf_law11_right_k0 xf_law11_right_b0)))
 (rs [o 6 (.mv (.c v))] [6]
 (.ret [6]))))⟩

def xf_law11_three : XFunc := ⟨none, false, 0, [.cell 0 (some 4)], (rs [o 0 (.alloc [z, z, z, w])] [0]
 (rs [o 1 (.build [z, z, z, w] [(0, 1, (j 1)), (1, 1, (j 4)), (2, 1, (j 6))]), p (t 4 0 1)] [0]
 (.ret [0])))⟩

def xf_law11_backup : XFunc := ⟨none, false, 1, [.cell 2 (some 12)], (rs [o 2 (.alloc l1)] [0, 2]
 (rs [om 3 0, o 4 (.mksl 43 2 16 true [y, y] (j 3) (j 3)), o 5 (.build l1 [(0, 1, (.s 3)), (1, 1, (j 1)), (6, 1, (.s 4))]), p (t 12 2 5)] [2]
 (.ret [2])))⟩

def xf_change_Start : XFunc := ⟨none, true, 3, [.cell 6 (some 12), .tmp 7, .tmp 8], (rs [o 3 (bx 0), o 4 (bx 1), o 5 (bx 2), o 6 (.alloc l1), o 7 (.mv (.c (.nil 58 19 false))), o 8 (.mv (j 0))] [3, 4, 5, 6]
 (rs [ol 9 4 3, ol 10 12 4, ol 11 18 5, o 12 (.call (fc 22) [(.s 9), (.s 10), (.s 11), (j 6)]), o 13 (e 12 0), o 14 (e 12 1), o 15 (e 12 2), p (t 12 6 13), om 7 14, om 8 15] [6, 7, 8]
 (.ret [6, 7, 8])))⟩

def xf_change_handle : XFunc := ⟨none, true, 4, [.cell 8 (some 12), .tmp 9, .tmp 10], (rs [o 4 (bx 0), o 5 (bx 1), o 6 (bx 2), o 8 (.alloc l1), o 9 (.mv (.c (.nil 58 19 false))), o 10 (.mv (j 0))] [3, 4, 5, 6, 8]
 (rs [ol 16 4 4, ol 17 12 5, o 18 (c 14 [16, 17]), om 11 18] [3, 4, 5, 6, 8, 11]
 (.seq (ss [am 19 11, a 20 (qj 19 0), am 21 20, b 22 (f 0 6) 21, b 23 (k 22) 21, bb 24 3 21, b 25 (n 23 24) 21, a 26 (ka 21 25)] [3, 4, 5, 6, 8, 11, 26]
 (.cond (.s 26) (.reg [o 11 (.mv (j 70))] none [3, 4, 5, 6, 8, 11]) .skip))
 (.seq (rs [om 27 11, o 28 (qj 27 0)] [3, 4, 5, 6, 8, 11, 28]
 (.cond (.s 28) (.reg [ol 29 4 4, ol 30 18 6, o 31 (c 43 [29, 30]), om 11 31] none [3, 4, 5, 6, 8, 11]) .skip))
 (.seq (rs [om 32 11, o 33 (nj 32 0)] [3, 4, 5, 6, 8, 11, 33]
 (.cond (.s 33) (rs [o 34 (.build l1 []), om 35 11, p (t 12 8 34), o 9 (.mv (.c (.nil 58 19 false))), om 10 35] [8, 9, 10]
 (.ret [8, 9, 10])) .skip))
 (rs [ol 37 4 4, ol 38 12 5, ol 39 18 6, o 40 (c 44 [37, 38, 39]), om 36 40, o 41 (e 36 0), o 42 (e 36 1), o 43 (e 36 2), o 12 (.alloc l1), p (t 12 12 41), om 13 42, om 14 43] [3, 4, 6, 8, 12, 13]
 (rs [ol 44 4 4, ol 45 12 12, o 46 (.build l6 [(0, 4, (.s 44)), (4, 12, (.s 45))]), ol 47 18 6, o 48 (.build [z, z, z, w, z, z, z, z, (.nil 38 5 true), z, (.nil 43 2 true), z, (.nil 102 4 true), (.nil 104 3 true), (.nil 55 6 false), (.nil 77 6 false), (.nil 58 19 false), z, z, z, z, z, z, z, x, z, z, x, z, z, z, y, y, (.nil 38 5 true), (.nil 43 2 true)] [(0, 17, (.s 46)), (17, 18, (.s 47))]), o 49 (bx 48), om 15 49] [3, 8, 12, 13, 15]
 (.seq (ss [am 50 13, am 51 50, b 52 (f 1 12) 51, b 53 (k 52) 51, b 54 (nj 53 3) 51, a 55 (ka 51 54)] [3, 8, 15, 55]
 (.cond (.s 55) (.reg [o 56 (c 45 []), om 57 3, o 58 (bsj 57 6), o 59 (.idx none 1 3 (.s 56) (.s 58)), om 60 15, o 61 (.call (.s 59) [(.s 60)])] none [8, 15]) .skip))
 (rp (some [(9, 10)]) [om 62 15, o 63 (nc 62), of 64 0 63, of 65 4 64, ol 66 12 65, om 67 15, o 68 (nc 67), of 69 0 68, of 70 16 69, o 71 (k 70), p (t 12 8 66), om 9 71, o 10 (.mv (j 0))] [8, 9, 10]
 (.ret [8, 9, 10]))))))))))⟩

def xf_core_CheckConfig : XFunc := ⟨none, true, 1, [.tmp 2], (rs [o 1 (bx 0), o 2 (.mv (j 0))] [1]
 (.seq (ss [a 3 (f 0 1), a 4 (k 3), a 5 (blj 4 1), am 6 5, d 7 (f 0 1) 6, d 8 (k 7) 6, d 9 (bgj 8 3) 6, a 10 (ko 6 9), am 11 10, d 12 (f 1 1) 11, d 13 (k 12) 11, d 14 (blj 13 1) 11, a 15 (ko 11 14), am 16 15, d 17 (f 1 1) 16, d 18 (k 17) 16, d 19 (bgj 18 256) 16, a 20 (ko 16 19), am 21 20, d 22 (f 2 1) 21, d 23 (k 22) 21, d 24 (blj 23 6) 21, a 25 (ko 21 24), am 26 25, d 27 (f 2 1) 26, d 28 (k 27) 26, d 29 (bgj 28 100) 26, a 30 (ko 26 29)] [30]
 (.cond (.s 30) (rs [o 2 (.mv (j 1))] [2]
 (.ret [2])) .skip))
 (rs [o 2 (.mv (j 0))] [2]
 (.ret [2]))))⟩

def xf_core_Nodes : XFunc := ⟨none, true, 1, [.tmp 2], (rs [o 1 (bx 0), o 2 (.mv (j 0))] [1]
 (.seq (rs [ol 3 4 1, o 4 (c 23 [3]), o 5 (nj 4 0)] [1, 5]
 (.cond (.s 5) (rs [o 2 (.mv (j 0))] [2]
 (.ret [2])) .skip))
 (rs [of 6 0 1, o 7 (k 6), o 8 (.bin .mul (j 2) (.s 7)), o 9 (baj 8 1), om 2 9] [2]
 (.ret [2]))))⟩

def xf_plain_CopyEntries : XFunc := ⟨none, false, 1, [.tmp 2], (rs [o 2 (.mv (.c (.nil 38 5 true)))] [0]
 (rs [om 3 0, o 4 (.app 38 5 48 true (.c (.nil 38 5 true)) (.s 3)), om 2 4] [2]
 (.ret [2])))⟩

def xf_plain_CopyVector : XFunc := ⟨none, false, 1, [.tmp 2], (rs [o 2 (.mv (.c (.nil 43 2 true)))] [0]
 (rs [om 3 0, o 4 (.app 43 2 16 true (.c (.nil 43 2 true)) (.s 3)), om 2 4] [2]
 (.ret [2])))⟩

def xf_change_Install : XFunc := ⟨none, true, 3, [.cell 6 (some 12), .tmp 7, .tmp 8], (rs [o 3 (bx 0), o 4 (bx 1), o 5 (bx 2), o 6 (.alloc l1), o 7 (.mv (.c (.nil 58 19 false))), o 8 (.mv (j 0))] [3, 4, 5, 6]
 (rs [ol 9 4 3, ol 10 12 4, ol 11 18 5, o 12 (.call (fc 22) [(.s 9), (.s 10), (.s 11), (j 8)]), o 13 (e 12 0), o 14 (e 12 1), o 15 (e 12 2), p (t 12 6 13), om 7 14, om 8 15] [6, 7, 8]
 (.ret [6, 7, 8])))⟩

def xf_plain_SameVector_k0 : List (Nat × Option (Nat × Nat × Bool)) := [(0, none), (1, none), (5, none)]
def xf_plain_SameVector_b0 : XCode := (.seq (rs [om 11 5, om 12 0, o 13 (le 12), o 14 (bl 11 13)] [0, 1, 5, 14]
 (.cond (.s 14) .skip (.exit 0 [])))
 (.seq (.block 1 (rp (some []) [om 17 0, om 18 5, o 19 (ia 2 17 18), ol 20 2 19, om 21 1, om 22 5, o 23 (ia 2 21 22), ol 24 2 23, o 25 (.eqv true true [.i, .i] (.s 20) (.s 24))] [0, 1, 5, 25]
 (.cond (.s 25) (rs [o 4 (.mv (.c w))] [4]
 (.ret [4])) .skip)))
 (.reg [om 15 5, o 16 (baj 15 1), om 5 16] none [0, 1, 5])))
def xf_plain_SameVector : XFunc := ⟨none, true, 2, [.tmp 4], (rs [o 4 (.mv (.c w))] [0, 1]
 (.seq (rs [om 6 0, o 7 (le 6), om 8 1, o 9 (le 8), o 10 (n 7 9)] [0, 1, 10]
 (.cond (.s 10) (rs [o 4 (.mv (.c w))] [4]
 (.ret [4])) .skip))
 (.seq (rs [o 5 (.mv (j 0))] [0, 1, 5]
 (.block 0 (.loop xf_plain_SameVector_k0 xf_plain_SameVector_b0)))
 (rs [o 4 (.mv (.c v))] [4]
 (.ret [4])))))⟩

def xf_plain_sameAcks_k0 : List (Nat × Option (Nat × Nat × Bool)) := [(0, none), (1, none), (5, none)]
def xf_plain_sameAcks_b0 : XCode := (.seq (rs [om 11 5, om 12 0, o 13 (le 12), o 14 (bl 11 13)] [0, 1, 5, 14]
 (.cond (.s 14) .skip (.exit 0 [])))
 (.seq (.block 1 (rp (some []) [om 17 0, om 18 5, o 19 (ia 4 17 18), ol 20 4 19, om 21 1, om 22 5, o 23 (ia 4 21 22), ol 24 4 23, o 25 (.eqv true true [.i, .i, .i, .i] (.s 20) (.s 24))] [0, 1, 5, 25]
 (.cond (.s 25) (rs [o 4 (.mv (.c w))] [4]
 (.ret [4])) .skip)))
 (.reg [om 15 5, o 16 (baj 15 1), om 5 16] none [0, 1, 5])))
def xf_plain_sameAcks : XFunc := ⟨none, true, 2, [.tmp 4], (rs [o 4 (.mv (.c w))] [0, 1]
 (.seq (rs [om 6 0, o 7 (le 6), om 8 1, o 9 (le 8), o 10 (n 7 9)] [0, 1, 10]
 (.cond (.s 10) (rs [o 4 (.mv (.c w))] [4]
 (.ret [4])) .skip))
 (.seq (rs [o 5 (.mv (j 0))] [0, 1, 5]
 (.block 0 (.loop xf_plain_sameAcks_k0 xf_plain_sameAcks_b0)))
 (rs [o 4 (.mv (.c v))] [4]
 (.ret [4])))))⟩

def xf_plain_sameMarks_k0 : List (Nat × Option (Nat × Nat × Bool)) := [(0, none), (1, none), (5, none)]
def xf_plain_sameMarks_b0 : XCode := (.seq (rs [om 11 5, om 12 0, o 13 (le 12), o 14 (bl 11 13)] [0, 1, 5, 14]
 (.cond (.s 14) .skip (.exit 0 [])))
 (.seq (.block 1 (rp (some []) [om 17 0, om 18 5, o 19 (ia 3 17 18), ol 20 3 19, om 21 1, om 22 5, o 23 (ia 3 21 22), ol 24 3 23, o 25 (.eqv true true [.i, .i, .i] (.s 20) (.s 24))] [0, 1, 5, 25]
 (.cond (.s 25) (rs [o 4 (.mv (.c w))] [4]
 (.ret [4])) .skip)))
 (.reg [om 15 5, o 16 (baj 15 1), om 5 16] none [0, 1, 5])))
def xf_plain_sameMarks : XFunc := ⟨none, true, 2, [.tmp 4], (rs [o 4 (.mv (.c w))] [0, 1]
 (.seq (rs [om 6 0, o 7 (le 6), om 8 1, o 9 (le 8), o 10 (n 7 9)] [0, 1, 10]
 (.cond (.s 10) (rs [o 4 (.mv (.c w))] [4]
 (.ret [4])) .skip))
 (.seq (rs [o 5 (.mv (j 0))] [0, 1, 5]
 (.block 0 (.loop xf_plain_sameMarks_k0 xf_plain_sameMarks_b0)))
 (rs [o 4 (.mv (.c v))] [4]
 (.ret [4])))))⟩

def xf_plain_SameBallots_k0 : List (Nat × Option (Nat × Nat × Bool)) := [(0, none), (1, none), (5, none)]
def xf_plain_SameBallots_b0 : XCode := (.seq (rs [om 11 5, om 12 0, o 13 (le 12), o 14 (bl 11 13)] [0, 1, 5, 14]
 (.cond (.s 14) .skip (.exit 0 [])))
 (.seq (.block 1 (sp (some []) [am 17 0, am 18 5, a 19 (ia 6 17 18), a 20 (f 0 19), a 21 (k 20), am 22 1, am 23 5, a 24 (ia 6 22 23), a 25 (f 0 24), a 26 (k 25), a 27 (n 21 26), am 28 27, d 29 (m 0) 28, d 30 (m 5) 28, r 31 (ia 6 29 30) 28, r 32 (f 1 31) 28, r 33 (l 2 32) 28, d 34 (m 1) 28, d 35 (m 5) 28, r 36 (ia 6 34 35) 28, r 37 (f 1 36) 28, r 38 (l 2 37) 28, r 39 (.eqv true true [.i, .i] (.s 33) (.s 38)) 28, a 40 (ko 28 39), am 41 40, d 42 (m 0) 41, d 43 (m 5) 41, r 44 (ia 6 42 43) 41, r 45 (f 3 44) 41, r 46 (k 45) 41, d 47 (m 1) 41, d 48 (m 5) 41, r 49 (ia 6 47 48) 41, r 50 (f 3 49) 41, r 51 (k 50) 41, r 52 (n 46 51) 41, a 53 (ko 41 52), am 54 53, d 55 (m 0) 54, d 56 (m 5) 54, r 57 (ia 6 55 56) 54, r 58 (f 4 57) 54, r 59 (k 58) 54, d 60 (m 1) 54, d 61 (m 5) 54, r 62 (ia 6 60 61) 54, r 63 (f 4 62) 54, r 64 (k 63) 54, r 65 (n 59 64) 54, a 66 (ko 54 65), am 67 66, d 68 (m 0) 67, d 69 (m 5) 67, r 70 (ia 6 68 69) 67, r 71 (f 5 70) 67, r 72 (k 71) 67, d 73 (m 1) 67, d 74 (m 5) 67, r 75 (ia 6 73 74) 67, r 76 (f 5 75) 67, r 77 (k 76) 67, r 78 (c 11 [72, 77]) 67, r 79 (nt 78) 67, a 80 (ko 67 79)] [0, 1, 5, 80]
 (.cond (.s 80) (rs [o 4 (.mv (.c w))] [4]
 (.ret [4])) .skip)))
 (.reg [om 15 5, o 16 (baj 15 1), om 5 16] none [0, 1, 5])))
def xf_plain_SameBallots : XFunc := ⟨none, true, 2, [.tmp 4], (rs [o 4 (.mv (.c w))] [0, 1]
 (.seq (rs [om 6 0, o 7 (le 6), om 8 1, o 9 (le 8), o 10 (n 7 9)] [0, 1, 10]
 (.cond (.s 10) (rs [o 4 (.mv (.c w))] [4]
 (.ret [4])) .skip))
 (.seq (rs [o 5 (.mv (j 0))] [0, 1, 5]
 (.block 0 (.loop xf_plain_SameBallots_k0 xf_plain_SameBallots_b0)))
 (rs [o 4 (.mv (.c v))] [4]
 (.ret [4])))))⟩

def xf_plain_SameAnswers_k0 : List (Nat × Option (Nat × Nat × Bool)) := [(0, none), (1, none), (5, none)]
def xf_plain_SameAnswers_b0 : XCode := (.seq (rs [om 11 5, om 12 0, o 13 (le 12), o 14 (bl 11 13)] [0, 1, 5, 14]
 (.cond (.s 14) .skip (.exit 0 [])))
 (.seq (.block 1 (sp (some []) [am 17 0, am 18 5, a 19 (ia 6 17 18), a 20 (f 0 19), a 21 (k 20), am 22 1, am 23 5, a 24 (ia 6 22 23), a 25 (f 0 24), a 26 (k 25), a 27 (n 21 26), am 28 27, d 29 (m 0) 28, d 30 (m 5) 28, r 31 (ia 6 29 30) 28, r 32 (f 1 31) 28, r 33 (l 2 32) 28, d 34 (m 1) 28, d 35 (m 5) 28, r 36 (ia 6 34 35) 28, r 37 (f 1 36) 28, r 38 (l 2 37) 28, r 39 (.eqv true true [.i, .i] (.s 33) (.s 38)) 28, a 40 (ko 28 39), am 41 40, d 42 (m 0) 41, d 43 (m 5) 41, r 44 (ia 6 42 43) 41, r 45 (f 3 44) 41, r 46 (k 45) 41, d 47 (m 1) 41, d 48 (m 5) 41, r 49 (ia 6 47 48) 41, r 50 (f 3 49) 41, r 51 (k 50) 41, r 52 (n 46 51) 41, a 53 (ko 41 52), am 54 53, d 55 (m 0) 54, d 56 (m 5) 54, r 57 (ia 6 55 56) 54, r 58 (f 4 57) 54, r 59 (k 58) 54, d 60 (m 1) 54, d 61 (m 5) 54, r 62 (ia 6 60 61) 54, r 63 (f 4 62) 54, r 64 (k 63) 54, r 65 (n 59 64) 54, a 66 (ko 54 65), am 67 66, d 68 (m 0) 67, d 69 (m 5) 67, r 70 (ia 6 68 69) 67, r 71 (f 5 70) 67, r 72 (k 71) 67, d 73 (m 1) 67, d 74 (m 5) 67, r 75 (ia 6 73 74) 67, r 76 (f 5 75) 67, r 77 (k 76) 67, r 78 (c 11 [72, 77]) 67, r 79 (nt 78) 67, a 80 (ko 67 79)] [0, 1, 5, 80]
 (.cond (.s 80) (rs [o 4 (.mv (.c w))] [4]
 (.ret [4])) .skip)))
 (.reg [om 15 5, o 16 (baj 15 1), om 5 16] none [0, 1, 5])))
def xf_plain_SameAnswers : XFunc := ⟨none, true, 2, [.tmp 4], (rs [o 4 (.mv (.c w))] [0, 1]
 (.seq (rs [om 6 0, o 7 (le 6), om 8 1, o 9 (le 8), o 10 (n 7 9)] [0, 1, 10]
 (.cond (.s 10) (rs [o 4 (.mv (.c w))] [4]
 (.ret [4])) .skip))
 (.seq (rs [o 5 (.mv (j 0))] [0, 1, 5]
 (.block 0 (.loop xf_plain_SameAnswers_k0 xf_plain_SameAnswers_b0)))
 (rs [o 4 (.mv (.c v))] [4]
 (.ret [4])))))⟩

def xf_core_logged : XFunc := ⟨none, true, 3, [.tmp 6], (rs [o 3 (bx 0), o 6 (.mv (.c w))] [1, 2, 3]
 (rs [om 10 1, of 11 1 3, o 12 (k 11), o 13 (c 46 [10, 12]), om 9 13, o 14 (e 9 0), o 15 (e 9 1), om 7 14, om 8 15] [1, 2, 7]
 (ss [am 16 7, a 17 (qj 16 0), am 18 17, bb 19 2 18, b 20 (bhj 19 0) 18, a 21 (ka 18 20), am 22 21, bb 23 2 22, bb 24 1 22, b 25 (le 24) 22, b 26 (bm 23 25) 22, a 27 (ka 22 26), am 6 27] [6]
 (.ret [6]))))⟩

def xf_core_voted_k1 : List (Nat × Option (Nat × Nat × Bool)) := [(1, none), (3, none), (6, none), (10, none), (11, none), (14, some (111, 3, true)), (15, none), (16, none)]
def xf_core_voted_b1 : XCode := (rs [o 17 (bl 16 15)] [1, 3, 6, 10, 11, 14, 15, 16, 17]
 (.seq (.cond (.s 17) .skip (.exit 2 [1, 3, 10, 11]))
 (.seq (.block 3 (rs [o 18 (ia 3 14 16), ol 19 3 18, o 8 (.alloc l7), p (t 3 8 19)] [1, 3, 6, 8, 10, 11, 14, 15, 16]
 (.seq (sp (some []) [a 20 (f 0 8), a 21 (k 20), am 22 6, a 23 (bm 21 22), am 24 23, d 25 (f 0 8) 24, d 26 (k 25) 24, d 27 (f 6 1) 24, d 28 (k 27) 24, d 29 (le 28) 24, d 30 (bh 26 29) 24, a 31 (ko 24 30), am 32 31, d 33 (f 0 8) 32, d 34 (k 33) 32, d 35 (f 0 1) 32, d 36 (k 35) 32, d 37 (q 34 36) 32, a 38 (ko 32 37), am 39 38, d 40 (f 6 1) 39, d 41 (k 40) 39, d 42 (f 0 8) 39, d 43 (k 42) 39, r 44 (ia 2 41 43) 39, r 45 (l 2 44) 39, d 46 (f 1 8) 39, d 47 (l 2 46) 39, r 48 (.eqv true true [.i, .i] (.s 45) (.s 47)) 39, a 49 (ko 39 48)] [1, 3, 8, 10, 11, 14, 15, 16, 49]
 (.cond (.s 49) (rs [o 3 (.mv (.c w))] [3]
 (.exit 0 [3])) .skip))
 (.reg [of 50 0 8, o 51 (k 50), om 6 51] none [1, 3, 6, 10, 11, 14, 15, 16]))))
 (.reg [o 52 (baj 16 1), om 16 52] none [1, 3, 6, 10, 11, 14, 15, 16]))))
def xf_core_voted_k0 : List (Nat × Option (Nat × Nat × Bool)) := [(1, none), (3, none), (10, none), (11, none)]
def xf_core_voted_b0 : XCode := (rs [o 12 (blj 11 4)] [1, 3, 10, 11, 12]
 (.seq (.cond (.s 12) .skip (.exit 0 [3]))
 (.seq (.block 1 (rs [o 13 (.idx none 1 4 (.s 10) (.s 11)), om 5 13] [1, 3, 5, 10, 11]
 (rs [o 6 (.mv (j (-1)))] [1, 3, 5, 6, 10, 11]
 (rs [om 14 5, o 15 (le 14), o 16 (.mv (j 0))] [1, 3, 6, 10, 11, 14, 15, 16]
 (.block 2 (.loop xf_core_voted_k1 xf_core_voted_b1))))))
 (.reg [o 53 (baj 11 1), om 11 53] none [1, 3, 10, 11]))))
def xf_core_voted : XFunc := ⟨none, true, 1, [.tmp 2], (rs [o 1 (bx 0), o 2 (.mv (.c w))] [1]
 (rs [o 3 (.mv (.c v))] [1, 3]
 (.seq .skip
 (.seq (rs [ol 9 12 1, o 10 (c 47 [9]), o 11 (.mv (j 0))] [1, 3, 10, 11]
 (.block 0 (.loop xf_core_voted_k0 xf_core_voted_b0)))
 (rs [om 54 3, om 2 54] [2]
 (.ret [2]))))))⟩

def xf_core_normal_k0 : List (Nat × Option (Nat × Nat × Bool)) := [(3, none), (39, some (102, 4, true)), (40, none), (41, none)]
def xf_core_normal_b0 : XCode := (rs [o 42 (bl 41 40)] [3, 39, 40, 41, 42]
 (.seq (.cond (.s 42) .skip (.exit 0 [3]))
 (.seq (.block 1 (rs [o 43 (ia 4 39 41), ol 44 4 43, o 6 (.alloc l9), p (t 4 6 44)] [3, 6, 39, 40, 41]
 (ss [a 45 (f 3 6), a 46 (k 45), a 47 (blj 46 1), am 48 47, d 49 (f 3 6) 48, d 50 (k 49) 48, d 51 (f 4 3) 48, d 52 (k 51) 48, d 53 (le 52) 48, d 54 (bg 50 53) 48, a 55 (ko 48 54)] [3, 39, 40, 41, 55]
 (.cond (.s 55) (rs [o 4 (.mv (.c w))] [4]
 (.ret [4])) .skip))))
 (.reg [o 56 (baj 41 1), om 41 56] none [3, 39, 40, 41]))))
def xf_core_normal : XFunc := ⟨none, true, 2, [.tmp 4], (rs [o 2 (bx 0), o 3 (bx 1), o 4 (.mv (.c w))] [2, 3]
 (.seq (ss [a 7 (f 3 3), a 8 (k 7), a 9 (f 2 3), a 10 (k 9), a 11 (n 8 10), am 12 11, d 13 (f 9 3) 12, d 14 (k 13) 12, d 15 (le 14) 12, d 16 (bgj 15 0) 12, a 17 (ko 12 16), am 18 17, d 19 (f 10 3) 18, d 20 (k 19) 18, d 21 (le 20) 18, d 22 (bgj 21 0) 18, a 23 (ko 18 22), am 24 23, d 25 (f 11 3) 24, d 26 (k 25) 24, d 27 (le 26) 24, d 28 (bgj 27 0) 24, a 29 (ko 24 28)] [2, 3, 29]
 (.cond (.s 29) (rs [o 4 (.mv (.c w))] [4]
 (.ret [4])) .skip))
 (.seq (rs [ol 30 4 2, ol 31 12 3, o 32 (c 48 [30, 31]), o 33 (nt 32)] [3, 33]
 (.cond (.s 33) (rs [of 34 8 3, o 35 (k 34), o 36 (le 35), o 37 (qj 36 0), om 4 37] [4]
 (.ret [4])) .skip))
 (.seq (rs [of 38 8 3, o 39 (k 38), o 40 (le 39), o 41 (.mv (j 0))] [3, 39, 40, 41]
 (.block 0 (.loop xf_core_normal_k0 xf_core_normal_b0)))
 (rs [of 57 7 3, o 58 (k 57), o 59 (qj 58 0), om 4 59] [4]
 (.ret [4]))))))⟩

def xf_core_changing_k0 : List (Nat × Option (Nat × Nat × Bool)) := [(2, none), (3, none), (45, some (55, 6, false)), (46, none), (47, none)]
def xf_core_changing_b0 : XCode := (rs [o 48 (bl 47 46)] [2, 3, 45, 46, 47, 48]
 (.seq (.cond (.s 48) .skip (.exit 0 []))
 (.seq (.block 1 (rs [o 49 (ia 6 45 47), ol 50 6 49, o 6 (.alloc l2), p (t 6 6 50)] [2, 3, 6, 45, 46, 47]
 (ss [a 51 (f 3 6), a 52 (k 51), a 53 (blj 52 0), am 54 53, d 55 (f 3 6) 54, d 56 (k 55) 54, d 57 (f 2 3) 54, d 58 (k 57) 54, d 59 (bh 56 58) 54, a 60 (ko 54 59), am 61 60, d 62 (l 4 2) 61, d 63 (f 5 6) 61, d 64 (k 63) 61, d 65 (f 4 6) 61, d 66 (k 65) 61, r 67 (c 33 [62, 64, 66]) 61, r 68 (nt 67) 61, a 69 (ko 61 68)] [2, 3, 45, 46, 47, 69]
 (.cond (.s 69) (rs [o 4 (.mv (.c w))] [4]
 (.ret [4])) .skip))))
 (.reg [o 70 (baj 47 1), om 47 70] none [2, 3, 45, 46, 47]))))
def xf_core_changing : XFunc := ⟨none, true, 2, [.tmp 4], (rs [o 2 (bx 0), o 3 (bx 1), o 4 (.mv (.c w))] [2, 3]
 (.seq (ss [a 7 (f 3 3), a 8 (k 7), a 9 (f 2 3), a 10 (k 9), a 11 (bh 8 10), am 12 11, d 13 (f 8 3) 12, d 14 (k 13) 12, d 15 (le 14) 12, d 16 (bgj 15 0) 12, a 17 (ko 12 16), am 18 17, d 19 (f 11 3) 18, d 20 (k 19) 18, d 21 (le 20) 18, d 22 (bgj 21 0) 18, a 23 (ko 18 22), am 24 23, d 25 (f 10 3) 24, d 26 (k 25) 24, d 27 (le 26) 24, d 28 (f 0 2) 24, d 29 (k 28) 24, d 30 (bh 27 29) 24, a 31 (ko 24 30), am 32 31, d 33 (l 4 2) 32, d 34 (l 12 3) 32, r 35 (c 48 [33, 34]) 32, r 36 (nt 35) 32, r 37 (m 36) 32, b 38 (f 10 3) 37, b 39 (k 38) 37, b 40 (le 39) 37, b 41 (bgj 40 0) 37, r 42 (ka 37 41) 32, a 43 (ko 32 42)] [2, 3, 43]
 (.cond (.s 43) (rs [o 4 (.mv (.c w))] [4]
 (.ret [4])) .skip))
 (.seq (rs [of 44 10 3, o 45 (k 44), o 46 (le 45), o 47 (.mv (j 0))] [2, 3, 45, 46, 47]
 (.block 0 (.loop xf_core_changing_k0 xf_core_changing_b0)))
 (rs [o 4 (.mv (.c v))] [4]
 (.ret [4])))))⟩

def xf_core_recovering_k0 : List (Nat × Option (Nat × Nat × Bool)) := [(2, none), (60, some (77, 6, false)), (61, none), (62, none)]
def xf_core_recovering_b0 : XCode := (rs [o 63 (bl 62 61)] [2, 60, 61, 62, 63]
 (.seq (.cond (.s 63) .skip (.exit 0 []))
 (.seq (.block 1 (rs [o 64 (ia 6 60 62), ol 65 6 64, o 6 (.alloc l2), p (t 6 6 65)] [2, 6, 60, 61, 62]
 (sp (some [(19, 23)]) [a 66 (f 3 6), a 67 (k 66), a 68 (blj 67 0), am 69 68, d 70 (f 3 6) 69, d 71 (k 70) 69, d 72 (bgj 71 4294967296) 69, a 73 (ko 69 72), am 74 73, d 75 (l 4 2) 74, d 76 (f 5 6) 74, d 77 (k 76) 74, d 78 (f 4 6) 74, d 79 (k 78) 74, r 80 (c 33 [75, 77, 79]) 74, r 81 (nt 80) 74, a 82 (ko 74 81), am 83 82, d 84 (f 0 6) 83, d 85 (k 84) 83, d 86 (l 4 2) 83, d 87 (f 3 6) 83, d 88 (k 87) 83, r 89 (c 9 [86, 88]) 83, r 90 (n 85 89) 83, r 91 (m 90) 83, b 92 (f 5 6) 91, b 93 (k 92) 91, b 94 (le 93) 91, b 95 (bgj 94 0) 91, r 96 (ka 91 95) 83, a 97 (ko 83 96)] [2, 60, 61, 62, 97]
 (.cond (.s 97) (rs [o 4 (.mv (.c w))] [4]
 (.ret [4])) .skip))))
 (.reg [o 98 (baj 62 1), om 62 98] none [2, 60, 61, 62]))))
def xf_core_recovering : XFunc := ⟨none, true, 2, [.tmp 4], (rs [o 2 (bx 0), o 3 (bx 1), o 4 (.mv (.c w))] [2, 3]
 (.seq (ss [a 7 (f 2 3), a 8 (k 7), a 9 (nj 8 0), am 10 9, d 11 (f 3 3) 10, d 12 (k 11) 10, d 13 (nj 12 0) 10, a 14 (ko 10 13), am 15 14, d 16 (f 5 3) 15, d 17 (k 16) 15, d 18 (nj 17 0) 15, a 19 (ko 15 18), am 20 19, d 21 (f 7 3) 20, d 22 (k 21) 20, d 23 (nj 22 0) 20, a 24 (ko 20 23), am 25 24, d 26 (f 4 3) 25, d 27 (k 26) 25, d 28 (le 27) 25, d 29 (bgj 28 0) 25, a 30 (ko 25 29), am 31 30, d 32 (f 8 3) 31, d 33 (k 32) 31, d 34 (le 33) 31, d 35 (bgj 34 0) 31, a 36 (ko 31 35), am 37 36, d 38 (f 9 3) 37, d 39 (k 38) 37, d 40 (le 39) 37, d 41 (bgj 40 0) 37, a 42 (ko 37 41), am 43 42, d 44 (f 10 3) 43, d 45 (k 44) 43, d 46 (le 45) 43, d 47 (bgj 46 0) 43, a 48 (ko 43 47), am 49 48, d 50 (f 6 3) 49, d 51 (k 50) 49, d 52 (f 0 3) 49, d 53 (k 52) 49, r 54 (ia 2 51 53) 49, r 55 (l 2 54) 49, d 56 (.build [y, y] []) 49, r 57 (.eqv false true [.i, .i] (.s 55) (.s 56)) 49, a 58 (ko 49 57)] [2, 3, 58]
 (.cond (.s 58) (rs [o 4 (.mv (.c w))] [4]
 (.ret [4])) .skip))
 (.seq (rs [of 59 11 3, o 60 (k 59), o 61 (le 60), o 62 (.mv (j 0))] [2, 60, 61, 62]
 (.block 0 (.loop xf_core_recovering_k0 xf_core_recovering_b0)))
 (rs [o 4 (.mv (.c v))] [4]
 (.ret [4])))))⟩

def xf_core_Carry_k0 : List (Nat × Option (Nat × Nat × Bool)) := [(4, none), (6, none), (10, none), (11, some (58, 19, false)), (63, some (116, 7, true)), (64, none), (65, none)]
def xf_core_Carry_b0 : XCode := (rs [o 66 (bl 65 64)] [4, 6, 10, 11, 63, 64, 65, 66]
 (.seq (.cond (.s 66) .skip (.exit 0 [6, 10, 11]))
 (.seq (.block 1 (rs [o 67 (ia 7 63 65), ol 68 7 67, o 15 (.alloc [z, z, z, w, z, z, x]), p (t 7 15 68)] [4, 6, 10, 11, 15, 63, 64, 65]
 (rs [of 69 0 4, o 70 (k 69), of 71 2 4, o 72 (k 71), of 73 2 15, o 74 (k 73), of 75 0 15, o 76 (k 75), of 77 1 15, o 78 (k 77), o 79 (.build [z, z, z, z, x] [(0, 1, (.s 76)), (1, 1, (.s 78))]), of 80 4 15, ol 81 3 80, o 82 (.build l4 [(0, 1, (j 2)), (1, 1, (.s 70)), (2, 1, (.s 72)), (11, 1, (.s 74)), (3, 5, (.s 79)), (8, 3, (.s 81))]), o 16 (.alloc l4), p (t 18 16 82)] [4, 6, 10, 11, 15, 16, 63, 64, 65]
 (.reg [om 83 11, of 84 0 15, o 85 (k 84), o 86 (.bin .add (j 7) (.s 85)), ol 87 18 16, o 88 (.build l3 [(0, 1, (.s 86)), (1, 18, (.s 87))]), o 89 (.bsl 58 19 false 1 l3 [(0, 19, (.s 88))]), o 90 (.app 58 19 200 false (.s 83) (.s 89)), om 11 90] none [4, 6, 10, 11, 63, 64, 65]))))
 (.reg [o 91 (baj 65 1), om 65 91] none [4, 6, 10, 11, 63, 64, 65]))))
def xf_core_Carry : XFunc := ⟨none, true, 3, [.cell 6 (some 12), .tmp 7, .tmp 8], (rs [o 3 (bx 0), o 4 (bx 1), o 6 (.alloc l1), o 7 (.mv (.c (.nil 58 19 false))), o 8 (.mv (j 0))] [2, 3, 4, 6]
 (rs [ol 17 4 3, ol 18 12 4, o 19 (c 14 [17, 18]), om 9 19] [2, 3, 4, 6, 9]
 (.seq (ss [am 20 9, a 21 (qj 20 0), am 22 21, bb 23 2 22, b 24 (blj 23 0) 22, bb 25 24 22, d 26 (m 2) 25, d 27 (f 4 4) 25, d 28 (k 27) 25, d 29 (le 28) 25, d 30 (bg 26 29) 25, b 31 (ko 25 30) 22, a 32 (ka 22 31)] [2, 3, 4, 6, 9, 32]
 (.cond (.s 32) (.reg [o 9 (.mv (j 3))] none [2, 3, 4, 6, 9]) .skip))
 (.seq (rs [om 33 9, o 34 (nj 33 0)] [2, 3, 4, 6, 9, 34]
 (.cond (.s 34) (rs [o 35 (.build l1 []), om 36 9, p (t 12 6 35), o 7 (.mv (.c (.nil 58 19 false))), om 8 36] [6, 7, 8]
 (.ret [6, 7, 8])) .skip))
 (rs [ol 37 12 4, o 38 (c 49 [37]), o 10 (.alloc l1), p (t 12 10 38)] [2, 3, 4, 6, 10]
 (.seq (rs [om 39 2, of 40 5 4, o 41 (k 40), o 42 (bm 39 41)] [2, 3, 4, 6, 10, 42]
 (.cond (.s 42) (rs [ol 43 12 10, p (t 12 6 43), o 7 (.mv (.c (.nil 58 19 false))), o 8 (.mv (j 0))] [6, 7, 8]
 (.ret [6, 7, 8])) .skip))
 (rs [om 44 2, of 45 5 10, p (t 1 45 44)] [2, 3, 4, 6, 10]
 (rs [o 11 (.mv (.c (.nil 58 19 false)))] [2, 3, 4, 6, 10, 11]
 (.seq (ss [a 46 (f 1 4), a 47 (k 46), a 48 (qj 47 1), am 49 48, b 50 (l 4 3) 49, b 51 (l 12 4) 49, u 52 (c 48 [50, 51]) 49, a 53 (ka 49 52)] [2, 4, 6, 10, 11, 53]
 (.cond (.s 53) (rs [of 55 4 4, o 56 (k 55), of 57 5 4, o 58 (k 57), om 59 2, o 60 (c 50 [56, 58, 59]), om 54 60, o 61 (e 54 0), o 62 (e 54 1), om 12 61, om 13 62] [4, 6, 10, 11, 12]
 (rs [om 63 12, o 64 (le 63), o 65 (.mv (j 0))] [4, 6, 10, 11, 63, 64, 65]
 (.block 0 (.loop xf_core_Carry_k0 xf_core_Carry_b0)))) .skip))
 (rs [ol 92 12 10, om 93 11, p (t 12 6 92), om 7 93, o 8 (.mv (j 0))] [6, 7, 8]
 (.ret [6, 7, 8])))))))))))⟩

def xf_change_frame_goes : XFunc := ⟨none, false, 2, [], (rs [om 4 0, om 5 0, om 6 0, om 7 1, o 8 (nc 4), of 9 4 8, of 10 1 9, p (.store 1 (.s 10) (j 2)), o 11 (nc 5), of 12 4 11, of 13 2 12, p (t 1 13 7), o 14 (nc 6), of 15 4 14, of 16 7 15, p (.store 1 (.s 16) (j 0))] [0, 1]
 (rs [om 17 0, o 18 (c 51 [17])] [0, 1]
 (.reg [om 19 0, om 20 1, o 21 (.build l4 [(0, 1, (j 6)), (2, 1, (.s 20))]), o 22 (c 52 [19, 21])] none [])))⟩

def xf_ref09_CheckConfig : XFunc := ⟨none, true, 1, [.tmp 2], (rs [o 1 (bx 0), o 2 (.mv (j 0))] [1]
 (.seq (rs [ol 3 4 1, o 4 (c 53 [3]), o 5 (nt 4)] [5]
 (.cond (.s 5) (rs [o 2 (.mv (j 1))] [2]
 (.ret [2])) .skip))
 (rs [o 2 (.mv (j 0))] [2]
 (.ret [2]))))⟩

def xf_ref09_may_k0 : List (Nat × Option (Nat × Nat × Bool)) := [(3, none), (7, none)]
def xf_ref09_may_b0 : XCode := (.seq (rs [om 125 7, of 126 8 3, o 127 (k 126), o 128 (le 127), o 129 (bl 125 128)] [3, 7, 129]
 (.cond (.s 129) .skip (.exit 1 [])))
 (.seq (.block 2 (sp (some []) [a 132 (f 8 3), a 133 (k 132), am 134 7, a 135 (ia 4 133 134), a 136 (f 3 135), a 137 (k 136), a 138 (blj 137 1), am 139 138, d 140 (f 8 3) 139, d 141 (k 140) 139, d 142 (m 7) 139, r 143 (ia 4 141 142) 139, r 144 (f 3 143) 139, r 145 (k 144) 139, d 146 (f 4 3) 139, d 147 (k 146) 139, d 148 (le 147) 139, r 149 (bg 145 148) 139, a 150 (ko 139 149)] [3, 7, 150]
 (.cond (.s 150) (rs [o 4 (.mv (.c w))] [4]
 (.ret [4])) .skip)))
 (.reg [om 130 7, o 131 (baj 130 1), om 7 131] none [3, 7])))
def xf_ref09_may_k1 : List (Nat × Option (Nat × Nat × Bool)) := [(2, none), (3, none), (8, none)]
def xf_ref09_may_b1 : XCode := (.seq (rs [om 186 8, of 187 10 3, o 188 (k 187), o 189 (le 188), o 190 (bl 186 189)] [2, 3, 8, 190]
 (.cond (.s 190) .skip (.exit 3 [])))
 (.seq (.block 4 (rs [of 193 10 3, o 194 (k 193), om 195 8, o 196 (ia 6 194 195), ol 197 6 196, o 9 (.alloc l2), p (t 6 9 197)] [2, 3, 8, 9]
 (ss [a 198 (f 3 9), a 199 (k 198), a 200 (blj 199 0), am 201 200, d 202 (f 3 9) 201, d 203 (k 202) 201, d 204 (f 2 3) 201, d 205 (k 204) 201, d 206 (bh 203 205) 201, a 207 (ko 201 206), am 208 207, d 209 (l 4 2) 208, d 210 (f 5 9) 208, d 211 (k 210) 208, d 212 (f 4 9) 208, d 213 (k 212) 208, r 214 (c 55 [209, 211, 213]) 208, r 215 (nt 214) 208, a 216 (ko 208 215)] [2, 3, 8, 216]
 (.cond (.s 216) (rs [o 4 (.mv (.c w))] [4]
 (.ret [4])) .skip))))
 (.reg [om 191 8, o 192 (baj 191 1), om 8 192] none [2, 3, 8])))
def xf_ref09_may : XFunc := ⟨none, true, 2, [.tmp 4], (rs [o 2 (bx 0), o 3 (bx 1), o 4 (.mv (.c w))] [2, 3]
 (rs [ol 10 4 2, o 11 (c 54 [10]), om 5 11] [2, 3, 5]
 (.seq (ss [a 12 (f 0 3), a 13 (k 12), a 14 (blj 13 0), am 15 14, d 16 (f 0 3) 15, d 17 (k 16) 15, d 18 (m 5) 15, d 19 (bh 17 18) 15, a 20 (ko 15 19), am 21 20, d 22 (f 2 3) 21, d 23 (k 22) 21, d 24 (blj 23 0) 21, a 25 (ko 21 24), am 26 25, d 27 (f 2 3) 26, d 28 (k 27) 26, d 29 (bgj 28 4294967296) 26, a 30 (ko 26 29), am 31 30, d 32 (f 3 3) 31, d 33 (k 32) 31, d 34 (blj 33 0) 31, a 35 (ko 31 34), am 36 35, d 37 (f 3 3) 36, d 38 (k 37) 36, d 39 (f 2 3) 36, d 40 (k 39) 36, d 41 (bg 38 40) 36, a 42 (ko 36 41), am 43 42, d 44 (l 4 2) 43, d 45 (f 4 3) 43, d 46 (k 45) 43, d 47 (f 5 3) 43, d 48 (k 47) 43, r 49 (c 55 [44, 46, 48]) 43, r 50 (nt 49) 43, a 51 (ko 43 50), am 52 51, d 53 (f 6 3) 52, d 54 (k 53) 52, d 55 (le 54) 52, d 56 (m 5) 52, d 57 (n 55 56) 52, a 58 (ko 52 57), am 59 58, d 60 (f 7 3) 59, d 61 (k 60) 59, d 62 (blj 61 0) 59, a 63 (ko 59 62), am 64 63, d 65 (f 7 3) 64, d 66 (k 65) 64, d 67 (f 2 2) 64, d 68 (k 67) 64, d 69 (bh 66 68) 64, a 70 (ko 64 69), am 71 70, d 72 (l 12 3) 71, d 73 (m 5) 71, r 74 (c 56 [72, 73]) 71, r 75 (nt 74) 71, a 76 (ko 71 75)] [2, 3, 5, 76]
 (.cond (.s 76) (rs [o 4 (.mv (.c w))] [4]
 (.ret [4])) .skip))
 (rp (some []) [of 77 0 3, o 78 (k 77), of 79 2 3, o 80 (k 79), om 81 5, o 82 (.bin .rem (.s 80) (.s 81)), o 83 (q 78 82), om 6 83] [2, 3, 5, 6]
 (.seq (rs [of 84 1 3, o 85 (k 84)] [2, 3, 5, 6, 85]
 (.block 0 (rs [o 87 (qj 85 1), om 86 87] [2, 3, 5, 6, 85, 86]
 (.cond (.s 86) (.seq (ss [a 88 (f 3 3), a 89 (k 88), a 90 (f 2 3), a 91 (k 90), a 92 (n 89 91), am 93 92, d 94 (f 9 3) 93, d 95 (k 94) 93, d 96 (le 95) 93, d 97 (f 10 3) 93, d 98 (k 97) 93, d 99 (le 98) 93, d 100 (ba 96 99) 93, d 101 (f 11 3) 93, d 102 (k 101) 93, d 103 (le 102) 93, d 104 (ba 100 103) 93, d 105 (bgj 104 0) 93, a 106 (ko 93 105), am 107 106, d 108 (m 6) 107, d 109 (m 108) 107, b 110 (f 7 3) 109, b 111 (k 110) 109, b 112 (nj 111 0) 109, d 113 (ka 109 112) 107, a 114 (ko 107 113), am 115 114, d 116 (m 6) 115, d 117 (nt 116) 115, d 118 (m 117) 115, b 119 (f 8 3) 118, b 120 (k 119) 118, b 121 (le 120) 118, b 122 (bgj 121 0) 118, d 123 (ka 118 122) 115, a 124 (ko 115 123)] [3, 124]
 (.cond (.s 124) (rs [o 4 (.mv (.c w))] [4]
 (.ret [4])) .skip))
 (.seq (rs [o 7 (.mv (j 0))] [3, 7]
 (.block 1 (.loop xf_ref09_may_k0 xf_ref09_may_b0)))
 (rs [o 4 (.mv (.c v))] [4]
 (.ret [4])))) (rs [o 152 (qj 85 2), om 151 152] [2, 3, 5, 6, 85, 151]
 (.cond (.s 151) (.seq (ss [a 153 (f 3 3), a 154 (k 153), a 155 (f 2 3), a 156 (k 155), a 157 (q 154 156), am 158 157, d 159 (f 8 3) 158, d 160 (k 159) 158, d 161 (le 160) 158, d 162 (f 11 3) 158, d 163 (k 162) 158, d 164 (le 163) 158, d 165 (ba 161 164) 158, d 166 (bgj 165 0) 158, a 167 (ko 158 166), am 168 167, d 169 (m 6) 168, d 170 (nt 169) 168, d 171 (m 170) 168, b 172 (f 10 3) 171, b 173 (k 172) 171, b 174 (le 173) 171, b 175 (bgj 174 0) 171, d 176 (ka 171 175) 168, a 177 (ko 168 176), am 178 177, d 179 (f 10 3) 178, d 180 (k 179) 178, d 181 (le 180) 178, d 182 (f 0 2) 178, d 183 (k 182) 178, d 184 (bh 181 183) 178, a 185 (ko 178 184)] [2, 3, 185]
 (.cond (.s 185) (rs [o 4 (.mv (.c w))] [4]
 (.ret [4])) .skip))
 (.seq (rs [o 8 (.mv (j 0))] [2, 3, 8]
 (.block 3 (.loop xf_ref09_may_k1 xf_ref09_may_b1)))
 (rs [o 4 (.mv (.c v))] [4]
 (.ret [4])))) (rs [o 218 (qj 85 3), om 217 218] [2, 3, 5, 217]
 (.cond (.s 217) (rs [ol 219 4 2, ol 220 12 3, om 221 5, o 222 (c 57 [219, 220, 221]), om 4 222] [4]
 (.ret [4])) .skip))))))))
 (rs [o 4 (.mv (.c w))] [4]
 (.ret [4])))))))⟩

def xf_nonce_Compare : XFunc := ⟨none, true, 2, [.tmp 4], (rs [o 2 (bx 0), o 3 (bx 1), o 4 (.mv (j 0))] [2, 3]
 (.seq (.block 0 (rs [ol 6 2 2, ol 7 2 3, o 8 (.eqv false true [.i, .i] (.s 6) (.s 7)), om 5 8] [2, 3, 5]
 (.cond (.s 5) (rs [o 4 (.mv (j 0))] [4]
 (.ret [4])) (.seq (rs [of 10 0 2, o 11 (k 10), of 12 0 3, o 13 (k 12), o 14 (bl 11 13), om 9 14] [2, 3, 9]
 (.cond (.s 9) .skip (.sreg [a 15 (f 0 2), a 16 (k 15), a 17 (f 0 3), a 18 (k 17), a 19 (q 16 18), am 20 19, b 21 (f 1 2) 20, b 22 (k 21) 20, b 23 (f 1 3) 20, b 24 (k 23) 20, b 25 (bl 22 24) 20, a 26 (ka 20 25), am 9 26] none [9])))
 (.cond (.s 9) (rs [o 4 (.mv (j (-1)))] [4]
 (.ret [4])) .skip)))))
 (rs [o 4 (.mv (j 1))] [4]
 (.ret [4]))))⟩

def xf_message_Check : XFunc := ⟨none, true, 2, [.tmp 4], (rs [o 2 (bx 0), o 3 (bx 1), o 4 (.mv (j 0))] [2, 3]
 (.seq (rs [ol 8 4 2, o 9 (c 58 [8]), o 10 (nt 9)] [2, 3, 10]
 (.cond (.s 10) (rs [o 4 (.mv (j 1))] [4]
 (.ret [4])) .skip))
 (.seq (rs [of 11 0 3, o 12 (k 11), o 13 (c 59 [12]), o 14 (nt 13)] [2, 3, 14]
 (.cond (.s 14) (rs [o 4 (.mv (j 70))] [4]
 (.ret [4])) .skip))
 (rs [of 15 0 3, o 16 (k 15), o 17 (.aadr 10 15 (.c (.dptr usesD)) (.s 16)), ol 18 10 17, o 5 (.alloc l5), p (t 10 5 18)] [2, 3, 5]
 (.seq (ss [a 19 (l 18 3), a 20 (c 60 [19]), a 21 (nt 20), am 22 21, d 23 (l 4 2) 22, d 24 (l 18 3) 22, r 25 (c 61 [23, 24]) 22, r 26 (nt 25) 22, a 27 (ko 22 26)] [2, 3, 5, 27]
 (.cond (.s 27) (rs [o 4 (.mv (j 71))] [4]
 (.ret [4])) .skip))
 (.seq (rs [o 28 (.aadr 1 10 (.s 5) (j 6)), o 29 (k 28), om 30 29, g 31 (f 0 3) 30, g 32 (k 31) 30, g 33 (f 3 3) 30, g 34 (l 5 33) 30, g 35 (c 62 [32, 34]) 30, g 36 (nt 35) 30, o 37 (ka 30 36), om 38 37, h 39 (.aadr 1 10 (.s 5) (j 7)) 38, h 40 (k 39) 38, h 41 (m 40) 38, g 42 (f 8 3) 41, g 43 (l 3 42) 41, g 44 (c 63 [43]) 41, g 45 (nt 44) 41, g 46 (m 45) 41, h 47 (l 18 3) 46, h 48 (c 64 [47]) 46, h 49 (nt 48) 46, g 50 (ko 46 49) 41, h 51 (ka 41 50) 38, o 52 (ko 38 51), om 53 52, h 54 (.aadr 1 10 (.s 5) (j 9)) 53, h 55 (k 54) 53, h 56 (m 55) 53, g 57 (f 17 3) 56, g 58 (k 57) 56, g 59 (le 58) 56, g 60 (f 0 2) 56, g 61 (k 60) 56, g 62 (.bin .mul (j 2) (.s 61)) 56, g 63 (baj 62 1) 56, g 64 (n 59 63) 56, h 65 (ka 56 64) 53, o 66 (ko 53 65), om 67 66, h 68 (.aadr 1 10 (.s 5) (j 5)) 67, h 69 (k 68) 67, h 70 (m 69) 67, g 71 (f 14 3) 70, g 72 (l 2 71) 70, g 73 (.build [y, y] []) 70, g 74 (.eqv false true [.i, .i] (.s 72) (.s 73)) 70, h 75 (ka 70 74) 67, o 76 (ko 67 75)] [2, 3, 5, 76]
 (.cond (.s 76) (rs [o 4 (.mv (j 71))] [4]
 (.ret [4])) .skip))
 (.seq (rs [o 77 (.aadr 1 10 (.s 5) (j 8)), o 78 (k 77)] [2, 3, 78]
 (.cond (.s 78) (rs [of 80 16 3, o 81 (k 80), of 82 1 2, o 83 (k 82), o 84 (c 46 [81, 83]), om 79 84, o 85 (e 79 0), o 86 (e 79 1), om 6 85, om 7 86] [2, 3, 6]
 (rs [om 87 6, o 88 (nj 87 0)] [2, 3, 88]
 (.cond (.s 88) (rs [o 4 (.mv (j 71))] [4]
 (.ret [4])) .skip))) .skip))
 (.seq (sp (some []) [a 89 (f 0 3), a 90 (k 89), a 91 (qj 90 9), am 92 91, b 93 (f 17 3) 92, b 94 (k 93) 92, b 95 (f 1 3) 92, b 96 (k 95) 92, u 97 (ia 2 94 96) 92, u 98 (l 2 97) 92, b 99 (f 14 3) 92, b 100 (l 2 99) 92, u 101 (.eqv true true [.i, .i] (.s 98) (.s 100)) 92, a 102 (ka 92 101), am 103 102, d 104 (f 0 3) 103, d 105 (k 104) 103, d 106 (qj 105 10) 103, d 107 (m 106) 103, b 108 (f 16 3) 107, b 109 (k 108) 107, b 110 (le 109) 107, b 111 (bgj 110 0) 107, d 112 (ka 107 111) 103, r 113 (m 112) 103, b 114 (f 1 3) 113, b 115 (k 114) 113, b 116 (f 2 3) 113, b 117 (k 116) 113, b 118 (f 0 2) 113, b 119 (k 118) 113, b 120 (.bin .mul (j 2) (.s 119)) 113, b 121 (baj 120 1) 113, u 122 (.bin .rem (.s 117) (.s 121)) 113, u 123 (n 115 122) 113, r 124 (ka 113 123) 103, a 125 (ko 103 124)] [125]
 (.cond (.s 125) (rs [o 4 (.mv (j 71))] [4]
 (.ret [4])) .skip))
 (rs [o 4 (.mv (j 0))] [4]
 (.ret [4]))))))))))⟩

def xf_core_Admit : XFunc := ⟨none, true, 3, [.cell 6 (some 12), .tmp 7, .tmp 8], (rs [o 3 (bx 0), o 4 (bx 1), o 5 (bx 2), o 6 (.alloc l1), o 7 (.mv (.c w)), o 8 (.mv (j 0))] [3, 4, 5, 6]
 (rs [ol 11 4 3, ol 12 12 4, o 13 (c 14 [11, 12]), om 9 13] [3, 4, 5, 6, 9]
 (.seq (rs [om 14 9, o 15 (qj 14 0)] [3, 4, 5, 6, 9, 15]
 (.cond (.s 15) (.reg [ol 16 4 3, ol 17 18 5, o 18 (c 43 [16, 17]), om 9 18] none [3, 4, 5, 6, 9]) .skip))
 (.seq (rs [om 19 9, o 20 (nj 19 0)] [3, 4, 5, 6, 9, 20]
 (.cond (.s 20) (rs [o 21 (.build l1 []), om 22 9, p (t 12 6 21), o 7 (.mv (.c w)), om 8 22] [6, 7, 8]
 (.ret [6, 7, 8])) .skip))
 (rs [ol 23 12 4, o 24 (c 49 [23]), o 10 (.alloc l1), p (t 12 10 24)] [3, 4, 5, 6, 10]
 (.seq (rs [of 25 0 5, o 26 (k 25), o 27 (c 65 [26]), o 28 (nt 27)] [3, 4, 5, 6, 10, 28]
 (.cond (.s 28) (rs [ol 29 12 10, p (t 12 6 29), o 7 (.mv (.c v)), o 8 (.mv (j 0))] [6, 7, 8]
 (.ret [6, 7, 8])) .skip))
 (.seq (rs [of 30 1 5, o 31 (k 30), of 32 0 4, o 33 (k 32), o 34 (q 31 33)] [3, 4, 5, 6, 10, 34]
 (.cond (.s 34) (rs [ol 35 12 10, p (t 12 6 35), o 7 (.mv (.c w)), o 8 (.mv (j 0))] [6, 7, 8]
 (.ret [6, 7, 8])) .skip))
 (.seq (rs [of 36 3 3, o 37 (k 36)] [4, 5, 6, 10, 37]
 (.cond (.s 37) (rs [ol 38 12 10, p (t 12 6 38), o 7 (.mv (.c v)), o 8 (.mv (j 0))] [6, 7, 8]
 (.ret [6, 7, 8])) .skip))
 (.seq (sp (some []) [a 39 (f 6 4), a 40 (k 39), a 41 (f 1 5), a 42 (k 41), a 43 (f 17 5), a 44 (k 43), a 45 (.build [z, (.nil 43 2 true)] [(0, 1, (.s 42)), (1, 1, (.s 44))]), a 46 (c 66 [40, 45]), am 47 46, d 48 (f 17 5) 47, d 49 (k 48) 47, d 50 (f 0 4) 47, d 51 (k 50) 47, r 52 (ia 2 49 51) 47, r 53 (l 2 52) 47, d 54 (f 6 4) 47, d 55 (k 54) 47, d 56 (f 0 4) 47, d 57 (k 56) 47, r 58 (ia 2 55 57) 47, r 59 (l 2 58) 47, r 60 (c 42 [53, 59]) 47, r 61 (bgj 60 0) 47, a 62 (ko 47 61)] [4, 5, 6, 10, 62]
 (.cond (.s 62) (rs [ol 63 12 10, p (t 12 6 63), o 7 (.mv (.c w)), o 8 (.mv (j 0))] [6, 7, 8]
 (.ret [6, 7, 8])) .skip))
 (rs [of 65 6 4, o 66 (k 65), of 67 17 5, o 68 (k 67), o 69 (.bsl 27 1 false 2 [(.nil 43 2 true), (.nil 43 2 true)] [(0, 1, (.s 66)), (1, 1, (.s 68))]), o 70 (c 67 [69]), om 64 70, o 71 (e 64 0), o 72 (e 64 1), of 73 6 10, p (t 1 73 71)] [6, 10]
 (rs [of 74 8 10, o 75 (k 74), of 76 6 10, o 77 (k 76), o 78 (c 68 [75, 77]), of 79 8 10, p (t 1 79 78)] [6, 10]
 (rs [of 80 9 10, o 81 (k 80), of 82 6 10, o 83 (k 82), o 84 (c 69 [81, 83]), of 85 9 10, p (t 1 85 84)] [6, 10]
 (rs [of 86 10 10, o 87 (k 86), of 88 6 10, o 89 (k 88), o 90 (c 70 [87, 89]), of 91 10 10, p (t 1 91 90)] [6, 10]
 (rs [of 92 11 10, o 93 (k 92), of 94 6 10, o 95 (k 94), o 96 (c 71 [93, 95]), of 97 11 10, p (t 1 97 96)] [6, 10]
 (rs [ol 98 12 10, p (t 12 6 98), o 7 (.mv (.c v)), o 8 (.mv (j 0))] [6, 7, 8]
 (.ret [6, 7, 8]))))))))))))))))⟩

def xf_change_handlers : XFunc := ⟨none, true, 0, [.cell 0 (some 3)], (rs [o 0 (.alloc [(.dat .nilf), (.dat .nilf), (.dat .nilf)])] [0]
 (rs [o 1 (.build [(.dat .nilf), (.dat .nilf), (.dat .nilf)] [(0, 1, (.c (.fn (.func 72) [] []))), (1, 1, (.c (.fn (.func 73) [] []))), (2, 1, (.c (.fn (.func 74) [] [])))]), p (t 3 0 1)] [0]
 (.ret [0])))⟩

def xf_core_voters_k0 : List (Nat × Option (Nat × Nat × Bool)) := [(1, none), (2, none), (3, none), (13, some (102, 4, true)), (14, none), (15, none)]
def xf_core_voters_b0 : XCode := (rs [o 16 (bl 15 14)] [1, 2, 3, 13, 14, 15, 16]
 (.seq (.cond (.s 16) .skip (.exit 0 [1, 2, 3]))
 (.seq (.block 1 (rs [o 17 (ia 4 13 15), ol 18 4 17, o 5 (.alloc l9), p (t 4 5 18)] [1, 2, 3, 5, 13, 14, 15]
 (.reg [o 19 (.aadr 1 4 (.s 3) (j 0)), o 20 (k 19), of 21 0 5, o 22 (k 21), of 23 1 5, ol 24 2 23, o 25 (.build l7 [(0, 1, (.s 22)), (1, 2, (.s 24))]), o 26 (.bsl 111 3 true 1 l7 [(0, 3, (.s 25))]), o 27 (.app 111 3 24 true (.s 20) (.s 26)), o 28 (.aadr 1 4 (.s 3) (j 0)), p (t 1 28 27)] none [1, 2, 3, 13, 14, 15])))
 (.reg [o 29 (baj 15 1), om 15 29] none [1, 2, 3, 13, 14, 15]))))
def xf_core_voters_k1 : List (Nat × Option (Nat × Nat × Bool)) := [(1, none), (2, none), (3, none), (31, some (104, 3, true)), (32, none), (33, none)]
def xf_core_voters_b1 : XCode := (rs [o 34 (bl 33 32)] [1, 2, 3, 31, 32, 33, 34]
 (.seq (.cond (.s 34) .skip (.exit 2 [1, 2, 3]))
 (.seq (.block 3 (rs [o 35 (ia 3 31 33), ol 36 3 35, o 7 (.alloc l7), p (t 3 7 36)] [1, 2, 3, 7, 31, 32, 33]
 (.reg [o 37 (.aadr 1 4 (.s 3) (j 1)), o 38 (k 37), of 39 0 7, o 40 (k 39), of 41 1 7, ol 42 2 41, o 43 (.build l7 [(0, 1, (.s 40)), (1, 2, (.s 42))]), o 44 (.bsl 111 3 true 1 l7 [(0, 3, (.s 43))]), o 45 (.app 111 3 24 true (.s 38) (.s 44)), o 46 (.aadr 1 4 (.s 3) (j 1)), p (t 1 46 45)] none [1, 2, 3, 31, 32, 33])))
 (.reg [o 47 (baj 33 1), om 33 47] none [1, 2, 3, 31, 32, 33]))))
def xf_core_voters_k2 : List (Nat × Option (Nat × Nat × Bool)) := [(1, none), (2, none), (3, none), (49, some (55, 6, false)), (50, none), (51, none)]
def xf_core_voters_b2 : XCode := (rs [o 52 (bl 51 50)] [1, 2, 3, 49, 50, 51, 52]
 (.seq (.cond (.s 52) .skip (.exit 4 [1, 2, 3]))
 (.seq (.block 5 (rs [o 53 (ia 6 49 51), ol 54 6 53, o 9 (.alloc l2), p (t 6 9 54)] [1, 2, 3, 9, 49, 50, 51]
 (.reg [o 55 (.aadr 1 4 (.s 3) (j 2)), o 56 (k 55), of 57 0 9, o 58 (k 57), of 59 1 9, ol 60 2 59, o 61 (.build l7 [(0, 1, (.s 58)), (1, 2, (.s 60))]), o 62 (.bsl 111 3 true 1 l7 [(0, 3, (.s 61))]), o 63 (.app 111 3 24 true (.s 56) (.s 62)), o 64 (.aadr 1 4 (.s 3) (j 2)), p (t 1 64 63)] none [1, 2, 3, 49, 50, 51])))
 (.reg [o 65 (baj 51 1), om 51 65] none [1, 2, 3, 49, 50, 51]))))
def xf_core_voters_k3 : List (Nat × Option (Nat × Nat × Bool)) := [(2, none), (3, none), (67, some (77, 6, false)), (68, none), (69, none)]
def xf_core_voters_b3 : XCode := (rs [o 70 (bl 69 68)] [2, 3, 67, 68, 69, 70]
 (.seq (.cond (.s 70) .skip (.exit 6 [2, 3]))
 (.seq (.block 7 (rs [o 71 (ia 6 67 69), ol 72 6 71, o 11 (.alloc l2), p (t 6 11 72)] [2, 3, 11, 67, 68, 69]
 (.reg [o 73 (.aadr 1 4 (.s 3) (j 3)), o 74 (k 73), of 75 0 11, o 76 (k 75), of 77 1 11, ol 78 2 77, o 79 (.build l7 [(0, 1, (.s 76)), (1, 2, (.s 78))]), o 80 (.bsl 111 3 true 1 l7 [(0, 3, (.s 79))]), o 81 (.app 111 3 24 true (.s 74) (.s 80)), o 82 (.aadr 1 4 (.s 3) (j 3)), p (t 1 82 81)] none [2, 3, 67, 68, 69])))
 (.reg [o 83 (baj 69 1), om 69 83] none [2, 3, 67, 68, 69]))))
def xf_core_voters : XFunc := ⟨none, true, 1, [.cell 2 (some 4)], (rs [o 1 (bx 0), o 2 (.alloc l8)] [1, 2]
 (rs [o 3 (.alloc l8)] [1, 2, 3]
 (.seq (rs [of 12 8 1, o 13 (k 12), o 14 (le 13), o 15 (.mv (j 0))] [1, 2, 3, 13, 14, 15]
 (.block 0 (.loop xf_core_voters_k0 xf_core_voters_b0)))
 (.seq (rs [of 30 9 1, o 31 (k 30), o 32 (le 31), o 33 (.mv (j 0))] [1, 2, 3, 31, 32, 33]
 (.block 2 (.loop xf_core_voters_k1 xf_core_voters_b1)))
 (.seq (rs [of 48 10 1, o 49 (k 48), o 50 (le 49), o 51 (.mv (j 0))] [1, 2, 3, 49, 50, 51]
 (.block 4 (.loop xf_core_voters_k2 xf_core_voters_b2)))
 (.seq (rs [of 66 11 1, o 67 (k 66), o 68 (le 67), o 69 (.mv (j 0))] [2, 3, 67, 68, 69]
 (.block 6 (.loop xf_core_voters_k3 xf_core_voters_b3)))
 (rs [ol 84 4 3, p (t 4 2 84)] [2]
 (.ret [2]))))))))⟩

def xf_core_leads : XFunc := ⟨none, true, 2, [.tmp 4], (rs [o 2 (bx 0), o 3 (bx 1), o 4 (.mv (.c w))] [2, 3]
 (rp (some []) [of 5 0 3, o 6 (k 5), of 7 2 3, o 8 (k 7), of 9 0 2, o 10 (k 9), o 11 (.bin .mul (j 2) (.s 10)), o 12 (baj 11 1), o 13 (.bin .rem (.s 8) (.s 12)), o 14 (q 6 13), om 4 14] [4]
 (.ret [4])))⟩

def xf_core_twin_k0 : List (Nat × Option (Nat × Nat × Bool)) := [(1, none), (2, none), (27, none), (28, none)]
def xf_core_twin_b0 : XCode := (rs [o 29 (bl 28 27)] [1, 2, 27, 28, 29]
 (.seq (.cond (.s 29) .skip (.exit 0 [1, 2]))
 (.seq (.block 1 (rs [om 30 28, om 3 30] [1, 2, 3, 27, 28]
 (.reg [of 31 10 1, o 32 (k 31), om 33 3, of 34 10 1, o 35 (k 34), om 36 3, o 37 (ia 6 35 36), of 38 5 37, o 39 (k 38), o 40 (c 77 [39]), o 41 (ia 6 32 33), of 42 5 41, p (t 1 42 40)] (some [(1, 9)]) [1, 2, 27, 28])))
 (.reg [o 43 (baj 28 1), om 28 43] none [1, 2, 27, 28]))))
def xf_core_twin_k1 : List (Nat × Option (Nat × Nat × Bool)) := [(1, none), (2, none), (50, none), (51, none)]
def xf_core_twin_b1 : XCode := (rs [o 52 (bl 51 50)] [1, 2, 50, 51, 52]
 (.seq (.cond (.s 52) .skip (.exit 2 [1, 2]))
 (.seq (.block 3 (rs [om 53 51, om 4 53] [1, 2, 4, 50, 51]
 (.reg [of 54 11 1, o 55 (k 54), om 56 4, of 57 11 1, o 58 (k 57), om 59 4, o 60 (ia 6 58 59), of 61 5 60, o 62 (k 61), o 63 (c 77 [62]), o 64 (ia 6 55 56), of 65 5 64, p (t 1 65 63)] (some [(1, 9)]) [1, 2, 50, 51])))
 (.reg [o 66 (baj 51 1), om 51 66] none [1, 2, 50, 51]))))
def xf_core_twin : XFunc := ⟨none, true, 1, [.cell 2 (some 12)], (rs [o 1 (bx 0), o 2 (.alloc l1)] [1, 2]
 (rs [of 5 4 1, o 6 (k 5), o 7 (c 77 [6]), of 8 4 1, p (t 1 8 7)] [1, 2]
 (rs [of 9 6 1, o 10 (k 9), o 11 (c 78 [10]), of 12 6 1, p (t 1 12 11)] [1, 2]
 (rs [of 13 8 1, o 14 (k 13), o 15 (c 79 [14]), of 16 8 1, p (t 1 16 15)] [1, 2]
 (rs [of 17 9 1, o 18 (k 17), o 19 (c 80 [18]), of 20 9 1, p (t 1 20 19)] [1, 2]
 (rs [of 21 10 1, o 22 (k 21), o 23 (c 81 [22]), of 24 10 1, p (t 1 24 23)] [1, 2]
 (.seq (rs [of 25 10 1, o 26 (k 25), o 27 (le 26), o 28 (.mv (j 0))] [1, 2, 27, 28]
 (.block 0 (.loop xf_core_twin_k0 xf_core_twin_b0)))
 (rs [of 44 11 1, o 45 (k 44), o 46 (c 82 [45]), of 47 11 1, p (t 1 47 46)] [1, 2]
 (.seq (rs [of 48 11 1, o 49 (k 48), o 50 (le 49), o 51 (.mv (j 0))] [1, 2, 50, 51]
 (.block 2 (.loop xf_core_twin_k1 xf_core_twin_b1)))
 (rs [ol 67 12 1, p (t 12 2 67)] [2]
 (.ret [2])))))))))))⟩

def xf_client_Between : XFunc := ⟨none, true, 3, [.tmp 6, .tmp 7], (rs [o 6 (.mv (.c (.nil 116 7 true))), o 7 (.mv (j 0))] [0, 1, 2]
 (.seq (rs [om 9 0, o 10 (c 83 [9]), om 8 10] [0, 1, 2, 8]
 (rs [om 11 8, o 12 (nj 11 0)] [0, 1, 2, 8, 12]
 (.cond (.s 12) (rs [om 13 8, o 6 (.mv (.c (.nil 116 7 true))), om 7 13] [6, 7]
 (.ret [6, 7])) .skip)))
 (.seq (ss [am 14 1, a 15 (blj 14 0), am 16 15, d 17 (m 1) 16, d 18 (m 0) 16, d 19 (le 18) 16, d 20 (bg 17 19) 16, a 21 (ko 16 20), am 22 21, d 23 (m 2) 22, d 24 (blj 23 0) 22, a 25 (ko 22 24), am 26 25, d 27 (m 2) 26, d 28 (m 0) 26, d 29 (le 28) 26, d 30 (bg 27 29) 26, a 31 (ko 26 30), am 32 31, d 33 (m 1) 32, d 34 (m 2) 32, d 35 (bg 33 34) 32, a 36 (ko 32 35)] [0, 1, 2, 36]
 (.cond (.s 36) (rs [o 6 (.mv (.c (.nil 116 7 true))), o 7 (.mv (j 50))] [6, 7]
 (.ret [6, 7])) .skip))
 (rs [om 37 0, om 38 2, o 39 (c 84 [37, 38]), om 40 1, o 41 (.slice 7 (.s 39) (some (.s 40)) none), o 42 (.app 116 7 64 true (.c (.nil 116 7 true)) (.s 41)), om 6 42, o 7 (.mv (j 0))] [6, 7]
 (.ret [6, 7])))))⟩
theorem r_law11_ChangeChoice : progT Tryz.prog 3 = some xf_law11_ChangeChoice.plain := by kernel_rfl
theorem r_law11_ChangeCounts : progT Tryz.prog 4 = some xf_law11_ChangeCounts.plain := by kernel_rfl
theorem r_law11_ChangeStands : progT Tryz.prog 5 = some xf_law11_ChangeStands.plain := by kernel_rfl
theorem r_law11_alive : progT Tryz.prog 6 = some xf_law11_alive.plain := by kernel_rfl
theorem r_change_Vote : progT Tryz.prog 7 = some xf_change_Vote.plain := by kernel_rfl
theorem r_law11_num : progT Tryz.prog 8 = some xf_law11_num.plain := by kernel_rfl
theorem r_core_Primary : progT Tryz.prog 9 = some xf_core_Primary.plain := by kernel_rfl
theorem r_plain_CopyState : progT Tryz.prog 10 = some xf_plain_CopyState.plain := by kernel_rfl
theorem r_plain_SameEntries : progT Tryz.prog 11 = some xf_plain_SameEntries.plain := by kernel_rfl
theorem r_law11_step : progT Tryz.prog 12 = some xf_law11_step.plain := by kernel_rfl
theorem r_plain_SameState : progT Tryz.prog 13 = some xf_plain_SameState.plain := by kernel_rfl
theorem r_core_Check : progT Tryz.prog 14 = some xf_core_Check.plain := by kernel_rfl
theorem r_change_Suspect : progT Tryz.prog 15 = some xf_change_Suspect.plain := by kernel_rfl
theorem r_ref09_Check : progT Tryz.prog 16 = some xf_ref09_Check.plain := by kernel_rfl
theorem r_vector_Compare : progT Tryz.prog 17 = some xf_vector_Compare.plain := by kernel_rfl
theorem r_law11_right : progT Tryz.prog 18 = some xf_law11_right.plain := by kernel_rfl
theorem r_law11_three : progT Tryz.prog 19 = some xf_law11_three.plain := by kernel_rfl
theorem r_law11_backup : progT Tryz.prog 20 = some xf_law11_backup.plain := by kernel_rfl
theorem r_change_Start : progT Tryz.prog 21 = some xf_change_Start.plain := by kernel_rfl
theorem r_change_handle : progT Tryz.prog 22 = some xf_change_handle.plain := by kernel_rfl
theorem r_core_CheckConfig : progT Tryz.prog 23 = some xf_core_CheckConfig.plain := by kernel_rfl
theorem r_core_Nodes : progT Tryz.prog 24 = some xf_core_Nodes.plain := by kernel_rfl
theorem r_plain_CopyEntries : progT Tryz.prog 25 = some xf_plain_CopyEntries.plain := by kernel_rfl
theorem r_plain_CopyVector : progT Tryz.prog 26 = some xf_plain_CopyVector.plain := by kernel_rfl
theorem r_change_Install : progT Tryz.prog 27 = some xf_change_Install.plain := by kernel_rfl
theorem r_plain_SameVector : progT Tryz.prog 28 = some xf_plain_SameVector.plain := by kernel_rfl
theorem r_plain_sameAcks : progT Tryz.prog 29 = some xf_plain_sameAcks.plain := by kernel_rfl
theorem r_plain_sameMarks : progT Tryz.prog 30 = some xf_plain_sameMarks.plain := by kernel_rfl
theorem r_plain_SameBallots : progT Tryz.prog 31 = some xf_plain_SameBallots.plain := by kernel_rfl
theorem r_plain_SameAnswers : progT Tryz.prog 32 = some xf_plain_SameAnswers.plain := by kernel_rfl
theorem r_core_logged : progT Tryz.prog 33 = some xf_core_logged.plain := by kernel_rfl
theorem r_core_voted : progT Tryz.prog 34 = some xf_core_voted.plain := by kernel_rfl
theorem r_core_normal : progT Tryz.prog 35 = some xf_core_normal.plain := by kernel_rfl
theorem r_core_changing : progT Tryz.prog 36 = some xf_core_changing.plain := by kernel_rfl
theorem r_core_recovering : progT Tryz.prog 37 = some xf_core_recovering.plain := by kernel_rfl
theorem r_core_Carry : progT Tryz.prog 38 = some xf_core_Carry.plain := by kernel_rfl
theorem r_change_frame_goes : progT Tryz.prog 39 = some xf_change_frame_goes.plain := by kernel_rfl
theorem r_ref09_CheckConfig : progT Tryz.prog 40 = some xf_ref09_CheckConfig.plain := by kernel_rfl
theorem r_ref09_may : progT Tryz.prog 41 = some xf_ref09_may.plain := by kernel_rfl
theorem r_nonce_Compare : progT Tryz.prog 42 = some xf_nonce_Compare.plain := by kernel_rfl
theorem r_message_Check : progT Tryz.prog 43 = some xf_message_Check.plain := by kernel_rfl
theorem r_core_Admit : progT Tryz.prog 44 = some xf_core_Admit.plain := by kernel_rfl
theorem r_change_handlers : progT Tryz.prog 45 = some xf_change_handlers.plain := by kernel_rfl
theorem r_core_voters : progT Tryz.prog 47 = some xf_core_voters.plain := by kernel_rfl
theorem r_core_leads : progT Tryz.prog 48 = some xf_core_leads.plain := by kernel_rfl
theorem r_core_twin : progT Tryz.prog 49 = some xf_core_twin.plain := by kernel_rfl
theorem r_client_Between : progT Tryz.prog 50 = some xf_client_Between.plain := by kernel_rfl

end Go.Ax
