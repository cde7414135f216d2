/-
  The functions of this seat as resolved code, and that the program resolves to them (part 1).
-/
import Derived.Test.YtponcchkfmbicaaGreatDoorXComp
import Derived.Test.YtponcchkfmbicaaGreatDoorXFn
import Derived.Test.YtponcchkfmbicaaGreatDoorXG
import Derived.Test.YtponcchkfmbicaaGreatDoorXP
import Derived.Test.YtponcchkfmbicaaGreatDoorProg
import Derived.KernelRfl
namespace Go.Ax
open Go.Proofs P

def xf_law09_CoreAdmits : XFunc := ⟨none, false, 3, [.tmp 6], (rs [o 3 (bx 0), o 4 (bx 1), o 5 (bx 2), o 6 (.mv (.c w))] [3, 4, 5]
 (rs [o 7 (.alloc l5)] [3, 4, 5, 7]
 (rp (some [(0, 2), (2, 3), (0, 4), (0, 10), (1, 10), (2, 10), (3, 10), (4, 10), (5, 10)]) [ol 15 4 3, ol 16 12 4, o 17 (c 10 [7, 16]), ol 18 18 5, o 19 (c 11 [7, 18]), o 20 (c 9 [15, 17, 19]), om 14 20, o 21 (e 14 0), o 22 (e 14 1), o 23 (e 14 2), o 8 (.alloc l1), p (t 12 8 21), om 9 22, om 10 23] [3, 4, 5, 7, 8, 9, 10]
 (rs [ol 25 4 3, ol 26 12 4, ol 27 18 5, o 28 (c 12 [25, 26, 27]), om 24 28, o 29 (e 24 0), o 30 (e 24 1), o 31 (e 24 2), o 11 (.alloc l1), p (t 12 11 29), om 12 30, om 13 31] [7, 8, 9, 10, 11, 12, 13]
 (ss [am 32 10, a 33 (c 13 [32]), am 34 13, a 35 (q 33 34), am 36 35, bb 37 9 36, bb 38 12 36, b 39 (.eqv false false [.b] (.s 37) (.s 38)) 36, a 40 (ka 36 39), am 41 40, b 42 (l 12 8) 41, b 43 (l 12 11) 41, (g 44 (c 14 [42, 43]) 41, false), a 45 (ka 41 44), am 46 45, (g 47 (c 15 [7]) 46, false), a 48 (ka 46 47), am 6 48] [6]
 (.ret [6]))))))⟩

def xf_law09_CoreVoices_k0 : List (Nat × Option (Nat × Nat × Bool)) := [(10, none), (13, none), (14, none)]
def xf_law09_CoreVoices_b0 : XCode := (.seq (rs [om 102 14, of 103 8 10, o 104 (k 103), o 105 (le 104), o 106 (bl 102 105)] [10, 13, 14, 106]
 (.cond (.s 106) .skip (.exit 0 [10, 13])))
 (.seq (.block 1 (sp (some []) [a 109 (f 8 10), a 110 (k 109), am 111 14, a 112 (ia 4 110 111), a 113 (f 0 112), a 114 (k 113), a 115 (blj 114 0), am 116 115, d 117 (f 8 10) 116, d 118 (k 117) 116, d 119 (m 14) 116, (⟨(some 120), ia 4 118 119, some (116, false)⟩, false), (⟨(some 121), f 0 120, some (116, false)⟩, false), (⟨(some 122), k 121, some (116, false)⟩, false), d 123 (m 13) 116, (⟨(some 124), bh 122 123, some (116, false)⟩, false), a 125 (ko 116 124), am 126 125, d 127 (f 8 10) 126, d 128 (k 127) 126, d 129 (m 14) 126, (⟨(some 130), ia 4 128 129, some (126, false)⟩, false), (⟨(some 131), f 1 130, some (126, false)⟩, false), (⟨(some 132), l 2 131, some (126, false)⟩, false), d 133 (f 6 10) 126, d 134 (k 133) 126, d 135 (f 8 10) 126, d 136 (k 135) 126, d 137 (m 14) 126, (⟨(some 138), ia 4 136 137, some (126, false)⟩, false), (⟨(some 139), f 0 138, some (126, false)⟩, false), (⟨(some 140), k 139, some (126, false)⟩, false), (⟨(some 141), ia 2 134 140, some (126, false)⟩, false), (⟨(some 142), l 2 141, some (126, false)⟩, false), (⟨(some 143), .eqv true true [.i, .i] (.s 132) (.s 142), some (126, false)⟩, false), a 144 (ko 126 143)] [10, 13, 14, 144]
 (.cond (.s 144) (rs [o 6 (.mv (.c w))] [6]
 (.ret [6])) .skip)))
 (.reg [om 107 14, o 108 (baj 107 1), om 14 108] none [10, 13, 14])))
def xf_law09_CoreVoices_k1 : List (Nat × Option (Nat × Nat × Bool)) := [(10, none), (13, none), (15, none)]
def xf_law09_CoreVoices_b1 : XCode := (.seq (rs [om 145 15, of 146 9 10, o 147 (k 146), o 148 (le 147), o 149 (bl 145 148)] [10, 13, 15, 149]
 (.cond (.s 149) .skip (.exit 2 [10, 13])))
 (.seq (.block 3 (sp (some []) [a 152 (f 9 10), a 153 (k 152), am 154 15, a 155 (ia 3 153 154), a 156 (f 0 155), a 157 (k 156), a 158 (blj 157 0), am 159 158, d 160 (f 9 10) 159, d 161 (k 160) 159, d 162 (m 15) 159, (⟨(some 163), ia 3 161 162, some (159, false)⟩, false), (⟨(some 164), f 0 163, some (159, false)⟩, false), (⟨(some 165), k 164, some (159, false)⟩, false), d 166 (m 13) 159, (⟨(some 167), bh 165 166, some (159, false)⟩, false), a 168 (ko 159 167), am 169 168, d 170 (f 9 10) 169, d 171 (k 170) 169, d 172 (m 15) 169, (⟨(some 173), ia 3 171 172, some (169, false)⟩, false), (⟨(some 174), f 1 173, some (169, false)⟩, false), (⟨(some 175), l 2 174, some (169, false)⟩, false), d 176 (f 6 10) 169, d 177 (k 176) 169, d 178 (f 9 10) 169, d 179 (k 178) 169, d 180 (m 15) 169, (⟨(some 181), ia 3 179 180, some (169, false)⟩, false), (⟨(some 182), f 0 181, some (169, false)⟩, false), (⟨(some 183), k 182, some (169, false)⟩, false), (⟨(some 184), ia 2 177 183, some (169, false)⟩, false), (⟨(some 185), l 2 184, some (169, false)⟩, false), (⟨(some 186), .eqv true true [.i, .i] (.s 175) (.s 185), some (169, false)⟩, false), a 187 (ko 169 186)] [10, 13, 15, 187]
 (.cond (.s 187) (rs [o 6 (.mv (.c w))] [6]
 (.ret [6])) .skip)))
 (.reg [om 150 15, o 151 (baj 150 1), om 15 151] none [10, 13, 15])))
def xf_law09_CoreVoices_k2 : List (Nat × Option (Nat × Nat × Bool)) := [(10, none), (13, none), (16, none)]
def xf_law09_CoreVoices_b2 : XCode := (.seq (rs [om 188 16, of 189 10 10, o 190 (k 189), o 191 (le 190), o 192 (bl 188 191)] [10, 13, 16, 192]
 (.cond (.s 192) .skip (.exit 4 [10, 13])))
 (.seq (.block 5 (sp (some []) [a 195 (f 10 10), a 196 (k 195), am 197 16, a 198 (ia 6 196 197), a 199 (f 0 198), a 200 (k 199), a 201 (blj 200 0), am 202 201, d 203 (f 10 10) 202, d 204 (k 203) 202, d 205 (m 16) 202, (⟨(some 206), ia 6 204 205, some (202, false)⟩, false), (⟨(some 207), f 0 206, some (202, false)⟩, false), (⟨(some 208), k 207, some (202, false)⟩, false), d 209 (m 13) 202, (⟨(some 210), bh 208 209, some (202, false)⟩, false), a 211 (ko 202 210), am 212 211, d 213 (f 10 10) 212, d 214 (k 213) 212, d 215 (m 16) 212, (⟨(some 216), ia 6 214 215, some (212, false)⟩, false), (⟨(some 217), f 1 216, some (212, false)⟩, false), (⟨(some 218), l 2 217, some (212, false)⟩, false), d 219 (f 6 10) 212, d 220 (k 219) 212, d 221 (f 10 10) 212, d 222 (k 221) 212, d 223 (m 16) 212, (⟨(some 224), ia 6 222 223, some (212, false)⟩, false), (⟨(some 225), f 0 224, some (212, false)⟩, false), (⟨(some 226), k 225, some (212, false)⟩, false), (⟨(some 227), ia 2 220 226, some (212, false)⟩, false), (⟨(some 228), l 2 227, some (212, false)⟩, false), (⟨(some 229), .eqv true true [.i, .i] (.s 218) (.s 228), some (212, false)⟩, false), a 230 (ko 212 229)] [10, 13, 16, 230]
 (.cond (.s 230) (rs [o 6 (.mv (.c w))] [6]
 (.ret [6])) .skip)))
 (.reg [om 193 16, o 194 (baj 193 1), om 16 194] none [10, 13, 16])))
def xf_law09_CoreVoices_k3 : List (Nat × Option (Nat × Nat × Bool)) := [(10, none), (13, none), (17, none)]
def xf_law09_CoreVoices_b3 : XCode := (.seq (rs [om 231 17, of 232 11 10, o 233 (k 232), o 234 (le 233), o 235 (bl 231 234)] [10, 13, 17, 235]
 (.cond (.s 235) .skip (.exit 6 [])))
 (.seq (.block 7 (sp (some []) [a 238 (f 11 10), a 239 (k 238), am 240 17, a 241 (ia 6 239 240), a 242 (f 0 241), a 243 (k 242), a 244 (blj 243 0), am 245 244, d 246 (f 11 10) 245, d 247 (k 246) 245, d 248 (m 17) 245, (⟨(some 249), ia 6 247 248, some (245, false)⟩, false), (⟨(some 250), f 0 249, some (245, false)⟩, false), (⟨(some 251), k 250, some (245, false)⟩, false), d 252 (m 13) 245, (⟨(some 253), bh 251 252, some (245, false)⟩, false), a 254 (ko 245 253), am 255 254, d 256 (f 11 10) 255, d 257 (k 256) 255, d 258 (m 17) 255, (⟨(some 259), ia 6 257 258, some (255, false)⟩, false), (⟨(some 260), f 1 259, some (255, false)⟩, false), (⟨(some 261), l 2 260, some (255, false)⟩, false), d 262 (f 6 10) 255, d 263 (k 262) 255, d 264 (f 11 10) 255, d 265 (k 264) 255, d 266 (m 17) 255, (⟨(some 267), ia 6 265 266, some (255, false)⟩, false), (⟨(some 268), f 0 267, some (255, false)⟩, false), (⟨(some 269), k 268, some (255, false)⟩, false), (⟨(some 270), ia 2 263 269, some (255, false)⟩, false), (⟨(some 271), l 2 270, some (255, false)⟩, false), (⟨(some 272), .eqv true true [.i, .i] (.s 261) (.s 271), some (255, false)⟩, false), a 273 (ko 255 272)] [10, 13, 17, 273]
 (.cond (.s 273) (rs [o 6 (.mv (.c w))] [6]
 (.ret [6])) .skip)))
 (.reg [om 236 17, o 237 (baj 236 1), om 17 237] none [10, 13, 17])))
def xf_law09_CoreVoices : XFunc := ⟨none, false, 3, [.tmp 6], (rs [o 3 (bx 0), o 4 (bx 1), o 5 (bx 2), o 6 (.mv (.c w))] [3, 4, 5]
 (.seq (rs [o 18 (c 16 []), o 19 (nt 18)] [3, 4, 5, 19]
 (.cond (.s 19) (rs [o 6 (.mv (.c w))] [6]
 (.ret [6])) .skip))
 (.seq (rs [ol 20 4 3, ol 21 12 4, o 22 (c 17 [20, 21]), o 23 (nj 22 0)] [3, 4, 5, 23]
 (.cond (.s 23) (rs [ol 25 4 3, ol 26 12 4, ol 27 18 5, o 28 (c 9 [25, 26, 27]), om 24 28, o 29 (e 24 0), o 30 (e 24 1), o 31 (e 24 2), o 7 (.alloc l1), p (t 12 7 29), om 8 30, om 9 31] [8, 9]
 (ss [am 32 9, a 33 (c 13 [32]), a 34 (nj 33 0), am 35 34, bb 36 8 35, b 37 (nt 36) 35, a 38 (ka 35 37), am 6 38] [6]
 (.ret [6]))) .skip))
 (rs [ol 40 4 3, ol 41 12 4, ol 42 18 5, o 43 (c 9 [40, 41, 42]), om 39 43, o 44 (e 39 0), o 45 (e 39 1), o 46 (e 39 2), o 10 (.alloc l1), p (t 12 10 44), om 11 45, om 12 46] [3, 4, 5, 10, 12]
 (.seq (rs [om 47 12, o 48 (c 13 [47]), o 49 (nj 48 0)] [3, 4, 5, 10, 12, 49]
 (.cond (.s 49) (rp (some [(1, 2), (1, 3)]) [om 50 12, o 51 (c 13 [50]), ol 52 4 3, ol 53 18 5, o 54 (c 18 [52, 53]), o 55 (q 51 54), om 6 55] [6]
 (.ret [6])) .skip))
 (.seq (ss [a 56 (f 6 10), a 57 (k 56), a 58 (le 57), a 59 (f 6 4), a 60 (k 59), a 61 (le 60), a 62 (n 58 61), am 63 62, d 64 (f 8 10) 63, d 65 (k 64) 63, d 66 (le 65) 63, d 67 (f 8 4) 63, d 68 (k 67) 63, d 69 (le 68) 63, d 70 (bg 66 69) 63, a 71 (ko 63 70), am 72 71, d 73 (f 9 10) 72, d 74 (k 73) 72, d 75 (le 74) 72, d 76 (f 9 4) 72, d 77 (k 76) 72, d 78 (le 77) 72, d 79 (bg 75 78) 72, a 80 (ko 72 79), am 81 80, d 82 (f 10 10) 81, d 83 (k 82) 81, d 84 (le 83) 81, d 85 (f 10 4) 81, d 86 (k 85) 81, d 87 (le 86) 81, d 88 (bg 84 87) 81, a 89 (ko 81 88), am 90 89, d 91 (f 11 10) 90, d 92 (k 91) 90, d 93 (le 92) 90, d 94 (f 11 4) 90, d 95 (k 94) 90, d 96 (le 95) 90, d 97 (bg 93 96) 90, a 98 (ko 90 97)] [10, 98]
 (.cond (.s 98) (rs [o 6 (.mv (.c w))] [6]
 (.ret [6])) .skip))
 (rs [of 99 6 10, o 100 (k 99), o 101 (le 100), om 13 101] [10, 13]
 (.seq (rs [o 14 (.mv (j 0))] [10, 13, 14]
 (.block 0 (.loop xf_law09_CoreVoices_k0 xf_law09_CoreVoices_b0)))
 (.seq (rs [o 15 (.mv (j 0))] [10, 13, 15]
 (.block 2 (.loop xf_law09_CoreVoices_k1 xf_law09_CoreVoices_b1)))
 (.seq (rs [o 16 (.mv (j 0))] [10, 13, 16]
 (.block 4 (.loop xf_law09_CoreVoices_k2 xf_law09_CoreVoices_b2)))
 (.seq (rs [o 17 (.mv (j 0))] [10, 13, 17]
 (.block 6 (.loop xf_law09_CoreVoices_k3 xf_law09_CoreVoices_b3)))
 (rs [o 6 (.mv (.c v))] [6]
 (.ret [6])))))))))))))⟩

def xf_law09_CorePatience_k0 : List (Nat × Option (Nat × Nat × Bool)) := [(2, none), (3, none), (8, none), (9, none), (10, none), (11, none)]
def xf_law09_CorePatience_b0 : XCode := (.seq (rs [om 54 11, of 55 2 2, o 56 (k 55), o 57 (.bin .mul (j 2) (.s 56)), o 58 (bl 54 57)] [2, 3, 8, 9, 10, 11, 58]
 (.cond (.s 58) .skip (.exit 0 [3, 8, 9, 10])))
 (.seq (.block 1 (rs [ol 62 4 2, ol 63 12 9, o 64 (c 19 [62, 63]), om 61 64, o 65 (e 61 0), o 66 (e 61 1), o 67 (e 61 2), o 12 (.alloc l1), p (t 12 12 65), om 13 66, om 14 67] [2, 3, 8, 9, 10, 11, 12, 13, 14]
 (.seq (rs [om 68 14, o 69 (c 13 [68]), o 70 (nj 69 0)] [2, 3, 8, 9, 10, 11, 12, 13, 70]
 (.cond (.s 70) (rs [o 4 (.mv (.c w))] [4]
 (.ret [4])) .skip))
 (.seq (rs [om 71 13] [2, 3, 8, 9, 10, 11, 12, 71]
 (.cond (.s 71) (rs [om 72 10, o 73 (baj 72 1), om 10 73] [2, 3, 8, 9, 10, 11, 12]
 (ss [a 74 (f 7 12), a 75 (k 74), a 76 (nj 75 0), am 77 76, d 78 (m 11) 77, d 79 (f 7 3) 77, d 80 (k 79) 77, d 81 (ba 78 80) 77, d 82 (baj 81 1) 77, d 83 (f 2 2) 77, d 84 (k 83) 77, (⟨(some 85), .bin .rem (.s 82) (.s 84), some (77, false)⟩, false), (⟨(some 86), nj 85 0, some (77, false)⟩, false), a 87 (ko 77 86)] [2, 3, 8, 9, 10, 11, 12, 87]
 (.cond (.s 87) (rs [o 4 (.mv (.c w))] [4]
 (.ret [4])) .skip))) .skip))
 (.reg [ol 88 12 12, p (t 12 9 88)] none [2, 3, 8, 9, 10, 11])))))
 (.reg [om 59 11, o 60 (baj 59 1), om 11 60] none [2, 3, 8, 9, 10, 11])))
def xf_law09_CorePatience : XFunc := ⟨none, false, 2, [.tmp 4], (rs [o 2 (bx 0), o 3 (bx 1), o 4 (.mv (.c w))] [2, 3]
 (.seq (rs [o 15 (c 16 []), o 16 (nt 15)] [2, 3, 16]
 (.cond (.s 16) (rs [o 4 (.mv (.c w))] [4]
 (.ret [4])) .skip))
 (.seq (rs [ol 17 4 2, ol 18 12 3, o 19 (c 17 [17, 18]), o 20 (nj 19 0)] [2, 3, 20]
 (.cond (.s 20) (rs [ol 22 4 2, ol 23 12 3, o 24 (c 19 [22, 23]), om 21 24, o 25 (e 21 0), o 26 (e 21 1), o 27 (e 21 2), o 5 (.alloc l1), p (t 12 5 25), om 6 26, om 7 27] [6, 7]
 (ss [am 28 7, a 29 (c 13 [28]), a 30 (nj 29 0), am 31 30, bb 32 6 31, b 33 (nt 32) 31, a 34 (ka 31 33), am 4 34] [4]
 (.ret [4]))) .skip))
 (rp (some [(9, 13)]) [of 35 1 3, o 36 (k 35), o 37 (qj 36 3), om 38 37, ⟨(some 39), f 1 3, some (38, false)⟩, ⟨(some 40), k 39, some (38, false)⟩, ⟨(some 41), qj 40 1, some (38, false)⟩, ⟨(some 42), m 41, some (38, false)⟩, g 43 (f 0 3) 42, g 44 (k 43) 42, g 45 (l 4 2) 42, g 46 (f 2 3) 42, g 47 (k 46) 42, g 48 (c 20 [45, 47]) 42, g 49 (q 44 48) 42, ⟨(some 50), ka 42 49, some (38, false)⟩, o 51 (ko 38 50), om 8 51] [2, 3, 8]
 (rs [ol 52 12 3, o 53 (c 21 [52]), o 9 (.alloc l1), p (t 12 9 53)] [2, 3, 8, 9]
 (rs [o 10 (.mv (j 0))] [2, 3, 8, 9, 10]
 (.seq (rs [o 11 (.mv (j 0))] [2, 3, 8, 9, 10, 11]
 (.block 0 (.loop xf_law09_CorePatience_k0 xf_law09_CorePatience_b0)))
 (rs [of 89 7 3, o 90 (k 89), of 91 7 9, p (t 1 91 90)] [3, 8, 9, 10]
 (ss [a 92 (l 12 9), a 93 (l 12 3), a 94 (c 14 [92, 93]), am 95 94, bb 96 8 95, bb 97 96 95, bb 98 10 97, b 99 (qj 98 0) 97, b 100 (ka 97 99) 95, bb 101 100 95, d 102 (m 8) 101, d 103 (nt 102) 101, d 104 (m 103) 101, bb 105 10 104, b 106 (qj 105 2) 104, d 107 (ka 104 106) 101, b 108 (ko 101 107) 95, a 109 (ka 95 108), am 4 109] [4]
 (.ret [4]))))))))))⟩

def xf_law09_CoreKnows_k1 : List (Nat × Option (Nat × Nat × Bool)) := [(2, none), (3, none), (4, none), (7, none), (8, none), (9, none), (16, none)]
def xf_law09_CoreKnows_b1 : XCode := (.seq (rs [om 148 16, om 149 8, o 150 (bl 148 149)] [2, 3, 4, 7, 8, 9, 16, 150]
 (.cond (.s 150) .skip (.exit 2 [2, 3, 4, 7, 8, 9])))
 (.seq (.block 3 (sp (some []) [a 153 (f 3 3), a 154 (k 153), a 155 (nt 154), am 156 155, bb 157 2 156, bb 158 16 156, (g 159 (ia 18 157 158) 156, false), (g 160 (f 17 159) 156, false), (g 161 (k 160) 156, false), (g 162 (le 161) 156, false), b 163 (f 6 9) 156, b 164 (k 163) 156, b 165 (le 164) 156, (g 166 (q 162 165) 156, false), a 167 (ka 156 166), am 168 167, bb 169 2 168, bb 170 16 168, (g 171 (ia 18 169 170) 168, false), (g 172 (f 1 171) 168, false), (g 173 (k 172) 168, false), (g 174 (bhj 173 0) 168, false), a 175 (ka 168 174), am 176 175, bb 177 2 176, bb 178 16 176, (g 179 (ia 18 177 178) 176, false), (g 180 (f 1 179) 176, false), (g 181 (k 180) 176, false), b 182 (f 6 9) 176, b 183 (k 182) 176, b 184 (le 183) 176, (g 185 (bl 181 184) 176, false), a 186 (ka 176 185), am 187 186, b 188 (f 6 7) 187, b 189 (k 188) 187, bb 190 2 187, bb 191 16 187, (g 192 (ia 18 190 191) 187, false), (g 193 (f 1 192) 187, false), (g 194 (k 193) 187, false), bb 195 2 187, bb 196 16 187, (g 197 (ia 18 195 196) 187, false), (g 198 (f 17 197) 187, false), (g 199 (k 198) 187, false), (g 200 (.build [z, (.nil 43 2 true)] [(0, 1, (.s 194)), (1, 1, (.s 199))]) 187, false), (g 201 (c 25 [189, 200]) 187, false), a 202 (ka 187 201)] [2, 3, 4, 7, 8, 9, 16, 202]
 (.cond (.s 202) (rp (some [(0, 11), (1, 11), (4, 11), (5, 11), (6, 11)]) [ol 204 4 3, ol 205 12 9, om 206 2, om 207 16, o 208 (ia 18 206 207), ol 209 18 208, o 210 (c 9 [204, 205, 209]), om 203 210, o 211 (e 203 0), o 212 (e 203 1), o 213 (e 203 2), o 17 (.alloc l1), p (t 12 17 211), om 18 212, om 19 213] [2, 3, 4, 7, 8, 9, 16, 18, 19]
 (ss [am 214 19, a 215 (c 13 [214]), a 216 (qj 215 0), am 217 216, bb 218 18 217, a 219 (ka 217 218), am 220 219, bb 221 2 220, bb 222 16 220, (g 223 (ia 18 221 222) 220, false), (g 224 (f 0 223) 220, false), (g 225 (k 224) 220, false), (g 226 (c 26 [225]) 220, false), a 227 (ka 220 226)] [2, 3, 4, 7, 8, 9, 16, 227]
 (.cond (.s 227) (rs [o 6 (.mv (.c w))] [6]
 (.ret [6])) .skip))) .skip)))
 (.reg [om 151 16, o 152 (baj 151 1), om 16 152] none [2, 3, 4, 7, 8, 9, 16])))
def xf_law09_CoreKnows_k0 : List (Nat × Option (Nat × Nat × Bool)) := [(2, none), (3, none), (4, none), (7, none), (8, none)]
def xf_law09_CoreKnows_b0 : XCode := (.seq (rs [om 33 8, om 34 2, o 35 (le 34), o 36 (bl 33 35)] [2, 3, 4, 7, 8, 36]
 (.cond (.s 36) .skip (.exit 0 [])))
 (.seq (.block 1 (rp (some [(0, 11), (1, 11), (4, 11), (5, 11), (6, 11)]) [ol 40 4 3, ol 41 12 7, om 42 2, om 43 8, o 44 (ia 18 42 43), ol 45 18 44, o 46 (c 9 [40, 41, 45]), om 39 46, o 47 (e 39 0), o 48 (e 39 1), o 49 (e 39 2), o 9 (.alloc l1), p (t 12 9 47), om 10 48, om 11 49] [2, 3, 4, 7, 8, 9, 10, 11]
 (.seq (rs [om 50 11, o 51 (c 13 [50]), o 52 (nj 51 0)] [2, 3, 4, 7, 8, 9, 10, 52]
 (.cond (.s 52) (.seq (rp (some []) [ol 53 4 3, om 54 2, om 55 8, o 56 (ia 18 54 55), ol 57 18 56, o 58 (c 18 [53, 57]), o 59 (qj 58 0)] [2, 3, 4, 7, 8, 59]
 (.cond (.s 59) (rs [o 6 (.mv (.c w))] [6]
 (.ret [6])) .skip))
 (.exit 1 [2, 3, 4, 7, 8])) .skip))
 (.seq (ss [am 60 10, a 61 (nt 60), am 62 61, b 63 (l 12 9) 62, b 64 (l 12 7) 62, (g 65 (c 14 [63, 64]) 62, false), (g 66 (nt 65) 62, false), a 67 (ka 62 66)] [2, 3, 4, 7, 8, 9, 10, 67]
 (.cond (.s 67) (rs [o 6 (.mv (.c w))] [6]
 (.ret [6])) .skip))
 (rp (some [(0, 11), (1, 11), (4, 11), (5, 11), (6, 11)]) [ol 69 4 3, ol 70 12 9, om 71 2, om 72 8, o 73 (ia 18 71 72), ol 74 18 73, o 75 (c 9 [69, 70, 74]), om 68 75, o 76 (e 68 0), o 77 (e 68 1), o 78 (e 68 2), o 12 (.alloc l1), p (t 12 12 76), om 13 77, om 14 78] [2, 3, 4, 7, 8, 9, 10, 12, 13, 14]
 (.seq (ss [am 79 14, a 80 (c 13 [79]), a 81 (nj 80 0), am 82 81, d 83 (m 13) 82, d 84 (m 10) 82, d 85 (.eqv true false [.b] (.s 83) (.s 84)) 82, a 86 (ko 82 85), am 87 86, d 88 (l 12 12) 87, d 89 (l 12 9) 87, (⟨(some 90), c 14 [88, 89], some (87, false)⟩, false), (⟨(some 91), nt 90, some (87, false)⟩, false), a 92 (ko 87 91)] [2, 3, 4, 7, 8, 9, 92]
 (.cond (.s 92) (rs [o 6 (.mv (.c w))] [6]
 (.ret [6])) .skip))
 (rs [of 93 6 7, o 94 (k 93), of 95 6 9, o 96 (k 95), o 97 (c 23 [94, 96]), om 15 97] [2, 3, 4, 7, 8, 9, 15]
 (.seq (sp (some []) [am 98 15, a 99 (nj 98 1), am 100 99, bb 101 15 100, b 102 (nj 101 2) 100, a 103 (ka 100 102), am 104 103, d 105 (f 6 9) 104, d 106 (k 105) 104, d 107 (f 0 4) 104, d 108 (k 107) 104, (⟨(some 109), ia 2 106 108, some (104, false)⟩, false), (⟨(some 110), l 2 109, some (104, false)⟩, false), d 111 (f 6 4) 104, d 112 (k 111) 104, d 113 (f 0 4) 104, d 114 (k 113) 104, (⟨(some 115), ia 2 112 114, some (104, false)⟩, false), (⟨(some 116), l 2 115, some (104, false)⟩, false), (⟨(some 117), .eqv true true [.i, .i] (.s 110) (.s 116), some (104, false)⟩, false), a 118 (ko 104 117), am 119 118, d 120 (f 2 9) 119, d 121 (k 120) 119, d 122 (f 2 4) 119, d 123 (k 122) 119, d 124 (n 121 123) 119, a 125 (ko 119 124), am 126 125, d 127 (f 5 9) 126, d 128 (k 127) 126, d 129 (f 5 4) 126, d 130 (k 129) 126, d 131 (n 128 130) 126, a 132 (ko 126 131), am 133 132, d 134 (f 1 9) 133, d 135 (k 134) 133, d 136 (f 1 4) 133, d 137 (k 136) 133, d 138 (n 135 137) 133, a 139 (ko 133 138), am 140 139, d 141 (f 4 9) 140, d 142 (k 141) 140, d 143 (f 4 4) 140, d 144 (k 143) 140, (⟨(some 145), c 24 [142, 144], some (140, false)⟩, false), (⟨(some 146), nt 145, some (140, false)⟩, false), a 147 (ko 140 146)] [2, 3, 4, 7, 8, 9, 147]
 (.cond (.s 147) (rs [o 6 (.mv (.c w))] [6]
 (.ret [6])) .skip))
 (.seq (rs [o 16 (.mv (j 0))] [2, 3, 4, 7, 8, 9, 16]
 (.block 2 (.loop xf_law09_CoreKnows_k1 xf_law09_CoreKnows_b1)))
 (.reg [ol 228 12 9, p (t 12 7 228)] none [2, 3, 4, 7, 8]))))))))))
 (.reg [om 37 8, o 38 (baj 37 1), om 8 38] none [2, 3, 4, 7, 8])))
def xf_law09_CoreKnows : XFunc := ⟨none, false, 3, [.tmp 6], (rs [o 3 (bx 0), o 4 (bx 1), o 6 (.mv (.c w))] [2, 3, 4]
 (.seq (rs [o 20 (c 16 []), o 21 (nt 20)] [2, 3, 4, 21]
 (.cond (.s 21) (rs [o 6 (.mv (.c w))] [6]
 (.ret [6])) .skip))
 (.seq (rs [ol 22 4 3, ol 23 12 4, o 24 (c 22 [22, 23]), o 25 (c 13 [24]), o 26 (nj 25 0)] [2, 3, 4, 26]
 (.cond (.s 26) (rs [ol 27 4 3, ol 28 12 4, o 29 (c 17 [27, 28]), o 30 (nj 29 0), om 6 30] [6]
 (.ret [6])) .skip))
 (rs [ol 31 12 4, o 32 (c 21 [31]), o 7 (.alloc l1), p (t 12 7 32)] [2, 3, 4, 7]
 (.seq (rs [o 8 (.mv (j 0))] [2, 3, 4, 7, 8]
 (.block 0 (.loop xf_law09_CoreKnows_k0 xf_law09_CoreKnows_b0)))
 (rs [o 6 (.mv (.c v))] [6]
 (.ret [6])))))))⟩

def xf_law09_CoreChecks : XFunc := ⟨none, false, 3, [.tmp 6], (rs [o 3 (bx 0), o 4 (bx 1), o 5 (bx 2), o 6 (.mv (.c w))] [3, 4, 5]
 (rs [o 7 (.alloc l5)] [3, 4, 5, 7]
 (rp (some [(1, 2), (0, 4), (1, 4), (2, 4), (3, 4), (0, 5), (1, 5), (2, 5), (3, 5)]) [ol 10 12 4, o 11 (c 10 [7, 10]), ol 12 12 5, o 13 (c 10 [7, 12]), o 8 (.alloc l1), o 9 (.alloc l1), p (t 12 8 11), p (t 12 9 13)] [3, 4, 5, 7, 8, 9]
 (sp (some [(2, 4), (3, 4), (2, 5), (3, 5), (11, 12), (11, 13), (20, 21), (20, 22)]) [a 14 (l 4 3), a 15 (l 12 8), a 16 (c 22 [14, 15]), a 17 (c 13 [16]), a 18 (l 4 3), a 19 (l 12 4), a 20 (c 17 [18, 19]), a 21 (q 17 20), am 22 21, b 23 (l 12 8) 22, b 24 (l 12 9) 22, (g 25 (c 27 [23, 24]) 22, false), b 26 (l 12 4) 22, b 27 (l 12 5) 22, (g 28 (c 14 [26, 27]) 22, false), (g 29 (.eqv false false [.b] (.s 25) (.s 28)) 22, false), a 30 (ka 22 29), am 31 30, b 32 (l 12 9) 31, b 33 (l 12 8) 31, (g 34 (c 27 [32, 33]) 31, false), b 35 (l 12 4) 31, b 36 (l 12 5) 31, (g 37 (c 14 [35, 36]) 31, false), (g 38 (.eqv false false [.b] (.s 34) (.s 37)) 31, false), a 39 (ka 31 38), am 40 39, b 41 (l 12 8) 40, b 42 (l 12 8) 40, (g 43 (c 27 [41, 42]) 40, false), a 44 (ka 40 43), am 45 44, (g 46 (c 15 [7]) 45, false), a 47 (ka 45 46), am 48 47, (g 49 (c 16 []) 48, false), a 50 (ka 48 49), am 6 50] [6]
 (.ret [6])))))⟩

def xf_law09_CoreOwn_k0 : List (Nat × Option (Nat × Nat × Bool)) := [(3, none), (4, none), (5, none), (6, none), (9, none), (10, none), (11, none), (12, none), (15, none), (16, none)]
def xf_law09_CoreOwn_b0 : XCode := (.seq (rs [om 64 16, o 65 (blj 64 3)] [3, 4, 5, 6, 9, 10, 11, 12, 15, 16, 65]
 (.cond (.s 65) .skip (.exit 0 [4, 5, 6, 9, 10])))
 (.seq (.block 1 (rs [ol 68 12 11, o 17 (.alloc l1), p (t 12 17 68)] [3, 4, 5, 6, 9, 10, 11, 12, 15, 16, 17]
 (.seq (rs [om 69 16, o 70 (qj 69 1)] [3, 4, 5, 6, 9, 10, 11, 12, 15, 16, 17, 70]
 (.cond (.s 70) (.reg [ol 71 12 15, p (t 12 17 71)] none [3, 4, 5, 6, 9, 10, 11, 12, 15, 16, 17]) .skip))
 (rs [ol 73 4 4, ol 74 12 17, ol 75 18 12, o 76 (c 9 [73, 74, 75]), om 72 76, o 77 (e 72 0), o 78 (e 72 1), o 79 (e 72 2), o 18 (.alloc l1), p (t 12 18 77), om 19 78, om 20 79] [3, 4, 5, 6, 9, 10, 11, 12, 15, 16, 17, 18]
 (rs [ol 81 4 4, ol 82 12 17, o 83 (c 19 [81, 82]), om 80 83, o 84 (e 80 0), o 85 (e 80 1), o 86 (e 80 2), o 21 (.alloc l1), p (t 12 21 84), om 22 85, om 23 86] [3, 4, 5, 6, 9, 10, 11, 12, 15, 16, 17, 18, 21]
 (rs [ol 88 4 4, ol 89 12 17, om 90 3, o 91 (c 29 [88, 89, 90]), om 87 91, o 92 (e 87 0), o 93 (e 87 1), o 94 (e 87 2), o 24 (.alloc l1), p (t 12 24 92), om 25 93, om 26 94] [3, 4, 5, 6, 9, 10, 11, 12, 15, 16, 17, 18, 21, 24, 25]
 (rs [ol 96 4 4, ol 97 12 17, ol 98 18 12, o 99 (.call (fc 30) [(.s 96), (.s 97), (j 1), (.s 98)]), om 95 99, o 100 (e 95 0), o 101 (e 95 1), o 27 (.alloc l3), p (t 19 27 100), om 28 101] [3, 4, 5, 6, 9, 10, 11, 12, 15, 16, 17, 18, 21, 24, 25, 27]
 (rs [ol 103 4 4, ol 104 12 17, ol 105 18 12, o 106 (c 31 [103, 104, 105]), om 102 106, o 107 (e 102 0), o 108 (e 102 1), om 29 107, om 30 108] [3, 4, 5, 6, 9, 10, 11, 12, 15, 16, 18, 21, 24, 25, 27, 29]
 (rs [ol 110 4 4, o 111 (.call (fc 32) [(.s 110), (j 1)]), om 109 111, o 112 (e 109 0), o 113 (e 109 1), o 31 (.alloc l1), p (t 12 31 112), om 32 113] [3, 4, 5, 6, 9, 10, 11, 12, 15, 16, 18, 21, 24, 25, 27, 29, 31]
 (rs [ol 115 4 4, o 116 (.build [y, y] [(1, 1, (.c (.dat (.int .u64 1))))]), o 117 (.call (fc 33) [(.s 115), (j 1), (.s 116)]), om 114 117, o 118 (e 114 0), o 119 (e 114 1), o 33 (.alloc l1), p (t 12 33 118), om 34 119] [3, 4, 5, 6, 9, 10, 11, 12, 15, 16, 18, 21, 24, 25, 27, 29, 31, 33]
 (rs [ol 120 12 18, o 121 (c 34 [10, 120])] [3, 4, 5, 6, 9, 10, 11, 12, 15, 16, 21, 24, 25, 27, 29, 31, 33]
 (rs [ol 122 12 21, o 123 (c 34 [10, 122])] [3, 4, 5, 6, 9, 10, 11, 12, 15, 16, 24, 25, 27, 29, 31, 33]
 (rs [ol 124 12 24, o 125 (c 34 [10, 124])] [3, 4, 5, 6, 9, 10, 11, 12, 15, 16, 25, 27, 29, 31, 33]
 (rs [ol 126 12 31, o 127 (c 34 [10, 126])] [3, 4, 5, 6, 9, 10, 11, 12, 15, 16, 25, 27, 29, 33]
 (rs [ol 128 12 33, o 129 (c 34 [10, 128])] [3, 4, 5, 6, 9, 10, 11, 12, 15, 16, 25, 27, 29]
 (rs [om 130 25, o 131 (c 35 [10, 130])] [3, 4, 5, 6, 9, 10, 11, 12, 15, 16, 27, 29]
 (rs [of 132 1 27, ol 133 18 132, o 134 (c 36 [10, 133])] [3, 4, 5, 6, 9, 10, 11, 12, 15, 16, 29]
 (.reg [om 135 29, o 136 (c 35 [10, 135])] none [3, 4, 5, 6, 9, 10, 11, 12, 15, 16]))))))))))))))))))
 (.reg [om 66 16, o 67 (baj 66 1), om 16 67] none [3, 4, 5, 6, 9, 10, 11, 12, 15, 16])))
def xf_law09_CoreOwn_k1 : List (Nat × Option (Nat × Nat × Bool)) := [(4, none), (35, none), (36, none), (37, none)]
def xf_law09_CoreOwn_b1 : XCode := (.seq (rs [om 161 37, of 162 4 35, o 163 (k 162), o 164 (le 163), o 165 (bl 161 164)] [4, 35, 36, 37, 165]
 (.cond (.s 165) .skip (.exit 2 [4, 35, 36])))
 (.seq (.block 3 (.reg [of 168 4 35, o 169 (k 168), om 170 37, o 171 (.build l7 [(0, 1, (j 4))]), o 172 (ia 5 169 170), of 173 2 172, p (t 3 173 171)] none [4, 35, 36, 37]))
 (.reg [om 166 37, o 167 (baj 166 1), om 37 167] none [4, 35, 36, 37])))
def xf_law09_CoreOwn_k2 : List (Nat × Option (Nat × Nat × Bool)) := [(4, none), (35, none), (36, none), (38, none)]
def xf_law09_CoreOwn_b2 : XCode := (.seq (rs [om 174 38, of 175 17 36, o 176 (k 175), o 177 (le 176), o 178 (bl 174 177)] [4, 35, 36, 38, 178]
 (.cond (.s 178) .skip (.exit 4 [4, 35, 36])))
 (.seq (.block 5 (.reg [of 181 17 36, o 182 (k 181), om 183 38, o 184 (ia 2 182 183), of 185 0 184, o 186 (k 185), o 187 (.bin .add (.s 186) (.c (.dat (.int .u64 1)))), o 188 (ia 2 182 183), of 189 0 188, p (t 1 189 187)] none [4, 35, 36, 38]))
 (.reg [om 179 38, o 180 (baj 179 1), om 38 180] none [4, 35, 36, 38])))
def xf_law09_CoreOwn : XFunc := ⟨none, false, 4, [.tmp 8], (rs [o 4 (bx 0), o 5 (bx 1), o 6 (bx 2), o 8 (.mv (.c w))] [3, 4, 5, 6]
 (.seq (rs [o 51 (c 16 []), o 52 (nt 51)] [3, 4, 5, 6, 52]
 (.cond (.s 52) (rs [o 8 (.mv (.c w))] [8]
 (.ret [8])) .skip))
 (rs [o 9 (.alloc l5)] [3, 4, 5, 6, 9]
 (rs [o 10 (.alloc [(.nil 136 1 false), (.nil 138 1 false), (.nil 27 1 false), (.nil 25 1 false), (.nil 235 1 false), (.nil 155 1 false), (.nil 240 1 false), (.nil 242 1 false), (.nil 28 1 false), (.nil 29 1 false)])] [3, 4, 5, 6, 9, 10]
 (rp (some [(1, 2), (0, 4), (1, 4), (2, 4), (3, 4), (0, 5), (1, 5), (2, 5), (3, 5)]) [ol 53 12 5, o 54 (c 10 [9, 53]), ol 55 18 6, o 56 (c 11 [9, 55]), o 11 (.alloc l1), o 12 (.alloc l4), p (t 12 11 54), p (t 18 12 56)] [3, 4, 5, 6, 9, 10, 11, 12]
 (rs [ol 58 4 4, o 59 (.call (fc 28) [(.s 58), (j 0)]), om 57 59, o 60 (e 57 0), o 61 (e 57 1), o 13 (.alloc l1), p (t 12 13 60), om 14 61] [3, 4, 5, 6, 9, 10, 11, 12, 13]
 (rs [ol 62 12 13, o 63 (c 10 [9, 62]), o 15 (.alloc l1), p (t 12 15 63)] [3, 4, 5, 6, 9, 10, 11, 12, 15]
 (.seq (rs [o 16 (.mv (j 0))] [3, 4, 5, 6, 9, 10, 11, 12, 15, 16]
 (.block 0 (.loop xf_law09_CoreOwn_k0 xf_law09_CoreOwn_b0)))
 (.seq (rs [o 137 (c 37 [10]), o 138 (nt 137), om 139 138, ⟨(some 140), c 15 [9], some (139, false)⟩, ⟨(some 141), nt 140, some (139, false)⟩, o 142 (ko 139 141)] [4, 5, 6, 142]
 (.cond (.s 142) (rs [o 8 (.mv (.c w))] [8]
 (.ret [8])) .skip))
 (rs [ol 143 12 5, o 144 (c 21 [143]), o 35 (.alloc l1), p (t 12 35 144)] [4, 6, 35]
 (rs [ol 145 18 6, o 146 (c 38 [145]), o 36 (.alloc l4), p (t 18 36 146)] [4, 35, 36]
 (rs [ol 147 4 4, ol 148 12 35, ol 149 18 36, o 150 (c 9 [147, 148, 149])] [4, 35, 36]
 (rs [ol 151 4 4, ol 152 12 35, of 153 4 35, o 154 (k 153), o 155 (le 154), o 156 (c 29 [151, 152, 155])] [4, 35, 36]
 (rs [ol 157 4 4, ol 158 12 35, ol 159 18 36, o 160 (c 31 [157, 158, 159])] [4, 35, 36]
 (.seq (rs [o 37 (.mv (j 0))] [4, 35, 36, 37]
 (.block 2 (.loop xf_law09_CoreOwn_k1 xf_law09_CoreOwn_b1)))
 (.seq (rs [o 38 (.mv (j 0))] [4, 35, 36, 38]
 (.block 4 (.loop xf_law09_CoreOwn_k2 xf_law09_CoreOwn_b2)))
 (rs [ol 191 4 4, ol 192 12 35, ol 193 18 36, o 194 (c 9 [191, 192, 193]), om 190 194, o 195 (e 190 0), o 196 (e 190 1), o 197 (e 190 2), o 39 (.alloc l1), p (t 12 39 195), om 40 196, om 41 197] [4, 35, 36, 39, 40, 41]
 (rs [ol 199 4 4, ol 200 12 35, ol 201 18 36, o 202 (c 12 [199, 200, 201]), om 198 202, o 203 (e 198 0), o 204 (e 198 1), o 205 (e 198 2), o 42 (.alloc l1), p (t 12 42 203), om 43 204, om 44 205] [4, 35, 39, 40, 41, 42, 43, 44]
 (rs [ol 207 4 4, ol 208 12 35, of 209 4 35, o 210 (k 209), o 211 (le 210), o 212 (c 29 [207, 208, 211]), om 206 212, o 213 (e 206 0), o 214 (e 206 1), o 215 (e 206 2), o 45 (.alloc l1), p (t 12 45 213), om 46 214, om 47 215] [4, 35, 39, 40, 41, 42, 43, 44, 45, 46, 47]
 (rs [ol 217 4 4, ol 218 12 35, of 219 4 35, o 220 (k 219), o 221 (le 220), o 222 (c 39 [217, 218, 221]), om 216 222, o 223 (e 216 0), o 224 (e 216 1), o 225 (e 216 2), o 48 (.alloc l1), p (t 12 48 223), om 49 224, om 50 225] [39, 40, 41, 42, 43, 44, 45, 46, 47, 48, 49, 50]
 (ss [am 226 41, a 227 (c 13 [226]), am 228 44, a 229 (q 227 228), am 230 229, bb 231 40 230, bb 232 43 230, b 233 (.eqv false false [.b] (.s 231) (.s 232)) 230, a 234 (ka 230 233), am 235 234, b 236 (l 12 39) 235, b 237 (l 12 42) 235, (g 238 (c 14 [236, 237]) 235, false), a 239 (ka 235 238), am 240 239, bb 241 47 240, (g 242 (c 13 [241]) 240, false), bb 243 50 240, (g 244 (q 242 243) 240, false), a 245 (ka 240 244), am 246 245, b 247 (l 12 45) 246, b 248 (l 12 48) 246, (g 249 (c 14 [247, 248]) 246, false), a 250 (ka 246 249), am 251 250, bb 252 46 251, bb 253 49 251, (g 254 (c 40 [252, 253]) 251, false), a 255 (ka 251 254), am 8 255] [8]
 (.ret [8]))))))))))))))))))))))⟩

def xf_core_Admit : XFunc := ⟨none, true, 3, [.cell 6 (some 12), .tmp 7, .tmp 8], (rs [o 3 (bx 0), o 4 (bx 1), o 5 (bx 2), o 6 (.alloc l1), o 7 (.mv (.c w)), o 8 (.mv (j 0))] [3, 4, 5, 6]
 (rs [ol 11 4 3, ol 12 12 4, o 13 (c 22 [11, 12]), om 9 13] [3, 4, 5, 6, 9]
 (.seq (rs [om 14 9, o 15 (qj 14 0)] [3, 4, 5, 6, 9, 15]
 (.cond (.s 15) (.reg [ol 16 4 3, ol 17 18 5, o 18 (c 41 [16, 17]), om 9 18] none [3, 4, 5, 6, 9]) .skip))
 (.seq (rs [om 19 9, o 20 (nj 19 0)] [3, 4, 5, 6, 9, 20]
 (.cond (.s 20) (rs [o 21 (.build l1 []), om 22 9, p (t 12 6 21), o 7 (.mv (.c w)), om 8 22] [6, 7, 8]
 (.ret [6, 7, 8])) .skip))
 (rs [ol 23 12 4, o 24 (c 42 [23]), o 10 (.alloc l1), p (t 12 10 24)] [3, 4, 5, 6, 10]
 (.seq (rs [of 25 0 5, o 26 (k 25), o 27 (c 26 [26]), o 28 (nt 27)] [3, 4, 5, 6, 10, 28]
 (.cond (.s 28) (rs [ol 29 12 10, p (t 12 6 29), o 7 (.mv (.c v)), o 8 (.mv (j 0))] [6, 7, 8]
 (.ret [6, 7, 8])) .skip))
 (.seq (rs [of 30 1 5, o 31 (k 30), of 32 0 4, o 33 (k 32), o 34 (q 31 33)] [3, 4, 5, 6, 10, 34]
 (.cond (.s 34) (rs [ol 35 12 10, p (t 12 6 35), o 7 (.mv (.c w)), o 8 (.mv (j 0))] [6, 7, 8]
 (.ret [6, 7, 8])) .skip))
 (.seq (rs [of 36 3 3, o 37 (k 36)] [4, 5, 6, 10, 37]
 (.cond (.s 37) (rs [ol 38 12 10, p (t 12 6 38), o 7 (.mv (.c v)), o 8 (.mv (j 0))] [6, 7, 8]
 (.ret [6, 7, 8])) .skip))
 (.seq (sp (some []) [a 39 (f 6 4), a 40 (k 39), a 41 (f 1 5), a 42 (k 41), a 43 (f 17 5), a 44 (k 43), a 45 (.build [z, (.nil 43 2 true)] [(0, 1, (.s 42)), (1, 1, (.s 44))]), a 46 (c 25 [40, 45]), am 47 46, d 48 (f 17 5) 47, d 49 (k 48) 47, d 50 (f 0 4) 47, d 51 (k 50) 47, (⟨(some 52), ia 2 49 51, some (47, false)⟩, false), (⟨(some 53), l 2 52, some (47, false)⟩, false), d 54 (f 6 4) 47, d 55 (k 54) 47, d 56 (f 0 4) 47, d 57 (k 56) 47, (⟨(some 58), ia 2 55 57, some (47, false)⟩, false), (⟨(some 59), l 2 58, some (47, false)⟩, false), (⟨(some 60), c 43 [53, 59], some (47, false)⟩, false), (⟨(some 61), bgj 60 0, some (47, false)⟩, false), a 62 (ko 47 61)] [4, 5, 6, 10, 62]
 (.cond (.s 62) (rs [ol 63 12 10, p (t 12 6 63), o 7 (.mv (.c w)), o 8 (.mv (j 0))] [6, 7, 8]
 (.ret [6, 7, 8])) .skip))
 (rs [of 65 6 4, o 66 (k 65), of 67 17 5, o 68 (k 67), o 69 (.bsl 27 1 false 2 [(.nil 43 2 true), (.nil 43 2 true)] [(0, 1, (.s 66)), (1, 1, (.s 68))]), o 70 (c 44 [69]), om 64 70, o 71 (e 64 0), o 72 (e 64 1), of 73 6 10, p (t 1 73 71)] [6, 10]
 (rs [of 74 8 10, o 75 (k 74), of 76 6 10, o 77 (k 76), o 78 (c 45 [75, 77]), of 79 8 10, p (t 1 79 78)] [6, 10]
 (rs [of 80 9 10, o 81 (k 80), of 82 6 10, o 83 (k 82), o 84 (c 46 [81, 83]), of 85 9 10, p (t 1 85 84)] [6, 10]
 (rs [of 86 10 10, o 87 (k 86), of 88 6 10, o 89 (k 88), o 90 (c 47 [87, 89]), of 91 10 10, p (t 1 91 90)] [6, 10]
 (rs [of 92 11 10, o 93 (k 92), of 94 6 10, o 95 (k 94), o 96 (c 48 [93, 95]), of 97 11 10, p (t 1 97 96)] [6, 10]
 (rs [ol 98 12 10, p (t 12 6 98), o 7 (.mv (.c v)), o 8 (.mv (j 0))] [6, 7, 8]
 (.ret [6, 7, 8]))))))))))))))))⟩

def xf_plain_Given_State_k0 : List (Nat × Option (Nat × Nat × Bool)) := [(0, none), (3, none), (4, none), (5, none)]
def xf_plain_Given_State_b0 : XCode := (.seq (rs [om 19 5, of 20 10 3, o 21 (k 20), o 22 (le 21), o 23 (bl 19 22)] [0, 3, 4, 5, 23]
 (.cond (.s 23) .skip (.exit 0 [0, 3, 4])))
 (.seq (.block 1 (.reg [of 26 10 3, o 27 (k 26), om 28 5, om 29 0, of 30 10 3, o 31 (k 30), om 32 5, o 33 (ia 6 31 32), of 34 5 33, o 35 (k 34), o 36 (c 49 [29, 35]), o 37 (ia 6 27 28), of 38 5 37, p (t 1 38 36)] (some [(1, 10)]) [0, 3, 4, 5]))
 (.reg [om 24 5, o 25 (baj 24 1), om 5 25] none [0, 3, 4, 5])))
def xf_plain_Given_State_k1 : List (Nat × Option (Nat × Nat × Bool)) := [(0, none), (3, none), (4, none), (6, none)]
def xf_plain_Given_State_b1 : XCode := (.seq (rs [om 39 6, of 40 11 3, o 41 (k 40), o 42 (le 41), o 43 (bl 39 42)] [0, 3, 4, 6, 43]
 (.cond (.s 43) .skip (.exit 2 [0, 3, 4])))
 (.seq (.block 3 (.reg [of 46 11 3, o 47 (k 46), om 48 6, om 49 0, of 50 11 3, o 51 (k 50), om 52 6, o 53 (ia 6 51 52), of 54 5 53, o 55 (k 54), o 56 (c 49 [49, 55]), o 57 (ia 6 47 48), of 58 5 57, p (t 1 58 56)] (some [(1, 10)]) [0, 3, 4, 6]))
 (.reg [om 44 6, o 45 (baj 44 1), om 6 45] none [0, 3, 4, 6])))
def xf_plain_Given_State : XFunc := ⟨none, false, 2, [.cell 4 (some 12)], (rs [o 3 (bx 1), o 4 (.alloc l1)] [0, 3, 4]
 (rs [ol 7 12 3, o 8 (c 21 [7]), p (t 12 3 8)] [0, 3, 4]
 (rs [om 9 0, of 10 4 3, o 11 (k 10), o 12 (c 49 [9, 11]), of 13 4 3, p (t 1 13 12)] [0, 3, 4]
 (rs [om 14 0, of 15 6 3, o 16 (k 15), o 17 (c 50 [14, 16]), of 18 6 3, p (t 1 18 17)] [0, 3, 4]
 (.seq (rs [o 5 (.mv (j 0))] [0, 3, 4, 5]
 (.block 0 (.loop xf_plain_Given_State_k0 xf_plain_Given_State_b0)))
 (.seq (rs [o 6 (.mv (j 0))] [0, 3, 4, 6]
 (.block 2 (.loop xf_plain_Given_State_k1 xf_plain_Given_State_b1)))
 (rp (some [(4, 6)]) [om 59 0, om 60 0, o 61 (nc 60), of 62 8 61, o 63 (k 62), ol 64 12 3, o 65 (.bsl 33 12 false 1 l1 [(0, 12, (.s 64))]), o 66 (.app 33 12 192 false (.s 63) (.s 65)), o 67 (nc 59), of 68 8 67, p (t 1 68 66)] [0, 3, 4]
 (rp (some [(4, 6), (4, 7)]) [om 69 0, om 70 0, o 71 (nc 70), of 72 9 71, o 73 (k 72), ol 74 12 3, o 75 (c 21 [74]), o 76 (.bsl 33 12 false 1 l1 [(0, 12, (.s 75))]), o 77 (.app 33 12 192 false (.s 73) (.s 76)), o 78 (nc 69), of 79 9 78, p (t 1 79 77)] [3, 4]
 (rs [ol 80 12 3, p (t 12 4 80)] [4]
 (.ret [4]))))))))))⟩

def xf_plain_Given_Msg : XFunc := ⟨none, false, 2, [.cell 4 (some 18)], (rs [o 3 (bx 1), o 4 (.alloc l4)] [0, 3, 4]
 (rs [om 5 0, of 6 16 3, o 7 (k 6), o 8 (c 49 [5, 7]), of 9 16 3, p (t 1 9 8)] [0, 3, 4]
 (rs [om 10 0, of 11 17 3, o 12 (k 11), o 13 (c 50 [10, 12]), of 14 17 3, p (t 1 14 13)] [3, 4]
 (rs [ol 15 18 3, p (t 18 4 15)] [4]
 (.ret [4])))))⟩

def xf_ref09_Admit_k0 : List (Nat × Option (Nat × Nat × Bool)) := [(5, none), (6, none), (10, none), (11, none)]
def xf_ref09_Admit_b0 : XCode := (.seq (rs [om 73 11, of 74 17 5, o 75 (k 74), o 76 (le 75), o 77 (bl 73 76)] [5, 6, 10, 11, 77]
 (.cond (.s 77) .skip (.exit 1 [6, 10])))
 (.seq (.block 2 (rp (some []) [of 80 6 10, o 81 (k 80), om 82 11, o 83 (ia 2 81 82), ol 84 2 83, of 85 17 5, o 86 (k 85), om 87 11, o 88 (ia 2 86 87), ol 89 2 88, o 90 (c 52 [84, 89])] [5, 6, 10, 11, 90]
 (.cond (.s 90) (.reg [of 91 6 10, o 92 (k 91), om 93 11, of 94 17 5, o 95 (k 94), om 96 11, o 97 (ia 2 95 96), ol 98 2 97, o 99 (ia 2 92 93), p (t 2 99 98)] (some []) [5, 6, 10, 11]) .skip)))
 (.reg [om 78 11, o 79 (baj 78 1), om 11 79] none [5, 6, 10, 11])))
def xf_ref09_Admit : XFunc := ⟨none, true, 3, [.cell 6 (some 12), .tmp 7, .tmp 8], (rs [o 3 (bx 0), o 4 (bx 1), o 5 (bx 2), o 6 (.alloc l1), o 7 (.mv (.c w)), o 8 (.mv (j 0))] [3, 4, 5, 6]
 (rs [ol 12 4 3, ol 13 12 4, o 14 (c 17 [12, 13]), om 9 14] [3, 4, 5, 6, 9]
 (.seq (rs [om 15 9, o 16 (qj 15 0)] [3, 4, 5, 6, 9, 16]
 (.cond (.s 16) (.reg [ol 17 4 3, ol 18 18 5, o 19 (c 18 [17, 18]), om 9 19] none [3, 4, 5, 6, 9]) .skip))
 (.seq (rs [om 20 9, o 21 (nj 20 0)] [3, 4, 5, 6, 9, 21]
 (.cond (.s 21) (rs [o 22 (.build l1 []), om 23 9, p (t 12 6 22), o 7 (.mv (.c w)), om 8 23] [6, 7, 8]
 (.ret [6, 7, 8])) .skip))
 (rs [ol 24 12 4, o 25 (c 21 [24]), o 10 (.alloc l1), p (t 12 10 25)] [3, 4, 5, 6, 10]
 (.seq (.block 0 (rs [of 27 0 5, o 28 (k 27), o 29 (c 51 [28]), o 30 (nt 29), om 26 30] [3, 4, 5, 6, 10, 26]
 (.cond (.s 26) (rs [ol 31 12 10, p (t 12 6 31), o 7 (.mv (.c v)), o 8 (.mv (j 0))] [6, 7, 8]
 (.ret [6, 7, 8])) (rs [of 33 1 5, o 34 (k 33), of 35 0 4, o 36 (k 35), o 37 (q 34 36), om 32 37] [3, 4, 5, 6, 10, 32]
 (.cond (.s 32) (rs [ol 38 12 10, p (t 12 6 38), o 7 (.mv (.c w)), o 8 (.mv (j 0))] [6, 7, 8]
 (.ret [6, 7, 8])) (rs [of 40 3 3, o 41 (k 40), om 39 41] [4, 5, 6, 10, 39]
 (.cond (.s 39) (rs [ol 42 12 10, p (t 12 6 42), o 7 (.mv (.c v)), o 8 (.mv (j 0))] [6, 7, 8]
 (.ret [6, 7, 8])) (sp (some []) [a 44 (f 17 5), a 45 (k 44), a 46 (f 1 5), a 47 (k 46), a 48 (ia 2 45 47), a 49 (l 2 48), a 50 (f 6 4), a 51 (k 50), a 52 (f 1 5), a 53 (k 52), a 54 (ia 2 51 53), a 55 (l 2 54), a 56 (c 52 [49, 55]), am 57 56, d 58 (f 6 4) 57, d 59 (k 58) 57, d 60 (f 0 4) 57, d 61 (k 60) 57, (⟨(some 62), ia 2 59 61, some (57, false)⟩, false), (⟨(some 63), l 2 62, some (57, false)⟩, false), d 64 (f 17 5) 57, d 65 (k 64) 57, d 66 (f 0 4) 57, d 67 (k 66) 57, (⟨(some 68), ia 2 65 67, some (57, false)⟩, false), (⟨(some 69), l 2 68, some (57, false)⟩, false), (⟨(some 70), c 52 [63, 69], some (57, false)⟩, false), a 71 (ko 57 70), am 43 71] [5, 6, 10, 43]
 (.cond (.s 43) (rs [ol 72 12 10, p (t 12 6 72), o 7 (.mv (.c w)), o 8 (.mv (j 0))] [6, 7, 8]
 (.ret [6, 7, 8])) .skip)))))))))
 (.seq (rs [o 11 (.mv (j 0))] [5, 6, 10, 11]
 (.block 1 (.loop xf_ref09_Admit_k0 xf_ref09_Admit_b0)))
 (rs [ol 100 12 10, o 101 (c 53 [100]), p (t 12 6 101), o 7 (.mv (.c v)), o 8 (.mv (j 0))] [6, 7, 8]
 (.ret [6, 7, 8])))))))))⟩

def xf_law09_num : XFunc := ⟨none, false, 1, [.tmp 2], (rs [o 2 (.mv (j 0))] [0]
 (rs [om 3 0, om 2 3] [2]
 (.ret [2])))⟩

def xf_plain_SameState : XFunc := ⟨none, true, 2, [.tmp 4], (rs [o 2 (bx 0), o 3 (bx 1), o 4 (.mv (.c w))] [2, 3]
 (ss [a 5 (f 0 2), a 6 (k 5), a 7 (f 0 3), a 8 (k 7), a 9 (q 6 8), am 10 9, b 11 (f 1 2) 10, b 12 (k 11) 10, b 13 (f 1 3) 10, b 14 (k 13) 10, b 15 (q 12 14) 10, a 16 (ka 10 15), am 17 16, b 18 (f 2 2) 17, b 19 (k 18) 17, b 20 (f 2 3) 17, b 21 (k 20) 17, b 22 (q 19 21) 17, a 23 (ka 17 22), am 24 23, b 25 (f 3 2) 24, b 26 (k 25) 24, b 27 (f 3 3) 24, b 28 (k 27) 24, b 29 (q 26 28) 24, a 30 (ka 24 29), am 31 30, b 32 (f 5 2) 31, b 33 (k 32) 31, b 34 (f 5 3) 31, b 35 (k 34) 31, b 36 (q 33 35) 31, a 37 (ka 31 36), am 38 37, b 39 (f 7 2) 38, b 40 (k 39) 38, b 41 (f 7 3) 38, b 42 (k 41) 38, b 43 (q 40 42) 38, a 44 (ka 38 43), am 45 44, b 46 (f 4 2) 45, b 47 (k 46) 45, b 48 (f 4 3) 45, b 49 (k 48) 45, (g 50 (c 24 [47, 49]) 45, false), a 51 (ka 45 50), am 52 51, b 53 (f 6 2) 52, b 54 (k 53) 52, b 55 (f 6 3) 52, b 56 (k 55) 52, (g 57 (c 54 [54, 56]) 52, false), a 58 (ka 52 57), am 59 58, b 60 (f 8 2) 59, b 61 (k 60) 59, b 62 (f 8 3) 59, b 63 (k 62) 59, (g 64 (c 55 [61, 63]) 59, false), a 65 (ka 59 64), am 66 65, b 67 (f 9 2) 66, b 68 (k 67) 66, b 69 (f 9 3) 66, b 70 (k 69) 66, (g 71 (c 56 [68, 70]) 66, false), a 72 (ka 66 71), am 73 72, b 74 (f 10 2) 73, b 75 (k 74) 73, b 76 (f 10 3) 73, b 77 (k 76) 73, (g 78 (c 57 [75, 77]) 73, false), a 79 (ka 73 78), am 80 79, b 81 (f 11 2) 80, b 82 (k 81) 80, b 83 (f 11 3) 80, b 84 (k 83) 80, (g 85 (c 58 [82, 84]) 80, false), a 86 (ka 80 85), am 4 86] [4]
 (.ret [4])))⟩

def xf_plain_Given_Intact_k0 : List (Nat × Option (Nat × Nat × Bool)) := [(0, none), (3, none)]
def xf_plain_Given_Intact_b0 : XCode := (.seq (rs [om 8 3, om 9 0, o 10 (nc 9), of 11 0 10, o 12 (k 11), o 13 (le 12), o 14 (bl 8 13)] [0, 3, 14]
 (.cond (.s 14) .skip (.exit 0 [0])))
 (.seq (.block 1 (rp (some []) [om 17 0, o 18 (nc 17), of 19 0 18, o 20 (k 19), om 21 3, o 22 (ia 1 20 21), o 23 (k 22), om 24 0, o 25 (nc 24), of 26 1 25, o 27 (k 26), om 28 3, o 29 (ia 1 27 28), o 30 (k 29), o 31 (c 59 [23, 30]), o 32 (nt 31)] [0, 3, 32]
 (.cond (.s 32) (rs [o 2 (.mv (.c w))] [2]
 (.ret [2])) .skip)))
 (.reg [om 15 3, o 16 (baj 15 1), om 3 16] none [0, 3])))
def xf_plain_Given_Intact_k1 : List (Nat × Option (Nat × Nat × Bool)) := [(0, none), (4, none)]
def xf_plain_Given_Intact_b1 : XCode := (.seq (rs [om 33 4, om 34 0, o 35 (nc 34), of 36 8 35, o 37 (k 36), o 38 (le 37), o 39 (bl 33 38)] [0, 4, 39]
 (.cond (.s 39) .skip (.exit 2 [0])))
 (.seq (.block 3 (rp (some []) [om 42 0, o 43 (nc 42), of 44 8 43, o 45 (k 44), om 46 4, o 47 (ia 12 45 46), ol 48 12 47, om 49 0, o 50 (nc 49), of 51 9 50, o 52 (k 51), om 53 4, o 54 (ia 12 52 53), ol 55 12 54, o 56 (c 14 [48, 55]), o 57 (nt 56)] [0, 4, 57]
 (.cond (.s 57) (rs [o 2 (.mv (.c w))] [2]
 (.ret [2])) .skip)))
 (.reg [om 40 4, o 41 (baj 40 1), om 4 41] none [0, 4])))
def xf_plain_Given_Intact_k2 : List (Nat × Option (Nat × Nat × Bool)) := [(0, none), (5, none)]
def xf_plain_Given_Intact_b2 : XCode := (.seq (rs [om 58 5, om 59 0, o 60 (nc 59), of 61 6 60, o 62 (k 61), o 63 (le 62), o 64 (bl 58 63)] [0, 5, 64]
 (.cond (.s 64) .skip (.exit 4 [0])))
 (.seq (.block 5 (rp (some []) [om 67 0, o 68 (nc 67), of 69 6 68, o 70 (k 69), om 71 5, o 72 (ia 1 70 71), o 73 (k 72), om 74 0, o 75 (nc 74), of 76 7 75, o 77 (k 76), om 78 5, o 79 (ia 1 77 78), o 80 (k 79), o 81 (c 60 [73, 80]), o 82 (nt 81)] [0, 5, 82]
 (.cond (.s 82) (rs [o 2 (.mv (.c w))] [2]
 (.ret [2])) .skip)))
 (.reg [om 65 5, o 66 (baj 65 1), om 5 66] none [0, 5])))
def xf_plain_Given_Intact_k3 : List (Nat × Option (Nat × Nat × Bool)) := [(0, none), (6, none)]
def xf_plain_Given_Intact_b3 : XCode := (.seq (rs [om 83 6, om 84 0, o 85 (nc 84), of 86 2 85, o 87 (k 86), o 88 (le 87), o 89 (bl 83 88)] [0, 6, 89]
 (.cond (.s 89) .skip (.exit 6 [0])))
 (.seq (.block 7 (rp (some []) [om 92 0, o 93 (nc 92), of 94 2 93, o 95 (k 94), om 96 6, o 97 (ia 1 95 96), o 98 (k 97), om 99 0, o 100 (nc 99), of 101 3 100, o 102 (k 101), om 103 6, o 104 (ia 1 102 103), o 105 (k 104), o 106 (c 54 [98, 105]), o 107 (nt 106)] [0, 6, 107]
 (.cond (.s 107) (rs [o 2 (.mv (.c w))] [2]
 (.ret [2])) .skip)))
 (.reg [om 90 6, o 91 (baj 90 1), om 6 91] none [0, 6])))
def xf_plain_Given_Intact_k4 : List (Nat × Option (Nat × Nat × Bool)) := [(0, none), (7, none)]
def xf_plain_Given_Intact_b4 : XCode := (.seq (rs [om 108 7, om 109 0, o 110 (nc 109), of 111 4 110, o 112 (k 111), o 113 (le 112), o 114 (bl 108 113)] [0, 7, 114]
 (.cond (.s 114) .skip (.exit 8 [])))
 (.seq (.block 9 (rp (some []) [om 117 0, o 118 (nc 117), of 119 4 118, o 120 (k 119), om 121 7, o 122 (ia 1 120 121), o 123 (k 122), om 124 0, o 125 (nc 124), of 126 5 125, o 127 (k 126), om 128 7, o 129 (ia 1 127 128), o 130 (k 129), o 131 (c 24 [123, 130]), o 132 (nt 131)] [0, 7, 132]
 (.cond (.s 132) (rs [o 2 (.mv (.c w))] [2]
 (.ret [2])) .skip)))
 (.reg [om 115 7, o 116 (baj 115 1), om 7 116] none [0, 7])))
def xf_plain_Given_Intact : XFunc := ⟨none, false, 1, [.tmp 2], (rs [o 2 (.mv (.c w))] [0]
 (.seq (rs [o 3 (.mv (j 0))] [0, 3]
 (.block 0 (.loop xf_plain_Given_Intact_k0 xf_plain_Given_Intact_b0)))
 (.seq (rs [o 4 (.mv (j 0))] [0, 4]
 (.block 2 (.loop xf_plain_Given_Intact_k1 xf_plain_Given_Intact_b1)))
 (.seq (rs [o 5 (.mv (j 0))] [0, 5]
 (.block 4 (.loop xf_plain_Given_Intact_k2 xf_plain_Given_Intact_b2)))
 (.seq (rs [o 6 (.mv (j 0))] [0, 6]
 (.block 6 (.loop xf_plain_Given_Intact_k3 xf_plain_Given_Intact_b3)))
 (.seq (rs [o 7 (.mv (j 0))] [0, 7]
 (.block 8 (.loop xf_plain_Given_Intact_k4 xf_plain_Given_Intact_b4)))
 (rs [o 2 (.mv (.c v))] [2]
 (.ret [2]))))))))⟩

def xf_law09_alive : XFunc := ⟨none, false, 0, [.tmp 0], (rs [o 0 (.mv (.c w))] []
 (rs [o 13 (c 61 []), o 14 (.call (fc 32) [(.s 13), (j 1)]), om 12 14, o 15 (e 12 0), o 16 (e 12 1), o 1 (.alloc l1), p (t 12 1 15), om 2 16] [1, 2]
 (rp (some [(0, 1), (1, 2), (0, 8), (1, 8), (2, 8), (3, 8)]) [o 18 (c 61 []), ol 19 12 1, o 20 (.call (fc 62) [(.c (.dat (.int .u64 4))), (.c y)]), o 21 (c 9 [18, 19, 20]), om 17 21, o 22 (e 17 0), o 23 (e 17 1), o 24 (e 17 2), o 3 (.alloc l1), p (t 12 3 22), om 4 23, om 5 24] [2, 3, 4, 5]
 (rp (some [(0, 1), (1, 2), (0, 8), (1, 8), (2, 8), (3, 8)]) [o 26 (c 61 []), ol 27 12 3, o 28 (.call (fc 62) [(.c y), (.c y)]), o 29 (c 9 [26, 27, 28]), om 25 29, o 30 (e 25 0), o 31 (e 25 1), o 32 (e 25 2), o 6 (.alloc l1), p (t 12 6 30), om 7 31, om 8 32] [2, 3, 4, 5, 7, 8]
 (rp (some [(0, 1), (1, 2), (0, 8), (1, 8), (2, 8), (3, 8)]) [o 34 (c 61 []), ol 35 12 3, o 36 (.call (fc 62) [(.c (.dat (.int .u64 4))), (.c (.dat (.int .u64 3)))]), o 37 (c 9 [34, 35, 36]), om 33 37, o 38 (e 33 0), o 39 (e 33 1), o 40 (e 33 2), o 9 (.alloc l1), p (t 12 9 38), om 10 39, om 11 40] [2, 3, 4, 5, 7, 8, 10, 11]
 (ss [am 41 2, a 42 (c 13 [41]), am 43 5, a 44 (c 13 [43]), a 45 (ba 42 44), am 46 8, a 47 (c 13 [46]), a 48 (ba 45 47), am 49 11, a 50 (c 13 [49]), a 51 (ba 48 50), a 52 (qj 51 0), am 53 52, bb 54 4 53, a 55 (ka 53 54), am 56 55, bb 57 7 56, b 58 (nt 57) 56, a 59 (ka 56 58), am 60 59, bb 61 10 60, b 62 (nt 61) 60, a 63 (ka 60 62), am 64 63, b 65 (f 0 3) 64, b 66 (k 65) 64, b 67 (qj 66 1) 64, a 68 (ka 64 67), am 69 68, b 70 (f 6 3) 69, b 71 (k 70) 69, b 72 (le 71) 69, b 73 (qj 72 3) 69, a 74 (ka 69 73), am 75 74, b 76 (f 6 3) 75, b 77 (k 76) 75, (g 78 (.iadr 2 (.s 77) (j 0)) 75, false), (g 79 (f 1 78) 75, false), (g 80 (k 79) 75, false), (g 81 (.eqv false false [.i] (.s 80) (.c (.dat (.int .u64 4)))) 75, false), a 82 (ka 75 81), am 0 82] [0]
 (.ret [0])))))))⟩

def xf_ref09_Check : XFunc := ⟨none, true, 2, [.tmp 4], (rs [o 2 (bx 0), o 3 (bx 1), o 4 (.mv (j 0))] [2, 3]
 (rs [ol 6 4 2, o 7 (c 63 [6]), om 5 7] [2, 3, 5]
 (.seq (ss [am 8 5, a 9 (qj 8 0), am 10 9, b 11 (l 4 2) 10, b 12 (l 12 3) 10, (g 13 (c 64 [11, 12]) 10, false), (g 14 (nt 13) 10, false), a 15 (ka 10 14)] [5, 15]
 (.cond (.s 15) (.reg [o 5 (.mv (j 2))] none [5]) .skip))
 (rs [om 16 5, om 4 16] [4]
 (.ret [4])))))⟩

def xf_ref07_Check : XFunc := ⟨none, true, 2, [.tmp 4], (rs [o 2 (bx 0), o 3 (bx 1), o 4 (.mv (j 0))] [2, 3]
 (.seq (rs [ol 7 4 2, o 8 (c 65 [7]), o 9 (nt 8)] [2, 3, 9]
 (.cond (.s 9) (rs [o 4 (.mv (j 1))] [4]
 (.ret [4])) .skip))
 (rs [of 10 0 3, o 11 (k 10), om 5 11] [2, 3, 5]
 (rs [om 12 5, o 13 (c 66 [12]), om 6 13] [2, 3, 5, 6]
 (.seq (rs [om 14 6, o 15 (le 14), o 16 (qj 15 0)] [2, 3, 5, 6, 16]
 (.cond (.s 16) (rs [o 4 (.mv (j 70))] [4]
 (.ret [4])) .skip))
 (.seq (ss [a 17 (l 18 3), am 18 6, a 19 (c 67 [17, 18]), a 20 (nt 19), am 21 20, d 22 (l 4 2) 21, d 23 (l 18 3) 21, d 24 (m 5) 21, d 25 (m 6) 21, (⟨(some 26), c 68 [22, 23, 24, 25], some (21, false)⟩, false), (⟨(some 27), nt 26, some (21, false)⟩, false), a 28 (ko 21 27)] [28]
 (.cond (.s 28) (rs [o 4 (.mv (j 71))] [4]
 (.ret [4])) .skip))
 (rs [o 4 (.mv (j 0))] [4]
 (.ret [4]))))))))⟩

def xf_core_Wait : XFunc := ⟨none, true, 2, [.cell 4 (some 12), .tmp 5, .tmp 6], (rs [o 2 (bx 0), o 3 (bx 1), o 4 (.alloc l1), o 5 (.mv (.c w)), o 6 (.mv (j 0))] [2, 3, 4]
 (.seq (rs [ol 9 4 2, ol 10 12 3, o 11 (c 22 [9, 10]), om 7 11] [2, 3, 4, 7]
 (rs [om 12 7, o 13 (nj 12 0)] [2, 3, 4, 7, 13]
 (.cond (.s 13) (rs [o 14 (.build l1 []), om 15 7, p (t 12 4 14), o 5 (.mv (.c w)), om 6 15] [4, 5, 6]
 (.ret [4, 5, 6])) .skip)))
 (rs [ol 16 12 3, o 17 (c 42 [16]), o 8 (.alloc l1), p (t 12 8 17)] [2, 3, 4, 8]
 (.seq (rs [of 18 1 3, o 19 (k 18), o 20 (qj 19 3), om 21 20, ⟨(some 22), f 1 3, some (21, false)⟩, ⟨(some 23), k 22, some (21, false)⟩, ⟨(some 24), qj 23 1, some (21, false)⟩, ⟨(some 25), m 24, some (21, false)⟩, g 26 (l 4 2) 25, g 27 (l 12 3) 25, g 28 (c 69 [26, 27]) 25, ⟨(some 29), ka 25 28, some (21, false)⟩, o 30 (ko 21 29)] [2, 4, 8, 30]
 (.cond (.s 30) (rs [ol 31 12 8, p (t 12 4 31), o 5 (.mv (.c w)), o 6 (.mv (j 0))] [4, 5, 6]
 (.ret [4, 5, 6])) .skip))
 (rs [of 32 7 8, o 33 (k 32), o 34 (baj 33 1), of 35 7 8, p (t 1 35 34)] [2, 4, 8]
 (.seq (rs [of 36 7 8, o 37 (k 36), of 38 2 2, o 39 (k 38), o 40 (bl 37 39)] [4, 8, 40]
 (.cond (.s 40) (rs [ol 41 12 8, p (t 12 4 41), o 5 (.mv (.c w)), o 6 (.mv (j 0))] [4, 5, 6]
 (.ret [4, 5, 6])) .skip))
 (rs [of 42 7 8, p (.store 1 (.s 42) (j 0))] [4, 8]
 (rs [ol 43 12 8, p (t 12 4 43), o 5 (.mv (.c v)), o 6 (.mv (j 0))] [4, 5, 6]
 (.ret [4, 5, 6])))))))))⟩

def xf_core_Primary : XFunc := ⟨none, true, 2, [.tmp 4], (rs [o 2 (bx 0), o 4 (.mv (j 0))] [1, 2]
 (.seq (ss [a 5 (l 4 2), a 6 (c 70 [5]), a 7 (nj 6 0), am 8 7, d 9 (m 1) 8, d 10 (blj 9 0) 8, a 11 (ko 8 10), am 12 11, d 13 (m 1) 12, d 14 (bgj 13 4294967296) 12, a 15 (ko 12 14)] [1, 2, 15]
 (.cond (.s 15) (rs [o 4 (.mv (j (-1)))] [4]
 (.ret [4])) .skip))
 (rs [om 16 1, ol 17 4 2, o 18 (c 71 [17]), o 19 (.bin .rem (.s 16) (.s 18)), om 4 19] [4]
 (.ret [4]))))⟩

def xf_plain_CopyState_k0 : List (Nat × Option (Nat × Nat × Bool)) := [(1, none), (2, none), (3, some (71, 6, false)), (4, none)]
def xf_plain_CopyState_b0 : XCode := (.seq (rs [om 25 4, of 26 10 1, o 27 (k 26), o 28 (le 27), o 29 (bl 25 28)] [1, 2, 3, 4, 29]
 (.cond (.s 29) .skip (.exit 0 [1, 2, 3])))
 (.seq (.block 1 (rs [of 32 10 1, o 33 (k 32), om 34 4, o 35 (ia 6 33 34), ol 36 6 35, o 5 (.alloc l2), p (t 6 5 36)] [1, 2, 3, 4, 5]
 (rs [of 37 5 5, o 38 (k 37), o 39 (c 72 [38]), of 40 5 5, p (t 1 40 39)] [1, 2, 3, 4, 5]
 (.reg [om 41 3, ol 42 6 5, o 43 (.bsl 71 6 false 1 l2 [(0, 6, (.s 42))]), o 44 (.app 71 6 64 false (.s 41) (.s 43)), om 3 44] none [1, 2, 3, 4]))))
 (.reg [om 30 4, o 31 (baj 30 1), om 4 31] none [1, 2, 3, 4])))
def xf_plain_CopyState_k1 : List (Nat × Option (Nat × Nat × Bool)) := [(1, none), (2, none), (6, some (73, 6, false)), (7, none)]
def xf_plain_CopyState_b1 : XCode := (.seq (rs [om 47 7, of 48 11 1, o 49 (k 48), o 50 (le 49), o 51 (bl 47 50)] [1, 2, 6, 7, 51]
 (.cond (.s 51) .skip (.exit 2 [1, 2, 6])))
 (.seq (.block 3 (rs [of 54 11 1, o 55 (k 54), om 56 7, o 57 (ia 6 55 56), ol 58 6 57, o 8 (.alloc l2), p (t 6 8 58)] [1, 2, 6, 7, 8]
 (rs [of 59 5 8, o 60 (k 59), o 61 (c 72 [60]), of 62 5 8, p (t 1 62 61)] [1, 2, 6, 7, 8]
 (.reg [om 63 6, ol 64 6 8, o 65 (.bsl 73 6 false 1 l2 [(0, 6, (.s 64))]), o 66 (.app 73 6 64 false (.s 63) (.s 65)), om 6 66] none [1, 2, 6, 7]))))
 (.reg [om 52 7, o 53 (baj 52 1), om 7 53] none [1, 2, 6, 7])))
def xf_plain_CopyState : XFunc := ⟨none, false, 1, [.cell 2 (some 12)], (rs [o 1 (bx 0), o 2 (.alloc l1)] [1, 2]
 (rs [of 9 4 1, o 10 (k 9), o 11 (c 72 [10]), of 12 4 1, p (t 1 12 11)] [1, 2]
 (rs [of 13 6 1, o 14 (k 13), o 15 (c 73 [14]), of 16 6 1, p (t 1 16 15)] [1, 2]
 (rs [of 17 8 1, o 18 (k 17), o 19 (.app 67 4 32 true (.c (.nil 67 4 true)) (.s 18)), of 20 8 1, p (t 1 20 19)] [1, 2]
 (rs [of 21 9 1, o 22 (k 21), o 23 (.app 69 3 24 true (.c (.nil 69 3 true)) (.s 22)), of 24 9 1, p (t 1 24 23)] [1, 2]
 (rs [o 3 (.mv (.c (.nil 71 6 false)))] [1, 2, 3]
 (.seq (rs [o 4 (.mv (j 0))] [1, 2, 3, 4]
 (.block 0 (.loop xf_plain_CopyState_k0 xf_plain_CopyState_b0)))
 (rs [om 45 3, of 46 10 1, p (t 1 46 45)] [1, 2]
 (rs [o 6 (.mv (.c (.nil 73 6 false)))] [1, 2, 6]
 (.seq (rs [o 7 (.mv (j 0))] [1, 2, 6, 7]
 (.block 2 (.loop xf_plain_CopyState_k1 xf_plain_CopyState_b1)))
 (rs [om 67 6, of 68 11 1, p (t 1 68 67)] [1, 2]
 (rs [ol 69 12 1, p (t 12 2 69)] [2]
 (.ret [2])))))))))))))⟩

def xf_core_Check : XFunc := ⟨none, true, 2, [.tmp 4], (rs [o 2 (bx 0), o 3 (bx 1), o 4 (.mv (j 0))] [2, 3]
 (.seq (rs [ol 8 4 2, o 9 (c 70 [8]), om 5 9] [2, 3, 5]
 (rs [om 10 5, o 11 (nj 10 0)] [2, 3, 5, 11]
 (.cond (.s 11) (rs [om 12 5, om 4 12] [4]
 (.ret [4])) .skip)))
 (rs [ol 13 4 2, o 14 (c 71 [13]), om 6 14] [2, 3, 6]
 (.seq (ss [a 15 (f 0 3), a 16 (k 15), a 17 (blj 16 0), am 18 17, d 19 (f 0 3) 18, d 20 (k 19) 18, d 21 (m 6) 18, d 22 (bh 20 21) 18, a 23 (ko 18 22), am 24 23, d 25 (f 2 3) 24, d 26 (k 25) 24, d 27 (blj 26 0) 24, a 28 (ko 24 27), am 29 28, d 30 (f 2 3) 29, d 31 (k 30) 29, d 32 (bgj 31 4294967296) 29, a 33 (ko 29 32), am 34 33, d 35 (f 3 3) 34, d 36 (k 35) 34, d 37 (blj 36 0) 34, a 38 (ko 34 37), am 39 38, d 40 (f 3 3) 39, d 41 (k 40) 39, d 42 (f 2 3) 39, d 43 (k 42) 39, d 44 (bg 41 43) 39, a 45 (ko 39 44), am 46 45, d 47 (f 7 3) 46, d 48 (k 47) 46, d 49 (blj 48 0) 46, a 50 (ko 46 49), am 51 50, d 52 (f 7 3) 51, d 53 (k 52) 51, d 54 (f 2 2) 51, d 55 (k 54) 51, d 56 (bh 53 55) 51, a 57 (ko 51 56), am 58 57, d 59 (f 6 3) 58, d 60 (k 59) 58, d 61 (le 60) 58, d 62 (m 6) 58, d 63 (n 61 62) 58, a 64 (ko 58 63), am 65 64, d 66 (l 4 2) 65, d 67 (f 4 3) 65, d 68 (k 67) 65, d 69 (f 5 3) 65, d 70 (k 69) 65, (⟨(some 71), c 74 [66, 68, 70], some (65, false)⟩, false), (⟨(some 72), nt 71, some (65, false)⟩, false), a 73 (ko 65 72), am 74 73, d 75 (l 12 3) 74, (⟨(some 76), c 75 [75], some (74, false)⟩, false), (⟨(some 77), nt 76, some (74, false)⟩, false), a 78 (ko 74 77)] [2, 3, 78]
 (.cond (.s 78) (rs [o 4 (.mv (j 2))] [4]
 (.ret [4])) .skip))
 (rs [o 7 (.mv (.c w))] [2, 3, 7]
 (.seq (rs [of 79 1 3, o 80 (k 79)] [2, 3, 7, 80]
 (.block 0 (rs [o 82 (qj 80 1), om 81 82] [2, 3, 7, 80, 81]
 (.cond (.s 81) (.reg [ol 83 4 2, ol 84 12 3, o 85 (c 76 [83, 84]), om 7 85] none [7]) (rs [o 87 (qj 80 2), om 86 87] [2, 3, 7, 80, 86]
 (.cond (.s 86) (.reg [ol 88 4 2, ol 89 12 3, o 90 (c 77 [88, 89]), om 7 90] none [7]) (rs [o 92 (qj 80 3), om 91 92] [2, 3, 7, 91]
 (.cond (.s 91) (.reg [ol 93 4 2, ol 94 12 3, o 95 (c 78 [93, 94]), om 7 95] none [7]) .skip))))))))
 (.seq (rs [om 96 7, o 97 (nt 96)] [97]
 (.cond (.s 97) (rs [o 4 (.mv (j 2))] [4]
 (.ret [4])) .skip))
 (rs [o 4 (.mv (j 0))] [4]
 (.ret [4])))))))))⟩

def xf_vector_Compare_k0 : List (Nat × Option (Nat × Nat × Bool)) := [(0, none), (1, none), (5, none), (6, none), (14, none), (15, none)]
def xf_vector_Compare_b0 : XCode := (rs [o 16 (bl 15 14)] [0, 1, 5, 6, 14, 15, 16]
 (.seq (.cond (.s 16) .skip (.exit 0 [5, 6]))
 (.seq (.block 1 (rs [om 17 15, om 7 17] [0, 1, 5, 6, 7, 14, 15]
 (rp (some []) [om 18 0, om 19 7, o 20 (ia 2 18 19), ol 21 2 20, om 22 1, om 23 7, o 24 (ia 2 22 23), ol 25 2 24, o 26 (c 43 [21, 25])] [0, 1, 5, 6, 14, 15, 26]
 (.block 2 (rs [o 28 (qj 26 1), om 27 28] [0, 1, 5, 6, 14, 15, 26, 27]
 (.cond (.s 27) (.reg [o 5 (.mv (.c v))] none [0, 1, 5, 6, 14, 15]) (rs [o 30 (qj 26 (-1)), om 29 30] [0, 1, 5, 6, 14, 15, 29]
 (.cond (.s 29) (.reg [o 6 (.mv (.c v))] none [0, 1, 5, 6, 14, 15]) .skip))))))))
 (.reg [o 31 (baj 15 1), om 15 31] none [0, 1, 5, 6, 14, 15]))))
def xf_vector_Compare : XFunc := ⟨none, true, 2, [.tmp 4], (rs [o 4 (.mv (j 0))] [0, 1]
 (.seq (rs [om 8 0, o 9 (le 8), om 10 1, o 11 (le 10), o 12 (n 9 11)] [0, 1, 12]
 (.cond (.s 12) (rs [o 4 (.mv (j 0))] [4]
 (.ret [4])) .skip))
 (rs [o 5 (.mv (.c w)), o 6 (.mv (.c w))] [0, 1, 5, 6]
 (.seq (rs [om 13 0, o 14 (le 13), o 15 (.mv (j 0))] [0, 1, 5, 6, 14, 15]
 (.block 0 (.loop xf_vector_Compare_k0 xf_vector_Compare_b0)))
 (.seq (.block 3 (ss [am 33 5, am 34 33, bb 35 6 34, a 36 (ka 34 35), am 32 36] [5, 6, 32]
 (.cond (.s 32) (rs [o 4 (.mv (j 4))] [4]
 (.ret [4])) (rs [om 38 5, om 37 38] [6, 37]
 (.cond (.s 37) (rs [o 4 (.mv (j 3))] [4]
 (.ret [4])) (rs [om 40 6, om 39 40] [39]
 (.cond (.s 39) (rs [o 4 (.mv (j 2))] [4]
 (.ret [4])) .skip)))))))
 (rs [o 4 (.mv (j 1))] [4]
 (.ret [4])))))))⟩

def xf_plain_SameEntries_k0 : List (Nat × Option (Nat × Nat × Bool)) := [(0, none), (1, none), (5, none)]
def xf_plain_SameEntries_b0 : XCode := (.seq (rs [om 11 5, om 12 0, o 13 (le 12), o 14 (bl 11 13)] [0, 1, 5, 14]
 (.cond (.s 14) .skip (.exit 0 [])))
 (.seq (.block 1 (rp (some []) [om 17 0, om 18 5, o 19 (ia 5 17 18), ol 20 5 19, om 21 1, om 22 5, o 23 (ia 5 21 22), ol 24 5 23, o 25 (.eqv true true [.i, .i, .i, .i, .s] (.s 20) (.s 24))] [0, 1, 5, 25]
 (.cond (.s 25) (rs [o 4 (.mv (.c w))] [4]
 (.ret [4])) .skip)))
 (.reg [om 15 5, o 16 (baj 15 1), om 5 16] none [0, 1, 5])))
def xf_plain_SameEntries : XFunc := ⟨none, true, 2, [.tmp 4], (rs [o 4 (.mv (.c w))] [0, 1]
 (.seq (rs [om 6 0, o 7 (le 6), om 8 1, o 9 (le 8), o 10 (n 7 9)] [0, 1, 10]
 (.cond (.s 10) (rs [o 4 (.mv (.c w))] [4]
 (.ret [4])) .skip))
 (.seq (rs [o 5 (.mv (j 0))] [0, 1, 5]
 (.block 0 (.loop xf_plain_SameEntries_k0 xf_plain_SameEntries_b0)))
 (rs [o 4 (.mv (.c v))] [4]
 (.ret [4])))))⟩

def xf_vector_Over : XFunc := ⟨none, true, 2, [.tmp 4], (rs [o 3 (bx 1), o 4 (.mv (.c w))] [0, 3]
 (sp (some []) [a 5 (l 2 3), a 6 (c 79 [5]), am 7 6, bb 8 0 7, b 9 (le 8) 7, b 10 (f 1 3) 7, b 11 (k 10) 7, b 12 (le 11) 7, b 13 (q 9 12) 7, a 14 (ka 7 13), am 15 14, bb 16 0 15, b 17 (f 0 3) 15, b 18 (k 17) 15, (g 19 (ia 2 16 18) 15, false), (g 20 (l 2 19) 15, false), b 21 (f 1 3) 15, b 22 (k 21) 15, b 23 (f 0 3) 15, b 24 (k 23) 15, (g 25 (ia 2 22 24) 15, false), (g 26 (l 2 25) 15, false), (g 27 (c 43 [20, 26]) 15, false), (g 28 (bgj 27 0) 15, false), a 29 (ka 15 28), am 4 29] [4]
 (.ret [4])))⟩

def xf_message_Between : XFunc := ⟨none, true, 1, [.tmp 2], (rs [o 2 (.mv (.c w))] [0]
 (ss [am 3 0, a 4 (bhj 3 3), am 5 4, bb 6 0 5, b 7 (bmj 6 12) 5, a 8 (ka 5 7), am 2 8] [2]
 (.ret [2])))⟩

def xf_core_Alike : XFunc := ⟨none, true, 2, [.tmp 4], (rs [o 2 (bx 0), o 3 (bx 1), o 4 (.mv (.c w))] [2, 3]
 (.seq (ss [a 7 (f 0 2), a 8 (k 7), a 9 (f 0 3), a 10 (k 9), a 11 (n 8 10), am 12 11, d 13 (f 1 2) 12, d 14 (k 13) 12, d 15 (f 1 3) 12, d 16 (k 15) 12, d 17 (n 14 16) 12, a 18 (ko 12 17), am 19 18, d 20 (f 2 2) 19, d 21 (k 20) 19, d 22 (f 2 3) 19, d 23 (k 22) 19, d 24 (n 21 23) 19, a 25 (ko 19 24), am 26 25, d 27 (f 3 2) 26, d 28 (k 27) 26, d 29 (f 3 3) 26, d 30 (k 29) 26, d 31 (n 28 30) 26, a 32 (ko 26 31), am 33 32, d 34 (f 5 2) 33, d 35 (k 34) 33, d 36 (f 5 3) 33, d 37 (k 36) 33, d 38 (n 35 37) 33, a 39 (ko 33 38), am 40 39, d 41 (f 7 2) 40, d 42 (k 41) 40, d 43 (f 7 3) 40, d 44 (k 43) 40, d 45 (n 42 44) 40, a 46 (ko 40 45)] [2, 3, 46]
 (.cond (.s 46) (rs [o 4 (.mv (.c w))] [4]
 (.ret [4])) .skip))
 (rs [of 47 10 2, o 48 (k 47), of 49 10 3, o 50 (k 49), o 51 (.call (fc 80) [(.s 48), (.s 50), (.c (.fn (.func 81) [] []))]), om 5 51] [2, 3, 5]
 (rs [of 52 11 2, o 53 (k 52), of 54 11 3, o 55 (k 54), o 56 (.call (fc 83) [(.s 53), (.s 55), (.c (.fn (.func 84) [] []))]), om 6 56] [2, 3, 5, 6]
 (ss [am 57 5, am 58 57, bb 59 6 58, a 60 (ka 58 59), am 61 60, b 62 (f 4 2) 61, b 63 (k 62) 61, b 64 (f 4 3) 61, b 65 (k 64) 61, (g 66 (c 82 [63, 65]) 61, false), a 67 (ka 61 66), am 68 67, b 69 (f 6 2) 68, b 70 (k 69) 68, b 71 (f 6 3) 68, b 72 (k 71) 68, (g 73 (c 85 [70, 72]) 68, false), a 74 (ka 68 73), am 75 74, b 76 (f 8 2) 75, b 77 (k 76) 75, b 78 (f 8 3) 75, b 79 (k 78) 75, (g 80 (c 86 [77, 79]) 75, false), a 81 (ka 75 80), am 82 81, b 83 (f 9 2) 82, b 84 (k 83) 82, b 85 (f 9 3) 82, b 86 (k 85) 82, (g 87 (c 87 [84, 86]) 82, false), a 88 (ka 82 87), am 4 88] [4]
 (.ret [4]))))))⟩

def xf_ref09_First : XFunc := ⟨none, true, 2, [.cell 4 (some 12), .tmp 5], (rs [o 2 (bx 0), o 4 (.alloc l1), o 5 (.mv (j 0))] [1, 2, 4]
 (rs [ol 7 4 2, om 8 1, o 9 (c 88 [7, 8]), om 6 9] [1, 2, 4, 6]
 (.seq (rs [om 10 6, o 11 (nj 10 0)] [1, 2, 4, 6, 11]
 (.cond (.s 11) (rs [o 12 (.build l1 []), om 13 6, p (t 12 4 12), om 5 13] [4, 5]
 (.ret [4, 5])) .skip))
 (rs [om 14 1, ol 15 4 2, o 16 (c 89 [15]), o 17 (.mksl 43 2 16 true [y, y] (.s 16) (.s 16)), o 18 (.build l1 [(0, 1, (.s 14)), (1, 1, (j 1)), (6, 1, (.s 17))]), p (t 12 4 18), o 5 (.mv (j 0))] [4, 5]
 (.ret [4, 5])))))⟩

def xf_core_Carry_k0 : List (Nat × Option (Nat × Nat × Bool)) := [(4, none), (6, none), (10, none), (11, some (102, 19, false)), (63, some (159, 7, true)), (64, none), (65, none)]
def xf_core_Carry_b0 : XCode := (rs [o 66 (bl 65 64)] [4, 6, 10, 11, 63, 64, 65, 66]
 (.seq (.cond (.s 66) .skip (.exit 0 [6, 10, 11]))
 (.seq (.block 1 (rs [o 67 (ia 7 63 65), ol 68 7 67, o 15 (.alloc l9), p (t 7 15 68)] [4, 6, 10, 11, 15, 63, 64, 65]
 (rs [of 69 0 4, o 70 (k 69), of 71 2 4, o 72 (k 71), of 73 2 15, o 74 (k 73), of 75 0 15, o 76 (k 75), of 77 1 15, o 78 (k 77), o 79 (.build l11 [(0, 1, (.s 76)), (1, 1, (.s 78))]), of 80 4 15, ol 81 3 80, o 82 (.build l4 [(0, 1, (j 2)), (1, 1, (.s 70)), (2, 1, (.s 72)), (11, 1, (.s 74)), (3, 5, (.s 79)), (8, 3, (.s 81))]), o 16 (.alloc l4), p (t 18 16 82)] [4, 6, 10, 11, 15, 16, 63, 64, 65]
 (.reg [om 83 11, of 84 0 15, o 85 (k 84), o 86 (.bin .add (j 7) (.s 85)), ol 87 18 16, o 88 (.build l3 [(0, 1, (.s 86)), (1, 18, (.s 87))]), o 89 (.bsl 102 19 false 1 l3 [(0, 19, (.s 88))]), o 90 (.app 102 19 200 false (.s 83) (.s 89)), om 11 90] none [4, 6, 10, 11, 63, 64, 65]))))
 (.reg [o 91 (baj 65 1), om 65 91] none [4, 6, 10, 11, 63, 64, 65]))))
def xf_core_Carry : XFunc := ⟨none, true, 3, [.cell 6 (some 12), .tmp 7, .tmp 8], (rs [o 3 (bx 0), o 4 (bx 1), o 6 (.alloc l1), o 7 (.mv (.c (.nil 102 19 false))), o 8 (.mv (j 0))] [2, 3, 4, 6]
 (rs [ol 17 4 3, ol 18 12 4, o 19 (c 22 [17, 18]), om 9 19] [2, 3, 4, 6, 9]
 (.seq (ss [am 20 9, a 21 (qj 20 0), am 22 21, bb 23 2 22, b 24 (blj 23 0) 22, bb 25 24 22, d 26 (m 2) 25, d 27 (f 4 4) 25, d 28 (k 27) 25, d 29 (le 28) 25, d 30 (bg 26 29) 25, b 31 (ko 25 30) 22, a 32 (ka 22 31)] [2, 3, 4, 6, 9, 32]
 (.cond (.s 32) (.reg [o 9 (.mv (j 3))] none [2, 3, 4, 6, 9]) .skip))
 (.seq (rs [om 33 9, o 34 (nj 33 0)] [2, 3, 4, 6, 9, 34]
 (.cond (.s 34) (rs [o 35 (.build l1 []), om 36 9, p (t 12 6 35), o 7 (.mv (.c (.nil 102 19 false))), om 8 36] [6, 7, 8]
 (.ret [6, 7, 8])) .skip))
 (rs [ol 37 12 4, o 38 (c 42 [37]), o 10 (.alloc l1), p (t 12 10 38)] [2, 3, 4, 6, 10]
 (.seq (rs [om 39 2, of 40 5 4, o 41 (k 40), o 42 (bm 39 41)] [2, 3, 4, 6, 10, 42]
 (.cond (.s 42) (rs [ol 43 12 10, p (t 12 6 43), o 7 (.mv (.c (.nil 102 19 false))), o 8 (.mv (j 0))] [6, 7, 8]
 (.ret [6, 7, 8])) .skip))
 (rs [om 44 2, of 45 5 10, p (t 1 45 44)] [2, 3, 4, 6, 10]
 (rs [o 11 (.mv (.c (.nil 102 19 false)))] [2, 3, 4, 6, 10, 11]
 (.seq (ss [a 46 (f 1 4), a 47 (k 46), a 48 (qj 47 1), am 49 48, b 50 (l 4 3) 49, b 51 (l 12 4) 49, (g 52 (c 69 [50, 51]) 49, false), a 53 (ka 49 52)] [2, 4, 6, 10, 11, 53]
 (.cond (.s 53) (rs [of 55 4 4, o 56 (k 55), of 57 5 4, o 58 (k 57), om 59 2, o 60 (c 90 [56, 58, 59]), om 54 60, o 61 (e 54 0), o 62 (e 54 1), om 12 61, om 13 62] [4, 6, 10, 11, 12]
 (rs [om 63 12, o 64 (le 63), o 65 (.mv (j 0))] [4, 6, 10, 11, 63, 64, 65]
 (.block 0 (.loop xf_core_Carry_k0 xf_core_Carry_b0)))) .skip))
 (rs [ol 92 12 10, om 93 11, p (t 12 6 92), om 7 93, o 8 (.mv (j 0))] [6, 7, 8]
 (.ret [6, 7, 8])))))))))))⟩

def xf_core_One : XFunc := ⟨none, true, 4, [.cell 8 (some 19), .tmp 9], (rs [o 4 (bx 0), o 5 (bx 1), o 7 (bx 3), o 8 (.alloc l3), o 9 (.mv (j 0))] [2, 4, 5, 7, 8]
 (.seq (rs [ol 12 4 4, ol 13 12 5, o 14 (c 22 [12, 13]), om 10 14] [2, 4, 5, 7, 8, 10]
 (rs [om 15 10, o 16 (nj 15 0)] [2, 4, 5, 7, 8, 10, 16]
 (.cond (.s 16) (rs [o 17 (.build l3 []), om 18 10, p (t 19 8 17), om 9 18] [8, 9]
 (.ret [8, 9])) .skip)))
 (ss [am 19 2, a 20 (bhj 19 0), am 21 20, bb 22 2 21, b 23 (l 4 4) 21, (g 24 (c 71 [23]) 21, false), (g 25 (bl 22 24) 21, false), a 26 (ka 21 25), am 27 26, bb 28 2 27, b 29 (f 0 5) 27, b 30 (k 29) 27, b 31 (n 28 30) 27, a 32 (ka 27 31), am 11 32] [2, 5, 7, 8, 11]
 (.seq (ss [am 33 11, a 34 (nt 33), am 35 34, bb 36 2 35, b 37 (blj 36 7) 35, bb 38 37 35, d 39 (m 2) 38, d 40 (bhj 39 23) 38, b 41 (ko 38 40) 35, a 42 (ka 35 41)] [2, 5, 7, 8, 42]
 (.cond (.s 42) (rs [o 43 (.build l3 []), p (t 19 8 43), o 9 (.mv (j 3))] [8, 9]
 (.ret [8, 9])) .skip))
 (rs [ol 44 12 5, om 45 2, ol 46 18 7, o 47 (c 91 [44, 45, 46]), p (t 19 8 47), o 9 (.mv (j 0))] [8, 9]
 (.ret [8, 9]))))))⟩

def xf_core_All_k0 : List (Nat × Option (Nat × Nat × Bool)) := [(4, none), (5, none), (9, some (102, 19, false)), (18, none), (19, none)]
def xf_core_All_b0 : XCode := (rs [o 20 (bl 19 18)] [4, 5, 9, 18, 19, 20]
 (.seq (.cond (.s 20) .skip (.exit 0 [9]))
 (.seq (.block 1 (rs [om 21 19, om 10 21] [4, 5, 9, 10, 18, 19]
 (rs [om 22 10, of 23 0 4, o 24 (k 23), o 25 (n 22 24)] [4, 5, 9, 10, 18, 19, 25]
 (.cond (.s 25) (.reg [om 26 9, ol 27 12 4, om 28 10, ol 29 18 5, o 30 (c 91 [27, 28, 29]), o 31 (.bsl 102 19 false 1 l3 [(0, 19, (.s 30))]), o 32 (.app 102 19 200 false (.s 26) (.s 31)), om 9 32] none [4, 5, 9, 18, 19]) .skip))))
 (.reg [o 33 (baj 19 1), om 19 33] none [4, 5, 9, 18, 19]))))
def xf_core_All : XFunc := ⟨none, true, 3, [.tmp 6, .tmp 7], (rs [o 3 (bx 0), o 4 (bx 1), o 5 (bx 2), o 6 (.mv (.c (.nil 102 19 false))), o 7 (.mv (j 0))] [3, 4, 5]
 (.seq (rs [ol 11 4 3, ol 12 12 4, o 13 (c 22 [11, 12]), om 8 13] [3, 4, 5, 8]
 (rs [om 14 8, o 15 (nj 14 0)] [3, 4, 5, 8, 15]
 (.cond (.s 15) (rs [om 16 8, o 6 (.mv (.c (.nil 102 19 false))), om 7 16] [6, 7]
 (.ret [6, 7])) .skip)))
 (rs [o 9 (.mv (.c (.nil 102 19 false)))] [3, 4, 5, 9]
 (.seq (rs [ol 17 4 3, o 18 (c 71 [17]), o 19 (.mv (j 0))] [4, 5, 9, 18, 19]
 (.block 0 (.loop xf_core_All_k0 xf_core_All_b0)))
 (rs [om 34 9, om 6 34, o 7 (.mv (j 0))] [6, 7]
 (.ret [6, 7]))))))⟩

def xf_core_First : XFunc := ⟨none, true, 2, [.cell 4 (some 12), .tmp 5], (rs [o 2 (bx 0), o 4 (.alloc l1), o 5 (.mv (j 0))] [1, 2, 4]
 (.seq (rs [ol 9 4 2, om 10 1, o 11 (c 92 [9, 10]), om 6 11] [1, 2, 4, 6]
 (rs [om 12 6, o 13 (nj 12 0)] [1, 2, 4, 6, 13]
 (.cond (.s 13) (rs [o 14 (.build l1 []), om 15 6, p (t 12 4 14), om 5 15] [4, 5]
 (.ret [4, 5])) .skip)))
 (rs [ol 17 4 2, o 18 (c 71 [17]), o 19 (c 93 [18]), om 16 19, o 20 (e 16 0), o 21 (e 16 1), om 7 20, om 8 21] [1, 4, 7]
 (rs [om 22 1, om 23 7, o 24 (.build l1 [(0, 1, (.s 22)), (1, 1, (j 1)), (6, 1, (.s 23))]), p (t 12 4 24), o 5 (.mv (j 0))] [4, 5]
 (.ret [4, 5])))))⟩

def xf_core_Reborn : XFunc := ⟨none, true, 3, [.cell 6 (some 12), .tmp 7], (rs [o 3 (bx 0), o 5 (bx 2), o 6 (.alloc l1), o 7 (.mv (j 0))] [1, 3, 5, 6]
 (rs [ol 11 4 3, om 12 1, o 13 (c 92 [11, 12]), om 8 13] [1, 3, 5, 6, 8]
 (.seq (ss [am 14 8, a 15 (qj 14 0), am 16 15, b 17 (l 2 5) 16, b 18 (.build [y, y] []) 16, b 19 (.eqv false true [.i, .i] (.s 17) (.s 18)) 16, a 20 (ka 16 19)] [1, 3, 5, 6, 8, 20]
 (.cond (.s 20) (.reg [o 8 (.mv (j 3))] none [1, 3, 5, 6, 8]) .skip))
 (.seq (rs [om 21 8, o 22 (nj 21 0)] [1, 3, 5, 6, 8, 22]
 (.cond (.s 22) (rs [o 23 (.build l1 []), om 24 8, p (t 12 6 23), om 7 24] [6, 7]
 (.ret [6, 7])) .skip))
 (rs [ol 26 4 3, o 27 (c 71 [26]), o 28 (c 93 [27]), om 25 28, o 29 (e 25 0), o 30 (e 25 1), om 9 29, om 10 30] [1, 5, 6, 9]
 (rs [om 31 9, om 32 1, ol 33 2 5, o 34 (ia 2 31 32), p (t 2 34 33)] [1, 6, 9]
 (rs [om 35 1, om 36 9, o 37 (.build l1 [(0, 1, (.s 35)), (1, 1, (j 3)), (6, 1, (.s 36))]), p (t 12 6 37), o 7 (.mv (j 0))] [6, 7]
 (.ret [6, 7]))))))))⟩

def xf_plain_Book_State_k0 : List (Nat × Option (Nat × Nat × Bool)) := [(0, none), (3, none), (4, none)]
def xf_plain_Book_State_b0 : XCode := (.seq (rs [om 22 4, of 23 10 3, o 24 (k 23), o 25 (le 24), o 26 (bl 22 25)] [0, 3, 4, 26]
 (.cond (.s 26) .skip (.exit 0 [0, 3])))
 (.seq (.block 1 (.reg [om 29 0, of 30 10 3, o 31 (k 30), om 32 4, o 33 (ia 6 31 32), of 34 5 33, o 35 (k 34), o 36 (c 94 [29, 35])] none [0, 3, 4]))
 (.reg [om 27 4, o 28 (baj 27 1), om 4 28] none [0, 3, 4])))
def xf_plain_Book_State_k1 : List (Nat × Option (Nat × Nat × Bool)) := [(0, none), (3, none), (5, none)]
def xf_plain_Book_State_b1 : XCode := (.seq (rs [om 37 5, of 38 11 3, o 39 (k 38), o 40 (le 39), o 41 (bl 37 40)] [0, 3, 5, 41]
 (.cond (.s 41) .skip (.exit 2 [])))
 (.seq (.block 3 (.reg [om 44 0, of 45 11 3, o 46 (k 45), om 47 5, o 48 (ia 6 46 47), of 49 5 48, o 50 (k 49), o 51 (c 94 [44, 50])] none [0, 3, 5]))
 (.reg [om 42 5, o 43 (baj 42 1), om 5 43] none [0, 3, 5])))
def xf_plain_Book_State : XFunc := ⟨none, false, 2, [], (rs [o 3 (bx 1)] [0, 3]
 (rs [om 6 0, of 7 4 3, o 8 (k 7), o 9 (c 94 [6, 8])] [0, 3]
 (rs [om 10 0, of 11 6 3, o 12 (k 11), o 13 (c 95 [10, 12])] [0, 3]
 (rs [om 14 0, of 15 8 3, o 16 (k 15), o 17 (c 96 [14, 16])] [0, 3]
 (rs [om 18 0, of 19 9 3, o 20 (k 19), o 21 (c 97 [18, 20])] [0, 3]
 (.seq (rs [o 4 (.mv (j 0))] [0, 3, 4]
 (.block 0 (.loop xf_plain_Book_State_k0 xf_plain_Book_State_b0)))
 (rs [o 5 (.mv (j 0))] [0, 3, 5]
 (.block 2 (.loop xf_plain_Book_State_k1 xf_plain_Book_State_b1)))))))))⟩

def xf_plain_Book_Sends_k0 : List (Nat × Option (Nat × Nat × Bool)) := [(0, none), (1, none), (4, none)]
def xf_plain_Book_Sends_b0 : XCode := (.seq (rs [om 5 4, om 6 1, o 7 (le 6), o 8 (bl 5 7)] [0, 1, 4, 8]
 (.cond (.s 8) .skip (.exit 0 [])))
 (.seq (.block 1 (.reg [om 11 0, om 12 1, om 13 4, o 14 (ia 19 12 13), of 15 1 14, ol 16 18 15, o 17 (c 36 [11, 16])] none [0, 1, 4]))
 (.reg [om 9 4, o 10 (baj 9 1), om 4 10] none [0, 1, 4])))
def xf_plain_Book_Sends : XFunc := ⟨none, false, 2, [], (rs [o 4 (.mv (j 0))] [0, 1, 4]
 (.block 0 (.loop xf_plain_Book_Sends_k0 xf_plain_Book_Sends_b0)))⟩

def xf_plain_Book_Msg : XFunc := ⟨none, false, 2, [], (rs [o 3 (bx 1)] [0, 3]
 (rs [om 4 0, of 5 16 3, o 6 (k 5), o 7 (c 94 [4, 6])] [0, 3]
 (.reg [om 8 0, of 9 17 3, o 10 (k 9), o 11 (c 95 [8, 10])] none [])))⟩

def xf_plain_Book_Apart : XFunc := ⟨none, false, 1, [.tmp 2], (rs [o 2 (.mv (.c w))] [0]
 (ss [am 3 0, a 4 (c 98 [3]), am 5 4, bb 6 0 5, (g 7 (c 99 [6]) 5, false), a 8 (ka 5 7), am 9 8, bb 10 0 9, (g 11 (c 100 [10]) 9, false), a 12 (ka 9 11), am 13 12, bb 14 0 13, (g 15 (c 101 [14]) 13, false), a 16 (ka 13 15), am 17 16, bb 18 0 17, (g 19 (c 102 [18]) 17, false), a 20 (ka 17 19), am 21 20, bb 22 0 21, (g 23 (c 103 [22]) 21, false), a 24 (ka 21 23), am 25 24, bb 26 0 25, (g 27 (c 104 [26]) 25, false), a 28 (ka 25 27), am 29 28, bb 30 0 29, (g 31 (c 105 [30]) 29, false), a 32 (ka 29 31), am 33 32, bb 34 0 33, (g 35 (c 106 [34]) 33, false), a 36 (ka 33 35), am 37 36, bb 38 0 37, (g 39 (c 107 [38]) 37, false), a 40 (ka 37 39), am 2 40] [2]
 (.ret [2])))⟩

def xf_plain_CopyMsg : XFunc := ⟨none, false, 1, [.cell 2 (some 18)], (rs [o 1 (bx 0), o 2 (.alloc l4)] [1, 2]
 (rs [of 3 16 1, o 4 (k 3), o 5 (c 72 [4]), of 6 16 1, p (t 1 6 5)] [1, 2]
 (rs [of 7 17 1, o 8 (k 7), o 9 (c 73 [8]), of 10 17 1, p (t 1 10 9)] [1, 2]
 (rs [ol 11 18 1, p (t 18 2 11)] [2]
 (.ret [2])))))⟩

def xf_ref09_Carry_k0 : List (Nat × Option (Nat × Nat × Bool)) := [(4, none), (6, none), (10, none), (11, some (159, 7, true)), (13, some (102, 19, false)), (14, none)]
def xf_ref09_Carry_b0 : XCode := (.seq (rs [om 67 14, om 68 11, o 69 (le 68), o 70 (bl 67 69)] [4, 6, 10, 11, 13, 14, 70]
 (.cond (.s 70) .skip (.exit 0 [6, 10, 13])))
 (.seq (.block 1 (rp (some [(1, 26), (3, 26), (6, 26), (8, 26), (11, 26), (13, 26), (16, 26), (18, 26), (22, 26), (24, 26)]) [of 73 0 4, o 74 (k 73), of 75 2 4, o 76 (k 75), om 77 11, om 78 14, o 79 (ia 7 77 78), of 80 2 79, o 81 (k 80), om 82 11, om 83 14, o 84 (ia 7 82 83), of 85 0 84, o 86 (k 85), om 87 11, om 88 14, o 89 (ia 7 87 88), of 90 1 89, o 91 (k 90), o 92 (.build l11 [(0, 1, (.s 86)), (1, 1, (.s 91))]), om 93 11, om 94 14, o 95 (ia 7 93 94), of 96 4 95, ol 97 3 96, o 98 (.build l4 [(0, 1, (j 2)), (1, 1, (.s 74)), (2, 1, (.s 76)), (11, 1, (.s 81)), (3, 5, (.s 92)), (8, 3, (.s 97))]), o 15 (.alloc l4), p (t 18 15 98)] [4, 6, 10, 11, 13, 14, 15]
 (.reg [om 99 13, om 100 11, om 101 14, o 102 (ia 7 100 101), of 103 0 102, o 104 (k 103), o 105 (.bin .add (j 7) (.s 104)), ol 106 18 15, o 107 (.build l3 [(0, 1, (.s 105)), (1, 18, (.s 106))]), o 108 (.bsl 102 19 false 1 l3 [(0, 19, (.s 107))]), o 109 (.app 102 19 200 false (.s 99) (.s 108)), om 13 109] (some []) [4, 6, 10, 11, 13, 14])))
 (.reg [om 71 14, o 72 (baj 71 1), om 14 72] none [4, 6, 10, 11, 13, 14])))
def xf_ref09_Carry : XFunc := ⟨none, true, 3, [.cell 6 (some 12), .tmp 7, .tmp 8], (rs [o 3 (bx 0), o 4 (bx 1), o 6 (.alloc l1), o 7 (.mv (.c (.nil 102 19 false))), o 8 (.mv (j 0))] [2, 3, 4, 6]
 (rs [ol 16 4 3, ol 17 12 4, o 18 (c 17 [16, 17]), om 9 18] [2, 3, 4, 6, 9]
 (.seq (ss [am 19 9, a 20 (qj 19 0), am 21 20, bb 22 2 21, b 23 (blj 22 0) 21, bb 24 23 21, d 25 (m 2) 24, d 26 (f 4 4) 24, d 27 (k 26) 24, d 28 (le 27) 24, d 29 (bg 25 28) 24, b 30 (ko 24 29) 21, a 31 (ka 21 30)] [2, 3, 4, 6, 9, 31]
 (.cond (.s 31) (.reg [o 9 (.mv (j 3))] none [2, 3, 4, 6, 9]) .skip))
 (.seq (rs [om 32 9, o 33 (nj 32 0)] [2, 3, 4, 6, 9, 33]
 (.cond (.s 33) (rs [o 34 (.build l1 []), om 35 9, p (t 12 6 34), o 7 (.mv (.c (.nil 102 19 false))), om 8 35] [6, 7, 8]
 (.ret [6, 7, 8])) .skip))
 (rs [ol 36 12 4, o 37 (c 21 [36]), o 10 (.alloc l1), p (t 12 10 37)] [2, 3, 4, 6, 10]
 (.seq (rs [om 38 2, of 39 5 4, o 40 (k 39), o 41 (bm 38 40)] [2, 3, 4, 6, 10, 41]
 (.cond (.s 41) (rs [ol 42 12 10, p (t 12 6 42), o 7 (.mv (.c (.nil 102 19 false))), o 8 (.mv (j 0))] [6, 7, 8]
 (.ret [6, 7, 8])) .skip))
 (rs [om 43 2, of 44 5 10, p (t 1 44 43)] [2, 3, 4, 6, 10]
 (.seq (sp (some [(5, 9)]) [a 45 (f 1 4), a 46 (k 45), a 47 (nj 46 1), am 48 47, d 49 (f 0 4) 48, d 50 (k 49) 48, d 51 (l 4 3) 48, d 52 (f 2 4) 48, d 53 (k 52) 48, (⟨(some 54), c 108 [51, 53], some (48, false)⟩, false), (⟨(some 55), n 50 54, some (48, false)⟩, false), a 56 (ko 48 55)] [2, 4, 6, 10, 56]
 (.cond (.s 56) (rs [ol 57 12 10, p (t 12 6 57), o 7 (.mv (.c (.nil 102 19 false))), o 8 (.mv (j 0))] [6, 7, 8]
 (.ret [6, 7, 8])) .skip))
 (rs [of 59 4 4, o 60 (k 59), of 61 5 4, o 62 (k 61), om 63 2, o 64 (c 109 [60, 62, 63]), om 58 64, o 65 (e 58 0), o 66 (e 58 1), om 11 65, om 12 66] [4, 6, 10, 11]
 (rs [o 13 (.mv (.c (.nil 102 19 false)))] [4, 6, 10, 11, 13]
 (.seq (rs [o 14 (.mv (j 0))] [4, 6, 10, 11, 13, 14]
 (.block 0 (.loop xf_ref09_Carry_k0 xf_ref09_Carry_b0)))
 (rs [ol 110 12 10, om 111 13, p (t 12 6 110), om 7 111, o 8 (.mv (j 0))] [6, 7, 8]
 (.ret [6, 7, 8])))))))))))))⟩

def xf_plain_SameSends_k0 : List (Nat × Option (Nat × Nat × Bool)) := [(0, none), (1, none), (5, none)]
def xf_plain_SameSends_b0 : XCode := (.seq (rs [om 11 5, om 12 0, o 13 (le 12), o 14 (bl 11 13)] [0, 1, 5, 14]
 (.cond (.s 14) .skip (.exit 0 [])))
 (.seq (.block 1 (sp (some []) [am 17 0, am 18 5, a 19 (ia 19 17 18), a 20 (f 0 19), a 21 (k 20), am 22 1, am 23 5, a 24 (ia 19 22 23), a 25 (f 0 24), a 26 (k 25), a 27 (n 21 26), am 28 27, d 29 (m 0) 28, d 30 (m 5) 28, (⟨(some 31), ia 19 29 30, some (28, false)⟩, false), (⟨(some 32), f 1 31, some (28, false)⟩, false), (⟨(some 33), l 18 32, some (28, false)⟩, false), d 34 (m 1) 28, d 35 (m 5) 28, (⟨(some 36), ia 19 34 35, some (28, false)⟩, false), (⟨(some 37), f 1 36, some (28, false)⟩, false), (⟨(some 38), l 18 37, some (28, false)⟩, false), (⟨(some 39), c 110 [33, 38], some (28, false)⟩, false), (⟨(some 40), nt 39, some (28, false)⟩, false), a 41 (ko 28 40)] [0, 1, 5, 41]
 (.cond (.s 41) (rs [o 4 (.mv (.c w))] [4]
 (.ret [4])) .skip)))
 (.reg [om 15 5, o 16 (baj 15 1), om 5 16] none [0, 1, 5])))
def xf_plain_SameSends : XFunc := ⟨none, true, 2, [.tmp 4], (rs [o 4 (.mv (.c w))] [0, 1]
 (.seq (rs [om 6 0, o 7 (le 6), om 8 1, o 9 (le 8), o 10 (n 7 9)] [0, 1, 10]
 (.cond (.s 10) (rs [o 4 (.mv (.c w))] [4]
 (.ret [4])) .skip))
 (.seq (rs [o 5 (.mv (j 0))] [0, 1, 5]
 (.block 0 (.loop xf_plain_SameSends_k0 xf_plain_SameSends_b0)))
 (rs [o 4 (.mv (.c v))] [4]
 (.ret [4])))))⟩
theorem r_law09_CoreAdmits : progT Tryz.prog 3 = some xf_law09_CoreAdmits.plain := by kernel_rfl
theorem r_law09_CoreVoices : progT Tryz.prog 4 = some xf_law09_CoreVoices.plain := by kernel_rfl
theorem r_law09_CorePatience : progT Tryz.prog 5 = some xf_law09_CorePatience.plain := by kernel_rfl
theorem r_law09_CoreKnows : progT Tryz.prog 6 = some xf_law09_CoreKnows.plain := by kernel_rfl
theorem r_law09_CoreChecks : progT Tryz.prog 7 = some xf_law09_CoreChecks.plain := by kernel_rfl
theorem r_law09_CoreOwn : progT Tryz.prog 8 = some xf_law09_CoreOwn.plain := by kernel_rfl
theorem r_core_Admit : progT Tryz.prog 9 = some xf_core_Admit.plain := by kernel_rfl
theorem r_plain_Given_State : progT Tryz.prog 10 = some xf_plain_Given_State.plain := by kernel_rfl
theorem r_plain_Given_Msg : progT Tryz.prog 11 = some xf_plain_Given_Msg.plain := by kernel_rfl
theorem r_ref09_Admit : progT Tryz.prog 12 = some xf_ref09_Admit.plain := by kernel_rfl
theorem r_law09_num : progT Tryz.prog 13 = some xf_law09_num.plain := by kernel_rfl
theorem r_plain_SameState : progT Tryz.prog 14 = some xf_plain_SameState.plain := by kernel_rfl
theorem r_plain_Given_Intact : progT Tryz.prog 15 = some xf_plain_Given_Intact.plain := by kernel_rfl
theorem r_law09_alive : progT Tryz.prog 16 = some xf_law09_alive.plain := by kernel_rfl
theorem r_ref09_Check : progT Tryz.prog 17 = some xf_ref09_Check.plain := by kernel_rfl
theorem r_ref07_Check : progT Tryz.prog 18 = some xf_ref07_Check.plain := by kernel_rfl
theorem r_core_Wait : progT Tryz.prog 19 = some xf_core_Wait.plain := by kernel_rfl
theorem r_core_Primary : progT Tryz.prog 20 = some xf_core_Primary.plain := by kernel_rfl
theorem r_plain_CopyState : progT Tryz.prog 21 = some xf_plain_CopyState.plain := by kernel_rfl
theorem r_core_Check : progT Tryz.prog 22 = some xf_core_Check.plain := by kernel_rfl
theorem r_vector_Compare : progT Tryz.prog 23 = some xf_vector_Compare.plain := by kernel_rfl
theorem r_plain_SameEntries : progT Tryz.prog 24 = some xf_plain_SameEntries.plain := by kernel_rfl
theorem r_vector_Over : progT Tryz.prog 25 = some xf_vector_Over.plain := by kernel_rfl
theorem r_message_Between : progT Tryz.prog 26 = some xf_message_Between.plain := by kernel_rfl
theorem r_core_Alike : progT Tryz.prog 27 = some xf_core_Alike.plain := by kernel_rfl
theorem r_ref09_First : progT Tryz.prog 28 = some xf_ref09_First.plain := by kernel_rfl
theorem r_core_Carry : progT Tryz.prog 29 = some xf_core_Carry.plain := by kernel_rfl
theorem r_core_One : progT Tryz.prog 30 = some xf_core_One.plain := by kernel_rfl
theorem r_core_All : progT Tryz.prog 31 = some xf_core_All.plain := by kernel_rfl
theorem r_core_First : progT Tryz.prog 32 = some xf_core_First.plain := by kernel_rfl
theorem r_core_Reborn : progT Tryz.prog 33 = some xf_core_Reborn.plain := by kernel_rfl
theorem r_plain_Book_State : progT Tryz.prog 34 = some xf_plain_Book_State.plain := by kernel_rfl
theorem r_plain_Book_Sends : progT Tryz.prog 35 = some xf_plain_Book_Sends.plain := by kernel_rfl
theorem r_plain_Book_Msg : progT Tryz.prog 36 = some xf_plain_Book_Msg.plain := by kernel_rfl
theorem r_plain_Book_Apart : progT Tryz.prog 37 = some xf_plain_Book_Apart.plain := by kernel_rfl
theorem r_plain_CopyMsg : progT Tryz.prog 38 = some xf_plain_CopyMsg.plain := by kernel_rfl
theorem r_ref09_Carry : progT Tryz.prog 39 = some xf_ref09_Carry.plain := by kernel_rfl
theorem r_plain_SameSends : progT Tryz.prog 40 = some xf_plain_SameSends.plain := by kernel_rfl

end Go.Ax
