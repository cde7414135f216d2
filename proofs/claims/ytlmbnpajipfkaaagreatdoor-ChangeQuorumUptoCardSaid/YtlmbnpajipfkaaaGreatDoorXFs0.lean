/-
  The functions of this seat as resolved code, and that the program resolves to them (part 1).
-/
import Derived.Test.YtlmbnpajipfkaaaGreatDoorXComp
import Derived.Test.YtlmbnpajipfkaaaGreatDoorXFn
import Derived.Test.YtlmbnpajipfkaaaGreatDoorXG
import Derived.Test.YtlmbnpajipfkaaaGreatDoorXP
import Derived.Test.YtlmbnpajipfkaaaGreatDoorProg
import Derived.KernelRfl
namespace Go.Ax
set_option linter.all false
open Go.Proofs P

def xf_law11_ChangeQuorum_k0 : List (Nat × Option (Nat × Nat × Bool)) := [(1, none), (2, none), (3, none), (4, none), (9, none), (11, some (36, 12, false)), (12, none)]
def xf_law11_ChangeQuorum_b0 : XCode := (.seq (rs [om 56 12, om 57 9, o 58 (bl 56 57)] [1, 2, 3, 4, 9, 11, 12, 58]
 (.cond (.s 58) .skip (.exit 0 [1, 3, 4, 9, 11])))
 (.seq (.block 1 (rs [om 61 1, o 62 (le 61), om 13 62] [1, 2, 3, 4, 9, 11, 12, 13]
 (.seq (ss [am 63 12, am 64 2, a 65 (le 64), a 66 (bl 63 65), am 67 66, bb 68 2 67, bb 69 12 67, u 70 (ia 1 68 69) 67, u 71 (k 70) 67, u 72 (bhj 71 0) 67, a 73 (ka 67 72), am 74 73, bb 75 2 74, bb 76 12 74, u 77 (ia 1 75 76) 74, u 78 (k 77) 74, bb 79 13 74, u 80 (bl 78 79) 74, a 81 (ka 74 80)] [1, 2, 3, 4, 9, 11, 12, 13, 81]
 (.cond (.s 81) (.reg [om 82 2, om 83 12, o 84 (ia 1 82 83), o 85 (k 84), om 13 85] none [1, 2, 3, 4, 9, 11, 12, 13]) .skip))
 (.reg [om 86 11, om 87 12, om 88 1, om 89 13, o 90 (.slice 5 (.s 88) none (some (.s 89))), o 91 (c 7 [90]), om 92 9, o 93 (.mksl 55 2 16 true [y, y] (.s 92) (.s 92)), o 94 (.build l1 [(0, 1, (.s 87)), (1, 1, (j 1)), (4, 1, (.s 91)), (6, 1, (.s 93))]), o 95 (.bsl 36 12 false 1 l1 [(0, 12, (.s 94))]), o 96 (.app 36 12 192 false (.s 86) (.s 95)), om 11 96] (some [(4, 7), (5, 7)]) [1, 2, 3, 4, 9, 11, 12]))))
 (.reg [om 59 12, o 60 (baj 59 1), om 12 60] none [1, 2, 3, 4, 9, 11, 12])))
def xf_law11_ChangeQuorum_k1 : List (Nat × Option (Nat × Nat × Bool)) := [(1, none), (3, none), (4, none), (9, none), (11, some (36, 12, false)), (14, none), (15, some (4, 1, true)), (16, none)]
def xf_law11_ChangeQuorum_b1 : XCode := (.seq (rs [om 102 16, of 103 0 4, o 104 (k 103), o 105 (bm 102 104)] [1, 3, 4, 9, 11, 14, 15, 16, 105]
 (.cond (.s 105) .skip (.exit 2 [1, 3, 4, 9, 11, 14, 15])))
 (.seq (.block 3 (.reg [om 108 15, om 109 14, om 110 16, o 111 (ba 109 110), om 112 9, o 113 (.bin .rem (.s 111) (.s 112)), o 114 (ia 1 108 113), p (.store 1 (.s 114) (.c v))] none [1, 3, 4, 9, 11, 14, 15, 16]))
 (.reg [om 106 16, o 107 (baj 106 1), om 16 107] none [1, 3, 4, 9, 11, 14, 15, 16])))
def xf_law11_ChangeQuorum_k2 : List (Nat × Option (Nat × Nat × Bool)) := [(1, none), (3, none), (4, none), (9, none), (11, some (36, 12, false)), (14, none), (15, some (4, 1, true)), (17, none), (18, none)]
def xf_law11_ChangeQuorum_b2 : XCode := (.seq (rs [om 115 18, om 116 9, o 117 (bl 115 116)] [1, 3, 4, 9, 11, 14, 15, 17, 18, 117]
 (.cond (.s 117) .skip (.exit 4 [1, 3, 4, 9, 11, 14, 15, 17])))
 (.seq (.block 5 (ss [am 120 15, am 121 18, a 122 (ia 1 120 121), a 123 (k 122), am 124 123, bb 125 11 124, bb 126 18 124, u 127 (ia 12 125 126) 124, u 128 (f 4 127) 124, u 129 (k 128) 124, u 130 (le 129) 124, bb 131 17 124, u 132 (bg 130 131) 124, a 133 (ka 124 132)] [1, 3, 4, 9, 11, 14, 15, 17, 18, 133]
 (.cond (.s 133) (.reg [om 134 11, om 135 18, o 136 (ia 12 134 135), of 137 4 136, o 138 (k 137), o 139 (le 138), om 17 139] none [1, 3, 4, 9, 11, 14, 15, 17, 18]) .skip)))
 (.reg [om 118 18, o 119 (baj 118 1), om 18 119] none [1, 3, 4, 9, 11, 14, 15, 17, 18])))
def xf_law11_ChangeQuorum_k4 : List (Nat × Option (Nat × Nat × Bool)) := [(1, none), (3, none), (4, none), (9, none), (11, some (36, 12, false)), (14, none), (15, some (4, 1, true)), (17, none), (19, none), (20, none)]
def xf_law11_ChangeQuorum_b4 : XCode := (.seq (rs [om 145 20, om 146 9, o 147 (bl 145 146)] [1, 3, 4, 9, 11, 14, 15, 17, 19, 20, 147]
 (.cond (.s 147) .skip (.exit 8 [1, 3, 4, 9, 11, 14, 15, 17, 19])))
 (.seq (.block 9 (ss [am 150 15, am 151 19, a 152 (ia 1 150 151), a 153 (k 152), am 154 153, bb 155 15 154, bb 156 20 154, u 157 (ia 1 155 156) 154, u 158 (k 157) 154, a 159 (ka 154 158), am 160 159, bb 161 19 160, bb 162 20 160, b 163 (n 161 162) 160, a 164 (ka 160 163)] [1, 3, 4, 9, 11, 14, 15, 17, 19, 20, 164]
 (.cond (.s 164) (rp (some [(0, 8), (3, 8), (4, 8), (0, 15), (3, 15), (4, 15), (10, 15)]) [ol 166 4 4, om 167 11, om 168 19, o 169 (ia 12 167 168), ol 170 12 169, om 171 20, om 172 3, om 173 9, o 174 (.mksl 55 2 16 true [y, y] (.s 173) (.s 173)), o 175 (.build l4 [(0, 1, (j 6)), (1, 1, (.s 171)), (2, 1, (.s 172)), (17, 1, (.s 174))]), o 176 (c 9 [166, 170, 175]), om 165 176, o 177 (e 165 0), o 178 (e 165 1), o 179 (e 165 2), o 21 (.alloc l1), p (t 12 21 177), om 22 178, om 23 179] [1, 3, 4, 9, 11, 14, 15, 17, 19, 20, 21, 23]
 (.seq (rs [om 180 23, o 181 (c 10 [180]), o 182 (nj 181 0)] [1, 3, 4, 9, 11, 14, 15, 17, 19, 20, 21, 182]
 (.cond (.s 182) (rs [o 8 (.mv (.c w))] [8]
 (.ret [8])) .skip))
 (.reg [om 183 11, om 184 19, ol 185 12 21, o 186 (ia 12 183 184), p (t 12 186 185)] none [1, 3, 4, 9, 11, 14, 15, 17, 19, 20]))) .skip)))
 (.reg [om 148 20, o 149 (baj 148 1), om 20 149] none [1, 3, 4, 9, 11, 14, 15, 17, 19, 20])))
def xf_law11_ChangeQuorum_k3 : List (Nat × Option (Nat × Nat × Bool)) := [(1, none), (3, none), (4, none), (9, none), (11, some (36, 12, false)), (14, none), (15, some (4, 1, true)), (17, none), (19, none)]
def xf_law11_ChangeQuorum_b3 : XCode := (.seq (rs [om 140 19, om 141 9, o 142 (bl 140 141)] [1, 3, 4, 9, 11, 14, 15, 17, 19, 142]
 (.cond (.s 142) .skip (.exit 6 [1, 3, 4, 9, 11, 14, 15, 17])))
 (.seq (.block 7 (rs [o 20 (.mv (j 0))] [1, 3, 4, 9, 11, 14, 15, 17, 19, 20]
 (.block 8 (.loop xf_law11_ChangeQuorum_k4 xf_law11_ChangeQuorum_b4))))
 (.reg [om 143 19, o 144 (baj 143 1), om 19 144] none [1, 3, 4, 9, 11, 14, 15, 17, 19])))
def xf_law11_ChangeQuorum_k5 : List (Nat × Option (Nat × Nat × Bool)) := [(1, none), (3, none), (4, none), (9, none), (11, some (36, 12, false)), (14, none), (15, some (4, 1, true)), (17, none), (24, some (62, 19, false)), (25, none)]
def xf_law11_ChangeQuorum_b5 : XCode := (.seq (rs [om 187 25, om 188 9, o 189 (bl 187 188)] [1, 3, 4, 9, 11, 14, 15, 17, 24, 25, 189]
 (.cond (.s 189) .skip (.exit 10 [1, 3, 4, 9, 11, 14, 17, 24])))
 (.seq (.block 11 (.seq (ss [am 192 15, am 193 25, a 194 (ia 1 192 193), a 195 (k 194), a 196 (nt 195), am 197 196, d 198 (m 25) 197, d 199 (m 14) 197, d 200 (q 198 199) 197, a 201 (ko 197 200)] [1, 3, 4, 9, 11, 14, 15, 17, 24, 25, 201]
 (.cond (.s 201) (.exit 11 [1, 3, 4, 9, 11, 14, 15, 17, 24, 25]) .skip))
 (rp (some []) [ol 203 4 4, om 204 11, om 205 25, o 206 (ia 12 204 205), ol 207 12 206, o 208 (c 11 [203, 207]), om 202 208, o 209 (e 202 0), o 210 (e 202 1), om 26 209, om 27 210] [1, 3, 4, 9, 11, 14, 15, 17, 24, 25, 26, 27]
 (.seq (ss [am 211 27, a 212 (c 10 [211]), a 213 (nj 212 0), am 214 213, d 215 (m 26) 214, d 216 (le 215) 214, d 217 (m 9) 214, d 218 (n 216 217) 214, a 219 (ko 214 218)] [1, 3, 4, 9, 11, 14, 15, 17, 24, 25, 26, 219]
 (.cond (.s 219) (rs [o 8 (.mv (.c w))] [8]
 (.ret [8])) .skip))
 (rp (some [(0, 16), (3, 16), (4, 16), (8, 16), (10, 16), (11, 16)]) [ol 221 4 4, om 222 11, om 223 14, o 224 (ia 12 222 223), ol 225 12 224, om 226 26, om 227 9, o 228 (bsj 227 1), o 229 (ia 19 226 228), of 230 1 229, ol 231 18 230, o 232 (c 12 [221, 225, 231]), om 220 232, o 233 (e 220 0), o 234 (e 220 1), o 235 (e 220 2), o 28 (.alloc l1), p (t 12 28 233), om 29 234, om 30 235] [1, 3, 4, 9, 11, 14, 15, 17, 24, 25, 28, 29, 30]
 (.seq (rs [om 236 30, o 237 (c 10 [236]), o 238 (nj 237 0)] [1, 3, 4, 9, 11, 14, 15, 17, 24, 25, 28, 29, 238]
 (.cond (.s 238) (rs [o 8 (.mv (.c w))] [8]
 (.ret [8])) .skip))
 (rs [om 239 11, om 240 14, ol 241 12 28, o 242 (ia 12 239 240), p (t 12 242 241)] [1, 3, 4, 9, 11, 14, 15, 17, 24, 25, 29]
 (.reg [om 243 24, om 244 29, o 245 (.app 62 19 200 false (.s 243) (.s 244)), om 24 245] none [1, 3, 4, 9, 11, 14, 15, 17, 24, 25]))))))))
 (.reg [om 190 25, o 191 (baj 190 1), om 25 191] none [1, 3, 4, 9, 11, 14, 15, 17, 24, 25])))
def xf_law11_ChangeQuorum_k6 : List (Nat × Option (Nat × Nat × Bool)) := [(1, none), (3, none), (4, none), (9, none), (11, some (36, 12, false)), (17, none), (24, some (62, 19, false)), (31, none)]
def xf_law11_ChangeQuorum_b6 : XCode := (.seq (rs [om 278 31, om 279 24, o 280 (le 279), o 281 (bl 278 280)] [1, 3, 4, 9, 11, 17, 24, 31, 281]
 (.cond (.s 281) .skip (.exit 12 [])))
 (.seq (.block 13 (rs [om 284 24, om 285 31, o 286 (ia 19 284 285), of 287 0 286, o 288 (k 287), om 32 288] [1, 3, 4, 9, 11, 17, 24, 31, 32]
 (.seq (ss [am 289 32, a 290 (blj 289 0), am 291 290, d 292 (m 32) 291, d 293 (m 9) 291, d 294 (bh 292 293) 291, a 295 (ko 291 294)] [1, 3, 4, 9, 11, 17, 24, 31, 32, 295]
 (.cond (.s 295) (rs [o 8 (.mv (.c w))] [8]
 (.ret [8])) .skip))
 (rp (some [(0, 15), (3, 15), (4, 15), (7, 15), (9, 15), (10, 15)]) [ol 297 4 4, om 298 11, om 299 32, o 300 (ia 12 298 299), ol 301 12 300, om 302 24, om 303 31, o 304 (ia 19 302 303), of 305 1 304, ol 306 18 305, o 307 (c 13 [297, 301, 306]), om 296 307, o 308 (e 296 0), o 309 (e 296 1), o 310 (e 296 2), o 33 (.alloc l1), p (t 12 33 308), om 34 309, om 35 310] [1, 3, 4, 9, 11, 17, 24, 31, 33, 35]
 (sp (some []) [am 311 35, a 312 (c 10 [311]), a 313 (nj 312 0), am 314 313, d 315 (f 1 33) 314, d 316 (k 315) 314, d 317 (nj 316 1) 314, a 318 (ko 314 317), am 319 318, d 320 (f 2 33) 319, d 321 (k 320) 319, d 322 (m 3) 319, d 323 (n 321 322) 319, a 324 (ko 319 323), am 325 324, d 326 (f 4 33) 325, d 327 (k 326) 325, d 328 (m 1) 325, d 329 (m 17) 325, r 330 (.slice 5 (.s 328) none (some (.s 329))) 325, r 331 (c 14 [327, 330]) 325, r 332 (nt 331) 325, a 333 (ko 325 332)] [1, 3, 4, 9, 11, 17, 24, 31, 333]
 (.cond (.s 333) (rs [o 8 (.mv (.c w))] [8]
 (.ret [8])) .skip))))))
 (.reg [om 282 31, o 283 (baj 282 1), om 31 283] none [1, 3, 4, 9, 11, 17, 24, 31])))
def xf_law11_ChangeQuorum : XFunc := ⟨none, false, 4, [.tmp 8], (rs [o 4 (bx 0), o 8 (.mv (.c w))] [1, 2, 3, 4]
 (.seq (rs [o 36 (c 4 []), o 37 (nt 36)] [1, 2, 3, 4, 37]
 (.cond (.s 37) (rs [o 8 (.mv (.c w))] [8]
 (.ret [8])) .skip))
 (rs [ol 38 4 4, o 39 (c 5 [38]), om 9 39] [1, 2, 3, 4, 9]
 (rs [om 40 1, om 41 9, o 42 (.mksl 55 2 16 true [y, y] (.s 41) (.s 41)), o 43 (.build l1 [(0, 1, (j 0)), (1, 1, (j 1)), (4, 1, (.s 40)), (6, 1, (.s 42))]), o 10 (.alloc l1), p (t 12 10 43)] [1, 2, 3, 4, 9, 10]
 (.seq (ss [a 44 (l 4 4), a 45 (l 12 10), a 46 (c 6 [44, 45]), a 47 (nj 46 0), am 48 47, d 49 (m 3) 48, d 50 (blj 49 1) 48, a 51 (ko 48 50), am 52 51, d 53 (m 3) 52, d 54 (bgj 53 4294967296) 52, a 55 (ko 52 54)] [1, 2, 3, 4, 9, 55]
 (.cond (.s 55) (rs [o 8 (.mv (.c v))] [8]
 (.ret [8])) .skip))
 (rs [o 11 (.mv (.c (.nil 36 12 false)))] [1, 2, 3, 4, 9, 11]
 (.seq (rs [o 12 (.mv (j 0))] [1, 2, 3, 4, 9, 11, 12]
 (.block 0 (.loop xf_law11_ChangeQuorum_k0 xf_law11_ChangeQuorum_b0)))
 (rs [ol 97 4 4, om 98 3, o 99 (c 8 [97, 98]), om 14 99] [1, 3, 4, 9, 11, 14]
 (rs [om 100 9, o 101 (.mksl 4 1 1 true [w] (.s 100) (.s 100)), om 15 101] [1, 3, 4, 9, 11, 14, 15]
 (.seq (rs [o 16 (.mv (j 0))] [1, 3, 4, 9, 11, 14, 15, 16]
 (.block 2 (.loop xf_law11_ChangeQuorum_k1 xf_law11_ChangeQuorum_b1)))
 (rs [o 17 (.mv (j 0))] [1, 3, 4, 9, 11, 14, 15, 17]
 (.seq (rs [o 18 (.mv (j 0))] [1, 3, 4, 9, 11, 14, 15, 17, 18]
 (.block 4 (.loop xf_law11_ChangeQuorum_k2 xf_law11_ChangeQuorum_b2)))
 (.seq (rs [o 19 (.mv (j 0))] [1, 3, 4, 9, 11, 14, 15, 17, 19]
 (.block 6 (.loop xf_law11_ChangeQuorum_k3 xf_law11_ChangeQuorum_b3)))
 (rs [o 24 (.mv (.c (.nil 62 19 false)))] [1, 3, 4, 9, 11, 14, 15, 17, 24]
 (.seq (rs [o 25 (.mv (j 0))] [1, 3, 4, 9, 11, 14, 15, 17, 24, 25]
 (.block 10 (.loop xf_law11_ChangeQuorum_k5 xf_law11_ChangeQuorum_b5)))
 (.seq (ss [am 246 11, am 247 14, a 248 (ia 12 246 247), a 249 (f 1 248), a 250 (k 249), a 251 (nj 250 1), am 252 251, d 253 (m 11) 252, d 254 (m 14) 252, r 255 (ia 12 253 254) 252, r 256 (f 2 255) 252, r 257 (k 256) 252, d 258 (m 3) 252, r 259 (n 257 258) 252, a 260 (ko 252 259), am 261 260, d 262 (m 11) 261, d 263 (m 14) 261, r 264 (ia 12 262 263) 261, r 265 (f 4 264) 261, r 266 (k 265) 261, r 267 (le 266) 261, d 268 (m 17) 261, r 269 (n 267 268) 261, a 270 (ko 261 269), am 271 270, d 272 (m 24) 271, d 273 (le 272) 271, d 274 (m 9) 271, d 275 (bsj 274 1) 271, d 276 (n 273 275) 271, a 277 (ko 271 276)] [1, 3, 4, 9, 11, 17, 24, 277]
 (.cond (.s 277) (rs [o 8 (.mv (.c w))] [8]
 (.ret [8])) .skip))
 (.seq (rs [o 31 (.mv (j 0))] [1, 3, 4, 9, 11, 17, 24, 31]
 (.block 12 (.loop xf_law11_ChangeQuorum_k6 xf_law11_ChangeQuorum_b6)))
 (rs [o 8 (.mv (.c v))] [8]
 (.ret [8])))))))))))))))))))⟩

def xf_law11_alive : XFunc := ⟨none, false, 0, [.tmp 0], (rs [o 0 (.mv (.c w))] []
 (rs [o 11 (c 16 []), o 12 (.call (fc 17) [(j 1)]), o 13 (c 15 [11, 12]), om 10 13, o 14 (e 10 0), o 15 (e 10 1), o 16 (e 10 2), o 1 (.alloc l1), p (t 12 1 14), om 2 15, om 3 16] [1, 2, 3]
 (.seq (ss [am 17 3, a 18 (c 10 [17]), a 19 (nj 18 0), am 20 19, d 21 (f 1 1) 20, d 22 (k 21) 20, d 23 (nj 22 2) 20, a 24 (ko 20 23), am 25 24, d 26 (f 2 1) 25, d 27 (k 26) 25, d 28 (nj 27 1) 25, a 29 (ko 25 28), am 30 29, d 31 (m 2) 30, d 32 (le 31) 30, d 33 (nj 32 2) 30, a 34 (ko 30 33), am 35 34, d 36 (m 2) 35, r 37 (.iadr 19 (.s 36) (j 0)) 35, r 38 (f 0 37) 35, r 39 (k 38) 35, r 40 (nj 39 0) 35, a 41 (ko 35 40), am 42 41, d 43 (m 2) 42, r 44 (.iadr 19 (.s 43) (j 1)) 42, r 45 (f 0 44) 42, r 46 (k 45) 42, r 47 (nj 46 2) 42, a 48 (ko 42 47)] [1, 2, 48]
 (.cond (.s 48) (rs [o 0 (.mv (.c w))] [0]
 (.ret [0])) .skip))
 (rp (some [(0, 3), (1, 3), (0, 5), (1, 5), (0, 11), (1, 11), (3, 11), (5, 11), (6, 11)]) [o 50 (c 16 []), o 51 (.call (fc 17) [(j 2)]), om 52 2, o 53 (.iadr 19 (.s 52) (j 1)), of 54 1 53, ol 55 18 54, o 56 (c 9 [50, 51, 55]), om 49 56, o 57 (e 49 0), o 58 (e 49 1), o 59 (e 49 2), o 4 (.alloc l1), p (t 12 4 57), om 5 58, om 6 59] [1, 5, 6]
 (.seq (ss [am 60 6, a 61 (c 10 [60]), a 62 (nj 61 0), am 63 62, d 64 (m 5) 63, d 65 (le 64) 63, d 66 (nj 65 3) 63, a 67 (ko 63 66), am 68 67, d 69 (m 5) 68, r 70 (.iadr 19 (.s 69) (j 2)) 68, r 71 (f 0 70) 68, r 72 (k 71) 68, r 73 (nj 72 1) 68, a 74 (ko 68 73), am 75 74, d 76 (m 5) 75, r 77 (.iadr 19 (.s 76) (j 2)) 75, r 78 (f 1 77) 75, r 79 (f 0 78) 75, r 80 (k 79) 75, r 81 (nj 80 7) 75, a 82 (ko 75 81)] [1, 5, 82]
 (.cond (.s 82) (rs [o 0 (.mv (.c w))] [0]
 (.ret [0])) .skip))
 (rp (some [(0, 1), (0, 3), (0, 5), (0, 11), (1, 11), (3, 11), (5, 11), (6, 11)]) [o 84 (c 16 []), ol 85 12 1, om 86 5, o 87 (.iadr 19 (.s 86) (j 2)), of 88 1 87, ol 89 18 88, o 90 (c 12 [84, 85, 89]), om 83 90, o 91 (e 83 0), o 92 (e 83 1), o 93 (e 83 2), o 7 (.alloc l1), p (t 12 7 91), om 8 92, om 9 93] [7, 8, 9]
 (ss [am 94 9, a 95 (c 10 [94]), a 96 (qj 95 0), am 97 96, b 98 (f 1 7) 97, b 99 (k 98) 97, b 100 (qj 99 1) 97, a 101 (ka 97 100), am 102 101, bb 103 8 102, b 104 (le 103) 102, b 105 (qj 104 2) 102, a 106 (ka 102 105), am 107 106, bb 108 8 107, u 109 (.iadr 19 (.s 108) (j 0)) 107, u 110 (f 1 109) 107, u 111 (f 0 110) 107, u 112 (k 111) 107, u 113 (qj 112 8) 107, a 114 (ka 107 113), am 0 114] [0]
 (.ret [0]))))))))⟩

def xf_core_Nodes : XFunc := ⟨none, true, 1, [.tmp 2], (rs [o 1 (bx 0), o 2 (.mv (j 0))] [1]
 (.seq (rs [ol 3 4 1, o 4 (c 18 [3]), o 5 (nj 4 0)] [1, 5]
 (.cond (.s 5) (rs [o 2 (.mv (j 0))] [2]
 (.ret [2])) .skip))
 (rs [of 6 0 1, o 7 (k 6), o 8 (.bin .mul (j 2) (.s 7)), o 9 (baj 8 1), om 2 9] [2]
 (.ret [2]))))⟩

def xf_ref09_Check : XFunc := ⟨none, true, 2, [.tmp 4], (rs [o 2 (bx 0), o 3 (bx 1), o 4 (.mv (j 0))] [2, 3]
 (rs [ol 6 4 2, o 7 (c 19 [6]), om 5 7] [2, 3, 5]
 (.seq (ss [am 8 5, a 9 (qj 8 0), am 10 9, b 11 (l 4 2) 10, b 12 (l 12 3) 10, u 13 (c 20 [11, 12]) 10, u 14 (nt 13) 10, a 15 (ka 10 14)] [5, 15]
 (.cond (.s 15) (.reg [o 5 (.mv (j 2))] none [5]) .skip))
 (rs [om 16 5, om 4 16] [4]
 (.ret [4])))))⟩

def xf_plain_CopyEntries : XFunc := ⟨none, false, 1, [.tmp 2], (rs [o 2 (.mv (.c (.nil 50 5 true)))] [0]
 (rs [om 3 0, o 4 (.app 50 5 48 true (.c (.nil 50 5 true)) (.s 3)), om 2 4] [2]
 (.ret [2])))⟩

def xf_core_Primary : XFunc := ⟨none, true, 2, [.tmp 4], (rs [o 2 (bx 0), o 4 (.mv (j 0))] [1, 2]
 (.seq (ss [a 5 (l 4 2), a 6 (c 18 [5]), a 7 (nj 6 0), am 8 7, d 9 (m 1) 8, d 10 (blj 9 0) 8, a 11 (ko 8 10), am 12 11, d 13 (m 1) 12, d 14 (bgj 13 4294967296) 12, a 15 (ko 12 14)] [1, 2, 15]
 (.cond (.s 15) (rs [o 4 (.mv (j (-1)))] [4]
 (.ret [4])) .skip))
 (rs [om 16 1, ol 17 4 2, o 18 (c 5 [17]), o 19 (.bin .rem (.s 16) (.s 18)), om 4 19] [4]
 (.ret [4]))))⟩

def xf_change_Start : XFunc := ⟨none, true, 3, [.cell 6 (some 12), .tmp 7, .tmp 8], (rs [o 3 (bx 0), o 4 (bx 1), o 5 (bx 2), o 6 (.alloc l1), o 7 (.mv (.c (.nil 62 19 false))), o 8 (.mv (j 0))] [3, 4, 5, 6]
 (rs [ol 9 4 3, ol 10 12 4, ol 11 18 5, o 12 (.call (fc 21) [(.s 9), (.s 10), (.s 11), (j 6)]), o 13 (e 12 0), o 14 (e 12 1), o 15 (e 12 2), p (t 12 6 13), om 7 14, om 8 15] [6, 7, 8]
 (.ret [6, 7, 8])))⟩

def xf_law11_num : XFunc := ⟨none, false, 1, [.tmp 2], (rs [o 2 (.mv (j 0))] [0]
 (rs [om 3 0, om 2 3] [2]
 (.ret [2])))⟩

def xf_change_Again : XFunc := ⟨none, true, 2, [.tmp 4, .tmp 5], (rs [o 2 (bx 0), o 3 (bx 1), o 4 (.mv (.c (.nil 62 19 false))), o 5 (.mv (j 0))] [2, 3]
 (.seq (rs [ol 8 4 2, ol 9 12 3, o 10 (c 22 [8, 9]), om 6 10] [2, 3, 6]
 (rs [om 11 6, o 12 (nj 11 0)] [2, 3, 6, 12]
 (.cond (.s 12) (rs [om 13 6, o 4 (.mv (.c (.nil 62 19 false))), om 5 13] [4, 5]
 (.ret [4, 5])) .skip)))
 (.seq (rs [of 14 1 3, o 15 (k 14), o 16 (nj 15 2)] [2, 3, 16]
 (.cond (.s 16) (rs [o 4 (.mv (.c (.nil 62 19 false))), o 5 (.mv (j 90))] [4, 5]
 (.ret [4, 5])) .skip))
 (rs [ol 17 4 2, ol 18 12 3, o 19 (.build l6 [(0, 4, (.s 17)), (4, 12, (.s 18))]), o 20 (bx 19), om 7 20] [2, 3, 7]
 (rs [om 21 7, of 22 2 3, o 23 (k 22), o 24 (.build l4 [(0, 1, (j 6)), (2, 1, (.s 23))]), o 25 (c 23 [21, 24])] [2, 3, 7]
 (.seq (rs [of 26 0 2, o 27 (k 26), of 28 9 3, o 29 (k 28), o 30 (c 24 [27, 29])] [7, 30]
 (.cond (.s 30) (.reg [om 31 7, o 32 (c 25 [31])] none [7]) .skip))
 (rs [om 33 7, o 34 (nc 33), of 35 16 34, o 36 (k 35), om 4 36, o 5 (.mv (j 0))] [4, 5]
 (.ret [4, 5]))))))))⟩

def xf_change_Vote : XFunc := ⟨none, true, 3, [.cell 6 (some 12), .tmp 7, .tmp 8], (rs [o 3 (bx 0), o 4 (bx 1), o 5 (bx 2), o 6 (.alloc l1), o 7 (.mv (.c (.nil 62 19 false))), o 8 (.mv (j 0))] [3, 4, 5, 6]
 (rs [ol 9 4 3, ol 10 12 4, ol 11 18 5, o 12 (.call (fc 21) [(.s 9), (.s 10), (.s 11), (j 7)]), o 13 (e 12 0), o 14 (e 12 1), o 15 (e 12 2), p (t 12 6 13), om 7 14, om 8 15] [6, 7, 8]
 (.ret [6, 7, 8])))⟩

def xf_change_Install : XFunc := ⟨none, true, 3, [.cell 6 (some 12), .tmp 7, .tmp 8], (rs [o 3 (bx 0), o 4 (bx 1), o 5 (bx 2), o 6 (.alloc l1), o 7 (.mv (.c (.nil 62 19 false))), o 8 (.mv (j 0))] [3, 4, 5, 6]
 (rs [ol 9 4 3, ol 10 12 4, ol 11 18 5, o 12 (.call (fc 21) [(.s 9), (.s 10), (.s 11), (j 8)]), o 13 (e 12 0), o 14 (e 12 1), o 15 (e 12 2), p (t 12 6 13), om 7 14, om 8 15] [6, 7, 8]
 (.ret [6, 7, 8])))⟩

def xf_plain_SameEntries_k0 : List (Nat × Option (Nat × Nat × Bool)) := [(0, none), (1, none), (5, none)]
def xf_plain_SameEntries_b0 : XCode := (.seq (rs [om 11 5, om 12 0, o 13 (le 12), o 14 (bl 11 13)] [0, 1, 5, 14]
 (.cond (.s 14) .skip (.exit 0 [])))
 (.seq (.block 1 (rp (some []) [om 17 0, om 18 5, o 19 (ia 5 17 18), ol 20 5 19, om 21 1, om 22 5, o 23 (ia 5 21 22), ol 24 5 23, o 25 (.eqv true true [.i, .i, .i, .i, .s] (.s 20) (.s 24))] [0, 1, 5, 25]
 (.cond (.s 25) (rs [o 4 (.mv (.c w))] [4]
 (.ret [4])) .skip)))
 (.reg [om 15 5, o 16 (baj 15 1), om 5 16] none [0, 1, 5])))
def xf_plain_SameEntries : XFunc := ⟨none, true, 2, [.tmp 4], (rs [o 4 (.mv (.c w))] [0, 1]
 (.seq (rs [om 6 0, o 7 (le 6), om 8 1, o 9 (le 8), o 10 (n 7 9)] [0, 1, 10]
 (.cond (.s 10) (rs [o 4 (.mv (.c w))] [4]
 (.ret [4])) .skip))
 (.seq (rs [o 5 (.mv (j 0))] [0, 1, 5]
 (.block 0 (.loop xf_plain_SameEntries_k0 xf_plain_SameEntries_b0)))
 (rs [o 4 (.mv (.c v))] [4]
 (.ret [4])))))⟩

def xf_change_Suspect : XFunc := ⟨none, true, 2, [.cell 4 (some 12), .tmp 5, .tmp 6], (rs [o 2 (bx 0), o 3 (bx 1), o 4 (.alloc l1), o 5 (.mv (.c (.nil 62 19 false))), o 6 (.mv (j 0))] [2, 3, 4]
 (.seq (rs [ol 12 4 2, ol 13 12 3, o 14 (c 22 [12, 13]), om 7 14] [2, 3, 4, 7]
 (rs [om 15 7, o 16 (nj 15 0)] [2, 3, 4, 7, 16]
 (.cond (.s 16) (rs [o 17 (.build l1 []), om 18 7, p (t 12 4 17), o 5 (.mv (.c (.nil 62 19 false))), om 6 18] [4, 5, 6]
 (.ret [4, 5, 6])) .skip)))
 (.seq (rp (some [(11, 13)]) [of 19 1 3, o 20 (k 19), o 21 (qj 20 3), om 22 21, h 23 (f 1 3) 22, h 24 (k 23) 22, h 25 (qj 24 1) 22, h 26 (m 25) 22, g 27 (l 4 2) 26, g 28 (f 2 3) 26, g 29 (k 28) 26, g 30 (c 8 [27, 29]) 26, g 31 (f 0 3) 26, g 32 (k 31) 26, g 33 (q 30 32) 26, h 34 (ka 26 33) 22, o 35 (ko 22 34)] [2, 3, 4, 35]
 (.cond (.s 35) (rs [o 36 (.build l1 []), p (t 12 4 36), o 5 (.mv (.c (.nil 62 19 false))), o 6 (.mv (j 90))] [4, 5, 6]
 (.ret [4, 5, 6])) .skip))
 (rs [ol 38 4 2, ol 39 12 3, o 40 (.call (fc 26) [(.s 38), (.s 39), (j 0)]), om 37 40, o 41 (e 37 0), o 42 (e 37 1), o 43 (e 37 2), o 8 (.alloc l1), p (t 12 8 41), om 9 42, om 10 43] [2, 3, 4, 8]
 (rs [ol 44 4 2, ol 45 12 8, o 46 (.build l6 [(0, 4, (.s 44)), (4, 12, (.s 45))]), o 47 (bx 46), om 11 47] [3, 4, 11]
 (.seq (rs [of 48 2 3, o 49 (k 48), o 50 (blj 49 4294967296)] [3, 4, 11, 50]
 (.cond (.s 50) (.reg [om 51 11, of 52 2 3, o 53 (k 52), o 54 (baj 53 1), o 55 (c 27 [51, 54])] none [4, 11]) .skip))
 (rp (some [(7, 8)]) [om 56 11, o 57 (nc 56), of 58 4 57, ol 59 12 58, om 60 11, o 61 (nc 60), of 62 16 61, o 63 (k 62), p (t 12 4 59), om 5 63, o 6 (.mv (j 0))] [4, 5, 6]
 (.ret [4, 5, 6]))))))))⟩

def xf_law11_three : XFunc := ⟨none, false, 0, [.cell 0 (some 4)], (rs [o 0 (.alloc [z, z, z, w])] [0]
 (rs [o 1 (.build [z, z, z, w] [(0, 1, (j 1)), (1, 1, (j 4)), (2, 1, (j 6))]), p (t 4 0 1)] [0]
 (.ret [0])))⟩

def xf_law11_backup : XFunc := ⟨none, false, 1, [.cell 2 (some 12)], (rs [o 2 (.alloc l1)] [0, 2]
 (rs [om 3 0, o 4 (.mksl 55 2 16 true [y, y] (j 3) (j 3)), o 5 (.build l1 [(0, 1, (.s 3)), (1, 1, (j 1)), (6, 1, (.s 4))]), p (t 12 2 5)] [2]
 (.ret [2])))⟩

def xf_core_CheckConfig : XFunc := ⟨none, true, 1, [.tmp 2], (rs [o 1 (bx 0), o 2 (.mv (j 0))] [1]
 (.seq (ss [a 3 (f 0 1), a 4 (k 3), a 5 (blj 4 1), am 6 5, d 7 (f 0 1) 6, d 8 (k 7) 6, d 9 (bgj 8 3) 6, a 10 (ko 6 9), am 11 10, d 12 (f 1 1) 11, d 13 (k 12) 11, d 14 (blj 13 1) 11, a 15 (ko 11 14), am 16 15, d 17 (f 1 1) 16, d 18 (k 17) 16, d 19 (bgj 18 256) 16, a 20 (ko 16 19), am 21 20, d 22 (f 2 1) 21, d 23 (k 22) 21, d 24 (blj 23 6) 21, a 25 (ko 21 24), am 26 25, d 27 (f 2 1) 26, d 28 (k 27) 26, d 29 (bgj 28 100) 26, a 30 (ko 26 29)] [30]
 (.cond (.s 30) (rs [o 2 (.mv (j 1))] [2]
 (.ret [2])) .skip))
 (rs [o 2 (.mv (j 0))] [2]
 (.ret [2]))))⟩

def xf_ref09_CheckConfig : XFunc := ⟨none, true, 1, [.tmp 2], (rs [o 1 (bx 0), o 2 (.mv (j 0))] [1]
 (.seq (rs [ol 3 4 1, o 4 (c 28 [3]), o 5 (nt 4)] [5]
 (.cond (.s 5) (rs [o 2 (.mv (j 1))] [2]
 (.ret [2])) .skip))
 (rs [o 2 (.mv (j 0))] [2]
 (.ret [2]))))⟩

def xf_ref09_may_k0 : List (Nat × Option (Nat × Nat × Bool)) := [(3, none), (7, none)]
def xf_ref09_may_b0 : XCode := (.seq (rs [om 125 7, of 126 8 3, o 127 (k 126), o 128 (le 127), o 129 (bl 125 128)] [3, 7, 129]
 (.cond (.s 129) .skip (.exit 1 [])))
 (.seq (.block 2 (sp (some []) [a 132 (f 8 3), a 133 (k 132), am 134 7, a 135 (ia 4 133 134), a 136 (f 3 135), a 137 (k 136), a 138 (blj 137 1), am 139 138, d 140 (f 8 3) 139, d 141 (k 140) 139, d 142 (m 7) 139, r 143 (ia 4 141 142) 139, r 144 (f 3 143) 139, r 145 (k 144) 139, d 146 (f 4 3) 139, d 147 (k 146) 139, d 148 (le 147) 139, r 149 (bg 145 148) 139, a 150 (ko 139 149)] [3, 7, 150]
 (.cond (.s 150) (rs [o 4 (.mv (.c w))] [4]
 (.ret [4])) .skip)))
 (.reg [om 130 7, o 131 (baj 130 1), om 7 131] none [3, 7])))
def xf_ref09_may_k1 : List (Nat × Option (Nat × Nat × Bool)) := [(2, none), (3, none), (8, none)]
def xf_ref09_may_b1 : XCode := (.seq (rs [om 186 8, of 187 10 3, o 188 (k 187), o 189 (le 188), o 190 (bl 186 189)] [2, 3, 8, 190]
 (.cond (.s 190) .skip (.exit 3 [])))
 (.seq (.block 4 (rs [of 193 10 3, o 194 (k 193), om 195 8, o 196 (ia 6 194 195), ol 197 6 196, o 9 (.alloc l2), p (t 6 9 197)] [2, 3, 8, 9]
 (ss [a 198 (f 3 9), a 199 (k 198), a 200 (blj 199 0), am 201 200, d 202 (f 3 9) 201, d 203 (k 202) 201, d 204 (f 2 3) 201, d 205 (k 204) 201, d 206 (bh 203 205) 201, a 207 (ko 201 206), am 208 207, d 209 (l 4 2) 208, d 210 (f 5 9) 208, d 211 (k 210) 208, d 212 (f 4 9) 208, d 213 (k 212) 208, r 214 (c 30 [209, 211, 213]) 208, r 215 (nt 214) 208, a 216 (ko 208 215)] [2, 3, 8, 216]
 (.cond (.s 216) (rs [o 4 (.mv (.c w))] [4]
 (.ret [4])) .skip))))
 (.reg [om 191 8, o 192 (baj 191 1), om 8 192] none [2, 3, 8])))
def xf_ref09_may : XFunc := ⟨none, true, 2, [.tmp 4], (rs [o 2 (bx 0), o 3 (bx 1), o 4 (.mv (.c w))] [2, 3]
 (rs [ol 10 4 2, o 11 (c 29 [10]), om 5 11] [2, 3, 5]
 (.seq (ss [a 12 (f 0 3), a 13 (k 12), a 14 (blj 13 0), am 15 14, d 16 (f 0 3) 15, d 17 (k 16) 15, d 18 (m 5) 15, d 19 (bh 17 18) 15, a 20 (ko 15 19), am 21 20, d 22 (f 2 3) 21, d 23 (k 22) 21, d 24 (blj 23 0) 21, a 25 (ko 21 24), am 26 25, d 27 (f 2 3) 26, d 28 (k 27) 26, d 29 (bgj 28 4294967296) 26, a 30 (ko 26 29), am 31 30, d 32 (f 3 3) 31, d 33 (k 32) 31, d 34 (blj 33 0) 31, a 35 (ko 31 34), am 36 35, d 37 (f 3 3) 36, d 38 (k 37) 36, d 39 (f 2 3) 36, d 40 (k 39) 36, d 41 (bg 38 40) 36, a 42 (ko 36 41), am 43 42, d 44 (l 4 2) 43, d 45 (f 4 3) 43, d 46 (k 45) 43, d 47 (f 5 3) 43, d 48 (k 47) 43, r 49 (c 30 [44, 46, 48]) 43, r 50 (nt 49) 43, a 51 (ko 43 50), am 52 51, d 53 (f 6 3) 52, d 54 (k 53) 52, d 55 (le 54) 52, d 56 (m 5) 52, d 57 (n 55 56) 52, a 58 (ko 52 57), am 59 58, d 60 (f 7 3) 59, d 61 (k 60) 59, d 62 (blj 61 0) 59, a 63 (ko 59 62), am 64 63, d 65 (f 7 3) 64, d 66 (k 65) 64, d 67 (f 2 2) 64, d 68 (k 67) 64, d 69 (bh 66 68) 64, a 70 (ko 64 69), am 71 70, d 72 (l 12 3) 71, d 73 (m 5) 71, r 74 (c 31 [72, 73]) 71, r 75 (nt 74) 71, a 76 (ko 71 75)] [2, 3, 5, 76]
 (.cond (.s 76) (rs [o 4 (.mv (.c w))] [4]
 (.ret [4])) .skip))
 (rp (some []) [of 77 0 3, o 78 (k 77), of 79 2 3, o 80 (k 79), om 81 5, o 82 (.bin .rem (.s 80) (.s 81)), o 83 (q 78 82), om 6 83] [2, 3, 5, 6]
 (.seq (rs [of 84 1 3, o 85 (k 84)] [2, 3, 5, 6, 85]
 (.block 0 (rs [o 87 (qj 85 1), om 86 87] [2, 3, 5, 6, 85, 86]
 (.cond (.s 86) (.seq (ss [a 88 (f 3 3), a 89 (k 88), a 90 (f 2 3), a 91 (k 90), a 92 (n 89 91), am 93 92, d 94 (f 9 3) 93, d 95 (k 94) 93, d 96 (le 95) 93, d 97 (f 10 3) 93, d 98 (k 97) 93, d 99 (le 98) 93, d 100 (ba 96 99) 93, d 101 (f 11 3) 93, d 102 (k 101) 93, d 103 (le 102) 93, d 104 (ba 100 103) 93, d 105 (bgj 104 0) 93, a 106 (ko 93 105), am 107 106, d 108 (m 6) 107, d 109 (m 108) 107, b 110 (f 7 3) 109, b 111 (k 110) 109, b 112 (nj 111 0) 109, d 113 (ka 109 112) 107, a 114 (ko 107 113), am 115 114, d 116 (m 6) 115, d 117 (nt 116) 115, d 118 (m 117) 115, b 119 (f 8 3) 118, b 120 (k 119) 118, b 121 (le 120) 118, b 122 (bgj 121 0) 118, d 123 (ka 118 122) 115, a 124 (ko 115 123)] [3, 124]
 (.cond (.s 124) (rs [o 4 (.mv (.c w))] [4]
 (.ret [4])) .skip))
 (.seq (rs [o 7 (.mv (j 0))] [3, 7]
 (.block 1 (.loop xf_ref09_may_k0 xf_ref09_may_b0)))
 (rs [o 4 (.mv (.c v))] [4]
 (.ret [4])))) (rs [o 152 (qj 85 2), om 151 152] [2, 3, 5, 6, 85, 151]
 (.cond (.s 151) (.seq (ss [a 153 (f 3 3), a 154 (k 153), a 155 (f 2 3), a 156 (k 155), a 157 (q 154 156), am 158 157, d 159 (f 8 3) 158, d 160 (k 159) 158, d 161 (le 160) 158, d 162 (f 11 3) 158, d 163 (k 162) 158, d 164 (le 163) 158, d 165 (ba 161 164) 158, d 166 (bgj 165 0) 158, a 167 (ko 158 166), am 168 167, d 169 (m 6) 168, d 170 (nt 169) 168, d 171 (m 170) 168, b 172 (f 10 3) 171, b 173 (k 172) 171, b 174 (le 173) 171, b 175 (bgj 174 0) 171, d 176 (ka 171 175) 168, a 177 (ko 168 176), am 178 177, d 179 (f 10 3) 178, d 180 (k 179) 178, d 181 (le 180) 178, d 182 (f 0 2) 178, d 183 (k 182) 178, d 184 (bh 181 183) 178, a 185 (ko 178 184)] [2, 3, 185]
 (.cond (.s 185) (rs [o 4 (.mv (.c w))] [4]
 (.ret [4])) .skip))
 (.seq (rs [o 8 (.mv (j 0))] [2, 3, 8]
 (.block 3 (.loop xf_ref09_may_k1 xf_ref09_may_b1)))
 (rs [o 4 (.mv (.c v))] [4]
 (.ret [4])))) (rs [o 218 (qj 85 3), om 217 218] [2, 3, 5, 217]
 (.cond (.s 217) (rs [ol 219 4 2, ol 220 12 3, om 221 5, o 222 (c 32 [219, 220, 221]), om 4 222] [4]
 (.ret [4])) .skip))))))))
 (rs [o 4 (.mv (.c w))] [4]
 (.ret [4])))))))⟩

def xf_change_handle : XFunc := ⟨none, true, 4, [.cell 8 (some 12), .tmp 9, .tmp 10], (rs [o 4 (bx 0), o 5 (bx 1), o 6 (bx 2), o 8 (.alloc l1), o 9 (.mv (.c (.nil 62 19 false))), o 10 (.mv (j 0))] [3, 4, 5, 6, 8]
 (rs [ol 16 4 4, ol 17 12 5, o 18 (c 22 [16, 17]), om 11 18] [3, 4, 5, 6, 8, 11]
 (.seq (ss [am 19 11, a 20 (qj 19 0), am 21 20, b 22 (f 0 6) 21, b 23 (k 22) 21, bb 24 3 21, b 25 (n 23 24) 21, a 26 (ka 21 25)] [3, 4, 5, 6, 8, 11, 26]
 (.cond (.s 26) (.reg [o 11 (.mv (j 70))] none [3, 4, 5, 6, 8, 11]) .skip))
 (.seq (rs [om 27 11, o 28 (qj 27 0)] [3, 4, 5, 6, 8, 11, 28]
 (.cond (.s 28) (.reg [ol 29 4 4, ol 30 18 6, o 31 (c 33 [29, 30]), om 11 31] none [3, 4, 5, 6, 8, 11]) .skip))
 (.seq (rs [om 32 11, o 33 (nj 32 0)] [3, 4, 5, 6, 8, 11, 33]
 (.cond (.s 33) (rs [o 34 (.build l1 []), om 35 11, p (t 12 8 34), o 9 (.mv (.c (.nil 62 19 false))), om 10 35] [8, 9, 10]
 (.ret [8, 9, 10])) .skip))
 (rs [ol 37 4 4, ol 38 12 5, ol 39 18 6, o 40 (c 34 [37, 38, 39]), om 36 40, o 41 (e 36 0), o 42 (e 36 1), o 43 (e 36 2), o 12 (.alloc l1), p (t 12 12 41), om 13 42, om 14 43] [3, 4, 6, 8, 12, 13]
 (rs [ol 44 4 4, ol 45 12 12, o 46 (.build l6 [(0, 4, (.s 44)), (4, 12, (.s 45))]), ol 47 18 6, o 48 (.build [z, z, z, w, z, z, z, z, (.nil 50 5 true), z, (.nil 55 2 true), z, (.nil 83 4 true), (.nil 108 3 true), (.nil 85 6 false), (.nil 110 6 false), (.nil 62 19 false), z, z, z, z, z, z, z, x, z, z, x, z, z, z, y, y, (.nil 50 5 true), (.nil 55 2 true)] [(0, 17, (.s 46)), (17, 18, (.s 47))]), o 49 (bx 48), om 15 49] [3, 8, 12, 13, 15]
 (.seq (ss [am 50 13, am 51 50, b 52 (f 1 12) 51, b 53 (k 52) 51, b 54 (nj 53 3) 51, a 55 (ka 51 54)] [3, 8, 15, 55]
 (.cond (.s 55) (.reg [o 56 (c 35 []), om 57 3, o 58 (bsj 57 6), o 59 (.idx none 1 3 (.s 56) (.s 58)), om 60 15, o 61 (.call (.s 59) [(.s 60)])] none [8, 15]) .skip))
 (rp (some [(9, 10)]) [om 62 15, o 63 (nc 62), of 64 0 63, of 65 4 64, ol 66 12 65, om 67 15, o 68 (nc 67), of 69 0 68, of 70 16 69, o 71 (k 70), p (t 12 8 66), om 9 71, o 10 (.mv (j 0))] [8, 9, 10]
 (.ret [8, 9, 10]))))))))))⟩

def xf_core_Check : XFunc := ⟨none, true, 2, [.tmp 4], (rs [o 2 (bx 0), o 3 (bx 1), o 4 (.mv (j 0))] [2, 3]
 (.seq (rs [ol 8 4 2, o 9 (c 18 [8]), om 5 9] [2, 3, 5]
 (rs [om 10 5, o 11 (nj 10 0)] [2, 3, 5, 11]
 (.cond (.s 11) (rs [om 12 5, om 4 12] [4]
 (.ret [4])) .skip)))
 (rs [ol 13 4 2, o 14 (c 5 [13]), om 6 14] [2, 3, 6]
 (.seq (ss [a 15 (f 0 3), a 16 (k 15), a 17 (blj 16 0), am 18 17, d 19 (f 0 3) 18, d 20 (k 19) 18, d 21 (m 6) 18, d 22 (bh 20 21) 18, a 23 (ko 18 22), am 24 23, d 25 (f 2 3) 24, d 26 (k 25) 24, d 27 (blj 26 0) 24, a 28 (ko 24 27), am 29 28, d 30 (f 2 3) 29, d 31 (k 30) 29, d 32 (bgj 31 4294967296) 29, a 33 (ko 29 32), am 34 33, d 35 (f 3 3) 34, d 36 (k 35) 34, d 37 (blj 36 0) 34, a 38 (ko 34 37), am 39 38, d 40 (f 3 3) 39, d 41 (k 40) 39, d 42 (f 2 3) 39, d 43 (k 42) 39, d 44 (bg 41 43) 39, a 45 (ko 39 44), am 46 45, d 47 (f 7 3) 46, d 48 (k 47) 46, d 49 (blj 48 0) 46, a 50 (ko 46 49), am 51 50, d 52 (f 7 3) 51, d 53 (k 52) 51, d 54 (f 2 2) 51, d 55 (k 54) 51, d 56 (bh 53 55) 51, a 57 (ko 51 56), am 58 57, d 59 (f 6 3) 58, d 60 (k 59) 58, d 61 (le 60) 58, d 62 (m 6) 58, d 63 (n 61 62) 58, a 64 (ko 58 63), am 65 64, d 66 (l 4 2) 65, d 67 (f 4 3) 65, d 68 (k 67) 65, d 69 (f 5 3) 65, d 70 (k 69) 65, r 71 (c 36 [66, 68, 70]) 65, r 72 (nt 71) 65, a 73 (ko 65 72), am 74 73, d 75 (l 12 3) 74, r 76 (c 37 [75]) 74, r 77 (nt 76) 74, a 78 (ko 74 77)] [2, 3, 78]
 (.cond (.s 78) (rs [o 4 (.mv (j 2))] [4]
 (.ret [4])) .skip))
 (rs [o 7 (.mv (.c w))] [2, 3, 7]
 (.seq (rs [of 79 1 3, o 80 (k 79)] [2, 3, 7, 80]
 (.block 0 (rs [o 82 (qj 80 1), om 81 82] [2, 3, 7, 80, 81]
 (.cond (.s 81) (.reg [ol 83 4 2, ol 84 12 3, o 85 (c 38 [83, 84]), om 7 85] none [7]) (rs [o 87 (qj 80 2), om 86 87] [2, 3, 7, 80, 86]
 (.cond (.s 86) (.reg [ol 88 4 2, ol 89 12 3, o 90 (c 39 [88, 89]), om 7 90] none [7]) (rs [o 92 (qj 80 3), om 91 92] [2, 3, 7, 91]
 (.cond (.s 91) (.reg [ol 93 4 2, ol 94 12 3, o 95 (c 40 [93, 94]), om 7 95] none [7]) .skip))))))))
 (.seq (rs [om 96 7, o 97 (nt 96)] [97]
 (.cond (.s 97) (rs [o 4 (.mv (j 2))] [4]
 (.ret [4])) .skip))
 (rs [o 4 (.mv (j 0))] [4]
 (.ret [4])))))))))⟩

def xf_change_frame_all : XFunc := ⟨none, false, 2, [], (rs [o 3 (bx 1)] [0, 3]
 (rp (some []) [om 7 0, o 8 (nc 7), of 9 0 8, ol 10 4 9, om 11 0, o 12 (nc 11), of 13 4 12, ol 14 12 13, ol 15 18 3, o 16 (c 41 [10, 14, 15]), om 6 16, o 17 (e 6 0), o 18 (e 6 1), om 4 17, om 5 18] [0, 4]
 (.reg [om 19 0, om 20 0, o 21 (nc 20), of 22 16 21, o 23 (k 22), om 24 4, o 25 (.app 62 19 200 false (.s 23) (.s 24)), o 26 (nc 19), of 27 16 26, p (t 1 27 25)] none [])))⟩

def xf_tally_Marked : XFunc := ⟨none, true, 2, [.tmp 4], (rs [o 4 (.mv (.c w))] [0, 1]
 (rs [om 5 1, o 6 (le 5), om 7 0, o 8 (bh 6 7), om 4 8] [4]
 (.ret [4])))⟩

def xf_change_frame_ballot : XFunc := ⟨none, false, 1, [], (rs [om 3 0, o 4 (.peek 42 [(.s 3)]), om 2 4] [0, 2]
 (rs [om 5 2, om 6 0, o 7 (nc 6), of 8 4 7, of 9 0 8, o 10 (k 9), o 11 (n 5 10)] [0, 2, 11]
 (.cond (.s 11) (.reg [om 12 0, om 13 2, om 14 0, o 15 (nc 14), of 16 4 15, of 17 2 16, o 18 (k 17), om 19 0, o 20 (nc 19), of 21 4 20, of 22 3 21, o 23 (k 22), om 24 0, o 25 (nc 24), of 26 4 25, of 27 5 26, o 28 (k 27), om 29 0, o 30 (nc 29), of 31 4 30, of 32 4 31, o 33 (k 32), o 34 (.build l4 [(0, 1, (j 7)), (2, 1, (.s 18)), (13, 1, (.s 23)), (12, 1, (.s 28)), (16, 1, (.s 33))]), o 35 (c 43 [12, 13, 34])] (some []) []) .skip)))⟩

def xf_core_Carry_k0 : List (Nat × Option (Nat × Nat × Bool)) := [(4, none), (6, none), (10, none), (11, some (62, 19, false)), (63, some (105, 7, true)), (64, none), (65, none)]
def xf_core_Carry_b0 : XCode := (rs [o 66 (bl 65 64)] [4, 6, 10, 11, 63, 64, 65, 66]
 (.seq (.cond (.s 66) .skip (.exit 0 [6, 10, 11]))
 (.seq (.block 1 (rs [o 67 (ia 7 63 65), ol 68 7 67, o 15 (.alloc [z, z, z, w, z, z, x]), p (t 7 15 68)] [4, 6, 10, 11, 15, 63, 64, 65]
 (rs [of 69 0 4, o 70 (k 69), of 71 2 4, o 72 (k 71), of 73 2 15, o 74 (k 73), of 75 0 15, o 76 (k 75), of 77 1 15, o 78 (k 77), o 79 (.build [z, z, z, z, x] [(0, 1, (.s 76)), (1, 1, (.s 78))]), of 80 4 15, ol 81 3 80, o 82 (.build l4 [(0, 1, (j 2)), (1, 1, (.s 70)), (2, 1, (.s 72)), (11, 1, (.s 74)), (3, 5, (.s 79)), (8, 3, (.s 81))]), o 16 (.alloc l4), p (t 18 16 82)] [4, 6, 10, 11, 15, 16, 63, 64, 65]
 (.reg [om 83 11, of 84 0 15, o 85 (k 84), o 86 (.bin .add (j 7) (.s 85)), ol 87 18 16, o 88 (.build l3 [(0, 1, (.s 86)), (1, 18, (.s 87))]), o 89 (.bsl 62 19 false 1 l3 [(0, 19, (.s 88))]), o 90 (.app 62 19 200 false (.s 83) (.s 89)), om 11 90] none [4, 6, 10, 11, 63, 64, 65]))))
 (.reg [o 91 (baj 65 1), om 65 91] none [4, 6, 10, 11, 63, 64, 65]))))
def xf_core_Carry : XFunc := ⟨none, true, 3, [.cell 6 (some 12), .tmp 7, .tmp 8], (rs [o 3 (bx 0), o 4 (bx 1), o 6 (.alloc l1), o 7 (.mv (.c (.nil 62 19 false))), o 8 (.mv (j 0))] [2, 3, 4, 6]
 (rs [ol 17 4 3, ol 18 12 4, o 19 (c 22 [17, 18]), om 9 19] [2, 3, 4, 6, 9]
 (.seq (ss [am 20 9, a 21 (qj 20 0), am 22 21, bb 23 2 22, b 24 (blj 23 0) 22, bb 25 24 22, d 26 (m 2) 25, d 27 (f 4 4) 25, d 28 (k 27) 25, d 29 (le 28) 25, d 30 (bg 26 29) 25, b 31 (ko 25 30) 22, a 32 (ka 22 31)] [2, 3, 4, 6, 9, 32]
 (.cond (.s 32) (.reg [o 9 (.mv (j 3))] none [2, 3, 4, 6, 9]) .skip))
 (.seq (rs [om 33 9, o 34 (nj 33 0)] [2, 3, 4, 6, 9, 34]
 (.cond (.s 34) (rs [o 35 (.build l1 []), om 36 9, p (t 12 6 35), o 7 (.mv (.c (.nil 62 19 false))), om 8 36] [6, 7, 8]
 (.ret [6, 7, 8])) .skip))
 (rs [ol 37 12 4, o 38 (c 44 [37]), o 10 (.alloc l1), p (t 12 10 38)] [2, 3, 4, 6, 10]
 (.seq (rs [om 39 2, of 40 5 4, o 41 (k 40), o 42 (bm 39 41)] [2, 3, 4, 6, 10, 42]
 (.cond (.s 42) (rs [ol 43 12 10, p (t 12 6 43), o 7 (.mv (.c (.nil 62 19 false))), o 8 (.mv (j 0))] [6, 7, 8]
 (.ret [6, 7, 8])) .skip))
 (rs [om 44 2, of 45 5 10, p (t 1 45 44)] [2, 3, 4, 6, 10]
 (rs [o 11 (.mv (.c (.nil 62 19 false)))] [2, 3, 4, 6, 10, 11]
 (.seq (ss [a 46 (f 1 4), a 47 (k 46), a 48 (qj 47 1), am 49 48, b 50 (l 4 3) 49, b 51 (l 12 4) 49, u 52 (c 45 [50, 51]) 49, a 53 (ka 49 52)] [2, 4, 6, 10, 11, 53]
 (.cond (.s 53) (rs [of 55 4 4, o 56 (k 55), of 57 5 4, o 58 (k 57), om 59 2, o 60 (c 46 [56, 58, 59]), om 54 60, o 61 (e 54 0), o 62 (e 54 1), om 12 61, om 13 62] [4, 6, 10, 11, 12]
 (rs [om 63 12, o 64 (le 63), o 65 (.mv (j 0))] [4, 6, 10, 11, 63, 64, 65]
 (.block 0 (.loop xf_core_Carry_k0 xf_core_Carry_b0)))) .skip))
 (rs [ol 92 12 10, om 93 11, p (t 12 6 92), om 7 93, o 8 (.mv (j 0))] [6, 7, 8]
 (.ret [6, 7, 8])))))))))))⟩

def xf_change_frame_goes : XFunc := ⟨none, false, 2, [], (rs [om 4 0, om 5 0, om 6 0, om 7 1, o 8 (nc 4), of 9 4 8, of 10 1 9, p (.store 1 (.s 10) (j 2)), o 11 (nc 5), of 12 4 11, of 13 2 12, p (t 1 13 7), o 14 (nc 6), of 15 4 14, of 16 7 15, p (.store 1 (.s 16) (j 0))] [0, 1]
 (rs [om 17 0, o 18 (c 47 [17])] [0, 1]
 (.reg [om 19 0, om 20 1, o 21 (.build l4 [(0, 1, (j 6)), (2, 1, (.s 20))]), o 22 (c 23 [19, 21])] none [])))⟩

def xf_ref07_Config : XFunc := ⟨none, true, 1, [.tmp 2], (rs [o 1 (bx 0), o 2 (.mv (.c w))] [1]
 (ss [a 3 (f 0 1), a 4 (k 3), a 5 (bhj 4 1), am 6 5, b 7 (f 0 1) 6, b 8 (k 7) 6, b 9 (bmj 8 3) 6, a 10 (ka 6 9), am 11 10, b 12 (f 1 1) 11, b 13 (k 12) 11, b 14 (bhj 13 1) 11, a 15 (ka 11 14), am 16 15, b 17 (f 1 1) 16, b 18 (k 17) 16, b 19 (bmj 18 256) 16, a 20 (ka 16 19), am 21 20, b 22 (f 2 1) 21, b 23 (k 22) 21, b 24 (bhj 23 6) 21, a 25 (ka 21 24), am 26 25, b 27 (f 2 1) 26, b 28 (k 27) 26, b 29 (bmj 28 100) 26, a 30 (ka 26 29), am 2 30] [2]
 (.ret [2])))⟩

def xf_ref09_Nodes : XFunc := ⟨none, true, 1, [.tmp 2], (rs [o 1 (bx 0), o 2 (.mv (j 0))] [1]
 (.seq (rs [ol 3 4 1, o 4 (c 19 [3]), o 5 (nj 4 0)] [1, 5]
 (.cond (.s 5) (rs [o 2 (.mv (j 0))] [2]
 (.ret [2])) .skip))
 (rs [of 6 0 1, o 7 (k 6), o 8 (.bin .mul (j 2) (.s 7)), o 9 (baj 8 1), om 2 9] [2]
 (.ret [2]))))⟩

def xf_ref09_logged : XFunc := ⟨none, true, 3, [.tmp 6], (rs [o 3 (bx 0), o 6 (.mv (.c w))] [1, 2, 3]
 (ss [am 7 1, a 8 (f 1 3), a 9 (k 8), a 10 (c 48 [7, 9]), a 11 (qj 10 0), am 12 11, bb 13 2 12, b 14 (bhj 13 0) 12, a 15 (ka 12 14), am 16 15, bb 17 2 16, bb 18 1 16, b 19 (le 18) 16, b 20 (bm 17 19) 16, a 21 (ka 16 20), am 6 21] [6]
 (.ret [6])))⟩

def xf_ref09_votes_k0 : List (Nat × Option (Nat × Nat × Bool)) := [(1, none), (2, none), (5, some (3, 1, true)), (6, some (3, 1, true)), (7, some (3, 1, true)), (8, some (3, 1, true)), (9, some (55, 2, true)), (10, some (55, 2, true)), (11, some (55, 2, true)), (12, some (55, 2, true)), (13, none)]
def xf_ref09_votes_b0 : XCode := (.seq (rs [om 17 13, of 18 8 2, o 19 (k 18), o 20 (le 19), o 21 (bl 17 20)] [1, 2, 5, 6, 7, 8, 9, 10, 11, 12, 13, 21]
 (.cond (.s 21) .skip (.exit 0 [1, 2, 5, 6, 7, 8, 9, 10, 11, 12])))
 (.seq (.block 1 (rs [om 24 5, of 25 8 2, o 26 (k 25), om 27 13, o 28 (ia 4 26 27), of 29 0 28, o 30 (k 29), o 31 (.bsl 3 1 true 1 [z] [(0, 1, (.s 30))]), o 32 (.app 3 1 8 true (.s 24) (.s 31)), om 5 32] [1, 2, 5, 6, 7, 8, 9, 10, 11, 12, 13]
 (.reg [om 33 9, of 34 8 2, o 35 (k 34), om 36 13, o 37 (ia 4 35 36), of 38 1 37, ol 39 2 38, o 40 (.bsl 55 2 true 1 [y, y] [(0, 2, (.s 39))]), o 41 (.app 55 2 16 true (.s 33) (.s 40)), om 9 41] none [1, 2, 5, 6, 7, 8, 9, 10, 11, 12, 13])))
 (.reg [om 22 13, o 23 (baj 22 1), om 13 23] none [1, 2, 5, 6, 7, 8, 9, 10, 11, 12, 13])))
def xf_ref09_votes_k1 : List (Nat × Option (Nat × Nat × Bool)) := [(1, none), (2, none), (5, some (3, 1, true)), (6, some (3, 1, true)), (7, some (3, 1, true)), (8, some (3, 1, true)), (9, some (55, 2, true)), (10, some (55, 2, true)), (11, some (55, 2, true)), (12, some (55, 2, true)), (14, none)]
def xf_ref09_votes_b1 : XCode := (.seq (rs [om 42 14, of 43 9 2, o 44 (k 43), o 45 (le 44), o 46 (bl 42 45)] [1, 2, 5, 6, 7, 8, 9, 10, 11, 12, 14, 46]
 (.cond (.s 46) .skip (.exit 2 [1, 2, 5, 6, 7, 8, 9, 10, 11, 12])))
 (.seq (.block 3 (rs [om 49 6, of 50 9 2, o 51 (k 50), om 52 14, o 53 (ia 3 51 52), of 54 0 53, o 55 (k 54), o 56 (.bsl 3 1 true 1 [z] [(0, 1, (.s 55))]), o 57 (.app 3 1 8 true (.s 49) (.s 56)), om 6 57] [1, 2, 5, 6, 7, 8, 9, 10, 11, 12, 14]
 (.reg [om 58 10, of 59 9 2, o 60 (k 59), om 61 14, o 62 (ia 3 60 61), of 63 1 62, ol 64 2 63, o 65 (.bsl 55 2 true 1 [y, y] [(0, 2, (.s 64))]), o 66 (.app 55 2 16 true (.s 58) (.s 65)), om 10 66] none [1, 2, 5, 6, 7, 8, 9, 10, 11, 12, 14])))
 (.reg [om 47 14, o 48 (baj 47 1), om 14 48] none [1, 2, 5, 6, 7, 8, 9, 10, 11, 12, 14])))
def xf_ref09_votes_k2 : List (Nat × Option (Nat × Nat × Bool)) := [(1, none), (2, none), (5, some (3, 1, true)), (6, some (3, 1, true)), (7, some (3, 1, true)), (8, some (3, 1, true)), (9, some (55, 2, true)), (10, some (55, 2, true)), (11, some (55, 2, true)), (12, some (55, 2, true)), (15, none)]
def xf_ref09_votes_b2 : XCode := (.seq (rs [om 67 15, of 68 10 2, o 69 (k 68), o 70 (le 69), o 71 (bl 67 70)] [1, 2, 5, 6, 7, 8, 9, 10, 11, 12, 15, 71]
 (.cond (.s 71) .skip (.exit 4 [1, 2, 5, 6, 7, 8, 9, 10, 11, 12])))
 (.seq (.block 5 (rs [om 74 7, of 75 10 2, o 76 (k 75), om 77 15, o 78 (ia 6 76 77), of 79 0 78, o 80 (k 79), o 81 (.bsl 3 1 true 1 [z] [(0, 1, (.s 80))]), o 82 (.app 3 1 8 true (.s 74) (.s 81)), om 7 82] [1, 2, 5, 6, 7, 8, 9, 10, 11, 12, 15]
 (.reg [om 83 11, of 84 10 2, o 85 (k 84), om 86 15, o 87 (ia 6 85 86), of 88 1 87, ol 89 2 88, o 90 (.bsl 55 2 true 1 [y, y] [(0, 2, (.s 89))]), o 91 (.app 55 2 16 true (.s 83) (.s 90)), om 11 91] none [1, 2, 5, 6, 7, 8, 9, 10, 11, 12, 15])))
 (.reg [om 72 15, o 73 (baj 72 1), om 15 73] none [1, 2, 5, 6, 7, 8, 9, 10, 11, 12, 15])))
def xf_ref09_votes_k3 : List (Nat × Option (Nat × Nat × Bool)) := [(1, none), (2, none), (5, some (3, 1, true)), (6, some (3, 1, true)), (7, some (3, 1, true)), (8, some (3, 1, true)), (9, some (55, 2, true)), (10, some (55, 2, true)), (11, some (55, 2, true)), (12, some (55, 2, true)), (16, none)]
def xf_ref09_votes_b3 : XCode := (.seq (rs [om 92 16, of 93 11 2, o 94 (k 93), o 95 (le 94), o 96 (bl 92 95)] [1, 2, 5, 6, 7, 8, 9, 10, 11, 12, 16, 96]
 (.cond (.s 96) .skip (.exit 6 [1, 2, 5, 6, 7, 8, 9, 10, 11, 12])))
 (.seq (.block 7 (rs [om 99 8, of 100 11 2, o 101 (k 100), om 102 16, o 103 (ia 6 101 102), of 104 0 103, o 105 (k 104), o 106 (.bsl 3 1 true 1 [z] [(0, 1, (.s 105))]), o 107 (.app 3 1 8 true (.s 99) (.s 106)), om 8 107] [1, 2, 5, 6, 7, 8, 9, 10, 11, 12, 16]
 (.reg [om 108 12, of 109 11 2, o 110 (k 109), om 111 16, o 112 (ia 6 110 111), of 113 1 112, ol 114 2 113, o 115 (.bsl 55 2 true 1 [y, y] [(0, 2, (.s 114))]), o 116 (.app 55 2 16 true (.s 108) (.s 115)), om 12 116] none [1, 2, 5, 6, 7, 8, 9, 10, 11, 12, 16])))
 (.reg [om 97 16, o 98 (baj 97 1), om 16 98] none [1, 2, 5, 6, 7, 8, 9, 10, 11, 12, 16])))
def xf_ref09_votes : XFunc := ⟨none, true, 2, [.tmp 4], (rs [o 2 (bx 0), o 4 (.mv (.c w))] [1, 2]
 (rs [o 5 (.mv (.c (.nil 3 1 true))), o 6 (.mv (.c (.nil 3 1 true))), o 7 (.mv (.c (.nil 3 1 true))), o 8 (.mv (.c (.nil 3 1 true)))] [1, 2, 5, 6, 7, 8]
 (rs [o 9 (.mv (.c (.nil 55 2 true))), o 10 (.mv (.c (.nil 55 2 true))), o 11 (.mv (.c (.nil 55 2 true))), o 12 (.mv (.c (.nil 55 2 true)))] [1, 2, 5, 6, 7, 8, 9, 10, 11, 12]
 (.seq (rs [o 13 (.mv (j 0))] [1, 2, 5, 6, 7, 8, 9, 10, 11, 12, 13]
 (.block 0 (.loop xf_ref09_votes_k0 xf_ref09_votes_b0)))
 (.seq (rs [o 14 (.mv (j 0))] [1, 2, 5, 6, 7, 8, 9, 10, 11, 12, 14]
 (.block 2 (.loop xf_ref09_votes_k1 xf_ref09_votes_b1)))
 (.seq (rs [o 15 (.mv (j 0))] [1, 2, 5, 6, 7, 8, 9, 10, 11, 12, 15]
 (.block 4 (.loop xf_ref09_votes_k2 xf_ref09_votes_b2)))
 (.seq (rs [o 16 (.mv (j 0))] [1, 2, 5, 6, 7, 8, 9, 10, 11, 12, 16]
 (.block 6 (.loop xf_ref09_votes_k3 xf_ref09_votes_b3)))
 (ss [a 117 (l 12 2), am 118 1, am 119 5, am 120 9, a 121 (c 49 [117, 118, 119, 120]), am 122 121, b 123 (l 12 2) 122, bb 124 1 122, bb 125 6 122, bb 126 10 122, u 127 (c 49 [123, 124, 125, 126]) 122, a 128 (ka 122 127), am 129 128, b 130 (l 12 2) 129, bb 131 1 129, bb 132 7 129, bb 133 11 129, u 134 (c 49 [130, 131, 132, 133]) 129, a 135 (ka 129 134), am 136 135, b 137 (l 12 2) 136, bb 138 1 136, bb 139 8 136, bb 140 12 136, u 141 (c 49 [137, 138, 139, 140]) 136, a 142 (ka 136 141), am 4 142] [4]
 (.ret [4])))))))))⟩

def xf_ref09_recovering_k0 : List (Nat × Option (Nat × Nat × Bool)) := [(2, none), (3, none), (4, none), (7, none)]
def xf_ref09_recovering_b0 : XCode := (.seq (rs [om 47 7, of 48 11 4, o 49 (k 48), o 50 (le 49), o 51 (bl 47 50)] [2, 3, 4, 7, 51]
 (.cond (.s 51) .skip (.exit 0 [])))
 (.seq (.block 1 (rs [of 54 11 4, o 55 (k 54), om 56 7, o 57 (ia 6 55 56), ol 58 6 57, o 8 (.alloc l2), p (t 6 8 58)] [2, 3, 4, 7, 8]
 (sp (some []) [a 59 (f 3 8), a 60 (k 59), a 61 (blj 60 0), am 62 61, d 63 (f 3 8) 62, d 64 (k 63) 62, d 65 (bgj 64 4294967296) 62, a 66 (ko 62 65), am 67 66, d 68 (l 4 3) 67, d 69 (f 5 8) 67, d 70 (k 69) 67, d 71 (f 4 8) 67, d 72 (k 71) 67, r 73 (c 30 [68, 70, 72]) 67, r 74 (nt 73) 67, a 75 (ko 67 74), am 76 75, d 77 (f 0 8) 76, d 78 (k 77) 76, d 79 (f 3 8) 76, d 80 (k 79) 76, d 81 (m 2) 76, r 82 (.bin .rem (.s 80) (.s 81)) 76, r 83 (n 78 82) 76, r 84 (m 83) 76, b 85 (f 5 8) 84, b 86 (k 85) 84, b 87 (le 86) 84, b 88 (bgj 87 0) 84, r 89 (ka 84 88) 76, a 90 (ko 76 89)] [2, 3, 4, 7, 90]
 (.cond (.s 90) (rs [o 6 (.mv (.c w))] [6]
 (.ret [6])) .skip))))
 (.reg [om 52 7, o 53 (baj 52 1), om 7 53] none [2, 3, 4, 7])))
def xf_ref09_recovering : XFunc := ⟨none, true, 3, [.tmp 6], (rs [o 3 (bx 0), o 4 (bx 1), o 6 (.mv (.c w))] [2, 3, 4]
 (.seq (ss [a 9 (f 2 4), a 10 (k 9), a 11 (f 3 4), a 12 (k 11), a 13 (ba 10 12), a 14 (f 5 4), a 15 (k 14), a 16 (ba 13 15), a 17 (f 7 4), a 18 (k 17), a 19 (ba 16 18), a 20 (f 4 4), a 21 (k 20), a 22 (le 21), a 23 (ba 19 22), a 24 (f 8 4), a 25 (k 24), a 26 (le 25), a 27 (ba 23 26), a 28 (f 9 4), a 29 (k 28), a 30 (le 29), a 31 (ba 27 30), a 32 (f 10 4), a 33 (k 32), a 34 (le 33), a 35 (ba 31 34), a 36 (bgj 35 0), am 37 36, d 38 (f 6 4) 37, d 39 (k 38) 37, d 40 (f 0 4) 37, d 41 (k 40) 37, r 42 (ia 2 39 41) 37, r 43 (l 2 42) 37, d 44 (.build [y, y] []) 37, r 45 (.eqv false true [.i, .i] (.s 43) (.s 44)) 37, a 46 (ko 37 45)] [2, 3, 4, 46]
 (.cond (.s 46) (rs [o 6 (.mv (.c w))] [6]
 (.ret [6])) .skip))
 (.seq (rs [o 7 (.mv (j 0))] [2, 3, 4, 7]
 (.block 0 (.loop xf_ref09_recovering_k0 xf_ref09_recovering_b0)))
 (rs [o 6 (.mv (.c v))] [6]
 (.ret [6])))))⟩

def xf_message_Check : XFunc := ⟨none, true, 2, [.tmp 4], (rs [o 2 (bx 0), o 3 (bx 1), o 4 (.mv (j 0))] [2, 3]
 (.seq (rs [ol 8 4 2, o 9 (c 50 [8]), o 10 (nt 9)] [2, 3, 10]
 (.cond (.s 10) (rs [o 4 (.mv (j 1))] [4]
 (.ret [4])) .skip))
 (.seq (rs [of 11 0 3, o 12 (k 11), o 13 (c 51 [12]), o 14 (nt 13)] [2, 3, 14]
 (.cond (.s 14) (rs [o 4 (.mv (j 70))] [4]
 (.ret [4])) .skip))
 (rs [of 15 0 3, o 16 (k 15), o 17 (.aadr 10 15 (.c (.dptr usesD)) (.s 16)), ol 18 10 17, o 5 (.alloc l5), p (t 10 5 18)] [2, 3, 5]
 (.seq (ss [a 19 (l 18 3), a 20 (c 52 [19]), a 21 (nt 20), am 22 21, d 23 (l 4 2) 22, d 24 (l 18 3) 22, r 25 (c 53 [23, 24]) 22, r 26 (nt 25) 22, a 27 (ko 22 26)] [2, 3, 5, 27]
 (.cond (.s 27) (rs [o 4 (.mv (j 71))] [4]
 (.ret [4])) .skip))
 (.seq (rs [o 28 (.aadr 1 10 (.s 5) (j 6)), o 29 (k 28), om 30 29, g 31 (f 0 3) 30, g 32 (k 31) 30, g 33 (f 3 3) 30, g 34 (l 5 33) 30, g 35 (c 54 [32, 34]) 30, g 36 (nt 35) 30, o 37 (ka 30 36), om 38 37, h 39 (.aadr 1 10 (.s 5) (j 7)) 38, h 40 (k 39) 38, h 41 (m 40) 38, g 42 (f 8 3) 41, g 43 (l 3 42) 41, g 44 (c 55 [43]) 41, g 45 (nt 44) 41, g 46 (m 45) 41, h 47 (l 18 3) 46, h 48 (c 56 [47]) 46, h 49 (nt 48) 46, g 50 (ko 46 49) 41, h 51 (ka 41 50) 38, o 52 (ko 38 51), om 53 52, h 54 (.aadr 1 10 (.s 5) (j 9)) 53, h 55 (k 54) 53, h 56 (m 55) 53, g 57 (f 17 3) 56, g 58 (k 57) 56, g 59 (le 58) 56, g 60 (f 0 2) 56, g 61 (k 60) 56, g 62 (.bin .mul (j 2) (.s 61)) 56, g 63 (baj 62 1) 56, g 64 (n 59 63) 56, h 65 (ka 56 64) 53, o 66 (ko 53 65), om 67 66, h 68 (.aadr 1 10 (.s 5) (j 5)) 67, h 69 (k 68) 67, h 70 (m 69) 67, g 71 (f 14 3) 70, g 72 (l 2 71) 70, g 73 (.build [y, y] []) 70, g 74 (.eqv false true [.i, .i] (.s 72) (.s 73)) 70, h 75 (ka 70 74) 67, o 76 (ko 67 75)] [2, 3, 5, 76]
 (.cond (.s 76) (rs [o 4 (.mv (j 71))] [4]
 (.ret [4])) .skip))
 (.seq (rs [o 77 (.aadr 1 10 (.s 5) (j 8)), o 78 (k 77)] [2, 3, 78]
 (.cond (.s 78) (rs [of 80 16 3, o 81 (k 80), of 82 1 2, o 83 (k 82), o 84 (c 57 [81, 83]), om 79 84, o 85 (e 79 0), o 86 (e 79 1), om 6 85, om 7 86] [2, 3, 6]
 (rs [om 87 6, o 88 (nj 87 0)] [2, 3, 88]
 (.cond (.s 88) (rs [o 4 (.mv (j 71))] [4]
 (.ret [4])) .skip))) .skip))
 (.seq (sp (some []) [a 89 (f 0 3), a 90 (k 89), a 91 (qj 90 9), am 92 91, b 93 (f 17 3) 92, b 94 (k 93) 92, b 95 (f 1 3) 92, b 96 (k 95) 92, u 97 (ia 2 94 96) 92, u 98 (l 2 97) 92, b 99 (f 14 3) 92, b 100 (l 2 99) 92, u 101 (.eqv true true [.i, .i] (.s 98) (.s 100)) 92, a 102 (ka 92 101), am 103 102, d 104 (f 0 3) 103, d 105 (k 104) 103, d 106 (qj 105 10) 103, d 107 (m 106) 103, b 108 (f 16 3) 107, b 109 (k 108) 107, b 110 (le 109) 107, b 111 (bgj 110 0) 107, d 112 (ka 107 111) 103, r 113 (m 112) 103, b 114 (f 1 3) 113, b 115 (k 114) 113, b 116 (f 2 3) 113, b 117 (k 116) 113, b 118 (f 0 2) 113, b 119 (k 118) 113, b 120 (.bin .mul (j 2) (.s 119)) 113, b 121 (baj 120 1) 113, u 122 (.bin .rem (.s 117) (.s 121)) 113, u 123 (n 115 122) 113, r 124 (ka 113 123) 103, a 125 (ko 103 124)] [125]
 (.cond (.s 125) (rs [o 4 (.mv (j 71))] [4]
 (.ret [4])) .skip))
 (rs [o 4 (.mv (j 0))] [4]
 (.ret [4]))))))))))⟩

def xf_core_Admit : XFunc := ⟨none, true, 3, [.cell 6 (some 12), .tmp 7, .tmp 8], (rs [o 3 (bx 0), o 4 (bx 1), o 5 (bx 2), o 6 (.alloc l1), o 7 (.mv (.c w)), o 8 (.mv (j 0))] [3, 4, 5, 6]
 (rs [ol 11 4 3, ol 12 12 4, o 13 (c 22 [11, 12]), om 9 13] [3, 4, 5, 6, 9]
 (.seq (rs [om 14 9, o 15 (qj 14 0)] [3, 4, 5, 6, 9, 15]
 (.cond (.s 15) (.reg [ol 16 4 3, ol 17 18 5, o 18 (c 33 [16, 17]), om 9 18] none [3, 4, 5, 6, 9]) .skip))
 (.seq (rs [om 19 9, o 20 (nj 19 0)] [3, 4, 5, 6, 9, 20]
 (.cond (.s 20) (rs [o 21 (.build l1 []), om 22 9, p (t 12 6 21), o 7 (.mv (.c w)), om 8 22] [6, 7, 8]
 (.ret [6, 7, 8])) .skip))
 (rs [ol 23 12 4, o 24 (c 44 [23]), o 10 (.alloc l1), p (t 12 10 24)] [3, 4, 5, 6, 10]
 (.seq (rs [of 25 0 5, o 26 (k 25), o 27 (c 58 [26]), o 28 (nt 27)] [3, 4, 5, 6, 10, 28]
 (.cond (.s 28) (rs [ol 29 12 10, p (t 12 6 29), o 7 (.mv (.c v)), o 8 (.mv (j 0))] [6, 7, 8]
 (.ret [6, 7, 8])) .skip))
 (.seq (rs [of 30 1 5, o 31 (k 30), of 32 0 4, o 33 (k 32), o 34 (q 31 33)] [3, 4, 5, 6, 10, 34]
 (.cond (.s 34) (rs [ol 35 12 10, p (t 12 6 35), o 7 (.mv (.c w)), o 8 (.mv (j 0))] [6, 7, 8]
 (.ret [6, 7, 8])) .skip))
 (.seq (rs [of 36 3 3, o 37 (k 36)] [4, 5, 6, 10, 37]
 (.cond (.s 37) (rs [ol 38 12 10, p (t 12 6 38), o 7 (.mv (.c v)), o 8 (.mv (j 0))] [6, 7, 8]
 (.ret [6, 7, 8])) .skip))
 (.seq (sp (some []) [a 39 (f 6 4), a 40 (k 39), a 41 (f 1 5), a 42 (k 41), a 43 (f 17 5), a 44 (k 43), a 45 (.build [z, (.nil 55 2 true)] [(0, 1, (.s 42)), (1, 1, (.s 44))]), a 46 (c 59 [40, 45]), am 47 46, d 48 (f 17 5) 47, d 49 (k 48) 47, d 50 (f 0 4) 47, d 51 (k 50) 47, r 52 (ia 2 49 51) 47, r 53 (l 2 52) 47, d 54 (f 6 4) 47, d 55 (k 54) 47, d 56 (f 0 4) 47, d 57 (k 56) 47, r 58 (ia 2 55 57) 47, r 59 (l 2 58) 47, r 60 (c 60 [53, 59]) 47, r 61 (bgj 60 0) 47, a 62 (ko 47 61)] [4, 5, 6, 10, 62]
 (.cond (.s 62) (rs [ol 63 12 10, p (t 12 6 63), o 7 (.mv (.c w)), o 8 (.mv (j 0))] [6, 7, 8]
 (.ret [6, 7, 8])) .skip))
 (rs [of 65 6 4, o 66 (k 65), of 67 17 5, o 68 (k 67), o 69 (.bsl 30 1 false 2 [(.nil 55 2 true), (.nil 55 2 true)] [(0, 1, (.s 66)), (1, 1, (.s 68))]), o 70 (c 61 [69]), om 64 70, o 71 (e 64 0), o 72 (e 64 1), of 73 6 10, p (t 1 73 71)] [6, 10]
 (rs [of 74 8 10, o 75 (k 74), of 76 6 10, o 77 (k 76), o 78 (c 62 [75, 77]), of 79 8 10, p (t 1 79 78)] [6, 10]
 (rs [of 80 9 10, o 81 (k 80), of 82 6 10, o 83 (k 82), o 84 (c 63 [81, 83]), of 85 9 10, p (t 1 85 84)] [6, 10]
 (rs [of 86 10 10, o 87 (k 86), of 88 6 10, o 89 (k 88), o 90 (c 64 [87, 89]), of 91 10 10, p (t 1 91 90)] [6, 10]
 (rs [of 92 11 10, o 93 (k 92), of 94 6 10, o 95 (k 94), o 96 (c 65 [93, 95]), of 97 11 10, p (t 1 97 96)] [6, 10]
 (rs [ol 98 12 10, p (t 12 6 98), o 7 (.mv (.c v)), o 8 (.mv (j 0))] [6, 7, 8]
 (.ret [6, 7, 8]))))))))))))))))⟩

def xf_change_handlers : XFunc := ⟨none, true, 0, [.cell 0 (some 3)], (rs [o 0 (.alloc [(.dat .nilf), (.dat .nilf), (.dat .nilf)])] [0]
 (rs [o 1 (.build [(.dat .nilf), (.dat .nilf), (.dat .nilf)] [(0, 1, (.c (.fn (.func 66) [] []))), (1, 1, (.c (.fn (.func 67) [] []))), (2, 1, (.c (.fn (.func 68) [] [])))]), p (t 3 0 1)] [0]
 (.ret [0])))⟩

def xf_core_logged : XFunc := ⟨none, true, 3, [.tmp 6], (rs [o 3 (bx 0), o 6 (.mv (.c w))] [1, 2, 3]
 (rs [om 10 1, of 11 1 3, o 12 (k 11), o 13 (c 57 [10, 12]), om 9 13, o 14 (e 9 0), o 15 (e 9 1), om 7 14, om 8 15] [1, 2, 7]
 (ss [am 16 7, a 17 (qj 16 0), am 18 17, bb 19 2 18, b 20 (bhj 19 0) 18, a 21 (ka 18 20), am 22 21, bb 23 2 22, bb 24 1 22, b 25 (le 24) 22, b 26 (bm 23 25) 22, a 27 (ka 22 26), am 6 27] [6]
 (.ret [6]))))⟩

def xf_core_voted_k1 : List (Nat × Option (Nat × Nat × Bool)) := [(1, none), (3, none), (6, none), (10, none), (11, none), (14, some (135, 3, true)), (15, none), (16, none)]
def xf_core_voted_b1 : XCode := (rs [o 17 (bl 16 15)] [1, 3, 6, 10, 11, 14, 15, 16, 17]
 (.seq (.cond (.s 17) .skip (.exit 2 [1, 3, 10, 11]))
 (.seq (.block 3 (rs [o 18 (ia 3 14 16), ol 19 3 18, o 8 (.alloc l7), p (t 3 8 19)] [1, 3, 6, 8, 10, 11, 14, 15, 16]
 (.seq (sp (some []) [a 20 (f 0 8), a 21 (k 20), am 22 6, a 23 (bm 21 22), am 24 23, d 25 (f 0 8) 24, d 26 (k 25) 24, d 27 (f 6 1) 24, d 28 (k 27) 24, d 29 (le 28) 24, d 30 (bh 26 29) 24, a 31 (ko 24 30), am 32 31, d 33 (f 0 8) 32, d 34 (k 33) 32, d 35 (f 0 1) 32, d 36 (k 35) 32, d 37 (q 34 36) 32, a 38 (ko 32 37), am 39 38, d 40 (f 6 1) 39, d 41 (k 40) 39, d 42 (f 0 8) 39, d 43 (k 42) 39, r 44 (ia 2 41 43) 39, r 45 (l 2 44) 39, d 46 (f 1 8) 39, d 47 (l 2 46) 39, r 48 (.eqv true true [.i, .i] (.s 45) (.s 47)) 39, a 49 (ko 39 48)] [1, 3, 8, 10, 11, 14, 15, 16, 49]
 (.cond (.s 49) (rs [o 3 (.mv (.c w))] [3]
 (.exit 0 [3])) .skip))
 (.reg [of 50 0 8, o 51 (k 50), om 6 51] none [1, 3, 6, 10, 11, 14, 15, 16]))))
 (.reg [o 52 (baj 16 1), om 16 52] none [1, 3, 6, 10, 11, 14, 15, 16]))))
def xf_core_voted_k0 : List (Nat × Option (Nat × Nat × Bool)) := [(1, none), (3, none), (10, none), (11, none)]
def xf_core_voted_b0 : XCode := (rs [o 12 (blj 11 4)] [1, 3, 10, 11, 12]
 (.seq (.cond (.s 12) .skip (.exit 0 [3]))
 (.seq (.block 1 (rs [o 13 (.idx none 1 4 (.s 10) (.s 11)), om 5 13] [1, 3, 5, 10, 11]
 (rs [o 6 (.mv (j (-1)))] [1, 3, 5, 6, 10, 11]
 (rs [om 14 5, o 15 (le 14), o 16 (.mv (j 0))] [1, 3, 6, 10, 11, 14, 15, 16]
 (.block 2 (.loop xf_core_voted_k1 xf_core_voted_b1))))))
 (.reg [o 53 (baj 11 1), om 11 53] none [1, 3, 10, 11]))))
def xf_core_voted : XFunc := ⟨none, true, 1, [.tmp 2], (rs [o 1 (bx 0), o 2 (.mv (.c w))] [1]
 (rs [o 3 (.mv (.c v))] [1, 3]
 (.seq .skip
 (.seq (rs [ol 9 12 1, o 10 (c 69 [9]), o 11 (.mv (j 0))] [1, 3, 10, 11]
 (.block 0 (.loop xf_core_voted_k0 xf_core_voted_b0)))
 (rs [om 54 3, om 2 54] [2]
 (.ret [2]))))))⟩

def xf_core_normal_k0 : List (Nat × Option (Nat × Nat × Bool)) := [(3, none), (39, some (83, 4, true)), (40, none), (41, none)]
def xf_core_normal_b0 : XCode := (rs [o 42 (bl 41 40)] [3, 39, 40, 41, 42]
 (.seq (.cond (.s 42) .skip (.exit 0 [3]))
 (.seq (.block 1 (rs [o 43 (ia 4 39 41), ol 44 4 43, o 6 (.alloc l9), p (t 4 6 44)] [3, 6, 39, 40, 41]
 (ss [a 45 (f 3 6), a 46 (k 45), a 47 (blj 46 1), am 48 47, d 49 (f 3 6) 48, d 50 (k 49) 48, d 51 (f 4 3) 48, d 52 (k 51) 48, d 53 (le 52) 48, d 54 (bg 50 53) 48, a 55 (ko 48 54)] [3, 39, 40, 41, 55]
 (.cond (.s 55) (rs [o 4 (.mv (.c w))] [4]
 (.ret [4])) .skip))))
 (.reg [o 56 (baj 41 1), om 41 56] none [3, 39, 40, 41]))))
def xf_core_normal : XFunc := ⟨none, true, 2, [.tmp 4], (rs [o 2 (bx 0), o 3 (bx 1), o 4 (.mv (.c w))] [2, 3]
 (.seq (ss [a 7 (f 3 3), a 8 (k 7), a 9 (f 2 3), a 10 (k 9), a 11 (n 8 10), am 12 11, d 13 (f 9 3) 12, d 14 (k 13) 12, d 15 (le 14) 12, d 16 (bgj 15 0) 12, a 17 (ko 12 16), am 18 17, d 19 (f 10 3) 18, d 20 (k 19) 18, d 21 (le 20) 18, d 22 (bgj 21 0) 18, a 23 (ko 18 22), am 24 23, d 25 (f 11 3) 24, d 26 (k 25) 24, d 27 (le 26) 24, d 28 (bgj 27 0) 24, a 29 (ko 24 28)] [2, 3, 29]
 (.cond (.s 29) (rs [o 4 (.mv (.c w))] [4]
 (.ret [4])) .skip))
 (.seq (rs [ol 30 4 2, ol 31 12 3, o 32 (c 45 [30, 31]), o 33 (nt 32)] [3, 33]
 (.cond (.s 33) (rs [of 34 8 3, o 35 (k 34), o 36 (le 35), o 37 (qj 36 0), om 4 37] [4]
 (.ret [4])) .skip))
 (.seq (rs [of 38 8 3, o 39 (k 38), o 40 (le 39), o 41 (.mv (j 0))] [3, 39, 40, 41]
 (.block 0 (.loop xf_core_normal_k0 xf_core_normal_b0)))
 (rs [of 57 7 3, o 58 (k 57), o 59 (qj 58 0), om 4 59] [4]
 (.ret [4]))))))⟩

def xf_core_changing_k0 : List (Nat × Option (Nat × Nat × Bool)) := [(2, none), (3, none), (45, some (85, 6, false)), (46, none), (47, none)]
def xf_core_changing_b0 : XCode := (rs [o 48 (bl 47 46)] [2, 3, 45, 46, 47, 48]
 (.seq (.cond (.s 48) .skip (.exit 0 []))
 (.seq (.block 1 (rs [o 49 (ia 6 45 47), ol 50 6 49, o 6 (.alloc l2), p (t 6 6 50)] [2, 3, 6, 45, 46, 47]
 (ss [a 51 (f 3 6), a 52 (k 51), a 53 (blj 52 0), am 54 53, d 55 (f 3 6) 54, d 56 (k 55) 54, d 57 (f 2 3) 54, d 58 (k 57) 54, d 59 (bh 56 58) 54, a 60 (ko 54 59), am 61 60, d 62 (l 4 2) 61, d 63 (f 5 6) 61, d 64 (k 63) 61, d 65 (f 4 6) 61, d 66 (k 65) 61, r 67 (c 36 [62, 64, 66]) 61, r 68 (nt 67) 61, a 69 (ko 61 68)] [2, 3, 45, 46, 47, 69]
 (.cond (.s 69) (rs [o 4 (.mv (.c w))] [4]
 (.ret [4])) .skip))))
 (.reg [o 70 (baj 47 1), om 47 70] none [2, 3, 45, 46, 47]))))
def xf_core_changing : XFunc := ⟨none, true, 2, [.tmp 4], (rs [o 2 (bx 0), o 3 (bx 1), o 4 (.mv (.c w))] [2, 3]
 (.seq (ss [a 7 (f 3 3), a 8 (k 7), a 9 (f 2 3), a 10 (k 9), a 11 (bh 8 10), am 12 11, d 13 (f 8 3) 12, d 14 (k 13) 12, d 15 (le 14) 12, d 16 (bgj 15 0) 12, a 17 (ko 12 16), am 18 17, d 19 (f 11 3) 18, d 20 (k 19) 18, d 21 (le 20) 18, d 22 (bgj 21 0) 18, a 23 (ko 18 22), am 24 23, d 25 (f 10 3) 24, d 26 (k 25) 24, d 27 (le 26) 24, d 28 (f 0 2) 24, d 29 (k 28) 24, d 30 (bh 27 29) 24, a 31 (ko 24 30), am 32 31, d 33 (l 4 2) 32, d 34 (l 12 3) 32, r 35 (c 45 [33, 34]) 32, r 36 (nt 35) 32, r 37 (m 36) 32, b 38 (f 10 3) 37, b 39 (k 38) 37, b 40 (le 39) 37, b 41 (bgj 40 0) 37, r 42 (ka 37 41) 32, a 43 (ko 32 42)] [2, 3, 43]
 (.cond (.s 43) (rs [o 4 (.mv (.c w))] [4]
 (.ret [4])) .skip))
 (.seq (rs [of 44 10 3, o 45 (k 44), o 46 (le 45), o 47 (.mv (j 0))] [2, 3, 45, 46, 47]
 (.block 0 (.loop xf_core_changing_k0 xf_core_changing_b0)))
 (rs [o 4 (.mv (.c v))] [4]
 (.ret [4])))))⟩

def xf_core_recovering_k0 : List (Nat × Option (Nat × Nat × Bool)) := [(2, none), (60, some (110, 6, false)), (61, none), (62, none)]
def xf_core_recovering_b0 : XCode := (rs [o 63 (bl 62 61)] [2, 60, 61, 62, 63]
 (.seq (.cond (.s 63) .skip (.exit 0 []))
 (.seq (.block 1 (rs [o 64 (ia 6 60 62), ol 65 6 64, o 6 (.alloc l2), p (t 6 6 65)] [2, 6, 60, 61, 62]
 (sp (some [(19, 23)]) [a 66 (f 3 6), a 67 (k 66), a 68 (blj 67 0), am 69 68, d 70 (f 3 6) 69, d 71 (k 70) 69, d 72 (bgj 71 4294967296) 69, a 73 (ko 69 72), am 74 73, d 75 (l 4 2) 74, d 76 (f 5 6) 74, d 77 (k 76) 74, d 78 (f 4 6) 74, d 79 (k 78) 74, r 80 (c 36 [75, 77, 79]) 74, r 81 (nt 80) 74, a 82 (ko 74 81), am 83 82, d 84 (f 0 6) 83, d 85 (k 84) 83, d 86 (l 4 2) 83, d 87 (f 3 6) 83, d 88 (k 87) 83, r 89 (c 8 [86, 88]) 83, r 90 (n 85 89) 83, r 91 (m 90) 83, b 92 (f 5 6) 91, b 93 (k 92) 91, b 94 (le 93) 91, b 95 (bgj 94 0) 91, r 96 (ka 91 95) 83, a 97 (ko 83 96)] [2, 60, 61, 62, 97]
 (.cond (.s 97) (rs [o 4 (.mv (.c w))] [4]
 (.ret [4])) .skip))))
 (.reg [o 98 (baj 62 1), om 62 98] none [2, 60, 61, 62]))))
def xf_core_recovering : XFunc := ⟨none, true, 2, [.tmp 4], (rs [o 2 (bx 0), o 3 (bx 1), o 4 (.mv (.c w))] [2, 3]
 (.seq (ss [a 7 (f 2 3), a 8 (k 7), a 9 (nj 8 0), am 10 9, d 11 (f 3 3) 10, d 12 (k 11) 10, d 13 (nj 12 0) 10, a 14 (ko 10 13), am 15 14, d 16 (f 5 3) 15, d 17 (k 16) 15, d 18 (nj 17 0) 15, a 19 (ko 15 18), am 20 19, d 21 (f 7 3) 20, d 22 (k 21) 20, d 23 (nj 22 0) 20, a 24 (ko 20 23), am 25 24, d 26 (f 4 3) 25, d 27 (k 26) 25, d 28 (le 27) 25, d 29 (bgj 28 0) 25, a 30 (ko 25 29), am 31 30, d 32 (f 8 3) 31, d 33 (k 32) 31, d 34 (le 33) 31, d 35 (bgj 34 0) 31, a 36 (ko 31 35), am 37 36, d 38 (f 9 3) 37, d 39 (k 38) 37, d 40 (le 39) 37, d 41 (bgj 40 0) 37, a 42 (ko 37 41), am 43 42, d 44 (f 10 3) 43, d 45 (k 44) 43, d 46 (le 45) 43, d 47 (bgj 46 0) 43, a 48 (ko 43 47), am 49 48, d 50 (f 6 3) 49, d 51 (k 50) 49, d 52 (f 0 3) 49, d 53 (k 52) 49, r 54 (ia 2 51 53) 49, r 55 (l 2 54) 49, d 56 (.build [y, y] []) 49, r 57 (.eqv false true [.i, .i] (.s 55) (.s 56)) 49, a 58 (ko 49 57)] [2, 3, 58]
 (.cond (.s 58) (rs [o 4 (.mv (.c w))] [4]
 (.ret [4])) .skip))
 (.seq (rs [of 59 11 3, o 60 (k 59), o 61 (le 60), o 62 (.mv (j 0))] [2, 60, 61, 62]
 (.block 0 (.loop xf_core_recovering_k0 xf_core_recovering_b0)))
 (rs [o 4 (.mv (.c v))] [4]
 (.ret [4])))))⟩

def xf_core_All_k0 : List (Nat × Option (Nat × Nat × Bool)) := [(4, none), (5, none), (9, some (62, 19, false)), (18, none), (19, none)]
def xf_core_All_b0 : XCode := (rs [o 20 (bl 19 18)] [4, 5, 9, 18, 19, 20]
 (.seq (.cond (.s 20) .skip (.exit 0 [9]))
 (.seq (.block 1 (rs [om 21 19, om 10 21] [4, 5, 9, 10, 18, 19]
 (rs [om 22 10, of 23 0 4, o 24 (k 23), o 25 (n 22 24)] [4, 5, 9, 10, 18, 19, 25]
 (.cond (.s 25) (.reg [om 26 9, ol 27 12 4, om 28 10, ol 29 18 5, o 30 (c 70 [27, 28, 29]), o 31 (.bsl 62 19 false 1 l3 [(0, 19, (.s 30))]), o 32 (.app 62 19 200 false (.s 26) (.s 31)), om 9 32] none [4, 5, 9, 18, 19]) .skip))))
 (.reg [o 33 (baj 19 1), om 19 33] none [4, 5, 9, 18, 19]))))
def xf_core_All : XFunc := ⟨none, true, 3, [.tmp 6, .tmp 7], (rs [o 3 (bx 0), o 4 (bx 1), o 5 (bx 2), o 6 (.mv (.c (.nil 62 19 false))), o 7 (.mv (j 0))] [3, 4, 5]
 (.seq (rs [ol 11 4 3, ol 12 12 4, o 13 (c 22 [11, 12]), om 8 13] [3, 4, 5, 8]
 (rs [om 14 8, o 15 (nj 14 0)] [3, 4, 5, 8, 15]
 (.cond (.s 15) (rs [om 16 8, o 6 (.mv (.c (.nil 62 19 false))), om 7 16] [6, 7]
 (.ret [6, 7])) .skip)))
 (rs [o 9 (.mv (.c (.nil 62 19 false)))] [3, 4, 5, 9]
 (.seq (rs [ol 17 4 3, o 18 (c 5 [17]), o 19 (.mv (j 0))] [4, 5, 9, 18, 19]
 (.block 0 (.loop xf_core_All_k0 xf_core_All_b0)))
 (rs [om 34 9, om 6 34, o 7 (.mv (j 0))] [6, 7]
 (.ret [6, 7]))))))⟩

def xf_change_frame_primary : XFunc := ⟨none, true, 1, [.tmp 2], (rs [o 2 (.mv (j 0))] [0]
 (rp (some []) [om 3 0, o 4 (nc 3), of 5 0 4, ol 6 4 5, om 7 0, o 8 (nc 7), of 9 4 8, of 10 2 9, o 11 (k 10), o 12 (c 8 [6, 11]), om 2 12] [2]
 (.ret [2])))⟩

def xf_change_frame_one : XFunc := ⟨none, false, 3, [], (rs [o 5 (bx 2)] [0, 1, 5]
 (rp (some [(3, 14), (7, 14), (9, 14), (10, 14)]) [om 9 0, o 10 (nc 9), of 11 0 10, ol 12 4 11, om 13 0, o 14 (nc 13), of 15 4 14, ol 16 12 15, om 17 1, ol 18 18 5, o 19 (c 71 [12, 16, 17, 18]), om 8 19, o 20 (e 8 0), o 21 (e 8 1), o 6 (.alloc l3), p (t 19 6 20), om 7 21] [0, 6]
 (.reg [om 22 0, om 23 0, o 24 (nc 23), of 25 16 24, o 26 (k 25), ol 27 19 6, o 28 (.bsl 62 19 false 1 l3 [(0, 19, (.s 27))]), o 29 (.app 62 19 200 false (.s 26) (.s 28)), o 30 (nc 22), of 31 16 30, p (t 1 31 29)] (some [(4, 6)]) [])))⟩

def xf_core_twin_k0 : List (Nat × Option (Nat × Nat × Bool)) := [(1, none), (2, none), (27, none), (28, none)]
def xf_core_twin_b0 : XCode := (rs [o 29 (bl 28 27)] [1, 2, 27, 28, 29]
 (.seq (.cond (.s 29) .skip (.exit 0 [1, 2]))
 (.seq (.block 1 (rs [om 30 28, om 3 30] [1, 2, 3, 27, 28]
 (.reg [of 31 10 1, o 32 (k 31), om 33 3, of 34 10 1, o 35 (k 34), om 36 3, o 37 (ia 6 35 36), of 38 5 37, o 39 (k 38), o 40 (c 72 [39]), o 41 (ia 6 32 33), of 42 5 41, p (t 1 42 40)] (some [(1, 9)]) [1, 2, 27, 28])))
 (.reg [o 43 (baj 28 1), om 28 43] none [1, 2, 27, 28]))))
def xf_core_twin_k1 : List (Nat × Option (Nat × Nat × Bool)) := [(1, none), (2, none), (50, none), (51, none)]
def xf_core_twin_b1 : XCode := (rs [o 52 (bl 51 50)] [1, 2, 50, 51, 52]
 (.seq (.cond (.s 52) .skip (.exit 2 [1, 2]))
 (.seq (.block 3 (rs [om 53 51, om 4 53] [1, 2, 4, 50, 51]
 (.reg [of 54 11 1, o 55 (k 54), om 56 4, of 57 11 1, o 58 (k 57), om 59 4, o 60 (ia 6 58 59), of 61 5 60, o 62 (k 61), o 63 (c 72 [62]), o 64 (ia 6 55 56), of 65 5 64, p (t 1 65 63)] (some [(1, 9)]) [1, 2, 50, 51])))
 (.reg [o 66 (baj 51 1), om 51 66] none [1, 2, 50, 51]))))
def xf_core_twin : XFunc := ⟨none, true, 1, [.cell 2 (some 12)], (rs [o 1 (bx 0), o 2 (.alloc l1)] [1, 2]
 (rs [of 5 4 1, o 6 (k 5), o 7 (c 72 [6]), of 8 4 1, p (t 1 8 7)] [1, 2]
 (rs [of 9 6 1, o 10 (k 9), o 11 (c 73 [10]), of 12 6 1, p (t 1 12 11)] [1, 2]
 (rs [of 13 8 1, o 14 (k 13), o 15 (c 74 [14]), of 16 8 1, p (t 1 16 15)] [1, 2]
 (rs [of 17 9 1, o 18 (k 17), o 19 (c 75 [18]), of 20 9 1, p (t 1 20 19)] [1, 2]
 (rs [of 21 10 1, o 22 (k 21), o 23 (c 76 [22]), of 24 10 1, p (t 1 24 23)] [1, 2]
 (.seq (rs [of 25 10 1, o 26 (k 25), o 27 (le 26), o 28 (.mv (j 0))] [1, 2, 27, 28]
 (.block 0 (.loop xf_core_twin_k0 xf_core_twin_b0)))
 (rs [of 44 11 1, o 45 (k 44), o 46 (c 77 [45]), of 47 11 1, p (t 1 47 46)] [1, 2]
 (.seq (rs [of 48 11 1, o 49 (k 48), o 50 (le 49), o 51 (.mv (j 0))] [1, 2, 50, 51]
 (.block 2 (.loop xf_core_twin_k1 xf_core_twin_b1)))
 (rs [ol 67 12 1, p (t 12 2 67)] [2]
 (.ret [2])))))))))))⟩

def xf_core_leads : XFunc := ⟨none, true, 2, [.tmp 4], (rs [o 2 (bx 0), o 3 (bx 1), o 4 (.mv (.c w))] [2, 3]
 (rp (some []) [of 5 0 3, o 6 (k 5), of 7 2 3, o 8 (k 7), of 9 0 2, o 10 (k 9), o 11 (.bin .mul (j 2) (.s 10)), o 12 (baj 11 1), o 13 (.bin .rem (.s 8) (.s 12)), o 14 (q 6 13), om 4 14] [4]
 (.ret [4])))⟩

def xf_client_Between : XFunc := ⟨none, true, 3, [.tmp 6, .tmp 7], (rs [o 6 (.mv (.c (.nil 105 7 true))), o 7 (.mv (j 0))] [0, 1, 2]
 (.seq (rs [om 9 0, o 10 (c 78 [9]), om 8 10] [0, 1, 2, 8]
 (rs [om 11 8, o 12 (nj 11 0)] [0, 1, 2, 8, 12]
 (.cond (.s 12) (rs [om 13 8, o 6 (.mv (.c (.nil 105 7 true))), om 7 13] [6, 7]
 (.ret [6, 7])) .skip)))
 (.seq (ss [am 14 1, a 15 (blj 14 0), am 16 15, d 17 (m 1) 16, d 18 (m 0) 16, d 19 (le 18) 16, d 20 (bg 17 19) 16, a 21 (ko 16 20), am 22 21, d 23 (m 2) 22, d 24 (blj 23 0) 22, a 25 (ko 22 24), am 26 25, d 27 (m 2) 26, d 28 (m 0) 26, d 29 (le 28) 26, d 30 (bg 27 29) 26, a 31 (ko 26 30), am 32 31, d 33 (m 1) 32, d 34 (m 2) 32, d 35 (bg 33 34) 32, a 36 (ko 32 35)] [0, 1, 2, 36]
 (.cond (.s 36) (rs [o 6 (.mv (.c (.nil 105 7 true))), o 7 (.mv (j 50))] [6, 7]
 (.ret [6, 7])) .skip))
 (rs [om 37 0, om 38 2, o 39 (c 79 [37, 38]), om 40 1, o 41 (.slice 7 (.s 39) (some (.s 40)) none), o 42 (.app 105 7 64 true (.c (.nil 105 7 true)) (.s 41)), om 6 42, o 7 (.mv (j 0))] [6, 7]
 (.ret [6, 7])))))⟩

def xf_change_frame_clear : XFunc := ⟨none, false, 1, [], (.reg [om 2 0, om 3 0, om 4 0, om 5 0, o 6 (nc 2), of 7 4 6, of 8 8 7, p (.store 1 (.s 8) (.c (.nil 83 4 true))), o 9 (nc 3), of 10 4 9, of 11 9 10, p (.store 1 (.s 11) (.c (.nil 108 3 true))), o 12 (nc 4), of 13 4 12, of 14 10 13, p (.store 1 (.s 14) (.c (.nil 85 6 false))), o 15 (nc 5), of 16 4 15, of 17 11 16, p (.store 1 (.s 17) (.c (.nil 110 6 false)))] none [])⟩

def xf_ref05_Log_k1 : List (Nat × Option (Nat × Nat × Bool)) := [(0, none), (5, none), (7, none)]
def xf_ref05_Log_b1 : XCode := (.seq (rs [om 26 7, om 27 5, o 28 (bl 26 27)] [0, 5, 7, 28]
 (.cond (.s 28) .skip (.exit 2 [0, 5])))
 (.seq (.block 3 (sp (some []) [am 31 0, am 32 7, a 33 (ia 5 31 32), a 34 (f 0 33), a 35 (k 34), am 36 0, am 37 5, a 38 (ia 5 36 37), a 39 (f 0 38), a 40 (k 39), a 41 (q 35 40), am 42 41, bb 43 0 42, bb 44 7 42, u 45 (ia 5 43 44) 42, u 46 (f 1 45) 42, u 47 (k 46) 42, bb 48 0 42, bb 49 5 42, u 50 (ia 5 48 49) 42, u 51 (f 1 50) 42, u 52 (k 51) 42, u 53 (bh 47 52) 42, a 54 (ka 42 53)] [0, 5, 7, 54]
 (.cond (.s 54) (rs [o 4 (.mv (j 64))] [4]
 (.ret [4])) .skip)))
 (.reg [om 29 7, o 30 (baj 29 1), om 7 30] none [0, 5, 7])))
def xf_ref05_Log_k0 : List (Nat × Option (Nat × Nat × Bool)) := [(0, none), (5, none)]
def xf_ref05_Log_b0 : XCode := (.seq (rs [om 12 5, om 13 0, o 14 (le 13), o 15 (bl 12 14)] [0, 5, 15]
 (.cond (.s 15) .skip (.exit 0 [])))
 (.seq (.block 1 (rs [om 18 0, om 19 5, o 20 (ia 5 18 19), ol 21 5 20, o 22 (c 80 [21]), om 6 22] [0, 5, 6]
 (.seq (rs [om 23 6, o 24 (nj 23 0)] [0, 5, 6, 24]
 (.cond (.s 24) (rs [om 25 6, om 4 25] [4]
 (.ret [4])) .skip))
 (rs [o 7 (.mv (j 0))] [0, 5, 7]
 (.block 2 (.loop xf_ref05_Log_k1 xf_ref05_Log_b1))))))
 (.reg [om 16 5, o 17 (baj 16 1), om 5 17] none [0, 5])))
def xf_ref05_Log : XFunc := ⟨none, true, 2, [.tmp 4], (rs [o 4 (.mv (j 0))] [0, 1]
 (.seq (rs [om 8 0, o 9 (le 8), om 10 1, o 11 (bg 9 10)] [0, 11]
 (.cond (.s 11) (rs [o 4 (.mv (j 60))] [4]
 (.ret [4])) .skip))
 (.seq (rs [o 5 (.mv (j 0))] [0, 5]
 (.block 0 (.loop xf_ref05_Log_k0 xf_ref05_Log_b0)))
 (rs [o 4 (.mv (j 0))] [4]
 (.ret [4])))))⟩

def xf_ref09_voters_k0 : List (Nat × Option (Nat × Nat × Bool)) := [(1, none), (2, none), (3, none), (4, none), (9, none)]
def xf_ref09_voters_b0 : XCode := (.seq (rs [om 10 9, om 11 2, o 12 (le 11), o 13 (bl 10 12)] [1, 2, 3, 4, 9, 13]
 (.cond (.s 13) .skip (.exit 0 [])))
 (.seq (.block 1 (sp (some []) [am 16 2, am 17 9, a 18 (ia 1 16 17), a 19 (k 18), a 20 (blj 19 0), am 21 20, d 22 (m 2) 21, d 23 (m 9) 21, r 24 (ia 1 22 23) 21, r 25 (k 24) 21, d 26 (m 1) 21, r 27 (bh 25 26) 21, a 28 (ko 21 27), am 29 28, d 30 (m 2) 29, d 31 (m 9) 29, r 32 (ia 1 30 31) 29, r 33 (k 32) 29, d 34 (f 0 4) 29, d 35 (k 34) 29, r 36 (q 33 35) 29, a 37 (ko 29 36), am 38 37, d 39 (m 9) 38, d 40 (bgj 39 0) 38, r 41 (m 40) 38, bb 42 2 41, bb 43 9 41, u 44 (ia 1 42 43) 41, u 45 (k 44) 41, bb 46 2 41, bb 47 9 41, b 48 (bsj 47 1) 41, u 49 (ia 1 46 48) 41, u 50 (k 49) 41, u 51 (bm 45 50) 41, r 52 (ka 41 51) 38, a 53 (ko 38 52), am 54 53, d 55 (m 3) 54, d 56 (m 9) 54, r 57 (ia 2 55 56) 54, r 58 (l 2 57) 54, d 59 (f 6 4) 54, d 60 (k 59) 54, d 61 (m 2) 54, d 62 (m 9) 54, r 63 (ia 1 61 62) 54, r 64 (k 63) 54, r 65 (ia 2 60 64) 54, r 66 (l 2 65) 54, r 67 (.eqv true true [.i, .i] (.s 58) (.s 66)) 54, a 68 (ko 54 67)] [1, 2, 3, 4, 9, 68]
 (.cond (.s 68) (rs [o 8 (.mv (.c w))] [8]
 (.ret [8])) .skip)))
 (.reg [om 14 9, o 15 (baj 14 1), om 9 15] none [1, 2, 3, 4, 9])))
def xf_ref09_voters : XFunc := ⟨none, true, 4, [.tmp 8], (rs [o 4 (bx 0), o 8 (.mv (.c w))] [1, 2, 3, 4]
 (.seq (rs [o 9 (.mv (j 0))] [1, 2, 3, 4, 9]
 (.block 0 (.loop xf_ref09_voters_k0 xf_ref09_voters_b0)))
 (rs [o 8 (.mv (.c v))] [8]
 (.ret [8]))))⟩

def xf_message_config : XFunc := ⟨none, true, 1, [.tmp 2], (rs [o 1 (bx 0), o 2 (.mv (.c w))] [1]
 (ss [a 3 (f 0 1), a 4 (k 3), a 5 (bhj 4 1), am 6 5, b 7 (f 0 1) 6, b 8 (k 7) 6, b 9 (bmj 8 3) 6, a 10 (ka 6 9), am 11 10, b 12 (f 1 1) 11, b 13 (k 12) 11, b 14 (bhj 13 1) 11, a 15 (ka 11 14), am 16 15, b 17 (f 1 1) 16, b 18 (k 17) 16, b 19 (bmj 18 256) 16, a 20 (ka 16 19), am 21 20, b 22 (f 2 1) 21, b 23 (k 22) 21, b 24 (bhj 23 6) 21, a 25 (ka 21 24), am 26 25, b 27 (f 2 1) 26, b 28 (k 27) 26, b 29 (bmj 28 100) 26, a 30 (ka 26 29), am 2 30] [2]
 (.ret [2])))⟩

def xf_message_is : XFunc := ⟨none, true, 1, [.tmp 2], (rs [o 2 (.mv (.c w))] [0]
 (ss [am 3 0, a 4 (bhj 3 1), am 5 4, bb 6 0 5, b 7 (bmj 6 14) 5, a 8 (ka 5 7), am 2 8] [2]
 (.ret [2])))⟩

def xf_message_unused_k0 : List (Nat × Option (Nat × Nat × Bool)) := [(1, none), (42, none), (43, none)]
def xf_message_unused_b0 : XCode := (rs [o 44 (blj 43 10)] [1, 42, 43, 44]
 (.seq (.cond (.s 44) .skip (.exit 0 []))
 (.seq (.block 1 (rs [om 45 43, o 46 (.idx none 1 10 (.s 42) (.s 43)), om 4 45, om 5 46] [1, 4, 5, 42, 43]
 (ss [am 47 5, a 48 (nt 47), am 49 48, b 50 (f 0 1) 49, b 51 (k 50) 49, bb 52 4 49, u 53 (.aadr 10 15 (.c (.dptr usesD)) (.s 51)) 49, u 54 (.aadr 1 10 (.s 53) (.s 52)) 49, u 55 (k 54) 49, u 56 (nt 55) 49, a 57 (ka 49 56)] [1, 42, 43, 57]
 (.cond (.s 57) (rs [o 2 (.mv (.c w))] [2]
 (.ret [2])) .skip))))
 (.reg [o 58 (baj 43 1), om 43 58] none [1, 42, 43]))))
def xf_message_unused : XFunc := ⟨none, true, 1, [.tmp 2], (rs [o 1 (bx 0), o 2 (.mv (.c w))] [1]
 (rp (some [(1, 36), (4, 36), (7, 36), (10, 36), (13, 36), (16, 36), (20, 36), (24, 36), (28, 36), (32, 36)]) [of 6 1 1, o 7 (k 6), o 8 (qj 7 0), of 9 2 1, o 10 (k 9), o 11 (qj 10 0), of 12 13 1, o 13 (k 12), o 14 (qj 13 0), of 15 11 1, o 16 (k 15), o 17 (qj 16 0), of 18 12 1, o 19 (k 18), o 20 (qj 19 0), of 21 14 1, ol 22 2 21, o 23 (.build [y, y] []), o 24 (.eqv false true [.i, .i] (.s 22) (.s 23)), of 25 3 1, ol 26 5 25, o 27 (.build [z, z, z, z, x] []), o 28 (.eqv false true [.i, .i, .i, .i, .s] (.s 26) (.s 27)), of 29 8 1, ol 30 3 29, o 31 (.build l10 []), o 32 (.eqv false true [.i, .i, .s] (.s 30) (.s 31)), of 33 16 1, o 34 (k 33), o 35 (le 34), o 36 (qj 35 0), of 37 17 1, o 38 (k 37), o 39 (le 38), o 40 (qj 39 0), o 41 (.build l5 [(0, 1, (.s 8)), (1, 1, (.s 11)), (2, 1, (.s 14)), (3, 1, (.s 17)), (4, 1, (.s 20)), (5, 1, (.s 24)), (6, 1, (.s 28)), (7, 1, (.s 32)), (8, 1, (.s 36)), (9, 1, (.s 40))]), o 3 (.alloc l5), p (t 10 3 41)] [1, 3]
 (.seq (rs [ol 42 10 3, o 43 (.mv (j 0))] [1, 42, 43]
 (.block 0 (.loop xf_message_unused_k0 xf_message_unused_b0)))
 (rs [o 2 (.mv (.c v))] [2]
 (.ret [2])))))⟩
theorem r_law11_ChangeQuorum : progT Tryz.prog 3 = some xf_law11_ChangeQuorum.plain := by kernel_rfl
theorem r_law11_alive : progT Tryz.prog 4 = some xf_law11_alive.plain := by kernel_rfl
theorem r_core_Nodes : progT Tryz.prog 5 = some xf_core_Nodes.plain := by kernel_rfl
theorem r_ref09_Check : progT Tryz.prog 6 = some xf_ref09_Check.plain := by kernel_rfl
theorem r_plain_CopyEntries : progT Tryz.prog 7 = some xf_plain_CopyEntries.plain := by kernel_rfl
theorem r_core_Primary : progT Tryz.prog 8 = some xf_core_Primary.plain := by kernel_rfl
theorem r_change_Start : progT Tryz.prog 9 = some xf_change_Start.plain := by kernel_rfl
theorem r_law11_num : progT Tryz.prog 10 = some xf_law11_num.plain := by kernel_rfl
theorem r_change_Again : progT Tryz.prog 11 = some xf_change_Again.plain := by kernel_rfl
theorem r_change_Vote : progT Tryz.prog 12 = some xf_change_Vote.plain := by kernel_rfl
theorem r_change_Install : progT Tryz.prog 13 = some xf_change_Install.plain := by kernel_rfl
theorem r_plain_SameEntries : progT Tryz.prog 14 = some xf_plain_SameEntries.plain := by kernel_rfl
theorem r_change_Suspect : progT Tryz.prog 15 = some xf_change_Suspect.plain := by kernel_rfl
theorem r_law11_three : progT Tryz.prog 16 = some xf_law11_three.plain := by kernel_rfl
theorem r_law11_backup : progT Tryz.prog 17 = some xf_law11_backup.plain := by kernel_rfl
theorem r_core_CheckConfig : progT Tryz.prog 18 = some xf_core_CheckConfig.plain := by kernel_rfl
theorem r_ref09_CheckConfig : progT Tryz.prog 19 = some xf_ref09_CheckConfig.plain := by kernel_rfl
theorem r_ref09_may : progT Tryz.prog 20 = some xf_ref09_may.plain := by kernel_rfl
theorem r_change_handle : progT Tryz.prog 21 = some xf_change_handle.plain := by kernel_rfl
theorem r_core_Check : progT Tryz.prog 22 = some xf_core_Check.plain := by kernel_rfl
theorem r_change_frame_all : progT Tryz.prog 23 = some xf_change_frame_all.plain := by kernel_rfl
theorem r_tally_Marked : progT Tryz.prog 24 = some xf_tally_Marked.plain := by kernel_rfl
theorem r_change_frame_ballot : progT Tryz.prog 25 = some xf_change_frame_ballot.plain := by kernel_rfl
theorem r_core_Carry : progT Tryz.prog 26 = some xf_core_Carry.plain := by kernel_rfl
theorem r_change_frame_goes : progT Tryz.prog 27 = some xf_change_frame_goes.plain := by kernel_rfl
theorem r_ref07_Config : progT Tryz.prog 28 = some xf_ref07_Config.plain := by kernel_rfl
theorem r_ref09_Nodes : progT Tryz.prog 29 = some xf_ref09_Nodes.plain := by kernel_rfl
theorem r_ref09_logged : progT Tryz.prog 30 = some xf_ref09_logged.plain := by kernel_rfl
theorem r_ref09_votes : progT Tryz.prog 31 = some xf_ref09_votes.plain := by kernel_rfl
theorem r_ref09_recovering : progT Tryz.prog 32 = some xf_ref09_recovering.plain := by kernel_rfl
theorem r_message_Check : progT Tryz.prog 33 = some xf_message_Check.plain := by kernel_rfl
theorem r_core_Admit : progT Tryz.prog 34 = some xf_core_Admit.plain := by kernel_rfl
theorem r_change_handlers : progT Tryz.prog 35 = some xf_change_handlers.plain := by kernel_rfl
theorem r_core_logged : progT Tryz.prog 36 = some xf_core_logged.plain := by kernel_rfl
theorem r_core_voted : progT Tryz.prog 37 = some xf_core_voted.plain := by kernel_rfl
theorem r_core_normal : progT Tryz.prog 38 = some xf_core_normal.plain := by kernel_rfl
theorem r_core_changing : progT Tryz.prog 39 = some xf_core_changing.plain := by kernel_rfl
theorem r_core_recovering : progT Tryz.prog 40 = some xf_core_recovering.plain := by kernel_rfl
theorem r_core_All : progT Tryz.prog 41 = some xf_core_All.plain := by kernel_rfl
theorem r_change_frame_primary : progT Tryz.prog 42 = some xf_change_frame_primary.plain := by kernel_rfl
theorem r_change_frame_one : progT Tryz.prog 43 = some xf_change_frame_one.plain := by kernel_rfl
theorem r_core_twin : progT Tryz.prog 44 = some xf_core_twin.plain := by kernel_rfl
theorem r_core_leads : progT Tryz.prog 45 = some xf_core_leads.plain := by kernel_rfl
theorem r_client_Between : progT Tryz.prog 46 = some xf_client_Between.plain := by kernel_rfl
theorem r_change_frame_clear : progT Tryz.prog 47 = some xf_change_frame_clear.plain := by kernel_rfl
theorem r_ref05_Log : progT Tryz.prog 48 = some xf_ref05_Log.plain := by kernel_rfl
theorem r_ref09_voters : progT Tryz.prog 49 = some xf_ref09_voters.plain := by kernel_rfl
theorem r_message_config : progT Tryz.prog 50 = some xf_message_config.plain := by kernel_rfl
theorem r_message_is : progT Tryz.prog 51 = some xf_message_is.plain := by kernel_rfl
theorem r_message_unused : progT Tryz.prog 52 = some xf_message_unused.plain := by kernel_rfl

end Go.Ax
