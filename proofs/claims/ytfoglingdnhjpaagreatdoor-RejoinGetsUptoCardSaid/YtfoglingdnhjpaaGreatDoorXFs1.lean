/-
  The functions of this seat as resolved code, and that the program resolves to them (part 2).
-/
import Derived.Test.YtfoglingdnhjpaaGreatDoorXComp
import Derived.Test.YtfoglingdnhjpaaGreatDoorXFn
import Derived.Test.YtfoglingdnhjpaaGreatDoorXG
import Derived.Test.YtfoglingdnhjpaaGreatDoorXP
import Derived.Test.YtfoglingdnhjpaaGreatDoorProg
import Derived.KernelRfl
namespace Go.Ax
set_option linter.all false
open Go.Proofs P

def xf_ref07_Uses_k0 : List (Nat × Option (Nat × Nat × Bool)) := [(3, none), (4, some (4, 1, true)), (5, none)]
def xf_ref07_Uses_b0 : XCode := (.seq (rs [om 33 5, om 34 3, o 35 (.len true (.s 34)), o 36 (bl 33 35)] [3, 4, 5, 36]
 (.cond (.s 36) .skip (.exit 1 [4])))
 (.seq (.block 2 (.reg [om 39 4, om 40 3, om 41 5, o 42 (.sidx (.s 40) (.s 41)), o 43 (.eqv true false [.i] (.s 42) (.c (.dat (.int .u8 46)))), o 44 (.bsl 4 1 true 1 [w] [(0, 1, (.s 43))]), o 45 (.app 4 1 1 true (.s 39) (.s 44)), om 4 45] none [3, 4, 5]))
 (.reg [om 37 5, o 38 (baj 37 1), om 5 38] none [3, 4, 5])))
def xf_ref07_Uses : XFunc := ⟨none, none, true, 1, [.tmp 2], (rs [o 2 (.mv (.c (.nil 4 1 true)))] [0]
 (rs [o 3 (.mv (.c x))] [0, 3]
 (.seq (rs [om 6 0] [3, 6]
 (.block 0 (rs [o 8 (qj 6 1), om 7 8] [3, 6, 7]
 (.cond (.s 7) (.reg [o 3 (.mv (.c (.dat (.str ⟨#[46, 46, 46, 46, 46, 46, 101, 46, 46, 46]⟩))))] none [3]) (rs [o 10 (qj 6 2), om 9 10] [3, 6, 9]
 (.cond (.s 9) (.reg [o 3 (.mv (.c (.dat (.str ⟨#[110, 118, 46, 112, 46, 46, 101, 114, 46, 46]⟩))))] none [3]) (rs [o 12 (qj 6 3), om 11 12] [3, 6, 11]
 (.cond (.s 11) (.reg [o 3 (.mv (.c (.dat (.str ⟨#[110, 118, 46, 112, 99, 46, 101, 46, 46, 120]⟩))))] none [3]) (rs [o 14 (qj 6 4), om 13 14] [3, 6, 13]
 (.cond (.s 13) (.reg [o 3 (.mv (.c (.dat (.str ⟨#[110, 118, 46, 112, 46, 46, 46, 46, 46, 120]⟩))))] none [3]) (rs [o 16 (qj 6 5), om 15 16] [3, 6, 15]
 (.cond (.s 15) (.reg [o 3 (.mv (.c (.dat (.str ⟨#[110, 118, 46, 46, 99, 46, 46, 46, 46, 120]⟩))))] none [3]) (.seq (rs [o 18 (qj 6 6), om 17 18] [3, 6, 17]
 (.cond (.s 17) .skip (.reg [o 19 (qj 6 11), om 17 19] none [3, 6, 17])))
 (.cond (.s 17) (.reg [o 3 (.mv (.c (.dat (.str ⟨#[110, 118, 46, 46, 46, 46, 46, 46, 46, 120]⟩))))] none [3]) (rs [o 21 (qj 6 7), om 20 21] [3, 6, 20]
 (.cond (.s 20) (.reg [o 3 (.mv (.c (.dat (.str ⟨#[110, 118, 108, 46, 99, 46, 46, 46, 103, 120]⟩))))] none [3]) (.seq (rs [o 23 (qj 6 8), om 22 23] [3, 6, 22]
 (.cond (.s 22) .skip (.reg [o 24 (qj 6 12), om 22 24] none [3, 6, 22])))
 (.cond (.s 22) (.reg [o 3 (.mv (.c (.dat (.str ⟨#[110, 118, 46, 46, 99, 46, 46, 46, 103, 120]⟩))))] none [3]) (rs [o 26 (qj 6 9), om 25 26] [3, 6, 25]
 (.cond (.s 25) (.reg [o 3 (.mv (.c (.dat (.str ⟨#[110, 46, 46, 46, 46, 100, 46, 46, 46, 120]⟩))))] none [3]) (rs [o 28 (qj 6 10), om 27 28] [3, 6, 27]
 (.cond (.s 27) (.reg [o 3 (.mv (.c (.dat (.str ⟨#[110, 118, 46, 46, 99, 100, 46, 46, 103, 120]⟩))))] none [3]) (rs [o 30 (qj 6 13), om 29 30] [3, 6, 29]
 (.cond (.s 29) (.reg [o 3 (.mv (.c (.dat (.str ⟨#[46, 46, 46, 112, 46, 46, 101, 46, 46, 46]⟩))))] none [3]) (rs [o 32 (qj 6 14), om 31 32] [3, 31]
 (.cond (.s 31) (.reg [o 3 (.mv (.c (.dat (.str ⟨#[110, 118, 46, 46, 99, 46, 101, 114, 46, 46]⟩))))] none [3]) .skip))))))))))))))))))))))))))
 (rs [o 4 (.mv (.c (.nil 4 1 true)))] [3, 4]
 (.seq (rs [o 5 (.mv (j 0))] [3, 4, 5]
 (.block 1 (.loop xf_ref07_Uses_k0 xf_ref07_Uses_b0)))
 (rs [om 46 4, om 2 46] [2]
 (.ret [2])))))))⟩

def xf_ref07_unused : XFunc := ⟨none, none, true, 2, [.tmp 4], (rs [o 2 (bx 0), o 4 (.mv (.c w))] [1, 2]
 (rp (some []) [of 10 1 2, o 11 (k 10), o 12 (qj 11 0), of 13 2 2, o 14 (k 13), o 15 (qj 14 0), of 16 13 2, o 17 (k 16), o 18 (qj 17 0), of 19 11 2, o 20 (k 19), o 21 (qj 20 0), of 22 12 2, o 23 (k 22), o 24 (qj 23 0), om 5 12, om 6 15, om 7 18, om 8 21, om 9 24] [1, 2, 5, 6, 7, 8, 9]
 (ss [am 25 1, a 26 (.iadr 1 (.s 25) (j 0)), a 27 (k 26), am 28 27, d 29 (m 5) 28, a 30 (ko 28 29), am 31 30, bb 32 1 31, u 33 (.iadr 1 (.s 32) (j 1)) 31, u 34 (k 33) 31, u 35 (m 34) 31, d 36 (m 6) 35, u 37 (ko 35 36) 31, a 38 (ka 31 37), am 39 38, bb 40 1 39, u 41 (.iadr 1 (.s 40) (j 2)) 39, u 42 (k 41) 39, u 43 (m 42) 39, d 44 (m 7) 43, u 45 (ko 43 44) 39, a 46 (ka 39 45), am 47 46, bb 48 1 47, u 49 (.iadr 1 (.s 48) (j 3)) 47, u 50 (k 49) 47, u 51 (m 50) 47, d 52 (m 8) 51, u 53 (ko 51 52) 47, a 54 (ka 47 53), am 55 54, bb 56 1 55, u 57 (.iadr 1 (.s 56) (j 4)) 55, u 58 (k 57) 55, u 59 (m 58) 55, d 60 (m 9) 59, u 61 (ko 59 60) 55, a 62 (ka 55 61), am 63 62, bb 64 1 63, u 65 (.iadr 1 (.s 64) (j 5)) 63, u 66 (k 65) 63, u 67 (m 66) 63, d 68 (f 14 2) 67, d 69 (l 2 68) 67, d 70 (.build [y, y] []) 67, d 71 (.eqv false true [.i, .i] (.s 69) (.s 70)) 67, u 72 (ko 67 71) 63, a 73 (ka 63 72), am 74 73, bb 75 1 74, u 76 (.iadr 1 (.s 75) (j 6)) 74, u 77 (k 76) 74, u 78 (m 77) 74, d 79 (f 3 2) 78, d 80 (l 5 79) 78, d 81 (.build l10 []) 78, d 82 (.eqv false true [.i, .i, .i, .i, .s] (.s 80) (.s 81)) 78, u 83 (ko 78 82) 74, a 84 (ka 74 83), am 85 84, bb 86 1 85, u 87 (.iadr 1 (.s 86) (j 7)) 85, u 88 (k 87) 85, u 89 (m 88) 85, d 90 (f 8 2) 89, d 91 (l 3 90) 89, d 92 (.build [z, z, x] []) 89, d 93 (.eqv false true [.i, .i, .s] (.s 91) (.s 92)) 89, u 94 (ko 89 93) 85, a 95 (ka 85 94), am 96 95, bb 97 1 96, u 98 (.iadr 1 (.s 97) (j 8)) 96, u 99 (k 98) 96, u 100 (m 99) 96, d 101 (f 16 2) 100, d 102 (k 101) 100, d 103 (le 102) 100, d 104 (qj 103 0) 100, u 105 (ko 100 104) 96, a 106 (ka 96 105), am 107 106, bb 108 1 107, u 109 (.iadr 1 (.s 108) (j 9)) 107, u 110 (k 109) 107, u 111 (m 110) 107, d 112 (f 17 2) 111, d 113 (k 112) 111, d 114 (le 113) 111, d 115 (qj 114 0) 111, u 116 (ko 111 115) 107, a 117 (ka 107 116), am 4 117] [4]
 (.ret [4]))))⟩

def xf_ref07_fields : XFunc := ⟨none, none, true, 4, [.tmp 8], (rs [o 4 (bx 0), o 5 (bx 1), o 8 (.mv (.c w))] [2, 3, 4, 5]
 (rs [of 10 0 4, o 11 (k 10), o 12 (.bin .mul (j 2) (.s 11)), o 13 (baj 12 1), om 9 13] [2, 3, 4, 5, 9]
 (.seq (ss [am 14 3, a 15 (.iadr 1 (.s 14) (j 0)), a 16 (k 15), am 17 16, b 18 (f 1 5) 17, b 19 (k 18) 17, b 20 (blj 19 0) 17, bb 21 20 17, d 22 (f 1 5) 21, d 23 (k 22) 21, d 24 (m 9) 21, d 25 (bh 23 24) 21, b 26 (ko 21 25) 17, a 27 (ka 17 26), am 28 27, d 29 (m 3) 28, r 30 (.iadr 1 (.s 29) (j 1)) 28, r 31 (k 30) 28, r 32 (m 31) 28, b 33 (f 2 5) 32, b 34 (k 33) 32, b 35 (blj 34 0) 32, bb 36 35 32, d 37 (f 2 5) 36, d 38 (k 37) 36, d 39 (bgj 38 4294967296) 36, b 40 (ko 36 39) 32, r 41 (ka 32 40) 28, a 42 (ko 28 41)] [2, 3, 4, 5, 9, 42]
 (.cond (.s 42) (rs [o 8 (.mv (.c w))] [8]
 (.ret [8])) .skip))
 (.seq (ss [am 43 2, a 44 (qj 43 6), am 45 44, d 46 (m 2) 45, d 47 (qj 46 7) 45, a 48 (ko 45 47), am 49 48, d 50 (m 2) 49, d 51 (qj 50 8) 49, a 52 (ko 49 51), am 53 52, b 54 (f 2 5) 53, b 55 (k 54) 53, b 56 (blj 55 1) 53, a 57 (ka 53 56)] [2, 3, 4, 5, 9, 57]
 (.cond (.s 57) (rs [o 8 (.mv (.c w))] [8]
 (.ret [8])) .skip))
 (.seq (sp (some []) [am 58 2, a 59 (qj 58 3), am 60 59, d 61 (m 2) 60, d 62 (qj 61 5) 60, a 63 (ko 60 62), am 64 63, d 65 (m 2) 64, d 66 (qj 65 8) 64, a 67 (ko 64 66), am 68 67, b 69 (f 1 5) 68, b 70 (k 69) 68, b 71 (f 2 5) 68, b 72 (k 71) 68, bb 73 9 68, u 74 (.bin .rem (.s 72) (.s 73)) 68, u 75 (n 70 74) 68, a 76 (ka 68 75)] [2, 3, 4, 5, 9, 76]
 (.cond (.s 76) (rs [o 8 (.mv (.c w))] [8]
 (.ret [8])) .skip))
 (.seq (ss [am 77 3, a 78 (.iadr 1 (.s 77) (j 2)), a 79 (k 78), am 80 79, b 81 (f 13 5) 80, b 82 (k 81) 80, b 83 (blj 82 0) 80, bb 84 83 80, d 85 (f 13 5) 84, d 86 (k 85) 84, d 87 (f 2 5) 84, d 88 (k 87) 84, d 89 (bh 86 88) 84, b 90 (ko 84 89) 80, a 91 (ka 80 90)] [2, 3, 4, 5, 9, 91]
 (.cond (.s 91) (rs [o 8 (.mv (.c w))] [8]
 (.ret [8])) .skip))
 (.seq (ss [am 92 3, a 93 (.iadr 1 (.s 92) (j 3)), a 94 (k 93), am 95 94, b 96 (f 11 5) 95, b 97 (k 96) 95, b 98 (blj 97 0) 95, bb 99 98 95, d 100 (f 11 5) 99, d 101 (k 100) 99, d 102 (f 1 4) 99, d 103 (k 102) 99, d 104 (bg 101 103) 99, b 105 (ko 99 104) 95, bb 106 105 95, d 107 (m 2) 106, d 108 (qj 107 3) 106, d 109 (m 108) 106, b 110 (f 11 5) 109, b 111 (k 110) 109, b 112 (blj 111 1) 109, d 113 (ka 109 112) 106, b 114 (ko 106 113) 95, bb 115 114 95, d 116 (m 2) 115, d 117 (qj 116 2) 115, d 118 (m 117) 115, b 119 (f 11 5) 118, b 120 (k 119) 118, b 121 (qj 120 0) 118, b 122 (f 8 5) 118, b 123 (f 0 122) 118, b 124 (k 123) 118, b 125 (qj 124 7) 118, b 126 (.eqv true false [.b] (.s 121) (.s 125)) 118, d 127 (ka 118 126) 115, b 128 (ko 115 127) 95, a 129 (ka 95 128)] [2, 3, 4, 5, 9, 129]
 (.cond (.s 129) (rs [o 8 (.mv (.c w))] [8]
 (.ret [8])) .skip))
 (.seq (ss [am 130 3, a 131 (.iadr 1 (.s 130) (j 8)), a 132 (k 131), am 133 132, b 134 (f 16 5) 133, b 135 (k 134) 133, b 136 (f 1 4) 133, b 137 (k 136) 133, u 138 (c 103 [135, 137]) 133, u 139 (nj 138 0) 133, a 140 (ka 133 139)] [2, 3, 4, 5, 9, 140]
 (.cond (.s 140) (rs [o 8 (.mv (.c w))] [8]
 (.ret [8])) .skip))
 (.seq (ss [am 141 3, a 142 (.iadr 1 (.s 141) (j 4)), a 143 (k 142), am 144 143, b 145 (f 12 5) 144, b 146 (k 145) 144, b 147 (blj 146 0) 144, bb 148 147 144, d 149 (f 12 5) 148, d 150 (k 149) 148, d 151 (f 1 4) 148, d 152 (k 151) 148, d 153 (bg 150 152) 148, b 154 (ko 148 153) 144, u 155 (m 154) 144, d 156 (m 3) 155, r 157 (.iadr 1 (.s 156) (j 8)) 155, r 158 (k 157) 155, r 159 (m 158) 155, b 160 (f 12 5) 159, b 161 (k 160) 159, b 162 (f 16 5) 159, b 163 (k 162) 159, b 164 (le 163) 159, b 165 (bg 161 164) 159, r 166 (ka 159 165) 155, u 167 (ko 155 166) 144, a 168 (ka 144 167)] [2, 3, 5, 9, 168]
 (.cond (.s 168) (rs [o 8 (.mv (.c w))] [8]
 (.ret [8])) .skip))
 (.seq (sp (some []) [am 169 2, a 170 (qj 169 10), am 171 170, b 172 (f 16 5) 171, b 173 (k 172) 171, b 174 (le 173) 171, b 175 (bgj 174 0) 171, a 176 (ka 171 175), am 177 176, b 178 (f 1 5) 177, b 179 (k 178) 177, b 180 (f 2 5) 177, b 181 (k 180) 177, bb 182 9 177, u 183 (.bin .rem (.s 181) (.s 182)) 177, u 184 (n 179 183) 177, a 185 (ka 177 184)] [2, 3, 5, 9, 185]
 (.cond (.s 185) (rs [o 8 (.mv (.c w))] [8]
 (.ret [8])) .skip))
 (.seq (ss [am 186 3, a 187 (.iadr 1 (.s 186) (j 9)), a 188 (k 187), am 189 188, b 190 (f 17 5) 189, b 191 (k 190) 189, b 192 (le 191) 189, bb 193 9 189, b 194 (n 192 193) 189, a 195 (ka 189 194)] [2, 3, 5, 195]
 (.cond (.s 195) (rs [o 8 (.mv (.c w))] [8]
 (.ret [8])) .skip))
 (.seq (sp (some []) [am 196 3, a 197 (.iadr 1 (.s 196) (j 5)), a 198 (k 197), am 199 198, b 200 (f 14 5) 199, b 201 (l 2 200) 199, b 202 (.build [y, y] []) 199, b 203 (.eqv false true [.i, .i] (.s 201) (.s 202)) 199, a 204 (ka 199 203), am 205 204, d 206 (m 2) 205, d 207 (qj 206 9) 205, r 208 (m 207) 205, b 209 (f 14 5) 208, b 210 (l 2 209) 208, b 211 (f 17 5) 208, b 212 (k 211) 208, b 213 (f 1 5) 208, b 214 (k 213) 208, u 215 (ia 2 212 214) 208, u 216 (l 2 215) 208, u 217 (.eqv true true [.i, .i] (.s 210) (.s 216)) 208, r 218 (ka 208 217) 205, a 219 (ko 205 218)] [2, 3, 5, 219]
 (.cond (.s 219) (rs [o 8 (.mv (.c w))] [8]
 (.ret [8])) .skip))
 (.seq (ss [am 220 2, a 221 (qj 220 14), am 222 221, b 223 (f 8 5) 222, b 224 (f 0 223) 222, b 225 (k 224) 222, b 226 (blj 225 4) 222, bb 227 226 222, d 228 (f 8 5) 227, d 229 (f 0 228) 227, d 230 (k 229) 227, d 231 (bgj 230 6) 227, b 232 (ko 227 231) 222, a 233 (ka 222 232)] [2, 3, 5, 233]
 (.cond (.s 233) (rs [o 8 (.mv (.c w))] [8]
 (.ret [8])) .skip))
 (ss [am 234 3, a 235 (.iadr 1 (.s 234) (j 6)), a 236 (k 235), a 237 (nt 236), am 238 237, d 239 (m 2) 238, d 240 (f 3 5) 238, d 241 (l 5 240) 238, r 242 (c 104 [239, 241]) 238, a 243 (ko 238 242), am 244 243, bb 245 3 244, u 246 (.iadr 1 (.s 245) (j 7)) 244, u 247 (k 246) 244, u 248 (nt 247) 244, u 249 (m 248) 244, d 250 (f 8 5) 249, d 251 (l 3 250) 249, r 252 (c 105 [251]) 249, u 253 (ko 249 252) 244, a 254 (ka 244 253), am 8 254] [8]
 (.ret [8])))))))))))))))⟩

def xf_ref09_below : XFunc := ⟨none, none, true, 2, [.tmp 4], (rs [o 2 (bx 0), o 3 (bx 1), o 4 (.mv (.c w))] [2, 3]
 (rs [ol 5 2 2, ol 6 2 3, o 7 (c 26 [5, 6]), o 8 (blj 7 0), om 4 8] [4]
 (.ret [4])))⟩

def xf_ref09_Nodes : XFunc := ⟨none, none, true, 1, [.tmp 2], (rs [o 1 (bx 0), o 2 (.mv (j 0))] [1]
 (.seq (rs [ol 3 4 1, o 4 (c 62 [3]), o 5 (nj 4 0)] [1, 5]
 (.cond (.s 5) (rs [o 2 (.mv (j 0))] [2]
 (.ret [2])) .skip))
 (rs [of 6 0 1, o 7 (k 6), o 8 (.bin .mul (j 2) (.s 7)), o 9 (baj 8 1), om 2 9] [2]
 (.ret [2]))))⟩

def xf_ref09_stamped : XFunc := ⟨none, none, true, 2, [.cell 4 (some 18)], (rs [o 2 (bx 0), o 3 (bx 1), o 4 (.alloc l4)] [2, 3, 4]
 (rs [ol 6 18 3, o 7 (c 106 [6]), o 5 (.alloc l4), p (t 18 5 7)] [2, 3, 4, 5]
 (rs [of 8 0 2, o 9 (k 8), of 10 1 5, p (t 1 10 9)] [2, 3, 4, 5]
 (.seq (rs [of 11 0 3, o 12 (k 11), o 13 (c 94 [12])] [2, 4, 5, 13]
 (.cond (.s 13) (.reg [of 14 6 2, o 15 (k 14), o 16 (c 35 [15]), of 17 17 5, p (t 1 17 16)] none [4, 5]) .skip))
 (rs [ol 18 18 5, p (t 18 4 18)] [4]
 (.ret [4]))))))⟩

def xf_plain_sameAcks_k0 : List (Nat × Option (Nat × Nat × Bool)) := [(0, none), (1, none), (5, none)]
def xf_plain_sameAcks_b0 : XCode := (.seq (rs [om 11 5, om 12 0, o 13 (le 12), o 14 (bl 11 13)] [0, 1, 5, 14]
 (.cond (.s 14) .skip (.exit 0 [])))
 (.seq (.block 1 (rp (some []) [om 17 0, om 18 5, o 19 (ia 4 17 18), ol 20 4 19, om 21 1, om 22 5, o 23 (ia 4 21 22), ol 24 4 23, o 25 (.eqv true true [.i, .i, .i, .i] (.s 20) (.s 24))] [0, 1, 5, 25]
 (.cond (.s 25) (rs [o 4 (.mv (.c w))] [4]
 (.ret [4])) .skip)))
 (.reg [om 15 5, o 16 (baj 15 1), om 5 16] none [0, 1, 5])))
def xf_plain_sameAcks : XFunc := ⟨none, none, true, 2, [.tmp 4], (rs [o 4 (.mv (.c w))] [0, 1]
 (.seq (rs [om 6 0, o 7 (le 6), om 8 1, o 9 (le 8), o 10 (n 7 9)] [0, 1, 10]
 (.cond (.s 10) (rs [o 4 (.mv (.c w))] [4]
 (.ret [4])) .skip))
 (.seq (rs [o 5 (.mv (j 0))] [0, 1, 5]
 (.block 0 (.loop xf_plain_sameAcks_k0 xf_plain_sameAcks_b0)))
 (rs [o 4 (.mv (.c v))] [4]
 (.ret [4])))))⟩

def xf_plain_sameMarks_k0 : List (Nat × Option (Nat × Nat × Bool)) := [(0, none), (1, none), (5, none)]
def xf_plain_sameMarks_b0 : XCode := (.seq (rs [om 11 5, om 12 0, o 13 (le 12), o 14 (bl 11 13)] [0, 1, 5, 14]
 (.cond (.s 14) .skip (.exit 0 [])))
 (.seq (.block 1 (rp (some []) [om 17 0, om 18 5, o 19 (ia 3 17 18), ol 20 3 19, om 21 1, om 22 5, o 23 (ia 3 21 22), ol 24 3 23, o 25 (.eqv true true [.i, .i, .i] (.s 20) (.s 24))] [0, 1, 5, 25]
 (.cond (.s 25) (rs [o 4 (.mv (.c w))] [4]
 (.ret [4])) .skip)))
 (.reg [om 15 5, o 16 (baj 15 1), om 5 16] none [0, 1, 5])))
def xf_plain_sameMarks : XFunc := ⟨none, none, true, 2, [.tmp 4], (rs [o 4 (.mv (.c w))] [0, 1]
 (.seq (rs [om 6 0, o 7 (le 6), om 8 1, o 9 (le 8), o 10 (n 7 9)] [0, 1, 10]
 (.cond (.s 10) (rs [o 4 (.mv (.c w))] [4]
 (.ret [4])) .skip))
 (.seq (rs [o 5 (.mv (j 0))] [0, 1, 5]
 (.block 0 (.loop xf_plain_sameMarks_k0 xf_plain_sameMarks_b0)))
 (rs [o 4 (.mv (.c v))] [4]
 (.ret [4])))))⟩

def xf_plain_SameBallots_k0 : List (Nat × Option (Nat × Nat × Bool)) := [(0, none), (1, none), (5, none)]
def xf_plain_SameBallots_b0 : XCode := (.seq (rs [om 11 5, om 12 0, o 13 (le 12), o 14 (bl 11 13)] [0, 1, 5, 14]
 (.cond (.s 14) .skip (.exit 0 [])))
 (.seq (.block 1 (sp (some []) [am 17 0, am 18 5, a 19 (ia 6 17 18), a 20 (f 0 19), a 21 (k 20), am 22 1, am 23 5, a 24 (ia 6 22 23), a 25 (f 0 24), a 26 (k 25), a 27 (n 21 26), am 28 27, d 29 (m 0) 28, d 30 (m 5) 28, r 31 (ia 6 29 30) 28, r 32 (f 1 31) 28, r 33 (l 2 32) 28, d 34 (m 1) 28, d 35 (m 5) 28, r 36 (ia 6 34 35) 28, r 37 (f 1 36) 28, r 38 (l 2 37) 28, r 39 (.eqv true true [.i, .i] (.s 33) (.s 38)) 28, a 40 (ko 28 39), am 41 40, d 42 (m 0) 41, d 43 (m 5) 41, r 44 (ia 6 42 43) 41, r 45 (f 3 44) 41, r 46 (k 45) 41, d 47 (m 1) 41, d 48 (m 5) 41, r 49 (ia 6 47 48) 41, r 50 (f 3 49) 41, r 51 (k 50) 41, r 52 (n 46 51) 41, a 53 (ko 41 52), am 54 53, d 55 (m 0) 54, d 56 (m 5) 54, r 57 (ia 6 55 56) 54, r 58 (f 4 57) 54, r 59 (k 58) 54, d 60 (m 1) 54, d 61 (m 5) 54, r 62 (ia 6 60 61) 54, r 63 (f 4 62) 54, r 64 (k 63) 54, r 65 (n 59 64) 54, a 66 (ko 54 65), am 67 66, d 68 (m 0) 67, d 69 (m 5) 67, r 70 (ia 6 68 69) 67, r 71 (f 5 70) 67, r 72 (k 71) 67, d 73 (m 1) 67, d 74 (m 5) 67, r 75 (ia 6 73 74) 67, r 76 (f 5 75) 67, r 77 (k 76) 67, r 78 (c 27 [72, 77]) 67, r 79 (nt 78) 67, a 80 (ko 67 79)] [0, 1, 5, 80]
 (.cond (.s 80) (rs [o 4 (.mv (.c w))] [4]
 (.ret [4])) .skip)))
 (.reg [om 15 5, o 16 (baj 15 1), om 5 16] none [0, 1, 5])))
def xf_plain_SameBallots : XFunc := ⟨none, none, true, 2, [.tmp 4], (rs [o 4 (.mv (.c w))] [0, 1]
 (.seq (rs [om 6 0, o 7 (le 6), om 8 1, o 9 (le 8), o 10 (n 7 9)] [0, 1, 10]
 (.cond (.s 10) (rs [o 4 (.mv (.c w))] [4]
 (.ret [4])) .skip))
 (.seq (rs [o 5 (.mv (j 0))] [0, 1, 5]
 (.block 0 (.loop xf_plain_SameBallots_k0 xf_plain_SameBallots_b0)))
 (rs [o 4 (.mv (.c v))] [4]
 (.ret [4])))))⟩

def xf_plain_SameAnswers_k0 : List (Nat × Option (Nat × Nat × Bool)) := [(0, none), (1, none), (5, none)]
def xf_plain_SameAnswers_b0 : XCode := (.seq (rs [om 11 5, om 12 0, o 13 (le 12), o 14 (bl 11 13)] [0, 1, 5, 14]
 (.cond (.s 14) .skip (.exit 0 [])))
 (.seq (.block 1 (sp (some []) [am 17 0, am 18 5, a 19 (ia 6 17 18), a 20 (f 0 19), a 21 (k 20), am 22 1, am 23 5, a 24 (ia 6 22 23), a 25 (f 0 24), a 26 (k 25), a 27 (n 21 26), am 28 27, d 29 (m 0) 28, d 30 (m 5) 28, r 31 (ia 6 29 30) 28, r 32 (f 1 31) 28, r 33 (l 2 32) 28, d 34 (m 1) 28, d 35 (m 5) 28, r 36 (ia 6 34 35) 28, r 37 (f 1 36) 28, r 38 (l 2 37) 28, r 39 (.eqv true true [.i, .i] (.s 33) (.s 38)) 28, a 40 (ko 28 39), am 41 40, d 42 (m 0) 41, d 43 (m 5) 41, r 44 (ia 6 42 43) 41, r 45 (f 3 44) 41, r 46 (k 45) 41, d 47 (m 1) 41, d 48 (m 5) 41, r 49 (ia 6 47 48) 41, r 50 (f 3 49) 41, r 51 (k 50) 41, r 52 (n 46 51) 41, a 53 (ko 41 52), am 54 53, d 55 (m 0) 54, d 56 (m 5) 54, r 57 (ia 6 55 56) 54, r 58 (f 4 57) 54, r 59 (k 58) 54, d 60 (m 1) 54, d 61 (m 5) 54, r 62 (ia 6 60 61) 54, r 63 (f 4 62) 54, r 64 (k 63) 54, r 65 (n 59 64) 54, a 66 (ko 54 65), am 67 66, d 68 (m 0) 67, d 69 (m 5) 67, r 70 (ia 6 68 69) 67, r 71 (f 5 70) 67, r 72 (k 71) 67, d 73 (m 1) 67, d 74 (m 5) 67, r 75 (ia 6 73 74) 67, r 76 (f 5 75) 67, r 77 (k 76) 67, r 78 (c 27 [72, 77]) 67, r 79 (nt 78) 67, a 80 (ko 67 79)] [0, 1, 5, 80]
 (.cond (.s 80) (rs [o 4 (.mv (.c w))] [4]
 (.ret [4])) .skip)))
 (.reg [om 15 5, o 16 (baj 15 1), om 5 16] none [0, 1, 5])))
def xf_plain_SameAnswers : XFunc := ⟨none, none, true, 2, [.tmp 4], (rs [o 4 (.mv (.c w))] [0, 1]
 (.seq (rs [om 6 0, o 7 (le 6), om 8 1, o 9 (le 8), o 10 (n 7 9)] [0, 1, 10]
 (.cond (.s 10) (rs [o 4 (.mv (.c w))] [4]
 (.ret [4])) .skip))
 (.seq (rs [o 5 (.mv (j 0))] [0, 1, 5]
 (.block 0 (.loop xf_plain_SameAnswers_k0 xf_plain_SameAnswers_b0)))
 (rs [o 4 (.mv (.c v))] [4]
 (.ret [4])))))⟩

def xf_core_Check : XFunc := ⟨none, none, true, 2, [.tmp 4], (rs [o 2 (bx 0), o 3 (bx 1), o 4 (.mv (j 0))] [2, 3]
 (.seq (rs [ol 8 4 2, o 9 (c 107 [8]), om 5 9] [2, 3, 5]
 (rs [om 10 5, o 11 (nj 10 0)] [2, 3, 5, 11]
 (.cond (.s 11) (rs [om 12 5, om 4 12] [4]
 (.ret [4])) .skip)))
 (rs [ol 13 4 2, o 14 (c 80 [13]), om 6 14] [2, 3, 6]
 (.seq (ss [a 15 (f 0 3), a 16 (k 15), a 17 (blj 16 0), am 18 17, d 19 (f 0 3) 18, d 20 (k 19) 18, d 21 (m 6) 18, d 22 (bh 20 21) 18, a 23 (ko 18 22), am 24 23, d 25 (f 2 3) 24, d 26 (k 25) 24, d 27 (blj 26 0) 24, a 28 (ko 24 27), am 29 28, d 30 (f 2 3) 29, d 31 (k 30) 29, d 32 (bgj 31 4294967296) 29, a 33 (ko 29 32), am 34 33, d 35 (f 3 3) 34, d 36 (k 35) 34, d 37 (blj 36 0) 34, a 38 (ko 34 37), am 39 38, d 40 (f 3 3) 39, d 41 (k 40) 39, d 42 (f 2 3) 39, d 43 (k 42) 39, d 44 (bg 41 43) 39, a 45 (ko 39 44), am 46 45, d 47 (f 7 3) 46, d 48 (k 47) 46, d 49 (blj 48 0) 46, a 50 (ko 46 49), am 51 50, d 52 (f 7 3) 51, d 53 (k 52) 51, d 54 (f 2 2) 51, d 55 (k 54) 51, d 56 (bh 53 55) 51, a 57 (ko 51 56), am 58 57, d 59 (f 6 3) 58, d 60 (k 59) 58, d 61 (le 60) 58, d 62 (m 6) 58, d 63 (n 61 62) 58, a 64 (ko 58 63), am 65 64, d 66 (l 4 2) 65, d 67 (f 4 3) 65, d 68 (k 67) 65, d 69 (f 5 3) 65, d 70 (k 69) 65, r 71 (c 108 [66, 68, 70]) 65, r 72 (nt 71) 65, a 73 (ko 65 72), am 74 73, d 75 (l 12 3) 74, r 76 (c 109 [75]) 74, r 77 (nt 76) 74, a 78 (ko 74 77)] [2, 3, 78]
 (.cond (.s 78) (rs [o 4 (.mv (j 2))] [4]
 (.ret [4])) .skip))
 (rs [o 7 (.mv (.c w))] [2, 3, 7]
 (.seq (rs [of 79 1 3, o 80 (k 79)] [2, 3, 7, 80]
 (.block 0 (rs [o 82 (qj 80 1), om 81 82] [2, 3, 7, 80, 81]
 (.cond (.s 81) (.reg [ol 83 4 2, ol 84 12 3, o 85 (c 110 [83, 84]), om 7 85] none [7]) (rs [o 87 (qj 80 2), om 86 87] [2, 3, 7, 80, 86]
 (.cond (.s 86) (.reg [ol 88 4 2, ol 89 12 3, o 90 (c 111 [88, 89]), om 7 90] none [7]) (rs [o 92 (qj 80 3), om 91 92] [2, 3, 7, 91]
 (.cond (.s 91) (.reg [ol 93 4 2, ol 94 12 3, o 95 (c 112 [93, 94]), om 7 95] none [7]) .skip))))))))
 (.seq (rs [om 96 7, o 97 (nt 96)] [97]
 (.cond (.s 97) (rs [o 4 (.mv (j 2))] [4]
 (.ret [4])) .skip))
 (rs [o 4 (.mv (j 0))] [4]
 (.ret [4])))))))))⟩

def xf_core_Wait : XFunc := ⟨none, none, true, 2, [.cell 4 (some 12), .tmp 5, .tmp 6], (rs [o 2 (bx 0), o 3 (bx 1), o 4 (.alloc l1), o 5 (.mv (.c w)), o 6 (.mv (j 0))] [2, 3, 4]
 (.seq (rs [ol 9 4 2, ol 10 12 3, o 11 (c 75 [9, 10]), om 7 11] [2, 3, 4, 7]
 (rs [om 12 7, o 13 (nj 12 0)] [2, 3, 4, 7, 13]
 (.cond (.s 13) (rs [o 14 (.build l1 []), om 15 7, p (t 12 4 14), o 5 (.mv (.c w)), om 6 15] [4, 5, 6]
 (.ret [4, 5, 6])) .skip)))
 (rs [ol 16 12 3, o 17 (c 113 [16]), o 8 (.alloc l1), p (t 12 8 17)] [2, 3, 4, 8]
 (.seq (rs [of 18 1 3, o 19 (k 18), o 20 (qj 19 3), om 21 20, h 22 (f 1 3) 21, h 23 (k 22) 21, h 24 (qj 23 1) 21, h 25 (m 24) 21, g 26 (l 4 2) 25, g 27 (l 12 3) 25, g 28 (c 114 [26, 27]) 25, h 29 (ka 25 28) 21, o 30 (ko 21 29)] [2, 4, 8, 30]
 (.cond (.s 30) (rs [ol 31 12 8, p (t 12 4 31), o 5 (.mv (.c w)), o 6 (.mv (j 0))] [4, 5, 6]
 (.ret [4, 5, 6])) .skip))
 (rs [of 32 7 8, o 33 (k 32), o 34 (baj 33 1), of 35 7 8, p (t 1 35 34)] [2, 4, 8]
 (.seq (rs [of 36 7 8, o 37 (k 36), of 38 2 2, o 39 (k 38), o 40 (bl 37 39)] [4, 8, 40]
 (.cond (.s 40) (rs [ol 41 12 8, p (t 12 4 41), o 5 (.mv (.c w)), o 6 (.mv (j 0))] [4, 5, 6]
 (.ret [4, 5, 6])) .skip))
 (rs [of 42 7 8, p (.store 1 (.s 42) (j 0))] [4, 8]
 (rs [ol 43 12 8, p (t 12 4 43), o 5 (.mv (.c v)), o 6 (.mv (j 0))] [4, 5, 6]
 (.ret [4, 5, 6])))))))))⟩

def xf_core_self : XFunc := ⟨none, none, true, 2, [.tmp 4], (rs [o 2 (bx 0), o 4 (.mv (j 0))] [1, 2]
 (.seq (rs [ol 6 4 2, o 7 (c 107 [6]), om 5 7] [1, 2, 5]
 (rs [om 8 5, o 9 (nj 8 0)] [1, 2, 5, 9]
 (.cond (.s 9) (rs [om 10 5, om 4 10] [4]
 (.ret [4])) .skip)))
 (.seq (ss [am 11 1, a 12 (blj 11 0), am 13 12, d 14 (m 1) 13, d 15 (l 4 2) 13, r 16 (c 80 [15]) 13, r 17 (bh 14 16) 13, a 18 (ko 13 17)] [18]
 (.cond (.s 18) (rs [o 4 (.mv (j 3))] [4]
 (.ret [4])) .skip))
 (rs [o 4 (.mv (j 0))] [4]
 (.ret [4])))))⟩

def xf_vector_New : XFunc := ⟨none, none, false, 1, [.tmp 2, .tmp 3], (rs [o 2 (.mv (.c (.nil 26 2 true))), o 3 (.mv (j 0))] [0]
 (.seq (ss [am 4 0, a 5 (blj 4 1), am 6 5, d 7 (m 0) 6, d 8 (bgj 7 7) 6, a 9 (ko 6 8)] [0, 9]
 (.cond (.s 9) (rs [o 2 (.mv (.c (.nil 26 2 true))), o 3 (.mv (j 3))] [2, 3]
 (.ret [2, 3])) .skip))
 (rs [om 10 0, o 11 (.mksl 26 2 16 true [y, y] (.s 10) (.s 10)), om 2 11, o 3 (.mv (j 0))] [2, 3]
 (.ret [2, 3]))))⟩

def xf_core_Nodes : XFunc := ⟨none, none, true, 1, [.tmp 2], (rs [o 1 (bx 0), o 2 (.mv (j 0))] [1]
 (.seq (rs [ol 3 4 1, o 4 (c 107 [3]), o 5 (nj 4 0)] [1, 5]
 (.cond (.s 5) (rs [o 2 (.mv (j 0))] [2]
 (.ret [2])) .skip))
 (rs [of 6 0 1, o 7 (k 6), o 8 (.bin .mul (j 2) (.s 7)), o 9 (baj 8 1), om 2 9] [2]
 (.ret [2]))))⟩

def xf_core_All_k0 : List (Nat × Option (Nat × Nat × Bool)) := [(4, none), (5, none), (9, some (71, 19, false)), (18, none), (19, none)]
def xf_core_All_b0 : XCode := (rs [o 20 (bl 19 18)] [4, 5, 9, 18, 19, 20]
 (.seq (.cond (.s 20) .skip (.exit 0 [9]))
 (.seq (.block 1 (rs [om 21 19, om 10 21] [4, 5, 9, 10, 18, 19]
 (rs [om 22 10, of 23 0 4, o 24 (k 23), o 25 (n 22 24)] [4, 5, 9, 10, 18, 19, 25]
 (.cond (.s 25) (.reg [om 26 9, ol 27 12 4, om 28 10, ol 29 18 5, o 30 (c 115 [27, 28, 29]), o 31 (.bsl 71 19 false 1 l3 [(0, 19, (.s 30))]), o 32 (.app 71 19 200 false (.s 26) (.s 31)), om 9 32] none [4, 5, 9, 18, 19]) .skip))))
 (.reg [o 33 (baj 19 1), om 19 33] none [4, 5, 9, 18, 19]))))
def xf_core_All : XFunc := ⟨none, none, true, 3, [.tmp 6, .tmp 7], (rs [o 3 (bx 0), o 4 (bx 1), o 5 (bx 2), o 6 (.mv (.c (.nil 71 19 false))), o 7 (.mv (j 0))] [3, 4, 5]
 (.seq (rs [ol 11 4 3, ol 12 12 4, o 13 (c 75 [11, 12]), om 8 13] [3, 4, 5, 8]
 (rs [om 14 8, o 15 (nj 14 0)] [3, 4, 5, 8, 15]
 (.cond (.s 15) (rs [om 16 8, o 6 (.mv (.c (.nil 71 19 false))), om 7 16] [6, 7]
 (.ret [6, 7])) .skip)))
 (rs [o 9 (.mv (.c (.nil 71 19 false)))] [3, 4, 5, 9]
 (.seq (rs [ol 17 4 3, o 18 (c 80 [17]), o 19 (.mv (j 0))] [4, 5, 9, 18, 19]
 (.block 0 (.loop xf_core_All_k0 xf_core_All_b0)))
 (rs [om 34 9, om 6 34, o 7 (.mv (j 0))] [6, 7]
 (.ret [6, 7]))))))⟩

def xf_ref09_self : XFunc := ⟨none, none, true, 2, [.tmp 4], (rs [o 2 (bx 0), o 4 (.mv (j 0))] [1, 2]
 (rs [ol 6 4 2, o 7 (c 62 [6]), om 5 7] [1, 2, 5]
 (.seq (rs [om 8 5, o 9 (qj 8 0), om 10 9, g 11 (m 1) 10, g 12 (blj 11 0) 10, g 13 (m 12) 10, h 14 (m 1) 13, h 15 (l 4 2) 13, h 16 (c 69 [15]) 13, h 17 (bh 14 16) 13, g 18 (ko 13 17) 10, o 19 (ka 10 18)] [5, 19]
 (.cond (.s 19) (.reg [o 5 (.mv (j 3))] none [5]) .skip))
 (rs [om 20 5, om 4 20] [4]
 (.ret [4])))))⟩

def xf_ref09_All_k0 : List (Nat × Option (Nat × Nat × Bool)) := [(3, none), (4, none), (5, none), (9, some (71, 19, false)), (10, none)]
def xf_ref09_All_b0 : XCode := (.seq (rs [om 17 10, ol 18 4 3, o 19 (c 69 [18]), o 20 (bl 17 19)] [3, 4, 5, 9, 10, 20]
 (.cond (.s 20) .skip (.exit 0 [9])))
 (.seq (.block 1 (rs [om 23 10, of 24 0 4, o 25 (k 24), o 26 (n 23 25)] [3, 4, 5, 9, 10, 26]
 (.cond (.s 26) (.reg [om 27 9, om 28 10, ol 29 12 4, ol 30 18 5, o 31 (c 70 [29, 30]), o 32 (.build l3 [(0, 1, (.s 28)), (1, 18, (.s 31))]), o 33 (.bsl 71 19 false 1 l3 [(0, 19, (.s 32))]), o 34 (.app 71 19 200 false (.s 27) (.s 33)), om 9 34] none [3, 4, 5, 9, 10]) .skip)))
 (.reg [om 21 10, o 22 (baj 21 1), om 10 22] none [3, 4, 5, 9, 10])))
def xf_ref09_All : XFunc := ⟨none, none, false, 3, [.tmp 6, .tmp 7], (rs [o 3 (bx 0), o 4 (bx 1), o 5 (bx 2), o 6 (.mv (.c (.nil 71 19 false))), o 7 (.mv (j 0))] [3, 4, 5]
 (rs [ol 11 4 3, ol 12 12 4, o 13 (c 24 [11, 12]), om 8 13] [3, 4, 5, 8]
 (.seq (rs [om 14 8, o 15 (nj 14 0)] [3, 4, 5, 8, 15]
 (.cond (.s 15) (rs [om 16 8, o 6 (.mv (.c (.nil 71 19 false))), om 7 16] [6, 7]
 (.ret [6, 7])) .skip))
 (rs [o 9 (.mv (.c (.nil 71 19 false)))] [3, 4, 5, 9]
 (.seq (rs [o 10 (.mv (j 0))] [3, 4, 5, 9, 10]
 (.block 0 (.loop xf_ref09_All_k0 xf_ref09_All_b0)))
 (rs [om 35 9, om 6 35, o 7 (.mv (j 0))] [6, 7]
 (.ret [6, 7])))))))⟩

def xf_plain_SameMsg : XFunc := ⟨none, none, true, 2, [.tmp 4], (rs [o 2 (bx 0), o 3 (bx 1), o 4 (.mv (.c w))] [2, 3]
 (ss [a 5 (f 0 2), a 6 (k 5), a 7 (f 0 3), a 8 (k 7), a 9 (q 6 8), am 10 9, b 11 (f 1 2) 10, b 12 (k 11) 10, b 13 (f 1 3) 10, b 14 (k 13) 10, b 15 (q 12 14) 10, a 16 (ka 10 15), am 17 16, b 18 (f 2 2) 17, b 19 (k 18) 17, b 20 (f 2 3) 17, b 21 (k 20) 17, b 22 (q 19 21) 17, a 23 (ka 17 22), am 24 23, b 25 (f 3 2) 24, b 26 (l 5 25) 24, b 27 (f 3 3) 24, b 28 (l 5 27) 24, b 29 (.eqv false true [.i, .i, .i, .i, .s] (.s 26) (.s 28)) 24, a 30 (ka 24 29), am 31 30, b 32 (f 8 2) 31, b 33 (l 3 32) 31, b 34 (f 8 3) 31, b 35 (l 3 34) 31, b 36 (.eqv false true [.i, .i, .s] (.s 33) (.s 35)) 31, a 37 (ka 31 36), am 38 37, b 39 (f 11 2) 38, b 40 (k 39) 38, b 41 (f 11 3) 38, b 42 (k 41) 38, b 43 (q 40 42) 38, a 44 (ka 38 43), am 45 44, b 46 (f 12 2) 45, b 47 (k 46) 45, b 48 (f 12 3) 45, b 49 (k 48) 45, b 50 (q 47 49) 45, a 51 (ka 45 50), am 52 51, b 53 (f 13 2) 52, b 54 (k 53) 52, b 55 (f 13 3) 52, b 56 (k 55) 52, b 57 (q 54 56) 52, a 58 (ka 52 57), am 59 58, b 60 (f 14 2) 59, b 61 (l 2 60) 59, b 62 (f 14 3) 59, b 63 (l 2 62) 59, b 64 (.eqv false true [.i, .i] (.s 61) (.s 63)) 59, a 65 (ka 59 64), am 66 65, b 67 (f 16 2) 66, b 68 (k 67) 66, b 69 (f 16 3) 66, b 70 (k 69) 66, u 71 (c 27 [68, 70]) 66, a 72 (ka 66 71), am 73 72, b 74 (f 17 2) 73, b 75 (k 74) 73, b 76 (f 17 3) 73, b 77 (k 76) 73, u 78 (c 34 [75, 77]) 73, a 79 (ka 73 78), am 4 79] [4]
 (.ret [4])))⟩

def xf_rejoin_must : XFunc := ⟨none, none, true, 1, [], (rs [om 2 0, o 3 (nj 2 0)] [0, 3]
 (.cond (.s 3) (.reg [om 4 0, o 5 (.build [z] [(0, 1, (.s 4))]), o 6 (.mkifc 145 (.s 5)), p .stop] none []) .skip))⟩

def xf_message_Check : XFunc := ⟨none, none, true, 2, [.tmp 4], (rs [o 2 (bx 0), o 3 (bx 1), o 4 (.mv (j 0))] [2, 3]
 (.seq (rs [ol 8 4 2, o 9 (c 116 [8]), o 10 (nt 9)] [2, 3, 10]
 (.cond (.s 10) (rs [o 4 (.mv (j 1))] [4]
 (.ret [4])) .skip))
 (.seq (rs [of 11 0 3, o 12 (k 11), o 13 (c 117 [12]), o 14 (nt 13)] [2, 3, 14]
 (.cond (.s 14) (rs [o 4 (.mv (j 70))] [4]
 (.ret [4])) .skip))
 (rs [of 15 0 3, o 16 (k 15), o 17 (.aadr 10 15 (.c (.dptr usesD)) (.s 16)), ol 18 10 17, o 5 (.alloc l6), p (t 10 5 18)] [2, 3, 5]
 (.seq (ss [a 19 (l 18 3), a 20 (c 118 [19]), a 21 (nt 20), am 22 21, d 23 (l 4 2) 22, d 24 (l 18 3) 22, r 25 (c 119 [23, 24]) 22, r 26 (nt 25) 22, a 27 (ko 22 26)] [2, 3, 5, 27]
 (.cond (.s 27) (rs [o 4 (.mv (j 71))] [4]
 (.ret [4])) .skip))
 (.seq (rs [o 28 (.aadr 1 10 (.s 5) (j 6)), o 29 (k 28), om 30 29, g 31 (f 0 3) 30, g 32 (k 31) 30, g 33 (f 3 3) 30, g 34 (l 5 33) 30, g 35 (c 120 [32, 34]) 30, g 36 (nt 35) 30, o 37 (ka 30 36), om 38 37, h 39 (.aadr 1 10 (.s 5) (j 7)) 38, h 40 (k 39) 38, h 41 (m 40) 38, g 42 (f 8 3) 41, g 43 (l 3 42) 41, g 44 (c 121 [43]) 41, g 45 (nt 44) 41, g 46 (m 45) 41, h 47 (l 18 3) 46, h 48 (c 122 [47]) 46, h 49 (nt 48) 46, g 50 (ko 46 49) 41, h 51 (ka 41 50) 38, o 52 (ko 38 51), om 53 52, h 54 (.aadr 1 10 (.s 5) (j 9)) 53, h 55 (k 54) 53, h 56 (m 55) 53, g 57 (f 17 3) 56, g 58 (k 57) 56, g 59 (le 58) 56, g 60 (f 0 2) 56, g 61 (k 60) 56, g 62 (.bin .mul (j 2) (.s 61)) 56, g 63 (baj 62 1) 56, g 64 (n 59 63) 56, h 65 (ka 56 64) 53, o 66 (ko 53 65), om 67 66, h 68 (.aadr 1 10 (.s 5) (j 5)) 67, h 69 (k 68) 67, h 70 (m 69) 67, g 71 (f 14 3) 70, g 72 (l 2 71) 70, g 73 (.build [y, y] []) 70, g 74 (.eqv false true [.i, .i] (.s 72) (.s 73)) 70, h 75 (ka 70 74) 67, o 76 (ko 67 75)] [2, 3, 5, 76]
 (.cond (.s 76) (rs [o 4 (.mv (j 71))] [4]
 (.ret [4])) .skip))
 (.seq (rs [o 77 (.aadr 1 10 (.s 5) (j 8)), o 78 (k 77)] [2, 3, 78]
 (.cond (.s 78) (rs [of 80 16 3, o 81 (k 80), of 82 1 2, o 83 (k 82), o 84 (c 123 [81, 83]), om 79 84, o 85 (e 79 0), o 86 (e 79 1), om 6 85, om 7 86] [2, 3, 6]
 (rs [om 87 6, o 88 (nj 87 0)] [2, 3, 88]
 (.cond (.s 88) (rs [o 4 (.mv (j 71))] [4]
 (.ret [4])) .skip))) .skip))
 (.seq (sp (some []) [a 89 (f 0 3), a 90 (k 89), a 91 (qj 90 9), am 92 91, b 93 (f 17 3) 92, b 94 (k 93) 92, b 95 (f 1 3) 92, b 96 (k 95) 92, u 97 (ia 2 94 96) 92, u 98 (l 2 97) 92, b 99 (f 14 3) 92, b 100 (l 2 99) 92, u 101 (.eqv true true [.i, .i] (.s 98) (.s 100)) 92, a 102 (ka 92 101), am 103 102, d 104 (f 0 3) 103, d 105 (k 104) 103, d 106 (qj 105 10) 103, d 107 (m 106) 103, b 108 (f 16 3) 107, b 109 (k 108) 107, b 110 (le 109) 107, b 111 (bgj 110 0) 107, d 112 (ka 107 111) 103, r 113 (m 112) 103, b 114 (f 1 3) 113, b 115 (k 114) 113, b 116 (f 2 3) 113, b 117 (k 116) 113, b 118 (f 0 2) 113, b 119 (k 118) 113, b 120 (.bin .mul (j 2) (.s 119)) 113, b 121 (baj 120 1) 113, u 122 (.bin .rem (.s 117) (.s 121)) 113, u 123 (n 115 122) 113, r 124 (ka 113 123) 103, a 125 (ko 103 124)] [125]
 (.cond (.s 125) (rs [o 4 (.mv (j 71))] [4]
 (.ret [4])) .skip))
 (rs [o 4 (.mv (j 0))] [4]
 (.ret [4]))))))))))⟩

def xf_core_Admit : XFunc := ⟨none, none, true, 3, [.cell 6 (some 12), .tmp 7, .tmp 8], (rs [o 3 (bx 0), o 4 (bx 1), o 5 (bx 2), o 6 (.alloc l1), o 7 (.mv (.c w)), o 8 (.mv (j 0))] [3, 4, 5, 6]
 (rs [ol 11 4 3, ol 12 12 4, o 13 (c 75 [11, 12]), om 9 13] [3, 4, 5, 6, 9]
 (.seq (rs [om 14 9, o 15 (qj 14 0)] [3, 4, 5, 6, 9, 15]
 (.cond (.s 15) (.reg [ol 16 4 3, ol 17 18 5, o 18 (c 87 [16, 17]), om 9 18] none [3, 4, 5, 6, 9]) .skip))
 (.seq (rs [om 19 9, o 20 (nj 19 0)] [3, 4, 5, 6, 9, 20]
 (.cond (.s 20) (rs [o 21 (.build l1 []), om 22 9, p (t 12 6 21), o 7 (.mv (.c w)), om 8 22] [6, 7, 8]
 (.ret [6, 7, 8])) .skip))
 (rs [ol 23 12 4, o 24 (c 113 [23]), o 10 (.alloc l1), p (t 12 10 24)] [3, 4, 5, 6, 10]
 (.seq (rs [of 25 0 5, o 26 (k 25), o 27 (c 124 [26]), o 28 (nt 27)] [3, 4, 5, 6, 10, 28]
 (.cond (.s 28) (rs [ol 29 12 10, p (t 12 6 29), o 7 (.mv (.c v)), o 8 (.mv (j 0))] [6, 7, 8]
 (.ret [6, 7, 8])) .skip))
 (.seq (rs [of 30 1 5, o 31 (k 30), of 32 0 4, o 33 (k 32), o 34 (q 31 33)] [3, 4, 5, 6, 10, 34]
 (.cond (.s 34) (rs [ol 35 12 10, p (t 12 6 35), o 7 (.mv (.c w)), o 8 (.mv (j 0))] [6, 7, 8]
 (.ret [6, 7, 8])) .skip))
 (.seq (rs [of 36 3 3, o 37 (k 36)] [4, 5, 6, 10, 37]
 (.cond (.s 37) (rs [ol 38 12 10, p (t 12 6 38), o 7 (.mv (.c v)), o 8 (.mv (j 0))] [6, 7, 8]
 (.ret [6, 7, 8])) .skip))
 (.seq (sp (some []) [a 39 (f 6 4), a 40 (k 39), a 41 (f 1 5), a 42 (k 41), a 43 (f 17 5), a 44 (k 43), a 45 (.build [z, (.nil 26 2 true)] [(0, 1, (.s 42)), (1, 1, (.s 44))]), a 46 (c 125 [40, 45]), am 47 46, d 48 (f 17 5) 47, d 49 (k 48) 47, d 50 (f 0 4) 47, d 51 (k 50) 47, r 52 (ia 2 49 51) 47, r 53 (l 2 52) 47, d 54 (f 6 4) 47, d 55 (k 54) 47, d 56 (f 0 4) 47, d 57 (k 56) 47, r 58 (ia 2 55 57) 47, r 59 (l 2 58) 47, r 60 (c 126 [53, 59]) 47, r 61 (bgj 60 0) 47, a 62 (ko 47 61)] [4, 5, 6, 10, 62]
 (.cond (.s 62) (rs [ol 63 12 10, p (t 12 6 63), o 7 (.mv (.c w)), o 8 (.mv (j 0))] [6, 7, 8]
 (.ret [6, 7, 8])) .skip))
 (rs [of 65 6 4, o 66 (k 65), of 67 17 5, o 68 (k 67), o 69 (.bsl 30 1 false 2 [(.nil 26 2 true), (.nil 26 2 true)] [(0, 1, (.s 66)), (1, 1, (.s 68))]), o 70 (c 127 [69]), om 64 70, o 71 (e 64 0), o 72 (e 64 1), of 73 6 10, p (t 1 73 71)] [6, 10]
 (rs [of 74 8 10, o 75 (k 74), of 76 6 10, o 77 (k 76), o 78 (c 128 [75, 77]), of 79 8 10, p (t 1 79 78)] [6, 10]
 (rs [of 80 9 10, o 81 (k 80), of 82 6 10, o 83 (k 82), o 84 (c 129 [81, 83]), of 85 9 10, p (t 1 85 84)] [6, 10]
 (rs [of 86 10 10, o 87 (k 86), of 88 6 10, o 89 (k 88), o 90 (c 130 [87, 89]), of 91 10 10, p (t 1 91 90)] [6, 10]
 (rs [of 92 11 10, o 93 (k 92), of 94 6 10, o 95 (k 94), o 96 (c 131 [93, 95]), of 97 11 10, p (t 1 97 96)] [6, 10]
 (rs [ol 98 12 10, p (t 12 6 98), o 7 (.mv (.c v)), o 8 (.mv (j 0))] [6, 7, 8]
 (.ret [6, 7, 8]))))))))))))))))⟩

def xf_rejoin_step_recovery : XFunc := ⟨none, none, false, 1, [], (.seq (rs [om 3 0, o 4 (nc 3), of 5 0 4, of 6 4 5, of 7 1 6, o 8 (k 7), o 9 (nj 8 1)] [0, 9]
 (.cond (.s 9) (.ret []) .skip))
 (rp (some [(5, 12), (10, 12)]) [om 10 0, o 11 (nc 10), of 12 0 11, of 13 4 12, of 14 2 13, o 15 (k 14), om 16 0, o 17 (nc 16), of 18 17 17, of 19 14 18, ol 20 2 19, o 21 (.build l4 [(0, 1, (j 10)), (2, 1, (.s 15)), (14, 2, (.s 20))]), o 2 (.alloc l4), p (t 18 2 21)] [0, 2]
 (.seq (rp (some [(11, 17)]) [om 22 0, o 23 (nc 22), of 24 0 23, of 25 0 24, ol 26 4 25, om 27 0, o 28 (nc 27), of 29 0 28, of 30 4 29, of 31 2 30, o 32 (k 31), o 33 (c 132 [26, 32]), om 34 0, o 35 (nc 34), of 36 0 35, of 37 4 36, of 38 0 37, o 39 (k 38), o 40 (q 33 39)] [0, 2, 40]
 (.cond (.s 40) (.reg [om 41 0, o 42 (nc 41), of 43 0 42, of 44 4 43, of 45 4 44, o 46 (k 45), om 47 0, o 48 (nc 47), of 49 0 48, of 50 4 49, of 51 5 50, o 52 (k 51), of 53 16 2, p (t 1 53 46), of 54 12 2, p (t 1 54 52)] (some [(11, 13)]) [0, 2]) .skip))
 (.reg [om 55 0, o 56 (nc 55), of 57 0 56, om 58 0, o 59 (nc 58), of 60 17 59, of 61 1 60, o 62 (k 61), ol 63 18 2, o 64 (c 133 [57, 62, 63])] (some []) []))))⟩

def xf_rejoin_step_response : XFunc := ⟨none, none, false, 1, [], (.seq (sp (some []) [am 4 0, a 5 (nc 4), a 6 (f 0 5), a 7 (f 4 6), a 8 (f 1 7), a 9 (k 8), a 10 (nj 9 3), am 11 10, d 12 (m 0) 11, r 13 (nc 12) 11, r 14 (f 17 13) 11, r 15 (f 14 14) 11, r 16 (l 2 15) 11, d 17 (m 0) 11, r 18 (nc 17) 11, r 19 (f 0 18) 11, r 20 (f 4 19) 11, r 21 (f 6 20) 11, r 22 (k 21) 11, d 23 (m 0) 11, r 24 (nc 23) 11, r 25 (f 0 24) 11, r 26 (f 4 25) 11, r 27 (f 0 26) 11, r 28 (k 27) 11, r 29 (ia 2 22 28) 11, r 30 (l 2 29) 11, r 31 (.eqv true true [.i, .i] (.s 16) (.s 30)) 11, a 32 (ko 11 31)] [0, 32]
 (.cond (.s 32) (.ret []) .skip))
 (rp (some []) [om 33 0, om 34 0, o 35 (nc 34), of 36 0 35, of 37 4 36, of 38 11 37, o 39 (k 38), om 40 0, o 41 (nc 40), of 42 17 41, of 43 1 42, o 44 (k 43), om 45 0, o 46 (nc 45), of 47 0 46, of 48 4 47, of 49 6 48, o 50 (k 49), om 51 0, o 52 (nc 51), of 53 17 52, of 54 1 53, o 55 (k 54), o 56 (ia 2 50 55), ol 57 2 56, om 58 0, o 59 (nc 58), of 60 17 59, of 61 2 60, o 62 (k 61), om 63 0, o 64 (nc 63), of 65 17 64, of 66 12 65, o 67 (k 66), om 68 0, o 69 (nc 68), of 70 17 69, of 71 16 70, o 72 (k 71), o 73 (.build l2 [(0, 1, (.s 44)), (1, 2, (.s 57)), (3, 1, (.s 62)), (4, 1, (.s 67)), (5, 1, (.s 72))]), o 74 (c 134 [39, 73]), o 75 (nc 33), of 76 0 75, of 77 4 76, of 78 11 77, p (t 1 78 74)] [0]
 (rp (some [(5, 16), (11, 16), (12, 16)]) [om 80 0, o 81 (nc 80), of 82 0 81, of 83 0 82, of 84 0 83, o 85 (k 84), om 86 0, o 87 (nc 86), of 88 0 87, of 89 4 88, of 90 11 89, o 91 (k 90), o 92 (c 135 [85, 91]), om 79 92, o 93 (e 79 0), o 94 (e 79 1), o 2 (.alloc l2), p (t 6 2 93), om 3 94] [0, 2, 3]
 (rs [om 95 3, o 96 (qj 95 0)] [0, 2, 96]
 (.cond (.s 96) (.reg [om 97 0, o 98 (nc 97), of 99 0 98, of 100 3 2, o 101 (k 100), of 102 5 2, o 103 (k 102), of 104 4 2, o 105 (k 104), o 106 (c 136 [99, 101, 103, 105])] (some []) []) .skip)))))⟩

def xf_rejoin_step_getState : XFunc := ⟨none, none, false, 1, [], (sp (some []) [am 2 0, a 3 (nc 2), a 4 (f 0 3), a 5 (f 4 4), a 6 (f 1 5), a 7 (k 6), a 8 (qj 7 1), am 9 8, bb 10 0 9, u 11 (nc 10) 9, u 12 (f 17 11) 9, u 13 (f 2 12) 9, u 14 (k 13) 9, bb 15 0 9, u 16 (nc 15) 9, u 17 (f 0 16) 9, u 18 (f 4 17) 9, u 19 (f 2 18) 9, u 20 (k 19) 9, u 21 (q 14 20) 9, a 22 (ka 9 21)] [0, 22]
 (.cond (.s 22) (.reg [om 23 0, o 24 (nc 23), of 25 0 24, om 26 0, o 27 (nc 26), of 28 17 27, of 29 1 28, o 30 (k 29), om 31 0, o 32 (nc 31), of 33 0 32, of 34 4 33, of 35 2 34, o 36 (k 35), om 37 0, o 38 (nc 37), of 39 0 38, of 40 4 39, of 41 5 40, o 42 (k 41), om 43 0, o 44 (nc 43), of 45 0 44, of 46 4 45, of 47 4 46, o 48 (k 47), o 49 (.build l4 [(0, 1, (j 12)), (2, 1, (.s 36)), (12, 1, (.s 42)), (16, 1, (.s 48))]), o 50 (c 133 [25, 30, 49])] (some []) []) .skip))⟩

def xf_rejoin_step_newState : XFunc := ⟨none, none, false, 1, [], (.seq (sp (some [(18, 24)]) [am 2 0, a 3 (nc 2), a 4 (f 0 3), a 5 (f 4 4), a 6 (f 1 5), a 7 (k 6), a 8 (qj 7 3), am 9 8, d 10 (m 0) 9, r 11 (nc 10) 9, r 12 (f 0 11) 9, r 13 (f 0 12) 9, r 14 (l 4 13) 9, d 15 (m 0) 9, r 16 (nc 15) 9, r 17 (f 17 16) 9, r 18 (f 2 17) 9, r 19 (k 18) 9, r 20 (c 132 [14, 19]) 9, d 21 (m 0) 9, r 22 (nc 21) 9, r 23 (f 0 22) 9, r 24 (f 4 23) 9, r 25 (f 0 24) 9, r 26 (k 25) 9, r 27 (q 20 26) 9, a 28 (ko 9 27), am 29 28, d 30 (m 0) 29, r 31 (nc 30) 29, r 32 (f 17 31) 29, r 33 (f 2 32) 29, r 34 (k 33) 29, d 35 (m 0) 29, r 36 (nc 35) 29, r 37 (f 0 36) 29, r 38 (f 4 37) 29, r 39 (f 2 38) 29, r 40 (k 39) 29, r 41 (bl 34 40) 29, a 42 (ko 29 41)] [0, 42]
 (.cond (.s 42) (.ret []) .skip))
 (.seq (sp (some []) [am 43 0, a 44 (nc 43), a 45 (f 17 44), a 46 (f 2 45), a 47 (k 46), am 48 0, a 49 (nc 48), a 50 (f 0 49), a 51 (f 4 50), a 52 (f 2 51), a 53 (k 52), a 54 (q 47 53), am 55 54, bb 56 0 55, u 57 (nc 56) 55, u 58 (f 0 57) 55, u 59 (f 4 58) 55, u 60 (f 1 59) 55, u 61 (k 60) 55, u 62 (qj 61 1) 55, a 63 (ka 55 62), am 64 63, bb 65 0 64, u 66 (nc 65) 64, u 67 (f 17 66) 64, u 68 (f 16 67) 64, u 69 (k 68) 64, u 70 (le 69) 64, bb 71 0 64, u 72 (nc 71) 64, u 73 (f 0 72) 64, u 74 (f 4 73) 64, u 75 (f 4 74) 64, u 76 (k 75) 64, u 77 (le 76) 64, u 78 (bm 70 77) 64, a 79 (ka 64 78)] [0, 79]
 (.cond (.s 79) (.ret []) .skip))
 (.reg [om 80 0, o 81 (nc 80), of 82 0 81, om 83 0, o 84 (nc 83), of 85 17 84, of 86 2 85, o 87 (k 86), om 88 0, o 89 (nc 88), of 90 17 89, of 91 16 90, o 92 (k 91), om 93 0, o 94 (nc 93), of 95 0 94, of 96 4 95, of 97 5 96, o 98 (k 97), om 99 0, o 100 (nc 99), of 101 17 100, of 102 12 101, o 103 (k 102), o 104 (.mm true (.s 98) (.s 103)), o 105 (c 136 [82, 87, 92, 104])] (some []) [])))⟩

def xf_plain_CopyEntries : XFunc := ⟨none, none, false, 1, [.tmp 2], (rs [o 2 (.mv (.c (.nil 50 5 true)))] [0]
 (rs [om 3 0, o 4 (.app 50 5 48 true (.c (.nil 50 5 true)) (.s 3)), om 2 4] [2]
 (.ret [2])))⟩

def xf_ref07_Between : XFunc := ⟨none, none, true, 1, [.tmp 2], (rs [o 2 (.mv (.c w))] [0]
 (ss [am 3 0, a 4 (bhj 3 3), am 5 4, bb 6 0 5, b 7 (bmj 6 12) 5, a 8 (ka 5 7), am 2 8] [2]
 (.ret [2])))⟩

def xf_ref08_takes : XFunc := ⟨none, none, true, 3, [.tmp 6], (rs [o 3 (bx 0), o 4 (bx 1), o 6 (.mv (.c w))] [2, 3, 4]
 (rs [ol 8 2 3, ol 9 2 4, o 10 (c 26 [8, 9]), om 7 10] [2, 7]
 (ss [am 11 7, a 12 (bgj 11 0), am 13 12, d 14 (m 7) 13, d 15 (qj 14 0) 13, d 16 (m 15) 13, bb 17 2 16, d 18 (ka 16 17) 13, a 19 (ko 13 18), am 6 19] [6]
 (.ret [6]))))⟩

def xf_ref08_more : XFunc := ⟨none, none, true, 6, [.tmp 12], (rs [o 12 (.mv (.c w))] [0, 1, 2, 3, 4, 5]
 (.seq (rs [om 13 0, om 14 3, o 15 (n 13 14)] [0, 1, 2, 3, 4, 5, 15]
 (.cond (.s 15) (rs [om 16 0, om 17 3, o 18 (bg 16 17), om 12 18] [12]
 (.ret [12])) .skip))
 (.seq (rs [om 19 1, om 20 4, o 21 (n 19 20)] [1, 2, 4, 5, 21]
 (.cond (.s 21) (rs [om 22 1, om 23 4, o 24 (bg 22 23), om 12 24] [12]
 (.ret [12])) .skip))
 (rs [om 25 2, om 26 5, o 27 (bg 25 26), om 12 27] [12]
 (.ret [12])))))⟩

def xf_ref08_CopyAnswers_k0 : List (Nat × Option (Nat × Nat × Bool)) := [(0, none), (3, some (100, 6, false)), (4, none)]
def xf_ref08_CopyAnswers_b0 : XCode := (.seq (rs [om 6 4, om 7 0, o 8 (le 7), o 9 (bl 6 8)] [0, 3, 4, 9]
 (.cond (.s 9) .skip (.exit 0 [3])))
 (.seq (.block 1 (rs [om 12 0, om 13 4, o 14 (ia 6 12 13), ol 15 6 14, o 5 (.alloc l2), p (t 6 5 15)] [0, 3, 4, 5]
 (rs [of 16 5 5, o 17 (k 16), o 18 (c 99 [17]), of 19 5 5, p (t 1 19 18)] [0, 3, 4, 5]
 (.reg [om 20 3, ol 21 6 5, o 22 (.bsl 100 6 false 1 l2 [(0, 6, (.s 21))]), o 23 (.app 100 6 64 false (.s 20) (.s 22)), om 3 23] none [0, 3, 4]))))
 (.reg [om 10 4, o 11 (baj 10 1), om 4 11] none [0, 3, 4])))
def xf_ref08_CopyAnswers : XFunc := ⟨none, none, true, 1, [.tmp 2], (rs [o 2 (.mv (.c (.nil 100 6 false)))] [0]
 (rs [o 3 (.mv (.c (.nil 100 6 false)))] [0, 3]
 (.seq (rs [o 4 (.mv (j 0))] [0, 3, 4]
 (.block 0 (.loop xf_ref08_CopyAnswers_k0 xf_ref08_CopyAnswers_b0)))
 (rs [om 24 3, om 2 24] [2]
 (.ret [2])))))⟩

def xf_ref08_primary : XFunc := ⟨none, none, true, 2, [.tmp 4], (rs [o 4 (.mv (j 0))] [0, 1]
 (rs [om 7 0, o 8 (.bin .mul (j 2) (.s 7)), o 9 (baj 8 1), om 5 9] [1, 5]
 (rs [om 10 1, om 11 5, o 12 (.bin .rem (.s 10) (.s 11)), om 6 12] [5, 6]
 (.seq (rs [om 13 6, o 14 (blj 13 0)] [5, 6, 14]
 (.cond (.s 14) (.reg [om 15 6, om 16 5, o 17 (ba 15 16), om 6 17] none [6]) .skip))
 (rs [om 18 6, om 4 18] [4]
 (.ret [4]))))))⟩

def xf_ref06_Copy : XFunc := ⟨none, none, true, 1, [.tmp 2], (rs [o 2 (.mv (.c (.nil 50 5 true)))] [0]
 (rs [o 3 (.mv (.c (.nil 50 5 true)))] [0, 3]
 (rs [om 4 3, om 5 0, o 6 (.app 50 5 48 true (.s 4) (.s 5)), om 2 6] [2]
 (.ret [2]))))⟩

def xf_ref09_logged : XFunc := ⟨none, none, true, 3, [.tmp 6], (rs [o 3 (bx 0), o 6 (.mv (.c w))] [1, 2, 3]
 (ss [am 7 1, a 8 (f 1 3), a 9 (k 8), a 10 (c 103 [7, 9]), a 11 (qj 10 0), am 12 11, bb 13 2 12, b 14 (bhj 13 0) 12, a 15 (ka 12 14), am 16 15, bb 17 2 16, bb 18 1 16, b 19 (le 18) 16, b 20 (bm 17 19) 16, a 21 (ka 16 20), am 6 21] [6]
 (.ret [6])))⟩

def xf_ref09_votes_k0 : List (Nat × Option (Nat × Nat × Bool)) := [(1, none), (2, none), (5, some (3, 1, true)), (6, some (3, 1, true)), (7, some (3, 1, true)), (8, some (3, 1, true)), (9, some (26, 2, true)), (10, some (26, 2, true)), (11, some (26, 2, true)), (12, some (26, 2, true)), (13, none)]
def xf_ref09_votes_b0 : XCode := (.seq (rs [om 17 13, of 18 8 2, o 19 (k 18), o 20 (le 19), o 21 (bl 17 20)] [1, 2, 5, 6, 7, 8, 9, 10, 11, 12, 13, 21]
 (.cond (.s 21) .skip (.exit 0 [1, 2, 5, 6, 7, 8, 9, 10, 11, 12])))
 (.seq (.block 1 (rs [om 24 5, of 25 8 2, o 26 (k 25), om 27 13, o 28 (ia 4 26 27), of 29 0 28, o 30 (k 29), o 31 (.bsl 3 1 true 1 [z] [(0, 1, (.s 30))]), o 32 (.app 3 1 8 true (.s 24) (.s 31)), om 5 32] [1, 2, 5, 6, 7, 8, 9, 10, 11, 12, 13]
 (.reg [om 33 9, of 34 8 2, o 35 (k 34), om 36 13, o 37 (ia 4 35 36), of 38 1 37, ol 39 2 38, o 40 (.bsl 26 2 true 1 [y, y] [(0, 2, (.s 39))]), o 41 (.app 26 2 16 true (.s 33) (.s 40)), om 9 41] none [1, 2, 5, 6, 7, 8, 9, 10, 11, 12, 13])))
 (.reg [om 22 13, o 23 (baj 22 1), om 13 23] none [1, 2, 5, 6, 7, 8, 9, 10, 11, 12, 13])))
def xf_ref09_votes_k1 : List (Nat × Option (Nat × Nat × Bool)) := [(1, none), (2, none), (5, some (3, 1, true)), (6, some (3, 1, true)), (7, some (3, 1, true)), (8, some (3, 1, true)), (9, some (26, 2, true)), (10, some (26, 2, true)), (11, some (26, 2, true)), (12, some (26, 2, true)), (14, none)]
def xf_ref09_votes_b1 : XCode := (.seq (rs [om 42 14, of 43 9 2, o 44 (k 43), o 45 (le 44), o 46 (bl 42 45)] [1, 2, 5, 6, 7, 8, 9, 10, 11, 12, 14, 46]
 (.cond (.s 46) .skip (.exit 2 [1, 2, 5, 6, 7, 8, 9, 10, 11, 12])))
 (.seq (.block 3 (rs [om 49 6, of 50 9 2, o 51 (k 50), om 52 14, o 53 (ia 3 51 52), of 54 0 53, o 55 (k 54), o 56 (.bsl 3 1 true 1 [z] [(0, 1, (.s 55))]), o 57 (.app 3 1 8 true (.s 49) (.s 56)), om 6 57] [1, 2, 5, 6, 7, 8, 9, 10, 11, 12, 14]
 (.reg [om 58 10, of 59 9 2, o 60 (k 59), om 61 14, o 62 (ia 3 60 61), of 63 1 62, ol 64 2 63, o 65 (.bsl 26 2 true 1 [y, y] [(0, 2, (.s 64))]), o 66 (.app 26 2 16 true (.s 58) (.s 65)), om 10 66] none [1, 2, 5, 6, 7, 8, 9, 10, 11, 12, 14])))
 (.reg [om 47 14, o 48 (baj 47 1), om 14 48] none [1, 2, 5, 6, 7, 8, 9, 10, 11, 12, 14])))
def xf_ref09_votes_k2 : List (Nat × Option (Nat × Nat × Bool)) := [(1, none), (2, none), (5, some (3, 1, true)), (6, some (3, 1, true)), (7, some (3, 1, true)), (8, some (3, 1, true)), (9, some (26, 2, true)), (10, some (26, 2, true)), (11, some (26, 2, true)), (12, some (26, 2, true)), (15, none)]
def xf_ref09_votes_b2 : XCode := (.seq (rs [om 67 15, of 68 10 2, o 69 (k 68), o 70 (le 69), o 71 (bl 67 70)] [1, 2, 5, 6, 7, 8, 9, 10, 11, 12, 15, 71]
 (.cond (.s 71) .skip (.exit 4 [1, 2, 5, 6, 7, 8, 9, 10, 11, 12])))
 (.seq (.block 5 (rs [om 74 7, of 75 10 2, o 76 (k 75), om 77 15, o 78 (ia 6 76 77), of 79 0 78, o 80 (k 79), o 81 (.bsl 3 1 true 1 [z] [(0, 1, (.s 80))]), o 82 (.app 3 1 8 true (.s 74) (.s 81)), om 7 82] [1, 2, 5, 6, 7, 8, 9, 10, 11, 12, 15]
 (.reg [om 83 11, of 84 10 2, o 85 (k 84), om 86 15, o 87 (ia 6 85 86), of 88 1 87, ol 89 2 88, o 90 (.bsl 26 2 true 1 [y, y] [(0, 2, (.s 89))]), o 91 (.app 26 2 16 true (.s 83) (.s 90)), om 11 91] none [1, 2, 5, 6, 7, 8, 9, 10, 11, 12, 15])))
 (.reg [om 72 15, o 73 (baj 72 1), om 15 73] none [1, 2, 5, 6, 7, 8, 9, 10, 11, 12, 15])))
def xf_ref09_votes_k3 : List (Nat × Option (Nat × Nat × Bool)) := [(1, none), (2, none), (5, some (3, 1, true)), (6, some (3, 1, true)), (7, some (3, 1, true)), (8, some (3, 1, true)), (9, some (26, 2, true)), (10, some (26, 2, true)), (11, some (26, 2, true)), (12, some (26, 2, true)), (16, none)]
def xf_ref09_votes_b3 : XCode := (.seq (rs [om 92 16, of 93 11 2, o 94 (k 93), o 95 (le 94), o 96 (bl 92 95)] [1, 2, 5, 6, 7, 8, 9, 10, 11, 12, 16, 96]
 (.cond (.s 96) .skip (.exit 6 [1, 2, 5, 6, 7, 8, 9, 10, 11, 12])))
 (.seq (.block 7 (rs [om 99 8, of 100 11 2, o 101 (k 100), om 102 16, o 103 (ia 6 101 102), of 104 0 103, o 105 (k 104), o 106 (.bsl 3 1 true 1 [z] [(0, 1, (.s 105))]), o 107 (.app 3 1 8 true (.s 99) (.s 106)), om 8 107] [1, 2, 5, 6, 7, 8, 9, 10, 11, 12, 16]
 (.reg [om 108 12, of 109 11 2, o 110 (k 109), om 111 16, o 112 (ia 6 110 111), of 113 1 112, ol 114 2 113, o 115 (.bsl 26 2 true 1 [y, y] [(0, 2, (.s 114))]), o 116 (.app 26 2 16 true (.s 108) (.s 115)), om 12 116] none [1, 2, 5, 6, 7, 8, 9, 10, 11, 12, 16])))
 (.reg [om 97 16, o 98 (baj 97 1), om 16 98] none [1, 2, 5, 6, 7, 8, 9, 10, 11, 12, 16])))
def xf_ref09_votes : XFunc := ⟨none, none, true, 2, [.tmp 4], (rs [o 2 (bx 0), o 4 (.mv (.c w))] [1, 2]
 (rs [o 5 (.mv (.c (.nil 3 1 true))), o 6 (.mv (.c (.nil 3 1 true))), o 7 (.mv (.c (.nil 3 1 true))), o 8 (.mv (.c (.nil 3 1 true)))] [1, 2, 5, 6, 7, 8]
 (rs [o 9 (.mv (.c (.nil 26 2 true))), o 10 (.mv (.c (.nil 26 2 true))), o 11 (.mv (.c (.nil 26 2 true))), o 12 (.mv (.c (.nil 26 2 true)))] [1, 2, 5, 6, 7, 8, 9, 10, 11, 12]
 (.seq (rs [o 13 (.mv (j 0))] [1, 2, 5, 6, 7, 8, 9, 10, 11, 12, 13]
 (.block 0 (.loop xf_ref09_votes_k0 xf_ref09_votes_b0)))
 (.seq (rs [o 14 (.mv (j 0))] [1, 2, 5, 6, 7, 8, 9, 10, 11, 12, 14]
 (.block 2 (.loop xf_ref09_votes_k1 xf_ref09_votes_b1)))
 (.seq (rs [o 15 (.mv (j 0))] [1, 2, 5, 6, 7, 8, 9, 10, 11, 12, 15]
 (.block 4 (.loop xf_ref09_votes_k2 xf_ref09_votes_b2)))
 (.seq (rs [o 16 (.mv (j 0))] [1, 2, 5, 6, 7, 8, 9, 10, 11, 12, 16]
 (.block 6 (.loop xf_ref09_votes_k3 xf_ref09_votes_b3)))
 (ss [a 117 (l 12 2), am 118 1, am 119 5, am 120 9, a 121 (c 137 [117, 118, 119, 120]), am 122 121, b 123 (l 12 2) 122, bb 124 1 122, bb 125 6 122, bb 126 10 122, u 127 (c 137 [123, 124, 125, 126]) 122, a 128 (ka 122 127), am 129 128, b 130 (l 12 2) 129, bb 131 1 129, bb 132 7 129, bb 133 11 129, u 134 (c 137 [130, 131, 132, 133]) 129, a 135 (ka 129 134), am 136 135, b 137 (l 12 2) 136, bb 138 1 136, bb 139 8 136, bb 140 12 136, u 141 (c 137 [137, 138, 139, 140]) 136, a 142 (ka 136 141), am 4 142] [4]
 (.ret [4])))))))))⟩

def xf_ref09_recovering_k0 : List (Nat × Option (Nat × Nat × Bool)) := [(2, none), (3, none), (4, none), (7, none)]
def xf_ref09_recovering_b0 : XCode := (.seq (rs [om 47 7, of 48 11 4, o 49 (k 48), o 50 (le 49), o 51 (bl 47 50)] [2, 3, 4, 7, 51]
 (.cond (.s 51) .skip (.exit 0 [])))
 (.seq (.block 1 (rs [of 54 11 4, o 55 (k 54), om 56 7, o 57 (ia 6 55 56), ol 58 6 57, o 8 (.alloc l2), p (t 6 8 58)] [2, 3, 4, 7, 8]
 (sp (some []) [a 59 (f 3 8), a 60 (k 59), a 61 (blj 60 0), am 62 61, d 63 (f 3 8) 62, d 64 (k 63) 62, d 65 (bgj 64 4294967296) 62, a 66 (ko 62 65), am 67 66, d 68 (l 4 3) 67, d 69 (f 5 8) 67, d 70 (k 69) 67, d 71 (f 4 8) 67, d 72 (k 71) 67, r 73 (c 100 [68, 70, 72]) 67, r 74 (nt 73) 67, a 75 (ko 67 74), am 76 75, d 77 (f 0 8) 76, d 78 (k 77) 76, d 79 (f 3 8) 76, d 80 (k 79) 76, d 81 (m 2) 76, r 82 (.bin .rem (.s 80) (.s 81)) 76, r 83 (n 78 82) 76, r 84 (m 83) 76, b 85 (f 5 8) 84, b 86 (k 85) 84, b 87 (le 86) 84, b 88 (bgj 87 0) 84, r 89 (ka 84 88) 76, a 90 (ko 76 89)] [2, 3, 4, 7, 90]
 (.cond (.s 90) (rs [o 6 (.mv (.c w))] [6]
 (.ret [6])) .skip))))
 (.reg [om 52 7, o 53 (baj 52 1), om 7 53] none [2, 3, 4, 7])))
def xf_ref09_recovering : XFunc := ⟨none, none, true, 3, [.tmp 6], (rs [o 3 (bx 0), o 4 (bx 1), o 6 (.mv (.c w))] [2, 3, 4]
 (.seq (ss [a 9 (f 2 4), a 10 (k 9), a 11 (f 3 4), a 12 (k 11), a 13 (ba 10 12), a 14 (f 5 4), a 15 (k 14), a 16 (ba 13 15), a 17 (f 7 4), a 18 (k 17), a 19 (ba 16 18), a 20 (f 4 4), a 21 (k 20), a 22 (le 21), a 23 (ba 19 22), a 24 (f 8 4), a 25 (k 24), a 26 (le 25), a 27 (ba 23 26), a 28 (f 9 4), a 29 (k 28), a 30 (le 29), a 31 (ba 27 30), a 32 (f 10 4), a 33 (k 32), a 34 (le 33), a 35 (ba 31 34), a 36 (bgj 35 0), am 37 36, d 38 (f 6 4) 37, d 39 (k 38) 37, d 40 (f 0 4) 37, d 41 (k 40) 37, r 42 (ia 2 39 41) 37, r 43 (l 2 42) 37, d 44 (.build [y, y] []) 37, r 45 (.eqv false true [.i, .i] (.s 43) (.s 44)) 37, a 46 (ko 37 45)] [2, 3, 4, 46]
 (.cond (.s 46) (rs [o 6 (.mv (.c w))] [6]
 (.ret [6])) .skip))
 (.seq (rs [o 7 (.mv (j 0))] [2, 3, 4, 7]
 (.block 0 (.loop xf_ref09_recovering_k0 xf_ref09_recovering_b0)))
 (rs [o 6 (.mv (.c v))] [6]
 (.ret [6])))))⟩

def xf_ref05_Log_k1 : List (Nat × Option (Nat × Nat × Bool)) := [(0, none), (5, none), (7, none)]
def xf_ref05_Log_b1 : XCode := (.seq (rs [om 26 7, om 27 5, o 28 (bl 26 27)] [0, 5, 7, 28]
 (.cond (.s 28) .skip (.exit 2 [0, 5])))
 (.seq (.block 3 (sp (some []) [am 31 0, am 32 7, a 33 (ia 5 31 32), a 34 (f 0 33), a 35 (k 34), am 36 0, am 37 5, a 38 (ia 5 36 37), a 39 (f 0 38), a 40 (k 39), a 41 (q 35 40), am 42 41, bb 43 0 42, bb 44 7 42, u 45 (ia 5 43 44) 42, u 46 (f 1 45) 42, u 47 (k 46) 42, bb 48 0 42, bb 49 5 42, u 50 (ia 5 48 49) 42, u 51 (f 1 50) 42, u 52 (k 51) 42, u 53 (bh 47 52) 42, a 54 (ka 42 53)] [0, 5, 7, 54]
 (.cond (.s 54) (rs [o 4 (.mv (j 64))] [4]
 (.ret [4])) .skip)))
 (.reg [om 29 7, o 30 (baj 29 1), om 7 30] none [0, 5, 7])))
def xf_ref05_Log_k0 : List (Nat × Option (Nat × Nat × Bool)) := [(0, none), (5, none)]
def xf_ref05_Log_b0 : XCode := (.seq (rs [om 12 5, om 13 0, o 14 (le 13), o 15 (bl 12 14)] [0, 5, 15]
 (.cond (.s 15) .skip (.exit 0 [])))
 (.seq (.block 1 (rs [om 18 0, om 19 5, o 20 (ia 5 18 19), ol 21 5 20, o 22 (c 138 [21]), om 6 22] [0, 5, 6]
 (.seq (rs [om 23 6, o 24 (nj 23 0)] [0, 5, 6, 24]
 (.cond (.s 24) (rs [om 25 6, om 4 25] [4]
 (.ret [4])) .skip))
 (rs [o 7 (.mv (j 0))] [0, 5, 7]
 (.block 2 (.loop xf_ref05_Log_k1 xf_ref05_Log_b1))))))
 (.reg [om 16 5, o 17 (baj 16 1), om 5 17] none [0, 5])))
def xf_ref05_Log : XFunc := ⟨none, none, true, 2, [.tmp 4], (rs [o 4 (.mv (j 0))] [0, 1]
 (.seq (rs [om 8 0, o 9 (le 8), om 10 1, o 11 (bg 9 10)] [0, 11]
 (.cond (.s 11) (rs [o 4 (.mv (j 60))] [4]
 (.ret [4])) .skip))
 (.seq (rs [o 5 (.mv (j 0))] [0, 5]
 (.block 0 (.loop xf_ref05_Log_k0 xf_ref05_Log_b0)))
 (rs [o 4 (.mv (j 0))] [4]
 (.ret [4])))))⟩

def xf_ref07_entry : XFunc := ⟨none, none, true, 2, [.tmp 4], (rs [o 3 (bx 1), o 4 (.mv (.c w))] [0, 3]
 (.seq (ss [am 5 0, a 6 (qj 5 2), am 7 6, d 8 (m 0) 7, d 9 (qj 8 14) 7, a 10 (ko 7 9)] [0, 3, 10]
 (.cond (.s 10) (ss [a 11 (f 0 3), a 12 (k 11), a 13 (bhj 12 0), am 14 13, b 15 (f 0 3) 14, b 16 (k 15) 14, b 17 (blj 16 16) 14, a 18 (ka 14 17), am 19 18, b 20 (f 1 3) 19, b 21 (k 20) 19, b 22 (bhj 21 1) 19, a 23 (ka 19 22), am 24 23, b 25 (f 2 3) 24, b 26 (l 3 25) 24, b 27 (.build [z, z, x] []) 24, b 28 (.eqv false true [.i, .i, .s] (.s 26) (.s 27)) 24, a 29 (ka 24 28), am 4 29] [4]
 (.ret [4])) .skip))
 (ss [a 30 (l 5 3), a 31 (c 138 [30]), a 32 (qj 31 0), am 33 32, bb 34 0 33, b 35 (nj 34 13) 33, bb 36 35 33, d 37 (f 2 3) 36, d 38 (f 0 37) 36, d 39 (k 38) 36, d 40 (qj 39 3) 36, b 41 (ko 36 40) 33, bb 42 41 33, d 43 (f 2 3) 42, d 44 (f 0 43) 42, d 45 (k 44) 42, d 46 (qj 45 4) 42, b 47 (ko 42 46) 33, a 48 (ka 33 47), am 4 48] [4]
 (.ret [4]))))⟩

def xf_ref07_result : XFunc := ⟨none, none, true, 1, [.tmp 2], (rs [o 1 (bx 0), o 2 (.mv (.c w))] [1]
 (ss [a 4 (f 1 1), a 5 (k 4), a 6 (bhj 5 0), am 7 6, b 8 (f 1 1) 7, b 9 (k 8) 7, b 10 (blj 9 1024) 7, a 11 (ka 7 10), am 3 11] [1, 3]
 (.seq (rs [of 12 0 1, o 13 (k 12)] [1, 3, 13]
 (.block 0 (.seq (rs [o 15 (qj 13 1), om 14 15] [1, 3, 13, 14]
 (.cond (.s 14) .skip (rs [o 16 (qj 13 2), om 14 16] [1, 3, 13, 14]
 (.cond (.s 14) .skip (.reg [o 17 (qj 13 4), om 14 17] none [1, 3, 13, 14])))))
 (.cond (.s 14) (ss [am 18 3, am 19 18, b 20 (f 2 1) 19, b 21 (k 20) 19, b 22 (.len true (.s 21)) 19, b 23 (bmj 22 64) 19, a 24 (ka 19 23), am 2 24] [2]
 (.ret [2])) (rs [o 26 (qj 13 5), om 25 26] [1, 3, 13, 25]
 (.cond (.s 25) (ss [am 27 3, am 28 27, b 29 (f 2 1) 28, b 30 (k 29) 28, b 31 (.eqv false false [.s] (.s 30) (.c x)) 28, a 32 (ka 28 31), am 2 32] [2]
 (.ret [2])) (rs [o 34 (qj 13 6), om 33 34] [1, 13, 33]
 (.cond (.s 33) (ss [a 35 (f 1 1), a 36 (k 35), a 37 (bhj 36 0), am 38 37, b 39 (f 1 1) 38, b 40 (k 39) 38, b 41 (bmj 40 1024) 38, a 42 (ka 38 41), am 43 42, b 44 (f 2 1) 43, b 45 (k 44) 43, b 46 (.eqv false false [.s] (.s 45) (.c x)) 43, a 47 (ka 43 46), am 2 47] [2]
 (.ret [2])) (.seq (rs [o 49 (qj 13 3), om 48 49] [1, 13, 48]
 (.cond (.s 48) .skip (.reg [o 50 (qj 13 7), om 48 50] none [1, 48])))
 (.cond (.s 48) (ss [a 51 (f 1 1), a 52 (k 51), a 53 (qj 52 0), am 54 53, b 55 (f 2 1) 54, b 56 (k 55) 54, b 57 (.eqv false false [.s] (.s 56) (.c x)) 54, a 58 (ka 54 57), am 2 58] [2]
 (.ret [2])) .skip))))))))))
 (rs [o 2 (.mv (.c w))] [2]
 (.ret [2])))))⟩

def xf_plain_CopyMsg : XFunc := ⟨none, none, false, 1, [.cell 2 (some 18)], (rs [o 1 (bx 0), o 2 (.alloc l4)] [1, 2]
 (rs [of 3 16 1, o 4 (k 3), o 5 (c 93 [4]), of 6 16 1, p (t 1 6 5)] [1, 2]
 (rs [of 7 17 1, o 8 (k 7), o 9 (c 35 [8]), of 10 17 1, p (t 1 10 9)] [1, 2]
 (rs [ol 11 18 1, p (t 18 2 11)] [2]
 (.ret [2])))))⟩

def xf_core_CheckConfig : XFunc := ⟨none, none, true, 1, [.tmp 2], (rs [o 1 (bx 0), o 2 (.mv (j 0))] [1]
 (.seq (ss [a 3 (f 0 1), a 4 (k 3), a 5 (blj 4 1), am 6 5, d 7 (f 0 1) 6, d 8 (k 7) 6, d 9 (bgj 8 3) 6, a 10 (ko 6 9), am 11 10, d 12 (f 1 1) 11, d 13 (k 12) 11, d 14 (blj 13 1) 11, a 15 (ko 11 14), am 16 15, d 17 (f 1 1) 16, d 18 (k 17) 16, d 19 (bgj 18 256) 16, a 20 (ko 16 19), am 21 20, d 22 (f 2 1) 21, d 23 (k 22) 21, d 24 (blj 23 6) 21, a 25 (ko 21 24), am 26 25, d 27 (f 2 1) 26, d 28 (k 27) 26, d 29 (bgj 28 100) 26, a 30 (ko 26 29)] [30]
 (.cond (.s 30) (rs [o 2 (.mv (j 1))] [2]
 (.ret [2])) .skip))
 (rs [o 2 (.mv (j 0))] [2]
 (.ret [2]))))⟩

def xf_core_logged : XFunc := ⟨none, none, true, 3, [.tmp 6], (rs [o 3 (bx 0), o 6 (.mv (.c w))] [1, 2, 3]
 (rs [om 10 1, of 11 1 3, o 12 (k 11), o 13 (c 123 [10, 12]), om 9 13, o 14 (e 9 0), o 15 (e 9 1), om 7 14, om 8 15] [1, 2, 7]
 (ss [am 16 7, a 17 (qj 16 0), am 18 17, bb 19 2 18, b 20 (bhj 19 0) 18, a 21 (ka 18 20), am 22 21, bb 23 2 22, bb 24 1 22, b 25 (le 24) 22, b 26 (bm 23 25) 22, a 27 (ka 22 26), am 6 27] [6]
 (.ret [6]))))⟩

def xf_core_voted_k1 : List (Nat × Option (Nat × Nat × Bool)) := [(1, none), (3, none), (6, none), (10, none), (11, none), (14, some (195, 3, true)), (15, none), (16, none)]
def xf_core_voted_b1 : XCode := (rs [o 17 (bl 16 15)] [1, 3, 6, 10, 11, 14, 15, 16, 17]
 (.seq (.cond (.s 17) .skip (.exit 2 [1, 3, 10, 11]))
 (.seq (.block 3 (rs [o 18 (ia 3 14 16), ol 19 3 18, o 8 (.alloc l7), p (t 3 8 19)] [1, 3, 6, 8, 10, 11, 14, 15, 16]
 (.seq (sp (some []) [a 20 (f 0 8), a 21 (k 20), am 22 6, a 23 (bm 21 22), am 24 23, d 25 (f 0 8) 24, d 26 (k 25) 24, d 27 (f 6 1) 24, d 28 (k 27) 24, d 29 (le 28) 24, d 30 (bh 26 29) 24, a 31 (ko 24 30), am 32 31, d 33 (f 0 8) 32, d 34 (k 33) 32, d 35 (f 0 1) 32, d 36 (k 35) 32, d 37 (q 34 36) 32, a 38 (ko 32 37), am 39 38, d 40 (f 6 1) 39, d 41 (k 40) 39, d 42 (f 0 8) 39, d 43 (k 42) 39, r 44 (ia 2 41 43) 39, r 45 (l 2 44) 39, d 46 (f 1 8) 39, d 47 (l 2 46) 39, r 48 (.eqv true true [.i, .i] (.s 45) (.s 47)) 39, a 49 (ko 39 48)] [1, 3, 8, 10, 11, 14, 15, 16, 49]
 (.cond (.s 49) (rs [o 3 (.mv (.c w))] [3]
 (.exit 0 [3])) .skip))
 (.reg [of 50 0 8, o 51 (k 50), om 6 51] none [1, 3, 6, 10, 11, 14, 15, 16]))))
 (.reg [o 52 (baj 16 1), om 16 52] none [1, 3, 6, 10, 11, 14, 15, 16]))))
def xf_core_voted_k0 : List (Nat × Option (Nat × Nat × Bool)) := [(1, none), (3, none), (10, none), (11, none)]
def xf_core_voted_b0 : XCode := (rs [o 12 (blj 11 4)] [1, 3, 10, 11, 12]
 (.seq (.cond (.s 12) .skip (.exit 0 [3]))
 (.seq (.block 1 (rs [o 13 (.idx none 1 4 (.s 10) (.s 11)), om 5 13] [1, 3, 5, 10, 11]
 (rs [o 6 (.mv (j (-1)))] [1, 3, 5, 6, 10, 11]
 (rs [om 14 5, o 15 (le 14), o 16 (.mv (j 0))] [1, 3, 6, 10, 11, 14, 15, 16]
 (.block 2 (.loop xf_core_voted_k1 xf_core_voted_b1))))))
 (.reg [o 53 (baj 11 1), om 11 53] none [1, 3, 10, 11]))))
def xf_core_voted : XFunc := ⟨none, none, true, 1, [.tmp 2], (rs [o 1 (bx 0), o 2 (.mv (.c w))] [1]
 (rs [o 3 (.mv (.c v))] [1, 3]
 (.seq .skip
 (.seq (rs [ol 9 12 1, o 10 (c 139 [9]), o 11 (.mv (j 0))] [1, 3, 10, 11]
 (.block 0 (.loop xf_core_voted_k0 xf_core_voted_b0)))
 (rs [om 54 3, om 2 54] [2]
 (.ret [2]))))))⟩

def xf_core_normal_k0 : List (Nat × Option (Nat × Nat × Bool)) := [(3, none), (39, some (123, 4, true)), (40, none), (41, none)]
def xf_core_normal_b0 : XCode := (rs [o 42 (bl 41 40)] [3, 39, 40, 41, 42]
 (.seq (.cond (.s 42) .skip (.exit 0 [3]))
 (.seq (.block 1 (rs [o 43 (ia 4 39 41), ol 44 4 43, o 6 (.alloc l9), p (t 4 6 44)] [3, 6, 39, 40, 41]
 (ss [a 45 (f 3 6), a 46 (k 45), a 47 (blj 46 1), am 48 47, d 49 (f 3 6) 48, d 50 (k 49) 48, d 51 (f 4 3) 48, d 52 (k 51) 48, d 53 (le 52) 48, d 54 (bg 50 53) 48, a 55 (ko 48 54)] [3, 39, 40, 41, 55]
 (.cond (.s 55) (rs [o 4 (.mv (.c w))] [4]
 (.ret [4])) .skip))))
 (.reg [o 56 (baj 41 1), om 41 56] none [3, 39, 40, 41]))))
def xf_core_normal : XFunc := ⟨none, none, true, 2, [.tmp 4], (rs [o 2 (bx 0), o 3 (bx 1), o 4 (.mv (.c w))] [2, 3]
 (.seq (ss [a 7 (f 3 3), a 8 (k 7), a 9 (f 2 3), a 10 (k 9), a 11 (n 8 10), am 12 11, d 13 (f 9 3) 12, d 14 (k 13) 12, d 15 (le 14) 12, d 16 (bgj 15 0) 12, a 17 (ko 12 16), am 18 17, d 19 (f 10 3) 18, d 20 (k 19) 18, d 21 (le 20) 18, d 22 (bgj 21 0) 18, a 23 (ko 18 22), am 24 23, d 25 (f 11 3) 24, d 26 (k 25) 24, d 27 (le 26) 24, d 28 (bgj 27 0) 24, a 29 (ko 24 28)] [2, 3, 29]
 (.cond (.s 29) (rs [o 4 (.mv (.c w))] [4]
 (.ret [4])) .skip))
 (.seq (rs [ol 30 4 2, ol 31 12 3, o 32 (c 114 [30, 31]), o 33 (nt 32)] [3, 33]
 (.cond (.s 33) (rs [of 34 8 3, o 35 (k 34), o 36 (le 35), o 37 (qj 36 0), om 4 37] [4]
 (.ret [4])) .skip))
 (.seq (rs [of 38 8 3, o 39 (k 38), o 40 (le 39), o 41 (.mv (j 0))] [3, 39, 40, 41]
 (.block 0 (.loop xf_core_normal_k0 xf_core_normal_b0)))
 (rs [of 57 7 3, o 58 (k 57), o 59 (qj 58 0), om 4 59] [4]
 (.ret [4]))))))⟩

def xf_core_changing_k0 : List (Nat × Option (Nat × Nat × Bool)) := [(2, none), (3, none), (45, some (98, 6, false)), (46, none), (47, none)]
def xf_core_changing_b0 : XCode := (rs [o 48 (bl 47 46)] [2, 3, 45, 46, 47, 48]
 (.seq (.cond (.s 48) .skip (.exit 0 []))
 (.seq (.block 1 (rs [o 49 (ia 6 45 47), ol 50 6 49, o 6 (.alloc l2), p (t 6 6 50)] [2, 3, 6, 45, 46, 47]
 (ss [a 51 (f 3 6), a 52 (k 51), a 53 (blj 52 0), am 54 53, d 55 (f 3 6) 54, d 56 (k 55) 54, d 57 (f 2 3) 54, d 58 (k 57) 54, d 59 (bh 56 58) 54, a 60 (ko 54 59), am 61 60, d 62 (l 4 2) 61, d 63 (f 5 6) 61, d 64 (k 63) 61, d 65 (f 4 6) 61, d 66 (k 65) 61, r 67 (c 108 [62, 64, 66]) 61, r 68 (nt 67) 61, a 69 (ko 61 68)] [2, 3, 45, 46, 47, 69]
 (.cond (.s 69) (rs [o 4 (.mv (.c w))] [4]
 (.ret [4])) .skip))))
 (.reg [o 70 (baj 47 1), om 47 70] none [2, 3, 45, 46, 47]))))
def xf_core_changing : XFunc := ⟨none, none, true, 2, [.tmp 4], (rs [o 2 (bx 0), o 3 (bx 1), o 4 (.mv (.c w))] [2, 3]
 (.seq (ss [a 7 (f 3 3), a 8 (k 7), a 9 (f 2 3), a 10 (k 9), a 11 (bh 8 10), am 12 11, d 13 (f 8 3) 12, d 14 (k 13) 12, d 15 (le 14) 12, d 16 (bgj 15 0) 12, a 17 (ko 12 16), am 18 17, d 19 (f 11 3) 18, d 20 (k 19) 18, d 21 (le 20) 18, d 22 (bgj 21 0) 18, a 23 (ko 18 22), am 24 23, d 25 (f 10 3) 24, d 26 (k 25) 24, d 27 (le 26) 24, d 28 (f 0 2) 24, d 29 (k 28) 24, d 30 (bh 27 29) 24, a 31 (ko 24 30), am 32 31, d 33 (l 4 2) 32, d 34 (l 12 3) 32, r 35 (c 114 [33, 34]) 32, r 36 (nt 35) 32, r 37 (m 36) 32, b 38 (f 10 3) 37, b 39 (k 38) 37, b 40 (le 39) 37, b 41 (bgj 40 0) 37, r 42 (ka 37 41) 32, a 43 (ko 32 42)] [2, 3, 43]
 (.cond (.s 43) (rs [o 4 (.mv (.c w))] [4]
 (.ret [4])) .skip))
 (.seq (rs [of 44 10 3, o 45 (k 44), o 46 (le 45), o 47 (.mv (j 0))] [2, 3, 45, 46, 47]
 (.block 0 (.loop xf_core_changing_k0 xf_core_changing_b0)))
 (rs [o 4 (.mv (.c v))] [4]
 (.ret [4])))))⟩

def xf_core_recovering_k0 : List (Nat × Option (Nat × Nat × Bool)) := [(2, none), (60, some (100, 6, false)), (61, none), (62, none)]
def xf_core_recovering_b0 : XCode := (rs [o 63 (bl 62 61)] [2, 60, 61, 62, 63]
 (.seq (.cond (.s 63) .skip (.exit 0 []))
 (.seq (.block 1 (rs [o 64 (ia 6 60 62), ol 65 6 64, o 6 (.alloc l2), p (t 6 6 65)] [2, 6, 60, 61, 62]
 (sp (some [(19, 23)]) [a 66 (f 3 6), a 67 (k 66), a 68 (blj 67 0), am 69 68, d 70 (f 3 6) 69, d 71 (k 70) 69, d 72 (bgj 71 4294967296) 69, a 73 (ko 69 72), am 74 73, d 75 (l 4 2) 74, d 76 (f 5 6) 74, d 77 (k 76) 74, d 78 (f 4 6) 74, d 79 (k 78) 74, r 80 (c 108 [75, 77, 79]) 74, r 81 (nt 80) 74, a 82 (ko 74 81), am 83 82, d 84 (f 0 6) 83, d 85 (k 84) 83, d 86 (l 4 2) 83, d 87 (f 3 6) 83, d 88 (k 87) 83, r 89 (c 132 [86, 88]) 83, r 90 (n 85 89) 83, r 91 (m 90) 83, b 92 (f 5 6) 91, b 93 (k 92) 91, b 94 (le 93) 91, b 95 (bgj 94 0) 91, r 96 (ka 91 95) 83, a 97 (ko 83 96)] [2, 60, 61, 62, 97]
 (.cond (.s 97) (rs [o 4 (.mv (.c w))] [4]
 (.ret [4])) .skip))))
 (.reg [o 98 (baj 62 1), om 62 98] none [2, 60, 61, 62]))))
def xf_core_recovering : XFunc := ⟨none, none, true, 2, [.tmp 4], (rs [o 2 (bx 0), o 3 (bx 1), o 4 (.mv (.c w))] [2, 3]
 (.seq (ss [a 7 (f 2 3), a 8 (k 7), a 9 (nj 8 0), am 10 9, d 11 (f 3 3) 10, d 12 (k 11) 10, d 13 (nj 12 0) 10, a 14 (ko 10 13), am 15 14, d 16 (f 5 3) 15, d 17 (k 16) 15, d 18 (nj 17 0) 15, a 19 (ko 15 18), am 20 19, d 21 (f 7 3) 20, d 22 (k 21) 20, d 23 (nj 22 0) 20, a 24 (ko 20 23), am 25 24, d 26 (f 4 3) 25, d 27 (k 26) 25, d 28 (le 27) 25, d 29 (bgj 28 0) 25, a 30 (ko 25 29), am 31 30, d 32 (f 8 3) 31, d 33 (k 32) 31, d 34 (le 33) 31, d 35 (bgj 34 0) 31, a 36 (ko 31 35), am 37 36, d 38 (f 9 3) 37, d 39 (k 38) 37, d 40 (le 39) 37, d 41 (bgj 40 0) 37, a 42 (ko 37 41), am 43 42, d 44 (f 10 3) 43, d 45 (k 44) 43, d 46 (le 45) 43, d 47 (bgj 46 0) 43, a 48 (ko 43 47), am 49 48, d 50 (f 6 3) 49, d 51 (k 50) 49, d 52 (f 0 3) 49, d 53 (k 52) 49, r 54 (ia 2 51 53) 49, r 55 (l 2 54) 49, d 56 (.build [y, y] []) 49, r 57 (.eqv false true [.i, .i] (.s 55) (.s 56)) 49, a 58 (ko 49 57)] [2, 3, 58]
 (.cond (.s 58) (rs [o 4 (.mv (.c w))] [4]
 (.ret [4])) .skip))
 (.seq (rs [of 59 11 3, o 60 (k 59), o 61 (le 60), o 62 (.mv (j 0))] [2, 60, 61, 62]
 (.block 0 (.loop xf_core_recovering_k0 xf_core_recovering_b0)))
 (rs [o 4 (.mv (.c v))] [4]
 (.ret [4])))))⟩

def xf_core_twin_k0 : List (Nat × Option (Nat × Nat × Bool)) := [(1, none), (2, none), (27, none), (28, none)]
def xf_core_twin_b0 : XCode := (rs [o 29 (bl 28 27)] [1, 2, 27, 28, 29]
 (.seq (.cond (.s 29) .skip (.exit 0 [1, 2]))
 (.seq (.block 1 (rs [om 30 28, om 3 30] [1, 2, 3, 27, 28]
 (.reg [of 31 10 1, o 32 (k 31), om 33 3, of 34 10 1, o 35 (k 34), om 36 3, o 37 (ia 6 35 36), of 38 5 37, o 39 (k 38), o 40 (c 140 [39]), o 41 (ia 6 32 33), of 42 5 41, p (t 1 42 40)] (some [(1, 9)]) [1, 2, 27, 28])))
 (.reg [o 43 (baj 28 1), om 28 43] none [1, 2, 27, 28]))))
def xf_core_twin_k1 : List (Nat × Option (Nat × Nat × Bool)) := [(1, none), (2, none), (50, none), (51, none)]
def xf_core_twin_b1 : XCode := (rs [o 52 (bl 51 50)] [1, 2, 50, 51, 52]
 (.seq (.cond (.s 52) .skip (.exit 2 [1, 2]))
 (.seq (.block 3 (rs [om 53 51, om 4 53] [1, 2, 4, 50, 51]
 (.reg [of 54 11 1, o 55 (k 54), om 56 4, of 57 11 1, o 58 (k 57), om 59 4, o 60 (ia 6 58 59), of 61 5 60, o 62 (k 61), o 63 (c 140 [62]), o 64 (ia 6 55 56), of 65 5 64, p (t 1 65 63)] (some [(1, 9)]) [1, 2, 50, 51])))
 (.reg [o 66 (baj 51 1), om 51 66] none [1, 2, 50, 51]))))
def xf_core_twin : XFunc := ⟨none, none, true, 1, [.cell 2 (some 12)], (rs [o 1 (bx 0), o 2 (.alloc l1)] [1, 2]
 (rs [of 5 4 1, o 6 (k 5), o 7 (c 140 [6]), of 8 4 1, p (t 1 8 7)] [1, 2]
 (rs [of 9 6 1, o 10 (k 9), o 11 (c 141 [10]), of 12 6 1, p (t 1 12 11)] [1, 2]
 (rs [of 13 8 1, o 14 (k 13), o 15 (c 142 [14]), of 16 8 1, p (t 1 16 15)] [1, 2]
 (rs [of 17 9 1, o 18 (k 17), o 19 (c 143 [18]), of 20 9 1, p (t 1 20 19)] [1, 2]
 (rs [of 21 10 1, o 22 (k 21), o 23 (c 144 [22]), of 24 10 1, p (t 1 24 23)] [1, 2]
 (.seq (rs [of 25 10 1, o 26 (k 25), o 27 (le 26), o 28 (.mv (j 0))] [1, 2, 27, 28]
 (.block 0 (.loop xf_core_twin_k0 xf_core_twin_b0)))
 (rs [of 44 11 1, o 45 (k 44), o 46 (c 145 [45]), of 47 11 1, p (t 1 47 46)] [1, 2]
 (.seq (rs [of 48 11 1, o 49 (k 48), o 50 (le 49), o 51 (.mv (j 0))] [1, 2, 50, 51]
 (.block 2 (.loop xf_core_twin_k1 xf_core_twin_b1)))
 (rs [ol 67 12 1, p (t 12 2 67)] [2]
 (.ret [2])))))))))))⟩

def xf_core_leads : XFunc := ⟨none, none, true, 2, [.tmp 4], (rs [o 2 (bx 0), o 3 (bx 1), o 4 (.mv (.c w))] [2, 3]
 (rp (some []) [of 5 0 3, o 6 (k 5), of 7 2 3, o 8 (k 7), of 9 0 2, o 10 (k 9), o 11 (.bin .mul (j 2) (.s 10)), o 12 (baj 11 1), o 13 (.bin .rem (.s 8) (.s 12)), o 14 (q 6 13), om 4 14] [4]
 (.ret [4])))⟩

def xf_core_out : XFunc := ⟨none, none, true, 3, [.cell 6 (some 19)], (rs [o 3 (bx 0), o 5 (bx 2), o 6 (.alloc l3)] [1, 3, 5, 6]
 (rs [of 7 0 3, o 8 (k 7), of 9 1 5, p (t 1 9 8)] [1, 3, 5, 6]
 (rs [of 10 16 5, o 11 (k 10), o 12 (c 140 [11]), of 13 16 5, p (t 1 13 12)] [1, 3, 5, 6]
 (.seq (rs [of 14 0 5, o 15 (k 14), o 16 (c 124 [15])] [1, 3, 5, 6, 16]
 (.cond (.s 16) (.reg [of 17 6 3, o 18 (k 17), of 19 17 5, p (t 1 19 18)] none [1, 5, 6]) .skip))
 (rs [of 20 17 5, o 21 (k 20), o 22 (c 141 [21]), of 23 17 5, p (t 1 23 22)] [1, 5, 6]
 (rs [om 24 1, ol 25 18 5, o 26 (.build l3 [(0, 1, (.s 24)), (1, 18, (.s 25))]), p (t 19 6 26)] [6]
 (.ret [6])))))))⟩

def xf_message_config : XFunc := ⟨none, none, true, 1, [.tmp 2], (rs [o 1 (bx 0), o 2 (.mv (.c w))] [1]
 (ss [a 3 (f 0 1), a 4 (k 3), a 5 (bhj 4 1), am 6 5, b 7 (f 0 1) 6, b 8 (k 7) 6, b 9 (bmj 8 3) 6, a 10 (ka 6 9), am 11 10, b 12 (f 1 1) 11, b 13 (k 12) 11, b 14 (bhj 13 1) 11, a 15 (ka 11 14), am 16 15, b 17 (f 1 1) 16, b 18 (k 17) 16, b 19 (bmj 18 256) 16, a 20 (ka 16 19), am 21 20, b 22 (f 2 1) 21, b 23 (k 22) 21, b 24 (bhj 23 6) 21, a 25 (ka 21 24), am 26 25, b 27 (f 2 1) 26, b 28 (k 27) 26, b 29 (bmj 28 100) 26, a 30 (ka 26 29), am 2 30] [2]
 (.ret [2])))⟩

def xf_message_is : XFunc := ⟨none, none, true, 1, [.tmp 2], (rs [o 2 (.mv (.c w))] [0]
 (ss [am 3 0, a 4 (bhj 3 1), am 5 4, bb 6 0 5, b 7 (bmj 6 14) 5, a 8 (ka 5 7), am 2 8] [2]
 (.ret [2])))⟩

def xf_message_unused_k0 : List (Nat × Option (Nat × Nat × Bool)) := [(1, none), (42, none), (43, none)]
def xf_message_unused_b0 : XCode := (rs [o 44 (blj 43 10)] [1, 42, 43, 44]
 (.seq (.cond (.s 44) .skip (.exit 0 []))
 (.seq (.block 1 (rs [om 45 43, o 46 (.idx none 1 10 (.s 42) (.s 43)), om 4 45, om 5 46] [1, 4, 5, 42, 43]
 (ss [am 47 5, a 48 (nt 47), am 49 48, b 50 (f 0 1) 49, b 51 (k 50) 49, bb 52 4 49, u 53 (.aadr 10 15 (.c (.dptr usesD)) (.s 51)) 49, u 54 (.aadr 1 10 (.s 53) (.s 52)) 49, u 55 (k 54) 49, u 56 (nt 55) 49, a 57 (ka 49 56)] [1, 42, 43, 57]
 (.cond (.s 57) (rs [o 2 (.mv (.c w))] [2]
 (.ret [2])) .skip))))
 (.reg [o 58 (baj 43 1), om 43 58] none [1, 42, 43]))))
def xf_message_unused : XFunc := ⟨none, none, true, 1, [.tmp 2], (rs [o 1 (bx 0), o 2 (.mv (.c w))] [1]
 (rp (some [(1, 36), (4, 36), (7, 36), (10, 36), (13, 36), (16, 36), (20, 36), (24, 36), (28, 36), (32, 36)]) [of 6 1 1, o 7 (k 6), o 8 (qj 7 0), of 9 2 1, o 10 (k 9), o 11 (qj 10 0), of 12 13 1, o 13 (k 12), o 14 (qj 13 0), of 15 11 1, o 16 (k 15), o 17 (qj 16 0), of 18 12 1, o 19 (k 18), o 20 (qj 19 0), of 21 14 1, ol 22 2 21, o 23 (.build [y, y] []), o 24 (.eqv false true [.i, .i] (.s 22) (.s 23)), of 25 3 1, ol 26 5 25, o 27 (.build l10 []), o 28 (.eqv false true [.i, .i, .i, .i, .s] (.s 26) (.s 27)), of 29 8 1, ol 30 3 29, o 31 (.build [z, z, x] []), o 32 (.eqv false true [.i, .i, .s] (.s 30) (.s 31)), of 33 16 1, o 34 (k 33), o 35 (le 34), o 36 (qj 35 0), of 37 17 1, o 38 (k 37), o 39 (le 38), o 40 (qj 39 0), o 41 (.build l6 [(0, 1, (.s 8)), (1, 1, (.s 11)), (2, 1, (.s 14)), (3, 1, (.s 17)), (4, 1, (.s 20)), (5, 1, (.s 24)), (6, 1, (.s 28)), (7, 1, (.s 32)), (8, 1, (.s 36)), (9, 1, (.s 40))]), o 3 (.alloc l6), p (t 10 3 41)] [1, 3]
 (.seq (rs [ol 42 10 3, o 43 (.mv (j 0))] [1, 42, 43]
 (.block 0 (.loop xf_message_unused_k0 xf_message_unused_b0)))
 (rs [o 2 (.mv (.c v))] [2]
 (.ret [2])))))⟩

def xf_message_numbers : XFunc := ⟨none, none, true, 2, [.tmp 4], (rs [o 2 (bx 0), o 3 (bx 1), o 4 (.mv (.c w))] [2, 3]
 (rs [of 7 0 3, o 8 (k 7), o 9 (.aadr 10 15 (.c (.dptr usesD)) (.s 8)), ol 10 10 9, o 5 (.alloc l6), p (t 10 5 10)] [2, 3, 5]
 (rs [of 11 0 2, o 12 (k 11), o 13 (.bin .mul (j 2) (.s 12)), o 14 (baj 13 1), om 6 14] [2, 3, 5, 6]
 (.seq (ss [a 15 (f 1 3), a 16 (k 15), a 17 (blj 16 0), am 18 17, d 19 (f 1 3) 18, d 20 (k 19) 18, d 21 (m 6) 18, d 22 (bh 20 21) 18, a 23 (ko 18 22), am 24 23, d 25 (f 2 3) 24, d 26 (k 25) 24, d 27 (blj 26 0) 24, a 28 (ko 24 27), am 29 28, d 30 (f 2 3) 29, d 31 (k 30) 29, d 32 (bgj 31 4294967296) 29, a 33 (ko 29 32), am 34 33, d 35 (f 11 3) 34, d 36 (k 35) 34, d 37 (blj 36 0) 34, a 38 (ko 34 37), am 39 38, d 40 (f 11 3) 39, d 41 (k 40) 39, d 42 (f 1 2) 39, d 43 (k 42) 39, d 44 (bg 41 43) 39, a 45 (ko 39 44), am 46 45, d 47 (f 12 3) 46, d 48 (k 47) 46, d 49 (blj 48 0) 46, a 50 (ko 46 49), am 51 50, d 52 (f 13 3) 51, d 53 (k 52) 51, d 54 (blj 53 0) 51, a 55 (ko 51 54)] [2, 3, 5, 6, 55]
 (.cond (.s 55) (rs [o 4 (.mv (.c w))] [4]
 (.ret [4])) .skip))
 (.seq (rs [of 56 0 3, o 57 (k 56)] [2, 3, 5, 6, 57]
 (.block 0 (.seq (.block 5 (.seq (.block 4 (.seq (.block 3 (.seq (.block 2 (.seq (.block 1 (.seq (.seq (rs [o 59 (qj 57 3), om 58 59] [2, 3, 5, 6, 57, 58]
 (.cond (.s 58) (.exit 1 [2, 3, 6]) .skip))
 (.seq (rs [o 61 (qj 57 5), om 60 61] [2, 3, 5, 6, 57, 60]
 (.cond (.s 60) (.exit 2 [2, 3, 6]) .skip))
 (.seq (rs [o 63 (qj 57 14), om 62 63] [2, 3, 5, 6, 57, 62]
 (.cond (.s 62) (.exit 3 [2, 3]) .skip))
 (.seq (rs [o 65 (qj 57 8), om 64 65] [3, 5, 6, 57, 64]
 (.cond (.s 64) (.exit 4 [3, 5, 6]) .skip))
 (.seq (rs [o 67 (qj 57 6), om 66 67] [3, 5, 57, 66]
 (.cond (.s 66) .skip (.reg [o 68 (qj 57 7), om 66 68] none [3, 5, 66])))
 (.cond (.s 66) (.exit 5 [3, 5]) .skip))))))
 (.exit 0 [3, 5])))
 (rs [of 69 11 3, o 70 (k 69), o 71 (blj 70 1)] [2, 3, 6, 71]
 (.cond (.s 71) (rs [o 4 (.mv (.c w))] [4]
 (.ret [4])) .skip))))
 (.seq (sp (some []) [a 72 (f 1 3), a 73 (k 72), a 74 (f 2 3), a 75 (k 74), am 76 6, a 77 (.bin .rem (.s 75) (.s 76)), a 78 (q 73 77), am 79 78, b 80 (f 12 3) 79, b 81 (k 80) 79, b 82 (f 1 2) 79, b 83 (k 82) 79, b 84 (bm 81 83) 79, a 85 (ka 79 84), am 4 85] [4]
 (.ret [4]))
 (.exit 0 [3, 5]))))
 (.seq (rs [of 86 12 3, o 87 (k 86), of 88 1 2, o 89 (k 88), o 90 (bm 87 89), om 4 90] [4]
 (.ret [4]))
 (.exit 0 [3, 5]))))
 (rp (some []) [of 91 1 3, o 92 (k 91), of 93 2 3, o 94 (k 93), om 95 6, o 96 (.bin .rem (.s 94) (.s 95)), o 97 (n 92 96)] [3, 5, 97]
 (.cond (.s 97) (rs [o 4 (.mv (.c w))] [4]
 (.ret [4])) .skip))))
 (.seq (rs [of 98 2 3, o 99 (k 98), o 100 (blj 99 1)] [3, 5, 100]
 (.cond (.s 100) (rs [o 4 (.mv (.c w))] [4]
 (.ret [4])) .skip))
 (.exit 0 [3, 5])))))
 (ss [a 101 (.aadr 1 10 (.s 5) (j 2)), a 102 (k 101), a 103 (nt 102), am 104 103, d 105 (f 13 3) 104, d 106 (k 105) 104, d 107 (f 2 3) 104, d 108 (k 107) 104, d 109 (bl 106 108) 104, a 110 (ko 104 109), am 111 110, b 112 (.aadr 1 10 (.s 5) (j 8)) 111, b 113 (k 112) 111, b 114 (nt 113) 111, bb 115 114 111, d 116 (f 12 3) 115, d 117 (k 116) 115, d 118 (f 16 3) 115, d 119 (k 118) 115, d 120 (le 119) 115, d 121 (bm 117 120) 115, b 122 (ko 115 121) 111, a 123 (ka 111 122), am 4 123] [4]
 (.ret [4])))))))⟩
theorem r_ref07_Uses : progT Tryz.prog 65 = some xf_ref07_Uses.plain := by kernel_rfl
theorem r_ref07_unused : progT Tryz.prog 66 = some xf_ref07_unused.plain := by kernel_rfl
theorem r_ref07_fields : progT Tryz.prog 67 = some xf_ref07_fields.plain := by kernel_rfl
theorem r_ref09_below : progT Tryz.prog 68 = some xf_ref09_below.plain := by kernel_rfl
theorem r_ref09_Nodes : progT Tryz.prog 69 = some xf_ref09_Nodes.plain := by kernel_rfl
theorem r_ref09_stamped : progT Tryz.prog 70 = some xf_ref09_stamped.plain := by kernel_rfl
theorem r_plain_sameAcks : progT Tryz.prog 71 = some xf_plain_sameAcks.plain := by kernel_rfl
theorem r_plain_sameMarks : progT Tryz.prog 72 = some xf_plain_sameMarks.plain := by kernel_rfl
theorem r_plain_SameBallots : progT Tryz.prog 73 = some xf_plain_SameBallots.plain := by kernel_rfl
theorem r_plain_SameAnswers : progT Tryz.prog 74 = some xf_plain_SameAnswers.plain := by kernel_rfl
theorem r_core_Check : progT Tryz.prog 75 = some xf_core_Check.plain := by kernel_rfl
theorem r_core_Wait : progT Tryz.prog 76 = some xf_core_Wait.plain := by kernel_rfl
theorem r_core_self : progT Tryz.prog 78 = some xf_core_self.plain := by kernel_rfl
theorem r_vector_New : progT Tryz.prog 79 = some xf_vector_New.plain := by kernel_rfl
theorem r_core_Nodes : progT Tryz.prog 80 = some xf_core_Nodes.plain := by kernel_rfl
theorem r_core_All : progT Tryz.prog 81 = some xf_core_All.plain := by kernel_rfl
theorem r_ref09_self : progT Tryz.prog 82 = some xf_ref09_self.plain := by kernel_rfl
theorem r_ref09_All : progT Tryz.prog 83 = some xf_ref09_All.plain := by kernel_rfl
theorem r_plain_SameMsg : progT Tryz.prog 84 = some xf_plain_SameMsg.plain := by kernel_rfl
theorem r_rejoin_must : progT Tryz.prog 86 = some xf_rejoin_must.plain := by kernel_rfl
theorem r_message_Check : progT Tryz.prog 87 = some xf_message_Check.plain := by kernel_rfl
theorem r_core_Admit : progT Tryz.prog 88 = some xf_core_Admit.plain := by kernel_rfl
theorem r_rejoin_step_recovery : progT Tryz.prog 89 = some xf_rejoin_step_recovery.plain := by kernel_rfl
theorem r_rejoin_step_response : progT Tryz.prog 90 = some xf_rejoin_step_response.plain := by kernel_rfl
theorem r_rejoin_step_getState : progT Tryz.prog 91 = some xf_rejoin_step_getState.plain := by kernel_rfl
theorem r_rejoin_step_newState : progT Tryz.prog 92 = some xf_rejoin_step_newState.plain := by kernel_rfl
theorem r_plain_CopyEntries : progT Tryz.prog 93 = some xf_plain_CopyEntries.plain := by kernel_rfl
theorem r_ref07_Between : progT Tryz.prog 94 = some xf_ref07_Between.plain := by kernel_rfl
theorem r_ref08_takes : progT Tryz.prog 95 = some xf_ref08_takes.plain := by kernel_rfl
theorem r_ref08_more : progT Tryz.prog 96 = some xf_ref08_more.plain := by kernel_rfl
theorem r_ref08_CopyAnswers : progT Tryz.prog 97 = some xf_ref08_CopyAnswers.plain := by kernel_rfl
theorem r_ref08_primary : progT Tryz.prog 98 = some xf_ref08_primary.plain := by kernel_rfl
theorem r_ref06_Copy : progT Tryz.prog 99 = some xf_ref06_Copy.plain := by kernel_rfl
theorem r_ref09_logged : progT Tryz.prog 100 = some xf_ref09_logged.plain := by kernel_rfl
theorem r_ref09_votes : progT Tryz.prog 101 = some xf_ref09_votes.plain := by kernel_rfl
theorem r_ref09_recovering : progT Tryz.prog 102 = some xf_ref09_recovering.plain := by kernel_rfl
theorem r_ref05_Log : progT Tryz.prog 103 = some xf_ref05_Log.plain := by kernel_rfl
theorem r_ref07_entry : progT Tryz.prog 104 = some xf_ref07_entry.plain := by kernel_rfl
theorem r_ref07_result : progT Tryz.prog 105 = some xf_ref07_result.plain := by kernel_rfl
theorem r_plain_CopyMsg : progT Tryz.prog 106 = some xf_plain_CopyMsg.plain := by kernel_rfl
theorem r_core_CheckConfig : progT Tryz.prog 107 = some xf_core_CheckConfig.plain := by kernel_rfl
theorem r_core_logged : progT Tryz.prog 108 = some xf_core_logged.plain := by kernel_rfl
theorem r_core_voted : progT Tryz.prog 109 = some xf_core_voted.plain := by kernel_rfl
theorem r_core_normal : progT Tryz.prog 110 = some xf_core_normal.plain := by kernel_rfl
theorem r_core_changing : progT Tryz.prog 111 = some xf_core_changing.plain := by kernel_rfl
theorem r_core_recovering : progT Tryz.prog 112 = some xf_core_recovering.plain := by kernel_rfl
theorem r_core_twin : progT Tryz.prog 113 = some xf_core_twin.plain := by kernel_rfl
theorem r_core_leads : progT Tryz.prog 114 = some xf_core_leads.plain := by kernel_rfl
theorem r_core_out : progT Tryz.prog 115 = some xf_core_out.plain := by kernel_rfl
theorem r_message_config : progT Tryz.prog 116 = some xf_message_config.plain := by kernel_rfl
theorem r_message_is : progT Tryz.prog 117 = some xf_message_is.plain := by kernel_rfl
theorem r_message_unused : progT Tryz.prog 118 = some xf_message_unused.plain := by kernel_rfl
theorem r_message_numbers : progT Tryz.prog 119 = some xf_message_numbers.plain := by kernel_rfl

end Go.Ax
