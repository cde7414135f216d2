/-
  The functions of this seat as resolved code, and that the program resolves to them (part 1).
-/
import Derived.Test.YtbkbnhpadkkcaaaXComp
import Derived.Test.YtbkbnhpadkkcaaaProg
import Derived.KernelRfl
namespace Go.Ax
open Go.Proofs

-- amnesia/amnesialaw03.VectorMakes
def xf3 : XFunc := ⟨4, [.tmp 8], (.seq (.reg [⟨(some 7), .box (.s 3), none⟩, ⟨(some 8), .mv (.c (.dat (.bool false))), none⟩] none [0, 1, 2, 7])
 (.seq (.reg [⟨(some 9), .alloc [(.nil 88 1 false), (.nil 88 1 false), (.nil 23 1 false), (.nil 23 1 false), (.nil 91 1 false), (.nil 91 1 false), (.nil 62 1 false), (.nil 62 1 false), (.nil 97 12 false), (.nil 97 12 false)], none⟩] none [0, 1, 2, 7, 9])
 (.seq (.reg [⟨(some 19), .mv (.s 0), none⟩, ⟨(some 20), .call (.c (.fn (.func 10) [] [])) [(.s 9), (.s 19)], none⟩, ⟨(some 10), .mv (.s 20), none⟩] none [0, 1, 2, 7, 9, 10])
 (.seq (.reg [⟨(some 22), .mv (.s 1), none⟩, ⟨(some 23), .call (.c (.fn (.func 11) [] [])) [(.s 22)], none⟩, ⟨(some 21), .mv (.s 23), none⟩, ⟨(some 24), .ext (.s 21) 0, none⟩, ⟨(some 25), .ext (.s 21) 1, none⟩, ⟨(some 11), .mv (.s 24), none⟩, ⟨(some 12), .mv (.s 25), none⟩] none [0, 1, 2, 7, 9, 10, 11, 12])
 (.seq (.reg [⟨(some 27), .mv (.s 1), none⟩, ⟨(some 28), .call (.c (.fn (.func 12) [] [])) [(.s 27)], none⟩, ⟨(some 26), .mv (.s 28), none⟩, ⟨(some 29), .ext (.s 26) 0, none⟩, ⟨(some 30), .ext (.s 26) 1, none⟩, ⟨(some 13), .mv (.s 29), none⟩, ⟨(some 14), .mv (.s 30), none⟩] none [0, 1, 2, 7, 9, 10, 11, 12, 13, 14])
 (.seq (.reg [⟨(some 32), .mv (.s 10), none⟩, ⟨(some 33), .mv (.s 2), none⟩, ⟨(some 34), .load (some 2) (.s 7), none⟩, ⟨(some 35), .call (.c (.fn (.func 13) [] [])) [(.s 32), (.s 33), (.s 34)], none⟩, ⟨(some 31), .mv (.s 35), none⟩, ⟨(some 36), .ext (.s 31) 0, none⟩, ⟨(some 37), .ext (.s 31) 1, none⟩, ⟨(some 15), .mv (.s 36), none⟩, ⟨(some 16), .mv (.s 37), none⟩] none [0, 1, 2, 7, 9, 10, 11, 12, 13, 14, 15, 16])
 (.seq (.reg [⟨(some 39), .mv (.s 0), none⟩, ⟨(some 40), .mv (.s 2), none⟩, ⟨(some 41), .load (some 2) (.s 7), none⟩, ⟨(some 42), .call (.c (.fn (.func 14) [] [])) [(.s 39), (.s 40), (.s 41)], none⟩, ⟨(some 38), .mv (.s 42), none⟩, ⟨(some 43), .ext (.s 38) 0, none⟩, ⟨(some 44), .ext (.s 38) 1, none⟩, ⟨(some 17), .mv (.s 43), none⟩, ⟨(some 18), .mv (.s 44), none⟩] none [0, 1, 9, 10, 11, 12, 13, 14, 15, 16, 17, 18])
 (.seq (.reg [⟨(some 45), .mv (.s 12), none⟩, ⟨(some 46), .call (.c (.fn (.func 15) [] [])) [(.s 45)], none⟩, ⟨(some 47), .mv (.s 14), none⟩, ⟨(some 48), .eqv false false [.i] (.s 46) (.s 47), none⟩, ⟨(some 49), .mv (.s 48), none⟩, ⟨(some 50), .mv (.s 11), some (49, true)⟩, ⟨(some 51), .mv (.s 13), some (49, true)⟩, ⟨(some 52), .call (.c (.fn (.func 16) [] [])) [(.s 50), (.s 51)], some (49, true)⟩, ⟨(some 53), .pick (.s 49) (.s 52) (.c (.dat (.bool false))), none⟩, ⟨(some 54), .mv (.s 53), none⟩, ⟨(some 55), .mv (.s 16), some (54, true)⟩, ⟨(some 56), .call (.c (.fn (.func 15) [] [])) [(.s 55)], some (54, true)⟩, ⟨(some 57), .mv (.s 18), some (54, true)⟩, ⟨(some 58), .eqv false false [.i] (.s 56) (.s 57), some (54, true)⟩, ⟨(some 59), .pick (.s 54) (.s 58) (.c (.dat (.bool false))), none⟩, ⟨(some 60), .mv (.s 59), none⟩, ⟨(some 61), .mv (.s 15), some (60, true)⟩, ⟨(some 62), .mv (.s 17), some (60, true)⟩, ⟨(some 63), .call (.c (.fn (.func 16) [] [])) [(.s 61), (.s 62)], some (60, true)⟩, ⟨(some 64), .pick (.s 60) (.s 63) (.c (.dat (.bool false))), none⟩, ⟨(some 65), .mv (.s 64), none⟩, ⟨(some 66), .mv (.s 10), some (65, true)⟩, ⟨(some 67), .mv (.s 1), some (65, true)⟩, ⟨(some 68), .call (.c (.fn (.func 17) [] [])) [(.s 66), (.s 67)], some (65, true)⟩, ⟨(some 69), .call (.c (.fn (.func 15) [] [])) [(.s 68)], some (65, true)⟩, ⟨(some 70), .mv (.s 0), some (65, true)⟩, ⟨(some 71), .mv (.s 1), some (65, true)⟩, ⟨(some 72), .call (.c (.fn (.func 18) [] [])) [(.s 70), (.s 71)], some (65, true)⟩, ⟨(some 73), .eqv false false [.i] (.s 69) (.s 72), some (65, true)⟩, ⟨(some 74), .pick (.s 65) (.s 73) (.c (.dat (.bool false))), none⟩, ⟨(some 75), .mv (.s 74), none⟩, ⟨(some 76), .call (.c (.fn (.func 19) [] [])) [(.s 9)], some (75, true)⟩, ⟨(some 77), .pick (.s 75) (.s 76) (.c (.dat (.bool false))), none⟩, ⟨(some 8), .mv (.s 77), none⟩] none [8])
 (.ret [8])))))))))⟩

-- amnesia/amnesialaw03.VectorMerges
def xf4_k0 : List (Nat × Option (Nat × Nat × Bool)) := [(0, none), (1, none), (2, none), (7, none), (8, some (23, 1, false)), (9, none)]
def xf4_b0 : XCode := (.seq (.seq (.reg [⟨(some 14), .mv (.s 9), none⟩, ⟨(some 15), .mv (.s 0), none⟩, ⟨(some 16), .len false (.s 15), none⟩, ⟨(some 17), .bin .lss (.s 14) (.s 16), none⟩] none [0, 1, 2, 7, 8, 9, 17])
 (.cond (.s 17) .skip (.exit 0 [0, 1, 2, 7, 8])))
 (.seq (.block 1 (.reg [⟨(some 20), .mv (.s 8), none⟩, ⟨(some 21), .mv (.s 0), none⟩, ⟨(some 22), .mv (.s 9), none⟩, ⟨(some 23), .iadr 1 (.s 21) (.s 22), none⟩, ⟨(some 24), .load none (.s 23), none⟩, ⟨(some 25), .call (.c (.fn (.func 10) [] [])) [(.s 7), (.s 24)], none⟩, ⟨(some 26), .bsl 23 1 false 1 [(.nil 26 2 true)] [(0, 1, (.s 25))], none⟩, ⟨(some 27), .app 23 1 24 false (.s 20) (.s 26), none⟩, ⟨(some 8), .mv (.s 27), none⟩] none [0, 1, 2, 7, 8, 9]))
 (.reg [⟨(some 18), .mv (.s 9), none⟩, ⟨(some 19), .bin .add (.s 18) (.c (.dat (.int .i64 1))), none⟩, ⟨(some 9), .mv (.s 19), none⟩] none [0, 1, 2, 7, 8, 9])))
def xf4 : XFunc := ⟨3, [.tmp 6], (.seq (.reg [⟨(some 6), .mv (.c (.dat (.bool false))), none⟩] none [0, 1, 2])
 (.seq (.reg [⟨(some 7), .alloc [(.nil 88 1 false), (.nil 88 1 false), (.nil 23 1 false), (.nil 23 1 false), (.nil 91 1 false), (.nil 91 1 false), (.nil 62 1 false), (.nil 62 1 false), (.nil 97 12 false), (.nil 97 12 false)], none⟩] none [0, 1, 2, 7])
 (.seq (.reg [⟨(some 8), .mv (.c (.nil 23 1 false)), none⟩] none [0, 1, 2, 7, 8])
 (.seq (.seq (.reg [⟨(some 9), .mv (.c (.dat (.int .i64 0))), none⟩] none [0, 1, 2, 7, 8, 9])
 (.block 0 (.loop xf4_k0 xf4_b0)))
 (.seq (.reg [⟨(some 29), .mv (.s 8), none⟩, ⟨(some 30), .call (.c (.fn (.func 20) [] [])) [(.s 29)], none⟩, ⟨(some 28), .mv (.s 30), none⟩, ⟨(some 31), .ext (.s 28) 0, none⟩, ⟨(some 32), .ext (.s 28) 1, none⟩, ⟨(some 10), .mv (.s 31), none⟩, ⟨(some 11), .mv (.s 32), none⟩] none [0, 1, 2, 7, 10, 11])
 (.seq (.reg [⟨(some 34), .mv (.s 0), none⟩, ⟨(some 35), .call (.c (.fn (.func 21) [] [])) [(.s 34)], none⟩, ⟨(some 33), .mv (.s 35), none⟩, ⟨(some 36), .ext (.s 33) 0, none⟩, ⟨(some 37), .ext (.s 33) 1, none⟩, ⟨(some 12), .mv (.s 36), none⟩, ⟨(some 13), .mv (.s 37), none⟩] none [1, 2, 7, 10, 11, 12, 13])
 (.seq (.reg [⟨(some 38), .mv (.s 11), none⟩, ⟨(some 39), .call (.c (.fn (.func 15) [] [])) [(.s 38)], none⟩, ⟨(some 40), .mv (.s 13), none⟩, ⟨(some 41), .eqv false false [.i] (.s 39) (.s 40), none⟩, ⟨(some 42), .mv (.s 41), none⟩, ⟨(some 43), .mv (.s 10), some (42, true)⟩, ⟨(some 44), .mv (.s 12), some (42, true)⟩, ⟨(some 45), .call (.c (.fn (.func 16) [] [])) [(.s 43), (.s 44)], some (42, true)⟩, ⟨(some 46), .pick (.s 42) (.s 45) (.c (.dat (.bool false))), none⟩, ⟨(some 47), .mv (.s 46), none⟩, ⟨(some 48), .mv (.s 1), some (47, true)⟩, ⟨(some 49), .call (.c (.fn (.func 10) [] [])) [(.s 7), (.s 48)], some (47, true)⟩, ⟨(some 50), .mv (.s 2), some (47, true)⟩, ⟨(some 51), .call (.c (.fn (.func 10) [] [])) [(.s 7), (.s 50)], some (47, true)⟩, ⟨(some 52), .call (.c (.fn (.func 22) [] [])) [(.s 49), (.s 51)], some (47, true)⟩, ⟨(some 53), .mv (.s 1), some (47, true)⟩, ⟨(some 54), .mv (.s 2), some (47, true)⟩, ⟨(some 55), .call (.c (.fn (.func 23) [] [])) [(.s 53), (.s 54)], some (47, true)⟩, ⟨(some 56), .eqv false false [.i] (.s 52) (.s 55), some (47, true)⟩, ⟨(some 57), .pick (.s 47) (.s 56) (.c (.dat (.bool false))), none⟩, ⟨(some 58), .mv (.s 57), none⟩, ⟨(some 59), .call (.c (.fn (.func 19) [] [])) [(.s 7)], some (58, true)⟩, ⟨(some 60), .pick (.s 58) (.s 59) (.c (.dat (.bool false))), none⟩, ⟨(some 6), .mv (.s 60), none⟩] none [6])
 (.ret [6]))))))))⟩

-- amnesia/amnesialaw03.VectorVoices
def xf5 : XFunc := ⟨3, [.tmp 6], (.seq (.reg [⟨(some 5), .box (.s 2), none⟩, ⟨(some 6), .mv (.c (.dat (.bool false))), none⟩] none [0, 1, 5])
 (.seq (.reg [⟨(some 7), .alloc [(.nil 88 1 false), (.nil 88 1 false), (.nil 23 1 false), (.nil 23 1 false), (.nil 91 1 false), (.nil 91 1 false), (.nil 62 1 false), (.nil 62 1 false), (.nil 97 12 false), (.nil 97 12 false)], none⟩] none [0, 1, 5, 7])
 (.seq (.reg [⟨(some 20), .mv (.s 0), none⟩, ⟨(some 21), .call (.c (.fn (.func 24) [] [])) [(.s 7), (.s 20)], none⟩, ⟨(some 8), .mv (.s 21), none⟩] none [0, 1, 5, 7, 8])
 (.seq (.reg [⟨(some 23), .mv (.s 8), none⟩, ⟨(some 24), .call (.c (.fn (.func 25) [] [])) [(.s 23)], none⟩, ⟨(some 22), .mv (.s 24), none⟩, ⟨(some 25), .ext (.s 22) 0, none⟩, ⟨(some 26), .ext (.s 22) 1, none⟩, ⟨(some 27), .ext (.s 22) 2, none⟩, ⟨(some 9), .mv (.s 25), none⟩, ⟨(some 10), .mv (.s 26), none⟩, ⟨(some 11), .mv (.s 27), none⟩] none [0, 1, 5, 7, 8, 9, 10, 11])
 (.seq (.reg [⟨(some 29), .mv (.s 0), none⟩, ⟨(some 30), .call (.c (.fn (.func 26) [] [])) [(.s 29)], none⟩, ⟨(some 28), .mv (.s 30), none⟩, ⟨(some 31), .ext (.s 28) 0, none⟩, ⟨(some 32), .ext (.s 28) 1, none⟩, ⟨(some 33), .ext (.s 28) 2, none⟩, ⟨(some 12), .mv (.s 31), none⟩, ⟨(some 13), .mv (.s 32), none⟩, ⟨(some 14), .mv (.s 33), none⟩] none [0, 1, 5, 7, 8, 9, 10, 11, 12, 13, 14])
 (.seq (.reg [⟨(some 35), .mv (.s 8), none⟩, ⟨(some 36), .call (.c (.fn (.func 27) [] [])) [(.s 35)], none⟩, ⟨(some 34), .mv (.s 36), none⟩, ⟨(some 37), .ext (.s 34) 0, none⟩, ⟨(some 38), .ext (.s 34) 1, none⟩, ⟨(some 15), .mv (.s 37), none⟩, ⟨(some 16), .mv (.s 38), none⟩] none [0, 1, 5, 7, 9, 10, 11, 12, 13, 14, 15, 16])
 (.seq (.reg [⟨(some 40), .mv (.s 0), none⟩, ⟨(some 41), .call (.c (.fn (.func 28) [] [])) [(.s 40)], none⟩, ⟨(some 39), .mv (.s 41), none⟩, ⟨(some 42), .ext (.s 39) 0, none⟩, ⟨(some 43), .ext (.s 39) 1, none⟩, ⟨(some 17), .mv (.s 42), none⟩, ⟨(some 18), .mv (.s 43), none⟩] none [1, 5, 7, 9, 10, 11, 12, 13, 14, 15, 16, 17, 18])
 (.seq (.reg [⟨(some 44), .load (some 2) (.s 5), none⟩, ⟨(some 45), .bsl 56 2 false 1 [(.dat (.int .i64 0)), (.nil 26 2 true)] [(0, 2, (.s 44))], none⟩, ⟨(some 46), .call (.c (.fn (.func 24) [] [])) [(.s 7), (.s 45)], none⟩, ⟨(some 19), .mv (.s 46), none⟩] none [1, 5, 7, 9, 10, 11, 12, 13, 14, 15, 16, 17, 18, 19])
 (.seq (.reg [⟨(some 47), .mv (.s 11), none⟩, ⟨(some 48), .call (.c (.fn (.func 15) [] [])) [(.s 47)], none⟩, ⟨(some 49), .mv (.s 14), none⟩, ⟨(some 50), .eqv false false [.i] (.s 48) (.s 49), none⟩, ⟨(some 51), .mv (.s 50), none⟩, ⟨(some 52), .mv (.s 9), some (51, true)⟩, ⟨(some 53), .mv (.s 12), some (51, true)⟩, ⟨(some 54), .eqv false false [.i] (.s 52) (.s 53), some (51, true)⟩, ⟨(some 55), .pick (.s 51) (.s 54) (.c (.dat (.bool false))), none⟩, ⟨(some 56), .mv (.s 55), none⟩, ⟨(some 57), .mv (.s 10), some (56, true)⟩, ⟨(some 58), .mv (.s 13), some (56, true)⟩, ⟨(some 59), .eqv false false [.i] (.s 57) (.s 58), some (56, true)⟩, ⟨(some 60), .pick (.s 56) (.s 59) (.c (.dat (.bool false))), none⟩, ⟨(some 61), .mv (.s 60), none⟩, ⟨(some 62), .mv (.s 16), some (61, true)⟩, ⟨(some 63), .call (.c (.fn (.func 15) [] [])) [(.s 62)], some (61, true)⟩, ⟨(some 64), .mv (.s 18), some (61, true)⟩, ⟨(some 65), .eqv false false [.i] (.s 63) (.s 64), some (61, true)⟩, ⟨(some 66), .pick (.s 61) (.s 65) (.c (.dat (.bool false))), none⟩, ⟨(some 67), .mv (.s 66), none⟩, ⟨(some 68), .mv (.s 15), some (67, true)⟩, ⟨(some 69), .mv (.s 17), some (67, true)⟩, ⟨(some 70), .call (.c (.fn (.func 29) [] [])) [(.s 68), (.s 69)], some (67, true)⟩, ⟨(some 71), .pick (.s 67) (.s 70) (.c (.dat (.bool false))), none⟩, ⟨(some 72), .mv (.s 71), none⟩, ⟨(some 73), .mv (.s 1), some (72, true)⟩, ⟨(some 74), .call (.c (.fn (.func 10) [] [])) [(.s 7), (.s 73)], some (72, true)⟩, ⟨(some 75), .mv (.s 19), some (72, true)⟩, ⟨(some 76), .iadr 2 (.s 75) (.c (.dat (.int .i64 0))), some (72, true)⟩, ⟨(some 77), .load (some 2) (.s 76), some (72, true)⟩, ⟨(some 78), .call (.c (.fn (.func 30) [] [])) [(.s 74), (.s 77)], some (72, true)⟩, ⟨(some 79), .mv (.s 1), some (72, true)⟩, ⟨(some 80), .load (some 2) (.s 5), some (72, true)⟩, ⟨(some 81), .call (.c (.fn (.func 31) [] [])) [(.s 79), (.s 80)], some (72, true)⟩, ⟨(some 82), .eqv false false [.b] (.s 78) (.s 81), some (72, true)⟩, ⟨(some 83), .pick (.s 72) (.s 82) (.c (.dat (.bool false))), none⟩, ⟨(some 84), .mv (.s 83), none⟩, ⟨(some 85), .call (.c (.fn (.func 19) [] [])) [(.s 7)], some (84, true)⟩, ⟨(some 86), .pick (.s 84) (.s 85) (.c (.dat (.bool false))), none⟩, ⟨(some 87), .mv (.s 86), none⟩, ⟨(some 88), .call (.c (.fn (.func 32) [] [])) [], some (87, true)⟩, ⟨(some 89), .pick (.s 87) (.s 88) (.c (.dat (.bool false))), none⟩, ⟨(some 6), .mv (.s 89), none⟩] (some [(27, 29), (27, 30), (27, 33), (31, 33)]) [6])
 (.ret [6]))))))))))⟩

-- amnesia/amnesialaw03.VectorTogether
def xf6_k0 : List (Nat × Option (Nat × Nat × Bool)) := [(0, none), (8, some (3, 1, true)), (13, some (4, 1, true)), (14, none), (15, none)]
def xf6_b0 : XCode := (.seq (.seq (.reg [⟨(some 75), .mv (.s 15), none⟩, ⟨(some 76), .mv (.s 8), none⟩, ⟨(some 77), .len false (.s 76), none⟩, ⟨(some 78), .bin .lss (.s 75) (.s 77), none⟩] none [0, 8, 13, 14, 15, 78])
 (.cond (.s 78) .skip (.exit 0 [0, 13])))
 (.seq (.block 1 (.seq (.seq (.reg [⟨(some 81), .mv (.s 8), none⟩, ⟨(some 82), .mv (.s 15), none⟩, ⟨(some 83), .iadr 1 (.s 81) (.s 82), none⟩, ⟨(some 84), .load none (.s 83), none⟩, ⟨(some 85), .mv (.s 14), none⟩, ⟨(some 86), .bin .leq (.s 84) (.s 85), none⟩, ⟨(some 87), .mv (.s 86), none⟩, ⟨(some 88), .mv (.s 8), some (87, false)⟩, ⟨(some 89), .mv (.s 15), some (87, false)⟩, ⟨(some 90), .iadr 1 (.s 88) (.s 89), some (87, false)⟩, ⟨(some 91), .load none (.s 90), some (87, false)⟩, ⟨(some 92), .mv (.s 0), some (87, false)⟩, ⟨(some 93), .len false (.s 92), some (87, false)⟩, ⟨(some 94), .bin .geq (.s 91) (.s 93), some (87, false)⟩, ⟨(some 95), .pick (.s 87) (.c (.dat (.bool true))) (.s 94), none⟩] none [0, 8, 13, 15, 95])
 (.cond (.s 95) (.seq (.reg [⟨(some 4), .mv (.c (.dat (.bool false))), none⟩] none [4])
 (.ret [4])) .skip))
 (.seq (.reg [⟨(some 96), .mv (.s 8), none⟩, ⟨(some 97), .mv (.s 15), none⟩, ⟨(some 98), .iadr 1 (.s 96) (.s 97), none⟩, ⟨(some 99), .load none (.s 98), none⟩, ⟨(some 14), .mv (.s 99), none⟩] none [0, 8, 13, 14, 15])
 (.reg [⟨(some 100), .mv (.s 13), none⟩, ⟨(some 101), .mv (.s 14), none⟩, ⟨(some 102), .iadr 1 (.s 100) (.s 101), none⟩, ⟨none, .store 1 (.s 102) (.c (.dat (.bool true))), none⟩] none [0, 8, 13, 14, 15]))))
 (.reg [⟨(some 79), .mv (.s 15), none⟩, ⟨(some 80), .bin .add (.s 79) (.c (.dat (.int .i64 1))), none⟩, ⟨(some 15), .mv (.s 80), none⟩] none [0, 8, 13, 14, 15])))
def xf6_k1 : List (Nat × Option (Nat × Nat × Bool)) := [(0, none), (13, some (4, 1, true)), (16, some (23, 1, false)), (17, none)]
def xf6_b1 : XCode := (.seq (.seq (.reg [⟨(some 121), .mv (.s 17), none⟩, ⟨(some 122), .mv (.s 0), none⟩, ⟨(some 123), .len false (.s 122), none⟩, ⟨(some 124), .bin .lss (.s 121) (.s 123), none⟩] none [0, 13, 16, 17, 124])
 (.cond (.s 124) .skip (.exit 2 [0, 13, 16])))
 (.seq (.block 3 (.reg [⟨(some 127), .mv (.s 16), none⟩, ⟨(some 128), .mv (.s 0), none⟩, ⟨(some 129), .mv (.s 17), none⟩, ⟨(some 130), .iadr 2 (.s 128) (.s 129), none⟩, ⟨(some 131), .fadr 1 (.s 130), none⟩, ⟨(some 132), .load none (.s 131), none⟩, ⟨(some 133), .bsl 23 1 false 1 [(.nil 26 2 true)] [(0, 1, (.s 132))], none⟩, ⟨(some 134), .app 23 1 24 false (.s 127) (.s 133), none⟩, ⟨(some 16), .mv (.s 134), none⟩] none [0, 13, 16, 17]))
 (.reg [⟨(some 125), .mv (.s 17), none⟩, ⟨(some 126), .bin .add (.s 125) (.c (.dat (.int .i64 1))), none⟩, ⟨(some 17), .mv (.s 126), none⟩] none [0, 13, 16, 17])))
def xf6_k2 : List (Nat × Option (Nat × Nat × Bool)) := [(0, none), (13, some (4, 1, true)), (18, some (26, 2, true)), (20, none)]
def xf6_b2 : XCode := (.seq (.seq (.reg [⟨(some 143), .mv (.s 20), none⟩, ⟨(some 144), .mv (.s 0), none⟩, ⟨(some 145), .len false (.s 144), none⟩, ⟨(some 146), .bin .lss (.s 143) (.s 145), none⟩] none [0, 13, 18, 20, 146])
 (.cond (.s 146) .skip (.exit 4 [])))
 (.seq (.block 5 (.seq (.reg [⟨(some 149), .mv (.s 18), none⟩, ⟨(some 150), .mv (.s 0), none⟩, ⟨(some 151), .mv (.s 20), none⟩, ⟨(some 152), .iadr 2 (.s 150) (.s 151), none⟩, ⟨(some 153), .load (some 2) (.s 152), none⟩, ⟨(some 154), .call (.c (.fn (.func 30) [] [])) [(.s 149), (.s 153)], none⟩, ⟨(some 155), .mv (.s 13), none⟩, ⟨(some 156), .mv (.s 20), none⟩, ⟨(some 157), .iadr 1 (.s 155) (.s 156), none⟩, ⟨(some 158), .load none (.s 157), none⟩, ⟨(some 159), .eqv false false [.b] (.s 154) (.s 158), none⟩] (some [(5, 8), (5, 9)]) [0, 13, 18, 20, 159])
 (.cond (.s 159) (.seq (.reg [⟨(some 4), .mv (.c (.dat (.bool false))), none⟩] none [4])
 (.ret [4])) .skip)))
 (.reg [⟨(some 147), .mv (.s 20), none⟩, ⟨(some 148), .bin .add (.s 147) (.c (.dat (.int .i64 1))), none⟩, ⟨(some 20), .mv (.s 148), none⟩] none [0, 13, 18, 20])))
def xf6 : XFunc := ⟨2, [.tmp 4], (.seq (.reg [⟨(some 4), .mv (.c (.dat (.bool false))), none⟩] none [0, 1])
 (.seq (.seq (.reg [⟨(some 21), .call (.c (.fn (.func 32) [] [])) [], none⟩, ⟨(some 22), .not (.s 21), none⟩] none [0, 1, 22])
 (.cond (.s 22) (.seq (.reg [⟨(some 4), .mv (.c (.dat (.bool false))), none⟩] none [4])
 (.ret [4])) .skip))
 (.seq (.reg [⟨(some 24), .mv (.s 0), none⟩, ⟨(some 25), .call (.c (.fn (.func 25) [] [])) [(.s 24)], none⟩, ⟨(some 23), .mv (.s 25), none⟩, ⟨(some 26), .ext (.s 23) 0, none⟩, ⟨(some 27), .ext (.s 23) 1, none⟩, ⟨(some 28), .ext (.s 23) 2, none⟩, ⟨(some 5), .mv (.s 26), none⟩, ⟨(some 6), .mv (.s 27), none⟩, ⟨(some 7), .mv (.s 28), none⟩] none [0, 1, 5, 7])
 (.seq (.reg [⟨(some 30), .mv (.s 0), none⟩, ⟨(some 31), .call (.c (.fn (.func 27) [] [])) [(.s 30)], none⟩, ⟨(some 29), .mv (.s 31), none⟩, ⟨(some 32), .ext (.s 29) 0, none⟩, ⟨(some 33), .ext (.s 29) 1, none⟩, ⟨(some 8), .mv (.s 32), none⟩, ⟨(some 9), .mv (.s 33), none⟩] none [0, 1, 5, 7, 8, 9])
 (.seq (.seq (.reg [⟨(some 34), .mv (.s 7), none⟩, ⟨(some 35), .call (.c (.fn (.func 15) [] [])) [(.s 34)], none⟩, ⟨(some 36), .mv (.s 9), none⟩, ⟨(some 37), .call (.c (.fn (.func 15) [] [])) [(.s 36)], none⟩, ⟨(some 38), .eqv true false [.i] (.s 35) (.s 37), none⟩] none [0, 1, 5, 7, 8, 38])
 (.cond (.s 38) (.seq (.reg [⟨(some 4), .mv (.c (.dat (.bool false))), none⟩] none [4])
 (.ret [4])) .skip))
 (.seq (.seq (.reg [⟨(some 39), .mv (.s 7), none⟩, ⟨(some 40), .call (.c (.fn (.func 15) [] [])) [(.s 39)], none⟩, ⟨(some 41), .eqv true false [.i] (.s 40) (.c (.dat (.int .i64 0))), none⟩] none [0, 1, 5, 8, 41])
 (.cond (.s 41) (.seq (.reg [⟨(some 42), .mv (.s 8), none⟩, ⟨(some 43), .len false (.s 42), none⟩, ⟨(some 44), .eqv false false [.i] (.s 43) (.c (.dat (.int .i64 0))), none⟩, ⟨(some 4), .mv (.s 44), none⟩] none [4])
 (.ret [4])) .skip))
 (.seq (.seq (.reg [⟨(some 45), .mv (.s 5), none⟩, ⟨(some 46), .eqv false false [.i] (.s 45) (.c (.dat (.int .i64 (-1)))), none⟩, ⟨(some 47), .mv (.s 8), none⟩, ⟨(some 48), .len false (.s 47), none⟩, ⟨(some 49), .mv (.s 0), none⟩, ⟨(some 50), .len false (.s 49), none⟩, ⟨(some 51), .eqv false false [.i] (.s 48) (.s 50), none⟩, ⟨(some 52), .eqv true false [.b] (.s 46) (.s 51), none⟩] none [0, 1, 5, 8, 52])
 (.cond (.s 52) (.seq (.reg [⟨(some 4), .mv (.c (.dat (.bool false))), none⟩] none [4])
 (.ret [4])) .skip))
 (.seq (.reg [⟨(some 54), .mv (.s 0), none⟩, ⟨(some 55), .mv (.s 1), none⟩, ⟨(some 56), .call (.c (.fn (.func 33) [] [])) [(.s 54), (.s 55)], none⟩, ⟨(some 57), .call (.c (.fn (.func 25) [] [])) [(.s 56)], none⟩, ⟨(some 53), .mv (.s 57), none⟩, ⟨(some 58), .ext (.s 53) 0, none⟩, ⟨(some 59), .ext (.s 53) 1, none⟩, ⟨(some 60), .ext (.s 53) 2, none⟩, ⟨(some 10), .mv (.s 58), none⟩, ⟨(some 11), .mv (.s 59), none⟩, ⟨(some 12), .mv (.s 60), none⟩] none [0, 5, 8, 10, 12])
 (.seq (.seq (.reg [⟨(some 61), .mv (.s 12), none⟩, ⟨(some 62), .call (.c (.fn (.func 15) [] [])) [(.s 61)], none⟩, ⟨(some 63), .eqv true false [.i] (.s 62) (.c (.dat (.int .i64 0))), none⟩, ⟨(some 64), .mv (.s 63), none⟩, ⟨(some 65), .mv (.s 5), some (64, false)⟩, ⟨(some 66), .eqv false false [.i] (.s 65) (.c (.dat (.int .i64 (-1)))), some (64, false)⟩, ⟨(some 67), .mv (.s 66), some (64, false)⟩, ⟨(some 68), .mv (.s 10), some (67, true)⟩, ⟨(some 69), .eqv true false [.i] (.s 68) (.c (.dat (.int .i64 (-1)))), some (67, true)⟩, ⟨(some 70), .pick (.s 67) (.s 69) (.c (.dat (.bool false))), some (64, false)⟩, ⟨(some 71), .pick (.s 64) (.c (.dat (.bool true))) (.s 70), none⟩] none [0, 8, 71])
 (.cond (.s 71) (.seq (.reg [⟨(some 4), .mv (.c (.dat (.bool false))), none⟩] none [4])
 (.ret [4])) .skip))
 (.seq (.reg [⟨(some 72), .mv (.s 0), none⟩, ⟨(some 73), .len false (.s 72), none⟩, ⟨(some 74), .mksl 4 1 1 true [(.dat (.bool false))] (.s 73) (.s 73), none⟩, ⟨(some 13), .mv (.s 74), none⟩] none [0, 8, 13])
 (.seq (.reg [⟨(some 14), .mv (.c (.dat (.int .i64 (-1)))), none⟩] none [0, 8, 13, 14])
 (.seq (.seq (.reg [⟨(some 15), .mv (.c (.dat (.int .i64 0))), none⟩] none [0, 8, 13, 14, 15])
 (.block 0 (.loop xf6_k0 xf6_b0)))
 (.seq (.reg [⟨(some 104), .mv (.s 0), none⟩, ⟨(some 105), .mv (.s 13), none⟩, ⟨(some 106), .call (.c (.fn (.func 33) [] [])) [(.s 104), (.s 105)], none⟩, ⟨(some 107), .call (.c (.fn (.func 25) [] [])) [(.s 106)], none⟩, ⟨(some 103), .mv (.s 107), none⟩, ⟨(some 108), .ext (.s 103) 0, none⟩, ⟨(some 109), .ext (.s 103) 1, none⟩, ⟨(some 110), .ext (.s 103) 2, none⟩, ⟨(some 10), .mv (.s 108), none⟩, ⟨(some 12), .mv (.s 110), none⟩] none [0, 10, 12, 13])
 (.seq (.seq (.reg [⟨(some 111), .mv (.s 12), none⟩, ⟨(some 112), .call (.c (.fn (.func 15) [] [])) [(.s 111)], none⟩, ⟨(some 113), .eqv true false [.i] (.s 112) (.c (.dat (.int .i64 0))), none⟩, ⟨(some 114), .mv (.s 113), none⟩, ⟨(some 115), .mv (.s 10), some (114, false)⟩, ⟨(some 116), .eqv true false [.i] (.s 115) (.c (.dat (.int .i64 (-1)))), some (114, false)⟩, ⟨(some 117), .pick (.s 114) (.c (.dat (.bool true))) (.s 116), none⟩] none [0, 13, 117])
 (.cond (.s 117) (.seq (.reg [⟨(some 4), .mv (.c (.dat (.bool false))), none⟩] none [4])
 (.ret [4])) .skip))
 (.seq (.seq (.reg [⟨(some 118), .mv (.s 0), none⟩, ⟨(some 119), .len false (.s 118), none⟩, ⟨(some 120), .eqv false false [.i] (.s 119) (.c (.dat (.int .i64 0))), none⟩] none [0, 13, 120])
 (.cond (.s 120) (.seq (.reg [⟨(some 4), .mv (.c (.dat (.bool true))), none⟩] none [4])
 (.ret [4])) .skip))
 (.seq (.reg [⟨(some 16), .mv (.c (.nil 23 1 false)), none⟩] none [0, 13, 16])
 (.seq (.seq (.reg [⟨(some 17), .mv (.c (.dat (.int .i64 0))), none⟩] none [0, 13, 16, 17])
 (.block 2 (.loop xf6_k1 xf6_b1)))
 (.seq (.reg [⟨(some 136), .mv (.s 16), none⟩, ⟨(some 137), .call (.c (.fn (.func 20) [] [])) [(.s 136)], none⟩, ⟨(some 135), .mv (.s 137), none⟩, ⟨(some 138), .ext (.s 135) 0, none⟩, ⟨(some 139), .ext (.s 135) 1, none⟩, ⟨(some 18), .mv (.s 138), none⟩, ⟨(some 19), .mv (.s 139), none⟩] none [0, 13, 18, 19])
 (.seq (.seq (.reg [⟨(some 140), .mv (.s 19), none⟩, ⟨(some 141), .call (.c (.fn (.func 15) [] [])) [(.s 140)], none⟩, ⟨(some 142), .eqv true false [.i] (.s 141) (.c (.dat (.int .i64 0))), none⟩] none [0, 13, 18, 142])
 (.cond (.s 142) (.seq (.reg [⟨(some 4), .mv (.c (.dat (.bool false))), none⟩] none [4])
 (.ret [4])) .skip))
 (.seq (.seq (.reg [⟨(some 20), .mv (.c (.dat (.int .i64 0))), none⟩] none [0, 13, 18, 20])
 (.block 4 (.loop xf6_k2 xf6_b2)))
 (.seq (.reg [⟨(some 4), .mv (.c (.dat (.bool true))), none⟩] none [4])
 (.ret [4]))))))))))))))))))))))⟩

-- amnesia/amnesialaw03.VectorLeast
def xf7 : XFunc := ⟨3, [.tmp 6], (.seq (.reg [⟨(some 6), .mv (.c (.dat (.bool false))), none⟩] none [0, 1, 2])
 (.seq (.seq (.reg [⟨(some 25), .call (.c (.fn (.func 32) [] [])) [], none⟩, ⟨(some 26), .not (.s 25), none⟩] none [0, 1, 2, 26])
 (.cond (.s 26) (.seq (.reg [⟨(some 6), .mv (.c (.dat (.bool false))), none⟩] none [6])
 (.ret [6])) .skip))
 (.seq (.reg [⟨(some 28), .mv (.s 0), none⟩, ⟨(some 29), .mv (.s 1), none⟩, ⟨(some 30), .bsl 23 1 false 2 [(.nil 26 2 true), (.nil 26 2 true)] [(0, 1, (.s 28)), (1, 1, (.s 29))], none⟩, ⟨(some 31), .call (.c (.fn (.func 20) [] [])) [(.s 30)], none⟩, ⟨(some 27), .mv (.s 31), none⟩, ⟨(some 32), .ext (.s 27) 0, none⟩, ⟨(some 33), .ext (.s 27) 1, none⟩, ⟨(some 7), .mv (.s 32), none⟩, ⟨(some 8), .mv (.s 33), none⟩] none [0, 1, 2, 7, 8])
 (.seq (.reg [⟨(some 35), .mv (.s 1), none⟩, ⟨(some 36), .mv (.s 0), none⟩, ⟨(some 37), .bsl 23 1 false 2 [(.nil 26 2 true), (.nil 26 2 true)] [(0, 1, (.s 35)), (1, 1, (.s 36))], none⟩, ⟨(some 38), .call (.c (.fn (.func 20) [] [])) [(.s 37)], none⟩, ⟨(some 34), .mv (.s 38), none⟩, ⟨(some 39), .ext (.s 34) 0, none⟩, ⟨(some 40), .ext (.s 34) 1, none⟩, ⟨(some 9), .mv (.s 39), none⟩, ⟨(some 10), .mv (.s 40), none⟩] none [0, 1, 2, 7, 8, 9, 10])
 (.seq (.seq (.reg [⟨(some 41), .mv (.s 8), none⟩, ⟨(some 42), .call (.c (.fn (.func 15) [] [])) [(.s 41)], none⟩, ⟨(some 43), .mv (.s 10), none⟩, ⟨(some 44), .call (.c (.fn (.func 15) [] [])) [(.s 43)], none⟩, ⟨(some 45), .eqv true false [.i] (.s 42) (.s 44), none⟩, ⟨(some 46), .mv (.s 45), none⟩, ⟨(some 47), .mv (.s 7), some (46, false)⟩, ⟨(some 48), .mv (.s 9), some (46, false)⟩, ⟨(some 49), .call (.c (.fn (.func 16) [] [])) [(.s 47), (.s 48)], some (46, false)⟩, ⟨(some 50), .not (.s 49), some (46, false)⟩, ⟨(some 51), .pick (.s 46) (.c (.dat (.bool true))) (.s 50), none⟩] none [0, 1, 2, 7, 8, 51])
 (.cond (.s 51) (.seq (.reg [⟨(some 6), .mv (.c (.dat (.bool false))), none⟩] none [6])
 (.ret [6])) .skip))
 (.seq (.seq (.reg [⟨(some 52), .mv (.s 8), none⟩, ⟨(some 53), .call (.c (.fn (.func 15) [] [])) [(.s 52)], none⟩, ⟨(some 54), .eqv true false [.i] (.s 53) (.c (.dat (.int .i64 0))), none⟩] none [0, 1, 2, 7, 54])
 (.cond (.s 54) (.seq (.reg [⟨(some 55), .mv (.s 7), none⟩, ⟨(some 56), .len false (.s 55), none⟩, ⟨(some 57), .eqv false false [.i] (.s 56) (.c (.dat (.int .i64 0))), none⟩, ⟨(some 58), .mv (.s 57), none⟩, ⟨(some 59), .mv (.s 0), some (58, true)⟩, ⟨(some 60), .len false (.s 59), some (58, true)⟩, ⟨(some 61), .mv (.s 1), some (58, true)⟩, ⟨(some 62), .len false (.s 61), some (58, true)⟩, ⟨(some 63), .eqv true false [.i] (.s 60) (.s 62), some (58, true)⟩, ⟨(some 64), .mv (.s 63), some (58, true)⟩, ⟨(some 65), .mv (.s 0), some (64, false)⟩, ⟨(some 66), .len false (.s 65), some (64, false)⟩, ⟨(some 67), .bin .lss (.s 66) (.c (.dat (.int .i64 1))), some (64, false)⟩, ⟨(some 68), .pick (.s 64) (.c (.dat (.bool true))) (.s 67), some (58, true)⟩, ⟨(some 69), .mv (.s 68), some (58, true)⟩, ⟨(some 70), .mv (.s 0), some (69, false)⟩, ⟨(some 71), .len false (.s 70), some (69, false)⟩, ⟨(some 72), .bin .gtr (.s 71) (.c (.dat (.int .i64 7))), some (69, false)⟩, ⟨(some 73), .pick (.s 69) (.c (.dat (.bool true))) (.s 72), some (58, true)⟩, ⟨(some 74), .pick (.s 58) (.s 73) (.c (.dat (.bool false))), none⟩, ⟨(some 6), .mv (.s 74), none⟩] none [6])
 (.ret [6])) .skip))
 (.seq (.reg [⟨(some 76), .mv (.s 7), none⟩, ⟨(some 77), .mv (.s 1), none⟩, ⟨(some 78), .mv (.s 0), none⟩, ⟨(some 79), .mv (.s 7), none⟩, ⟨(some 80), .bsl 23 1 false 4 [(.nil 26 2 true), (.nil 26 2 true), (.nil 26 2 true), (.nil 26 2 true)] [(0, 1, (.s 76)), (1, 1, (.s 77)), (2, 1, (.s 78)), (3, 1, (.s 79))], none⟩, ⟨(some 81), .call (.c (.fn (.func 20) [] [])) [(.s 80)], none⟩, ⟨(some 75), .mv (.s 81), none⟩, ⟨(some 82), .ext (.s 75) 0, none⟩, ⟨(some 83), .ext (.s 75) 1, none⟩, ⟨(some 11), .mv (.s 82), none⟩, ⟨(some 12), .mv (.s 83), none⟩] none [0, 1, 2, 7, 11, 12])
 (.seq (.seq (.reg [⟨(some 84), .mv (.s 12), none⟩, ⟨(some 85), .call (.c (.fn (.func 15) [] [])) [(.s 84)], none⟩, ⟨(some 86), .eqv true false [.i] (.s 85) (.c (.dat (.int .i64 0))), none⟩, ⟨(some 87), .mv (.s 86), none⟩, ⟨(some 88), .mv (.s 11), some (87, false)⟩, ⟨(some 89), .mv (.s 7), some (87, false)⟩, ⟨(some 90), .call (.c (.fn (.func 16) [] [])) [(.s 88), (.s 89)], some (87, false)⟩, ⟨(some 91), .not (.s 90), some (87, false)⟩, ⟨(some 92), .pick (.s 87) (.c (.dat (.bool true))) (.s 91), none⟩] none [0, 1, 2, 7, 92])
 (.cond (.s 92) (.seq (.reg [⟨(some 6), .mv (.c (.dat (.bool false))), none⟩] none [6])
 (.ret [6])) .skip))
 (.seq (.reg [⟨(some 93), .mv (.s 0), none⟩, ⟨(some 94), .mv (.s 7), none⟩, ⟨(some 95), .call (.c (.fn (.func 22) [] [])) [(.s 93), (.s 94)], none⟩, ⟨(some 96), .mv (.s 1), none⟩, ⟨(some 97), .mv (.s 7), none⟩, ⟨(some 98), .call (.c (.fn (.func 22) [] [])) [(.s 96), (.s 97)], none⟩, ⟨(some 13), .mv (.s 95), none⟩, ⟨(some 14), .mv (.s 98), none⟩] none [0, 1, 2, 7, 13, 14])
 (.seq (.seq (.reg [⟨(some 99), .mv (.s 13), none⟩, ⟨(some 100), .eqv true false [.i] (.s 99) (.c (.dat (.int .i64 1))), none⟩, ⟨(some 101), .mv (.s 100), none⟩, ⟨(some 102), .mv (.s 13), some (101, true)⟩, ⟨(some 103), .eqv true false [.i] (.s 102) (.c (.dat (.int .i64 2))), some (101, true)⟩, ⟨(some 104), .pick (.s 101) (.s 103) (.c (.dat (.bool false))), none⟩, ⟨(some 105), .mv (.s 104), none⟩, ⟨(some 106), .mv (.s 14), some (105, false)⟩, ⟨(some 107), .eqv true false [.i] (.s 106) (.c (.dat (.int .i64 1))), some (105, false)⟩, ⟨(some 108), .mv (.s 107), some (105, false)⟩, ⟨(some 109), .mv (.s 14), some (108, true)⟩, ⟨(some 110), .eqv true false [.i] (.s 109) (.c (.dat (.int .i64 2))), some (108, true)⟩, ⟨(some 111), .pick (.s 108) (.s 110) (.c (.dat (.bool false))), some (105, false)⟩, ⟨(some 112), .pick (.s 105) (.c (.dat (.bool true))) (.s 111), none⟩] none [0, 1, 2, 7, 112])
 (.cond (.s 112) (.seq (.reg [⟨(some 6), .mv (.c (.dat (.bool false))), none⟩] none [6])
 (.ret [6])) .skip))
 (.seq (.reg [⟨(some 114), .mv (.s 1), none⟩, ⟨(some 115), .mv (.s 2), none⟩, ⟨(some 116), .bsl 23 1 false 2 [(.nil 26 2 true), (.nil 26 2 true)] [(0, 1, (.s 114)), (1, 1, (.s 115))], none⟩, ⟨(some 117), .call (.c (.fn (.func 20) [] [])) [(.s 116)], none⟩, ⟨(some 113), .mv (.s 117), none⟩, ⟨(some 118), .ext (.s 113) 0, none⟩, ⟨(some 119), .ext (.s 113) 1, none⟩, ⟨(some 15), .mv (.s 118), none⟩, ⟨(some 16), .mv (.s 119), none⟩] none [0, 1, 2, 7, 15, 16])
 (.seq (.reg [⟨(some 121), .mv (.s 0), none⟩, ⟨(some 122), .mv (.s 1), none⟩, ⟨(some 123), .mv (.s 2), none⟩, ⟨(some 124), .bsl 23 1 false 3 [(.nil 26 2 true), (.nil 26 2 true), (.nil 26 2 true)] [(0, 1, (.s 121)), (1, 1, (.s 122)), (2, 1, (.s 123))], none⟩, ⟨(some 125), .call (.c (.fn (.func 20) [] [])) [(.s 124)], none⟩, ⟨(some 120), .mv (.s 125), none⟩, ⟨(some 126), .ext (.s 120) 0, none⟩, ⟨(some 127), .ext (.s 120) 1, none⟩, ⟨(some 17), .mv (.s 126), none⟩, ⟨(some 18), .mv (.s 127), none⟩] none [0, 1, 2, 7, 15, 16, 17, 18])
 (.seq (.reg [⟨(some 129), .mv (.s 7), none⟩, ⟨(some 130), .mv (.s 2), none⟩, ⟨(some 131), .bsl 23 1 false 2 [(.nil 26 2 true), (.nil 26 2 true)] [(0, 1, (.s 129)), (1, 1, (.s 130))], none⟩, ⟨(some 132), .call (.c (.fn (.func 20) [] [])) [(.s 131)], none⟩, ⟨(some 128), .mv (.s 132), none⟩, ⟨(some 133), .ext (.s 128) 0, none⟩, ⟨(some 134), .ext (.s 128) 1, none⟩, ⟨(some 19), .mv (.s 133), none⟩, ⟨(some 20), .mv (.s 134), none⟩] none [0, 1, 2, 7, 15, 16, 17, 18, 19, 20])
 (.seq (.reg [⟨(some 136), .mv (.s 0), none⟩, ⟨(some 137), .mv (.s 15), none⟩, ⟨(some 138), .bsl 23 1 false 2 [(.nil 26 2 true), (.nil 26 2 true)] [(0, 1, (.s 136)), (1, 1, (.s 137))], none⟩, ⟨(some 139), .call (.c (.fn (.func 20) [] [])) [(.s 138)], none⟩, ⟨(some 135), .mv (.s 139), none⟩, ⟨(some 140), .ext (.s 135) 0, none⟩, ⟨(some 141), .ext (.s 135) 1, none⟩, ⟨(some 21), .mv (.s 140), none⟩, ⟨(some 22), .mv (.s 141), none⟩] none [0, 1, 2, 7, 16, 17, 18, 19, 20, 21, 22])
 (.seq (.seq (.reg [⟨(some 142), .mv (.s 2), none⟩, ⟨(some 143), .len false (.s 142), none⟩, ⟨(some 144), .mv (.s 0), none⟩, ⟨(some 145), .len false (.s 144), none⟩, ⟨(some 146), .eqv true false [.i] (.s 143) (.s 145), none⟩] none [0, 1, 2, 7, 16, 17, 18, 19, 20, 21, 22, 146])
 (.cond (.s 146) (.seq (.reg [⟨(some 147), .mv (.s 16), none⟩, ⟨(some 148), .call (.c (.fn (.func 15) [] [])) [(.s 147)], none⟩, ⟨(some 149), .eqv true false [.i] (.s 148) (.c (.dat (.int .i64 0))), none⟩, ⟨(some 150), .mv (.s 149), none⟩, ⟨(some 151), .mv (.s 18), some (150, true)⟩, ⟨(some 152), .call (.c (.fn (.func 15) [] [])) [(.s 151)], some (150, true)⟩, ⟨(some 153), .eqv true false [.i] (.s 152) (.c (.dat (.int .i64 0))), some (150, true)⟩, ⟨(some 154), .pick (.s 150) (.s 153) (.c (.dat (.bool false))), none⟩, ⟨(some 6), .mv (.s 154), none⟩] none [6])
 (.ret [6])) .skip))
 (.seq (.seq (.reg [⟨(some 155), .mv (.s 16), none⟩, ⟨(some 156), .call (.c (.fn (.func 15) [] [])) [(.s 155)], none⟩, ⟨(some 157), .mv (.s 18), none⟩, ⟨(some 158), .call (.c (.fn (.func 15) [] [])) [(.s 157)], none⟩, ⟨(some 159), .bin .add (.s 156) (.s 158), none⟩, ⟨(some 160), .mv (.s 20), none⟩, ⟨(some 161), .call (.c (.fn (.func 15) [] [])) [(.s 160)], none⟩, ⟨(some 162), .bin .add (.s 159) (.s 161), none⟩, ⟨(some 163), .mv (.s 22), none⟩, ⟨(some 164), .call (.c (.fn (.func 15) [] [])) [(.s 163)], none⟩, ⟨(some 165), .bin .add (.s 162) (.s 164), none⟩, ⟨(some 166), .eqv true false [.i] (.s 165) (.c (.dat (.int .i64 0))), none⟩, ⟨(some 167), .mv (.s 166), none⟩, ⟨(some 168), .mv (.s 17), some (167, false)⟩, ⟨(some 169), .mv (.s 19), some (167, false)⟩, ⟨(some 170), .call (.c (.fn (.func 16) [] [])) [(.s 168), (.s 169)], some (167, false)⟩, ⟨(some 171), .not (.s 170), some (167, false)⟩, ⟨(some 172), .pick (.s 167) (.c (.dat (.bool true))) (.s 171), none⟩, ⟨(some 173), .mv (.s 172), none⟩, ⟨(some 174), .mv (.s 17), some (173, false)⟩, ⟨(some 175), .mv (.s 21), some (173, false)⟩, ⟨(some 176), .call (.c (.fn (.func 16) [] [])) [(.s 174), (.s 175)], some (173, false)⟩, ⟨(some 177), .not (.s 176), some (173, false)⟩, ⟨(some 178), .pick (.s 173) (.c (.dat (.bool true))) (.s 177), none⟩] none [0, 1, 2, 7, 178])
 (.cond (.s 178) (.seq (.reg [⟨(some 6), .mv (.c (.dat (.bool false))), none⟩] none [6])
 (.ret [6])) .skip))
 (.seq (.reg [⟨(some 179), .mv (.s 2), none⟩, ⟨(some 180), .mv (.s 0), none⟩, ⟨(some 181), .call (.c (.fn (.func 22) [] [])) [(.s 179), (.s 180)], none⟩, ⟨(some 182), .mv (.s 2), none⟩, ⟨(some 183), .mv (.s 1), none⟩, ⟨(some 184), .call (.c (.fn (.func 22) [] [])) [(.s 182), (.s 183)], none⟩, ⟨(some 13), .mv (.s 181), none⟩, ⟨(some 14), .mv (.s 184), none⟩] none [2, 7, 13, 14])
 (.seq (.reg [⟨(some 185), .mv (.s 2), none⟩, ⟨(some 186), .mv (.s 7), none⟩, ⟨(some 187), .call (.c (.fn (.func 22) [] [])) [(.s 185), (.s 186)], none⟩, ⟨(some 23), .mv (.s 187), none⟩] none [13, 14, 23])
 (.seq (.reg [⟨(some 188), .mv (.s 13), none⟩, ⟨(some 189), .eqv false false [.i] (.s 188) (.c (.dat (.int .i64 1))), none⟩, ⟨(some 190), .mv (.s 189), none⟩, ⟨(some 191), .mv (.s 13), some (190, false)⟩, ⟨(some 192), .eqv false false [.i] (.s 191) (.c (.dat (.int .i64 3))), some (190, false)⟩, ⟨(some 193), .pick (.s 190) (.c (.dat (.bool true))) (.s 192), none⟩, ⟨(some 194), .mv (.s 193), none⟩, ⟨(some 195), .mv (.s 14), some (194, true)⟩, ⟨(some 196), .eqv false false [.i] (.s 195) (.c (.dat (.int .i64 1))), some (194, true)⟩, ⟨(some 197), .mv (.s 196), some (194, true)⟩, ⟨(some 198), .mv (.s 14), some (197, false)⟩, ⟨(some 199), .eqv false false [.i] (.s 198) (.c (.dat (.int .i64 3))), some (197, false)⟩, ⟨(some 200), .pick (.s 197) (.c (.dat (.bool true))) (.s 199), some (194, true)⟩, ⟨(some 201), .pick (.s 194) (.s 200) (.c (.dat (.bool false))), none⟩, ⟨(some 24), .mv (.s 201), none⟩] none [23, 24])
 (.seq (.reg [⟨(some 202), .mv (.s 24), none⟩, ⟨(some 203), .mv (.s 23), none⟩, ⟨(some 204), .eqv false false [.i] (.s 203) (.c (.dat (.int .i64 1))), none⟩, ⟨(some 205), .mv (.s 204), none⟩, ⟨(some 206), .mv (.s 23), some (205, false)⟩, ⟨(some 207), .eqv false false [.i] (.s 206) (.c (.dat (.int .i64 3))), some (205, false)⟩, ⟨(some 208), .pick (.s 205) (.c (.dat (.bool true))) (.s 207), none⟩, ⟨(some 209), .eqv false false [.b] (.s 202) (.s 208), none⟩, ⟨(some 6), .mv (.s 209), none⟩] none [6])
 (.ret [6])))))))))))))))))))))⟩

-- amnesia/amnesialaw03.VectorPartial
def xf8 : XFunc := ⟨3, [.tmp 6], (.seq (.reg [⟨(some 6), .mv (.c (.dat (.bool false))), none⟩] none [0, 1, 2])
 (.seq (.seq (.reg [⟨(some 11), .call (.c (.fn (.func 32) [] [])) [], none⟩, ⟨(some 12), .not (.s 11), none⟩] none [0, 1, 2, 12])
 (.cond (.s 12) (.seq (.reg [⟨(some 6), .mv (.c (.dat (.bool false))), none⟩] none [6])
 (.ret [6])) .skip))
 (.seq (.reg [⟨(some 13), .mv (.s 0), none⟩, ⟨(some 14), .mv (.s 1), none⟩, ⟨(some 15), .call (.c (.fn (.func 22) [] [])) [(.s 13), (.s 14)], none⟩, ⟨(some 16), .mv (.s 1), none⟩, ⟨(some 17), .mv (.s 0), none⟩, ⟨(some 18), .call (.c (.fn (.func 22) [] [])) [(.s 16), (.s 17)], none⟩, ⟨(some 7), .mv (.s 15), none⟩, ⟨(some 8), .mv (.s 18), none⟩] none [0, 1, 2, 7, 8])
 (.seq (.reg [⟨(some 19), .mv (.s 1), none⟩, ⟨(some 20), .mv (.s 2), none⟩, ⟨(some 21), .call (.c (.fn (.func 22) [] [])) [(.s 19), (.s 20)], none⟩, ⟨(some 22), .mv (.s 0), none⟩, ⟨(some 23), .mv (.s 2), none⟩, ⟨(some 24), .call (.c (.fn (.func 22) [] [])) [(.s 22), (.s 23)], none⟩, ⟨(some 9), .mv (.s 21), none⟩, ⟨(some 10), .mv (.s 24), none⟩] none [0, 1, 7, 8, 9, 10])
 (.seq (.seq (.reg [⟨(some 25), .mv (.s 7), none⟩, ⟨(some 26), .eqv false false [.i] (.s 25) (.c (.dat (.int .i64 0))), none⟩, ⟨(some 27), .mv (.s 0), none⟩, ⟨(some 28), .len false (.s 27), none⟩, ⟨(some 29), .mv (.s 1), none⟩, ⟨(some 30), .len false (.s 29), none⟩, ⟨(some 31), .eqv true false [.i] (.s 28) (.s 30), none⟩, ⟨(some 32), .eqv true false [.b] (.s 26) (.s 31), none⟩, ⟨(some 33), .mv (.s 32), none⟩, ⟨(some 34), .mv (.s 7), some (33, false)⟩, ⟨(some 35), .eqv false false [.i] (.s 34) (.c (.dat (.int .i64 1))), some (33, false)⟩, ⟨(some 36), .mv (.s 0), some (33, false)⟩, ⟨(some 37), .mv (.s 1), some (33, false)⟩, ⟨(some 38), .call (.c (.fn (.func 16) [] [])) [(.s 36), (.s 37)], some (33, false)⟩, ⟨(some 39), .eqv true false [.b] (.s 35) (.s 38), some (33, false)⟩, ⟨(some 40), .pick (.s 33) (.c (.dat (.bool true))) (.s 39), none⟩, ⟨(some 41), .mv (.s 40), none⟩, ⟨(some 42), .mv (.s 0), some (41, false)⟩, ⟨(some 43), .mv (.s 0), some (41, false)⟩, ⟨(some 44), .call (.c (.fn (.func 22) [] [])) [(.s 42), (.s 43)], some (41, false)⟩, ⟨(some 45), .eqv true false [.i] (.s 44) (.c (.dat (.int .i64 1))), some (41, false)⟩, ⟨(some 46), .pick (.s 41) (.c (.dat (.bool true))) (.s 45), none⟩] none [7, 8, 9, 10, 46])
 (.cond (.s 46) (.seq (.reg [⟨(some 6), .mv (.c (.dat (.bool false))), none⟩] none [6])
 (.ret [6])) .skip))
 (.seq (.seq (.reg [⟨(some 47), .mv (.s 7), none⟩, ⟨(some 48), .eqv false false [.i] (.s 47) (.c (.dat (.int .i64 2))), none⟩, ⟨(some 49), .mv (.s 8), none⟩, ⟨(some 50), .eqv false false [.i] (.s 49) (.c (.dat (.int .i64 3))), none⟩, ⟨(some 51), .eqv true false [.b] (.s 48) (.s 50), none⟩, ⟨(some 52), .mv (.s 51), none⟩, ⟨(some 53), .mv (.s 7), some (52, false)⟩, ⟨(some 54), .eqv false false [.i] (.s 53) (.c (.dat (.int .i64 3))), some (52, false)⟩, ⟨(some 55), .mv (.s 8), some (52, false)⟩, ⟨(some 56), .eqv false false [.i] (.s 55) (.c (.dat (.int .i64 2))), some (52, false)⟩, ⟨(some 57), .eqv true false [.b] (.s 54) (.s 56), some (52, false)⟩, ⟨(some 58), .pick (.s 52) (.c (.dat (.bool true))) (.s 57), none⟩, ⟨(some 59), .mv (.s 58), none⟩, ⟨(some 60), .mv (.s 7), some (59, false)⟩, ⟨(some 61), .eqv false false [.i] (.s 60) (.c (.dat (.int .i64 4))), some (59, false)⟩, ⟨(some 62), .mv (.s 8), some (59, false)⟩, ⟨(some 63), .eqv false false [.i] (.s 62) (.c (.dat (.int .i64 4))), some (59, false)⟩, ⟨(some 64), .eqv true false [.b] (.s 61) (.s 63), some (59, false)⟩, ⟨(some 65), .pick (.s 59) (.c (.dat (.bool true))) (.s 64), none⟩] none [7, 9, 10, 65])
 (.cond (.s 65) (.seq (.reg [⟨(some 6), .mv (.c (.dat (.bool false))), none⟩] none [6])
 (.ret [6])) .skip))
 (.seq (.reg [⟨(some 66), .mv (.s 7), none⟩, ⟨(some 67), .eqv true false [.i] (.s 66) (.c (.dat (.int .i64 2))), none⟩, ⟨(some 68), .mv (.s 67), none⟩, ⟨(some 69), .mv (.s 9), some (68, false)⟩, ⟨(some 70), .eqv true false [.i] (.s 69) (.c (.dat (.int .i64 2))), some (68, false)⟩, ⟨(some 71), .mv (.s 70), some (68, false)⟩, ⟨(some 72), .mv (.s 9), some (71, true)⟩, ⟨(some 73), .eqv true false [.i] (.s 72) (.c (.dat (.int .i64 1))), some (71, true)⟩, ⟨(some 74), .pick (.s 71) (.s 73) (.c (.dat (.bool false))), some (68, false)⟩, ⟨(some 75), .pick (.s 68) (.c (.dat (.bool true))) (.s 74), none⟩, ⟨(some 76), .mv (.s 75), none⟩, ⟨(some 77), .mv (.s 10), some (76, false)⟩, ⟨(some 78), .eqv false false [.i] (.s 77) (.c (.dat (.int .i64 2))), some (76, false)⟩, ⟨(some 79), .pick (.s 76) (.c (.dat (.bool true))) (.s 78), none⟩, ⟨(some 6), .mv (.s 79), none⟩] none [6])
 (.ret [6]))))))))⟩

-- amnesia/amnesialaw03.VectorOwn
def xf9_k0 : List (Nat × Option (Nat × Nat × Bool)) := [(0, none), (2, none), (7, none), (9, none), (10, none), (11, some (26, 2, true)), (12, some (26, 2, true)), (13, none)]
def xf9_b0 : XCode := (.seq (.seq (.reg [⟨(some 42), .mv (.s 13), none⟩, ⟨(some 43), .bin .lss (.s 42) (.c (.dat (.int .i64 3))), none⟩] none [0, 2, 7, 9, 10, 11, 12, 13, 43])
 (.cond (.s 43) .skip (.exit 0 [0, 2, 7, 9, 10])))
 (.seq (.block 1 (.seq (.reg [⟨(some 46), .mv (.s 11), none⟩, ⟨(some 47), .mv (.s 12), none⟩, ⟨(some 14), .mv (.s 46), none⟩, ⟨(some 15), .mv (.s 47), none⟩] none [0, 2, 7, 9, 10, 11, 12, 13, 14, 15])
 (.seq (.seq (.reg [⟨(some 48), .mv (.s 13), none⟩, ⟨(some 49), .eqv false false [.i] (.s 48) (.c (.dat (.int .i64 1))), none⟩] none [0, 2, 7, 9, 10, 11, 12, 13, 14, 15, 49])
 (.cond (.s 49) (.reg [⟨(some 50), .mv (.s 12), none⟩, ⟨(some 51), .mv (.s 11), none⟩, ⟨(some 14), .mv (.s 50), none⟩, ⟨(some 15), .mv (.s 51), none⟩] none [0, 2, 7, 9, 10, 11, 12, 13, 14, 15]) .skip))
 (.seq (.reg [⟨(some 53), .mv (.s 14), none⟩, ⟨(some 54), .len false (.s 53), none⟩, ⟨(some 55), .call (.c (.fn (.func 11) [] [])) [(.s 54)], none⟩, ⟨(some 52), .mv (.s 55), none⟩, ⟨(some 56), .ext (.s 52) 0, none⟩, ⟨(some 57), .ext (.s 52) 1, none⟩, ⟨(some 16), .mv (.s 56), none⟩, ⟨(some 17), .mv (.s 57), none⟩] none [0, 2, 7, 9, 10, 11, 12, 13, 14, 15, 16])
 (.seq (.reg [⟨(some 59), .mv (.s 14), none⟩, ⟨(some 60), .mv (.s 2), none⟩, ⟨(some 61), .load (some 2) (.s 7), none⟩, ⟨(some 62), .call (.c (.fn (.func 13) [] [])) [(.s 59), (.s 60), (.s 61)], none⟩, ⟨(some 58), .mv (.s 62), none⟩, ⟨(some 63), .ext (.s 58) 0, none⟩, ⟨(some 64), .ext (.s 58) 1, none⟩, ⟨(some 18), .mv (.s 63), none⟩, ⟨(some 19), .mv (.s 64), none⟩] none [0, 2, 7, 9, 10, 11, 12, 13, 14, 15, 16, 18])
 (.seq (.reg [⟨(some 66), .mv (.s 14), none⟩, ⟨(some 67), .bsl 23 1 false 1 [(.nil 26 2 true)] [(0, 1, (.s 66))], none⟩, ⟨(some 68), .call (.c (.fn (.func 20) [] [])) [(.s 67)], none⟩, ⟨(some 65), .mv (.s 68), none⟩, ⟨(some 69), .ext (.s 65) 0, none⟩, ⟨(some 70), .ext (.s 65) 1, none⟩, ⟨(some 20), .mv (.s 69), none⟩, ⟨(some 21), .mv (.s 70), none⟩] none [0, 2, 7, 9, 10, 11, 12, 13, 14, 15, 16, 18, 20])
 (.seq (.reg [⟨(some 72), .mv (.s 14), none⟩, ⟨(some 73), .mv (.s 15), none⟩, ⟨(some 74), .bsl 23 1 false 2 [(.nil 26 2 true), (.nil 26 2 true)] [(0, 1, (.s 72)), (1, 1, (.s 73))], none⟩, ⟨(some 75), .call (.c (.fn (.func 20) [] [])) [(.s 74)], none⟩, ⟨(some 71), .mv (.s 75), none⟩, ⟨(some 76), .ext (.s 71) 0, none⟩, ⟨(some 77), .ext (.s 71) 1, none⟩, ⟨(some 22), .mv (.s 76), none⟩, ⟨(some 23), .mv (.s 77), none⟩] none [0, 2, 7, 9, 10, 11, 12, 13, 14, 15, 16, 18, 20, 22])
 (.seq (.reg [⟨(some 79), .mv (.s 2), none⟩, ⟨(some 80), .mv (.s 14), none⟩, ⟨(some 81), .build [(.dat (.int .i64 0)), (.nil 26 2 true)] [(0, 1, (.s 79)), (1, 1, (.s 80))], none⟩, ⟨(some 82), .mv (.s 15), none⟩, ⟨(some 83), .build [(.dat (.int .i64 0)), (.nil 26 2 true)] [(0, 1, (.c (.dat (.int .i64 0)))), (1, 1, (.s 82))], none⟩, ⟨(some 84), .bsl 56 2 false 2 [(.dat (.int .i64 0)), (.nil 26 2 true), (.dat (.int .i64 0)), (.nil 26 2 true)] [(0, 2, (.s 81)), (2, 2, (.s 83))], none⟩, ⟨(some 85), .call (.c (.fn (.func 27) [] [])) [(.s 84)], none⟩, ⟨(some 78), .mv (.s 85), none⟩, ⟨(some 86), .ext (.s 78) 0, none⟩, ⟨(some 87), .ext (.s 78) 1, none⟩, ⟨(some 24), .mv (.s 86), none⟩, ⟨(some 25), .mv (.s 87), none⟩] none [0, 2, 7, 9, 10, 11, 12, 13, 16, 18, 20, 22, 24])
 (.seq (.reg [⟨(some 88), .mv (.s 16), none⟩, ⟨(some 89), .call (.c (.fn (.func 34) [] [])) [(.s 10), (.s 88)], none⟩] none [0, 2, 7, 9, 10, 11, 12, 13, 18, 20, 22, 24])
 (.seq (.reg [⟨(some 90), .mv (.s 18), none⟩, ⟨(some 91), .call (.c (.fn (.func 34) [] [])) [(.s 10), (.s 90)], none⟩] none [0, 2, 7, 9, 10, 11, 12, 13, 20, 22, 24])
 (.seq (.reg [⟨(some 92), .mv (.s 20), none⟩, ⟨(some 93), .call (.c (.fn (.func 34) [] [])) [(.s 10), (.s 92)], none⟩] none [0, 2, 7, 9, 10, 11, 12, 13, 22, 24])
 (.seq (.reg [⟨(some 94), .mv (.s 22), none⟩, ⟨(some 95), .call (.c (.fn (.func 34) [] [])) [(.s 10), (.s 94)], none⟩] none [0, 2, 7, 9, 10, 11, 12, 13, 24])
 (.reg [⟨(some 96), .mv (.s 24), none⟩, ⟨(some 97), .call (.c (.fn (.func 35) [] [])) [(.s 10), (.s 96)], none⟩] none [0, 2, 7, 9, 10, 11, 12, 13])))))))))))))
 (.reg [⟨(some 44), .mv (.s 13), none⟩, ⟨(some 45), .bin .add (.s 44) (.c (.dat (.int .i64 1))), none⟩, ⟨(some 13), .mv (.s 45), none⟩] none [0, 2, 7, 9, 10, 11, 12, 13])))
def xf9_k1 : List (Nat × Option (Nat × Nat × Bool)) := [(2, none), (7, none), (26, some (26, 2, true)), (27, none)]
def xf9_b1 : XCode := (.seq (.seq (.reg [⟨(some 114), .mv (.s 27), none⟩, ⟨(some 115), .mv (.s 26), none⟩, ⟨(some 116), .len false (.s 115), none⟩, ⟨(some 117), .bin .lss (.s 114) (.s 116), none⟩] none [2, 7, 26, 27, 117])
 (.cond (.s 117) .skip (.exit 2 [2, 7, 26])))
 (.seq (.block 3 (.reg [⟨(some 120), .mv (.s 26), none⟩, ⟨(some 121), .mv (.s 27), none⟩, ⟨(some 122), .mv (.s 26), none⟩, ⟨(some 123), .mv (.s 27), none⟩, ⟨(some 124), .iadr 2 (.s 122) (.s 123), none⟩, ⟨(some 125), .fadr 1 (.s 124), none⟩, ⟨(some 126), .load none (.s 125), none⟩, ⟨(some 127), .mv (.s 26), none⟩, ⟨(some 128), .mv (.s 27), none⟩, ⟨(some 129), .iadr 2 (.s 127) (.s 128), none⟩, ⟨(some 130), .fadr 0 (.s 129), none⟩, ⟨(some 131), .load none (.s 130), none⟩, ⟨(some 132), .bin .add (.s 131) (.c (.dat (.int .u64 1))), none⟩, ⟨(some 133), .build [(.dat (.int .u64 0)), (.dat (.int .u64 0))] [(0, 1, (.s 126)), (1, 1, (.s 132))], none⟩, ⟨(some 134), .iadr 2 (.s 120) (.s 121), none⟩, ⟨none, .store 2 (.s 134) (.s 133), none⟩] (some []) [2, 7, 26, 27]))
 (.reg [⟨(some 118), .mv (.s 27), none⟩, ⟨(some 119), .bin .add (.s 118) (.c (.dat (.int .i64 1))), none⟩, ⟨(some 27), .mv (.s 119), none⟩] none [2, 7, 26, 27])))
def xf9 : XFunc := ⟨4, [.tmp 8], (.seq (.reg [⟨(some 7), .box (.s 3), none⟩, ⟨(some 8), .mv (.c (.dat (.bool false))), none⟩] none [0, 1, 2, 7])
 (.seq (.seq (.reg [⟨(some 36), .call (.c (.fn (.func 32) [] [])) [], none⟩, ⟨(some 37), .not (.s 36), none⟩] none [0, 1, 2, 7, 37])
 (.cond (.s 37) (.seq (.reg [⟨(some 8), .mv (.c (.dat (.bool false))), none⟩] none [8])
 (.ret [8])) .skip))
 (.seq (.reg [⟨(some 9), .alloc [(.nil 88 1 false), (.nil 88 1 false), (.nil 23 1 false), (.nil 23 1 false), (.nil 91 1 false), (.nil 91 1 false), (.nil 62 1 false), (.nil 62 1 false), (.nil 97 12 false), (.nil 97 12 false)], none⟩] none [0, 1, 2, 7, 9])
 (.seq (.reg [⟨(some 10), .alloc [(.nil 88 1 false), (.nil 62 1 false), (.nil 23 1 false), (.nil 91 1 false), (.nil 119 1 false), (.nil 123 1 false), (.nil 129 1 false), (.nil 131 1 false), (.nil 92 1 false), (.nil 93 1 false)], none⟩] none [0, 1, 2, 7, 9, 10])
 (.seq (.reg [⟨(some 38), .mv (.s 0), none⟩, ⟨(some 39), .call (.c (.fn (.func 10) [] [])) [(.s 9), (.s 38)], none⟩, ⟨(some 40), .mv (.s 1), none⟩, ⟨(some 41), .call (.c (.fn (.func 10) [] [])) [(.s 9), (.s 40)], none⟩, ⟨(some 11), .mv (.s 39), none⟩, ⟨(some 12), .mv (.s 41), none⟩] none [0, 2, 7, 9, 10, 11, 12])
 (.seq (.seq (.reg [⟨(some 13), .mv (.c (.dat (.int .i64 0))), none⟩] none [0, 2, 7, 9, 10, 11, 12, 13])
 (.block 0 (.loop xf9_k0 xf9_b0)))
 (.seq (.seq (.reg [⟨(some 98), .call (.c (.fn (.func 36) [] [])) [(.s 10)], none⟩, ⟨(some 99), .not (.s 98), none⟩, ⟨(some 100), .mv (.s 99), none⟩, ⟨(some 101), .call (.c (.fn (.func 19) [] [])) [(.s 9)], some (100, false)⟩, ⟨(some 102), .not (.s 101), some (100, false)⟩, ⟨(some 103), .pick (.s 100) (.c (.dat (.bool true))) (.s 102), none⟩] none [0, 2, 7, 103])
 (.cond (.s 103) (.seq (.reg [⟨(some 8), .mv (.c (.dat (.bool false))), none⟩] none [8])
 (.ret [8])) .skip))
 (.seq (.reg [⟨(some 104), .mv (.s 0), none⟩, ⟨(some 105), .call (.c (.fn (.func 37) [] [])) [(.s 104)], none⟩, ⟨(some 26), .mv (.s 105), none⟩] none [2, 7, 26])
 (.seq (.reg [⟨(some 106), .mv (.s 26), none⟩, ⟨(some 107), .mv (.s 26), none⟩, ⟨(some 108), .bsl 23 1 false 2 [(.nil 26 2 true), (.nil 26 2 true)] [(0, 1, (.s 106)), (1, 1, (.s 107))], none⟩, ⟨(some 109), .call (.c (.fn (.func 20) [] [])) [(.s 108)], none⟩] none [2, 7, 26])
 (.seq (.reg [⟨(some 110), .mv (.s 26), none⟩, ⟨(some 111), .mv (.s 2), none⟩, ⟨(some 112), .load (some 2) (.s 7), none⟩, ⟨(some 113), .call (.c (.fn (.func 13) [] [])) [(.s 110), (.s 111), (.s 112)], none⟩] none [2, 7, 26])
 (.seq (.seq (.reg [⟨(some 27), .mv (.c (.dat (.int .i64 0))), none⟩] none [2, 7, 26, 27])
 (.block 2 (.loop xf9_k1 xf9_b1)))
 (.seq (.reg [⟨(some 136), .mv (.s 26), none⟩, ⟨(some 137), .mv (.s 26), none⟩, ⟨(some 138), .bsl 23 1 false 2 [(.nil 26 2 true), (.nil 26 2 true)] [(0, 1, (.s 136)), (1, 1, (.s 137))], none⟩, ⟨(some 139), .call (.c (.fn (.func 20) [] [])) [(.s 138)], none⟩, ⟨(some 135), .mv (.s 139), none⟩, ⟨(some 140), .ext (.s 135) 0, none⟩, ⟨(some 141), .ext (.s 135) 1, none⟩, ⟨(some 28), .mv (.s 140), none⟩, ⟨(some 29), .mv (.s 141), none⟩] none [2, 7, 26, 28, 29])
 (.seq (.reg [⟨(some 143), .mv (.s 26), none⟩, ⟨(some 144), .mv (.s 26), none⟩, ⟨(some 145), .bsl 23 1 false 2 [(.nil 26 2 true), (.nil 26 2 true)] [(0, 1, (.s 143)), (1, 1, (.s 144))], none⟩, ⟨(some 146), .call (.c (.fn (.func 21) [] [])) [(.s 145)], none⟩, ⟨(some 142), .mv (.s 146), none⟩, ⟨(some 147), .ext (.s 142) 0, none⟩, ⟨(some 148), .ext (.s 142) 1, none⟩, ⟨(some 30), .mv (.s 147), none⟩, ⟨(some 31), .mv (.s 148), none⟩] none [2, 7, 26, 28, 29, 30, 31])
 (.seq (.reg [⟨(some 150), .mv (.s 26), none⟩, ⟨(some 151), .mv (.s 2), none⟩, ⟨(some 152), .load (some 2) (.s 7), none⟩, ⟨(some 153), .call (.c (.fn (.func 13) [] [])) [(.s 150), (.s 151), (.s 152)], none⟩, ⟨(some 149), .mv (.s 153), none⟩, ⟨(some 154), .ext (.s 149) 0, none⟩, ⟨(some 155), .ext (.s 149) 1, none⟩, ⟨(some 32), .mv (.s 154), none⟩, ⟨(some 33), .mv (.s 155), none⟩] none [2, 7, 26, 28, 29, 30, 31, 32, 33])
 (.seq (.reg [⟨(some 157), .mv (.s 26), none⟩, ⟨(some 158), .mv (.s 2), none⟩, ⟨(some 159), .load (some 2) (.s 7), none⟩, ⟨(some 160), .call (.c (.fn (.func 14) [] [])) [(.s 157), (.s 158), (.s 159)], none⟩, ⟨(some 156), .mv (.s 160), none⟩, ⟨(some 161), .ext (.s 156) 0, none⟩, ⟨(some 162), .ext (.s 156) 1, none⟩, ⟨(some 34), .mv (.s 161), none⟩, ⟨(some 35), .mv (.s 162), none⟩] none [28, 29, 30, 31, 32, 33, 34, 35])
 (.seq (.reg [⟨(some 163), .mv (.s 29), none⟩, ⟨(some 164), .call (.c (.fn (.func 15) [] [])) [(.s 163)], none⟩, ⟨(some 165), .mv (.s 31), none⟩, ⟨(some 166), .eqv false false [.i] (.s 164) (.s 165), none⟩, ⟨(some 167), .mv (.s 166), none⟩, ⟨(some 168), .mv (.s 28), some (167, true)⟩, ⟨(some 169), .mv (.s 30), some (167, true)⟩, ⟨(some 170), .call (.c (.fn (.func 16) [] [])) [(.s 168), (.s 169)], some (167, true)⟩, ⟨(some 171), .pick (.s 167) (.s 170) (.c (.dat (.bool false))), none⟩, ⟨(some 172), .mv (.s 171), none⟩, ⟨(some 173), .mv (.s 33), some (172, true)⟩, ⟨(some 174), .call (.c (.fn (.func 15) [] [])) [(.s 173)], some (172, true)⟩, ⟨(some 175), .mv (.s 35), some (172, true)⟩, ⟨(some 176), .eqv false false [.i] (.s 174) (.s 175), some (172, true)⟩, ⟨(some 177), .pick (.s 172) (.s 176) (.c (.dat (.bool false))), none⟩, ⟨(some 178), .mv (.s 177), none⟩, ⟨(some 179), .mv (.s 32), some (178, true)⟩, ⟨(some 180), .mv (.s 34), some (178, true)⟩, ⟨(some 181), .call (.c (.fn (.func 16) [] [])) [(.s 179), (.s 180)], some (178, true)⟩, ⟨(some 182), .pick (.s 178) (.s 181) (.c (.dat (.bool false))), none⟩, ⟨(some 8), .mv (.s 182), none⟩] none [8])
 (.ret [8])))))))))))))))))⟩

-- (*amnesia/amnesiaplain.Given).Vector
def xf10 : XFunc := ⟨2, [.tmp 4], (.seq (.reg [⟨(some 4), .mv (.c (.nil 26 2 true)), none⟩] none [0, 1])
 (.seq (.reg [⟨(some 6), .mv (.s 1), none⟩, ⟨(some 7), .call (.c (.fn (.func 37) [] [])) [(.s 6)], none⟩, ⟨(some 8), .build [(.dat (.int .u64 0)), (.dat (.int .u64 0))] [(0, 1, (.c (.dat (.int .u64 77)))), (1, 1, (.c (.dat (.int .u64 88))))], none⟩, ⟨(some 9), .bsl 26 2 true 1 [(.dat (.int .u64 0)), (.dat (.int .u64 0))] [(0, 2, (.s 8))], none⟩, ⟨(some 10), .app 26 2 16 true (.s 7) (.s 9), none⟩, ⟨(some 5), .mv (.s 10), none⟩] none [0, 1, 5])
 (.seq (.reg [⟨(some 11), .mv (.s 0), none⟩, ⟨(some 12), .mv (.s 0), none⟩, ⟨(some 13), .nilchk (.s 12), none⟩, ⟨(some 14), .fadr 2 (.s 13), none⟩, ⟨(some 15), .load none (.s 14), none⟩, ⟨(some 16), .mv (.s 5), none⟩, ⟨(some 17), .bsl 23 1 false 1 [(.nil 26 2 true)] [(0, 1, (.s 16))], none⟩, ⟨(some 18), .app 23 1 24 false (.s 15) (.s 17), none⟩, ⟨(some 19), .nilchk (.s 11), none⟩, ⟨(some 20), .fadr 2 (.s 19), none⟩, ⟨none, .store 1 (.s 20) (.s 18), none⟩] none [0, 1, 5])
 (.seq (.reg [⟨(some 21), .mv (.s 0), none⟩, ⟨(some 22), .mv (.s 0), none⟩, ⟨(some 23), .nilchk (.s 22), none⟩, ⟨(some 24), .fadr 3 (.s 23), none⟩, ⟨(some 25), .load none (.s 24), none⟩, ⟨(some 26), .mv (.s 5), none⟩, ⟨(some 27), .call (.c (.fn (.func 37) [] [])) [(.s 26)], none⟩, ⟨(some 28), .bsl 23 1 false 1 [(.nil 26 2 true)] [(0, 1, (.s 27))], none⟩, ⟨(some 29), .app 23 1 24 false (.s 25) (.s 28), none⟩, ⟨(some 30), .nilchk (.s 21), none⟩, ⟨(some 31), .fadr 3 (.s 30), none⟩, ⟨none, .store 1 (.s 31) (.s 29), none⟩] (some [(4, 6), (4, 7)]) [1, 5])
 (.seq (.reg [⟨(some 32), .mv (.s 5), none⟩, ⟨(some 33), .mv (.s 1), none⟩, ⟨(some 34), .len false (.s 33), none⟩, ⟨(some 35), .slice 2 (.s 32) none (some (.s 34)), none⟩, ⟨(some 4), .mv (.s 35), none⟩] none [4])
 (.ret [4]))))))⟩

-- amnesia/vector.New
def xf11 : XFunc := ⟨1, [.tmp 2, .tmp 3], (.seq (.reg [⟨(some 2), .mv (.c (.nil 26 2 true)), none⟩, ⟨(some 3), .mv (.c (.dat (.int .i64 0))), none⟩] none [0])
 (.seq (.seq (.reg [⟨(some 4), .mv (.s 0), none⟩, ⟨(some 5), .bin .lss (.s 4) (.c (.dat (.int .i64 1))), none⟩, ⟨(some 6), .mv (.s 5), none⟩, ⟨(some 7), .mv (.s 0), some (6, false)⟩, ⟨(some 8), .bin .gtr (.s 7) (.c (.dat (.int .i64 7))), some (6, false)⟩, ⟨(some 9), .pick (.s 6) (.c (.dat (.bool true))) (.s 8), none⟩] none [0, 9])
 (.cond (.s 9) (.seq (.reg [⟨(some 2), .mv (.c (.nil 26 2 true)), none⟩, ⟨(some 3), .mv (.c (.dat (.int .i64 3))), none⟩] none [2, 3])
 (.ret [2, 3])) .skip))
 (.seq (.reg [⟨(some 10), .mv (.s 0), none⟩, ⟨(some 11), .mksl 26 2 16 true [(.dat (.int .u64 0)), (.dat (.int .u64 0))] (.s 10) (.s 10), none⟩, ⟨(some 2), .mv (.s 11), none⟩, ⟨(some 3), .mv (.c (.dat (.int .i64 0))), none⟩] none [2, 3])
 (.ret [2, 3]))))⟩

-- amnesia/amnesiaref03.New
def xf12 : XFunc := ⟨1, [.tmp 2, .tmp 3], (.seq (.reg [⟨(some 2), .mv (.c (.nil 26 2 true)), none⟩, ⟨(some 3), .mv (.c (.dat (.int .i64 0))), none⟩] none [0])
 (.seq (.seq (.reg [⟨(some 4), .mv (.s 0), none⟩, ⟨(some 5), .bin .lss (.s 4) (.c (.dat (.int .i64 1))), none⟩, ⟨(some 6), .mv (.s 5), none⟩, ⟨(some 7), .mv (.s 0), some (6, false)⟩, ⟨(some 8), .bin .gtr (.s 7) (.c (.dat (.int .i64 7))), some (6, false)⟩, ⟨(some 9), .pick (.s 6) (.c (.dat (.bool true))) (.s 8), none⟩] none [0, 9])
 (.cond (.s 9) (.seq (.reg [⟨(some 2), .mv (.c (.nil 26 2 true)), none⟩, ⟨(some 3), .mv (.c (.dat (.int .i64 3))), none⟩] none [2, 3])
 (.ret [2, 3])) .skip))
 (.seq (.reg [⟨(some 10), .mv (.s 0), none⟩, ⟨(some 11), .mksl 26 2 16 true [(.dat (.int .u64 0)), (.dat (.int .u64 0))] (.s 10) (.s 10), none⟩, ⟨(some 2), .mv (.s 11), none⟩, ⟨(some 3), .mv (.c (.dat (.int .i64 0))), none⟩] none [2, 3])
 (.ret [2, 3]))))⟩

-- amnesia/vector.Set
def xf13 : XFunc := ⟨3, [.tmp 6, .tmp 7], (.seq (.reg [⟨(some 5), .box (.s 2), none⟩, ⟨(some 6), .mv (.c (.nil 26 2 true)), none⟩, ⟨(some 7), .mv (.c (.dat (.int .i64 0))), none⟩] none [0, 1, 5])
 (.seq (.seq (.reg [⟨(some 9), .mv (.s 0), none⟩, ⟨(some 10), .call (.c (.fn (.func 38) [] [])) [(.s 9)], none⟩, ⟨(some 11), .not (.s 10), none⟩] none [0, 1, 5, 11])
 (.cond (.s 11) (.seq (.reg [⟨(some 6), .mv (.c (.nil 26 2 true)), none⟩, ⟨(some 7), .mv (.c (.dat (.int .i64 30))), none⟩] none [6, 7])
 (.ret [6, 7])) .skip))
 (.seq (.seq (.reg [⟨(some 12), .mv (.s 1), none⟩, ⟨(some 13), .bin .lss (.s 12) (.c (.dat (.int .i64 0))), none⟩, ⟨(some 14), .mv (.s 13), none⟩, ⟨(some 15), .mv (.s 1), some (14, false)⟩, ⟨(some 16), .mv (.s 0), some (14, false)⟩, ⟨(some 17), .len false (.s 16), some (14, false)⟩, ⟨(some 18), .bin .geq (.s 15) (.s 17), some (14, false)⟩, ⟨(some 19), .pick (.s 14) (.c (.dat (.bool true))) (.s 18), none⟩] none [0, 1, 5, 19])
 (.cond (.s 19) (.seq (.reg [⟨(some 6), .mv (.c (.nil 26 2 true)), none⟩, ⟨(some 7), .mv (.c (.dat (.int .i64 3))), none⟩] none [6, 7])
 (.ret [6, 7])) .skip))
 (.seq (.reg [⟨(some 20), .mv (.s 0), none⟩, ⟨(some 21), .app 26 2 16 true (.c (.nil 26 2 true)) (.s 20), none⟩, ⟨(some 8), .mv (.s 21), none⟩] none [1, 5, 8])
 (.seq (.reg [⟨(some 22), .mv (.s 8), none⟩, ⟨(some 23), .mv (.s 1), none⟩, ⟨(some 24), .load (some 2) (.s 5), none⟩, ⟨(some 25), .iadr 2 (.s 22) (.s 23), none⟩, ⟨none, .store 2 (.s 25) (.s 24), none⟩] none [8])
 (.seq (.reg [⟨(some 26), .mv (.s 8), none⟩, ⟨(some 6), .mv (.s 26), none⟩, ⟨(some 7), .mv (.c (.dat (.int .i64 0))), none⟩] none [6, 7])
 (.ret [6, 7])))))))⟩

-- amnesia/amnesiaref03.Set
def xf14 : XFunc := ⟨3, [.tmp 6, .tmp 7], (.seq (.reg [⟨(some 5), .box (.s 2), none⟩, ⟨(some 6), .mv (.c (.nil 26 2 true)), none⟩, ⟨(some 7), .mv (.c (.dat (.int .i64 0))), none⟩] none [0, 1, 5])
 (.seq (.seq (.reg [⟨(some 9), .mv (.s 0), none⟩, ⟨(some 10), .call (.c (.fn (.func 39) [] [])) [(.s 9)], none⟩, ⟨(some 11), .not (.s 10), none⟩] none [0, 1, 5, 11])
 (.cond (.s 11) (.seq (.reg [⟨(some 6), .mv (.c (.nil 26 2 true)), none⟩, ⟨(some 7), .mv (.c (.dat (.int .i64 30))), none⟩] none [6, 7])
 (.ret [6, 7])) .skip))
 (.seq (.seq (.reg [⟨(some 12), .mv (.s 1), none⟩, ⟨(some 13), .bin .lss (.s 12) (.c (.dat (.int .i64 0))), none⟩, ⟨(some 14), .mv (.s 13), none⟩, ⟨(some 15), .mv (.s 1), some (14, false)⟩, ⟨(some 16), .mv (.s 0), some (14, false)⟩, ⟨(some 17), .len false (.s 16), some (14, false)⟩, ⟨(some 18), .bin .geq (.s 15) (.s 17), some (14, false)⟩, ⟨(some 19), .pick (.s 14) (.c (.dat (.bool true))) (.s 18), none⟩] none [0, 1, 5, 19])
 (.cond (.s 19) (.seq (.reg [⟨(some 6), .mv (.c (.nil 26 2 true)), none⟩, ⟨(some 7), .mv (.c (.dat (.int .i64 3))), none⟩] none [6, 7])
 (.ret [6, 7])) .skip))
 (.seq (.reg [⟨(some 8), .mv (.c (.nil 26 2 true)), none⟩] none [0, 1, 5, 8])
 (.seq (.reg [⟨(some 20), .mv (.s 8), none⟩, ⟨(some 21), .mv (.s 0), none⟩, ⟨(some 22), .app 26 2 16 true (.s 20) (.s 21), none⟩, ⟨(some 8), .mv (.s 22), none⟩] none [1, 5, 8])
 (.seq (.reg [⟨(some 23), .mv (.s 8), none⟩, ⟨(some 24), .mv (.s 1), none⟩, ⟨(some 25), .load (some 2) (.s 5), none⟩, ⟨(some 26), .iadr 2 (.s 23) (.s 24), none⟩, ⟨none, .store 2 (.s 26) (.s 25), none⟩] none [8])
 (.seq (.reg [⟨(some 27), .mv (.s 8), none⟩, ⟨(some 6), .mv (.s 27), none⟩, ⟨(some 7), .mv (.c (.dat (.int .i64 0))), none⟩] none [6, 7])
 (.ret [6, 7]))))))))⟩

-- amnesia/amnesialaw03.num
def xf15 : XFunc := ⟨1, [.tmp 2], (.seq (.reg [⟨(some 2), .mv (.c (.dat (.int .i64 0))), none⟩] none [0])
 (.seq (.reg [⟨(some 3), .mv (.s 0), none⟩, ⟨(some 2), .mv (.s 3), none⟩] none [2])
 (.ret [2])))⟩

-- amnesia/amnesiaplain.SameVector
def xf16_k0 : List (Nat × Option (Nat × Nat × Bool)) := [(0, none), (1, none), (5, none)]
def xf16_b0 : XCode := (.seq (.seq (.reg [⟨(some 11), .mv (.s 5), none⟩, ⟨(some 12), .mv (.s 0), none⟩, ⟨(some 13), .len false (.s 12), none⟩, ⟨(some 14), .bin .lss (.s 11) (.s 13), none⟩] none [0, 1, 5, 14])
 (.cond (.s 14) .skip (.exit 0 [])))
 (.seq (.block 1 (.seq (.reg [⟨(some 17), .mv (.s 0), none⟩, ⟨(some 18), .mv (.s 5), none⟩, ⟨(some 19), .iadr 2 (.s 17) (.s 18), none⟩, ⟨(some 20), .load (some 2) (.s 19), none⟩, ⟨(some 21), .mv (.s 1), none⟩, ⟨(some 22), .mv (.s 5), none⟩, ⟨(some 23), .iadr 2 (.s 21) (.s 22), none⟩, ⟨(some 24), .load (some 2) (.s 23), none⟩, ⟨(some 25), .eqv true true [.i, .i] (.s 20) (.s 24), none⟩] (some []) [0, 1, 5, 25])
 (.cond (.s 25) (.seq (.reg [⟨(some 4), .mv (.c (.dat (.bool false))), none⟩] none [4])
 (.ret [4])) .skip)))
 (.reg [⟨(some 15), .mv (.s 5), none⟩, ⟨(some 16), .bin .add (.s 15) (.c (.dat (.int .i64 1))), none⟩, ⟨(some 5), .mv (.s 16), none⟩] none [0, 1, 5])))
def xf16 : XFunc := ⟨2, [.tmp 4], (.seq (.reg [⟨(some 4), .mv (.c (.dat (.bool false))), none⟩] none [0, 1])
 (.seq (.seq (.reg [⟨(some 6), .mv (.s 0), none⟩, ⟨(some 7), .len false (.s 6), none⟩, ⟨(some 8), .mv (.s 1), none⟩, ⟨(some 9), .len false (.s 8), none⟩, ⟨(some 10), .eqv true false [.i] (.s 7) (.s 9), none⟩] none [0, 1, 10])
 (.cond (.s 10) (.seq (.reg [⟨(some 4), .mv (.c (.dat (.bool false))), none⟩] none [4])
 (.ret [4])) .skip))
 (.seq (.seq (.reg [⟨(some 5), .mv (.c (.dat (.int .i64 0))), none⟩] none [0, 1, 5])
 (.block 0 (.loop xf16_k0 xf16_b0)))
 (.seq (.reg [⟨(some 4), .mv (.c (.dat (.bool true))), none⟩] none [4])
 (.ret [4])))))⟩

-- amnesia/vector.Check
def xf17 : XFunc := ⟨2, [.tmp 4], (.seq (.reg [⟨(some 4), .mv (.c (.dat (.int .i64 0))), none⟩] none [0, 1])
 (.seq (.seq (.reg [⟨(some 5), .mv (.s 1), none⟩, ⟨(some 6), .bin .lss (.s 5) (.c (.dat (.int .i64 1))), none⟩, ⟨(some 7), .mv (.s 6), none⟩, ⟨(some 8), .mv (.s 1), some (7, false)⟩, ⟨(some 9), .bin .gtr (.s 8) (.c (.dat (.int .i64 7))), some (7, false)⟩, ⟨(some 10), .pick (.s 7) (.c (.dat (.bool true))) (.s 9), none⟩] none [0, 1, 10])
 (.cond (.s 10) (.seq (.reg [⟨(some 4), .mv (.c (.dat (.int .i64 3))), none⟩] none [4])
 (.ret [4])) .skip))
 (.seq (.seq (.reg [⟨(some 11), .mv (.s 0), none⟩, ⟨(some 12), .len false (.s 11), none⟩, ⟨(some 13), .mv (.s 1), none⟩, ⟨(some 14), .eqv true false [.i] (.s 12) (.s 13), none⟩] none [14])
 (.cond (.s 14) (.seq (.reg [⟨(some 4), .mv (.c (.dat (.int .i64 30))), none⟩] none [4])
 (.ret [4])) .skip))
 (.seq (.reg [⟨(some 4), .mv (.c (.dat (.int .i64 0))), none⟩] none [4])
 (.ret [4])))))⟩

-- amnesia/amnesiaref03.Check
def xf18 : XFunc := ⟨2, [.tmp 4], (.seq (.reg [⟨(some 4), .mv (.c (.dat (.int .i64 0))), none⟩] none [0, 1])
 (.seq (.seq (.reg [⟨(some 5), .mv (.s 1), none⟩, ⟨(some 6), .bin .lss (.s 5) (.c (.dat (.int .i64 1))), none⟩, ⟨(some 7), .mv (.s 6), none⟩, ⟨(some 8), .mv (.s 1), some (7, false)⟩, ⟨(some 9), .bin .gtr (.s 8) (.c (.dat (.int .i64 7))), some (7, false)⟩, ⟨(some 10), .pick (.s 7) (.c (.dat (.bool true))) (.s 9), none⟩] none [0, 1, 10])
 (.cond (.s 10) (.seq (.reg [⟨(some 4), .mv (.c (.dat (.int .i64 3))), none⟩] none [4])
 (.ret [4])) .skip))
 (.seq (.seq (.reg [⟨(some 11), .mv (.s 0), none⟩, ⟨(some 12), .len false (.s 11), none⟩, ⟨(some 13), .mv (.s 1), none⟩, ⟨(some 14), .eqv true false [.i] (.s 12) (.s 13), none⟩] none [14])
 (.cond (.s 14) (.seq (.reg [⟨(some 4), .mv (.c (.dat (.int .i64 30))), none⟩] none [4])
 (.ret [4])) .skip))
 (.seq (.reg [⟨(some 4), .mv (.c (.dat (.int .i64 0))), none⟩] none [4])
 (.ret [4])))))⟩

-- (*amnesia/amnesiaplain.Given).Intact
def xf19_k0 : List (Nat × Option (Nat × Nat × Bool)) := [(0, none), (3, none)]
def xf19_b0 : XCode := (.seq (.seq (.reg [⟨(some 8), .mv (.s 3), none⟩, ⟨(some 9), .mv (.s 0), none⟩, ⟨(some 10), .nilchk (.s 9), none⟩, ⟨(some 11), .fadr 0 (.s 10), none⟩, ⟨(some 12), .load none (.s 11), none⟩, ⟨(some 13), .len false (.s 12), none⟩, ⟨(some 14), .bin .lss (.s 8) (.s 13), none⟩] none [0, 3, 14])
 (.cond (.s 14) .skip (.exit 0 [0])))
 (.seq (.block 1 (.seq (.reg [⟨(some 17), .mv (.s 0), none⟩, ⟨(some 18), .nilchk (.s 17), none⟩, ⟨(some 19), .fadr 0 (.s 18), none⟩, ⟨(some 20), .load none (.s 19), none⟩, ⟨(some 21), .mv (.s 3), none⟩, ⟨(some 22), .iadr 1 (.s 20) (.s 21), none⟩, ⟨(some 23), .load none (.s 22), none⟩, ⟨(some 24), .mv (.s 0), none⟩, ⟨(some 25), .nilchk (.s 24), none⟩, ⟨(some 26), .fadr 1 (.s 25), none⟩, ⟨(some 27), .load none (.s 26), none⟩, ⟨(some 28), .mv (.s 3), none⟩, ⟨(some 29), .iadr 1 (.s 27) (.s 28), none⟩, ⟨(some 30), .load none (.s 29), none⟩, ⟨(some 31), .call (.c (.fn (.func 40) [] [])) [(.s 23), (.s 30)], none⟩, ⟨(some 32), .not (.s 31), none⟩] (some []) [0, 3, 32])
 (.cond (.s 32) (.seq (.reg [⟨(some 2), .mv (.c (.dat (.bool false))), none⟩] none [2])
 (.ret [2])) .skip)))
 (.reg [⟨(some 15), .mv (.s 3), none⟩, ⟨(some 16), .bin .add (.s 15) (.c (.dat (.int .i64 1))), none⟩, ⟨(some 3), .mv (.s 16), none⟩] none [0, 3])))
def xf19_k1 : List (Nat × Option (Nat × Nat × Bool)) := [(0, none), (4, none)]
def xf19_b1 : XCode := (.seq (.seq (.reg [⟨(some 33), .mv (.s 4), none⟩, ⟨(some 34), .mv (.s 0), none⟩, ⟨(some 35), .nilchk (.s 34), none⟩, ⟨(some 36), .fadr 8 (.s 35), none⟩, ⟨(some 37), .load none (.s 36), none⟩, ⟨(some 38), .len false (.s 37), none⟩, ⟨(some 39), .bin .lss (.s 33) (.s 38), none⟩] none [0, 4, 39])
 (.cond (.s 39) .skip (.exit 2 [0])))
 (.seq (.block 3 (.seq (.reg [⟨(some 42), .mv (.s 0), none⟩, ⟨(some 43), .nilchk (.s 42), none⟩, ⟨(some 44), .fadr 8 (.s 43), none⟩, ⟨(some 45), .load none (.s 44), none⟩, ⟨(some 46), .mv (.s 4), none⟩, ⟨(some 47), .iadr 12 (.s 45) (.s 46), none⟩, ⟨(some 48), .load (some 12) (.s 47), none⟩, ⟨(some 49), .mv (.s 0), none⟩, ⟨(some 50), .nilchk (.s 49), none⟩, ⟨(some 51), .fadr 9 (.s 50), none⟩, ⟨(some 52), .load none (.s 51), none⟩, ⟨(some 53), .mv (.s 4), none⟩, ⟨(some 54), .iadr 12 (.s 52) (.s 53), none⟩, ⟨(some 55), .load (some 12) (.s 54), none⟩, ⟨(some 56), .call (.c (.fn (.func 41) [] [])) [(.s 48), (.s 55)], none⟩, ⟨(some 57), .not (.s 56), none⟩] (some []) [0, 4, 57])
 (.cond (.s 57) (.seq (.reg [⟨(some 2), .mv (.c (.dat (.bool false))), none⟩] none [2])
 (.ret [2])) .skip)))
 (.reg [⟨(some 40), .mv (.s 4), none⟩, ⟨(some 41), .bin .add (.s 40) (.c (.dat (.int .i64 1))), none⟩, ⟨(some 4), .mv (.s 41), none⟩] none [0, 4])))
def xf19_k2 : List (Nat × Option (Nat × Nat × Bool)) := [(0, none), (5, none)]
def xf19_b2 : XCode := (.seq (.seq (.reg [⟨(some 58), .mv (.s 5), none⟩, ⟨(some 59), .mv (.s 0), none⟩, ⟨(some 60), .nilchk (.s 59), none⟩, ⟨(some 61), .fadr 6 (.s 60), none⟩, ⟨(some 62), .load none (.s 61), none⟩, ⟨(some 63), .len false (.s 62), none⟩, ⟨(some 64), .bin .lss (.s 58) (.s 63), none⟩] none [0, 5, 64])
 (.cond (.s 64) .skip (.exit 4 [0])))
 (.seq (.block 5 (.seq (.reg [⟨(some 67), .mv (.s 0), none⟩, ⟨(some 68), .nilchk (.s 67), none⟩, ⟨(some 69), .fadr 6 (.s 68), none⟩, ⟨(some 70), .load none (.s 69), none⟩, ⟨(some 71), .mv (.s 5), none⟩, ⟨(some 72), .iadr 1 (.s 70) (.s 71), none⟩, ⟨(some 73), .load none (.s 72), none⟩, ⟨(some 74), .mv (.s 0), none⟩, ⟨(some 75), .nilchk (.s 74), none⟩, ⟨(some 76), .fadr 7 (.s 75), none⟩, ⟨(some 77), .load none (.s 76), none⟩, ⟨(some 78), .mv (.s 5), none⟩, ⟨(some 79), .iadr 1 (.s 77) (.s 78), none⟩, ⟨(some 80), .load none (.s 79), none⟩, ⟨(some 81), .call (.c (.fn (.func 29) [] [])) [(.s 73), (.s 80)], none⟩, ⟨(some 82), .not (.s 81), none⟩] (some []) [0, 5, 82])
 (.cond (.s 82) (.seq (.reg [⟨(some 2), .mv (.c (.dat (.bool false))), none⟩] none [2])
 (.ret [2])) .skip)))
 (.reg [⟨(some 65), .mv (.s 5), none⟩, ⟨(some 66), .bin .add (.s 65) (.c (.dat (.int .i64 1))), none⟩, ⟨(some 5), .mv (.s 66), none⟩] none [0, 5])))
def xf19_k3 : List (Nat × Option (Nat × Nat × Bool)) := [(0, none), (6, none)]
def xf19_b3 : XCode := (.seq (.seq (.reg [⟨(some 83), .mv (.s 6), none⟩, ⟨(some 84), .mv (.s 0), none⟩, ⟨(some 85), .nilchk (.s 84), none⟩, ⟨(some 86), .fadr 2 (.s 85), none⟩, ⟨(some 87), .load none (.s 86), none⟩, ⟨(some 88), .len false (.s 87), none⟩, ⟨(some 89), .bin .lss (.s 83) (.s 88), none⟩] none [0, 6, 89])
 (.cond (.s 89) .skip (.exit 6 [0])))
 (.seq (.block 7 (.seq (.reg [⟨(some 92), .mv (.s 0), none⟩, ⟨(some 93), .nilchk (.s 92), none⟩, ⟨(some 94), .fadr 2 (.s 93), none⟩, ⟨(some 95), .load none (.s 94), none⟩, ⟨(some 96), .mv (.s 6), none⟩, ⟨(some 97), .iadr 1 (.s 95) (.s 96), none⟩, ⟨(some 98), .load none (.s 97), none⟩, ⟨(some 99), .mv (.s 0), none⟩, ⟨(some 100), .nilchk (.s 99), none⟩, ⟨(some 101), .fadr 3 (.s 100), none⟩, ⟨(some 102), .load none (.s 101), none⟩, ⟨(some 103), .mv (.s 6), none⟩, ⟨(some 104), .iadr 1 (.s 102) (.s 103), none⟩, ⟨(some 105), .load none (.s 104), none⟩, ⟨(some 106), .call (.c (.fn (.func 16) [] [])) [(.s 98), (.s 105)], none⟩, ⟨(some 107), .not (.s 106), none⟩] (some []) [0, 6, 107])
 (.cond (.s 107) (.seq (.reg [⟨(some 2), .mv (.c (.dat (.bool false))), none⟩] none [2])
 (.ret [2])) .skip)))
 (.reg [⟨(some 90), .mv (.s 6), none⟩, ⟨(some 91), .bin .add (.s 90) (.c (.dat (.int .i64 1))), none⟩, ⟨(some 6), .mv (.s 91), none⟩] none [0, 6])))
def xf19_k4 : List (Nat × Option (Nat × Nat × Bool)) := [(0, none), (7, none)]
def xf19_b4 : XCode := (.seq (.seq (.reg [⟨(some 108), .mv (.s 7), none⟩, ⟨(some 109), .mv (.s 0), none⟩, ⟨(some 110), .nilchk (.s 109), none⟩, ⟨(some 111), .fadr 4 (.s 110), none⟩, ⟨(some 112), .load none (.s 111), none⟩, ⟨(some 113), .len false (.s 112), none⟩, ⟨(some 114), .bin .lss (.s 108) (.s 113), none⟩] none [0, 7, 114])
 (.cond (.s 114) .skip (.exit 8 [])))
 (.seq (.block 9 (.seq (.reg [⟨(some 117), .mv (.s 0), none⟩, ⟨(some 118), .nilchk (.s 117), none⟩, ⟨(some 119), .fadr 4 (.s 118), none⟩, ⟨(some 120), .load none (.s 119), none⟩, ⟨(some 121), .mv (.s 7), none⟩, ⟨(some 122), .iadr 1 (.s 120) (.s 121), none⟩, ⟨(some 123), .load none (.s 122), none⟩, ⟨(some 124), .mv (.s 0), none⟩, ⟨(some 125), .nilchk (.s 124), none⟩, ⟨(some 126), .fadr 5 (.s 125), none⟩, ⟨(some 127), .load none (.s 126), none⟩, ⟨(some 128), .mv (.s 7), none⟩, ⟨(some 129), .iadr 1 (.s 127) (.s 128), none⟩, ⟨(some 130), .load none (.s 129), none⟩, ⟨(some 131), .call (.c (.fn (.func 42) [] [])) [(.s 123), (.s 130)], none⟩, ⟨(some 132), .not (.s 131), none⟩] (some []) [0, 7, 132])
 (.cond (.s 132) (.seq (.reg [⟨(some 2), .mv (.c (.dat (.bool false))), none⟩] none [2])
 (.ret [2])) .skip)))
 (.reg [⟨(some 115), .mv (.s 7), none⟩, ⟨(some 116), .bin .add (.s 115) (.c (.dat (.int .i64 1))), none⟩, ⟨(some 7), .mv (.s 116), none⟩] none [0, 7])))
def xf19 : XFunc := ⟨1, [.tmp 2], (.seq (.reg [⟨(some 2), .mv (.c (.dat (.bool false))), none⟩] none [0])
 (.seq (.seq (.reg [⟨(some 3), .mv (.c (.dat (.int .i64 0))), none⟩] none [0, 3])
 (.block 0 (.loop xf19_k0 xf19_b0)))
 (.seq (.seq (.reg [⟨(some 4), .mv (.c (.dat (.int .i64 0))), none⟩] none [0, 4])
 (.block 2 (.loop xf19_k1 xf19_b1)))
 (.seq (.seq (.reg [⟨(some 5), .mv (.c (.dat (.int .i64 0))), none⟩] none [0, 5])
 (.block 4 (.loop xf19_k2 xf19_b2)))
 (.seq (.seq (.reg [⟨(some 6), .mv (.c (.dat (.int .i64 0))), none⟩] none [0, 6])
 (.block 6 (.loop xf19_k3 xf19_b3)))
 (.seq (.seq (.reg [⟨(some 7), .mv (.c (.dat (.int .i64 0))), none⟩] none [0, 7])
 (.block 8 (.loop xf19_k4 xf19_b4)))
 (.seq (.reg [⟨(some 2), .mv (.c (.dat (.bool true))), none⟩] none [2])
 (.ret [2]))))))))⟩

-- amnesia/vector.Merge
def xf20_k0 : List (Nat × Option (Nat × Nat × Bool)) := [(0, none), (14, some (23, 1, false)), (15, none), (16, none)]
def xf20_b0 : XCode := (.seq (.reg [⟨(some 17), .bin .lss (.s 16) (.s 15), none⟩] none [0, 14, 15, 16, 17])
 (.seq (.cond (.s 17) .skip (.exit 0 [0]))
 (.seq (.block 1 (.seq (.reg [⟨(some 18), .iadr 1 (.s 14) (.s 16), none⟩, ⟨(some 19), .load none (.s 18), none⟩, ⟨(some 5), .mv (.s 19), none⟩] none [0, 5, 14, 15, 16])
 (.seq (.reg [⟨(some 20), .mv (.s 5), none⟩, ⟨(some 21), .call (.c (.fn (.func 38) [] [])) [(.s 20)], none⟩, ⟨(some 22), .not (.s 21), none⟩, ⟨(some 23), .mv (.s 22), none⟩, ⟨(some 24), .mv (.s 5), some (23, false)⟩, ⟨(some 25), .len false (.s 24), some (23, false)⟩, ⟨(some 26), .mv (.s 0), some (23, false)⟩, ⟨(some 27), .iadr 1 (.s 26) (.c (.dat (.int .i64 0))), some (23, false)⟩, ⟨(some 28), .load none (.s 27), some (23, false)⟩, ⟨(some 29), .len false (.s 28), some (23, false)⟩, ⟨(some 30), .eqv true false [.i] (.s 25) (.s 29), some (23, false)⟩, ⟨(some 31), .pick (.s 23) (.c (.dat (.bool true))) (.s 30), none⟩] none [0, 14, 15, 16, 31])
 (.cond (.s 31) (.seq (.reg [⟨(some 2), .mv (.c (.nil 26 2 true)), none⟩, ⟨(some 3), .mv (.c (.dat (.int .i64 30))), none⟩] none [2, 3])
 (.ret [2, 3])) .skip))))
 (.reg [⟨(some 32), .bin .add (.s 16) (.c (.dat (.int .i64 1))), none⟩, ⟨(some 16), .mv (.s 32), none⟩] none [0, 14, 15, 16]))))
def xf20_k2 : List (Nat × Option (Nat × Nat × Bool)) := [(6, some (26, 2, true)), (38, some (23, 1, false)), (39, none), (40, none), (44, some (26, 2, true)), (45, none), (46, none)]
def xf20_b2 : XCode := (.seq (.reg [⟨(some 47), .bin .lss (.s 46) (.s 45), none⟩] none [6, 38, 39, 40, 44, 45, 46, 47])
 (.seq (.cond (.s 47) .skip (.exit 4 [6, 38, 39, 40]))
 (.seq (.block 5 (.seq (.reg [⟨(some 48), .mv (.s 46), none⟩, ⟨(some 49), .iadr 2 (.s 44) (.s 46), none⟩, ⟨(some 50), .load (some 2) (.s 49), none⟩, ⟨(some 10), .alloc [(.dat (.int .u64 0)), (.dat (.int .u64 0))], none⟩, ⟨(some 9), .mv (.s 48), none⟩, ⟨none, .store 2 (.s 10) (.s 50), none⟩] none [6, 9, 10, 38, 39, 40, 44, 45, 46])
 (.seq (.reg [⟨(some 51), .mv (.s 6), none⟩, ⟨(some 52), .mv (.s 9), none⟩, ⟨(some 53), .iadr 2 (.s 51) (.s 52), none⟩, ⟨(some 54), .load (some 2) (.s 53), none⟩, ⟨(some 55), .load (some 2) (.s 10), none⟩, ⟨(some 56), .call (.c (.fn (.func 43) [] [])) [(.s 54), (.s 55)], none⟩, ⟨(some 57), .bin .lss (.s 56) (.c (.dat (.int .i64 0))), none⟩] (some []) [6, 9, 10, 38, 39, 40, 44, 45, 46, 57])
 (.cond (.s 57) (.reg [⟨(some 58), .mv (.s 6), none⟩, ⟨(some 59), .mv (.s 9), none⟩, ⟨(some 60), .load (some 2) (.s 10), none⟩, ⟨(some 61), .iadr 2 (.s 58) (.s 59), none⟩, ⟨none, .store 2 (.s 61) (.s 60), none⟩] none [6, 38, 39, 40, 44, 45, 46]) .skip))))
 (.reg [⟨(some 62), .bin .add (.s 46) (.c (.dat (.int .i64 1))), none⟩, ⟨(some 46), .mv (.s 62), none⟩] none [6, 38, 39, 40, 44, 45, 46]))))
def xf20_k1 : List (Nat × Option (Nat × Nat × Bool)) := [(6, some (26, 2, true)), (38, some (23, 1, false)), (39, none), (40, none)]
def xf20_b1 : XCode := (.seq (.reg [⟨(some 41), .bin .lss (.s 40) (.s 39), none⟩] none [6, 38, 39, 40, 41])
 (.seq (.cond (.s 41) .skip (.exit 2 [6]))
 (.seq (.block 3 (.seq (.reg [⟨(some 42), .iadr 1 (.s 38) (.s 40), none⟩, ⟨(some 43), .load none (.s 42), none⟩, ⟨(some 8), .mv (.s 43), none⟩] none [6, 8, 38, 39, 40])
 (.seq (.reg [⟨(some 44), .mv (.s 8), none⟩, ⟨(some 45), .len false (.s 44), none⟩, ⟨(some 46), .mv (.c (.dat (.int .i64 0))), none⟩] none [6, 38, 39, 40, 44, 45, 46])
 (.block 4 (.loop xf20_k2 xf20_b2)))))
 (.reg [⟨(some 63), .bin .add (.s 40) (.c (.dat (.int .i64 1))), none⟩, ⟨(some 40), .mv (.s 63), none⟩] none [6, 38, 39, 40]))))
def xf20 : XFunc := ⟨1, [.tmp 2, .tmp 3], (.seq (.reg [⟨(some 2), .mv (.c (.nil 26 2 true)), none⟩, ⟨(some 3), .mv (.c (.dat (.int .i64 0))), none⟩] none [0])
 (.seq (.seq (.reg [⟨(some 11), .mv (.s 0), none⟩, ⟨(some 12), .len false (.s 11), none⟩, ⟨(some 13), .eqv false false [.i] (.s 12) (.c (.dat (.int .i64 0))), none⟩] none [0, 13])
 (.cond (.s 13) (.seq (.reg [⟨(some 2), .mv (.c (.nil 26 2 true)), none⟩, ⟨(some 3), .mv (.c (.dat (.int .i64 30))), none⟩] none [2, 3])
 (.ret [2, 3])) .skip))
 (.seq (.seq (.reg [⟨(some 14), .mv (.s 0), none⟩, ⟨(some 15), .len false (.s 14), none⟩, ⟨(some 16), .mv (.c (.dat (.int .i64 0))), none⟩] none [0, 14, 15, 16])
 (.block 0 (.loop xf20_k0 xf20_b0)))
 (.seq (.reg [⟨(some 33), .mv (.s 0), none⟩, ⟨(some 34), .iadr 1 (.s 33) (.c (.dat (.int .i64 0))), none⟩, ⟨(some 35), .load none (.s 34), none⟩, ⟨(some 36), .len false (.s 35), none⟩, ⟨(some 37), .mksl 26 2 16 true [(.dat (.int .u64 0)), (.dat (.int .u64 0))] (.s 36) (.s 36), none⟩, ⟨(some 6), .mv (.s 37), none⟩] none [0, 6])
 (.seq (.seq (.reg [⟨(some 38), .mv (.s 0), none⟩, ⟨(some 39), .len false (.s 38), none⟩, ⟨(some 40), .mv (.c (.dat (.int .i64 0))), none⟩] none [6, 38, 39, 40])
 (.block 2 (.loop xf20_k1 xf20_b1)))
 (.seq (.reg [⟨(some 64), .mv (.s 6), none⟩, ⟨(some 2), .mv (.s 64), none⟩, ⟨(some 3), .mv (.c (.dat (.int .i64 0))), none⟩] none [2, 3])
 (.ret [2, 3])))))))⟩

-- amnesia/amnesiaref03.Merge
def xf21_k0 : List (Nat × Option (Nat × Nat × Bool)) := [(0, none), (4, none)]
def xf21_b0 : XCode := (.seq (.seq (.reg [⟨(some 12), .mv (.s 4), none⟩, ⟨(some 13), .mv (.s 0), none⟩, ⟨(some 14), .len false (.s 13), none⟩, ⟨(some 15), .bin .lss (.s 12) (.s 14), none⟩] none [0, 4, 15])
 (.cond (.s 15) .skip (.exit 0 [0])))
 (.seq (.block 1 (.seq (.reg [⟨(some 18), .mv (.s 0), none⟩, ⟨(some 19), .mv (.s 4), none⟩, ⟨(some 20), .iadr 1 (.s 18) (.s 19), none⟩, ⟨(some 21), .load none (.s 20), none⟩, ⟨(some 22), .call (.c (.fn (.func 39) [] [])) [(.s 21)], none⟩, ⟨(some 23), .not (.s 22), none⟩, ⟨(some 24), .mv (.s 23), none⟩, ⟨(some 25), .mv (.s 0), some (24, false)⟩, ⟨(some 26), .mv (.s 4), some (24, false)⟩, ⟨(some 27), .iadr 1 (.s 25) (.s 26), some (24, false)⟩, ⟨(some 28), .load none (.s 27), some (24, false)⟩, ⟨(some 29), .len false (.s 28), some (24, false)⟩, ⟨(some 30), .mv (.s 0), some (24, false)⟩, ⟨(some 31), .iadr 1 (.s 30) (.c (.dat (.int .i64 0))), some (24, false)⟩, ⟨(some 32), .load none (.s 31), some (24, false)⟩, ⟨(some 33), .len false (.s 32), some (24, false)⟩, ⟨(some 34), .eqv true false [.i] (.s 29) (.s 33), some (24, false)⟩, ⟨(some 35), .pick (.s 24) (.c (.dat (.bool true))) (.s 34), none⟩] (some []) [0, 4, 35])
 (.cond (.s 35) (.seq (.reg [⟨(some 2), .mv (.c (.nil 26 2 true)), none⟩, ⟨(some 3), .mv (.c (.dat (.int .i64 30))), none⟩] none [2, 3])
 (.ret [2, 3])) .skip)))
 (.reg [⟨(some 16), .mv (.s 4), none⟩, ⟨(some 17), .bin .add (.s 16) (.c (.dat (.int .i64 1))), none⟩, ⟨(some 4), .mv (.s 17), none⟩] none [0, 4])))
def xf21_k2 : List (Nat × Option (Nat × Nat × Bool)) := [(0, none), (5, some (26, 2, true)), (6, none), (7, none), (8, none)]
def xf21_b2 : XCode := (.seq (.seq (.reg [⟨(some 50), .mv (.s 8), none⟩, ⟨(some 51), .mv (.s 0), none⟩, ⟨(some 52), .len false (.s 51), none⟩, ⟨(some 53), .bin .lss (.s 50) (.s 52), none⟩] none [0, 5, 6, 7, 8, 53])
 (.cond (.s 53) .skip (.exit 4 [0, 5, 6, 7])))
 (.seq (.block 5 (.seq (.reg [⟨(some 56), .load (some 2) (.s 7), none⟩, ⟨(some 57), .mv (.s 0), none⟩, ⟨(some 58), .mv (.s 8), none⟩, ⟨(some 59), .iadr 1 (.s 57) (.s 58), none⟩, ⟨(some 60), .load none (.s 59), none⟩, ⟨(some 61), .mv (.s 6), none⟩, ⟨(some 62), .iadr 2 (.s 60) (.s 61), none⟩, ⟨(some 63), .load (some 2) (.s 62), none⟩, ⟨(some 64), .call (.c (.fn (.func 44) [] [])) [(.s 56), (.s 63)], none⟩] (some []) [0, 5, 6, 7, 8, 64])
 (.cond (.s 64) (.reg [⟨(some 65), .mv (.s 0), none⟩, ⟨(some 66), .mv (.s 8), none⟩, ⟨(some 67), .iadr 1 (.s 65) (.s 66), none⟩, ⟨(some 68), .load none (.s 67), none⟩, ⟨(some 69), .mv (.s 6), none⟩, ⟨(some 70), .iadr 2 (.s 68) (.s 69), none⟩, ⟨(some 71), .load (some 2) (.s 70), none⟩, ⟨none, .store 2 (.s 7) (.s 71), none⟩] none [0, 5, 6, 7, 8]) .skip)))
 (.reg [⟨(some 54), .mv (.s 8), none⟩, ⟨(some 55), .bin .add (.s 54) (.c (.dat (.int .i64 1))), none⟩, ⟨(some 8), .mv (.s 55), none⟩] none [0, 5, 6, 7, 8])))
def xf21_k1 : List (Nat × Option (Nat × Nat × Bool)) := [(0, none), (5, some (26, 2, true)), (6, none)]
def xf21_b1 : XCode := (.seq (.seq (.reg [⟨(some 36), .mv (.s 6), none⟩, ⟨(some 37), .mv (.s 0), none⟩, ⟨(some 38), .iadr 1 (.s 37) (.c (.dat (.int .i64 0))), none⟩, ⟨(some 39), .load none (.s 38), none⟩, ⟨(some 40), .len false (.s 39), none⟩, ⟨(some 41), .bin .lss (.s 36) (.s 40), none⟩] none [0, 5, 6, 41])
 (.cond (.s 41) .skip (.exit 2 [5])))
 (.seq (.block 3 (.seq (.reg [⟨(some 44), .mv (.s 0), none⟩, ⟨(some 45), .iadr 1 (.s 44) (.c (.dat (.int .i64 0))), none⟩, ⟨(some 46), .load none (.s 45), none⟩, ⟨(some 47), .mv (.s 6), none⟩, ⟨(some 48), .iadr 2 (.s 46) (.s 47), none⟩, ⟨(some 49), .load (some 2) (.s 48), none⟩, ⟨(some 7), .alloc [(.dat (.int .u64 0)), (.dat (.int .u64 0))], none⟩, ⟨none, .store 2 (.s 7) (.s 49), none⟩] none [0, 5, 6, 7])
 (.seq (.seq (.reg [⟨(some 8), .mv (.c (.dat (.int .i64 1))), none⟩] none [0, 5, 6, 7, 8])
 (.block 4 (.loop xf21_k2 xf21_b2)))
 (.reg [⟨(some 72), .mv (.s 5), none⟩, ⟨(some 73), .load (some 2) (.s 7), none⟩, ⟨(some 74), .bsl 26 2 true 1 [(.dat (.int .u64 0)), (.dat (.int .u64 0))] [(0, 2, (.s 73))], none⟩, ⟨(some 75), .app 26 2 16 true (.s 72) (.s 74), none⟩, ⟨(some 5), .mv (.s 75), none⟩] none [0, 5, 6]))))
 (.reg [⟨(some 42), .mv (.s 6), none⟩, ⟨(some 43), .bin .add (.s 42) (.c (.dat (.int .i64 1))), none⟩, ⟨(some 6), .mv (.s 43), none⟩] none [0, 5, 6])))
def xf21 : XFunc := ⟨1, [.tmp 2, .tmp 3], (.seq (.reg [⟨(some 2), .mv (.c (.nil 26 2 true)), none⟩, ⟨(some 3), .mv (.c (.dat (.int .i64 0))), none⟩] none [0])
 (.seq (.seq (.reg [⟨(some 9), .mv (.s 0), none⟩, ⟨(some 10), .len false (.s 9), none⟩, ⟨(some 11), .eqv false false [.i] (.s 10) (.c (.dat (.int .i64 0))), none⟩] none [0, 11])
 (.cond (.s 11) (.seq (.reg [⟨(some 2), .mv (.c (.nil 26 2 true)), none⟩, ⟨(some 3), .mv (.c (.dat (.int .i64 30))), none⟩] none [2, 3])
 (.ret [2, 3])) .skip))
 (.seq (.seq (.reg [⟨(some 4), .mv (.c (.dat (.int .i64 0))), none⟩] none [0, 4])
 (.block 0 (.loop xf21_k0 xf21_b0)))
 (.seq (.reg [⟨(some 5), .mv (.c (.nil 26 2 true)), none⟩] none [0, 5])
 (.seq (.seq (.reg [⟨(some 6), .mv (.c (.dat (.int .i64 0))), none⟩] none [0, 5, 6])
 (.block 2 (.loop xf21_k1 xf21_b1)))
 (.seq (.reg [⟨(some 76), .mv (.s 5), none⟩, ⟨(some 2), .mv (.s 76), none⟩, ⟨(some 3), .mv (.c (.dat (.int .i64 0))), none⟩] none [2, 3])
 (.ret [2, 3])))))))⟩

-- amnesia/vector.Compare
def xf22_k0 : List (Nat × Option (Nat × Nat × Bool)) := [(0, none), (1, none), (5, none), (6, none), (14, none), (15, none)]
def xf22_b0 : XCode := (.seq (.reg [⟨(some 16), .bin .lss (.s 15) (.s 14), none⟩] none [0, 1, 5, 6, 14, 15, 16])
 (.seq (.cond (.s 16) .skip (.exit 0 [5, 6]))
 (.seq (.block 1 (.seq (.reg [⟨(some 17), .mv (.s 15), none⟩, ⟨(some 7), .mv (.s 17), none⟩] none [0, 1, 5, 6, 7, 14, 15])
 (.seq (.reg [⟨(some 18), .mv (.s 0), none⟩, ⟨(some 19), .mv (.s 7), none⟩, ⟨(some 20), .iadr 2 (.s 18) (.s 19), none⟩, ⟨(some 21), .load (some 2) (.s 20), none⟩, ⟨(some 22), .mv (.s 1), none⟩, ⟨(some 23), .mv (.s 7), none⟩, ⟨(some 24), .iadr 2 (.s 22) (.s 23), none⟩, ⟨(some 25), .load (some 2) (.s 24), none⟩, ⟨(some 26), .call (.c (.fn (.func 43) [] [])) [(.s 21), (.s 25)], none⟩] (some []) [0, 1, 5, 6, 14, 15, 26])
 (.block 2 (.seq (.reg [⟨(some 28), .eqv false false [.i] (.s 26) (.c (.dat (.int .i64 1))), none⟩, ⟨(some 27), .mv (.s 28), none⟩] none [0, 1, 5, 6, 14, 15, 26, 27])
 (.cond (.s 27) (.reg [⟨(some 5), .mv (.c (.dat (.bool true))), none⟩] none [0, 1, 5, 6, 14, 15]) (.seq (.reg [⟨(some 30), .eqv false false [.i] (.s 26) (.c (.dat (.int .i64 (-1)))), none⟩, ⟨(some 29), .mv (.s 30), none⟩] none [0, 1, 5, 6, 14, 15, 29])
 (.cond (.s 29) (.reg [⟨(some 6), .mv (.c (.dat (.bool true))), none⟩] none [0, 1, 5, 6, 14, 15]) .skip))))))))
 (.reg [⟨(some 31), .bin .add (.s 15) (.c (.dat (.int .i64 1))), none⟩, ⟨(some 15), .mv (.s 31), none⟩] none [0, 1, 5, 6, 14, 15]))))
def xf22 : XFunc := ⟨2, [.tmp 4], (.seq (.reg [⟨(some 4), .mv (.c (.dat (.int .i64 0))), none⟩] none [0, 1])
 (.seq (.seq (.reg [⟨(some 8), .mv (.s 0), none⟩, ⟨(some 9), .len false (.s 8), none⟩, ⟨(some 10), .mv (.s 1), none⟩, ⟨(some 11), .len false (.s 10), none⟩, ⟨(some 12), .eqv true false [.i] (.s 9) (.s 11), none⟩] none [0, 1, 12])
 (.cond (.s 12) (.seq (.reg [⟨(some 4), .mv (.c (.dat (.int .i64 0))), none⟩] none [4])
 (.ret [4])) .skip))
 (.seq (.reg [⟨(some 5), .mv (.c (.dat (.bool false))), none⟩, ⟨(some 6), .mv (.c (.dat (.bool false))), none⟩] none [0, 1, 5, 6])
 (.seq (.seq (.reg [⟨(some 13), .mv (.s 0), none⟩, ⟨(some 14), .len false (.s 13), none⟩, ⟨(some 15), .mv (.c (.dat (.int .i64 0))), none⟩] none [0, 1, 5, 6, 14, 15])
 (.block 0 (.loop xf22_k0 xf22_b0)))
 (.seq (.block 3 (.seq (.reg [⟨(some 33), .mv (.s 5), none⟩, ⟨(some 34), .mv (.s 33), none⟩, ⟨(some 35), .mv (.s 6), some (34, true)⟩, ⟨(some 36), .pick (.s 34) (.s 35) (.c (.dat (.bool false))), none⟩, ⟨(some 32), .mv (.s 36), none⟩] none [5, 6, 32])
 (.cond (.s 32) (.seq (.reg [⟨(some 4), .mv (.c (.dat (.int .i64 4))), none⟩] none [4])
 (.ret [4])) (.seq (.reg [⟨(some 38), .mv (.s 5), none⟩, ⟨(some 37), .mv (.s 38), none⟩] none [6, 37])
 (.cond (.s 37) (.seq (.reg [⟨(some 4), .mv (.c (.dat (.int .i64 3))), none⟩] none [4])
 (.ret [4])) (.seq (.reg [⟨(some 40), .mv (.s 6), none⟩, ⟨(some 39), .mv (.s 40), none⟩] none [39])
 (.cond (.s 39) (.seq (.reg [⟨(some 4), .mv (.c (.dat (.int .i64 2))), none⟩] none [4])
 (.ret [4])) .skip)))))))
 (.seq (.reg [⟨(some 4), .mv (.c (.dat (.int .i64 1))), none⟩] none [4])
 (.ret [4])))))))⟩

-- amnesia/amnesiaref03.Compare
def xf23_k0 : List (Nat × Option (Nat × Nat × Bool)) := [(0, none), (1, none), (5, none), (6, none), (7, none)]
def xf23_b0 : XCode := (.seq (.seq (.reg [⟨(some 13), .mv (.s 7), none⟩, ⟨(some 14), .mv (.s 0), none⟩, ⟨(some 15), .len false (.s 14), none⟩, ⟨(some 16), .bin .lss (.s 13) (.s 15), none⟩] none [0, 1, 5, 6, 7, 16])
 (.cond (.s 16) .skip (.exit 0 [5, 6])))
 (.seq (.block 1 (.seq (.reg [⟨(some 19), .mv (.s 5), none⟩, ⟨(some 20), .mv (.s 19), none⟩, ⟨(some 21), .mv (.s 0), some (20, false)⟩, ⟨(some 22), .mv (.s 7), some (20, false)⟩, ⟨(some 23), .iadr 2 (.s 21) (.s 22), some (20, false)⟩, ⟨(some 24), .load (some 2) (.s 23), some (20, false)⟩, ⟨(some 25), .mv (.s 1), some (20, false)⟩, ⟨(some 26), .mv (.s 7), some (20, false)⟩, ⟨(some 27), .iadr 2 (.s 25) (.s 26), some (20, false)⟩, ⟨(some 28), .load (some 2) (.s 27), some (20, false)⟩, ⟨(some 29), .call (.c (.fn (.func 44) [] [])) [(.s 24), (.s 28)], some (20, false)⟩, ⟨(some 30), .pick (.s 20) (.c (.dat (.bool true))) (.s 29), none⟩, ⟨(some 5), .mv (.s 30), none⟩] (some []) [0, 1, 5, 6, 7])
 (.reg [⟨(some 31), .mv (.s 6), none⟩, ⟨(some 32), .mv (.s 31), none⟩, ⟨(some 33), .mv (.s 1), some (32, false)⟩, ⟨(some 34), .mv (.s 7), some (32, false)⟩, ⟨(some 35), .iadr 2 (.s 33) (.s 34), some (32, false)⟩, ⟨(some 36), .load (some 2) (.s 35), some (32, false)⟩, ⟨(some 37), .mv (.s 0), some (32, false)⟩, ⟨(some 38), .mv (.s 7), some (32, false)⟩, ⟨(some 39), .iadr 2 (.s 37) (.s 38), some (32, false)⟩, ⟨(some 40), .load (some 2) (.s 39), some (32, false)⟩, ⟨(some 41), .call (.c (.fn (.func 44) [] [])) [(.s 36), (.s 40)], some (32, false)⟩, ⟨(some 42), .pick (.s 32) (.c (.dat (.bool true))) (.s 41), none⟩, ⟨(some 6), .mv (.s 42), none⟩] (some []) [0, 1, 5, 6, 7])))
 (.reg [⟨(some 17), .mv (.s 7), none⟩, ⟨(some 18), .bin .add (.s 17) (.c (.dat (.int .i64 1))), none⟩, ⟨(some 7), .mv (.s 18), none⟩] none [0, 1, 5, 6, 7])))
def xf23 : XFunc := ⟨2, [.tmp 4], (.seq (.reg [⟨(some 4), .mv (.c (.dat (.int .i64 0))), none⟩] none [0, 1])
 (.seq (.seq (.reg [⟨(some 8), .mv (.s 0), none⟩, ⟨(some 9), .len false (.s 8), none⟩, ⟨(some 10), .mv (.s 1), none⟩, ⟨(some 11), .len false (.s 10), none⟩, ⟨(some 12), .eqv true false [.i] (.s 9) (.s 11), none⟩] none [0, 1, 12])
 (.cond (.s 12) (.seq (.reg [⟨(some 4), .mv (.c (.dat (.int .i64 0))), none⟩] none [4])
 (.ret [4])) .skip))
 (.seq (.reg [⟨(some 5), .mv (.c (.dat (.bool false))), none⟩] none [0, 1, 5])
 (.seq (.reg [⟨(some 6), .mv (.c (.dat (.bool false))), none⟩] none [0, 1, 5, 6])
 (.seq (.seq (.reg [⟨(some 7), .mv (.c (.dat (.int .i64 0))), none⟩] none [0, 1, 5, 6, 7])
 (.block 0 (.loop xf23_k0 xf23_b0)))
 (.seq (.block 2 (.seq (.reg [⟨(some 44), .mv (.s 5), none⟩, ⟨(some 45), .mv (.s 44), none⟩, ⟨(some 46), .mv (.s 6), some (45, true)⟩, ⟨(some 47), .pick (.s 45) (.s 46) (.c (.dat (.bool false))), none⟩, ⟨(some 43), .mv (.s 47), none⟩] none [5, 6, 43])
 (.cond (.s 43) (.seq (.reg [⟨(some 4), .mv (.c (.dat (.int .i64 4))), none⟩] none [4])
 (.ret [4])) (.seq (.reg [⟨(some 49), .mv (.s 5), none⟩, ⟨(some 48), .mv (.s 49), none⟩] none [6, 48])
 (.cond (.s 48) (.seq (.reg [⟨(some 4), .mv (.c (.dat (.int .i64 2))), none⟩] none [4])
 (.ret [4])) (.seq (.reg [⟨(some 51), .mv (.s 6), none⟩, ⟨(some 50), .mv (.s 51), none⟩] none [50])
 (.cond (.s 50) (.seq (.reg [⟨(some 4), .mv (.c (.dat (.int .i64 3))), none⟩] none [4])
 (.ret [4])) .skip)))))))
 (.seq (.reg [⟨(some 4), .mv (.c (.dat (.int .i64 1))), none⟩] none [4])
 (.ret [4]))))))))⟩

-- (*amnesia/amnesiaplain.Given).Voices
def xf24_k0 : List (Nat × Option (Nat × Nat × Bool)) := [(0, none), (1, none), (5, some (56, 2, false)), (6, none)]
def xf24_b0 : XCode := (.seq (.seq (.reg [⟨(some 7), .mv (.s 6), none⟩, ⟨(some 8), .mv (.s 1), none⟩, ⟨(some 9), .len false (.s 8), none⟩, ⟨(some 10), .bin .lss (.s 7) (.s 9), none⟩] none [0, 1, 5, 6, 10])
 (.cond (.s 10) .skip (.exit 0 [5])))
 (.seq (.block 1 (.reg [⟨(some 13), .mv (.s 5), none⟩, ⟨(some 14), .mv (.s 1), none⟩, ⟨(some 15), .mv (.s 6), none⟩, ⟨(some 16), .iadr 2 (.s 14) (.s 15), none⟩, ⟨(some 17), .fadr 0 (.s 16), none⟩, ⟨(some 18), .load none (.s 17), none⟩, ⟨(some 19), .mv (.s 0), none⟩, ⟨(some 20), .mv (.s 1), none⟩, ⟨(some 21), .mv (.s 6), none⟩, ⟨(some 22), .iadr 2 (.s 20) (.s 21), none⟩, ⟨(some 23), .fadr 1 (.s 22), none⟩, ⟨(some 24), .load none (.s 23), none⟩, ⟨(some 25), .call (.c (.fn (.func 10) [] [])) [(.s 19), (.s 24)], none⟩, ⟨(some 26), .build [(.dat (.int .i64 0)), (.nil 26 2 true)] [(0, 1, (.s 18)), (1, 1, (.s 25))], none⟩, ⟨(some 27), .bsl 56 2 false 1 [(.dat (.int .i64 0)), (.nil 26 2 true)] [(0, 2, (.s 26))], none⟩, ⟨(some 28), .app 56 2 32 false (.s 13) (.s 27), none⟩, ⟨(some 5), .mv (.s 28), none⟩] (some [(3, 12), (5, 12)]) [0, 1, 5, 6]))
 (.reg [⟨(some 11), .mv (.s 6), none⟩, ⟨(some 12), .bin .add (.s 11) (.c (.dat (.int .i64 1))), none⟩, ⟨(some 6), .mv (.s 12), none⟩] none [0, 1, 5, 6])))
def xf24 : XFunc := ⟨2, [.tmp 4], (.seq (.reg [⟨(some 4), .mv (.c (.nil 56 2 false)), none⟩] none [0, 1])
 (.seq (.reg [⟨(some 5), .mv (.c (.nil 56 2 false)), none⟩] none [0, 1, 5])
 (.seq (.seq (.reg [⟨(some 6), .mv (.c (.dat (.int .i64 0))), none⟩] none [0, 1, 5, 6])
 (.block 0 (.loop xf24_k0 xf24_b0)))
 (.seq (.reg [⟨(some 29), .mv (.s 5), none⟩, ⟨(some 4), .mv (.s 29), none⟩] none [4])
 (.ret [4])))))⟩

-- amnesia/vector.Consistent
def xf25_k1 : List (Nat × Option (Nat × Nat × Bool)) := [(0, none), (5, none), (11, none), (12, none), (16, none), (17, none)]
def xf25_b1 : XCode := (.seq (.reg [⟨(some 18), .bin .lss (.s 17) (.s 16), none⟩] none [0, 5, 11, 12, 16, 17, 18])
 (.seq (.cond (.s 18) .skip (.exit 2 [0, 11, 12]))
 (.seq (.block 3 (.seq (.reg [⟨(some 19), .mv (.s 17), none⟩, ⟨(some 6), .mv (.s 19), none⟩] none [0, 5, 6, 11, 12, 16, 17])
 (.seq (.reg [⟨(some 20), .mv (.s 0), none⟩, ⟨(some 21), .mv (.s 6), none⟩, ⟨(some 22), .iadr 2 (.s 20) (.s 21), none⟩, ⟨(some 23), .fadr 1 (.s 22), none⟩, ⟨(some 24), .load none (.s 23), none⟩, ⟨(some 25), .mv (.s 0), none⟩, ⟨(some 26), .mv (.s 5), none⟩, ⟨(some 27), .iadr 2 (.s 25) (.s 26), none⟩, ⟨(some 28), .load (some 2) (.s 27), none⟩, ⟨(some 29), .call (.c (.fn (.func 30) [] [])) [(.s 24), (.s 28)], none⟩] (some []) [0, 5, 6, 11, 12, 16, 17, 29])
 (.cond (.s 29) (.seq (.reg [⟨(some 30), .mv (.s 5), none⟩, ⟨(some 31), .mv (.s 6), none⟩, ⟨(some 2), .mv (.s 30), none⟩, ⟨(some 3), .mv (.s 31), none⟩, ⟨(some 4), .mv (.c (.dat (.int .i64 0))), none⟩] none [2, 3, 4])
 (.ret [2, 3, 4])) .skip))))
 (.reg [⟨(some 32), .bin .add (.s 17) (.c (.dat (.int .i64 1))), none⟩, ⟨(some 17), .mv (.s 32), none⟩] none [0, 5, 11, 12, 16, 17]))))
def xf25_k0 : List (Nat × Option (Nat × Nat × Bool)) := [(0, none), (11, none), (12, none)]
def xf25_b0 : XCode := (.seq (.reg [⟨(some 13), .bin .lss (.s 12) (.s 11), none⟩] none [0, 11, 12, 13])
 (.seq (.cond (.s 13) .skip (.exit 0 []))
 (.seq (.block 1 (.seq (.reg [⟨(some 14), .mv (.s 12), none⟩, ⟨(some 5), .mv (.s 14), none⟩] none [0, 5, 11, 12])
 (.seq (.reg [⟨(some 15), .mv (.s 0), none⟩, ⟨(some 16), .len false (.s 15), none⟩, ⟨(some 17), .mv (.c (.dat (.int .i64 0))), none⟩] none [0, 5, 11, 12, 16, 17])
 (.block 2 (.loop xf25_k1 xf25_b1)))))
 (.reg [⟨(some 33), .bin .add (.s 12) (.c (.dat (.int .i64 1))), none⟩, ⟨(some 12), .mv (.s 33), none⟩] none [0, 11, 12]))))
def xf25 : XFunc := ⟨1, [.tmp 2, .tmp 3, .tmp 4], (.seq (.reg [⟨(some 2), .mv (.c (.dat (.int .i64 0))), none⟩, ⟨(some 3), .mv (.c (.dat (.int .i64 0))), none⟩, ⟨(some 4), .mv (.c (.dat (.int .i64 0))), none⟩] none [0])
 (.seq (.seq (.reg [⟨(some 7), .mv (.s 0), none⟩, ⟨(some 8), .call (.c (.fn (.func 45) [] [])) [(.s 7)], none⟩, ⟨(some 9), .not (.s 8), none⟩] none [0, 9])
 (.cond (.s 9) (.seq (.reg [⟨(some 2), .mv (.c (.dat (.int .i64 0))), none⟩, ⟨(some 3), .mv (.c (.dat (.int .i64 0))), none⟩, ⟨(some 4), .mv (.c (.dat (.int .i64 30))), none⟩] none [2, 3, 4])
 (.ret [2, 3, 4])) .skip))
 (.seq (.seq (.reg [⟨(some 10), .mv (.s 0), none⟩, ⟨(some 11), .len false (.s 10), none⟩, ⟨(some 12), .mv (.c (.dat (.int .i64 0))), none⟩] none [0, 11, 12])
 (.block 0 (.loop xf25_k0 xf25_b0)))
 (.seq (.reg [⟨(some 2), .mv (.c (.dat (.int .i64 (-1)))), none⟩, ⟨(some 3), .mv (.c (.dat (.int .i64 (-1)))), none⟩, ⟨(some 4), .mv (.c (.dat (.int .i64 0))), none⟩] none [2, 3, 4])
 (.ret [2, 3, 4])))))⟩

-- amnesia/amnesiaref03.Consistent
def xf26_k1 : List (Nat × Option (Nat × Nat × Bool)) := [(0, none), (6, none), (7, none)]
def xf26_b1 : XCode := (.seq (.seq (.reg [⟨(some 19), .mv (.s 7), none⟩, ⟨(some 20), .mv (.s 0), none⟩, ⟨(some 21), .len false (.s 20), none⟩, ⟨(some 22), .bin .lss (.s 19) (.s 21), none⟩] none [0, 6, 7, 22])
 (.cond (.s 22) .skip (.exit 2 [0, 6])))
 (.seq (.block 3 (.seq (.reg [⟨(some 25), .mv (.s 0), none⟩, ⟨(some 26), .mv (.s 7), none⟩, ⟨(some 27), .iadr 2 (.s 25) (.s 26), none⟩, ⟨(some 28), .fadr 1 (.s 27), none⟩, ⟨(some 29), .load none (.s 28), none⟩, ⟨(some 30), .mv (.s 0), none⟩, ⟨(some 31), .mv (.s 6), none⟩, ⟨(some 32), .iadr 2 (.s 30) (.s 31), none⟩, ⟨(some 33), .load (some 2) (.s 32), none⟩, ⟨(some 34), .call (.c (.fn (.func 31) [] [])) [(.s 29), (.s 33)], none⟩] (some []) [0, 6, 7, 34])
 (.cond (.s 34) (.seq (.reg [⟨(some 35), .mv (.s 6), none⟩, ⟨(some 36), .mv (.s 7), none⟩, ⟨(some 2), .mv (.s 35), none⟩, ⟨(some 3), .mv (.s 36), none⟩, ⟨(some 4), .mv (.c (.dat (.int .i64 0))), none⟩] none [2, 3, 4])
 (.ret [2, 3, 4])) .skip)))
 (.reg [⟨(some 23), .mv (.s 7), none⟩, ⟨(some 24), .bin .add (.s 23) (.c (.dat (.int .i64 1))), none⟩, ⟨(some 7), .mv (.s 24), none⟩] none [0, 6, 7])))
def xf26_k0 : List (Nat × Option (Nat × Nat × Bool)) := [(0, none), (6, none)]
def xf26_b0 : XCode := (.seq (.seq (.reg [⟨(some 13), .mv (.s 6), none⟩, ⟨(some 14), .mv (.s 0), none⟩, ⟨(some 15), .len false (.s 14), none⟩, ⟨(some 16), .bin .lss (.s 13) (.s 15), none⟩] none [0, 6, 16])
 (.cond (.s 16) .skip (.exit 0 [])))
 (.seq (.block 1 (.seq (.reg [⟨(some 7), .mv (.c (.dat (.int .i64 0))), none⟩] none [0, 6, 7])
 (.block 2 (.loop xf26_k1 xf26_b1))))
 (.reg [⟨(some 17), .mv (.s 6), none⟩, ⟨(some 18), .bin .add (.s 17) (.c (.dat (.int .i64 1))), none⟩, ⟨(some 6), .mv (.s 18), none⟩] none [0, 6])))
def xf26 : XFunc := ⟨1, [.tmp 2, .tmp 3, .tmp 4], (.seq (.reg [⟨(some 2), .mv (.c (.dat (.int .i64 0))), none⟩, ⟨(some 3), .mv (.c (.dat (.int .i64 0))), none⟩, ⟨(some 4), .mv (.c (.dat (.int .i64 0))), none⟩] none [0])
 (.seq (.reg [⟨(some 8), .mv (.s 0), none⟩, ⟨(some 9), .call (.c (.fn (.func 46) [] [])) [(.s 8)], none⟩, ⟨(some 5), .mv (.s 9), none⟩] none [0, 5])
 (.seq (.seq (.reg [⟨(some 10), .mv (.s 5), none⟩, ⟨(some 11), .eqv true false [.i] (.s 10) (.c (.dat (.int .i64 0))), none⟩] none [0, 5, 11])
 (.cond (.s 11) (.seq (.reg [⟨(some 12), .mv (.s 5), none⟩, ⟨(some 2), .mv (.c (.dat (.int .i64 0))), none⟩, ⟨(some 3), .mv (.c (.dat (.int .i64 0))), none⟩, ⟨(some 4), .mv (.s 12), none⟩] none [2, 3, 4])
 (.ret [2, 3, 4])) .skip))
 (.seq (.seq (.reg [⟨(some 6), .mv (.c (.dat (.int .i64 0))), none⟩] none [0, 6])
 (.block 0 (.loop xf26_k0 xf26_b0)))
 (.seq (.reg [⟨(some 2), .mv (.c (.dat (.int .i64 (-1)))), none⟩, ⟨(some 3), .mv (.c (.dat (.int .i64 (-1)))), none⟩, ⟨(some 4), .mv (.c (.dat (.int .i64 0))), none⟩] none [2, 3, 4])
 (.ret [2, 3, 4]))))))⟩

-- amnesia/vector.Alive
def xf27_k0 : List (Nat × Option (Nat × Nat × Bool)) := [(0, none), (4, some (23, 1, false)), (15, some (56, 2, false)), (16, none), (17, none)]
def xf27_b0 : XCode := (.seq (.reg [⟨(some 18), .bin .lss (.s 17) (.s 16), none⟩] none [0, 4, 15, 16, 17, 18])
 (.seq (.cond (.s 18) .skip (.exit 0 [0, 4]))
 (.seq (.block 1 (.seq (.reg [⟨(some 19), .iadr 2 (.s 15) (.s 17), none⟩, ⟨(some 20), .load (some 2) (.s 19), none⟩, ⟨(some 6), .alloc [(.dat (.int .i64 0)), (.nil 26 2 true)], none⟩, ⟨none, .store 2 (.s 6) (.s 20), none⟩] none [0, 4, 6, 15, 16, 17])
 (.reg [⟨(some 21), .mv (.s 4), none⟩, ⟨(some 22), .fadr 1 (.s 6), none⟩, ⟨(some 23), .load none (.s 22), none⟩, ⟨(some 24), .bsl 23 1 false 1 [(.nil 26 2 true)] [(0, 1, (.s 23))], none⟩, ⟨(some 25), .app 23 1 24 false (.s 21) (.s 24), none⟩, ⟨(some 4), .mv (.s 25), none⟩] none [0, 4, 15, 16, 17])))
 (.reg [⟨(some 26), .bin .add (.s 17) (.c (.dat (.int .i64 1))), none⟩, ⟨(some 17), .mv (.s 26), none⟩] none [0, 4, 15, 16, 17]))))
def xf27_k1 : List (Nat × Option (Nat × Nat × Bool)) := [(7, some (26, 2, true)), (9, some (3, 1, true)), (32, some (56, 2, false)), (33, none), (34, none)]
def xf27_b1 : XCode := (.seq (.reg [⟨(some 35), .bin .lss (.s 34) (.s 33), none⟩] none [7, 9, 32, 33, 34, 35])
 (.seq (.cond (.s 35) .skip (.exit 2 [9]))
 (.seq (.block 3 (.seq (.reg [⟨(some 36), .mv (.s 34), none⟩, ⟨(some 37), .iadr 2 (.s 32) (.s 34), none⟩, ⟨(some 38), .load (some 2) (.s 37), none⟩, ⟨(some 11), .alloc [(.dat (.int .i64 0)), (.nil 26 2 true)], none⟩, ⟨(some 10), .mv (.s 36), none⟩, ⟨none, .store 2 (.s 11) (.s 38), none⟩] none [7, 9, 10, 11, 32, 33, 34])
 (.seq (.reg [⟨(some 39), .mv (.s 7), none⟩, ⟨(some 40), .load (some 2) (.s 11), none⟩, ⟨(some 41), .call (.c (.fn (.func 30) [] [])) [(.s 39), (.s 40)], none⟩, ⟨(some 42), .not (.s 41), none⟩] none [7, 9, 10, 32, 33, 34, 42])
 (.cond (.s 42) (.reg [⟨(some 43), .mv (.s 9), none⟩, ⟨(some 44), .mv (.s 10), none⟩, ⟨(some 45), .bsl 3 1 true 1 [(.dat (.int .i64 0))] [(0, 1, (.s 44))], none⟩, ⟨(some 46), .app 3 1 8 true (.s 43) (.s 45), none⟩, ⟨(some 9), .mv (.s 46), none⟩] none [7, 9, 32, 33, 34]) .skip))))
 (.reg [⟨(some 47), .bin .add (.s 34) (.c (.dat (.int .i64 1))), none⟩, ⟨(some 34), .mv (.s 47), none⟩] none [7, 9, 32, 33, 34]))))
def xf27 : XFunc := ⟨1, [.tmp 2, .tmp 3], (.seq (.reg [⟨(some 2), .mv (.c (.nil 3 1 true)), none⟩, ⟨(some 3), .mv (.c (.dat (.int .i64 0))), none⟩] none [0])
 (.seq (.seq (.reg [⟨(some 12), .mv (.s 0), none⟩, ⟨(some 13), .call (.c (.fn (.func 45) [] [])) [(.s 12)], none⟩, ⟨(some 14), .not (.s 13), none⟩] none [0, 14])
 (.cond (.s 14) (.seq (.reg [⟨(some 2), .mv (.c (.nil 3 1 true)), none⟩, ⟨(some 3), .mv (.c (.dat (.int .i64 30))), none⟩] none [2, 3])
 (.ret [2, 3])) .skip))
 (.seq (.reg [⟨(some 4), .mv (.c (.nil 23 1 false)), none⟩] none [0, 4])
 (.seq (.seq (.reg [⟨(some 15), .mv (.s 0), none⟩, ⟨(some 16), .len false (.s 15), none⟩, ⟨(some 17), .mv (.c (.dat (.int .i64 0))), none⟩] none [0, 4, 15, 16, 17])
 (.block 0 (.loop xf27_k0 xf27_b0)))
 (.seq (.reg [⟨(some 28), .mv (.s 4), none⟩, ⟨(some 29), .call (.c (.fn (.func 20) [] [])) [(.s 28)], none⟩, ⟨(some 27), .mv (.s 29), none⟩, ⟨(some 30), .ext (.s 27) 0, none⟩, ⟨(some 31), .ext (.s 27) 1, none⟩, ⟨(some 7), .mv (.s 30), none⟩, ⟨(some 8), .mv (.s 31), none⟩] none [0, 7])
 (.seq (.reg [⟨(some 9), .mv (.c (.nil 3 1 true)), none⟩] none [0, 7, 9])
 (.seq (.seq (.reg [⟨(some 32), .mv (.s 0), none⟩, ⟨(some 33), .len false (.s 32), none⟩, ⟨(some 34), .mv (.c (.dat (.int .i64 0))), none⟩] none [7, 9, 32, 33, 34])
 (.block 2 (.loop xf27_k1 xf27_b1)))
 (.seq (.reg [⟨(some 48), .mv (.s 9), none⟩, ⟨(some 2), .mv (.s 48), none⟩, ⟨(some 3), .mv (.c (.dat (.int .i64 0))), none⟩] none [2, 3])
 (.ret [2, 3])))))))))⟩

-- amnesia/amnesiaref03.Alive
def xf28_k1 : List (Nat × Option (Nat × Nat × Bool)) := [(0, none), (5, some (3, 1, true)), (6, none), (7, none), (8, none)]
def xf28_b1 : XCode := (.seq (.seq (.reg [⟨(some 20), .mv (.s 8), none⟩, ⟨(some 21), .mv (.s 0), none⟩, ⟨(some 22), .len false (.s 21), none⟩, ⟨(some 23), .bin .lss (.s 20) (.s 22), none⟩] none [0, 5, 6, 7, 8, 23])
 (.cond (.s 23) .skip (.exit 2 [0, 5, 6, 7])))
 (.seq (.block 3 (.reg [⟨(some 26), .mv (.s 7), none⟩, ⟨(some 27), .mv (.s 26), none⟩, ⟨(some 28), .mv (.s 0), some (27, false)⟩, ⟨(some 29), .mv (.s 8), some (27, false)⟩, ⟨(some 30), .iadr 2 (.s 28) (.s 29), some (27, false)⟩, ⟨(some 31), .fadr 1 (.s 30), some (27, false)⟩, ⟨(some 32), .load none (.s 31), some (27, false)⟩, ⟨(some 33), .mv (.s 0), some (27, false)⟩, ⟨(some 34), .mv (.s 6), some (27, false)⟩, ⟨(some 35), .iadr 2 (.s 33) (.s 34), some (27, false)⟩, ⟨(some 36), .load (some 2) (.s 35), some (27, false)⟩, ⟨(some 37), .call (.c (.fn (.func 31) [] [])) [(.s 32), (.s 36)], some (27, false)⟩, ⟨(some 38), .pick (.s 27) (.c (.dat (.bool true))) (.s 37), none⟩, ⟨(some 7), .mv (.s 38), none⟩] (some []) [0, 5, 6, 7, 8]))
 (.reg [⟨(some 24), .mv (.s 8), none⟩, ⟨(some 25), .bin .add (.s 24) (.c (.dat (.int .i64 1))), none⟩, ⟨(some 8), .mv (.s 25), none⟩] none [0, 5, 6, 7, 8])))
def xf28_k0 : List (Nat × Option (Nat × Nat × Bool)) := [(0, none), (5, some (3, 1, true)), (6, none)]
def xf28_b0 : XCode := (.seq (.seq (.reg [⟨(some 14), .mv (.s 6), none⟩, ⟨(some 15), .mv (.s 0), none⟩, ⟨(some 16), .len false (.s 15), none⟩, ⟨(some 17), .bin .lss (.s 14) (.s 16), none⟩] none [0, 5, 6, 17])
 (.cond (.s 17) .skip (.exit 0 [5])))
 (.seq (.block 1 (.seq (.reg [⟨(some 7), .mv (.c (.dat (.bool false))), none⟩] none [0, 5, 6, 7])
 (.seq (.seq (.reg [⟨(some 8), .mv (.c (.dat (.int .i64 0))), none⟩] none [0, 5, 6, 7, 8])
 (.block 2 (.loop xf28_k1 xf28_b1)))
 (.seq (.reg [⟨(some 39), .mv (.s 7), none⟩, ⟨(some 40), .not (.s 39), none⟩] none [0, 5, 6, 40])
 (.cond (.s 40) (.reg [⟨(some 41), .mv (.s 5), none⟩, ⟨(some 42), .mv (.s 6), none⟩, ⟨(some 43), .bsl 3 1 true 1 [(.dat (.int .i64 0))] [(0, 1, (.s 42))], none⟩, ⟨(some 44), .app 3 1 8 true (.s 41) (.s 43), none⟩, ⟨(some 5), .mv (.s 44), none⟩] none [0, 5, 6]) .skip)))))
 (.reg [⟨(some 18), .mv (.s 6), none⟩, ⟨(some 19), .bin .add (.s 18) (.c (.dat (.int .i64 1))), none⟩, ⟨(some 6), .mv (.s 19), none⟩] none [0, 5, 6])))
def xf28 : XFunc := ⟨1, [.tmp 2, .tmp 3], (.seq (.reg [⟨(some 2), .mv (.c (.nil 3 1 true)), none⟩, ⟨(some 3), .mv (.c (.dat (.int .i64 0))), none⟩] none [0])
 (.seq (.reg [⟨(some 9), .mv (.s 0), none⟩, ⟨(some 10), .call (.c (.fn (.func 46) [] [])) [(.s 9)], none⟩, ⟨(some 4), .mv (.s 10), none⟩] none [0, 4])
 (.seq (.seq (.reg [⟨(some 11), .mv (.s 4), none⟩, ⟨(some 12), .eqv true false [.i] (.s 11) (.c (.dat (.int .i64 0))), none⟩] none [0, 4, 12])
 (.cond (.s 12) (.seq (.reg [⟨(some 13), .mv (.s 4), none⟩, ⟨(some 2), .mv (.c (.nil 3 1 true)), none⟩, ⟨(some 3), .mv (.s 13), none⟩] none [2, 3])
 (.ret [2, 3])) .skip))
 (.seq (.reg [⟨(some 5), .mv (.c (.nil 3 1 true)), none⟩] none [0, 5])
 (.seq (.seq (.reg [⟨(some 6), .mv (.c (.dat (.int .i64 0))), none⟩] none [0, 5, 6])
 (.block 0 (.loop xf28_k0 xf28_b0)))
 (.seq (.reg [⟨(some 45), .mv (.s 5), none⟩, ⟨(some 2), .mv (.s 45), none⟩, ⟨(some 3), .mv (.c (.dat (.int .i64 0))), none⟩] none [2, 3])
 (.ret [2, 3])))))))⟩

-- amnesia/amnesiaplain.SameInts
def xf29_k0 : List (Nat × Option (Nat × Nat × Bool)) := [(0, none), (1, none), (5, none)]
def xf29_b0 : XCode := (.seq (.seq (.reg [⟨(some 11), .mv (.s 5), none⟩, ⟨(some 12), .mv (.s 0), none⟩, ⟨(some 13), .len false (.s 12), none⟩, ⟨(some 14), .bin .lss (.s 11) (.s 13), none⟩] none [0, 1, 5, 14])
 (.cond (.s 14) .skip (.exit 0 [])))
 (.seq (.block 1 (.seq (.reg [⟨(some 17), .mv (.s 0), none⟩, ⟨(some 18), .mv (.s 5), none⟩, ⟨(some 19), .iadr 1 (.s 17) (.s 18), none⟩, ⟨(some 20), .load none (.s 19), none⟩, ⟨(some 21), .mv (.s 1), none⟩, ⟨(some 22), .mv (.s 5), none⟩, ⟨(some 23), .iadr 1 (.s 21) (.s 22), none⟩, ⟨(some 24), .load none (.s 23), none⟩, ⟨(some 25), .eqv true false [.i] (.s 20) (.s 24), none⟩] (some []) [0, 1, 5, 25])
 (.cond (.s 25) (.seq (.reg [⟨(some 4), .mv (.c (.dat (.bool false))), none⟩] none [4])
 (.ret [4])) .skip)))
 (.reg [⟨(some 15), .mv (.s 5), none⟩, ⟨(some 16), .bin .add (.s 15) (.c (.dat (.int .i64 1))), none⟩, ⟨(some 5), .mv (.s 16), none⟩] none [0, 1, 5])))
def xf29 : XFunc := ⟨2, [.tmp 4], (.seq (.reg [⟨(some 4), .mv (.c (.dat (.bool false))), none⟩] none [0, 1])
 (.seq (.seq (.reg [⟨(some 6), .mv (.s 0), none⟩, ⟨(some 7), .len false (.s 6), none⟩, ⟨(some 8), .mv (.s 1), none⟩, ⟨(some 9), .len false (.s 8), none⟩, ⟨(some 10), .eqv true false [.i] (.s 7) (.s 9), none⟩] none [0, 1, 10])
 (.cond (.s 10) (.seq (.reg [⟨(some 4), .mv (.c (.dat (.bool false))), none⟩] none [4])
 (.ret [4])) .skip))
 (.seq (.seq (.reg [⟨(some 5), .mv (.c (.dat (.int .i64 0))), none⟩] none [0, 1, 5])
 (.block 0 (.loop xf29_k0 xf29_b0)))
 (.seq (.reg [⟨(some 4), .mv (.c (.dat (.bool true))), none⟩] none [4])
 (.ret [4])))))⟩

-- amnesia/vector.Over
def xf30 : XFunc := ⟨2, [.tmp 4], (.seq (.reg [⟨(some 3), .box (.s 1), none⟩, ⟨(some 4), .mv (.c (.dat (.bool false))), none⟩] none [0, 3])
 (.seq (.reg [⟨(some 5), .load (some 2) (.s 3), none⟩, ⟨(some 6), .call (.c (.fn (.func 47) [] [])) [(.s 5)], none⟩, ⟨(some 7), .mv (.s 6), none⟩, ⟨(some 8), .mv (.s 0), some (7, true)⟩, ⟨(some 9), .len false (.s 8), some (7, true)⟩, ⟨(some 10), .fadr 1 (.s 3), some (7, true)⟩, ⟨(some 11), .load none (.s 10), some (7, true)⟩, ⟨(some 12), .len false (.s 11), some (7, true)⟩, ⟨(some 13), .eqv false false [.i] (.s 9) (.s 12), some (7, true)⟩, ⟨(some 14), .pick (.s 7) (.s 13) (.c (.dat (.bool false))), none⟩, ⟨(some 15), .mv (.s 14), none⟩, ⟨(some 16), .mv (.s 0), some (15, true)⟩, ⟨(some 17), .fadr 0 (.s 3), some (15, true)⟩, ⟨(some 18), .load none (.s 17), some (15, true)⟩, ⟨(some 19), .iadr 2 (.s 16) (.s 18), some (15, true)⟩, ⟨(some 20), .load (some 2) (.s 19), some (15, true)⟩, ⟨(some 21), .fadr 1 (.s 3), some (15, true)⟩, ⟨(some 22), .load none (.s 21), some (15, true)⟩, ⟨(some 23), .fadr 0 (.s 3), some (15, true)⟩, ⟨(some 24), .load none (.s 23), some (15, true)⟩, ⟨(some 25), .iadr 2 (.s 22) (.s 24), some (15, true)⟩, ⟨(some 26), .load (some 2) (.s 25), some (15, true)⟩, ⟨(some 27), .call (.c (.fn (.func 43) [] [])) [(.s 20), (.s 26)], some (15, true)⟩, ⟨(some 28), .bin .gtr (.s 27) (.c (.dat (.int .i64 0))), some (15, true)⟩, ⟨(some 29), .pick (.s 15) (.s 28) (.c (.dat (.bool false))), none⟩, ⟨(some 4), .mv (.s 29), none⟩] (some []) [4])
 (.ret [4])))⟩

-- amnesia/amnesiaref03.Over
def xf31 : XFunc := ⟨2, [.tmp 4], (.seq (.reg [⟨(some 3), .box (.s 1), none⟩, ⟨(some 4), .mv (.c (.dat (.bool false))), none⟩] none [0, 3])
 (.seq (.seq (.reg [⟨(some 5), .mv (.s 0), none⟩, ⟨(some 6), .call (.c (.fn (.func 39) [] [])) [(.s 5)], none⟩, ⟨(some 7), .not (.s 6), none⟩, ⟨(some 8), .mv (.s 7), none⟩, ⟨(some 9), .load (some 2) (.s 3), some (8, false)⟩, ⟨(some 10), .call (.c (.fn (.func 48) [] [])) [(.s 9)], some (8, false)⟩, ⟨(some 11), .not (.s 10), some (8, false)⟩, ⟨(some 12), .pick (.s 8) (.c (.dat (.bool true))) (.s 11), none⟩, ⟨(some 13), .mv (.s 12), none⟩, ⟨(some 14), .mv (.s 0), some (13, false)⟩, ⟨(some 15), .len false (.s 14), some (13, false)⟩, ⟨(some 16), .fadr 1 (.s 3), some (13, false)⟩, ⟨(some 17), .load none (.s 16), some (13, false)⟩, ⟨(some 18), .len false (.s 17), some (13, false)⟩, ⟨(some 19), .eqv true false [.i] (.s 15) (.s 18), some (13, false)⟩, ⟨(some 20), .pick (.s 13) (.c (.dat (.bool true))) (.s 19), none⟩] none [0, 3, 20])
 (.cond (.s 20) (.seq (.reg [⟨(some 4), .mv (.c (.dat (.bool false))), none⟩] none [4])
 (.ret [4])) .skip))
 (.seq (.reg [⟨(some 21), .fadr 1 (.s 3), none⟩, ⟨(some 22), .load none (.s 21), none⟩, ⟨(some 23), .fadr 0 (.s 3), none⟩, ⟨(some 24), .load none (.s 23), none⟩, ⟨(some 25), .iadr 2 (.s 22) (.s 24), none⟩, ⟨(some 26), .load (some 2) (.s 25), none⟩, ⟨(some 27), .mv (.s 0), none⟩, ⟨(some 28), .fadr 0 (.s 3), none⟩, ⟨(some 29), .load none (.s 28), none⟩, ⟨(some 30), .iadr 2 (.s 27) (.s 29), none⟩, ⟨(some 31), .load (some 2) (.s 30), none⟩, ⟨(some 32), .call (.c (.fn (.func 44) [] [])) [(.s 26), (.s 31)], none⟩, ⟨(some 4), .mv (.s 32), none⟩] (some []) [4])
 (.ret [4]))))⟩

-- amnesia/amnesialaw03.alive
def xf32 : XFunc := ⟨0, [.tmp 0], (.seq (.reg [⟨(some 0), .mv (.c (.dat (.bool false))), none⟩] none [])
 (.seq (.reg [⟨(some 7), .bsl 24 1 true 3 [(.dat (.int .u64 0)), (.dat (.int .u64 0)), (.dat (.int .u64 0))] [(0, 1, (.c (.dat (.int .u64 0)))), (1, 1, (.c (.dat (.int .u64 0)))), (2, 1, (.c (.dat (.int .u64 0))))], none⟩, ⟨(some 8), .call (.c (.fn (.func 49) [] [])) [(.s 7)], none⟩, ⟨(some 9), .build [(.dat (.int .i64 0)), (.nil 26 2 true)] [(0, 1, (.c (.dat (.int .i64 0)))), (1, 1, (.s 8))], none⟩, ⟨(some 10), .bsl 24 1 true 3 [(.dat (.int .u64 0)), (.dat (.int .u64 0)), (.dat (.int .u64 0))] [(0, 1, (.c (.dat (.int .u64 4)))), (1, 1, (.c (.dat (.int .u64 0)))), (2, 1, (.c (.dat (.int .u64 0))))], none⟩, ⟨(some 11), .call (.c (.fn (.func 49) [] [])) [(.s 10)], none⟩, ⟨(some 12), .build [(.dat (.int .i64 0)), (.nil 26 2 true)] [(0, 1, (.c (.dat (.int .i64 1)))), (1, 1, (.s 11))], none⟩, ⟨(some 13), .bsl 56 2 false 2 [(.dat (.int .i64 0)), (.nil 26 2 true), (.dat (.int .i64 0)), (.nil 26 2 true)] [(0, 2, (.s 9)), (2, 2, (.s 12))], none⟩, ⟨(some 14), .call (.c (.fn (.func 25) [] [])) [(.s 13)], none⟩, ⟨(some 6), .mv (.s 14), none⟩, ⟨(some 15), .ext (.s 6) 0, none⟩, ⟨(some 16), .ext (.s 6) 1, none⟩, ⟨(some 17), .ext (.s 6) 2, none⟩, ⟨(some 1), .mv (.s 15), none⟩, ⟨(some 2), .mv (.s 16), none⟩, ⟨(some 3), .mv (.s 17), none⟩] none [1, 2, 3])
 (.seq (.reg [⟨(some 19), .bsl 24 1 true 3 [(.dat (.int .u64 0)), (.dat (.int .u64 0)), (.dat (.int .u64 0))] [(0, 1, (.c (.dat (.int .u64 5)))), (1, 1, (.c (.dat (.int .u64 0)))), (2, 1, (.c (.dat (.int .u64 0))))], none⟩, ⟨(some 20), .call (.c (.fn (.func 49) [] [])) [(.s 19)], none⟩, ⟨(some 21), .bsl 24 1 true 3 [(.dat (.int .u64 0)), (.dat (.int .u64 0)), (.dat (.int .u64 0))] [(0, 1, (.c (.dat (.int .u64 0)))), (1, 1, (.c (.dat (.int .u64 0)))), (2, 1, (.c (.dat (.int .u64 7))))], none⟩, ⟨(some 22), .call (.c (.fn (.func 49) [] [])) [(.s 21)], none⟩, ⟨(some 23), .bsl 24 1 true 3 [(.dat (.int .u64 0)), (.dat (.int .u64 0)), (.dat (.int .u64 0))] [(0, 1, (.c (.dat (.int .u64 3)))), (1, 1, (.c (.dat (.int .u64 1)))), (2, 1, (.c (.dat (.int .u64 0))))], none⟩, ⟨(some 24), .call (.c (.fn (.func 49) [] [])) [(.s 23)], none⟩, ⟨(some 25), .bsl 23 1 false 3 [(.nil 26 2 true), (.nil 26 2 true), (.nil 26 2 true)] [(0, 1, (.s 20)), (1, 1, (.s 22)), (2, 1, (.s 24))], none⟩, ⟨(some 26), .call (.c (.fn (.func 20) [] [])) [(.s 25)], none⟩, ⟨(some 18), .mv (.s 26), none⟩, ⟨(some 27), .ext (.s 18) 0, none⟩, ⟨(some 28), .ext (.s 18) 1, none⟩, ⟨(some 4), .mv (.s 27), none⟩, ⟨(some 5), .mv (.s 28), none⟩] none [1, 2, 3, 4, 5])
 (.seq (.reg [⟨(some 29), .mv (.s 3), none⟩, ⟨(some 30), .call (.c (.fn (.func 15) [] [])) [(.s 29)], none⟩, ⟨(some 31), .eqv false false [.i] (.s 30) (.c (.dat (.int .i64 0))), none⟩, ⟨(some 32), .mv (.s 31), none⟩, ⟨(some 33), .mv (.s 1), some (32, true)⟩, ⟨(some 34), .eqv false false [.i] (.s 33) (.c (.dat (.int .i64 0))), some (32, true)⟩, ⟨(some 35), .pick (.s 32) (.s 34) (.c (.dat (.bool false))), none⟩, ⟨(some 36), .mv (.s 35), none⟩, ⟨(some 37), .mv (.s 2), some (36, true)⟩, ⟨(some 38), .eqv false false [.i] (.s 37) (.c (.dat (.int .i64 1))), some (36, true)⟩, ⟨(some 39), .pick (.s 36) (.s 38) (.c (.dat (.bool false))), none⟩, ⟨(some 40), .mv (.s 39), none⟩, ⟨(some 41), .mv (.s 5), some (40, true)⟩, ⟨(some 42), .call (.c (.fn (.func 15) [] [])) [(.s 41)], some (40, true)⟩, ⟨(some 43), .eqv false false [.i] (.s 42) (.c (.dat (.int .i64 0))), some (40, true)⟩, ⟨(some 44), .pick (.s 40) (.s 43) (.c (.dat (.bool false))), none⟩, ⟨(some 45), .mv (.s 44), none⟩, ⟨(some 46), .mv (.s 4), some (45, true)⟩, ⟨(some 47), .bsl 24 1 true 3 [(.dat (.int .u64 0)), (.dat (.int .u64 0)), (.dat (.int .u64 0))] [(0, 1, (.c (.dat (.int .u64 5)))), (1, 1, (.c (.dat (.int .u64 1)))), (2, 1, (.c (.dat (.int .u64 7))))], some (45, true)⟩, ⟨(some 48), .call (.c (.fn (.func 49) [] [])) [(.s 47)], some (45, true)⟩, ⟨(some 49), .call (.c (.fn (.func 16) [] [])) [(.s 46), (.s 48)], some (45, true)⟩, ⟨(some 50), .pick (.s 45) (.s 49) (.c (.dat (.bool false))), none⟩, ⟨(some 0), .mv (.s 50), none⟩] none [0])
 (.ret [0])))))⟩

-- amnesia/amnesialaw03.part
def xf33_k0 : List (Nat × Option (Nat × Nat × Bool)) := [(0, none), (1, none), (5, some (56, 2, false)), (6, none)]
def xf33_b0 : XCode := (.seq (.seq (.reg [⟨(some 7), .mv (.s 6), none⟩, ⟨(some 8), .mv (.s 0), none⟩, ⟨(some 9), .len false (.s 8), none⟩, ⟨(some 10), .bin .lss (.s 7) (.s 9), none⟩] none [0, 1, 5, 6, 10])
 (.cond (.s 10) .skip (.exit 0 [5])))
 (.seq (.block 1 (.seq (.reg [⟨(some 13), .mv (.s 6), none⟩, ⟨(some 14), .mv (.s 1), none⟩, ⟨(some 15), .len false (.s 14), none⟩, ⟨(some 16), .bin .lss (.s 13) (.s 15), none⟩, ⟨(some 17), .mv (.s 16), none⟩, ⟨(some 18), .mv (.s 1), some (17, true)⟩, ⟨(some 19), .mv (.s 6), some (17, true)⟩, ⟨(some 20), .iadr 1 (.s 18) (.s 19), some (17, true)⟩, ⟨(some 21), .load none (.s 20), some (17, true)⟩, ⟨(some 22), .pick (.s 17) (.s 21) (.c (.dat (.bool false))), none⟩] none [0, 1, 5, 6, 22])
 (.cond (.s 22) (.reg [⟨(some 23), .mv (.s 5), none⟩, ⟨(some 24), .mv (.s 0), none⟩, ⟨(some 25), .mv (.s 6), none⟩, ⟨(some 26), .iadr 2 (.s 24) (.s 25), none⟩, ⟨(some 27), .load (some 2) (.s 26), none⟩, ⟨(some 28), .bsl 56 2 false 1 [(.dat (.int .i64 0)), (.nil 26 2 true)] [(0, 2, (.s 27))], none⟩, ⟨(some 29), .app 56 2 32 false (.s 23) (.s 28), none⟩, ⟨(some 5), .mv (.s 29), none⟩] none [0, 1, 5, 6]) .skip)))
 (.reg [⟨(some 11), .mv (.s 6), none⟩, ⟨(some 12), .bin .add (.s 11) (.c (.dat (.int .i64 1))), none⟩, ⟨(some 6), .mv (.s 12), none⟩] none [0, 1, 5, 6])))
def xf33 : XFunc := ⟨2, [.tmp 4], (.seq (.reg [⟨(some 4), .mv (.c (.nil 56 2 false)), none⟩] none [0, 1])
 (.seq (.reg [⟨(some 5), .mv (.c (.nil 56 2 false)), none⟩] none [0, 1, 5])
 (.seq (.seq (.reg [⟨(some 6), .mv (.c (.dat (.int .i64 0))), none⟩] none [0, 1, 5, 6])
 (.block 0 (.loop xf33_k0 xf33_b0)))
 (.seq (.reg [⟨(some 30), .mv (.s 5), none⟩, ⟨(some 4), .mv (.s 30), none⟩] none [4])
 (.ret [4])))))⟩

-- (*amnesia/amnesiaplain.Book).Vector
def xf34 : XFunc := ⟨2, [], (.seq (.reg [⟨(some 4), .mv (.s 1), none⟩, ⟨(some 5), .len false (.s 4), none⟩, ⟨(some 6), .bin .gtr (.s 5) (.c (.dat (.int .i64 0))), none⟩] none [0, 1, 6])
 (.cond (.s 6) (.reg [⟨(some 7), .mv (.s 0), none⟩, ⟨(some 8), .mv (.s 0), none⟩, ⟨(some 9), .nilchk (.s 8), none⟩, ⟨(some 10), .fadr 2 (.s 9), none⟩, ⟨(some 11), .load none (.s 10), none⟩, ⟨(some 12), .mv (.s 1), none⟩, ⟨(some 13), .bsl 23 1 false 1 [(.nil 26 2 true)] [(0, 1, (.s 12))], none⟩, ⟨(some 14), .app 23 1 24 false (.s 11) (.s 13), none⟩, ⟨(some 15), .nilchk (.s 7), none⟩, ⟨(some 16), .fadr 2 (.s 15), none⟩, ⟨none, .store 1 (.s 16) (.s 14), none⟩] none []) .skip))⟩

-- (*amnesia/amnesiaplain.Book).Ints
def xf35 : XFunc := ⟨2, [], (.seq (.reg [⟨(some 4), .mv (.s 1), none⟩, ⟨(some 5), .len false (.s 4), none⟩, ⟨(some 6), .bin .gtr (.s 5) (.c (.dat (.int .i64 0))), none⟩] none [0, 1, 6])
 (.cond (.s 6) (.reg [⟨(some 7), .mv (.s 0), none⟩, ⟨(some 8), .mv (.s 0), none⟩, ⟨(some 9), .nilchk (.s 8), none⟩, ⟨(some 10), .fadr 1 (.s 9), none⟩, ⟨(some 11), .load none (.s 10), none⟩, ⟨(some 12), .mv (.s 1), none⟩, ⟨(some 13), .bsl 62 1 false 1 [(.nil 3 1 true)] [(0, 1, (.s 12))], none⟩, ⟨(some 14), .app 62 1 24 false (.s 11) (.s 13), none⟩, ⟨(some 15), .nilchk (.s 7), none⟩, ⟨(some 16), .fadr 1 (.s 15), none⟩, ⟨none, .store 1 (.s 16) (.s 14), none⟩] none []) .skip))⟩

-- (*amnesia/amnesiaplain.Book).Apart
def xf36 : XFunc := ⟨1, [.tmp 2], (.seq (.reg [⟨(some 2), .mv (.c (.dat (.bool false))), none⟩] none [0])
 (.seq (.reg [⟨(some 3), .mv (.s 0), none⟩, ⟨(some 4), .call (.c (.fn (.func 50) [] [])) [(.s 3)], none⟩, ⟨(some 5), .mv (.s 4), none⟩, ⟨(some 6), .mv (.s 0), some (5, true)⟩, ⟨(some 7), .call (.c (.fn (.func 51) [] [])) [(.s 6)], some (5, true)⟩, ⟨(some 8), .pick (.s 5) (.s 7) (.c (.dat (.bool false))), none⟩, ⟨(some 9), .mv (.s 8), none⟩, ⟨(some 10), .mv (.s 0), some (9, true)⟩, ⟨(some 11), .call (.c (.fn (.func 52) [] [])) [(.s 10)], some (9, true)⟩, ⟨(some 12), .pick (.s 9) (.s 11) (.c (.dat (.bool false))), none⟩, ⟨(some 13), .mv (.s 12), none⟩, ⟨(some 14), .mv (.s 0), some (13, true)⟩, ⟨(some 15), .call (.c (.fn (.func 53) [] [])) [(.s 14)], some (13, true)⟩, ⟨(some 16), .pick (.s 13) (.s 15) (.c (.dat (.bool false))), none⟩, ⟨(some 17), .mv (.s 16), none⟩, ⟨(some 18), .mv (.s 0), some (17, true)⟩, ⟨(some 19), .call (.c (.fn (.func 54) [] [])) [(.s 18)], some (17, true)⟩, ⟨(some 20), .pick (.s 17) (.s 19) (.c (.dat (.bool false))), none⟩, ⟨(some 21), .mv (.s 20), none⟩, ⟨(some 22), .mv (.s 0), some (21, true)⟩, ⟨(some 23), .call (.c (.fn (.func 55) [] [])) [(.s 22)], some (21, true)⟩, ⟨(some 24), .pick (.s 21) (.s 23) (.c (.dat (.bool false))), none⟩, ⟨(some 25), .mv (.s 24), none⟩, ⟨(some 26), .mv (.s 0), some (25, true)⟩, ⟨(some 27), .call (.c (.fn (.func 56) [] [])) [(.s 26)], some (25, true)⟩, ⟨(some 28), .pick (.s 25) (.s 27) (.c (.dat (.bool false))), none⟩, ⟨(some 29), .mv (.s 28), none⟩, ⟨(some 30), .mv (.s 0), some (29, true)⟩, ⟨(some 31), .call (.c (.fn (.func 57) [] [])) [(.s 30)], some (29, true)⟩, ⟨(some 32), .pick (.s 29) (.s 31) (.c (.dat (.bool false))), none⟩, ⟨(some 33), .mv (.s 32), none⟩, ⟨(some 34), .mv (.s 0), some (33, true)⟩, ⟨(some 35), .call (.c (.fn (.func 58) [] [])) [(.s 34)], some (33, true)⟩, ⟨(some 36), .pick (.s 33) (.s 35) (.c (.dat (.bool false))), none⟩, ⟨(some 37), .mv (.s 36), none⟩, ⟨(some 38), .mv (.s 0), some (37, true)⟩, ⟨(some 39), .call (.c (.fn (.func 59) [] [])) [(.s 38)], some (37, true)⟩, ⟨(some 40), .pick (.s 37) (.s 39) (.c (.dat (.bool false))), none⟩, ⟨(some 2), .mv (.s 40), none⟩] none [2])
 (.ret [2])))⟩

-- amnesia/amnesiaplain.CopyVector
def xf37 : XFunc := ⟨1, [.tmp 2], (.seq (.reg [⟨(some 2), .mv (.c (.nil 26 2 true)), none⟩] none [0])
 (.seq (.reg [⟨(some 3), .mv (.s 0), none⟩, ⟨(some 4), .app 26 2 16 true (.c (.nil 26 2 true)) (.s 3), none⟩, ⟨(some 2), .mv (.s 4), none⟩] none [2])
 (.ret [2])))⟩

-- amnesia/vector.fits
def xf38 : XFunc := ⟨1, [.tmp 2], (.seq (.reg [⟨(some 2), .mv (.c (.dat (.bool false))), none⟩] none [0])
 (.seq (.reg [⟨(some 3), .mv (.s 0), none⟩, ⟨(some 4), .len false (.s 3), none⟩, ⟨(some 5), .bin .geq (.s 4) (.c (.dat (.int .i64 1))), none⟩, ⟨(some 6), .mv (.s 5), none⟩, ⟨(some 7), .mv (.s 0), some (6, true)⟩, ⟨(some 8), .len false (.s 7), some (6, true)⟩, ⟨(some 9), .bin .leq (.s 8) (.c (.dat (.int .i64 7))), some (6, true)⟩, ⟨(some 10), .pick (.s 6) (.s 9) (.c (.dat (.bool false))), none⟩, ⟨(some 2), .mv (.s 10), none⟩] none [2])
 (.ret [2])))⟩

-- amnesia/amnesiaref03.may
def xf39 : XFunc := ⟨1, [.tmp 2], (.seq (.reg [⟨(some 2), .mv (.c (.dat (.bool false))), none⟩] none [0])
 (.seq (.reg [⟨(some 3), .mv (.s 0), none⟩, ⟨(some 4), .len false (.s 3), none⟩, ⟨(some 5), .bin .geq (.s 4) (.c (.dat (.int .i64 1))), none⟩, ⟨(some 6), .mv (.s 5), none⟩, ⟨(some 7), .mv (.s 0), some (6, true)⟩, ⟨(some 8), .len false (.s 7), some (6, true)⟩, ⟨(some 9), .bin .leq (.s 8) (.c (.dat (.int .i64 7))), some (6, true)⟩, ⟨(some 10), .pick (.s 6) (.s 9) (.c (.dat (.bool false))), none⟩, ⟨(some 2), .mv (.s 10), none⟩] none [2])
 (.ret [2])))⟩

-- amnesia/amnesiaplain.SameState
def xf41 : XFunc := ⟨2, [.tmp 4], (.seq (.reg [⟨(some 2), .box (.s 0), none⟩, ⟨(some 3), .box (.s 1), none⟩, ⟨(some 4), .mv (.c (.dat (.bool false))), none⟩] none [2, 3])
 (.seq (.reg [⟨(some 5), .fadr 0 (.s 2), none⟩, ⟨(some 6), .load none (.s 5), none⟩, ⟨(some 7), .fadr 0 (.s 3), none⟩, ⟨(some 8), .load none (.s 7), none⟩, ⟨(some 9), .eqv false false [.i] (.s 6) (.s 8), none⟩, ⟨(some 10), .mv (.s 9), none⟩, ⟨(some 11), .fadr 1 (.s 2), some (10, true)⟩, ⟨(some 12), .load none (.s 11), some (10, true)⟩, ⟨(some 13), .fadr 1 (.s 3), some (10, true)⟩, ⟨(some 14), .load none (.s 13), some (10, true)⟩, ⟨(some 15), .eqv false false [.i] (.s 12) (.s 14), some (10, true)⟩, ⟨(some 16), .pick (.s 10) (.s 15) (.c (.dat (.bool false))), none⟩, ⟨(some 17), .mv (.s 16), none⟩, ⟨(some 18), .fadr 2 (.s 2), some (17, true)⟩, ⟨(some 19), .load none (.s 18), some (17, true)⟩, ⟨(some 20), .fadr 2 (.s 3), some (17, true)⟩, ⟨(some 21), .load none (.s 20), some (17, true)⟩, ⟨(some 22), .eqv false false [.i] (.s 19) (.s 21), some (17, true)⟩, ⟨(some 23), .pick (.s 17) (.s 22) (.c (.dat (.bool false))), none⟩, ⟨(some 24), .mv (.s 23), none⟩, ⟨(some 25), .fadr 3 (.s 2), some (24, true)⟩, ⟨(some 26), .load none (.s 25), some (24, true)⟩, ⟨(some 27), .fadr 3 (.s 3), some (24, true)⟩, ⟨(some 28), .load none (.s 27), some (24, true)⟩, ⟨(some 29), .eqv false false [.i] (.s 26) (.s 28), some (24, true)⟩, ⟨(some 30), .pick (.s 24) (.s 29) (.c (.dat (.bool false))), none⟩, ⟨(some 31), .mv (.s 30), none⟩, ⟨(some 32), .fadr 5 (.s 2), some (31, true)⟩, ⟨(some 33), .load none (.s 32), some (31, true)⟩, ⟨(some 34), .fadr 5 (.s 3), some (31, true)⟩, ⟨(some 35), .load none (.s 34), some (31, true)⟩, ⟨(some 36), .eqv false false [.i] (.s 33) (.s 35), some (31, true)⟩, ⟨(some 37), .pick (.s 31) (.s 36) (.c (.dat (.bool false))), none⟩, ⟨(some 38), .mv (.s 37), none⟩, ⟨(some 39), .fadr 7 (.s 2), some (38, true)⟩, ⟨(some 40), .load none (.s 39), some (38, true)⟩, ⟨(some 41), .fadr 7 (.s 3), some (38, true)⟩, ⟨(some 42), .load none (.s 41), some (38, true)⟩, ⟨(some 43), .eqv false false [.i] (.s 40) (.s 42), some (38, true)⟩, ⟨(some 44), .pick (.s 38) (.s 43) (.c (.dat (.bool false))), none⟩, ⟨(some 45), .mv (.s 44), none⟩, ⟨(some 46), .fadr 4 (.s 2), some (45, true)⟩, ⟨(some 47), .load none (.s 46), some (45, true)⟩, ⟨(some 48), .fadr 4 (.s 3), some (45, true)⟩, ⟨(some 49), .load none (.s 48), some (45, true)⟩, ⟨(some 50), .call (.c (.fn (.func 42) [] [])) [(.s 47), (.s 49)], some (45, true)⟩, ⟨(some 51), .pick (.s 45) (.s 50) (.c (.dat (.bool false))), none⟩, ⟨(some 52), .mv (.s 51), none⟩, ⟨(some 53), .fadr 6 (.s 2), some (52, true)⟩, ⟨(some 54), .load none (.s 53), some (52, true)⟩, ⟨(some 55), .fadr 6 (.s 3), some (52, true)⟩, ⟨(some 56), .load none (.s 55), some (52, true)⟩, ⟨(some 57), .call (.c (.fn (.func 16) [] [])) [(.s 54), (.s 56)], some (52, true)⟩, ⟨(some 58), .pick (.s 52) (.s 57) (.c (.dat (.bool false))), none⟩, ⟨(some 59), .mv (.s 58), none⟩, ⟨(some 60), .fadr 8 (.s 2), some (59, true)⟩, ⟨(some 61), .load none (.s 60), some (59, true)⟩, ⟨(some 62), .fadr 8 (.s 3), some (59, true)⟩, ⟨(some 63), .load none (.s 62), some (59, true)⟩, ⟨(some 64), .call (.c (.fn (.func 60) [] [])) [(.s 61), (.s 63)], some (59, true)⟩, ⟨(some 65), .pick (.s 59) (.s 64) (.c (.dat (.bool false))), none⟩, ⟨(some 66), .mv (.s 65), none⟩, ⟨(some 67), .fadr 9 (.s 2), some (66, true)⟩, ⟨(some 68), .load none (.s 67), some (66, true)⟩, ⟨(some 69), .fadr 9 (.s 3), some (66, true)⟩, ⟨(some 70), .load none (.s 69), some (66, true)⟩, ⟨(some 71), .call (.c (.fn (.func 61) [] [])) [(.s 68), (.s 70)], some (66, true)⟩, ⟨(some 72), .pick (.s 66) (.s 71) (.c (.dat (.bool false))), none⟩, ⟨(some 73), .mv (.s 72), none⟩, ⟨(some 74), .fadr 10 (.s 2), some (73, true)⟩, ⟨(some 75), .load none (.s 74), some (73, true)⟩, ⟨(some 76), .fadr 10 (.s 3), some (73, true)⟩, ⟨(some 77), .load none (.s 76), some (73, true)⟩, ⟨(some 78), .call (.c (.fn (.func 62) [] [])) [(.s 75), (.s 77)], some (73, true)⟩, ⟨(some 79), .pick (.s 73) (.s 78) (.c (.dat (.bool false))), none⟩, ⟨(some 80), .mv (.s 79), none⟩, ⟨(some 81), .fadr 11 (.s 2), some (80, true)⟩, ⟨(some 82), .load none (.s 81), some (80, true)⟩, ⟨(some 83), .fadr 11 (.s 3), some (80, true)⟩, ⟨(some 84), .load none (.s 83), some (80, true)⟩, ⟨(some 85), .call (.c (.fn (.func 63) [] [])) [(.s 82), (.s 84)], some (80, true)⟩, ⟨(some 86), .pick (.s 80) (.s 85) (.c (.dat (.bool false))), none⟩, ⟨(some 4), .mv (.s 86), none⟩] none [4])
 (.ret [4])))⟩

-- amnesia/amnesiaplain.SameEntries
def xf42_k0 : List (Nat × Option (Nat × Nat × Bool)) := [(0, none), (1, none), (5, none)]
def xf42_b0 : XCode := (.seq (.seq (.reg [⟨(some 11), .mv (.s 5), none⟩, ⟨(some 12), .mv (.s 0), none⟩, ⟨(some 13), .len false (.s 12), none⟩, ⟨(some 14), .bin .lss (.s 11) (.s 13), none⟩] none [0, 1, 5, 14])
 (.cond (.s 14) .skip (.exit 0 [])))
 (.seq (.block 1 (.seq (.reg [⟨(some 17), .mv (.s 0), none⟩, ⟨(some 18), .mv (.s 5), none⟩, ⟨(some 19), .iadr 5 (.s 17) (.s 18), none⟩, ⟨(some 20), .load (some 5) (.s 19), none⟩, ⟨(some 21), .mv (.s 1), none⟩, ⟨(some 22), .mv (.s 5), none⟩, ⟨(some 23), .iadr 5 (.s 21) (.s 22), none⟩, ⟨(some 24), .load (some 5) (.s 23), none⟩, ⟨(some 25), .eqv true true [.i, .i, .i, .i, .s] (.s 20) (.s 24), none⟩] (some []) [0, 1, 5, 25])
 (.cond (.s 25) (.seq (.reg [⟨(some 4), .mv (.c (.dat (.bool false))), none⟩] none [4])
 (.ret [4])) .skip)))
 (.reg [⟨(some 15), .mv (.s 5), none⟩, ⟨(some 16), .bin .add (.s 15) (.c (.dat (.int .i64 1))), none⟩, ⟨(some 5), .mv (.s 16), none⟩] none [0, 1, 5])))
def xf42 : XFunc := ⟨2, [.tmp 4], (.seq (.reg [⟨(some 4), .mv (.c (.dat (.bool false))), none⟩] none [0, 1])
 (.seq (.seq (.reg [⟨(some 6), .mv (.s 0), none⟩, ⟨(some 7), .len false (.s 6), none⟩, ⟨(some 8), .mv (.s 1), none⟩, ⟨(some 9), .len false (.s 8), none⟩, ⟨(some 10), .eqv true false [.i] (.s 7) (.s 9), none⟩] none [0, 1, 10])
 (.cond (.s 10) (.seq (.reg [⟨(some 4), .mv (.c (.dat (.bool false))), none⟩] none [4])
 (.ret [4])) .skip))
 (.seq (.seq (.reg [⟨(some 5), .mv (.c (.dat (.int .i64 0))), none⟩] none [0, 1, 5])
 (.block 0 (.loop xf42_k0 xf42_b0)))
 (.seq (.reg [⟨(some 4), .mv (.c (.dat (.bool true))), none⟩] none [4])
 (.ret [4])))))⟩

-- amnesia/nonce.Compare
def xf43 : XFunc := ⟨2, [.tmp 4], (.seq (.reg [⟨(some 2), .box (.s 0), none⟩, ⟨(some 3), .box (.s 1), none⟩, ⟨(some 4), .mv (.c (.dat (.int .i64 0))), none⟩] none [2, 3])
 (.seq (.block 0 (.seq (.reg [⟨(some 6), .load (some 2) (.s 2), none⟩, ⟨(some 7), .load (some 2) (.s 3), none⟩, ⟨(some 8), .eqv false true [.i, .i] (.s 6) (.s 7), none⟩, ⟨(some 5), .mv (.s 8), none⟩] none [2, 3, 5])
 (.cond (.s 5) (.seq (.reg [⟨(some 4), .mv (.c (.dat (.int .i64 0))), none⟩] none [4])
 (.ret [4])) (.seq (.seq (.reg [⟨(some 10), .fadr 0 (.s 2), none⟩, ⟨(some 11), .load none (.s 10), none⟩, ⟨(some 12), .fadr 0 (.s 3), none⟩, ⟨(some 13), .load none (.s 12), none⟩, ⟨(some 14), .bin .lss (.s 11) (.s 13), none⟩, ⟨(some 9), .mv (.s 14), none⟩] none [2, 3, 9])
 (.cond (.s 9) .skip (.reg [⟨(some 15), .fadr 0 (.s 2), none⟩, ⟨(some 16), .load none (.s 15), none⟩, ⟨(some 17), .fadr 0 (.s 3), none⟩, ⟨(some 18), .load none (.s 17), none⟩, ⟨(some 19), .eqv false false [.i] (.s 16) (.s 18), none⟩, ⟨(some 20), .mv (.s 19), none⟩, ⟨(some 21), .fadr 1 (.s 2), some (20, true)⟩, ⟨(some 22), .load none (.s 21), some (20, true)⟩, ⟨(some 23), .fadr 1 (.s 3), some (20, true)⟩, ⟨(some 24), .load none (.s 23), some (20, true)⟩, ⟨(some 25), .bin .lss (.s 22) (.s 24), some (20, true)⟩, ⟨(some 26), .pick (.s 20) (.s 25) (.c (.dat (.bool false))), none⟩, ⟨(some 9), .mv (.s 26), none⟩] none [9])))
 (.cond (.s 9) (.seq (.reg [⟨(some 4), .mv (.c (.dat (.int .i64 (-1)))), none⟩] none [4])
 (.ret [4])) .skip)))))
 (.seq (.reg [⟨(some 4), .mv (.c (.dat (.int .i64 1))), none⟩] none [4])
 (.ret [4]))))⟩

-- amnesia/amnesiaref03.below
def xf44 : XFunc := ⟨2, [.tmp 4], (.seq (.reg [⟨(some 2), .box (.s 0), none⟩, ⟨(some 3), .box (.s 1), none⟩, ⟨(some 4), .mv (.c (.dat (.bool false))), none⟩] none [2, 3])
 (.seq (.reg [⟨(some 5), .load (some 2) (.s 2), none⟩, ⟨(some 6), .load (some 2) (.s 3), none⟩, ⟨(some 7), .call (.c (.fn (.func 64) [] [])) [(.s 5), (.s 6)], none⟩, ⟨(some 8), .bin .lss (.s 7) (.c (.dat (.int .i64 0))), none⟩, ⟨(some 4), .mv (.s 8), none⟩] none [4])
 (.ret [4])))⟩

-- amnesia/vector.speak
def xf45_k0 : List (Nat × Option (Nat × Nat × Bool)) := [(0, none), (5, some (56, 2, false)), (6, none), (7, none)]
def xf45_b0 : XCode := (.seq (.reg [⟨(some 8), .bin .lss (.s 7) (.s 6), none⟩] none [0, 5, 6, 7, 8])
 (.seq (.cond (.s 8) .skip (.exit 0 []))
 (.seq (.block 1 (.seq (.reg [⟨(some 9), .iadr 2 (.s 5) (.s 7), none⟩, ⟨(some 10), .load (some 2) (.s 9), none⟩, ⟨(some 4), .alloc [(.dat (.int .i64 0)), (.nil 26 2 true)], none⟩, ⟨none, .store 2 (.s 4) (.s 10), none⟩] none [0, 4, 5, 6, 7])
 (.seq (.reg [⟨(some 11), .load (some 2) (.s 4), none⟩, ⟨(some 12), .call (.c (.fn (.func 47) [] [])) [(.s 11)], none⟩, ⟨(some 13), .not (.s 12), none⟩, ⟨(some 14), .mv (.s 13), none⟩, ⟨(some 15), .fadr 1 (.s 4), some (14, false)⟩, ⟨(some 16), .load none (.s 15), some (14, false)⟩, ⟨(some 17), .len false (.s 16), some (14, false)⟩, ⟨(some 18), .mv (.s 0), some (14, false)⟩, ⟨(some 19), .iadr 2 (.s 18) (.c (.dat (.int .i64 0))), some (14, false)⟩, ⟨(some 20), .fadr 1 (.s 19), some (14, false)⟩, ⟨(some 21), .load none (.s 20), some (14, false)⟩, ⟨(some 22), .len false (.s 21), some (14, false)⟩, ⟨(some 23), .eqv true false [.i] (.s 17) (.s 22), some (14, false)⟩, ⟨(some 24), .pick (.s 14) (.c (.dat (.bool true))) (.s 23), none⟩] (some []) [0, 5, 6, 7, 24])
 (.cond (.s 24) (.seq (.reg [⟨(some 2), .mv (.c (.dat (.bool false))), none⟩] none [2])
 (.ret [2])) .skip))))
 (.reg [⟨(some 25), .bin .add (.s 7) (.c (.dat (.int .i64 1))), none⟩, ⟨(some 7), .mv (.s 25), none⟩] none [0, 5, 6, 7]))))
def xf45 : XFunc := ⟨1, [.tmp 2], (.seq (.reg [⟨(some 2), .mv (.c (.dat (.bool false))), none⟩] none [0])
 (.seq (.seq (.reg [⟨(some 5), .mv (.s 0), none⟩, ⟨(some 6), .len false (.s 5), none⟩, ⟨(some 7), .mv (.c (.dat (.int .i64 0))), none⟩] none [0, 5, 6, 7])
 (.block 0 (.loop xf45_k0 xf45_b0)))
 (.seq (.reg [⟨(some 2), .mv (.c (.dat (.bool true))), none⟩] none [2])
 (.ret [2]))))⟩

-- amnesia/amnesiaref03.voices
def xf46_k0 : List (Nat × Option (Nat × Nat × Bool)) := [(0, none), (3, none)]
def xf46_b0 : XCode := (.seq (.seq (.reg [⟨(some 4), .mv (.s 3), none⟩, ⟨(some 5), .mv (.s 0), none⟩, ⟨(some 6), .len false (.s 5), none⟩, ⟨(some 7), .bin .lss (.s 4) (.s 6), none⟩] none [0, 3, 7])
 (.cond (.s 7) .skip (.exit 0 [])))
 (.seq (.block 1 (.seq (.reg [⟨(some 10), .mv (.s 0), none⟩, ⟨(some 11), .mv (.s 3), none⟩, ⟨(some 12), .iadr 2 (.s 10) (.s 11), none⟩, ⟨(some 13), .load (some 2) (.s 12), none⟩, ⟨(some 14), .call (.c (.fn (.func 48) [] [])) [(.s 13)], none⟩, ⟨(some 15), .not (.s 14), none⟩, ⟨(some 16), .mv (.s 15), none⟩, ⟨(some 17), .mv (.s 0), some (16, false)⟩, ⟨(some 18), .mv (.s 3), some (16, false)⟩, ⟨(some 19), .iadr 2 (.s 17) (.s 18), some (16, false)⟩, ⟨(some 20), .fadr 1 (.s 19), some (16, false)⟩, ⟨(some 21), .load none (.s 20), some (16, false)⟩, ⟨(some 22), .len false (.s 21), some (16, false)⟩, ⟨(some 23), .mv (.s 0), some (16, false)⟩, ⟨(some 24), .iadr 2 (.s 23) (.c (.dat (.int .i64 0))), some (16, false)⟩, ⟨(some 25), .fadr 1 (.s 24), some (16, false)⟩, ⟨(some 26), .load none (.s 25), some (16, false)⟩, ⟨(some 27), .len false (.s 26), some (16, false)⟩, ⟨(some 28), .eqv true false [.i] (.s 22) (.s 27), some (16, false)⟩, ⟨(some 29), .pick (.s 16) (.c (.dat (.bool true))) (.s 28), none⟩] (some []) [0, 3, 29])
 (.cond (.s 29) (.seq (.reg [⟨(some 2), .mv (.c (.dat (.int .i64 30))), none⟩] none [2])
 (.ret [2])) .skip)))
 (.reg [⟨(some 8), .mv (.s 3), none⟩, ⟨(some 9), .bin .add (.s 8) (.c (.dat (.int .i64 1))), none⟩, ⟨(some 3), .mv (.s 9), none⟩] none [0, 3])))
def xf46 : XFunc := ⟨1, [.tmp 2], (.seq (.reg [⟨(some 2), .mv (.c (.dat (.int .i64 0))), none⟩] none [0])
 (.seq (.seq (.reg [⟨(some 3), .mv (.c (.dat (.int .i64 0))), none⟩] none [0, 3])
 (.block 0 (.loop xf46_k0 xf46_b0)))
 (.seq (.reg [⟨(some 2), .mv (.c (.dat (.int .i64 0))), none⟩] none [2])
 (.ret [2]))))⟩

-- amnesia/vector.speaks
def xf47 : XFunc := ⟨1, [.tmp 2], (.seq (.reg [⟨(some 1), .box (.s 0), none⟩, ⟨(some 2), .mv (.c (.dat (.bool false))), none⟩] none [1])
 (.seq (.reg [⟨(some 3), .fadr 1 (.s 1), none⟩, ⟨(some 4), .load none (.s 3), none⟩, ⟨(some 5), .call (.c (.fn (.func 38) [] [])) [(.s 4)], none⟩, ⟨(some 6), .mv (.s 5), none⟩, ⟨(some 7), .fadr 0 (.s 1), some (6, true)⟩, ⟨(some 8), .load none (.s 7), some (6, true)⟩, ⟨(some 9), .bin .geq (.s 8) (.c (.dat (.int .i64 0))), some (6, true)⟩, ⟨(some 10), .pick (.s 6) (.s 9) (.c (.dat (.bool false))), none⟩, ⟨(some 11), .mv (.s 10), none⟩, ⟨(some 12), .fadr 0 (.s 1), some (11, true)⟩, ⟨(some 13), .load none (.s 12), some (11, true)⟩, ⟨(some 14), .fadr 1 (.s 1), some (11, true)⟩, ⟨(some 15), .load none (.s 14), some (11, true)⟩, ⟨(some 16), .len false (.s 15), some (11, true)⟩, ⟨(some 17), .bin .lss (.s 13) (.s 16), some (11, true)⟩, ⟨(some 18), .pick (.s 11) (.s 17) (.c (.dat (.bool false))), none⟩, ⟨(some 2), .mv (.s 18), none⟩] none [2])
 (.ret [2])))⟩

-- amnesia/amnesiaref03.mayVoice
def xf48 : XFunc := ⟨1, [.tmp 2], (.seq (.reg [⟨(some 1), .box (.s 0), none⟩, ⟨(some 2), .mv (.c (.dat (.bool false))), none⟩] none [1])
 (.seq (.reg [⟨(some 3), .fadr 1 (.s 1), none⟩, ⟨(some 4), .load none (.s 3), none⟩, ⟨(some 5), .call (.c (.fn (.func 39) [] [])) [(.s 4)], none⟩, ⟨(some 6), .mv (.s 5), none⟩, ⟨(some 7), .fadr 0 (.s 1), some (6, true)⟩, ⟨(some 8), .load none (.s 7), some (6, true)⟩, ⟨(some 9), .bin .geq (.s 8) (.c (.dat (.int .i64 0))), some (6, true)⟩, ⟨(some 10), .pick (.s 6) (.s 9) (.c (.dat (.bool false))), none⟩, ⟨(some 11), .mv (.s 10), none⟩, ⟨(some 12), .fadr 0 (.s 1), some (11, true)⟩, ⟨(some 13), .load none (.s 12), some (11, true)⟩, ⟨(some 14), .fadr 1 (.s 1), some (11, true)⟩, ⟨(some 15), .load none (.s 14), some (11, true)⟩, ⟨(some 16), .len false (.s 15), some (11, true)⟩, ⟨(some 17), .bin .lss (.s 13) (.s 16), some (11, true)⟩, ⟨(some 18), .pick (.s 11) (.s 17) (.c (.dat (.bool false))), none⟩, ⟨(some 2), .mv (.s 18), none⟩] none [2])
 (.ret [2])))⟩

-- amnesia/amnesialaw03.lo
def xf49_k0 : List (Nat × Option (Nat × Nat × Bool)) := [(0, none), (3, some (26, 2, true)), (4, none)]
def xf49_b0 : XCode := (.seq (.seq (.reg [⟨(some 5), .mv (.s 4), none⟩, ⟨(some 6), .mv (.s 0), none⟩, ⟨(some 7), .len false (.s 6), none⟩, ⟨(some 8), .bin .lss (.s 5) (.s 7), none⟩] none [0, 3, 4, 8])
 (.cond (.s 8) .skip (.exit 0 [3])))
 (.seq (.block 1 (.reg [⟨(some 11), .mv (.s 3), none⟩, ⟨(some 12), .mv (.s 0), none⟩, ⟨(some 13), .mv (.s 4), none⟩, ⟨(some 14), .iadr 1 (.s 12) (.s 13), none⟩, ⟨(some 15), .load none (.s 14), none⟩, ⟨(some 16), .build [(.dat (.int .u64 0)), (.dat (.int .u64 0))] [(1, 1, (.s 15))], none⟩, ⟨(some 17), .bsl 26 2 true 1 [(.dat (.int .u64 0)), (.dat (.int .u64 0))] [(0, 2, (.s 16))], none⟩, ⟨(some 18), .app 26 2 16 true (.s 11) (.s 17), none⟩, ⟨(some 3), .mv (.s 18), none⟩] none [0, 3, 4]))
 (.reg [⟨(some 9), .mv (.s 4), none⟩, ⟨(some 10), .bin .add (.s 9) (.c (.dat (.int .i64 1))), none⟩, ⟨(some 4), .mv (.s 10), none⟩] none [0, 3, 4])))
def xf49 : XFunc := ⟨1, [.tmp 2], (.seq (.reg [⟨(some 2), .mv (.c (.nil 26 2 true)), none⟩] none [0])
 (.seq (.reg [⟨(some 3), .mv (.c (.nil 26 2 true)), none⟩] none [0, 3])
 (.seq (.seq (.reg [⟨(some 4), .mv (.c (.dat (.int .i64 0))), none⟩] none [0, 3, 4])
 (.block 0 (.loop xf49_k0 xf49_b0)))
 (.seq (.reg [⟨(some 19), .mv (.s 3), none⟩, ⟨(some 2), .mv (.s 19), none⟩] none [2])
 (.ret [2])))))⟩

-- (*amnesia/amnesiaplain.Book).apartBytes
def xf50_k1 : List (Nat × Option (Nat × Nat × Bool)) := [(3, some (88, 1, false)), (4, none), (5, none)]
def xf50_b1 : XCode := (.seq (.seq (.reg [⟨(some 22), .mv (.s 5), none⟩, ⟨(some 23), .mv (.s 3), none⟩, ⟨(some 24), .mv (.s 4), none⟩, ⟨(some 25), .iadr 1 (.s 23) (.s 24), none⟩, ⟨(some 26), .load none (.s 25), none⟩, ⟨(some 27), .len false (.s 26), none⟩, ⟨(some 28), .bin .lss (.s 22) (.s 27), none⟩] none [3, 4, 5, 28])
 (.cond (.s 28) .skip (.exit 2 [3, 4])))
 (.seq (.block 3 (.reg [⟨(some 31), .mv (.s 3), none⟩, ⟨(some 32), .mv (.s 4), none⟩, ⟨(some 33), .iadr 1 (.s 31) (.s 32), none⟩, ⟨(some 34), .load none (.s 33), none⟩, ⟨(some 35), .mv (.s 5), none⟩, ⟨(some 36), .mv (.s 4), none⟩, ⟨(some 37), .mv (.s 5), none⟩, ⟨(some 38), .call (.c (.fn (.func 65) [] [])) [(.s 36), (.s 37)], none⟩, ⟨(some 39), .iadr 1 (.s 34) (.s 35), none⟩, ⟨none, .store 1 (.s 39) (.s 38), none⟩] (some [(2, 7), (3, 7)]) [3, 4, 5]))
 (.reg [⟨(some 29), .mv (.s 5), none⟩, ⟨(some 30), .bin .add (.s 29) (.c (.dat (.int .i64 1))), none⟩, ⟨(some 5), .mv (.s 30), none⟩] none [3, 4, 5])))
def xf50_k0 : List (Nat × Option (Nat × Nat × Bool)) := [(3, some (88, 1, false)), (4, none)]
def xf50_b0 : XCode := (.seq (.seq (.reg [⟨(some 16), .mv (.s 4), none⟩, ⟨(some 17), .mv (.s 3), none⟩, ⟨(some 18), .len false (.s 17), none⟩, ⟨(some 19), .bin .lss (.s 16) (.s 18), none⟩] none [3, 4, 19])
 (.cond (.s 19) .skip (.exit 0 [3])))
 (.seq (.block 1 (.seq (.reg [⟨(some 5), .mv (.c (.dat (.int .i64 0))), none⟩] none [3, 4, 5])
 (.block 2 (.loop xf50_k1 xf50_b1))))
 (.reg [⟨(some 20), .mv (.s 4), none⟩, ⟨(some 21), .bin .add (.s 20) (.c (.dat (.int .i64 1))), none⟩, ⟨(some 4), .mv (.s 21), none⟩] none [3, 4])))
def xf50_k3 : List (Nat × Option (Nat × Nat × Bool)) := [(3, some (88, 1, false)), (6, some (88, 1, false)), (7, none), (8, some (5, 1, true)), (9, none)]
def xf50_b3 : XCode := (.seq (.seq (.reg [⟨(some 50), .mv (.s 9), none⟩, ⟨(some 51), .bin .lss (.s 50) (.c (.dat (.int .i64 70))), none⟩] none [3, 6, 7, 8, 9, 51])
 (.cond (.s 51) .skip (.exit 6 [3, 6, 7, 8])))
 (.seq (.block 7 (.reg [⟨(some 54), .mv (.s 8), none⟩, ⟨(some 55), .mv (.s 7), none⟩, ⟨(some 56), .mv (.s 8), none⟩, ⟨(some 57), .len false (.s 56), none⟩, ⟨(some 58), .call (.c (.fn (.func 65) [] [])) [(.s 55), (.s 57)], none⟩, ⟨(some 59), .bsl 5 1 true 1 [(.dat (.int .u8 0))] [(0, 1, (.s 58))], none⟩, ⟨(some 60), .app 5 1 1 true (.s 54) (.s 59), none⟩, ⟨(some 8), .mv (.s 60), none⟩] none [3, 6, 7, 8, 9]))
 (.reg [⟨(some 52), .mv (.s 9), none⟩, ⟨(some 53), .bin .add (.s 52) (.c (.dat (.int .i64 1))), none⟩, ⟨(some 9), .mv (.s 53), none⟩] none [3, 6, 7, 8, 9])))
def xf50_k2 : List (Nat × Option (Nat × Nat × Bool)) := [(3, some (88, 1, false)), (6, some (88, 1, false)), (7, none)]
def xf50_b2 : XCode := (.seq (.seq (.reg [⟨(some 40), .mv (.s 7), none⟩, ⟨(some 41), .mv (.s 3), none⟩, ⟨(some 42), .len false (.s 41), none⟩, ⟨(some 43), .bin .lss (.s 40) (.s 42), none⟩] none [3, 6, 7, 43])
 (.cond (.s 43) .skip (.exit 4 [3, 6])))
 (.seq (.block 5 (.seq (.reg [⟨(some 46), .mv (.s 3), none⟩, ⟨(some 47), .mv (.s 7), none⟩, ⟨(some 48), .iadr 1 (.s 46) (.s 47), none⟩, ⟨(some 49), .load none (.s 48), none⟩, ⟨(some 8), .mv (.s 49), none⟩] none [3, 6, 7, 8])
 (.seq (.seq (.reg [⟨(some 9), .mv (.c (.dat (.int .i64 0))), none⟩] none [3, 6, 7, 8, 9])
 (.block 6 (.loop xf50_k3 xf50_b3)))
 (.reg [⟨(some 61), .mv (.s 6), none⟩, ⟨(some 62), .mv (.s 8), none⟩, ⟨(some 63), .bsl 88 1 false 1 [(.nil 5 1 true)] [(0, 1, (.s 62))], none⟩, ⟨(some 64), .app 88 1 24 false (.s 61) (.s 63), none⟩, ⟨(some 6), .mv (.s 64), none⟩] none [3, 6, 7]))))
 (.reg [⟨(some 44), .mv (.s 7), none⟩, ⟨(some 45), .bin .add (.s 44) (.c (.dat (.int .i64 1))), none⟩, ⟨(some 7), .mv (.s 45), none⟩] none [3, 6, 7])))
def xf50_k5 : List (Nat × Option (Nat × Nat × Bool)) := [(3, some (88, 1, false)), (6, some (88, 1, false)), (10, none), (11, none)]
def xf50_b5 : XCode := (.seq (.seq (.reg [⟨(some 71), .mv (.s 11), none⟩, ⟨(some 72), .mv (.s 6), none⟩, ⟨(some 73), .mv (.s 10), none⟩, ⟨(some 74), .iadr 1 (.s 72) (.s 73), none⟩, ⟨(some 75), .load none (.s 74), none⟩, ⟨(some 76), .len false (.s 75), none⟩, ⟨(some 77), .bin .lss (.s 71) (.s 76), none⟩] none [3, 6, 10, 11, 77])
 (.cond (.s 77) .skip (.exit 10 [3, 6, 10])))
 (.seq (.block 11 (.seq (.reg [⟨(some 80), .mv (.s 6), none⟩, ⟨(some 81), .mv (.s 10), none⟩, ⟨(some 82), .iadr 1 (.s 80) (.s 81), none⟩, ⟨(some 83), .load none (.s 82), none⟩, ⟨(some 84), .mv (.s 11), none⟩, ⟨(some 85), .iadr 1 (.s 83) (.s 84), none⟩, ⟨(some 86), .load none (.s 85), none⟩, ⟨(some 87), .mv (.s 10), none⟩, ⟨(some 88), .mv (.s 11), none⟩, ⟨(some 89), .call (.c (.fn (.func 65) [] [])) [(.s 87), (.s 88)], none⟩, ⟨(some 90), .eqv true false [.i] (.s 86) (.s 89), none⟩, ⟨(some 91), .mv (.s 90), none⟩, ⟨(some 92), .mv (.s 11), some (91, false)⟩, ⟨(some 93), .mv (.s 3), some (91, false)⟩, ⟨(some 94), .mv (.s 10), some (91, false)⟩, ⟨(some 95), .iadr 1 (.s 93) (.s 94), some (91, false)⟩, ⟨(some 96), .load none (.s 95), some (91, false)⟩, ⟨(some 97), .len false (.s 96), some (91, false)⟩, ⟨(some 98), .bin .lss (.s 92) (.s 97), some (91, false)⟩, ⟨(some 99), .mv (.s 98), some (91, false)⟩, ⟨(some 100), .mv (.s 3), some (99, true)⟩, ⟨(some 101), .mv (.s 10), some (99, true)⟩, ⟨(some 102), .iadr 1 (.s 100) (.s 101), some (99, true)⟩, ⟨(some 103), .load none (.s 102), some (99, true)⟩, ⟨(some 104), .mv (.s 11), some (99, true)⟩, ⟨(some 105), .iadr 1 (.s 103) (.s 104), some (99, true)⟩, ⟨(some 106), .load none (.s 105), some (99, true)⟩, ⟨(some 107), .mv (.s 10), some (99, true)⟩, ⟨(some 108), .mv (.s 11), some (99, true)⟩, ⟨(some 109), .call (.c (.fn (.func 65) [] [])) [(.s 107), (.s 108)], some (99, true)⟩, ⟨(some 110), .eqv true false [.i] (.s 106) (.s 109), some (99, true)⟩, ⟨(some 111), .pick (.s 99) (.s 110) (.c (.dat (.bool false))), some (91, false)⟩, ⟨(some 112), .pick (.s 91) (.c (.dat (.bool true))) (.s 111), none⟩] (some [(2, 9), (3, 9), (5, 9), (6, 9), (22, 29), (23, 29), (25, 29), (26, 29)]) [3, 6, 10, 11, 112])
 (.cond (.s 112) (.seq (.reg [⟨(some 2), .mv (.c (.dat (.bool false))), none⟩] none [2])
 (.ret [2])) .skip)))
 (.reg [⟨(some 78), .mv (.s 11), none⟩, ⟨(some 79), .bin .add (.s 78) (.c (.dat (.int .i64 1))), none⟩, ⟨(some 11), .mv (.s 79), none⟩] none [3, 6, 10, 11])))
def xf50_k4 : List (Nat × Option (Nat × Nat × Bool)) := [(3, some (88, 1, false)), (6, some (88, 1, false)), (10, none)]
def xf50_b4 : XCode := (.seq (.seq (.reg [⟨(some 65), .mv (.s 10), none⟩, ⟨(some 66), .mv (.s 3), none⟩, ⟨(some 67), .len false (.s 66), none⟩, ⟨(some 68), .bin .lss (.s 65) (.s 67), none⟩] none [3, 6, 10, 68])
 (.cond (.s 68) .skip (.exit 8 [])))
 (.seq (.block 9 (.seq (.reg [⟨(some 11), .mv (.c (.dat (.int .i64 0))), none⟩] none [3, 6, 10, 11])
 (.block 10 (.loop xf50_k5 xf50_b5))))
 (.reg [⟨(some 69), .mv (.s 10), none⟩, ⟨(some 70), .bin .add (.s 69) (.c (.dat (.int .i64 1))), none⟩, ⟨(some 10), .mv (.s 70), none⟩] none [3, 6, 10])))
def xf50 : XFunc := ⟨1, [.tmp 2], (.seq (.reg [⟨(some 2), .mv (.c (.dat (.bool false))), none⟩] none [0])
 (.seq (.reg [⟨(some 12), .mv (.s 0), none⟩, ⟨(some 13), .nilchk (.s 12), none⟩, ⟨(some 14), .fadr 0 (.s 13), none⟩, ⟨(some 15), .load none (.s 14), none⟩, ⟨(some 3), .mv (.s 15), none⟩] none [3])
 (.seq (.seq (.reg [⟨(some 4), .mv (.c (.dat (.int .i64 0))), none⟩] none [3, 4])
 (.block 0 (.loop xf50_k0 xf50_b0)))
 (.seq (.reg [⟨(some 6), .mv (.c (.nil 88 1 false)), none⟩] none [3, 6])
 (.seq (.seq (.reg [⟨(some 7), .mv (.c (.dat (.int .i64 0))), none⟩] none [3, 6, 7])
 (.block 4 (.loop xf50_k2 xf50_b2)))
 (.seq (.seq (.reg [⟨(some 10), .mv (.c (.dat (.int .i64 0))), none⟩] none [3, 6, 10])
 (.block 8 (.loop xf50_k4 xf50_b4)))
 (.seq (.reg [⟨(some 2), .mv (.c (.dat (.bool true))), none⟩] none [2])
 (.ret [2]))))))))⟩

-- (*amnesia/amnesiaplain.Book).apartInts
def xf51_k1 : List (Nat × Option (Nat × Nat × Bool)) := [(3, some (62, 1, false)), (4, none), (5, none)]
def xf51_b1 : XCode := (.seq (.seq (.reg [⟨(some 22), .mv (.s 5), none⟩, ⟨(some 23), .mv (.s 3), none⟩, ⟨(some 24), .mv (.s 4), none⟩, ⟨(some 25), .iadr 1 (.s 23) (.s 24), none⟩, ⟨(some 26), .load none (.s 25), none⟩, ⟨(some 27), .len false (.s 26), none⟩, ⟨(some 28), .bin .lss (.s 22) (.s 27), none⟩] none [3, 4, 5, 28])
 (.cond (.s 28) .skip (.exit 2 [3, 4])))
 (.seq (.block 3 (.reg [⟨(some 31), .mv (.s 3), none⟩, ⟨(some 32), .mv (.s 4), none⟩, ⟨(some 33), .iadr 1 (.s 31) (.s 32), none⟩, ⟨(some 34), .load none (.s 33), none⟩, ⟨(some 35), .mv (.s 5), none⟩, ⟨(some 36), .mv (.s 4), none⟩, ⟨(some 37), .mv (.s 5), none⟩, ⟨(some 38), .call (.c (.fn (.func 66) [] [])) [(.s 36), (.s 37)], none⟩, ⟨(some 39), .iadr 1 (.s 34) (.s 35), none⟩, ⟨none, .store 1 (.s 39) (.s 38), none⟩] (some [(2, 7), (3, 7)]) [3, 4, 5]))
 (.reg [⟨(some 29), .mv (.s 5), none⟩, ⟨(some 30), .bin .add (.s 29) (.c (.dat (.int .i64 1))), none⟩, ⟨(some 5), .mv (.s 30), none⟩] none [3, 4, 5])))
def xf51_k0 : List (Nat × Option (Nat × Nat × Bool)) := [(3, some (62, 1, false)), (4, none)]
def xf51_b0 : XCode := (.seq (.seq (.reg [⟨(some 16), .mv (.s 4), none⟩, ⟨(some 17), .mv (.s 3), none⟩, ⟨(some 18), .len false (.s 17), none⟩, ⟨(some 19), .bin .lss (.s 16) (.s 18), none⟩] none [3, 4, 19])
 (.cond (.s 19) .skip (.exit 0 [3])))
 (.seq (.block 1 (.seq (.reg [⟨(some 5), .mv (.c (.dat (.int .i64 0))), none⟩] none [3, 4, 5])
 (.block 2 (.loop xf51_k1 xf51_b1))))
 (.reg [⟨(some 20), .mv (.s 4), none⟩, ⟨(some 21), .bin .add (.s 20) (.c (.dat (.int .i64 1))), none⟩, ⟨(some 4), .mv (.s 21), none⟩] none [3, 4])))
def xf51_k3 : List (Nat × Option (Nat × Nat × Bool)) := [(3, some (62, 1, false)), (6, some (62, 1, false)), (7, none), (8, some (3, 1, true)), (9, none)]
def xf51_b3 : XCode := (.seq (.seq (.reg [⟨(some 50), .mv (.s 9), none⟩, ⟨(some 51), .bin .lss (.s 50) (.c (.dat (.int .i64 70))), none⟩] none [3, 6, 7, 8, 9, 51])
 (.cond (.s 51) .skip (.exit 6 [3, 6, 7, 8])))
 (.seq (.block 7 (.reg [⟨(some 54), .mv (.s 8), none⟩, ⟨(some 55), .mv (.s 7), none⟩, ⟨(some 56), .mv (.s 8), none⟩, ⟨(some 57), .len false (.s 56), none⟩, ⟨(some 58), .call (.c (.fn (.func 66) [] [])) [(.s 55), (.s 57)], none⟩, ⟨(some 59), .bsl 3 1 true 1 [(.dat (.int .i64 0))] [(0, 1, (.s 58))], none⟩, ⟨(some 60), .app 3 1 8 true (.s 54) (.s 59), none⟩, ⟨(some 8), .mv (.s 60), none⟩] none [3, 6, 7, 8, 9]))
 (.reg [⟨(some 52), .mv (.s 9), none⟩, ⟨(some 53), .bin .add (.s 52) (.c (.dat (.int .i64 1))), none⟩, ⟨(some 9), .mv (.s 53), none⟩] none [3, 6, 7, 8, 9])))
def xf51_k2 : List (Nat × Option (Nat × Nat × Bool)) := [(3, some (62, 1, false)), (6, some (62, 1, false)), (7, none)]
def xf51_b2 : XCode := (.seq (.seq (.reg [⟨(some 40), .mv (.s 7), none⟩, ⟨(some 41), .mv (.s 3), none⟩, ⟨(some 42), .len false (.s 41), none⟩, ⟨(some 43), .bin .lss (.s 40) (.s 42), none⟩] none [3, 6, 7, 43])
 (.cond (.s 43) .skip (.exit 4 [3, 6])))
 (.seq (.block 5 (.seq (.reg [⟨(some 46), .mv (.s 3), none⟩, ⟨(some 47), .mv (.s 7), none⟩, ⟨(some 48), .iadr 1 (.s 46) (.s 47), none⟩, ⟨(some 49), .load none (.s 48), none⟩, ⟨(some 8), .mv (.s 49), none⟩] none [3, 6, 7, 8])
 (.seq (.seq (.reg [⟨(some 9), .mv (.c (.dat (.int .i64 0))), none⟩] none [3, 6, 7, 8, 9])
 (.block 6 (.loop xf51_k3 xf51_b3)))
 (.reg [⟨(some 61), .mv (.s 6), none⟩, ⟨(some 62), .mv (.s 8), none⟩, ⟨(some 63), .bsl 62 1 false 1 [(.nil 3 1 true)] [(0, 1, (.s 62))], none⟩, ⟨(some 64), .app 62 1 24 false (.s 61) (.s 63), none⟩, ⟨(some 6), .mv (.s 64), none⟩] none [3, 6, 7]))))
 (.reg [⟨(some 44), .mv (.s 7), none⟩, ⟨(some 45), .bin .add (.s 44) (.c (.dat (.int .i64 1))), none⟩, ⟨(some 7), .mv (.s 45), none⟩] none [3, 6, 7])))
def xf51_k5 : List (Nat × Option (Nat × Nat × Bool)) := [(3, some (62, 1, false)), (6, some (62, 1, false)), (10, none), (11, none)]
def xf51_b5 : XCode := (.seq (.seq (.reg [⟨(some 71), .mv (.s 11), none⟩, ⟨(some 72), .mv (.s 6), none⟩, ⟨(some 73), .mv (.s 10), none⟩, ⟨(some 74), .iadr 1 (.s 72) (.s 73), none⟩, ⟨(some 75), .load none (.s 74), none⟩, ⟨(some 76), .len false (.s 75), none⟩, ⟨(some 77), .bin .lss (.s 71) (.s 76), none⟩] none [3, 6, 10, 11, 77])
 (.cond (.s 77) .skip (.exit 10 [3, 6, 10])))
 (.seq (.block 11 (.seq (.reg [⟨(some 80), .mv (.s 6), none⟩, ⟨(some 81), .mv (.s 10), none⟩, ⟨(some 82), .iadr 1 (.s 80) (.s 81), none⟩, ⟨(some 83), .load none (.s 82), none⟩, ⟨(some 84), .mv (.s 11), none⟩, ⟨(some 85), .iadr 1 (.s 83) (.s 84), none⟩, ⟨(some 86), .load none (.s 85), none⟩, ⟨(some 87), .mv (.s 10), none⟩, ⟨(some 88), .mv (.s 11), none⟩, ⟨(some 89), .call (.c (.fn (.func 66) [] [])) [(.s 87), (.s 88)], none⟩, ⟨(some 90), .eqv true false [.i] (.s 86) (.s 89), none⟩, ⟨(some 91), .mv (.s 90), none⟩, ⟨(some 92), .mv (.s 11), some (91, false)⟩, ⟨(some 93), .mv (.s 3), some (91, false)⟩, ⟨(some 94), .mv (.s 10), some (91, false)⟩, ⟨(some 95), .iadr 1 (.s 93) (.s 94), some (91, false)⟩, ⟨(some 96), .load none (.s 95), some (91, false)⟩, ⟨(some 97), .len false (.s 96), some (91, false)⟩, ⟨(some 98), .bin .lss (.s 92) (.s 97), some (91, false)⟩, ⟨(some 99), .mv (.s 98), some (91, false)⟩, ⟨(some 100), .mv (.s 3), some (99, true)⟩, ⟨(some 101), .mv (.s 10), some (99, true)⟩, ⟨(some 102), .iadr 1 (.s 100) (.s 101), some (99, true)⟩, ⟨(some 103), .load none (.s 102), some (99, true)⟩, ⟨(some 104), .mv (.s 11), some (99, true)⟩, ⟨(some 105), .iadr 1 (.s 103) (.s 104), some (99, true)⟩, ⟨(some 106), .load none (.s 105), some (99, true)⟩, ⟨(some 107), .mv (.s 10), some (99, true)⟩, ⟨(some 108), .mv (.s 11), some (99, true)⟩, ⟨(some 109), .call (.c (.fn (.func 66) [] [])) [(.s 107), (.s 108)], some (99, true)⟩, ⟨(some 110), .eqv true false [.i] (.s 106) (.s 109), some (99, true)⟩, ⟨(some 111), .pick (.s 99) (.s 110) (.c (.dat (.bool false))), some (91, false)⟩, ⟨(some 112), .pick (.s 91) (.c (.dat (.bool true))) (.s 111), none⟩] (some [(2, 9), (3, 9), (5, 9), (6, 9), (22, 29), (23, 29), (25, 29), (26, 29)]) [3, 6, 10, 11, 112])
 (.cond (.s 112) (.seq (.reg [⟨(some 2), .mv (.c (.dat (.bool false))), none⟩] none [2])
 (.ret [2])) .skip)))
 (.reg [⟨(some 78), .mv (.s 11), none⟩, ⟨(some 79), .bin .add (.s 78) (.c (.dat (.int .i64 1))), none⟩, ⟨(some 11), .mv (.s 79), none⟩] none [3, 6, 10, 11])))
def xf51_k4 : List (Nat × Option (Nat × Nat × Bool)) := [(3, some (62, 1, false)), (6, some (62, 1, false)), (10, none)]
def xf51_b4 : XCode := (.seq (.seq (.reg [⟨(some 65), .mv (.s 10), none⟩, ⟨(some 66), .mv (.s 3), none⟩, ⟨(some 67), .len false (.s 66), none⟩, ⟨(some 68), .bin .lss (.s 65) (.s 67), none⟩] none [3, 6, 10, 68])
 (.cond (.s 68) .skip (.exit 8 [])))
 (.seq (.block 9 (.seq (.reg [⟨(some 11), .mv (.c (.dat (.int .i64 0))), none⟩] none [3, 6, 10, 11])
 (.block 10 (.loop xf51_k5 xf51_b5))))
 (.reg [⟨(some 69), .mv (.s 10), none⟩, ⟨(some 70), .bin .add (.s 69) (.c (.dat (.int .i64 1))), none⟩, ⟨(some 10), .mv (.s 70), none⟩] none [3, 6, 10])))
def xf51 : XFunc := ⟨1, [.tmp 2], (.seq (.reg [⟨(some 2), .mv (.c (.dat (.bool false))), none⟩] none [0])
 (.seq (.reg [⟨(some 12), .mv (.s 0), none⟩, ⟨(some 13), .nilchk (.s 12), none⟩, ⟨(some 14), .fadr 1 (.s 13), none⟩, ⟨(some 15), .load none (.s 14), none⟩, ⟨(some 3), .mv (.s 15), none⟩] none [3])
 (.seq (.seq (.reg [⟨(some 4), .mv (.c (.dat (.int .i64 0))), none⟩] none [3, 4])
 (.block 0 (.loop xf51_k0 xf51_b0)))
 (.seq (.reg [⟨(some 6), .mv (.c (.nil 62 1 false)), none⟩] none [3, 6])
 (.seq (.seq (.reg [⟨(some 7), .mv (.c (.dat (.int .i64 0))), none⟩] none [3, 6, 7])
 (.block 4 (.loop xf51_k2 xf51_b2)))
 (.seq (.seq (.reg [⟨(some 10), .mv (.c (.dat (.int .i64 0))), none⟩] none [3, 6, 10])
 (.block 8 (.loop xf51_k4 xf51_b4)))
 (.seq (.reg [⟨(some 2), .mv (.c (.dat (.bool true))), none⟩] none [2])
 (.ret [2]))))))))⟩

-- (*amnesia/amnesiaplain.Book).apartVector
def xf52_k1 : List (Nat × Option (Nat × Nat × Bool)) := [(3, some (23, 1, false)), (4, none), (5, none)]
def xf52_b1 : XCode := (.seq (.seq (.reg [⟨(some 22), .mv (.s 5), none⟩, ⟨(some 23), .mv (.s 3), none⟩, ⟨(some 24), .mv (.s 4), none⟩, ⟨(some 25), .iadr 1 (.s 23) (.s 24), none⟩, ⟨(some 26), .load none (.s 25), none⟩, ⟨(some 27), .len false (.s 26), none⟩, ⟨(some 28), .bin .lss (.s 22) (.s 27), none⟩] none [3, 4, 5, 28])
 (.cond (.s 28) .skip (.exit 2 [3, 4])))
 (.seq (.block 3 (.reg [⟨(some 31), .mv (.s 3), none⟩, ⟨(some 32), .mv (.s 4), none⟩, ⟨(some 33), .iadr 1 (.s 31) (.s 32), none⟩, ⟨(some 34), .load none (.s 33), none⟩, ⟨(some 35), .mv (.s 5), none⟩, ⟨(some 36), .mv (.s 4), none⟩, ⟨(some 37), .mv (.s 5), none⟩, ⟨(some 38), .call (.c (.fn (.func 67) [] [])) [(.s 36), (.s 37)], none⟩, ⟨(some 39), .iadr 2 (.s 34) (.s 35), none⟩, ⟨none, .store 2 (.s 39) (.s 38), none⟩] (some [(2, 7), (3, 7)]) [3, 4, 5]))
 (.reg [⟨(some 29), .mv (.s 5), none⟩, ⟨(some 30), .bin .add (.s 29) (.c (.dat (.int .i64 1))), none⟩, ⟨(some 5), .mv (.s 30), none⟩] none [3, 4, 5])))
def xf52_k0 : List (Nat × Option (Nat × Nat × Bool)) := [(3, some (23, 1, false)), (4, none)]
def xf52_b0 : XCode := (.seq (.seq (.reg [⟨(some 16), .mv (.s 4), none⟩, ⟨(some 17), .mv (.s 3), none⟩, ⟨(some 18), .len false (.s 17), none⟩, ⟨(some 19), .bin .lss (.s 16) (.s 18), none⟩] none [3, 4, 19])
 (.cond (.s 19) .skip (.exit 0 [3])))
 (.seq (.block 1 (.seq (.reg [⟨(some 5), .mv (.c (.dat (.int .i64 0))), none⟩] none [3, 4, 5])
 (.block 2 (.loop xf52_k1 xf52_b1))))
 (.reg [⟨(some 20), .mv (.s 4), none⟩, ⟨(some 21), .bin .add (.s 20) (.c (.dat (.int .i64 1))), none⟩, ⟨(some 4), .mv (.s 21), none⟩] none [3, 4])))
def xf52_k3 : List (Nat × Option (Nat × Nat × Bool)) := [(3, some (23, 1, false)), (6, some (23, 1, false)), (7, none), (8, some (26, 2, true)), (9, none)]
def xf52_b3 : XCode := (.seq (.seq (.reg [⟨(some 50), .mv (.s 9), none⟩, ⟨(some 51), .bin .lss (.s 50) (.c (.dat (.int .i64 70))), none⟩] none [3, 6, 7, 8, 9, 51])
 (.cond (.s 51) .skip (.exit 6 [3, 6, 7, 8])))
 (.seq (.block 7 (.reg [⟨(some 54), .mv (.s 8), none⟩, ⟨(some 55), .mv (.s 7), none⟩, ⟨(some 56), .mv (.s 8), none⟩, ⟨(some 57), .len false (.s 56), none⟩, ⟨(some 58), .call (.c (.fn (.func 67) [] [])) [(.s 55), (.s 57)], none⟩, ⟨(some 59), .bsl 26 2 true 1 [(.dat (.int .u64 0)), (.dat (.int .u64 0))] [(0, 2, (.s 58))], none⟩, ⟨(some 60), .app 26 2 16 true (.s 54) (.s 59), none⟩, ⟨(some 8), .mv (.s 60), none⟩] none [3, 6, 7, 8, 9]))
 (.reg [⟨(some 52), .mv (.s 9), none⟩, ⟨(some 53), .bin .add (.s 52) (.c (.dat (.int .i64 1))), none⟩, ⟨(some 9), .mv (.s 53), none⟩] none [3, 6, 7, 8, 9])))
def xf52_k2 : List (Nat × Option (Nat × Nat × Bool)) := [(3, some (23, 1, false)), (6, some (23, 1, false)), (7, none)]
def xf52_b2 : XCode := (.seq (.seq (.reg [⟨(some 40), .mv (.s 7), none⟩, ⟨(some 41), .mv (.s 3), none⟩, ⟨(some 42), .len false (.s 41), none⟩, ⟨(some 43), .bin .lss (.s 40) (.s 42), none⟩] none [3, 6, 7, 43])
 (.cond (.s 43) .skip (.exit 4 [3, 6])))
 (.seq (.block 5 (.seq (.reg [⟨(some 46), .mv (.s 3), none⟩, ⟨(some 47), .mv (.s 7), none⟩, ⟨(some 48), .iadr 1 (.s 46) (.s 47), none⟩, ⟨(some 49), .load none (.s 48), none⟩, ⟨(some 8), .mv (.s 49), none⟩] none [3, 6, 7, 8])
 (.seq (.seq (.reg [⟨(some 9), .mv (.c (.dat (.int .i64 0))), none⟩] none [3, 6, 7, 8, 9])
 (.block 6 (.loop xf52_k3 xf52_b3)))
 (.reg [⟨(some 61), .mv (.s 6), none⟩, ⟨(some 62), .mv (.s 8), none⟩, ⟨(some 63), .bsl 23 1 false 1 [(.nil 26 2 true)] [(0, 1, (.s 62))], none⟩, ⟨(some 64), .app 23 1 24 false (.s 61) (.s 63), none⟩, ⟨(some 6), .mv (.s 64), none⟩] none [3, 6, 7]))))
 (.reg [⟨(some 44), .mv (.s 7), none⟩, ⟨(some 45), .bin .add (.s 44) (.c (.dat (.int .i64 1))), none⟩, ⟨(some 7), .mv (.s 45), none⟩] none [3, 6, 7])))
def xf52_k5 : List (Nat × Option (Nat × Nat × Bool)) := [(3, some (23, 1, false)), (6, some (23, 1, false)), (10, none), (11, none)]
def xf52_b5 : XCode := (.seq (.seq (.reg [⟨(some 71), .mv (.s 11), none⟩, ⟨(some 72), .mv (.s 6), none⟩, ⟨(some 73), .mv (.s 10), none⟩, ⟨(some 74), .iadr 1 (.s 72) (.s 73), none⟩, ⟨(some 75), .load none (.s 74), none⟩, ⟨(some 76), .len false (.s 75), none⟩, ⟨(some 77), .bin .lss (.s 71) (.s 76), none⟩] none [3, 6, 10, 11, 77])
 (.cond (.s 77) .skip (.exit 10 [3, 6, 10])))
 (.seq (.block 11 (.seq (.reg [⟨(some 80), .mv (.s 6), none⟩, ⟨(some 81), .mv (.s 10), none⟩, ⟨(some 82), .iadr 1 (.s 80) (.s 81), none⟩, ⟨(some 83), .load none (.s 82), none⟩, ⟨(some 84), .mv (.s 11), none⟩, ⟨(some 85), .iadr 2 (.s 83) (.s 84), none⟩, ⟨(some 86), .load (some 2) (.s 85), none⟩, ⟨(some 87), .mv (.s 10), none⟩, ⟨(some 88), .mv (.s 11), none⟩, ⟨(some 89), .call (.c (.fn (.func 67) [] [])) [(.s 87), (.s 88)], none⟩, ⟨(some 90), .eqv true true [.i, .i] (.s 86) (.s 89), none⟩, ⟨(some 91), .mv (.s 90), none⟩, ⟨(some 92), .mv (.s 11), some (91, false)⟩, ⟨(some 93), .mv (.s 3), some (91, false)⟩, ⟨(some 94), .mv (.s 10), some (91, false)⟩, ⟨(some 95), .iadr 1 (.s 93) (.s 94), some (91, false)⟩, ⟨(some 96), .load none (.s 95), some (91, false)⟩, ⟨(some 97), .len false (.s 96), some (91, false)⟩, ⟨(some 98), .bin .lss (.s 92) (.s 97), some (91, false)⟩, ⟨(some 99), .mv (.s 98), some (91, false)⟩, ⟨(some 100), .mv (.s 3), some (99, true)⟩, ⟨(some 101), .mv (.s 10), some (99, true)⟩, ⟨(some 102), .iadr 1 (.s 100) (.s 101), some (99, true)⟩, ⟨(some 103), .load none (.s 102), some (99, true)⟩, ⟨(some 104), .mv (.s 11), some (99, true)⟩, ⟨(some 105), .iadr 2 (.s 103) (.s 104), some (99, true)⟩, ⟨(some 106), .load (some 2) (.s 105), some (99, true)⟩, ⟨(some 107), .mv (.s 10), some (99, true)⟩, ⟨(some 108), .mv (.s 11), some (99, true)⟩, ⟨(some 109), .call (.c (.fn (.func 67) [] [])) [(.s 107), (.s 108)], some (99, true)⟩, ⟨(some 110), .eqv true true [.i, .i] (.s 106) (.s 109), some (99, true)⟩, ⟨(some 111), .pick (.s 99) (.s 110) (.c (.dat (.bool false))), some (91, false)⟩, ⟨(some 112), .pick (.s 91) (.c (.dat (.bool true))) (.s 111), none⟩] (some [(2, 9), (3, 9), (5, 9), (6, 9), (22, 29), (23, 29), (25, 29), (26, 29)]) [3, 6, 10, 11, 112])
 (.cond (.s 112) (.seq (.reg [⟨(some 2), .mv (.c (.dat (.bool false))), none⟩] none [2])
 (.ret [2])) .skip)))
 (.reg [⟨(some 78), .mv (.s 11), none⟩, ⟨(some 79), .bin .add (.s 78) (.c (.dat (.int .i64 1))), none⟩, ⟨(some 11), .mv (.s 79), none⟩] none [3, 6, 10, 11])))
def xf52_k4 : List (Nat × Option (Nat × Nat × Bool)) := [(3, some (23, 1, false)), (6, some (23, 1, false)), (10, none)]
def xf52_b4 : XCode := (.seq (.seq (.reg [⟨(some 65), .mv (.s 10), none⟩, ⟨(some 66), .mv (.s 3), none⟩, ⟨(some 67), .len false (.s 66), none⟩, ⟨(some 68), .bin .lss (.s 65) (.s 67), none⟩] none [3, 6, 10, 68])
 (.cond (.s 68) .skip (.exit 8 [])))
 (.seq (.block 9 (.seq (.reg [⟨(some 11), .mv (.c (.dat (.int .i64 0))), none⟩] none [3, 6, 10, 11])
 (.block 10 (.loop xf52_k5 xf52_b5))))
 (.reg [⟨(some 69), .mv (.s 10), none⟩, ⟨(some 70), .bin .add (.s 69) (.c (.dat (.int .i64 1))), none⟩, ⟨(some 10), .mv (.s 70), none⟩] none [3, 6, 10])))
def xf52 : XFunc := ⟨1, [.tmp 2], (.seq (.reg [⟨(some 2), .mv (.c (.dat (.bool false))), none⟩] none [0])
 (.seq (.reg [⟨(some 12), .mv (.s 0), none⟩, ⟨(some 13), .nilchk (.s 12), none⟩, ⟨(some 14), .fadr 2 (.s 13), none⟩, ⟨(some 15), .load none (.s 14), none⟩, ⟨(some 3), .mv (.s 15), none⟩] none [3])
 (.seq (.seq (.reg [⟨(some 4), .mv (.c (.dat (.int .i64 0))), none⟩] none [3, 4])
 (.block 0 (.loop xf52_k0 xf52_b0)))
 (.seq (.reg [⟨(some 6), .mv (.c (.nil 23 1 false)), none⟩] none [3, 6])
 (.seq (.seq (.reg [⟨(some 7), .mv (.c (.dat (.int .i64 0))), none⟩] none [3, 6, 7])
 (.block 4 (.loop xf52_k2 xf52_b2)))
 (.seq (.seq (.reg [⟨(some 10), .mv (.c (.dat (.int .i64 0))), none⟩] none [3, 6, 10])
 (.block 8 (.loop xf52_k4 xf52_b4)))
 (.seq (.reg [⟨(some 2), .mv (.c (.dat (.bool true))), none⟩] none [2])
 (.ret [2]))))))))⟩

-- (*amnesia/amnesiaplain.Book).apartEntries
def xf53_k1 : List (Nat × Option (Nat × Nat × Bool)) := [(3, some (91, 1, false)), (4, none), (5, none)]
def xf53_b1 : XCode := (.seq (.seq (.reg [⟨(some 22), .mv (.s 5), none⟩, ⟨(some 23), .mv (.s 3), none⟩, ⟨(some 24), .mv (.s 4), none⟩, ⟨(some 25), .iadr 1 (.s 23) (.s 24), none⟩, ⟨(some 26), .load none (.s 25), none⟩, ⟨(some 27), .len false (.s 26), none⟩, ⟨(some 28), .bin .lss (.s 22) (.s 27), none⟩] none [3, 4, 5, 28])
 (.cond (.s 28) .skip (.exit 2 [3, 4])))
 (.seq (.block 3 (.reg [⟨(some 31), .mv (.s 3), none⟩, ⟨(some 32), .mv (.s 4), none⟩, ⟨(some 33), .iadr 1 (.s 31) (.s 32), none⟩, ⟨(some 34), .load none (.s 33), none⟩, ⟨(some 35), .mv (.s 5), none⟩, ⟨(some 36), .mv (.s 4), none⟩, ⟨(some 37), .mv (.s 5), none⟩, ⟨(some 38), .call (.c (.fn (.func 68) [] [])) [(.s 36), (.s 37)], none⟩, ⟨(some 39), .iadr 5 (.s 34) (.s 35), none⟩, ⟨none, .store 5 (.s 39) (.s 38), none⟩] (some [(2, 7), (3, 7)]) [3, 4, 5]))
 (.reg [⟨(some 29), .mv (.s 5), none⟩, ⟨(some 30), .bin .add (.s 29) (.c (.dat (.int .i64 1))), none⟩, ⟨(some 5), .mv (.s 30), none⟩] none [3, 4, 5])))
def xf53_k0 : List (Nat × Option (Nat × Nat × Bool)) := [(3, some (91, 1, false)), (4, none)]
def xf53_b0 : XCode := (.seq (.seq (.reg [⟨(some 16), .mv (.s 4), none⟩, ⟨(some 17), .mv (.s 3), none⟩, ⟨(some 18), .len false (.s 17), none⟩, ⟨(some 19), .bin .lss (.s 16) (.s 18), none⟩] none [3, 4, 19])
 (.cond (.s 19) .skip (.exit 0 [3])))
 (.seq (.block 1 (.seq (.reg [⟨(some 5), .mv (.c (.dat (.int .i64 0))), none⟩] none [3, 4, 5])
 (.block 2 (.loop xf53_k1 xf53_b1))))
 (.reg [⟨(some 20), .mv (.s 4), none⟩, ⟨(some 21), .bin .add (.s 20) (.c (.dat (.int .i64 1))), none⟩, ⟨(some 4), .mv (.s 21), none⟩] none [3, 4])))
def xf53_k3 : List (Nat × Option (Nat × Nat × Bool)) := [(3, some (91, 1, false)), (6, some (91, 1, false)), (7, none), (8, some (113, 5, true)), (9, none)]
def xf53_b3 : XCode := (.seq (.seq (.reg [⟨(some 50), .mv (.s 9), none⟩, ⟨(some 51), .bin .lss (.s 50) (.c (.dat (.int .i64 70))), none⟩] none [3, 6, 7, 8, 9, 51])
 (.cond (.s 51) .skip (.exit 6 [3, 6, 7, 8])))
 (.seq (.block 7 (.reg [⟨(some 54), .mv (.s 8), none⟩, ⟨(some 55), .mv (.s 7), none⟩, ⟨(some 56), .mv (.s 8), none⟩, ⟨(some 57), .len false (.s 56), none⟩, ⟨(some 58), .call (.c (.fn (.func 68) [] [])) [(.s 55), (.s 57)], none⟩, ⟨(some 59), .bsl 113 5 true 1 [(.dat (.int .i64 0)), (.dat (.int .i64 0)), (.dat (.int .i64 0)), (.dat (.int .i64 0)), (.dat (.str ⟨#[]⟩))] [(0, 5, (.s 58))], none⟩, ⟨(some 60), .app 113 5 48 true (.s 54) (.s 59), none⟩, ⟨(some 8), .mv (.s 60), none⟩] none [3, 6, 7, 8, 9]))
 (.reg [⟨(some 52), .mv (.s 9), none⟩, ⟨(some 53), .bin .add (.s 52) (.c (.dat (.int .i64 1))), none⟩, ⟨(some 9), .mv (.s 53), none⟩] none [3, 6, 7, 8, 9])))
def xf53_k2 : List (Nat × Option (Nat × Nat × Bool)) := [(3, some (91, 1, false)), (6, some (91, 1, false)), (7, none)]
def xf53_b2 : XCode := (.seq (.seq (.reg [⟨(some 40), .mv (.s 7), none⟩, ⟨(some 41), .mv (.s 3), none⟩, ⟨(some 42), .len false (.s 41), none⟩, ⟨(some 43), .bin .lss (.s 40) (.s 42), none⟩] none [3, 6, 7, 43])
 (.cond (.s 43) .skip (.exit 4 [3, 6])))
 (.seq (.block 5 (.seq (.reg [⟨(some 46), .mv (.s 3), none⟩, ⟨(some 47), .mv (.s 7), none⟩, ⟨(some 48), .iadr 1 (.s 46) (.s 47), none⟩, ⟨(some 49), .load none (.s 48), none⟩, ⟨(some 8), .mv (.s 49), none⟩] none [3, 6, 7, 8])
 (.seq (.seq (.reg [⟨(some 9), .mv (.c (.dat (.int .i64 0))), none⟩] none [3, 6, 7, 8, 9])
 (.block 6 (.loop xf53_k3 xf53_b3)))
 (.reg [⟨(some 61), .mv (.s 6), none⟩, ⟨(some 62), .mv (.s 8), none⟩, ⟨(some 63), .bsl 91 1 false 1 [(.nil 113 5 true)] [(0, 1, (.s 62))], none⟩, ⟨(some 64), .app 91 1 24 false (.s 61) (.s 63), none⟩, ⟨(some 6), .mv (.s 64), none⟩] none [3, 6, 7]))))
 (.reg [⟨(some 44), .mv (.s 7), none⟩, ⟨(some 45), .bin .add (.s 44) (.c (.dat (.int .i64 1))), none⟩, ⟨(some 7), .mv (.s 45), none⟩] none [3, 6, 7])))
def xf53_k5 : List (Nat × Option (Nat × Nat × Bool)) := [(3, some (91, 1, false)), (6, some (91, 1, false)), (10, none), (11, none)]
def xf53_b5 : XCode := (.seq (.seq (.reg [⟨(some 71), .mv (.s 11), none⟩, ⟨(some 72), .mv (.s 6), none⟩, ⟨(some 73), .mv (.s 10), none⟩, ⟨(some 74), .iadr 1 (.s 72) (.s 73), none⟩, ⟨(some 75), .load none (.s 74), none⟩, ⟨(some 76), .len false (.s 75), none⟩, ⟨(some 77), .bin .lss (.s 71) (.s 76), none⟩] none [3, 6, 10, 11, 77])
 (.cond (.s 77) .skip (.exit 10 [3, 6, 10])))
 (.seq (.block 11 (.seq (.reg [⟨(some 80), .mv (.s 6), none⟩, ⟨(some 81), .mv (.s 10), none⟩, ⟨(some 82), .iadr 1 (.s 80) (.s 81), none⟩, ⟨(some 83), .load none (.s 82), none⟩, ⟨(some 84), .mv (.s 11), none⟩, ⟨(some 85), .iadr 5 (.s 83) (.s 84), none⟩, ⟨(some 86), .load (some 5) (.s 85), none⟩, ⟨(some 87), .mv (.s 10), none⟩, ⟨(some 88), .mv (.s 11), none⟩, ⟨(some 89), .call (.c (.fn (.func 68) [] [])) [(.s 87), (.s 88)], none⟩, ⟨(some 90), .eqv true true [.i, .i, .i, .i, .s] (.s 86) (.s 89), none⟩, ⟨(some 91), .mv (.s 90), none⟩, ⟨(some 92), .mv (.s 11), some (91, false)⟩, ⟨(some 93), .mv (.s 3), some (91, false)⟩, ⟨(some 94), .mv (.s 10), some (91, false)⟩, ⟨(some 95), .iadr 1 (.s 93) (.s 94), some (91, false)⟩, ⟨(some 96), .load none (.s 95), some (91, false)⟩, ⟨(some 97), .len false (.s 96), some (91, false)⟩, ⟨(some 98), .bin .lss (.s 92) (.s 97), some (91, false)⟩, ⟨(some 99), .mv (.s 98), some (91, false)⟩, ⟨(some 100), .mv (.s 3), some (99, true)⟩, ⟨(some 101), .mv (.s 10), some (99, true)⟩, ⟨(some 102), .iadr 1 (.s 100) (.s 101), some (99, true)⟩, ⟨(some 103), .load none (.s 102), some (99, true)⟩, ⟨(some 104), .mv (.s 11), some (99, true)⟩, ⟨(some 105), .iadr 5 (.s 103) (.s 104), some (99, true)⟩, ⟨(some 106), .load (some 5) (.s 105), some (99, true)⟩, ⟨(some 107), .mv (.s 10), some (99, true)⟩, ⟨(some 108), .mv (.s 11), some (99, true)⟩, ⟨(some 109), .call (.c (.fn (.func 68) [] [])) [(.s 107), (.s 108)], some (99, true)⟩, ⟨(some 110), .eqv true true [.i, .i, .i, .i, .s] (.s 106) (.s 109), some (99, true)⟩, ⟨(some 111), .pick (.s 99) (.s 110) (.c (.dat (.bool false))), some (91, false)⟩, ⟨(some 112), .pick (.s 91) (.c (.dat (.bool true))) (.s 111), none⟩] (some [(2, 9), (3, 9), (5, 9), (6, 9), (22, 29), (23, 29), (25, 29), (26, 29)]) [3, 6, 10, 11, 112])
 (.cond (.s 112) (.seq (.reg [⟨(some 2), .mv (.c (.dat (.bool false))), none⟩] none [2])
 (.ret [2])) .skip)))
 (.reg [⟨(some 78), .mv (.s 11), none⟩, ⟨(some 79), .bin .add (.s 78) (.c (.dat (.int .i64 1))), none⟩, ⟨(some 11), .mv (.s 79), none⟩] none [3, 6, 10, 11])))
def xf53_k4 : List (Nat × Option (Nat × Nat × Bool)) := [(3, some (91, 1, false)), (6, some (91, 1, false)), (10, none)]
def xf53_b4 : XCode := (.seq (.seq (.reg [⟨(some 65), .mv (.s 10), none⟩, ⟨(some 66), .mv (.s 3), none⟩, ⟨(some 67), .len false (.s 66), none⟩, ⟨(some 68), .bin .lss (.s 65) (.s 67), none⟩] none [3, 6, 10, 68])
 (.cond (.s 68) .skip (.exit 8 [])))
 (.seq (.block 9 (.seq (.reg [⟨(some 11), .mv (.c (.dat (.int .i64 0))), none⟩] none [3, 6, 10, 11])
 (.block 10 (.loop xf53_k5 xf53_b5))))
 (.reg [⟨(some 69), .mv (.s 10), none⟩, ⟨(some 70), .bin .add (.s 69) (.c (.dat (.int .i64 1))), none⟩, ⟨(some 10), .mv (.s 70), none⟩] none [3, 6, 10])))
def xf53 : XFunc := ⟨1, [.tmp 2], (.seq (.reg [⟨(some 2), .mv (.c (.dat (.bool false))), none⟩] none [0])
 (.seq (.reg [⟨(some 12), .mv (.s 0), none⟩, ⟨(some 13), .nilchk (.s 12), none⟩, ⟨(some 14), .fadr 3 (.s 13), none⟩, ⟨(some 15), .load none (.s 14), none⟩, ⟨(some 3), .mv (.s 15), none⟩] none [3])
 (.seq (.seq (.reg [⟨(some 4), .mv (.c (.dat (.int .i64 0))), none⟩] none [3, 4])
 (.block 0 (.loop xf53_k0 xf53_b0)))
 (.seq (.reg [⟨(some 6), .mv (.c (.nil 91 1 false)), none⟩] none [3, 6])
 (.seq (.seq (.reg [⟨(some 7), .mv (.c (.dat (.int .i64 0))), none⟩] none [3, 6, 7])
 (.block 4 (.loop xf53_k2 xf53_b2)))
 (.seq (.seq (.reg [⟨(some 10), .mv (.c (.dat (.int .i64 0))), none⟩] none [3, 6, 10])
 (.block 8 (.loop xf53_k4 xf53_b4)))
 (.seq (.reg [⟨(some 2), .mv (.c (.dat (.bool true))), none⟩] none [2])
 (.ret [2]))))))))⟩

-- (*amnesia/amnesiaplain.Book).apartCells
def xf54_k1 : List (Nat × Option (Nat × Nat × Bool)) := [(3, some (119, 1, false)), (4, none), (5, none)]
def xf54_b1 : XCode := (.seq (.seq (.reg [⟨(some 22), .mv (.s 5), none⟩, ⟨(some 23), .mv (.s 3), none⟩, ⟨(some 24), .mv (.s 4), none⟩, ⟨(some 25), .iadr 1 (.s 23) (.s 24), none⟩, ⟨(some 26), .load none (.s 25), none⟩, ⟨(some 27), .len false (.s 26), none⟩, ⟨(some 28), .bin .lss (.s 22) (.s 27), none⟩] none [3, 4, 5, 28])
 (.cond (.s 28) .skip (.exit 2 [3, 4])))
 (.seq (.block 3 (.reg [⟨(some 31), .mv (.s 3), none⟩, ⟨(some 32), .mv (.s 4), none⟩, ⟨(some 33), .iadr 1 (.s 31) (.s 32), none⟩, ⟨(some 34), .load none (.s 33), none⟩, ⟨(some 35), .mv (.s 5), none⟩, ⟨(some 36), .mv (.s 4), none⟩, ⟨(some 37), .mv (.s 5), none⟩, ⟨(some 38), .call (.c (.fn (.func 69) [] [])) [(.s 36), (.s 37)], none⟩, ⟨(some 39), .iadr 2 (.s 34) (.s 35), none⟩, ⟨none, .store 2 (.s 39) (.s 38), none⟩] (some [(2, 7), (3, 7)]) [3, 4, 5]))
 (.reg [⟨(some 29), .mv (.s 5), none⟩, ⟨(some 30), .bin .add (.s 29) (.c (.dat (.int .i64 1))), none⟩, ⟨(some 5), .mv (.s 30), none⟩] none [3, 4, 5])))
def xf54_k0 : List (Nat × Option (Nat × Nat × Bool)) := [(3, some (119, 1, false)), (4, none)]
def xf54_b0 : XCode := (.seq (.seq (.reg [⟨(some 16), .mv (.s 4), none⟩, ⟨(some 17), .mv (.s 3), none⟩, ⟨(some 18), .len false (.s 17), none⟩, ⟨(some 19), .bin .lss (.s 16) (.s 18), none⟩] none [3, 4, 19])
 (.cond (.s 19) .skip (.exit 0 [3])))
 (.seq (.block 1 (.seq (.reg [⟨(some 5), .mv (.c (.dat (.int .i64 0))), none⟩] none [3, 4, 5])
 (.block 2 (.loop xf54_k1 xf54_b1))))
 (.reg [⟨(some 20), .mv (.s 4), none⟩, ⟨(some 21), .bin .add (.s 20) (.c (.dat (.int .i64 1))), none⟩, ⟨(some 4), .mv (.s 21), none⟩] none [3, 4])))
def xf54_k3 : List (Nat × Option (Nat × Nat × Bool)) := [(3, some (119, 1, false)), (6, some (119, 1, false)), (7, none), (8, some (121, 2, true)), (9, none)]
def xf54_b3 : XCode := (.seq (.seq (.reg [⟨(some 50), .mv (.s 9), none⟩, ⟨(some 51), .bin .lss (.s 50) (.c (.dat (.int .i64 70))), none⟩] none [3, 6, 7, 8, 9, 51])
 (.cond (.s 51) .skip (.exit 6 [3, 6, 7, 8])))
 (.seq (.block 7 (.reg [⟨(some 54), .mv (.s 8), none⟩, ⟨(some 55), .mv (.s 7), none⟩, ⟨(some 56), .mv (.s 8), none⟩, ⟨(some 57), .len false (.s 56), none⟩, ⟨(some 58), .call (.c (.fn (.func 69) [] [])) [(.s 55), (.s 57)], none⟩, ⟨(some 59), .bsl 121 2 true 1 [(.dat (.int .i64 0)), (.dat (.str ⟨#[]⟩))] [(0, 2, (.s 58))], none⟩, ⟨(some 60), .app 121 2 24 true (.s 54) (.s 59), none⟩, ⟨(some 8), .mv (.s 60), none⟩] none [3, 6, 7, 8, 9]))
 (.reg [⟨(some 52), .mv (.s 9), none⟩, ⟨(some 53), .bin .add (.s 52) (.c (.dat (.int .i64 1))), none⟩, ⟨(some 9), .mv (.s 53), none⟩] none [3, 6, 7, 8, 9])))
def xf54_k2 : List (Nat × Option (Nat × Nat × Bool)) := [(3, some (119, 1, false)), (6, some (119, 1, false)), (7, none)]
def xf54_b2 : XCode := (.seq (.seq (.reg [⟨(some 40), .mv (.s 7), none⟩, ⟨(some 41), .mv (.s 3), none⟩, ⟨(some 42), .len false (.s 41), none⟩, ⟨(some 43), .bin .lss (.s 40) (.s 42), none⟩] none [3, 6, 7, 43])
 (.cond (.s 43) .skip (.exit 4 [3, 6])))
 (.seq (.block 5 (.seq (.reg [⟨(some 46), .mv (.s 3), none⟩, ⟨(some 47), .mv (.s 7), none⟩, ⟨(some 48), .iadr 1 (.s 46) (.s 47), none⟩, ⟨(some 49), .load none (.s 48), none⟩, ⟨(some 8), .mv (.s 49), none⟩] none [3, 6, 7, 8])
 (.seq (.seq (.reg [⟨(some 9), .mv (.c (.dat (.int .i64 0))), none⟩] none [3, 6, 7, 8, 9])
 (.block 6 (.loop xf54_k3 xf54_b3)))
 (.reg [⟨(some 61), .mv (.s 6), none⟩, ⟨(some 62), .mv (.s 8), none⟩, ⟨(some 63), .bsl 119 1 false 1 [(.nil 121 2 true)] [(0, 1, (.s 62))], none⟩, ⟨(some 64), .app 119 1 24 false (.s 61) (.s 63), none⟩, ⟨(some 6), .mv (.s 64), none⟩] none [3, 6, 7]))))
 (.reg [⟨(some 44), .mv (.s 7), none⟩, ⟨(some 45), .bin .add (.s 44) (.c (.dat (.int .i64 1))), none⟩, ⟨(some 7), .mv (.s 45), none⟩] none [3, 6, 7])))
def xf54_k5 : List (Nat × Option (Nat × Nat × Bool)) := [(3, some (119, 1, false)), (6, some (119, 1, false)), (10, none), (11, none)]
def xf54_b5 : XCode := (.seq (.seq (.reg [⟨(some 71), .mv (.s 11), none⟩, ⟨(some 72), .mv (.s 6), none⟩, ⟨(some 73), .mv (.s 10), none⟩, ⟨(some 74), .iadr 1 (.s 72) (.s 73), none⟩, ⟨(some 75), .load none (.s 74), none⟩, ⟨(some 76), .len false (.s 75), none⟩, ⟨(some 77), .bin .lss (.s 71) (.s 76), none⟩] none [3, 6, 10, 11, 77])
 (.cond (.s 77) .skip (.exit 10 [3, 6, 10])))
 (.seq (.block 11 (.seq (.reg [⟨(some 80), .mv (.s 6), none⟩, ⟨(some 81), .mv (.s 10), none⟩, ⟨(some 82), .iadr 1 (.s 80) (.s 81), none⟩, ⟨(some 83), .load none (.s 82), none⟩, ⟨(some 84), .mv (.s 11), none⟩, ⟨(some 85), .iadr 2 (.s 83) (.s 84), none⟩, ⟨(some 86), .load (some 2) (.s 85), none⟩, ⟨(some 87), .mv (.s 10), none⟩, ⟨(some 88), .mv (.s 11), none⟩, ⟨(some 89), .call (.c (.fn (.func 69) [] [])) [(.s 87), (.s 88)], none⟩, ⟨(some 90), .eqv true true [.i, .s] (.s 86) (.s 89), none⟩, ⟨(some 91), .mv (.s 90), none⟩, ⟨(some 92), .mv (.s 11), some (91, false)⟩, ⟨(some 93), .mv (.s 3), some (91, false)⟩, ⟨(some 94), .mv (.s 10), some (91, false)⟩, ⟨(some 95), .iadr 1 (.s 93) (.s 94), some (91, false)⟩, ⟨(some 96), .load none (.s 95), some (91, false)⟩, ⟨(some 97), .len false (.s 96), some (91, false)⟩, ⟨(some 98), .bin .lss (.s 92) (.s 97), some (91, false)⟩, ⟨(some 99), .mv (.s 98), some (91, false)⟩, ⟨(some 100), .mv (.s 3), some (99, true)⟩, ⟨(some 101), .mv (.s 10), some (99, true)⟩, ⟨(some 102), .iadr 1 (.s 100) (.s 101), some (99, true)⟩, ⟨(some 103), .load none (.s 102), some (99, true)⟩, ⟨(some 104), .mv (.s 11), some (99, true)⟩, ⟨(some 105), .iadr 2 (.s 103) (.s 104), some (99, true)⟩, ⟨(some 106), .load (some 2) (.s 105), some (99, true)⟩, ⟨(some 107), .mv (.s 10), some (99, true)⟩, ⟨(some 108), .mv (.s 11), some (99, true)⟩, ⟨(some 109), .call (.c (.fn (.func 69) [] [])) [(.s 107), (.s 108)], some (99, true)⟩, ⟨(some 110), .eqv true true [.i, .s] (.s 106) (.s 109), some (99, true)⟩, ⟨(some 111), .pick (.s 99) (.s 110) (.c (.dat (.bool false))), some (91, false)⟩, ⟨(some 112), .pick (.s 91) (.c (.dat (.bool true))) (.s 111), none⟩] (some [(2, 9), (3, 9), (5, 9), (6, 9), (22, 29), (23, 29), (25, 29), (26, 29)]) [3, 6, 10, 11, 112])
 (.cond (.s 112) (.seq (.reg [⟨(some 2), .mv (.c (.dat (.bool false))), none⟩] none [2])
 (.ret [2])) .skip)))
 (.reg [⟨(some 78), .mv (.s 11), none⟩, ⟨(some 79), .bin .add (.s 78) (.c (.dat (.int .i64 1))), none⟩, ⟨(some 11), .mv (.s 79), none⟩] none [3, 6, 10, 11])))
def xf54_k4 : List (Nat × Option (Nat × Nat × Bool)) := [(3, some (119, 1, false)), (6, some (119, 1, false)), (10, none)]
def xf54_b4 : XCode := (.seq (.seq (.reg [⟨(some 65), .mv (.s 10), none⟩, ⟨(some 66), .mv (.s 3), none⟩, ⟨(some 67), .len false (.s 66), none⟩, ⟨(some 68), .bin .lss (.s 65) (.s 67), none⟩] none [3, 6, 10, 68])
 (.cond (.s 68) .skip (.exit 8 [])))
 (.seq (.block 9 (.seq (.reg [⟨(some 11), .mv (.c (.dat (.int .i64 0))), none⟩] none [3, 6, 10, 11])
 (.block 10 (.loop xf54_k5 xf54_b5))))
 (.reg [⟨(some 69), .mv (.s 10), none⟩, ⟨(some 70), .bin .add (.s 69) (.c (.dat (.int .i64 1))), none⟩, ⟨(some 10), .mv (.s 70), none⟩] none [3, 6, 10])))
def xf54 : XFunc := ⟨1, [.tmp 2], (.seq (.reg [⟨(some 2), .mv (.c (.dat (.bool false))), none⟩] none [0])
 (.seq (.reg [⟨(some 12), .mv (.s 0), none⟩, ⟨(some 13), .nilchk (.s 12), none⟩, ⟨(some 14), .fadr 4 (.s 13), none⟩, ⟨(some 15), .load none (.s 14), none⟩, ⟨(some 3), .mv (.s 15), none⟩] none [3])
 (.seq (.seq (.reg [⟨(some 4), .mv (.c (.dat (.int .i64 0))), none⟩] none [3, 4])
 (.block 0 (.loop xf54_k0 xf54_b0)))
 (.seq (.reg [⟨(some 6), .mv (.c (.nil 119 1 false)), none⟩] none [3, 6])
 (.seq (.seq (.reg [⟨(some 7), .mv (.c (.dat (.int .i64 0))), none⟩] none [3, 6, 7])
 (.block 4 (.loop xf54_k2 xf54_b2)))
 (.seq (.seq (.reg [⟨(some 10), .mv (.c (.dat (.int .i64 0))), none⟩] none [3, 6, 10])
 (.block 8 (.loop xf54_k4 xf54_b4)))
 (.seq (.reg [⟨(some 2), .mv (.c (.dat (.bool true))), none⟩] none [2])
 (.ret [2]))))))))⟩

-- (*amnesia/amnesiaplain.Book).apartRows
def xf55_k1 : List (Nat × Option (Nat × Nat × Bool)) := [(3, some (123, 1, false)), (4, none), (5, none)]
def xf55_b1 : XCode := (.seq (.seq (.reg [⟨(some 22), .mv (.s 5), none⟩, ⟨(some 23), .mv (.s 3), none⟩, ⟨(some 24), .mv (.s 4), none⟩, ⟨(some 25), .iadr 1 (.s 23) (.s 24), none⟩, ⟨(some 26), .load none (.s 25), none⟩, ⟨(some 27), .len false (.s 26), none⟩, ⟨(some 28), .bin .lss (.s 22) (.s 27), none⟩] none [3, 4, 5, 28])
 (.cond (.s 28) .skip (.exit 2 [3, 4])))
 (.seq (.block 3 (.reg [⟨(some 31), .mv (.s 3), none⟩, ⟨(some 32), .mv (.s 4), none⟩, ⟨(some 33), .iadr 1 (.s 31) (.s 32), none⟩, ⟨(some 34), .load none (.s 33), none⟩, ⟨(some 35), .mv (.s 5), none⟩, ⟨(some 36), .mv (.s 4), none⟩, ⟨(some 37), .mv (.s 5), none⟩, ⟨(some 38), .call (.c (.fn (.func 70) [] [])) [(.s 36), (.s 37)], none⟩, ⟨(some 39), .iadr 7 (.s 34) (.s 35), none⟩, ⟨none, .store 7 (.s 39) (.s 38), none⟩] (some [(2, 7), (3, 7)]) [3, 4, 5]))
 (.reg [⟨(some 29), .mv (.s 5), none⟩, ⟨(some 30), .bin .add (.s 29) (.c (.dat (.int .i64 1))), none⟩, ⟨(some 5), .mv (.s 30), none⟩] none [3, 4, 5])))
def xf55_k0 : List (Nat × Option (Nat × Nat × Bool)) := [(3, some (123, 1, false)), (4, none)]
def xf55_b0 : XCode := (.seq (.seq (.reg [⟨(some 16), .mv (.s 4), none⟩, ⟨(some 17), .mv (.s 3), none⟩, ⟨(some 18), .len false (.s 17), none⟩, ⟨(some 19), .bin .lss (.s 16) (.s 18), none⟩] none [3, 4, 19])
 (.cond (.s 19) .skip (.exit 0 [3])))
 (.seq (.block 1 (.seq (.reg [⟨(some 5), .mv (.c (.dat (.int .i64 0))), none⟩] none [3, 4, 5])
 (.block 2 (.loop xf55_k1 xf55_b1))))
 (.reg [⟨(some 20), .mv (.s 4), none⟩, ⟨(some 21), .bin .add (.s 20) (.c (.dat (.int .i64 1))), none⟩, ⟨(some 4), .mv (.s 21), none⟩] none [3, 4])))
def xf55_k3 : List (Nat × Option (Nat × Nat × Bool)) := [(3, some (123, 1, false)), (6, some (123, 1, false)), (7, none), (8, some (127, 7, true)), (9, none)]
def xf55_b3 : XCode := (.seq (.seq (.reg [⟨(some 50), .mv (.s 9), none⟩, ⟨(some 51), .bin .lss (.s 50) (.c (.dat (.int .i64 70))), none⟩] none [3, 6, 7, 8, 9, 51])
 (.cond (.s 51) .skip (.exit 6 [3, 6, 7, 8])))
 (.seq (.block 7 (.reg [⟨(some 54), .mv (.s 8), none⟩, ⟨(some 55), .mv (.s 7), none⟩, ⟨(some 56), .mv (.s 8), none⟩, ⟨(some 57), .len false (.s 56), none⟩, ⟨(some 58), .call (.c (.fn (.func 70) [] [])) [(.s 55), (.s 57)], none⟩, ⟨(some 59), .bsl 127 7 true 1 [(.dat (.int .i64 0)), (.dat (.int .i64 0)), (.dat (.int .i64 0)), (.dat (.bool false)), (.dat (.int .i64 0)), (.dat (.int .i64 0)), (.dat (.str ⟨#[]⟩))] [(0, 7, (.s 58))], none⟩, ⟨(some 60), .app 127 7 64 true (.s 54) (.s 59), none⟩, ⟨(some 8), .mv (.s 60), none⟩] none [3, 6, 7, 8, 9]))
 (.reg [⟨(some 52), .mv (.s 9), none⟩, ⟨(some 53), .bin .add (.s 52) (.c (.dat (.int .i64 1))), none⟩, ⟨(some 9), .mv (.s 53), none⟩] none [3, 6, 7, 8, 9])))
def xf55_k2 : List (Nat × Option (Nat × Nat × Bool)) := [(3, some (123, 1, false)), (6, some (123, 1, false)), (7, none)]
def xf55_b2 : XCode := (.seq (.seq (.reg [⟨(some 40), .mv (.s 7), none⟩, ⟨(some 41), .mv (.s 3), none⟩, ⟨(some 42), .len false (.s 41), none⟩, ⟨(some 43), .bin .lss (.s 40) (.s 42), none⟩] none [3, 6, 7, 43])
 (.cond (.s 43) .skip (.exit 4 [3, 6])))
 (.seq (.block 5 (.seq (.reg [⟨(some 46), .mv (.s 3), none⟩, ⟨(some 47), .mv (.s 7), none⟩, ⟨(some 48), .iadr 1 (.s 46) (.s 47), none⟩, ⟨(some 49), .load none (.s 48), none⟩, ⟨(some 8), .mv (.s 49), none⟩] none [3, 6, 7, 8])
 (.seq (.seq (.reg [⟨(some 9), .mv (.c (.dat (.int .i64 0))), none⟩] none [3, 6, 7, 8, 9])
 (.block 6 (.loop xf55_k3 xf55_b3)))
 (.reg [⟨(some 61), .mv (.s 6), none⟩, ⟨(some 62), .mv (.s 8), none⟩, ⟨(some 63), .bsl 123 1 false 1 [(.nil 127 7 true)] [(0, 1, (.s 62))], none⟩, ⟨(some 64), .app 123 1 24 false (.s 61) (.s 63), none⟩, ⟨(some 6), .mv (.s 64), none⟩] none [3, 6, 7]))))
 (.reg [⟨(some 44), .mv (.s 7), none⟩, ⟨(some 45), .bin .add (.s 44) (.c (.dat (.int .i64 1))), none⟩, ⟨(some 7), .mv (.s 45), none⟩] none [3, 6, 7])))
def xf55_k5 : List (Nat × Option (Nat × Nat × Bool)) := [(3, some (123, 1, false)), (6, some (123, 1, false)), (10, none), (11, none)]
def xf55_b5 : XCode := (.seq (.seq (.reg [⟨(some 71), .mv (.s 11), none⟩, ⟨(some 72), .mv (.s 6), none⟩, ⟨(some 73), .mv (.s 10), none⟩, ⟨(some 74), .iadr 1 (.s 72) (.s 73), none⟩, ⟨(some 75), .load none (.s 74), none⟩, ⟨(some 76), .len false (.s 75), none⟩, ⟨(some 77), .bin .lss (.s 71) (.s 76), none⟩] none [3, 6, 10, 11, 77])
 (.cond (.s 77) .skip (.exit 10 [3, 6, 10])))
 (.seq (.block 11 (.seq (.reg [⟨(some 80), .mv (.s 6), none⟩, ⟨(some 81), .mv (.s 10), none⟩, ⟨(some 82), .iadr 1 (.s 80) (.s 81), none⟩, ⟨(some 83), .load none (.s 82), none⟩, ⟨(some 84), .mv (.s 11), none⟩, ⟨(some 85), .iadr 7 (.s 83) (.s 84), none⟩, ⟨(some 86), .load (some 7) (.s 85), none⟩, ⟨(some 87), .mv (.s 10), none⟩, ⟨(some 88), .mv (.s 11), none⟩, ⟨(some 89), .call (.c (.fn (.func 70) [] [])) [(.s 87), (.s 88)], none⟩, ⟨(some 90), .eqv true true [.i, .i, .i, .b, .i, .i, .s] (.s 86) (.s 89), none⟩, ⟨(some 91), .mv (.s 90), none⟩, ⟨(some 92), .mv (.s 11), some (91, false)⟩, ⟨(some 93), .mv (.s 3), some (91, false)⟩, ⟨(some 94), .mv (.s 10), some (91, false)⟩, ⟨(some 95), .iadr 1 (.s 93) (.s 94), some (91, false)⟩, ⟨(some 96), .load none (.s 95), some (91, false)⟩, ⟨(some 97), .len false (.s 96), some (91, false)⟩, ⟨(some 98), .bin .lss (.s 92) (.s 97), some (91, false)⟩, ⟨(some 99), .mv (.s 98), some (91, false)⟩, ⟨(some 100), .mv (.s 3), some (99, true)⟩, ⟨(some 101), .mv (.s 10), some (99, true)⟩, ⟨(some 102), .iadr 1 (.s 100) (.s 101), some (99, true)⟩, ⟨(some 103), .load none (.s 102), some (99, true)⟩, ⟨(some 104), .mv (.s 11), some (99, true)⟩, ⟨(some 105), .iadr 7 (.s 103) (.s 104), some (99, true)⟩, ⟨(some 106), .load (some 7) (.s 105), some (99, true)⟩, ⟨(some 107), .mv (.s 10), some (99, true)⟩, ⟨(some 108), .mv (.s 11), some (99, true)⟩, ⟨(some 109), .call (.c (.fn (.func 70) [] [])) [(.s 107), (.s 108)], some (99, true)⟩, ⟨(some 110), .eqv true true [.i, .i, .i, .b, .i, .i, .s] (.s 106) (.s 109), some (99, true)⟩, ⟨(some 111), .pick (.s 99) (.s 110) (.c (.dat (.bool false))), some (91, false)⟩, ⟨(some 112), .pick (.s 91) (.c (.dat (.bool true))) (.s 111), none⟩] (some [(2, 9), (3, 9), (5, 9), (6, 9), (22, 29), (23, 29), (25, 29), (26, 29)]) [3, 6, 10, 11, 112])
 (.cond (.s 112) (.seq (.reg [⟨(some 2), .mv (.c (.dat (.bool false))), none⟩] none [2])
 (.ret [2])) .skip)))
 (.reg [⟨(some 78), .mv (.s 11), none⟩, ⟨(some 79), .bin .add (.s 78) (.c (.dat (.int .i64 1))), none⟩, ⟨(some 11), .mv (.s 79), none⟩] none [3, 6, 10, 11])))
def xf55_k4 : List (Nat × Option (Nat × Nat × Bool)) := [(3, some (123, 1, false)), (6, some (123, 1, false)), (10, none)]
def xf55_b4 : XCode := (.seq (.seq (.reg [⟨(some 65), .mv (.s 10), none⟩, ⟨(some 66), .mv (.s 3), none⟩, ⟨(some 67), .len false (.s 66), none⟩, ⟨(some 68), .bin .lss (.s 65) (.s 67), none⟩] none [3, 6, 10, 68])
 (.cond (.s 68) .skip (.exit 8 [])))
 (.seq (.block 9 (.seq (.reg [⟨(some 11), .mv (.c (.dat (.int .i64 0))), none⟩] none [3, 6, 10, 11])
 (.block 10 (.loop xf55_k5 xf55_b5))))
 (.reg [⟨(some 69), .mv (.s 10), none⟩, ⟨(some 70), .bin .add (.s 69) (.c (.dat (.int .i64 1))), none⟩, ⟨(some 10), .mv (.s 70), none⟩] none [3, 6, 10])))
def xf55 : XFunc := ⟨1, [.tmp 2], (.seq (.reg [⟨(some 2), .mv (.c (.dat (.bool false))), none⟩] none [0])
 (.seq (.reg [⟨(some 12), .mv (.s 0), none⟩, ⟨(some 13), .nilchk (.s 12), none⟩, ⟨(some 14), .fadr 5 (.s 13), none⟩, ⟨(some 15), .load none (.s 14), none⟩, ⟨(some 3), .mv (.s 15), none⟩] none [3])
 (.seq (.seq (.reg [⟨(some 4), .mv (.c (.dat (.int .i64 0))), none⟩] none [3, 4])
 (.block 0 (.loop xf55_k0 xf55_b0)))
 (.seq (.reg [⟨(some 6), .mv (.c (.nil 123 1 false)), none⟩] none [3, 6])
 (.seq (.seq (.reg [⟨(some 7), .mv (.c (.dat (.int .i64 0))), none⟩] none [3, 6, 7])
 (.block 4 (.loop xf55_k2 xf55_b2)))
 (.seq (.seq (.reg [⟨(some 10), .mv (.c (.dat (.int .i64 0))), none⟩] none [3, 6, 10])
 (.block 8 (.loop xf55_k4 xf55_b4)))
 (.seq (.reg [⟨(some 2), .mv (.c (.dat (.bool true))), none⟩] none [2])
 (.ret [2]))))))))⟩
theorem r3 : progT Try.prog 3 = some xf3 := by kernel_rfl
theorem r4 : progT Try.prog 4 = some xf4 := by kernel_rfl
theorem r5 : progT Try.prog 5 = some xf5 := by kernel_rfl
theorem r6 : progT Try.prog 6 = some xf6 := by kernel_rfl
theorem r7 : progT Try.prog 7 = some xf7 := by kernel_rfl
theorem r8 : progT Try.prog 8 = some xf8 := by kernel_rfl
theorem r9 : progT Try.prog 9 = some xf9 := by kernel_rfl
theorem r10 : progT Try.prog 10 = some xf10 := by kernel_rfl
theorem r11 : progT Try.prog 11 = some xf11 := by kernel_rfl
theorem r12 : progT Try.prog 12 = some xf12 := by kernel_rfl
theorem r13 : progT Try.prog 13 = some xf13 := by kernel_rfl
theorem r14 : progT Try.prog 14 = some xf14 := by kernel_rfl
theorem r15 : progT Try.prog 15 = some xf15 := by kernel_rfl
theorem r16 : progT Try.prog 16 = some xf16 := by kernel_rfl
theorem r17 : progT Try.prog 17 = some xf17 := by kernel_rfl
theorem r18 : progT Try.prog 18 = some xf18 := by kernel_rfl
theorem r19 : progT Try.prog 19 = some xf19 := by kernel_rfl
theorem r20 : progT Try.prog 20 = some xf20 := by kernel_rfl
theorem r21 : progT Try.prog 21 = some xf21 := by kernel_rfl
theorem r22 : progT Try.prog 22 = some xf22 := by kernel_rfl
theorem r23 : progT Try.prog 23 = some xf23 := by kernel_rfl
theorem r24 : progT Try.prog 24 = some xf24 := by kernel_rfl
theorem r25 : progT Try.prog 25 = some xf25 := by kernel_rfl
theorem r26 : progT Try.prog 26 = some xf26 := by kernel_rfl
theorem r27 : progT Try.prog 27 = some xf27 := by kernel_rfl
theorem r28 : progT Try.prog 28 = some xf28 := by kernel_rfl
theorem r29 : progT Try.prog 29 = some xf29 := by kernel_rfl
theorem r30 : progT Try.prog 30 = some xf30 := by kernel_rfl
theorem r31 : progT Try.prog 31 = some xf31 := by kernel_rfl
theorem r32 : progT Try.prog 32 = some xf32 := by kernel_rfl
theorem r33 : progT Try.prog 33 = some xf33 := by kernel_rfl
theorem r34 : progT Try.prog 34 = some xf34 := by kernel_rfl
theorem r35 : progT Try.prog 35 = some xf35 := by kernel_rfl
theorem r36 : progT Try.prog 36 = some xf36 := by kernel_rfl
theorem r37 : progT Try.prog 37 = some xf37 := by kernel_rfl
theorem r38 : progT Try.prog 38 = some xf38 := by kernel_rfl
theorem r39 : progT Try.prog 39 = some xf39 := by kernel_rfl
theorem r41 : progT Try.prog 41 = some xf41 := by kernel_rfl
theorem r42 : progT Try.prog 42 = some xf42 := by kernel_rfl
theorem r43 : progT Try.prog 43 = some xf43 := by kernel_rfl
theorem r44 : progT Try.prog 44 = some xf44 := by kernel_rfl
theorem r45 : progT Try.prog 45 = some xf45 := by kernel_rfl
theorem r46 : progT Try.prog 46 = some xf46 := by kernel_rfl
theorem r47 : progT Try.prog 47 = some xf47 := by kernel_rfl
theorem r48 : progT Try.prog 48 = some xf48 := by kernel_rfl
theorem r49 : progT Try.prog 49 = some xf49 := by kernel_rfl
theorem r50 : progT Try.prog 50 = some xf50 := by kernel_rfl
theorem r51 : progT Try.prog 51 = some xf51 := by kernel_rfl
theorem r52 : progT Try.prog 52 = some xf52 := by kernel_rfl
theorem r53 : progT Try.prog 53 = some xf53 := by kernel_rfl
theorem r54 : progT Try.prog 54 = some xf54 := by kernel_rfl
theorem r55 : progT Try.prog 55 = some xf55 := by kernel_rfl

end Go.Ax
