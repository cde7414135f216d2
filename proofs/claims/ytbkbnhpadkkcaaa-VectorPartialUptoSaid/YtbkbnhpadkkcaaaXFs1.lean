/-
  The functions of this seat as resolved code, and that the program resolves to them (part 2).
-/
import Derived.Test.YtbkbnhpadkkcaaaXComp
import Derived.Test.YtbkbnhpadkkcaaaProg
import Derived.KernelRfl
namespace Go.Ax
open Go.Proofs

-- (*amnesia/amnesiaplain.Book).apartResults
def xf56_k1 : List (Nat × Option (Nat × Nat × Bool)) := [(3, some (129, 1, false)), (4, none), (5, none)]
def xf56_b1 : XCode := (.seq (.seq (.reg [⟨(some 22), .mv (.s 5), none⟩, ⟨(some 23), .mv (.s 3), none⟩, ⟨(some 24), .mv (.s 4), none⟩, ⟨(some 25), .iadr 1 (.s 23) (.s 24), none⟩, ⟨(some 26), .load none (.s 25), none⟩, ⟨(some 27), .len false (.s 26), none⟩, ⟨(some 28), .bin .lss (.s 22) (.s 27), none⟩] none [3, 4, 5, 28])
 (.cond (.s 28) .skip (.exit 2 [3, 4])))
 (.seq (.block 3 (.reg [⟨(some 31), .mv (.s 3), none⟩, ⟨(some 32), .mv (.s 4), none⟩, ⟨(some 33), .iadr 1 (.s 31) (.s 32), none⟩, ⟨(some 34), .load none (.s 33), none⟩, ⟨(some 35), .mv (.s 5), none⟩, ⟨(some 36), .mv (.s 4), none⟩, ⟨(some 37), .mv (.s 5), none⟩, ⟨(some 38), .call (.c (.fn (.func 71) [] [])) [(.s 36), (.s 37)], none⟩, ⟨(some 39), .iadr 3 (.s 34) (.s 35), none⟩, ⟨none, .store 3 (.s 39) (.s 38), none⟩] (some [(2, 7), (3, 7)]) [3, 4, 5]))
 (.reg [⟨(some 29), .mv (.s 5), none⟩, ⟨(some 30), .bin .add (.s 29) (.c (.dat (.int .i64 1))), none⟩, ⟨(some 5), .mv (.s 30), none⟩] none [3, 4, 5])))
def xf56_k0 : List (Nat × Option (Nat × Nat × Bool)) := [(3, some (129, 1, false)), (4, none)]
def xf56_b0 : XCode := (.seq (.seq (.reg [⟨(some 16), .mv (.s 4), none⟩, ⟨(some 17), .mv (.s 3), none⟩, ⟨(some 18), .len false (.s 17), none⟩, ⟨(some 19), .bin .lss (.s 16) (.s 18), none⟩] none [3, 4, 19])
 (.cond (.s 19) .skip (.exit 0 [3])))
 (.seq (.block 1 (.seq (.reg [⟨(some 5), .mv (.c (.dat (.int .i64 0))), none⟩] none [3, 4, 5])
 (.block 2 (.loop xf56_k1 xf56_b1))))
 (.reg [⟨(some 20), .mv (.s 4), none⟩, ⟨(some 21), .bin .add (.s 20) (.c (.dat (.int .i64 1))), none⟩, ⟨(some 4), .mv (.s 21), none⟩] none [3, 4])))
def xf56_k3 : List (Nat × Option (Nat × Nat × Bool)) := [(3, some (129, 1, false)), (6, some (129, 1, false)), (7, none), (8, some (125, 3, true)), (9, none)]
def xf56_b3 : XCode := (.seq (.seq (.reg [⟨(some 50), .mv (.s 9), none⟩, ⟨(some 51), .bin .lss (.s 50) (.c (.dat (.int .i64 70))), none⟩] none [3, 6, 7, 8, 9, 51])
 (.cond (.s 51) .skip (.exit 6 [3, 6, 7, 8])))
 (.seq (.block 7 (.reg [⟨(some 54), .mv (.s 8), none⟩, ⟨(some 55), .mv (.s 7), none⟩, ⟨(some 56), .mv (.s 8), none⟩, ⟨(some 57), .len false (.s 56), none⟩, ⟨(some 58), .call (.c (.fn (.func 71) [] [])) [(.s 55), (.s 57)], none⟩, ⟨(some 59), .bsl 125 3 true 1 [(.dat (.int .i64 0)), (.dat (.int .i64 0)), (.dat (.str ⟨#[]⟩))] [(0, 3, (.s 58))], none⟩, ⟨(some 60), .app 125 3 32 true (.s 54) (.s 59), none⟩, ⟨(some 8), .mv (.s 60), none⟩] none [3, 6, 7, 8, 9]))
 (.reg [⟨(some 52), .mv (.s 9), none⟩, ⟨(some 53), .bin .add (.s 52) (.c (.dat (.int .i64 1))), none⟩, ⟨(some 9), .mv (.s 53), none⟩] none [3, 6, 7, 8, 9])))
def xf56_k2 : List (Nat × Option (Nat × Nat × Bool)) := [(3, some (129, 1, false)), (6, some (129, 1, false)), (7, none)]
def xf56_b2 : XCode := (.seq (.seq (.reg [⟨(some 40), .mv (.s 7), none⟩, ⟨(some 41), .mv (.s 3), none⟩, ⟨(some 42), .len false (.s 41), none⟩, ⟨(some 43), .bin .lss (.s 40) (.s 42), none⟩] none [3, 6, 7, 43])
 (.cond (.s 43) .skip (.exit 4 [3, 6])))
 (.seq (.block 5 (.seq (.reg [⟨(some 46), .mv (.s 3), none⟩, ⟨(some 47), .mv (.s 7), none⟩, ⟨(some 48), .iadr 1 (.s 46) (.s 47), none⟩, ⟨(some 49), .load none (.s 48), none⟩, ⟨(some 8), .mv (.s 49), none⟩] none [3, 6, 7, 8])
 (.seq (.seq (.reg [⟨(some 9), .mv (.c (.dat (.int .i64 0))), none⟩] none [3, 6, 7, 8, 9])
 (.block 6 (.loop xf56_k3 xf56_b3)))
 (.reg [⟨(some 61), .mv (.s 6), none⟩, ⟨(some 62), .mv (.s 8), none⟩, ⟨(some 63), .bsl 129 1 false 1 [(.nil 125 3 true)] [(0, 1, (.s 62))], none⟩, ⟨(some 64), .app 129 1 24 false (.s 61) (.s 63), none⟩, ⟨(some 6), .mv (.s 64), none⟩] none [3, 6, 7]))))
 (.reg [⟨(some 44), .mv (.s 7), none⟩, ⟨(some 45), .bin .add (.s 44) (.c (.dat (.int .i64 1))), none⟩, ⟨(some 7), .mv (.s 45), none⟩] none [3, 6, 7])))
def xf56_k5 : List (Nat × Option (Nat × Nat × Bool)) := [(3, some (129, 1, false)), (6, some (129, 1, false)), (10, none), (11, none)]
def xf56_b5 : XCode := (.seq (.seq (.reg [⟨(some 71), .mv (.s 11), none⟩, ⟨(some 72), .mv (.s 6), none⟩, ⟨(some 73), .mv (.s 10), none⟩, ⟨(some 74), .iadr 1 (.s 72) (.s 73), none⟩, ⟨(some 75), .load none (.s 74), none⟩, ⟨(some 76), .len false (.s 75), none⟩, ⟨(some 77), .bin .lss (.s 71) (.s 76), none⟩] none [3, 6, 10, 11, 77])
 (.cond (.s 77) .skip (.exit 10 [3, 6, 10])))
 (.seq (.block 11 (.seq (.reg [⟨(some 80), .mv (.s 6), none⟩, ⟨(some 81), .mv (.s 10), none⟩, ⟨(some 82), .iadr 1 (.s 80) (.s 81), none⟩, ⟨(some 83), .load none (.s 82), none⟩, ⟨(some 84), .mv (.s 11), none⟩, ⟨(some 85), .iadr 3 (.s 83) (.s 84), none⟩, ⟨(some 86), .load (some 3) (.s 85), none⟩, ⟨(some 87), .mv (.s 10), none⟩, ⟨(some 88), .mv (.s 11), none⟩, ⟨(some 89), .call (.c (.fn (.func 71) [] [])) [(.s 87), (.s 88)], none⟩, ⟨(some 90), .eqv true true [.i, .i, .s] (.s 86) (.s 89), none⟩, ⟨(some 91), .mv (.s 90), none⟩, ⟨(some 92), .mv (.s 11), some (91, false)⟩, ⟨(some 93), .mv (.s 3), some (91, false)⟩, ⟨(some 94), .mv (.s 10), some (91, false)⟩, ⟨(some 95), .iadr 1 (.s 93) (.s 94), some (91, false)⟩, ⟨(some 96), .load none (.s 95), some (91, false)⟩, ⟨(some 97), .len false (.s 96), some (91, false)⟩, ⟨(some 98), .bin .lss (.s 92) (.s 97), some (91, false)⟩, ⟨(some 99), .mv (.s 98), some (91, false)⟩, ⟨(some 100), .mv (.s 3), some (99, true)⟩, ⟨(some 101), .mv (.s 10), some (99, true)⟩, ⟨(some 102), .iadr 1 (.s 100) (.s 101), some (99, true)⟩, ⟨(some 103), .load none (.s 102), some (99, true)⟩, ⟨(some 104), .mv (.s 11), some (99, true)⟩, ⟨(some 105), .iadr 3 (.s 103) (.s 104), some (99, true)⟩, ⟨(some 106), .load (some 3) (.s 105), some (99, true)⟩, ⟨(some 107), .mv (.s 10), some (99, true)⟩, ⟨(some 108), .mv (.s 11), some (99, true)⟩, ⟨(some 109), .call (.c (.fn (.func 71) [] [])) [(.s 107), (.s 108)], some (99, true)⟩, ⟨(some 110), .eqv true true [.i, .i, .s] (.s 106) (.s 109), some (99, true)⟩, ⟨(some 111), .pick (.s 99) (.s 110) (.c (.dat (.bool false))), some (91, false)⟩, ⟨(some 112), .pick (.s 91) (.c (.dat (.bool true))) (.s 111), none⟩] (some [(2, 9), (3, 9), (5, 9), (6, 9), (22, 29), (23, 29), (25, 29), (26, 29)]) [3, 6, 10, 11, 112])
 (.cond (.s 112) (.seq (.reg [⟨(some 2), .mv (.c (.dat (.bool false))), none⟩] none [2])
 (.ret [2])) .skip)))
 (.reg [⟨(some 78), .mv (.s 11), none⟩, ⟨(some 79), .bin .add (.s 78) (.c (.dat (.int .i64 1))), none⟩, ⟨(some 11), .mv (.s 79), none⟩] none [3, 6, 10, 11])))
def xf56_k4 : List (Nat × Option (Nat × Nat × Bool)) := [(3, some (129, 1, false)), (6, some (129, 1, false)), (10, none)]
def xf56_b4 : XCode := (.seq (.seq (.reg [⟨(some 65), .mv (.s 10), none⟩, ⟨(some 66), .mv (.s 3), none⟩, ⟨(some 67), .len false (.s 66), none⟩, ⟨(some 68), .bin .lss (.s 65) (.s 67), none⟩] none [3, 6, 10, 68])
 (.cond (.s 68) .skip (.exit 8 [])))
 (.seq (.block 9 (.seq (.reg [⟨(some 11), .mv (.c (.dat (.int .i64 0))), none⟩] none [3, 6, 10, 11])
 (.block 10 (.loop xf56_k5 xf56_b5))))
 (.reg [⟨(some 69), .mv (.s 10), none⟩, ⟨(some 70), .bin .add (.s 69) (.c (.dat (.int .i64 1))), none⟩, ⟨(some 10), .mv (.s 70), none⟩] none [3, 6, 10])))
def xf56 : XFunc := ⟨1, [.tmp 2], (.seq (.reg [⟨(some 2), .mv (.c (.dat (.bool false))), none⟩] none [0])
 (.seq (.reg [⟨(some 12), .mv (.s 0), none⟩, ⟨(some 13), .nilchk (.s 12), none⟩, ⟨(some 14), .fadr 6 (.s 13), none⟩, ⟨(some 15), .load none (.s 14), none⟩, ⟨(some 3), .mv (.s 15), none⟩] none [3])
 (.seq (.seq (.reg [⟨(some 4), .mv (.c (.dat (.int .i64 0))), none⟩] none [3, 4])
 (.block 0 (.loop xf56_k0 xf56_b0)))
 (.seq (.reg [⟨(some 6), .mv (.c (.nil 129 1 false)), none⟩] none [3, 6])
 (.seq (.seq (.reg [⟨(some 7), .mv (.c (.dat (.int .i64 0))), none⟩] none [3, 6, 7])
 (.block 4 (.loop xf56_k2 xf56_b2)))
 (.seq (.seq (.reg [⟨(some 10), .mv (.c (.dat (.int .i64 0))), none⟩] none [3, 6, 10])
 (.block 8 (.loop xf56_k4 xf56_b4)))
 (.seq (.reg [⟨(some 2), .mv (.c (.dat (.bool true))), none⟩] none [2])
 (.ret [2]))))))))⟩

-- (*amnesia/amnesiaplain.Book).apartStamps
def xf57_k1 : List (Nat × Option (Nat × Nat × Bool)) := [(3, some (131, 1, false)), (4, none), (5, none)]
def xf57_b1 : XCode := (.seq (.seq (.reg [⟨(some 22), .mv (.s 5), none⟩, ⟨(some 23), .mv (.s 3), none⟩, ⟨(some 24), .mv (.s 4), none⟩, ⟨(some 25), .iadr 1 (.s 23) (.s 24), none⟩, ⟨(some 26), .load none (.s 25), none⟩, ⟨(some 27), .len false (.s 26), none⟩, ⟨(some 28), .bin .lss (.s 22) (.s 27), none⟩] none [3, 4, 5, 28])
 (.cond (.s 28) .skip (.exit 2 [3, 4])))
 (.seq (.block 3 (.reg [⟨(some 31), .mv (.s 3), none⟩, ⟨(some 32), .mv (.s 4), none⟩, ⟨(some 33), .iadr 1 (.s 31) (.s 32), none⟩, ⟨(some 34), .load none (.s 33), none⟩, ⟨(some 35), .mv (.s 5), none⟩, ⟨(some 36), .mv (.s 4), none⟩, ⟨(some 37), .mv (.s 5), none⟩, ⟨(some 38), .call (.c (.fn (.func 72) [] [])) [(.s 36), (.s 37)], none⟩, ⟨(some 39), .iadr 3 (.s 34) (.s 35), none⟩, ⟨none, .store 3 (.s 39) (.s 38), none⟩] (some [(2, 7), (3, 7)]) [3, 4, 5]))
 (.reg [⟨(some 29), .mv (.s 5), none⟩, ⟨(some 30), .bin .add (.s 29) (.c (.dat (.int .i64 1))), none⟩, ⟨(some 5), .mv (.s 30), none⟩] none [3, 4, 5])))
def xf57_k0 : List (Nat × Option (Nat × Nat × Bool)) := [(3, some (131, 1, false)), (4, none)]
def xf57_b0 : XCode := (.seq (.seq (.reg [⟨(some 16), .mv (.s 4), none⟩, ⟨(some 17), .mv (.s 3), none⟩, ⟨(some 18), .len false (.s 17), none⟩, ⟨(some 19), .bin .lss (.s 16) (.s 18), none⟩] none [3, 4, 19])
 (.cond (.s 19) .skip (.exit 0 [3])))
 (.seq (.block 1 (.seq (.reg [⟨(some 5), .mv (.c (.dat (.int .i64 0))), none⟩] none [3, 4, 5])
 (.block 2 (.loop xf57_k1 xf57_b1))))
 (.reg [⟨(some 20), .mv (.s 4), none⟩, ⟨(some 21), .bin .add (.s 20) (.c (.dat (.int .i64 1))), none⟩, ⟨(some 4), .mv (.s 21), none⟩] none [3, 4])))
def xf57_k3 : List (Nat × Option (Nat × Nat × Bool)) := [(3, some (131, 1, false)), (6, some (131, 1, false)), (7, none), (8, some (133, 3, true)), (9, none)]
def xf57_b3 : XCode := (.seq (.seq (.reg [⟨(some 50), .mv (.s 9), none⟩, ⟨(some 51), .bin .lss (.s 50) (.c (.dat (.int .i64 70))), none⟩] none [3, 6, 7, 8, 9, 51])
 (.cond (.s 51) .skip (.exit 6 [3, 6, 7, 8])))
 (.seq (.block 7 (.reg [⟨(some 54), .mv (.s 8), none⟩, ⟨(some 55), .mv (.s 7), none⟩, ⟨(some 56), .mv (.s 8), none⟩, ⟨(some 57), .len false (.s 56), none⟩, ⟨(some 58), .call (.c (.fn (.func 72) [] [])) [(.s 55), (.s 57)], none⟩, ⟨(some 59), .bsl 133 3 true 1 [(.dat (.int .i64 0)), (.dat (.int .u64 0)), (.dat (.int .u64 0))] [(0, 3, (.s 58))], none⟩, ⟨(some 60), .app 133 3 24 true (.s 54) (.s 59), none⟩, ⟨(some 8), .mv (.s 60), none⟩] none [3, 6, 7, 8, 9]))
 (.reg [⟨(some 52), .mv (.s 9), none⟩, ⟨(some 53), .bin .add (.s 52) (.c (.dat (.int .i64 1))), none⟩, ⟨(some 9), .mv (.s 53), none⟩] none [3, 6, 7, 8, 9])))
def xf57_k2 : List (Nat × Option (Nat × Nat × Bool)) := [(3, some (131, 1, false)), (6, some (131, 1, false)), (7, none)]
def xf57_b2 : XCode := (.seq (.seq (.reg [⟨(some 40), .mv (.s 7), none⟩, ⟨(some 41), .mv (.s 3), none⟩, ⟨(some 42), .len false (.s 41), none⟩, ⟨(some 43), .bin .lss (.s 40) (.s 42), none⟩] none [3, 6, 7, 43])
 (.cond (.s 43) .skip (.exit 4 [3, 6])))
 (.seq (.block 5 (.seq (.reg [⟨(some 46), .mv (.s 3), none⟩, ⟨(some 47), .mv (.s 7), none⟩, ⟨(some 48), .iadr 1 (.s 46) (.s 47), none⟩, ⟨(some 49), .load none (.s 48), none⟩, ⟨(some 8), .mv (.s 49), none⟩] none [3, 6, 7, 8])
 (.seq (.seq (.reg [⟨(some 9), .mv (.c (.dat (.int .i64 0))), none⟩] none [3, 6, 7, 8, 9])
 (.block 6 (.loop xf57_k3 xf57_b3)))
 (.reg [⟨(some 61), .mv (.s 6), none⟩, ⟨(some 62), .mv (.s 8), none⟩, ⟨(some 63), .bsl 131 1 false 1 [(.nil 133 3 true)] [(0, 1, (.s 62))], none⟩, ⟨(some 64), .app 131 1 24 false (.s 61) (.s 63), none⟩, ⟨(some 6), .mv (.s 64), none⟩] none [3, 6, 7]))))
 (.reg [⟨(some 44), .mv (.s 7), none⟩, ⟨(some 45), .bin .add (.s 44) (.c (.dat (.int .i64 1))), none⟩, ⟨(some 7), .mv (.s 45), none⟩] none [3, 6, 7])))
def xf57_k5 : List (Nat × Option (Nat × Nat × Bool)) := [(3, some (131, 1, false)), (6, some (131, 1, false)), (10, none), (11, none)]
def xf57_b5 : XCode := (.seq (.seq (.reg [⟨(some 71), .mv (.s 11), none⟩, ⟨(some 72), .mv (.s 6), none⟩, ⟨(some 73), .mv (.s 10), none⟩, ⟨(some 74), .iadr 1 (.s 72) (.s 73), none⟩, ⟨(some 75), .load none (.s 74), none⟩, ⟨(some 76), .len false (.s 75), none⟩, ⟨(some 77), .bin .lss (.s 71) (.s 76), none⟩] none [3, 6, 10, 11, 77])
 (.cond (.s 77) .skip (.exit 10 [3, 6, 10])))
 (.seq (.block 11 (.seq (.reg [⟨(some 80), .mv (.s 6), none⟩, ⟨(some 81), .mv (.s 10), none⟩, ⟨(some 82), .iadr 1 (.s 80) (.s 81), none⟩, ⟨(some 83), .load none (.s 82), none⟩, ⟨(some 84), .mv (.s 11), none⟩, ⟨(some 85), .iadr 3 (.s 83) (.s 84), none⟩, ⟨(some 86), .load (some 3) (.s 85), none⟩, ⟨(some 87), .mv (.s 10), none⟩, ⟨(some 88), .mv (.s 11), none⟩, ⟨(some 89), .call (.c (.fn (.func 72) [] [])) [(.s 87), (.s 88)], none⟩, ⟨(some 90), .eqv true true [.i, .i, .i] (.s 86) (.s 89), none⟩, ⟨(some 91), .mv (.s 90), none⟩, ⟨(some 92), .mv (.s 11), some (91, false)⟩, ⟨(some 93), .mv (.s 3), some (91, false)⟩, ⟨(some 94), .mv (.s 10), some (91, false)⟩, ⟨(some 95), .iadr 1 (.s 93) (.s 94), some (91, false)⟩, ⟨(some 96), .load none (.s 95), some (91, false)⟩, ⟨(some 97), .len false (.s 96), some (91, false)⟩, ⟨(some 98), .bin .lss (.s 92) (.s 97), some (91, false)⟩, ⟨(some 99), .mv (.s 98), some (91, false)⟩, ⟨(some 100), .mv (.s 3), some (99, true)⟩, ⟨(some 101), .mv (.s 10), some (99, true)⟩, ⟨(some 102), .iadr 1 (.s 100) (.s 101), some (99, true)⟩, ⟨(some 103), .load none (.s 102), some (99, true)⟩, ⟨(some 104), .mv (.s 11), some (99, true)⟩, ⟨(some 105), .iadr 3 (.s 103) (.s 104), some (99, true)⟩, ⟨(some 106), .load (some 3) (.s 105), some (99, true)⟩, ⟨(some 107), .mv (.s 10), some (99, true)⟩, ⟨(some 108), .mv (.s 11), some (99, true)⟩, ⟨(some 109), .call (.c (.fn (.func 72) [] [])) [(.s 107), (.s 108)], some (99, true)⟩, ⟨(some 110), .eqv true true [.i, .i, .i] (.s 106) (.s 109), some (99, true)⟩, ⟨(some 111), .pick (.s 99) (.s 110) (.c (.dat (.bool false))), some (91, false)⟩, ⟨(some 112), .pick (.s 91) (.c (.dat (.bool true))) (.s 111), none⟩] (some [(2, 9), (3, 9), (5, 9), (6, 9), (22, 29), (23, 29), (25, 29), (26, 29)]) [3, 6, 10, 11, 112])
 (.cond (.s 112) (.seq (.reg [⟨(some 2), .mv (.c (.dat (.bool false))), none⟩] none [2])
 (.ret [2])) .skip)))
 (.reg [⟨(some 78), .mv (.s 11), none⟩, ⟨(some 79), .bin .add (.s 78) (.c (.dat (.int .i64 1))), none⟩, ⟨(some 11), .mv (.s 79), none⟩] none [3, 6, 10, 11])))
def xf57_k4 : List (Nat × Option (Nat × Nat × Bool)) := [(3, some (131, 1, false)), (6, some (131, 1, false)), (10, none)]
def xf57_b4 : XCode := (.seq (.seq (.reg [⟨(some 65), .mv (.s 10), none⟩, ⟨(some 66), .mv (.s 3), none⟩, ⟨(some 67), .len false (.s 66), none⟩, ⟨(some 68), .bin .lss (.s 65) (.s 67), none⟩] none [3, 6, 10, 68])
 (.cond (.s 68) .skip (.exit 8 [])))
 (.seq (.block 9 (.seq (.reg [⟨(some 11), .mv (.c (.dat (.int .i64 0))), none⟩] none [3, 6, 10, 11])
 (.block 10 (.loop xf57_k5 xf57_b5))))
 (.reg [⟨(some 69), .mv (.s 10), none⟩, ⟨(some 70), .bin .add (.s 69) (.c (.dat (.int .i64 1))), none⟩, ⟨(some 10), .mv (.s 70), none⟩] none [3, 6, 10])))
def xf57 : XFunc := ⟨1, [.tmp 2], (.seq (.reg [⟨(some 2), .mv (.c (.dat (.bool false))), none⟩] none [0])
 (.seq (.reg [⟨(some 12), .mv (.s 0), none⟩, ⟨(some 13), .nilchk (.s 12), none⟩, ⟨(some 14), .fadr 7 (.s 13), none⟩, ⟨(some 15), .load none (.s 14), none⟩, ⟨(some 3), .mv (.s 15), none⟩] none [3])
 (.seq (.seq (.reg [⟨(some 4), .mv (.c (.dat (.int .i64 0))), none⟩] none [3, 4])
 (.block 0 (.loop xf57_k0 xf57_b0)))
 (.seq (.reg [⟨(some 6), .mv (.c (.nil 131 1 false)), none⟩] none [3, 6])
 (.seq (.seq (.reg [⟨(some 7), .mv (.c (.dat (.int .i64 0))), none⟩] none [3, 6, 7])
 (.block 4 (.loop xf57_k2 xf57_b2)))
 (.seq (.seq (.reg [⟨(some 10), .mv (.c (.dat (.int .i64 0))), none⟩] none [3, 6, 10])
 (.block 8 (.loop xf57_k4 xf57_b4)))
 (.seq (.reg [⟨(some 2), .mv (.c (.dat (.bool true))), none⟩] none [2])
 (.ret [2]))))))))⟩

-- (*amnesia/amnesiaplain.Book).apartAcks
def xf58_k1 : List (Nat × Option (Nat × Nat × Bool)) := [(3, some (92, 1, false)), (4, none), (5, none)]
def xf58_b1 : XCode := (.seq (.seq (.reg [⟨(some 22), .mv (.s 5), none⟩, ⟨(some 23), .mv (.s 3), none⟩, ⟨(some 24), .mv (.s 4), none⟩, ⟨(some 25), .iadr 1 (.s 23) (.s 24), none⟩, ⟨(some 26), .load none (.s 25), none⟩, ⟨(some 27), .len false (.s 26), none⟩, ⟨(some 28), .bin .lss (.s 22) (.s 27), none⟩] none [3, 4, 5, 28])
 (.cond (.s 28) .skip (.exit 2 [3, 4])))
 (.seq (.block 3 (.reg [⟨(some 31), .mv (.s 3), none⟩, ⟨(some 32), .mv (.s 4), none⟩, ⟨(some 33), .iadr 1 (.s 31) (.s 32), none⟩, ⟨(some 34), .load none (.s 33), none⟩, ⟨(some 35), .mv (.s 5), none⟩, ⟨(some 36), .mv (.s 4), none⟩, ⟨(some 37), .mv (.s 5), none⟩, ⟨(some 38), .call (.c (.fn (.func 73) [] [])) [(.s 36), (.s 37)], none⟩, ⟨(some 39), .iadr 4 (.s 34) (.s 35), none⟩, ⟨none, .store 4 (.s 39) (.s 38), none⟩] (some [(2, 7), (3, 7)]) [3, 4, 5]))
 (.reg [⟨(some 29), .mv (.s 5), none⟩, ⟨(some 30), .bin .add (.s 29) (.c (.dat (.int .i64 1))), none⟩, ⟨(some 5), .mv (.s 30), none⟩] none [3, 4, 5])))
def xf58_k0 : List (Nat × Option (Nat × Nat × Bool)) := [(3, some (92, 1, false)), (4, none)]
def xf58_b0 : XCode := (.seq (.seq (.reg [⟨(some 16), .mv (.s 4), none⟩, ⟨(some 17), .mv (.s 3), none⟩, ⟨(some 18), .len false (.s 17), none⟩, ⟨(some 19), .bin .lss (.s 16) (.s 18), none⟩] none [3, 4, 19])
 (.cond (.s 19) .skip (.exit 0 [3])))
 (.seq (.block 1 (.seq (.reg [⟨(some 5), .mv (.c (.dat (.int .i64 0))), none⟩] none [3, 4, 5])
 (.block 2 (.loop xf58_k1 xf58_b1))))
 (.reg [⟨(some 20), .mv (.s 4), none⟩, ⟨(some 21), .bin .add (.s 20) (.c (.dat (.int .i64 1))), none⟩, ⟨(some 4), .mv (.s 21), none⟩] none [3, 4])))
def xf58_k3 : List (Nat × Option (Nat × Nat × Bool)) := [(3, some (92, 1, false)), (6, some (92, 1, false)), (7, none), (8, some (136, 4, true)), (9, none)]
def xf58_b3 : XCode := (.seq (.seq (.reg [⟨(some 50), .mv (.s 9), none⟩, ⟨(some 51), .bin .lss (.s 50) (.c (.dat (.int .i64 70))), none⟩] none [3, 6, 7, 8, 9, 51])
 (.cond (.s 51) .skip (.exit 6 [3, 6, 7, 8])))
 (.seq (.block 7 (.reg [⟨(some 54), .mv (.s 8), none⟩, ⟨(some 55), .mv (.s 7), none⟩, ⟨(some 56), .mv (.s 8), none⟩, ⟨(some 57), .len false (.s 56), none⟩, ⟨(some 58), .call (.c (.fn (.func 73) [] [])) [(.s 55), (.s 57)], none⟩, ⟨(some 59), .bsl 136 4 true 1 [(.dat (.int .i64 0)), (.dat (.int .u64 0)), (.dat (.int .u64 0)), (.dat (.int .i64 0))] [(0, 4, (.s 58))], none⟩, ⟨(some 60), .app 136 4 32 true (.s 54) (.s 59), none⟩, ⟨(some 8), .mv (.s 60), none⟩] none [3, 6, 7, 8, 9]))
 (.reg [⟨(some 52), .mv (.s 9), none⟩, ⟨(some 53), .bin .add (.s 52) (.c (.dat (.int .i64 1))), none⟩, ⟨(some 9), .mv (.s 53), none⟩] none [3, 6, 7, 8, 9])))
def xf58_k2 : List (Nat × Option (Nat × Nat × Bool)) := [(3, some (92, 1, false)), (6, some (92, 1, false)), (7, none)]
def xf58_b2 : XCode := (.seq (.seq (.reg [⟨(some 40), .mv (.s 7), none⟩, ⟨(some 41), .mv (.s 3), none⟩, ⟨(some 42), .len false (.s 41), none⟩, ⟨(some 43), .bin .lss (.s 40) (.s 42), none⟩] none [3, 6, 7, 43])
 (.cond (.s 43) .skip (.exit 4 [3, 6])))
 (.seq (.block 5 (.seq (.reg [⟨(some 46), .mv (.s 3), none⟩, ⟨(some 47), .mv (.s 7), none⟩, ⟨(some 48), .iadr 1 (.s 46) (.s 47), none⟩, ⟨(some 49), .load none (.s 48), none⟩, ⟨(some 8), .mv (.s 49), none⟩] none [3, 6, 7, 8])
 (.seq (.seq (.reg [⟨(some 9), .mv (.c (.dat (.int .i64 0))), none⟩] none [3, 6, 7, 8, 9])
 (.block 6 (.loop xf58_k3 xf58_b3)))
 (.reg [⟨(some 61), .mv (.s 6), none⟩, ⟨(some 62), .mv (.s 8), none⟩, ⟨(some 63), .bsl 92 1 false 1 [(.nil 136 4 true)] [(0, 1, (.s 62))], none⟩, ⟨(some 64), .app 92 1 24 false (.s 61) (.s 63), none⟩, ⟨(some 6), .mv (.s 64), none⟩] none [3, 6, 7]))))
 (.reg [⟨(some 44), .mv (.s 7), none⟩, ⟨(some 45), .bin .add (.s 44) (.c (.dat (.int .i64 1))), none⟩, ⟨(some 7), .mv (.s 45), none⟩] none [3, 6, 7])))
def xf58_k5 : List (Nat × Option (Nat × Nat × Bool)) := [(3, some (92, 1, false)), (6, some (92, 1, false)), (10, none), (11, none)]
def xf58_b5 : XCode := (.seq (.seq (.reg [⟨(some 71), .mv (.s 11), none⟩, ⟨(some 72), .mv (.s 6), none⟩, ⟨(some 73), .mv (.s 10), none⟩, ⟨(some 74), .iadr 1 (.s 72) (.s 73), none⟩, ⟨(some 75), .load none (.s 74), none⟩, ⟨(some 76), .len false (.s 75), none⟩, ⟨(some 77), .bin .lss (.s 71) (.s 76), none⟩] none [3, 6, 10, 11, 77])
 (.cond (.s 77) .skip (.exit 10 [3, 6, 10])))
 (.seq (.block 11 (.seq (.reg [⟨(some 80), .mv (.s 6), none⟩, ⟨(some 81), .mv (.s 10), none⟩, ⟨(some 82), .iadr 1 (.s 80) (.s 81), none⟩, ⟨(some 83), .load none (.s 82), none⟩, ⟨(some 84), .mv (.s 11), none⟩, ⟨(some 85), .iadr 4 (.s 83) (.s 84), none⟩, ⟨(some 86), .load (some 4) (.s 85), none⟩, ⟨(some 87), .mv (.s 10), none⟩, ⟨(some 88), .mv (.s 11), none⟩, ⟨(some 89), .call (.c (.fn (.func 73) [] [])) [(.s 87), (.s 88)], none⟩, ⟨(some 90), .eqv true true [.i, .i, .i, .i] (.s 86) (.s 89), none⟩, ⟨(some 91), .mv (.s 90), none⟩, ⟨(some 92), .mv (.s 11), some (91, false)⟩, ⟨(some 93), .mv (.s 3), some (91, false)⟩, ⟨(some 94), .mv (.s 10), some (91, false)⟩, ⟨(some 95), .iadr 1 (.s 93) (.s 94), some (91, false)⟩, ⟨(some 96), .load none (.s 95), some (91, false)⟩, ⟨(some 97), .len false (.s 96), some (91, false)⟩, ⟨(some 98), .bin .lss (.s 92) (.s 97), some (91, false)⟩, ⟨(some 99), .mv (.s 98), some (91, false)⟩, ⟨(some 100), .mv (.s 3), some (99, true)⟩, ⟨(some 101), .mv (.s 10), some (99, true)⟩, ⟨(some 102), .iadr 1 (.s 100) (.s 101), some (99, true)⟩, ⟨(some 103), .load none (.s 102), some (99, true)⟩, ⟨(some 104), .mv (.s 11), some (99, true)⟩, ⟨(some 105), .iadr 4 (.s 103) (.s 104), some (99, true)⟩, ⟨(some 106), .load (some 4) (.s 105), some (99, true)⟩, ⟨(some 107), .mv (.s 10), some (99, true)⟩, ⟨(some 108), .mv (.s 11), some (99, true)⟩, ⟨(some 109), .call (.c (.fn (.func 73) [] [])) [(.s 107), (.s 108)], some (99, true)⟩, ⟨(some 110), .eqv true true [.i, .i, .i, .i] (.s 106) (.s 109), some (99, true)⟩, ⟨(some 111), .pick (.s 99) (.s 110) (.c (.dat (.bool false))), some (91, false)⟩, ⟨(some 112), .pick (.s 91) (.c (.dat (.bool true))) (.s 111), none⟩] (some [(2, 9), (3, 9), (5, 9), (6, 9), (22, 29), (23, 29), (25, 29), (26, 29)]) [3, 6, 10, 11, 112])
 (.cond (.s 112) (.seq (.reg [⟨(some 2), .mv (.c (.dat (.bool false))), none⟩] none [2])
 (.ret [2])) .skip)))
 (.reg [⟨(some 78), .mv (.s 11), none⟩, ⟨(some 79), .bin .add (.s 78) (.c (.dat (.int .i64 1))), none⟩, ⟨(some 11), .mv (.s 79), none⟩] none [3, 6, 10, 11])))
def xf58_k4 : List (Nat × Option (Nat × Nat × Bool)) := [(3, some (92, 1, false)), (6, some (92, 1, false)), (10, none)]
def xf58_b4 : XCode := (.seq (.seq (.reg [⟨(some 65), .mv (.s 10), none⟩, ⟨(some 66), .mv (.s 3), none⟩, ⟨(some 67), .len false (.s 66), none⟩, ⟨(some 68), .bin .lss (.s 65) (.s 67), none⟩] none [3, 6, 10, 68])
 (.cond (.s 68) .skip (.exit 8 [])))
 (.seq (.block 9 (.seq (.reg [⟨(some 11), .mv (.c (.dat (.int .i64 0))), none⟩] none [3, 6, 10, 11])
 (.block 10 (.loop xf58_k5 xf58_b5))))
 (.reg [⟨(some 69), .mv (.s 10), none⟩, ⟨(some 70), .bin .add (.s 69) (.c (.dat (.int .i64 1))), none⟩, ⟨(some 10), .mv (.s 70), none⟩] none [3, 6, 10])))
def xf58 : XFunc := ⟨1, [.tmp 2], (.seq (.reg [⟨(some 2), .mv (.c (.dat (.bool false))), none⟩] none [0])
 (.seq (.reg [⟨(some 12), .mv (.s 0), none⟩, ⟨(some 13), .nilchk (.s 12), none⟩, ⟨(some 14), .fadr 8 (.s 13), none⟩, ⟨(some 15), .load none (.s 14), none⟩, ⟨(some 3), .mv (.s 15), none⟩] none [3])
 (.seq (.seq (.reg [⟨(some 4), .mv (.c (.dat (.int .i64 0))), none⟩] none [3, 4])
 (.block 0 (.loop xf58_k0 xf58_b0)))
 (.seq (.reg [⟨(some 6), .mv (.c (.nil 92 1 false)), none⟩] none [3, 6])
 (.seq (.seq (.reg [⟨(some 7), .mv (.c (.dat (.int .i64 0))), none⟩] none [3, 6, 7])
 (.block 4 (.loop xf58_k2 xf58_b2)))
 (.seq (.seq (.reg [⟨(some 10), .mv (.c (.dat (.int .i64 0))), none⟩] none [3, 6, 10])
 (.block 8 (.loop xf58_k4 xf58_b4)))
 (.seq (.reg [⟨(some 2), .mv (.c (.dat (.bool true))), none⟩] none [2])
 (.ret [2]))))))))⟩

-- (*amnesia/amnesiaplain.Book).apartMarks
def xf59_k1 : List (Nat × Option (Nat × Nat × Bool)) := [(3, some (93, 1, false)), (4, none), (5, none)]
def xf59_b1 : XCode := (.seq (.seq (.reg [⟨(some 22), .mv (.s 5), none⟩, ⟨(some 23), .mv (.s 3), none⟩, ⟨(some 24), .mv (.s 4), none⟩, ⟨(some 25), .iadr 1 (.s 23) (.s 24), none⟩, ⟨(some 26), .load none (.s 25), none⟩, ⟨(some 27), .len false (.s 26), none⟩, ⟨(some 28), .bin .lss (.s 22) (.s 27), none⟩] none [3, 4, 5, 28])
 (.cond (.s 28) .skip (.exit 2 [3, 4])))
 (.seq (.block 3 (.reg [⟨(some 31), .mv (.s 3), none⟩, ⟨(some 32), .mv (.s 4), none⟩, ⟨(some 33), .iadr 1 (.s 31) (.s 32), none⟩, ⟨(some 34), .load none (.s 33), none⟩, ⟨(some 35), .mv (.s 5), none⟩, ⟨(some 36), .mv (.s 4), none⟩, ⟨(some 37), .mv (.s 5), none⟩, ⟨(some 38), .call (.c (.fn (.func 74) [] [])) [(.s 36), (.s 37)], none⟩, ⟨(some 39), .iadr 3 (.s 34) (.s 35), none⟩, ⟨none, .store 3 (.s 39) (.s 38), none⟩] (some [(2, 7), (3, 7)]) [3, 4, 5]))
 (.reg [⟨(some 29), .mv (.s 5), none⟩, ⟨(some 30), .bin .add (.s 29) (.c (.dat (.int .i64 1))), none⟩, ⟨(some 5), .mv (.s 30), none⟩] none [3, 4, 5])))
def xf59_k0 : List (Nat × Option (Nat × Nat × Bool)) := [(3, some (93, 1, false)), (4, none)]
def xf59_b0 : XCode := (.seq (.seq (.reg [⟨(some 16), .mv (.s 4), none⟩, ⟨(some 17), .mv (.s 3), none⟩, ⟨(some 18), .len false (.s 17), none⟩, ⟨(some 19), .bin .lss (.s 16) (.s 18), none⟩] none [3, 4, 19])
 (.cond (.s 19) .skip (.exit 0 [3])))
 (.seq (.block 1 (.seq (.reg [⟨(some 5), .mv (.c (.dat (.int .i64 0))), none⟩] none [3, 4, 5])
 (.block 2 (.loop xf59_k1 xf59_b1))))
 (.reg [⟨(some 20), .mv (.s 4), none⟩, ⟨(some 21), .bin .add (.s 20) (.c (.dat (.int .i64 1))), none⟩, ⟨(some 4), .mv (.s 21), none⟩] none [3, 4])))
def xf59_k3 : List (Nat × Option (Nat × Nat × Bool)) := [(3, some (93, 1, false)), (6, some (93, 1, false)), (7, none), (8, some (138, 3, true)), (9, none)]
def xf59_b3 : XCode := (.seq (.seq (.reg [⟨(some 50), .mv (.s 9), none⟩, ⟨(some 51), .bin .lss (.s 50) (.c (.dat (.int .i64 70))), none⟩] none [3, 6, 7, 8, 9, 51])
 (.cond (.s 51) .skip (.exit 6 [3, 6, 7, 8])))
 (.seq (.block 7 (.reg [⟨(some 54), .mv (.s 8), none⟩, ⟨(some 55), .mv (.s 7), none⟩, ⟨(some 56), .mv (.s 8), none⟩, ⟨(some 57), .len false (.s 56), none⟩, ⟨(some 58), .call (.c (.fn (.func 74) [] [])) [(.s 55), (.s 57)], none⟩, ⟨(some 59), .bsl 138 3 true 1 [(.dat (.int .i64 0)), (.dat (.int .u64 0)), (.dat (.int .u64 0))] [(0, 3, (.s 58))], none⟩, ⟨(some 60), .app 138 3 24 true (.s 54) (.s 59), none⟩, ⟨(some 8), .mv (.s 60), none⟩] none [3, 6, 7, 8, 9]))
 (.reg [⟨(some 52), .mv (.s 9), none⟩, ⟨(some 53), .bin .add (.s 52) (.c (.dat (.int .i64 1))), none⟩, ⟨(some 9), .mv (.s 53), none⟩] none [3, 6, 7, 8, 9])))
def xf59_k2 : List (Nat × Option (Nat × Nat × Bool)) := [(3, some (93, 1, false)), (6, some (93, 1, false)), (7, none)]
def xf59_b2 : XCode := (.seq (.seq (.reg [⟨(some 40), .mv (.s 7), none⟩, ⟨(some 41), .mv (.s 3), none⟩, ⟨(some 42), .len false (.s 41), none⟩, ⟨(some 43), .bin .lss (.s 40) (.s 42), none⟩] none [3, 6, 7, 43])
 (.cond (.s 43) .skip (.exit 4 [3, 6])))
 (.seq (.block 5 (.seq (.reg [⟨(some 46), .mv (.s 3), none⟩, ⟨(some 47), .mv (.s 7), none⟩, ⟨(some 48), .iadr 1 (.s 46) (.s 47), none⟩, ⟨(some 49), .load none (.s 48), none⟩, ⟨(some 8), .mv (.s 49), none⟩] none [3, 6, 7, 8])
 (.seq (.seq (.reg [⟨(some 9), .mv (.c (.dat (.int .i64 0))), none⟩] none [3, 6, 7, 8, 9])
 (.block 6 (.loop xf59_k3 xf59_b3)))
 (.reg [⟨(some 61), .mv (.s 6), none⟩, ⟨(some 62), .mv (.s 8), none⟩, ⟨(some 63), .bsl 93 1 false 1 [(.nil 138 3 true)] [(0, 1, (.s 62))], none⟩, ⟨(some 64), .app 93 1 24 false (.s 61) (.s 63), none⟩, ⟨(some 6), .mv (.s 64), none⟩] none [3, 6, 7]))))
 (.reg [⟨(some 44), .mv (.s 7), none⟩, ⟨(some 45), .bin .add (.s 44) (.c (.dat (.int .i64 1))), none⟩, ⟨(some 7), .mv (.s 45), none⟩] none [3, 6, 7])))
def xf59_k5 : List (Nat × Option (Nat × Nat × Bool)) := [(3, some (93, 1, false)), (6, some (93, 1, false)), (10, none), (11, none)]
def xf59_b5 : XCode := (.seq (.seq (.reg [⟨(some 71), .mv (.s 11), none⟩, ⟨(some 72), .mv (.s 6), none⟩, ⟨(some 73), .mv (.s 10), none⟩, ⟨(some 74), .iadr 1 (.s 72) (.s 73), none⟩, ⟨(some 75), .load none (.s 74), none⟩, ⟨(some 76), .len false (.s 75), none⟩, ⟨(some 77), .bin .lss (.s 71) (.s 76), none⟩] none [3, 6, 10, 11, 77])
 (.cond (.s 77) .skip (.exit 10 [3, 6, 10])))
 (.seq (.block 11 (.seq (.reg [⟨(some 80), .mv (.s 6), none⟩, ⟨(some 81), .mv (.s 10), none⟩, ⟨(some 82), .iadr 1 (.s 80) (.s 81), none⟩, ⟨(some 83), .load none (.s 82), none⟩, ⟨(some 84), .mv (.s 11), none⟩, ⟨(some 85), .iadr 3 (.s 83) (.s 84), none⟩, ⟨(some 86), .load (some 3) (.s 85), none⟩, ⟨(some 87), .mv (.s 10), none⟩, ⟨(some 88), .mv (.s 11), none⟩, ⟨(some 89), .call (.c (.fn (.func 74) [] [])) [(.s 87), (.s 88)], none⟩, ⟨(some 90), .eqv true true [.i, .i, .i] (.s 86) (.s 89), none⟩, ⟨(some 91), .mv (.s 90), none⟩, ⟨(some 92), .mv (.s 11), some (91, false)⟩, ⟨(some 93), .mv (.s 3), some (91, false)⟩, ⟨(some 94), .mv (.s 10), some (91, false)⟩, ⟨(some 95), .iadr 1 (.s 93) (.s 94), some (91, false)⟩, ⟨(some 96), .load none (.s 95), some (91, false)⟩, ⟨(some 97), .len false (.s 96), some (91, false)⟩, ⟨(some 98), .bin .lss (.s 92) (.s 97), some (91, false)⟩, ⟨(some 99), .mv (.s 98), some (91, false)⟩, ⟨(some 100), .mv (.s 3), some (99, true)⟩, ⟨(some 101), .mv (.s 10), some (99, true)⟩, ⟨(some 102), .iadr 1 (.s 100) (.s 101), some (99, true)⟩, ⟨(some 103), .load none (.s 102), some (99, true)⟩, ⟨(some 104), .mv (.s 11), some (99, true)⟩, ⟨(some 105), .iadr 3 (.s 103) (.s 104), some (99, true)⟩, ⟨(some 106), .load (some 3) (.s 105), some (99, true)⟩, ⟨(some 107), .mv (.s 10), some (99, true)⟩, ⟨(some 108), .mv (.s 11), some (99, true)⟩, ⟨(some 109), .call (.c (.fn (.func 74) [] [])) [(.s 107), (.s 108)], some (99, true)⟩, ⟨(some 110), .eqv true true [.i, .i, .i] (.s 106) (.s 109), some (99, true)⟩, ⟨(some 111), .pick (.s 99) (.s 110) (.c (.dat (.bool false))), some (91, false)⟩, ⟨(some 112), .pick (.s 91) (.c (.dat (.bool true))) (.s 111), none⟩] (some [(2, 9), (3, 9), (5, 9), (6, 9), (22, 29), (23, 29), (25, 29), (26, 29)]) [3, 6, 10, 11, 112])
 (.cond (.s 112) (.seq (.reg [⟨(some 2), .mv (.c (.dat (.bool false))), none⟩] none [2])
 (.ret [2])) .skip)))
 (.reg [⟨(some 78), .mv (.s 11), none⟩, ⟨(some 79), .bin .add (.s 78) (.c (.dat (.int .i64 1))), none⟩, ⟨(some 11), .mv (.s 79), none⟩] none [3, 6, 10, 11])))
def xf59_k4 : List (Nat × Option (Nat × Nat × Bool)) := [(3, some (93, 1, false)), (6, some (93, 1, false)), (10, none)]
def xf59_b4 : XCode := (.seq (.seq (.reg [⟨(some 65), .mv (.s 10), none⟩, ⟨(some 66), .mv (.s 3), none⟩, ⟨(some 67), .len false (.s 66), none⟩, ⟨(some 68), .bin .lss (.s 65) (.s 67), none⟩] none [3, 6, 10, 68])
 (.cond (.s 68) .skip (.exit 8 [])))
 (.seq (.block 9 (.seq (.reg [⟨(some 11), .mv (.c (.dat (.int .i64 0))), none⟩] none [3, 6, 10, 11])
 (.block 10 (.loop xf59_k5 xf59_b5))))
 (.reg [⟨(some 69), .mv (.s 10), none⟩, ⟨(some 70), .bin .add (.s 69) (.c (.dat (.int .i64 1))), none⟩, ⟨(some 10), .mv (.s 70), none⟩] none [3, 6, 10])))
def xf59 : XFunc := ⟨1, [.tmp 2], (.seq (.reg [⟨(some 2), .mv (.c (.dat (.bool false))), none⟩] none [0])
 (.seq (.reg [⟨(some 12), .mv (.s 0), none⟩, ⟨(some 13), .nilchk (.s 12), none⟩, ⟨(some 14), .fadr 9 (.s 13), none⟩, ⟨(some 15), .load none (.s 14), none⟩, ⟨(some 3), .mv (.s 15), none⟩] none [3])
 (.seq (.seq (.reg [⟨(some 4), .mv (.c (.dat (.int .i64 0))), none⟩] none [3, 4])
 (.block 0 (.loop xf59_k0 xf59_b0)))
 (.seq (.reg [⟨(some 6), .mv (.c (.nil 93 1 false)), none⟩] none [3, 6])
 (.seq (.seq (.reg [⟨(some 7), .mv (.c (.dat (.int .i64 0))), none⟩] none [3, 6, 7])
 (.block 4 (.loop xf59_k2 xf59_b2)))
 (.seq (.seq (.reg [⟨(some 10), .mv (.c (.dat (.int .i64 0))), none⟩] none [3, 6, 10])
 (.block 8 (.loop xf59_k4 xf59_b4)))
 (.seq (.reg [⟨(some 2), .mv (.c (.dat (.bool true))), none⟩] none [2])
 (.ret [2]))))))))⟩

-- amnesia/amnesiaplain.sameAcks
def xf60_k0 : List (Nat × Option (Nat × Nat × Bool)) := [(0, none), (1, none), (5, none)]
def xf60_b0 : XCode := (.seq (.seq (.reg [⟨(some 11), .mv (.s 5), none⟩, ⟨(some 12), .mv (.s 0), none⟩, ⟨(some 13), .len false (.s 12), none⟩, ⟨(some 14), .bin .lss (.s 11) (.s 13), none⟩] none [0, 1, 5, 14])
 (.cond (.s 14) .skip (.exit 0 [])))
 (.seq (.block 1 (.seq (.reg [⟨(some 17), .mv (.s 0), none⟩, ⟨(some 18), .mv (.s 5), none⟩, ⟨(some 19), .iadr 4 (.s 17) (.s 18), none⟩, ⟨(some 20), .load (some 4) (.s 19), none⟩, ⟨(some 21), .mv (.s 1), none⟩, ⟨(some 22), .mv (.s 5), none⟩, ⟨(some 23), .iadr 4 (.s 21) (.s 22), none⟩, ⟨(some 24), .load (some 4) (.s 23), none⟩, ⟨(some 25), .eqv true true [.i, .i, .i, .i] (.s 20) (.s 24), none⟩] (some []) [0, 1, 5, 25])
 (.cond (.s 25) (.seq (.reg [⟨(some 4), .mv (.c (.dat (.bool false))), none⟩] none [4])
 (.ret [4])) .skip)))
 (.reg [⟨(some 15), .mv (.s 5), none⟩, ⟨(some 16), .bin .add (.s 15) (.c (.dat (.int .i64 1))), none⟩, ⟨(some 5), .mv (.s 16), none⟩] none [0, 1, 5])))
def xf60 : XFunc := ⟨2, [.tmp 4], (.seq (.reg [⟨(some 4), .mv (.c (.dat (.bool false))), none⟩] none [0, 1])
 (.seq (.seq (.reg [⟨(some 6), .mv (.s 0), none⟩, ⟨(some 7), .len false (.s 6), none⟩, ⟨(some 8), .mv (.s 1), none⟩, ⟨(some 9), .len false (.s 8), none⟩, ⟨(some 10), .eqv true false [.i] (.s 7) (.s 9), none⟩] none [0, 1, 10])
 (.cond (.s 10) (.seq (.reg [⟨(some 4), .mv (.c (.dat (.bool false))), none⟩] none [4])
 (.ret [4])) .skip))
 (.seq (.seq (.reg [⟨(some 5), .mv (.c (.dat (.int .i64 0))), none⟩] none [0, 1, 5])
 (.block 0 (.loop xf60_k0 xf60_b0)))
 (.seq (.reg [⟨(some 4), .mv (.c (.dat (.bool true))), none⟩] none [4])
 (.ret [4])))))⟩

-- amnesia/amnesiaplain.sameMarks
def xf61_k0 : List (Nat × Option (Nat × Nat × Bool)) := [(0, none), (1, none), (5, none)]
def xf61_b0 : XCode := (.seq (.seq (.reg [⟨(some 11), .mv (.s 5), none⟩, ⟨(some 12), .mv (.s 0), none⟩, ⟨(some 13), .len false (.s 12), none⟩, ⟨(some 14), .bin .lss (.s 11) (.s 13), none⟩] none [0, 1, 5, 14])
 (.cond (.s 14) .skip (.exit 0 [])))
 (.seq (.block 1 (.seq (.reg [⟨(some 17), .mv (.s 0), none⟩, ⟨(some 18), .mv (.s 5), none⟩, ⟨(some 19), .iadr 3 (.s 17) (.s 18), none⟩, ⟨(some 20), .load (some 3) (.s 19), none⟩, ⟨(some 21), .mv (.s 1), none⟩, ⟨(some 22), .mv (.s 5), none⟩, ⟨(some 23), .iadr 3 (.s 21) (.s 22), none⟩, ⟨(some 24), .load (some 3) (.s 23), none⟩, ⟨(some 25), .eqv true true [.i, .i, .i] (.s 20) (.s 24), none⟩] (some []) [0, 1, 5, 25])
 (.cond (.s 25) (.seq (.reg [⟨(some 4), .mv (.c (.dat (.bool false))), none⟩] none [4])
 (.ret [4])) .skip)))
 (.reg [⟨(some 15), .mv (.s 5), none⟩, ⟨(some 16), .bin .add (.s 15) (.c (.dat (.int .i64 1))), none⟩, ⟨(some 5), .mv (.s 16), none⟩] none [0, 1, 5])))
def xf61 : XFunc := ⟨2, [.tmp 4], (.seq (.reg [⟨(some 4), .mv (.c (.dat (.bool false))), none⟩] none [0, 1])
 (.seq (.seq (.reg [⟨(some 6), .mv (.s 0), none⟩, ⟨(some 7), .len false (.s 6), none⟩, ⟨(some 8), .mv (.s 1), none⟩, ⟨(some 9), .len false (.s 8), none⟩, ⟨(some 10), .eqv true false [.i] (.s 7) (.s 9), none⟩] none [0, 1, 10])
 (.cond (.s 10) (.seq (.reg [⟨(some 4), .mv (.c (.dat (.bool false))), none⟩] none [4])
 (.ret [4])) .skip))
 (.seq (.seq (.reg [⟨(some 5), .mv (.c (.dat (.int .i64 0))), none⟩] none [0, 1, 5])
 (.block 0 (.loop xf61_k0 xf61_b0)))
 (.seq (.reg [⟨(some 4), .mv (.c (.dat (.bool true))), none⟩] none [4])
 (.ret [4])))))⟩

-- amnesia/amnesiaplain.SameBallots
def xf62_k0 : List (Nat × Option (Nat × Nat × Bool)) := [(0, none), (1, none), (5, none)]
def xf62_b0 : XCode := (.seq (.seq (.reg [⟨(some 11), .mv (.s 5), none⟩, ⟨(some 12), .mv (.s 0), none⟩, ⟨(some 13), .len false (.s 12), none⟩, ⟨(some 14), .bin .lss (.s 11) (.s 13), none⟩] none [0, 1, 5, 14])
 (.cond (.s 14) .skip (.exit 0 [])))
 (.seq (.block 1 (.seq (.reg [⟨(some 17), .mv (.s 0), none⟩, ⟨(some 18), .mv (.s 5), none⟩, ⟨(some 19), .iadr 6 (.s 17) (.s 18), none⟩, ⟨(some 20), .fadr 0 (.s 19), none⟩, ⟨(some 21), .load none (.s 20), none⟩, ⟨(some 22), .mv (.s 1), none⟩, ⟨(some 23), .mv (.s 5), none⟩, ⟨(some 24), .iadr 6 (.s 22) (.s 23), none⟩, ⟨(some 25), .fadr 0 (.s 24), none⟩, ⟨(some 26), .load none (.s 25), none⟩, ⟨(some 27), .eqv true false [.i] (.s 21) (.s 26), none⟩, ⟨(some 28), .mv (.s 27), none⟩, ⟨(some 29), .mv (.s 0), some (28, false)⟩, ⟨(some 30), .mv (.s 5), some (28, false)⟩, ⟨(some 31), .iadr 6 (.s 29) (.s 30), some (28, false)⟩, ⟨(some 32), .fadr 1 (.s 31), some (28, false)⟩, ⟨(some 33), .load (some 2) (.s 32), some (28, false)⟩, ⟨(some 34), .mv (.s 1), some (28, false)⟩, ⟨(some 35), .mv (.s 5), some (28, false)⟩, ⟨(some 36), .iadr 6 (.s 34) (.s 35), some (28, false)⟩, ⟨(some 37), .fadr 1 (.s 36), some (28, false)⟩, ⟨(some 38), .load (some 2) (.s 37), some (28, false)⟩, ⟨(some 39), .eqv true true [.i, .i] (.s 33) (.s 38), some (28, false)⟩, ⟨(some 40), .pick (.s 28) (.c (.dat (.bool true))) (.s 39), none⟩, ⟨(some 41), .mv (.s 40), none⟩, ⟨(some 42), .mv (.s 0), some (41, false)⟩, ⟨(some 43), .mv (.s 5), some (41, false)⟩, ⟨(some 44), .iadr 6 (.s 42) (.s 43), some (41, false)⟩, ⟨(some 45), .fadr 3 (.s 44), some (41, false)⟩, ⟨(some 46), .load none (.s 45), some (41, false)⟩, ⟨(some 47), .mv (.s 1), some (41, false)⟩, ⟨(some 48), .mv (.s 5), some (41, false)⟩, ⟨(some 49), .iadr 6 (.s 47) (.s 48), some (41, false)⟩, ⟨(some 50), .fadr 3 (.s 49), some (41, false)⟩, ⟨(some 51), .load none (.s 50), some (41, false)⟩, ⟨(some 52), .eqv true false [.i] (.s 46) (.s 51), some (41, false)⟩, ⟨(some 53), .pick (.s 41) (.c (.dat (.bool true))) (.s 52), none⟩, ⟨(some 54), .mv (.s 53), none⟩, ⟨(some 55), .mv (.s 0), some (54, false)⟩, ⟨(some 56), .mv (.s 5), some (54, false)⟩, ⟨(some 57), .iadr 6 (.s 55) (.s 56), some (54, false)⟩, ⟨(some 58), .fadr 4 (.s 57), some (54, false)⟩, ⟨(some 59), .load none (.s 58), some (54, false)⟩, ⟨(some 60), .mv (.s 1), some (54, false)⟩, ⟨(some 61), .mv (.s 5), some (54, false)⟩, ⟨(some 62), .iadr 6 (.s 60) (.s 61), some (54, false)⟩, ⟨(some 63), .fadr 4 (.s 62), some (54, false)⟩, ⟨(some 64), .load none (.s 63), some (54, false)⟩, ⟨(some 65), .eqv true false [.i] (.s 59) (.s 64), some (54, false)⟩, ⟨(some 66), .pick (.s 54) (.c (.dat (.bool true))) (.s 65), none⟩, ⟨(some 67), .mv (.s 66), none⟩, ⟨(some 68), .mv (.s 0), some (67, false)⟩, ⟨(some 69), .mv (.s 5), some (67, false)⟩, ⟨(some 70), .iadr 6 (.s 68) (.s 69), some (67, false)⟩, ⟨(some 71), .fadr 5 (.s 70), some (67, false)⟩, ⟨(some 72), .load none (.s 71), some (67, false)⟩, ⟨(some 73), .mv (.s 1), some (67, false)⟩, ⟨(some 74), .mv (.s 5), some (67, false)⟩, ⟨(some 75), .iadr 6 (.s 73) (.s 74), some (67, false)⟩, ⟨(some 76), .fadr 5 (.s 75), some (67, false)⟩, ⟨(some 77), .load none (.s 76), some (67, false)⟩, ⟨(some 78), .call (.c (.fn (.func 42) [] [])) [(.s 72), (.s 77)], some (67, false)⟩, ⟨(some 79), .not (.s 78), some (67, false)⟩, ⟨(some 80), .pick (.s 67) (.c (.dat (.bool true))) (.s 79), none⟩] (some []) [0, 1, 5, 80])
 (.cond (.s 80) (.seq (.reg [⟨(some 4), .mv (.c (.dat (.bool false))), none⟩] none [4])
 (.ret [4])) .skip)))
 (.reg [⟨(some 15), .mv (.s 5), none⟩, ⟨(some 16), .bin .add (.s 15) (.c (.dat (.int .i64 1))), none⟩, ⟨(some 5), .mv (.s 16), none⟩] none [0, 1, 5])))
def xf62 : XFunc := ⟨2, [.tmp 4], (.seq (.reg [⟨(some 4), .mv (.c (.dat (.bool false))), none⟩] none [0, 1])
 (.seq (.seq (.reg [⟨(some 6), .mv (.s 0), none⟩, ⟨(some 7), .len false (.s 6), none⟩, ⟨(some 8), .mv (.s 1), none⟩, ⟨(some 9), .len false (.s 8), none⟩, ⟨(some 10), .eqv true false [.i] (.s 7) (.s 9), none⟩] none [0, 1, 10])
 (.cond (.s 10) (.seq (.reg [⟨(some 4), .mv (.c (.dat (.bool false))), none⟩] none [4])
 (.ret [4])) .skip))
 (.seq (.seq (.reg [⟨(some 5), .mv (.c (.dat (.int .i64 0))), none⟩] none [0, 1, 5])
 (.block 0 (.loop xf62_k0 xf62_b0)))
 (.seq (.reg [⟨(some 4), .mv (.c (.dat (.bool true))), none⟩] none [4])
 (.ret [4])))))⟩

-- amnesia/amnesiaplain.SameAnswers
def xf63_k0 : List (Nat × Option (Nat × Nat × Bool)) := [(0, none), (1, none), (5, none)]
def xf63_b0 : XCode := (.seq (.seq (.reg [⟨(some 11), .mv (.s 5), none⟩, ⟨(some 12), .mv (.s 0), none⟩, ⟨(some 13), .len false (.s 12), none⟩, ⟨(some 14), .bin .lss (.s 11) (.s 13), none⟩] none [0, 1, 5, 14])
 (.cond (.s 14) .skip (.exit 0 [])))
 (.seq (.block 1 (.seq (.reg [⟨(some 17), .mv (.s 0), none⟩, ⟨(some 18), .mv (.s 5), none⟩, ⟨(some 19), .iadr 6 (.s 17) (.s 18), none⟩, ⟨(some 20), .fadr 0 (.s 19), none⟩, ⟨(some 21), .load none (.s 20), none⟩, ⟨(some 22), .mv (.s 1), none⟩, ⟨(some 23), .mv (.s 5), none⟩, ⟨(some 24), .iadr 6 (.s 22) (.s 23), none⟩, ⟨(some 25), .fadr 0 (.s 24), none⟩, ⟨(some 26), .load none (.s 25), none⟩, ⟨(some 27), .eqv true false [.i] (.s 21) (.s 26), none⟩, ⟨(some 28), .mv (.s 27), none⟩, ⟨(some 29), .mv (.s 0), some (28, false)⟩, ⟨(some 30), .mv (.s 5), some (28, false)⟩, ⟨(some 31), .iadr 6 (.s 29) (.s 30), some (28, false)⟩, ⟨(some 32), .fadr 1 (.s 31), some (28, false)⟩, ⟨(some 33), .load (some 2) (.s 32), some (28, false)⟩, ⟨(some 34), .mv (.s 1), some (28, false)⟩, ⟨(some 35), .mv (.s 5), some (28, false)⟩, ⟨(some 36), .iadr 6 (.s 34) (.s 35), some (28, false)⟩, ⟨(some 37), .fadr 1 (.s 36), some (28, false)⟩, ⟨(some 38), .load (some 2) (.s 37), some (28, false)⟩, ⟨(some 39), .eqv true true [.i, .i] (.s 33) (.s 38), some (28, false)⟩, ⟨(some 40), .pick (.s 28) (.c (.dat (.bool true))) (.s 39), none⟩, ⟨(some 41), .mv (.s 40), none⟩, ⟨(some 42), .mv (.s 0), some (41, false)⟩, ⟨(some 43), .mv (.s 5), some (41, false)⟩, ⟨(some 44), .iadr 6 (.s 42) (.s 43), some (41, false)⟩, ⟨(some 45), .fadr 3 (.s 44), some (41, false)⟩, ⟨(some 46), .load none (.s 45), some (41, false)⟩, ⟨(some 47), .mv (.s 1), some (41, false)⟩, ⟨(some 48), .mv (.s 5), some (41, false)⟩, ⟨(some 49), .iadr 6 (.s 47) (.s 48), some (41, false)⟩, ⟨(some 50), .fadr 3 (.s 49), some (41, false)⟩, ⟨(some 51), .load none (.s 50), some (41, false)⟩, ⟨(some 52), .eqv true false [.i] (.s 46) (.s 51), some (41, false)⟩, ⟨(some 53), .pick (.s 41) (.c (.dat (.bool true))) (.s 52), none⟩, ⟨(some 54), .mv (.s 53), none⟩, ⟨(some 55), .mv (.s 0), some (54, false)⟩, ⟨(some 56), .mv (.s 5), some (54, false)⟩, ⟨(some 57), .iadr 6 (.s 55) (.s 56), some (54, false)⟩, ⟨(some 58), .fadr 4 (.s 57), some (54, false)⟩, ⟨(some 59), .load none (.s 58), some (54, false)⟩, ⟨(some 60), .mv (.s 1), some (54, false)⟩, ⟨(some 61), .mv (.s 5), some (54, false)⟩, ⟨(some 62), .iadr 6 (.s 60) (.s 61), some (54, false)⟩, ⟨(some 63), .fadr 4 (.s 62), some (54, false)⟩, ⟨(some 64), .load none (.s 63), some (54, false)⟩, ⟨(some 65), .eqv true false [.i] (.s 59) (.s 64), some (54, false)⟩, ⟨(some 66), .pick (.s 54) (.c (.dat (.bool true))) (.s 65), none⟩, ⟨(some 67), .mv (.s 66), none⟩, ⟨(some 68), .mv (.s 0), some (67, false)⟩, ⟨(some 69), .mv (.s 5), some (67, false)⟩, ⟨(some 70), .iadr 6 (.s 68) (.s 69), some (67, false)⟩, ⟨(some 71), .fadr 5 (.s 70), some (67, false)⟩, ⟨(some 72), .load none (.s 71), some (67, false)⟩, ⟨(some 73), .mv (.s 1), some (67, false)⟩, ⟨(some 74), .mv (.s 5), some (67, false)⟩, ⟨(some 75), .iadr 6 (.s 73) (.s 74), some (67, false)⟩, ⟨(some 76), .fadr 5 (.s 75), some (67, false)⟩, ⟨(some 77), .load none (.s 76), some (67, false)⟩, ⟨(some 78), .call (.c (.fn (.func 42) [] [])) [(.s 72), (.s 77)], some (67, false)⟩, ⟨(some 79), .not (.s 78), some (67, false)⟩, ⟨(some 80), .pick (.s 67) (.c (.dat (.bool true))) (.s 79), none⟩] (some []) [0, 1, 5, 80])
 (.cond (.s 80) (.seq (.reg [⟨(some 4), .mv (.c (.dat (.bool false))), none⟩] none [4])
 (.ret [4])) .skip)))
 (.reg [⟨(some 15), .mv (.s 5), none⟩, ⟨(some 16), .bin .add (.s 15) (.c (.dat (.int .i64 1))), none⟩, ⟨(some 5), .mv (.s 16), none⟩] none [0, 1, 5])))
def xf63 : XFunc := ⟨2, [.tmp 4], (.seq (.reg [⟨(some 4), .mv (.c (.dat (.bool false))), none⟩] none [0, 1])
 (.seq (.seq (.reg [⟨(some 6), .mv (.s 0), none⟩, ⟨(some 7), .len false (.s 6), none⟩, ⟨(some 8), .mv (.s 1), none⟩, ⟨(some 9), .len false (.s 8), none⟩, ⟨(some 10), .eqv true false [.i] (.s 7) (.s 9), none⟩] none [0, 1, 10])
 (.cond (.s 10) (.seq (.reg [⟨(some 4), .mv (.c (.dat (.bool false))), none⟩] none [4])
 (.ret [4])) .skip))
 (.seq (.seq (.reg [⟨(some 5), .mv (.c (.dat (.int .i64 0))), none⟩] none [0, 1, 5])
 (.block 0 (.loop xf63_k0 xf63_b0)))
 (.seq (.reg [⟨(some 4), .mv (.c (.dat (.bool true))), none⟩] none [4])
 (.ret [4])))))⟩

-- amnesia/amnesiaref02.Compare
def xf64 : XFunc := ⟨2, [.tmp 4], (.seq (.reg [⟨(some 2), .box (.s 0), none⟩, ⟨(some 3), .box (.s 1), none⟩, ⟨(some 4), .mv (.c (.dat (.int .i64 0))), none⟩] none [2, 3])
 (.seq (.seq (.reg [⟨(some 5), .fadr 0 (.s 2), none⟩, ⟨(some 6), .load none (.s 5), none⟩, ⟨(some 7), .fadr 0 (.s 3), none⟩, ⟨(some 8), .load none (.s 7), none⟩, ⟨(some 9), .eqv true false [.i] (.s 6) (.s 8), none⟩] none [2, 3, 9])
 (.cond (.s 9) (.seq (.seq (.reg [⟨(some 10), .fadr 0 (.s 2), none⟩, ⟨(some 11), .load none (.s 10), none⟩, ⟨(some 12), .fadr 0 (.s 3), none⟩, ⟨(some 13), .load none (.s 12), none⟩, ⟨(some 14), .bin .lss (.s 11) (.s 13), none⟩] none [14])
 (.cond (.s 14) (.seq (.reg [⟨(some 4), .mv (.c (.dat (.int .i64 (-1)))), none⟩] none [4])
 (.ret [4])) .skip))
 (.seq (.reg [⟨(some 4), .mv (.c (.dat (.int .i64 1))), none⟩] none [4])
 (.ret [4]))) .skip))
 (.seq (.seq (.reg [⟨(some 15), .fadr 1 (.s 2), none⟩, ⟨(some 16), .load none (.s 15), none⟩, ⟨(some 17), .fadr 1 (.s 3), none⟩, ⟨(some 18), .load none (.s 17), none⟩, ⟨(some 19), .bin .lss (.s 16) (.s 18), none⟩] none [2, 3, 19])
 (.cond (.s 19) (.seq (.reg [⟨(some 4), .mv (.c (.dat (.int .i64 (-1)))), none⟩] none [4])
 (.ret [4])) .skip))
 (.seq (.seq (.reg [⟨(some 20), .fadr 1 (.s 2), none⟩, ⟨(some 21), .load none (.s 20), none⟩, ⟨(some 22), .fadr 1 (.s 3), none⟩, ⟨(some 23), .load none (.s 22), none⟩, ⟨(some 24), .bin .gtr (.s 21) (.s 23), none⟩] none [24])
 (.cond (.s 24) (.seq (.reg [⟨(some 4), .mv (.c (.dat (.int .i64 1))), none⟩] none [4])
 (.ret [4])) .skip))
 (.seq (.reg [⟨(some 4), .mv (.c (.dat (.int .i64 0))), none⟩] none [4])
 (.ret [4]))))))⟩

-- amnesia/amnesiaplain.markByte
def xf65 : XFunc := ⟨2, [.tmp 4], (.seq (.reg [⟨(some 4), .mv (.c (.dat (.int .u8 0))), none⟩] none [0, 1])
 (.seq (.reg [⟨(some 5), .mv (.s 0), none⟩, ⟨(some 6), .bin .mul (.s 5) (.c (.dat (.int .i64 31))), none⟩, ⟨(some 7), .mv (.s 1), none⟩, ⟨(some 8), .bin .mul (.s 7) (.c (.dat (.int .i64 7))), none⟩, ⟨(some 9), .bin .add (.s 6) (.s 8), none⟩, ⟨(some 10), .bin .add (.s 9) (.c (.dat (.int .i64 5))), none⟩, ⟨(some 11), .conv .u8 (.s 10), none⟩, ⟨(some 4), .mv (.s 11), none⟩] none [4])
 (.ret [4])))⟩

-- amnesia/amnesiaplain.markInt
def xf66 : XFunc := ⟨2, [.tmp 4], (.seq (.reg [⟨(some 4), .mv (.c (.dat (.int .i64 0))), none⟩] none [0, 1])
 (.seq (.reg [⟨(some 5), .mv (.s 0), none⟩, ⟨(some 6), .bin .add (.s 5) (.c (.dat (.int .i64 1))), none⟩, ⟨(some 7), .bin .mul (.c (.dat (.int .i64 100003))) (.s 6), none⟩, ⟨(some 8), .bin .sub (.c (.dat (.int .i64 (-1)))) (.s 7), none⟩, ⟨(some 9), .mv (.s 1), none⟩, ⟨(some 10), .bin .mul (.c (.dat (.int .i64 7))) (.s 9), none⟩, ⟨(some 11), .bin .sub (.s 8) (.s 10), none⟩, ⟨(some 4), .mv (.s 11), none⟩] none [4])
 (.ret [4])))⟩

-- amnesia/amnesiaplain.markDraw
def xf67 : XFunc := ⟨2, [.cell 4 (some 2)], (.seq (.reg [⟨(some 4), .alloc [(.dat (.int .u64 0)), (.dat (.int .u64 0))], none⟩] none [0, 1, 4])
 (.seq (.reg [⟨(some 5), .mv (.s 0), none⟩, ⟨(some 6), .bin .add (.s 5) (.c (.dat (.int .i64 1))), none⟩, ⟨(some 7), .bin .mul (.c (.dat (.int .i64 1000003))) (.s 6), none⟩, ⟨(some 8), .mv (.s 1), none⟩, ⟨(some 9), .bin .add (.s 7) (.s 8), none⟩, ⟨(some 10), .conv .u64 (.s 9), none⟩, ⟨(some 11), .build [(.dat (.int .u64 0)), (.dat (.int .u64 0))] [(0, 1, (.s 10)), (1, 1, (.c (.dat (.int .u64 12379813738877118345))))], none⟩, ⟨none, .store 2 (.s 4) (.s 11), none⟩] none [4])
 (.ret [4])))⟩

-- amnesia/amnesiaplain.markEntry
def xf68 : XFunc := ⟨2, [.cell 4 (some 5)], (.seq (.reg [⟨(some 4), .alloc [(.dat (.int .i64 0)), (.dat (.int .i64 0)), (.dat (.int .i64 0)), (.dat (.int .i64 0)), (.dat (.str ⟨#[]⟩))], none⟩] none [0, 1, 4])
 (.seq (.reg [⟨(some 5), .mv (.s 0), none⟩, ⟨(some 6), .bin .sub (.c (.dat (.int .i64 (-1000)))) (.s 5), none⟩, ⟨(some 7), .mv (.s 1), none⟩, ⟨(some 8), .bin .sub (.c (.dat (.int .i64 (-5)))) (.s 7), none⟩, ⟨(some 9), .build [(.dat (.int .i64 0)), (.dat (.int .i64 0)), (.dat (.int .i64 0)), (.dat (.int .i64 0)), (.dat (.str ⟨#[]⟩))] [(0, 1, (.s 6)), (1, 1, (.s 8))], none⟩, ⟨none, .store 5 (.s 4) (.s 9), none⟩] none [4])
 (.ret [4])))⟩

-- amnesia/amnesiaplain.markCell
def xf69 : XFunc := ⟨2, [.cell 4 (some 2)], (.seq (.reg [⟨(some 4), .alloc [(.dat (.int .i64 0)), (.dat (.str ⟨#[]⟩))], none⟩] none [0, 1, 4])
 (.seq (.reg [⟨(some 5), .mv (.s 0), none⟩, ⟨(some 6), .bin .add (.s 5) (.c (.dat (.int .i64 1))), none⟩, ⟨(some 7), .bin .mul (.c (.dat (.int .i64 (-1000003)))) (.s 6), none⟩, ⟨(some 8), .mv (.s 1), none⟩, ⟨(some 9), .bin .sub (.s 7) (.s 8), none⟩, ⟨(some 10), .build [(.dat (.int .i64 0)), (.dat (.str ⟨#[]⟩))] [(0, 1, (.s 9))], none⟩, ⟨none, .store 2 (.s 4) (.s 10), none⟩] none [4])
 (.ret [4])))⟩

-- amnesia/amnesiaplain.markRow
def xf70 : XFunc := ⟨2, [.cell 4 (some 7)], (.seq (.reg [⟨(some 4), .alloc [(.dat (.int .i64 0)), (.dat (.int .i64 0)), (.dat (.int .i64 0)), (.dat (.bool false)), (.dat (.int .i64 0)), (.dat (.int .i64 0)), (.dat (.str ⟨#[]⟩))], none⟩] none [0, 1, 4])
 (.seq (.reg [⟨(some 5), .mv (.s 0), none⟩, ⟨(some 6), .bin .add (.s 5) (.c (.dat (.int .i64 1))), none⟩, ⟨(some 7), .bin .mul (.c (.dat (.int .i64 (-1000003)))) (.s 6), none⟩, ⟨(some 8), .mv (.s 1), none⟩, ⟨(some 9), .bin .sub (.s 7) (.s 8), none⟩, ⟨(some 10), .build [(.dat (.int .i64 0)), (.dat (.int .i64 0)), (.dat (.int .i64 0)), (.dat (.bool false)), (.dat (.int .i64 0)), (.dat (.int .i64 0)), (.dat (.str ⟨#[]⟩))] [(0, 1, (.s 9)), (2, 1, (.c (.dat (.int .i64 (-9)))))], none⟩, ⟨none, .store 7 (.s 4) (.s 10), none⟩] none [4])
 (.ret [4])))⟩

-- amnesia/amnesiaplain.markResult
def xf71 : XFunc := ⟨2, [.cell 4 (some 3)], (.seq (.reg [⟨(some 4), .alloc [(.dat (.int .i64 0)), (.dat (.int .i64 0)), (.dat (.str ⟨#[]⟩))], none⟩] none [0, 1, 4])
 (.seq (.reg [⟨(some 5), .mv (.s 0), none⟩, ⟨(some 6), .bin .add (.s 5) (.c (.dat (.int .i64 1))), none⟩, ⟨(some 7), .bin .mul (.c (.dat (.int .i64 (-1000003)))) (.s 6), none⟩, ⟨(some 8), .mv (.s 1), none⟩, ⟨(some 9), .bin .sub (.s 7) (.s 8), none⟩, ⟨(some 10), .build [(.dat (.int .i64 0)), (.dat (.int .i64 0)), (.dat (.str ⟨#[]⟩))] [(0, 1, (.s 9))], none⟩, ⟨none, .store 3 (.s 4) (.s 10), none⟩] none [4])
 (.ret [4])))⟩

-- amnesia/amnesiaplain.markStamp
def xf72 : XFunc := ⟨2, [.cell 4 (some 3)], (.seq (.reg [⟨(some 4), .alloc [(.dat (.int .i64 0)), (.dat (.int .u64 0)), (.dat (.int .u64 0))], none⟩] none [0, 1, 4])
 (.seq (.reg [⟨(some 5), .mv (.s 0), none⟩, ⟨(some 6), .bin .add (.s 5) (.c (.dat (.int .i64 1))), none⟩, ⟨(some 7), .bin .mul (.c (.dat (.int .i64 (-1000003)))) (.s 6), none⟩, ⟨(some 8), .mv (.s 1), none⟩, ⟨(some 9), .bin .sub (.s 7) (.s 8), none⟩, ⟨(some 10), .build [(.dat (.int .i64 0)), (.dat (.int .u64 0)), (.dat (.int .u64 0))] [(0, 1, (.s 9))], none⟩, ⟨none, .store 3 (.s 4) (.s 10), none⟩] none [4])
 (.ret [4])))⟩

-- amnesia/amnesiaplain.markAck
def xf73 : XFunc := ⟨2, [.cell 4 (some 4)], (.seq (.reg [⟨(some 4), .alloc [(.dat (.int .i64 0)), (.dat (.int .u64 0)), (.dat (.int .u64 0)), (.dat (.int .i64 0))], none⟩] none [0, 1, 4])
 (.seq (.reg [⟨(some 5), .mv (.s 0), none⟩, ⟨(some 6), .bin .add (.s 5) (.c (.dat (.int .i64 1))), none⟩, ⟨(some 7), .bin .mul (.c (.dat (.int .i64 (-1000003)))) (.s 6), none⟩, ⟨(some 8), .mv (.s 1), none⟩, ⟨(some 9), .bin .sub (.s 7) (.s 8), none⟩, ⟨(some 10), .build [(.dat (.int .i64 0)), (.dat (.int .u64 0)), (.dat (.int .u64 0)), (.dat (.int .i64 0))] [(0, 1, (.s 9))], none⟩, ⟨none, .store 4 (.s 4) (.s 10), none⟩] none [4])
 (.ret [4])))⟩

-- amnesia/amnesiaplain.markMark
def xf74 : XFunc := ⟨2, [.cell 4 (some 3)], (.seq (.reg [⟨(some 4), .alloc [(.dat (.int .i64 0)), (.dat (.int .u64 0)), (.dat (.int .u64 0))], none⟩] none [0, 1, 4])
 (.seq (.reg [⟨(some 5), .mv (.s 0), none⟩, ⟨(some 6), .bin .add (.s 5) (.c (.dat (.int .i64 1))), none⟩, ⟨(some 7), .bin .mul (.c (.dat (.int .i64 (-1000003)))) (.s 6), none⟩, ⟨(some 8), .mv (.s 1), none⟩, ⟨(some 9), .bin .sub (.s 7) (.s 8), none⟩, ⟨(some 10), .build [(.dat (.int .i64 0)), (.dat (.int .u64 0)), (.dat (.int .u64 0))] [(0, 1, (.s 9))], none⟩, ⟨none, .store 3 (.s 4) (.s 10), none⟩] none [4])
 (.ret [4])))⟩
theorem r56 : progT Try.prog 56 = some xf56 := by kernel_rfl
theorem r57 : progT Try.prog 57 = some xf57 := by kernel_rfl
theorem r58 : progT Try.prog 58 = some xf58 := by kernel_rfl
theorem r59 : progT Try.prog 59 = some xf59 := by kernel_rfl
theorem r60 : progT Try.prog 60 = some xf60 := by kernel_rfl
theorem r61 : progT Try.prog 61 = some xf61 := by kernel_rfl
theorem r62 : progT Try.prog 62 = some xf62 := by kernel_rfl
theorem r63 : progT Try.prog 63 = some xf63 := by kernel_rfl
theorem r64 : progT Try.prog 64 = some xf64 := by kernel_rfl
theorem r65 : progT Try.prog 65 = some xf65 := by kernel_rfl
theorem r66 : progT Try.prog 66 = some xf66 := by kernel_rfl
theorem r67 : progT Try.prog 67 = some xf67 := by kernel_rfl
theorem r68 : progT Try.prog 68 = some xf68 := by kernel_rfl
theorem r69 : progT Try.prog 69 = some xf69 := by kernel_rfl
theorem r70 : progT Try.prog 70 = some xf70 := by kernel_rfl
theorem r71 : progT Try.prog 71 = some xf71 := by kernel_rfl
theorem r72 : progT Try.prog 72 = some xf72 := by kernel_rfl
theorem r73 : progT Try.prog 73 = some xf73 := by kernel_rfl
theorem r74 : progT Try.prog 74 = some xf74 := by kernel_rfl

end Go.Ax
