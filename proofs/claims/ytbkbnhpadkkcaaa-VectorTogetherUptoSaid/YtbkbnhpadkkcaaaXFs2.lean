/-
  The functions of this seat as resolved code, and that the program resolves to them (part 3).
-/
import Derived.Test.YtbkbnhpadkkcaaaXComp
import Derived.Test.YtbkbnhpadkkcaaaXFn
import Derived.Test.YtbkbnhpadkkcaaaProg
import Derived.KernelRfl
namespace Go.Ax
open Go.Proofs

def xf_plain_Book_apartInts_k1 : List (Nat × Option (Nat × Nat × Bool)) := [(3, some (62, 1, false)), (4, none), (5, none)]
def xf_plain_Book_apartInts_b1 : XCode := (.seq (.seq (.reg [⟨(some 22), .mv (.s 5), none⟩, ⟨(some 23), .mv (.s 3), none⟩, ⟨(some 24), .mv (.s 4), none⟩, ⟨(some 25), .iadr 1 (.s 23) (.s 24), none⟩, ⟨(some 26), .load none (.s 25), none⟩, ⟨(some 27), .len false (.s 26), none⟩, ⟨(some 28), .bin .lss (.s 22) (.s 27), none⟩] none [3, 4, 5, 28])
 (.cond (.s 28) .skip (.exit 2 [3, 4])))
 (.seq (.block 3 (.reg [⟨(some 31), .mv (.s 3), none⟩, ⟨(some 32), .mv (.s 4), none⟩, ⟨(some 33), .iadr 1 (.s 31) (.s 32), none⟩, ⟨(some 34), .load none (.s 33), none⟩, ⟨(some 35), .mv (.s 5), none⟩, ⟨(some 36), .mv (.s 4), none⟩, ⟨(some 37), .mv (.s 5), none⟩, ⟨(some 38), .call (.c (.fn (.func 66) [] [])) [(.s 36), (.s 37)], none⟩, ⟨(some 39), .iadr 1 (.s 34) (.s 35), none⟩, ⟨none, .store 1 (.s 39) (.s 38), none⟩] (some [(2, 7), (3, 7)]) [3, 4, 5]))
 (.reg [⟨(some 29), .mv (.s 5), none⟩, ⟨(some 30), .bin .add (.s 29) (.c (.dat (.int .i64 1))), none⟩, ⟨(some 5), .mv (.s 30), none⟩] none [3, 4, 5])))
def xf_plain_Book_apartInts_k0 : List (Nat × Option (Nat × Nat × Bool)) := [(3, some (62, 1, false)), (4, none)]
def xf_plain_Book_apartInts_b0 : XCode := (.seq (.seq (.reg [⟨(some 16), .mv (.s 4), none⟩, ⟨(some 17), .mv (.s 3), none⟩, ⟨(some 18), .len false (.s 17), none⟩, ⟨(some 19), .bin .lss (.s 16) (.s 18), none⟩] none [3, 4, 19])
 (.cond (.s 19) .skip (.exit 0 [3])))
 (.seq (.block 1 (.seq (.reg [⟨(some 5), .mv (.c (.dat (.int .i64 0))), none⟩] none [3, 4, 5])
 (.block 2 (.loop xf_plain_Book_apartInts_k1 xf_plain_Book_apartInts_b1))))
 (.reg [⟨(some 20), .mv (.s 4), none⟩, ⟨(some 21), .bin .add (.s 20) (.c (.dat (.int .i64 1))), none⟩, ⟨(some 4), .mv (.s 21), none⟩] none [3, 4])))
def xf_plain_Book_apartInts_k3 : List (Nat × Option (Nat × Nat × Bool)) := [(3, some (62, 1, false)), (6, some (62, 1, false)), (7, none), (8, some (3, 1, true)), (9, none)]
def xf_plain_Book_apartInts_b3 : XCode := (.seq (.seq (.reg [⟨(some 50), .mv (.s 9), none⟩, ⟨(some 51), .bin .lss (.s 50) (.c (.dat (.int .i64 70))), none⟩] none [3, 6, 7, 8, 9, 51])
 (.cond (.s 51) .skip (.exit 6 [3, 6, 7, 8])))
 (.seq (.block 7 (.reg [⟨(some 54), .mv (.s 8), none⟩, ⟨(some 55), .mv (.s 7), none⟩, ⟨(some 56), .mv (.s 8), none⟩, ⟨(some 57), .len false (.s 56), none⟩, ⟨(some 58), .call (.c (.fn (.func 66) [] [])) [(.s 55), (.s 57)], none⟩, ⟨(some 59), .bsl 3 1 true 1 [(.dat (.int .i64 0))] [(0, 1, (.s 58))], none⟩, ⟨(some 60), .app 3 1 8 true (.s 54) (.s 59), none⟩, ⟨(some 8), .mv (.s 60), none⟩] none [3, 6, 7, 8, 9]))
 (.reg [⟨(some 52), .mv (.s 9), none⟩, ⟨(some 53), .bin .add (.s 52) (.c (.dat (.int .i64 1))), none⟩, ⟨(some 9), .mv (.s 53), none⟩] none [3, 6, 7, 8, 9])))
def xf_plain_Book_apartInts_k2 : List (Nat × Option (Nat × Nat × Bool)) := [(3, some (62, 1, false)), (6, some (62, 1, false)), (7, none)]
def xf_plain_Book_apartInts_b2 : XCode := (.seq (.seq (.reg [⟨(some 40), .mv (.s 7), none⟩, ⟨(some 41), .mv (.s 3), none⟩, ⟨(some 42), .len false (.s 41), none⟩, ⟨(some 43), .bin .lss (.s 40) (.s 42), none⟩] none [3, 6, 7, 43])
 (.cond (.s 43) .skip (.exit 4 [3, 6])))
 (.seq (.block 5 (.seq (.reg [⟨(some 46), .mv (.s 3), none⟩, ⟨(some 47), .mv (.s 7), none⟩, ⟨(some 48), .iadr 1 (.s 46) (.s 47), none⟩, ⟨(some 49), .load none (.s 48), none⟩, ⟨(some 8), .mv (.s 49), none⟩] none [3, 6, 7, 8])
 (.seq (.seq (.reg [⟨(some 9), .mv (.c (.dat (.int .i64 0))), none⟩] none [3, 6, 7, 8, 9])
 (.block 6 (.loop xf_plain_Book_apartInts_k3 xf_plain_Book_apartInts_b3)))
 (.reg [⟨(some 61), .mv (.s 6), none⟩, ⟨(some 62), .mv (.s 8), none⟩, ⟨(some 63), .bsl 62 1 false 1 [(.nil 3 1 true)] [(0, 1, (.s 62))], none⟩, ⟨(some 64), .app 62 1 24 false (.s 61) (.s 63), none⟩, ⟨(some 6), .mv (.s 64), none⟩] none [3, 6, 7]))))
 (.reg [⟨(some 44), .mv (.s 7), none⟩, ⟨(some 45), .bin .add (.s 44) (.c (.dat (.int .i64 1))), none⟩, ⟨(some 7), .mv (.s 45), none⟩] none [3, 6, 7])))
def xf_plain_Book_apartInts_k5 : List (Nat × Option (Nat × Nat × Bool)) := [(3, some (62, 1, false)), (6, some (62, 1, false)), (10, none), (11, none)]
def xf_plain_Book_apartInts_b5 : XCode := (.seq (.seq (.reg [⟨(some 71), .mv (.s 11), none⟩, ⟨(some 72), .mv (.s 6), none⟩, ⟨(some 73), .mv (.s 10), none⟩, ⟨(some 74), .iadr 1 (.s 72) (.s 73), none⟩, ⟨(some 75), .load none (.s 74), none⟩, ⟨(some 76), .len false (.s 75), none⟩, ⟨(some 77), .bin .lss (.s 71) (.s 76), none⟩] none [3, 6, 10, 11, 77])
 (.cond (.s 77) .skip (.exit 10 [3, 6, 10])))
 (.seq (.block 11 (.seq (.sreg [(⟨(some 80), .mv (.s 6), none⟩, false), (⟨(some 81), .mv (.s 10), none⟩, false), (⟨(some 82), .iadr 1 (.s 80) (.s 81), none⟩, false), (⟨(some 83), .load none (.s 82), none⟩, false), (⟨(some 84), .mv (.s 11), none⟩, false), (⟨(some 85), .iadr 1 (.s 83) (.s 84), none⟩, false), (⟨(some 86), .load none (.s 85), none⟩, false), (⟨(some 87), .mv (.s 10), none⟩, false), (⟨(some 88), .mv (.s 11), none⟩, false), (⟨(some 89), .call (.c (.fn (.func 66) [] [])) [(.s 87), (.s 88)], none⟩, false), (⟨(some 90), .eqv true false [.i] (.s 86) (.s 89), none⟩, false), (⟨(some 91), .mv (.s 90), none⟩, false), (⟨(some 92), .mv (.s 11), some (91, false)⟩, true), (⟨(some 93), .mv (.s 3), some (91, false)⟩, true), (⟨(some 94), .mv (.s 10), some (91, false)⟩, true), (⟨(some 95), .iadr 1 (.s 93) (.s 94), some (91, false)⟩, false), (⟨(some 96), .load none (.s 95), some (91, false)⟩, false), (⟨(some 97), .len false (.s 96), some (91, false)⟩, false), (⟨(some 98), .bin .lss (.s 92) (.s 97), some (91, false)⟩, false), (⟨(some 99), .mv (.s 98), some (91, false)⟩, false), (⟨(some 100), .mv (.s 3), some (99, true)⟩, true), (⟨(some 101), .mv (.s 10), some (99, true)⟩, true), (⟨(some 102), .iadr 1 (.s 100) (.s 101), some (99, true)⟩, false), (⟨(some 103), .load none (.s 102), some (99, true)⟩, false), (⟨(some 104), .mv (.s 11), some (99, true)⟩, true), (⟨(some 105), .iadr 1 (.s 103) (.s 104), some (99, true)⟩, false), (⟨(some 106), .load none (.s 105), some (99, true)⟩, false), (⟨(some 107), .mv (.s 10), some (99, true)⟩, true), (⟨(some 108), .mv (.s 11), some (99, true)⟩, true), (⟨(some 109), .call (.c (.fn (.func 66) [] [])) [(.s 107), (.s 108)], some (99, true)⟩, false), (⟨(some 110), .eqv true false [.i] (.s 106) (.s 109), some (99, true)⟩, false), (⟨(some 111), .pick (.s 99) (.s 110) (.c (.dat (.bool false))), some (91, false)⟩, false), (⟨(some 112), .pick (.s 91) (.c (.dat (.bool true))) (.s 111), none⟩, false)] (some [(2, 9), (3, 9), (5, 9), (6, 9), (22, 29), (23, 29), (25, 29), (26, 29)]) [3, 6, 10, 11, 112])
 (.cond (.s 112) (.seq (.reg [⟨(some 2), .mv (.c (.dat (.bool false))), none⟩] none [2])
 (.ret [2])) .skip)))
 (.reg [⟨(some 78), .mv (.s 11), none⟩, ⟨(some 79), .bin .add (.s 78) (.c (.dat (.int .i64 1))), none⟩, ⟨(some 11), .mv (.s 79), none⟩] none [3, 6, 10, 11])))
def xf_plain_Book_apartInts_k4 : List (Nat × Option (Nat × Nat × Bool)) := [(3, some (62, 1, false)), (6, some (62, 1, false)), (10, none)]
def xf_plain_Book_apartInts_b4 : XCode := (.seq (.seq (.reg [⟨(some 65), .mv (.s 10), none⟩, ⟨(some 66), .mv (.s 3), none⟩, ⟨(some 67), .len false (.s 66), none⟩, ⟨(some 68), .bin .lss (.s 65) (.s 67), none⟩] none [3, 6, 10, 68])
 (.cond (.s 68) .skip (.exit 8 [])))
 (.seq (.block 9 (.seq (.reg [⟨(some 11), .mv (.c (.dat (.int .i64 0))), none⟩] none [3, 6, 10, 11])
 (.block 10 (.loop xf_plain_Book_apartInts_k5 xf_plain_Book_apartInts_b5))))
 (.reg [⟨(some 69), .mv (.s 10), none⟩, ⟨(some 70), .bin .add (.s 69) (.c (.dat (.int .i64 1))), none⟩, ⟨(some 10), .mv (.s 70), none⟩] none [3, 6, 10])))
def xf_plain_Book_apartInts : XFunc := ⟨none, false, 1, [.tmp 2], (.seq (.reg [⟨(some 2), .mv (.c (.dat (.bool false))), none⟩] none [0])
 (.seq (.reg [⟨(some 12), .mv (.s 0), none⟩, ⟨(some 13), .nilchk (.s 12), none⟩, ⟨(some 14), .fadr 1 (.s 13), none⟩, ⟨(some 15), .load none (.s 14), none⟩, ⟨(some 3), .mv (.s 15), none⟩] none [3])
 (.seq (.seq (.reg [⟨(some 4), .mv (.c (.dat (.int .i64 0))), none⟩] none [3, 4])
 (.block 0 (.loop xf_plain_Book_apartInts_k0 xf_plain_Book_apartInts_b0)))
 (.seq (.reg [⟨(some 6), .mv (.c (.nil 62 1 false)), none⟩] none [3, 6])
 (.seq (.seq (.reg [⟨(some 7), .mv (.c (.dat (.int .i64 0))), none⟩] none [3, 6, 7])
 (.block 4 (.loop xf_plain_Book_apartInts_k2 xf_plain_Book_apartInts_b2)))
 (.seq (.seq (.reg [⟨(some 10), .mv (.c (.dat (.int .i64 0))), none⟩] none [3, 6, 10])
 (.block 8 (.loop xf_plain_Book_apartInts_k4 xf_plain_Book_apartInts_b4)))
 (.seq (.reg [⟨(some 2), .mv (.c (.dat (.bool true))), none⟩] none [2])
 (.ret [2]))))))))⟩

def xf_plain_Book_apartVector_k1 : List (Nat × Option (Nat × Nat × Bool)) := [(3, some (23, 1, false)), (4, none), (5, none)]
def xf_plain_Book_apartVector_b1 : XCode := (.seq (.seq (.reg [⟨(some 22), .mv (.s 5), none⟩, ⟨(some 23), .mv (.s 3), none⟩, ⟨(some 24), .mv (.s 4), none⟩, ⟨(some 25), .iadr 1 (.s 23) (.s 24), none⟩, ⟨(some 26), .load none (.s 25), none⟩, ⟨(some 27), .len false (.s 26), none⟩, ⟨(some 28), .bin .lss (.s 22) (.s 27), none⟩] none [3, 4, 5, 28])
 (.cond (.s 28) .skip (.exit 2 [3, 4])))
 (.seq (.block 3 (.reg [⟨(some 31), .mv (.s 3), none⟩, ⟨(some 32), .mv (.s 4), none⟩, ⟨(some 33), .iadr 1 (.s 31) (.s 32), none⟩, ⟨(some 34), .load none (.s 33), none⟩, ⟨(some 35), .mv (.s 5), none⟩, ⟨(some 36), .mv (.s 4), none⟩, ⟨(some 37), .mv (.s 5), none⟩, ⟨(some 38), .call (.c (.fn (.func 67) [] [])) [(.s 36), (.s 37)], none⟩, ⟨(some 39), .iadr 2 (.s 34) (.s 35), none⟩, ⟨none, .store 2 (.s 39) (.s 38), none⟩] (some [(2, 7), (3, 7)]) [3, 4, 5]))
 (.reg [⟨(some 29), .mv (.s 5), none⟩, ⟨(some 30), .bin .add (.s 29) (.c (.dat (.int .i64 1))), none⟩, ⟨(some 5), .mv (.s 30), none⟩] none [3, 4, 5])))
def xf_plain_Book_apartVector_k0 : List (Nat × Option (Nat × Nat × Bool)) := [(3, some (23, 1, false)), (4, none)]
def xf_plain_Book_apartVector_b0 : XCode := (.seq (.seq (.reg [⟨(some 16), .mv (.s 4), none⟩, ⟨(some 17), .mv (.s 3), none⟩, ⟨(some 18), .len false (.s 17), none⟩, ⟨(some 19), .bin .lss (.s 16) (.s 18), none⟩] none [3, 4, 19])
 (.cond (.s 19) .skip (.exit 0 [3])))
 (.seq (.block 1 (.seq (.reg [⟨(some 5), .mv (.c (.dat (.int .i64 0))), none⟩] none [3, 4, 5])
 (.block 2 (.loop xf_plain_Book_apartVector_k1 xf_plain_Book_apartVector_b1))))
 (.reg [⟨(some 20), .mv (.s 4), none⟩, ⟨(some 21), .bin .add (.s 20) (.c (.dat (.int .i64 1))), none⟩, ⟨(some 4), .mv (.s 21), none⟩] none [3, 4])))
def xf_plain_Book_apartVector_k3 : List (Nat × Option (Nat × Nat × Bool)) := [(3, some (23, 1, false)), (6, some (23, 1, false)), (7, none), (8, some (26, 2, true)), (9, none)]
def xf_plain_Book_apartVector_b3 : XCode := (.seq (.seq (.reg [⟨(some 50), .mv (.s 9), none⟩, ⟨(some 51), .bin .lss (.s 50) (.c (.dat (.int .i64 70))), none⟩] none [3, 6, 7, 8, 9, 51])
 (.cond (.s 51) .skip (.exit 6 [3, 6, 7, 8])))
 (.seq (.block 7 (.reg [⟨(some 54), .mv (.s 8), none⟩, ⟨(some 55), .mv (.s 7), none⟩, ⟨(some 56), .mv (.s 8), none⟩, ⟨(some 57), .len false (.s 56), none⟩, ⟨(some 58), .call (.c (.fn (.func 67) [] [])) [(.s 55), (.s 57)], none⟩, ⟨(some 59), .bsl 26 2 true 1 [(.dat (.int .u64 0)), (.dat (.int .u64 0))] [(0, 2, (.s 58))], none⟩, ⟨(some 60), .app 26 2 16 true (.s 54) (.s 59), none⟩, ⟨(some 8), .mv (.s 60), none⟩] none [3, 6, 7, 8, 9]))
 (.reg [⟨(some 52), .mv (.s 9), none⟩, ⟨(some 53), .bin .add (.s 52) (.c (.dat (.int .i64 1))), none⟩, ⟨(some 9), .mv (.s 53), none⟩] none [3, 6, 7, 8, 9])))
def xf_plain_Book_apartVector_k2 : List (Nat × Option (Nat × Nat × Bool)) := [(3, some (23, 1, false)), (6, some (23, 1, false)), (7, none)]
def xf_plain_Book_apartVector_b2 : XCode := (.seq (.seq (.reg [⟨(some 40), .mv (.s 7), none⟩, ⟨(some 41), .mv (.s 3), none⟩, ⟨(some 42), .len false (.s 41), none⟩, ⟨(some 43), .bin .lss (.s 40) (.s 42), none⟩] none [3, 6, 7, 43])
 (.cond (.s 43) .skip (.exit 4 [3, 6])))
 (.seq (.block 5 (.seq (.reg [⟨(some 46), .mv (.s 3), none⟩, ⟨(some 47), .mv (.s 7), none⟩, ⟨(some 48), .iadr 1 (.s 46) (.s 47), none⟩, ⟨(some 49), .load none (.s 48), none⟩, ⟨(some 8), .mv (.s 49), none⟩] none [3, 6, 7, 8])
 (.seq (.seq (.reg [⟨(some 9), .mv (.c (.dat (.int .i64 0))), none⟩] none [3, 6, 7, 8, 9])
 (.block 6 (.loop xf_plain_Book_apartVector_k3 xf_plain_Book_apartVector_b3)))
 (.reg [⟨(some 61), .mv (.s 6), none⟩, ⟨(some 62), .mv (.s 8), none⟩, ⟨(some 63), .bsl 23 1 false 1 [(.nil 26 2 true)] [(0, 1, (.s 62))], none⟩, ⟨(some 64), .app 23 1 24 false (.s 61) (.s 63), none⟩, ⟨(some 6), .mv (.s 64), none⟩] none [3, 6, 7]))))
 (.reg [⟨(some 44), .mv (.s 7), none⟩, ⟨(some 45), .bin .add (.s 44) (.c (.dat (.int .i64 1))), none⟩, ⟨(some 7), .mv (.s 45), none⟩] none [3, 6, 7])))
def xf_plain_Book_apartVector_k5 : List (Nat × Option (Nat × Nat × Bool)) := [(3, some (23, 1, false)), (6, some (23, 1, false)), (10, none), (11, none)]
def xf_plain_Book_apartVector_b5 : XCode := (.seq (.seq (.reg [⟨(some 71), .mv (.s 11), none⟩, ⟨(some 72), .mv (.s 6), none⟩, ⟨(some 73), .mv (.s 10), none⟩, ⟨(some 74), .iadr 1 (.s 72) (.s 73), none⟩, ⟨(some 75), .load none (.s 74), none⟩, ⟨(some 76), .len false (.s 75), none⟩, ⟨(some 77), .bin .lss (.s 71) (.s 76), none⟩] none [3, 6, 10, 11, 77])
 (.cond (.s 77) .skip (.exit 10 [3, 6, 10])))
 (.seq (.block 11 (.seq (.sreg [(⟨(some 80), .mv (.s 6), none⟩, false), (⟨(some 81), .mv (.s 10), none⟩, false), (⟨(some 82), .iadr 1 (.s 80) (.s 81), none⟩, false), (⟨(some 83), .load none (.s 82), none⟩, false), (⟨(some 84), .mv (.s 11), none⟩, false), (⟨(some 85), .iadr 2 (.s 83) (.s 84), none⟩, false), (⟨(some 86), .load (some 2) (.s 85), none⟩, false), (⟨(some 87), .mv (.s 10), none⟩, false), (⟨(some 88), .mv (.s 11), none⟩, false), (⟨(some 89), .call (.c (.fn (.func 67) [] [])) [(.s 87), (.s 88)], none⟩, false), (⟨(some 90), .eqv true true [.i, .i] (.s 86) (.s 89), none⟩, false), (⟨(some 91), .mv (.s 90), none⟩, false), (⟨(some 92), .mv (.s 11), some (91, false)⟩, true), (⟨(some 93), .mv (.s 3), some (91, false)⟩, true), (⟨(some 94), .mv (.s 10), some (91, false)⟩, true), (⟨(some 95), .iadr 1 (.s 93) (.s 94), some (91, false)⟩, false), (⟨(some 96), .load none (.s 95), some (91, false)⟩, false), (⟨(some 97), .len false (.s 96), some (91, false)⟩, false), (⟨(some 98), .bin .lss (.s 92) (.s 97), some (91, false)⟩, false), (⟨(some 99), .mv (.s 98), some (91, false)⟩, false), (⟨(some 100), .mv (.s 3), some (99, true)⟩, true), (⟨(some 101), .mv (.s 10), some (99, true)⟩, true), (⟨(some 102), .iadr 1 (.s 100) (.s 101), some (99, true)⟩, false), (⟨(some 103), .load none (.s 102), some (99, true)⟩, false), (⟨(some 104), .mv (.s 11), some (99, true)⟩, true), (⟨(some 105), .iadr 2 (.s 103) (.s 104), some (99, true)⟩, false), (⟨(some 106), .load (some 2) (.s 105), some (99, true)⟩, false), (⟨(some 107), .mv (.s 10), some (99, true)⟩, true), (⟨(some 108), .mv (.s 11), some (99, true)⟩, true), (⟨(some 109), .call (.c (.fn (.func 67) [] [])) [(.s 107), (.s 108)], some (99, true)⟩, false), (⟨(some 110), .eqv true true [.i, .i] (.s 106) (.s 109), some (99, true)⟩, false), (⟨(some 111), .pick (.s 99) (.s 110) (.c (.dat (.bool false))), some (91, false)⟩, false), (⟨(some 112), .pick (.s 91) (.c (.dat (.bool true))) (.s 111), none⟩, false)] (some [(2, 9), (3, 9), (5, 9), (6, 9), (22, 29), (23, 29), (25, 29), (26, 29)]) [3, 6, 10, 11, 112])
 (.cond (.s 112) (.seq (.reg [⟨(some 2), .mv (.c (.dat (.bool false))), none⟩] none [2])
 (.ret [2])) .skip)))
 (.reg [⟨(some 78), .mv (.s 11), none⟩, ⟨(some 79), .bin .add (.s 78) (.c (.dat (.int .i64 1))), none⟩, ⟨(some 11), .mv (.s 79), none⟩] none [3, 6, 10, 11])))
def xf_plain_Book_apartVector_k4 : List (Nat × Option (Nat × Nat × Bool)) := [(3, some (23, 1, false)), (6, some (23, 1, false)), (10, none)]
def xf_plain_Book_apartVector_b4 : XCode := (.seq (.seq (.reg [⟨(some 65), .mv (.s 10), none⟩, ⟨(some 66), .mv (.s 3), none⟩, ⟨(some 67), .len false (.s 66), none⟩, ⟨(some 68), .bin .lss (.s 65) (.s 67), none⟩] none [3, 6, 10, 68])
 (.cond (.s 68) .skip (.exit 8 [])))
 (.seq (.block 9 (.seq (.reg [⟨(some 11), .mv (.c (.dat (.int .i64 0))), none⟩] none [3, 6, 10, 11])
 (.block 10 (.loop xf_plain_Book_apartVector_k5 xf_plain_Book_apartVector_b5))))
 (.reg [⟨(some 69), .mv (.s 10), none⟩, ⟨(some 70), .bin .add (.s 69) (.c (.dat (.int .i64 1))), none⟩, ⟨(some 10), .mv (.s 70), none⟩] none [3, 6, 10])))
def xf_plain_Book_apartVector : XFunc := ⟨none, false, 1, [.tmp 2], (.seq (.reg [⟨(some 2), .mv (.c (.dat (.bool false))), none⟩] none [0])
 (.seq (.reg [⟨(some 12), .mv (.s 0), none⟩, ⟨(some 13), .nilchk (.s 12), none⟩, ⟨(some 14), .fadr 2 (.s 13), none⟩, ⟨(some 15), .load none (.s 14), none⟩, ⟨(some 3), .mv (.s 15), none⟩] none [3])
 (.seq (.seq (.reg [⟨(some 4), .mv (.c (.dat (.int .i64 0))), none⟩] none [3, 4])
 (.block 0 (.loop xf_plain_Book_apartVector_k0 xf_plain_Book_apartVector_b0)))
 (.seq (.reg [⟨(some 6), .mv (.c (.nil 23 1 false)), none⟩] none [3, 6])
 (.seq (.seq (.reg [⟨(some 7), .mv (.c (.dat (.int .i64 0))), none⟩] none [3, 6, 7])
 (.block 4 (.loop xf_plain_Book_apartVector_k2 xf_plain_Book_apartVector_b2)))
 (.seq (.seq (.reg [⟨(some 10), .mv (.c (.dat (.int .i64 0))), none⟩] none [3, 6, 10])
 (.block 8 (.loop xf_plain_Book_apartVector_k4 xf_plain_Book_apartVector_b4)))
 (.seq (.reg [⟨(some 2), .mv (.c (.dat (.bool true))), none⟩] none [2])
 (.ret [2]))))))))⟩

def xf_plain_Book_apartEntries_k1 : List (Nat × Option (Nat × Nat × Bool)) := [(3, some (91, 1, false)), (4, none), (5, none)]
def xf_plain_Book_apartEntries_b1 : XCode := (.seq (.seq (.reg [⟨(some 22), .mv (.s 5), none⟩, ⟨(some 23), .mv (.s 3), none⟩, ⟨(some 24), .mv (.s 4), none⟩, ⟨(some 25), .iadr 1 (.s 23) (.s 24), none⟩, ⟨(some 26), .load none (.s 25), none⟩, ⟨(some 27), .len false (.s 26), none⟩, ⟨(some 28), .bin .lss (.s 22) (.s 27), none⟩] none [3, 4, 5, 28])
 (.cond (.s 28) .skip (.exit 2 [3, 4])))
 (.seq (.block 3 (.reg [⟨(some 31), .mv (.s 3), none⟩, ⟨(some 32), .mv (.s 4), none⟩, ⟨(some 33), .iadr 1 (.s 31) (.s 32), none⟩, ⟨(some 34), .load none (.s 33), none⟩, ⟨(some 35), .mv (.s 5), none⟩, ⟨(some 36), .mv (.s 4), none⟩, ⟨(some 37), .mv (.s 5), none⟩, ⟨(some 38), .call (.c (.fn (.func 68) [] [])) [(.s 36), (.s 37)], none⟩, ⟨(some 39), .iadr 5 (.s 34) (.s 35), none⟩, ⟨none, .store 5 (.s 39) (.s 38), none⟩] (some [(2, 7), (3, 7)]) [3, 4, 5]))
 (.reg [⟨(some 29), .mv (.s 5), none⟩, ⟨(some 30), .bin .add (.s 29) (.c (.dat (.int .i64 1))), none⟩, ⟨(some 5), .mv (.s 30), none⟩] none [3, 4, 5])))
def xf_plain_Book_apartEntries_k0 : List (Nat × Option (Nat × Nat × Bool)) := [(3, some (91, 1, false)), (4, none)]
def xf_plain_Book_apartEntries_b0 : XCode := (.seq (.seq (.reg [⟨(some 16), .mv (.s 4), none⟩, ⟨(some 17), .mv (.s 3), none⟩, ⟨(some 18), .len false (.s 17), none⟩, ⟨(some 19), .bin .lss (.s 16) (.s 18), none⟩] none [3, 4, 19])
 (.cond (.s 19) .skip (.exit 0 [3])))
 (.seq (.block 1 (.seq (.reg [⟨(some 5), .mv (.c (.dat (.int .i64 0))), none⟩] none [3, 4, 5])
 (.block 2 (.loop xf_plain_Book_apartEntries_k1 xf_plain_Book_apartEntries_b1))))
 (.reg [⟨(some 20), .mv (.s 4), none⟩, ⟨(some 21), .bin .add (.s 20) (.c (.dat (.int .i64 1))), none⟩, ⟨(some 4), .mv (.s 21), none⟩] none [3, 4])))
def xf_plain_Book_apartEntries_k3 : List (Nat × Option (Nat × Nat × Bool)) := [(3, some (91, 1, false)), (6, some (91, 1, false)), (7, none), (8, some (113, 5, true)), (9, none)]
def xf_plain_Book_apartEntries_b3 : XCode := (.seq (.seq (.reg [⟨(some 50), .mv (.s 9), none⟩, ⟨(some 51), .bin .lss (.s 50) (.c (.dat (.int .i64 70))), none⟩] none [3, 6, 7, 8, 9, 51])
 (.cond (.s 51) .skip (.exit 6 [3, 6, 7, 8])))
 (.seq (.block 7 (.reg [⟨(some 54), .mv (.s 8), none⟩, ⟨(some 55), .mv (.s 7), none⟩, ⟨(some 56), .mv (.s 8), none⟩, ⟨(some 57), .len false (.s 56), none⟩, ⟨(some 58), .call (.c (.fn (.func 68) [] [])) [(.s 55), (.s 57)], none⟩, ⟨(some 59), .bsl 113 5 true 1 [(.dat (.int .i64 0)), (.dat (.int .i64 0)), (.dat (.int .i64 0)), (.dat (.int .i64 0)), (.dat (.str ⟨#[]⟩))] [(0, 5, (.s 58))], none⟩, ⟨(some 60), .app 113 5 48 true (.s 54) (.s 59), none⟩, ⟨(some 8), .mv (.s 60), none⟩] none [3, 6, 7, 8, 9]))
 (.reg [⟨(some 52), .mv (.s 9), none⟩, ⟨(some 53), .bin .add (.s 52) (.c (.dat (.int .i64 1))), none⟩, ⟨(some 9), .mv (.s 53), none⟩] none [3, 6, 7, 8, 9])))
def xf_plain_Book_apartEntries_k2 : List (Nat × Option (Nat × Nat × Bool)) := [(3, some (91, 1, false)), (6, some (91, 1, false)), (7, none)]
def xf_plain_Book_apartEntries_b2 : XCode := (.seq (.seq (.reg [⟨(some 40), .mv (.s 7), none⟩, ⟨(some 41), .mv (.s 3), none⟩, ⟨(some 42), .len false (.s 41), none⟩, ⟨(some 43), .bin .lss (.s 40) (.s 42), none⟩] none [3, 6, 7, 43])
 (.cond (.s 43) .skip (.exit 4 [3, 6])))
 (.seq (.block 5 (.seq (.reg [⟨(some 46), .mv (.s 3), none⟩, ⟨(some 47), .mv (.s 7), none⟩, ⟨(some 48), .iadr 1 (.s 46) (.s 47), none⟩, ⟨(some 49), .load none (.s 48), none⟩, ⟨(some 8), .mv (.s 49), none⟩] none [3, 6, 7, 8])
 (.seq (.seq (.reg [⟨(some 9), .mv (.c (.dat (.int .i64 0))), none⟩] none [3, 6, 7, 8, 9])
 (.block 6 (.loop xf_plain_Book_apartEntries_k3 xf_plain_Book_apartEntries_b3)))
 (.reg [⟨(some 61), .mv (.s 6), none⟩, ⟨(some 62), .mv (.s 8), none⟩, ⟨(some 63), .bsl 91 1 false 1 [(.nil 113 5 true)] [(0, 1, (.s 62))], none⟩, ⟨(some 64), .app 91 1 24 false (.s 61) (.s 63), none⟩, ⟨(some 6), .mv (.s 64), none⟩] none [3, 6, 7]))))
 (.reg [⟨(some 44), .mv (.s 7), none⟩, ⟨(some 45), .bin .add (.s 44) (.c (.dat (.int .i64 1))), none⟩, ⟨(some 7), .mv (.s 45), none⟩] none [3, 6, 7])))
def xf_plain_Book_apartEntries_k5 : List (Nat × Option (Nat × Nat × Bool)) := [(3, some (91, 1, false)), (6, some (91, 1, false)), (10, none), (11, none)]
def xf_plain_Book_apartEntries_b5 : XCode := (.seq (.seq (.reg [⟨(some 71), .mv (.s 11), none⟩, ⟨(some 72), .mv (.s 6), none⟩, ⟨(some 73), .mv (.s 10), none⟩, ⟨(some 74), .iadr 1 (.s 72) (.s 73), none⟩, ⟨(some 75), .load none (.s 74), none⟩, ⟨(some 76), .len false (.s 75), none⟩, ⟨(some 77), .bin .lss (.s 71) (.s 76), none⟩] none [3, 6, 10, 11, 77])
 (.cond (.s 77) .skip (.exit 10 [3, 6, 10])))
 (.seq (.block 11 (.seq (.sreg [(⟨(some 80), .mv (.s 6), none⟩, false), (⟨(some 81), .mv (.s 10), none⟩, false), (⟨(some 82), .iadr 1 (.s 80) (.s 81), none⟩, false), (⟨(some 83), .load none (.s 82), none⟩, false), (⟨(some 84), .mv (.s 11), none⟩, false), (⟨(some 85), .iadr 5 (.s 83) (.s 84), none⟩, false), (⟨(some 86), .load (some 5) (.s 85), none⟩, false), (⟨(some 87), .mv (.s 10), none⟩, false), (⟨(some 88), .mv (.s 11), none⟩, false), (⟨(some 89), .call (.c (.fn (.func 68) [] [])) [(.s 87), (.s 88)], none⟩, false), (⟨(some 90), .eqv true true [.i, .i, .i, .i, .s] (.s 86) (.s 89), none⟩, false), (⟨(some 91), .mv (.s 90), none⟩, false), (⟨(some 92), .mv (.s 11), some (91, false)⟩, true), (⟨(some 93), .mv (.s 3), some (91, false)⟩, true), (⟨(some 94), .mv (.s 10), some (91, false)⟩, true), (⟨(some 95), .iadr 1 (.s 93) (.s 94), some (91, false)⟩, false), (⟨(some 96), .load none (.s 95), some (91, false)⟩, false), (⟨(some 97), .len false (.s 96), some (91, false)⟩, false), (⟨(some 98), .bin .lss (.s 92) (.s 97), some (91, false)⟩, false), (⟨(some 99), .mv (.s 98), some (91, false)⟩, false), (⟨(some 100), .mv (.s 3), some (99, true)⟩, true), (⟨(some 101), .mv (.s 10), some (99, true)⟩, true), (⟨(some 102), .iadr 1 (.s 100) (.s 101), some (99, true)⟩, false), (⟨(some 103), .load none (.s 102), some (99, true)⟩, false), (⟨(some 104), .mv (.s 11), some (99, true)⟩, true), (⟨(some 105), .iadr 5 (.s 103) (.s 104), some (99, true)⟩, false), (⟨(some 106), .load (some 5) (.s 105), some (99, true)⟩, false), (⟨(some 107), .mv (.s 10), some (99, true)⟩, true), (⟨(some 108), .mv (.s 11), some (99, true)⟩, true), (⟨(some 109), .call (.c (.fn (.func 68) [] [])) [(.s 107), (.s 108)], some (99, true)⟩, false), (⟨(some 110), .eqv true true [.i, .i, .i, .i, .s] (.s 106) (.s 109), some (99, true)⟩, false), (⟨(some 111), .pick (.s 99) (.s 110) (.c (.dat (.bool false))), some (91, false)⟩, false), (⟨(some 112), .pick (.s 91) (.c (.dat (.bool true))) (.s 111), none⟩, false)] (some [(2, 9), (3, 9), (5, 9), (6, 9), (22, 29), (23, 29), (25, 29), (26, 29)]) [3, 6, 10, 11, 112])
 (.cond (.s 112) (.seq (.reg [⟨(some 2), .mv (.c (.dat (.bool false))), none⟩] none [2])
 (.ret [2])) .skip)))
 (.reg [⟨(some 78), .mv (.s 11), none⟩, ⟨(some 79), .bin .add (.s 78) (.c (.dat (.int .i64 1))), none⟩, ⟨(some 11), .mv (.s 79), none⟩] none [3, 6, 10, 11])))
def xf_plain_Book_apartEntries_k4 : List (Nat × Option (Nat × Nat × Bool)) := [(3, some (91, 1, false)), (6, some (91, 1, false)), (10, none)]
def xf_plain_Book_apartEntries_b4 : XCode := (.seq (.seq (.reg [⟨(some 65), .mv (.s 10), none⟩, ⟨(some 66), .mv (.s 3), none⟩, ⟨(some 67), .len false (.s 66), none⟩, ⟨(some 68), .bin .lss (.s 65) (.s 67), none⟩] none [3, 6, 10, 68])
 (.cond (.s 68) .skip (.exit 8 [])))
 (.seq (.block 9 (.seq (.reg [⟨(some 11), .mv (.c (.dat (.int .i64 0))), none⟩] none [3, 6, 10, 11])
 (.block 10 (.loop xf_plain_Book_apartEntries_k5 xf_plain_Book_apartEntries_b5))))
 (.reg [⟨(some 69), .mv (.s 10), none⟩, ⟨(some 70), .bin .add (.s 69) (.c (.dat (.int .i64 1))), none⟩, ⟨(some 10), .mv (.s 70), none⟩] none [3, 6, 10])))
def xf_plain_Book_apartEntries : XFunc := ⟨none, false, 1, [.tmp 2], (.seq (.reg [⟨(some 2), .mv (.c (.dat (.bool false))), none⟩] none [0])
 (.seq (.reg [⟨(some 12), .mv (.s 0), none⟩, ⟨(some 13), .nilchk (.s 12), none⟩, ⟨(some 14), .fadr 3 (.s 13), none⟩, ⟨(some 15), .load none (.s 14), none⟩, ⟨(some 3), .mv (.s 15), none⟩] none [3])
 (.seq (.seq (.reg [⟨(some 4), .mv (.c (.dat (.int .i64 0))), none⟩] none [3, 4])
 (.block 0 (.loop xf_plain_Book_apartEntries_k0 xf_plain_Book_apartEntries_b0)))
 (.seq (.reg [⟨(some 6), .mv (.c (.nil 91 1 false)), none⟩] none [3, 6])
 (.seq (.seq (.reg [⟨(some 7), .mv (.c (.dat (.int .i64 0))), none⟩] none [3, 6, 7])
 (.block 4 (.loop xf_plain_Book_apartEntries_k2 xf_plain_Book_apartEntries_b2)))
 (.seq (.seq (.reg [⟨(some 10), .mv (.c (.dat (.int .i64 0))), none⟩] none [3, 6, 10])
 (.block 8 (.loop xf_plain_Book_apartEntries_k4 xf_plain_Book_apartEntries_b4)))
 (.seq (.reg [⟨(some 2), .mv (.c (.dat (.bool true))), none⟩] none [2])
 (.ret [2]))))))))⟩

def xf_plain_Book_apartCells_k1 : List (Nat × Option (Nat × Nat × Bool)) := [(3, some (119, 1, false)), (4, none), (5, none)]
def xf_plain_Book_apartCells_b1 : XCode := (.seq (.seq (.reg [⟨(some 22), .mv (.s 5), none⟩, ⟨(some 23), .mv (.s 3), none⟩, ⟨(some 24), .mv (.s 4), none⟩, ⟨(some 25), .iadr 1 (.s 23) (.s 24), none⟩, ⟨(some 26), .load none (.s 25), none⟩, ⟨(some 27), .len false (.s 26), none⟩, ⟨(some 28), .bin .lss (.s 22) (.s 27), none⟩] none [3, 4, 5, 28])
 (.cond (.s 28) .skip (.exit 2 [3, 4])))
 (.seq (.block 3 (.reg [⟨(some 31), .mv (.s 3), none⟩, ⟨(some 32), .mv (.s 4), none⟩, ⟨(some 33), .iadr 1 (.s 31) (.s 32), none⟩, ⟨(some 34), .load none (.s 33), none⟩, ⟨(some 35), .mv (.s 5), none⟩, ⟨(some 36), .mv (.s 4), none⟩, ⟨(some 37), .mv (.s 5), none⟩, ⟨(some 38), .call (.c (.fn (.func 69) [] [])) [(.s 36), (.s 37)], none⟩, ⟨(some 39), .iadr 2 (.s 34) (.s 35), none⟩, ⟨none, .store 2 (.s 39) (.s 38), none⟩] (some [(2, 7), (3, 7)]) [3, 4, 5]))
 (.reg [⟨(some 29), .mv (.s 5), none⟩, ⟨(some 30), .bin .add (.s 29) (.c (.dat (.int .i64 1))), none⟩, ⟨(some 5), .mv (.s 30), none⟩] none [3, 4, 5])))
def xf_plain_Book_apartCells_k0 : List (Nat × Option (Nat × Nat × Bool)) := [(3, some (119, 1, false)), (4, none)]
def xf_plain_Book_apartCells_b0 : XCode := (.seq (.seq (.reg [⟨(some 16), .mv (.s 4), none⟩, ⟨(some 17), .mv (.s 3), none⟩, ⟨(some 18), .len false (.s 17), none⟩, ⟨(some 19), .bin .lss (.s 16) (.s 18), none⟩] none [3, 4, 19])
 (.cond (.s 19) .skip (.exit 0 [3])))
 (.seq (.block 1 (.seq (.reg [⟨(some 5), .mv (.c (.dat (.int .i64 0))), none⟩] none [3, 4, 5])
 (.block 2 (.loop xf_plain_Book_apartCells_k1 xf_plain_Book_apartCells_b1))))
 (.reg [⟨(some 20), .mv (.s 4), none⟩, ⟨(some 21), .bin .add (.s 20) (.c (.dat (.int .i64 1))), none⟩, ⟨(some 4), .mv (.s 21), none⟩] none [3, 4])))
def xf_plain_Book_apartCells_k3 : List (Nat × Option (Nat × Nat × Bool)) := [(3, some (119, 1, false)), (6, some (119, 1, false)), (7, none), (8, some (121, 2, true)), (9, none)]
def xf_plain_Book_apartCells_b3 : XCode := (.seq (.seq (.reg [⟨(some 50), .mv (.s 9), none⟩, ⟨(some 51), .bin .lss (.s 50) (.c (.dat (.int .i64 70))), none⟩] none [3, 6, 7, 8, 9, 51])
 (.cond (.s 51) .skip (.exit 6 [3, 6, 7, 8])))
 (.seq (.block 7 (.reg [⟨(some 54), .mv (.s 8), none⟩, ⟨(some 55), .mv (.s 7), none⟩, ⟨(some 56), .mv (.s 8), none⟩, ⟨(some 57), .len false (.s 56), none⟩, ⟨(some 58), .call (.c (.fn (.func 69) [] [])) [(.s 55), (.s 57)], none⟩, ⟨(some 59), .bsl 121 2 true 1 [(.dat (.int .i64 0)), (.dat (.str ⟨#[]⟩))] [(0, 2, (.s 58))], none⟩, ⟨(some 60), .app 121 2 24 true (.s 54) (.s 59), none⟩, ⟨(some 8), .mv (.s 60), none⟩] none [3, 6, 7, 8, 9]))
 (.reg [⟨(some 52), .mv (.s 9), none⟩, ⟨(some 53), .bin .add (.s 52) (.c (.dat (.int .i64 1))), none⟩, ⟨(some 9), .mv (.s 53), none⟩] none [3, 6, 7, 8, 9])))
def xf_plain_Book_apartCells_k2 : List (Nat × Option (Nat × Nat × Bool)) := [(3, some (119, 1, false)), (6, some (119, 1, false)), (7, none)]
def xf_plain_Book_apartCells_b2 : XCode := (.seq (.seq (.reg [⟨(some 40), .mv (.s 7), none⟩, ⟨(some 41), .mv (.s 3), none⟩, ⟨(some 42), .len false (.s 41), none⟩, ⟨(some 43), .bin .lss (.s 40) (.s 42), none⟩] none [3, 6, 7, 43])
 (.cond (.s 43) .skip (.exit 4 [3, 6])))
 (.seq (.block 5 (.seq (.reg [⟨(some 46), .mv (.s 3), none⟩, ⟨(some 47), .mv (.s 7), none⟩, ⟨(some 48), .iadr 1 (.s 46) (.s 47), none⟩, ⟨(some 49), .load none (.s 48), none⟩, ⟨(some 8), .mv (.s 49), none⟩] none [3, 6, 7, 8])
 (.seq (.seq (.reg [⟨(some 9), .mv (.c (.dat (.int .i64 0))), none⟩] none [3, 6, 7, 8, 9])
 (.block 6 (.loop xf_plain_Book_apartCells_k3 xf_plain_Book_apartCells_b3)))
 (.reg [⟨(some 61), .mv (.s 6), none⟩, ⟨(some 62), .mv (.s 8), none⟩, ⟨(some 63), .bsl 119 1 false 1 [(.nil 121 2 true)] [(0, 1, (.s 62))], none⟩, ⟨(some 64), .app 119 1 24 false (.s 61) (.s 63), none⟩, ⟨(some 6), .mv (.s 64), none⟩] none [3, 6, 7]))))
 (.reg [⟨(some 44), .mv (.s 7), none⟩, ⟨(some 45), .bin .add (.s 44) (.c (.dat (.int .i64 1))), none⟩, ⟨(some 7), .mv (.s 45), none⟩] none [3, 6, 7])))
def xf_plain_Book_apartCells_k5 : List (Nat × Option (Nat × Nat × Bool)) := [(3, some (119, 1, false)), (6, some (119, 1, false)), (10, none), (11, none)]
def xf_plain_Book_apartCells_b5 : XCode := (.seq (.seq (.reg [⟨(some 71), .mv (.s 11), none⟩, ⟨(some 72), .mv (.s 6), none⟩, ⟨(some 73), .mv (.s 10), none⟩, ⟨(some 74), .iadr 1 (.s 72) (.s 73), none⟩, ⟨(some 75), .load none (.s 74), none⟩, ⟨(some 76), .len false (.s 75), none⟩, ⟨(some 77), .bin .lss (.s 71) (.s 76), none⟩] none [3, 6, 10, 11, 77])
 (.cond (.s 77) .skip (.exit 10 [3, 6, 10])))
 (.seq (.block 11 (.seq (.sreg [(⟨(some 80), .mv (.s 6), none⟩, false), (⟨(some 81), .mv (.s 10), none⟩, false), (⟨(some 82), .iadr 1 (.s 80) (.s 81), none⟩, false), (⟨(some 83), .load none (.s 82), none⟩, false), (⟨(some 84), .mv (.s 11), none⟩, false), (⟨(some 85), .iadr 2 (.s 83) (.s 84), none⟩, false), (⟨(some 86), .load (some 2) (.s 85), none⟩, false), (⟨(some 87), .mv (.s 10), none⟩, false), (⟨(some 88), .mv (.s 11), none⟩, false), (⟨(some 89), .call (.c (.fn (.func 69) [] [])) [(.s 87), (.s 88)], none⟩, false), (⟨(some 90), .eqv true true [.i, .s] (.s 86) (.s 89), none⟩, false), (⟨(some 91), .mv (.s 90), none⟩, false), (⟨(some 92), .mv (.s 11), some (91, false)⟩, true), (⟨(some 93), .mv (.s 3), some (91, false)⟩, true), (⟨(some 94), .mv (.s 10), some (91, false)⟩, true), (⟨(some 95), .iadr 1 (.s 93) (.s 94), some (91, false)⟩, false), (⟨(some 96), .load none (.s 95), some (91, false)⟩, false), (⟨(some 97), .len false (.s 96), some (91, false)⟩, false), (⟨(some 98), .bin .lss (.s 92) (.s 97), some (91, false)⟩, false), (⟨(some 99), .mv (.s 98), some (91, false)⟩, false), (⟨(some 100), .mv (.s 3), some (99, true)⟩, true), (⟨(some 101), .mv (.s 10), some (99, true)⟩, true), (⟨(some 102), .iadr 1 (.s 100) (.s 101), some (99, true)⟩, false), (⟨(some 103), .load none (.s 102), some (99, true)⟩, false), (⟨(some 104), .mv (.s 11), some (99, true)⟩, true), (⟨(some 105), .iadr 2 (.s 103) (.s 104), some (99, true)⟩, false), (⟨(some 106), .load (some 2) (.s 105), some (99, true)⟩, false), (⟨(some 107), .mv (.s 10), some (99, true)⟩, true), (⟨(some 108), .mv (.s 11), some (99, true)⟩, true), (⟨(some 109), .call (.c (.fn (.func 69) [] [])) [(.s 107), (.s 108)], some (99, true)⟩, false), (⟨(some 110), .eqv true true [.i, .s] (.s 106) (.s 109), some (99, true)⟩, false), (⟨(some 111), .pick (.s 99) (.s 110) (.c (.dat (.bool false))), some (91, false)⟩, false), (⟨(some 112), .pick (.s 91) (.c (.dat (.bool true))) (.s 111), none⟩, false)] (some [(2, 9), (3, 9), (5, 9), (6, 9), (22, 29), (23, 29), (25, 29), (26, 29)]) [3, 6, 10, 11, 112])
 (.cond (.s 112) (.seq (.reg [⟨(some 2), .mv (.c (.dat (.bool false))), none⟩] none [2])
 (.ret [2])) .skip)))
 (.reg [⟨(some 78), .mv (.s 11), none⟩, ⟨(some 79), .bin .add (.s 78) (.c (.dat (.int .i64 1))), none⟩, ⟨(some 11), .mv (.s 79), none⟩] none [3, 6, 10, 11])))
def xf_plain_Book_apartCells_k4 : List (Nat × Option (Nat × Nat × Bool)) := [(3, some (119, 1, false)), (6, some (119, 1, false)), (10, none)]
def xf_plain_Book_apartCells_b4 : XCode := (.seq (.seq (.reg [⟨(some 65), .mv (.s 10), none⟩, ⟨(some 66), .mv (.s 3), none⟩, ⟨(some 67), .len false (.s 66), none⟩, ⟨(some 68), .bin .lss (.s 65) (.s 67), none⟩] none [3, 6, 10, 68])
 (.cond (.s 68) .skip (.exit 8 [])))
 (.seq (.block 9 (.seq (.reg [⟨(some 11), .mv (.c (.dat (.int .i64 0))), none⟩] none [3, 6, 10, 11])
 (.block 10 (.loop xf_plain_Book_apartCells_k5 xf_plain_Book_apartCells_b5))))
 (.reg [⟨(some 69), .mv (.s 10), none⟩, ⟨(some 70), .bin .add (.s 69) (.c (.dat (.int .i64 1))), none⟩, ⟨(some 10), .mv (.s 70), none⟩] none [3, 6, 10])))
def xf_plain_Book_apartCells : XFunc := ⟨none, false, 1, [.tmp 2], (.seq (.reg [⟨(some 2), .mv (.c (.dat (.bool false))), none⟩] none [0])
 (.seq (.reg [⟨(some 12), .mv (.s 0), none⟩, ⟨(some 13), .nilchk (.s 12), none⟩, ⟨(some 14), .fadr 4 (.s 13), none⟩, ⟨(some 15), .load none (.s 14), none⟩, ⟨(some 3), .mv (.s 15), none⟩] none [3])
 (.seq (.seq (.reg [⟨(some 4), .mv (.c (.dat (.int .i64 0))), none⟩] none [3, 4])
 (.block 0 (.loop xf_plain_Book_apartCells_k0 xf_plain_Book_apartCells_b0)))
 (.seq (.reg [⟨(some 6), .mv (.c (.nil 119 1 false)), none⟩] none [3, 6])
 (.seq (.seq (.reg [⟨(some 7), .mv (.c (.dat (.int .i64 0))), none⟩] none [3, 6, 7])
 (.block 4 (.loop xf_plain_Book_apartCells_k2 xf_plain_Book_apartCells_b2)))
 (.seq (.seq (.reg [⟨(some 10), .mv (.c (.dat (.int .i64 0))), none⟩] none [3, 6, 10])
 (.block 8 (.loop xf_plain_Book_apartCells_k4 xf_plain_Book_apartCells_b4)))
 (.seq (.reg [⟨(some 2), .mv (.c (.dat (.bool true))), none⟩] none [2])
 (.ret [2]))))))))⟩

def xf_plain_Book_apartRows_k1 : List (Nat × Option (Nat × Nat × Bool)) := [(3, some (123, 1, false)), (4, none), (5, none)]
def xf_plain_Book_apartRows_b1 : XCode := (.seq (.seq (.reg [⟨(some 22), .mv (.s 5), none⟩, ⟨(some 23), .mv (.s 3), none⟩, ⟨(some 24), .mv (.s 4), none⟩, ⟨(some 25), .iadr 1 (.s 23) (.s 24), none⟩, ⟨(some 26), .load none (.s 25), none⟩, ⟨(some 27), .len false (.s 26), none⟩, ⟨(some 28), .bin .lss (.s 22) (.s 27), none⟩] none [3, 4, 5, 28])
 (.cond (.s 28) .skip (.exit 2 [3, 4])))
 (.seq (.block 3 (.reg [⟨(some 31), .mv (.s 3), none⟩, ⟨(some 32), .mv (.s 4), none⟩, ⟨(some 33), .iadr 1 (.s 31) (.s 32), none⟩, ⟨(some 34), .load none (.s 33), none⟩, ⟨(some 35), .mv (.s 5), none⟩, ⟨(some 36), .mv (.s 4), none⟩, ⟨(some 37), .mv (.s 5), none⟩, ⟨(some 38), .call (.c (.fn (.func 70) [] [])) [(.s 36), (.s 37)], none⟩, ⟨(some 39), .iadr 7 (.s 34) (.s 35), none⟩, ⟨none, .store 7 (.s 39) (.s 38), none⟩] (some [(2, 7), (3, 7)]) [3, 4, 5]))
 (.reg [⟨(some 29), .mv (.s 5), none⟩, ⟨(some 30), .bin .add (.s 29) (.c (.dat (.int .i64 1))), none⟩, ⟨(some 5), .mv (.s 30), none⟩] none [3, 4, 5])))
def xf_plain_Book_apartRows_k0 : List (Nat × Option (Nat × Nat × Bool)) := [(3, some (123, 1, false)), (4, none)]
def xf_plain_Book_apartRows_b0 : XCode := (.seq (.seq (.reg [⟨(some 16), .mv (.s 4), none⟩, ⟨(some 17), .mv (.s 3), none⟩, ⟨(some 18), .len false (.s 17), none⟩, ⟨(some 19), .bin .lss (.s 16) (.s 18), none⟩] none [3, 4, 19])
 (.cond (.s 19) .skip (.exit 0 [3])))
 (.seq (.block 1 (.seq (.reg [⟨(some 5), .mv (.c (.dat (.int .i64 0))), none⟩] none [3, 4, 5])
 (.block 2 (.loop xf_plain_Book_apartRows_k1 xf_plain_Book_apartRows_b1))))
 (.reg [⟨(some 20), .mv (.s 4), none⟩, ⟨(some 21), .bin .add (.s 20) (.c (.dat (.int .i64 1))), none⟩, ⟨(some 4), .mv (.s 21), none⟩] none [3, 4])))
def xf_plain_Book_apartRows_k3 : List (Nat × Option (Nat × Nat × Bool)) := [(3, some (123, 1, false)), (6, some (123, 1, false)), (7, none), (8, some (127, 7, true)), (9, none)]
def xf_plain_Book_apartRows_b3 : XCode := (.seq (.seq (.reg [⟨(some 50), .mv (.s 9), none⟩, ⟨(some 51), .bin .lss (.s 50) (.c (.dat (.int .i64 70))), none⟩] none [3, 6, 7, 8, 9, 51])
 (.cond (.s 51) .skip (.exit 6 [3, 6, 7, 8])))
 (.seq (.block 7 (.reg [⟨(some 54), .mv (.s 8), none⟩, ⟨(some 55), .mv (.s 7), none⟩, ⟨(some 56), .mv (.s 8), none⟩, ⟨(some 57), .len false (.s 56), none⟩, ⟨(some 58), .call (.c (.fn (.func 70) [] [])) [(.s 55), (.s 57)], none⟩, ⟨(some 59), .bsl 127 7 true 1 [(.dat (.int .i64 0)), (.dat (.int .i64 0)), (.dat (.int .i64 0)), (.dat (.bool false)), (.dat (.int .i64 0)), (.dat (.int .i64 0)), (.dat (.str ⟨#[]⟩))] [(0, 7, (.s 58))], none⟩, ⟨(some 60), .app 127 7 64 true (.s 54) (.s 59), none⟩, ⟨(some 8), .mv (.s 60), none⟩] none [3, 6, 7, 8, 9]))
 (.reg [⟨(some 52), .mv (.s 9), none⟩, ⟨(some 53), .bin .add (.s 52) (.c (.dat (.int .i64 1))), none⟩, ⟨(some 9), .mv (.s 53), none⟩] none [3, 6, 7, 8, 9])))
def xf_plain_Book_apartRows_k2 : List (Nat × Option (Nat × Nat × Bool)) := [(3, some (123, 1, false)), (6, some (123, 1, false)), (7, none)]
def xf_plain_Book_apartRows_b2 : XCode := (.seq (.seq (.reg [⟨(some 40), .mv (.s 7), none⟩, ⟨(some 41), .mv (.s 3), none⟩, ⟨(some 42), .len false (.s 41), none⟩, ⟨(some 43), .bin .lss (.s 40) (.s 42), none⟩] none [3, 6, 7, 43])
 (.cond (.s 43) .skip (.exit 4 [3, 6])))
 (.seq (.block 5 (.seq (.reg [⟨(some 46), .mv (.s 3), none⟩, ⟨(some 47), .mv (.s 7), none⟩, ⟨(some 48), .iadr 1 (.s 46) (.s 47), none⟩, ⟨(some 49), .load none (.s 48), none⟩, ⟨(some 8), .mv (.s 49), none⟩] none [3, 6, 7, 8])
 (.seq (.seq (.reg [⟨(some 9), .mv (.c (.dat (.int .i64 0))), none⟩] none [3, 6, 7, 8, 9])
 (.block 6 (.loop xf_plain_Book_apartRows_k3 xf_plain_Book_apartRows_b3)))
 (.reg [⟨(some 61), .mv (.s 6), none⟩, ⟨(some 62), .mv (.s 8), none⟩, ⟨(some 63), .bsl 123 1 false 1 [(.nil 127 7 true)] [(0, 1, (.s 62))], none⟩, ⟨(some 64), .app 123 1 24 false (.s 61) (.s 63), none⟩, ⟨(some 6), .mv (.s 64), none⟩] none [3, 6, 7]))))
 (.reg [⟨(some 44), .mv (.s 7), none⟩, ⟨(some 45), .bin .add (.s 44) (.c (.dat (.int .i64 1))), none⟩, ⟨(some 7), .mv (.s 45), none⟩] none [3, 6, 7])))
def xf_plain_Book_apartRows_k5 : List (Nat × Option (Nat × Nat × Bool)) := [(3, some (123, 1, false)), (6, some (123, 1, false)), (10, none), (11, none)]
def xf_plain_Book_apartRows_b5 : XCode := (.seq (.seq (.reg [⟨(some 71), .mv (.s 11), none⟩, ⟨(some 72), .mv (.s 6), none⟩, ⟨(some 73), .mv (.s 10), none⟩, ⟨(some 74), .iadr 1 (.s 72) (.s 73), none⟩, ⟨(some 75), .load none (.s 74), none⟩, ⟨(some 76), .len false (.s 75), none⟩, ⟨(some 77), .bin .lss (.s 71) (.s 76), none⟩] none [3, 6, 10, 11, 77])
 (.cond (.s 77) .skip (.exit 10 [3, 6, 10])))
 (.seq (.block 11 (.seq (.sreg [(⟨(some 80), .mv (.s 6), none⟩, false), (⟨(some 81), .mv (.s 10), none⟩, false), (⟨(some 82), .iadr 1 (.s 80) (.s 81), none⟩, false), (⟨(some 83), .load none (.s 82), none⟩, false), (⟨(some 84), .mv (.s 11), none⟩, false), (⟨(some 85), .iadr 7 (.s 83) (.s 84), none⟩, false), (⟨(some 86), .load (some 7) (.s 85), none⟩, false), (⟨(some 87), .mv (.s 10), none⟩, false), (⟨(some 88), .mv (.s 11), none⟩, false), (⟨(some 89), .call (.c (.fn (.func 70) [] [])) [(.s 87), (.s 88)], none⟩, false), (⟨(some 90), .eqv true true [.i, .i, .i, .b, .i, .i, .s] (.s 86) (.s 89), none⟩, false), (⟨(some 91), .mv (.s 90), none⟩, false), (⟨(some 92), .mv (.s 11), some (91, false)⟩, true), (⟨(some 93), .mv (.s 3), some (91, false)⟩, true), (⟨(some 94), .mv (.s 10), some (91, false)⟩, true), (⟨(some 95), .iadr 1 (.s 93) (.s 94), some (91, false)⟩, false), (⟨(some 96), .load none (.s 95), some (91, false)⟩, false), (⟨(some 97), .len false (.s 96), some (91, false)⟩, false), (⟨(some 98), .bin .lss (.s 92) (.s 97), some (91, false)⟩, false), (⟨(some 99), .mv (.s 98), some (91, false)⟩, false), (⟨(some 100), .mv (.s 3), some (99, true)⟩, true), (⟨(some 101), .mv (.s 10), some (99, true)⟩, true), (⟨(some 102), .iadr 1 (.s 100) (.s 101), some (99, true)⟩, false), (⟨(some 103), .load none (.s 102), some (99, true)⟩, false), (⟨(some 104), .mv (.s 11), some (99, true)⟩, true), (⟨(some 105), .iadr 7 (.s 103) (.s 104), some (99, true)⟩, false), (⟨(some 106), .load (some 7) (.s 105), some (99, true)⟩, false), (⟨(some 107), .mv (.s 10), some (99, true)⟩, true), (⟨(some 108), .mv (.s 11), some (99, true)⟩, true), (⟨(some 109), .call (.c (.fn (.func 70) [] [])) [(.s 107), (.s 108)], some (99, true)⟩, false), (⟨(some 110), .eqv true true [.i, .i, .i, .b, .i, .i, .s] (.s 106) (.s 109), some (99, true)⟩, false), (⟨(some 111), .pick (.s 99) (.s 110) (.c (.dat (.bool false))), some (91, false)⟩, false), (⟨(some 112), .pick (.s 91) (.c (.dat (.bool true))) (.s 111), none⟩, false)] (some [(2, 9), (3, 9), (5, 9), (6, 9), (22, 29), (23, 29), (25, 29), (26, 29)]) [3, 6, 10, 11, 112])
 (.cond (.s 112) (.seq (.reg [⟨(some 2), .mv (.c (.dat (.bool false))), none⟩] none [2])
 (.ret [2])) .skip)))
 (.reg [⟨(some 78), .mv (.s 11), none⟩, ⟨(some 79), .bin .add (.s 78) (.c (.dat (.int .i64 1))), none⟩, ⟨(some 11), .mv (.s 79), none⟩] none [3, 6, 10, 11])))
def xf_plain_Book_apartRows_k4 : List (Nat × Option (Nat × Nat × Bool)) := [(3, some (123, 1, false)), (6, some (123, 1, false)), (10, none)]
def xf_plain_Book_apartRows_b4 : XCode := (.seq (.seq (.reg [⟨(some 65), .mv (.s 10), none⟩, ⟨(some 66), .mv (.s 3), none⟩, ⟨(some 67), .len false (.s 66), none⟩, ⟨(some 68), .bin .lss (.s 65) (.s 67), none⟩] none [3, 6, 10, 68])
 (.cond (.s 68) .skip (.exit 8 [])))
 (.seq (.block 9 (.seq (.reg [⟨(some 11), .mv (.c (.dat (.int .i64 0))), none⟩] none [3, 6, 10, 11])
 (.block 10 (.loop xf_plain_Book_apartRows_k5 xf_plain_Book_apartRows_b5))))
 (.reg [⟨(some 69), .mv (.s 10), none⟩, ⟨(some 70), .bin .add (.s 69) (.c (.dat (.int .i64 1))), none⟩, ⟨(some 10), .mv (.s 70), none⟩] none [3, 6, 10])))
def xf_plain_Book_apartRows : XFunc := ⟨none, false, 1, [.tmp 2], (.seq (.reg [⟨(some 2), .mv (.c (.dat (.bool false))), none⟩] none [0])
 (.seq (.reg [⟨(some 12), .mv (.s 0), none⟩, ⟨(some 13), .nilchk (.s 12), none⟩, ⟨(some 14), .fadr 5 (.s 13), none⟩, ⟨(some 15), .load none (.s 14), none⟩, ⟨(some 3), .mv (.s 15), none⟩] none [3])
 (.seq (.seq (.reg [⟨(some 4), .mv (.c (.dat (.int .i64 0))), none⟩] none [3, 4])
 (.block 0 (.loop xf_plain_Book_apartRows_k0 xf_plain_Book_apartRows_b0)))
 (.seq (.reg [⟨(some 6), .mv (.c (.nil 123 1 false)), none⟩] none [3, 6])
 (.seq (.seq (.reg [⟨(some 7), .mv (.c (.dat (.int .i64 0))), none⟩] none [3, 6, 7])
 (.block 4 (.loop xf_plain_Book_apartRows_k2 xf_plain_Book_apartRows_b2)))
 (.seq (.seq (.reg [⟨(some 10), .mv (.c (.dat (.int .i64 0))), none⟩] none [3, 6, 10])
 (.block 8 (.loop xf_plain_Book_apartRows_k4 xf_plain_Book_apartRows_b4)))
 (.seq (.reg [⟨(some 2), .mv (.c (.dat (.bool true))), none⟩] none [2])
 (.ret [2]))))))))⟩

def xf_plain_Book_apartResults_k1 : List (Nat × Option (Nat × Nat × Bool)) := [(3, some (129, 1, false)), (4, none), (5, none)]
def xf_plain_Book_apartResults_b1 : XCode := (.seq (.seq (.reg [⟨(some 22), .mv (.s 5), none⟩, ⟨(some 23), .mv (.s 3), none⟩, ⟨(some 24), .mv (.s 4), none⟩, ⟨(some 25), .iadr 1 (.s 23) (.s 24), none⟩, ⟨(some 26), .load none (.s 25), none⟩, ⟨(some 27), .len false (.s 26), none⟩, ⟨(some 28), .bin .lss (.s 22) (.s 27), none⟩] none [3, 4, 5, 28])
 (.cond (.s 28) .skip (.exit 2 [3, 4])))
 (.seq (.block 3 (.reg [⟨(some 31), .mv (.s 3), none⟩, ⟨(some 32), .mv (.s 4), none⟩, ⟨(some 33), .iadr 1 (.s 31) (.s 32), none⟩, ⟨(some 34), .load none (.s 33), none⟩, ⟨(some 35), .mv (.s 5), none⟩, ⟨(some 36), .mv (.s 4), none⟩, ⟨(some 37), .mv (.s 5), none⟩, ⟨(some 38), .call (.c (.fn (.func 71) [] [])) [(.s 36), (.s 37)], none⟩, ⟨(some 39), .iadr 3 (.s 34) (.s 35), none⟩, ⟨none, .store 3 (.s 39) (.s 38), none⟩] (some [(2, 7), (3, 7)]) [3, 4, 5]))
 (.reg [⟨(some 29), .mv (.s 5), none⟩, ⟨(some 30), .bin .add (.s 29) (.c (.dat (.int .i64 1))), none⟩, ⟨(some 5), .mv (.s 30), none⟩] none [3, 4, 5])))
def xf_plain_Book_apartResults_k0 : List (Nat × Option (Nat × Nat × Bool)) := [(3, some (129, 1, false)), (4, none)]
def xf_plain_Book_apartResults_b0 : XCode := (.seq (.seq (.reg [⟨(some 16), .mv (.s 4), none⟩, ⟨(some 17), .mv (.s 3), none⟩, ⟨(some 18), .len false (.s 17), none⟩, ⟨(some 19), .bin .lss (.s 16) (.s 18), none⟩] none [3, 4, 19])
 (.cond (.s 19) .skip (.exit 0 [3])))
 (.seq (.block 1 (.seq (.reg [⟨(some 5), .mv (.c (.dat (.int .i64 0))), none⟩] none [3, 4, 5])
 (.block 2 (.loop xf_plain_Book_apartResults_k1 xf_plain_Book_apartResults_b1))))
 (.reg [⟨(some 20), .mv (.s 4), none⟩, ⟨(some 21), .bin .add (.s 20) (.c (.dat (.int .i64 1))), none⟩, ⟨(some 4), .mv (.s 21), none⟩] none [3, 4])))
def xf_plain_Book_apartResults_k3 : List (Nat × Option (Nat × Nat × Bool)) := [(3, some (129, 1, false)), (6, some (129, 1, false)), (7, none), (8, some (125, 3, true)), (9, none)]
def xf_plain_Book_apartResults_b3 : XCode := (.seq (.seq (.reg [⟨(some 50), .mv (.s 9), none⟩, ⟨(some 51), .bin .lss (.s 50) (.c (.dat (.int .i64 70))), none⟩] none [3, 6, 7, 8, 9, 51])
 (.cond (.s 51) .skip (.exit 6 [3, 6, 7, 8])))
 (.seq (.block 7 (.reg [⟨(some 54), .mv (.s 8), none⟩, ⟨(some 55), .mv (.s 7), none⟩, ⟨(some 56), .mv (.s 8), none⟩, ⟨(some 57), .len false (.s 56), none⟩, ⟨(some 58), .call (.c (.fn (.func 71) [] [])) [(.s 55), (.s 57)], none⟩, ⟨(some 59), .bsl 125 3 true 1 [(.dat (.int .i64 0)), (.dat (.int .i64 0)), (.dat (.str ⟨#[]⟩))] [(0, 3, (.s 58))], none⟩, ⟨(some 60), .app 125 3 32 true (.s 54) (.s 59), none⟩, ⟨(some 8), .mv (.s 60), none⟩] none [3, 6, 7, 8, 9]))
 (.reg [⟨(some 52), .mv (.s 9), none⟩, ⟨(some 53), .bin .add (.s 52) (.c (.dat (.int .i64 1))), none⟩, ⟨(some 9), .mv (.s 53), none⟩] none [3, 6, 7, 8, 9])))
def xf_plain_Book_apartResults_k2 : List (Nat × Option (Nat × Nat × Bool)) := [(3, some (129, 1, false)), (6, some (129, 1, false)), (7, none)]
def xf_plain_Book_apartResults_b2 : XCode := (.seq (.seq (.reg [⟨(some 40), .mv (.s 7), none⟩, ⟨(some 41), .mv (.s 3), none⟩, ⟨(some 42), .len false (.s 41), none⟩, ⟨(some 43), .bin .lss (.s 40) (.s 42), none⟩] none [3, 6, 7, 43])
 (.cond (.s 43) .skip (.exit 4 [3, 6])))
 (.seq (.block 5 (.seq (.reg [⟨(some 46), .mv (.s 3), none⟩, ⟨(some 47), .mv (.s 7), none⟩, ⟨(some 48), .iadr 1 (.s 46) (.s 47), none⟩, ⟨(some 49), .load none (.s 48), none⟩, ⟨(some 8), .mv (.s 49), none⟩] none [3, 6, 7, 8])
 (.seq (.seq (.reg [⟨(some 9), .mv (.c (.dat (.int .i64 0))), none⟩] none [3, 6, 7, 8, 9])
 (.block 6 (.loop xf_plain_Book_apartResults_k3 xf_plain_Book_apartResults_b3)))
 (.reg [⟨(some 61), .mv (.s 6), none⟩, ⟨(some 62), .mv (.s 8), none⟩, ⟨(some 63), .bsl 129 1 false 1 [(.nil 125 3 true)] [(0, 1, (.s 62))], none⟩, ⟨(some 64), .app 129 1 24 false (.s 61) (.s 63), none⟩, ⟨(some 6), .mv (.s 64), none⟩] none [3, 6, 7]))))
 (.reg [⟨(some 44), .mv (.s 7), none⟩, ⟨(some 45), .bin .add (.s 44) (.c (.dat (.int .i64 1))), none⟩, ⟨(some 7), .mv (.s 45), none⟩] none [3, 6, 7])))
def xf_plain_Book_apartResults_k5 : List (Nat × Option (Nat × Nat × Bool)) := [(3, some (129, 1, false)), (6, some (129, 1, false)), (10, none), (11, none)]
def xf_plain_Book_apartResults_b5 : XCode := (.seq (.seq (.reg [⟨(some 71), .mv (.s 11), none⟩, ⟨(some 72), .mv (.s 6), none⟩, ⟨(some 73), .mv (.s 10), none⟩, ⟨(some 74), .iadr 1 (.s 72) (.s 73), none⟩, ⟨(some 75), .load none (.s 74), none⟩, ⟨(some 76), .len false (.s 75), none⟩, ⟨(some 77), .bin .lss (.s 71) (.s 76), none⟩] none [3, 6, 10, 11, 77])
 (.cond (.s 77) .skip (.exit 10 [3, 6, 10])))
 (.seq (.block 11 (.seq (.sreg [(⟨(some 80), .mv (.s 6), none⟩, false), (⟨(some 81), .mv (.s 10), none⟩, false), (⟨(some 82), .iadr 1 (.s 80) (.s 81), none⟩, false), (⟨(some 83), .load none (.s 82), none⟩, false), (⟨(some 84), .mv (.s 11), none⟩, false), (⟨(some 85), .iadr 3 (.s 83) (.s 84), none⟩, false), (⟨(some 86), .load (some 3) (.s 85), none⟩, false), (⟨(some 87), .mv (.s 10), none⟩, false), (⟨(some 88), .mv (.s 11), none⟩, false), (⟨(some 89), .call (.c (.fn (.func 71) [] [])) [(.s 87), (.s 88)], none⟩, false), (⟨(some 90), .eqv true true [.i, .i, .s] (.s 86) (.s 89), none⟩, false), (⟨(some 91), .mv (.s 90), none⟩, false), (⟨(some 92), .mv (.s 11), some (91, false)⟩, true), (⟨(some 93), .mv (.s 3), some (91, false)⟩, true), (⟨(some 94), .mv (.s 10), some (91, false)⟩, true), (⟨(some 95), .iadr 1 (.s 93) (.s 94), some (91, false)⟩, false), (⟨(some 96), .load none (.s 95), some (91, false)⟩, false), (⟨(some 97), .len false (.s 96), some (91, false)⟩, false), (⟨(some 98), .bin .lss (.s 92) (.s 97), some (91, false)⟩, false), (⟨(some 99), .mv (.s 98), some (91, false)⟩, false), (⟨(some 100), .mv (.s 3), some (99, true)⟩, true), (⟨(some 101), .mv (.s 10), some (99, true)⟩, true), (⟨(some 102), .iadr 1 (.s 100) (.s 101), some (99, true)⟩, false), (⟨(some 103), .load none (.s 102), some (99, true)⟩, false), (⟨(some 104), .mv (.s 11), some (99, true)⟩, true), (⟨(some 105), .iadr 3 (.s 103) (.s 104), some (99, true)⟩, false), (⟨(some 106), .load (some 3) (.s 105), some (99, true)⟩, false), (⟨(some 107), .mv (.s 10), some (99, true)⟩, true), (⟨(some 108), .mv (.s 11), some (99, true)⟩, true), (⟨(some 109), .call (.c (.fn (.func 71) [] [])) [(.s 107), (.s 108)], some (99, true)⟩, false), (⟨(some 110), .eqv true true [.i, .i, .s] (.s 106) (.s 109), some (99, true)⟩, false), (⟨(some 111), .pick (.s 99) (.s 110) (.c (.dat (.bool false))), some (91, false)⟩, false), (⟨(some 112), .pick (.s 91) (.c (.dat (.bool true))) (.s 111), none⟩, false)] (some [(2, 9), (3, 9), (5, 9), (6, 9), (22, 29), (23, 29), (25, 29), (26, 29)]) [3, 6, 10, 11, 112])
 (.cond (.s 112) (.seq (.reg [⟨(some 2), .mv (.c (.dat (.bool false))), none⟩] none [2])
 (.ret [2])) .skip)))
 (.reg [⟨(some 78), .mv (.s 11), none⟩, ⟨(some 79), .bin .add (.s 78) (.c (.dat (.int .i64 1))), none⟩, ⟨(some 11), .mv (.s 79), none⟩] none [3, 6, 10, 11])))
def xf_plain_Book_apartResults_k4 : List (Nat × Option (Nat × Nat × Bool)) := [(3, some (129, 1, false)), (6, some (129, 1, false)), (10, none)]
def xf_plain_Book_apartResults_b4 : XCode := (.seq (.seq (.reg [⟨(some 65), .mv (.s 10), none⟩, ⟨(some 66), .mv (.s 3), none⟩, ⟨(some 67), .len false (.s 66), none⟩, ⟨(some 68), .bin .lss (.s 65) (.s 67), none⟩] none [3, 6, 10, 68])
 (.cond (.s 68) .skip (.exit 8 [])))
 (.seq (.block 9 (.seq (.reg [⟨(some 11), .mv (.c (.dat (.int .i64 0))), none⟩] none [3, 6, 10, 11])
 (.block 10 (.loop xf_plain_Book_apartResults_k5 xf_plain_Book_apartResults_b5))))
 (.reg [⟨(some 69), .mv (.s 10), none⟩, ⟨(some 70), .bin .add (.s 69) (.c (.dat (.int .i64 1))), none⟩, ⟨(some 10), .mv (.s 70), none⟩] none [3, 6, 10])))
def xf_plain_Book_apartResults : XFunc := ⟨none, false, 1, [.tmp 2], (.seq (.reg [⟨(some 2), .mv (.c (.dat (.bool false))), none⟩] none [0])
 (.seq (.reg [⟨(some 12), .mv (.s 0), none⟩, ⟨(some 13), .nilchk (.s 12), none⟩, ⟨(some 14), .fadr 6 (.s 13), none⟩, ⟨(some 15), .load none (.s 14), none⟩, ⟨(some 3), .mv (.s 15), none⟩] none [3])
 (.seq (.seq (.reg [⟨(some 4), .mv (.c (.dat (.int .i64 0))), none⟩] none [3, 4])
 (.block 0 (.loop xf_plain_Book_apartResults_k0 xf_plain_Book_apartResults_b0)))
 (.seq (.reg [⟨(some 6), .mv (.c (.nil 129 1 false)), none⟩] none [3, 6])
 (.seq (.seq (.reg [⟨(some 7), .mv (.c (.dat (.int .i64 0))), none⟩] none [3, 6, 7])
 (.block 4 (.loop xf_plain_Book_apartResults_k2 xf_plain_Book_apartResults_b2)))
 (.seq (.seq (.reg [⟨(some 10), .mv (.c (.dat (.int .i64 0))), none⟩] none [3, 6, 10])
 (.block 8 (.loop xf_plain_Book_apartResults_k4 xf_plain_Book_apartResults_b4)))
 (.seq (.reg [⟨(some 2), .mv (.c (.dat (.bool true))), none⟩] none [2])
 (.ret [2]))))))))⟩

def xf_plain_Book_apartStamps_k1 : List (Nat × Option (Nat × Nat × Bool)) := [(3, some (131, 1, false)), (4, none), (5, none)]
def xf_plain_Book_apartStamps_b1 : XCode := (.seq (.seq (.reg [⟨(some 22), .mv (.s 5), none⟩, ⟨(some 23), .mv (.s 3), none⟩, ⟨(some 24), .mv (.s 4), none⟩, ⟨(some 25), .iadr 1 (.s 23) (.s 24), none⟩, ⟨(some 26), .load none (.s 25), none⟩, ⟨(some 27), .len false (.s 26), none⟩, ⟨(some 28), .bin .lss (.s 22) (.s 27), none⟩] none [3, 4, 5, 28])
 (.cond (.s 28) .skip (.exit 2 [3, 4])))
 (.seq (.block 3 (.reg [⟨(some 31), .mv (.s 3), none⟩, ⟨(some 32), .mv (.s 4), none⟩, ⟨(some 33), .iadr 1 (.s 31) (.s 32), none⟩, ⟨(some 34), .load none (.s 33), none⟩, ⟨(some 35), .mv (.s 5), none⟩, ⟨(some 36), .mv (.s 4), none⟩, ⟨(some 37), .mv (.s 5), none⟩, ⟨(some 38), .call (.c (.fn (.func 72) [] [])) [(.s 36), (.s 37)], none⟩, ⟨(some 39), .iadr 3 (.s 34) (.s 35), none⟩, ⟨none, .store 3 (.s 39) (.s 38), none⟩] (some [(2, 7), (3, 7)]) [3, 4, 5]))
 (.reg [⟨(some 29), .mv (.s 5), none⟩, ⟨(some 30), .bin .add (.s 29) (.c (.dat (.int .i64 1))), none⟩, ⟨(some 5), .mv (.s 30), none⟩] none [3, 4, 5])))
def xf_plain_Book_apartStamps_k0 : List (Nat × Option (Nat × Nat × Bool)) := [(3, some (131, 1, false)), (4, none)]
def xf_plain_Book_apartStamps_b0 : XCode := (.seq (.seq (.reg [⟨(some 16), .mv (.s 4), none⟩, ⟨(some 17), .mv (.s 3), none⟩, ⟨(some 18), .len false (.s 17), none⟩, ⟨(some 19), .bin .lss (.s 16) (.s 18), none⟩] none [3, 4, 19])
 (.cond (.s 19) .skip (.exit 0 [3])))
 (.seq (.block 1 (.seq (.reg [⟨(some 5), .mv (.c (.dat (.int .i64 0))), none⟩] none [3, 4, 5])
 (.block 2 (.loop xf_plain_Book_apartStamps_k1 xf_plain_Book_apartStamps_b1))))
 (.reg [⟨(some 20), .mv (.s 4), none⟩, ⟨(some 21), .bin .add (.s 20) (.c (.dat (.int .i64 1))), none⟩, ⟨(some 4), .mv (.s 21), none⟩] none [3, 4])))
def xf_plain_Book_apartStamps_k3 : List (Nat × Option (Nat × Nat × Bool)) := [(3, some (131, 1, false)), (6, some (131, 1, false)), (7, none), (8, some (133, 3, true)), (9, none)]
def xf_plain_Book_apartStamps_b3 : XCode := (.seq (.seq (.reg [⟨(some 50), .mv (.s 9), none⟩, ⟨(some 51), .bin .lss (.s 50) (.c (.dat (.int .i64 70))), none⟩] none [3, 6, 7, 8, 9, 51])
 (.cond (.s 51) .skip (.exit 6 [3, 6, 7, 8])))
 (.seq (.block 7 (.reg [⟨(some 54), .mv (.s 8), none⟩, ⟨(some 55), .mv (.s 7), none⟩, ⟨(some 56), .mv (.s 8), none⟩, ⟨(some 57), .len false (.s 56), none⟩, ⟨(some 58), .call (.c (.fn (.func 72) [] [])) [(.s 55), (.s 57)], none⟩, ⟨(some 59), .bsl 133 3 true 1 [(.dat (.int .i64 0)), (.dat (.int .u64 0)), (.dat (.int .u64 0))] [(0, 3, (.s 58))], none⟩, ⟨(some 60), .app 133 3 24 true (.s 54) (.s 59), none⟩, ⟨(some 8), .mv (.s 60), none⟩] none [3, 6, 7, 8, 9]))
 (.reg [⟨(some 52), .mv (.s 9), none⟩, ⟨(some 53), .bin .add (.s 52) (.c (.dat (.int .i64 1))), none⟩, ⟨(some 9), .mv (.s 53), none⟩] none [3, 6, 7, 8, 9])))
def xf_plain_Book_apartStamps_k2 : List (Nat × Option (Nat × Nat × Bool)) := [(3, some (131, 1, false)), (6, some (131, 1, false)), (7, none)]
def xf_plain_Book_apartStamps_b2 : XCode := (.seq (.seq (.reg [⟨(some 40), .mv (.s 7), none⟩, ⟨(some 41), .mv (.s 3), none⟩, ⟨(some 42), .len false (.s 41), none⟩, ⟨(some 43), .bin .lss (.s 40) (.s 42), none⟩] none [3, 6, 7, 43])
 (.cond (.s 43) .skip (.exit 4 [3, 6])))
 (.seq (.block 5 (.seq (.reg [⟨(some 46), .mv (.s 3), none⟩, ⟨(some 47), .mv (.s 7), none⟩, ⟨(some 48), .iadr 1 (.s 46) (.s 47), none⟩, ⟨(some 49), .load none (.s 48), none⟩, ⟨(some 8), .mv (.s 49), none⟩] none [3, 6, 7, 8])
 (.seq (.seq (.reg [⟨(some 9), .mv (.c (.dat (.int .i64 0))), none⟩] none [3, 6, 7, 8, 9])
 (.block 6 (.loop xf_plain_Book_apartStamps_k3 xf_plain_Book_apartStamps_b3)))
 (.reg [⟨(some 61), .mv (.s 6), none⟩, ⟨(some 62), .mv (.s 8), none⟩, ⟨(some 63), .bsl 131 1 false 1 [(.nil 133 3 true)] [(0, 1, (.s 62))], none⟩, ⟨(some 64), .app 131 1 24 false (.s 61) (.s 63), none⟩, ⟨(some 6), .mv (.s 64), none⟩] none [3, 6, 7]))))
 (.reg [⟨(some 44), .mv (.s 7), none⟩, ⟨(some 45), .bin .add (.s 44) (.c (.dat (.int .i64 1))), none⟩, ⟨(some 7), .mv (.s 45), none⟩] none [3, 6, 7])))
def xf_plain_Book_apartStamps_k5 : List (Nat × Option (Nat × Nat × Bool)) := [(3, some (131, 1, false)), (6, some (131, 1, false)), (10, none), (11, none)]
def xf_plain_Book_apartStamps_b5 : XCode := (.seq (.seq (.reg [⟨(some 71), .mv (.s 11), none⟩, ⟨(some 72), .mv (.s 6), none⟩, ⟨(some 73), .mv (.s 10), none⟩, ⟨(some 74), .iadr 1 (.s 72) (.s 73), none⟩, ⟨(some 75), .load none (.s 74), none⟩, ⟨(some 76), .len false (.s 75), none⟩, ⟨(some 77), .bin .lss (.s 71) (.s 76), none⟩] none [3, 6, 10, 11, 77])
 (.cond (.s 77) .skip (.exit 10 [3, 6, 10])))
 (.seq (.block 11 (.seq (.sreg [(⟨(some 80), .mv (.s 6), none⟩, false), (⟨(some 81), .mv (.s 10), none⟩, false), (⟨(some 82), .iadr 1 (.s 80) (.s 81), none⟩, false), (⟨(some 83), .load none (.s 82), none⟩, false), (⟨(some 84), .mv (.s 11), none⟩, false), (⟨(some 85), .iadr 3 (.s 83) (.s 84), none⟩, false), (⟨(some 86), .load (some 3) (.s 85), none⟩, false), (⟨(some 87), .mv (.s 10), none⟩, false), (⟨(some 88), .mv (.s 11), none⟩, false), (⟨(some 89), .call (.c (.fn (.func 72) [] [])) [(.s 87), (.s 88)], none⟩, false), (⟨(some 90), .eqv true true [.i, .i, .i] (.s 86) (.s 89), none⟩, false), (⟨(some 91), .mv (.s 90), none⟩, false), (⟨(some 92), .mv (.s 11), some (91, false)⟩, true), (⟨(some 93), .mv (.s 3), some (91, false)⟩, true), (⟨(some 94), .mv (.s 10), some (91, false)⟩, true), (⟨(some 95), .iadr 1 (.s 93) (.s 94), some (91, false)⟩, false), (⟨(some 96), .load none (.s 95), some (91, false)⟩, false), (⟨(some 97), .len false (.s 96), some (91, false)⟩, false), (⟨(some 98), .bin .lss (.s 92) (.s 97), some (91, false)⟩, false), (⟨(some 99), .mv (.s 98), some (91, false)⟩, false), (⟨(some 100), .mv (.s 3), some (99, true)⟩, true), (⟨(some 101), .mv (.s 10), some (99, true)⟩, true), (⟨(some 102), .iadr 1 (.s 100) (.s 101), some (99, true)⟩, false), (⟨(some 103), .load none (.s 102), some (99, true)⟩, false), (⟨(some 104), .mv (.s 11), some (99, true)⟩, true), (⟨(some 105), .iadr 3 (.s 103) (.s 104), some (99, true)⟩, false), (⟨(some 106), .load (some 3) (.s 105), some (99, true)⟩, false), (⟨(some 107), .mv (.s 10), some (99, true)⟩, true), (⟨(some 108), .mv (.s 11), some (99, true)⟩, true), (⟨(some 109), .call (.c (.fn (.func 72) [] [])) [(.s 107), (.s 108)], some (99, true)⟩, false), (⟨(some 110), .eqv true true [.i, .i, .i] (.s 106) (.s 109), some (99, true)⟩, false), (⟨(some 111), .pick (.s 99) (.s 110) (.c (.dat (.bool false))), some (91, false)⟩, false), (⟨(some 112), .pick (.s 91) (.c (.dat (.bool true))) (.s 111), none⟩, false)] (some [(2, 9), (3, 9), (5, 9), (6, 9), (22, 29), (23, 29), (25, 29), (26, 29)]) [3, 6, 10, 11, 112])
 (.cond (.s 112) (.seq (.reg [⟨(some 2), .mv (.c (.dat (.bool false))), none⟩] none [2])
 (.ret [2])) .skip)))
 (.reg [⟨(some 78), .mv (.s 11), none⟩, ⟨(some 79), .bin .add (.s 78) (.c (.dat (.int .i64 1))), none⟩, ⟨(some 11), .mv (.s 79), none⟩] none [3, 6, 10, 11])))
def xf_plain_Book_apartStamps_k4 : List (Nat × Option (Nat × Nat × Bool)) := [(3, some (131, 1, false)), (6, some (131, 1, false)), (10, none)]
def xf_plain_Book_apartStamps_b4 : XCode := (.seq (.seq (.reg [⟨(some 65), .mv (.s 10), none⟩, ⟨(some 66), .mv (.s 3), none⟩, ⟨(some 67), .len false (.s 66), none⟩, ⟨(some 68), .bin .lss (.s 65) (.s 67), none⟩] none [3, 6, 10, 68])
 (.cond (.s 68) .skip (.exit 8 [])))
 (.seq (.block 9 (.seq (.reg [⟨(some 11), .mv (.c (.dat (.int .i64 0))), none⟩] none [3, 6, 10, 11])
 (.block 10 (.loop xf_plain_Book_apartStamps_k5 xf_plain_Book_apartStamps_b5))))
 (.reg [⟨(some 69), .mv (.s 10), none⟩, ⟨(some 70), .bin .add (.s 69) (.c (.dat (.int .i64 1))), none⟩, ⟨(some 10), .mv (.s 70), none⟩] none [3, 6, 10])))
def xf_plain_Book_apartStamps : XFunc := ⟨none, false, 1, [.tmp 2], (.seq (.reg [⟨(some 2), .mv (.c (.dat (.bool false))), none⟩] none [0])
 (.seq (.reg [⟨(some 12), .mv (.s 0), none⟩, ⟨(some 13), .nilchk (.s 12), none⟩, ⟨(some 14), .fadr 7 (.s 13), none⟩, ⟨(some 15), .load none (.s 14), none⟩, ⟨(some 3), .mv (.s 15), none⟩] none [3])
 (.seq (.seq (.reg [⟨(some 4), .mv (.c (.dat (.int .i64 0))), none⟩] none [3, 4])
 (.block 0 (.loop xf_plain_Book_apartStamps_k0 xf_plain_Book_apartStamps_b0)))
 (.seq (.reg [⟨(some 6), .mv (.c (.nil 131 1 false)), none⟩] none [3, 6])
 (.seq (.seq (.reg [⟨(some 7), .mv (.c (.dat (.int .i64 0))), none⟩] none [3, 6, 7])
 (.block 4 (.loop xf_plain_Book_apartStamps_k2 xf_plain_Book_apartStamps_b2)))
 (.seq (.seq (.reg [⟨(some 10), .mv (.c (.dat (.int .i64 0))), none⟩] none [3, 6, 10])
 (.block 8 (.loop xf_plain_Book_apartStamps_k4 xf_plain_Book_apartStamps_b4)))
 (.seq (.reg [⟨(some 2), .mv (.c (.dat (.bool true))), none⟩] none [2])
 (.ret [2]))))))))⟩

def xf_plain_Book_apartAcks_k1 : List (Nat × Option (Nat × Nat × Bool)) := [(3, some (92, 1, false)), (4, none), (5, none)]
def xf_plain_Book_apartAcks_b1 : XCode := (.seq (.seq (.reg [⟨(some 22), .mv (.s 5), none⟩, ⟨(some 23), .mv (.s 3), none⟩, ⟨(some 24), .mv (.s 4), none⟩, ⟨(some 25), .iadr 1 (.s 23) (.s 24), none⟩, ⟨(some 26), .load none (.s 25), none⟩, ⟨(some 27), .len false (.s 26), none⟩, ⟨(some 28), .bin .lss (.s 22) (.s 27), none⟩] none [3, 4, 5, 28])
 (.cond (.s 28) .skip (.exit 2 [3, 4])))
 (.seq (.block 3 (.reg [⟨(some 31), .mv (.s 3), none⟩, ⟨(some 32), .mv (.s 4), none⟩, ⟨(some 33), .iadr 1 (.s 31) (.s 32), none⟩, ⟨(some 34), .load none (.s 33), none⟩, ⟨(some 35), .mv (.s 5), none⟩, ⟨(some 36), .mv (.s 4), none⟩, ⟨(some 37), .mv (.s 5), none⟩, ⟨(some 38), .call (.c (.fn (.func 73) [] [])) [(.s 36), (.s 37)], none⟩, ⟨(some 39), .iadr 4 (.s 34) (.s 35), none⟩, ⟨none, .store 4 (.s 39) (.s 38), none⟩] (some [(2, 7), (3, 7)]) [3, 4, 5]))
 (.reg [⟨(some 29), .mv (.s 5), none⟩, ⟨(some 30), .bin .add (.s 29) (.c (.dat (.int .i64 1))), none⟩, ⟨(some 5), .mv (.s 30), none⟩] none [3, 4, 5])))
def xf_plain_Book_apartAcks_k0 : List (Nat × Option (Nat × Nat × Bool)) := [(3, some (92, 1, false)), (4, none)]
def xf_plain_Book_apartAcks_b0 : XCode := (.seq (.seq (.reg [⟨(some 16), .mv (.s 4), none⟩, ⟨(some 17), .mv (.s 3), none⟩, ⟨(some 18), .len false (.s 17), none⟩, ⟨(some 19), .bin .lss (.s 16) (.s 18), none⟩] none [3, 4, 19])
 (.cond (.s 19) .skip (.exit 0 [3])))
 (.seq (.block 1 (.seq (.reg [⟨(some 5), .mv (.c (.dat (.int .i64 0))), none⟩] none [3, 4, 5])
 (.block 2 (.loop xf_plain_Book_apartAcks_k1 xf_plain_Book_apartAcks_b1))))
 (.reg [⟨(some 20), .mv (.s 4), none⟩, ⟨(some 21), .bin .add (.s 20) (.c (.dat (.int .i64 1))), none⟩, ⟨(some 4), .mv (.s 21), none⟩] none [3, 4])))
def xf_plain_Book_apartAcks_k3 : List (Nat × Option (Nat × Nat × Bool)) := [(3, some (92, 1, false)), (6, some (92, 1, false)), (7, none), (8, some (136, 4, true)), (9, none)]
def xf_plain_Book_apartAcks_b3 : XCode := (.seq (.seq (.reg [⟨(some 50), .mv (.s 9), none⟩, ⟨(some 51), .bin .lss (.s 50) (.c (.dat (.int .i64 70))), none⟩] none [3, 6, 7, 8, 9, 51])
 (.cond (.s 51) .skip (.exit 6 [3, 6, 7, 8])))
 (.seq (.block 7 (.reg [⟨(some 54), .mv (.s 8), none⟩, ⟨(some 55), .mv (.s 7), none⟩, ⟨(some 56), .mv (.s 8), none⟩, ⟨(some 57), .len false (.s 56), none⟩, ⟨(some 58), .call (.c (.fn (.func 73) [] [])) [(.s 55), (.s 57)], none⟩, ⟨(some 59), .bsl 136 4 true 1 [(.dat (.int .i64 0)), (.dat (.int .u64 0)), (.dat (.int .u64 0)), (.dat (.int .i64 0))] [(0, 4, (.s 58))], none⟩, ⟨(some 60), .app 136 4 32 true (.s 54) (.s 59), none⟩, ⟨(some 8), .mv (.s 60), none⟩] none [3, 6, 7, 8, 9]))
 (.reg [⟨(some 52), .mv (.s 9), none⟩, ⟨(some 53), .bin .add (.s 52) (.c (.dat (.int .i64 1))), none⟩, ⟨(some 9), .mv (.s 53), none⟩] none [3, 6, 7, 8, 9])))
def xf_plain_Book_apartAcks_k2 : List (Nat × Option (Nat × Nat × Bool)) := [(3, some (92, 1, false)), (6, some (92, 1, false)), (7, none)]
def xf_plain_Book_apartAcks_b2 : XCode := (.seq (.seq (.reg [⟨(some 40), .mv (.s 7), none⟩, ⟨(some 41), .mv (.s 3), none⟩, ⟨(some 42), .len false (.s 41), none⟩, ⟨(some 43), .bin .lss (.s 40) (.s 42), none⟩] none [3, 6, 7, 43])
 (.cond (.s 43) .skip (.exit 4 [3, 6])))
 (.seq (.block 5 (.seq (.reg [⟨(some 46), .mv (.s 3), none⟩, ⟨(some 47), .mv (.s 7), none⟩, ⟨(some 48), .iadr 1 (.s 46) (.s 47), none⟩, ⟨(some 49), .load none (.s 48), none⟩, ⟨(some 8), .mv (.s 49), none⟩] none [3, 6, 7, 8])
 (.seq (.seq (.reg [⟨(some 9), .mv (.c (.dat (.int .i64 0))), none⟩] none [3, 6, 7, 8, 9])
 (.block 6 (.loop xf_plain_Book_apartAcks_k3 xf_plain_Book_apartAcks_b3)))
 (.reg [⟨(some 61), .mv (.s 6), none⟩, ⟨(some 62), .mv (.s 8), none⟩, ⟨(some 63), .bsl 92 1 false 1 [(.nil 136 4 true)] [(0, 1, (.s 62))], none⟩, ⟨(some 64), .app 92 1 24 false (.s 61) (.s 63), none⟩, ⟨(some 6), .mv (.s 64), none⟩] none [3, 6, 7]))))
 (.reg [⟨(some 44), .mv (.s 7), none⟩, ⟨(some 45), .bin .add (.s 44) (.c (.dat (.int .i64 1))), none⟩, ⟨(some 7), .mv (.s 45), none⟩] none [3, 6, 7])))
def xf_plain_Book_apartAcks_k5 : List (Nat × Option (Nat × Nat × Bool)) := [(3, some (92, 1, false)), (6, some (92, 1, false)), (10, none), (11, none)]
def xf_plain_Book_apartAcks_b5 : XCode := (.seq (.seq (.reg [⟨(some 71), .mv (.s 11), none⟩, ⟨(some 72), .mv (.s 6), none⟩, ⟨(some 73), .mv (.s 10), none⟩, ⟨(some 74), .iadr 1 (.s 72) (.s 73), none⟩, ⟨(some 75), .load none (.s 74), none⟩, ⟨(some 76), .len false (.s 75), none⟩, ⟨(some 77), .bin .lss (.s 71) (.s 76), none⟩] none [3, 6, 10, 11, 77])
 (.cond (.s 77) .skip (.exit 10 [3, 6, 10])))
 (.seq (.block 11 (.seq (.sreg [(⟨(some 80), .mv (.s 6), none⟩, false), (⟨(some 81), .mv (.s 10), none⟩, false), (⟨(some 82), .iadr 1 (.s 80) (.s 81), none⟩, false), (⟨(some 83), .load none (.s 82), none⟩, false), (⟨(some 84), .mv (.s 11), none⟩, false), (⟨(some 85), .iadr 4 (.s 83) (.s 84), none⟩, false), (⟨(some 86), .load (some 4) (.s 85), none⟩, false), (⟨(some 87), .mv (.s 10), none⟩, false), (⟨(some 88), .mv (.s 11), none⟩, false), (⟨(some 89), .call (.c (.fn (.func 73) [] [])) [(.s 87), (.s 88)], none⟩, false), (⟨(some 90), .eqv true true [.i, .i, .i, .i] (.s 86) (.s 89), none⟩, false), (⟨(some 91), .mv (.s 90), none⟩, false), (⟨(some 92), .mv (.s 11), some (91, false)⟩, true), (⟨(some 93), .mv (.s 3), some (91, false)⟩, true), (⟨(some 94), .mv (.s 10), some (91, false)⟩, true), (⟨(some 95), .iadr 1 (.s 93) (.s 94), some (91, false)⟩, false), (⟨(some 96), .load none (.s 95), some (91, false)⟩, false), (⟨(some 97), .len false (.s 96), some (91, false)⟩, false), (⟨(some 98), .bin .lss (.s 92) (.s 97), some (91, false)⟩, false), (⟨(some 99), .mv (.s 98), some (91, false)⟩, false), (⟨(some 100), .mv (.s 3), some (99, true)⟩, true), (⟨(some 101), .mv (.s 10), some (99, true)⟩, true), (⟨(some 102), .iadr 1 (.s 100) (.s 101), some (99, true)⟩, false), (⟨(some 103), .load none (.s 102), some (99, true)⟩, false), (⟨(some 104), .mv (.s 11), some (99, true)⟩, true), (⟨(some 105), .iadr 4 (.s 103) (.s 104), some (99, true)⟩, false), (⟨(some 106), .load (some 4) (.s 105), some (99, true)⟩, false), (⟨(some 107), .mv (.s 10), some (99, true)⟩, true), (⟨(some 108), .mv (.s 11), some (99, true)⟩, true), (⟨(some 109), .call (.c (.fn (.func 73) [] [])) [(.s 107), (.s 108)], some (99, true)⟩, false), (⟨(some 110), .eqv true true [.i, .i, .i, .i] (.s 106) (.s 109), some (99, true)⟩, false), (⟨(some 111), .pick (.s 99) (.s 110) (.c (.dat (.bool false))), some (91, false)⟩, false), (⟨(some 112), .pick (.s 91) (.c (.dat (.bool true))) (.s 111), none⟩, false)] (some [(2, 9), (3, 9), (5, 9), (6, 9), (22, 29), (23, 29), (25, 29), (26, 29)]) [3, 6, 10, 11, 112])
 (.cond (.s 112) (.seq (.reg [⟨(some 2), .mv (.c (.dat (.bool false))), none⟩] none [2])
 (.ret [2])) .skip)))
 (.reg [⟨(some 78), .mv (.s 11), none⟩, ⟨(some 79), .bin .add (.s 78) (.c (.dat (.int .i64 1))), none⟩, ⟨(some 11), .mv (.s 79), none⟩] none [3, 6, 10, 11])))
def xf_plain_Book_apartAcks_k4 : List (Nat × Option (Nat × Nat × Bool)) := [(3, some (92, 1, false)), (6, some (92, 1, false)), (10, none)]
def xf_plain_Book_apartAcks_b4 : XCode := (.seq (.seq (.reg [⟨(some 65), .mv (.s 10), none⟩, ⟨(some 66), .mv (.s 3), none⟩, ⟨(some 67), .len false (.s 66), none⟩, ⟨(some 68), .bin .lss (.s 65) (.s 67), none⟩] none [3, 6, 10, 68])
 (.cond (.s 68) .skip (.exit 8 [])))
 (.seq (.block 9 (.seq (.reg [⟨(some 11), .mv (.c (.dat (.int .i64 0))), none⟩] none [3, 6, 10, 11])
 (.block 10 (.loop xf_plain_Book_apartAcks_k5 xf_plain_Book_apartAcks_b5))))
 (.reg [⟨(some 69), .mv (.s 10), none⟩, ⟨(some 70), .bin .add (.s 69) (.c (.dat (.int .i64 1))), none⟩, ⟨(some 10), .mv (.s 70), none⟩] none [3, 6, 10])))
def xf_plain_Book_apartAcks : XFunc := ⟨none, false, 1, [.tmp 2], (.seq (.reg [⟨(some 2), .mv (.c (.dat (.bool false))), none⟩] none [0])
 (.seq (.reg [⟨(some 12), .mv (.s 0), none⟩, ⟨(some 13), .nilchk (.s 12), none⟩, ⟨(some 14), .fadr 8 (.s 13), none⟩, ⟨(some 15), .load none (.s 14), none⟩, ⟨(some 3), .mv (.s 15), none⟩] none [3])
 (.seq (.seq (.reg [⟨(some 4), .mv (.c (.dat (.int .i64 0))), none⟩] none [3, 4])
 (.block 0 (.loop xf_plain_Book_apartAcks_k0 xf_plain_Book_apartAcks_b0)))
 (.seq (.reg [⟨(some 6), .mv (.c (.nil 92 1 false)), none⟩] none [3, 6])
 (.seq (.seq (.reg [⟨(some 7), .mv (.c (.dat (.int .i64 0))), none⟩] none [3, 6, 7])
 (.block 4 (.loop xf_plain_Book_apartAcks_k2 xf_plain_Book_apartAcks_b2)))
 (.seq (.seq (.reg [⟨(some 10), .mv (.c (.dat (.int .i64 0))), none⟩] none [3, 6, 10])
 (.block 8 (.loop xf_plain_Book_apartAcks_k4 xf_plain_Book_apartAcks_b4)))
 (.seq (.reg [⟨(some 2), .mv (.c (.dat (.bool true))), none⟩] none [2])
 (.ret [2]))))))))⟩

def xf_plain_Book_apartMarks_k1 : List (Nat × Option (Nat × Nat × Bool)) := [(3, some (93, 1, false)), (4, none), (5, none)]
def xf_plain_Book_apartMarks_b1 : XCode := (.seq (.seq (.reg [⟨(some 22), .mv (.s 5), none⟩, ⟨(some 23), .mv (.s 3), none⟩, ⟨(some 24), .mv (.s 4), none⟩, ⟨(some 25), .iadr 1 (.s 23) (.s 24), none⟩, ⟨(some 26), .load none (.s 25), none⟩, ⟨(some 27), .len false (.s 26), none⟩, ⟨(some 28), .bin .lss (.s 22) (.s 27), none⟩] none [3, 4, 5, 28])
 (.cond (.s 28) .skip (.exit 2 [3, 4])))
 (.seq (.block 3 (.reg [⟨(some 31), .mv (.s 3), none⟩, ⟨(some 32), .mv (.s 4), none⟩, ⟨(some 33), .iadr 1 (.s 31) (.s 32), none⟩, ⟨(some 34), .load none (.s 33), none⟩, ⟨(some 35), .mv (.s 5), none⟩, ⟨(some 36), .mv (.s 4), none⟩, ⟨(some 37), .mv (.s 5), none⟩, ⟨(some 38), .call (.c (.fn (.func 74) [] [])) [(.s 36), (.s 37)], none⟩, ⟨(some 39), .iadr 3 (.s 34) (.s 35), none⟩, ⟨none, .store 3 (.s 39) (.s 38), none⟩] (some [(2, 7), (3, 7)]) [3, 4, 5]))
 (.reg [⟨(some 29), .mv (.s 5), none⟩, ⟨(some 30), .bin .add (.s 29) (.c (.dat (.int .i64 1))), none⟩, ⟨(some 5), .mv (.s 30), none⟩] none [3, 4, 5])))
def xf_plain_Book_apartMarks_k0 : List (Nat × Option (Nat × Nat × Bool)) := [(3, some (93, 1, false)), (4, none)]
def xf_plain_Book_apartMarks_b0 : XCode := (.seq (.seq (.reg [⟨(some 16), .mv (.s 4), none⟩, ⟨(some 17), .mv (.s 3), none⟩, ⟨(some 18), .len false (.s 17), none⟩, ⟨(some 19), .bin .lss (.s 16) (.s 18), none⟩] none [3, 4, 19])
 (.cond (.s 19) .skip (.exit 0 [3])))
 (.seq (.block 1 (.seq (.reg [⟨(some 5), .mv (.c (.dat (.int .i64 0))), none⟩] none [3, 4, 5])
 (.block 2 (.loop xf_plain_Book_apartMarks_k1 xf_plain_Book_apartMarks_b1))))
 (.reg [⟨(some 20), .mv (.s 4), none⟩, ⟨(some 21), .bin .add (.s 20) (.c (.dat (.int .i64 1))), none⟩, ⟨(some 4), .mv (.s 21), none⟩] none [3, 4])))
def xf_plain_Book_apartMarks_k3 : List (Nat × Option (Nat × Nat × Bool)) := [(3, some (93, 1, false)), (6, some (93, 1, false)), (7, none), (8, some (138, 3, true)), (9, none)]
def xf_plain_Book_apartMarks_b3 : XCode := (.seq (.seq (.reg [⟨(some 50), .mv (.s 9), none⟩, ⟨(some 51), .bin .lss (.s 50) (.c (.dat (.int .i64 70))), none⟩] none [3, 6, 7, 8, 9, 51])
 (.cond (.s 51) .skip (.exit 6 [3, 6, 7, 8])))
 (.seq (.block 7 (.reg [⟨(some 54), .mv (.s 8), none⟩, ⟨(some 55), .mv (.s 7), none⟩, ⟨(some 56), .mv (.s 8), none⟩, ⟨(some 57), .len false (.s 56), none⟩, ⟨(some 58), .call (.c (.fn (.func 74) [] [])) [(.s 55), (.s 57)], none⟩, ⟨(some 59), .bsl 138 3 true 1 [(.dat (.int .i64 0)), (.dat (.int .u64 0)), (.dat (.int .u64 0))] [(0, 3, (.s 58))], none⟩, ⟨(some 60), .app 138 3 24 true (.s 54) (.s 59), none⟩, ⟨(some 8), .mv (.s 60), none⟩] none [3, 6, 7, 8, 9]))
 (.reg [⟨(some 52), .mv (.s 9), none⟩, ⟨(some 53), .bin .add (.s 52) (.c (.dat (.int .i64 1))), none⟩, ⟨(some 9), .mv (.s 53), none⟩] none [3, 6, 7, 8, 9])))
def xf_plain_Book_apartMarks_k2 : List (Nat × Option (Nat × Nat × Bool)) := [(3, some (93, 1, false)), (6, some (93, 1, false)), (7, none)]
def xf_plain_Book_apartMarks_b2 : XCode := (.seq (.seq (.reg [⟨(some 40), .mv (.s 7), none⟩, ⟨(some 41), .mv (.s 3), none⟩, ⟨(some 42), .len false (.s 41), none⟩, ⟨(some 43), .bin .lss (.s 40) (.s 42), none⟩] none [3, 6, 7, 43])
 (.cond (.s 43) .skip (.exit 4 [3, 6])))
 (.seq (.block 5 (.seq (.reg [⟨(some 46), .mv (.s 3), none⟩, ⟨(some 47), .mv (.s 7), none⟩, ⟨(some 48), .iadr 1 (.s 46) (.s 47), none⟩, ⟨(some 49), .load none (.s 48), none⟩, ⟨(some 8), .mv (.s 49), none⟩] none [3, 6, 7, 8])
 (.seq (.seq (.reg [⟨(some 9), .mv (.c (.dat (.int .i64 0))), none⟩] none [3, 6, 7, 8, 9])
 (.block 6 (.loop xf_plain_Book_apartMarks_k3 xf_plain_Book_apartMarks_b3)))
 (.reg [⟨(some 61), .mv (.s 6), none⟩, ⟨(some 62), .mv (.s 8), none⟩, ⟨(some 63), .bsl 93 1 false 1 [(.nil 138 3 true)] [(0, 1, (.s 62))], none⟩, ⟨(some 64), .app 93 1 24 false (.s 61) (.s 63), none⟩, ⟨(some 6), .mv (.s 64), none⟩] none [3, 6, 7]))))
 (.reg [⟨(some 44), .mv (.s 7), none⟩, ⟨(some 45), .bin .add (.s 44) (.c (.dat (.int .i64 1))), none⟩, ⟨(some 7), .mv (.s 45), none⟩] none [3, 6, 7])))
def xf_plain_Book_apartMarks_k5 : List (Nat × Option (Nat × Nat × Bool)) := [(3, some (93, 1, false)), (6, some (93, 1, false)), (10, none), (11, none)]
def xf_plain_Book_apartMarks_b5 : XCode := (.seq (.seq (.reg [⟨(some 71), .mv (.s 11), none⟩, ⟨(some 72), .mv (.s 6), none⟩, ⟨(some 73), .mv (.s 10), none⟩, ⟨(some 74), .iadr 1 (.s 72) (.s 73), none⟩, ⟨(some 75), .load none (.s 74), none⟩, ⟨(some 76), .len false (.s 75), none⟩, ⟨(some 77), .bin .lss (.s 71) (.s 76), none⟩] none [3, 6, 10, 11, 77])
 (.cond (.s 77) .skip (.exit 10 [3, 6, 10])))
 (.seq (.block 11 (.seq (.sreg [(⟨(some 80), .mv (.s 6), none⟩, false), (⟨(some 81), .mv (.s 10), none⟩, false), (⟨(some 82), .iadr 1 (.s 80) (.s 81), none⟩, false), (⟨(some 83), .load none (.s 82), none⟩, false), (⟨(some 84), .mv (.s 11), none⟩, false), (⟨(some 85), .iadr 3 (.s 83) (.s 84), none⟩, false), (⟨(some 86), .load (some 3) (.s 85), none⟩, false), (⟨(some 87), .mv (.s 10), none⟩, false), (⟨(some 88), .mv (.s 11), none⟩, false), (⟨(some 89), .call (.c (.fn (.func 74) [] [])) [(.s 87), (.s 88)], none⟩, false), (⟨(some 90), .eqv true true [.i, .i, .i] (.s 86) (.s 89), none⟩, false), (⟨(some 91), .mv (.s 90), none⟩, false), (⟨(some 92), .mv (.s 11), some (91, false)⟩, true), (⟨(some 93), .mv (.s 3), some (91, false)⟩, true), (⟨(some 94), .mv (.s 10), some (91, false)⟩, true), (⟨(some 95), .iadr 1 (.s 93) (.s 94), some (91, false)⟩, false), (⟨(some 96), .load none (.s 95), some (91, false)⟩, false), (⟨(some 97), .len false (.s 96), some (91, false)⟩, false), (⟨(some 98), .bin .lss (.s 92) (.s 97), some (91, false)⟩, false), (⟨(some 99), .mv (.s 98), some (91, false)⟩, false), (⟨(some 100), .mv (.s 3), some (99, true)⟩, true), (⟨(some 101), .mv (.s 10), some (99, true)⟩, true), (⟨(some 102), .iadr 1 (.s 100) (.s 101), some (99, true)⟩, false), (⟨(some 103), .load none (.s 102), some (99, true)⟩, false), (⟨(some 104), .mv (.s 11), some (99, true)⟩, true), (⟨(some 105), .iadr 3 (.s 103) (.s 104), some (99, true)⟩, false), (⟨(some 106), .load (some 3) (.s 105), some (99, true)⟩, false), (⟨(some 107), .mv (.s 10), some (99, true)⟩, true), (⟨(some 108), .mv (.s 11), some (99, true)⟩, true), (⟨(some 109), .call (.c (.fn (.func 74) [] [])) [(.s 107), (.s 108)], some (99, true)⟩, false), (⟨(some 110), .eqv true true [.i, .i, .i] (.s 106) (.s 109), some (99, true)⟩, false), (⟨(some 111), .pick (.s 99) (.s 110) (.c (.dat (.bool false))), some (91, false)⟩, false), (⟨(some 112), .pick (.s 91) (.c (.dat (.bool true))) (.s 111), none⟩, false)] (some [(2, 9), (3, 9), (5, 9), (6, 9), (22, 29), (23, 29), (25, 29), (26, 29)]) [3, 6, 10, 11, 112])
 (.cond (.s 112) (.seq (.reg [⟨(some 2), .mv (.c (.dat (.bool false))), none⟩] none [2])
 (.ret [2])) .skip)))
 (.reg [⟨(some 78), .mv (.s 11), none⟩, ⟨(some 79), .bin .add (.s 78) (.c (.dat (.int .i64 1))), none⟩, ⟨(some 11), .mv (.s 79), none⟩] none [3, 6, 10, 11])))
def xf_plain_Book_apartMarks_k4 : List (Nat × Option (Nat × Nat × Bool)) := [(3, some (93, 1, false)), (6, some (93, 1, false)), (10, none)]
def xf_plain_Book_apartMarks_b4 : XCode := (.seq (.seq (.reg [⟨(some 65), .mv (.s 10), none⟩, ⟨(some 66), .mv (.s 3), none⟩, ⟨(some 67), .len false (.s 66), none⟩, ⟨(some 68), .bin .lss (.s 65) (.s 67), none⟩] none [3, 6, 10, 68])
 (.cond (.s 68) .skip (.exit 8 [])))
 (.seq (.block 9 (.seq (.reg [⟨(some 11), .mv (.c (.dat (.int .i64 0))), none⟩] none [3, 6, 10, 11])
 (.block 10 (.loop xf_plain_Book_apartMarks_k5 xf_plain_Book_apartMarks_b5))))
 (.reg [⟨(some 69), .mv (.s 10), none⟩, ⟨(some 70), .bin .add (.s 69) (.c (.dat (.int .i64 1))), none⟩, ⟨(some 10), .mv (.s 70), none⟩] none [3, 6, 10])))
def xf_plain_Book_apartMarks : XFunc := ⟨none, false, 1, [.tmp 2], (.seq (.reg [⟨(some 2), .mv (.c (.dat (.bool false))), none⟩] none [0])
 (.seq (.reg [⟨(some 12), .mv (.s 0), none⟩, ⟨(some 13), .nilchk (.s 12), none⟩, ⟨(some 14), .fadr 9 (.s 13), none⟩, ⟨(some 15), .load none (.s 14), none⟩, ⟨(some 3), .mv (.s 15), none⟩] none [3])
 (.seq (.seq (.reg [⟨(some 4), .mv (.c (.dat (.int .i64 0))), none⟩] none [3, 4])
 (.block 0 (.loop xf_plain_Book_apartMarks_k0 xf_plain_Book_apartMarks_b0)))
 (.seq (.reg [⟨(some 6), .mv (.c (.nil 93 1 false)), none⟩] none [3, 6])
 (.seq (.seq (.reg [⟨(some 7), .mv (.c (.dat (.int .i64 0))), none⟩] none [3, 6, 7])
 (.block 4 (.loop xf_plain_Book_apartMarks_k2 xf_plain_Book_apartMarks_b2)))
 (.seq (.seq (.reg [⟨(some 10), .mv (.c (.dat (.int .i64 0))), none⟩] none [3, 6, 10])
 (.block 8 (.loop xf_plain_Book_apartMarks_k4 xf_plain_Book_apartMarks_b4)))
 (.seq (.reg [⟨(some 2), .mv (.c (.dat (.bool true))), none⟩] none [2])
 (.ret [2]))))))))⟩

def xf_plain_sameAcks_k0 : List (Nat × Option (Nat × Nat × Bool)) := [(0, none), (1, none), (5, none)]
def xf_plain_sameAcks_b0 : XCode := (.seq (.seq (.reg [⟨(some 11), .mv (.s 5), none⟩, ⟨(some 12), .mv (.s 0), none⟩, ⟨(some 13), .len false (.s 12), none⟩, ⟨(some 14), .bin .lss (.s 11) (.s 13), none⟩] none [0, 1, 5, 14])
 (.cond (.s 14) .skip (.exit 0 [])))
 (.seq (.block 1 (.seq (.reg [⟨(some 17), .mv (.s 0), none⟩, ⟨(some 18), .mv (.s 5), none⟩, ⟨(some 19), .iadr 4 (.s 17) (.s 18), none⟩, ⟨(some 20), .load (some 4) (.s 19), none⟩, ⟨(some 21), .mv (.s 1), none⟩, ⟨(some 22), .mv (.s 5), none⟩, ⟨(some 23), .iadr 4 (.s 21) (.s 22), none⟩, ⟨(some 24), .load (some 4) (.s 23), none⟩, ⟨(some 25), .eqv true true [.i, .i, .i, .i] (.s 20) (.s 24), none⟩] (some []) [0, 1, 5, 25])
 (.cond (.s 25) (.seq (.reg [⟨(some 4), .mv (.c (.dat (.bool false))), none⟩] none [4])
 (.ret [4])) .skip)))
 (.reg [⟨(some 15), .mv (.s 5), none⟩, ⟨(some 16), .bin .add (.s 15) (.c (.dat (.int .i64 1))), none⟩, ⟨(some 5), .mv (.s 16), none⟩] none [0, 1, 5])))
def xf_plain_sameAcks : XFunc := ⟨none, true, 2, [.tmp 4], (.seq (.reg [⟨(some 4), .mv (.c (.dat (.bool false))), none⟩] none [0, 1])
 (.seq (.seq (.reg [⟨(some 6), .mv (.s 0), none⟩, ⟨(some 7), .len false (.s 6), none⟩, ⟨(some 8), .mv (.s 1), none⟩, ⟨(some 9), .len false (.s 8), none⟩, ⟨(some 10), .eqv true false [.i] (.s 7) (.s 9), none⟩] none [0, 1, 10])
 (.cond (.s 10) (.seq (.reg [⟨(some 4), .mv (.c (.dat (.bool false))), none⟩] none [4])
 (.ret [4])) .skip))
 (.seq (.seq (.reg [⟨(some 5), .mv (.c (.dat (.int .i64 0))), none⟩] none [0, 1, 5])
 (.block 0 (.loop xf_plain_sameAcks_k0 xf_plain_sameAcks_b0)))
 (.seq (.reg [⟨(some 4), .mv (.c (.dat (.bool true))), none⟩] none [4])
 (.ret [4])))))⟩

def xf_plain_sameMarks_k0 : List (Nat × Option (Nat × Nat × Bool)) := [(0, none), (1, none), (5, none)]
def xf_plain_sameMarks_b0 : XCode := (.seq (.seq (.reg [⟨(some 11), .mv (.s 5), none⟩, ⟨(some 12), .mv (.s 0), none⟩, ⟨(some 13), .len false (.s 12), none⟩, ⟨(some 14), .bin .lss (.s 11) (.s 13), none⟩] none [0, 1, 5, 14])
 (.cond (.s 14) .skip (.exit 0 [])))
 (.seq (.block 1 (.seq (.reg [⟨(some 17), .mv (.s 0), none⟩, ⟨(some 18), .mv (.s 5), none⟩, ⟨(some 19), .iadr 3 (.s 17) (.s 18), none⟩, ⟨(some 20), .load (some 3) (.s 19), none⟩, ⟨(some 21), .mv (.s 1), none⟩, ⟨(some 22), .mv (.s 5), none⟩, ⟨(some 23), .iadr 3 (.s 21) (.s 22), none⟩, ⟨(some 24), .load (some 3) (.s 23), none⟩, ⟨(some 25), .eqv true true [.i, .i, .i] (.s 20) (.s 24), none⟩] (some []) [0, 1, 5, 25])
 (.cond (.s 25) (.seq (.reg [⟨(some 4), .mv (.c (.dat (.bool false))), none⟩] none [4])
 (.ret [4])) .skip)))
 (.reg [⟨(some 15), .mv (.s 5), none⟩, ⟨(some 16), .bin .add (.s 15) (.c (.dat (.int .i64 1))), none⟩, ⟨(some 5), .mv (.s 16), none⟩] none [0, 1, 5])))
def xf_plain_sameMarks : XFunc := ⟨none, true, 2, [.tmp 4], (.seq (.reg [⟨(some 4), .mv (.c (.dat (.bool false))), none⟩] none [0, 1])
 (.seq (.seq (.reg [⟨(some 6), .mv (.s 0), none⟩, ⟨(some 7), .len false (.s 6), none⟩, ⟨(some 8), .mv (.s 1), none⟩, ⟨(some 9), .len false (.s 8), none⟩, ⟨(some 10), .eqv true false [.i] (.s 7) (.s 9), none⟩] none [0, 1, 10])
 (.cond (.s 10) (.seq (.reg [⟨(some 4), .mv (.c (.dat (.bool false))), none⟩] none [4])
 (.ret [4])) .skip))
 (.seq (.seq (.reg [⟨(some 5), .mv (.c (.dat (.int .i64 0))), none⟩] none [0, 1, 5])
 (.block 0 (.loop xf_plain_sameMarks_k0 xf_plain_sameMarks_b0)))
 (.seq (.reg [⟨(some 4), .mv (.c (.dat (.bool true))), none⟩] none [4])
 (.ret [4])))))⟩
theorem r_plain_Book_apartInts : progT Try.prog 51 = some xf_plain_Book_apartInts.plain := by kernel_rfl
theorem r_plain_Book_apartVector : progT Try.prog 52 = some xf_plain_Book_apartVector.plain := by kernel_rfl
theorem r_plain_Book_apartEntries : progT Try.prog 53 = some xf_plain_Book_apartEntries.plain := by kernel_rfl
theorem r_plain_Book_apartCells : progT Try.prog 54 = some xf_plain_Book_apartCells.plain := by kernel_rfl
theorem r_plain_Book_apartRows : progT Try.prog 55 = some xf_plain_Book_apartRows.plain := by kernel_rfl
theorem r_plain_Book_apartResults : progT Try.prog 56 = some xf_plain_Book_apartResults.plain := by kernel_rfl
theorem r_plain_Book_apartStamps : progT Try.prog 57 = some xf_plain_Book_apartStamps.plain := by kernel_rfl
theorem r_plain_Book_apartAcks : progT Try.prog 58 = some xf_plain_Book_apartAcks.plain := by kernel_rfl
theorem r_plain_Book_apartMarks : progT Try.prog 59 = some xf_plain_Book_apartMarks.plain := by kernel_rfl
theorem r_plain_sameAcks : progT Try.prog 60 = some xf_plain_sameAcks.plain := by kernel_rfl
theorem r_plain_sameMarks : progT Try.prog 61 = some xf_plain_sameMarks.plain := by kernel_rfl

end Go.Ax
