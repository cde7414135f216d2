/-
  The functions of this seat as resolved code, and that the program resolves to them (part 2).
-/
import Derived.Test.YtbkbnhpadkkcaaaXComp
import Derived.Test.YtbkbnhpadkkcaaaXFn
import Derived.Test.YtbkbnhpadkkcaaaProg
import Derived.KernelRfl
namespace Go.Ax
open Go.Proofs

def xf_ref03_Merge_k0 : List (Nat × Option (Nat × Nat × Bool)) := [(0, none), (4, none)]
def xf_ref03_Merge_b0 : XCode := (.seq (.seq (.reg [⟨(some 12), .mv (.s 4), none⟩, ⟨(some 13), .mv (.s 0), none⟩, ⟨(some 14), .len false (.s 13), none⟩, ⟨(some 15), .bin .lss (.s 12) (.s 14), none⟩] none [0, 4, 15])
 (.cond (.s 15) .skip (.exit 0 [0])))
 (.seq (.block 1 (.seq (.sreg [(⟨(some 18), .mv (.s 0), none⟩, false), (⟨(some 19), .mv (.s 4), none⟩, false), (⟨(some 20), .iadr 1 (.s 18) (.s 19), none⟩, false), (⟨(some 21), .load none (.s 20), none⟩, false), (⟨(some 22), .call (.c (.fn (.func 39) [] [])) [(.s 21)], none⟩, false), (⟨(some 23), .not (.s 22), none⟩, false), (⟨(some 24), .mv (.s 23), none⟩, false), (⟨(some 25), .mv (.s 0), some (24, false)⟩, true), (⟨(some 26), .mv (.s 4), some (24, false)⟩, true), (⟨(some 27), .iadr 1 (.s 25) (.s 26), some (24, false)⟩, false), (⟨(some 28), .load none (.s 27), some (24, false)⟩, false), (⟨(some 29), .len false (.s 28), some (24, false)⟩, false), (⟨(some 30), .mv (.s 0), some (24, false)⟩, true), (⟨(some 31), .iadr 1 (.s 30) (.c (.dat (.int .i64 0))), some (24, false)⟩, false), (⟨(some 32), .load none (.s 31), some (24, false)⟩, false), (⟨(some 33), .len false (.s 32), some (24, false)⟩, false), (⟨(some 34), .eqv true false [.i] (.s 29) (.s 33), some (24, false)⟩, false), (⟨(some 35), .pick (.s 24) (.c (.dat (.bool true))) (.s 34), none⟩, false)] (some []) [0, 4, 35])
 (.cond (.s 35) (.seq (.reg [⟨(some 2), .mv (.c (.nil 26 2 true)), none⟩, ⟨(some 3), .mv (.c (.dat (.int .i64 30))), none⟩] none [2, 3])
 (.ret [2, 3])) .skip)))
 (.reg [⟨(some 16), .mv (.s 4), none⟩, ⟨(some 17), .bin .add (.s 16) (.c (.dat (.int .i64 1))), none⟩, ⟨(some 4), .mv (.s 17), none⟩] none [0, 4])))
def xf_ref03_Merge_k2 : List (Nat × Option (Nat × Nat × Bool)) := [(0, none), (5, some (26, 2, true)), (6, none), (7, none), (8, none)]
def xf_ref03_Merge_b2 : XCode := (.seq (.seq (.reg [⟨(some 50), .mv (.s 8), none⟩, ⟨(some 51), .mv (.s 0), none⟩, ⟨(some 52), .len false (.s 51), none⟩, ⟨(some 53), .bin .lss (.s 50) (.s 52), none⟩] none [0, 5, 6, 7, 8, 53])
 (.cond (.s 53) .skip (.exit 4 [0, 5, 6, 7])))
 (.seq (.block 5 (.seq (.reg [⟨(some 56), .load (some 2) (.s 7), none⟩, ⟨(some 57), .mv (.s 0), none⟩, ⟨(some 58), .mv (.s 8), none⟩, ⟨(some 59), .iadr 1 (.s 57) (.s 58), none⟩, ⟨(some 60), .load none (.s 59), none⟩, ⟨(some 61), .mv (.s 6), none⟩, ⟨(some 62), .iadr 2 (.s 60) (.s 61), none⟩, ⟨(some 63), .load (some 2) (.s 62), none⟩, ⟨(some 64), .call (.c (.fn (.func 44) [] [])) [(.s 56), (.s 63)], none⟩] (some []) [0, 5, 6, 7, 8, 64])
 (.cond (.s 64) (.reg [⟨(some 65), .mv (.s 0), none⟩, ⟨(some 66), .mv (.s 8), none⟩, ⟨(some 67), .iadr 1 (.s 65) (.s 66), none⟩, ⟨(some 68), .load none (.s 67), none⟩, ⟨(some 69), .mv (.s 6), none⟩, ⟨(some 70), .iadr 2 (.s 68) (.s 69), none⟩, ⟨(some 71), .load (some 2) (.s 70), none⟩, ⟨none, .store 2 (.s 7) (.s 71), none⟩] none [0, 5, 6, 7, 8]) .skip)))
 (.reg [⟨(some 54), .mv (.s 8), none⟩, ⟨(some 55), .bin .add (.s 54) (.c (.dat (.int .i64 1))), none⟩, ⟨(some 8), .mv (.s 55), none⟩] none [0, 5, 6, 7, 8])))
def xf_ref03_Merge_k1 : List (Nat × Option (Nat × Nat × Bool)) := [(0, none), (5, some (26, 2, true)), (6, none)]
def xf_ref03_Merge_b1 : XCode := (.seq (.seq (.reg [⟨(some 36), .mv (.s 6), none⟩, ⟨(some 37), .mv (.s 0), none⟩, ⟨(some 38), .iadr 1 (.s 37) (.c (.dat (.int .i64 0))), none⟩, ⟨(some 39), .load none (.s 38), none⟩, ⟨(some 40), .len false (.s 39), none⟩, ⟨(some 41), .bin .lss (.s 36) (.s 40), none⟩] none [0, 5, 6, 41])
 (.cond (.s 41) .skip (.exit 2 [5])))
 (.seq (.block 3 (.seq (.reg [⟨(some 44), .mv (.s 0), none⟩, ⟨(some 45), .iadr 1 (.s 44) (.c (.dat (.int .i64 0))), none⟩, ⟨(some 46), .load none (.s 45), none⟩, ⟨(some 47), .mv (.s 6), none⟩, ⟨(some 48), .iadr 2 (.s 46) (.s 47), none⟩, ⟨(some 49), .load (some 2) (.s 48), none⟩, ⟨(some 7), .alloc [(.dat (.int .u64 0)), (.dat (.int .u64 0))], none⟩, ⟨none, .store 2 (.s 7) (.s 49), none⟩] none [0, 5, 6, 7])
 (.seq (.seq (.reg [⟨(some 8), .mv (.c (.dat (.int .i64 1))), none⟩] none [0, 5, 6, 7, 8])
 (.block 4 (.loop xf_ref03_Merge_k2 xf_ref03_Merge_b2)))
 (.reg [⟨(some 72), .mv (.s 5), none⟩, ⟨(some 73), .load (some 2) (.s 7), none⟩, ⟨(some 74), .bsl 26 2 true 1 [(.dat (.int .u64 0)), (.dat (.int .u64 0))] [(0, 2, (.s 73))], none⟩, ⟨(some 75), .app 26 2 16 true (.s 72) (.s 74), none⟩, ⟨(some 5), .mv (.s 75), none⟩] none [0, 5, 6]))))
 (.reg [⟨(some 42), .mv (.s 6), none⟩, ⟨(some 43), .bin .add (.s 42) (.c (.dat (.int .i64 1))), none⟩, ⟨(some 6), .mv (.s 43), none⟩] none [0, 5, 6])))
def xf_ref03_Merge : XFunc := ⟨none, true, 1, [.tmp 2, .tmp 3], (.seq (.reg [⟨(some 2), .mv (.c (.nil 26 2 true)), none⟩, ⟨(some 3), .mv (.c (.dat (.int .i64 0))), none⟩] none [0])
 (.seq (.seq (.reg [⟨(some 9), .mv (.s 0), none⟩, ⟨(some 10), .len false (.s 9), none⟩, ⟨(some 11), .eqv false false [.i] (.s 10) (.c (.dat (.int .i64 0))), none⟩] none [0, 11])
 (.cond (.s 11) (.seq (.reg [⟨(some 2), .mv (.c (.nil 26 2 true)), none⟩, ⟨(some 3), .mv (.c (.dat (.int .i64 30))), none⟩] none [2, 3])
 (.ret [2, 3])) .skip))
 (.seq (.seq (.reg [⟨(some 4), .mv (.c (.dat (.int .i64 0))), none⟩] none [0, 4])
 (.block 0 (.loop xf_ref03_Merge_k0 xf_ref03_Merge_b0)))
 (.seq (.reg [⟨(some 5), .mv (.c (.nil 26 2 true)), none⟩] none [0, 5])
 (.seq (.seq (.reg [⟨(some 6), .mv (.c (.dat (.int .i64 0))), none⟩] none [0, 5, 6])
 (.block 2 (.loop xf_ref03_Merge_k1 xf_ref03_Merge_b1)))
 (.seq (.reg [⟨(some 76), .mv (.s 5), none⟩, ⟨(some 2), .mv (.s 76), none⟩, ⟨(some 3), .mv (.c (.dat (.int .i64 0))), none⟩] none [2, 3])
 (.ret [2, 3])))))))⟩

def xf_vector_Compare_k0 : List (Nat × Option (Nat × Nat × Bool)) := [(0, none), (1, none), (5, none), (6, none), (14, none), (15, none)]
def xf_vector_Compare_b0 : XCode := (.seq (.reg [⟨(some 16), .bin .lss (.s 15) (.s 14), none⟩] none [0, 1, 5, 6, 14, 15, 16])
 (.seq (.cond (.s 16) .skip (.exit 0 [5, 6]))
 (.seq (.block 1 (.seq (.reg [⟨(some 17), .mv (.s 15), none⟩, ⟨(some 7), .mv (.s 17), none⟩] none [0, 1, 5, 6, 7, 14, 15])
 (.seq (.reg [⟨(some 18), .mv (.s 0), none⟩, ⟨(some 19), .mv (.s 7), none⟩, ⟨(some 20), .iadr 2 (.s 18) (.s 19), none⟩, ⟨(some 21), .load (some 2) (.s 20), none⟩, ⟨(some 22), .mv (.s 1), none⟩, ⟨(some 23), .mv (.s 7), none⟩, ⟨(some 24), .iadr 2 (.s 22) (.s 23), none⟩, ⟨(some 25), .load (some 2) (.s 24), none⟩, ⟨(some 26), .call (.c (.fn (.func 43) [] [])) [(.s 21), (.s 25)], none⟩] (some []) [0, 1, 5, 6, 14, 15, 26])
 (.block 2 (.seq (.reg [⟨(some 28), .eqv false false [.i] (.s 26) (.c (.dat (.int .i64 1))), none⟩, ⟨(some 27), .mv (.s 28), none⟩] none [0, 1, 5, 6, 14, 15, 26, 27])
 (.cond (.s 27) (.reg [⟨(some 5), .mv (.c (.dat (.bool true))), none⟩] none [0, 1, 5, 6, 14, 15]) (.seq (.reg [⟨(some 30), .eqv false false [.i] (.s 26) (.c (.dat (.int .i64 (-1)))), none⟩, ⟨(some 29), .mv (.s 30), none⟩] none [0, 1, 5, 6, 14, 15, 29])
 (.cond (.s 29) (.reg [⟨(some 6), .mv (.c (.dat (.bool true))), none⟩] none [0, 1, 5, 6, 14, 15]) .skip))))))))
 (.reg [⟨(some 31), .bin .add (.s 15) (.c (.dat (.int .i64 1))), none⟩, ⟨(some 15), .mv (.s 31), none⟩] none [0, 1, 5, 6, 14, 15]))))
def xf_vector_Compare : XFunc := ⟨none, true, 2, [.tmp 4], (.seq (.reg [⟨(some 4), .mv (.c (.dat (.int .i64 0))), none⟩] none [0, 1])
 (.seq (.seq (.reg [⟨(some 8), .mv (.s 0), none⟩, ⟨(some 9), .len false (.s 8), none⟩, ⟨(some 10), .mv (.s 1), none⟩, ⟨(some 11), .len false (.s 10), none⟩, ⟨(some 12), .eqv true false [.i] (.s 9) (.s 11), none⟩] none [0, 1, 12])
 (.cond (.s 12) (.seq (.reg [⟨(some 4), .mv (.c (.dat (.int .i64 0))), none⟩] none [4])
 (.ret [4])) .skip))
 (.seq (.reg [⟨(some 5), .mv (.c (.dat (.bool false))), none⟩, ⟨(some 6), .mv (.c (.dat (.bool false))), none⟩] none [0, 1, 5, 6])
 (.seq (.seq (.reg [⟨(some 13), .mv (.s 0), none⟩, ⟨(some 14), .len false (.s 13), none⟩, ⟨(some 15), .mv (.c (.dat (.int .i64 0))), none⟩] none [0, 1, 5, 6, 14, 15])
 (.block 0 (.loop xf_vector_Compare_k0 xf_vector_Compare_b0)))
 (.seq (.block 3 (.seq (.sreg [(⟨(some 33), .mv (.s 5), none⟩, false), (⟨(some 34), .mv (.s 33), none⟩, false), (⟨(some 35), .mv (.s 6), some (34, true)⟩, true), (⟨(some 36), .pick (.s 34) (.s 35) (.c (.dat (.bool false))), none⟩, false), (⟨(some 32), .mv (.s 36), none⟩, false)] none [5, 6, 32])
 (.cond (.s 32) (.seq (.reg [⟨(some 4), .mv (.c (.dat (.int .i64 4))), none⟩] none [4])
 (.ret [4])) (.seq (.reg [⟨(some 38), .mv (.s 5), none⟩, ⟨(some 37), .mv (.s 38), none⟩] none [6, 37])
 (.cond (.s 37) (.seq (.reg [⟨(some 4), .mv (.c (.dat (.int .i64 3))), none⟩] none [4])
 (.ret [4])) (.seq (.reg [⟨(some 40), .mv (.s 6), none⟩, ⟨(some 39), .mv (.s 40), none⟩] none [39])
 (.cond (.s 39) (.seq (.reg [⟨(some 4), .mv (.c (.dat (.int .i64 2))), none⟩] none [4])
 (.ret [4])) .skip)))))))
 (.seq (.reg [⟨(some 4), .mv (.c (.dat (.int .i64 1))), none⟩] none [4])
 (.ret [4])))))))⟩

def xf_ref03_Compare_k0 : List (Nat × Option (Nat × Nat × Bool)) := [(0, none), (1, none), (5, none), (6, none), (7, none)]
def xf_ref03_Compare_b0 : XCode := (.seq (.seq (.reg [⟨(some 13), .mv (.s 7), none⟩, ⟨(some 14), .mv (.s 0), none⟩, ⟨(some 15), .len false (.s 14), none⟩, ⟨(some 16), .bin .lss (.s 13) (.s 15), none⟩] none [0, 1, 5, 6, 7, 16])
 (.cond (.s 16) .skip (.exit 0 [5, 6])))
 (.seq (.block 1 (.seq (.sreg [(⟨(some 19), .mv (.s 5), none⟩, false), (⟨(some 20), .mv (.s 19), none⟩, false), (⟨(some 21), .mv (.s 0), some (20, false)⟩, true), (⟨(some 22), .mv (.s 7), some (20, false)⟩, true), (⟨(some 23), .iadr 2 (.s 21) (.s 22), some (20, false)⟩, false), (⟨(some 24), .load (some 2) (.s 23), some (20, false)⟩, false), (⟨(some 25), .mv (.s 1), some (20, false)⟩, true), (⟨(some 26), .mv (.s 7), some (20, false)⟩, true), (⟨(some 27), .iadr 2 (.s 25) (.s 26), some (20, false)⟩, false), (⟨(some 28), .load (some 2) (.s 27), some (20, false)⟩, false), (⟨(some 29), .call (.c (.fn (.func 44) [] [])) [(.s 24), (.s 28)], some (20, false)⟩, false), (⟨(some 30), .pick (.s 20) (.c (.dat (.bool true))) (.s 29), none⟩, false), (⟨(some 5), .mv (.s 30), none⟩, false)] (some []) [0, 1, 5, 6, 7])
 (.sreg [(⟨(some 31), .mv (.s 6), none⟩, false), (⟨(some 32), .mv (.s 31), none⟩, false), (⟨(some 33), .mv (.s 1), some (32, false)⟩, true), (⟨(some 34), .mv (.s 7), some (32, false)⟩, true), (⟨(some 35), .iadr 2 (.s 33) (.s 34), some (32, false)⟩, false), (⟨(some 36), .load (some 2) (.s 35), some (32, false)⟩, false), (⟨(some 37), .mv (.s 0), some (32, false)⟩, true), (⟨(some 38), .mv (.s 7), some (32, false)⟩, true), (⟨(some 39), .iadr 2 (.s 37) (.s 38), some (32, false)⟩, false), (⟨(some 40), .load (some 2) (.s 39), some (32, false)⟩, false), (⟨(some 41), .call (.c (.fn (.func 44) [] [])) [(.s 36), (.s 40)], some (32, false)⟩, false), (⟨(some 42), .pick (.s 32) (.c (.dat (.bool true))) (.s 41), none⟩, false), (⟨(some 6), .mv (.s 42), none⟩, false)] (some []) [0, 1, 5, 6, 7])))
 (.reg [⟨(some 17), .mv (.s 7), none⟩, ⟨(some 18), .bin .add (.s 17) (.c (.dat (.int .i64 1))), none⟩, ⟨(some 7), .mv (.s 18), none⟩] none [0, 1, 5, 6, 7])))
def xf_ref03_Compare : XFunc := ⟨none, true, 2, [.tmp 4], (.seq (.reg [⟨(some 4), .mv (.c (.dat (.int .i64 0))), none⟩] none [0, 1])
 (.seq (.seq (.reg [⟨(some 8), .mv (.s 0), none⟩, ⟨(some 9), .len false (.s 8), none⟩, ⟨(some 10), .mv (.s 1), none⟩, ⟨(some 11), .len false (.s 10), none⟩, ⟨(some 12), .eqv true false [.i] (.s 9) (.s 11), none⟩] none [0, 1, 12])
 (.cond (.s 12) (.seq (.reg [⟨(some 4), .mv (.c (.dat (.int .i64 0))), none⟩] none [4])
 (.ret [4])) .skip))
 (.seq (.reg [⟨(some 5), .mv (.c (.dat (.bool false))), none⟩] none [0, 1, 5])
 (.seq (.reg [⟨(some 6), .mv (.c (.dat (.bool false))), none⟩] none [0, 1, 5, 6])
 (.seq (.seq (.reg [⟨(some 7), .mv (.c (.dat (.int .i64 0))), none⟩] none [0, 1, 5, 6, 7])
 (.block 0 (.loop xf_ref03_Compare_k0 xf_ref03_Compare_b0)))
 (.seq (.block 2 (.seq (.sreg [(⟨(some 44), .mv (.s 5), none⟩, false), (⟨(some 45), .mv (.s 44), none⟩, false), (⟨(some 46), .mv (.s 6), some (45, true)⟩, true), (⟨(some 47), .pick (.s 45) (.s 46) (.c (.dat (.bool false))), none⟩, false), (⟨(some 43), .mv (.s 47), none⟩, false)] none [5, 6, 43])
 (.cond (.s 43) (.seq (.reg [⟨(some 4), .mv (.c (.dat (.int .i64 4))), none⟩] none [4])
 (.ret [4])) (.seq (.reg [⟨(some 49), .mv (.s 5), none⟩, ⟨(some 48), .mv (.s 49), none⟩] none [6, 48])
 (.cond (.s 48) (.seq (.reg [⟨(some 4), .mv (.c (.dat (.int .i64 2))), none⟩] none [4])
 (.ret [4])) (.seq (.reg [⟨(some 51), .mv (.s 6), none⟩, ⟨(some 50), .mv (.s 51), none⟩] none [50])
 (.cond (.s 50) (.seq (.reg [⟨(some 4), .mv (.c (.dat (.int .i64 3))), none⟩] none [4])
 (.ret [4])) .skip)))))))
 (.seq (.reg [⟨(some 4), .mv (.c (.dat (.int .i64 1))), none⟩] none [4])
 (.ret [4]))))))))⟩

def xf_plain_Given_Voices_k0 : List (Nat × Option (Nat × Nat × Bool)) := [(0, none), (1, none), (5, some (56, 2, false)), (6, none)]
def xf_plain_Given_Voices_b0 : XCode := (.seq (.seq (.reg [⟨(some 7), .mv (.s 6), none⟩, ⟨(some 8), .mv (.s 1), none⟩, ⟨(some 9), .len false (.s 8), none⟩, ⟨(some 10), .bin .lss (.s 7) (.s 9), none⟩] none [0, 1, 5, 6, 10])
 (.cond (.s 10) .skip (.exit 0 [5])))
 (.seq (.block 1 (.reg [⟨(some 13), .mv (.s 5), none⟩, ⟨(some 14), .mv (.s 1), none⟩, ⟨(some 15), .mv (.s 6), none⟩, ⟨(some 16), .iadr 2 (.s 14) (.s 15), none⟩, ⟨(some 17), .fadr 0 (.s 16), none⟩, ⟨(some 18), .load none (.s 17), none⟩, ⟨(some 19), .mv (.s 0), none⟩, ⟨(some 20), .mv (.s 1), none⟩, ⟨(some 21), .mv (.s 6), none⟩, ⟨(some 22), .iadr 2 (.s 20) (.s 21), none⟩, ⟨(some 23), .fadr 1 (.s 22), none⟩, ⟨(some 24), .load none (.s 23), none⟩, ⟨(some 25), .call (.c (.fn (.func 10) [] [])) [(.s 19), (.s 24)], none⟩, ⟨(some 26), .build [(.dat (.int .i64 0)), (.nil 26 2 true)] [(0, 1, (.s 18)), (1, 1, (.s 25))], none⟩, ⟨(some 27), .bsl 56 2 false 1 [(.dat (.int .i64 0)), (.nil 26 2 true)] [(0, 2, (.s 26))], none⟩, ⟨(some 28), .app 56 2 32 false (.s 13) (.s 27), none⟩, ⟨(some 5), .mv (.s 28), none⟩] (some [(3, 12), (5, 12)]) [0, 1, 5, 6]))
 (.reg [⟨(some 11), .mv (.s 6), none⟩, ⟨(some 12), .bin .add (.s 11) (.c (.dat (.int .i64 1))), none⟩, ⟨(some 6), .mv (.s 12), none⟩] none [0, 1, 5, 6])))
def xf_plain_Given_Voices : XFunc := ⟨none, false, 2, [.tmp 4], (.seq (.reg [⟨(some 4), .mv (.c (.nil 56 2 false)), none⟩] none [0, 1])
 (.seq (.reg [⟨(some 5), .mv (.c (.nil 56 2 false)), none⟩] none [0, 1, 5])
 (.seq (.seq (.reg [⟨(some 6), .mv (.c (.dat (.int .i64 0))), none⟩] none [0, 1, 5, 6])
 (.block 0 (.loop xf_plain_Given_Voices_k0 xf_plain_Given_Voices_b0)))
 (.seq (.reg [⟨(some 29), .mv (.s 5), none⟩, ⟨(some 4), .mv (.s 29), none⟩] none [4])
 (.ret [4])))))⟩

def xf_vector_Consistent_k1 : List (Nat × Option (Nat × Nat × Bool)) := [(0, none), (5, none), (11, none), (12, none), (16, none), (17, none)]
def xf_vector_Consistent_b1 : XCode := (.seq (.reg [⟨(some 18), .bin .lss (.s 17) (.s 16), none⟩] none [0, 5, 11, 12, 16, 17, 18])
 (.seq (.cond (.s 18) .skip (.exit 2 [0, 11, 12]))
 (.seq (.block 3 (.seq (.reg [⟨(some 19), .mv (.s 17), none⟩, ⟨(some 6), .mv (.s 19), none⟩] none [0, 5, 6, 11, 12, 16, 17])
 (.seq (.reg [⟨(some 20), .mv (.s 0), none⟩, ⟨(some 21), .mv (.s 6), none⟩, ⟨(some 22), .iadr 2 (.s 20) (.s 21), none⟩, ⟨(some 23), .fadr 1 (.s 22), none⟩, ⟨(some 24), .load none (.s 23), none⟩, ⟨(some 25), .mv (.s 0), none⟩, ⟨(some 26), .mv (.s 5), none⟩, ⟨(some 27), .iadr 2 (.s 25) (.s 26), none⟩, ⟨(some 28), .load (some 2) (.s 27), none⟩, ⟨(some 29), .call (.c (.fn (.func 30) [] [])) [(.s 24), (.s 28)], none⟩] (some []) [0, 5, 6, 11, 12, 16, 17, 29])
 (.cond (.s 29) (.seq (.reg [⟨(some 30), .mv (.s 5), none⟩, ⟨(some 31), .mv (.s 6), none⟩, ⟨(some 2), .mv (.s 30), none⟩, ⟨(some 3), .mv (.s 31), none⟩, ⟨(some 4), .mv (.c (.dat (.int .i64 0))), none⟩] none [2, 3, 4])
 (.ret [2, 3, 4])) .skip))))
 (.reg [⟨(some 32), .bin .add (.s 17) (.c (.dat (.int .i64 1))), none⟩, ⟨(some 17), .mv (.s 32), none⟩] none [0, 5, 11, 12, 16, 17]))))
def xf_vector_Consistent_k0 : List (Nat × Option (Nat × Nat × Bool)) := [(0, none), (11, none), (12, none)]
def xf_vector_Consistent_b0 : XCode := (.seq (.reg [⟨(some 13), .bin .lss (.s 12) (.s 11), none⟩] none [0, 11, 12, 13])
 (.seq (.cond (.s 13) .skip (.exit 0 []))
 (.seq (.block 1 (.seq (.reg [⟨(some 14), .mv (.s 12), none⟩, ⟨(some 5), .mv (.s 14), none⟩] none [0, 5, 11, 12])
 (.seq (.reg [⟨(some 15), .mv (.s 0), none⟩, ⟨(some 16), .len false (.s 15), none⟩, ⟨(some 17), .mv (.c (.dat (.int .i64 0))), none⟩] none [0, 5, 11, 12, 16, 17])
 (.block 2 (.loop xf_vector_Consistent_k1 xf_vector_Consistent_b1)))))
 (.reg [⟨(some 33), .bin .add (.s 12) (.c (.dat (.int .i64 1))), none⟩, ⟨(some 12), .mv (.s 33), none⟩] none [0, 11, 12]))))
def xf_vector_Consistent : XFunc := ⟨none, true, 1, [.tmp 2, .tmp 3, .tmp 4], (.seq (.reg [⟨(some 2), .mv (.c (.dat (.int .i64 0))), none⟩, ⟨(some 3), .mv (.c (.dat (.int .i64 0))), none⟩, ⟨(some 4), .mv (.c (.dat (.int .i64 0))), none⟩] none [0])
 (.seq (.seq (.reg [⟨(some 7), .mv (.s 0), none⟩, ⟨(some 8), .call (.c (.fn (.func 45) [] [])) [(.s 7)], none⟩, ⟨(some 9), .not (.s 8), none⟩] none [0, 9])
 (.cond (.s 9) (.seq (.reg [⟨(some 2), .mv (.c (.dat (.int .i64 0))), none⟩, ⟨(some 3), .mv (.c (.dat (.int .i64 0))), none⟩, ⟨(some 4), .mv (.c (.dat (.int .i64 30))), none⟩] none [2, 3, 4])
 (.ret [2, 3, 4])) .skip))
 (.seq (.seq (.reg [⟨(some 10), .mv (.s 0), none⟩, ⟨(some 11), .len false (.s 10), none⟩, ⟨(some 12), .mv (.c (.dat (.int .i64 0))), none⟩] none [0, 11, 12])
 (.block 0 (.loop xf_vector_Consistent_k0 xf_vector_Consistent_b0)))
 (.seq (.reg [⟨(some 2), .mv (.c (.dat (.int .i64 (-1)))), none⟩, ⟨(some 3), .mv (.c (.dat (.int .i64 (-1)))), none⟩, ⟨(some 4), .mv (.c (.dat (.int .i64 0))), none⟩] none [2, 3, 4])
 (.ret [2, 3, 4])))))⟩

def xf_ref03_Consistent_k1 : List (Nat × Option (Nat × Nat × Bool)) := [(0, none), (6, none), (7, none)]
def xf_ref03_Consistent_b1 : XCode := (.seq (.seq (.reg [⟨(some 19), .mv (.s 7), none⟩, ⟨(some 20), .mv (.s 0), none⟩, ⟨(some 21), .len false (.s 20), none⟩, ⟨(some 22), .bin .lss (.s 19) (.s 21), none⟩] none [0, 6, 7, 22])
 (.cond (.s 22) .skip (.exit 2 [0, 6])))
 (.seq (.block 3 (.seq (.reg [⟨(some 25), .mv (.s 0), none⟩, ⟨(some 26), .mv (.s 7), none⟩, ⟨(some 27), .iadr 2 (.s 25) (.s 26), none⟩, ⟨(some 28), .fadr 1 (.s 27), none⟩, ⟨(some 29), .load none (.s 28), none⟩, ⟨(some 30), .mv (.s 0), none⟩, ⟨(some 31), .mv (.s 6), none⟩, ⟨(some 32), .iadr 2 (.s 30) (.s 31), none⟩, ⟨(some 33), .load (some 2) (.s 32), none⟩, ⟨(some 34), .call (.c (.fn (.func 31) [] [])) [(.s 29), (.s 33)], none⟩] (some []) [0, 6, 7, 34])
 (.cond (.s 34) (.seq (.reg [⟨(some 35), .mv (.s 6), none⟩, ⟨(some 36), .mv (.s 7), none⟩, ⟨(some 2), .mv (.s 35), none⟩, ⟨(some 3), .mv (.s 36), none⟩, ⟨(some 4), .mv (.c (.dat (.int .i64 0))), none⟩] none [2, 3, 4])
 (.ret [2, 3, 4])) .skip)))
 (.reg [⟨(some 23), .mv (.s 7), none⟩, ⟨(some 24), .bin .add (.s 23) (.c (.dat (.int .i64 1))), none⟩, ⟨(some 7), .mv (.s 24), none⟩] none [0, 6, 7])))
def xf_ref03_Consistent_k0 : List (Nat × Option (Nat × Nat × Bool)) := [(0, none), (6, none)]
def xf_ref03_Consistent_b0 : XCode := (.seq (.seq (.reg [⟨(some 13), .mv (.s 6), none⟩, ⟨(some 14), .mv (.s 0), none⟩, ⟨(some 15), .len false (.s 14), none⟩, ⟨(some 16), .bin .lss (.s 13) (.s 15), none⟩] none [0, 6, 16])
 (.cond (.s 16) .skip (.exit 0 [])))
 (.seq (.block 1 (.seq (.reg [⟨(some 7), .mv (.c (.dat (.int .i64 0))), none⟩] none [0, 6, 7])
 (.block 2 (.loop xf_ref03_Consistent_k1 xf_ref03_Consistent_b1))))
 (.reg [⟨(some 17), .mv (.s 6), none⟩, ⟨(some 18), .bin .add (.s 17) (.c (.dat (.int .i64 1))), none⟩, ⟨(some 6), .mv (.s 18), none⟩] none [0, 6])))
def xf_ref03_Consistent : XFunc := ⟨none, true, 1, [.tmp 2, .tmp 3, .tmp 4], (.seq (.reg [⟨(some 2), .mv (.c (.dat (.int .i64 0))), none⟩, ⟨(some 3), .mv (.c (.dat (.int .i64 0))), none⟩, ⟨(some 4), .mv (.c (.dat (.int .i64 0))), none⟩] none [0])
 (.seq (.reg [⟨(some 8), .mv (.s 0), none⟩, ⟨(some 9), .call (.c (.fn (.func 46) [] [])) [(.s 8)], none⟩, ⟨(some 5), .mv (.s 9), none⟩] none [0, 5])
 (.seq (.seq (.reg [⟨(some 10), .mv (.s 5), none⟩, ⟨(some 11), .eqv true false [.i] (.s 10) (.c (.dat (.int .i64 0))), none⟩] none [0, 5, 11])
 (.cond (.s 11) (.seq (.reg [⟨(some 12), .mv (.s 5), none⟩, ⟨(some 2), .mv (.c (.dat (.int .i64 0))), none⟩, ⟨(some 3), .mv (.c (.dat (.int .i64 0))), none⟩, ⟨(some 4), .mv (.s 12), none⟩] none [2, 3, 4])
 (.ret [2, 3, 4])) .skip))
 (.seq (.seq (.reg [⟨(some 6), .mv (.c (.dat (.int .i64 0))), none⟩] none [0, 6])
 (.block 0 (.loop xf_ref03_Consistent_k0 xf_ref03_Consistent_b0)))
 (.seq (.reg [⟨(some 2), .mv (.c (.dat (.int .i64 (-1)))), none⟩, ⟨(some 3), .mv (.c (.dat (.int .i64 (-1)))), none⟩, ⟨(some 4), .mv (.c (.dat (.int .i64 0))), none⟩] none [2, 3, 4])
 (.ret [2, 3, 4]))))))⟩

def xf_vector_Alive_k0 : List (Nat × Option (Nat × Nat × Bool)) := [(0, none), (4, some (23, 1, false)), (15, some (56, 2, false)), (16, none), (17, none)]
def xf_vector_Alive_b0 : XCode := (.seq (.reg [⟨(some 18), .bin .lss (.s 17) (.s 16), none⟩] none [0, 4, 15, 16, 17, 18])
 (.seq (.cond (.s 18) .skip (.exit 0 [0, 4]))
 (.seq (.block 1 (.seq (.reg [⟨(some 19), .iadr 2 (.s 15) (.s 17), none⟩, ⟨(some 20), .load (some 2) (.s 19), none⟩, ⟨(some 6), .alloc [(.dat (.int .i64 0)), (.nil 26 2 true)], none⟩, ⟨none, .store 2 (.s 6) (.s 20), none⟩] none [0, 4, 6, 15, 16, 17])
 (.reg [⟨(some 21), .mv (.s 4), none⟩, ⟨(some 22), .fadr 1 (.s 6), none⟩, ⟨(some 23), .load none (.s 22), none⟩, ⟨(some 24), .bsl 23 1 false 1 [(.nil 26 2 true)] [(0, 1, (.s 23))], none⟩, ⟨(some 25), .app 23 1 24 false (.s 21) (.s 24), none⟩, ⟨(some 4), .mv (.s 25), none⟩] none [0, 4, 15, 16, 17])))
 (.reg [⟨(some 26), .bin .add (.s 17) (.c (.dat (.int .i64 1))), none⟩, ⟨(some 17), .mv (.s 26), none⟩] none [0, 4, 15, 16, 17]))))
def xf_vector_Alive_k1 : List (Nat × Option (Nat × Nat × Bool)) := [(7, some (26, 2, true)), (9, some (3, 1, true)), (32, some (56, 2, false)), (33, none), (34, none)]
def xf_vector_Alive_b1 : XCode := (.seq (.reg [⟨(some 35), .bin .lss (.s 34) (.s 33), none⟩] none [7, 9, 32, 33, 34, 35])
 (.seq (.cond (.s 35) .skip (.exit 2 [9]))
 (.seq (.block 3 (.seq (.reg [⟨(some 36), .mv (.s 34), none⟩, ⟨(some 37), .iadr 2 (.s 32) (.s 34), none⟩, ⟨(some 38), .load (some 2) (.s 37), none⟩, ⟨(some 11), .alloc [(.dat (.int .i64 0)), (.nil 26 2 true)], none⟩, ⟨(some 10), .mv (.s 36), none⟩, ⟨none, .store 2 (.s 11) (.s 38), none⟩] none [7, 9, 10, 11, 32, 33, 34])
 (.seq (.reg [⟨(some 39), .mv (.s 7), none⟩, ⟨(some 40), .load (some 2) (.s 11), none⟩, ⟨(some 41), .call (.c (.fn (.func 30) [] [])) [(.s 39), (.s 40)], none⟩, ⟨(some 42), .not (.s 41), none⟩] none [7, 9, 10, 32, 33, 34, 42])
 (.cond (.s 42) (.reg [⟨(some 43), .mv (.s 9), none⟩, ⟨(some 44), .mv (.s 10), none⟩, ⟨(some 45), .bsl 3 1 true 1 [(.dat (.int .i64 0))] [(0, 1, (.s 44))], none⟩, ⟨(some 46), .app 3 1 8 true (.s 43) (.s 45), none⟩, ⟨(some 9), .mv (.s 46), none⟩] none [7, 9, 32, 33, 34]) .skip))))
 (.reg [⟨(some 47), .bin .add (.s 34) (.c (.dat (.int .i64 1))), none⟩, ⟨(some 34), .mv (.s 47), none⟩] none [7, 9, 32, 33, 34]))))
def xf_vector_Alive : XFunc := ⟨none, true, 1, [.tmp 2, .tmp 3], (.seq (.reg [⟨(some 2), .mv (.c (.nil 3 1 true)), none⟩, ⟨(some 3), .mv (.c (.dat (.int .i64 0))), none⟩] none [0])
 (.seq (.seq (.reg [⟨(some 12), .mv (.s 0), none⟩, ⟨(some 13), .call (.c (.fn (.func 45) [] [])) [(.s 12)], none⟩, ⟨(some 14), .not (.s 13), none⟩] none [0, 14])
 (.cond (.s 14) (.seq (.reg [⟨(some 2), .mv (.c (.nil 3 1 true)), none⟩, ⟨(some 3), .mv (.c (.dat (.int .i64 30))), none⟩] none [2, 3])
 (.ret [2, 3])) .skip))
 (.seq (.reg [⟨(some 4), .mv (.c (.nil 23 1 false)), none⟩] none [0, 4])
 (.seq (.seq (.reg [⟨(some 15), .mv (.s 0), none⟩, ⟨(some 16), .len false (.s 15), none⟩, ⟨(some 17), .mv (.c (.dat (.int .i64 0))), none⟩] none [0, 4, 15, 16, 17])
 (.block 0 (.loop xf_vector_Alive_k0 xf_vector_Alive_b0)))
 (.seq (.reg [⟨(some 28), .mv (.s 4), none⟩, ⟨(some 29), .call (.c (.fn (.func 20) [] [])) [(.s 28)], none⟩, ⟨(some 27), .mv (.s 29), none⟩, ⟨(some 30), .ext (.s 27) 0, none⟩, ⟨(some 31), .ext (.s 27) 1, none⟩, ⟨(some 7), .mv (.s 30), none⟩, ⟨(some 8), .mv (.s 31), none⟩] none [0, 7])
 (.seq (.reg [⟨(some 9), .mv (.c (.nil 3 1 true)), none⟩] none [0, 7, 9])
 (.seq (.seq (.reg [⟨(some 32), .mv (.s 0), none⟩, ⟨(some 33), .len false (.s 32), none⟩, ⟨(some 34), .mv (.c (.dat (.int .i64 0))), none⟩] none [7, 9, 32, 33, 34])
 (.block 2 (.loop xf_vector_Alive_k1 xf_vector_Alive_b1)))
 (.seq (.reg [⟨(some 48), .mv (.s 9), none⟩, ⟨(some 2), .mv (.s 48), none⟩, ⟨(some 3), .mv (.c (.dat (.int .i64 0))), none⟩] none [2, 3])
 (.ret [2, 3])))))))))⟩

def xf_ref03_Alive_k1 : List (Nat × Option (Nat × Nat × Bool)) := [(0, none), (5, some (3, 1, true)), (6, none), (7, none), (8, none)]
def xf_ref03_Alive_b1 : XCode := (.seq (.seq (.reg [⟨(some 20), .mv (.s 8), none⟩, ⟨(some 21), .mv (.s 0), none⟩, ⟨(some 22), .len false (.s 21), none⟩, ⟨(some 23), .bin .lss (.s 20) (.s 22), none⟩] none [0, 5, 6, 7, 8, 23])
 (.cond (.s 23) .skip (.exit 2 [0, 5, 6, 7])))
 (.seq (.block 3 (.sreg [(⟨(some 26), .mv (.s 7), none⟩, false), (⟨(some 27), .mv (.s 26), none⟩, false), (⟨(some 28), .mv (.s 0), some (27, false)⟩, true), (⟨(some 29), .mv (.s 8), some (27, false)⟩, true), (⟨(some 30), .iadr 2 (.s 28) (.s 29), some (27, false)⟩, false), (⟨(some 31), .fadr 1 (.s 30), some (27, false)⟩, false), (⟨(some 32), .load none (.s 31), some (27, false)⟩, false), (⟨(some 33), .mv (.s 0), some (27, false)⟩, true), (⟨(some 34), .mv (.s 6), some (27, false)⟩, true), (⟨(some 35), .iadr 2 (.s 33) (.s 34), some (27, false)⟩, false), (⟨(some 36), .load (some 2) (.s 35), some (27, false)⟩, false), (⟨(some 37), .call (.c (.fn (.func 31) [] [])) [(.s 32), (.s 36)], some (27, false)⟩, false), (⟨(some 38), .pick (.s 27) (.c (.dat (.bool true))) (.s 37), none⟩, false), (⟨(some 7), .mv (.s 38), none⟩, false)] (some []) [0, 5, 6, 7, 8]))
 (.reg [⟨(some 24), .mv (.s 8), none⟩, ⟨(some 25), .bin .add (.s 24) (.c (.dat (.int .i64 1))), none⟩, ⟨(some 8), .mv (.s 25), none⟩] none [0, 5, 6, 7, 8])))
def xf_ref03_Alive_k0 : List (Nat × Option (Nat × Nat × Bool)) := [(0, none), (5, some (3, 1, true)), (6, none)]
def xf_ref03_Alive_b0 : XCode := (.seq (.seq (.reg [⟨(some 14), .mv (.s 6), none⟩, ⟨(some 15), .mv (.s 0), none⟩, ⟨(some 16), .len false (.s 15), none⟩, ⟨(some 17), .bin .lss (.s 14) (.s 16), none⟩] none [0, 5, 6, 17])
 (.cond (.s 17) .skip (.exit 0 [5])))
 (.seq (.block 1 (.seq (.reg [⟨(some 7), .mv (.c (.dat (.bool false))), none⟩] none [0, 5, 6, 7])
 (.seq (.seq (.reg [⟨(some 8), .mv (.c (.dat (.int .i64 0))), none⟩] none [0, 5, 6, 7, 8])
 (.block 2 (.loop xf_ref03_Alive_k1 xf_ref03_Alive_b1)))
 (.seq (.reg [⟨(some 39), .mv (.s 7), none⟩, ⟨(some 40), .not (.s 39), none⟩] none [0, 5, 6, 40])
 (.cond (.s 40) (.reg [⟨(some 41), .mv (.s 5), none⟩, ⟨(some 42), .mv (.s 6), none⟩, ⟨(some 43), .bsl 3 1 true 1 [(.dat (.int .i64 0))] [(0, 1, (.s 42))], none⟩, ⟨(some 44), .app 3 1 8 true (.s 41) (.s 43), none⟩, ⟨(some 5), .mv (.s 44), none⟩] none [0, 5, 6]) .skip)))))
 (.reg [⟨(some 18), .mv (.s 6), none⟩, ⟨(some 19), .bin .add (.s 18) (.c (.dat (.int .i64 1))), none⟩, ⟨(some 6), .mv (.s 19), none⟩] none [0, 5, 6])))
def xf_ref03_Alive : XFunc := ⟨none, true, 1, [.tmp 2, .tmp 3], (.seq (.reg [⟨(some 2), .mv (.c (.nil 3 1 true)), none⟩, ⟨(some 3), .mv (.c (.dat (.int .i64 0))), none⟩] none [0])
 (.seq (.reg [⟨(some 9), .mv (.s 0), none⟩, ⟨(some 10), .call (.c (.fn (.func 46) [] [])) [(.s 9)], none⟩, ⟨(some 4), .mv (.s 10), none⟩] none [0, 4])
 (.seq (.seq (.reg [⟨(some 11), .mv (.s 4), none⟩, ⟨(some 12), .eqv true false [.i] (.s 11) (.c (.dat (.int .i64 0))), none⟩] none [0, 4, 12])
 (.cond (.s 12) (.seq (.reg [⟨(some 13), .mv (.s 4), none⟩, ⟨(some 2), .mv (.c (.nil 3 1 true)), none⟩, ⟨(some 3), .mv (.s 13), none⟩] none [2, 3])
 (.ret [2, 3])) .skip))
 (.seq (.reg [⟨(some 5), .mv (.c (.nil 3 1 true)), none⟩] none [0, 5])
 (.seq (.seq (.reg [⟨(some 6), .mv (.c (.dat (.int .i64 0))), none⟩] none [0, 5, 6])
 (.block 0 (.loop xf_ref03_Alive_k0 xf_ref03_Alive_b0)))
 (.seq (.reg [⟨(some 45), .mv (.s 5), none⟩, ⟨(some 2), .mv (.s 45), none⟩, ⟨(some 3), .mv (.c (.dat (.int .i64 0))), none⟩] none [2, 3])
 (.ret [2, 3])))))))⟩

def xf_plain_SameInts_k0 : List (Nat × Option (Nat × Nat × Bool)) := [(0, none), (1, none), (5, none)]
def xf_plain_SameInts_b0 : XCode := (.seq (.seq (.reg [⟨(some 11), .mv (.s 5), none⟩, ⟨(some 12), .mv (.s 0), none⟩, ⟨(some 13), .len false (.s 12), none⟩, ⟨(some 14), .bin .lss (.s 11) (.s 13), none⟩] none [0, 1, 5, 14])
 (.cond (.s 14) .skip (.exit 0 [])))
 (.seq (.block 1 (.seq (.reg [⟨(some 17), .mv (.s 0), none⟩, ⟨(some 18), .mv (.s 5), none⟩, ⟨(some 19), .iadr 1 (.s 17) (.s 18), none⟩, ⟨(some 20), .load none (.s 19), none⟩, ⟨(some 21), .mv (.s 1), none⟩, ⟨(some 22), .mv (.s 5), none⟩, ⟨(some 23), .iadr 1 (.s 21) (.s 22), none⟩, ⟨(some 24), .load none (.s 23), none⟩, ⟨(some 25), .eqv true false [.i] (.s 20) (.s 24), none⟩] (some []) [0, 1, 5, 25])
 (.cond (.s 25) (.seq (.reg [⟨(some 4), .mv (.c (.dat (.bool false))), none⟩] none [4])
 (.ret [4])) .skip)))
 (.reg [⟨(some 15), .mv (.s 5), none⟩, ⟨(some 16), .bin .add (.s 15) (.c (.dat (.int .i64 1))), none⟩, ⟨(some 5), .mv (.s 16), none⟩] none [0, 1, 5])))
def xf_plain_SameInts : XFunc := ⟨none, true, 2, [.tmp 4], (.seq (.reg [⟨(some 4), .mv (.c (.dat (.bool false))), none⟩] none [0, 1])
 (.seq (.seq (.reg [⟨(some 6), .mv (.s 0), none⟩, ⟨(some 7), .len false (.s 6), none⟩, ⟨(some 8), .mv (.s 1), none⟩, ⟨(some 9), .len false (.s 8), none⟩, ⟨(some 10), .eqv true false [.i] (.s 7) (.s 9), none⟩] none [0, 1, 10])
 (.cond (.s 10) (.seq (.reg [⟨(some 4), .mv (.c (.dat (.bool false))), none⟩] none [4])
 (.ret [4])) .skip))
 (.seq (.seq (.reg [⟨(some 5), .mv (.c (.dat (.int .i64 0))), none⟩] none [0, 1, 5])
 (.block 0 (.loop xf_plain_SameInts_k0 xf_plain_SameInts_b0)))
 (.seq (.reg [⟨(some 4), .mv (.c (.dat (.bool true))), none⟩] none [4])
 (.ret [4])))))⟩

def xf_vector_Over : XFunc := ⟨none, true, 2, [.tmp 4], (.seq (.reg [⟨(some 3), .box (.s 1), none⟩, ⟨(some 4), .mv (.c (.dat (.bool false))), none⟩] none [0, 3])
 (.seq (.sreg [(⟨(some 5), .load (some 2) (.s 3), none⟩, false), (⟨(some 6), .call (.c (.fn (.func 47) [] [])) [(.s 5)], none⟩, false), (⟨(some 7), .mv (.s 6), none⟩, false), (⟨(some 8), .mv (.s 0), some (7, true)⟩, true), (⟨(some 9), .len false (.s 8), some (7, true)⟩, true), (⟨(some 10), .fadr 1 (.s 3), some (7, true)⟩, true), (⟨(some 11), .load none (.s 10), some (7, true)⟩, true), (⟨(some 12), .len false (.s 11), some (7, true)⟩, true), (⟨(some 13), .eqv false false [.i] (.s 9) (.s 12), some (7, true)⟩, true), (⟨(some 14), .pick (.s 7) (.s 13) (.c (.dat (.bool false))), none⟩, false), (⟨(some 15), .mv (.s 14), none⟩, false), (⟨(some 16), .mv (.s 0), some (15, true)⟩, true), (⟨(some 17), .fadr 0 (.s 3), some (15, true)⟩, true), (⟨(some 18), .load none (.s 17), some (15, true)⟩, true), (⟨(some 19), .iadr 2 (.s 16) (.s 18), some (15, true)⟩, false), (⟨(some 20), .load (some 2) (.s 19), some (15, true)⟩, false), (⟨(some 21), .fadr 1 (.s 3), some (15, true)⟩, true), (⟨(some 22), .load none (.s 21), some (15, true)⟩, true), (⟨(some 23), .fadr 0 (.s 3), some (15, true)⟩, true), (⟨(some 24), .load none (.s 23), some (15, true)⟩, true), (⟨(some 25), .iadr 2 (.s 22) (.s 24), some (15, true)⟩, false), (⟨(some 26), .load (some 2) (.s 25), some (15, true)⟩, false), (⟨(some 27), .call (.c (.fn (.func 43) [] [])) [(.s 20), (.s 26)], some (15, true)⟩, false), (⟨(some 28), .bin .gtr (.s 27) (.c (.dat (.int .i64 0))), some (15, true)⟩, false), (⟨(some 29), .pick (.s 15) (.s 28) (.c (.dat (.bool false))), none⟩, false), (⟨(some 4), .mv (.s 29), none⟩, false)] (some []) [4])
 (.ret [4])))⟩

def xf_ref03_Over : XFunc := ⟨none, true, 2, [.tmp 4], (.seq (.reg [⟨(some 3), .box (.s 1), none⟩, ⟨(some 4), .mv (.c (.dat (.bool false))), none⟩] none [0, 3])
 (.seq (.seq (.sreg [(⟨(some 5), .mv (.s 0), none⟩, false), (⟨(some 6), .call (.c (.fn (.func 39) [] [])) [(.s 5)], none⟩, false), (⟨(some 7), .not (.s 6), none⟩, false), (⟨(some 8), .mv (.s 7), none⟩, false), (⟨(some 9), .load (some 2) (.s 3), some (8, false)⟩, true), (⟨(some 10), .call (.c (.fn (.func 48) [] [])) [(.s 9)], some (8, false)⟩, false), (⟨(some 11), .not (.s 10), some (8, false)⟩, false), (⟨(some 12), .pick (.s 8) (.c (.dat (.bool true))) (.s 11), none⟩, false), (⟨(some 13), .mv (.s 12), none⟩, false), (⟨(some 14), .mv (.s 0), some (13, false)⟩, true), (⟨(some 15), .len false (.s 14), some (13, false)⟩, true), (⟨(some 16), .fadr 1 (.s 3), some (13, false)⟩, true), (⟨(some 17), .load none (.s 16), some (13, false)⟩, true), (⟨(some 18), .len false (.s 17), some (13, false)⟩, true), (⟨(some 19), .eqv true false [.i] (.s 15) (.s 18), some (13, false)⟩, true), (⟨(some 20), .pick (.s 13) (.c (.dat (.bool true))) (.s 19), none⟩, false)] none [0, 3, 20])
 (.cond (.s 20) (.seq (.reg [⟨(some 4), .mv (.c (.dat (.bool false))), none⟩] none [4])
 (.ret [4])) .skip))
 (.seq (.reg [⟨(some 21), .fadr 1 (.s 3), none⟩, ⟨(some 22), .load none (.s 21), none⟩, ⟨(some 23), .fadr 0 (.s 3), none⟩, ⟨(some 24), .load none (.s 23), none⟩, ⟨(some 25), .iadr 2 (.s 22) (.s 24), none⟩, ⟨(some 26), .load (some 2) (.s 25), none⟩, ⟨(some 27), .mv (.s 0), none⟩, ⟨(some 28), .fadr 0 (.s 3), none⟩, ⟨(some 29), .load none (.s 28), none⟩, ⟨(some 30), .iadr 2 (.s 27) (.s 29), none⟩, ⟨(some 31), .load (some 2) (.s 30), none⟩, ⟨(some 32), .call (.c (.fn (.func 44) [] [])) [(.s 26), (.s 31)], none⟩, ⟨(some 4), .mv (.s 32), none⟩] (some []) [4])
 (.ret [4]))))⟩

def xf_law03_alive : XFunc := ⟨none, true, 0, [.tmp 0], (.seq (.reg [⟨(some 0), .mv (.c (.dat (.bool false))), none⟩] none [])
 (.seq (.reg [⟨(some 7), .bsl 24 1 true 3 [(.dat (.int .u64 0)), (.dat (.int .u64 0)), (.dat (.int .u64 0))] [(0, 1, (.c (.dat (.int .u64 0)))), (1, 1, (.c (.dat (.int .u64 0)))), (2, 1, (.c (.dat (.int .u64 0))))], none⟩, ⟨(some 8), .call (.c (.fn (.func 49) [] [])) [(.s 7)], none⟩, ⟨(some 9), .build [(.dat (.int .i64 0)), (.nil 26 2 true)] [(0, 1, (.c (.dat (.int .i64 0)))), (1, 1, (.s 8))], none⟩, ⟨(some 10), .bsl 24 1 true 3 [(.dat (.int .u64 0)), (.dat (.int .u64 0)), (.dat (.int .u64 0))] [(0, 1, (.c (.dat (.int .u64 4)))), (1, 1, (.c (.dat (.int .u64 0)))), (2, 1, (.c (.dat (.int .u64 0))))], none⟩, ⟨(some 11), .call (.c (.fn (.func 49) [] [])) [(.s 10)], none⟩, ⟨(some 12), .build [(.dat (.int .i64 0)), (.nil 26 2 true)] [(0, 1, (.c (.dat (.int .i64 1)))), (1, 1, (.s 11))], none⟩, ⟨(some 13), .bsl 56 2 false 2 [(.dat (.int .i64 0)), (.nil 26 2 true), (.dat (.int .i64 0)), (.nil 26 2 true)] [(0, 2, (.s 9)), (2, 2, (.s 12))], none⟩, ⟨(some 14), .call (.c (.fn (.func 25) [] [])) [(.s 13)], none⟩, ⟨(some 6), .mv (.s 14), none⟩, ⟨(some 15), .ext (.s 6) 0, none⟩, ⟨(some 16), .ext (.s 6) 1, none⟩, ⟨(some 17), .ext (.s 6) 2, none⟩, ⟨(some 1), .mv (.s 15), none⟩, ⟨(some 2), .mv (.s 16), none⟩, ⟨(some 3), .mv (.s 17), none⟩] none [1, 2, 3])
 (.seq (.reg [⟨(some 19), .bsl 24 1 true 3 [(.dat (.int .u64 0)), (.dat (.int .u64 0)), (.dat (.int .u64 0))] [(0, 1, (.c (.dat (.int .u64 5)))), (1, 1, (.c (.dat (.int .u64 0)))), (2, 1, (.c (.dat (.int .u64 0))))], none⟩, ⟨(some 20), .call (.c (.fn (.func 49) [] [])) [(.s 19)], none⟩, ⟨(some 21), .bsl 24 1 true 3 [(.dat (.int .u64 0)), (.dat (.int .u64 0)), (.dat (.int .u64 0))] [(0, 1, (.c (.dat (.int .u64 0)))), (1, 1, (.c (.dat (.int .u64 0)))), (2, 1, (.c (.dat (.int .u64 7))))], none⟩, ⟨(some 22), .call (.c (.fn (.func 49) [] [])) [(.s 21)], none⟩, ⟨(some 23), .bsl 24 1 true 3 [(.dat (.int .u64 0)), (.dat (.int .u64 0)), (.dat (.int .u64 0))] [(0, 1, (.c (.dat (.int .u64 3)))), (1, 1, (.c (.dat (.int .u64 1)))), (2, 1, (.c (.dat (.int .u64 0))))], none⟩, ⟨(some 24), .call (.c (.fn (.func 49) [] [])) [(.s 23)], none⟩, ⟨(some 25), .bsl 23 1 false 3 [(.nil 26 2 true), (.nil 26 2 true), (.nil 26 2 true)] [(0, 1, (.s 20)), (1, 1, (.s 22)), (2, 1, (.s 24))], none⟩, ⟨(some 26), .call (.c (.fn (.func 20) [] [])) [(.s 25)], none⟩, ⟨(some 18), .mv (.s 26), none⟩, ⟨(some 27), .ext (.s 18) 0, none⟩, ⟨(some 28), .ext (.s 18) 1, none⟩, ⟨(some 4), .mv (.s 27), none⟩, ⟨(some 5), .mv (.s 28), none⟩] none [1, 2, 3, 4, 5])
 (.seq (.sreg [(⟨(some 29), .mv (.s 3), none⟩, false), (⟨(some 30), .call (.c (.fn (.func 15) [] [])) [(.s 29)], none⟩, false), (⟨(some 31), .eqv false false [.i] (.s 30) (.c (.dat (.int .i64 0))), none⟩, false), (⟨(some 32), .mv (.s 31), none⟩, false), (⟨(some 33), .mv (.s 1), some (32, true)⟩, true), (⟨(some 34), .eqv false false [.i] (.s 33) (.c (.dat (.int .i64 0))), some (32, true)⟩, true), (⟨(some 35), .pick (.s 32) (.s 34) (.c (.dat (.bool false))), none⟩, false), (⟨(some 36), .mv (.s 35), none⟩, false), (⟨(some 37), .mv (.s 2), some (36, true)⟩, true), (⟨(some 38), .eqv false false [.i] (.s 37) (.c (.dat (.int .i64 1))), some (36, true)⟩, true), (⟨(some 39), .pick (.s 36) (.s 38) (.c (.dat (.bool false))), none⟩, false), (⟨(some 40), .mv (.s 39), none⟩, false), (⟨(some 41), .mv (.s 5), some (40, true)⟩, true), (⟨(some 42), .call (.c (.fn (.func 15) [] [])) [(.s 41)], some (40, true)⟩, false), (⟨(some 43), .eqv false false [.i] (.s 42) (.c (.dat (.int .i64 0))), some (40, true)⟩, false), (⟨(some 44), .pick (.s 40) (.s 43) (.c (.dat (.bool false))), none⟩, false), (⟨(some 45), .mv (.s 44), none⟩, false), (⟨(some 46), .mv (.s 4), some (45, true)⟩, true), (⟨(some 47), .bsl 24 1 true 3 [(.dat (.int .u64 0)), (.dat (.int .u64 0)), (.dat (.int .u64 0))] [(0, 1, (.c (.dat (.int .u64 5)))), (1, 1, (.c (.dat (.int .u64 1)))), (2, 1, (.c (.dat (.int .u64 7))))], some (45, true)⟩, false), (⟨(some 48), .call (.c (.fn (.func 49) [] [])) [(.s 47)], some (45, true)⟩, false), (⟨(some 49), .call (.c (.fn (.func 16) [] [])) [(.s 46), (.s 48)], some (45, true)⟩, false), (⟨(some 50), .pick (.s 45) (.s 49) (.c (.dat (.bool false))), none⟩, false), (⟨(some 0), .mv (.s 50), none⟩, false)] none [0])
 (.ret [0])))))⟩

def xf_law03_part_k0 : List (Nat × Option (Nat × Nat × Bool)) := [(0, none), (1, none), (5, some (56, 2, false)), (6, none)]
def xf_law03_part_b0 : XCode := (.seq (.seq (.reg [⟨(some 7), .mv (.s 6), none⟩, ⟨(some 8), .mv (.s 0), none⟩, ⟨(some 9), .len false (.s 8), none⟩, ⟨(some 10), .bin .lss (.s 7) (.s 9), none⟩] none [0, 1, 5, 6, 10])
 (.cond (.s 10) .skip (.exit 0 [5])))
 (.seq (.block 1 (.seq (.sreg [(⟨(some 13), .mv (.s 6), none⟩, false), (⟨(some 14), .mv (.s 1), none⟩, false), (⟨(some 15), .len false (.s 14), none⟩, false), (⟨(some 16), .bin .lss (.s 13) (.s 15), none⟩, false), (⟨(some 17), .mv (.s 16), none⟩, false), (⟨(some 18), .mv (.s 1), some (17, true)⟩, true), (⟨(some 19), .mv (.s 6), some (17, true)⟩, true), (⟨(some 20), .iadr 1 (.s 18) (.s 19), some (17, true)⟩, false), (⟨(some 21), .load none (.s 20), some (17, true)⟩, false), (⟨(some 22), .pick (.s 17) (.s 21) (.c (.dat (.bool false))), none⟩, false)] none [0, 1, 5, 6, 22])
 (.cond (.s 22) (.reg [⟨(some 23), .mv (.s 5), none⟩, ⟨(some 24), .mv (.s 0), none⟩, ⟨(some 25), .mv (.s 6), none⟩, ⟨(some 26), .iadr 2 (.s 24) (.s 25), none⟩, ⟨(some 27), .load (some 2) (.s 26), none⟩, ⟨(some 28), .bsl 56 2 false 1 [(.dat (.int .i64 0)), (.nil 26 2 true)] [(0, 2, (.s 27))], none⟩, ⟨(some 29), .app 56 2 32 false (.s 23) (.s 28), none⟩, ⟨(some 5), .mv (.s 29), none⟩] none [0, 1, 5, 6]) .skip)))
 (.reg [⟨(some 11), .mv (.s 6), none⟩, ⟨(some 12), .bin .add (.s 11) (.c (.dat (.int .i64 1))), none⟩, ⟨(some 6), .mv (.s 12), none⟩] none [0, 1, 5, 6])))
def xf_law03_part : XFunc := ⟨none, true, 2, [.tmp 4], (.seq (.reg [⟨(some 4), .mv (.c (.nil 56 2 false)), none⟩] none [0, 1])
 (.seq (.reg [⟨(some 5), .mv (.c (.nil 56 2 false)), none⟩] none [0, 1, 5])
 (.seq (.seq (.reg [⟨(some 6), .mv (.c (.dat (.int .i64 0))), none⟩] none [0, 1, 5, 6])
 (.block 0 (.loop xf_law03_part_k0 xf_law03_part_b0)))
 (.seq (.reg [⟨(some 30), .mv (.s 5), none⟩, ⟨(some 4), .mv (.s 30), none⟩] none [4])
 (.ret [4])))))⟩

def xf_plain_Book_Vector : XFunc := ⟨none, false, 2, [], (.seq (.reg [⟨(some 4), .mv (.s 1), none⟩, ⟨(some 5), .len false (.s 4), none⟩, ⟨(some 6), .bin .gtr (.s 5) (.c (.dat (.int .i64 0))), none⟩] none [0, 1, 6])
 (.cond (.s 6) (.reg [⟨(some 7), .mv (.s 0), none⟩, ⟨(some 8), .mv (.s 0), none⟩, ⟨(some 9), .nilchk (.s 8), none⟩, ⟨(some 10), .fadr 2 (.s 9), none⟩, ⟨(some 11), .load none (.s 10), none⟩, ⟨(some 12), .mv (.s 1), none⟩, ⟨(some 13), .bsl 23 1 false 1 [(.nil 26 2 true)] [(0, 1, (.s 12))], none⟩, ⟨(some 14), .app 23 1 24 false (.s 11) (.s 13), none⟩, ⟨(some 15), .nilchk (.s 7), none⟩, ⟨(some 16), .fadr 2 (.s 15), none⟩, ⟨none, .store 1 (.s 16) (.s 14), none⟩] none []) .skip))⟩

def xf_plain_Book_Ints : XFunc := ⟨none, false, 2, [], (.seq (.reg [⟨(some 4), .mv (.s 1), none⟩, ⟨(some 5), .len false (.s 4), none⟩, ⟨(some 6), .bin .gtr (.s 5) (.c (.dat (.int .i64 0))), none⟩] none [0, 1, 6])
 (.cond (.s 6) (.reg [⟨(some 7), .mv (.s 0), none⟩, ⟨(some 8), .mv (.s 0), none⟩, ⟨(some 9), .nilchk (.s 8), none⟩, ⟨(some 10), .fadr 1 (.s 9), none⟩, ⟨(some 11), .load none (.s 10), none⟩, ⟨(some 12), .mv (.s 1), none⟩, ⟨(some 13), .bsl 62 1 false 1 [(.nil 3 1 true)] [(0, 1, (.s 12))], none⟩, ⟨(some 14), .app 62 1 24 false (.s 11) (.s 13), none⟩, ⟨(some 15), .nilchk (.s 7), none⟩, ⟨(some 16), .fadr 1 (.s 15), none⟩, ⟨none, .store 1 (.s 16) (.s 14), none⟩] none []) .skip))⟩

def xf_plain_Book_Apart : XFunc := ⟨none, false, 1, [.tmp 2], (.seq (.reg [⟨(some 2), .mv (.c (.dat (.bool false))), none⟩] none [0])
 (.seq (.sreg [(⟨(some 3), .mv (.s 0), none⟩, false), (⟨(some 4), .call (.c (.fn (.func 50) [] [])) [(.s 3)], none⟩, false), (⟨(some 5), .mv (.s 4), none⟩, false), (⟨(some 6), .mv (.s 0), some (5, true)⟩, true), (⟨(some 7), .call (.c (.fn (.func 51) [] [])) [(.s 6)], some (5, true)⟩, false), (⟨(some 8), .pick (.s 5) (.s 7) (.c (.dat (.bool false))), none⟩, false), (⟨(some 9), .mv (.s 8), none⟩, false), (⟨(some 10), .mv (.s 0), some (9, true)⟩, true), (⟨(some 11), .call (.c (.fn (.func 52) [] [])) [(.s 10)], some (9, true)⟩, false), (⟨(some 12), .pick (.s 9) (.s 11) (.c (.dat (.bool false))), none⟩, false), (⟨(some 13), .mv (.s 12), none⟩, false), (⟨(some 14), .mv (.s 0), some (13, true)⟩, true), (⟨(some 15), .call (.c (.fn (.func 53) [] [])) [(.s 14)], some (13, true)⟩, false), (⟨(some 16), .pick (.s 13) (.s 15) (.c (.dat (.bool false))), none⟩, false), (⟨(some 17), .mv (.s 16), none⟩, false), (⟨(some 18), .mv (.s 0), some (17, true)⟩, true), (⟨(some 19), .call (.c (.fn (.func 54) [] [])) [(.s 18)], some (17, true)⟩, false), (⟨(some 20), .pick (.s 17) (.s 19) (.c (.dat (.bool false))), none⟩, false), (⟨(some 21), .mv (.s 20), none⟩, false), (⟨(some 22), .mv (.s 0), some (21, true)⟩, true), (⟨(some 23), .call (.c (.fn (.func 55) [] [])) [(.s 22)], some (21, true)⟩, false), (⟨(some 24), .pick (.s 21) (.s 23) (.c (.dat (.bool false))), none⟩, false), (⟨(some 25), .mv (.s 24), none⟩, false), (⟨(some 26), .mv (.s 0), some (25, true)⟩, true), (⟨(some 27), .call (.c (.fn (.func 56) [] [])) [(.s 26)], some (25, true)⟩, false), (⟨(some 28), .pick (.s 25) (.s 27) (.c (.dat (.bool false))), none⟩, false), (⟨(some 29), .mv (.s 28), none⟩, false), (⟨(some 30), .mv (.s 0), some (29, true)⟩, true), (⟨(some 31), .call (.c (.fn (.func 57) [] [])) [(.s 30)], some (29, true)⟩, false), (⟨(some 32), .pick (.s 29) (.s 31) (.c (.dat (.bool false))), none⟩, false), (⟨(some 33), .mv (.s 32), none⟩, false), (⟨(some 34), .mv (.s 0), some (33, true)⟩, true), (⟨(some 35), .call (.c (.fn (.func 58) [] [])) [(.s 34)], some (33, true)⟩, false), (⟨(some 36), .pick (.s 33) (.s 35) (.c (.dat (.bool false))), none⟩, false), (⟨(some 37), .mv (.s 36), none⟩, false), (⟨(some 38), .mv (.s 0), some (37, true)⟩, true), (⟨(some 39), .call (.c (.fn (.func 59) [] [])) [(.s 38)], some (37, true)⟩, false), (⟨(some 40), .pick (.s 37) (.s 39) (.c (.dat (.bool false))), none⟩, false), (⟨(some 2), .mv (.s 40), none⟩, false)] none [2])
 (.ret [2])))⟩

def xf_plain_CopyVector : XFunc := ⟨none, false, 1, [.tmp 2], (.seq (.reg [⟨(some 2), .mv (.c (.nil 26 2 true)), none⟩] none [0])
 (.seq (.reg [⟨(some 3), .mv (.s 0), none⟩, ⟨(some 4), .app 26 2 16 true (.c (.nil 26 2 true)) (.s 3), none⟩, ⟨(some 2), .mv (.s 4), none⟩] none [2])
 (.ret [2])))⟩

def xf_vector_fits : XFunc := ⟨none, true, 1, [.tmp 2], (.seq (.reg [⟨(some 2), .mv (.c (.dat (.bool false))), none⟩] none [0])
 (.seq (.sreg [(⟨(some 3), .mv (.s 0), none⟩, false), (⟨(some 4), .len false (.s 3), none⟩, false), (⟨(some 5), .bin .geq (.s 4) (.c (.dat (.int .i64 1))), none⟩, false), (⟨(some 6), .mv (.s 5), none⟩, false), (⟨(some 7), .mv (.s 0), some (6, true)⟩, true), (⟨(some 8), .len false (.s 7), some (6, true)⟩, true), (⟨(some 9), .bin .leq (.s 8) (.c (.dat (.int .i64 7))), some (6, true)⟩, true), (⟨(some 10), .pick (.s 6) (.s 9) (.c (.dat (.bool false))), none⟩, false), (⟨(some 2), .mv (.s 10), none⟩, false)] none [2])
 (.ret [2])))⟩

def xf_ref03_may : XFunc := ⟨none, true, 1, [.tmp 2], (.seq (.reg [⟨(some 2), .mv (.c (.dat (.bool false))), none⟩] none [0])
 (.seq (.sreg [(⟨(some 3), .mv (.s 0), none⟩, false), (⟨(some 4), .len false (.s 3), none⟩, false), (⟨(some 5), .bin .geq (.s 4) (.c (.dat (.int .i64 1))), none⟩, false), (⟨(some 6), .mv (.s 5), none⟩, false), (⟨(some 7), .mv (.s 0), some (6, true)⟩, true), (⟨(some 8), .len false (.s 7), some (6, true)⟩, true), (⟨(some 9), .bin .leq (.s 8) (.c (.dat (.int .i64 7))), some (6, true)⟩, true), (⟨(some 10), .pick (.s 6) (.s 9) (.c (.dat (.bool false))), none⟩, false), (⟨(some 2), .mv (.s 10), none⟩, false)] none [2])
 (.ret [2])))⟩

def xf_plain_SameState : XFunc := ⟨none, true, 2, [.tmp 4], (.seq (.reg [⟨(some 2), .box (.s 0), none⟩, ⟨(some 3), .box (.s 1), none⟩, ⟨(some 4), .mv (.c (.dat (.bool false))), none⟩] none [2, 3])
 (.seq (.sreg [(⟨(some 5), .fadr 0 (.s 2), none⟩, false), (⟨(some 6), .load none (.s 5), none⟩, false), (⟨(some 7), .fadr 0 (.s 3), none⟩, false), (⟨(some 8), .load none (.s 7), none⟩, false), (⟨(some 9), .eqv false false [.i] (.s 6) (.s 8), none⟩, false), (⟨(some 10), .mv (.s 9), none⟩, false), (⟨(some 11), .fadr 1 (.s 2), some (10, true)⟩, true), (⟨(some 12), .load none (.s 11), some (10, true)⟩, true), (⟨(some 13), .fadr 1 (.s 3), some (10, true)⟩, true), (⟨(some 14), .load none (.s 13), some (10, true)⟩, true), (⟨(some 15), .eqv false false [.i] (.s 12) (.s 14), some (10, true)⟩, true), (⟨(some 16), .pick (.s 10) (.s 15) (.c (.dat (.bool false))), none⟩, false), (⟨(some 17), .mv (.s 16), none⟩, false), (⟨(some 18), .fadr 2 (.s 2), some (17, true)⟩, true), (⟨(some 19), .load none (.s 18), some (17, true)⟩, true), (⟨(some 20), .fadr 2 (.s 3), some (17, true)⟩, true), (⟨(some 21), .load none (.s 20), some (17, true)⟩, true), (⟨(some 22), .eqv false false [.i] (.s 19) (.s 21), some (17, true)⟩, true), (⟨(some 23), .pick (.s 17) (.s 22) (.c (.dat (.bool false))), none⟩, false), (⟨(some 24), .mv (.s 23), none⟩, false), (⟨(some 25), .fadr 3 (.s 2), some (24, true)⟩, true), (⟨(some 26), .load none (.s 25), some (24, true)⟩, true), (⟨(some 27), .fadr 3 (.s 3), some (24, true)⟩, true), (⟨(some 28), .load none (.s 27), some (24, true)⟩, true), (⟨(some 29), .eqv false false [.i] (.s 26) (.s 28), some (24, true)⟩, true), (⟨(some 30), .pick (.s 24) (.s 29) (.c (.dat (.bool false))), none⟩, false), (⟨(some 31), .mv (.s 30), none⟩, false), (⟨(some 32), .fadr 5 (.s 2), some (31, true)⟩, true), (⟨(some 33), .load none (.s 32), some (31, true)⟩, true), (⟨(some 34), .fadr 5 (.s 3), some (31, true)⟩, true), (⟨(some 35), .load none (.s 34), some (31, true)⟩, true), (⟨(some 36), .eqv false false [.i] (.s 33) (.s 35), some (31, true)⟩, true), (⟨(some 37), .pick (.s 31) (.s 36) (.c (.dat (.bool false))), none⟩, false), (⟨(some 38), .mv (.s 37), none⟩, false), (⟨(some 39), .fadr 7 (.s 2), some (38, true)⟩, true), (⟨(some 40), .load none (.s 39), some (38, true)⟩, true), (⟨(some 41), .fadr 7 (.s 3), some (38, true)⟩, true), (⟨(some 42), .load none (.s 41), some (38, true)⟩, true), (⟨(some 43), .eqv false false [.i] (.s 40) (.s 42), some (38, true)⟩, true), (⟨(some 44), .pick (.s 38) (.s 43) (.c (.dat (.bool false))), none⟩, false), (⟨(some 45), .mv (.s 44), none⟩, false), (⟨(some 46), .fadr 4 (.s 2), some (45, true)⟩, true), (⟨(some 47), .load none (.s 46), some (45, true)⟩, true), (⟨(some 48), .fadr 4 (.s 3), some (45, true)⟩, true), (⟨(some 49), .load none (.s 48), some (45, true)⟩, true), (⟨(some 50), .call (.c (.fn (.func 42) [] [])) [(.s 47), (.s 49)], some (45, true)⟩, false), (⟨(some 51), .pick (.s 45) (.s 50) (.c (.dat (.bool false))), none⟩, false), (⟨(some 52), .mv (.s 51), none⟩, false), (⟨(some 53), .fadr 6 (.s 2), some (52, true)⟩, true), (⟨(some 54), .load none (.s 53), some (52, true)⟩, true), (⟨(some 55), .fadr 6 (.s 3), some (52, true)⟩, true), (⟨(some 56), .load none (.s 55), some (52, true)⟩, true), (⟨(some 57), .call (.c (.fn (.func 16) [] [])) [(.s 54), (.s 56)], some (52, true)⟩, false), (⟨(some 58), .pick (.s 52) (.s 57) (.c (.dat (.bool false))), none⟩, false), (⟨(some 59), .mv (.s 58), none⟩, false), (⟨(some 60), .fadr 8 (.s 2), some (59, true)⟩, true), (⟨(some 61), .load none (.s 60), some (59, true)⟩, true), (⟨(some 62), .fadr 8 (.s 3), some (59, true)⟩, true), (⟨(some 63), .load none (.s 62), some (59, true)⟩, true), (⟨(some 64), .call (.c (.fn (.func 60) [] [])) [(.s 61), (.s 63)], some (59, true)⟩, false), (⟨(some 65), .pick (.s 59) (.s 64) (.c (.dat (.bool false))), none⟩, false), (⟨(some 66), .mv (.s 65), none⟩, false), (⟨(some 67), .fadr 9 (.s 2), some (66, true)⟩, true), (⟨(some 68), .load none (.s 67), some (66, true)⟩, true), (⟨(some 69), .fadr 9 (.s 3), some (66, true)⟩, true), (⟨(some 70), .load none (.s 69), some (66, true)⟩, true), (⟨(some 71), .call (.c (.fn (.func 61) [] [])) [(.s 68), (.s 70)], some (66, true)⟩, false), (⟨(some 72), .pick (.s 66) (.s 71) (.c (.dat (.bool false))), none⟩, false), (⟨(some 73), .mv (.s 72), none⟩, false), (⟨(some 74), .fadr 10 (.s 2), some (73, true)⟩, true), (⟨(some 75), .load none (.s 74), some (73, true)⟩, true), (⟨(some 76), .fadr 10 (.s 3), some (73, true)⟩, true), (⟨(some 77), .load none (.s 76), some (73, true)⟩, true), (⟨(some 78), .call (.c (.fn (.func 62) [] [])) [(.s 75), (.s 77)], some (73, true)⟩, false), (⟨(some 79), .pick (.s 73) (.s 78) (.c (.dat (.bool false))), none⟩, false), (⟨(some 80), .mv (.s 79), none⟩, false), (⟨(some 81), .fadr 11 (.s 2), some (80, true)⟩, true), (⟨(some 82), .load none (.s 81), some (80, true)⟩, true), (⟨(some 83), .fadr 11 (.s 3), some (80, true)⟩, true), (⟨(some 84), .load none (.s 83), some (80, true)⟩, true), (⟨(some 85), .call (.c (.fn (.func 63) [] [])) [(.s 82), (.s 84)], some (80, true)⟩, false), (⟨(some 86), .pick (.s 80) (.s 85) (.c (.dat (.bool false))), none⟩, false), (⟨(some 4), .mv (.s 86), none⟩, false)] none [4])
 (.ret [4])))⟩

def xf_plain_SameEntries_k0 : List (Nat × Option (Nat × Nat × Bool)) := [(0, none), (1, none), (5, none)]
def xf_plain_SameEntries_b0 : XCode := (.seq (.seq (.reg [⟨(some 11), .mv (.s 5), none⟩, ⟨(some 12), .mv (.s 0), none⟩, ⟨(some 13), .len false (.s 12), none⟩, ⟨(some 14), .bin .lss (.s 11) (.s 13), none⟩] none [0, 1, 5, 14])
 (.cond (.s 14) .skip (.exit 0 [])))
 (.seq (.block 1 (.seq (.reg [⟨(some 17), .mv (.s 0), none⟩, ⟨(some 18), .mv (.s 5), none⟩, ⟨(some 19), .iadr 5 (.s 17) (.s 18), none⟩, ⟨(some 20), .load (some 5) (.s 19), none⟩, ⟨(some 21), .mv (.s 1), none⟩, ⟨(some 22), .mv (.s 5), none⟩, ⟨(some 23), .iadr 5 (.s 21) (.s 22), none⟩, ⟨(some 24), .load (some 5) (.s 23), none⟩, ⟨(some 25), .eqv true true [.i, .i, .i, .i, .s] (.s 20) (.s 24), none⟩] (some []) [0, 1, 5, 25])
 (.cond (.s 25) (.seq (.reg [⟨(some 4), .mv (.c (.dat (.bool false))), none⟩] none [4])
 (.ret [4])) .skip)))
 (.reg [⟨(some 15), .mv (.s 5), none⟩, ⟨(some 16), .bin .add (.s 15) (.c (.dat (.int .i64 1))), none⟩, ⟨(some 5), .mv (.s 16), none⟩] none [0, 1, 5])))
def xf_plain_SameEntries : XFunc := ⟨none, true, 2, [.tmp 4], (.seq (.reg [⟨(some 4), .mv (.c (.dat (.bool false))), none⟩] none [0, 1])
 (.seq (.seq (.reg [⟨(some 6), .mv (.s 0), none⟩, ⟨(some 7), .len false (.s 6), none⟩, ⟨(some 8), .mv (.s 1), none⟩, ⟨(some 9), .len false (.s 8), none⟩, ⟨(some 10), .eqv true false [.i] (.s 7) (.s 9), none⟩] none [0, 1, 10])
 (.cond (.s 10) (.seq (.reg [⟨(some 4), .mv (.c (.dat (.bool false))), none⟩] none [4])
 (.ret [4])) .skip))
 (.seq (.seq (.reg [⟨(some 5), .mv (.c (.dat (.int .i64 0))), none⟩] none [0, 1, 5])
 (.block 0 (.loop xf_plain_SameEntries_k0 xf_plain_SameEntries_b0)))
 (.seq (.reg [⟨(some 4), .mv (.c (.dat (.bool true))), none⟩] none [4])
 (.ret [4])))))⟩

def xf_nonce_Compare : XFunc := ⟨none, true, 2, [.tmp 4], (.seq (.reg [⟨(some 2), .box (.s 0), none⟩, ⟨(some 3), .box (.s 1), none⟩, ⟨(some 4), .mv (.c (.dat (.int .i64 0))), none⟩] none [2, 3])
 (.seq (.block 0 (.seq (.reg [⟨(some 6), .load (some 2) (.s 2), none⟩, ⟨(some 7), .load (some 2) (.s 3), none⟩, ⟨(some 8), .eqv false true [.i, .i] (.s 6) (.s 7), none⟩, ⟨(some 5), .mv (.s 8), none⟩] none [2, 3, 5])
 (.cond (.s 5) (.seq (.reg [⟨(some 4), .mv (.c (.dat (.int .i64 0))), none⟩] none [4])
 (.ret [4])) (.seq (.seq (.reg [⟨(some 10), .fadr 0 (.s 2), none⟩, ⟨(some 11), .load none (.s 10), none⟩, ⟨(some 12), .fadr 0 (.s 3), none⟩, ⟨(some 13), .load none (.s 12), none⟩, ⟨(some 14), .bin .lss (.s 11) (.s 13), none⟩, ⟨(some 9), .mv (.s 14), none⟩] none [2, 3, 9])
 (.cond (.s 9) .skip (.sreg [(⟨(some 15), .fadr 0 (.s 2), none⟩, false), (⟨(some 16), .load none (.s 15), none⟩, false), (⟨(some 17), .fadr 0 (.s 3), none⟩, false), (⟨(some 18), .load none (.s 17), none⟩, false), (⟨(some 19), .eqv false false [.i] (.s 16) (.s 18), none⟩, false), (⟨(some 20), .mv (.s 19), none⟩, false), (⟨(some 21), .fadr 1 (.s 2), some (20, true)⟩, true), (⟨(some 22), .load none (.s 21), some (20, true)⟩, true), (⟨(some 23), .fadr 1 (.s 3), some (20, true)⟩, true), (⟨(some 24), .load none (.s 23), some (20, true)⟩, true), (⟨(some 25), .bin .lss (.s 22) (.s 24), some (20, true)⟩, true), (⟨(some 26), .pick (.s 20) (.s 25) (.c (.dat (.bool false))), none⟩, false), (⟨(some 9), .mv (.s 26), none⟩, false)] none [9])))
 (.cond (.s 9) (.seq (.reg [⟨(some 4), .mv (.c (.dat (.int .i64 (-1)))), none⟩] none [4])
 (.ret [4])) .skip)))))
 (.seq (.reg [⟨(some 4), .mv (.c (.dat (.int .i64 1))), none⟩] none [4])
 (.ret [4]))))⟩

def xf_ref03_below : XFunc := ⟨none, true, 2, [.tmp 4], (.seq (.reg [⟨(some 2), .box (.s 0), none⟩, ⟨(some 3), .box (.s 1), none⟩, ⟨(some 4), .mv (.c (.dat (.bool false))), none⟩] none [2, 3])
 (.seq (.reg [⟨(some 5), .load (some 2) (.s 2), none⟩, ⟨(some 6), .load (some 2) (.s 3), none⟩, ⟨(some 7), .call (.c (.fn (.func 64) [] [])) [(.s 5), (.s 6)], none⟩, ⟨(some 8), .bin .lss (.s 7) (.c (.dat (.int .i64 0))), none⟩, ⟨(some 4), .mv (.s 8), none⟩] none [4])
 (.ret [4])))⟩

def xf_vector_speak_k0 : List (Nat × Option (Nat × Nat × Bool)) := [(0, none), (5, some (56, 2, false)), (6, none), (7, none)]
def xf_vector_speak_b0 : XCode := (.seq (.reg [⟨(some 8), .bin .lss (.s 7) (.s 6), none⟩] none [0, 5, 6, 7, 8])
 (.seq (.cond (.s 8) .skip (.exit 0 []))
 (.seq (.block 1 (.seq (.reg [⟨(some 9), .iadr 2 (.s 5) (.s 7), none⟩, ⟨(some 10), .load (some 2) (.s 9), none⟩, ⟨(some 4), .alloc [(.dat (.int .i64 0)), (.nil 26 2 true)], none⟩, ⟨none, .store 2 (.s 4) (.s 10), none⟩] none [0, 4, 5, 6, 7])
 (.seq (.sreg [(⟨(some 11), .load (some 2) (.s 4), none⟩, false), (⟨(some 12), .call (.c (.fn (.func 47) [] [])) [(.s 11)], none⟩, false), (⟨(some 13), .not (.s 12), none⟩, false), (⟨(some 14), .mv (.s 13), none⟩, false), (⟨(some 15), .fadr 1 (.s 4), some (14, false)⟩, true), (⟨(some 16), .load none (.s 15), some (14, false)⟩, true), (⟨(some 17), .len false (.s 16), some (14, false)⟩, true), (⟨(some 18), .mv (.s 0), some (14, false)⟩, true), (⟨(some 19), .iadr 2 (.s 18) (.c (.dat (.int .i64 0))), some (14, false)⟩, false), (⟨(some 20), .fadr 1 (.s 19), some (14, false)⟩, false), (⟨(some 21), .load none (.s 20), some (14, false)⟩, false), (⟨(some 22), .len false (.s 21), some (14, false)⟩, false), (⟨(some 23), .eqv true false [.i] (.s 17) (.s 22), some (14, false)⟩, false), (⟨(some 24), .pick (.s 14) (.c (.dat (.bool true))) (.s 23), none⟩, false)] (some []) [0, 5, 6, 7, 24])
 (.cond (.s 24) (.seq (.reg [⟨(some 2), .mv (.c (.dat (.bool false))), none⟩] none [2])
 (.ret [2])) .skip))))
 (.reg [⟨(some 25), .bin .add (.s 7) (.c (.dat (.int .i64 1))), none⟩, ⟨(some 7), .mv (.s 25), none⟩] none [0, 5, 6, 7]))))
def xf_vector_speak : XFunc := ⟨none, true, 1, [.tmp 2], (.seq (.reg [⟨(some 2), .mv (.c (.dat (.bool false))), none⟩] none [0])
 (.seq (.seq (.reg [⟨(some 5), .mv (.s 0), none⟩, ⟨(some 6), .len false (.s 5), none⟩, ⟨(some 7), .mv (.c (.dat (.int .i64 0))), none⟩] none [0, 5, 6, 7])
 (.block 0 (.loop xf_vector_speak_k0 xf_vector_speak_b0)))
 (.seq (.reg [⟨(some 2), .mv (.c (.dat (.bool true))), none⟩] none [2])
 (.ret [2]))))⟩

def xf_ref03_voices_k0 : List (Nat × Option (Nat × Nat × Bool)) := [(0, none), (3, none)]
def xf_ref03_voices_b0 : XCode := (.seq (.seq (.reg [⟨(some 4), .mv (.s 3), none⟩, ⟨(some 5), .mv (.s 0), none⟩, ⟨(some 6), .len false (.s 5), none⟩, ⟨(some 7), .bin .lss (.s 4) (.s 6), none⟩] none [0, 3, 7])
 (.cond (.s 7) .skip (.exit 0 [])))
 (.seq (.block 1 (.seq (.sreg [(⟨(some 10), .mv (.s 0), none⟩, false), (⟨(some 11), .mv (.s 3), none⟩, false), (⟨(some 12), .iadr 2 (.s 10) (.s 11), none⟩, false), (⟨(some 13), .load (some 2) (.s 12), none⟩, false), (⟨(some 14), .call (.c (.fn (.func 48) [] [])) [(.s 13)], none⟩, false), (⟨(some 15), .not (.s 14), none⟩, false), (⟨(some 16), .mv (.s 15), none⟩, false), (⟨(some 17), .mv (.s 0), some (16, false)⟩, true), (⟨(some 18), .mv (.s 3), some (16, false)⟩, true), (⟨(some 19), .iadr 2 (.s 17) (.s 18), some (16, false)⟩, false), (⟨(some 20), .fadr 1 (.s 19), some (16, false)⟩, false), (⟨(some 21), .load none (.s 20), some (16, false)⟩, false), (⟨(some 22), .len false (.s 21), some (16, false)⟩, false), (⟨(some 23), .mv (.s 0), some (16, false)⟩, true), (⟨(some 24), .iadr 2 (.s 23) (.c (.dat (.int .i64 0))), some (16, false)⟩, false), (⟨(some 25), .fadr 1 (.s 24), some (16, false)⟩, false), (⟨(some 26), .load none (.s 25), some (16, false)⟩, false), (⟨(some 27), .len false (.s 26), some (16, false)⟩, false), (⟨(some 28), .eqv true false [.i] (.s 22) (.s 27), some (16, false)⟩, false), (⟨(some 29), .pick (.s 16) (.c (.dat (.bool true))) (.s 28), none⟩, false)] (some []) [0, 3, 29])
 (.cond (.s 29) (.seq (.reg [⟨(some 2), .mv (.c (.dat (.int .i64 30))), none⟩] none [2])
 (.ret [2])) .skip)))
 (.reg [⟨(some 8), .mv (.s 3), none⟩, ⟨(some 9), .bin .add (.s 8) (.c (.dat (.int .i64 1))), none⟩, ⟨(some 3), .mv (.s 9), none⟩] none [0, 3])))
def xf_ref03_voices : XFunc := ⟨none, true, 1, [.tmp 2], (.seq (.reg [⟨(some 2), .mv (.c (.dat (.int .i64 0))), none⟩] none [0])
 (.seq (.seq (.reg [⟨(some 3), .mv (.c (.dat (.int .i64 0))), none⟩] none [0, 3])
 (.block 0 (.loop xf_ref03_voices_k0 xf_ref03_voices_b0)))
 (.seq (.reg [⟨(some 2), .mv (.c (.dat (.int .i64 0))), none⟩] none [2])
 (.ret [2]))))⟩

def xf_vector_speaks : XFunc := ⟨none, true, 1, [.tmp 2], (.seq (.reg [⟨(some 1), .box (.s 0), none⟩, ⟨(some 2), .mv (.c (.dat (.bool false))), none⟩] none [1])
 (.seq (.sreg [(⟨(some 3), .fadr 1 (.s 1), none⟩, false), (⟨(some 4), .load none (.s 3), none⟩, false), (⟨(some 5), .call (.c (.fn (.func 38) [] [])) [(.s 4)], none⟩, false), (⟨(some 6), .mv (.s 5), none⟩, false), (⟨(some 7), .fadr 0 (.s 1), some (6, true)⟩, true), (⟨(some 8), .load none (.s 7), some (6, true)⟩, true), (⟨(some 9), .bin .geq (.s 8) (.c (.dat (.int .i64 0))), some (6, true)⟩, true), (⟨(some 10), .pick (.s 6) (.s 9) (.c (.dat (.bool false))), none⟩, false), (⟨(some 11), .mv (.s 10), none⟩, false), (⟨(some 12), .fadr 0 (.s 1), some (11, true)⟩, true), (⟨(some 13), .load none (.s 12), some (11, true)⟩, true), (⟨(some 14), .fadr 1 (.s 1), some (11, true)⟩, true), (⟨(some 15), .load none (.s 14), some (11, true)⟩, true), (⟨(some 16), .len false (.s 15), some (11, true)⟩, true), (⟨(some 17), .bin .lss (.s 13) (.s 16), some (11, true)⟩, true), (⟨(some 18), .pick (.s 11) (.s 17) (.c (.dat (.bool false))), none⟩, false), (⟨(some 2), .mv (.s 18), none⟩, false)] none [2])
 (.ret [2])))⟩

def xf_ref03_mayVoice : XFunc := ⟨none, true, 1, [.tmp 2], (.seq (.reg [⟨(some 1), .box (.s 0), none⟩, ⟨(some 2), .mv (.c (.dat (.bool false))), none⟩] none [1])
 (.seq (.sreg [(⟨(some 3), .fadr 1 (.s 1), none⟩, false), (⟨(some 4), .load none (.s 3), none⟩, false), (⟨(some 5), .call (.c (.fn (.func 39) [] [])) [(.s 4)], none⟩, false), (⟨(some 6), .mv (.s 5), none⟩, false), (⟨(some 7), .fadr 0 (.s 1), some (6, true)⟩, true), (⟨(some 8), .load none (.s 7), some (6, true)⟩, true), (⟨(some 9), .bin .geq (.s 8) (.c (.dat (.int .i64 0))), some (6, true)⟩, true), (⟨(some 10), .pick (.s 6) (.s 9) (.c (.dat (.bool false))), none⟩, false), (⟨(some 11), .mv (.s 10), none⟩, false), (⟨(some 12), .fadr 0 (.s 1), some (11, true)⟩, true), (⟨(some 13), .load none (.s 12), some (11, true)⟩, true), (⟨(some 14), .fadr 1 (.s 1), some (11, true)⟩, true), (⟨(some 15), .load none (.s 14), some (11, true)⟩, true), (⟨(some 16), .len false (.s 15), some (11, true)⟩, true), (⟨(some 17), .bin .lss (.s 13) (.s 16), some (11, true)⟩, true), (⟨(some 18), .pick (.s 11) (.s 17) (.c (.dat (.bool false))), none⟩, false), (⟨(some 2), .mv (.s 18), none⟩, false)] none [2])
 (.ret [2])))⟩

def xf_law03_lo_k0 : List (Nat × Option (Nat × Nat × Bool)) := [(0, none), (3, some (26, 2, true)), (4, none)]
def xf_law03_lo_b0 : XCode := (.seq (.seq (.reg [⟨(some 5), .mv (.s 4), none⟩, ⟨(some 6), .mv (.s 0), none⟩, ⟨(some 7), .len false (.s 6), none⟩, ⟨(some 8), .bin .lss (.s 5) (.s 7), none⟩] none [0, 3, 4, 8])
 (.cond (.s 8) .skip (.exit 0 [3])))
 (.seq (.block 1 (.reg [⟨(some 11), .mv (.s 3), none⟩, ⟨(some 12), .mv (.s 0), none⟩, ⟨(some 13), .mv (.s 4), none⟩, ⟨(some 14), .iadr 1 (.s 12) (.s 13), none⟩, ⟨(some 15), .load none (.s 14), none⟩, ⟨(some 16), .build [(.dat (.int .u64 0)), (.dat (.int .u64 0))] [(1, 1, (.s 15))], none⟩, ⟨(some 17), .bsl 26 2 true 1 [(.dat (.int .u64 0)), (.dat (.int .u64 0))] [(0, 2, (.s 16))], none⟩, ⟨(some 18), .app 26 2 16 true (.s 11) (.s 17), none⟩, ⟨(some 3), .mv (.s 18), none⟩] none [0, 3, 4]))
 (.reg [⟨(some 9), .mv (.s 4), none⟩, ⟨(some 10), .bin .add (.s 9) (.c (.dat (.int .i64 1))), none⟩, ⟨(some 4), .mv (.s 10), none⟩] none [0, 3, 4])))
def xf_law03_lo : XFunc := ⟨none, true, 1, [.tmp 2], (.seq (.reg [⟨(some 2), .mv (.c (.nil 26 2 true)), none⟩] none [0])
 (.seq (.reg [⟨(some 3), .mv (.c (.nil 26 2 true)), none⟩] none [0, 3])
 (.seq (.seq (.reg [⟨(some 4), .mv (.c (.dat (.int .i64 0))), none⟩] none [0, 3, 4])
 (.block 0 (.loop xf_law03_lo_k0 xf_law03_lo_b0)))
 (.seq (.reg [⟨(some 19), .mv (.s 3), none⟩, ⟨(some 2), .mv (.s 19), none⟩] none [2])
 (.ret [2])))))⟩

def xf_plain_Book_apartBytes_k1 : List (Nat × Option (Nat × Nat × Bool)) := [(3, some (88, 1, false)), (4, none), (5, none)]
def xf_plain_Book_apartBytes_b1 : XCode := (.seq (.seq (.reg [⟨(some 22), .mv (.s 5), none⟩, ⟨(some 23), .mv (.s 3), none⟩, ⟨(some 24), .mv (.s 4), none⟩, ⟨(some 25), .iadr 1 (.s 23) (.s 24), none⟩, ⟨(some 26), .load none (.s 25), none⟩, ⟨(some 27), .len false (.s 26), none⟩, ⟨(some 28), .bin .lss (.s 22) (.s 27), none⟩] none [3, 4, 5, 28])
 (.cond (.s 28) .skip (.exit 2 [3, 4])))
 (.seq (.block 3 (.reg [⟨(some 31), .mv (.s 3), none⟩, ⟨(some 32), .mv (.s 4), none⟩, ⟨(some 33), .iadr 1 (.s 31) (.s 32), none⟩, ⟨(some 34), .load none (.s 33), none⟩, ⟨(some 35), .mv (.s 5), none⟩, ⟨(some 36), .mv (.s 4), none⟩, ⟨(some 37), .mv (.s 5), none⟩, ⟨(some 38), .call (.c (.fn (.func 65) [] [])) [(.s 36), (.s 37)], none⟩, ⟨(some 39), .iadr 1 (.s 34) (.s 35), none⟩, ⟨none, .store 1 (.s 39) (.s 38), none⟩] (some [(2, 7), (3, 7)]) [3, 4, 5]))
 (.reg [⟨(some 29), .mv (.s 5), none⟩, ⟨(some 30), .bin .add (.s 29) (.c (.dat (.int .i64 1))), none⟩, ⟨(some 5), .mv (.s 30), none⟩] none [3, 4, 5])))
def xf_plain_Book_apartBytes_k0 : List (Nat × Option (Nat × Nat × Bool)) := [(3, some (88, 1, false)), (4, none)]
def xf_plain_Book_apartBytes_b0 : XCode := (.seq (.seq (.reg [⟨(some 16), .mv (.s 4), none⟩, ⟨(some 17), .mv (.s 3), none⟩, ⟨(some 18), .len false (.s 17), none⟩, ⟨(some 19), .bin .lss (.s 16) (.s 18), none⟩] none [3, 4, 19])
 (.cond (.s 19) .skip (.exit 0 [3])))
 (.seq (.block 1 (.seq (.reg [⟨(some 5), .mv (.c (.dat (.int .i64 0))), none⟩] none [3, 4, 5])
 (.block 2 (.loop xf_plain_Book_apartBytes_k1 xf_plain_Book_apartBytes_b1))))
 (.reg [⟨(some 20), .mv (.s 4), none⟩, ⟨(some 21), .bin .add (.s 20) (.c (.dat (.int .i64 1))), none⟩, ⟨(some 4), .mv (.s 21), none⟩] none [3, 4])))
def xf_plain_Book_apartBytes_k3 : List (Nat × Option (Nat × Nat × Bool)) := [(3, some (88, 1, false)), (6, some (88, 1, false)), (7, none), (8, some (5, 1, true)), (9, none)]
def xf_plain_Book_apartBytes_b3 : XCode := (.seq (.seq (.reg [⟨(some 50), .mv (.s 9), none⟩, ⟨(some 51), .bin .lss (.s 50) (.c (.dat (.int .i64 70))), none⟩] none [3, 6, 7, 8, 9, 51])
 (.cond (.s 51) .skip (.exit 6 [3, 6, 7, 8])))
 (.seq (.block 7 (.reg [⟨(some 54), .mv (.s 8), none⟩, ⟨(some 55), .mv (.s 7), none⟩, ⟨(some 56), .mv (.s 8), none⟩, ⟨(some 57), .len false (.s 56), none⟩, ⟨(some 58), .call (.c (.fn (.func 65) [] [])) [(.s 55), (.s 57)], none⟩, ⟨(some 59), .bsl 5 1 true 1 [(.dat (.int .u8 0))] [(0, 1, (.s 58))], none⟩, ⟨(some 60), .app 5 1 1 true (.s 54) (.s 59), none⟩, ⟨(some 8), .mv (.s 60), none⟩] none [3, 6, 7, 8, 9]))
 (.reg [⟨(some 52), .mv (.s 9), none⟩, ⟨(some 53), .bin .add (.s 52) (.c (.dat (.int .i64 1))), none⟩, ⟨(some 9), .mv (.s 53), none⟩] none [3, 6, 7, 8, 9])))
def xf_plain_Book_apartBytes_k2 : List (Nat × Option (Nat × Nat × Bool)) := [(3, some (88, 1, false)), (6, some (88, 1, false)), (7, none)]
def xf_plain_Book_apartBytes_b2 : XCode := (.seq (.seq (.reg [⟨(some 40), .mv (.s 7), none⟩, ⟨(some 41), .mv (.s 3), none⟩, ⟨(some 42), .len false (.s 41), none⟩, ⟨(some 43), .bin .lss (.s 40) (.s 42), none⟩] none [3, 6, 7, 43])
 (.cond (.s 43) .skip (.exit 4 [3, 6])))
 (.seq (.block 5 (.seq (.reg [⟨(some 46), .mv (.s 3), none⟩, ⟨(some 47), .mv (.s 7), none⟩, ⟨(some 48), .iadr 1 (.s 46) (.s 47), none⟩, ⟨(some 49), .load none (.s 48), none⟩, ⟨(some 8), .mv (.s 49), none⟩] none [3, 6, 7, 8])
 (.seq (.seq (.reg [⟨(some 9), .mv (.c (.dat (.int .i64 0))), none⟩] none [3, 6, 7, 8, 9])
 (.block 6 (.loop xf_plain_Book_apartBytes_k3 xf_plain_Book_apartBytes_b3)))
 (.reg [⟨(some 61), .mv (.s 6), none⟩, ⟨(some 62), .mv (.s 8), none⟩, ⟨(some 63), .bsl 88 1 false 1 [(.nil 5 1 true)] [(0, 1, (.s 62))], none⟩, ⟨(some 64), .app 88 1 24 false (.s 61) (.s 63), none⟩, ⟨(some 6), .mv (.s 64), none⟩] none [3, 6, 7]))))
 (.reg [⟨(some 44), .mv (.s 7), none⟩, ⟨(some 45), .bin .add (.s 44) (.c (.dat (.int .i64 1))), none⟩, ⟨(some 7), .mv (.s 45), none⟩] none [3, 6, 7])))
def xf_plain_Book_apartBytes_k5 : List (Nat × Option (Nat × Nat × Bool)) := [(3, some (88, 1, false)), (6, some (88, 1, false)), (10, none), (11, none)]
def xf_plain_Book_apartBytes_b5 : XCode := (.seq (.seq (.reg [⟨(some 71), .mv (.s 11), none⟩, ⟨(some 72), .mv (.s 6), none⟩, ⟨(some 73), .mv (.s 10), none⟩, ⟨(some 74), .iadr 1 (.s 72) (.s 73), none⟩, ⟨(some 75), .load none (.s 74), none⟩, ⟨(some 76), .len false (.s 75), none⟩, ⟨(some 77), .bin .lss (.s 71) (.s 76), none⟩] none [3, 6, 10, 11, 77])
 (.cond (.s 77) .skip (.exit 10 [3, 6, 10])))
 (.seq (.block 11 (.seq (.sreg [(⟨(some 80), .mv (.s 6), none⟩, false), (⟨(some 81), .mv (.s 10), none⟩, false), (⟨(some 82), .iadr 1 (.s 80) (.s 81), none⟩, false), (⟨(some 83), .load none (.s 82), none⟩, false), (⟨(some 84), .mv (.s 11), none⟩, false), (⟨(some 85), .iadr 1 (.s 83) (.s 84), none⟩, false), (⟨(some 86), .load none (.s 85), none⟩, false), (⟨(some 87), .mv (.s 10), none⟩, false), (⟨(some 88), .mv (.s 11), none⟩, false), (⟨(some 89), .call (.c (.fn (.func 65) [] [])) [(.s 87), (.s 88)], none⟩, false), (⟨(some 90), .eqv true false [.i] (.s 86) (.s 89), none⟩, false), (⟨(some 91), .mv (.s 90), none⟩, false), (⟨(some 92), .mv (.s 11), some (91, false)⟩, true), (⟨(some 93), .mv (.s 3), some (91, false)⟩, true), (⟨(some 94), .mv (.s 10), some (91, false)⟩, true), (⟨(some 95), .iadr 1 (.s 93) (.s 94), some (91, false)⟩, false), (⟨(some 96), .load none (.s 95), some (91, false)⟩, false), (⟨(some 97), .len false (.s 96), some (91, false)⟩, false), (⟨(some 98), .bin .lss (.s 92) (.s 97), some (91, false)⟩, false), (⟨(some 99), .mv (.s 98), some (91, false)⟩, false), (⟨(some 100), .mv (.s 3), some (99, true)⟩, true), (⟨(some 101), .mv (.s 10), some (99, true)⟩, true), (⟨(some 102), .iadr 1 (.s 100) (.s 101), some (99, true)⟩, false), (⟨(some 103), .load none (.s 102), some (99, true)⟩, false), (⟨(some 104), .mv (.s 11), some (99, true)⟩, true), (⟨(some 105), .iadr 1 (.s 103) (.s 104), some (99, true)⟩, false), (⟨(some 106), .load none (.s 105), some (99, true)⟩, false), (⟨(some 107), .mv (.s 10), some (99, true)⟩, true), (⟨(some 108), .mv (.s 11), some (99, true)⟩, true), (⟨(some 109), .call (.c (.fn (.func 65) [] [])) [(.s 107), (.s 108)], some (99, true)⟩, false), (⟨(some 110), .eqv true false [.i] (.s 106) (.s 109), some (99, true)⟩, false), (⟨(some 111), .pick (.s 99) (.s 110) (.c (.dat (.bool false))), some (91, false)⟩, false), (⟨(some 112), .pick (.s 91) (.c (.dat (.bool true))) (.s 111), none⟩, false)] (some [(2, 9), (3, 9), (5, 9), (6, 9), (22, 29), (23, 29), (25, 29), (26, 29)]) [3, 6, 10, 11, 112])
 (.cond (.s 112) (.seq (.reg [⟨(some 2), .mv (.c (.dat (.bool false))), none⟩] none [2])
 (.ret [2])) .skip)))
 (.reg [⟨(some 78), .mv (.s 11), none⟩, ⟨(some 79), .bin .add (.s 78) (.c (.dat (.int .i64 1))), none⟩, ⟨(some 11), .mv (.s 79), none⟩] none [3, 6, 10, 11])))
def xf_plain_Book_apartBytes_k4 : List (Nat × Option (Nat × Nat × Bool)) := [(3, some (88, 1, false)), (6, some (88, 1, false)), (10, none)]
def xf_plain_Book_apartBytes_b4 : XCode := (.seq (.seq (.reg [⟨(some 65), .mv (.s 10), none⟩, ⟨(some 66), .mv (.s 3), none⟩, ⟨(some 67), .len false (.s 66), none⟩, ⟨(some 68), .bin .lss (.s 65) (.s 67), none⟩] none [3, 6, 10, 68])
 (.cond (.s 68) .skip (.exit 8 [])))
 (.seq (.block 9 (.seq (.reg [⟨(some 11), .mv (.c (.dat (.int .i64 0))), none⟩] none [3, 6, 10, 11])
 (.block 10 (.loop xf_plain_Book_apartBytes_k5 xf_plain_Book_apartBytes_b5))))
 (.reg [⟨(some 69), .mv (.s 10), none⟩, ⟨(some 70), .bin .add (.s 69) (.c (.dat (.int .i64 1))), none⟩, ⟨(some 10), .mv (.s 70), none⟩] none [3, 6, 10])))
def xf_plain_Book_apartBytes : XFunc := ⟨none, false, 1, [.tmp 2], (.seq (.reg [⟨(some 2), .mv (.c (.dat (.bool false))), none⟩] none [0])
 (.seq (.reg [⟨(some 12), .mv (.s 0), none⟩, ⟨(some 13), .nilchk (.s 12), none⟩, ⟨(some 14), .fadr 0 (.s 13), none⟩, ⟨(some 15), .load none (.s 14), none⟩, ⟨(some 3), .mv (.s 15), none⟩] none [3])
 (.seq (.seq (.reg [⟨(some 4), .mv (.c (.dat (.int .i64 0))), none⟩] none [3, 4])
 (.block 0 (.loop xf_plain_Book_apartBytes_k0 xf_plain_Book_apartBytes_b0)))
 (.seq (.reg [⟨(some 6), .mv (.c (.nil 88 1 false)), none⟩] none [3, 6])
 (.seq (.seq (.reg [⟨(some 7), .mv (.c (.dat (.int .i64 0))), none⟩] none [3, 6, 7])
 (.block 4 (.loop xf_plain_Book_apartBytes_k2 xf_plain_Book_apartBytes_b2)))
 (.seq (.seq (.reg [⟨(some 10), .mv (.c (.dat (.int .i64 0))), none⟩] none [3, 6, 10])
 (.block 8 (.loop xf_plain_Book_apartBytes_k4 xf_plain_Book_apartBytes_b4)))
 (.seq (.reg [⟨(some 2), .mv (.c (.dat (.bool true))), none⟩] none [2])
 (.ret [2]))))))))⟩
theorem r_ref03_Merge : progT Try.prog 21 = some xf_ref03_Merge.plain := by kernel_rfl
theorem r_vector_Compare : progT Try.prog 22 = some xf_vector_Compare.plain := by kernel_rfl
theorem r_ref03_Compare : progT Try.prog 23 = some xf_ref03_Compare.plain := by kernel_rfl
theorem r_plain_Given_Voices : progT Try.prog 24 = some xf_plain_Given_Voices.plain := by kernel_rfl
theorem r_vector_Consistent : progT Try.prog 25 = some xf_vector_Consistent.plain := by kernel_rfl
theorem r_ref03_Consistent : progT Try.prog 26 = some xf_ref03_Consistent.plain := by kernel_rfl
theorem r_vector_Alive : progT Try.prog 27 = some xf_vector_Alive.plain := by kernel_rfl
theorem r_ref03_Alive : progT Try.prog 28 = some xf_ref03_Alive.plain := by kernel_rfl
theorem r_plain_SameInts : progT Try.prog 29 = some xf_plain_SameInts.plain := by kernel_rfl
theorem r_vector_Over : progT Try.prog 30 = some xf_vector_Over.plain := by kernel_rfl
theorem r_ref03_Over : progT Try.prog 31 = some xf_ref03_Over.plain := by kernel_rfl
theorem r_law03_alive : progT Try.prog 32 = some xf_law03_alive.plain := by kernel_rfl
theorem r_law03_part : progT Try.prog 33 = some xf_law03_part.plain := by kernel_rfl
theorem r_plain_Book_Vector : progT Try.prog 34 = some xf_plain_Book_Vector.plain := by kernel_rfl
theorem r_plain_Book_Ints : progT Try.prog 35 = some xf_plain_Book_Ints.plain := by kernel_rfl
theorem r_plain_Book_Apart : progT Try.prog 36 = some xf_plain_Book_Apart.plain := by kernel_rfl
theorem r_plain_CopyVector : progT Try.prog 37 = some xf_plain_CopyVector.plain := by kernel_rfl
theorem r_vector_fits : progT Try.prog 38 = some xf_vector_fits.plain := by kernel_rfl
theorem r_ref03_may : progT Try.prog 39 = some xf_ref03_may.plain := by kernel_rfl
theorem r_plain_SameState : progT Try.prog 41 = some xf_plain_SameState.plain := by kernel_rfl
theorem r_plain_SameEntries : progT Try.prog 42 = some xf_plain_SameEntries.plain := by kernel_rfl
theorem r_nonce_Compare : progT Try.prog 43 = some xf_nonce_Compare.plain := by kernel_rfl
theorem r_ref03_below : progT Try.prog 44 = some xf_ref03_below.plain := by kernel_rfl
theorem r_vector_speak : progT Try.prog 45 = some xf_vector_speak.plain := by kernel_rfl
theorem r_ref03_voices : progT Try.prog 46 = some xf_ref03_voices.plain := by kernel_rfl
theorem r_vector_speaks : progT Try.prog 47 = some xf_vector_speaks.plain := by kernel_rfl
theorem r_ref03_mayVoice : progT Try.prog 48 = some xf_ref03_mayVoice.plain := by kernel_rfl
theorem r_law03_lo : progT Try.prog 49 = some xf_law03_lo.plain := by kernel_rfl
theorem r_plain_Book_apartBytes : progT Try.prog 50 = some xf_plain_Book_apartBytes.plain := by kernel_rfl

end Go.Ax
