/-
  The functions of this seat as resolved code, and that the program resolves to them (part 2).
-/
import Derived.Test.YtponcchkfmbicaaXComp
import Derived.Test.YtponcchkfmbicaaXFn
import Derived.Test.YtponcchkfmbicaaXG
import Derived.Test.YtponcchkfmbicaaProg
import Derived.KernelRfl
namespace Go.Ax
open Go.Proofs

def xf_ref09_Carry_k0 : List (Nat × Option (Nat × Nat × Bool)) := [(4, none), (6, none), (10, none), (11, some (110, 7, true)), (13, some (65, 19, false)), (14, none)]
def xf_ref09_Carry_b0 : XCode := (.seq (.seq (.reg [⟨(some 67), .mv (.s 14), none⟩, ⟨(some 68), .mv (.s 11), none⟩, ⟨(some 69), .len false (.s 68), none⟩, ⟨(some 70), .bin .lss (.s 67) (.s 69), none⟩] none [4, 6, 10, 11, 13, 14, 70])
 (.cond (.s 70) .skip (.exit 0 [6, 10, 13])))
 (.seq (.block 1 (.seq (.reg [⟨(some 73), .fadr 0 (.s 4), none⟩, ⟨(some 74), .load none (.s 73), none⟩, ⟨(some 75), .fadr 2 (.s 4), none⟩, ⟨(some 76), .load none (.s 75), none⟩, ⟨(some 77), .mv (.s 11), none⟩, ⟨(some 78), .mv (.s 14), none⟩, ⟨(some 79), .iadr 7 (.s 77) (.s 78), none⟩, ⟨(some 80), .fadr 2 (.s 79), none⟩, ⟨(some 81), .load none (.s 80), none⟩, ⟨(some 82), .mv (.s 11), none⟩, ⟨(some 83), .mv (.s 14), none⟩, ⟨(some 84), .iadr 7 (.s 82) (.s 83), none⟩, ⟨(some 85), .fadr 0 (.s 84), none⟩, ⟨(some 86), .load none (.s 85), none⟩, ⟨(some 87), .mv (.s 11), none⟩, ⟨(some 88), .mv (.s 14), none⟩, ⟨(some 89), .iadr 7 (.s 87) (.s 88), none⟩, ⟨(some 90), .fadr 1 (.s 89), none⟩, ⟨(some 91), .load none (.s 90), none⟩, ⟨(some 92), .build [(.dat (.int .i64 0)), (.dat (.int .i64 0)), (.dat (.int .i64 0)), (.dat (.int .i64 0)), (.dat (.str ⟨#[]⟩))] [(0, 1, (.s 86)), (1, 1, (.s 91))], none⟩, ⟨(some 93), .mv (.s 11), none⟩, ⟨(some 94), .mv (.s 14), none⟩, ⟨(some 95), .iadr 7 (.s 93) (.s 94), none⟩, ⟨(some 96), .fadr 4 (.s 95), none⟩, ⟨(some 97), .load (some 3) (.s 96), none⟩, ⟨(some 98), .build [(.dat (.int .i64 0)), (.dat (.int .i64 0)), (.dat (.int .i64 0)), (.dat (.int .i64 0)), (.dat (.int .i64 0)), (.dat (.int .i64 0)), (.dat (.int .i64 0)), (.dat (.str ⟨#[]⟩)), (.dat (.int .i64 0)), (.dat (.int .i64 0)), (.dat (.str ⟨#[]⟩)), (.dat (.int .i64 0)), (.dat (.int .i64 0)), (.dat (.int .i64 0)), (.dat (.int .u64 0)), (.dat (.int .u64 0)), (.nil 55 5 true), (.nil 60 2 true)] [(0, 1, (.c (.dat (.int .i64 2)))), (1, 1, (.s 74)), (2, 1, (.s 76)), (11, 1, (.s 81)), (3, 5, (.s 92)), (8, 3, (.s 97))], none⟩, ⟨(some 15), .alloc [(.dat (.int .i64 0)), (.dat (.int .i64 0)), (.dat (.int .i64 0)), (.dat (.int .i64 0)), (.dat (.int .i64 0)), (.dat (.int .i64 0)), (.dat (.int .i64 0)), (.dat (.str ⟨#[]⟩)), (.dat (.int .i64 0)), (.dat (.int .i64 0)), (.dat (.str ⟨#[]⟩)), (.dat (.int .i64 0)), (.dat (.int .i64 0)), (.dat (.int .i64 0)), (.dat (.int .u64 0)), (.dat (.int .u64 0)), (.nil 55 5 true), (.nil 60 2 true)], none⟩, ⟨none, .store 18 (.s 15) (.s 98), none⟩] (some [(1, 26), (3, 26), (6, 26), (8, 26), (11, 26), (13, 26), (16, 26), (18, 26), (22, 26), (24, 26)]) [4, 6, 10, 11, 13, 14, 15])
 (.reg [⟨(some 99), .mv (.s 13), none⟩, ⟨(some 100), .mv (.s 11), none⟩, ⟨(some 101), .mv (.s 14), none⟩, ⟨(some 102), .iadr 7 (.s 100) (.s 101), none⟩, ⟨(some 103), .fadr 0 (.s 102), none⟩, ⟨(some 104), .load none (.s 103), none⟩, ⟨(some 105), .bin .add (.c (.dat (.int .i64 7))) (.s 104), none⟩, ⟨(some 106), .load (some 18) (.s 15), none⟩, ⟨(some 107), .build [(.dat (.int .i64 0)), (.dat (.int .i64 0)), (.dat (.int .i64 0)), (.dat (.int .i64 0)), (.dat (.int .i64 0)), (.dat (.int .i64 0)), (.dat (.int .i64 0)), (.dat (.int .i64 0)), (.dat (.str ⟨#[]⟩)), (.dat (.int .i64 0)), (.dat (.int .i64 0)), (.dat (.str ⟨#[]⟩)), (.dat (.int .i64 0)), (.dat (.int .i64 0)), (.dat (.int .i64 0)), (.dat (.int .u64 0)), (.dat (.int .u64 0)), (.nil 55 5 true), (.nil 60 2 true)] [(0, 1, (.s 105)), (1, 18, (.s 106))], none⟩, ⟨(some 108), .bsl 65 19 false 1 [(.dat (.int .i64 0)), (.dat (.int .i64 0)), (.dat (.int .i64 0)), (.dat (.int .i64 0)), (.dat (.int .i64 0)), (.dat (.int .i64 0)), (.dat (.int .i64 0)), (.dat (.int .i64 0)), (.dat (.str ⟨#[]⟩)), (.dat (.int .i64 0)), (.dat (.int .i64 0)), (.dat (.str ⟨#[]⟩)), (.dat (.int .i64 0)), (.dat (.int .i64 0)), (.dat (.int .i64 0)), (.dat (.int .u64 0)), (.dat (.int .u64 0)), (.nil 55 5 true), (.nil 60 2 true)] [(0, 19, (.s 107))], none⟩, ⟨(some 109), .app 65 19 200 false (.s 99) (.s 108), none⟩, ⟨(some 13), .mv (.s 109), none⟩] (some []) [4, 6, 10, 11, 13, 14])))
 (.reg [⟨(some 71), .mv (.s 14), none⟩, ⟨(some 72), .bin .add (.s 71) (.c (.dat (.int .i64 1))), none⟩, ⟨(some 14), .mv (.s 72), none⟩] none [4, 6, 10, 11, 13, 14])))
def xf_ref09_Carry : XFunc := ⟨none, true, 3, [.cell 6 (some 12), .tmp 7, .tmp 8], (.seq (.reg [⟨(some 3), .box (.s 0), none⟩, ⟨(some 4), .box (.s 1), none⟩, ⟨(some 6), .alloc [(.dat (.int .i64 0)), (.dat (.int .i64 0)), (.dat (.int .i64 0)), (.dat (.int .i64 0)), (.nil 55 5 true), (.dat (.int .i64 0)), (.nil 60 2 true), (.dat (.int .i64 0)), (.nil 118 4 true), (.nil 121 3 true), (.nil 88 6 false), (.nil 90 6 false)], none⟩, ⟨(some 7), .mv (.c (.nil 65 19 false)), none⟩, ⟨(some 8), .mv (.c (.dat (.int .i64 0))), none⟩] none [2, 3, 4, 6])
 (.seq (.reg [⟨(some 16), .load (some 4) (.s 3), none⟩, ⟨(some 17), .load (some 12) (.s 4), none⟩, ⟨(some 18), .call (.c (.fn (.func 27) [] [])) [(.s 16), (.s 17)], none⟩, ⟨(some 9), .mv (.s 18), none⟩] none [2, 3, 4, 6, 9])
 (.seq (.seq (.sreg [(⟨(some 19), .mv (.s 9), none⟩, false), (⟨(some 20), .eqv false false [.i] (.s 19) (.c (.dat (.int .i64 0))), none⟩, false), (⟨(some 21), .mv (.s 20), none⟩, false), (⟨(some 22), .mv (.s 2), some (21, true)⟩, true), (⟨(some 23), .bin .lss (.s 22) (.c (.dat (.int .i64 0))), some (21, true)⟩, true), (⟨(some 24), .mv (.s 23), some (21, true)⟩, true), (⟨(some 25), .mv (.s 2), some (24, false)⟩, true), (⟨(some 26), .fadr 4 (.s 4), some (24, false)⟩, true), (⟨(some 27), .load none (.s 26), some (24, false)⟩, true), (⟨(some 28), .len false (.s 27), some (24, false)⟩, true), (⟨(some 29), .bin .gtr (.s 25) (.s 28), some (24, false)⟩, true), (⟨(some 30), .pick (.s 24) (.c (.dat (.bool true))) (.s 29), some (21, true)⟩, true), (⟨(some 31), .pick (.s 21) (.s 30) (.c (.dat (.bool false))), none⟩, false)] none [2, 3, 4, 6, 9, 31])
 (.cond (.s 31) (.reg [⟨(some 9), .mv (.c (.dat (.int .i64 3))), none⟩] none [2, 3, 4, 6, 9]) .skip))
 (.seq (.seq (.reg [⟨(some 32), .mv (.s 9), none⟩, ⟨(some 33), .eqv true false [.i] (.s 32) (.c (.dat (.int .i64 0))), none⟩] none [2, 3, 4, 6, 9, 33])
 (.cond (.s 33) (.seq (.reg [⟨(some 34), .build [(.dat (.int .i64 0)), (.dat (.int .i64 0)), (.dat (.int .i64 0)), (.dat (.int .i64 0)), (.nil 55 5 true), (.dat (.int .i64 0)), (.nil 60 2 true), (.dat (.int .i64 0)), (.nil 118 4 true), (.nil 121 3 true), (.nil 88 6 false), (.nil 90 6 false)] [], none⟩, ⟨(some 35), .mv (.s 9), none⟩, ⟨none, .store 12 (.s 6) (.s 34), none⟩, ⟨(some 7), .mv (.c (.nil 65 19 false)), none⟩, ⟨(some 8), .mv (.s 35), none⟩] none [6, 7, 8])
 (.ret [6, 7, 8])) .skip))
 (.seq (.reg [⟨(some 36), .load (some 12) (.s 4), none⟩, ⟨(some 37), .call (.c (.fn (.func 24) [] [])) [(.s 36)], none⟩, ⟨(some 10), .alloc [(.dat (.int .i64 0)), (.dat (.int .i64 0)), (.dat (.int .i64 0)), (.dat (.int .i64 0)), (.nil 55 5 true), (.dat (.int .i64 0)), (.nil 60 2 true), (.dat (.int .i64 0)), (.nil 118 4 true), (.nil 121 3 true), (.nil 88 6 false), (.nil 90 6 false)], none⟩, ⟨none, .store 12 (.s 10) (.s 37), none⟩] none [2, 3, 4, 6, 10])
 (.seq (.seq (.reg [⟨(some 38), .mv (.s 2), none⟩, ⟨(some 39), .fadr 5 (.s 4), none⟩, ⟨(some 40), .load none (.s 39), none⟩, ⟨(some 41), .bin .leq (.s 38) (.s 40), none⟩] none [2, 3, 4, 6, 10, 41])
 (.cond (.s 41) (.seq (.reg [⟨(some 42), .load (some 12) (.s 10), none⟩, ⟨none, .store 12 (.s 6) (.s 42), none⟩, ⟨(some 7), .mv (.c (.nil 65 19 false)), none⟩, ⟨(some 8), .mv (.c (.dat (.int .i64 0))), none⟩] none [6, 7, 8])
 (.ret [6, 7, 8])) .skip))
 (.seq (.reg [⟨(some 43), .mv (.s 2), none⟩, ⟨(some 44), .fadr 5 (.s 10), none⟩, ⟨none, .store 1 (.s 44) (.s 43), none⟩] none [2, 3, 4, 6, 10])
 (.seq (.seq (.sreg [(⟨(some 45), .fadr 1 (.s 4), none⟩, false), (⟨(some 46), .load none (.s 45), none⟩, false), (⟨(some 47), .eqv true false [.i] (.s 46) (.c (.dat (.int .i64 1))), none⟩, false), (⟨(some 48), .mv (.s 47), none⟩, false), (⟨(some 49), .fadr 0 (.s 4), some (48, false)⟩, true), (⟨(some 50), .load none (.s 49), some (48, false)⟩, true), (⟨(some 51), .load (some 4) (.s 3), some (48, false)⟩, true), (⟨(some 52), .fadr 2 (.s 4), some (48, false)⟩, true), (⟨(some 53), .load none (.s 52), some (48, false)⟩, true), (⟨(some 54), .call (.c (.fn (.func 28) [] [])) [(.s 51), (.s 53)], some (48, false)⟩, false), (⟨(some 55), .eqv true false [.i] (.s 50) (.s 54), some (48, false)⟩, false), (⟨(some 56), .pick (.s 48) (.c (.dat (.bool true))) (.s 55), none⟩, false)] (some [(5, 9)]) [2, 4, 6, 10, 56])
 (.cond (.s 56) (.seq (.reg [⟨(some 57), .load (some 12) (.s 10), none⟩, ⟨none, .store 12 (.s 6) (.s 57), none⟩, ⟨(some 7), .mv (.c (.nil 65 19 false)), none⟩, ⟨(some 8), .mv (.c (.dat (.int .i64 0))), none⟩] none [6, 7, 8])
 (.ret [6, 7, 8])) .skip))
 (.seq (.reg [⟨(some 59), .fadr 4 (.s 4), none⟩, ⟨(some 60), .load none (.s 59), none⟩, ⟨(some 61), .fadr 5 (.s 4), none⟩, ⟨(some 62), .load none (.s 61), none⟩, ⟨(some 63), .mv (.s 2), none⟩, ⟨(some 64), .call (.c (.fn (.func 42) [] [])) [(.s 60), (.s 62), (.s 63)], none⟩, ⟨(some 58), .mv (.s 64), none⟩, ⟨(some 65), .ext (.s 58) 0, none⟩, ⟨(some 66), .ext (.s 58) 1, none⟩, ⟨(some 11), .mv (.s 65), none⟩, ⟨(some 12), .mv (.s 66), none⟩] none [4, 6, 10, 11])
 (.seq (.reg [⟨(some 13), .mv (.c (.nil 65 19 false)), none⟩] none [4, 6, 10, 11, 13])
 (.seq (.seq (.reg [⟨(some 14), .mv (.c (.dat (.int .i64 0))), none⟩] none [4, 6, 10, 11, 13, 14])
 (.block 0 (.loop xf_ref09_Carry_k0 xf_ref09_Carry_b0)))
 (.seq (.reg [⟨(some 110), .load (some 12) (.s 10), none⟩, ⟨(some 111), .mv (.s 13), none⟩, ⟨none, .store 12 (.s 6) (.s 110), none⟩, ⟨(some 7), .mv (.s 111), none⟩, ⟨(some 8), .mv (.c (.dat (.int .i64 0))), none⟩] none [6, 7, 8])
 (.ret [6, 7, 8])))))))))))))⟩

def xf_core_Check : XFunc := ⟨none, true, 2, [.tmp 4], (.seq (.reg [⟨(some 2), .box (.s 0), none⟩, ⟨(some 3), .box (.s 1), none⟩, ⟨(some 4), .mv (.c (.dat (.int .i64 0))), none⟩] none [2, 3])
 (.seq (.seq (.reg [⟨(some 8), .load (some 4) (.s 2), none⟩, ⟨(some 9), .call (.c (.fn (.func 43) [] [])) [(.s 8)], none⟩, ⟨(some 5), .mv (.s 9), none⟩] none [2, 3, 5])
 (.seq (.reg [⟨(some 10), .mv (.s 5), none⟩, ⟨(some 11), .eqv true false [.i] (.s 10) (.c (.dat (.int .i64 0))), none⟩] none [2, 3, 5, 11])
 (.cond (.s 11) (.seq (.reg [⟨(some 12), .mv (.s 5), none⟩, ⟨(some 4), .mv (.s 12), none⟩] none [4])
 (.ret [4])) .skip)))
 (.seq (.reg [⟨(some 13), .load (some 4) (.s 2), none⟩, ⟨(some 14), .call (.c (.fn (.func 37) [] [])) [(.s 13)], none⟩, ⟨(some 6), .mv (.s 14), none⟩] none [2, 3, 6])
 (.seq (.seq (.sreg [(⟨(some 15), .fadr 0 (.s 3), none⟩, false), (⟨(some 16), .load none (.s 15), none⟩, false), (⟨(some 17), .bin .lss (.s 16) (.c (.dat (.int .i64 0))), none⟩, false), (⟨(some 18), .mv (.s 17), none⟩, false), (⟨(some 19), .fadr 0 (.s 3), some (18, false)⟩, true), (⟨(some 20), .load none (.s 19), some (18, false)⟩, true), (⟨(some 21), .mv (.s 6), some (18, false)⟩, true), (⟨(some 22), .bin .geq (.s 20) (.s 21), some (18, false)⟩, true), (⟨(some 23), .pick (.s 18) (.c (.dat (.bool true))) (.s 22), none⟩, false), (⟨(some 24), .mv (.s 23), none⟩, false), (⟨(some 25), .fadr 2 (.s 3), some (24, false)⟩, true), (⟨(some 26), .load none (.s 25), some (24, false)⟩, true), (⟨(some 27), .bin .lss (.s 26) (.c (.dat (.int .i64 0))), some (24, false)⟩, true), (⟨(some 28), .pick (.s 24) (.c (.dat (.bool true))) (.s 27), none⟩, false), (⟨(some 29), .mv (.s 28), none⟩, false), (⟨(some 30), .fadr 2 (.s 3), some (29, false)⟩, true), (⟨(some 31), .load none (.s 30), some (29, false)⟩, true), (⟨(some 32), .bin .gtr (.s 31) (.c (.dat (.int .i64 4294967296))), some (29, false)⟩, true), (⟨(some 33), .pick (.s 29) (.c (.dat (.bool true))) (.s 32), none⟩, false), (⟨(some 34), .mv (.s 33), none⟩, false), (⟨(some 35), .fadr 3 (.s 3), some (34, false)⟩, true), (⟨(some 36), .load none (.s 35), some (34, false)⟩, true), (⟨(some 37), .bin .lss (.s 36) (.c (.dat (.int .i64 0))), some (34, false)⟩, true), (⟨(some 38), .pick (.s 34) (.c (.dat (.bool true))) (.s 37), none⟩, false), (⟨(some 39), .mv (.s 38), none⟩, false), (⟨(some 40), .fadr 3 (.s 3), some (39, false)⟩, true), (⟨(some 41), .load none (.s 40), some (39, false)⟩, true), (⟨(some 42), .fadr 2 (.s 3), some (39, false)⟩, true), (⟨(some 43), .load none (.s 42), some (39, false)⟩, true), (⟨(some 44), .bin .gtr (.s 41) (.s 43), some (39, false)⟩, true), (⟨(some 45), .pick (.s 39) (.c (.dat (.bool true))) (.s 44), none⟩, false), (⟨(some 46), .mv (.s 45), none⟩, false), (⟨(some 47), .fadr 7 (.s 3), some (46, false)⟩, true), (⟨(some 48), .load none (.s 47), some (46, false)⟩, true), (⟨(some 49), .bin .lss (.s 48) (.c (.dat (.int .i64 0))), some (46, false)⟩, true), (⟨(some 50), .pick (.s 46) (.c (.dat (.bool true))) (.s 49), none⟩, false), (⟨(some 51), .mv (.s 50), none⟩, false), (⟨(some 52), .fadr 7 (.s 3), some (51, false)⟩, true), (⟨(some 53), .load none (.s 52), some (51, false)⟩, true), (⟨(some 54), .fadr 2 (.s 2), some (51, false)⟩, true), (⟨(some 55), .load none (.s 54), some (51, false)⟩, true), (⟨(some 56), .bin .geq (.s 53) (.s 55), some (51, false)⟩, true), (⟨(some 57), .pick (.s 51) (.c (.dat (.bool true))) (.s 56), none⟩, false), (⟨(some 58), .mv (.s 57), none⟩, false), (⟨(some 59), .fadr 6 (.s 3), some (58, false)⟩, true), (⟨(some 60), .load none (.s 59), some (58, false)⟩, true), (⟨(some 61), .len false (.s 60), some (58, false)⟩, true), (⟨(some 62), .mv (.s 6), some (58, false)⟩, true), (⟨(some 63), .eqv true false [.i] (.s 61) (.s 62), some (58, false)⟩, true), (⟨(some 64), .pick (.s 58) (.c (.dat (.bool true))) (.s 63), none⟩, false), (⟨(some 65), .mv (.s 64), none⟩, false), (⟨(some 66), .load (some 4) (.s 2), some (65, false)⟩, true), (⟨(some 67), .fadr 4 (.s 3), some (65, false)⟩, true), (⟨(some 68), .load none (.s 67), some (65, false)⟩, true), (⟨(some 69), .fadr 5 (.s 3), some (65, false)⟩, true), (⟨(some 70), .load none (.s 69), some (65, false)⟩, true), (⟨(some 71), .call (.c (.fn (.func 44) [] [])) [(.s 66), (.s 68), (.s 70)], some (65, false)⟩, false), (⟨(some 72), .not (.s 71), some (65, false)⟩, false), (⟨(some 73), .pick (.s 65) (.c (.dat (.bool true))) (.s 72), none⟩, false), (⟨(some 74), .mv (.s 73), none⟩, false), (⟨(some 75), .load (some 12) (.s 3), some (74, false)⟩, true), (⟨(some 76), .call (.c (.fn (.func 45) [] [])) [(.s 75)], some (74, false)⟩, false), (⟨(some 77), .not (.s 76), some (74, false)⟩, false), (⟨(some 78), .pick (.s 74) (.c (.dat (.bool true))) (.s 77), none⟩, false)] none [2, 3, 78])
 (.cond (.s 78) (.seq (.reg [⟨(some 4), .mv (.c (.dat (.int .i64 2))), none⟩] none [4])
 (.ret [4])) .skip))
 (.seq (.reg [⟨(some 7), .mv (.c (.dat (.bool false))), none⟩] none [2, 3, 7])
 (.seq (.seq (.reg [⟨(some 79), .fadr 1 (.s 3), none⟩, ⟨(some 80), .load none (.s 79), none⟩] none [2, 3, 7, 80])
 (.block 0 (.seq (.reg [⟨(some 82), .eqv false false [.i] (.s 80) (.c (.dat (.int .i64 1))), none⟩, ⟨(some 81), .mv (.s 82), none⟩] none [2, 3, 7, 80, 81])
 (.cond (.s 81) (.reg [⟨(some 83), .load (some 4) (.s 2), none⟩, ⟨(some 84), .load (some 12) (.s 3), none⟩, ⟨(some 85), .call (.c (.fn (.func 46) [] [])) [(.s 83), (.s 84)], none⟩, ⟨(some 7), .mv (.s 85), none⟩] none [7]) (.seq (.reg [⟨(some 87), .eqv false false [.i] (.s 80) (.c (.dat (.int .i64 2))), none⟩, ⟨(some 86), .mv (.s 87), none⟩] none [2, 3, 7, 80, 86])
 (.cond (.s 86) (.reg [⟨(some 88), .load (some 4) (.s 2), none⟩, ⟨(some 89), .load (some 12) (.s 3), none⟩, ⟨(some 90), .call (.c (.fn (.func 47) [] [])) [(.s 88), (.s 89)], none⟩, ⟨(some 7), .mv (.s 90), none⟩] none [7]) (.seq (.reg [⟨(some 92), .eqv false false [.i] (.s 80) (.c (.dat (.int .i64 3))), none⟩, ⟨(some 91), .mv (.s 92), none⟩] none [2, 3, 7, 91])
 (.cond (.s 91) (.reg [⟨(some 93), .load (some 4) (.s 2), none⟩, ⟨(some 94), .load (some 12) (.s 3), none⟩, ⟨(some 95), .call (.c (.fn (.func 48) [] [])) [(.s 93), (.s 94)], none⟩, ⟨(some 7), .mv (.s 95), none⟩] none [7]) .skip))))))))
 (.seq (.seq (.reg [⟨(some 96), .mv (.s 7), none⟩, ⟨(some 97), .not (.s 96), none⟩] none [97])
 (.cond (.s 97) (.seq (.reg [⟨(some 4), .mv (.c (.dat (.int .i64 2))), none⟩] none [4])
 (.ret [4])) .skip))
 (.seq (.reg [⟨(some 4), .mv (.c (.dat (.int .i64 0))), none⟩] none [4])
 (.ret [4])))))))))⟩

def xf_core_twin_k0 : List (Nat × Option (Nat × Nat × Bool)) := [(1, none), (2, none), (27, none), (28, none)]
def xf_core_twin_b0 : XCode := (.seq (.reg [⟨(some 29), .bin .lss (.s 28) (.s 27), none⟩] none [1, 2, 27, 28, 29])
 (.seq (.cond (.s 29) .skip (.exit 0 [1, 2]))
 (.seq (.block 1 (.seq (.reg [⟨(some 30), .mv (.s 28), none⟩, ⟨(some 3), .mv (.s 30), none⟩] none [1, 2, 3, 27, 28])
 (.reg [⟨(some 31), .fadr 10 (.s 1), none⟩, ⟨(some 32), .load none (.s 31), none⟩, ⟨(some 33), .mv (.s 3), none⟩, ⟨(some 34), .fadr 10 (.s 1), none⟩, ⟨(some 35), .load none (.s 34), none⟩, ⟨(some 36), .mv (.s 3), none⟩, ⟨(some 37), .iadr 6 (.s 35) (.s 36), none⟩, ⟨(some 38), .fadr 5 (.s 37), none⟩, ⟨(some 39), .load none (.s 38), none⟩, ⟨(some 40), .call (.c (.fn (.func 49) [] [])) [(.s 39)], none⟩, ⟨(some 41), .iadr 6 (.s 32) (.s 33), none⟩, ⟨(some 42), .fadr 5 (.s 41), none⟩, ⟨none, .store 1 (.s 42) (.s 40), none⟩] (some [(1, 9)]) [1, 2, 27, 28])))
 (.reg [⟨(some 43), .bin .add (.s 28) (.c (.dat (.int .i64 1))), none⟩, ⟨(some 28), .mv (.s 43), none⟩] none [1, 2, 27, 28]))))
def xf_core_twin_k1 : List (Nat × Option (Nat × Nat × Bool)) := [(1, none), (2, none), (50, none), (51, none)]
def xf_core_twin_b1 : XCode := (.seq (.reg [⟨(some 52), .bin .lss (.s 51) (.s 50), none⟩] none [1, 2, 50, 51, 52])
 (.seq (.cond (.s 52) .skip (.exit 2 [1, 2]))
 (.seq (.block 3 (.seq (.reg [⟨(some 53), .mv (.s 51), none⟩, ⟨(some 4), .mv (.s 53), none⟩] none [1, 2, 4, 50, 51])
 (.reg [⟨(some 54), .fadr 11 (.s 1), none⟩, ⟨(some 55), .load none (.s 54), none⟩, ⟨(some 56), .mv (.s 4), none⟩, ⟨(some 57), .fadr 11 (.s 1), none⟩, ⟨(some 58), .load none (.s 57), none⟩, ⟨(some 59), .mv (.s 4), none⟩, ⟨(some 60), .iadr 6 (.s 58) (.s 59), none⟩, ⟨(some 61), .fadr 5 (.s 60), none⟩, ⟨(some 62), .load none (.s 61), none⟩, ⟨(some 63), .call (.c (.fn (.func 49) [] [])) [(.s 62)], none⟩, ⟨(some 64), .iadr 6 (.s 55) (.s 56), none⟩, ⟨(some 65), .fadr 5 (.s 64), none⟩, ⟨none, .store 1 (.s 65) (.s 63), none⟩] (some [(1, 9)]) [1, 2, 50, 51])))
 (.reg [⟨(some 66), .bin .add (.s 51) (.c (.dat (.int .i64 1))), none⟩, ⟨(some 51), .mv (.s 66), none⟩] none [1, 2, 50, 51]))))
def xf_core_twin : XFunc := ⟨none, true, 1, [.cell 2 (some 12)], (.seq (.reg [⟨(some 1), .box (.s 0), none⟩, ⟨(some 2), .alloc [(.dat (.int .i64 0)), (.dat (.int .i64 0)), (.dat (.int .i64 0)), (.dat (.int .i64 0)), (.nil 55 5 true), (.dat (.int .i64 0)), (.nil 60 2 true), (.dat (.int .i64 0)), (.nil 118 4 true), (.nil 121 3 true), (.nil 88 6 false), (.nil 90 6 false)], none⟩] none [1, 2])
 (.seq (.reg [⟨(some 5), .fadr 4 (.s 1), none⟩, ⟨(some 6), .load none (.s 5), none⟩, ⟨(some 7), .call (.c (.fn (.func 49) [] [])) [(.s 6)], none⟩, ⟨(some 8), .fadr 4 (.s 1), none⟩, ⟨none, .store 1 (.s 8) (.s 7), none⟩] none [1, 2])
 (.seq (.reg [⟨(some 9), .fadr 6 (.s 1), none⟩, ⟨(some 10), .load none (.s 9), none⟩, ⟨(some 11), .call (.c (.fn (.func 50) [] [])) [(.s 10)], none⟩, ⟨(some 12), .fadr 6 (.s 1), none⟩, ⟨none, .store 1 (.s 12) (.s 11), none⟩] none [1, 2])
 (.seq (.reg [⟨(some 13), .fadr 8 (.s 1), none⟩, ⟨(some 14), .load none (.s 13), none⟩, ⟨(some 15), .call (.c (.fn (.func 51) [] [])) [(.s 14)], none⟩, ⟨(some 16), .fadr 8 (.s 1), none⟩, ⟨none, .store 1 (.s 16) (.s 15), none⟩] none [1, 2])
 (.seq (.reg [⟨(some 17), .fadr 9 (.s 1), none⟩, ⟨(some 18), .load none (.s 17), none⟩, ⟨(some 19), .call (.c (.fn (.func 52) [] [])) [(.s 18)], none⟩, ⟨(some 20), .fadr 9 (.s 1), none⟩, ⟨none, .store 1 (.s 20) (.s 19), none⟩] none [1, 2])
 (.seq (.reg [⟨(some 21), .fadr 10 (.s 1), none⟩, ⟨(some 22), .load none (.s 21), none⟩, ⟨(some 23), .call (.c (.fn (.func 53) [] [])) [(.s 22)], none⟩, ⟨(some 24), .fadr 10 (.s 1), none⟩, ⟨none, .store 1 (.s 24) (.s 23), none⟩] none [1, 2])
 (.seq (.seq (.reg [⟨(some 25), .fadr 10 (.s 1), none⟩, ⟨(some 26), .load none (.s 25), none⟩, ⟨(some 27), .len false (.s 26), none⟩, ⟨(some 28), .mv (.c (.dat (.int .i64 0))), none⟩] none [1, 2, 27, 28])
 (.block 0 (.loop xf_core_twin_k0 xf_core_twin_b0)))
 (.seq (.reg [⟨(some 44), .fadr 11 (.s 1), none⟩, ⟨(some 45), .load none (.s 44), none⟩, ⟨(some 46), .call (.c (.fn (.func 54) [] [])) [(.s 45)], none⟩, ⟨(some 47), .fadr 11 (.s 1), none⟩, ⟨none, .store 1 (.s 47) (.s 46), none⟩] none [1, 2])
 (.seq (.seq (.reg [⟨(some 48), .fadr 11 (.s 1), none⟩, ⟨(some 49), .load none (.s 48), none⟩, ⟨(some 50), .len false (.s 49), none⟩, ⟨(some 51), .mv (.c (.dat (.int .i64 0))), none⟩] none [1, 2, 50, 51])
 (.block 2 (.loop xf_core_twin_k1 xf_core_twin_b1)))
 (.seq (.reg [⟨(some 67), .load (some 12) (.s 1), none⟩, ⟨none, .store 12 (.s 2) (.s 67), none⟩] none [2])
 (.ret [2])))))))))))⟩

def xf_core_leads : XFunc := ⟨none, true, 2, [.tmp 4], (.seq (.reg [⟨(some 2), .box (.s 0), none⟩, ⟨(some 3), .box (.s 1), none⟩, ⟨(some 4), .mv (.c (.dat (.bool false))), none⟩] none [2, 3])
 (.seq (.reg [⟨(some 5), .fadr 0 (.s 3), none⟩, ⟨(some 6), .load none (.s 5), none⟩, ⟨(some 7), .fadr 2 (.s 3), none⟩, ⟨(some 8), .load none (.s 7), none⟩, ⟨(some 9), .fadr 0 (.s 2), none⟩, ⟨(some 10), .load none (.s 9), none⟩, ⟨(some 11), .bin .mul (.c (.dat (.int .i64 2))) (.s 10), none⟩, ⟨(some 12), .bin .add (.s 11) (.c (.dat (.int .i64 1))), none⟩, ⟨(some 13), .bin .rem (.s 8) (.s 12), none⟩, ⟨(some 14), .eqv false false [.i] (.s 6) (.s 13), none⟩, ⟨(some 4), .mv (.s 14), none⟩] (some []) [4])
 (.ret [4])))⟩

def xf_plain_CopyState_k0 : List (Nat × Option (Nat × Nat × Bool)) := [(1, none), (2, none), (3, some (88, 6, false)), (4, none)]
def xf_plain_CopyState_b0 : XCode := (.seq (.seq (.reg [⟨(some 25), .mv (.s 4), none⟩, ⟨(some 26), .fadr 10 (.s 1), none⟩, ⟨(some 27), .load none (.s 26), none⟩, ⟨(some 28), .len false (.s 27), none⟩, ⟨(some 29), .bin .lss (.s 25) (.s 28), none⟩] none [1, 2, 3, 4, 29])
 (.cond (.s 29) .skip (.exit 0 [1, 2, 3])))
 (.seq (.block 1 (.seq (.reg [⟨(some 32), .fadr 10 (.s 1), none⟩, ⟨(some 33), .load none (.s 32), none⟩, ⟨(some 34), .mv (.s 4), none⟩, ⟨(some 35), .iadr 6 (.s 33) (.s 34), none⟩, ⟨(some 36), .load (some 6) (.s 35), none⟩, ⟨(some 5), .alloc [(.dat (.int .i64 0)), (.dat (.int .u64 0)), (.dat (.int .u64 0)), (.dat (.int .i64 0)), (.dat (.int .i64 0)), (.nil 55 5 true)], none⟩, ⟨none, .store 6 (.s 5) (.s 36), none⟩] none [1, 2, 3, 4, 5])
 (.seq (.reg [⟨(some 37), .fadr 5 (.s 5), none⟩, ⟨(some 38), .load none (.s 37), none⟩, ⟨(some 39), .call (.c (.fn (.func 55) [] [])) [(.s 38)], none⟩, ⟨(some 40), .fadr 5 (.s 5), none⟩, ⟨none, .store 1 (.s 40) (.s 39), none⟩] none [1, 2, 3, 4, 5])
 (.reg [⟨(some 41), .mv (.s 3), none⟩, ⟨(some 42), .load (some 6) (.s 5), none⟩, ⟨(some 43), .bsl 88 6 false 1 [(.dat (.int .i64 0)), (.dat (.int .u64 0)), (.dat (.int .u64 0)), (.dat (.int .i64 0)), (.dat (.int .i64 0)), (.nil 55 5 true)] [(0, 6, (.s 42))], none⟩, ⟨(some 44), .app 88 6 64 false (.s 41) (.s 43), none⟩, ⟨(some 3), .mv (.s 44), none⟩] none [1, 2, 3, 4]))))
 (.reg [⟨(some 30), .mv (.s 4), none⟩, ⟨(some 31), .bin .add (.s 30) (.c (.dat (.int .i64 1))), none⟩, ⟨(some 4), .mv (.s 31), none⟩] none [1, 2, 3, 4])))
def xf_plain_CopyState_k1 : List (Nat × Option (Nat × Nat × Bool)) := [(1, none), (2, none), (6, some (90, 6, false)), (7, none)]
def xf_plain_CopyState_b1 : XCode := (.seq (.seq (.reg [⟨(some 47), .mv (.s 7), none⟩, ⟨(some 48), .fadr 11 (.s 1), none⟩, ⟨(some 49), .load none (.s 48), none⟩, ⟨(some 50), .len false (.s 49), none⟩, ⟨(some 51), .bin .lss (.s 47) (.s 50), none⟩] none [1, 2, 6, 7, 51])
 (.cond (.s 51) .skip (.exit 2 [1, 2, 6])))
 (.seq (.block 3 (.seq (.reg [⟨(some 54), .fadr 11 (.s 1), none⟩, ⟨(some 55), .load none (.s 54), none⟩, ⟨(some 56), .mv (.s 7), none⟩, ⟨(some 57), .iadr 6 (.s 55) (.s 56), none⟩, ⟨(some 58), .load (some 6) (.s 57), none⟩, ⟨(some 8), .alloc [(.dat (.int .i64 0)), (.dat (.int .u64 0)), (.dat (.int .u64 0)), (.dat (.int .i64 0)), (.dat (.int .i64 0)), (.nil 55 5 true)], none⟩, ⟨none, .store 6 (.s 8) (.s 58), none⟩] none [1, 2, 6, 7, 8])
 (.seq (.reg [⟨(some 59), .fadr 5 (.s 8), none⟩, ⟨(some 60), .load none (.s 59), none⟩, ⟨(some 61), .call (.c (.fn (.func 55) [] [])) [(.s 60)], none⟩, ⟨(some 62), .fadr 5 (.s 8), none⟩, ⟨none, .store 1 (.s 62) (.s 61), none⟩] none [1, 2, 6, 7, 8])
 (.reg [⟨(some 63), .mv (.s 6), none⟩, ⟨(some 64), .load (some 6) (.s 8), none⟩, ⟨(some 65), .bsl 90 6 false 1 [(.dat (.int .i64 0)), (.dat (.int .u64 0)), (.dat (.int .u64 0)), (.dat (.int .i64 0)), (.dat (.int .i64 0)), (.nil 55 5 true)] [(0, 6, (.s 64))], none⟩, ⟨(some 66), .app 90 6 64 false (.s 63) (.s 65), none⟩, ⟨(some 6), .mv (.s 66), none⟩] none [1, 2, 6, 7]))))
 (.reg [⟨(some 52), .mv (.s 7), none⟩, ⟨(some 53), .bin .add (.s 52) (.c (.dat (.int .i64 1))), none⟩, ⟨(some 7), .mv (.s 53), none⟩] none [1, 2, 6, 7])))
def xf_plain_CopyState : XFunc := ⟨none, false, 1, [.cell 2 (some 12)], (.seq (.reg [⟨(some 1), .box (.s 0), none⟩, ⟨(some 2), .alloc [(.dat (.int .i64 0)), (.dat (.int .i64 0)), (.dat (.int .i64 0)), (.dat (.int .i64 0)), (.nil 55 5 true), (.dat (.int .i64 0)), (.nil 60 2 true), (.dat (.int .i64 0)), (.nil 118 4 true), (.nil 121 3 true), (.nil 88 6 false), (.nil 90 6 false)], none⟩] none [1, 2])
 (.seq (.reg [⟨(some 9), .fadr 4 (.s 1), none⟩, ⟨(some 10), .load none (.s 9), none⟩, ⟨(some 11), .call (.c (.fn (.func 55) [] [])) [(.s 10)], none⟩, ⟨(some 12), .fadr 4 (.s 1), none⟩, ⟨none, .store 1 (.s 12) (.s 11), none⟩] none [1, 2])
 (.seq (.reg [⟨(some 13), .fadr 6 (.s 1), none⟩, ⟨(some 14), .load none (.s 13), none⟩, ⟨(some 15), .call (.c (.fn (.func 56) [] [])) [(.s 14)], none⟩, ⟨(some 16), .fadr 6 (.s 1), none⟩, ⟨none, .store 1 (.s 16) (.s 15), none⟩] none [1, 2])
 (.seq (.reg [⟨(some 17), .fadr 8 (.s 1), none⟩, ⟨(some 18), .load none (.s 17), none⟩, ⟨(some 19), .app 118 4 32 true (.c (.nil 118 4 true)) (.s 18), none⟩, ⟨(some 20), .fadr 8 (.s 1), none⟩, ⟨none, .store 1 (.s 20) (.s 19), none⟩] none [1, 2])
 (.seq (.reg [⟨(some 21), .fadr 9 (.s 1), none⟩, ⟨(some 22), .load none (.s 21), none⟩, ⟨(some 23), .app 121 3 24 true (.c (.nil 121 3 true)) (.s 22), none⟩, ⟨(some 24), .fadr 9 (.s 1), none⟩, ⟨none, .store 1 (.s 24) (.s 23), none⟩] none [1, 2])
 (.seq (.reg [⟨(some 3), .mv (.c (.nil 88 6 false)), none⟩] none [1, 2, 3])
 (.seq (.seq (.reg [⟨(some 4), .mv (.c (.dat (.int .i64 0))), none⟩] none [1, 2, 3, 4])
 (.block 0 (.loop xf_plain_CopyState_k0 xf_plain_CopyState_b0)))
 (.seq (.reg [⟨(some 45), .mv (.s 3), none⟩, ⟨(some 46), .fadr 10 (.s 1), none⟩, ⟨none, .store 1 (.s 46) (.s 45), none⟩] none [1, 2])
 (.seq (.reg [⟨(some 6), .mv (.c (.nil 90 6 false)), none⟩] none [1, 2, 6])
 (.seq (.seq (.reg [⟨(some 7), .mv (.c (.dat (.int .i64 0))), none⟩] none [1, 2, 6, 7])
 (.block 2 (.loop xf_plain_CopyState_k1 xf_plain_CopyState_b1)))
 (.seq (.reg [⟨(some 67), .mv (.s 6), none⟩, ⟨(some 68), .fadr 11 (.s 1), none⟩, ⟨none, .store 1 (.s 68) (.s 67), none⟩] none [1, 2])
 (.seq (.reg [⟨(some 69), .load (some 12) (.s 1), none⟩, ⟨none, .store 12 (.s 2) (.s 69), none⟩] none [2])
 (.ret [2])))))))))))))⟩

def xf_plain_Given_Entries : XFunc := ⟨none, false, 2, [.tmp 4], (.seq (.reg [⟨(some 4), .mv (.c (.nil 55 5 true)), none⟩] none [0, 1])
 (.seq (.reg [⟨(some 6), .mv (.s 1), none⟩, ⟨(some 7), .call (.c (.fn (.func 55) [] [])) [(.s 6)], none⟩, ⟨(some 8), .build [(.dat (.int .i64 0)), (.dat (.int .i64 0)), (.dat (.int .i64 0)), (.dat (.int .i64 0)), (.dat (.str ⟨#[]⟩))] [(0, 1, (.c (.dat (.int .i64 (-77))))), (1, 1, (.c (.dat (.int .i64 (-88)))))], none⟩, ⟨(some 9), .bsl 55 5 true 1 [(.dat (.int .i64 0)), (.dat (.int .i64 0)), (.dat (.int .i64 0)), (.dat (.int .i64 0)), (.dat (.str ⟨#[]⟩))] [(0, 5, (.s 8))], none⟩, ⟨(some 10), .app 55 5 48 true (.s 7) (.s 9), none⟩, ⟨(some 5), .mv (.s 10), none⟩] none [0, 1, 5])
 (.seq (.reg [⟨(some 11), .mv (.s 0), none⟩, ⟨(some 12), .mv (.s 0), none⟩, ⟨(some 13), .nilchk (.s 12), none⟩, ⟨(some 14), .fadr 4 (.s 13), none⟩, ⟨(some 15), .load none (.s 14), none⟩, ⟨(some 16), .mv (.s 5), none⟩, ⟨(some 17), .bsl 25 1 false 1 [(.nil 55 5 true)] [(0, 1, (.s 16))], none⟩, ⟨(some 18), .app 25 1 24 false (.s 15) (.s 17), none⟩, ⟨(some 19), .nilchk (.s 11), none⟩, ⟨(some 20), .fadr 4 (.s 19), none⟩, ⟨none, .store 1 (.s 20) (.s 18), none⟩] none [0, 1, 5])
 (.seq (.reg [⟨(some 21), .mv (.s 0), none⟩, ⟨(some 22), .mv (.s 0), none⟩, ⟨(some 23), .nilchk (.s 22), none⟩, ⟨(some 24), .fadr 5 (.s 23), none⟩, ⟨(some 25), .load none (.s 24), none⟩, ⟨(some 26), .mv (.s 5), none⟩, ⟨(some 27), .call (.c (.fn (.func 55) [] [])) [(.s 26)], none⟩, ⟨(some 28), .bsl 25 1 false 1 [(.nil 55 5 true)] [(0, 1, (.s 27))], none⟩, ⟨(some 29), .app 25 1 24 false (.s 25) (.s 28), none⟩, ⟨(some 30), .nilchk (.s 21), none⟩, ⟨(some 31), .fadr 5 (.s 30), none⟩, ⟨none, .store 1 (.s 31) (.s 29), none⟩] (some [(4, 6), (4, 7)]) [1, 5])
 (.seq (.reg [⟨(some 32), .mv (.s 5), none⟩, ⟨(some 33), .mv (.s 1), none⟩, ⟨(some 34), .len false (.s 33), none⟩, ⟨(some 35), .slice 5 (.s 32) none (some (.s 34)), none⟩, ⟨(some 4), .mv (.s 35), none⟩] none [4])
 (.ret [4]))))))⟩

def xf_plain_Given_Vector : XFunc := ⟨none, false, 2, [.tmp 4], (.seq (.reg [⟨(some 4), .mv (.c (.nil 60 2 true)), none⟩] none [0, 1])
 (.seq (.reg [⟨(some 6), .mv (.s 1), none⟩, ⟨(some 7), .call (.c (.fn (.func 56) [] [])) [(.s 6)], none⟩, ⟨(some 8), .build [(.dat (.int .u64 0)), (.dat (.int .u64 0))] [(0, 1, (.c (.dat (.int .u64 77)))), (1, 1, (.c (.dat (.int .u64 88))))], none⟩, ⟨(some 9), .bsl 60 2 true 1 [(.dat (.int .u64 0)), (.dat (.int .u64 0))] [(0, 2, (.s 8))], none⟩, ⟨(some 10), .app 60 2 16 true (.s 7) (.s 9), none⟩, ⟨(some 5), .mv (.s 10), none⟩] none [0, 1, 5])
 (.seq (.reg [⟨(some 11), .mv (.s 0), none⟩, ⟨(some 12), .mv (.s 0), none⟩, ⟨(some 13), .nilchk (.s 12), none⟩, ⟨(some 14), .fadr 2 (.s 13), none⟩, ⟨(some 15), .load none (.s 14), none⟩, ⟨(some 16), .mv (.s 5), none⟩, ⟨(some 17), .bsl 27 1 false 1 [(.nil 60 2 true)] [(0, 1, (.s 16))], none⟩, ⟨(some 18), .app 27 1 24 false (.s 15) (.s 17), none⟩, ⟨(some 19), .nilchk (.s 11), none⟩, ⟨(some 20), .fadr 2 (.s 19), none⟩, ⟨none, .store 1 (.s 20) (.s 18), none⟩] none [0, 1, 5])
 (.seq (.reg [⟨(some 21), .mv (.s 0), none⟩, ⟨(some 22), .mv (.s 0), none⟩, ⟨(some 23), .nilchk (.s 22), none⟩, ⟨(some 24), .fadr 3 (.s 23), none⟩, ⟨(some 25), .load none (.s 24), none⟩, ⟨(some 26), .mv (.s 5), none⟩, ⟨(some 27), .call (.c (.fn (.func 56) [] [])) [(.s 26)], none⟩, ⟨(some 28), .bsl 27 1 false 1 [(.nil 60 2 true)] [(0, 1, (.s 27))], none⟩, ⟨(some 29), .app 27 1 24 false (.s 25) (.s 28), none⟩, ⟨(some 30), .nilchk (.s 21), none⟩, ⟨(some 31), .fadr 3 (.s 30), none⟩, ⟨none, .store 1 (.s 31) (.s 29), none⟩] (some [(4, 6), (4, 7)]) [1, 5])
 (.seq (.reg [⟨(some 32), .mv (.s 5), none⟩, ⟨(some 33), .mv (.s 1), none⟩, ⟨(some 34), .len false (.s 33), none⟩, ⟨(some 35), .slice 2 (.s 32) none (some (.s 34)), none⟩, ⟨(some 4), .mv (.s 35), none⟩] none [4])
 (.ret [4]))))))⟩

def xf_ref09_Check : XFunc := ⟨none, true, 2, [.tmp 4], (.seq (.reg [⟨(some 2), .box (.s 0), none⟩, ⟨(some 3), .box (.s 1), none⟩, ⟨(some 4), .mv (.c (.dat (.int .i64 0))), none⟩] none [2, 3])
 (.seq (.reg [⟨(some 6), .load (some 4) (.s 2), none⟩, ⟨(some 7), .call (.c (.fn (.func 57) [] [])) [(.s 6)], none⟩, ⟨(some 5), .mv (.s 7), none⟩] none [2, 3, 5])
 (.seq (.seq (.sreg [(⟨(some 8), .mv (.s 5), none⟩, false), (⟨(some 9), .eqv false false [.i] (.s 8) (.c (.dat (.int .i64 0))), none⟩, false), (⟨(some 10), .mv (.s 9), none⟩, false), (⟨(some 11), .load (some 4) (.s 2), some (10, true)⟩, true), (⟨(some 12), .load (some 12) (.s 3), some (10, true)⟩, true), (⟨(some 13), .call (.c (.fn (.func 58) [] [])) [(.s 11), (.s 12)], some (10, true)⟩, false), (⟨(some 14), .not (.s 13), some (10, true)⟩, false), (⟨(some 15), .pick (.s 10) (.s 14) (.c (.dat (.bool false))), none⟩, false)] none [5, 15])
 (.cond (.s 15) (.reg [⟨(some 5), .mv (.c (.dat (.int .i64 2))), none⟩] none [5]) .skip))
 (.seq (.reg [⟨(some 16), .mv (.s 5), none⟩, ⟨(some 4), .mv (.s 16), none⟩] none [4])
 (.ret [4])))))⟩

def xf_ref09_Primary : XFunc := ⟨none, true, 2, [.tmp 4], (.seq (.reg [⟨(some 2), .box (.s 0), none⟩, ⟨(some 4), .mv (.c (.dat (.int .i64 0))), none⟩] none [1, 2])
 (.seq (.seq (.sreg [(⟨(some 5), .load (some 4) (.s 2), none⟩, false), (⟨(some 6), .call (.c (.fn (.func 57) [] [])) [(.s 5)], none⟩, false), (⟨(some 7), .eqv true false [.i] (.s 6) (.c (.dat (.int .i64 0))), none⟩, false), (⟨(some 8), .mv (.s 7), none⟩, false), (⟨(some 9), .mv (.s 1), some (8, false)⟩, true), (⟨(some 10), .bin .lss (.s 9) (.c (.dat (.int .i64 0))), some (8, false)⟩, true), (⟨(some 11), .pick (.s 8) (.c (.dat (.bool true))) (.s 10), none⟩, false), (⟨(some 12), .mv (.s 11), none⟩, false), (⟨(some 13), .mv (.s 1), some (12, false)⟩, true), (⟨(some 14), .bin .gtr (.s 13) (.c (.dat (.int .i64 4294967296))), some (12, false)⟩, true), (⟨(some 15), .pick (.s 12) (.c (.dat (.bool true))) (.s 14), none⟩, false)] none [1, 2, 15])
 (.cond (.s 15) (.seq (.reg [⟨(some 4), .mv (.c (.dat (.int .i64 (-1)))), none⟩] none [4])
 (.ret [4])) .skip))
 (.seq (.reg [⟨(some 16), .mv (.s 1), none⟩, ⟨(some 17), .load (some 4) (.s 2), none⟩, ⟨(some 18), .call (.c (.fn (.func 39) [] [])) [(.s 17)], none⟩, ⟨(some 19), .bin .rem (.s 16) (.s 18), none⟩, ⟨(some 4), .mv (.s 19), none⟩] none [4])
 (.ret [4]))))⟩

def xf_plain_SameEntries_k0 : List (Nat × Option (Nat × Nat × Bool)) := [(0, none), (1, none), (5, none)]
def xf_plain_SameEntries_b0 : XCode := (.seq (.seq (.reg [⟨(some 11), .mv (.s 5), none⟩, ⟨(some 12), .mv (.s 0), none⟩, ⟨(some 13), .len false (.s 12), none⟩, ⟨(some 14), .bin .lss (.s 11) (.s 13), none⟩] none [0, 1, 5, 14])
 (.cond (.s 14) .skip (.exit 0 [])))
 (.seq (.block 1 (.seq (.reg [⟨(some 17), .mv (.s 0), none⟩, ⟨(some 18), .mv (.s 5), none⟩, ⟨(some 19), .iadr 5 (.s 17) (.s 18), none⟩, ⟨(some 20), .load (some 5) (.s 19), none⟩, ⟨(some 21), .mv (.s 1), none⟩, ⟨(some 22), .mv (.s 5), none⟩, ⟨(some 23), .iadr 5 (.s 21) (.s 22), none⟩, ⟨(some 24), .load (some 5) (.s 23), none⟩, ⟨(some 25), .eqv true true [.i, .i, .i, .i, .s] (.s 20) (.s 24), none⟩] (some []) [0, 1, 5, 25])
 (.cond (.s 25) (.seq (.reg [⟨(some 4), .mv (.c (.dat (.bool false))), none⟩] none [4])
 (.ret [4])) .skip)))
 (.reg [⟨(some 15), .mv (.s 5), none⟩, ⟨(some 16), .bin .add (.s 15) (.c (.dat (.int .i64 1))), none⟩, ⟨(some 5), .mv (.s 16), none⟩] none [0, 1, 5])))
def xf_plain_SameEntries : XFunc := ⟨none, true, 2, [.tmp 4], (.seq (.reg [⟨(some 4), .mv (.c (.dat (.bool false))), none⟩] none [0, 1])
 (.seq (.seq (.reg [⟨(some 6), .mv (.s 0), none⟩, ⟨(some 7), .len false (.s 6), none⟩, ⟨(some 8), .mv (.s 1), none⟩, ⟨(some 9), .len false (.s 8), none⟩, ⟨(some 10), .eqv true false [.i] (.s 7) (.s 9), none⟩] none [0, 1, 10])
 (.cond (.s 10) (.seq (.reg [⟨(some 4), .mv (.c (.dat (.bool false))), none⟩] none [4])
 (.ret [4])) .skip))
 (.seq (.seq (.reg [⟨(some 5), .mv (.c (.dat (.int .i64 0))), none⟩] none [0, 1, 5])
 (.block 0 (.loop xf_plain_SameEntries_k0 xf_plain_SameEntries_b0)))
 (.seq (.reg [⟨(some 4), .mv (.c (.dat (.bool true))), none⟩] none [4])
 (.ret [4])))))⟩

def xf_plain_SameVector_k0 : List (Nat × Option (Nat × Nat × Bool)) := [(0, none), (1, none), (5, none)]
def xf_plain_SameVector_b0 : XCode := (.seq (.seq (.reg [⟨(some 11), .mv (.s 5), none⟩, ⟨(some 12), .mv (.s 0), none⟩, ⟨(some 13), .len false (.s 12), none⟩, ⟨(some 14), .bin .lss (.s 11) (.s 13), none⟩] none [0, 1, 5, 14])
 (.cond (.s 14) .skip (.exit 0 [])))
 (.seq (.block 1 (.seq (.reg [⟨(some 17), .mv (.s 0), none⟩, ⟨(some 18), .mv (.s 5), none⟩, ⟨(some 19), .iadr 2 (.s 17) (.s 18), none⟩, ⟨(some 20), .load (some 2) (.s 19), none⟩, ⟨(some 21), .mv (.s 1), none⟩, ⟨(some 22), .mv (.s 5), none⟩, ⟨(some 23), .iadr 2 (.s 21) (.s 22), none⟩, ⟨(some 24), .load (some 2) (.s 23), none⟩, ⟨(some 25), .eqv true true [.i, .i] (.s 20) (.s 24), none⟩] (some []) [0, 1, 5, 25])
 (.cond (.s 25) (.seq (.reg [⟨(some 4), .mv (.c (.dat (.bool false))), none⟩] none [4])
 (.ret [4])) .skip)))
 (.reg [⟨(some 15), .mv (.s 5), none⟩, ⟨(some 16), .bin .add (.s 15) (.c (.dat (.int .i64 1))), none⟩, ⟨(some 5), .mv (.s 16), none⟩] none [0, 1, 5])))
def xf_plain_SameVector : XFunc := ⟨none, true, 2, [.tmp 4], (.seq (.reg [⟨(some 4), .mv (.c (.dat (.bool false))), none⟩] none [0, 1])
 (.seq (.seq (.reg [⟨(some 6), .mv (.s 0), none⟩, ⟨(some 7), .len false (.s 6), none⟩, ⟨(some 8), .mv (.s 1), none⟩, ⟨(some 9), .len false (.s 8), none⟩, ⟨(some 10), .eqv true false [.i] (.s 7) (.s 9), none⟩] none [0, 1, 10])
 (.cond (.s 10) (.seq (.reg [⟨(some 4), .mv (.c (.dat (.bool false))), none⟩] none [4])
 (.ret [4])) .skip))
 (.seq (.seq (.reg [⟨(some 5), .mv (.c (.dat (.int .i64 0))), none⟩] none [0, 1, 5])
 (.block 0 (.loop xf_plain_SameVector_k0 xf_plain_SameVector_b0)))
 (.seq (.reg [⟨(some 4), .mv (.c (.dat (.bool true))), none⟩] none [4])
 (.ret [4])))))⟩

def xf_plain_sameAcks_k0 : List (Nat × Option (Nat × Nat × Bool)) := [(0, none), (1, none), (5, none)]
def xf_plain_sameAcks_b0 : XCode := (.seq (.seq (.reg [⟨(some 11), .mv (.s 5), none⟩, ⟨(some 12), .mv (.s 0), none⟩, ⟨(some 13), .len false (.s 12), none⟩, ⟨(some 14), .bin .lss (.s 11) (.s 13), none⟩] none [0, 1, 5, 14])
 (.cond (.s 14) .skip (.exit 0 [])))
 (.seq (.block 1 (.seq (.reg [⟨(some 17), .mv (.s 0), none⟩, ⟨(some 18), .mv (.s 5), none⟩, ⟨(some 19), .iadr 4 (.s 17) (.s 18), none⟩, ⟨(some 20), .load (some 4) (.s 19), none⟩, ⟨(some 21), .mv (.s 1), none⟩, ⟨(some 22), .mv (.s 5), none⟩, ⟨(some 23), .iadr 4 (.s 21) (.s 22), none⟩, ⟨(some 24), .load (some 4) (.s 23), none⟩, ⟨(some 25), .eqv true true [.i, .i, .i, .i] (.s 20) (.s 24), none⟩] (some []) [0, 1, 5, 25])
 (.cond (.s 25) (.seq (.reg [⟨(some 4), .mv (.c (.dat (.bool false))), none⟩] none [4])
 (.ret [4])) .skip)))
 (.reg [⟨(some 15), .mv (.s 5), none⟩, ⟨(some 16), .bin .add (.s 15) (.c (.dat (.int .i64 1))), none⟩, ⟨(some 5), .mv (.s 16), none⟩] none [0, 1, 5])))
def xf_plain_sameAcks : XFunc := ⟨none, true, 2, [.tmp 4], (.seq (.reg [⟨(some 4), .mv (.c (.dat (.bool false))), none⟩] none [0, 1])
 (.seq (.seq (.reg [⟨(some 6), .mv (.s 0), none⟩, ⟨(some 7), .len false (.s 6), none⟩, ⟨(some 8), .mv (.s 1), none⟩, ⟨(some 9), .len false (.s 8), none⟩, ⟨(some 10), .eqv true false [.i] (.s 7) (.s 9), none⟩] none [0, 1, 10])
 (.cond (.s 10) (.seq (.reg [⟨(some 4), .mv (.c (.dat (.bool false))), none⟩] none [4])
 (.ret [4])) .skip))
 (.seq (.seq (.reg [⟨(some 5), .mv (.c (.dat (.int .i64 0))), none⟩] none [0, 1, 5])
 (.block 0 (.loop xf_plain_sameAcks_k0 xf_plain_sameAcks_b0)))
 (.seq (.reg [⟨(some 4), .mv (.c (.dat (.bool true))), none⟩] none [4])
 (.ret [4])))))⟩

def xf_plain_sameMarks_k0 : List (Nat × Option (Nat × Nat × Bool)) := [(0, none), (1, none), (5, none)]
def xf_plain_sameMarks_b0 : XCode := (.seq (.seq (.reg [⟨(some 11), .mv (.s 5), none⟩, ⟨(some 12), .mv (.s 0), none⟩, ⟨(some 13), .len false (.s 12), none⟩, ⟨(some 14), .bin .lss (.s 11) (.s 13), none⟩] none [0, 1, 5, 14])
 (.cond (.s 14) .skip (.exit 0 [])))
 (.seq (.block 1 (.seq (.reg [⟨(some 17), .mv (.s 0), none⟩, ⟨(some 18), .mv (.s 5), none⟩, ⟨(some 19), .iadr 3 (.s 17) (.s 18), none⟩, ⟨(some 20), .load (some 3) (.s 19), none⟩, ⟨(some 21), .mv (.s 1), none⟩, ⟨(some 22), .mv (.s 5), none⟩, ⟨(some 23), .iadr 3 (.s 21) (.s 22), none⟩, ⟨(some 24), .load (some 3) (.s 23), none⟩, ⟨(some 25), .eqv true true [.i, .i, .i] (.s 20) (.s 24), none⟩] (some []) [0, 1, 5, 25])
 (.cond (.s 25) (.seq (.reg [⟨(some 4), .mv (.c (.dat (.bool false))), none⟩] none [4])
 (.ret [4])) .skip)))
 (.reg [⟨(some 15), .mv (.s 5), none⟩, ⟨(some 16), .bin .add (.s 15) (.c (.dat (.int .i64 1))), none⟩, ⟨(some 5), .mv (.s 16), none⟩] none [0, 1, 5])))
def xf_plain_sameMarks : XFunc := ⟨none, true, 2, [.tmp 4], (.seq (.reg [⟨(some 4), .mv (.c (.dat (.bool false))), none⟩] none [0, 1])
 (.seq (.seq (.reg [⟨(some 6), .mv (.s 0), none⟩, ⟨(some 7), .len false (.s 6), none⟩, ⟨(some 8), .mv (.s 1), none⟩, ⟨(some 9), .len false (.s 8), none⟩, ⟨(some 10), .eqv true false [.i] (.s 7) (.s 9), none⟩] none [0, 1, 10])
 (.cond (.s 10) (.seq (.reg [⟨(some 4), .mv (.c (.dat (.bool false))), none⟩] none [4])
 (.ret [4])) .skip))
 (.seq (.seq (.reg [⟨(some 5), .mv (.c (.dat (.int .i64 0))), none⟩] none [0, 1, 5])
 (.block 0 (.loop xf_plain_sameMarks_k0 xf_plain_sameMarks_b0)))
 (.seq (.reg [⟨(some 4), .mv (.c (.dat (.bool true))), none⟩] none [4])
 (.ret [4])))))⟩

def xf_plain_SameBallots_k0 : List (Nat × Option (Nat × Nat × Bool)) := [(0, none), (1, none), (5, none)]
def xf_plain_SameBallots_b0 : XCode := (.seq (.seq (.reg [⟨(some 11), .mv (.s 5), none⟩, ⟨(some 12), .mv (.s 0), none⟩, ⟨(some 13), .len false (.s 12), none⟩, ⟨(some 14), .bin .lss (.s 11) (.s 13), none⟩] none [0, 1, 5, 14])
 (.cond (.s 14) .skip (.exit 0 [])))
 (.seq (.block 1 (.seq (.sreg [(⟨(some 17), .mv (.s 0), none⟩, false), (⟨(some 18), .mv (.s 5), none⟩, false), (⟨(some 19), .iadr 6 (.s 17) (.s 18), none⟩, false), (⟨(some 20), .fadr 0 (.s 19), none⟩, false), (⟨(some 21), .load none (.s 20), none⟩, false), (⟨(some 22), .mv (.s 1), none⟩, false), (⟨(some 23), .mv (.s 5), none⟩, false), (⟨(some 24), .iadr 6 (.s 22) (.s 23), none⟩, false), (⟨(some 25), .fadr 0 (.s 24), none⟩, false), (⟨(some 26), .load none (.s 25), none⟩, false), (⟨(some 27), .eqv true false [.i] (.s 21) (.s 26), none⟩, false), (⟨(some 28), .mv (.s 27), none⟩, false), (⟨(some 29), .mv (.s 0), some (28, false)⟩, true), (⟨(some 30), .mv (.s 5), some (28, false)⟩, true), (⟨(some 31), .iadr 6 (.s 29) (.s 30), some (28, false)⟩, false), (⟨(some 32), .fadr 1 (.s 31), some (28, false)⟩, false), (⟨(some 33), .load (some 2) (.s 32), some (28, false)⟩, false), (⟨(some 34), .mv (.s 1), some (28, false)⟩, true), (⟨(some 35), .mv (.s 5), some (28, false)⟩, true), (⟨(some 36), .iadr 6 (.s 34) (.s 35), some (28, false)⟩, false), (⟨(some 37), .fadr 1 (.s 36), some (28, false)⟩, false), (⟨(some 38), .load (some 2) (.s 37), some (28, false)⟩, false), (⟨(some 39), .eqv true true [.i, .i] (.s 33) (.s 38), some (28, false)⟩, false), (⟨(some 40), .pick (.s 28) (.c (.dat (.bool true))) (.s 39), none⟩, false), (⟨(some 41), .mv (.s 40), none⟩, false), (⟨(some 42), .mv (.s 0), some (41, false)⟩, true), (⟨(some 43), .mv (.s 5), some (41, false)⟩, true), (⟨(some 44), .iadr 6 (.s 42) (.s 43), some (41, false)⟩, false), (⟨(some 45), .fadr 3 (.s 44), some (41, false)⟩, false), (⟨(some 46), .load none (.s 45), some (41, false)⟩, false), (⟨(some 47), .mv (.s 1), some (41, false)⟩, true), (⟨(some 48), .mv (.s 5), some (41, false)⟩, true), (⟨(some 49), .iadr 6 (.s 47) (.s 48), some (41, false)⟩, false), (⟨(some 50), .fadr 3 (.s 49), some (41, false)⟩, false), (⟨(some 51), .load none (.s 50), some (41, false)⟩, false), (⟨(some 52), .eqv true false [.i] (.s 46) (.s 51), some (41, false)⟩, false), (⟨(some 53), .pick (.s 41) (.c (.dat (.bool true))) (.s 52), none⟩, false), (⟨(some 54), .mv (.s 53), none⟩, false), (⟨(some 55), .mv (.s 0), some (54, false)⟩, true), (⟨(some 56), .mv (.s 5), some (54, false)⟩, true), (⟨(some 57), .iadr 6 (.s 55) (.s 56), some (54, false)⟩, false), (⟨(some 58), .fadr 4 (.s 57), some (54, false)⟩, false), (⟨(some 59), .load none (.s 58), some (54, false)⟩, false), (⟨(some 60), .mv (.s 1), some (54, false)⟩, true), (⟨(some 61), .mv (.s 5), some (54, false)⟩, true), (⟨(some 62), .iadr 6 (.s 60) (.s 61), some (54, false)⟩, false), (⟨(some 63), .fadr 4 (.s 62), some (54, false)⟩, false), (⟨(some 64), .load none (.s 63), some (54, false)⟩, false), (⟨(some 65), .eqv true false [.i] (.s 59) (.s 64), some (54, false)⟩, false), (⟨(some 66), .pick (.s 54) (.c (.dat (.bool true))) (.s 65), none⟩, false), (⟨(some 67), .mv (.s 66), none⟩, false), (⟨(some 68), .mv (.s 0), some (67, false)⟩, true), (⟨(some 69), .mv (.s 5), some (67, false)⟩, true), (⟨(some 70), .iadr 6 (.s 68) (.s 69), some (67, false)⟩, false), (⟨(some 71), .fadr 5 (.s 70), some (67, false)⟩, false), (⟨(some 72), .load none (.s 71), some (67, false)⟩, false), (⟨(some 73), .mv (.s 1), some (67, false)⟩, true), (⟨(some 74), .mv (.s 5), some (67, false)⟩, true), (⟨(some 75), .iadr 6 (.s 73) (.s 74), some (67, false)⟩, false), (⟨(some 76), .fadr 5 (.s 75), some (67, false)⟩, false), (⟨(some 77), .load none (.s 76), some (67, false)⟩, false), (⟨(some 78), .call (.c (.fn (.func 29) [] [])) [(.s 72), (.s 77)], some (67, false)⟩, false), (⟨(some 79), .not (.s 78), some (67, false)⟩, false), (⟨(some 80), .pick (.s 67) (.c (.dat (.bool true))) (.s 79), none⟩, false)] (some []) [0, 1, 5, 80])
 (.cond (.s 80) (.seq (.reg [⟨(some 4), .mv (.c (.dat (.bool false))), none⟩] none [4])
 (.ret [4])) .skip)))
 (.reg [⟨(some 15), .mv (.s 5), none⟩, ⟨(some 16), .bin .add (.s 15) (.c (.dat (.int .i64 1))), none⟩, ⟨(some 5), .mv (.s 16), none⟩] none [0, 1, 5])))
def xf_plain_SameBallots : XFunc := ⟨none, true, 2, [.tmp 4], (.seq (.reg [⟨(some 4), .mv (.c (.dat (.bool false))), none⟩] none [0, 1])
 (.seq (.seq (.reg [⟨(some 6), .mv (.s 0), none⟩, ⟨(some 7), .len false (.s 6), none⟩, ⟨(some 8), .mv (.s 1), none⟩, ⟨(some 9), .len false (.s 8), none⟩, ⟨(some 10), .eqv true false [.i] (.s 7) (.s 9), none⟩] none [0, 1, 10])
 (.cond (.s 10) (.seq (.reg [⟨(some 4), .mv (.c (.dat (.bool false))), none⟩] none [4])
 (.ret [4])) .skip))
 (.seq (.seq (.reg [⟨(some 5), .mv (.c (.dat (.int .i64 0))), none⟩] none [0, 1, 5])
 (.block 0 (.loop xf_plain_SameBallots_k0 xf_plain_SameBallots_b0)))
 (.seq (.reg [⟨(some 4), .mv (.c (.dat (.bool true))), none⟩] none [4])
 (.ret [4])))))⟩

def xf_plain_SameAnswers_k0 : List (Nat × Option (Nat × Nat × Bool)) := [(0, none), (1, none), (5, none)]
def xf_plain_SameAnswers_b0 : XCode := (.seq (.seq (.reg [⟨(some 11), .mv (.s 5), none⟩, ⟨(some 12), .mv (.s 0), none⟩, ⟨(some 13), .len false (.s 12), none⟩, ⟨(some 14), .bin .lss (.s 11) (.s 13), none⟩] none [0, 1, 5, 14])
 (.cond (.s 14) .skip (.exit 0 [])))
 (.seq (.block 1 (.seq (.sreg [(⟨(some 17), .mv (.s 0), none⟩, false), (⟨(some 18), .mv (.s 5), none⟩, false), (⟨(some 19), .iadr 6 (.s 17) (.s 18), none⟩, false), (⟨(some 20), .fadr 0 (.s 19), none⟩, false), (⟨(some 21), .load none (.s 20), none⟩, false), (⟨(some 22), .mv (.s 1), none⟩, false), (⟨(some 23), .mv (.s 5), none⟩, false), (⟨(some 24), .iadr 6 (.s 22) (.s 23), none⟩, false), (⟨(some 25), .fadr 0 (.s 24), none⟩, false), (⟨(some 26), .load none (.s 25), none⟩, false), (⟨(some 27), .eqv true false [.i] (.s 21) (.s 26), none⟩, false), (⟨(some 28), .mv (.s 27), none⟩, false), (⟨(some 29), .mv (.s 0), some (28, false)⟩, true), (⟨(some 30), .mv (.s 5), some (28, false)⟩, true), (⟨(some 31), .iadr 6 (.s 29) (.s 30), some (28, false)⟩, false), (⟨(some 32), .fadr 1 (.s 31), some (28, false)⟩, false), (⟨(some 33), .load (some 2) (.s 32), some (28, false)⟩, false), (⟨(some 34), .mv (.s 1), some (28, false)⟩, true), (⟨(some 35), .mv (.s 5), some (28, false)⟩, true), (⟨(some 36), .iadr 6 (.s 34) (.s 35), some (28, false)⟩, false), (⟨(some 37), .fadr 1 (.s 36), some (28, false)⟩, false), (⟨(some 38), .load (some 2) (.s 37), some (28, false)⟩, false), (⟨(some 39), .eqv true true [.i, .i] (.s 33) (.s 38), some (28, false)⟩, false), (⟨(some 40), .pick (.s 28) (.c (.dat (.bool true))) (.s 39), none⟩, false), (⟨(some 41), .mv (.s 40), none⟩, false), (⟨(some 42), .mv (.s 0), some (41, false)⟩, true), (⟨(some 43), .mv (.s 5), some (41, false)⟩, true), (⟨(some 44), .iadr 6 (.s 42) (.s 43), some (41, false)⟩, false), (⟨(some 45), .fadr 3 (.s 44), some (41, false)⟩, false), (⟨(some 46), .load none (.s 45), some (41, false)⟩, false), (⟨(some 47), .mv (.s 1), some (41, false)⟩, true), (⟨(some 48), .mv (.s 5), some (41, false)⟩, true), (⟨(some 49), .iadr 6 (.s 47) (.s 48), some (41, false)⟩, false), (⟨(some 50), .fadr 3 (.s 49), some (41, false)⟩, false), (⟨(some 51), .load none (.s 50), some (41, false)⟩, false), (⟨(some 52), .eqv true false [.i] (.s 46) (.s 51), some (41, false)⟩, false), (⟨(some 53), .pick (.s 41) (.c (.dat (.bool true))) (.s 52), none⟩, false), (⟨(some 54), .mv (.s 53), none⟩, false), (⟨(some 55), .mv (.s 0), some (54, false)⟩, true), (⟨(some 56), .mv (.s 5), some (54, false)⟩, true), (⟨(some 57), .iadr 6 (.s 55) (.s 56), some (54, false)⟩, false), (⟨(some 58), .fadr 4 (.s 57), some (54, false)⟩, false), (⟨(some 59), .load none (.s 58), some (54, false)⟩, false), (⟨(some 60), .mv (.s 1), some (54, false)⟩, true), (⟨(some 61), .mv (.s 5), some (54, false)⟩, true), (⟨(some 62), .iadr 6 (.s 60) (.s 61), some (54, false)⟩, false), (⟨(some 63), .fadr 4 (.s 62), some (54, false)⟩, false), (⟨(some 64), .load none (.s 63), some (54, false)⟩, false), (⟨(some 65), .eqv true false [.i] (.s 59) (.s 64), some (54, false)⟩, false), (⟨(some 66), .pick (.s 54) (.c (.dat (.bool true))) (.s 65), none⟩, false), (⟨(some 67), .mv (.s 66), none⟩, false), (⟨(some 68), .mv (.s 0), some (67, false)⟩, true), (⟨(some 69), .mv (.s 5), some (67, false)⟩, true), (⟨(some 70), .iadr 6 (.s 68) (.s 69), some (67, false)⟩, false), (⟨(some 71), .fadr 5 (.s 70), some (67, false)⟩, false), (⟨(some 72), .load none (.s 71), some (67, false)⟩, false), (⟨(some 73), .mv (.s 1), some (67, false)⟩, true), (⟨(some 74), .mv (.s 5), some (67, false)⟩, true), (⟨(some 75), .iadr 6 (.s 73) (.s 74), some (67, false)⟩, false), (⟨(some 76), .fadr 5 (.s 75), some (67, false)⟩, false), (⟨(some 77), .load none (.s 76), some (67, false)⟩, false), (⟨(some 78), .call (.c (.fn (.func 29) [] [])) [(.s 72), (.s 77)], some (67, false)⟩, false), (⟨(some 79), .not (.s 78), some (67, false)⟩, false), (⟨(some 80), .pick (.s 67) (.c (.dat (.bool true))) (.s 79), none⟩, false)] (some []) [0, 1, 5, 80])
 (.cond (.s 80) (.seq (.reg [⟨(some 4), .mv (.c (.dat (.bool false))), none⟩] none [4])
 (.ret [4])) .skip)))
 (.reg [⟨(some 15), .mv (.s 5), none⟩, ⟨(some 16), .bin .add (.s 15) (.c (.dat (.int .i64 1))), none⟩, ⟨(some 5), .mv (.s 16), none⟩] none [0, 1, 5])))
def xf_plain_SameAnswers : XFunc := ⟨none, true, 2, [.tmp 4], (.seq (.reg [⟨(some 4), .mv (.c (.dat (.bool false))), none⟩] none [0, 1])
 (.seq (.seq (.reg [⟨(some 6), .mv (.s 0), none⟩, ⟨(some 7), .len false (.s 6), none⟩, ⟨(some 8), .mv (.s 1), none⟩, ⟨(some 9), .len false (.s 8), none⟩, ⟨(some 10), .eqv true false [.i] (.s 7) (.s 9), none⟩] none [0, 1, 10])
 (.cond (.s 10) (.seq (.reg [⟨(some 4), .mv (.c (.dat (.bool false))), none⟩] none [4])
 (.ret [4])) .skip))
 (.seq (.seq (.reg [⟨(some 5), .mv (.c (.dat (.int .i64 0))), none⟩] none [0, 1, 5])
 (.block 0 (.loop xf_plain_SameAnswers_k0 xf_plain_SameAnswers_b0)))
 (.seq (.reg [⟨(some 4), .mv (.c (.dat (.bool true))), none⟩] none [4])
 (.ret [4])))))⟩

def xf_plain_SameInts_k0 : List (Nat × Option (Nat × Nat × Bool)) := [(0, none), (1, none), (5, none)]
def xf_plain_SameInts_b0 : XCode := (.seq (.seq (.reg [⟨(some 11), .mv (.s 5), none⟩, ⟨(some 12), .mv (.s 0), none⟩, ⟨(some 13), .len false (.s 12), none⟩, ⟨(some 14), .bin .lss (.s 11) (.s 13), none⟩] none [0, 1, 5, 14])
 (.cond (.s 14) .skip (.exit 0 [])))
 (.seq (.block 1 (.seq (.reg [⟨(some 17), .mv (.s 0), none⟩, ⟨(some 18), .mv (.s 5), none⟩, ⟨(some 19), .iadr 1 (.s 17) (.s 18), none⟩, ⟨(some 20), .load none (.s 19), none⟩, ⟨(some 21), .mv (.s 1), none⟩, ⟨(some 22), .mv (.s 5), none⟩, ⟨(some 23), .iadr 1 (.s 21) (.s 22), none⟩, ⟨(some 24), .load none (.s 23), none⟩, ⟨(some 25), .eqv true false [.i] (.s 20) (.s 24), none⟩] (some []) [0, 1, 5, 25])
 (.cond (.s 25) (.seq (.reg [⟨(some 4), .mv (.c (.dat (.bool false))), none⟩] none [4])
 (.ret [4])) .skip)))
 (.reg [⟨(some 15), .mv (.s 5), none⟩, ⟨(some 16), .bin .add (.s 15) (.c (.dat (.int .i64 1))), none⟩, ⟨(some 5), .mv (.s 16), none⟩] none [0, 1, 5])))
def xf_plain_SameInts : XFunc := ⟨none, true, 2, [.tmp 4], (.seq (.reg [⟨(some 4), .mv (.c (.dat (.bool false))), none⟩] none [0, 1])
 (.seq (.seq (.reg [⟨(some 6), .mv (.s 0), none⟩, ⟨(some 7), .len false (.s 6), none⟩, ⟨(some 8), .mv (.s 1), none⟩, ⟨(some 9), .len false (.s 8), none⟩, ⟨(some 10), .eqv true false [.i] (.s 7) (.s 9), none⟩] none [0, 1, 10])
 (.cond (.s 10) (.seq (.reg [⟨(some 4), .mv (.c (.dat (.bool false))), none⟩] none [4])
 (.ret [4])) .skip))
 (.seq (.seq (.reg [⟨(some 5), .mv (.c (.dat (.int .i64 0))), none⟩] none [0, 1, 5])
 (.block 0 (.loop xf_plain_SameInts_k0 xf_plain_SameInts_b0)))
 (.seq (.reg [⟨(some 4), .mv (.c (.dat (.bool true))), none⟩] none [4])
 (.ret [4])))))⟩

def xf_core_Nodes : XFunc := ⟨none, true, 1, [.tmp 2], (.seq (.reg [⟨(some 1), .box (.s 0), none⟩, ⟨(some 2), .mv (.c (.dat (.int .i64 0))), none⟩] none [1])
 (.seq (.seq (.reg [⟨(some 3), .load (some 4) (.s 1), none⟩, ⟨(some 4), .call (.c (.fn (.func 43) [] [])) [(.s 3)], none⟩, ⟨(some 5), .eqv true false [.i] (.s 4) (.c (.dat (.int .i64 0))), none⟩] none [1, 5])
 (.cond (.s 5) (.seq (.reg [⟨(some 2), .mv (.c (.dat (.int .i64 0))), none⟩] none [2])
 (.ret [2])) .skip))
 (.seq (.reg [⟨(some 6), .fadr 0 (.s 1), none⟩, ⟨(some 7), .load none (.s 6), none⟩, ⟨(some 8), .bin .mul (.c (.dat (.int .i64 2))) (.s 7), none⟩, ⟨(some 9), .bin .add (.s 8) (.c (.dat (.int .i64 1))), none⟩, ⟨(some 2), .mv (.s 9), none⟩] none [2])
 (.ret [2]))))⟩

def xf_core_out : XFunc := ⟨none, true, 3, [.cell 6 (some 19)], (.seq (.reg [⟨(some 3), .box (.s 0), none⟩, ⟨(some 5), .box (.s 2), none⟩, ⟨(some 6), .alloc [(.dat (.int .i64 0)), (.dat (.int .i64 0)), (.dat (.int .i64 0)), (.dat (.int .i64 0)), (.dat (.int .i64 0)), (.dat (.int .i64 0)), (.dat (.int .i64 0)), (.dat (.int .i64 0)), (.dat (.str ⟨#[]⟩)), (.dat (.int .i64 0)), (.dat (.int .i64 0)), (.dat (.str ⟨#[]⟩)), (.dat (.int .i64 0)), (.dat (.int .i64 0)), (.dat (.int .i64 0)), (.dat (.int .u64 0)), (.dat (.int .u64 0)), (.nil 55 5 true), (.nil 60 2 true)], none⟩] none [1, 3, 5, 6])
 (.seq (.reg [⟨(some 7), .fadr 0 (.s 3), none⟩, ⟨(some 8), .load none (.s 7), none⟩, ⟨(some 9), .fadr 1 (.s 5), none⟩, ⟨none, .store 1 (.s 9) (.s 8), none⟩] none [1, 3, 5, 6])
 (.seq (.reg [⟨(some 10), .fadr 16 (.s 5), none⟩, ⟨(some 11), .load none (.s 10), none⟩, ⟨(some 12), .call (.c (.fn (.func 49) [] [])) [(.s 11)], none⟩, ⟨(some 13), .fadr 16 (.s 5), none⟩, ⟨none, .store 1 (.s 13) (.s 12), none⟩] none [1, 3, 5, 6])
 (.seq (.seq (.reg [⟨(some 14), .fadr 0 (.s 5), none⟩, ⟨(some 15), .load none (.s 14), none⟩, ⟨(some 16), .call (.c (.fn (.func 59) [] [])) [(.s 15)], none⟩] none [1, 3, 5, 6, 16])
 (.cond (.s 16) (.reg [⟨(some 17), .fadr 6 (.s 3), none⟩, ⟨(some 18), .load none (.s 17), none⟩, ⟨(some 19), .fadr 17 (.s 5), none⟩, ⟨none, .store 1 (.s 19) (.s 18), none⟩] none [1, 5, 6]) .skip))
 (.seq (.reg [⟨(some 20), .fadr 17 (.s 5), none⟩, ⟨(some 21), .load none (.s 20), none⟩, ⟨(some 22), .call (.c (.fn (.func 50) [] [])) [(.s 21)], none⟩, ⟨(some 23), .fadr 17 (.s 5), none⟩, ⟨none, .store 1 (.s 23) (.s 22), none⟩] none [1, 5, 6])
 (.seq (.reg [⟨(some 24), .mv (.s 1), none⟩, ⟨(some 25), .load (some 18) (.s 5), none⟩, ⟨(some 26), .build [(.dat (.int .i64 0)), (.dat (.int .i64 0)), (.dat (.int .i64 0)), (.dat (.int .i64 0)), (.dat (.int .i64 0)), (.dat (.int .i64 0)), (.dat (.int .i64 0)), (.dat (.int .i64 0)), (.dat (.str ⟨#[]⟩)), (.dat (.int .i64 0)), (.dat (.int .i64 0)), (.dat (.str ⟨#[]⟩)), (.dat (.int .i64 0)), (.dat (.int .i64 0)), (.dat (.int .i64 0)), (.dat (.int .u64 0)), (.dat (.int .u64 0)), (.nil 55 5 true), (.nil 60 2 true)] [(0, 1, (.s 24)), (1, 18, (.s 25))], none⟩, ⟨none, .store 19 (.s 6) (.s 26), none⟩] none [6])
 (.ret [6])))))))⟩

def xf_ref09_Nodes : XFunc := ⟨none, true, 1, [.tmp 2], (.seq (.reg [⟨(some 1), .box (.s 0), none⟩, ⟨(some 2), .mv (.c (.dat (.int .i64 0))), none⟩] none [1])
 (.seq (.seq (.reg [⟨(some 3), .load (some 4) (.s 1), none⟩, ⟨(some 4), .call (.c (.fn (.func 57) [] [])) [(.s 3)], none⟩, ⟨(some 5), .eqv true false [.i] (.s 4) (.c (.dat (.int .i64 0))), none⟩] none [1, 5])
 (.cond (.s 5) (.seq (.reg [⟨(some 2), .mv (.c (.dat (.int .i64 0))), none⟩] none [2])
 (.ret [2])) .skip))
 (.seq (.reg [⟨(some 6), .fadr 0 (.s 1), none⟩, ⟨(some 7), .load none (.s 6), none⟩, ⟨(some 8), .bin .mul (.c (.dat (.int .i64 2))) (.s 7), none⟩, ⟨(some 9), .bin .add (.s 8) (.c (.dat (.int .i64 1))), none⟩, ⟨(some 2), .mv (.s 9), none⟩] none [2])
 (.ret [2]))))⟩

def xf_ref09_stamped : XFunc := ⟨none, true, 2, [.cell 4 (some 18)], (.seq (.reg [⟨(some 2), .box (.s 0), none⟩, ⟨(some 3), .box (.s 1), none⟩, ⟨(some 4), .alloc [(.dat (.int .i64 0)), (.dat (.int .i64 0)), (.dat (.int .i64 0)), (.dat (.int .i64 0)), (.dat (.int .i64 0)), (.dat (.int .i64 0)), (.dat (.int .i64 0)), (.dat (.str ⟨#[]⟩)), (.dat (.int .i64 0)), (.dat (.int .i64 0)), (.dat (.str ⟨#[]⟩)), (.dat (.int .i64 0)), (.dat (.int .i64 0)), (.dat (.int .i64 0)), (.dat (.int .u64 0)), (.dat (.int .u64 0)), (.nil 55 5 true), (.nil 60 2 true)], none⟩] none [2, 3, 4])
 (.seq (.reg [⟨(some 6), .load (some 18) (.s 3), none⟩, ⟨(some 7), .call (.c (.fn (.func 60) [] [])) [(.s 6)], none⟩, ⟨(some 5), .alloc [(.dat (.int .i64 0)), (.dat (.int .i64 0)), (.dat (.int .i64 0)), (.dat (.int .i64 0)), (.dat (.int .i64 0)), (.dat (.int .i64 0)), (.dat (.int .i64 0)), (.dat (.str ⟨#[]⟩)), (.dat (.int .i64 0)), (.dat (.int .i64 0)), (.dat (.str ⟨#[]⟩)), (.dat (.int .i64 0)), (.dat (.int .i64 0)), (.dat (.int .i64 0)), (.dat (.int .u64 0)), (.dat (.int .u64 0)), (.nil 55 5 true), (.nil 60 2 true)], none⟩, ⟨none, .store 18 (.s 5) (.s 7), none⟩] none [2, 3, 4, 5])
 (.seq (.reg [⟨(some 8), .fadr 0 (.s 2), none⟩, ⟨(some 9), .load none (.s 8), none⟩, ⟨(some 10), .fadr 1 (.s 5), none⟩, ⟨none, .store 1 (.s 10) (.s 9), none⟩] none [2, 3, 4, 5])
 (.seq (.seq (.reg [⟨(some 11), .fadr 0 (.s 3), none⟩, ⟨(some 12), .load none (.s 11), none⟩, ⟨(some 13), .call (.c (.fn (.func 61) [] [])) [(.s 12)], none⟩] none [2, 4, 5, 13])
 (.cond (.s 13) (.reg [⟨(some 14), .fadr 6 (.s 2), none⟩, ⟨(some 15), .load none (.s 14), none⟩, ⟨(some 16), .call (.c (.fn (.func 56) [] [])) [(.s 15)], none⟩, ⟨(some 17), .fadr 17 (.s 5), none⟩, ⟨none, .store 1 (.s 17) (.s 16), none⟩] none [4, 5]) .skip))
 (.seq (.reg [⟨(some 18), .load (some 18) (.s 5), none⟩, ⟨none, .store 18 (.s 4) (.s 18), none⟩] none [4])
 (.ret [4]))))))⟩

def xf_client_Between : XFunc := ⟨none, true, 3, [.tmp 6, .tmp 7], (.seq (.reg [⟨(some 6), .mv (.c (.nil 110 7 true)), none⟩, ⟨(some 7), .mv (.c (.dat (.int .i64 0))), none⟩] none [0, 1, 2])
 (.seq (.seq (.reg [⟨(some 9), .mv (.s 0), none⟩, ⟨(some 10), .call (.c (.fn (.func 62) [] [])) [(.s 9)], none⟩, ⟨(some 8), .mv (.s 10), none⟩] none [0, 1, 2, 8])
 (.seq (.reg [⟨(some 11), .mv (.s 8), none⟩, ⟨(some 12), .eqv true false [.i] (.s 11) (.c (.dat (.int .i64 0))), none⟩] none [0, 1, 2, 8, 12])
 (.cond (.s 12) (.seq (.reg [⟨(some 13), .mv (.s 8), none⟩, ⟨(some 6), .mv (.c (.nil 110 7 true)), none⟩, ⟨(some 7), .mv (.s 13), none⟩] none [6, 7])
 (.ret [6, 7])) .skip)))
 (.seq (.seq (.sreg [(⟨(some 14), .mv (.s 1), none⟩, false), (⟨(some 15), .bin .lss (.s 14) (.c (.dat (.int .i64 0))), none⟩, false), (⟨(some 16), .mv (.s 15), none⟩, false), (⟨(some 17), .mv (.s 1), some (16, false)⟩, true), (⟨(some 18), .mv (.s 0), some (16, false)⟩, true), (⟨(some 19), .len false (.s 18), some (16, false)⟩, true), (⟨(some 20), .bin .gtr (.s 17) (.s 19), some (16, false)⟩, true), (⟨(some 21), .pick (.s 16) (.c (.dat (.bool true))) (.s 20), none⟩, false), (⟨(some 22), .mv (.s 21), none⟩, false), (⟨(some 23), .mv (.s 2), some (22, false)⟩, true), (⟨(some 24), .bin .lss (.s 23) (.c (.dat (.int .i64 0))), some (22, false)⟩, true), (⟨(some 25), .pick (.s 22) (.c (.dat (.bool true))) (.s 24), none⟩, false), (⟨(some 26), .mv (.s 25), none⟩, false), (⟨(some 27), .mv (.s 2), some (26, false)⟩, true), (⟨(some 28), .mv (.s 0), some (26, false)⟩, true), (⟨(some 29), .len false (.s 28), some (26, false)⟩, true), (⟨(some 30), .bin .gtr (.s 27) (.s 29), some (26, false)⟩, true), (⟨(some 31), .pick (.s 26) (.c (.dat (.bool true))) (.s 30), none⟩, false), (⟨(some 32), .mv (.s 31), none⟩, false), (⟨(some 33), .mv (.s 1), some (32, false)⟩, true), (⟨(some 34), .mv (.s 2), some (32, false)⟩, true), (⟨(some 35), .bin .gtr (.s 33) (.s 34), some (32, false)⟩, true), (⟨(some 36), .pick (.s 32) (.c (.dat (.bool true))) (.s 35), none⟩, false)] none [0, 1, 2, 36])
 (.cond (.s 36) (.seq (.reg [⟨(some 6), .mv (.c (.nil 110 7 true)), none⟩, ⟨(some 7), .mv (.c (.dat (.int .i64 50))), none⟩] none [6, 7])
 (.ret [6, 7])) .skip))
 (.seq (.reg [⟨(some 37), .mv (.s 0), none⟩, ⟨(some 38), .mv (.s 2), none⟩, ⟨(some 39), .call (.c (.fn (.func 63) [] [])) [(.s 37), (.s 38)], none⟩, ⟨(some 40), .mv (.s 1), none⟩, ⟨(some 41), .slice 7 (.s 39) (some (.s 40)) none, none⟩, ⟨(some 42), .app 110 7 64 true (.c (.nil 110 7 true)) (.s 41), none⟩, ⟨(some 6), .mv (.s 42), none⟩, ⟨(some 7), .mv (.c (.dat (.int .i64 0))), none⟩] none [6, 7])
 (.ret [6, 7])))))⟩

def xf_ref05_Between_k0 : List (Nat × Option (Nat × Nat × Bool)) := [(0, none), (2, none), (9, some (57, 3, true)), (10, some (110, 7, true)), (11, none)]
def xf_ref05_Between_b0 : XCode := (.seq (.seq (.reg [⟨(some 46), .mv (.s 11), none⟩, ⟨(some 47), .mv (.s 2), none⟩, ⟨(some 48), .bin .leq (.s 46) (.s 47), none⟩] none [0, 2, 9, 10, 11, 48])
 (.cond (.s 48) .skip (.exit 0 [10])))
 (.seq (.block 1 (.seq (.reg [⟨(some 51), .mv (.s 0), none⟩, ⟨(some 52), .mv (.s 11), none⟩, ⟨(some 53), .call (.c (.fn (.func 66) [] [])) [(.s 51), (.s 52), (.c (.dat (.bool false)))], none⟩, ⟨(some 12), .alloc [(.dat (.int .i64 0)), (.dat (.int .i64 0)), (.dat (.int .i64 0)), (.dat (.bool false)), (.dat (.int .i64 0)), (.dat (.int .i64 0)), (.dat (.str ⟨#[]⟩))], none⟩, ⟨none, .store 7 (.s 12) (.s 53), none⟩] none [0, 2, 9, 10, 11, 12])
 (.seq (.reg [⟨(some 54), .fadr 3 (.s 12), none⟩, ⟨none, .store 1 (.s 54) (.c (.dat (.bool true))), none⟩] none [0, 2, 9, 10, 11, 12])
 (.seq (.reg [⟨(some 55), .mv (.s 9), none⟩, ⟨(some 56), .mv (.s 11), none⟩, ⟨(some 57), .bin .sub (.s 56) (.c (.dat (.int .i64 1))), none⟩, ⟨(some 58), .iadr 3 (.s 55) (.s 57), none⟩, ⟨(some 59), .load (some 3) (.s 58), none⟩, ⟨(some 60), .fadr 4 (.s 12), none⟩, ⟨none, .store 3 (.s 60) (.s 59), none⟩] none [0, 2, 9, 10, 11, 12])
 (.reg [⟨(some 61), .mv (.s 10), none⟩, ⟨(some 62), .load (some 7) (.s 12), none⟩, ⟨(some 63), .bsl 110 7 true 1 [(.dat (.int .i64 0)), (.dat (.int .i64 0)), (.dat (.int .i64 0)), (.dat (.bool false)), (.dat (.int .i64 0)), (.dat (.int .i64 0)), (.dat (.str ⟨#[]⟩))] [(0, 7, (.s 62))], none⟩, ⟨(some 64), .app 110 7 64 true (.s 61) (.s 63), none⟩, ⟨(some 10), .mv (.s 64), none⟩] none [0, 2, 9, 10, 11])))))
 (.reg [⟨(some 49), .mv (.s 11), none⟩, ⟨(some 50), .bin .add (.s 49) (.c (.dat (.int .i64 1))), none⟩, ⟨(some 11), .mv (.s 50), none⟩] none [0, 2, 9, 10, 11])))
def xf_ref05_Between : XFunc := ⟨none, true, 3, [.tmp 6, .tmp 7], (.seq (.reg [⟨(some 6), .mv (.c (.nil 110 7 true)), none⟩, ⟨(some 7), .mv (.c (.dat (.int .i64 0))), none⟩] none [0, 1, 2])
 (.seq (.reg [⟨(some 13), .mv (.s 0), none⟩, ⟨(some 14), .call (.c (.fn (.func 64) [] [])) [(.s 13), (.c (.dat (.int .i64 256)))], none⟩, ⟨(some 8), .mv (.s 14), none⟩] none [0, 1, 2, 8])
 (.seq (.seq (.reg [⟨(some 15), .mv (.s 8), none⟩, ⟨(some 16), .eqv true false [.i] (.s 15) (.c (.dat (.int .i64 0))), none⟩] none [0, 1, 2, 8, 16])
 (.cond (.s 16) (.seq (.reg [⟨(some 17), .mv (.s 8), none⟩, ⟨(some 6), .mv (.c (.nil 110 7 true)), none⟩, ⟨(some 7), .mv (.s 17), none⟩] none [6, 7])
 (.ret [6, 7])) .skip))
 (.seq (.seq (.sreg [(⟨(some 18), .mv (.s 1), none⟩, false), (⟨(some 19), .bin .lss (.s 18) (.c (.dat (.int .i64 0))), none⟩, false), (⟨(some 20), .mv (.s 19), none⟩, false), (⟨(some 21), .mv (.s 1), some (20, false)⟩, true), (⟨(some 22), .mv (.s 0), some (20, false)⟩, true), (⟨(some 23), .len false (.s 22), some (20, false)⟩, true), (⟨(some 24), .bin .gtr (.s 21) (.s 23), some (20, false)⟩, true), (⟨(some 25), .pick (.s 20) (.c (.dat (.bool true))) (.s 24), none⟩, false), (⟨(some 26), .mv (.s 25), none⟩, false), (⟨(some 27), .mv (.s 2), some (26, false)⟩, true), (⟨(some 28), .bin .lss (.s 27) (.c (.dat (.int .i64 0))), some (26, false)⟩, true), (⟨(some 29), .pick (.s 26) (.c (.dat (.bool true))) (.s 28), none⟩, false), (⟨(some 30), .mv (.s 29), none⟩, false), (⟨(some 31), .mv (.s 2), some (30, false)⟩, true), (⟨(some 32), .mv (.s 0), some (30, false)⟩, true), (⟨(some 33), .len false (.s 32), some (30, false)⟩, true), (⟨(some 34), .bin .gtr (.s 31) (.s 33), some (30, false)⟩, true), (⟨(some 35), .pick (.s 30) (.c (.dat (.bool true))) (.s 34), none⟩, false), (⟨(some 36), .mv (.s 35), none⟩, false), (⟨(some 37), .mv (.s 1), some (36, false)⟩, true), (⟨(some 38), .mv (.s 2), some (36, false)⟩, true), (⟨(some 39), .bin .gtr (.s 37) (.s 38), some (36, false)⟩, true), (⟨(some 40), .pick (.s 36) (.c (.dat (.bool true))) (.s 39), none⟩, false)] none [0, 1, 2, 40])
 (.cond (.s 40) (.seq (.reg [⟨(some 6), .mv (.c (.nil 110 7 true)), none⟩, ⟨(some 7), .mv (.c (.dat (.int .i64 50))), none⟩] none [6, 7])
 (.ret [6, 7])) .skip))
 (.seq (.reg [⟨(some 41), .mv (.s 0), none⟩, ⟨(some 42), .mv (.s 2), none⟩, ⟨(some 43), .call (.c (.fn (.func 65) [] [])) [(.s 41), (.s 42)], none⟩, ⟨(some 9), .mv (.s 43), none⟩] none [0, 1, 2, 9])
 (.seq (.reg [⟨(some 10), .mv (.c (.nil 110 7 true)), none⟩] none [0, 1, 2, 9, 10])
 (.seq (.seq (.reg [⟨(some 44), .mv (.s 1), none⟩, ⟨(some 45), .bin .add (.s 44) (.c (.dat (.int .i64 1))), none⟩, ⟨(some 11), .mv (.s 45), none⟩] none [0, 2, 9, 10, 11])
 (.block 0 (.loop xf_ref05_Between_k0 xf_ref05_Between_b0)))
 (.seq (.reg [⟨(some 65), .mv (.s 10), none⟩, ⟨(some 6), .mv (.s 65), none⟩, ⟨(some 7), .mv (.c (.dat (.int .i64 0))), none⟩] none [6, 7])
 (.ret [6, 7])))))))))⟩

def xf_core_CheckConfig : XFunc := ⟨none, true, 1, [.tmp 2], (.seq (.reg [⟨(some 1), .box (.s 0), none⟩, ⟨(some 2), .mv (.c (.dat (.int .i64 0))), none⟩] none [1])
 (.seq (.seq (.sreg [(⟨(some 3), .fadr 0 (.s 1), none⟩, false), (⟨(some 4), .load none (.s 3), none⟩, false), (⟨(some 5), .bin .lss (.s 4) (.c (.dat (.int .i64 1))), none⟩, false), (⟨(some 6), .mv (.s 5), none⟩, false), (⟨(some 7), .fadr 0 (.s 1), some (6, false)⟩, true), (⟨(some 8), .load none (.s 7), some (6, false)⟩, true), (⟨(some 9), .bin .gtr (.s 8) (.c (.dat (.int .i64 3))), some (6, false)⟩, true), (⟨(some 10), .pick (.s 6) (.c (.dat (.bool true))) (.s 9), none⟩, false), (⟨(some 11), .mv (.s 10), none⟩, false), (⟨(some 12), .fadr 1 (.s 1), some (11, false)⟩, true), (⟨(some 13), .load none (.s 12), some (11, false)⟩, true), (⟨(some 14), .bin .lss (.s 13) (.c (.dat (.int .i64 1))), some (11, false)⟩, true), (⟨(some 15), .pick (.s 11) (.c (.dat (.bool true))) (.s 14), none⟩, false), (⟨(some 16), .mv (.s 15), none⟩, false), (⟨(some 17), .fadr 1 (.s 1), some (16, false)⟩, true), (⟨(some 18), .load none (.s 17), some (16, false)⟩, true), (⟨(some 19), .bin .gtr (.s 18) (.c (.dat (.int .i64 256))), some (16, false)⟩, true), (⟨(some 20), .pick (.s 16) (.c (.dat (.bool true))) (.s 19), none⟩, false), (⟨(some 21), .mv (.s 20), none⟩, false), (⟨(some 22), .fadr 2 (.s 1), some (21, false)⟩, true), (⟨(some 23), .load none (.s 22), some (21, false)⟩, true), (⟨(some 24), .bin .lss (.s 23) (.c (.dat (.int .i64 6))), some (21, false)⟩, true), (⟨(some 25), .pick (.s 21) (.c (.dat (.bool true))) (.s 24), none⟩, false), (⟨(some 26), .mv (.s 25), none⟩, false), (⟨(some 27), .fadr 2 (.s 1), some (26, false)⟩, true), (⟨(some 28), .load none (.s 27), some (26, false)⟩, true), (⟨(some 29), .bin .gtr (.s 28) (.c (.dat (.int .i64 100))), some (26, false)⟩, true), (⟨(some 30), .pick (.s 26) (.c (.dat (.bool true))) (.s 29), none⟩, false)] none [30])
 (.cond (.s 30) (.seq (.reg [⟨(some 2), .mv (.c (.dat (.int .i64 1))), none⟩] none [2])
 (.ret [2])) .skip))
 (.seq (.reg [⟨(some 2), .mv (.c (.dat (.int .i64 0))), none⟩] none [2])
 (.ret [2]))))⟩

def xf_core_logged : XFunc := ⟨none, true, 3, [.tmp 6], (.seq (.reg [⟨(some 3), .box (.s 0), none⟩, ⟨(some 6), .mv (.c (.dat (.bool false))), none⟩] none [1, 2, 3])
 (.seq (.reg [⟨(some 10), .mv (.s 1), none⟩, ⟨(some 11), .fadr 1 (.s 3), none⟩, ⟨(some 12), .load none (.s 11), none⟩, ⟨(some 13), .call (.c (.fn (.func 67) [] [])) [(.s 10), (.s 12)], none⟩, ⟨(some 9), .mv (.s 13), none⟩, ⟨(some 14), .ext (.s 9) 0, none⟩, ⟨(some 15), .ext (.s 9) 1, none⟩, ⟨(some 7), .mv (.s 14), none⟩, ⟨(some 8), .mv (.s 15), none⟩] none [1, 2, 7])
 (.seq (.sreg [(⟨(some 16), .mv (.s 7), none⟩, false), (⟨(some 17), .eqv false false [.i] (.s 16) (.c (.dat (.int .i64 0))), none⟩, false), (⟨(some 18), .mv (.s 17), none⟩, false), (⟨(some 19), .mv (.s 2), some (18, true)⟩, true), (⟨(some 20), .bin .geq (.s 19) (.c (.dat (.int .i64 0))), some (18, true)⟩, true), (⟨(some 21), .pick (.s 18) (.s 20) (.c (.dat (.bool false))), none⟩, false), (⟨(some 22), .mv (.s 21), none⟩, false), (⟨(some 23), .mv (.s 2), some (22, true)⟩, true), (⟨(some 24), .mv (.s 1), some (22, true)⟩, true), (⟨(some 25), .len false (.s 24), some (22, true)⟩, true), (⟨(some 26), .bin .leq (.s 23) (.s 25), some (22, true)⟩, true), (⟨(some 27), .pick (.s 22) (.s 26) (.c (.dat (.bool false))), none⟩, false), (⟨(some 6), .mv (.s 27), none⟩, false)] none [6])
 (.ret [6]))))⟩

def xf_core_voted_k1 : List (Nat × Option (Nat × Nat × Bool)) := [(1, none), (3, none), (6, none), (10, none), (11, none), (14, some (138, 3, true)), (15, none), (16, none)]
def xf_core_voted_b1 : XCode := (.seq (.reg [⟨(some 17), .bin .lss (.s 16) (.s 15), none⟩] none [1, 3, 6, 10, 11, 14, 15, 16, 17])
 (.seq (.cond (.s 17) .skip (.exit 2 [1, 3, 10, 11]))
 (.seq (.block 3 (.seq (.reg [⟨(some 18), .iadr 3 (.s 14) (.s 16), none⟩, ⟨(some 19), .load (some 3) (.s 18), none⟩, ⟨(some 8), .alloc [(.dat (.int .i64 0)), (.dat (.int .u64 0)), (.dat (.int .u64 0))], none⟩, ⟨none, .store 3 (.s 8) (.s 19), none⟩] none [1, 3, 6, 8, 10, 11, 14, 15, 16])
 (.seq (.seq (.sreg [(⟨(some 20), .fadr 0 (.s 8), none⟩, false), (⟨(some 21), .load none (.s 20), none⟩, false), (⟨(some 22), .mv (.s 6), none⟩, false), (⟨(some 23), .bin .leq (.s 21) (.s 22), none⟩, false), (⟨(some 24), .mv (.s 23), none⟩, false), (⟨(some 25), .fadr 0 (.s 8), some (24, false)⟩, true), (⟨(some 26), .load none (.s 25), some (24, false)⟩, true), (⟨(some 27), .fadr 6 (.s 1), some (24, false)⟩, true), (⟨(some 28), .load none (.s 27), some (24, false)⟩, true), (⟨(some 29), .len false (.s 28), some (24, false)⟩, true), (⟨(some 30), .bin .geq (.s 26) (.s 29), some (24, false)⟩, true), (⟨(some 31), .pick (.s 24) (.c (.dat (.bool true))) (.s 30), none⟩, false), (⟨(some 32), .mv (.s 31), none⟩, false), (⟨(some 33), .fadr 0 (.s 8), some (32, false)⟩, true), (⟨(some 34), .load none (.s 33), some (32, false)⟩, true), (⟨(some 35), .fadr 0 (.s 1), some (32, false)⟩, true), (⟨(some 36), .load none (.s 35), some (32, false)⟩, true), (⟨(some 37), .eqv false false [.i] (.s 34) (.s 36), some (32, false)⟩, true), (⟨(some 38), .pick (.s 32) (.c (.dat (.bool true))) (.s 37), none⟩, false), (⟨(some 39), .mv (.s 38), none⟩, false), (⟨(some 40), .fadr 6 (.s 1), some (39, false)⟩, true), (⟨(some 41), .load none (.s 40), some (39, false)⟩, true), (⟨(some 42), .fadr 0 (.s 8), some (39, false)⟩, true), (⟨(some 43), .load none (.s 42), some (39, false)⟩, true), (⟨(some 44), .iadr 2 (.s 41) (.s 43), some (39, false)⟩, false), (⟨(some 45), .load (some 2) (.s 44), some (39, false)⟩, false), (⟨(some 46), .fadr 1 (.s 8), some (39, false)⟩, true), (⟨(some 47), .load (some 2) (.s 46), some (39, false)⟩, true), (⟨(some 48), .eqv true true [.i, .i] (.s 45) (.s 47), some (39, false)⟩, false), (⟨(some 49), .pick (.s 39) (.c (.dat (.bool true))) (.s 48), none⟩, false)] (some []) [1, 3, 8, 10, 11, 14, 15, 16, 49])
 (.cond (.s 49) (.seq (.reg [⟨(some 3), .mv (.c (.dat (.bool false))), none⟩] none [3])
 (.exit 0 [3])) .skip))
 (.reg [⟨(some 50), .fadr 0 (.s 8), none⟩, ⟨(some 51), .load none (.s 50), none⟩, ⟨(some 6), .mv (.s 51), none⟩] none [1, 3, 6, 10, 11, 14, 15, 16]))))
 (.reg [⟨(some 52), .bin .add (.s 16) (.c (.dat (.int .i64 1))), none⟩, ⟨(some 16), .mv (.s 52), none⟩] none [1, 3, 6, 10, 11, 14, 15, 16]))))
def xf_core_voted_k0 : List (Nat × Option (Nat × Nat × Bool)) := [(1, none), (3, none), (10, none), (11, none)]
def xf_core_voted_b0 : XCode := (.seq (.reg [⟨(some 12), .bin .lss (.s 11) (.c (.dat (.int .i64 4))), none⟩] none [1, 3, 10, 11, 12])
 (.seq (.cond (.s 12) .skip (.exit 0 [3]))
 (.seq (.block 1 (.seq (.reg [⟨(some 13), .idx none 1 4 (.s 10) (.s 11), none⟩, ⟨(some 5), .mv (.s 13), none⟩] none [1, 3, 5, 10, 11])
 (.seq (.reg [⟨(some 6), .mv (.c (.dat (.int .i64 (-1)))), none⟩] none [1, 3, 5, 6, 10, 11])
 (.seq (.reg [⟨(some 14), .mv (.s 5), none⟩, ⟨(some 15), .len false (.s 14), none⟩, ⟨(some 16), .mv (.c (.dat (.int .i64 0))), none⟩] none [1, 3, 6, 10, 11, 14, 15, 16])
 (.block 2 (.loop xf_core_voted_k1 xf_core_voted_b1))))))
 (.reg [⟨(some 53), .bin .add (.s 11) (.c (.dat (.int .i64 1))), none⟩, ⟨(some 11), .mv (.s 53), none⟩] none [1, 3, 10, 11]))))
def xf_core_voted : XFunc := ⟨none, true, 1, [.tmp 2], (.seq (.reg [⟨(some 1), .box (.s 0), none⟩, ⟨(some 2), .mv (.c (.dat (.bool false))), none⟩] none [1])
 (.seq (.reg [⟨(some 3), .mv (.c (.dat (.bool true))), none⟩] none [1, 3])
 (.seq .skip
 (.seq (.seq (.reg [⟨(some 9), .load (some 12) (.s 1), none⟩, ⟨(some 10), .call (.c (.fn (.func 68) [] [])) [(.s 9)], none⟩, ⟨(some 11), .mv (.c (.dat (.int .i64 0))), none⟩] none [1, 3, 10, 11])
 (.block 0 (.loop xf_core_voted_k0 xf_core_voted_b0)))
 (.seq (.reg [⟨(some 54), .mv (.s 3), none⟩, ⟨(some 2), .mv (.s 54), none⟩] none [2])
 (.ret [2]))))))⟩

def xf_core_normal_k0 : List (Nat × Option (Nat × Nat × Bool)) := [(3, none), (39, some (118, 4, true)), (40, none), (41, none)]
def xf_core_normal_b0 : XCode := (.seq (.reg [⟨(some 42), .bin .lss (.s 41) (.s 40), none⟩] none [3, 39, 40, 41, 42])
 (.seq (.cond (.s 42) .skip (.exit 0 [3]))
 (.seq (.block 1 (.seq (.reg [⟨(some 43), .iadr 4 (.s 39) (.s 41), none⟩, ⟨(some 44), .load (some 4) (.s 43), none⟩, ⟨(some 6), .alloc [(.dat (.int .i64 0)), (.dat (.int .u64 0)), (.dat (.int .u64 0)), (.dat (.int .i64 0))], none⟩, ⟨none, .store 4 (.s 6) (.s 44), none⟩] none [3, 6, 39, 40, 41])
 (.seq (.sreg [(⟨(some 45), .fadr 3 (.s 6), none⟩, false), (⟨(some 46), .load none (.s 45), none⟩, false), (⟨(some 47), .bin .lss (.s 46) (.c (.dat (.int .i64 1))), none⟩, false), (⟨(some 48), .mv (.s 47), none⟩, false), (⟨(some 49), .fadr 3 (.s 6), some (48, false)⟩, true), (⟨(some 50), .load none (.s 49), some (48, false)⟩, true), (⟨(some 51), .fadr 4 (.s 3), some (48, false)⟩, true), (⟨(some 52), .load none (.s 51), some (48, false)⟩, true), (⟨(some 53), .len false (.s 52), some (48, false)⟩, true), (⟨(some 54), .bin .gtr (.s 50) (.s 53), some (48, false)⟩, true), (⟨(some 55), .pick (.s 48) (.c (.dat (.bool true))) (.s 54), none⟩, false)] none [3, 39, 40, 41, 55])
 (.cond (.s 55) (.seq (.reg [⟨(some 4), .mv (.c (.dat (.bool false))), none⟩] none [4])
 (.ret [4])) .skip))))
 (.reg [⟨(some 56), .bin .add (.s 41) (.c (.dat (.int .i64 1))), none⟩, ⟨(some 41), .mv (.s 56), none⟩] none [3, 39, 40, 41]))))
def xf_core_normal : XFunc := ⟨none, true, 2, [.tmp 4], (.seq (.reg [⟨(some 2), .box (.s 0), none⟩, ⟨(some 3), .box (.s 1), none⟩, ⟨(some 4), .mv (.c (.dat (.bool false))), none⟩] none [2, 3])
 (.seq (.seq (.sreg [(⟨(some 7), .fadr 3 (.s 3), none⟩, false), (⟨(some 8), .load none (.s 7), none⟩, false), (⟨(some 9), .fadr 2 (.s 3), none⟩, false), (⟨(some 10), .load none (.s 9), none⟩, false), (⟨(some 11), .eqv true false [.i] (.s 8) (.s 10), none⟩, false), (⟨(some 12), .mv (.s 11), none⟩, false), (⟨(some 13), .fadr 9 (.s 3), some (12, false)⟩, true), (⟨(some 14), .load none (.s 13), some (12, false)⟩, true), (⟨(some 15), .len false (.s 14), some (12, false)⟩, true), (⟨(some 16), .bin .gtr (.s 15) (.c (.dat (.int .i64 0))), some (12, false)⟩, true), (⟨(some 17), .pick (.s 12) (.c (.dat (.bool true))) (.s 16), none⟩, false), (⟨(some 18), .mv (.s 17), none⟩, false), (⟨(some 19), .fadr 10 (.s 3), some (18, false)⟩, true), (⟨(some 20), .load none (.s 19), some (18, false)⟩, true), (⟨(some 21), .len false (.s 20), some (18, false)⟩, true), (⟨(some 22), .bin .gtr (.s 21) (.c (.dat (.int .i64 0))), some (18, false)⟩, true), (⟨(some 23), .pick (.s 18) (.c (.dat (.bool true))) (.s 22), none⟩, false), (⟨(some 24), .mv (.s 23), none⟩, false), (⟨(some 25), .fadr 11 (.s 3), some (24, false)⟩, true), (⟨(some 26), .load none (.s 25), some (24, false)⟩, true), (⟨(some 27), .len false (.s 26), some (24, false)⟩, true), (⟨(some 28), .bin .gtr (.s 27) (.c (.dat (.int .i64 0))), some (24, false)⟩, true), (⟨(some 29), .pick (.s 24) (.c (.dat (.bool true))) (.s 28), none⟩, false)] none [2, 3, 29])
 (.cond (.s 29) (.seq (.reg [⟨(some 4), .mv (.c (.dat (.bool false))), none⟩] none [4])
 (.ret [4])) .skip))
 (.seq (.seq (.reg [⟨(some 30), .load (some 4) (.s 2), none⟩, ⟨(some 31), .load (some 12) (.s 3), none⟩, ⟨(some 32), .call (.c (.fn (.func 23) [] [])) [(.s 30), (.s 31)], none⟩, ⟨(some 33), .not (.s 32), none⟩] none [3, 33])
 (.cond (.s 33) (.seq (.reg [⟨(some 34), .fadr 8 (.s 3), none⟩, ⟨(some 35), .load none (.s 34), none⟩, ⟨(some 36), .len false (.s 35), none⟩, ⟨(some 37), .eqv false false [.i] (.s 36) (.c (.dat (.int .i64 0))), none⟩, ⟨(some 4), .mv (.s 37), none⟩] none [4])
 (.ret [4])) .skip))
 (.seq (.seq (.reg [⟨(some 38), .fadr 8 (.s 3), none⟩, ⟨(some 39), .load none (.s 38), none⟩, ⟨(some 40), .len false (.s 39), none⟩, ⟨(some 41), .mv (.c (.dat (.int .i64 0))), none⟩] none [3, 39, 40, 41])
 (.block 0 (.loop xf_core_normal_k0 xf_core_normal_b0)))
 (.seq (.reg [⟨(some 57), .fadr 7 (.s 3), none⟩, ⟨(some 58), .load none (.s 57), none⟩, ⟨(some 59), .eqv false false [.i] (.s 58) (.c (.dat (.int .i64 0))), none⟩, ⟨(some 4), .mv (.s 59), none⟩] none [4])
 (.ret [4]))))))⟩
theorem r_ref09_Carry : progT Try.prog 20 = some xf_ref09_Carry.plain := by kernel_rfl
theorem r_core_Check : progT Try.prog 21 = some xf_core_Check.plain := by kernel_rfl
theorem r_core_twin : progT Try.prog 22 = some xf_core_twin.plain := by kernel_rfl
theorem r_core_leads : progT Try.prog 23 = some xf_core_leads.plain := by kernel_rfl
theorem r_plain_CopyState : progT Try.prog 24 = some xf_plain_CopyState.plain := by kernel_rfl
theorem r_plain_Given_Entries : progT Try.prog 25 = some xf_plain_Given_Entries.plain := by kernel_rfl
theorem r_plain_Given_Vector : progT Try.prog 26 = some xf_plain_Given_Vector.plain := by kernel_rfl
theorem r_ref09_Check : progT Try.prog 27 = some xf_ref09_Check.plain := by kernel_rfl
theorem r_ref09_Primary : progT Try.prog 28 = some xf_ref09_Primary.plain := by kernel_rfl
theorem r_plain_SameEntries : progT Try.prog 29 = some xf_plain_SameEntries.plain := by kernel_rfl
theorem r_plain_SameVector : progT Try.prog 30 = some xf_plain_SameVector.plain := by kernel_rfl
theorem r_plain_sameAcks : progT Try.prog 31 = some xf_plain_sameAcks.plain := by kernel_rfl
theorem r_plain_sameMarks : progT Try.prog 32 = some xf_plain_sameMarks.plain := by kernel_rfl
theorem r_plain_SameBallots : progT Try.prog 33 = some xf_plain_SameBallots.plain := by kernel_rfl
theorem r_plain_SameAnswers : progT Try.prog 34 = some xf_plain_SameAnswers.plain := by kernel_rfl
theorem r_plain_SameInts : progT Try.prog 36 = some xf_plain_SameInts.plain := by kernel_rfl
theorem r_core_Nodes : progT Try.prog 37 = some xf_core_Nodes.plain := by kernel_rfl
theorem r_core_out : progT Try.prog 38 = some xf_core_out.plain := by kernel_rfl
theorem r_ref09_Nodes : progT Try.prog 39 = some xf_ref09_Nodes.plain := by kernel_rfl
theorem r_ref09_stamped : progT Try.prog 40 = some xf_ref09_stamped.plain := by kernel_rfl
theorem r_client_Between : progT Try.prog 41 = some xf_client_Between.plain := by kernel_rfl
theorem r_ref05_Between : progT Try.prog 42 = some xf_ref05_Between.plain := by kernel_rfl
theorem r_core_CheckConfig : progT Try.prog 43 = some xf_core_CheckConfig.plain := by kernel_rfl
theorem r_core_logged : progT Try.prog 44 = some xf_core_logged.plain := by kernel_rfl
theorem r_core_voted : progT Try.prog 45 = some xf_core_voted.plain := by kernel_rfl
theorem r_core_normal : progT Try.prog 46 = some xf_core_normal.plain := by kernel_rfl

end Go.Ax
