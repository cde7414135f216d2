/-
  The functions of this seat as resolved code, and that the program resolves to them (part 4).
-/
import Derived.Test.YtponcchkfmbicaaXComp
import Derived.Test.YtponcchkfmbicaaXFn
import Derived.Test.YtponcchkfmbicaaXG
import Derived.Test.YtponcchkfmbicaaProg
import Derived.KernelRfl
namespace Go.Ax
open Go.Proofs

def xf_ref05_Entry : XFunc := ⟨none, true, 1, [.tmp 2], (.seq (.reg [⟨(some 1), .box (.s 0), none⟩, ⟨(some 2), .mv (.c (.dat (.int .i64 0))), none⟩] none [1])
 (.seq (.seq (.sreg [(⟨(some 3), .fadr 0 (.s 1), none⟩, false), (⟨(some 4), .load none (.s 3), none⟩, false), (⟨(some 5), .bin .lss (.s 4) (.c (.dat (.int .i64 0))), none⟩, false), (⟨(some 6), .mv (.s 5), none⟩, false), (⟨(some 7), .fadr 0 (.s 1), some (6, false)⟩, true), (⟨(some 8), .load none (.s 7), some (6, false)⟩, true), (⟨(some 9), .bin .geq (.s 8) (.c (.dat (.int .i64 16))), some (6, false)⟩, true), (⟨(some 10), .pick (.s 6) (.c (.dat (.bool true))) (.s 9), none⟩, false)] none [1, 10])
 (.cond (.s 10) (.seq (.reg [⟨(some 2), .mv (.c (.dat (.int .i64 62))), none⟩] none [2])
 (.ret [2])) .skip))
 (.seq (.seq (.reg [⟨(some 11), .fadr 1 (.s 1), none⟩, ⟨(some 12), .load none (.s 11), none⟩, ⟨(some 13), .bin .lss (.s 12) (.c (.dat (.int .i64 1))), none⟩] none [1, 13])
 (.cond (.s 13) (.seq (.reg [⟨(some 2), .mv (.c (.dat (.int .i64 63))), none⟩] none [2])
 (.ret [2])) .skip))
 (.seq (.reg [⟨(some 14), .fadr 2 (.s 1), none⟩, ⟨(some 15), .load (some 3) (.s 14), none⟩, ⟨(some 16), .call (.c (.fn (.func 85) [] [])) [(.s 15)], none⟩, ⟨(some 2), .mv (.s 16), none⟩] none [2])
 (.ret [2])))))⟩

def xf_ref04_Replay_k0 : List (Nat × Option (Nat × Nat × Bool)) := [(0, none), (4, some (174, 2, true)), (5, some (57, 3, true)), (6, none)]
def xf_ref04_Replay_b0 : XCode := (.seq (.seq (.reg [⟨(some 9), .mv (.s 6), none⟩, ⟨(some 10), .mv (.s 0), none⟩, ⟨(some 11), .len false (.s 10), none⟩, ⟨(some 12), .bin .lss (.s 9) (.s 11), none⟩] none [0, 4, 5, 6, 12])
 (.cond (.s 12) .skip (.exit 0 [4, 5])))
 (.seq (.block 1 (.seq (.reg [⟨(some 16), .mv (.s 4), none⟩, ⟨(some 17), .mv (.s 0), none⟩, ⟨(some 18), .mv (.s 6), none⟩, ⟨(some 19), .iadr 3 (.s 17) (.s 18), none⟩, ⟨(some 20), .load (some 3) (.s 19), none⟩, ⟨(some 21), .call (.c (.fn (.func 86) [] [])) [(.s 16), (.s 20)], none⟩, ⟨(some 15), .mv (.s 21), none⟩, ⟨(some 22), .ext (.s 15) 0, none⟩, ⟨(some 23), .ext (.s 15) 1, none⟩, ⟨(some 8), .alloc [(.dat (.int .i64 0)), (.dat (.int .i64 0)), (.dat (.str ⟨#[]⟩))], none⟩, ⟨(some 7), .mv (.s 22), none⟩, ⟨none, .store 3 (.s 8) (.s 23), none⟩] none [0, 5, 6, 7, 8])
 (.seq (.reg [⟨(some 24), .mv (.s 7), none⟩, ⟨(some 4), .mv (.s 24), none⟩] none [0, 4, 5, 6, 8])
 (.reg [⟨(some 25), .mv (.s 5), none⟩, ⟨(some 26), .load (some 3) (.s 8), none⟩, ⟨(some 27), .bsl 57 3 true 1 [(.dat (.int .i64 0)), (.dat (.int .i64 0)), (.dat (.str ⟨#[]⟩))] [(0, 3, (.s 26))], none⟩, ⟨(some 28), .app 57 3 32 true (.s 25) (.s 27), none⟩, ⟨(some 5), .mv (.s 28), none⟩] none [0, 4, 5, 6]))))
 (.reg [⟨(some 13), .mv (.s 6), none⟩, ⟨(some 14), .bin .add (.s 13) (.c (.dat (.int .i64 1))), none⟩, ⟨(some 6), .mv (.s 14), none⟩] none [0, 4, 5, 6])))
def xf_ref04_Replay : XFunc := ⟨none, true, 1, [.tmp 2, .tmp 3], (.seq (.reg [⟨(some 2), .mv (.c (.nil 174 2 true)), none⟩, ⟨(some 3), .mv (.c (.nil 57 3 true)), none⟩] none [0])
 (.seq (.reg [⟨(some 4), .mv (.c (.nil 174 2 true)), none⟩] none [0, 4])
 (.seq (.reg [⟨(some 5), .mv (.c (.nil 57 3 true)), none⟩] none [0, 4, 5])
 (.seq (.seq (.reg [⟨(some 6), .mv (.c (.dat (.int .i64 0))), none⟩] none [0, 4, 5, 6])
 (.block 0 (.loop xf_ref04_Replay_k0 xf_ref04_Replay_b0)))
 (.seq (.reg [⟨(some 29), .mv (.s 4), none⟩, ⟨(some 30), .mv (.s 5), none⟩, ⟨(some 2), .mv (.s 29), none⟩, ⟨(some 3), .mv (.s 30), none⟩] none [2, 3])
 (.ret [2, 3]))))))⟩

def xf_oplog_Each : XFunc := ⟨none, false, 2, [.tmp 4], (.seq (.reg [⟨(some 3), .box (.s 1), none⟩, ⟨(some 4), .mv (.c (.dat .nilf)), none⟩] none [0, 3])
 (.seq (.reg [⟨(some 6), .mv (.s 0), none⟩, ⟨(some 7), .call (.c (.fn (.func 87) [] [])) [(.s 6), (.c (.nil 55 5 true))], none⟩, ⟨(some 5), .alloc [(.nil 55 5 true)], none⟩, ⟨none, .store 1 (.s 5) (.s 7), none⟩] none [3, 5])
 (.seq (.reg [⟨(some 8), .mkfn (.func 88) [] [(.s 3), (.s 5)], none⟩, ⟨(some 4), .mv (.s 8), none⟩] none [4])
 (.ret [4]))))⟩

def xf_oplog_fits : XFunc := ⟨none, true, 2, [.tmp 4], (.seq (.reg [⟨(some 3), .box (.s 1), none⟩, ⟨(some 4), .mv (.c (.dat (.int .i64 0))), none⟩] none [0, 3])
 (.seq (.seq (.sreg [(⟨(some 8), .fadr 0 (.s 3), none⟩, false), (⟨(some 9), .load none (.s 8), none⟩, false), (⟨(some 10), .bin .lss (.s 9) (.c (.dat (.int .i64 0))), none⟩, false), (⟨(some 11), .mv (.s 10), none⟩, false), (⟨(some 12), .fadr 0 (.s 3), some (11, false)⟩, true), (⟨(some 13), .load none (.s 12), some (11, false)⟩, true), (⟨(some 14), .bin .geq (.s 13) (.c (.dat (.int .i64 16))), some (11, false)⟩, true), (⟨(some 15), .pick (.s 11) (.c (.dat (.bool true))) (.s 14), none⟩, false)] none [0, 3, 15])
 (.cond (.s 15) (.seq (.reg [⟨(some 4), .mv (.c (.dat (.int .i64 62))), none⟩] none [4])
 (.ret [4])) .skip))
 (.seq (.seq (.reg [⟨(some 16), .fadr 1 (.s 3), none⟩, ⟨(some 17), .load none (.s 16), none⟩, ⟨(some 18), .bin .lss (.s 17) (.c (.dat (.int .i64 1))), none⟩] none [0, 3, 18])
 (.cond (.s 18) (.seq (.reg [⟨(some 4), .mv (.c (.dat (.int .i64 63))), none⟩] none [4])
 (.ret [4])) .skip))
 (.seq (.seq (.reg [⟨(some 19), .fadr 2 (.s 3), none⟩, ⟨(some 20), .load (some 3) (.s 19), none⟩, ⟨(some 21), .call (.c (.fn (.func 75) [] [])) [(.s 20)], none⟩, ⟨(some 5), .mv (.s 21), none⟩] none [0, 3, 5])
 (.seq (.reg [⟨(some 22), .mv (.s 5), none⟩, ⟨(some 23), .eqv true false [.i] (.s 22) (.c (.dat (.int .i64 0))), none⟩] none [0, 3, 5, 23])
 (.cond (.s 23) (.seq (.reg [⟨(some 24), .mv (.s 5), none⟩, ⟨(some 4), .mv (.s 24), none⟩] none [4])
 (.ret [4])) .skip)))
 (.seq (.seq (.reg [⟨(some 26), .mv (.s 0), none⟩, ⟨(some 27), .fadr 0 (.s 3), none⟩, ⟨(some 28), .load none (.s 27), none⟩, ⟨(some 29), .mget true (.int .i64 0) (.s 26) (.s 28), none⟩, ⟨(some 25), .mv (.s 29), none⟩, ⟨(some 30), .ext (.s 25) 0, none⟩, ⟨(some 31), .ext (.s 25) 1, none⟩, ⟨(some 6), .mv (.s 30), none⟩, ⟨(some 7), .mv (.s 31), none⟩] none [3, 6, 7])
 (.seq (.sreg [(⟨(some 32), .mv (.s 7), none⟩, false), (⟨(some 33), .mv (.s 32), none⟩, false), (⟨(some 34), .mv (.s 6), some (33, true)⟩, true), (⟨(some 35), .fadr 1 (.s 3), some (33, true)⟩, true), (⟨(some 36), .load none (.s 35), some (33, true)⟩, true), (⟨(some 37), .bin .geq (.s 34) (.s 36), some (33, true)⟩, true), (⟨(some 38), .pick (.s 33) (.s 37) (.c (.dat (.bool false))), none⟩, false)] none [38])
 (.cond (.s 38) (.seq (.reg [⟨(some 4), .mv (.c (.dat (.int .i64 64))), none⟩] none [4])
 (.ret [4])) .skip)))
 (.seq (.reg [⟨(some 4), .mv (.c (.dat (.int .i64 0))), none⟩] none [4])
 (.ret [4])))))))⟩

def xf_ref09_voters_k0 : List (Nat × Option (Nat × Nat × Bool)) := [(1, none), (2, none), (3, none), (4, none), (9, none)]
def xf_ref09_voters_b0 : XCode := (.seq (.seq (.reg [⟨(some 10), .mv (.s 9), none⟩, ⟨(some 11), .mv (.s 2), none⟩, ⟨(some 12), .len false (.s 11), none⟩, ⟨(some 13), .bin .lss (.s 10) (.s 12), none⟩] none [1, 2, 3, 4, 9, 13])
 (.cond (.s 13) .skip (.exit 0 [])))
 (.seq (.block 1 (.seq (.sreg [(⟨(some 16), .mv (.s 2), none⟩, false), (⟨(some 17), .mv (.s 9), none⟩, false), (⟨(some 18), .iadr 1 (.s 16) (.s 17), none⟩, false), (⟨(some 19), .load none (.s 18), none⟩, false), (⟨(some 20), .bin .lss (.s 19) (.c (.dat (.int .i64 0))), none⟩, false), (⟨(some 21), .mv (.s 20), none⟩, false), (⟨(some 22), .mv (.s 2), some (21, false)⟩, true), (⟨(some 23), .mv (.s 9), some (21, false)⟩, true), (⟨(some 24), .iadr 1 (.s 22) (.s 23), some (21, false)⟩, false), (⟨(some 25), .load none (.s 24), some (21, false)⟩, false), (⟨(some 26), .mv (.s 1), some (21, false)⟩, true), (⟨(some 27), .bin .geq (.s 25) (.s 26), some (21, false)⟩, false), (⟨(some 28), .pick (.s 21) (.c (.dat (.bool true))) (.s 27), none⟩, false), (⟨(some 29), .mv (.s 28), none⟩, false), (⟨(some 30), .mv (.s 2), some (29, false)⟩, true), (⟨(some 31), .mv (.s 9), some (29, false)⟩, true), (⟨(some 32), .iadr 1 (.s 30) (.s 31), some (29, false)⟩, false), (⟨(some 33), .load none (.s 32), some (29, false)⟩, false), (⟨(some 34), .fadr 0 (.s 4), some (29, false)⟩, true), (⟨(some 35), .load none (.s 34), some (29, false)⟩, true), (⟨(some 36), .eqv false false [.i] (.s 33) (.s 35), some (29, false)⟩, false), (⟨(some 37), .pick (.s 29) (.c (.dat (.bool true))) (.s 36), none⟩, false), (⟨(some 38), .mv (.s 37), none⟩, false), (⟨(some 39), .mv (.s 9), some (38, false)⟩, true), (⟨(some 40), .bin .gtr (.s 39) (.c (.dat (.int .i64 0))), some (38, false)⟩, true), (⟨(some 41), .mv (.s 40), some (38, false)⟩, false), (⟨(some 42), .mv (.s 2), some (41, true)⟩, true), (⟨(some 43), .mv (.s 9), some (41, true)⟩, true), (⟨(some 44), .iadr 1 (.s 42) (.s 43), some (41, true)⟩, false), (⟨(some 45), .load none (.s 44), some (41, true)⟩, false), (⟨(some 46), .mv (.s 2), some (41, true)⟩, true), (⟨(some 47), .mv (.s 9), some (41, true)⟩, true), (⟨(some 48), .bin .sub (.s 47) (.c (.dat (.int .i64 1))), some (41, true)⟩, true), (⟨(some 49), .iadr 1 (.s 46) (.s 48), some (41, true)⟩, false), (⟨(some 50), .load none (.s 49), some (41, true)⟩, false), (⟨(some 51), .bin .leq (.s 45) (.s 50), some (41, true)⟩, false), (⟨(some 52), .pick (.s 41) (.s 51) (.c (.dat (.bool false))), some (38, false)⟩, false), (⟨(some 53), .pick (.s 38) (.c (.dat (.bool true))) (.s 52), none⟩, false), (⟨(some 54), .mv (.s 53), none⟩, false), (⟨(some 55), .mv (.s 3), some (54, false)⟩, true), (⟨(some 56), .mv (.s 9), some (54, false)⟩, true), (⟨(some 57), .iadr 2 (.s 55) (.s 56), some (54, false)⟩, false), (⟨(some 58), .load (some 2) (.s 57), some (54, false)⟩, false), (⟨(some 59), .fadr 6 (.s 4), some (54, false)⟩, true), (⟨(some 60), .load none (.s 59), some (54, false)⟩, true), (⟨(some 61), .mv (.s 2), some (54, false)⟩, true), (⟨(some 62), .mv (.s 9), some (54, false)⟩, true), (⟨(some 63), .iadr 1 (.s 61) (.s 62), some (54, false)⟩, false), (⟨(some 64), .load none (.s 63), some (54, false)⟩, false), (⟨(some 65), .iadr 2 (.s 60) (.s 64), some (54, false)⟩, false), (⟨(some 66), .load (some 2) (.s 65), some (54, false)⟩, false), (⟨(some 67), .eqv true true [.i, .i] (.s 58) (.s 66), some (54, false)⟩, false), (⟨(some 68), .pick (.s 54) (.c (.dat (.bool true))) (.s 67), none⟩, false)] (some []) [1, 2, 3, 4, 9, 68])
 (.cond (.s 68) (.seq (.reg [⟨(some 8), .mv (.c (.dat (.bool false))), none⟩] none [8])
 (.ret [8])) .skip)))
 (.reg [⟨(some 14), .mv (.s 9), none⟩, ⟨(some 15), .bin .add (.s 14) (.c (.dat (.int .i64 1))), none⟩, ⟨(some 9), .mv (.s 15), none⟩] none [1, 2, 3, 4, 9])))
def xf_ref09_voters : XFunc := ⟨none, true, 4, [.tmp 8], (.seq (.reg [⟨(some 4), .box (.s 0), none⟩, ⟨(some 8), .mv (.c (.dat (.bool false))), none⟩] none [1, 2, 3, 4])
 (.seq (.seq (.reg [⟨(some 9), .mv (.c (.dat (.int .i64 0))), none⟩] none [1, 2, 3, 4, 9])
 (.block 0 (.loop xf_ref09_voters_k0 xf_ref09_voters_b0)))
 (.seq (.reg [⟨(some 8), .mv (.c (.dat (.bool true))), none⟩] none [8])
 (.ret [8]))))⟩

def xf_ledger_Ledger_Would : XFunc := ⟨none, false, 2, [.cell 4 (some 3)], (.seq (.reg [⟨(some 3), .box (.s 1), none⟩, ⟨(some 4), .alloc [(.dat (.int .i64 0)), (.dat (.int .i64 0)), (.dat (.str ⟨#[]⟩))], none⟩] none [0, 3, 4])
 (.seq (.seq (.sreg [(⟨(some 7), .mv (.s 0), none⟩, false), (⟨(some 8), .eqn false false (.s 7), none⟩, false), (⟨(some 9), .mv (.s 8), none⟩, false), (⟨(some 10), .load (some 3) (.s 3), some (9, false)⟩, true), (⟨(some 11), .call (.c (.fn (.func 75) [] [])) [(.s 10)], some (9, false)⟩, false), (⟨(some 12), .eqv true false [.i] (.s 11) (.c (.dat (.int .i64 0))), some (9, false)⟩, false), (⟨(some 13), .pick (.s 9) (.c (.dat (.bool true))) (.s 12), none⟩, false)] none [0, 3, 4, 13])
 (.cond (.s 13) (.seq (.reg [⟨(some 14), .build [(.dat (.int .i64 0)), (.dat (.int .i64 0)), (.dat (.str ⟨#[]⟩))] [], none⟩, ⟨none, .store 3 (.s 4) (.s 14), none⟩] none [4])
 (.ret [4])) .skip))
 (.seq (.reg [⟨(some 16), .mv (.s 0), none⟩, ⟨(some 17), .nilchk (.s 16), none⟩, ⟨(some 18), .fadr 0 (.s 17), none⟩, ⟨(some 19), .load none (.s 18), none⟩, ⟨(some 20), .fadr 1 (.s 3), none⟩, ⟨(some 21), .load none (.s 20), none⟩, ⟨(some 22), .mget true (.agg [(.str ⟨#[]⟩)]) (.s 19) (.s 21), none⟩, ⟨(some 15), .mv (.s 22), none⟩, ⟨(some 23), .ext (.s 15) 0, none⟩, ⟨(some 24), .ext (.s 15) 1, none⟩, ⟨(some 5), .alloc [(.dat (.str ⟨#[]⟩))], none⟩, ⟨none, .store 1 (.s 5) (.s 23), none⟩, ⟨(some 6), .mv (.s 24), none⟩] (some [(3, 10), (5, 10), (6, 10)]) [0, 3, 4, 5, 6])
 (.seq (.seq (.reg [⟨(some 25), .fadr 0 (.s 3), none⟩, ⟨(some 26), .load none (.s 25), none⟩] none [0, 3, 4, 5, 6, 26])
 (.block 0 (.seq (.reg [⟨(some 28), .eqv false false [.i] (.s 26) (.c (.dat (.int .i64 1))), none⟩, ⟨(some 27), .mv (.s 28), none⟩] none [0, 3, 4, 5, 6, 26, 27])
 (.cond (.s 27) (.seq (.seq (.reg [⟨(some 29), .mv (.s 6), none⟩] none [3, 4, 5, 29])
 (.cond (.s 29) (.seq (.reg [⟨(some 30), .fadr 1 (.s 3), none⟩, ⟨(some 31), .load none (.s 30), none⟩, ⟨(some 32), .fadr 0 (.s 5), none⟩, ⟨(some 33), .load none (.s 32), none⟩, ⟨(some 34), .build [(.dat (.int .i64 0)), (.dat (.int .i64 0)), (.dat (.str ⟨#[]⟩))] [(0, 1, (.c (.dat (.int .i64 2)))), (1, 1, (.s 31)), (2, 1, (.s 33))], none⟩, ⟨none, .store 3 (.s 4) (.s 34), none⟩] none [4])
 (.ret [4])) .skip))
 (.seq (.reg [⟨(some 35), .fadr 1 (.s 3), none⟩, ⟨(some 36), .load none (.s 35), none⟩, ⟨(some 37), .fadr 2 (.s 3), none⟩, ⟨(some 38), .load none (.s 37), none⟩, ⟨(some 39), .build [(.dat (.int .i64 0)), (.dat (.int .i64 0)), (.dat (.str ⟨#[]⟩))] [(0, 1, (.c (.dat (.int .i64 1)))), (1, 1, (.s 36)), (2, 1, (.s 38))], none⟩, ⟨none, .store 3 (.s 4) (.s 39), none⟩] none [4])
 (.ret [4]))) (.seq (.reg [⟨(some 41), .eqv false false [.i] (.s 26) (.c (.dat (.int .i64 2))), none⟩, ⟨(some 40), .mv (.s 41), none⟩] none [0, 3, 4, 5, 6, 26, 40])
 (.cond (.s 40) (.seq (.seq (.reg [⟨(some 42), .mv (.s 0), none⟩, ⟨(some 43), .nilchk (.s 42), none⟩, ⟨(some 44), .fadr 1 (.s 43), none⟩, ⟨(some 45), .load none (.s 44), none⟩, ⟨(some 46), .eqv false false [.i] (.s 45) (.c (.dat (.int .i64 1024))), none⟩] none [0, 3, 4, 46])
 (.cond (.s 46) (.seq (.reg [⟨(some 47), .build [(.dat (.int .i64 0)), (.dat (.int .i64 0)), (.dat (.str ⟨#[]⟩))] [(0, 1, (.c (.dat (.int .i64 3))))], none⟩, ⟨none, .store 3 (.s 4) (.s 47), none⟩] none [4])
 (.ret [4])) .skip))
 (.seq (.reg [⟨(some 48), .mv (.s 0), none⟩, ⟨(some 49), .nilchk (.s 48), none⟩, ⟨(some 50), .fadr 1 (.s 49), none⟩, ⟨(some 51), .load none (.s 50), none⟩, ⟨(some 52), .fadr 2 (.s 3), none⟩, ⟨(some 53), .load none (.s 52), none⟩, ⟨(some 54), .build [(.dat (.int .i64 0)), (.dat (.int .i64 0)), (.dat (.str ⟨#[]⟩))] [(0, 1, (.c (.dat (.int .i64 1)))), (1, 1, (.s 51)), (2, 1, (.s 53))], none⟩, ⟨none, .store 3 (.s 4) (.s 54), none⟩] (some []) [4])
 (.ret [4]))) (.seq (.reg [⟨(some 56), .eqv false false [.i] (.s 26) (.c (.dat (.int .i64 3))), none⟩, ⟨(some 55), .mv (.s 56), none⟩] none [0, 3, 4, 5, 6, 55])
 (.cond (.s 55) (.seq (.seq (.reg [⟨(some 57), .mv (.s 6), none⟩] none [3, 4, 5, 57])
 (.cond (.s 57) (.seq (.reg [⟨(some 58), .fadr 1 (.s 3), none⟩, ⟨(some 59), .load none (.s 58), none⟩, ⟨(some 60), .fadr 0 (.s 5), none⟩, ⟨(some 61), .load none (.s 60), none⟩, ⟨(some 62), .build [(.dat (.int .i64 0)), (.dat (.int .i64 0)), (.dat (.str ⟨#[]⟩))] [(0, 1, (.c (.dat (.int .i64 4)))), (1, 1, (.s 59)), (2, 1, (.s 61))], none⟩, ⟨none, .store 3 (.s 4) (.s 62), none⟩] none [4])
 (.ret [4])) .skip))
 (.seq (.reg [⟨(some 63), .fadr 1 (.s 3), none⟩, ⟨(some 64), .load none (.s 63), none⟩, ⟨(some 65), .build [(.dat (.int .i64 0)), (.dat (.int .i64 0)), (.dat (.str ⟨#[]⟩))] [(0, 1, (.c (.dat (.int .i64 5)))), (1, 1, (.s 64))], none⟩, ⟨none, .store 3 (.s 4) (.s 65), none⟩] none [4])
 (.ret [4]))) .skip))))))))
 (.seq (.reg [⟨(some 66), .mv (.s 0), none⟩, ⟨(some 67), .nilchk (.s 66), none⟩, ⟨(some 68), .fadr 0 (.s 67), none⟩, ⟨(some 69), .load none (.s 68), none⟩, ⟨(some 70), .mlen (.s 69), none⟩, ⟨(some 71), .build [(.dat (.int .i64 0)), (.dat (.int .i64 0)), (.dat (.str ⟨#[]⟩))] [(0, 1, (.c (.dat (.int .i64 6)))), (1, 1, (.s 70))], none⟩, ⟨none, .store 3 (.s 4) (.s 71), none⟩] none [4])
 (.ret [4]))))))⟩

def xf_ledger_Ledger_put : XFunc := ⟨none, false, 3, [], (.seq (.seq (.reg [⟨(some 6), .mv (.s 0), none⟩, ⟨(some 7), .nilchk (.s 6), none⟩, ⟨(some 8), .fadr 0 (.s 7), none⟩, ⟨(some 9), .load none (.s 8), none⟩, ⟨(some 10), .eqm false (.s 9), none⟩] none [0, 1, 2, 10])
 (.cond (.s 10) (.reg [⟨(some 11), .mv (.s 0), none⟩, ⟨(some 12), .mkmap, none⟩, ⟨(some 13), .nilchk (.s 11), none⟩, ⟨(some 14), .fadr 0 (.s 13), none⟩, ⟨none, .store 1 (.s 14) (.s 12), none⟩] none [0, 1, 2]) .skip))
 (.seq (.reg [⟨(some 15), .mv (.s 0), none⟩, ⟨(some 16), .nilchk (.s 15), none⟩, ⟨(some 17), .fadr 0 (.s 16), none⟩, ⟨(some 18), .load none (.s 17), none⟩, ⟨(some 19), .mv (.s 1), none⟩, ⟨(some 20), .mv (.s 2), none⟩, ⟨(some 21), .build [(.dat (.str ⟨#[]⟩))] [(0, 1, (.s 20))], none⟩, ⟨none, .mput (.s 18) (.s 19) (.s 21), none⟩] none [0, 1])
 (.reg [⟨(some 22), .mv (.s 0), none⟩, ⟨(some 23), .mv (.s 0), none⟩, ⟨(some 24), .nilchk (.s 23), none⟩, ⟨(some 25), .fadr 1 (.s 24), none⟩, ⟨(some 26), .load none (.s 25), none⟩, ⟨(some 27), .mv (.s 1), none⟩, ⟨(some 28), .bin .add (.s 27) (.c (.dat (.int .i64 1))), none⟩, ⟨(some 29), .mm true (.s 26) (.s 28), none⟩, ⟨(some 30), .nilchk (.s 22), none⟩, ⟨(some 31), .fadr 1 (.s 30), none⟩, ⟨none, .store 1 (.s 31) (.s 29), none⟩] none [])))⟩

def xf_ref04_Check : XFunc := ⟨none, true, 1, [.tmp 2], (.seq (.reg [⟨(some 1), .box (.s 0), none⟩, ⟨(some 2), .mv (.c (.dat (.int .i64 0))), none⟩] none [1])
 (.seq (.reg [⟨(some 7), .fadr 0 (.s 1), none⟩, ⟨(some 8), .load none (.s 7), none⟩, ⟨(some 9), .eqv false false [.i] (.s 8) (.c (.dat (.int .i64 1))), none⟩, ⟨(some 3), .mv (.s 9), none⟩] none [1, 3])
 (.seq (.reg [⟨(some 10), .fadr 0 (.s 1), none⟩, ⟨(some 11), .load none (.s 10), none⟩, ⟨(some 12), .eqv false false [.i] (.s 11) (.c (.dat (.int .i64 2))), none⟩, ⟨(some 4), .mv (.s 12), none⟩] none [1, 3, 4])
 (.seq (.reg [⟨(some 13), .fadr 0 (.s 1), none⟩, ⟨(some 14), .load none (.s 13), none⟩, ⟨(some 15), .eqv false false [.i] (.s 14) (.c (.dat (.int .i64 3))), none⟩, ⟨(some 5), .mv (.s 15), none⟩] none [1, 3, 4, 5])
 (.seq (.reg [⟨(some 16), .fadr 0 (.s 1), none⟩, ⟨(some 17), .load none (.s 16), none⟩, ⟨(some 18), .eqv false false [.i] (.s 17) (.c (.dat (.int .i64 4))), none⟩, ⟨(some 6), .mv (.s 18), none⟩] none [1, 3, 4, 5, 6])
 (.seq (.seq (.sreg [(⟨(some 19), .mv (.s 3), none⟩, false), (⟨(some 20), .not (.s 19), none⟩, false), (⟨(some 21), .mv (.s 20), none⟩, false), (⟨(some 22), .mv (.s 4), some (21, true)⟩, true), (⟨(some 23), .not (.s 22), some (21, true)⟩, true), (⟨(some 24), .pick (.s 21) (.s 23) (.c (.dat (.bool false))), none⟩, false), (⟨(some 25), .mv (.s 24), none⟩, false), (⟨(some 26), .mv (.s 5), some (25, true)⟩, true), (⟨(some 27), .not (.s 26), some (25, true)⟩, true), (⟨(some 28), .pick (.s 25) (.s 27) (.c (.dat (.bool false))), none⟩, false), (⟨(some 29), .mv (.s 28), none⟩, false), (⟨(some 30), .mv (.s 6), some (29, true)⟩, true), (⟨(some 31), .not (.s 30), some (29, true)⟩, true), (⟨(some 32), .pick (.s 29) (.s 31) (.c (.dat (.bool false))), none⟩, false)] none [1, 3, 4, 5, 6, 32])
 (.cond (.s 32) (.seq (.reg [⟨(some 2), .mv (.c (.dat (.int .i64 40))), none⟩] none [2])
 (.ret [2])) .skip))
 (.seq (.seq (.sreg [(⟨(some 33), .mv (.s 3), none⟩, false), (⟨(some 34), .mv (.s 33), none⟩, false), (⟨(some 35), .mv (.s 5), some (34, false)⟩, true), (⟨(some 36), .pick (.s 34) (.c (.dat (.bool true))) (.s 35), none⟩, false), (⟨(some 37), .mv (.s 36), none⟩, false), (⟨(some 38), .fadr 1 (.s 1), some (37, true)⟩, true), (⟨(some 39), .load none (.s 38), some (37, true)⟩, true), (⟨(some 40), .bin .lss (.s 39) (.c (.dat (.int .i64 0))), some (37, true)⟩, true), (⟨(some 41), .mv (.s 40), some (37, true)⟩, true), (⟨(some 42), .fadr 1 (.s 1), some (41, false)⟩, true), (⟨(some 43), .load none (.s 42), some (41, false)⟩, true), (⟨(some 44), .bin .geq (.s 43) (.c (.dat (.int .i64 1024))), some (41, false)⟩, true), (⟨(some 45), .pick (.s 41) (.c (.dat (.bool true))) (.s 44), some (37, true)⟩, true), (⟨(some 46), .pick (.s 37) (.s 45) (.c (.dat (.bool false))), none⟩, false), (⟨(some 47), .mv (.s 46), none⟩, false), (⟨(some 48), .mv (.s 4), some (47, false)⟩, true), (⟨(some 49), .mv (.s 48), some (47, false)⟩, true), (⟨(some 50), .mv (.s 6), some (49, false)⟩, true), (⟨(some 51), .pick (.s 49) (.c (.dat (.bool true))) (.s 50), some (47, false)⟩, true), (⟨(some 52), .mv (.s 51), some (47, false)⟩, true), (⟨(some 53), .fadr 1 (.s 1), some (52, true)⟩, true), (⟨(some 54), .load none (.s 53), some (52, true)⟩, true), (⟨(some 55), .eqv true false [.i] (.s 54) (.c (.dat (.int .i64 0))), some (52, true)⟩, true), (⟨(some 56), .pick (.s 52) (.s 55) (.c (.dat (.bool false))), some (47, false)⟩, true), (⟨(some 57), .pick (.s 47) (.c (.dat (.bool true))) (.s 56), none⟩, false)] none [1, 3, 4, 5, 6, 57])
 (.cond (.s 57) (.seq (.reg [⟨(some 2), .mv (.c (.dat (.int .i64 41))), none⟩] none [2])
 (.ret [2])) .skip))
 (.seq (.seq (.sreg [(⟨(some 58), .mv (.s 3), none⟩, false), (⟨(some 59), .mv (.s 58), none⟩, false), (⟨(some 60), .mv (.s 4), some (59, false)⟩, true), (⟨(some 61), .pick (.s 59) (.c (.dat (.bool true))) (.s 60), none⟩, false), (⟨(some 62), .mv (.s 61), none⟩, false), (⟨(some 63), .fadr 2 (.s 1), some (62, true)⟩, true), (⟨(some 64), .load none (.s 63), some (62, true)⟩, true), (⟨(some 65), .len true (.s 64), some (62, true)⟩, true), (⟨(some 66), .bin .gtr (.s 65) (.c (.dat (.int .i64 64))), some (62, true)⟩, true), (⟨(some 67), .pick (.s 62) (.s 66) (.c (.dat (.bool false))), none⟩, false), (⟨(some 68), .mv (.s 67), none⟩, false), (⟨(some 69), .mv (.s 5), some (68, false)⟩, true), (⟨(some 70), .mv (.s 69), some (68, false)⟩, true), (⟨(some 71), .mv (.s 6), some (70, false)⟩, true), (⟨(some 72), .pick (.s 70) (.c (.dat (.bool true))) (.s 71), some (68, false)⟩, true), (⟨(some 73), .mv (.s 72), some (68, false)⟩, true), (⟨(some 74), .fadr 2 (.s 1), some (73, true)⟩, true), (⟨(some 75), .load none (.s 74), some (73, true)⟩, true), (⟨(some 76), .eqv true false [.s] (.s 75) (.c (.dat (.str ⟨#[]⟩))), some (73, true)⟩, true), (⟨(some 77), .pick (.s 73) (.s 76) (.c (.dat (.bool false))), some (68, false)⟩, true), (⟨(some 78), .pick (.s 68) (.c (.dat (.bool true))) (.s 77), none⟩, false)] none [78])
 (.cond (.s 78) (.seq (.reg [⟨(some 2), .mv (.c (.dat (.int .i64 42))), none⟩] none [2])
 (.ret [2])) .skip))
 (.seq (.reg [⟨(some 2), .mv (.c (.dat (.int .i64 0))), none⟩] none [2])
 (.ret [2]))))))))))⟩

def xf_ref04_Do_k0 : List (Nat × Option (Nat × Nat × Bool)) := [(0, none), (3, none), (5, none), (8, none), (9, none)]
def xf_ref04_Do_b0 : XCode := (.seq (.seq (.reg [⟨(some 46), .mv (.s 9), none⟩, ⟨(some 47), .mv (.s 0), none⟩, ⟨(some 48), .len false (.s 47), none⟩, ⟨(some 49), .bin .lss (.s 46) (.s 48), none⟩] none [0, 3, 5, 8, 9, 49])
 (.cond (.s 49) .skip (.exit 1 [0, 3, 5, 8])))
 (.seq (.block 2 (.seq (.reg [⟨(some 52), .mv (.s 0), none⟩, ⟨(some 53), .mv (.s 9), none⟩, ⟨(some 54), .iadr 2 (.s 52) (.s 53), none⟩, ⟨(some 55), .fadr 0 (.s 54), none⟩, ⟨(some 56), .load none (.s 55), none⟩, ⟨(some 57), .mv (.s 8), none⟩, ⟨(some 58), .bin .geq (.s 56) (.s 57), none⟩] none [0, 3, 5, 8, 9, 58])
 (.cond (.s 58) (.reg [⟨(some 59), .mv (.s 0), none⟩, ⟨(some 60), .mv (.s 9), none⟩, ⟨(some 61), .iadr 2 (.s 59) (.s 60), none⟩, ⟨(some 62), .fadr 0 (.s 61), none⟩, ⟨(some 63), .load none (.s 62), none⟩, ⟨(some 64), .bin .add (.s 63) (.c (.dat (.int .i64 1))), none⟩, ⟨(some 8), .mv (.s 64), none⟩] none [0, 3, 5, 8, 9]) .skip)))
 (.reg [⟨(some 50), .mv (.s 9), none⟩, ⟨(some 51), .bin .add (.s 50) (.c (.dat (.int .i64 1))), none⟩, ⟨(some 9), .mv (.s 51), none⟩] none [0, 3, 5, 8, 9])))
def xf_ref04_Do : XFunc := ⟨none, true, 2, [.tmp 4, .cell 5 (some 3)], (.seq (.reg [⟨(some 3), .box (.s 1), none⟩, ⟨(some 4), .mv (.c (.nil 174 2 true)), none⟩, ⟨(some 5), .alloc [(.dat (.int .i64 0)), (.dat (.int .i64 0)), (.dat (.str ⟨#[]⟩))], none⟩] none [0, 3, 5])
 (.seq (.seq (.reg [⟨(some 10), .load (some 3) (.s 3), none⟩, ⟨(some 11), .call (.c (.fn (.func 85) [] [])) [(.s 10)], none⟩, ⟨(some 12), .eqv true false [.i] (.s 11) (.c (.dat (.int .i64 0))), none⟩] none [0, 3, 5, 12])
 (.cond (.s 12) (.seq (.reg [⟨(some 13), .mv (.s 0), none⟩, ⟨(some 14), .build [(.dat (.int .i64 0)), (.dat (.int .i64 0)), (.dat (.str ⟨#[]⟩))] [], none⟩, ⟨(some 4), .mv (.s 13), none⟩, ⟨none, .store 3 (.s 5) (.s 14), none⟩] none [4, 5])
 (.ret [4, 5])) .skip))
 (.seq (.reg [⟨(some 16), .mv (.s 0), none⟩, ⟨(some 17), .fadr 1 (.s 3), none⟩, ⟨(some 18), .load none (.s 17), none⟩, ⟨(some 19), .call (.c (.fn (.func 89) [] [])) [(.s 16), (.s 18)], none⟩, ⟨(some 15), .mv (.s 19), none⟩, ⟨(some 20), .ext (.s 15) 0, none⟩, ⟨(some 21), .ext (.s 15) 1, none⟩, ⟨(some 6), .mv (.s 20), none⟩, ⟨(some 7), .mv (.s 21), none⟩] none [0, 3, 5, 6, 7])
 (.seq (.seq (.reg [⟨(some 22), .fadr 0 (.s 3), none⟩, ⟨(some 23), .load none (.s 22), none⟩] none [0, 3, 5, 6, 7, 23])
 (.block 0 (.seq (.reg [⟨(some 25), .eqv false false [.i] (.s 23) (.c (.dat (.int .i64 1))), none⟩, ⟨(some 24), .mv (.s 25), none⟩] none [0, 3, 5, 6, 7, 23, 24])
 (.cond (.s 24) (.seq (.seq (.reg [⟨(some 26), .mv (.s 7), none⟩] none [0, 3, 5, 6, 26])
 (.cond (.s 26) (.seq (.reg [⟨(some 27), .mv (.s 0), none⟩, ⟨(some 28), .fadr 1 (.s 3), none⟩, ⟨(some 29), .load none (.s 28), none⟩, ⟨(some 30), .mv (.s 6), none⟩, ⟨(some 31), .build [(.dat (.int .i64 0)), (.dat (.int .i64 0)), (.dat (.str ⟨#[]⟩))] [(0, 1, (.c (.dat (.int .i64 2)))), (1, 1, (.s 29)), (2, 1, (.s 30))], none⟩, ⟨(some 4), .mv (.s 27), none⟩, ⟨none, .store 3 (.s 5) (.s 31), none⟩] (some []) [4, 5])
 (.ret [4, 5])) .skip))
 (.seq (.reg [⟨(some 32), .mv (.s 0), none⟩, ⟨(some 33), .fadr 1 (.s 3), none⟩, ⟨(some 34), .load none (.s 33), none⟩, ⟨(some 35), .fadr 2 (.s 3), none⟩, ⟨(some 36), .load none (.s 35), none⟩, ⟨(some 37), .build [(.dat (.int .i64 0)), (.dat (.str ⟨#[]⟩))] [(0, 1, (.s 34)), (1, 1, (.s 36))], none⟩, ⟨(some 38), .call (.c (.fn (.func 90) [] [])) [(.s 32), (.s 37)], none⟩, ⟨(some 39), .fadr 1 (.s 3), none⟩, ⟨(some 40), .load none (.s 39), none⟩, ⟨(some 41), .fadr 2 (.s 3), none⟩, ⟨(some 42), .load none (.s 41), none⟩, ⟨(some 43), .build [(.dat (.int .i64 0)), (.dat (.int .i64 0)), (.dat (.str ⟨#[]⟩))] [(0, 1, (.c (.dat (.int .i64 1)))), (1, 1, (.s 40)), (2, 1, (.s 42))], none⟩, ⟨(some 4), .mv (.s 38), none⟩, ⟨none, .store 3 (.s 5) (.s 43), none⟩] (some [(6, 8), (6, 10)]) [4, 5])
 (.ret [4, 5]))) (.seq (.reg [⟨(some 45), .eqv false false [.i] (.s 23) (.c (.dat (.int .i64 2))), none⟩, ⟨(some 44), .mv (.s 45), none⟩] none [0, 3, 5, 6, 7, 23, 44])
 (.cond (.s 44) (.seq (.reg [⟨(some 8), .mv (.c (.dat (.int .i64 0))), none⟩] none [0, 3, 5, 8])
 (.seq (.seq (.reg [⟨(some 9), .mv (.c (.dat (.int .i64 0))), none⟩] none [0, 3, 5, 8, 9])
 (.block 1 (.loop xf_ref04_Do_k0 xf_ref04_Do_b0)))
 (.seq (.seq (.reg [⟨(some 65), .mv (.s 8), none⟩, ⟨(some 66), .bin .geq (.s 65) (.c (.dat (.int .i64 1024))), none⟩] none [0, 3, 5, 8, 66])
 (.cond (.s 66) (.seq (.reg [⟨(some 67), .mv (.s 0), none⟩, ⟨(some 68), .build [(.dat (.int .i64 0)), (.dat (.int .i64 0)), (.dat (.str ⟨#[]⟩))] [(0, 1, (.c (.dat (.int .i64 3))))], none⟩, ⟨(some 4), .mv (.s 67), none⟩, ⟨none, .store 3 (.s 5) (.s 68), none⟩] none [4, 5])
 (.ret [4, 5])) .skip))
 (.seq (.reg [⟨(some 69), .mv (.s 0), none⟩, ⟨(some 70), .mv (.s 8), none⟩, ⟨(some 71), .fadr 2 (.s 3), none⟩, ⟨(some 72), .load none (.s 71), none⟩, ⟨(some 73), .build [(.dat (.int .i64 0)), (.dat (.str ⟨#[]⟩))] [(0, 1, (.s 70)), (1, 1, (.s 72))], none⟩, ⟨(some 74), .call (.c (.fn (.func 90) [] [])) [(.s 69), (.s 73)], none⟩, ⟨(some 75), .mv (.s 8), none⟩, ⟨(some 76), .fadr 2 (.s 3), none⟩, ⟨(some 77), .load none (.s 76), none⟩, ⟨(some 78), .build [(.dat (.int .i64 0)), (.dat (.int .i64 0)), (.dat (.str ⟨#[]⟩))] [(0, 1, (.c (.dat (.int .i64 1)))), (1, 1, (.s 75)), (2, 1, (.s 77))], none⟩, ⟨(some 4), .mv (.s 74), none⟩, ⟨none, .store 3 (.s 5) (.s 78), none⟩] (some [(5, 8)]) [4, 5])
 (.ret [4, 5]))))) (.seq (.reg [⟨(some 80), .eqv false false [.i] (.s 23) (.c (.dat (.int .i64 3))), none⟩, ⟨(some 79), .mv (.s 80), none⟩] none [0, 3, 5, 6, 7, 79])
 (.cond (.s 79) (.seq (.seq (.reg [⟨(some 81), .mv (.s 7), none⟩] none [0, 3, 5, 6, 81])
 (.cond (.s 81) (.seq (.reg [⟨(some 82), .mv (.s 0), none⟩, ⟨(some 83), .fadr 1 (.s 3), none⟩, ⟨(some 84), .load none (.s 83), none⟩, ⟨(some 85), .mv (.s 6), none⟩, ⟨(some 86), .build [(.dat (.int .i64 0)), (.dat (.int .i64 0)), (.dat (.str ⟨#[]⟩))] [(0, 1, (.c (.dat (.int .i64 4)))), (1, 1, (.s 84)), (2, 1, (.s 85))], none⟩, ⟨(some 4), .mv (.s 82), none⟩, ⟨none, .store 3 (.s 5) (.s 86), none⟩] (some []) [4, 5])
 (.ret [4, 5])) .skip))
 (.seq (.reg [⟨(some 87), .mv (.s 0), none⟩, ⟨(some 88), .fadr 1 (.s 3), none⟩, ⟨(some 89), .load none (.s 88), none⟩, ⟨(some 90), .build [(.dat (.int .i64 0)), (.dat (.int .i64 0)), (.dat (.str ⟨#[]⟩))] [(0, 1, (.c (.dat (.int .i64 5)))), (1, 1, (.s 89))], none⟩, ⟨(some 4), .mv (.s 87), none⟩, ⟨none, .store 3 (.s 5) (.s 90), none⟩] (some []) [4, 5])
 (.ret [4, 5]))) .skip))))))))
 (.seq (.reg [⟨(some 91), .mv (.s 0), none⟩, ⟨(some 92), .mv (.s 0), none⟩, ⟨(some 93), .len false (.s 92), none⟩, ⟨(some 94), .build [(.dat (.int .i64 0)), (.dat (.int .i64 0)), (.dat (.str ⟨#[]⟩))] [(0, 1, (.c (.dat (.int .i64 6)))), (1, 1, (.s 93))], none⟩, ⟨(some 4), .mv (.s 91), none⟩, ⟨none, .store 3 (.s 5) (.s 94), none⟩] none [4, 5])
 (.ret [4, 5]))))))⟩

def xf_oplog_joined : XFunc := ⟨none, true, 2, [.tmp 4], (.seq (.reg [⟨(some 4), .mv (.c (.nil 55 5 true)), none⟩] none [0, 1])
 (.seq (.reg [⟨(some 6), .mv (.s 0), none⟩, ⟨(some 7), .len false (.s 6), none⟩, ⟨(some 8), .mv (.s 1), none⟩, ⟨(some 9), .len false (.s 8), none⟩, ⟨(some 10), .bin .add (.s 7) (.s 9), none⟩, ⟨(some 11), .mksl 55 5 48 true [(.dat (.int .i64 0)), (.dat (.int .i64 0)), (.dat (.int .i64 0)), (.dat (.int .i64 0)), (.dat (.str ⟨#[]⟩))] (.s 10) (.s 10), none⟩, ⟨(some 5), .mv (.s 11), none⟩] none [0, 1, 5])
 (.seq (.reg [⟨(some 12), .mv (.s 5), none⟩, ⟨(some 13), .mv (.s 0), none⟩, ⟨(some 14), .cpy 5 (.s 12) (.s 13), none⟩] none [0, 1, 5])
 (.seq (.reg [⟨(some 15), .mv (.s 5), none⟩, ⟨(some 16), .mv (.s 0), none⟩, ⟨(some 17), .len false (.s 16), none⟩, ⟨(some 18), .slice 5 (.s 15) (some (.s 17)) none, none⟩, ⟨(some 19), .mv (.s 1), none⟩, ⟨(some 20), .cpy 5 (.s 18) (.s 19), none⟩] none [5])
 (.seq (.reg [⟨(some 21), .mv (.s 5), none⟩, ⟨(some 4), .mv (.s 21), none⟩] none [4])
 (.ret [4]))))))⟩

def xf_oplog_Each_1_k0 : List (Nat × Option (Nat × Nat × Bool)) := [(0, none), (2, none), (4, none)]
def xf_oplog_Each_1_b0 : XCode := (.seq (.seq (.reg [⟨(some 8), .mv (.s 4), none⟩, ⟨(some 9), .load none (.s 2), none⟩, ⟨(some 10), .len false (.s 9), none⟩, ⟨(some 11), .bin .lss (.s 8) (.s 10), none⟩] none [0, 2, 4, 11])
 (.cond (.s 11) .skip (.exit 0 [])))
 (.seq (.block 1 (.seq (.reg [⟨(some 14), .mv (.s 0), none⟩, ⟨(some 15), .mv (.s 4), none⟩, ⟨(some 16), .bin .add (.s 15) (.c (.dat (.int .i64 1))), none⟩, ⟨(some 17), .load none (.s 2), none⟩, ⟨(some 18), .mv (.s 4), none⟩, ⟨(some 19), .iadr 5 (.s 17) (.s 18), none⟩, ⟨(some 20), .load (some 5) (.s 19), none⟩, ⟨(some 21), .call (.s 14) [(.s 16), (.s 20)], none⟩, ⟨(some 22), .not (.s 21), none⟩] none [0, 2, 4, 22])
 (.cond (.s 22) (.ret []) .skip)))
 (.reg [⟨(some 12), .mv (.s 4), none⟩, ⟨(some 13), .bin .add (.s 12) (.c (.dat (.int .i64 1))), none⟩, ⟨(some 4), .mv (.s 13), none⟩] none [0, 2, 4])))
def xf_oplog_Each_1 : XFunc := ⟨none, false, 1, [], (.seq (.reg [⟨(some 5), .load none (.s 1), none⟩, ⟨(some 6), .mm true (.s 5) (.c (.dat (.int .i64 1))), none⟩, ⟨(some 7), .bin .sub (.s 6) (.c (.dat (.int .i64 1))), none⟩, ⟨(some 4), .mv (.s 7), none⟩] none [0, 2, 4])
 (.block 0 (.loop xf_oplog_Each_1_k0 xf_oplog_Each_1_b0)))⟩

def xf_ref04_Get_k0 : List (Nat × Option (Nat × Nat × Bool)) := [(0, none), (1, none), (6, none)]
def xf_ref04_Get_b0 : XCode := (.seq (.seq (.reg [⟨(some 7), .mv (.s 6), none⟩, ⟨(some 8), .mv (.s 0), none⟩, ⟨(some 9), .len false (.s 8), none⟩, ⟨(some 10), .bin .lss (.s 7) (.s 9), none⟩] none [0, 1, 6, 10])
 (.cond (.s 10) .skip (.exit 0 [])))
 (.seq (.block 1 (.seq (.reg [⟨(some 13), .mv (.s 0), none⟩, ⟨(some 14), .mv (.s 6), none⟩, ⟨(some 15), .iadr 2 (.s 13) (.s 14), none⟩, ⟨(some 16), .fadr 0 (.s 15), none⟩, ⟨(some 17), .load none (.s 16), none⟩, ⟨(some 18), .mv (.s 1), none⟩, ⟨(some 19), .eqv false false [.i] (.s 17) (.s 18), none⟩] none [0, 1, 6, 19])
 (.cond (.s 19) (.seq (.reg [⟨(some 20), .mv (.s 0), none⟩, ⟨(some 21), .mv (.s 6), none⟩, ⟨(some 22), .iadr 2 (.s 20) (.s 21), none⟩, ⟨(some 23), .fadr 1 (.s 22), none⟩, ⟨(some 24), .load none (.s 23), none⟩, ⟨(some 4), .mv (.s 24), none⟩, ⟨(some 5), .mv (.c (.dat (.bool true))), none⟩] none [4, 5])
 (.ret [4, 5])) .skip)))
 (.reg [⟨(some 11), .mv (.s 6), none⟩, ⟨(some 12), .bin .add (.s 11) (.c (.dat (.int .i64 1))), none⟩, ⟨(some 6), .mv (.s 12), none⟩] none [0, 1, 6])))
def xf_ref04_Get : XFunc := ⟨none, true, 2, [.tmp 4, .tmp 5], (.seq (.reg [⟨(some 4), .mv (.c (.dat (.str ⟨#[]⟩))), none⟩, ⟨(some 5), .mv (.c (.dat (.bool false))), none⟩] none [0, 1])
 (.seq (.seq (.reg [⟨(some 6), .mv (.c (.dat (.int .i64 0))), none⟩] none [0, 1, 6])
 (.block 0 (.loop xf_ref04_Get_k0 xf_ref04_Get_b0)))
 (.seq (.reg [⟨(some 4), .mv (.c (.dat (.str ⟨#[]⟩))), none⟩, ⟨(some 5), .mv (.c (.dat (.bool false))), none⟩] none [4, 5])
 (.ret [4, 5]))))⟩

def xf_ref04_put_k0 : List (Nat × Option (Nat × Nat × Bool)) := [(0, none), (3, none), (5, some (174, 2, true)), (6, none), (7, none)]
def xf_ref04_put_b0 : XCode := (.seq (.seq (.reg [⟨(some 8), .mv (.s 7), none⟩, ⟨(some 9), .mv (.s 0), none⟩, ⟨(some 10), .len false (.s 9), none⟩, ⟨(some 11), .bin .lss (.s 8) (.s 10), none⟩] none [0, 3, 5, 6, 7, 11])
 (.cond (.s 11) .skip (.exit 0 [3, 5, 6])))
 (.seq (.block 1 (.seq (.seq (.sreg [(⟨(some 14), .mv (.s 6), none⟩, false), (⟨(some 15), .not (.s 14), none⟩, false), (⟨(some 16), .mv (.s 15), none⟩, false), (⟨(some 17), .fadr 0 (.s 3), some (16, true)⟩, true), (⟨(some 18), .load none (.s 17), some (16, true)⟩, true), (⟨(some 19), .mv (.s 0), some (16, true)⟩, true), (⟨(some 20), .mv (.s 7), some (16, true)⟩, true), (⟨(some 21), .iadr 2 (.s 19) (.s 20), some (16, true)⟩, false), (⟨(some 22), .fadr 0 (.s 21), some (16, true)⟩, false), (⟨(some 23), .load none (.s 22), some (16, true)⟩, false), (⟨(some 24), .bin .lss (.s 18) (.s 23), some (16, true)⟩, false), (⟨(some 25), .pick (.s 16) (.s 24) (.c (.dat (.bool false))), none⟩, false)] (some []) [0, 3, 5, 6, 7, 25])
 (.cond (.s 25) (.seq (.reg [⟨(some 26), .mv (.s 5), none⟩, ⟨(some 27), .load (some 2) (.s 3), none⟩, ⟨(some 28), .bsl 174 2 true 1 [(.dat (.int .i64 0)), (.dat (.str ⟨#[]⟩))] [(0, 2, (.s 27))], none⟩, ⟨(some 29), .app 174 2 24 true (.s 26) (.s 28), none⟩, ⟨(some 5), .mv (.s 29), none⟩] none [0, 3, 5, 7])
 (.reg [⟨(some 6), .mv (.c (.dat (.bool true))), none⟩] none [0, 3, 5, 6, 7])) .skip))
 (.reg [⟨(some 30), .mv (.s 5), none⟩, ⟨(some 31), .mv (.s 0), none⟩, ⟨(some 32), .mv (.s 7), none⟩, ⟨(some 33), .iadr 2 (.s 31) (.s 32), none⟩, ⟨(some 34), .load (some 2) (.s 33), none⟩, ⟨(some 35), .bsl 174 2 true 1 [(.dat (.int .i64 0)), (.dat (.str ⟨#[]⟩))] [(0, 2, (.s 34))], none⟩, ⟨(some 36), .app 174 2 24 true (.s 30) (.s 35), none⟩, ⟨(some 5), .mv (.s 36), none⟩] none [0, 3, 5, 6, 7])))
 (.reg [⟨(some 12), .mv (.s 7), none⟩, ⟨(some 13), .bin .add (.s 12) (.c (.dat (.int .i64 1))), none⟩, ⟨(some 7), .mv (.s 13), none⟩] none [0, 3, 5, 6, 7])))
def xf_ref04_put : XFunc := ⟨none, true, 2, [.tmp 4], (.seq (.reg [⟨(some 3), .box (.s 1), none⟩, ⟨(some 4), .mv (.c (.nil 174 2 true)), none⟩] none [0, 3])
 (.seq (.reg [⟨(some 5), .mv (.c (.nil 174 2 true)), none⟩] none [0, 3, 5])
 (.seq (.reg [⟨(some 6), .mv (.c (.dat (.bool false))), none⟩] none [0, 3, 5, 6])
 (.seq (.seq (.reg [⟨(some 7), .mv (.c (.dat (.int .i64 0))), none⟩] none [0, 3, 5, 6, 7])
 (.block 0 (.loop xf_ref04_put_k0 xf_ref04_put_b0)))
 (.seq (.seq (.reg [⟨(some 37), .mv (.s 6), none⟩, ⟨(some 38), .not (.s 37), none⟩] none [3, 5, 38])
 (.cond (.s 38) (.reg [⟨(some 39), .mv (.s 5), none⟩, ⟨(some 40), .load (some 2) (.s 3), none⟩, ⟨(some 41), .bsl 174 2 true 1 [(.dat (.int .i64 0)), (.dat (.str ⟨#[]⟩))] [(0, 2, (.s 40))], none⟩, ⟨(some 42), .app 174 2 24 true (.s 39) (.s 41), none⟩, ⟨(some 5), .mv (.s 42), none⟩] none [5]) .skip))
 (.seq (.reg [⟨(some 43), .mv (.s 5), none⟩, ⟨(some 4), .mv (.s 43), none⟩] none [4])
 (.ret [4])))))))⟩
theorem r_ref05_Entry : progT Try.prog 78 = some xf_ref05_Entry.plain := by kernel_rfl
theorem r_ref04_Replay : progT Try.prog 79 = some xf_ref04_Replay.plain := by kernel_rfl
theorem r_oplog_Each : progT Try.prog 80 = some xf_oplog_Each.plain := by kernel_rfl
theorem r_oplog_fits : progT Try.prog 81 = some xf_oplog_fits.plain := by kernel_rfl
theorem r_ref09_voters : progT Try.prog 82 = some xf_ref09_voters.plain := by kernel_rfl
theorem r_ledger_Ledger_Would : progT Try.prog 83 = some xf_ledger_Ledger_Would.plain := by kernel_rfl
theorem r_ledger_Ledger_put : progT Try.prog 84 = some xf_ledger_Ledger_put.plain := by kernel_rfl
theorem r_ref04_Check : progT Try.prog 85 = some xf_ref04_Check.plain := by kernel_rfl
theorem r_ref04_Do : progT Try.prog 86 = some xf_ref04_Do.plain := by kernel_rfl
theorem r_oplog_joined : progT Try.prog 87 = some xf_oplog_joined.plain := by kernel_rfl
theorem r_oplog_Each_1 : progT Try.prog 88 = some xf_oplog_Each_1.plain := by kernel_rfl
theorem r_ref04_Get : progT Try.prog 89 = some xf_ref04_Get.plain := by kernel_rfl
theorem r_ref04_put : progT Try.prog 90 = some xf_ref04_put.plain := by kernel_rfl

end Go.Ax
