/-
  The functions of this seat as resolved code, and that the program resolves to them (part 4).
-/
import Derived.Test.YtbkbnhpadkkcaaaXComp
import Derived.Test.YtbkbnhpadkkcaaaXFn
import Derived.Test.YtbkbnhpadkkcaaaProg
import Derived.KernelRfl
namespace Go.Ax
open Go.Proofs

def xf_plain_SameBallots_k0 : List (Nat × Option (Nat × Nat × Bool)) := [(0, none), (1, none), (5, none)]
def xf_plain_SameBallots_b0 : XCode := (.seq (.seq (.reg [⟨(some 11), .mv (.s 5), none⟩, ⟨(some 12), .mv (.s 0), none⟩, ⟨(some 13), .len false (.s 12), none⟩, ⟨(some 14), .bin .lss (.s 11) (.s 13), none⟩] none [0, 1, 5, 14])
 (.cond (.s 14) .skip (.exit 0 [])))
 (.seq (.block 1 (.seq (.sreg [(⟨(some 17), .mv (.s 0), none⟩, false), (⟨(some 18), .mv (.s 5), none⟩, false), (⟨(some 19), .iadr 6 (.s 17) (.s 18), none⟩, false), (⟨(some 20), .fadr 0 (.s 19), none⟩, false), (⟨(some 21), .load none (.s 20), none⟩, false), (⟨(some 22), .mv (.s 1), none⟩, false), (⟨(some 23), .mv (.s 5), none⟩, false), (⟨(some 24), .iadr 6 (.s 22) (.s 23), none⟩, false), (⟨(some 25), .fadr 0 (.s 24), none⟩, false), (⟨(some 26), .load none (.s 25), none⟩, false), (⟨(some 27), .eqv true false [.i] (.s 21) (.s 26), none⟩, false), (⟨(some 28), .mv (.s 27), none⟩, false), (⟨(some 29), .mv (.s 0), some (28, false)⟩, true), (⟨(some 30), .mv (.s 5), some (28, false)⟩, true), (⟨(some 31), .iadr 6 (.s 29) (.s 30), some (28, false)⟩, false), (⟨(some 32), .fadr 1 (.s 31), some (28, false)⟩, false), (⟨(some 33), .load (some 2) (.s 32), some (28, false)⟩, false), (⟨(some 34), .mv (.s 1), some (28, false)⟩, true), (⟨(some 35), .mv (.s 5), some (28, false)⟩, true), (⟨(some 36), .iadr 6 (.s 34) (.s 35), some (28, false)⟩, false), (⟨(some 37), .fadr 1 (.s 36), some (28, false)⟩, false), (⟨(some 38), .load (some 2) (.s 37), some (28, false)⟩, false), (⟨(some 39), .eqv true true [.i, .i] (.s 33) (.s 38), some (28, false)⟩, false), (⟨(some 40), .pick (.s 28) (.c (.dat (.bool true))) (.s 39), none⟩, false), (⟨(some 41), .mv (.s 40), none⟩, false), (⟨(some 42), .mv (.s 0), some (41, false)⟩, true), (⟨(some 43), .mv (.s 5), some (41, false)⟩, true), (⟨(some 44), .iadr 6 (.s 42) (.s 43), some (41, false)⟩, false), (⟨(some 45), .fadr 3 (.s 44), some (41, false)⟩, false), (⟨(some 46), .load none (.s 45), some (41, false)⟩, false), (⟨(some 47), .mv (.s 1), some (41, false)⟩, true), (⟨(some 48), .mv (.s 5), some (41, false)⟩, true), (⟨(some 49), .iadr 6 (.s 47) (.s 48), some (41, false)⟩, false), (⟨(some 50), .fadr 3 (.s 49), some (41, false)⟩, false), (⟨(some 51), .load none (.s 50), some (41, false)⟩, false), (⟨(some 52), .eqv true false [.i] (.s 46) (.s 51), some (41, false)⟩, false), (⟨(some 53), .pick (.s 41) (.c (.dat (.bool true))) (.s 52), none⟩, false), (⟨(some 54), .mv (.s 53), none⟩, false), (⟨(some 55), .mv (.s 0), some (54, false)⟩, true), (⟨(some 56), .mv (.s 5), some (54, false)⟩, true), (⟨(some 57), .iadr 6 (.s 55) (.s 56), some (54, false)⟩, false), (⟨(some 58), .fadr 4 (.s 57), some (54, false)⟩, false), (⟨(some 59), .load none (.s 58), some (54, false)⟩, false), (⟨(some 60), .mv (.s 1), some (54, false)⟩, true), (⟨(some 61), .mv (.s 5), some (54, false)⟩, true), (⟨(some 62), .iadr 6 (.s 60) (.s 61), some (54, false)⟩, false), (⟨(some 63), .fadr 4 (.s 62), some (54, false)⟩, false), (⟨(some 64), .load none (.s 63), some (54, false)⟩, false), (⟨(some 65), .eqv true false [.i] (.s 59) (.s 64), some (54, false)⟩, false), (⟨(some 66), .pick (.s 54) (.c (.dat (.bool true))) (.s 65), none⟩, false), (⟨(some 67), .mv (.s 66), none⟩, false), (⟨(some 68), .mv (.s 0), some (67, false)⟩, true), (⟨(some 69), .mv (.s 5), some (67, false)⟩, true), (⟨(some 70), .iadr 6 (.s 68) (.s 69), some (67, false)⟩, false), (⟨(some 71), .fadr 5 (.s 70), some (67, false)⟩, false), (⟨(some 72), .load none (.s 71), some (67, false)⟩, false), (⟨(some 73), .mv (.s 1), some (67, false)⟩, true), (⟨(some 74), .mv (.s 5), some (67, false)⟩, true), (⟨(some 75), .iadr 6 (.s 73) (.s 74), some (67, false)⟩, false), (⟨(some 76), .fadr 5 (.s 75), some (67, false)⟩, false), (⟨(some 77), .load none (.s 76), some (67, false)⟩, false), (⟨(some 78), .call (.c (.fn (.func 42) [] [])) [(.s 72), (.s 77)], some (67, false)⟩, false), (⟨(some 79), .not (.s 78), some (67, false)⟩, false), (⟨(some 80), .pick (.s 67) (.c (.dat (.bool true))) (.s 79), none⟩, false)] (some []) [0, 1, 5, 80])
 (.cond (.s 80) (.seq (.reg [⟨(some 4), .mv (.c (.dat (.bool false))), none⟩] none [4])
 (.ret [4])) .skip)))
 (.reg [⟨(some 15), .mv (.s 5), none⟩, ⟨(some 16), .bin .add (.s 15) (.c (.dat (.int .i64 1))), none⟩, ⟨(some 5), .mv (.s 16), none⟩] none [0, 1, 5])))
def xf_plain_SameBallots : XFunc := ⟨none, true, 2, [.tmp 4], (.seq (.reg [⟨(some 4), .mv (.c (.dat (.bool false))), none⟩] none [0, 1])
 (.seq (.seq (.reg [⟨(some 6), .mv (.s 0), none⟩, ⟨(some 7), .len false (.s 6), none⟩, ⟨(some 8), .mv (.s 1), none⟩, ⟨(some 9), .len false (.s 8), none⟩, ⟨(some 10), .eqv true false [.i] (.s 7) (.s 9), none⟩] none [0, 1, 10])
 (.cond (.s 10) (.seq (.reg [⟨(some 4), .mv (.c (.dat (.bool false))), none⟩] none [4])
 (.ret [4])) .skip))
 (.seq (.seq (.reg [⟨(some 5), .mv (.c (.dat (.int .i64 0))), none⟩] none [0, 1, 5])
 (.block 0 (.loop xf_plain_SameBallots_k0 xf_plain_SameBallots_b0)))
 (.seq (.reg [⟨(some 4), .mv (.c (.dat (.bool true))), none⟩] none [4])
 (.ret [4])))))⟩

def xf_plain_SameAnswers_k0 : List (Nat × Option (Nat × Nat × Bool)) := [(0, none), (1, none), (5, none)]
def xf_plain_SameAnswers_b0 : XCode := (.seq (.seq (.reg [⟨(some 11), .mv (.s 5), none⟩, ⟨(some 12), .mv (.s 0), none⟩, ⟨(some 13), .len false (.s 12), none⟩, ⟨(some 14), .bin .lss (.s 11) (.s 13), none⟩] none [0, 1, 5, 14])
 (.cond (.s 14) .skip (.exit 0 [])))
 (.seq (.block 1 (.seq (.sreg [(⟨(some 17), .mv (.s 0), none⟩, false), (⟨(some 18), .mv (.s 5), none⟩, false), (⟨(some 19), .iadr 6 (.s 17) (.s 18), none⟩, false), (⟨(some 20), .fadr 0 (.s 19), none⟩, false), (⟨(some 21), .load none (.s 20), none⟩, false), (⟨(some 22), .mv (.s 1), none⟩, false), (⟨(some 23), .mv (.s 5), none⟩, false), (⟨(some 24), .iadr 6 (.s 22) (.s 23), none⟩, false), (⟨(some 25), .fadr 0 (.s 24), none⟩, false), (⟨(some 26), .load none (.s 25), none⟩, false), (⟨(some 27), .eqv true false [.i] (.s 21) (.s 26), none⟩, false), (⟨(some 28), .mv (.s 27), none⟩, false), (⟨(some 29), .mv (.s 0), some (28, false)⟩, true), (⟨(some 30), .mv (.s 5), some (28, false)⟩, true), (⟨(some 31), .iadr 6 (.s 29) (.s 30), some (28, false)⟩, false), (⟨(some 32), .fadr 1 (.s 31), some (28, false)⟩, false), (⟨(some 33), .load (some 2) (.s 32), some (28, false)⟩, false), (⟨(some 34), .mv (.s 1), some (28, false)⟩, true), (⟨(some 35), .mv (.s 5), some (28, false)⟩, true), (⟨(some 36), .iadr 6 (.s 34) (.s 35), some (28, false)⟩, false), (⟨(some 37), .fadr 1 (.s 36), some (28, false)⟩, false), (⟨(some 38), .load (some 2) (.s 37), some (28, false)⟩, false), (⟨(some 39), .eqv true true [.i, .i] (.s 33) (.s 38), some (28, false)⟩, false), (⟨(some 40), .pick (.s 28) (.c (.dat (.bool true))) (.s 39), none⟩, false), (⟨(some 41), .mv (.s 40), none⟩, false), (⟨(some 42), .mv (.s 0), some (41, false)⟩, true), (⟨(some 43), .mv (.s 5), some (41, false)⟩, true), (⟨(some 44), .iadr 6 (.s 42) (.s 43), some (41, false)⟩, false), (⟨(some 45), .fadr 3 (.s 44), some (41, false)⟩, false), (⟨(some 46), .load none (.s 45), some (41, false)⟩, false), (⟨(some 47), .mv (.s 1), some (41, false)⟩, true), (⟨(some 48), .mv (.s 5), some (41, false)⟩, true), (⟨(some 49), .iadr 6 (.s 47) (.s 48), some (41, false)⟩, false), (⟨(some 50), .fadr 3 (.s 49), some (41, false)⟩, false), (⟨(some 51), .load none (.s 50), some (41, false)⟩, false), (⟨(some 52), .eqv true false [.i] (.s 46) (.s 51), some (41, false)⟩, false), (⟨(some 53), .pick (.s 41) (.c (.dat (.bool true))) (.s 52), none⟩, false), (⟨(some 54), .mv (.s 53), none⟩, false), (⟨(some 55), .mv (.s 0), some (54, false)⟩, true), (⟨(some 56), .mv (.s 5), some (54, false)⟩, true), (⟨(some 57), .iadr 6 (.s 55) (.s 56), some (54, false)⟩, false), (⟨(some 58), .fadr 4 (.s 57), some (54, false)⟩, false), (⟨(some 59), .load none (.s 58), some (54, false)⟩, false), (⟨(some 60), .mv (.s 1), some (54, false)⟩, true), (⟨(some 61), .mv (.s 5), some (54, false)⟩, true), (⟨(some 62), .iadr 6 (.s 60) (.s 61), some (54, false)⟩, false), (⟨(some 63), .fadr 4 (.s 62), some (54, false)⟩, false), (⟨(some 64), .load none (.s 63), some (54, false)⟩, false), (⟨(some 65), .eqv true false [.i] (.s 59) (.s 64), some (54, false)⟩, false), (⟨(some 66), .pick (.s 54) (.c (.dat (.bool true))) (.s 65), none⟩, false), (⟨(some 67), .mv (.s 66), none⟩, false), (⟨(some 68), .mv (.s 0), some (67, false)⟩, true), (⟨(some 69), .mv (.s 5), some (67, false)⟩, true), (⟨(some 70), .iadr 6 (.s 68) (.s 69), some (67, false)⟩, false), (⟨(some 71), .fadr 5 (.s 70), some (67, false)⟩, false), (⟨(some 72), .load none (.s 71), some (67, false)⟩, false), (⟨(some 73), .mv (.s 1), some (67, false)⟩, true), (⟨(some 74), .mv (.s 5), some (67, false)⟩, true), (⟨(some 75), .iadr 6 (.s 73) (.s 74), some (67, false)⟩, false), (⟨(some 76), .fadr 5 (.s 75), some (67, false)⟩, false), (⟨(some 77), .load none (.s 76), some (67, false)⟩, false), (⟨(some 78), .call (.c (.fn (.func 42) [] [])) [(.s 72), (.s 77)], some (67, false)⟩, false), (⟨(some 79), .not (.s 78), some (67, false)⟩, false), (⟨(some 80), .pick (.s 67) (.c (.dat (.bool true))) (.s 79), none⟩, false)] (some []) [0, 1, 5, 80])
 (.cond (.s 80) (.seq (.reg [⟨(some 4), .mv (.c (.dat (.bool false))), none⟩] none [4])
 (.ret [4])) .skip)))
 (.reg [⟨(some 15), .mv (.s 5), none⟩, ⟨(some 16), .bin .add (.s 15) (.c (.dat (.int .i64 1))), none⟩, ⟨(some 5), .mv (.s 16), none⟩] none [0, 1, 5])))
def xf_plain_SameAnswers : XFunc := ⟨none, true, 2, [.tmp 4], (.seq (.reg [⟨(some 4), .mv (.c (.dat (.bool false))), none⟩] none [0, 1])
 (.seq (.seq (.reg [⟨(some 6), .mv (.s 0), none⟩, ⟨(some 7), .len false (.s 6), none⟩, ⟨(some 8), .mv (.s 1), none⟩, ⟨(some 9), .len false (.s 8), none⟩, ⟨(some 10), .eqv true false [.i] (.s 7) (.s 9), none⟩] none [0, 1, 10])
 (.cond (.s 10) (.seq (.reg [⟨(some 4), .mv (.c (.dat (.bool false))), none⟩] none [4])
 (.ret [4])) .skip))
 (.seq (.seq (.reg [⟨(some 5), .mv (.c (.dat (.int .i64 0))), none⟩] none [0, 1, 5])
 (.block 0 (.loop xf_plain_SameAnswers_k0 xf_plain_SameAnswers_b0)))
 (.seq (.reg [⟨(some 4), .mv (.c (.dat (.bool true))), none⟩] none [4])
 (.ret [4])))))⟩

def xf_ref02_Compare : XFunc := ⟨none, true, 2, [.tmp 4], (.seq (.reg [⟨(some 2), .box (.s 0), none⟩, ⟨(some 3), .box (.s 1), none⟩, ⟨(some 4), .mv (.c (.dat (.int .i64 0))), none⟩] none [2, 3])
 (.seq (.seq (.reg [⟨(some 5), .fadr 0 (.s 2), none⟩, ⟨(some 6), .load none (.s 5), none⟩, ⟨(some 7), .fadr 0 (.s 3), none⟩, ⟨(some 8), .load none (.s 7), none⟩, ⟨(some 9), .eqv true false [.i] (.s 6) (.s 8), none⟩] none [2, 3, 9])
 (.cond (.s 9) (.seq (.seq (.reg [⟨(some 10), .fadr 0 (.s 2), none⟩, ⟨(some 11), .load none (.s 10), none⟩, ⟨(some 12), .fadr 0 (.s 3), none⟩, ⟨(some 13), .load none (.s 12), none⟩, ⟨(some 14), .bin .lss (.s 11) (.s 13), none⟩] none [14])
 (.cond (.s 14) (.seq (.reg [⟨(some 4), .mv (.c (.dat (.int .i64 (-1)))), none⟩] none [4])
 (.ret [4])) .skip))
 (.seq (.reg [⟨(some 4), .mv (.c (.dat (.int .i64 1))), none⟩] none [4])
 (.ret [4]))) .skip))
 (.seq (.seq (.reg [⟨(some 15), .fadr 1 (.s 2), none⟩, ⟨(some 16), .load none (.s 15), none⟩, ⟨(some 17), .fadr 1 (.s 3), none⟩, ⟨(some 18), .load none (.s 17), none⟩, ⟨(some 19), .bin .lss (.s 16) (.s 18), none⟩] none [2, 3, 19])
 (.cond (.s 19) (.seq (.reg [⟨(some 4), .mv (.c (.dat (.int .i64 (-1)))), none⟩] none [4])
 (.ret [4])) .skip))
 (.seq (.seq (.reg [⟨(some 20), .fadr 1 (.s 2), none⟩, ⟨(some 21), .load none (.s 20), none⟩, ⟨(some 22), .fadr 1 (.s 3), none⟩, ⟨(some 23), .load none (.s 22), none⟩, ⟨(some 24), .bin .gtr (.s 21) (.s 23), none⟩] none [24])
 (.cond (.s 24) (.seq (.reg [⟨(some 4), .mv (.c (.dat (.int .i64 1))), none⟩] none [4])
 (.ret [4])) .skip))
 (.seq (.reg [⟨(some 4), .mv (.c (.dat (.int .i64 0))), none⟩] none [4])
 (.ret [4]))))))⟩

def xf_plain_markByte : XFunc := ⟨none, true, 2, [.tmp 4], (.seq (.reg [⟨(some 4), .mv (.c (.dat (.int .u8 0))), none⟩] none [0, 1])
 (.seq (.reg [⟨(some 5), .mv (.s 0), none⟩, ⟨(some 6), .bin .mul (.s 5) (.c (.dat (.int .i64 31))), none⟩, ⟨(some 7), .mv (.s 1), none⟩, ⟨(some 8), .bin .mul (.s 7) (.c (.dat (.int .i64 7))), none⟩, ⟨(some 9), .bin .add (.s 6) (.s 8), none⟩, ⟨(some 10), .bin .add (.s 9) (.c (.dat (.int .i64 5))), none⟩, ⟨(some 11), .conv .u8 (.s 10), none⟩, ⟨(some 4), .mv (.s 11), none⟩] none [4])
 (.ret [4])))⟩

def xf_plain_markInt : XFunc := ⟨none, true, 2, [.tmp 4], (.seq (.reg [⟨(some 4), .mv (.c (.dat (.int .i64 0))), none⟩] none [0, 1])
 (.seq (.reg [⟨(some 5), .mv (.s 0), none⟩, ⟨(some 6), .bin .add (.s 5) (.c (.dat (.int .i64 1))), none⟩, ⟨(some 7), .bin .mul (.c (.dat (.int .i64 100003))) (.s 6), none⟩, ⟨(some 8), .bin .sub (.c (.dat (.int .i64 (-1)))) (.s 7), none⟩, ⟨(some 9), .mv (.s 1), none⟩, ⟨(some 10), .bin .mul (.c (.dat (.int .i64 7))) (.s 9), none⟩, ⟨(some 11), .bin .sub (.s 8) (.s 10), none⟩, ⟨(some 4), .mv (.s 11), none⟩] none [4])
 (.ret [4])))⟩

def xf_plain_markDraw : XFunc := ⟨none, true, 2, [.cell 4 (some 2)], (.seq (.reg [⟨(some 4), .alloc [(.dat (.int .u64 0)), (.dat (.int .u64 0))], none⟩] none [0, 1, 4])
 (.seq (.reg [⟨(some 5), .mv (.s 0), none⟩, ⟨(some 6), .bin .add (.s 5) (.c (.dat (.int .i64 1))), none⟩, ⟨(some 7), .bin .mul (.c (.dat (.int .i64 1000003))) (.s 6), none⟩, ⟨(some 8), .mv (.s 1), none⟩, ⟨(some 9), .bin .add (.s 7) (.s 8), none⟩, ⟨(some 10), .conv .u64 (.s 9), none⟩, ⟨(some 11), .build [(.dat (.int .u64 0)), (.dat (.int .u64 0))] [(0, 1, (.s 10)), (1, 1, (.c (.dat (.int .u64 12379813738877118345))))], none⟩, ⟨none, .store 2 (.s 4) (.s 11), none⟩] none [4])
 (.ret [4])))⟩

def xf_plain_markEntry : XFunc := ⟨none, true, 2, [.cell 4 (some 5)], (.seq (.reg [⟨(some 4), .alloc [(.dat (.int .i64 0)), (.dat (.int .i64 0)), (.dat (.int .i64 0)), (.dat (.int .i64 0)), (.dat (.str ⟨#[]⟩))], none⟩] none [0, 1, 4])
 (.seq (.reg [⟨(some 5), .mv (.s 0), none⟩, ⟨(some 6), .bin .sub (.c (.dat (.int .i64 (-1000)))) (.s 5), none⟩, ⟨(some 7), .mv (.s 1), none⟩, ⟨(some 8), .bin .sub (.c (.dat (.int .i64 (-5)))) (.s 7), none⟩, ⟨(some 9), .build [(.dat (.int .i64 0)), (.dat (.int .i64 0)), (.dat (.int .i64 0)), (.dat (.int .i64 0)), (.dat (.str ⟨#[]⟩))] [(0, 1, (.s 6)), (1, 1, (.s 8))], none⟩, ⟨none, .store 5 (.s 4) (.s 9), none⟩] none [4])
 (.ret [4])))⟩

def xf_plain_markCell : XFunc := ⟨none, true, 2, [.cell 4 (some 2)], (.seq (.reg [⟨(some 4), .alloc [(.dat (.int .i64 0)), (.dat (.str ⟨#[]⟩))], none⟩] none [0, 1, 4])
 (.seq (.reg [⟨(some 5), .mv (.s 0), none⟩, ⟨(some 6), .bin .add (.s 5) (.c (.dat (.int .i64 1))), none⟩, ⟨(some 7), .bin .mul (.c (.dat (.int .i64 (-1000003)))) (.s 6), none⟩, ⟨(some 8), .mv (.s 1), none⟩, ⟨(some 9), .bin .sub (.s 7) (.s 8), none⟩, ⟨(some 10), .build [(.dat (.int .i64 0)), (.dat (.str ⟨#[]⟩))] [(0, 1, (.s 9))], none⟩, ⟨none, .store 2 (.s 4) (.s 10), none⟩] none [4])
 (.ret [4])))⟩

def xf_plain_markRow : XFunc := ⟨none, true, 2, [.cell 4 (some 7)], (.seq (.reg [⟨(some 4), .alloc [(.dat (.int .i64 0)), (.dat (.int .i64 0)), (.dat (.int .i64 0)), (.dat (.bool false)), (.dat (.int .i64 0)), (.dat (.int .i64 0)), (.dat (.str ⟨#[]⟩))], none⟩] none [0, 1, 4])
 (.seq (.reg [⟨(some 5), .mv (.s 0), none⟩, ⟨(some 6), .bin .add (.s 5) (.c (.dat (.int .i64 1))), none⟩, ⟨(some 7), .bin .mul (.c (.dat (.int .i64 (-1000003)))) (.s 6), none⟩, ⟨(some 8), .mv (.s 1), none⟩, ⟨(some 9), .bin .sub (.s 7) (.s 8), none⟩, ⟨(some 10), .build [(.dat (.int .i64 0)), (.dat (.int .i64 0)), (.dat (.int .i64 0)), (.dat (.bool false)), (.dat (.int .i64 0)), (.dat (.int .i64 0)), (.dat (.str ⟨#[]⟩))] [(0, 1, (.s 9)), (2, 1, (.c (.dat (.int .i64 (-9)))))], none⟩, ⟨none, .store 7 (.s 4) (.s 10), none⟩] none [4])
 (.ret [4])))⟩

def xf_plain_markResult : XFunc := ⟨none, true, 2, [.cell 4 (some 3)], (.seq (.reg [⟨(some 4), .alloc [(.dat (.int .i64 0)), (.dat (.int .i64 0)), (.dat (.str ⟨#[]⟩))], none⟩] none [0, 1, 4])
 (.seq (.reg [⟨(some 5), .mv (.s 0), none⟩, ⟨(some 6), .bin .add (.s 5) (.c (.dat (.int .i64 1))), none⟩, ⟨(some 7), .bin .mul (.c (.dat (.int .i64 (-1000003)))) (.s 6), none⟩, ⟨(some 8), .mv (.s 1), none⟩, ⟨(some 9), .bin .sub (.s 7) (.s 8), none⟩, ⟨(some 10), .build [(.dat (.int .i64 0)), (.dat (.int .i64 0)), (.dat (.str ⟨#[]⟩))] [(0, 1, (.s 9))], none⟩, ⟨none, .store 3 (.s 4) (.s 10), none⟩] none [4])
 (.ret [4])))⟩

def xf_plain_markStamp : XFunc := ⟨none, true, 2, [.cell 4 (some 3)], (.seq (.reg [⟨(some 4), .alloc [(.dat (.int .i64 0)), (.dat (.int .u64 0)), (.dat (.int .u64 0))], none⟩] none [0, 1, 4])
 (.seq (.reg [⟨(some 5), .mv (.s 0), none⟩, ⟨(some 6), .bin .add (.s 5) (.c (.dat (.int .i64 1))), none⟩, ⟨(some 7), .bin .mul (.c (.dat (.int .i64 (-1000003)))) (.s 6), none⟩, ⟨(some 8), .mv (.s 1), none⟩, ⟨(some 9), .bin .sub (.s 7) (.s 8), none⟩, ⟨(some 10), .build [(.dat (.int .i64 0)), (.dat (.int .u64 0)), (.dat (.int .u64 0))] [(0, 1, (.s 9))], none⟩, ⟨none, .store 3 (.s 4) (.s 10), none⟩] none [4])
 (.ret [4])))⟩

def xf_plain_markAck : XFunc := ⟨none, true, 2, [.cell 4 (some 4)], (.seq (.reg [⟨(some 4), .alloc [(.dat (.int .i64 0)), (.dat (.int .u64 0)), (.dat (.int .u64 0)), (.dat (.int .i64 0))], none⟩] none [0, 1, 4])
 (.seq (.reg [⟨(some 5), .mv (.s 0), none⟩, ⟨(some 6), .bin .add (.s 5) (.c (.dat (.int .i64 1))), none⟩, ⟨(some 7), .bin .mul (.c (.dat (.int .i64 (-1000003)))) (.s 6), none⟩, ⟨(some 8), .mv (.s 1), none⟩, ⟨(some 9), .bin .sub (.s 7) (.s 8), none⟩, ⟨(some 10), .build [(.dat (.int .i64 0)), (.dat (.int .u64 0)), (.dat (.int .u64 0)), (.dat (.int .i64 0))] [(0, 1, (.s 9))], none⟩, ⟨none, .store 4 (.s 4) (.s 10), none⟩] none [4])
 (.ret [4])))⟩

def xf_plain_markMark : XFunc := ⟨none, true, 2, [.cell 4 (some 3)], (.seq (.reg [⟨(some 4), .alloc [(.dat (.int .i64 0)), (.dat (.int .u64 0)), (.dat (.int .u64 0))], none⟩] none [0, 1, 4])
 (.seq (.reg [⟨(some 5), .mv (.s 0), none⟩, ⟨(some 6), .bin .add (.s 5) (.c (.dat (.int .i64 1))), none⟩, ⟨(some 7), .bin .mul (.c (.dat (.int .i64 (-1000003)))) (.s 6), none⟩, ⟨(some 8), .mv (.s 1), none⟩, ⟨(some 9), .bin .sub (.s 7) (.s 8), none⟩, ⟨(some 10), .build [(.dat (.int .i64 0)), (.dat (.int .u64 0)), (.dat (.int .u64 0))] [(0, 1, (.s 9))], none⟩, ⟨none, .store 3 (.s 4) (.s 10), none⟩] none [4])
 (.ret [4])))⟩
theorem r_plain_SameBallots : progT Try.prog 62 = some xf_plain_SameBallots.plain := by kernel_rfl
theorem r_plain_SameAnswers : progT Try.prog 63 = some xf_plain_SameAnswers.plain := by kernel_rfl
theorem r_ref02_Compare : progT Try.prog 64 = some xf_ref02_Compare.plain := by kernel_rfl
theorem r_plain_markByte : progT Try.prog 65 = some xf_plain_markByte.plain := by kernel_rfl
theorem r_plain_markInt : progT Try.prog 66 = some xf_plain_markInt.plain := by kernel_rfl
theorem r_plain_markDraw : progT Try.prog 67 = some xf_plain_markDraw.plain := by kernel_rfl
theorem r_plain_markEntry : progT Try.prog 68 = some xf_plain_markEntry.plain := by kernel_rfl
theorem r_plain_markCell : progT Try.prog 69 = some xf_plain_markCell.plain := by kernel_rfl
theorem r_plain_markRow : progT Try.prog 70 = some xf_plain_markRow.plain := by kernel_rfl
theorem r_plain_markResult : progT Try.prog 71 = some xf_plain_markResult.plain := by kernel_rfl
theorem r_plain_markStamp : progT Try.prog 72 = some xf_plain_markStamp.plain := by kernel_rfl
theorem r_plain_markAck : progT Try.prog 73 = some xf_plain_markAck.plain := by kernel_rfl
theorem r_plain_markMark : progT Try.prog 74 = some xf_plain_markMark.plain := by kernel_rfl

end Go.Ax
