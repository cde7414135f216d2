/-
  The table of this seat's functions.
-/
import Derived.Test.YtbkbnhpadkkcaaaXFs0
import Derived.Test.YtbkbnhpadkkcaaaXFs1
namespace Go.Ax
open Go.Proofs

def T : Nat → Option XFunc
  | 3 => some xf3
  | 4 => some xf4
  | 5 => some xf5
  | 6 => some xf6
  | 7 => some xf7
  | 8 => some xf8
  | 9 => some xf9
  | 10 => some xf10
  | 11 => some xf11
  | 12 => some xf12
  | 13 => some xf13
  | 14 => some xf14
  | 15 => some xf15
  | 16 => some xf16
  | 17 => some xf17
  | 18 => some xf18
  | 19 => some xf19
  | 20 => some xf20
  | 21 => some xf21
  | 22 => some xf22
  | 23 => some xf23
  | 24 => some xf24
  | 25 => some xf25
  | 26 => some xf26
  | 27 => some xf27
  | 28 => some xf28
  | 29 => some xf29
  | 30 => some xf30
  | 31 => some xf31
  | 32 => some xf32
  | 33 => some xf33
  | 34 => some xf34
  | 35 => some xf35
  | 36 => some xf36
  | 37 => some xf37
  | 38 => some xf38
  | 39 => some xf39
  | 41 => some xf41
  | 42 => some xf42
  | 43 => some xf43
  | 44 => some xf44
  | 45 => some xf45
  | 46 => some xf46
  | 47 => some xf47
  | 48 => some xf48
  | 49 => some xf49
  | 50 => some xf50
  | 51 => some xf51
  | 52 => some xf52
  | 53 => some xf53
  | 54 => some xf54
  | 55 => some xf55
  | 56 => some xf56
  | 57 => some xf57
  | 58 => some xf58
  | 59 => some xf59
  | 60 => some xf60
  | 61 => some xf61
  | 62 => some xf62
  | 63 => some xf63
  | 64 => some xf64
  | 65 => some xf65
  | 66 => some xf66
  | 67 => some xf67
  | 68 => some xf68
  | 69 => some xf69
  | 70 => some xf70
  | 71 => some xf71
  | 72 => some xf72
  | 73 => some xf73
  | 74 => some xf74
  | _ => none

theorem T_ok : ∀ f xf, T f = some xf → progT Try.prog f = some xf := by
  intro f xf h
  unfold T at h
  split at h
  · cases h; exact r3
  · cases h; exact r4
  · cases h; exact r5
  · cases h; exact r6
  · cases h; exact r7
  · cases h; exact r8
  · cases h; exact r9
  · cases h; exact r10
  · cases h; exact r11
  · cases h; exact r12
  · cases h; exact r13
  · cases h; exact r14
  · cases h; exact r15
  · cases h; exact r16
  · cases h; exact r17
  · cases h; exact r18
  · cases h; exact r19
  · cases h; exact r20
  · cases h; exact r21
  · cases h; exact r22
  · cases h; exact r23
  · cases h; exact r24
  · cases h; exact r25
  · cases h; exact r26
  · cases h; exact r27
  · cases h; exact r28
  · cases h; exact r29
  · cases h; exact r30
  · cases h; exact r31
  · cases h; exact r32
  · cases h; exact r33
  · cases h; exact r34
  · cases h; exact r35
  · cases h; exact r36
  · cases h; exact r37
  · cases h; exact r38
  · cases h; exact r39
  · cases h; exact r41
  · cases h; exact r42
  · cases h; exact r43
  · cases h; exact r44
  · cases h; exact r45
  · cases h; exact r46
  · cases h; exact r47
  · cases h; exact r48
  · cases h; exact r49
  · cases h; exact r50
  · cases h; exact r51
  · cases h; exact r52
  · cases h; exact r53
  · cases h; exact r54
  · cases h; exact r55
  · cases h; exact r56
  · cases h; exact r57
  · cases h; exact r58
  · cases h; exact r59
  · cases h; exact r60
  · cases h; exact r61
  · cases h; exact r62
  · cases h; exact r63
  · cases h; exact r64
  · cases h; exact r65
  · cases h; exact r66
  · cases h; exact r67
  · cases h; exact r68
  · cases h; exact r69
  · cases h; exact r70
  · cases h; exact r71
  · cases h; exact r72
  · cases h; exact r73
  · cases h; exact r74
  · cases h

end Go.Ax
