/-
  Short words for resolved code.
-/
import Derived.Test.YtfoglingdnhjpaaGreatDoorXDefs
namespace Go.Ax.P
set_option linter.all false
@[simp] abbrev z : AV := .dat (.int .i64 0)
@[simp] abbrev y : AV := .dat (.int .u64 0)
@[simp] abbrev x : AV := .dat (.str ⟨#[]⟩)
@[simp] abbrev w : AV := .dat (.bool false)
@[simp] abbrev v : AV := .dat (.bool true)
@[simp] abbrev i (n : Int) : AV := .dat (.int .i64 n)
@[simp] abbrev j (n : Int) : XO := .c (.dat (.int .i64 n))
@[simp] abbrev fc (n : Nat) : XO := .c (.fn (.func n) [] [])
@[simp] abbrev m (a : Nat) : XOp := .mv (.s a)
@[simp] abbrev l (k a : Nat) : XOp := .load (some k) (.s a)
@[simp] abbrev k (a : Nat) : XOp := .load none (.s a)
@[simp] abbrev f (o a : Nat) : XOp := .fadr o (.s a)
@[simp] abbrev e (a k : Nat) : XOp := .ext (.s a) k
@[simp] abbrev ka (a b : Nat) : XOp := .pick (.s a) (.s b) (.c w)
@[simp] abbrev ko (a b : Nat) : XOp := .pick (.s a) (.c v) (.s b)
@[simp] abbrev q (a b : Nat) : XOp := .eqv false false [.i] (.s a) (.s b)
@[simp] abbrev n (a b : Nat) : XOp := .eqv true false [.i] (.s a) (.s b)
@[simp] abbrev qj (a : Nat) (b : Int) : XOp := .eqv false false [.i] (.s a) (j b)
@[simp] abbrev nj (a : Nat) (b : Int) : XOp := .eqv true false [.i] (.s a) (j b)
@[simp] abbrev bl (a b : Nat) : XOp := .bin .lss (.s a) (.s b)
@[simp] abbrev bm (a b : Nat) : XOp := .bin .leq (.s a) (.s b)
@[simp] abbrev bg (a b : Nat) : XOp := .bin .gtr (.s a) (.s b)
@[simp] abbrev bh (a b : Nat) : XOp := .bin .geq (.s a) (.s b)
@[simp] abbrev ba (a b : Nat) : XOp := .bin .add (.s a) (.s b)
@[simp] abbrev bs (a b : Nat) : XOp := .bin .sub (.s a) (.s b)
@[simp] abbrev blj (a : Nat) (b : Int) : XOp := .bin .lss (.s a) (j b)
@[simp] abbrev bmj (a : Nat) (b : Int) : XOp := .bin .leq (.s a) (j b)
@[simp] abbrev bgj (a : Nat) (b : Int) : XOp := .bin .gtr (.s a) (j b)
@[simp] abbrev bhj (a : Nat) (b : Int) : XOp := .bin .geq (.s a) (j b)
@[simp] abbrev baj (a : Nat) (b : Int) : XOp := .bin .add (.s a) (j b)
@[simp] abbrev bsj (a : Nat) (b : Int) : XOp := .bin .sub (.s a) (j b)
@[simp] abbrev ia (s a b : Nat) : XOp := .iadr s (.s a) (.s b)
@[simp] abbrev le (a : Nat) : XOp := .len false (.s a)
@[simp] abbrev t (k a b : Nat) : XOp := .store k (.s a) (.s b)
@[simp] abbrev bx (a : Nat) : XOp := .box (.s a)
@[simp] abbrev nc (a : Nat) : XOp := .nilchk (.s a)
@[simp] abbrev nt (a : Nat) : XOp := .not (.s a)
@[simp] abbrev c (g : Nat) (as : List Nat) : XOp := .call (.c (.fn (.func g) [] [])) (as.map .s)
@[simp] abbrev o (d : Nat) (u : XOp) : XOper := ⟨some d, u, none⟩
@[simp] abbrev p (u : XOp) : XOper := ⟨none, u, none⟩
@[simp] abbrev g (d : Nat) (u : XOp) (h : Nat) : XOper := ⟨some d, u, some (h, true)⟩
@[simp] abbrev om (d a : Nat) : XOper := ⟨some d, .mv (.s a), none⟩
@[simp] abbrev ol (d k a : Nat) : XOper := ⟨some d, .load (some k) (.s a), none⟩
@[simp] abbrev of (d o a : Nat) : XOper := ⟨some d, .fadr o (.s a), none⟩
@[simp] abbrev a (d : Nat) (u : XOp) : XOper × Bool := (⟨some d, u, none⟩, false)
@[simp] abbrev am (d a : Nat) : XOper × Bool := (⟨some d, .mv (.s a), none⟩, false)
@[simp] abbrev b (d : Nat) (u : XOp) (h : Nat) : XOper × Bool := (⟨some d, u, some (h, true)⟩, true)
@[simp] abbrev bb (d a h : Nat) : XOper × Bool := (⟨some d, .mv (.s a), some (h, true)⟩, true)
@[simp] abbrev d (d : Nat) (u : XOp) (h : Nat) : XOper × Bool := (⟨some d, u, some (h, false)⟩, true)
@[simp] abbrev rs (ops : List XOper) (keep : List Nat) (r : XCode) : XCode := .seq (.reg ops none keep) r
@[simp] abbrev rp (par : Option (List (Nat × Nat))) (ops : List XOper) (keep : List Nat) (r : XCode) : XCode := .seq (.reg ops par keep) r
@[simp] abbrev ss (ops : List (XOper × Bool)) (keep : List Nat) (r : XCode) : XCode := .seq (.sreg ops none keep) r
@[simp] abbrev sp (par : Option (List (Nat × Nat))) (ops : List (XOper × Bool)) (keep : List Nat) (r : XCode) : XCode := .seq (.sreg ops par keep) r
@[simp] abbrev u (d : Nat) (u : XOp) (h : Nat) : XOper × Bool := (⟨some d, u, some (h, true)⟩, false)
@[simp] abbrev r (d : Nat) (u : XOp) (h : Nat) : XOper × Bool := (⟨some d, u, some (h, false)⟩, false)
@[simp] abbrev h (d : Nat) (u : XOp) (h : Nat) : XOper := ⟨some d, u, some (h, false)⟩
@[simp] abbrev l1 : List AV := [z, z, z, z, (.nil 50 5 true), z, (.nil 26 2 true), z, (.nil 123 4 true), (.nil 125 3 true), (.nil 98 6 false), (.nil 100 6 false)]
@[simp] abbrev l2 : List AV := [z, y, y, z, z, (.nil 50 5 true)]
@[simp] abbrev l3 : List AV := [z, z, z, z, z, z, z, z, x, z, z, x, z, z, z, y, y, (.nil 50 5 true), (.nil 26 2 true)]
@[simp] abbrev l4 : List AV := [z, z, z, z, z, z, z, x, z, z, x, z, z, z, y, y, (.nil 50 5 true), (.nil 26 2 true)]
@[simp] abbrev l5 : List AV := [(.nil 106 1 false), (.nil 106 1 false), (.nil 30 1 false), (.nil 30 1 false), (.nil 28 1 false), (.nil 28 1 false), (.nil 108 1 false), (.nil 108 1 false), (.nil 36 12 false), (.nil 36 12 false)]
@[simp] abbrev l6 : List AV := [w, w, w, w, w, w, w, w, w, w]
@[simp] abbrev l7 : List AV := [z, y, y]
@[simp] abbrev l8 : List AV := [(.nil 195 3 true), (.nil 195 3 true), (.nil 195 3 true), (.nil 195 3 true)]
@[simp] abbrev l9 : List AV := [z, y, y, z]
@[simp] abbrev l10 : List AV := [z, z, z, z, x]
end Go.Ax.P
