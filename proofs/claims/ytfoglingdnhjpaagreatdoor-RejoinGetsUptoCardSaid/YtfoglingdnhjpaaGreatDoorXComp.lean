/-
  Ax, text 2: out of the model's program into resolved code. It need not be right about what is kept at a loop's head: forgetting is sound.
-/
import Derived.Test.YtfoglingdnhjpaaGreatDoorXDefs
import GoSem.Core.Region
import GoSem.Core.Layout
import GoSem.Instr.Build
namespace Go.Ax
set_option linter.all false
def flatT (P : Program) : Nat → TypeId → Bool
 | 0, _ => false
 | d + 1, t => match P.underlying t with
  | some .bool | some (.int _) | some .string => true
  | some (.struct fs) => fs.toList.all fun f => flatT P d f.type
  | some (.array _ e) => flatT P d e
  | _ => false
def zeroT (P : Program) : Nat → TypeId → Option (List AV)
 | 0, _ => none
 | d + 1, t => match P.underlying t with
  | some .bool => some [.dat (.bool false)]
  | some (.int k) => some [.dat (.int k 0)]
  | some .string => some [.dat (.str ByteArray.empty)]
  | some (.slice e) => some [.nil e (P.cellsOf e) (flatT P 16 e)]
  | some (.pointer _) => some [.dat .nilp]
  | some (.func ..) => some [.dat .nilf]
  | some (.interface _) => some [.dat .nili]
  | some (.map _ _) => some [.dat .nilm]
  | some (.struct fs) => fs.toList.foldr (fun f r => match zeroT P d f.type, r with
   | some a, some b => some (a ++ b)
   | _, _ => none) (some [])
  | some (.array n e) => match zeroT P d e with
   | some z => some ((List.replicate n z).flatten)
   | none => none
  | _ => none
def cellsT : List AV → List Value → Option (List AV)
 | [], [] => some []
 | z :: zs, v :: vs => match (match z, v with
   | .nil e s f, .slice none 0 0 => some (.nil e s f)
   | _, v => constT1 v), cellsT zs vs with
  | some x, some r => some (x :: r)
  | _, _ => none
 | _, _ => none
where constT1 : Value → Option AV
 | .bool b => some (.dat (.bool b))
 | .int k n => some (.dat (.int k n))
 | .string s => some (.dat (.str s))
 | .pointer none => some (.dat .nilp)
 | .nilFunc => some (.dat .nilf)
 | .map none => some (.dat .nilm)
 | .nilIface => some (.dat .nili)
 | _ => none
def zeroC (P : Program) (t : TypeId) : Option (List AV) := match P.info? t with
 | some i => match i.zero, zeroT P 16 t with
  | some z, some l => cellsT l z.cells.toList
  | _, _ => none
 | none => none
def datsOf : List AV → Option (List Dat)
 | [] => some []
 | .dat d :: r => match datsOf r with
  | some l => some (d :: l)
  | none => none
 | _ => none
def zeroD (P : Program) (t : TypeId) : Option Dat := match P.info? t with
 | some i => match i.zero with
  | some (.agg vs) => match zeroT P 16 t with
   | some z => match cellsT z vs.toList with
    | some l => (datsOf l).map .agg
    | none => none
   | none => none
  | some v => match cellsT.constT1 v with
   | some (.dat d) => some d
   | _ => none
  | none => none
 | none => none
def operandT [Gls] (P : Program) (t : Option TypeId) : Operand → Option XO
 | .tmp n => some (.s n)
 | .const (.agg vs) => match t with
  | some t => match zeroT P 16 t with
   | some z => match cellsT z vs.toList with
    | some l => some (.c (.agg l))
    | none => none
   | none => none
  | none => none
 | .const (.slice none 0 0) => match t with
  | some t => match P.underlying t with
   | some (.slice e) => some (.c (.nil e (P.cellsOf e) (flatT P 16 e)))
   | _ => none
  | none => none
 | .const v => match cellsT.constT1 v with
  | some x => some (.c x)
  | none => none
 | .func f => some (.c (.fn (.func f) [] []))
 | .global g => (Gls.G g).map fun ds => .c (.dptr ds)
def aggOf (P : Program) (t : TypeId) : Option (Option Nat) := match P.underlying t with
 | some (.struct _) | some (.array _ _) => some (some (P.cellsOf t))
 | some _ => some none
 | none => none
def planFields (P : Program) (g : TypeId → Option (List LK)) : Nat → List Field → Option (List LK)
 | _, [] => some []
 | pos, f :: r => if f.name ≠ "_" ∧ f.offset = pos then match g f.type with
   | some p => if p.length = P.cellsOf f.type then match planFields P g (pos + p.length) r with
     | some q => some (p ++ q)
     | none => none
    else none
   | none => none
  else none
def eqPlan (P : Program) : Nat → TypeId → Option (List LK)
 | 0, _ => none
 | d + 1, t => match P.underlying t with
  | some .bool => some [.b]
  | some (.int _) => some [.i]
  | some .string => some [.s]
  | some (.struct fs) => if P.stoodInHeld t then none else planFields P (eqPlan P d) 0 fs.toList
  | _ => none
def listM {α β : Type} (f : α → Option β) : List α → Option (List β)
 | [] => some []
 | a :: r => match f a with
  | some b => match listM f r with
   | some l => some (b :: l)
   | none => none
  | none => none
def optT [Gls] (P : Program) : Option Operand → Option (Option XO)
 | some y => (operandT P none y).map some
 | none => some none
def nilT (P : Program) (t : TypeId) : Operand → Option Bool
 | .const (.slice none 0 0) => match P.underlying t with | some (.slice _) => some true | _ => none
 | .const (.pointer none) => match P.underlying t with | some (.pointer _) => some false | _ => none
 | _ => none
def methAt (P : Program) (name : String) (t : Nat) : Option Nat := match P.info? t with
 | some i => match i.methods.find? (·.name == name) with
  | some m => match m.path.isEmpty, m.func, P.underlying t with
   | true, some (f, true), some (.pointer _) => some f
   | true, some (_, false), some (.pointer _) => none
   | true, some (f, false), some _ => some f
   | _, _, _ => none
  | none => none
 | none => none
def methT (P : Program) (name : String) : List (Nat × Nat) := (List.range P.types.size).filterMap fun t => (methAt P name t).map fun f => (t, f)
def mapNil (P : Program) (t : TypeId) : Operand → Bool
 | .const (.map none) => match P.underlying t with | some (.map _ _) => true | _ => false
 | _ => false
def mkCall [Gls] (g : XO) (as : List XO) : XOp := match g with
 | .c (.fn (.func k) [] []) => if Gls.pk k then .peek k as else .call g as
 | _ => .call g as
theorem mkCall_cases [Gls] (g : XO) (as : List XO) : mkCall g as = .call g as ∨ ∃ k, g = .c (.fn (.func k) [] []) ∧ mkCall g as = .peek k as := by
 unfold mkCall
 split
 ·rename_i k
  split
  ·exact .inr ⟨k, rfl, rfl⟩
  ·exact .inl rfl
 ·exact .inl rfl
def opT [Gls] (P : Program) (o : Oper) : Option XOp :=
 match o.op with
 | .move x | .assign x => (operandT P (some o.type) x).map .mv
 | .pick c a b => do some (.pick (← operandT P none c) (← operandT P (some o.type) a) (← operandT P (some o.type) b))
 | .alloc t => (zeroC P t).map .alloc
 | .box t x => (operandT P (some t) x).map .box
 | .build t ps => match P.underlying t with
  | some (.struct fs) => do
   let z ← zeroC P t
   let l ← listM (fun p => do
    let f ← fs[p.1]?
    let x ← operandT P (some f.type) p.2
    some (f.offset, P.cellsOf f.type, x)) ps.toList
   if fs.toList.all fun f => (P.info? f.type).isSome then some (.build z l) else none
  | some (.array _ e) => do
   let z ← zeroC P t
   if (P.info? e).isSome then do
    let l ← listM (fun p => do
     let x ← operandT P (some e) p.2
     some (p.1 * P.cellsOf e, P.cellsOf e, x)) ps.toList
    some (.build z l)
   else none
  | _ => none
 | .buildSlice t n ps => match P.underlying t with
  | some (.slice e) => do
   let z ← zeroC P e
   let l ← listM (fun p => do
    let x ← operandT P (some e) p.2
    some (p.1 * P.cellsOf e, P.cellsOf e, x)) ps.toList
   if z.length = P.cellsOf e ∧ n * P.cellsOf e ≤ 16777216 then some (.bsl e (P.cellsOf e) (flatT P 16 e) n ((List.replicate n z).flatten) l) else none
  | _ => none
 | .load t a => do some (.load (← aggOf P t) (← operandT P none a))
 | .store t a x => if (P.underlying t).isSome then do some (.store (P.cellsOf t) (← operandT P none a) (← operandT P (some t) x)) else none
 | .nilCheck x => (operandT P none x).map .nilchk
 | .binOp op t x y _ =>
  match op with
  | .eql => match eqPlan P 16 t with
   | some pl => do some (.eqv false (aggOf P t).join.isSome pl (← operandT P (some t) x) (← operandT P (some t) y))
   | none => match nilT P t y with
    | some k => (operandT P (some t) x).map (.eqn k false)
    | none => if mapNil P t y then (operandT P (some t) x).map (.eqm false) else none
  | .neq => match eqPlan P 16 t with
   | some pl => do some (.eqv true (aggOf P t).join.isSome pl (← operandT P (some t) x) (← operandT P (some t) y))
   | none => match nilT P t y with
    | some k => (operandT P (some t) x).map (.eqn k true)
    | none => if mapNil P t y then (operandT P (some t) x).map (.eqm true) else none
  | .add | .sub | .mul | .quo | .rem | .lss | .leq | .gtr | .geq => match P.underlying t with
   | some (.int _) => do some (.bin op (← operandT P none x) (← operandT P none y))
   | _ => none
  | _ => none
 | .unOp op _ x => match op with
  | .not => (operandT P none x).map .not
  | .neg => (operandT P none x).map .neg
  | _ => none
 | .convert src dst x => match P.underlying src, P.underlying dst with
  | some (.int _), some (.int k) => (operandT P none x).map (.conv k)
  | _, _ => none
 | .extract x i => (operandT P none x).map (.ext · i)
 | .fieldAddr t x i => match P.underlying t with
  | some (.struct fs) => do
   let f ← fs[i]?
   if P.cellsOf f.type = 0 then none else some (.fadr f.offset (← operandT P none x))
  | _ => none
 | .field t x i => match P.underlying t with
  | some (.struct fs) => do
   let f ← fs[i]?
   some (.fld (← aggOf P f.type) f.offset (← operandT P (some t) x))
  | _ => none
 | .indexAddr t x i => match P.underlying t with
  | some (.slice e) => if (P.info? e).isSome then do some (.iadr (P.cellsOf e) (← operandT P (some t) x) (← operandT P none i)) else none
  | some (.array n e) => if (P.info? e).isSome then do some (.aadr (P.cellsOf e) n (← operandT P none x) (← operandT P none i)) else none
  | _ => none
 | .slice t x lo hi none => match P.underlying t with
  | some (.slice e) => if (P.info? e).isSome then do
    let a ← operandT P (some t) x
    let l ← optT P lo
    let h ← optT P hi
    some (.slice (P.cellsOf e) a l h)
   else none
  | _ => none
 | .makeSlice t l c => match P.underlying t with
  | some (.slice e) => do
   let z ← zeroC P e
   if z.length = P.cellsOf e ∧ P.bytesOf e ≤ 65536 then some (.mksl e (P.cellsOf e) (P.bytesOf e) (flatT P 16 e) z (← operandT P none l) (← operandT P none c)) else none
  | _ => none
 | .index t x i => match P.underlying t with
  | some (.array n e) => do some (.idx (← aggOf P e) (P.cellsOf e) n (← operandT P (some t) x) (← operandT P none i))
  | some .string => do some (.sidx (← operandT P (some t) x) (← operandT P none i))
  | _ => none
 | .makeInterface t x => match P.underlying t with
  | some (.interface _) => none
  | some _ => (operandT P (some t) x).map (.mkifc t)
  | none => none
 | .makeMap t none => match P.underlying t with
  | some (.map k e) => match P.underlying k with
   | some (.int .i64) => some .mkmap
   | _ => none
  | _ => none
 | .lookup t m x ok => match P.underlying t with
  | some (.map k e) => match P.underlying k, zeroD P e with
   | some (.int .i64), some z => do some (.mget ok z (← operandT P (some t) m) (← operandT P none x))
   | _, _ => none
  | _ => none
 | .mapUpdate t m x v => match P.underlying t with
  | some (.map k e) => match P.underlying k with
   | some (.int .i64) => do some (.mput (← operandT P (some t) m) (← operandT P none x) (← operandT P (some e) v))
   | _ => none
  | _ => none
 | .panic _ => some .stop
 | .typeAssert x _ t true => match P.underlying t with
  | some (.interface _) => none
  | some _ => (operandT P none x).map (.tas t)
  | none => none
 | .makeFunc fn a c => do some (.mkfn fn (← listM (operandT P none) a.toList) (← listM (operandT P none) c.toList))
 | .call c => match c.callee with
  | .builtin .len => match c.argTypes[0]?, c.args[0]? with
   | some t, some x => match P.underlying t with
    | some (.slice _) => (operandT P (some t) x).map (.len false)
    | some .string => (operandT P (some t) x).map (.len true)
    | some (.map k _) => match P.underlying k with
     | some (.int .i64) => (operandT P (some t) x).map .mlen
     | _ => none
    | _ => none
   | _, _ => none
  | .builtin .max => match c.args.toList with
   | [x, y] => do some (.mm true (← operandT P none x) (← operandT P none y))
   | _ => none
  | .builtin .min => match c.args.toList with
   | [x, y] => do some (.mm false (← operandT P none x) (← operandT P none y))
   | _ => none
  | .builtin .copy => match c.argTypes[0]? with
   | some t => match P.underlying t with
    | some (.slice e) => match c.args.toList with
     | [x, y] => if c.argTypes.toList = [t, t] ∧ (P.info? e).isSome ∧ 0 < P.cellsOf e then do
       some (.cpy (P.cellsOf e) (← operandT P (some t) x) (← operandT P (some t) y))
      else none
     | _ => none
    | _ => none
   | none => none
  | .builtin .append => match c.argTypes[0]? with
   | some t => match P.underlying t with
    | some (.slice e) => match c.args.toList, zeroC P e with
     | [x, y], some z => if c.argTypes.toList = [t, t] ∧ 0 < P.cellsOf e ∧ P.bytesOf e ≤ 8192 ∧ z.length = P.cellsOf e then do
       some (.app e (P.cellsOf e) (P.bytesOf e) (flatT P 16 e) (← operandT P (some t) x) (← operandT P (some t) y))
      else none
     | _, _ => none
    | _ => none
   | none => none
  | .invoke r name => do
   let x ← operandT P none r
   let as ← listM (fun p => operandT P p.2 p.1) (c.args.toList.zip (c.argTypes.toList.map some ++ List.replicate c.args.size none))
   some (.inv (methT P name) x as)
  | .value f => do
   let g ← operandT P none f
   let as ← listM (fun p => operandT P p.2 p.1) (c.args.toList.zip (c.argTypes.toList.map some ++ List.replicate c.args.size none))
   some (mkCall g as)
  | _ => none
 | _ => none
def operT [Gls] (P : Program) (ops : Array Oper) (o : Oper) : Option XOper := do
 let x ← opT P o
 match o.guard with
 | none => some ⟨o.dst, x, none⟩
 | some (j, b) => do
  let oj ← ops[j]?
  let d ← oj.dst
  some ⟨o.dst, x, some (d, b)⟩
def XO.uses : XO → List Nat
 | .s n => [n]
 | .c _ => []
def XOp.uses : XOp → List Nat
 | .mv x | .box x | .load _ x | .nilchk x | .eqn _ _ x | .eqm _ x | .mkifc _ x | .mlen x | .not x | .neg x | .conv _ x | .ext x _ | .len _ x | .fadr _ x | .fld _ _ x => x.uses
 | .pick a b c | .mput a b c => a.uses ++ b.uses ++ c.uses
 | .alloc _ | .mkmap | .stop => []
 | .tas _ x => x.uses
 | .build _ ps | .bsl _ _ _ _ _ ps => ps.flatMap fun p => p.2.2.uses
 | .store _ x y | .bin _ x y | .eqv _ _ _ x y | .app _ _ _ _ x y | .iadr _ x y | .mksl _ _ _ _ _ x y | .idx _ _ _ x y | .sidx x y | .aadr _ _ x y | .mm _ x y | .cpy _ x y | .mget _ _ x y => x.uses ++ y.uses
 | .call f as => f.uses ++ as.flatMap XO.uses
 | .inv _ x as => x.uses ++ as.flatMap XO.uses
 | .peek _ as => as.flatMap XO.uses
 | .slice _ x l h => x.uses ++ (match l with | some y => y.uses | none => []) ++ (match h with | some y => y.uses | none => [])
 | .mkfn _ a c => a.flatMap XO.uses ++ c.flatMap XO.uses
def XOper.uses (o : XOper) : List Nat := o.op.uses ++ (match o.g with | some (t, _) => [t] | none => [])
def XOp.reads : XOp → Bool
 | .load .. | .store .. | .bsl .. | .iadr .. | .slice .. | .call .. | .peek .. | .app .. | .cpy .. | .mget .. | .mput .. | .mlen _ | .inv .. => true
 | _ => false
def XOp.makes : XOp → Bool
 | .alloc _ | .box _ | .bsl .. | .store .. | .mksl .. | .app .. | .call .. | .cpy .. | .mkmap | .mput .. | .inv .. => true
 | _ => false
def unord (B : Array Nat) (j i : Nat) : Bool := !(B.getD j 0).testBit i
def parX (l : List XOper) (B : Array Nat) : List (Nat × Nat) :=
 (List.range l.length).flatMap fun j => (List.range j).filterMap fun i => match l[i]?, l[j]? with
  | some a, some b => if unord B j i && ((a.op.reads && b.op.makes) || (b.op.reads && a.op.makes)) then some (i, j) else none
  | _, _ => none
def slotApart (a b : XOper) : Bool :=
 (match a.dst with | some d => !b.uses.contains d && b.dst != some d | none => true) && (match b.dst with | some d => !a.uses.contains d | none => true)
def drawnOk (ops : Array Oper) (l : List XOper) (B : Array Nat) : Bool :=
 (List.range ops.size).all fun j => match ops[j]?, l[j]? with
  | some o, some b => o.after.all (fun e => !Region.binds .any e || decide (e.on < j)) &&
     (List.range j).all fun i => match l[i]? with
       | some a => if unord B j i then slotApart a b else o.after.any fun e => Region.binds .any e && (e.on == i || (decide (i < e.on) && (B.getD e.on 0).testBit i))
       | none => false
  | _, _ => false
def dstOk (N : Nat) (l : List XOper) : Bool := l.all fun o => match o.dst with | some d => decide (d < N) | none => true
def union (a b : List Nat) : List Nat := a ++ b.filter fun x => !a.contains x
def liveOps : List XOper → List Nat → List Nat
 | [], out => out
 | o :: r, out =>
  let l := liveOps r out
  union o.uses.eraseDups (match o.dst with | some d => l.filter (· != d) | none => l)
def live (rets : List Nat) : XCode → (Nat → List Nat) → List Nat → List Nat
 | .skip, _, out => out
 | .reg ops _ _, _, out => liveOps ops out
 | .sreg ops _ _, _, out => liveOps (ops.map (·.1)) out
 | .seq a b, ex, out => live rets a ex (live rets b ex out)
 | .cond c a b, ex, out => union c.uses (union (live rets a ex out) (live rets b ex out))
 | .block id c, ex, out => live rets c (fun i => if i = id then out else ex i) out
 | .loop _ c, ex, _ =>
  let l1 := live rets c ex []
  let l2 := live rets c ex l1
  live rets c ex l2
 | .exit id _, ex, _ => ex id
 | .ret _, _, _ => rets
 | .thr ops d x _, _, out => liveOps ops (union x.uses (out.filter (· != d)))
def slotTypes (P : Program) : Code → List (Nat × TypeId)
 | .seq a b | .cond _ a b => slotTypes P a ++ slotTypes P b
 | .region _ ops _ => ops.toList.filterMap fun o => match o.dst with | some d => some (d, o.type) | none => none
 | .block _ c | .loop c | .scope c => slotTypes P c
 | _ => []
def keepOf (P : Program) (ts : List (Nat × TypeId)) (s : Nat) : Nat × Option (Nat × Nat × Bool) :=
 match ts.find? (fun p => p.1 = s) with
 | some (_, t) => match P.underlying t with
  | some (.slice e) => (s, some (e, P.cellsOf e, flatT P 16 e))
  | _ => (s, none)
 | none => (s, none)
def insN (x : Nat) : List Nat → List Nat
 | [] => [x]
 | y :: r => if x ≤ y then x :: y :: r else y :: insN x r
def sortN (l : List Nat) : List Nat := l.foldr insN []
def annot (P : Program) (ts : List (Nat × TypeId)) (rets : List Nat) : XCode → (Nat → List Nat) → List Nat → XCode
 | .seq a b, ex, out => .seq (annot P ts rets a ex (live rets b ex out)) (annot P ts rets b ex out)
 | .cond c a b, ex, out => .cond c (annot P ts rets a ex out) (annot P ts rets b ex out)
 | .block id c, ex, out => .block id (annot P ts rets c (fun i => if i = id then out else ex i) out)
 | .loop k c, ex, _ =>
  let l := live rets (.loop k c) ex []
  .loop ((sortN l).map (keepOf P ts)) (annot P ts rets c ex l)
 | .reg ops par _, _, out => .reg ops par (sortN out)
 | .sreg ops par _, _, out => .sreg ops par (sortN out)
 | .exit id _, ex, _ => .exit id (sortN (ex id))
 | .ret _, _, _ => .ret (sortN rets)
 | .thr ops d x _, _, out => .thr ops d x (sortN out)
 | .skip, _, _ => .skip
def codeT [Gls] (P : Program) (N : Nat) : Code → Option XCode
 | .skip => some .skip
 | .region _ ops draw => match listM (operT P ops) ops.toList with
  | some l => if dstOk N l then
    match draw with
    | true => if drawnOk ops l (Region.before ops) then some (.reg l (some (parX l (Region.before ops))) []) else none
    | false => some (.reg l none [])
   else none
  | none => none
 | .seq a b => match codeT P N a, codeT P N b with
  | some x, some y => some (.seq x y)
  | _, _ => none
 | .cond c a b => match operandT P none c, codeT P N a, codeT P N b with
  | some z, some x, some y => some (.cond z x y)
  | _, _, _ => none
 | .block id c => match codeT P N c with
  | some x => some (.block id x)
  | none => none
 | .loop c => match codeT P N c with
  | some x => some (.loop [] x)
  | none => none
 | .exit id => some (.exit id [])
 | .ret => some (.ret [])
 | .scope c => codeT P N c
 | .label _ => some .skip
 | _ => none
abbrev Gh := List (Nat × Nat × Bool)
def lookG : Gh → Nat → Option (Nat × Bool)
 | [], _ => none
 | (k, p) :: r, n => if k = n then some p else lookG r n
def chainG (G : Gh) : Nat → Nat × Bool → List (Nat × Bool)
 | 0, p => [p]
 | f + 1, p => p :: (match lookG G p.1 with | some q => chainG G f q | none => [])
def usesIn (G : Gh) (l : List (Nat × Bool)) (us : List Nat) : Bool := us.all fun n => match lookG G n with
 | none => true
 | some p => l.contains p
def opUses (G : Gh) (l : List (Nat × Bool)) : XOp → Bool
 | .pick (.s t) a b => usesIn G l [t] && usesIn G ((t, true) :: l) a.uses && usesIn G ((t, false) :: l) b.uses
 | op => usesIn G l op.uses
def writeG (G : Gh) : Option Nat → Option Gh
 | none => some G
 | some d => if G.any fun p => p.2.1 == d then none else some (G.filter fun p => p.1 != d)
def partialOp : XOp → Bool
 | .iadr .. | .idx .. | .sidx .. | .slice .. | .nilchk _ | .eqn .. | .eqm .. | .mget .. | .tas .. | .stop => true
 | .aadr _ _ _ (.s _) => true
 | .bin .quo _ (.s _) | .bin .rem _ (.s _) => true
 | _ => false
def stepG (G : Gh) (o : XOper) (try_ : Bool) : Option (Bool × Gh) := match o.g with
 | none => if opUses G [] o.op then (writeG G o.dst).map fun G' => (false, G') else none
 | some (t, w) => match o.dst with
  | some d => if try_ = true ∧ o.op.makes = false ∧ opUses G (chainG G 8 (t, w)) o.op = true ∧ d ≠ t then match writeG G (some d) with
    | some G' => some (true, (d, t, w) :: G')
    | none => none
   else if lookG G t = none ∧ opUses G [(t, w)] o.op = true then (writeG G (some d)).map fun G' => (false, G') else none
  | none => if lookG G t = none ∧ opUses G [(t, w)] o.op = true then some (false, G) else none
def guardsPartial (d : Nat) (r : List XOper) : Bool := r.any fun o => match o.g with
 | some (t, _) => t == d && partialOp o.op
 | none => false
def strictG : List Nat → Gh → List XOper → Option (List (XOper × Bool) × Gh)
 | _, G, [] => some ([], G)
 | bad, G, o :: r => match stepG G o (!partialOp o.op && !o.op.uses.any bad.contains && !(match o.dst with | some d => guardsPartial d r | none => false)) with
  | some (b, G') => match strictG (match o.g, b, o.dst with | some _, false, some d => d :: bad | _, _, _ => bad) G' r with
   | some (l, G2) => some ((o, b) :: l, G2)
   | none => none
  | none => none
def strictify (keep : List Nat) (ops : List XOper) : Option (List (XOper × Bool)) := match strictG [] [] ops with
 | some (l, G) => if keep.all (fun n => (lookG G n).isNone) && l.any (·.2) then some l else none
 | none => none
def strict : XCode → XCode
 | .reg ops par keep => match strictify keep ops with
  | some l => .sreg l par keep
  | none => .reg ops par keep
 | .seq a b => .seq (strict a) (strict b)
 | .cond c a b => .cond c (strict a) (strict b)
 | .block id c => .block id (strict c)
 | .loop k c => .loop k (strict c)
 | x => x
def resT (P : Program) : ResultVar → Option XRes
 | .tmp t => some (.tmp t)
 | .cell a t => (aggOf P t).map (.cell a)
def retSlots (rs : List XRes) : List Nat := rs.map fun | .tmp t => t | .cell t _ => t
def funcT [Gls] (P : Program) (fn : Func) : Option XFunc := match fn.body with
 | none => none
 | some c => if fn.name == "runtime.NumGoroutine" then none else
  match codeT P fn.ntmps c, listM (resT P) fn.results.toList with
  | some x, some rs => some ⟨none, none, false, fn.params.size, rs, strict (annot P (slotTypes P c) (retSlots rs) x (fun _ => []) (retSlots rs))⟩
  | _, _ => none
def lastThr (g : Nat) (l : List XOper) : Option (List XOper × Nat × XO) := match l.getLast? with
 | some ⟨some d, .call (.c (.fn (.func g') [] [])) [x], none⟩ => if g' = g then some (l.dropLast, d, x) else none
 | _ => none
def thrify (g : Nat) : XCode → XCode
 | .reg l none keep => match lastThr g l with
  | some (l', d, x) => .thr l' d x keep
  | none => .reg l none keep
 | .seq a b => .seq (thrify g a) (thrify g b)
 | .cond c a b => .cond c (thrify g a) (thrify g b)
 | .block id c => .block id (thrify g c)
 | .loop k c => .loop k (thrify g c)
 | x => x
def slotOf : Operand → Option Nat
 | .tmp t => some t
 | _ => none
def cinOf : Code → Option Code
 | .seq _ (.seq _ (.cond _ c .skip)) => some c
 | _ => none
def grdT [Gls] (P : Program) (f g t slot kc : Nat) : Option XFunc := match P.funcs[f]? with
 | none => none
 | some fn => match fn.body with
  | some (.seq c0 (.seq (.region _ ops false) c2)) => match ops.toList with
   | [o1, _] => match o1.op, o1.dst with
    | .makeFunc (.func k) _ caps, some d => if k ≠ kc then none else match listM slotOf caps.toList, P.funcs[k]? with
     | some cs, some gn => match gn.body.bind cinOf, codeT P fn.ntmps c0, codeT P fn.ntmps c2, listM (resT P) fn.results.toList with
      | some cin, some x0, some x2, some rs => match codeT P gn.ntmps cin with
       | some xc =>
        let rets := retSlots rs
        let a2 := strict (annot P (slotTypes P c2) rets x2 (fun _ => []) rets)
        let a0 := strict (annot P (slotTypes P c0) rets x0 (fun _ => []) (union cs (live rets x2 (fun _ => []) rets)))
        let ac := strict (annot P (slotTypes P cin) [] xc (fun _ => []) [])
        some ⟨none, some ⟨thrify g a2, ac, cs, t, slot, d⟩, false, fn.params.size, rs, a0⟩
       | none => none
      | _, _, _, _ => none
     | _, _ => none
    | _, _ => none
   | _ => none
  | _ => none
def progT [Gls] (P : Program) (f : Nat) : Option XFunc := (P.funcs[f]?).bind (funcT P)
end Go.Ax
