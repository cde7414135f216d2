/-
  Ax, text 1: pure data, abstract values, resolved code, and an interpreter for it. Nothing of memory stands here.
-/
import GoSem.Core.Code
import GoSem.Core.View
namespace Go.Ax
set_option linter.all false
inductive Dat where
 | bool (b : Bool)
 | int (k : IntKind) (n : Int)
 | str (s : ByteArray)
 | sl (sz : Nat) (fl : Bool) (xs : List Dat)
 | agg (cs : List Dat)
 | nilp
 | nilf
 | nili
 | nilm
 deriving Inhabited
class Gls where
 G : Nat → Option (List Dat)
 pk : Nat → Bool
def Dat.cells : Dat → List Dat
 | .agg cs => cs
 | d => [d]
def Dat.leaf : Dat → Bool
 | .agg _ => false
 | _ => true
mutual
def Dat.flat : Dat → Bool
 | .sl _ _ _ => false
 | .agg cs => Dat.flats cs
 | _ => true
def Dat.flats : List Dat → Bool
 | [] => true
 | d :: r => d.flat && Dat.flats r
end
inductive AV where
 | dat (d : Dat)
 | ptr (id off : Nat)
 | eptr (id i off : Nat)
 | dptr (cs : List Dat)
 | mref (id : Nat)
 | own (id off len : Nat)
 | nil (e sz : Nat) (fl : Bool)
 | agg (cs : List AV)
 | tup (vs : List AV)
 | ifc (t : Nat) (v : AV)
 | fn (f : Fn) (first cap : List AV)
 | top
 deriving Inhabited
inductive Blk where
 | box (cs : List AV)
 | arr (e sz : Nat) (fl fz : Bool) (xs : List Dat)
 | mp (l : List (Int × Dat))
 | dead
 deriving Inhabited
def AV.cells : AV → List AV
 | .agg cs => cs
 | .dat (.agg ds) => ds.map .dat
 | v => [v]
def AV.isAgg : AV → Bool
 | .agg _ | .dat (.agg _) => true
 | _ => false
def AV.one : AV → Bool
 | .agg _ | .tup _ | .top | .dat (.agg _) => false
 | _ => true
mutual
def AV.refs : AV → List Nat
 | .ptr id _ | .eptr id _ _ | .own id _ _ | .mref id => [id]
 | .agg cs => AV.refsL cs
 | .tup cs => AV.refsL cs
 | .ifc _ v => v.refs
 | .fn _ f c => AV.refsL f ++ AV.refsL c
 | _ => []
def AV.refsL : List AV → List Nat
 | [] => []
 | v :: r => v.refs ++ AV.refsL r
end
mutual
def AV.hasPtr : AV → Bool
 | .ptr _ _ | .eptr _ _ _ | .mref _ => true
 | .agg cs => AV.hasPtrL cs
 | .tup cs => AV.hasPtrL cs
 | .ifc _ v => v.hasPtr
 | .fn _ f c => AV.hasPtrL f || AV.hasPtrL c
 | _ => false
def AV.hasPtrL : List AV → Bool
 | [] => false
 | v :: r => v.hasPtr || AV.hasPtrL r
end
mutual
def AV.ren (f : Nat → Nat) : AV → AV
 | .ptr id o => .ptr (f id) o
 | .eptr id i o => .eptr (f id) i o
 | .mref id => .mref (f id)
 | .own id o l => .own (f id) o l
 | .agg cs => .agg (AV.renL f cs)
 | .tup cs => .tup (AV.renL f cs)
 | .ifc t v => .ifc t (v.ren f)
 | .fn g a c => .fn g (AV.renL f a) (AV.renL f c)
 | v => v
def AV.renL (f : Nat → Nat) : List AV → List AV
 | [] => []
 | v :: r => v.ren f :: AV.renL f r
end
def Blk.ren (f : Nat → Nat) : Blk → Blk
 | .box cs => .box (AV.renL f cs)
 | b => b
def Blk.refs : Blk → List Nat
 | .box cs => AV.refsL cs
 | _ => []
mutual
def AV.toDat (H : List Blk) : AV → Option Dat
 | .dat d => some d
 | .nil _ sz fl => some (.sl sz fl [])
 | .own id off len => match H[id]? with
  | some (.arr _ sz fl _ xs) => if off + len ≤ xs.length then some (.sl sz fl ((xs.drop off).take len)) else none
  | _ => none
 | .agg cs => (AV.toDatL H cs).map .agg
 | _ => none
def AV.toDatL (H : List Blk) : List AV → Option (List Dat)
 | [] => some []
 | v :: r => match v.toDat H with
  | some d => match AV.toDatL H r with
   | some ds => some (d :: ds)
   | none => none
  | none => none
end
def allDat : List AV → Option (List Dat)
 | [] => some []
 | .dat d :: r => match allDat r with
  | some l => some (d :: l)
  | none => none
 | _ :: _ => none
def mkAggV (cs : List AV) : AV := match allDat cs with
 | some ds => .dat (.agg ds)
 | none => .agg cs
mutual
def AV.strip (H : List Blk) : AV → Option AV
 | .own id off len => match H[id]? with
  | some (.arr _ sz fl _ xs) => if off + len ≤ xs.length then some (.dat (.sl sz fl ((xs.drop off).take len))) else none
  | _ => none
 | .agg cs => (AV.stripL H cs).map mkAggV
 | .nil _ sz fl => some (.dat (.sl sz fl []))
 | .fn g a c => match AV.stripL H a with
  | some a' => (AV.stripL H c).map (.fn g a')
  | none => none
 | .tup _ => none
 | .top => none
 | .ifc t v => (v.strip H).map (.ifc t)
 | v => some v
def AV.stripL (H : List Blk) : List AV → Option (List AV)
 | [] => some []
 | v :: r => match v.strip H with
  | some d => match AV.stripL H r with
   | some ds => some (d :: ds)
   | none => none
  | none => none
end
def AV.peek (H : List Blk) : AV → Option AV
 | .ptr id off => match H[id]? with
  | some (.box cs) => if AV.hasPtrL cs then none else match AV.stripL H cs with
   | some cs' => match allDat (cs'.drop off) with
    | some ds => some (.dptr ds)
    | none => none
   | none => none
  | _ => none
 | v => if v.hasPtr then none else v.strip H
def AV.peekL (H : List Blk) : List AV → Option (List AV)
 | [] => some []
 | v :: r => match v.peek H, AV.peekL H r with
  | some d, some ds => some (d :: ds)
  | _, _ => none
def peekRefs (H : List Blk) (a : List AV) : List Nat := AV.refsL a ++ (AV.refsL a).flatMap (fun i => match H[i]? with
 | some (Blk.box cs) => AV.refsL cs
 | _ => [])
def bareLeaf : Dat → Bool
 | .bool _ | .int _ _ | .str _ | .nilp | .nilf | .nili | .nilm => true
 | _ => false
def freeze1 (b : Blk) : Blk := match b with
 | .arr e sz fl _ xs => .arr e sz fl true xs
 | b => b
def freeze (ids : List Nat) (H : List Blk) : List Blk := H.mapIdx fun i b => if ids.contains i then freeze1 b else b
inductive XO where
 | s (n : Nat)
 | c (v : AV)
 deriving Inhabited
inductive LK where
 | i | b | s
 deriving Inhabited
inductive XOp where
 | mv (x : XO)
 | pick (c a b : XO)
 | alloc (zs : List AV)
 | box (x : XO)
 | build (zs : List AV) (ps : List (Nat × Nat × XO))
 | bsl (e sz : Nat) (fl : Bool) (cnt : Nat) (zs : List AV) (ps : List (Nat × Nat × XO))
 | load (ag : Option Nat) (a : XO)
 | store (n : Nat) (a x : XO)
 | nilchk (x : XO)
 | bin (op : BinOp) (x y : XO)
 | eqv (neg ag : Bool) (pl : List LK) (x y : XO)
 | not (x : XO)
 | neg (x : XO)
 | conv (k : IntKind) (x : XO)
 | ext (x : XO) (i : Nat)
 | len (st : Bool) (x : XO)
 | app (e sz bytes : Nat) (fl : Bool) (s x : XO)
 | call (f : XO) (args : List XO)
 | peek (g : Nat) (args : List XO)
 | fadr (off : Nat) (x : XO)
 | fld (ag : Option Nat) (off : Nat) (x : XO)
 | iadr (sz : Nat) (x i : XO)
 | slice (sz : Nat) (x : XO) (lo hi : Option XO)
 | mksl (e sz bytes : Nat) (fl : Bool) (zs : List AV) (len cap : XO)
 | mkfn (f : Fn) (first cap : List XO)
 | idx (ag : Option Nat) (sz n : Nat) (x i : XO)
 | aadr (sz n : Nat) (x i : XO)
 | mm (mx : Bool) (x y : XO)
 | cpy (sz : Nat) (d s : XO)
 | eqn (sl neg : Bool) (x : XO)
 | eqm (neg : Bool) (x : XO)
 | mkifc (t : Nat) (x : XO)
 | inv (tbl : List (Nat × Nat)) (x : XO) (args : List XO)
 | sidx (x i : XO)
 | mkmap
 | mget (ok : Bool) (z : Dat) (m k : XO)
 | mput (m k v : XO)
 | mlen (m : XO)
 | stop
 | tas (t : Nat) (x : XO)
 deriving Inhabited
structure XOper where
 dst : Option Nat
 op : XOp
 g : Option (Nat × Bool)
 deriving Inhabited
inductive XCode where
 | skip
 | reg (ops : List XOper) (par : Option (List (Nat × Nat))) (keep : List Nat)
 | sreg (ops : List (XOper × Bool)) (par : Option (List (Nat × Nat))) (keep : List Nat)
 | seq (a b : XCode)
 | cond (c : XO) (a b : XCode)
 | block (id : Nat) (c : XCode)
 | loop (keep : List (Nat × Option (Nat × Nat × Bool))) (c : XCode)
 | exit (id : Nat) (keep : List Nat)
 | ret (keep : List Nat)
 | thr (ops : List XOper) (d : Nat) (x : XO) (keep : List Nat)
 deriving Inhabited
structure XGrd where
 rest : XCode
 rec_ : XCode
 caps : List Nat
 t : Nat
 slot : Nat
 d : Nat
 deriving Inhabited
inductive XRes where
 | tmp (t : Nat)
 | cell (t : Nat) (ag : Option Nat)
 deriving Inhabited
structure XFunc where
 nv : Option (List AV → Option (AV × List Blk)) := none
 grd : Option XGrd := none
 pure : Bool
 np : Nat
 results : List XRes
 body : XCode
 deriving Inhabited
abbrev Env := List (Nat × AV)
def get : Env → Nat → AV
 | [], _ => .top
 | (k, v) :: r, n => if k = n then v else get r n
def XO.ev (env : Env) : XO → AV
 | .s n => get env n
 | .c v => v
def restrict (env : Env) (keep : List Nat) : Env := keep.map fun n => (n, get env n)
structure St where
 env : Env
 H : List Blk
 deriving Inhabited
def LIM : Nat := 4294967296
def intBin (op : BinOp) (k : IntKind) (a b : Int) : Option Dat :=
 match op with
 | .add => some (.int k (k.wrap (a + b)))
 | .sub => some (.int k (k.wrap (a - b)))
 | .mul => some (.int k (k.wrap (a * b)))
 | .quo => if b = 0 then none else some (.int k (k.wrap (a.tdiv b)))
 | .rem => if b = 0 then none else some (.int k (a.tmod b))
 | .eql => some (.bool (a == b))
 | .neq => some (.bool (a != b))
 | .lss => some (.bool (decide (a < b)))
 | .leq => some (.bool (decide (a ≤ b)))
 | .gtr => some (.bool (decide (b < a)))
 | .geq => some (.bool (decide (b ≤ a)))
 | _ => none
def bin (op : BinOp) : AV → AV → Option AV
 | .dat (.int k a), .dat (.int k' b) => if k = k' then (intBin op k a b).map .dat else none
 | _, _ => none
def leafEq : LK → AV → AV → Option Bool
 | .b, .dat (.bool a), .dat (.bool b) => some (a == b)
 | .i, .dat (.int k a), .dat (.int k' b) => if k = k' then some (a == b) else none
 | .s, .dat (.str a), .dat (.str b) => some (a == b)
 | _, _, _ => none
def cellsEq : List LK → List AV → List AV → Option Bool
 | [], [], [] => some true
 | p :: q, a :: r, b :: t => match leafEq p a b with
  | some x => match cellsEq q r t with
   | some y => some (x && y)
   | none => none
  | none => none
 | _, _, _ => none
def mkAgg : Option Nat → List AV → Option AV
 | none, v :: _ => some v
 | none, [] => none
 | some n, l => if n ≤ l.length then some (.agg (l.take n)) else none
def setCells : List AV → Nat → List AV → Option (List AV)
 | cs, off, vs => if off + vs.length ≤ cs.length then some (cs.take off ++ vs ++ cs.drop (off + vs.length)) else none
def fillParts (env : Env) : List AV → List (Nat × Nat × XO) → Option (List AV)
 | cs, [] => some cs
 | cs, (off, size, x) :: r =>
  let v := (x.ev env).cells
  if v.length = size ∧ v.all AV.one = true then match setCells cs off v with
   | some cs' => fillParts env cs' r
   | none => none
  else none
def chunks (sz : Nat) : Nat → List Dat → List Dat
 | 0, _ => []
 | n + 1, l => (if sz = 1 then l.headD default else .agg (l.take sz)) :: chunks sz n (l.drop sz)
def loadAt (H : List Blk) (ag : Option Nat) : AV → Option AV
 | .ptr id off => match H[id]? with
  | some (.box cs) => mkAgg ag (cs.drop off)
  | _ => none
 | .eptr id i off => match H[id]? with
  | some (.arr _ _ _ _ xs) => match xs[i]? with
   | some x => mkAgg ag ((x.cells.drop off).map .dat)
   | none => none
  | _ => none
 | .dptr cs => mkAgg ag (cs.map .dat)
 | _ => none
def storeAt (H : List Blk) (n : Nat) (a x : AV) : Option (List Blk) :=
 let vs := x.cells
 if vs.length = n ∧ vs.all AV.one = true then
  match a with
  | .ptr id off => match H[id]? with
   | some (.box cs) => match setCells cs off vs with
    | some cs' => some (H.set id (.box cs'))
    | none => none
   | _ => none
  | .eptr id i off => match H[id]? with
   | some (.arr e sz fl false xs) => match xs[i]?, AV.toDatL H vs with
    | some d, some ds =>
     if off + ds.length ≤ d.cells.length ∧ ¬ (AV.refsL vs).contains id = true then
      let c := d.cells.take off ++ ds ++ d.cells.drop (off + ds.length)
      some ((freeze (AV.refsL vs) H).set id (.arr e sz (fl && Dat.flats ds) false (xs.set i (if sz = 1 then c.headD default else .agg c))))
     else none
    | _, _ => none
   | _ => none
  | _ => none
 else none
def slElems (H : List Blk) : AV → Option (Nat × Bool × List Dat)
 | .dat (.sl sz fl xs) => some (sz, fl, xs)
 | .nil _ sz fl => some (sz, fl, [])
 | .own id off len => match H[id]? with
  | some (.arr _ sz fl _ xs) => if off + len ≤ xs.length then some (sz, fl, (xs.drop off).take len) else none
  | _ => none
 | _ => none
def appendTo (H : List Blk) (e sz : Nat) (s x : AV) : Option (AV × List Blk) :=
 match slElems H x with
 | some (sz', fl', ys) =>
  if sz' = sz then
   match s with
   | .nil _ _ _ => if ys.length ≤ LIM ∧ 0 < sz then some (.own H.length 0 ys.length, H ++ [.arr e sz fl' false ys]) else none
   | .own id 0 len => match H[id]? with
    | some (.arr e0 sz0 fl0 false xs) =>
     if e0 = e ∧ sz0 = sz ∧ len = xs.length ∧ xs.length + ys.length ≤ LIM ∧ ¬ x.refs.contains id = true then
      some (.own H.length 0 (xs.length + ys.length), (H.set id .dead) ++ [.arr e sz (fl0 && fl') false (xs ++ ys)])
     else none
    | _ => none
   | _ => none
  else none
 | none => none
mutual
def AV.safe (H : List Blk) : AV → Bool
 | .dat d => d.flat
 | .own id _ _ => match H[id]? with
  | some (.arr _ _ fl _ _) => fl
  | _ => false
 | .agg cs => AV.safeL H cs
 | .tup cs => AV.safeL H cs
 | .ifc _ v => v.safe H
 | .nil _ _ _ => true
 | _ => false
def AV.safeL (H : List Blk) : List AV → Bool
 | [] => true
 | v :: r => v.safe H && AV.safeL H r
end
def blkRefs (H : List Blk) (id : Nat) : List Nat := match H[id]? with
 | some b => b.refs
 | none => []
def reach (H : List Blk) : Nat → List Nat → List Nat → List Nat
 | 0, _, seen => seen
 | _ + 1, [], seen => seen
 | f + 1, id :: r, seen => if seen.contains id then reach H f r seen else reach H f (blkRefs H id ++ r) (seen ++ [id])
def closedUnder (H : List Blk) (ids : List Nat) : Bool := ids.all fun i => (blkRefs H i).all ids.contains
def shown (R os : List Nat) (H : List Blk) : List Blk := R.map fun i => ((freeze os H).getD i .dead).ren fun i => R.idxOf i
def backTo (R : List Nat) (len : Nat) (j : Nat) : Nat := if j < R.length then R.getD j 0 else len + (j - R.length)
def merge (R : List Nat) (H H1 : List Blk) : List Blk :=
 (H.mapIdx fun i b => if R.contains i then (H1.getD (R.idxOf i) .dead).ren (backTo R H.length) else b) ++ (H1.drop R.length).map (Blk.ren (backTo R H.length))
abbrev CallF := Nat → List AV → List Blk → Option (AV × List Blk)
mutual
def AV.owns : AV → List Nat
 | .own id _ _ => [id]
 | .agg cs => AV.ownsL cs
 | .ifc _ v => v.owns
 | .fn _ a c => AV.ownsL a ++ AV.ownsL c
 | _ => []
def AV.ownsL : List AV → List Nat
 | [] => []
 | v :: r => v.owns ++ AV.ownsL r
end
def flatArr : Blk → Bool
 | .arr _ _ fl _ _ => fl
 | .dead => true
 | .box _ => false
 | .mp _ => false
def doCall (cf : CallF) (H : List Blk) (f : Nat) (args : List AV) : Option (AV × List Blk) :=
 if AV.hasPtrL args then
  let R := reach H 4096 (AV.refsL args) []
  if closedUnder H R && (AV.refsL args).all R.contains && R.all (fun i => decide (i < H.length)) then
   match AV.stripL H args with
   | some args' => match cf f (AV.renL (fun i => R.idxOf i) args') (shown R (AV.ownsL args) H) with
    | some (r, H1) => some (r.ren (backTo R H.length), merge R H H1)
    | none => none
   | none => none
  else none
 else
  match AV.stripL H args with
  | some args' => match cf f args' [] with
   | some (r, H1) =>
    let os := AV.ownsL args
    let ids := if (AV.safe H1 r && H1.all flatArr) || os.isEmpty then [] else os
    some (r.ren (· + H.length), freeze ids H ++ H1.map (Blk.ren (· + H.length)))
   | none => none
  | none => none
def slLen : AV → Int
 | .dat (.sl _ _ xs) => xs.length
 | .own _ _ l => l
 | _ => -1
def evOr (env : Env) (d : Int) : Option XO → AV
 | some y => y.ev env
 | none => .dat (.int .i64 d)
def isNil : Bool → AV → Option Bool
 | true, .dat (.sl _ _ (_ :: _)) => some false
 | false, .dat .nilp => some true
 | false, .ptr _ _ => some false
 | false, .eptr _ _ _ => some false
 | false, .dptr _ => some false
 | _, _ => none
def copyTo (H : List Blk) (sz : Nat) (fl' : Bool) (ys : List Dat) (d s : AV) : Option (AV × List Blk) :=
 match d with
 | .own id off len => match H[id]? with
  | some (.arr e sz0 fl0 false xs) =>
   if sz0 = sz ∧ off + len ≤ xs.length ∧ ¬ s.refs.contains id = true ∧ 0 < min ys.length len then
    some (.dat (.int .i64 (min ys.length len : Nat)), H.set id (.arr e sz (fl0 && fl') false (xs.take off ++ ys.take (min ys.length len) ++ xs.drop (off + min ys.length len))))
   else if min ys.length len = 0 then some (.dat (.int .i64 0), H) else none
  | _ => none
 | .dat (.sl _ _ []) => some (.dat (.int .i64 0), H)
 | .nil _ _ _ => some (.dat (.int .i64 0), H)
 | _ => none
def tblGet : List (Nat × Nat) → Nat → Option Nat
 | [], _ => none
 | (k, f) :: r, t => if k = t then some f else tblGet r t
def keyOk (n : Int) : Bool := decide (-9223372036854775808 ≤ n) && decide (n ≤ 9223372036854775807)
def mlook : List (Int × Dat) → Int → Option Dat
 | [], _ => none
 | (k, d) :: r, n => if k = n then some d else mlook r n
def mcount : List (Int × Dat) → Nat
 | [] => 0
 | (k, _) :: r => (if (mlook r k).isSome then 0 else 1) + mcount r
def mgetV (ok : Bool) (z : Dat) (l : List (Int × Dat)) (n : Int) : AV :=
 if ok then .tup [.dat ((mlook l n).getD z), .dat (.bool (mlook l n).isSome)] else .dat ((mlook l n).getD z)
def evalOp (cf : CallF) (env : Env) (H : List Blk) : XOp → Option (AV × List Blk)
 | .mv x => some (x.ev env, H)
 | .pick c a b => match c.ev env with
  | .dat (.bool true) => some (a.ev env, H)
  | .dat (.bool false) => some (b.ev env, H)
  | _ => none
 | .alloc zs => some (.ptr H.length 0, H ++ [.box zs])
 | .box x => let vs := (x.ev env).cells
  if vs.all AV.one = true then some (.ptr H.length 0, H ++ [.box vs]) else none
 | .build zs ps => match fillParts env zs ps with
  | some cs => some (.agg cs, H)
  | none => none
 | .bsl e sz _ n zs ps => match fillParts env zs ps with
  | some cs => match AV.toDatL H cs with
   | some ds => if ds.length = n * sz ∧ 0 < sz then some (.own H.length 0 n, freeze (AV.refsL cs) H ++ [.arr e sz (Dat.flats ds) false (chunks sz n ds)]) else none
   | none => none
  | none => none
 | .load ag a => match loadAt H ag (a.ev env) with
  | some v => some (v, H)
  | none => none
 | .store n a x => match storeAt H n (a.ev env) (x.ev env) with
  | some H' => some (.top, H')
  | none => none
 | .nilchk x => match x.ev env with
  | .ptr a b => some (.ptr a b, H)
  | .eptr a b c => some (.eptr a b c, H)
  | .dptr cs => some (.dptr cs, H)
  | _ => none
 | .bin op x y => match bin op (x.ev env) (y.ev env) with
  | some v => some (v, H)
  | none => none
 | .eqv ng ag pl x y => if (x.ev env).isAgg = ag ∧ (y.ev env).isAgg = ag then match cellsEq pl (x.ev env).cells (y.ev env).cells with
   | some b => some (.dat (.bool (ng != b)), H)
   | none => none
  else none
 | .not x => match x.ev env with
  | .dat (.bool b) => some (.dat (.bool (!b)), H)
  | _ => none
 | .neg x => match x.ev env with
  | .dat (.int k n) => some (.dat (.int k (k.wrap (0 - n))), H)
  | _ => none
 | .conv k x => match x.ev env with
  | .dat (.int _ n) => some (.dat (.int k (k.wrap n)), H)
  | _ => none
 | .ext x i => match x.ev env with
  | .tup vs => match vs[i]? with
   | some v => some (v, H)
   | none => none
  | _ => none
 | .len false x => match x.ev env with
  | .dat (.sl _ _ xs) => some (.dat (.int .i64 xs.length), H)
  | .own _ _ l => some (.dat (.int .i64 l), H)
  | .nil _ _ _ => some (.dat (.int .i64 0), H)
  | _ => none
 | .len true x => match x.ev env with
  | .dat (.str s) => some (.dat (.int .i64 s.size), H)
  | _ => none
 | .app e sz _ _ s x => appendTo H e sz (s.ev env) (x.ev env)
 | .call f args => match f.ev env with
  | .fn (.func g) first cap => doCall cf H g (first ++ args.map (XO.ev env) ++ cap)
  | _ => none
 | .peek g args => match AV.peekL H (args.map (XO.ev env)) with
  | some a => match cf g a [] with
   | some (.dat d, []) => if bareLeaf d then some (.dat d, H) else none
   | _ => none
  | none => none
 | .fadr off x => match x.ev env with
  | .ptr id o => some (.ptr id (o + off), H)
  | .eptr id i o => some (.eptr id i (o + off), H)
  | .dptr cs => if off < cs.length then some (.dptr (cs.drop off), H) else none
  | _ => none
 | .fld ag off x => match x.ev env with
  | .agg cs => match mkAgg ag (cs.drop off) with
   | some v => some (v, H)
   | none => none
  | .dat (.agg ds) => match mkAgg ag ((ds.drop off).map .dat) with
   | some v => some (v, H)
   | none => none
  | _ => none
 | .iadr sz x i => match i.ev env with
  | .dat (.int _ n) => if 0 ≤ n then
    match x.ev env with
    | .own id off len => match H[id]? with
     | some (.arr _ sz' _ _ _) => if n < (len : Int) ∧ sz' = sz then some (.eptr id (off + n.toNat) 0, H) else none
     | _ => none
    | .dat (.sl sz' _ xs) => match xs[n.toNat]? with
     | some d => if sz' = sz then some (.dptr d.cells, H) else none
     | none => none
    | _ => none
   else none
  | _ => none
 | .slice sz x lo hi =>
  match evOr env 0 lo, evOr env (slLen (x.ev env)) hi with
  | .dat (.int _ a), .dat (.int _ b) =>
   if 0 ≤ a ∧ a ≤ b ∧ b ≤ slLen (x.ev env) then
    match x.ev env with
    | .dat (.sl sz' fl xs) => if sz' = sz then some (.dat (.sl sz' fl ((xs.take b.toNat).drop a.toNat)), H) else none
    | .own id off len => match H[id]? with
     | some (.arr _ sz' fl _ _) => if sz' = sz ∧ a < (len : Int) then some (.own id (off + a.toNat) (b.toNat - a.toNat), H) else if sz' = sz then some (.dat (.sl sz' fl []), H) else none
     | _ => none
    | _ => none
   else none
  | _, _ => none
 | .mksl e sz _ _ zs len cap => match len.ev env, cap.ev env with
  | .dat (.int _ n), .dat (.int _ c) =>
   if 0 ≤ n ∧ n ≤ c ∧ c ≤ (LIM : Int) then match AV.toDatL [] zs with
    | some ds => if ds.length = sz ∧ 0 < sz then some (.own H.length 0 n.toNat, H ++ [.arr e sz (Dat.flats ds) false (List.replicate n.toNat (if sz = 1 then ds.headD default else .agg ds))]) else none
    | none => none
   else none
  | _, _ => none
 | .mkfn f first cap => some (.fn f (first.map (XO.ev env)) (cap.map (XO.ev env)), H)
 | .idx ag sz n x i => match i.ev env with
  | .dat (.int _ k) => if 0 ≤ k ∧ k < (n : Int) then
    match x.ev env with
    | .agg cs => match mkAgg ag (cs.drop (k.toNat * sz)) with
     | some v => some (v, H)
     | none => none
    | .dat (.agg ds) => match mkAgg ag ((ds.drop (k.toNat * sz)).map .dat) with
     | some v => some (v, H)
     | none => none
    | _ => none
   else none
  | _ => none
 | .aadr sz n x i => match i.ev env with
  | .dat (.int _ k) => if 0 ≤ k ∧ k < (n : Int) then
    match x.ev env with
    | .ptr id o => some (.ptr id (o + k.toNat * sz), H)
    | .eptr id j o => some (.eptr id j (o + k.toNat * sz), H)
    | .dptr cs => if k.toNat * sz < cs.length then some (.dptr (cs.drop (k.toNat * sz)), H) else none
    | _ => none
   else none
  | _ => none
 | .mm mx x y => match x.ev env, y.ev env with
  | .dat (.int k a), .dat (.int k' b) => if k = k' then some (.dat (.int k (if mx = true then (if a < b then b else a) else (if b < a then b else a))), H) else none
  | _, _ => none
 | .eqn k ng x => match isNil k (x.ev env) with
  | some b => some (.dat (.bool (ng != b)), H)
  | none => none
 | .cpy sz d s => match slElems H (s.ev env) with
  | some (sz', fl', ys) => if sz' = sz then copyTo H sz fl' ys (d.ev env) (s.ev env) else none
  | none => none
 | .mkifc t x => some (.ifc t (x.ev env), H)
 | .inv tbl x args => match x.ev env with
  | .ifc t v => match tblGet tbl t with
   | some f => doCall cf H f (v :: args.map (XO.ev env))
   | none => none
  | _ => none
 | .sidx x i => match x.ev env, i.ev env with
  | .dat (.str s), .dat (.int _ k) => if 0 ≤ k then (match s.data.toList[k.toNat]? with
   | some b => some (.dat (.int .u8 b.toNat), H)
   | none => none) else none
  | _, _ => none
 | .eqm ng x => match x.ev env with
  | .mref _ => some (.dat (.bool ng), H)
  | .dat .nilm => some (.dat (.bool (!ng)), H)
  | _ => none
 | .mkmap => some (.mref H.length, H ++ [.mp []])
 | .mget ok z m k => match m.ev env, k.ev env with
  | .mref id, .dat (.int .i64 n) => if keyOk n then (match H[id]? with
   | some (.mp l) => some (mgetV ok z l n, H)
   | _ => none) else none
  | .dat .nilm, .dat (.int .i64 n) => if keyOk n then some (mgetV ok z [] n, H) else none
  | _, _ => none
 | .mput m k v => match m.ev env, k.ev env with
  | .mref id, .dat (.int .i64 n) => if keyOk n then (match H[id]?, (v.ev env).toDat [] with
   | some (.mp l), some d => if l.length ≤ LIM then some (.top, H.set id (.mp ((n, d) :: l))) else none
   | _, _ => none) else none
  | _, _ => none
 | .mlen m => match m.ev env with
  | .mref id => match H[id]? with
   | some (.mp l) => some (.dat (.int .i64 (mcount l)), H)
   | _ => none
  | .dat .nilm => some (.dat (.int .i64 0), H)
  | _ => none
 | .stop => none
 | .tas t x => match x.ev env with
  | .ifc t' v => if t' = t then some (.tup [v, .dat (.bool true)], H) else none
  | _ => none
def runOp (cf : CallF) (o : XOper) (s : St) : Option St :=
 let go : Option St := match evalOp cf s.env s.H o.op with
  | some (v, H) => some ⟨match o.dst with | some d => (d, v) :: s.env | none => s.env, H⟩
  | none => none
 match o.g with
 | none => go
 | some (t, want) => match get s.env t with
  | .dat (.bool b) => if b = want then go else some ⟨match o.dst with | some d => (d, .tup []) :: s.env | none => s.env, s.H⟩
  | .tup [] => some ⟨match o.dst with | some d => (d, .tup []) :: s.env | none => s.env, s.H⟩
  | _ => none
def runOps (cf : CallF) : List XOper → St → Option St
 | [], s => some s
 | o :: r, s => match runOp cf o s with
  | some s' => runOps cf r s'
  | none => none
def runOpS (cf : CallF) (o : XOper) (st : Bool) (s : St) : Option St :=
 if st then match o.g with
  | some (t, _) => match get s.env t with
   | .dat (.bool _) => runOp cf ⟨o.dst, o.op, none⟩ s
   | .tup [] => some ⟨match o.dst with | some d => (d, .tup []) :: s.env | none => s.env, s.H⟩
   | _ => none
  | none => none
 else runOp cf o s
def runOpsS (cf : CallF) : List (XOper × Bool) → St → Option St
 | [], s => some s
 | (o, st) :: r, s => match runOpS cf o st s with
  | some s' => runOpsS cf r s'
  | none => none
inductive Ex where
 | normal
 | exit (id : Nat)
 | ret
 | thrown (e : Int)
 deriving Inhabited
def keepEnv (env : Env) (H : List Blk) : List (Nat × Option (Nat × Nat × Bool)) → Env × List Blk
 | [] => ([], H)
 | (n, none) :: r => let x := keepEnv env H r; ((n, get env n) :: x.1, x.2)
 | (n, some (e, sz, fl)) :: r => match get env n with
  | .nil _ _ _ => if sz = 0 then let x := keepEnv env H r; ((n, get env n) :: x.1, x.2) else let x := keepEnv env (H ++ [.arr e sz fl false []]) r; ((n, .own H.length 0 0) :: x.1, x.2)
  | v => let x := keepEnv env H r; ((n, v) :: x.1, x.2)
def canon (n0 : Nat) (env : Env) (H : List Blk) : Option St :=
 let ids := (reach H 4096 (AV.refsL (env.map (·.2)) ++ (List.range n0).flatMap (blkRefs H)) []).filter (fun i => decide (n0 ≤ i))
 let ok (l : List Nat) : Bool := l.all fun i => decide (i < n0) || ids.contains i
 let f (i : Nat) : Nat := if i < n0 then i else n0 + ids.idxOf i
 if ok (AV.refsL (env.map (·.2))) && (List.range n0).all (fun i => ok (blkRefs H i)) && ids.all (fun i => decide (i < H.length) && ok (blkRefs H i)) && decide (n0 ≤ H.length) then
  some ⟨env.map fun p => (p.1, p.2.ren f), (H.take n0).map (Blk.ren f) ++ ids.map fun i => (H.getD i .dead).ren f⟩
 else none
def loopAt (body : St → Option (Ex × St)) (head : St → Option St) : Nat → St → Option (Ex × St)
 | 0, _ => none
 | m + 1, s => match body s with
  | some (.normal, s2) => match head s2 with
   | some s3 => loopAt body head m s3
   | none => none
  | r => r
def headOf (n0 : Nat) (keep : List (Nat × Option (Nat × Nat × Bool))) (s : St) : Option St :=
 let x := keepEnv s.env s.H keep
 canon n0 x.1 x.2
def touched (env : Env) (H : List Blk) : XOp → List Nat × List Nat
 | .load _ a => match a.ev env with
  | .ptr id _ => ([id], [])
  | .eptr id _ _ => ([id], [])
  | _ => ([], [])
 | .store _ a x => match a.ev env with
  | .ptr id _ => ([id], [id])
  | .eptr id _ _ => (id :: AV.refsL (x.ev env).cells, id :: AV.refsL (x.ev env).cells)
  | _ => ([], [])
 | .bsl _ _ _ _ zs ps => match fillParts env zs ps with
  | some cs => (AV.refsL cs, AV.refsL cs)
  | none => ([], [])
 | .app _ _ _ _ s x => (s.ev env).refs ++ (x.ev env).refs |> fun r => (r, (s.ev env).refs)
 | .iadr _ x _ => ((x.ev env).refs, [])
 | .slice _ x _ _ => ((x.ev env).refs, [])
 | .cpy _ d s => ((d.ev env).refs ++ (s.ev env).refs, (d.ev env).refs)
 | .inv _ x args => match x.ev env with
  | .ifc _ v =>
   let a := v :: args.map (XO.ev env)
   if AV.hasPtrL a then let R := reach H 4096 (AV.refsL a) []; (R, R) else (AV.refsL a, AV.ownsL a)
  | _ => ([], [])
 | .mget _ _ m _ | .mlen m => ((m.ev env).refs, [])
 | .mput m _ _ => ((m.ev env).refs, (m.ev env).refs)
 | .call f args => match f.ev env with
  | .fn (.func _) first cap =>
   let a := first ++ args.map (XO.ev env) ++ cap
   if AV.hasPtrL a then let R := reach H 4096 (AV.refsL a) []; (R, R) else (AV.refsL a, AV.ownsL a)
  | _ => ([], [])
 | .peek _ args => (peekRefs H (args.map (XO.ev env)), [])
 | _ => ([], [])
def runTouched (env : Env) (H : List Blk) (o : XOper) : List Nat × List Nat :=
 match o.g with
 | none => touched env H o.op
 | some (t, want) => match get env t with
  | .dat (.bool b) => if b = want then touched env H o.op else ([], [])
  | _ => ([], [])
abbrev Trace := (List Nat × List Nat) × Nat × Nat
def traceOps (cf : CallF) : List XOper → St → Option (St × List Trace)
 | [], s => some (s, [])
 | o :: r, s => match runOp cf o s with
  | some s' => match traceOps cf r s' with
   | some (s2, t) => some (s2, (runTouched s.env s.H o, s.H.length, s'.H.length) :: t)
   | none => none
  | none => none
def touchedS (env : Env) (H : List Blk) (o : XOper) (st : Bool) : List Nat × List Nat := if st then touched env H o.op else runTouched env H o
def traceOpsS (cf : CallF) : List (XOper × Bool) → St → Option (St × List Trace)
 | [], s => some (s, [])
 | (o, st) :: r, s => match runOpS cf o st s with
  | some s' => match traceOpsS cf r s' with
   | some (s2, t) => some (s2, (touchedS s.env s.H o st, s.H.length, s'.H.length) :: t)
   | none => none
  | none => none
def apartT (a b : Trace) : Bool := b.1.1.all fun i => !a.1.2.contains i && !(decide (a.2.1 ≤ i) && decide (i < a.2.2))
def parOk (par : List (Nat × Nat)) (t : List Trace) : Bool :=
 par.all fun p => match t[p.1]?, t[p.2]? with
  | some a, some b => apartT a b && apartT b a
  | _, _ => false
def XCode.run (cf : CallF) (n n0 : Nat) : XCode → St → Option (Ex × St)
 | .skip, s => some (.normal, s)
 | .reg ops none keep, s => match runOps cf ops s with
  | some s' => some (.normal, ⟨restrict s'.env keep, s'.H⟩)
  | none => none
 | .reg ops (some par) keep, s => match traceOps cf ops s with
  | some (s', t) => if parOk par t then some (.normal, ⟨restrict s'.env keep, s'.H⟩) else none
  | none => none
 | .sreg ops none keep, s => match runOpsS cf ops s with
  | some s' => some (.normal, ⟨restrict s'.env keep, s'.H⟩)
  | none => none
 | .sreg ops (some par) keep, s => match traceOpsS cf ops s with
  | some (s', t) => if parOk par t then some (.normal, ⟨restrict s'.env keep, s'.H⟩) else none
  | none => none
 | .seq a b, s => match a.run cf n n0 s with
  | some (.normal, s') => b.run cf n n0 s'
  | r => r
 | .cond c a b, s => match c.ev s.env with
  | .dat (.bool t) => match t with
   | true => a.run cf n n0 s
   | false => b.run cf n n0 s
  | _ => none
 | .block id c, s => match c.run cf n n0 s with
  | some (.exit j, s') => if j = id then some (.normal, s') else some (.exit j, s')
  | r => r
 | .loop keep c, s => match headOf n0 keep s with
  | some s1 => loopAt (c.run cf n n0) (headOf n0 keep) n s1
  | none => none
 | .exit id keep, s => some (.exit id, ⟨restrict s.env keep, s.H⟩)
 | .ret keep, s => some (.ret, ⟨restrict s.env keep, s.H⟩)
 | .thr ops d x keep, s => match runOps cf ops s with
  | some s' => match x.ev s'.env with
   | .dat (.int .i64 e) => if e = 0 then some (.normal, ⟨restrict ((d, .top) :: s'.env) keep, s'.H⟩) else some (.thrown e, s')
   | _ => none
  | none => none
def evRes (env : Env) (H : List Blk) : List XRes → Option (List AV)
 | [] => some []
 | .tmp t :: r => match evRes env H r with
  | some l => some (get env t :: l)
  | none => none
 | .cell t ag :: r => match loadAt H ag (get env t), evRes env H r with
  | some v, some l => some (v :: l)
  | _, _ => none
def tupOf : List AV → AV
 | [v] => v
 | vs => .tup vs
def params : Nat → List AV → Env
 | _, [] => []
 | i, v :: r => (i, v) :: params (i + 1) r
def XFunc.plain (x : XFunc) : XFunc := { x with pure := false }
def finish (pure : Bool) (H0 : List Blk) (vs : List AV) (H : List Blk) : Option (AV × List Blk) :=
 if pure then
  if H0.isEmpty && !AV.hasPtrL vs then match AV.stripL H vs with
   | some vs' => some (tupOf vs', [])
   | none => none
  else none
 else match canon H0.length [(0, tupOf vs)] H with
  | some s' => some (get s'.env 0, s'.H)
  | none => none
def runGrd (cf : CallF) (n : Nat) (xf : XFunc) (G : XGrd) (args : List AV) : Option (AV × List Blk) :=
 match xf.body.run cf n 0 ⟨params 0 args, []⟩ with
 | some (.normal, s1) => match G.rest.run cf n s1.H.length ⟨s1.env.filter (fun p => p.1 != G.d), s1.H⟩ with
  | some (.ret, s) => match evRes s.env s.H xf.results with
   | some vs => finish true [] vs s.H
   | none => none
  | some (.thrown e, s) => match G.rec_.run cf n s.H.length ⟨params 0 (G.caps.map (get s1.env)) ++ [(G.slot, .ifc G.t (.dat (.agg [.int .i64 e])))], s.H⟩ with
   | some (.normal, s2) => match evRes s.env s2.H xf.results with
    | some vs => finish true [] vs s2.H
    | none => none
   | _ => none
  | _ => none
 | _ => none
def runFn (P : Nat → Option XFunc) (n : Nat) : Nat → CallF
 | 0, _, _, _ => none
 | d + 1, f, args, H => match P f with
  | some xf => match xf.nv with
   | some g => if H.isEmpty then g args else none
   | none => match xf.grd with
   | some G => if H.isEmpty then runGrd (runFn P n d) n xf G args else none
   | none => match xf.body.run (runFn P n d) n H.length ⟨params 0 args, H⟩ with
    | some (.exit _, _) => none
    | some (.thrown _, _) => none
    | some (_, s) => match evRes s.env s.H xf.results with
      | some vs => finish xf.pure H vs s.H
      | none => none
    | none => none
  | none => none
end Go.Ax
