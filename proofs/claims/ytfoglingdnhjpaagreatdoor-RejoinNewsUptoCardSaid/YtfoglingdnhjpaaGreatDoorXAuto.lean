/-
  Ax, text 26b (in the place of XEval): evaluation that floats what is not known into 'if', and loops.
-/
import Derived.Test.YtfoglingdnhjpaaGreatDoorXRow
namespace Go.Ax
set_option linter.all false
def seqK (r : Option (Ex × St)) (k : St → Option (Ex × St)) : Option (Ex × St) := match r with
 | some (.normal, s) => k s
 | r => r
def blockK (id : Nat) (r : Option (Ex × St)) : Option (Ex × St) := match r with
 | some (.exit j, s) => if j = id then some (.normal, s) else some (.exit j, s)
 | r => r
def csel {α : Type} (v : AV) (x y : Option α) : Option α := match v with
 | .dat (.bool t) => if t = true then x else y
 | _ => none
def gsel (v : AV) (want : Bool) (x y : Option (AV × List Blk)) : Option (AV × List Blk) := match v with
 | .dat (.bool b) => if b = want then x else y
 | .tup [] => y
 | _ => none
def putK (dst : Option Nat) (env : Env) (r : Option (AV × List Blk)) : Option St := match r with
 | some (v, H) => some ⟨match dst with | some d => (d, v) :: env | none => env, H⟩
 | none => none
def opsK (r : Option St) (k : St → Option St) : Option St := match r with
 | some s => k s
 | none => none
def keepK (keep : List Nat) (r : Option St) : Option (Ex × St) := match r with
 | some s => some (.normal, ⟨restrict s.env keep, s.H⟩)
 | none => none
def finK (rs : List XRes) (pu : Bool) (H0 : List Blk) (r : Option (Ex × St)) : Option (AV × List Blk) := match r with
 | some (.exit _, _) => none
 | some (.thrown _, _) => none
 | some (_, s) => match evRes s.env s.H rs with
  | some vs => finish pu H0 vs s.H
  | none => none
 | none => none
def thrV (d : Nat) (keep : List Nat) (s : St) : AV → Option (Ex × St)
 | .dat (.int .i64 e) => if e = 0 then some (.normal, ⟨restrict ((d, .top) :: s.env) keep, s.H⟩) else some (.thrown e, s)
 | _ => none
def thrK (d : Nat) (x : XO) (keep : List Nat) : Option St → Option (Ex × St)
 | some s => thrV d keep s (x.ev s.env)
 | none => none
def normK (r : Option (Ex × St)) (k : St → Option (AV × List Blk)) : Option (AV × List Blk) := match r with
 | some (.normal, s) => k s
 | _ => none
def endK (r : Option (Ex × St)) (k : St → Option (AV × List Blk)) (k2 : Int → St → Option (AV × List Blk)) : Option (AV × List Blk) := match r with
 | some (.ret, s) => k s
 | some (.thrown e, s) => k2 e s
 | _ => none
def resK (rs : List XRes) (env : Env) (H : List Blk) : Option (AV × List Blk) := match evRes env H rs with
 | some vs => finish true [] vs H
 | none => none
def bsel (v : AV) (x y : Option St) : Option St := match v with
 | .dat (.bool _) => x
 | .tup [] => y
 | _ => none
section
variable {c : Prop} [Decidable c]
@[simp] theorem bsel_bool (b : Bool) (x y : Option St) : bsel (.dat (.bool b)) x y = x := rfl
@[simp] theorem bsel_skip (x y : Option St) : bsel (.tup []) x y = y := rfl
@[simp] theorem seqK_normal (s : St) (k) : seqK (some (.normal, s)) k = k s := rfl
@[simp] theorem seqK_exit (i : Nat) (s : St) (k) : seqK (some (.exit i, s)) k = some (.exit i, s) := rfl
@[simp] theorem seqK_ret (s : St) (k) : seqK (some (.ret, s)) k = some (.ret, s) := rfl
@[simp] theorem seqK_none (k) : seqK none k = none := rfl
@[simp] theorem seqK_ite (x y : Option (Ex × St)) (k) : seqK (if c then x else y) k = if c then seqK x k else seqK y k := by split <;> rfl
@[simp] theorem blockK_normal (i : Nat) (s : St) : blockK i (some (.normal, s)) = some (.normal, s) := rfl
@[simp] theorem blockK_exit (i j : Nat) (s : St) : blockK i (some (.exit j, s)) = if j = i then some (.normal, s) else some (.exit j, s) := rfl
@[simp] theorem blockK_ret (i : Nat) (s : St) : blockK i (some (.ret, s)) = some (.ret, s) := rfl
@[simp] theorem blockK_none (i : Nat) : blockK i none = none := rfl
@[simp] theorem blockK_ite (i : Nat) (x y : Option (Ex × St)) : blockK i (if c then x else y) = if c then blockK i x else blockK i y := by split <;> rfl
@[simp] theorem csel_bool {α : Type} (b : Bool) (x y : Option α) : csel (.dat (.bool b)) x y = if b = true then x else y := rfl
@[simp] theorem csel_ite {α : Type} (u v : AV) (x y : Option α) : csel (if c then u else v) x y = if c then csel u x y else csel v x y := by split <;> rfl
@[simp] theorem gsel_bool (b want : Bool) (x y : Option (AV × List Blk)) : gsel (.dat (.bool b)) want x y = if b = want then x else y := rfl
@[simp] theorem gsel_skip (want : Bool) (x y : Option (AV × List Blk)) : gsel (.tup []) want x y = y := rfl
@[simp] theorem gsel_ite (u v : AV) (want : Bool) (x y : Option (AV × List Blk)) : gsel (if c then u else v) want x y = if c then gsel u want x y else gsel v want x y := by split <;> rfl
@[simp] theorem putK_some (d : Nat) (env : Env) (v : AV) (H : List Blk) : putK (some d) env (some (v, H)) = some ⟨(d, v) :: env, H⟩ := rfl
@[simp] theorem putK_no (env : Env) (v : AV) (H : List Blk) : putK none env (some (v, H)) = some ⟨env, H⟩ := rfl
@[simp] theorem putK_none (d : Option Nat) (env : Env) : putK d env none = none := rfl
@[simp] theorem putK_ite (d : Option Nat) (env : Env) (x y : Option (AV × List Blk)) : putK d env (if c then x else y) = if c then putK d env x else putK d env y := by split <;> rfl
@[simp] theorem opsK_some (s : St) (k) : opsK (some s) k = k s := rfl
@[simp] theorem opsK_none (k) : opsK none k = none := rfl
@[simp] theorem opsK_ite (x y : Option St) (k) : opsK (if c then x else y) k = if c then opsK x k else opsK y k := by split <;> rfl
@[simp] theorem seqK_thrown (e : Int) (s : St) (k) : seqK (some (.thrown e, s)) k = some (.thrown e, s) := rfl
@[simp] theorem blockK_thrown (i : Nat) (e : Int) (s : St) : blockK i (some (.thrown e, s)) = some (.thrown e, s) := rfl
@[simp] theorem thrV_int (d : Nat) (keep : List Nat) (s : St) (e : Int) : thrV d keep s (.dat (.int .i64 e)) = if e = 0 then some (.normal, ⟨restrict ((d, .top) :: s.env) keep, s.H⟩) else some (.thrown e, s) := rfl
@[simp] theorem thrK_some (d : Nat) (x : XO) (keep : List Nat) (s : St) : thrK d x keep (some s) = thrV d keep s (x.ev s.env) := rfl
@[simp] theorem thrK_none (d : Nat) (x : XO) (keep : List Nat) : thrK d x keep none = none := rfl
@[simp] theorem thrK_ite (d : Nat) (x : XO) (keep : List Nat) (a b : Option St) : thrK d x keep (if c then a else b) = if c then thrK d x keep a else thrK d x keep b := by split <;> rfl
@[simp] theorem normK_normal (s : St) (k) : normK (some (.normal, s)) k = k s := rfl
@[simp] theorem normK_none (k) : normK none k = none := rfl
@[simp] theorem normK_ite (x y : Option (Ex × St)) (k) : normK (if c then x else y) k = if c then normK x k else normK y k := by split <;> rfl
@[simp] theorem endK_ret (s : St) (k k2) : endK (some (.ret, s)) k k2 = k s := rfl
@[simp] theorem endK_thrown (e : Int) (s : St) (k k2) : endK (some (.thrown e, s)) k k2 = k2 e s := rfl
@[simp] theorem endK_none (k k2) : endK none k k2 = none := rfl
@[simp] theorem endK_ite (x y : Option (Ex × St)) (k k2) : endK (if c then x else y) k k2 = if c then endK x k k2 else endK y k k2 := by split <;> rfl
@[simp] theorem keepK_some (keep : List Nat) (env : Env) (H : List Blk) : keepK keep (some ⟨env, H⟩) = some (.normal, ⟨restrict env keep, H⟩) := rfl
@[simp] theorem keepK_none (keep : List Nat) : keepK keep none = none := rfl
@[simp] theorem keepK_ite (keep : List Nat) (x y : Option St) : keepK keep (if c then x else y) = if c then keepK keep x else keepK keep y := by split <;> rfl
@[simp] theorem finK_ite (rs : List XRes) (pu : Bool) (H0 : List Blk) (x y : Option (Ex × St)) : finK rs pu H0 (if c then x else y) = if c then finK rs pu H0 x else finK rs pu H0 y := by split <;> rfl
@[simp] theorem finK_none (rs : List XRes) (pu : Bool) (H0 : List Blk) : finK rs pu H0 none = none := rfl
@[simp] theorem finK_normal (rs : List XRes) (pu : Bool) (H0 : List Blk) (s : St) : finK rs pu H0 (some (.normal, s)) = match evRes s.env s.H rs with
  | some vs => finish pu H0 vs s.H
  | none => none := rfl
@[simp] theorem finK_ret (rs : List XRes) (pu : Bool) (H0 : List Blk) (s : St) : finK rs pu H0 (some (.ret, s)) = match evRes s.env s.H rs with
  | some vs => finish pu H0 vs s.H
  | none => none := rfl
@[simp] theorem ite_same_heap_b (v w : Bool) (H : List Blk) : (if c then some (AV.dat (.bool v), H) else some (AV.dat (.bool w), H)) = some (AV.dat (.bool (if c then v else w)), H) := by split <;> rfl
@[simp] theorem ite_same_heap_i (k : IntKind) (v w : Int) (H : List Blk) : (if c then some (AV.dat (.int k v), H) else some (AV.dat (.int k w), H)) = some (AV.dat (.int k (if c then v else w)), H) := by split <;> rfl
@[simp] theorem ite_bool (x y : Bool) : (if c then AV.dat (.bool x) else AV.dat (.bool y)) = AV.dat (.bool (if c then x else y)) := by split <;> rfl
@[simp] theorem ite_int (k : IntKind) (x y : Int) : (if c then AV.dat (.int k x) else AV.dat (.int k y)) = AV.dat (.int k (if c then x else y)) := by split <;> rfl
end
variable {cf : CallF} {n n0 : Nat}
@[simp] theorem run_skip (s : St) : XCode.run cf n n0 .skip s = some (.normal, s) := rfl
@[simp] theorem run_reg (ops : List XOper) (keep : List Nat) (s : St) : XCode.run cf n n0 (.reg ops none keep) s = keepK keep (runOps cf ops s) := by
 simp only [XCode.run]; cases runOps cf ops s <;> rfl
@[simp] theorem run_drawn (ops : List XOper) (par : List (Nat × Nat)) (keep : List Nat) (s : St) : XCode.run cf n n0 (.reg ops (some par) keep) s = match traceOps cf ops s with
  | some (s', t) => if parOk par t then some (.normal, ⟨restrict s'.env keep, s'.H⟩) else none
  | none => none := rfl
@[simp] theorem run_sreg (ops : List (XOper × Bool)) (keep : List Nat) (s : St) : XCode.run cf n n0 (.sreg ops none keep) s = keepK keep (runOpsS cf ops s) := by
 simp only [XCode.run]; cases runOpsS cf ops s <;> rfl
@[simp] theorem run_sdrawn (ops : List (XOper × Bool)) (par : List (Nat × Nat)) (keep : List Nat) (s : St) : XCode.run cf n n0 (.sreg ops (some par) keep) s = match traceOpsS cf ops s with
  | some (s', t) => if parOk par t then some (.normal, ⟨restrict s'.env keep, s'.H⟩) else none
  | none => none := rfl
@[simp] theorem runOpsS_nil (s : St) : runOpsS cf [] s = some s := rfl
@[simp] theorem runOpsS_cons (o : XOper) (b : Bool) (r : List (XOper × Bool)) (s : St) : runOpsS cf ((o, b) :: r) s = opsK (runOpS cf o b s) (runOpsS cf r) := by
 simp only [runOpsS]
 cases runOpS cf o b s <;> rfl
@[simp] theorem runOpS_false (o : XOper) (s : St) : runOpS cf o false s = runOp cf o s := rfl
@[simp] theorem runOpS_true (d : Option Nat) (op : XOp) (t : Nat) (w : Bool) (s : St) : runOpS cf ⟨d, op, some (t, w)⟩ true s = bsel (get s.env t) (runOp cf ⟨d, op, none⟩ s) (putK d s.env (some (.tup [], s.H))) := by
 simp only [runOpS, if_true]
 cases d <;> rfl
@[simp] theorem run_seq (a b : XCode) (s : St) : XCode.run cf n n0 (.seq a b) s = seqK (a.run cf n n0 s) (b.run cf n n0) := rfl
@[simp] theorem run_cond (x : XO) (a b : XCode) (s : St) : XCode.run cf n n0 (.cond x a b) s = csel (x.ev s.env) (a.run cf n n0 s) (b.run cf n n0 s) := by
 simp only [XCode.run]
 cases x.ev s.env with
 | dat d => cases d with
  | bool t => cases t <;> rfl
  | _ => rfl
 | _ => rfl
@[simp] theorem run_block (id : Nat) (c : XCode) (s : St) : XCode.run cf n n0 (.block id c) s = blockK id (c.run cf n n0 s) := rfl
@[simp] theorem run_loop (k : List (Nat × Option (Nat × Nat × Bool))) (c : XCode) (s : St) : XCode.run cf n n0 (.loop k c) s = match headOf n0 k s with
  | some s1 => loopAt (c.run cf n n0) (headOf n0 k) n s1
  | none => none := rfl
@[simp] theorem run_exit (id : Nat) (keep : List Nat) (s : St) : XCode.run cf n n0 (.exit id keep) s = some (.exit id, ⟨restrict s.env keep, s.H⟩) := rfl
@[simp] theorem run_ret (keep : List Nat) (s : St) : XCode.run cf n n0 (.ret keep) s = some (.ret, ⟨restrict s.env keep, s.H⟩) := rfl
@[simp] theorem run_thr (ops : List XOper) (d : Nat) (x : XO) (keep : List Nat) (s : St) : XCode.run cf n n0 (.thr ops d x keep) s = thrK d x keep (runOps cf ops s) := by
 simp only [XCode.run]
 cases runOps cf ops s with
 | none => rfl
 | some s1 =>
  simp only [thrK_some]
  generalize x.ev s1.env = v
  unfold thrV
  split <;> simp_all
theorem runGrd_eq (xf : XFunc) (G : XGrd) (args : List AV) : runGrd cf n xf G args = normK (xf.body.run cf n 0 ⟨params 0 args, []⟩) fun s1 => endK (G.rest.run cf n s1.H.length ⟨s1.env.filter (fun p => p.1 != G.d), s1.H⟩) (fun s => resK xf.results s.env s.H)
  fun e s => normK (G.rec_.run cf n s.H.length ⟨params 0 (G.caps.map (get s1.env)) ++ [(G.slot, .ifc G.t (.dat (.agg [.int .i64 e])))], s.H⟩) fun s2 => resK xf.results s.env s2.H := by
 unfold runGrd normK endK resK
 rfl
attribute [simp] resK
@[simp] theorem runOps_nil (s : St) : runOps cf [] s = some s := rfl
@[simp] theorem runOps_cons (o : XOper) (r : List XOper) (s : St) : runOps cf (o :: r) s = opsK (runOp cf o s) (runOps cf r) := by
 simp only [runOps]
 cases runOp cf o s <;> rfl
@[simp] theorem runOp_free (d : Option Nat) (op : XOp) (s : St) : runOp cf ⟨d, op, none⟩ s = putK d s.env (evalOp cf s.env s.H op) := by
 simp only [runOp]
 cases evalOp cf s.env s.H op with
 | none => rfl
 | some p => rfl
@[simp] theorem runOp_guard (d : Option Nat) (op : XOp) (t : Nat) (want : Bool) (s : St) : runOp cf ⟨d, op, some (t, want)⟩ s = putK d s.env (gsel (get s.env t) want (evalOp cf s.env s.H op) (some (.tup [], s.H))) := by
 have h : ∀ v : AV, (match v with
   | .dat (.bool b) => if b = want then (match evalOp cf s.env s.H op with
     | some (v, H) => some (St.mk (match d with | some d => (d, v) :: s.env | none => s.env) H)
     | none => none) else some ⟨match d with | some d => (d, .tup []) :: s.env | none => s.env, s.H⟩
   | .tup [] => some ⟨match d with | some d => (d, .tup []) :: s.env | none => s.env, s.H⟩
   | _ => none) = putK d s.env (gsel v want (evalOp cf s.env s.H op) (some (.tup [], s.H))) := by
  intro v
  have hb : ∀ b : Bool, (if b = want then (match evalOp cf s.env s.H op with
     | some (v, H) => some (St.mk (match d with | some d => (d, v) :: s.env | none => s.env) H)
     | none => none) else some ⟨match d with | some d => (d, .tup []) :: s.env | none => s.env, s.H⟩) = putK d s.env (if b = want then evalOp cf s.env s.H op else some (.tup [], s.H)) := by
   intro b
   split
   ·cases evalOp cf s.env s.H op <;> rfl
   ·rfl
  match v with
  | .dat (.bool b) => exact hb b
  | .tup [] => rfl
  | .dat (.int _ _) | .dat (.str _) | .dat (.sl _ _ _) | .dat (.agg _) | .dat .nilp | .dat .nilf | .dat .nili | .dat .nilm => rfl
  | .tup (_ :: _) | .ptr _ _ | .eptr _ _ _ | .dptr _ | .mref _ | .own _ _ _ | .nil _ _ _ | .agg _ | .ifc _ _ | .fn _ _ _ | .top => rfl
 exact h (get s.env t)
theorem runFn_succ (T : Nat → Option XFunc) (d f : Nat) (args : List AV) (H : List Blk) : runFn T n (d + 1) f args H = match T f with
  | some xf => (match xf.nv with
   | some g => if H.isEmpty = true then g args else none
   | none => (match xf.grd with
    | some G => if H.isEmpty = true then runGrd (runFn T n d) n xf G args else none
    | none => finK xf.results xf.pure H (xf.body.run (runFn T n d) n H.length ⟨params 0 args, H⟩)))
  | none => none := by
 rw [runFn]
 cases T f with
 | none => rfl
 | some xf =>
  simp only [finK]
  cases xf.nv with
  | some g => rfl
  | none =>
  simp only
  cases xf.grd with
  | some G => rfl
  | none =>
  simp only
  cases xf.body.run (runFn T n d) n H.length ⟨params 0 args, H⟩ with
  | none => rfl
  | some p => obtain ⟨e, s⟩ := p; cases e <;> rfl
@[simp high] theorem evalOp_pick (env : Env) (H : List Blk) (c a b : XO) : evalOp cf env H (.pick c a b) = csel (c.ev env) (some (a.ev env, H)) (some (b.ev env, H)) := by
 simp only [evalOp]
 cases c.ev env with
 | dat d => cases d with
  | bool t => cases t <;> rfl
  | _ => rfl
 | _ => rfl
attribute [simp] params get XO.ev bin intBin evRes tupOf canon reach AV.refs AV.refsL AV.ren AV.renL Blk.ren Blk.refs headOf keepEnv traceOps runTouched parOk apartT loadAt mkAgg Dat.cells AV.cells cellsEq leafEq restrict
 storeAt setCells appendTo slElems AV.toDat AV.toDatL blkRefs closedUnder shown backTo merge freeze1 AV.owns AV.ownsL AV.strip AV.stripL allDat mkAggV AV.hasPtr AV.hasPtrL AV.peek AV.peekL peekRefs bareLeaf doCall slLen evOr fillParts chunks Dat.flat Dat.flats AV.one AV.isAgg AV.safe AV.safeL flatArr
attribute [simp] touched copyTo finish isNil traceOpsS touchedS
attribute [simp] evalOp.eq_1 evalOp.eq_3 evalOp.eq_4 evalOp.eq_5 evalOp.eq_6 evalOp.eq_7 evalOp.eq_8 evalOp.eq_9 evalOp.eq_10 evalOp.eq_11 evalOp.eq_12 evalOp.eq_13 evalOp.eq_14 evalOp.eq_15 evalOp.eq_16 evalOp.eq_17 evalOp.eq_18 evalOp.eq_19 evalOp.eq_20 evalOp.eq_21 evalOp.eq_22 evalOp.eq_23 evalOp.eq_24 evalOp.eq_25 evalOp.eq_26 evalOp.eq_27 evalOp.eq_28 evalOp.eq_29 evalOp.eq_30 evalOp.eq_31 evalOp.eq_32 evalOp.eq_33 evalOp.eq_34 evalOp.eq_35 evalOp.eq_36 evalOp.eq_37 evalOp.eq_38 evalOp.eq_39 evalOp.eq_40
attribute [simp] tblGet
attribute [simp] mgetV mlook
@[simp] theorem keyOk_iff (n : Int) : (keyOk n = true) ↔ (-9223372036854775808 ≤ n ∧ n ≤ 9223372036854775807) := by simp [keyOk]
@[simp] theorem int_beq (a b : Int) : (a == b) = decide (a = b) := by
 by_cases h : a = b <;> simp [h]
@[simp] theorem str_beq (a b : ByteArray) : (a == b) = decide (a = b) := by
 obtain ⟨⟨x⟩⟩ := a
 obtain ⟨⟨y⟩⟩ := b
 show ((⟨x⟩ : Array UInt8) == ⟨y⟩) = _
 by_cases h : x = y <;> simp [h]
@[simp] theorem str_nil (s : ByteArray) : s = ⟨#[]⟩ ↔ s = ByteArray.empty := Iff.rfl
@[simp] theorem str_pos (s : ByteArray) : 0 < s.size ↔ ¬ s = ByteArray.empty := by
 rw [Nat.pos_iff_ne_zero]
 simp
@[simp] theorem le_lim {k : Nat} (h : k ≤ 4294967296) : k ≤ LIM := h
@[simp] theorem le_lim_int {k : Int} (h : k ≤ 4294967296) : k ≤ (LIM : Int) := h
attribute [simp] freeze_nil List.idxOf_cons List.range_succ
@[simp] theorem freeze_empty (ids : List Nat) : freeze ids [] = [] := rfl
theorem freeze_unfold (ids : List Nat) (H : List Blk) : freeze ids H = H.mapIdx fun i b => if ids.contains i then freeze1 b else b := rfl
@[simp] theorem freeze_cons (i : Nat) (r : List Nat) (b : Blk) (H : List Blk) : freeze (i :: r) (b :: H) = (b :: H).mapIdx fun j b => if (i :: r).contains j then freeze1 b else b := rfl
@[simp] theorem mapIdx_same {α : Type} (l : List α) : l.mapIdx (fun _ b => b) = l := by
 refine List.ext_getElem (by simp) fun i h1 h2 => by simp
theorem wrap_i (i : Nat) (h : i < 2^40) : IntKind.wrap .i64 ((i : Int) + 1) = ((i + 1 : Nat) : Int) := by
 simp [IntKind.wrap, IntKind.bits, IntKind.signed]; omega
def loopL {α β ρ : Type} (f : α → β → α ⊕ ρ) (fin : α → ρ) : List β → α → ρ
 | [], a => fin a
 | x :: r, a => match f a x with
  | .inl a' => loopL f fin r a'
  | .inr e => e
theorem loop_list {α β : Type} {body : St → Option (Ex × St)} {head : St → Option St} (S : Nat → α → St) (I : Nat → α → Prop) (l : List β) (f : α → β → α ⊕ (Ex × St)) (fin : α → Ex × St)
  (step : ∀ i a (h : i < l.length), I i a → match f a l[i] with
   | .inl a' => I (i + 1) a' ∧ ∃ s2, body (S i a) = some (.normal, s2) ∧ head s2 = some (S (i + 1) a')
   | .inr e => body (S i a) = some e ∧ ∀ s, e ≠ (.normal, s))
  (done : ∀ a, I l.length a → body (S l.length a) = some (fin a) ∧ ∀ s, fin a ≠ (.normal, s)) :
  ∀ (k m i : Nat) (a : α), i + k = l.length → k < m → I i a → loopAt body head m (S i a) = some (loopL f fin (l.drop i) a)
 | 0, m + 1, i, a, h, _, hI => by
  have : i = l.length := by omega
  subst this
  obtain ⟨h1, h2⟩ := done a hI
  rw [List.drop_length]
  simp only [loopAt, h1, loopL]
  split
  ·rename_i s2 h3; injection h3 with h3; exact absurd h3 (h2 _)
  ·rfl
 | k + 1, m + 1, i, a, h, hm, hI => by
  have hi : i < l.length := by omega
  have h1 := step i a hi hI
  rw [List.drop_eq_getElem_cons hi]
  simp only [loopL]
  cases hf : f a l[i] with
  | inl a' =>
   rw [hf] at h1
   obtain ⟨hI', s2, h2, h3⟩ := h1
   have e : loopAt body head (m + 1) (S i a) = loopAt body head m (S (i + 1) a') := by simp only [loopAt, h2, h3]
   rw [e]
   exact loop_list S I l f fin step done k m (i + 1) a' (by omega) (by omega) hI'
  | inr e =>
   rw [hf] at h1
   obtain ⟨h2, h3⟩ := h1
   simp only [loopAt, h2]
   split
   ·rename_i s2 h4; injection h4 with h4; exact absurd h4 (h3 _)
   ·rfl
end Go.Ax
