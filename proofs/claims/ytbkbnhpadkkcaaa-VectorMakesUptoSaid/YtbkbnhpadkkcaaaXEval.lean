/-
  Ax, text 26: for the evaluation of laws: what unfolds by itself, loops, numbers.
-/
import Derived.Test.YtbkbnhpadkkcaaaXRow
namespace Go.Ax

attribute [simp] XCode.run runOps runOp params get XO.ev bin intBin evRes tupOf canon reach AV.refs AV.refsL AV.ren AV.renL Blk.ren Blk.refs headOf keepEnv traceOps runTouched parOk apartT loadAt mkAgg Dat.cells AV.cells cellsEq leafEq restrict
  storeAt setCells appendTo slElems AV.toDat AV.toDatL blkRefs closedUnder shown backTo merge freeze1 AV.owns AV.ownsL AV.strip AV.stripL allDat mkAggV AV.hasPtr AV.hasPtrL doCall slLen evOr fillParts chunks Dat.flat Dat.flats AV.one AV.isAgg AV.safe AV.safeL flatArr
attribute [simp] evalOp touched

@[simp] theorem beq_no {a b : Int} (h : ¬ a = b) : (a == b) = false := by simp [h]
@[simp] theorem le_lim {k : Nat} (h : k ≤ 4294967296) : k ≤ LIM := h
@[simp] theorem le_lim_int {k : Int} (h : k ≤ 4294967296) : k ≤ (LIM : Int) := h
attribute [simp] freeze_nil List.idxOf_cons List.range_succ
@[simp] theorem freeze_empty (ids : List Nat) : freeze ids [] = [] := rfl
theorem freeze_unfold (ids : List Nat) (H : List Blk) : freeze ids H = H.mapIdx fun i b => if ids.contains i then freeze1 b else b := rfl
@[simp] theorem freeze_cons (i : Nat) (r : List Nat) (b : Blk) (H : List Blk) : freeze (i :: r) (b :: H) = (b :: H).mapIdx fun j b => if (i :: r).contains j then freeze1 b else b := rfl
@[simp] theorem mapIdx_same {α : Type} (l : List α) : l.mapIdx (fun _ b => b) = l := by
  refine List.ext_getElem (by simp) fun i h1 h2 => by simp

section
variable {cf : CallF} {n n0 m : Nat} {b : XCode} {k : List (Nat × Option (Nat × Nat × Bool))} {s s2 s3 : St} {e : Ex}
theorem loop_step (h : XCode.run cf n n0 b s = some (.normal, s2)) (h2 : headOf n0 k s2 = some s3) :
    loopAt (XCode.run cf n n0 b) (headOf n0 k) (m + 1) s = loopAt (XCode.run cf n n0 b) (headOf n0 k) m s3 := by
  simp only [loopAt, h, h2]
theorem loop_exit {j : Nat} (h : XCode.run cf n n0 b s = some (.exit j, s2)) :
    loopAt (XCode.run cf n n0 b) (headOf n0 k) (m + 1) s = some (.exit j, s2) := by
  simp only [loopAt, h]
theorem loop_ret (h : XCode.run cf n n0 b s = some (.ret, s2)) :
    loopAt (XCode.run cf n n0 b) (headOf n0 k) (m + 1) s = some (.ret, s2) := by
  simp only [loopAt, h]
end

theorem wrap_i (i : Nat) (h : i < 2^40) : IntKind.wrap .i64 ((i : Int) + 1) = ((i + 1 : Nat) : Int) := by
  simp [IntKind.wrap, IntKind.bits, IntKind.signed]; omega

end Go.Ax
