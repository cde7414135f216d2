/-
  Ax, text 8: structs and arrays built.
-/
import Derived.Test.YtponcchkfmbicaaXPure4
namespace Go.Ax
set_option linter.unusedSectionVars false
open Go.RowKit

variable [Gls]
variable {P : Program} {C : Ctx} {w : World} {a : Act} {env : Env} {H H' : List Blk} {cf : CallF} {av : AV} {o : Oper} {xo : XOp} {Hp : Nat → Option Blk}

theorem foldl_set (off : Nat) : ∀ (vs : List Value) (k : Nat) (cs : Array Value), off + k + vs.length ≤ cs.size →
    ((vs.zipIdx k).foldl (fun (cs : Array Value) (p : Value × Nat) => cs.setIfInBounds (off + p.2) p.1) cs).toList = cs.toList.take (off + k) ++ vs ++ cs.toList.drop (off + k + vs.length)
  | [], k, cs, h => by simp
  | v :: vs, k, cs, h => by
    simp only [List.length_cons] at h
    rw [List.zipIdx_cons, List.foldl_cons, foldl_set off vs (k + 1) _ (by simp; omega)]
    simp only [Array.toList_setIfInBounds]
    have hlt : off + k < cs.toList.length := by simp; omega
    rw [List.take_set, List.drop_set]
    rw [if_pos (by omega)]
    rw [show off + (k + 1) = (off + k) + 1 by omega, List.take_succ_eq_append_getElem hlt]
    have e1 : (cs.toList.take (off + k) ++ [cs.toList[off + k]]).set (off + k) v = cs.toList.take (off + k) ++ [v] := by
      rw [List.set_append_right _ _ (by rw [List.length_take]; omega)]
      have : off + k - (List.take (off + k) cs.toList).length = 0 := by rw [List.length_take]; omega
      rw [this]; rfl
    rw [e1]
    simp only [List.length_cons, List.append_assoc, List.cons_append, List.nil_append]
    rw [show off + k + 1 + vs.length = off + k + (vs.length + 1) by omega]

theorem fold_cells (off : Nat) (v : Value) (cs : Array Value) (h : off + v.cells.size ≤ cs.size) :
    (v.cells.zipIdx.foldl (fun (cs : Array Value) (p : Value × Nat) => cs.setIfInBounds (off + p.2) p.1) cs).toList = cs.toList.take off ++ v.cells.toList ++ cs.toList.drop (off + v.cells.size) := by
  rw [← Array.foldl_toList]
  have := foldl_set off v.cells.toList 0 cs (by simpa using h)
  simpa using this

inductive F2 {α β : Type} (R : α → β → Prop) : List α → List β → Prop
  | nil : F2 R [] []
  | cons {x : α} {y : β} {l : List α} {m : List β} (h : R x y) (k : F2 R l m) : F2 R (x :: l) (y :: m)
theorem F2.imp {α β : Type} {R S : α → β → Prop} {l : List α} {m : List β} (h : F2 R l m) (k : ∀ x y, R x y → S x y) : F2 S l m := by
  induction h with
  | nil => exact .nil
  | cons h _ ih => exact .cons (k _ _ h) ih
theorem F2.length {α β : Type} {R : α → β → Prop} {l : List α} {m : List β} (h : F2 R l m) : l.length = m.length := by
  induction h with
  | nil => rfl
  | cons _ _ ih => simp [ih]

/-- A part and its place. -/
def PartOk (a : Act) (C : Ctx) (w : World) (env : Env) (pl : Nat → Option (Nat × Nat)) (p : Nat × Operand) (q : Nat × Nat × XO) : Prop :=
  pl p.1 = some (q.1, q.2.1) ∧ RV C w (a.eval p.2) (q.2.2.ev env)

theorem fill_sound {pl : Nat → Option (Nat × Nat)} : ∀ {parts : List (Nat × Operand)} {ps : List (Nat × Nat × XO)} {us : Array Value} {zs cs : List AV}, F2 (PartOk a C w env pl) parts ps →
    RL C w us.toList zs → fillParts env zs ps = some cs → (∀ u ∈ us.toList, u.oneCell' = true) →
    ∃ us', Instr.fill pl us (parts.map fun p => (p.1, a.eval p.2)) = some us' ∧ RL C w us'.toList cs ∧ (∀ u ∈ us'.toList, u.oneCell' = true) ∧ us'.size = us.size
  | [], [], us, zs, cs, _, hR, h, h1 => by
    simp only [fillParts, Option.some.injEq] at h; subst h
    exact ⟨us, rfl, hR, h1, rfl⟩
  | p :: parts, q :: ps, us, zs, cs, hf, hR, h, h1 => by
    obtain ⟨off, size, x⟩ := q
    cases hf with
    | cons hp hrest =>
      obtain ⟨hp1, hp2⟩ := hp
      unfold fillParts at h
      simp only at h
      split at h <;> first | (cases h; done) | skip
      rename_i hcond
      obtain ⟨hsize, hone⟩ := hcond
      split at h <;> first | (cases h; done) | skip
      rename_i cs' hset
      obtain ⟨hcl, hu1⟩ := hp2.cells_one hone
      simp only [setCells] at hset
      split at hset <;> first | (cases hset; done) | skip
      rename_i hle
      injection hset with hset; subst hset
      have hvs : (a.eval p.2).cells.size = size := by
        have := hcl.1; simp only [Array.length_toList] at this; rw [this, hsize]
      have hus : us.size = zs.length := by simpa using hR.1
      have hle' : off + (a.eval p.2).cells.size ≤ us.size := by rw [hvs, hus]; omega
      have hfold := fold_cells off (a.eval p.2) us hle'
      have hR' : RL C w ((a.eval p.2).cells.zipIdx.foldl (fun (cs : Array Value) (p : Value × Nat) => cs.setIfInBounds (off + p.2) p.1) us).toList (zs.take off ++ (x.ev env).cells ++ zs.drop (off + (x.ev env).cells.length)) := by
        rw [hfold, hvs, hsize]
        exact ((hR.take off).append hcl).append (hR.drop _)
      have h1' : ∀ u ∈ ((a.eval p.2).cells.zipIdx.foldl (fun (cs : Array Value) (p : Value × Nat) => cs.setIfInBounds (off + p.2) p.1) us).toList, u.oneCell' = true := by
        rw [hfold]
        intro u hu
        rcases List.mem_append.1 hu with hu | hu
        · rcases List.mem_append.1 hu with hu | hu
          · exact h1 u (List.mem_of_mem_take hu)
          · exact hu1 u hu
        · exact h1 u (List.mem_of_mem_drop hu)
      obtain ⟨us', e1, e2, e3, e4⟩ := fill_sound hrest hR' h h1'
      refine ⟨us', ?_, e2, e3, ?_⟩
      · rw [List.map_cons, Instr.fill]
        simp only [hp1]
        rw [if_neg (by simp [hvs]; omega)]
        exact e1
      · rw [e4]
        have := congrArg List.length hfold
        simp only [Array.length_toList, List.length_append, List.length_take, List.length_drop] at this
        omega

theorem listM_forall {α β : Type} {f : α → Option β} : ∀ {l : List α} {m : List β}, listM f l = some m → F2 (fun x y => f x = some y) l m
  | [], m, h => by simp only [listM, Option.some.injEq] at h; subst h; exact .nil
  | x :: l, m, h => by
    simp only [listM] at h
    split at h <;> first | (cases h; done) | skip
    rename_i y hy
    split at h <;> first | (cases h; done) | skip
    rename_i r hr
    injection h with h; subst h
    exact .cons hy (listM_forall hr)

theorem zeroC_sound {t : TypeId} {z : List AV} (h : zeroC P t = some z) : ∃ i v, P.info? t = some i ∧ i.zero = some v ∧ RL C w v.cells.toList z ∧ ∀ u ∈ v.cells.toList, u.oneCell' = true := by
  unfold zeroC at h
  split at h <;> first | (cases h; done) | skip
  rename_i i hi
  split at h <;> first | (cases h; done) | skip
  rename_i v l hz hl
  obtain ⟨h1, h2⟩ := cells_sound (C := C) (w := w) h
  refine ⟨i, v, hi, hz, ⟨h1.symm, fun j u x hu hx => (h2 j u x hu hx).1⟩, fun u hu => ?_⟩
  obtain ⟨j, hj, rfl⟩ := List.mem_iff_getElem.1 hu
  exact (h2 j _ _ (List.getElem?_eq_getElem hj) (List.getElem?_eq_getElem (by omega : j < z.length))).2.1

theorem run_zero {t : TypeId} {i : TypeInfo} {v : Value} (hi : P.info? t = some i) (hz : i.zero = some v) (w : World) : (zeroValue t).run P w = .ok v w := by
  simp [zeroValue, run_typeInfo w hi, hz]

theorem run_mapM_places (w : World) : ∀ (l : List Field), (∀ f ∈ l, (P.info? f.type).isSome = true) →
    (l.mapM fun (f : Field) => (do pure (f.offset, ← sizeOf f.type) : Sem (Nat × Nat))).run P w = .ok (l.map fun (f : Field) => (f.offset, P.cellsOf f.type)) w
  | [], _ => by simp
  | f :: l, h => by
    obtain ⟨i, hi⟩ := Option.isSome_iff_exists.1 (h f List.mem_cons_self)
    have ih := run_mapM_places w l (fun g hg => h g (List.mem_cons_of_mem _ hg))
    rw [List.mapM_cons]
    simp only [Sem.run_bind, run_sizeOf w hi, Result.andThen_ok, Sem.run_pure, ih, List.map_cons]

theorem build_sound {t : TypeId} {ps : Array (Nat × Operand)} (hop : o.op = .build t ps) (ht : opT P o = some xo) (he : evalOp cf env H xo = some (av, H')) (hE : EnvR C w a env) : H' = H ∧ PureOk P C w a o av := by
  simp only [opT, hop] at ht
  split at ht <;> first | (cases ht; done) | skip
  · rename_i fs hu
    simp only [Option.bind_eq_bind, Option.bind_eq_some_iff] at ht
    obtain ⟨z, hz, l, hl, ht⟩ := ht
    split at ht <;> first | (cases ht; done) | skip
    rename_i hall
    simp only [Option.some.injEq] at ht; subst ht
    simp only [evalOp] at he
    split at he <;> first | (cases he; done) | skip
    rename_i cs hcs
    simp only [Option.some.injEq, Prod.mk.injEq] at he; obtain ⟨rfl, rfl⟩ := he
    obtain ⟨i, zv, hi, hzv, hRz, h1⟩ := zeroC_sound (C := C) (w := w) hz
    have hf := listM_forall hl
    have hfo : F2 (PartOk a C w env (fun k => (fs.map fun (f : Field) => (f.offset, P.cellsOf f.type))[k]?)) ps.toList l := by
      refine F2.imp hf (fun p q hpq => ?_)
      simp only [Option.bind_eq_some_iff, Option.some.injEq] at hpq
      obtain ⟨f, hf, x, hx, rfl⟩ := hpq
      exact ⟨by simp [hf], operand_sound hx hE⟩
    obtain ⟨us', e1, e2, e3, -⟩ := fill_sound hfo hRz hcs h1
    refine ⟨rfl, .agg us', ?_, ?_⟩
    · have hm := run_mapM_places (P := P) w fs.toList (fun f hf => by
        rw [List.all_eq_true] at hall; exact hall f hf)
      have hm' : (fs.mapM fun (f : Field) => (do pure (f.offset, ← sizeOf f.type) : Sem (Nat × Nat))).run P w = .ok (fs.map fun (f : Field) => (f.offset, P.cellsOf f.type)) w := by
        rw [Array.mapM_eq_mapM_toList]
        simp only [Sem.run_map, hm, Result.andThen_ok]
        congr 1
        apply Array.ext'; simp
      simp only [execOp, hop, Instr.build, Sem.run_bind, run_zero hi hzv, Result.andThen_ok, run_underlying hu, hm']
      have e1' : Instr.fill (fun x => (fs.map fun (f : Field) => (f.offset, P.cellsOf f.type))[x]?) zv.cells (ps.map fun x => (x.1, a.eval x.2)).toList = some us' := by
        rw [Array.toList_map]; exact e1
      simp only [e1', Sem.run_pure, Result.andThen_ok]
    · have := e2.agg
      simpa using this
  · rename_i n el hu
    simp only [Option.bind_eq_bind, Option.bind_eq_some_iff] at ht
    obtain ⟨z, hz, ht⟩ := ht
    split at ht <;> first | (cases ht; done) | skip
    rename_i hel
    simp only [Option.bind_eq_some_iff, Option.some.injEq] at ht
    obtain ⟨l, hl, rfl⟩ := ht
    obtain ⟨inf, hinf⟩ := Option.isSome_iff_exists.1 hel
    have hsz : ∀ w : World, (sizeOf el).run P w = .ok (P.cellsOf el) w := fun w => run_sizeOf w hinf
    simp only [evalOp] at he
    split at he <;> first | (cases he; done) | skip
    rename_i cs hcs
    simp only [Option.some.injEq, Prod.mk.injEq] at he; obtain ⟨rfl, rfl⟩ := he
    obtain ⟨i, zv, hi, hzv, hRz, h1⟩ := zeroC_sound (C := C) (w := w) hz
    have hf := listM_forall hl
    have hfo : F2 (PartOk a C w env (fun k => some (k * P.cellsOf el, P.cellsOf el))) ps.toList l := by
      refine F2.imp hf (fun p q hpq => ?_)
      simp only [Option.bind_eq_some_iff, Option.some.injEq] at hpq
      obtain ⟨x, hx, rfl⟩ := hpq
      exact ⟨rfl, operand_sound hx hE⟩
    obtain ⟨us', e1, e2, e3, -⟩ := fill_sound hfo hRz hcs h1
    refine ⟨rfl, .agg us', ?_, ?_⟩
    · simp only [execOp, hop, Instr.build, Sem.run_bind, run_zero hi hzv, Result.andThen_ok, run_underlying hu, hsz]
      have e1' : Instr.fill (fun i => some (i * P.cellsOf el, P.cellsOf el)) zv.cells (ps.map fun x => (x.1, a.eval x.2)).toList = some us' := by
        rw [Array.toList_map]; exact e1
      simp only [e1', Sem.run_pure, Result.andThen_ok]
    · have := e2.agg
      simpa using this

end Go.Ax
