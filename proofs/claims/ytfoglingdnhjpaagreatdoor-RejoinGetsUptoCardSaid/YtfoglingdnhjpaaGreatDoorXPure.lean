/-
  Ax, text 4: the operations that turn no memory: what the model's operation yields is what the interpreter's yields.
-/
import Derived.Test.YtfoglingdnhjpaaGreatDoorXRel
import Derived.Test.YtfoglingdnhjpaaGreatDoorXComp
import Derived.Orders
import Derived.Laws.StructEq
import Derived.Laws.Slices
import Derived.ChangeKeysEq
import Derived.WideLaws
namespace Go.Ax
set_option linter.all false
set_option linter.unusedSectionVars false
open Go.RowKit
def GlR [Gls] (C : Ctx) (w : World) : Prop := ∀ g ds, Gls.G g = some ds → RV C w (.pointer (some ⟨g, 0, none⟩)) (.dptr ds)
theorem GlR.mono [Gls] {C C' : Ctx} {w w' : World} (hF : ∀ b, C.Fz b → C'.Fz b) (hw : ∀ b, C.Fz b → w'.heap[b]? = w.heap[b]?) (h : GlR C w) : GlR C' w' := fun g ds hg => by
 have := h g ds hg
 generalize hx : Value.pointer (some ⟨g, 0, none⟩) = x at this ⊢
 cases this with
 | dptr ad cs vs hFz hv hd =>
  refine .dptr _ ds vs (hF _ hFz) (fun k d hk => ⟨?_, (hv k d hk).2⟩) (fun k d hk => (hd k d hk).keeps hF hw)
  rw [World.cell?_of_block (w := w) (by rw [add_block]; exact hw _ hFz)]
  exact (hv k d hk).1
theorem GlR.keeps [Gls] {C C' : Ctx} {w w' : World} (K : Keeps C C' w w') (h : GlR C w) : GlR C' w' := h.mono K.fz K.blk
structure EnvR [Gls] (C : Ctx) (w : World) (a : Act) (env : Env) : Prop where
 tm : ∀ n, RV C w (a.tmps.getD n undef) (get env n)
 gl : GlR C w
instance [Gls] {C : Ctx} {w : World} {a : Act} {env : Env} : CoeFun (EnvR C w a env) fun _ => ∀ n, RV C w (a.tmps.getD n undef) (get env n) := ⟨EnvR.tm⟩
variable [Gls]
variable {P : Program} {C : Ctx} {w : World} {a : Act} {env : Env} {H H' : List Blk} {cf : CallF} {av : AV}
theorem RV.one {v : Value} {x : AV} (h : RV C w v x) (h1 : x.one = true) : v.oneCell' = true := by
 cases h <;> first | rfl | (simp [AV.one] at h1; done) | skip
 rename_i d h
 cases h <;> first | rfl | (simp [AV.one] at h1; done)
theorem const1_sound {v : Value} {x : AV} (h : cellsT.constT1 v = some x) : RV C w v x ∧ v.oneCell' = true ∧ x.one = true := by
 unfold cellsT.constT1 at h
 split at h <;> first | (cases h; done) | (injection h with h; subst h; exact ⟨.dat (by constructor), rfl, rfl⟩)
theorem cells_sound : ∀ {zs : List AV} {vs : List Value} {l : List AV}, cellsT zs vs = some l →
  l.length = vs.length ∧ ∀ (j : Nat) (v : Value) (x : AV), vs[j]? = some v → l[j]? = some x → RV C w v x ∧ v.oneCell' = true ∧ x.one = true
 | [], [], l, h => by
  simp only [cellsT, Option.some.injEq] at h; subst h
  exact ⟨rfl, fun j v x h => by simp at h⟩
 | [], _ :: _, _, h => by simp [cellsT] at h
 | _ :: _, [], _, h => by simp [cellsT] at h
 | z :: zs, v :: vs, l, h => by
  simp only [cellsT] at h
  split at h
  ·rename_i x r hx hr
   injection h with h; subst h
   obtain ⟨h1, h2⟩ := cells_sound hr
   refine ⟨by simp [h1], fun j v' x' hv hx' => ?_⟩
   cases j with
   | zero =>
    simp only [List.getElem?_cons_zero, Option.some.injEq] at hv hx'
    subst hv; subst hx'
    split at hx
    ·injection hx with hx; subst hx
     exact ⟨.nil none _ _ _, rfl, rfl⟩
    ·exact const1_sound hx
   | succ j => exact h2 j v' x' (by simpa using hv) (by simpa using hx')
  ·cases h
theorem RV_agg_of {vs : List Value} {l : List AV} (hl : l.length = vs.length) (h : ∀ (j : Nat) (v : Value) (x : AV), vs[j]? = some v → l[j]? = some x → RV C w v x) : RV C w (.agg vs.toArray) (.agg l) :=
 .agg _ _ (by simp [hl]) fun j c v hc hv => h j v c (by simpa using hv) hc
theorem operand_sound {t : Option TypeId} {x : Operand} {xo : XO} (h : operandT P t x = some xo) (hE : EnvR C w a env) : RV C w (a.eval x) (xo.ev env) := by
 unfold operandT at h
 split at h
 ·injection h with h; subst h; exact hE _
 ·split at h
  ·split at h
   ·split at h
    ·rename_i vs _ _ _ _ _ l hl
     injection h with h; subst h
     obtain ⟨h1, h2⟩ := cells_sound (C := C) (w := w) hl
     have := RV_agg_of (C := C) (w := w) h1 (fun j v x hv hx => (h2 j v x hv hx).1)
     simpa [Act.eval, XO.ev] using this
    ·cases h
   ·cases h
  ·cases h
 ·split at h
  ·split at h
   ·injection h with h; subst h; exact .nil none _ _ _
   ·cases h
  ·cases h
 ·split at h
  ·rename_i x hx
   injection h with h; subst h
   exact (const1_sound hx).1
  ·cases h
 ·injection h with h; subst h
  refine .fn _ _ _ _ _ rfl rfl (fun j c v h => by simp at h) (fun j c v h => by simp at h)
 ·simp only [Option.map_eq_some_iff] at h
  obtain ⟨ds, hg, rfl⟩ := h
  exact hE.gl _ ds hg
theorem underlying_info {t : TypeId} {d : TypeDesc} (h : P.underlying t = some d) : ∃ i, P.info? t = some i := by
 unfold Program.underlying at h
 cases hi : P.info? t with
 | none => rw [hi] at h; simp at h
 | some i => exact ⟨i, rfl⟩
theorem run_sizeOf' {t : TypeId} {d : TypeDesc} (h : P.underlying t = some d) (w : World) : (sizeOf t).run P w = .ok (P.cellsOf t) w := by
 obtain ⟨i, hi⟩ := underlying_info h
 exact run_sizeOf w hi
theorem run_isAgg {t : TypeId} {ag : Option Nat} (h : aggOf P t = some ag) (w : World) : (isAgg t).run P w = .ok ag.isSome w := by
 unfold aggOf at h
 split at h
 ·rename_i fs hu; injection h with h; subst h; simp [isAgg, run_underlying hu]
 ·rename_i n e hu; injection h with h; subst h; simp [isAgg, run_underlying hu]
 ·rename_i d h1 h2 hu
  injection h with h; subst h
  simp only [isAgg, Sem.run_bind, run_underlying hu, Result.andThen_ok]
  cases d <;> first | rfl | exact (h1 _ rfl).elim | exact (h2 _ _ rfl).elim
 ·cases h
theorem aggOf_some {t : TypeId} {n : Nat} (h : aggOf P t = some (some n)) : n = P.cellsOf t ∧ ∃ d, P.underlying t = some d := by
 unfold aggOf at h
 split at h
 ·rename_i fs hu; injection h with h; injection h with h; exact ⟨h.symm, _, hu⟩
 ·rename_i m e hu; injection h with h; injection h with h; exact ⟨h.symm, _, hu⟩
 ·injection h with h; cases h
 ·cases h
def RL (C : Ctx) (w : World) (us : List Value) (l : List AV) : Prop := us.length = l.length ∧ ∀ (j : Nat) (u : Value) (x : AV), us[j]? = some u → l[j]? = some x → RV C w u x
theorem RL.drop {us : List Value} {l : List AV} (h : RL C w us l) (n : Nat) : RL C w (us.drop n) (l.drop n) :=
 ⟨by simp [h.1], fun j u x hu hx => h.2 (n + j) u x (by simpa using hu) (by simpa using hx)⟩
theorem RL.take {us : List Value} {l : List AV} (h : RL C w us l) (n : Nat) : RL C w (us.take n) (l.take n) := by
 refine ⟨by simp [h.1], fun j u x hu hx => ?_⟩
 rw [List.getElem?_take] at hu hx
 split at hu
 ·rename_i hj; rw [if_pos hj] at hx; exact h.2 j u x hu hx
 ·cases hu
theorem RL.append {us vs : List Value} {l m : List AV} (h : RL C w us l) (k : RL C w vs m) : RL C w (us ++ vs) (l ++ m) := by
 refine ⟨by simp [h.1, k.1], fun j u x hu hx => ?_⟩
 by_cases hj : j < us.length
 ·rw [List.getElem?_append_left hj] at hu
  rw [List.getElem?_append_left (by rw [← h.1]; exact hj)] at hx
  exact h.2 j u x hu hx
 ·rw [List.getElem?_append_right (by omega)] at hu
  rw [List.getElem?_append_right (by rw [← h.1]; omega), ← h.1] at hx
  exact k.2 _ u x hu hx
theorem RL.nil : RL C w [] [] := ⟨rfl, fun j u x h => by simp at h⟩
theorem RL.cons {u : Value} {x : AV} {us : List Value} {l : List AV} (h : RV C w u x) (k : RL C w us l) : RL C w (u :: us) (x :: l) := by
 refine ⟨by simp [k.1], fun j v y hv hy => ?_⟩
 cases j with
 | zero => simp at hv hy; subst hv; subst hy; exact h
 | succ j => exact k.2 j v y (by simpa using hv) (by simpa using hy)
theorem RL.agg {us : List Value} {l : List AV} (h : RL C w us l) : RV C w (.agg us.toArray) (.agg l) := RV_agg_of h.1.symm h.2
theorem RL.keeps {C' : Ctx} {w' : World} {us : List Value} {l : List AV} (K : Keeps C C' w w') (h : RL C w us l) : RL C' w' us l := ⟨h.1, fun j u x hu hx => (h.2 j u x hu hx).keeps K⟩
theorem RV.cells {v : Value} {x : AV} (h : RV C w v x) (hx : x.one = true ∨ (∃ cs, x = .agg cs) ∨ ∃ ds, x = .dat (.agg ds)) : RL C w v.cells.toList x.cells := by
 rcases hx with hx | ⟨cs, rfl⟩ | ⟨ds, rfl⟩
 ·have h1 := h.one hx
  have e1 : v.cells.toList = [v] := by cases v <;> first | rfl | (simp [Value.oneCell'] at h1; done)
  have e2 : x.cells = [x] := by
   cases x <;> first | rfl | (simp [AV.one] at hx; done) | skip
   rename_i d; cases d <;> first | rfl | (simp [AV.one] at hx; done)
  rw [e1, e2]
  exact RL.cons h RL.nil
 ·cases h with
  | agg vs cs hn h => exact ⟨by simpa [Value.cells, AV.cells] using hn, fun j u x hu hx => h j x u (by simpa [AV.cells] using hx) (by simpa [Value.cells] using hu)⟩
 ·cases h with
  | dat h => cases h with
   | agg vs ds hn h =>
    refine ⟨by simpa [Value.cells, AV.cells] using hn, fun j u x hu hx => ?_⟩
    simp only [AV.cells, List.getElem?_map, Option.map_eq_some_iff] at hx
    obtain ⟨d, hd, rfl⟩ := hx
    exact .dat (h j d u hd (by simpa [Value.cells] using hu))
theorem RV.cells_one {v : Value} {x : AV} (h : RV C w v x) (h1 : x.cells.all AV.one = true) : RL C w v.cells.toList x.cells ∧ ∀ u ∈ v.cells.toList, u.oneCell' = true := by
 have hx : x.one = true ∨ (∃ cs, x = .agg cs) ∨ ∃ ds, x = .dat (.agg ds) := by
  cases x with
  | agg cs => exact .inr (.inl ⟨cs, rfl⟩)
  | dat d => cases d <;> first | exact .inr (.inr ⟨_, rfl⟩) | exact .inl rfl
  | tup vs => simp [AV.cells, AV.one] at h1
  | top => simp [AV.cells, AV.one] at h1
  | _ => exact .inl rfl
 have hc := h.cells hx
 refine ⟨hc, fun u hu => ?_⟩
 obtain ⟨j, hj, rfl⟩ := List.mem_iff_getElem.1 hu
 have hj2 : j < x.cells.length := by rw [← hc.1]; exact hj
 have := hc.2 j _ _ (List.getElem?_eq_getElem hj) (List.getElem?_eq_getElem hj2)
 exact this.one (List.all_eq_true.1 h1 _ (List.getElem_mem hj2))
theorem addr_add_zero (x : Addr) : x.add 0 = x := by simp [Addr.add]
theorem load_sound {t : TypeId} {ag : Option Nat} (ht : aggOf P t = some ag) {ad : Addr} {us : List Value} {l : List AV} (hL : RL C w us l) (hc : ∀ (j : Nat) (u : Value), us[j]? = some u → w.cell? (ad.add j) = some u)
  {x : AV} (hx : mkAgg ag l = some x) : ∃ u, (Instr.loadAt t (.pointer (some ad))).run P w = .ok u w ∧ RV C w u x := by
 have hA := run_isAgg ht w
 cases ag with
 | none =>
  cases l with
  | nil => simp [mkAgg] at hx
  | cons y l =>
   simp only [mkAgg, Option.some.injEq] at hx; subst hx
   obtain ⟨h1, h2⟩ := hL
   cases us with
   | nil => simp at h1
   | cons u us =>
    have h0 := hc 0 u rfl
    rw [addr_add_zero] at h0
    refine ⟨u, ?_, h2 0 u y rfl rfl⟩
    simp [Instr.loadAt, Instr.sureAddr, loadVar, hA, h0]
 | some n =>
  simp only [mkAgg] at hx
  split at hx
  ·rename_i hn
   simp only [Option.some.injEq] at hx; subst hx
   obtain ⟨hn2, d, hd⟩ := aggOf_some ht
   refine ⟨.agg (us.take n).toArray, ?_, (hL.take n).agg⟩
   have hlen : (us.take n).length = n := by rw [List.length_take, hL.1]; omega
   have hl := run_loadCells_list (P := P) w ad (us.take n) (fun j v hv => hc j v (by
    rw [List.getElem?_take] at hv; split at hv
    ·exact hv
    ·cases hv))
   rw [hlen] at hl
   simp only [Instr.loadAt, Instr.sureAddr, loadVar, Sem.run_bind, Sem.run_pure, Result.andThen_ok, hA, Option.isSome_some, if_true, run_sizeOf' hd, ← hn2, hl]
  ·cases hx
end Go.Ax
namespace Go.Ax
set_option linter.unusedSectionVars false
open Go.RowKit
def PureOk (P : Program) (C : Ctx) (w : World) (a : Act) (o : Oper) (av : AV) : Prop := ∃ v, (execOp a.eval o).run P w = .ok (.value v) w ∧ RV C w v av
variable [Gls]
variable {P : Program} {C : Ctx} {w : World} {a : Act} {env : Env} {H H' : List Blk} {cf : CallF} {av : AV} {o : Oper} {xo : XOp} {Hp : Nat → Option Blk}
theorem mv_sound {x : Operand} (hop : o.op = .move x ∨ o.op = .assign x) (ht : opT P o = some xo) (he : evalOp cf env H xo = some (av, H')) (hE : EnvR C w a env) : H' = H ∧ PureOk P C w a o av := by
 have ht' : (operandT P (some o.type) x).map .mv = some xo := by
  rcases hop with hop | hop <;> simpa [opT, hop] using ht
 simp only [Option.map_eq_some_iff] at ht'
 obtain ⟨x', hx, rfl⟩ := ht'
 simp only [evalOp, Option.some.injEq, Prod.mk.injEq] at he
 obtain ⟨rfl, rfl⟩ := he
 refine ⟨rfl, a.eval x, ?_, operand_sound hx hE⟩
 rcases hop with hop | hop <;> simp [execOp, hop]
theorem pick_sound {c x y : Operand} (hop : o.op = .pick c x y) (ht : opT P o = some xo) (he : evalOp cf env H xo = some (av, H')) (hE : EnvR C w a env) : H' = H ∧ PureOk P C w a o av := by
 simp only [opT, hop, Option.bind_eq_bind, Option.bind_eq_some_iff, Option.some.injEq] at ht
 obtain ⟨c', hc, x', hx, y', hy, rfl⟩ := ht
 have Rc := operand_sound hc hE
 have Rx := operand_sound hx hE
 have Ry := operand_sound hy hE
 simp only [evalOp] at he
 split at he
 ·rename_i e; rw [e] at Rc
  simp only [Option.some.injEq, Prod.mk.injEq] at he; obtain ⟨rfl, rfl⟩ := he
  generalize hb : a.eval c = b at Rc
  cases Rc with | dat h => cases h; exact ⟨rfl, _, by simp [execOp, hop, hb, asBool], Rx⟩
 ·rename_i e; rw [e] at Rc
  simp only [Option.some.injEq, Prod.mk.injEq] at he; obtain ⟨rfl, rfl⟩ := he
  generalize hb : a.eval c = b at Rc
  cases Rc with | dat h => cases h; exact ⟨rfl, _, by simp [execOp, hop, hb, asBool], Ry⟩
 ·cases he
theorem nilchk_sound {x : Operand} (hop : o.op = .nilCheck x) (ht : opT P o = some xo) (he : evalOp cf env H xo = some (av, H')) (hE : EnvR C w a env) : H' = H ∧ PureOk P C w a o av := by
 simp only [opT, hop, Option.map_eq_some_iff] at ht
 obtain ⟨x', hx, rfl⟩ := ht
 have R := operand_sound hx hE
 simp only [evalOp] at he
 generalize hv : a.eval x = v at R
 split at he <;> first | (cases he; done) | skip
 all_goals
  rename_i e; rw [e] at R
  simp only [Option.some.injEq, Prod.mk.injEq] at he; obtain ⟨rfl, rfl⟩ := he
  refine ⟨rfl, v, ?_, R⟩
  cases R <;> simp [execOp, hop, hv]
theorem not_sound {t : TypeId} {x : Operand} (hop : o.op = .unOp .not t x) (ht : opT P o = some xo) (he : evalOp cf env H xo = some (av, H')) (hE : EnvR C w a env) : H' = H ∧ PureOk P C w a o av := by
 simp only [opT, hop, Option.map_eq_some_iff] at ht
 obtain ⟨x', hx, rfl⟩ := ht
 have R := operand_sound hx hE
 simp only [evalOp] at he
 generalize hv : a.eval x = v at R
 split at he <;> first | (cases he; done) | skip
 rename_i e; rw [e] at R
 simp only [Option.some.injEq, Prod.mk.injEq] at he; obtain ⟨rfl, rfl⟩ := he
 cases R with | dat h => cases h; exact ⟨rfl, _, by simp [execOp, hop, hv, Op.unary], .dat (.bool _)⟩
theorem neg_sound {t : TypeId} {x : Operand} (hop : o.op = .unOp .neg t x) (ht : opT P o = some xo) (he : evalOp cf env H xo = some (av, H')) (hE : EnvR C w a env) : H' = H ∧ PureOk P C w a o av := by
 simp only [opT, hop, Option.map_eq_some_iff] at ht
 obtain ⟨x', hx, rfl⟩ := ht
 have R := operand_sound hx hE
 simp only [evalOp] at he
 generalize hv : a.eval x = v at R
 split at he <;> first | (cases he; done) | skip
 rename_i e; rw [e] at R
 simp only [Option.some.injEq, Prod.mk.injEq] at he; obtain ⟨rfl, rfl⟩ := he
 cases R with | dat h => cases h; exact ⟨rfl, _, by simp [execOp, hop, hv, Op.unary, Op.intArith], .dat (.int _ _)⟩
theorem conv_sound {t u : TypeId} {x : Operand} (hop : o.op = .convert t u x) (ht : opT P o = some xo) (he : evalOp cf env H xo = some (av, H')) (hE : EnvR C w a env) : H' = H ∧ PureOk P C w a o av := by
 simp only [opT, hop] at ht
 split at ht
 ·rename_i k0 k hs hd
  simp only [Option.map_eq_some_iff] at ht
  obtain ⟨x', hx, rfl⟩ := ht
  have R := operand_sound hx hE
  simp only [evalOp] at he
  generalize hv : a.eval x = v at R
  split at he <;> first | (cases he; done) | skip
  rename_i e; rw [e] at R
  simp only [Option.some.injEq, Prod.mk.injEq] at he; obtain ⟨rfl, rfl⟩ := he
  cases R with | dat h => cases h; exact ⟨rfl, _, by simp [execOp, hop, hv, convert, run_underlying hs, run_underlying hd, Conv.intToInt], .dat (.int _ _)⟩
 ·cases ht
theorem ext_sound {x : Operand} {i : Nat} (hop : o.op = .extract x i) (ht : opT P o = some xo) (he : evalOp cf env H xo = some (av, H')) (hE : EnvR C w a env) : H' = H ∧ PureOk P C w a o av := by
 simp only [opT, hop, Option.map_eq_some_iff] at ht
 obtain ⟨x', hx, rfl⟩ := ht
 have R := operand_sound hx hE
 simp only [evalOp] at he
 generalize hv : a.eval x = v at R
 split at he <;> first | (cases he; done) | skip
 rename_i vs e; rw [e] at R
 split at he <;> first | (cases he; done) | skip
 rename_i y hy
 simp only [Option.some.injEq, Prod.mk.injEq] at he; obtain ⟨rfl, rfl⟩ := he
 cases R with
 | tup us cs hn h =>
  have hi : i < us.size := by rw [hn]; exact (List.getElem?_eq_some_iff.1 hy).1
  have hu : us[i]? = some us[i] := by simp [hi]
  exact ⟨rfl, us[i], by simp [execOp, hop, hv, Instr.extract, hu], h i _ _ hy hu⟩
theorem len_sound {c : Call} (hop : o.op = .call c) (hc : c.callee = .builtin .len) (hne : ∀ m, xo ≠ .mlen m) (ht : opT P o = some xo) (he : evalOp cf env H xo = some (av, H')) (hE : EnvR C w a env) : H' = H ∧ PureOk P C w a o av := by
 obtain ⟨callee, args, argTypes⟩ := c
 simp only at hc; subst hc
 simp only [opT, hop] at ht
 split at ht <;> first | (cases ht; done) | skip
 rename_i t x htt hxx
 have hmap : (args.map a.eval)[0]? = some (a.eval x) := by simp [hxx]
 split at ht <;> first | (cases ht; done) | (split at ht <;> first | (cases ht; done) | (simp only [Option.map_eq_some_iff] at ht; obtain ⟨x', _, rfl⟩ := ht; exact absurd rfl (hne x'))) | skip
 all_goals
  rename_i hk
  simp only [Option.map_eq_some_iff] at ht
  obtain ⟨x', hx, rfl⟩ := ht
  have R := operand_sound hx hE
  simp only [evalOp] at he
  generalize hv : a.eval x = v at R hmap
  split at he <;> first | (cases he; done) | skip
  all_goals
   rename_i e; rw [e] at R
   simp only [Option.some.injEq, Prod.mk.injEq] at he; obtain ⟨rfl, rfl⟩ := he
   refine ⟨rfl, ?_⟩
   first
    | (cases R with | dat h => cases h <;> exact ⟨_, by simp [execOp, hop, resolve, invoke, builtin, Builtin.len_, htt, hmap, run_underlying hk, goInt], .dat (.int _ _)⟩)
    | (cases R <;> exact ⟨_, by simp [execOp, hop, resolve, invoke, builtin, Builtin.len_, htt, hmap, run_underlying hk, goInt], .dat (.int _ _)⟩)
theorem mkfn_sound {f : Fn} {xs ys : Array Operand} (hop : o.op = .makeFunc f xs ys) (ht : opT P o = some xo) (he : evalOp cf env H xo = some (av, H')) (hE : EnvR C w a env) : H' = H ∧ PureOk P C w a o av := by
 have list (l : List Operand) : ∀ m : List XO, listM (operandT P none) l = some m → RL C w (l.map a.eval) (m.map (XO.ev env)) := by
  induction l with
  | nil => intro m hm; simp only [listM, Option.some.injEq] at hm; subst hm; exact RL.nil
  | cons x l ih =>
   intro m hm
   simp only [listM] at hm
   split at hm <;> first | (cases hm; done) | skip
   rename_i y hy
   split at hm <;> first | (cases hm; done) | skip
   rename_i r hr
   injection hm with hm; subst hm
   exact RL.cons (operand_sound hy hE) (ih r hr)
 simp only [opT, hop, Option.bind_eq_bind, Option.bind_eq_some_iff, Option.some.injEq] at ht
 obtain ⟨x', hx, y', hy, rfl⟩ := ht
 simp only [evalOp, Option.some.injEq, Prod.mk.injEq] at he
 obtain ⟨rfl, rfl⟩ := he
 have hl := list _ _ hx
 have hr := list _ _ hy
 refine ⟨rfl, .func f (xs.map a.eval) (ys.map a.eval), by simp [execOp, hop, Instr.makeFunc], .fn _ _ _ _ _ ?_ ?_ ?_ ?_⟩
 ·simpa using hl.1
 ·simpa using hr.1
 ·intro j c v hc hv; exact hl.2 j v c (by simpa using hv) hc
 ·intro j c v hc hv; exact hr.2 j v c (by simpa using hv) hc
theorem bin_sound {op : BinOp} {t u : TypeId} {x y : Operand} (hop : o.op = .binOp op t x y u) (hb : op = .add ∨ op = .sub ∨ op = .mul ∨ op = .quo ∨ op = .rem ∨ op = .lss ∨ op = .leq ∨ op = .gtr ∨ op = .geq)
  (ht : opT P o = some xo) (he : evalOp cf env H xo = some (av, H')) (hE : EnvR C w a env) : H' = H ∧ PureOk P C w a o av := by
 have ht' : ∃ x' y', operandT P none x = some x' ∧ operandT P none y = some y' ∧ xo = .bin op x' y' := by
  rcases hb with rfl | rfl | rfl | rfl | rfl | rfl | rfl | rfl | rfl <;>
  ·simp only [opT, hop] at ht
   split at ht <;> first | (cases ht; done) | skip
   simp only [Option.bind_eq_bind, Option.bind_eq_some_iff, Option.some.injEq] at ht
   obtain ⟨x', hx, y', hy, rfl⟩ := ht
   exact ⟨x', y', hx, hy, rfl⟩
 obtain ⟨x', y', hx, hy, rfl⟩ := ht'
 have Rx := operand_sound hx hE
 have Ry := operand_sound hy hE
 generalize hvx : a.eval x = vx at Rx
 generalize hvy : a.eval y = vy at Ry
 simp only [evalOp] at he
 split at he <;> first | (cases he; done) | skip
 rename_i z hz
 simp only [Option.some.injEq, Prod.mk.injEq] at he; obtain ⟨rfl, rfl⟩ := he
 unfold bin at hz
 split at hz <;> first | (cases hz; done) | skip
 rename_i k m k' n e1 e2
 rw [e1] at Rx; rw [e2] at Ry
 split at hz <;> first | (cases hz; done) | skip
 rename_i hk; subst hk
 simp only [Option.map_eq_some_iff] at hz
 obtain ⟨d, hd, rfl⟩ := hz
 refine ⟨rfl, ?_⟩
 cases Rx with | dat Rx => cases Rx; cases Ry with | dat Ry => cases Ry; (
  rcases hb with rfl | rfl | rfl | rfl | rfl | rfl | rfl | rfl | rfl <;> simp only [intBin] at hd <;>
  first
  | (split at hd <;> first | (cases hd; done) | skip
     rename_i hn
     injection hd with hd; subst hd
     refine ⟨_, ?_, .dat (.int _ _)⟩
     simp [execOp, hop, hvx, hvy, eqGuard, binOp, Op.intDiv, hn])
  | (injection hd with hd; subst hd
     first | refine ⟨_, ?_, .dat (.int _ _)⟩ | refine ⟨_, ?_, .dat (.bool _)⟩
     simp [execOp, hop, hvx, hvy, eqGuard, binOp, Op.intArith, Op.intCmp]))
theorem fadr_sound {t : TypeId} {x : Operand} {i : Nat} (hop : o.op = .fieldAddr t x i) (ht : opT P o = some xo) (he : evalOp cf env H xo = some (av, H')) (hE : EnvR C w a env) : H' = H ∧ PureOk P C w a o av := by
 simp only [opT, hop] at ht
 split at ht <;> first | (cases ht; done) | skip
 rename_i fs hu
 simp only [Option.bind_eq_bind, Option.bind_eq_some_iff] at ht
 obtain ⟨f, hf, ht⟩ := ht
 split at ht <;> first | (cases ht; done) | skip
 rename_i hz
 simp only [Option.bind_eq_some_iff, Option.some.injEq] at ht
 obtain ⟨x', hx, rfl⟩ := ht
 have R := operand_sound hx hE
 generalize hv : a.eval x = v at R
 have hsz : ∀ w : World, (sizeOf f.type).run P w = .ok (P.cellsOf f.type) w := by
  intro w
  cases hi : P.info? f.type with
  | none => exact absurd (by simp [Program.cellsOf, hi]) hz
  | some i => exact run_sizeOf w hi
 have hrun : ∀ ad : Addr, (execOp a.eval o).run P w = .ok (.value (.pointer (some (ad.add f.offset)))) w ∨ v ≠ .pointer (some ad) := by
  intro ad
  by_cases hva : v = .pointer (some ad)
  ·left
   subst hva
   simp [execOp, hop, hv, Instr.fieldAt, run_underlying hu, hf, Instr.sureAddr, fieldPlace, hsz, hz]
  ·exact .inr hva
 simp only [evalOp] at he
 split at he <;> first | (cases he; done) | skip
 ·rename_i id off e; rw [e] at R
  simp only [Option.some.injEq, Prod.mk.injEq] at he; obtain ⟨rfl, rfl⟩ := he
  cases R with
  | ptr _ _ b hD h =>
   refine ⟨rfl, _, (hrun _).resolve_right (fun h => h rfl), ?_⟩
   have : (⟨b, off, none⟩ : Addr).add f.offset = ⟨b, off + f.offset, none⟩ := by unfold Addr.add; split <;> simp_all
   rw [this]; exact .ptr _ _ _ hD h
 ·rename_i id i off e; rw [e] at R
  simp only [Option.some.injEq, Prod.mk.injEq] at he; obtain ⟨rfl, rfl⟩ := he
  cases R with
  | eptr _ _ _ g cap hD h =>
   refine ⟨rfl, _, (hrun _).resolve_right (fun h => h rfl), ?_⟩
   have : (⟨g, i * C.sz id + off, none⟩ : Addr).add f.offset = ⟨g, i * C.sz id + (off + f.offset), none⟩ := by
    unfold Addr.add; split
    ·simp_all
    ·simp [Nat.add_assoc]
   rw [this]; exact .eptr _ _ _ _ _ hD h
 ·rename_i cs e; rw [e] at R
  split at he <;> first | (cases he; done) | skip
  rename_i hlt
  simp only [Option.some.injEq, Prod.mk.injEq] at he; obtain ⟨rfl, rfl⟩ := he
  cases R with
  | dptr ad _ vs hF hv hd =>
   refine ⟨rfl, _, (hrun _).resolve_right (fun h => h rfl), .dptr _ _ (fun k => vs (f.offset + k)) (by rw [add_block]; exact hF) (fun k d hk => ?_) (fun k d hk => ?_)⟩
   ·have h1 := hv (f.offset + k) d (by simpa using hk)
    refine ⟨?_, h1.2⟩
    rw [show (ad.add f.offset).add k = ad.add (f.offset + k) from ?_]
    ·exact h1.1
    ·unfold Addr.add
     split <;> split <;> split <;> simp_all <;> omega
   ·exact hd (f.offset + k) d (by simpa using hk)
end Go.Ax
namespace Go.Ax
set_option linter.unusedSectionVars false
open Go.RowKit
variable [Gls]
variable {P : Program} {C : Ctx} {w : World} {a : Act} {env : Env} {H H' : List Blk} {cf : CallF} {av : AV} {o : Oper} {xo : XOp} {Hp : Nat → Option Blk}
theorem flatten_cons (x : Dat) (xs : List Dat) : flatten (x :: xs) = x.cells ++ flatten xs := by simp [flatten]
theorem flatten_length {sz : Nat} : ∀ {xs : List Dat}, (∀ x ∈ xs, x.cells.length = sz) → (flatten xs).length = xs.length * sz
 | [], _ => by simp [flatten]
 | x :: xs, h => by
  rw [flatten_cons, List.length_append, flatten_length (fun y hy => h y (List.mem_cons_of_mem _ hy)), h x List.mem_cons_self, List.length_cons, Nat.succ_mul, Nat.add_comm]
theorem flatten_drop {sz : Nat} : ∀ {xs : List Dat} (n : Nat), (∀ x ∈ xs, x.cells.length = sz) → flatten (xs.drop n) = (flatten xs).drop (n * sz)
 | [], n, _ => by simp [flatten]
 | x :: xs, 0, _ => by simp
 | x :: xs, n + 1, h => by
  rw [List.drop_succ_cons, flatten_drop n (fun y hy => h y (List.mem_cons_of_mem _ hy)), flatten_cons, List.drop_append, Nat.succ_mul]
  have := h x List.mem_cons_self
  have e : List.drop (n * sz + sz) x.cells = [] := List.drop_eq_nil_of_le (by omega)
  rw [e, List.nil_append, this]
  congr 1; omega
theorem flatten_take {sz : Nat} : ∀ {xs : List Dat} (n : Nat), (∀ x ∈ xs, x.cells.length = sz) → flatten (xs.take n) = (flatten xs).take (n * sz)
 | [], n, _ => by simp [flatten]
 | x :: xs, 0, _ => by simp [flatten]
 | x :: xs, n + 1, h => by
  rw [List.take_succ_cons, flatten_cons, flatten_take n (fun y hy => h y (List.mem_cons_of_mem _ hy)), flatten_cons, List.take_append, Nat.succ_mul]
  have := h x List.mem_cons_self
  rw [List.take_of_length_le (l := x.cells) (by omega), this]
  congr 2; omega
theorem flatten_append (xs ys : List Dat) : flatten (xs ++ ys) = flatten xs ++ flatten ys := by simp [flatten]
theorem flatten_get {sz : Nat} {xs : List Dat} {x : Dat} {i j : Nat} (h : ∀ x ∈ xs, x.cells.length = sz) (hx : xs[i]? = some x) {d : Dat} (hj : x.cells[j]? = some d) : (flatten xs)[i * sz + j]? = some d := by
 have h1 := flatten_drop i h
 rw [← List.getElem?_drop, ← h1]
 have hi : i < xs.length := (List.getElem?_eq_some_iff.1 hx).1
 have hxe : xs[i] = x := (List.getElem?_eq_some_iff.1 hx).2
 rw [List.drop_eq_getElem_cons hi, flatten_cons, hxe, List.getElem?_append_left (List.getElem?_eq_some_iff.1 hj).1]
 exact hj
theorem add_add (x : Addr) (m n : Nat) : (x.add m).add n = x.add (m + n) := by
 unfold Addr.add
 split <;> split <;> split <;> simp_all <;> omega
theorem mk_add (b off n : Nat) : (⟨b, off, none⟩ : Addr).add n = ⟨b, off + n, none⟩ := by unfold Addr.add; split <;> simp_all
theorem datas_RL {F : Nat → Prop} {cs : List Dat} {vs : Nat → Value} (h : ∀ (k : Nat) (d : Dat), cs[k]? = some d → RD F w (vs k) d) (hF : F = C.Fz) : RL C w ((List.range cs.length).map vs) (cs.map .dat) := by
 subst hF
 refine ⟨by simp, fun j u x hu hx => ?_⟩
 simp only [List.getElem?_map, Option.map_eq_some_iff] at hu hx
 obtain ⟨d, hd, rfl⟩ := hx
 obtain ⟨k, hk, rfl⟩ := hu
 have hj : j < cs.length := (List.getElem?_eq_some_iff.1 hd).1
 rw [List.getElem?_range hj] at hk
 injection hk with hk; subst hk
 exact .dat (h j d hd)
theorem loadAt_sound {t : TypeId} {ag : Option Nat} (hag : aggOf P t = some ag) {x y : AV} {v : Value} (R : RV C w v x) (hy : loadAt H ag x = some y) (hH : RH C w Hp) (hT : ∀ id ∈ x.refs, Hp id = H[id]?) :
  ∃ u, (Instr.loadAt t v).run P w = .ok u w ∧ RV C w u y := by
 unfold loadAt at hy
 split at hy <;> first | (cases hy; done) | skip
 ·rename_i id off
  split at hy <;> first | (cases hy; done) | skip
  rename_i cs hb
  have hp := hT id (by simp [AV.refs])
  rw [hb] at hp
  have hB := hH.blk id _ hp
  cases R with
  | ptr _ _ b hD hρ =>
   cases hB with
   | box _ b' c t' hρ' hh hn hF h h1 =>
    rw [hρ] at hρ'; injection hρ' with hρ'; subst hρ'
    have hRL : RL C w c.toList cs := ⟨by simpa using hn, fun j u x hu hx => h j u x (by simpa using hu) hx⟩
    refine load_sound hag (hRL.drop off) (fun j u hu => ?_) hy
    rw [mk_add, cell_of_row w b (off + j) c t' (0, 0) hh]
    simpa using hu
 ·rename_i id i off
  split at hy <;> first | (cases hy; done) | skip
  rename_i e' sz fl fz xs hb
  split at hy <;> first | (cases hy; done) | skip
  rename_i d hd
  have hp := hT id (by simp [AV.refs])
  rw [hb] at hp
  have hB := hH.blk id _ hp
  cases R with
  | eptr _ _ _ g cap hD hρ =>
   cases hB with
   | arr0 => simp at hd
   | arr _ _ _ _ _ g' cap' c hρ' hz hz0 hh hc hl hcap hF hs hfl h =>
    rw [hρ] at hρ'; injection hρ' with hg hcp; subst hg; subst hcp
    have key : ∀ j q, d.cells[j]? = some q → ∃ v : Value, c[i * sz + j]? = some v ∧ RD C.Fz w v q ∧ v.oneCell' = true := fun j q hq => h _ q (flatten_get hs hd hq)
    have hdc : d.cells.length = sz := hs d (List.mem_of_getElem? hd)
    have hRL : RL C w (((List.range d.cells.length).map fun j => c.getD (i * sz + j) undef).drop off) ((d.cells.drop off).map .dat) := by
     rw [List.map_drop]
     exact (datas_RL (fun j q hq => by obtain ⟨v, h1, h2, _⟩ := key j q hq; simpa [Array.getD, Array.getElem?_eq_some_iff.1 h1 |>.1, (Array.getElem?_eq_some_iff.1 h1).2] using h2) rfl).drop off
    refine load_sound hag hRL (fun j u hu => ?_) hy
    rw [mk_add, hz, cell_of_row w g _ c _ (0, 0) hh]
    simp only [List.getElem?_drop, List.getElem?_map, Option.map_eq_some_iff] at hu
    obtain ⟨k, hk, rfl⟩ := hu
    have hlt : off + j < d.cells.length := by
     have := (List.getElem?_eq_some_iff.1 hk).1; simpa using this
    rw [List.getElem?_range hlt] at hk; injection hk with hk; subst hk
    obtain ⟨v, h1, _⟩ := key (off + j) _ (List.getElem?_eq_getElem hlt)
    rw [← Nat.add_assoc] at h1
    rw [h1, ← Nat.add_assoc]
    simp [Array.getD, (Array.getElem?_eq_some_iff.1 h1).1, (Array.getElem?_eq_some_iff.1 h1).2]
 ·rename_i cs
  cases R with
  | dptr ad _ vs hF hv' hd =>
   refine load_sound hag (datas_RL hd rfl) (fun j u hu => ?_) hy
   simp only [List.getElem?_map, Option.map_eq_some_iff] at hu
   obtain ⟨k, hk, rfl⟩ := hu
   have hlt : j < cs.length := by
    have := (List.getElem?_eq_some_iff.1 hk).1; simpa using this
   rw [List.getElem?_range hlt] at hk; injection hk with hk; subst hk
   exact (hv' j _ (List.getElem?_eq_getElem hlt)).1
theorem load_op_sound {t : TypeId} {x : Operand} (hop : o.op = .load t x) (ht : opT P o = some xo) (he : evalOp cf env H xo = some (av, H')) (hE : EnvR C w a env) (hH : RH C w Hp)
  (hT : ∀ id ∈ (touched env H xo).1, Hp id = H[id]?) : H' = H ∧ PureOk P C w a o av := by
 simp only [opT, hop, Option.bind_eq_bind, Option.bind_eq_some_iff, Option.some.injEq] at ht
 obtain ⟨ag, hag, x', hx, rfl⟩ := ht
 have R := operand_sound hx hE
 generalize hv : a.eval x = v at R
 simp only [evalOp] at he
 split at he <;> first | (cases he; done) | skip
 rename_i y hy
 simp only [Option.some.injEq, Prod.mk.injEq] at he; obtain ⟨rfl, rfl⟩ := he
 refine ⟨rfl, ?_⟩
 have hT' : ∀ id ∈ (x'.ev env).refs, Hp id = H[id]? := fun id hid => by
  refine hT id ?_
  simp only [touched]
  unfold loadAt at hy
  split at hy <;> first | (cases hy; done) | skip
  all_goals
   rename_i e
   rw [e] at hid ⊢
   simp [AV.refs] at hid ⊢; try exact hid
 obtain ⟨u, h1, h2⟩ := loadAt_sound hag R hy hH hT'
 exact ⟨u, by simp [execOp, hop, hv, h1], h2⟩
theorem part_sound {t : TypeId} {ag : Option Nat} (ht : aggOf P t = some ag) {us : List Value} {l : List AV} (hL : RL C w us l) {off : Nat} {x : AV} (hx : mkAgg ag (l.drop off) = some x) :
  ∃ u, (part t us.toArray off).run P w = .ok u w ∧ RV C w u x := by
 have hA := run_isAgg ht w
 have hD := hL.drop off
 cases ag with
 | none =>
  cases hl : l.drop off with
  | nil => rw [hl] at hx; simp [mkAgg] at hx
  | cons y r =>
   rw [hl] at hx hD
   simp only [mkAgg, Option.some.injEq] at hx; subst hx
   cases hu : us.drop off with
   | nil => rw [hu] at hD; have := hD.1; simp at this
   | cons u us' =>
    rw [hu] at hD
    have h0 : us[off]? = some u := by
     have : (us.drop off)[0]? = some u := by rw [hu]; rfl
     simpa using this
    refine ⟨u, ?_, hD.2 0 u y rfl rfl⟩
    simp [part, hA, h0]
 | some n =>
  simp only [mkAgg] at hx
  split at hx
  ·rename_i hn
   simp only [Option.some.injEq] at hx; subst hx
   obtain ⟨hn2, d, hd⟩ := aggOf_some ht
   refine ⟨.agg ((us.drop off).take n).toArray, ?_, (hD.take n).agg⟩
   simp only [part, Sem.run_bind, hA, Result.andThen_ok, Option.isSome_some, if_true, run_sizeOf' hd, ← hn2, Sem.run_pure]
   congr 2
   apply Array.ext'
   simp
  ·cases hx
theorem fld_sound {t : TypeId} {x : Operand} {i : Nat} (hop : o.op = .field t x i) (ht : opT P o = some xo) (he : evalOp cf env H xo = some (av, H')) (hE : EnvR C w a env) : H' = H ∧ PureOk P C w a o av := by
 simp only [opT, hop] at ht
 split at ht <;> first | (cases ht; done) | skip
 rename_i fs hu
 simp only [Option.bind_eq_bind, Option.bind_eq_some_iff, Option.some.injEq] at ht
 obtain ⟨f, hf, ag, hag, x', hx, rfl⟩ := ht
 have R := operand_sound hx hE
 generalize hv : a.eval x = v at R
 simp only [evalOp] at he
 split at he <;> first | (cases he; done) | skip
 ·rename_i cs e; rw [e] at R
  split at he <;> first | (cases he; done) | skip
  rename_i y hy
  simp only [Option.some.injEq, Prod.mk.injEq] at he; obtain ⟨rfl, rfl⟩ := he
  cases R with
  | agg vs _ hn h =>
   have hRL : RL C w vs.toList cs := ⟨by simpa using hn, fun j u x hu hx => h j x u hx (by simpa using hu)⟩
   obtain ⟨u, h1, h2⟩ := part_sound hag hRL hy
   have h1' : (part f.type vs f.offset).run P w = .ok u w := by simpa using h1
   exact ⟨rfl, u, by simp [execOp, hop, hv, Instr.field, run_underlying hu, hf, asAgg, h1'], h2⟩
 ·rename_i ds e; rw [e] at R
  split at he <;> first | (cases he; done) | skip
  rename_i y hy
  simp only [Option.some.injEq, Prod.mk.injEq] at he; obtain ⟨rfl, rfl⟩ := he
  cases R with
  | dat R => cases R with
   | agg vs _ hn h =>
    have hRL : RL C w vs.toList (ds.map .dat) := ⟨by simpa using hn, fun j u x hu hx => by
     simp only [List.getElem?_map, Option.map_eq_some_iff] at hx
     obtain ⟨d, hd, rfl⟩ := hx
     exact .dat (h j d u hd (by simpa using hu))⟩
    rw [List.map_drop] at hy
    obtain ⟨u, h1, h2⟩ := part_sound hag hRL hy
    have h1' : (part f.type vs f.offset).run P w = .ok u w := by simpa using h1
    exact ⟨rfl, u, by simp [execOp, hop, hv, Instr.field, run_underlying hu, hf, asAgg, h1'], h2⟩
theorem aadr_sound {t el : TypeId} {n : Nat} {x i : Operand} (hop : o.op = .indexAddr t x i) (hu : P.underlying t = some (.array n el)) (hel : (P.info? el).isSome = true) {x' i' : XO} (R : RV C w (a.eval x) (x'.ev env)) (Ri : RV C w (a.eval i) (i'.ev env))
  (he : evalOp cf env H (.aadr (P.cellsOf el) n x' i') = some (av, H')) : H' = H ∧ PureOk P C w a o av := by
 generalize hv : a.eval x = v at R
 generalize hvi : a.eval i = vi at Ri
 obtain ⟨inf, hinf⟩ := Option.isSome_iff_exists.1 hel
 have hsz : ∀ w : World, (sizeOf el).run P w = .ok (P.cellsOf el) w := fun w => run_sizeOf w hinf
 simp only [evalOp] at he
 split at he <;> first | (cases he; done) | skip
 rename_i k m e; rw [e] at Ri
 split at he <;> first | (cases he; done) | skip
 rename_i hm
 obtain ⟨hm0, hm1⟩ := hm
 cases Ri with | dat Ri => cases Ri; (
  have hrun : ∀ (ad : Addr), v = .pointer (some ad) → (execOp a.eval o).run P w = .ok (.value (.pointer (some (ad.add (m.toNat * P.cellsOf el))))) w := by
   intro ad hva
   subst hva
   simp [execOp, hop, hv, hvi, Instr.indexAt, asIntOf, run_underlying hu, hm0, hm1, hsz, Instr.sureAddr]
  split at he <;> first | (cases he; done) | skip
  ·rename_i id off ex; rw [ex] at R
   simp only [Option.some.injEq, Prod.mk.injEq] at he; obtain ⟨rfl, rfl⟩ := he
   cases R with
   | ptr _ _ b hD h =>
    refine ⟨rfl, _, hrun _ rfl, ?_⟩
    rw [mk_add]; exact .ptr _ _ _ hD h
  ·rename_i id j off ex; rw [ex] at R
   simp only [Option.some.injEq, Prod.mk.injEq] at he; obtain ⟨rfl, rfl⟩ := he
   cases R with
   | eptr _ _ _ g cap hD h =>
    refine ⟨rfl, _, hrun _ rfl, ?_⟩
    rw [mk_add, Nat.add_assoc]; exact .eptr _ _ _ _ _ hD h
  ·rename_i cs ex; rw [ex] at R
   split at he <;> first | (cases he; done) | skip
   simp only [Option.some.injEq, Prod.mk.injEq] at he; obtain ⟨rfl, rfl⟩ := he
   cases R with
   | dptr ad _ vs hF hv' hd =>
    refine ⟨rfl, _, hrun _ rfl, .dptr _ _ (fun q => vs (m.toNat * P.cellsOf el + q)) (by rw [add_block]; exact hF) (fun q d hk => ?_) (fun q d hk => ?_)⟩
    ·have h1 := hv' (m.toNat * P.cellsOf el + q) d (by simpa using hk)
     rw [add_add]
     exact h1
    ·exact hd (m.toNat * P.cellsOf el + q) d (by simpa using hk))
theorem iadr_sound {t : TypeId} {x i : Operand} (hop : o.op = .indexAddr t x i) (ht : opT P o = some xo) (he : evalOp cf env H xo = some (av, H')) (hE : EnvR C w a env) (hH : RH C w Hp)
  (hT : ∀ id ∈ (touched env H xo).1, Hp id = H[id]?) : H' = H ∧ PureOk P C w a o av := by
 simp only [opT, hop] at ht
 split at ht
 rotate_left
 ·rename_i nn el hu
  simp only [Option.bind_eq_bind] at ht
  split at ht <;> first | (cases ht; done) | skip
  rename_i hel
  simp only [Option.bind_eq_some_iff, Option.some.injEq] at ht
  obtain ⟨x', hx, i', hi, rfl⟩ := ht
  exact aadr_sound hop hu hel (operand_sound hx hE) (operand_sound hi hE) he
 ·cases ht
 rename_i el hu
 simp only [Option.bind_eq_bind] at ht
 split at ht <;> first | (cases ht; done) | skip
 rename_i hel
 simp only [Option.bind_eq_some_iff, Option.some.injEq] at ht
 obtain ⟨x', hx, i', hi, rfl⟩ := ht
 have R := operand_sound hx hE
 have Ri := operand_sound hi hE
 generalize hv : a.eval x = v at R
 generalize hvi : a.eval i = vi at Ri
 obtain ⟨inf, hinf⟩ := Option.isSome_iff_exists.1 hel
 have hsz : ∀ w : World, (sizeOf el).run P w = .ok (P.cellsOf el) w := fun w => run_sizeOf w hinf
 simp only [evalOp] at he
 split at he <;> first | (cases he; done) | skip
 rename_i k n e; rw [e] at Ri
 split at he <;> first | (cases he; done) | skip
 rename_i hn0
 cases Ri with | dat Ri => cases Ri; (
  have hrun : ∀ (ad : Addr) (len cap : Nat), n < (len : Int) → v = .slice (some ad) len cap → (execOp a.eval o).run P w = .ok (.value (.pointer (some (ad.add (n.toNat * P.cellsOf el))))) w := by
   intro ad len cap hlt hva
   subst hva
   simp [execOp, hop, hv, hvi, Instr.indexAt, asIntOf, run_underlying hu, hn0, hlt, hsz]
  split at he <;> first | (cases he; done) | skip
  ·rename_i id off len ex; rw [ex] at R
   split at he <;> first | (cases he; done) | skip
   rename_i e' sz' fl fz xs hb
   split at he <;> first | (cases he; done) | skip
   rename_i hlt
   obtain ⟨hlt, hsz'⟩ := hlt
   simp only [Option.some.injEq, Prod.mk.injEq] at he; obtain ⟨rfl, rfl⟩ := he
   have hp := hT id (by simp [touched, ex, AV.refs])
   rw [hb] at hp
   have hB := hH.blk id _ hp
   have hzz : C.sz id = sz' := by cases hB <;> assumption
   cases R with
   | own _ _ _ g cap hD h hl =>
    refine ⟨rfl, _, hrun _ _ _ hlt rfl, ?_⟩
    rw [mk_add, ← hsz', ← hzz, ← Nat.add_mul]
    exact .eptr id (off + n.toNat) 0 g cap hD h
   | own0 => simp at hlt; omega
  ·rename_i sz' fl xs ex; rw [ex] at R
   split at he <;> first | (cases he; done) | skip
   rename_i d hd
   split at he <;> first | (cases he; done) | skip
   rename_i hsz'
   simp only [Option.some.injEq, Prod.mk.injEq] at he; obtain ⟨rfl, rfl⟩ := he
   cases R with
   | dat R =>
    cases R with
    | sl0 => simp at hd
    | sl ad cap _ _ _ vs hne hF hcap hs hfl hv' hd' =>
     have hlt := (List.getElem?_eq_some_iff.1 hd).1
     refine ⟨rfl, _, hrun _ _ _ (by omega) rfl, .dptr _ _ (fun j => vs (n.toNat * sz' + j)) (by rw [add_block]; exact hF) (fun j q hq => ?_) (fun j q hq => hd' _ q (flatten_get hs hd hq))⟩
     have := hv' _ q (flatten_get hs hd hq)
     rw [add_add, ← hsz']
     exact this)
theorem bound_val {lo : Option Operand} {l' : Option XO} {k : IntKind} {m d : Int} (hl : optT P lo = some l') (hE : EnvR C w a env)
  (h : evOr env d l' = AV.dat (.int k m)) : (lo = none ∧ m = d) ∨ ∃ z, lo = some z ∧ a.eval z = .int k m := by
 cases lo with
 | none =>
  simp only [optT, Option.some.injEq] at hl; subst hl
  simp only [evOr, AV.dat.injEq, Dat.int.injEq] at h
  exact .inl ⟨rfl, h.2.symm⟩
 | some z =>
  simp only [optT, Option.map_eq_some_iff] at hl
  obtain ⟨z', hz, rfl⟩ := hl
  have Rz := operand_sound hz hE
  simp only [evOr] at h; rw [h] at Rz
  generalize hvz : a.eval z = vz at Rz
  cases Rz with | dat Rz => cases Rz; exact .inr ⟨z, rfl, hvz⟩
theorem run_slice_core {t el : TypeId} (hu : P.underlying t = some (.slice el)) (hsz : ∀ w : World, (sizeOf el).run P w = .ok (P.cellsOf el) w) (base : Option Addr) (len cap : Nat) (lo hi : Option Operand)
  {k1 k2 : IntKind} {m n : Int} (hlo : (lo = none ∧ m = 0) ∨ ∃ z, lo = some z ∧ a.eval z = .int k1 m) (hhi : (hi = none ∧ n = (len : Int)) ∨ ∃ z, hi = some z ∧ a.eval z = .int k2 n)
  (h1 : 0 ≤ m) (h2 : m ≤ n) (h3 : n ≤ (cap : Int)) :
  (Instr.sliceAt t (.slice base len cap) (lo.map a.eval) (hi.map a.eval) none).run P w = .ok (sliced base m.toNat n.toNat cap (P.cellsOf el)) w := by
 have he : P.elem t = el := by simp [Program.elem, hu]
 have ht : P.underlying t = some (.slice (P.elem t)) := by rw [he, hu]
 rw [run_sliceAt_slice w t _ _ _ _ ht]
 have hs := hsz w
 rw [← he] at hs
 rcases hlo with ⟨rfl, rfl⟩ | ⟨z, rfl, hz⟩ <;> rcases hhi with ⟨rfl, rfl⟩ | ⟨y, rfl, hy⟩
 ·simp only [Option.map_none]
  rw [run_slice_all w t base len cap ht, hs, he]; simp
 ·simp only [Option.map_none, Option.map_some, hy]
  rw [run_slice_h w t base len cap ht k2 n (by omega) h3, hs, he]; simp
 ·simp only [Option.map_none, Option.map_some, hz]
  rw [run_slice_l w t base len cap ht k1 m h1 h2, hs, he]; simp
 ·simp only [Option.map_some, hz, hy]
  rw [run_slice_lh w t base len cap ht k1 k2 m n h1 h2 h3, hs, he]; simp
theorem slice_sound {t : TypeId} {x : Operand} {lo hi : Option Operand} (hop : o.op = .slice t x lo hi none) (ht : opT P o = some xo) (he : evalOp cf env H xo = some (av, H')) (hE : EnvR C w a env) (hH : RH C w Hp)
  (hT : ∀ id ∈ (touched env H xo).1, Hp id = H[id]?) : H' = H ∧ PureOk P C w a o av := by
 simp only [opT, hop] at ht
 split at ht <;> first | (cases ht; done) | skip
 rename_i el hu
 simp only [Option.bind_eq_bind] at ht
 split at ht <;> first | (cases ht; done) | skip
 rename_i hel
 simp only [Option.bind_eq_some_iff, Option.some.injEq] at ht
 obtain ⟨x', hx, l', hl, h', hh, rfl⟩ := ht
 have R := operand_sound hx hE
 generalize hv : a.eval x = v at R
 obtain ⟨inf, hinf⟩ := Option.isSome_iff_exists.1 hel
 have hsz : ∀ w : World, (sizeOf el).run P w = .ok (P.cellsOf el) w := fun w => run_sizeOf w hinf
 simp only [evalOp] at he
 split at he <;> first | (cases he; done) | skip
 rename_i k1 m k2 n el1 eh1
 split at he <;> first | (cases he; done) | skip
 rename_i hb
 obtain ⟨hb1, hb2, hb3⟩ := hb
 have hlo := bound_val hl hE el1
 have hhi := bound_val hh hE eh1
 split at he <;> first | (cases he; done) | skip
 ·rename_i sz' fl xs ex
  rw [ex] at R hb3 hhi
  simp only [slLen] at hb3 hhi
  split at he <;> first | (cases he; done) | skip
  rename_i hsz'
  simp only [Option.some.injEq, Prod.mk.injEq] at he; obtain ⟨rfl, rfl⟩ := he
  refine ⟨rfl, ?_⟩
  cases R with
  | dat R =>
   cases R with
   | sl0 base cap _ _ hbn =>
    have hr := run_slice_core (w := w) (a := a) hu hsz base 0 cap lo hi hlo hhi hb1 hb2 (by simp at hb3; omega)
    simp only [List.length_nil] at hb3
    refine ⟨_, by simp only [execOp, hop, hv, Option.map_none, Sem.run_bind, hr]; rfl, ?_⟩
    simp only [List.take_nil, List.drop_nil, sliced]
    rw [show n.toNat - m.toNat = 0 by omega]
    refine .dat (.sl0 _ _ _ _ (fun h => ?_))
    have : base = none := by
     split at h
     ·exact h
     ·cases base <;> simp at h ⊢
    have := hbn this; omega
   | sl ad cap _ _ _ vs hne hF hcap hs hfl hv' hd' =>
    have hr := run_slice_core (w := w) (a := a) hu hsz (some ad) xs.length cap lo hi hlo hhi hb1 hb2 (by omega)
    refine ⟨_, by simp only [execOp, hop, hv, Option.map_none, Sem.run_bind, hr]; rfl, ?_⟩
    simp only [sliced]
    by_cases hmn : m.toNat = n.toNat
    ·rw [hmn, Nat.sub_self, List.drop_take, Nat.sub_self, List.take_zero]
     refine .dat (.sl0 _ _ _ _ (fun h => ?_))
     split at h <;> simp at h
    ·rw [if_neg (by omega)]
     have hlen : ((xs.take n.toNat).drop m.toNat).length = n.toNat - m.toNat := by simp; omega
     have hfl2 : flatten ((xs.take n.toNat).drop m.toNat) = ((flatten xs).take (n.toNat * sz')).drop (m.toNat * sz') := by
      rw [flatten_drop (sz := sz') _ (fun x hx => hs x (List.mem_of_mem_take hx)), flatten_take _ hs]
     have hget : ∀ (k : Nat) (d : Dat), (flatten ((xs.take n.toNat).drop m.toNat))[k]? = some d → (flatten xs)[m.toNat * sz' + k]? = some d := by
      intro k d hk
      rw [hfl2, List.getElem?_drop, List.getElem?_take] at hk
      split at hk
      ·exact hk
      ·cases hk
     have hsub : ∀ x ∈ (xs.take n.toNat).drop m.toNat, x ∈ xs := fun x hx => List.mem_of_mem_take (List.mem_of_mem_drop hx)
     have := RD.sl (Fz := C.Fz) (w := w) (ad.add (m.toNat * sz')) (cap - m.toNat) sz' fl ((xs.take n.toNat).drop m.toNat) (fun k => vs (m.toNat * sz' + k))
      (fun e => by rw [e] at hlen; simp at hlen; omega) (by rw [add_block]; exact hF) (by omega) (fun x hx => hs x (hsub x hx)) (fun h x hx => hfl h x (hsub x hx))
      (fun k d hk => by rw [add_add]; exact hv' _ d (hget k d hk)) (fun k d hk => hd' _ d (hget k d hk))
     rw [hlen] at this
     rw [← hsz']
     exact .dat this
 ·rename_i id off len ex
  rw [ex] at R hb3 hhi
  simp only [slLen] at hb3 hhi
  split at he <;> first | (cases he; done) | skip
  rename_i e' sz' fl fz xs hb
  split at he
  rotate_left
  ·split at he <;> first | (cases he; done) | skip
   rename_i hge hsz'
   have hlt : ¬ m < (len : Int) := fun h => hge ⟨hsz', h⟩
   simp only [Option.some.injEq, Prod.mk.injEq] at he; obtain ⟨rfl, rfl⟩ := he
   refine ⟨rfl, ?_⟩
   have hmn : m.toNat = n.toNat := by omega
   cases R with
   | own _ _ _ g cap hD h hl =>
    have hr := run_slice_core (w := w) (a := a) hu hsz (some ⟨g, off * C.sz id, none⟩) len (cap - off) lo hi hlo hhi hb1 hb2 (by omega)
    refine ⟨_, by simp only [execOp, hop, hv, Option.map_none, Sem.run_bind, hr]; rfl, ?_⟩
    simp only [sliced]
    rw [hmn, Nat.sub_self]
    refine .dat (.sl0 _ _ _ _ (fun h => ?_))
    split at h <;> simp at h
   | own0 base _ hD h =>
    have hr := run_slice_core (w := w) (a := a) hu hsz base 0 0 lo hi hlo hhi hb1 hb2 (by omega)
    refine ⟨_, by simp only [execOp, hop, hv, Option.map_none, Sem.run_bind, hr]; rfl, ?_⟩
    simp only [sliced]
    rw [hmn, Nat.sub_self]
    refine .dat (.sl0 _ _ _ _ (fun _ => by simp))
  rename_i hlt
  obtain ⟨hsz', hlt⟩ := hlt
  simp only [Option.some.injEq, Prod.mk.injEq] at he; obtain ⟨rfl, rfl⟩ := he
  have hp := hT id (by simp [touched, ex, AV.refs])
  rw [hb] at hp
  have hB := hH.blk id _ hp
  have hzz : C.sz id = sz' := by cases hB <;> assumption
  refine ⟨rfl, ?_⟩
  cases R with
  | own _ _ _ g cap hD h hl =>
   have hr := run_slice_core (w := w) (a := a) hu hsz (some ⟨g, off * C.sz id, none⟩) len (cap - off) lo hi hlo hhi hb1 hb2 (by omega)
   refine ⟨_, by simp only [execOp, hop, hv, Option.map_none, Sem.run_bind, hr]; rfl, ?_⟩
   simp only [sliced]
   rw [if_neg (by omega), Option.map_some, mk_add, ← hsz', ← hzz, ← Nat.add_mul, Nat.sub_sub]
   exact .own id (off + m.toNat) (n.toNat - m.toNat) g cap hD h (by omega)
  | own0 => omega
theorem sidx_sound {t : TypeId} {x i : Operand} (hop : o.op = .index t x i) {x' i' : XO} (hxo : xo = .sidx x' i') (ht : opT P o = some xo) (he : evalOp cf env H xo = some (av, H')) (hE : EnvR C w a env) : H' = H ∧ PureOk P C w a o av := by
 subst hxo
 simp only [opT, hop] at ht
 split at ht <;> first | (cases ht; done) | skip
 ·simp only [Option.bind_eq_bind, Option.bind_eq_some_iff, Option.some.injEq] at ht
  obtain ⟨_, _, _, _, _, _, h⟩ := ht; cases h
 rename_i hu
 simp only [Option.bind_eq_bind, Option.bind_eq_some_iff, Option.some.injEq, XOp.sidx.injEq] at ht
 obtain ⟨x2, hx, i2, hi, rfl, rfl⟩ := ht
 have R := operand_sound hx hE
 have Ri := operand_sound hi hE
 generalize hv : a.eval x = v at R
 generalize hvi : a.eval i = vi at Ri
 simp only [evalOp] at he
 split at he <;> first | (cases he; done) | skip
 rename_i s k m e1 e2
 rw [e1] at R; rw [e2] at Ri
 split at he <;> first | (cases he; done) | skip
 rename_i hm
 split at he <;> first | (cases he; done) | skip
 rename_i b hb
 simp only [Option.some.injEq, Prod.mk.injEq] at he; obtain ⟨rfl, rfl⟩ := he
 cases R with
 | dat R => cases R with
  | str =>
   cases Ri with
   | dat Ri => cases Ri with
    | int =>
     have hb' : s[m.toNat]? = some b := by
      have h1 : s.data[m.toNat]? = some b := by simpa using hb
      obtain ⟨hl, hg⟩ := Array.getElem?_eq_some_iff.1 h1
      have hl' : m.toNat < s.size := hl
      rw [getElem?_pos s m.toNat hl']
      exact congrArg some hg
     exact ⟨rfl, .int .u8 b.toNat, by simp [execOp, hop, hv, hvi, Instr.index, asIntOf, run_underlying hu, hm, hb'], .dat (.int _ _)⟩
theorem idx_sound {t : TypeId} {x i : Operand} (hop : o.op = .index t x i) (hne : ∀ x' i', xo ≠ .sidx x' i') (ht : opT P o = some xo) (he : evalOp cf env H xo = some (av, H')) (hE : EnvR C w a env) : H' = H ∧ PureOk P C w a o av := by
 simp only [opT, hop] at ht
 split at ht <;> first | (cases ht; done) | skip
 rotate_left
 ·simp only [Option.bind_eq_bind, Option.bind_eq_some_iff, Option.some.injEq] at ht
  obtain ⟨_, _, _, _, h⟩ := ht
  exact absurd h.symm (hne _ _)
 rename_i n el hu
 simp only [Option.bind_eq_bind, Option.bind_eq_some_iff, Option.some.injEq] at ht
 obtain ⟨ag, hag, x', hx, i', hi, rfl⟩ := ht
 have R := operand_sound hx hE
 have Ri := operand_sound hi hE
 generalize hv : a.eval x = v at R
 generalize hvi : a.eval i = vi at Ri
 simp only [evalOp] at he
 split at he <;> first | (cases he; done) | skip
 rename_i k m e; rw [e] at Ri
 split at he <;> first | (cases he; done) | skip
 rename_i hm
 obtain ⟨hm0, hm1⟩ := hm
 have hsz : (sizeOf el).run P w = .ok (P.cellsOf el) w := by
  obtain ⟨d, hd⟩ : ∃ d, P.underlying el = some d := by
   unfold aggOf at hag; cases hd : P.underlying el with
   | none => rw [hd] at hag; cases hag
   | some d => exact ⟨d, rfl⟩
  exact run_sizeOf' hd w
 cases Ri with | dat Ri => cases Ri; (
  split at he <;> first | (cases he; done) | skip
  ·rename_i cs ex; rw [ex] at R
   split at he <;> first | (cases he; done) | skip
   rename_i y hy
   simp only [Option.some.injEq, Prod.mk.injEq] at he; obtain ⟨rfl, rfl⟩ := he
   cases R with
   | agg vs _ hn h =>
    have hRL : RL C w vs.toList cs := ⟨by simpa using hn, fun j u x hu hx => h j x u hx (by simpa using hu)⟩
    obtain ⟨u, h1, h2⟩ := part_sound hag hRL hy
    have h1' : (part el vs (m.toNat * P.cellsOf el)).run P w = .ok u w := by simpa using h1
    exact ⟨rfl, u, by simp [execOp, hop, hv, hvi, Instr.index, asIntOf, run_underlying hu, hm0, hm1, hsz, h1'], h2⟩
  ·rename_i ds ex; rw [ex] at R
   split at he <;> first | (cases he; done) | skip
   rename_i y hy
   simp only [Option.some.injEq, Prod.mk.injEq] at he; obtain ⟨rfl, rfl⟩ := he
   cases R with
   | dat R => cases R with
    | agg vs _ hn h =>
     have hRL : RL C w vs.toList (ds.map .dat) := ⟨by simpa using hn, fun j u x hu hx => by
      simp only [List.getElem?_map, Option.map_eq_some_iff] at hx
      obtain ⟨d, hd, rfl⟩ := hx
      exact .dat (h j d u hd (by simpa using hu))⟩
     rw [List.map_drop] at hy
     obtain ⟨u, h1, h2⟩ := part_sound hag hRL hy
     have h1' : (part el vs (m.toNat * P.cellsOf el)).run P w = .ok u w := by simpa using h1
     exact ⟨rfl, u, by simp [execOp, hop, hv, hvi, Instr.index, asIntOf, run_underlying hu, hm0, hm1, hsz, h1'], h2⟩)
theorem mm_sound {c : Call} {b : Builtin} (hop : o.op = .call c) (hc : c.callee = .builtin b) (hb : b = .max ∨ b = .min) (ht : opT P o = some xo) (he : evalOp cf env H xo = some (av, H')) (hE : EnvR C w a env) : H' = H ∧ PureOk P C w a o av := by
 obtain ⟨callee, args, argTypes⟩ := c
 simp only at hc; subst hc
 have hx : ∃ x y x' y' mx, args = #[x, y] ∧ operandT P none x = some x' ∧ operandT P none y = some y' ∧ xo = .mm mx x' y' ∧ (mx = true ↔ b = .max) := by
  rcases hb with rfl | rfl <;> simp only [opT, hop] at ht <;> split at ht <;> first | (cases ht; done) | skip
  all_goals
   rename_i x y hargs
   simp only [Option.bind_eq_bind, Option.bind_eq_some_iff, Option.some.injEq] at ht
   obtain ⟨x', hx, y', hy, rfl⟩ := ht
   exact ⟨x, y, x', y', _, by rw [← Array.toArray_toList (xs := args), hargs], hx, hy, rfl, by simp⟩
 obtain ⟨x, y, x', y', mx, rfl, hx, hy, rfl, hmx⟩ := hx
 have Rx := operand_sound hx hE
 have Ry := operand_sound hy hE
 generalize hvx : a.eval x = vx at Rx
 generalize hvy : a.eval y = vy at Ry
 simp only [evalOp] at he
 split at he <;> first | (cases he; done) | skip
 rename_i k m k' n e1 e2
 rw [e1] at Rx; rw [e2] at Ry
 split at he <;> first | (cases he; done) | skip
 rename_i hk; subst hk
 simp only [Option.some.injEq, Prod.mk.injEq] at he; obtain ⟨rfl, rfl⟩ := he
 refine ⟨rfl, ?_⟩
 cases Rx with | dat Rx => cases Rx; cases Ry with | dat Ry => cases Ry; (
  refine ⟨_, ?_, .dat (.int _ _)⟩
  rcases hb with rfl | rfl
  ·have : mx = true := hmx.2 rfl
   subst this
   simp [execOp, hop, resolve, invoke, builtin, Builtin.max_, Builtin.max2, hvx, hvy]
  ·have : mx = false := by cases mx; (· rfl); (· exact absurd (hmx.1 rfl) (by simp))
   subst this
   simp [execOp, hop, resolve, invoke, builtin, Builtin.min_, Builtin.min2, hvx, hvy])
end Go.Ax
namespace Go.Ax
set_option linter.unusedSectionVars false
open Go.RowKit
variable [Gls]
variable {P : Program} {C : Ctx} {w : World} {a : Act} {env : Env} {H H' : List Blk} {cf : CallF} {av : AV} {o : Oper} {xo : XOp} {Hp : Nat → Option Blk}
theorem cellsEq_append : ∀ {p : List LK} {q : List LK} {xs ys : List AV} {b : Bool}, cellsEq (p ++ q) xs ys = some b → ∃ b1 b2, cellsEq p (xs.take p.length) (ys.take p.length) = some b1 ∧
  cellsEq q (xs.drop p.length) (ys.drop p.length) = some b2 ∧ b = (b1 && b2)
 | [], q, xs, ys, b, h => ⟨true, b, by simp [cellsEq], by simpa using h, by simp⟩
 | k :: p, q, x :: xs, y :: ys, b, h => by
  simp only [List.cons_append, cellsEq] at h
  split at h <;> first | (cases h; done) | skip
  rename_i c hc
  split at h <;> first | (cases h; done) | skip
  rename_i d hd
  injection h with h; subst h
  obtain ⟨b1, b2, h1, h2, rfl⟩ := cellsEq_append hd
  exact ⟨c && b1, b2, by simp [cellsEq, hc, h1], by simpa using h2, by cases c <;> cases b1 <;> rfl⟩
 | _ :: _, _, [], _, _, h => by simp [cellsEq] at h
 | _ :: _, _, _ :: _, [], _, h => by simp [cellsEq] at h
theorem eqGuardType_of_plan : ∀ (k : Nat) (t : TypeId) (pl : List LK), eqPlan P k t = some pl → ∀ d, k ≤ d → P.eqGuardType d t = false
 | 0, _, _, h, _, _ => by simp [eqPlan] at h
 | k + 1, t, pl, h, d, hd => by
  obtain ⟨d, rfl⟩ : ∃ m, d = m + 1 := ⟨d - 1, by omega⟩
  simp only [eqPlan] at h
  unfold Program.eqGuardType
  split at h <;> first | (cases h; done) | skip
  ·rename_i hu; rw [hu]
  ·rename_i hu; rw [hu]
  ·rename_i hu; rw [hu]
  ·rename_i fs hu; rw [hu]
   split at h <;> first | (cases h; done) | skip
   have key : ∀ (l : List Field) (pos : Nat) (pl : List LK), planFields P (eqPlan P k) pos l = some pl → ∀ f ∈ l, (f.name != "_" && P.eqGuardType d f.type) = false := by
    intro l
    induction l with
    | nil => intro _ _ _ f hf; cases hf
    | cons g l ih =>
     intro pos pl hp f hf
     simp only [planFields] at hp
     split at hp <;> first | (cases hp; done) | skip
     split at hp <;> first | (cases hp; done) | skip
     rename_i p hg
     split at hp <;> first | (cases hp; done) | skip
     split at hp <;> first | (cases hp; done) | skip
     rename_i q hq
     rcases List.mem_cons.1 hf with rfl | hf
     ·rw [eqGuardType_of_plan k _ _ hg d (by omega)]; simp
     ·exact ih _ _ hq f hf
   simp only
   rw [← Array.any_toList]
   rw [List.any_eq_false]
   intro f hf
   rw [key _ _ _ h f hf]; simp
theorem aggOf_of_plan {k : Nat} {t : TypeId} {pl : List LK} (h : eqPlan P k t = some pl) : aggOf P t = some (some (P.cellsOf t)) ∨ (aggOf P t = some none ∧ ∃ x, pl = [x]) := by
 cases k with
 | zero => simp [eqPlan] at h
 | succ k =>
  simp only [eqPlan] at h
  unfold aggOf
  split at h <;> first | (cases h; done) | skip
  ·rename_i hu; rw [hu]; injection h with h; exact .inr ⟨rfl, _, h.symm⟩
  ·rename_i hu; rw [hu]; injection h with h; exact .inr ⟨rfl, _, h.symm⟩
  ·rename_i hu; rw [hu]; injection h with h; exact .inr ⟨rfl, _, h.symm⟩
  ·rename_i fs hu; rw [hu]; exact .inl rfl
theorem equalIn_sound : ∀ (k : Nat) (t : TypeId) (pl : List LK), eqPlan P k t = some pl → ∀ (d : Nat), k ≤ d → ∀ (xs ys : List AV) (us vs : List Value) (b : Bool), RL C w us xs → RL C w vs ys →
  cellsEq pl xs ys = some b →
  (∀ u v, (aggOf P t = some none → u = us.headD undef ∧ v = vs.headD undef) → (aggOf P t ≠ some none → u = .agg us.toArray ∧ v = .agg vs.toArray) → (Op.equalIn d t u v).run P w = .ok b w)
 | 0, _, _, h, _, _, _, _, _, _, _, _, _, _ => by simp [eqPlan] at h
 | k + 1, t, pl, h, d, hd, xs, ys, us, vs, b, hX, hY, hb => by
  obtain ⟨d, rfl⟩ : ∃ m, d = m + 1 := ⟨d - 1, by omega⟩
  intro u v h1 h2
  have leaf : ∀ lk : LK, pl = [lk] → ∃ x y, xs = [x] ∧ ys = [y] ∧ us = [us.headD undef] ∧ vs = [vs.headD undef] ∧ RV C w (us.headD undef) x ∧ RV C w (vs.headD undef) y ∧ leafEq lk x y = some b := by
   intro lk e; subst e
   cases xs with
   | nil => simp [cellsEq] at hb
   | cons x xs =>
    cases ys with
    | nil => simp [cellsEq] at hb
    | cons y ys =>
     simp only [cellsEq] at hb
     split at hb <;> first | (cases hb; done) | skip
     rename_i c hc
     cases xs <;> cases ys <;> simp [cellsEq] at hb
     subst hb
     obtain ⟨hx1, hx2⟩ := hX
     obtain ⟨hy1, hy2⟩ := hY
     cases us with
     | nil => simp at hx1
     | cons u us => cases us with
      | cons _ _ => simp at hx1
      | nil => cases vs with
       | nil => simp at hy1
       | cons v vs => cases vs with
        | cons _ _ => simp at hy1
        | nil => exact ⟨x, y, rfl, rfl, rfl, rfl, hx2 0 u x rfl rfl, hy2 0 v y rfl rfl, hc⟩
  simp only [eqPlan] at h
  split at h <;> first | (cases h; done) | skip
  ·rename_i hu
   injection h with h
   obtain ⟨x, y, -, -, -, -, hx, hy, hl⟩ := leaf .b h.symm
   obtain ⟨rfl, rfl⟩ := h1 (by simp [aggOf, hu])
   generalize us.headD undef = u at hx
   generalize vs.headD undef = v at hy
   unfold leafEq at hl
   split at hl <;> first | (cases hl; done) | skip
   ·injection hl with hl; subst hl
    cases hx with | dat hx => cases hx; cases hy with | dat hy => cases hy; exact run_equalIn_bool' w d t _ _ hu
   all_goals rename_i e; cases e
  ·rename_i ik hu
   injection h with h
   obtain ⟨x, y, -, -, -, -, hx, hy, hl⟩ := leaf .i h.symm
   obtain ⟨rfl, rfl⟩ := h1 (by simp [aggOf, hu])
   generalize us.headD undef = u at hx
   generalize vs.headD undef = v at hy
   unfold leafEq at hl
   split at hl <;> first | (cases hl; done) | skip
   ·rename_i e; cases e
   ·split at hl <;> first | (cases hl; done) | skip
    rename_i hk; subst hk
    injection hl with hl; subst hl
    cases hx with | dat hx => cases hx; cases hy with | dat hy => cases hy; exact run_equalIn_int w d t _ _ _ _ hu
   ·rename_i e; cases e
  ·rename_i hu
   injection h with h
   obtain ⟨x, y, -, -, -, -, hx, hy, hl⟩ := leaf .s h.symm
   obtain ⟨rfl, rfl⟩ := h1 (by simp [aggOf, hu])
   generalize us.headD undef = u at hx
   generalize vs.headD undef = v at hy
   unfold leafEq at hl
   split at hl <;> first | (cases hl; done) | skip
   ·rename_i e; cases e
   ·rename_i e; cases e
   ·injection hl with hl; subst hl
    cases hx with | dat hx => cases hx; cases hy with | dat hy => cases hy; rw [run_equalIn_string w d t _ _ hu, beq_toListBytes]
  ·rename_i fs hu
   split at h <;> first | (cases h; done) | skip
   rename_i hst
   obtain ⟨rfl, rfl⟩ := h2 (by simp [aggOf, hu])
   have hfo : P.fieldsOf t = fs := by simp [Program.fieldsOf, hu]
   rw [run_equalIn_struct w d t _ _ (by rw [hfo, hu]) (by simpa using hst), hfo]
   have key : ∀ (l : List Field) (pos : Nat) (pl : List LK) (b : Bool), planFields P (eqPlan P k) pos l = some pl → cellsEq pl (xs.drop pos) (ys.drop pos) = some b →
     (Op.eqFields d us.toArray vs.toArray l).run P w = .ok b w := by
    intro l
    induction l with
    | nil =>
     intro pos pl b hp hc
     simp only [planFields, Option.some.injEq] at hp; subst hp
     have : b = true := by
      generalize xs.drop pos = A at hc
      generalize ys.drop pos = B at hc
      cases A <;> cases B <;> simp [cellsEq] at hc
      exact hc
     subst this
     simp [Op.eqFields]
    | cons f l ih =>
     intro pos pl b hp hc
     simp only [planFields] at hp
     split at hp <;> first | (cases hp; done) | skip
     rename_i hf
     obtain ⟨hname, hoff⟩ := hf
     split at hp <;> first | (cases hp; done) | skip
     rename_i p hg
     split at hp <;> first | (cases hp; done) | skip
     rename_i hpl
     split at hp <;> first | (cases hp; done) | skip
     rename_i q hq
     injection hp with hp; subst hp
     obtain ⟨b1, b2, hc1, hc2, rfl⟩ := cellsEq_append hc
     rw [List.drop_drop] at hc2
     rw [List.drop_drop] at hc2
     have hrest := ih (pos + p.length) q b2 hq hc2
     have hlen : ∀ {p : List LK} {xs ys : List AV} {b : Bool}, cellsEq p xs ys = some b → xs.length = p.length ∧ ys.length = p.length := by
      intro p
      induction p with
      | nil => intro xs ys b h; cases xs <;> cases ys <;> simp [cellsEq] at h ⊢
      | cons k p ih =>
       intro xs ys b h
       cases xs <;> cases ys <;> simp only [cellsEq] at h <;> first | (cases h; done) | skip
       split at h <;> first | (cases h; done) | skip
       split at h <;> first | (cases h; done) | skip
       rename_i _ hd
       have := ih hd
       simp [this.1, this.2]
     have hXs := (hX.drop pos).take p.length
     have hYs := (hY.drop pos).take p.length
     have hl1 := hlen hc1
     have hparts : ∃ pu pv, (part f.type us.toArray f.offset).run P w = .ok pu w ∧ (part f.type vs.toArray f.offset).run P w = .ok pv w ∧ (Op.equalIn d f.type pu pv).run P w = .ok b1 w := by
      have main := equalIn_sound k f.type p hg d (by omega) _ _ _ _ b1 hXs hYs hc1
      subst hoff
      rcases aggOf_of_plan hg with ha | ⟨ha, lk, hlk⟩
      ·refine ⟨.agg ((us.drop f.offset).take p.length).toArray, .agg ((vs.drop f.offset).take p.length).toArray, ?_, ?_, main _ _ (fun e => by rw [ha] at e; cases e) (fun _ => ⟨rfl, rfl⟩)⟩
       ·obtain ⟨hn2, dd, hdd⟩ := aggOf_some ha
        simp only [part, Sem.run_bind, run_isAgg ha w, Result.andThen_ok, Option.isSome_some, if_true, run_sizeOf' hdd, Sem.run_pure, hpl]
        congr 2; apply Array.ext'; simp
       ·obtain ⟨hn2, dd, hdd⟩ := aggOf_some ha
        simp only [part, Sem.run_bind, run_isAgg ha w, Result.andThen_ok, Option.isSome_some, if_true, run_sizeOf' hdd, Sem.run_pure, hpl]
        congr 2; apply Array.ext'; simp
      ·subst hlk
       have hl2 := hXs.1
       have hl3 := hYs.1
       rw [hl1.1] at hl2
       rw [hl1.2] at hl3
       simp only [List.length_take, List.length_drop, List.length_cons, List.length_nil] at hl2 hl3
       have e1 : f.offset < us.length := by omega
       have e2 : f.offset < vs.length := by omega
       refine ⟨us[f.offset], vs[f.offset], ?_, ?_, main _ _ (fun _ => ⟨?_, ?_⟩) (fun e => absurd ha e)⟩
       ·simp [part, run_isAgg ha w, e1]
       ·simp [part, run_isAgg ha w, e2]
       ·rw [List.drop_eq_getElem_cons e1]; rfl
       ·rw [List.drop_eq_getElem_cons e2]; rfl
     obtain ⟨pu, pv, h1, h2, h3⟩ := hparts
     simp only [Op.eqFields]
     simp only [hname, ne_eq, not_false_eq_true, if_true, Sem.run_bind, h1, h2, h3, Result.andThen_ok]
     cases b1 with
     | true => simpa using hrest
     | false => simp
   exact key _ 0 pl b h (by simpa using hb)
theorem depth_le : 16 ≤ P.depth := by unfold Program.depth Made.depth; omega
theorem RV.agg_of {v : Value} {x : AV} (h : RV C w v x) (hx : x.isAgg = true) : ∃ us : List Value, v = .agg us.toArray ∧ RL C w us x.cells := by
 cases h <;> first | (simp [AV.isAgg] at hx; done) | skip
 ·rename_i d h
  cases h <;> first | (simp [AV.isAgg] at hx; done) | skip
  rename_i vs ds hn h
  refine ⟨vs.toList, rfl, by simpa [AV.cells] using hn, fun j u y hu hy => ?_⟩
  simp only [AV.cells, List.getElem?_map, Option.map_eq_some_iff] at hy
  obtain ⟨d, hd, rfl⟩ := hy
  exact .dat (h j d u hd (by simpa using hu))
 ·rename_i vs cs hn h
  exact ⟨vs.toList, rfl, by simpa [AV.cells] using hn, fun j u y hu hy => h j y u hy (by simpa using hu)⟩
theorem RV.leaf_of {v : Value} {x : AV} (h : RV C w v x) (hx : x.isAgg = false) : RL C w [v] x.cells := by
 have e : x.cells = [x] := by
  cases x <;> first | rfl | (simp [AV.isAgg] at hx; done) | skip
  rename_i d; cases d <;> first | rfl | (simp [AV.isAgg] at hx; done)
 rw [e]; exact RL.cons h RL.nil
def isNeq : BinOp → Bool
 | .neq => true
 | _ => false
theorem run_eqnil_slice {t e : TypeId} (hu : P.underlying t = some (.slice e)) (b : Option Addr) (n c : Nat) : (Op.equal t (.slice b n c) (.slice none 0 0)).run P w = .ok b.isNone w := by
 show (Op.equalIn (9999 + 1) t (.slice b n c) (.slice none 0 0)).run P w = _
 rw [Op.equalIn]
 cases b <;> simp [run_underlying hu]
theorem run_eqnil_ptr {t e : TypeId} (hu : P.underlying t = some (.pointer e)) (b : Option Addr) : (Op.equal t (.pointer b) (.pointer none)).run P w = .ok b.isNone w := by
 show (Op.equalIn (9999 + 1) t (.pointer b) (.pointer none)).run P w = _
 rw [Op.equalIn]
 cases b <;> simp [run_underlying hu]
theorem eqn_sound {op : BinOp} {t u : TypeId} {x y : Operand} (hop : o.op = .binOp op t x y u) (hb : op = .eql ∨ op = .neq) (ht : opT P o = some xo) {k ng : Bool} {x' : XO} (hxo : xo = .eqn k ng x') (he : evalOp cf env H xo = some (av, H')) (hE : EnvR C w a env) : H' = H ∧ PureOk P C w a o av := by
 subst hxo
 have ht' : nilT P t y = some k ∧ operandT P (some t) x = some x' ∧ ng = isNeq op := by
  rcases hb with rfl | rfl <;>
  ·simp only [opT, hop] at ht
   split at ht
   ·simp only [Option.bind_eq_bind, Option.bind_eq_some_iff, Option.some.injEq] at ht
    obtain ⟨_, _, _, _, h⟩ := ht; cases h
   ·split at ht
    ·rename_i hn
     simp only [Option.map_eq_some_iff, XOp.eqn.injEq] at ht
     obtain ⟨x2, hx, rfl, rfl, rfl⟩ := ht
     exact ⟨hn, hx, rfl⟩
    ·split at ht <;> first | (cases ht; done) | skip
     simp only [Option.map_eq_some_iff] at ht
     obtain ⟨_, _, h⟩ := ht; cases h
 obtain ⟨hn, hx, rfl⟩ := ht'
 have Rx := operand_sound hx hE
 generalize hvx : a.eval x = vx at Rx
 simp only [evalOp] at he
 split at he <;> first | (cases he; done) | skip
 rename_i b hb2
 simp only [Option.some.injEq, Prod.mk.injEq] at he; obtain ⟨rfl, rfl⟩ := he
 refine ⟨rfl, .bool (isNeq op != b), ?_, .dat (.bool _)⟩
 have hy : (k = true ∧ (∃ e, P.underlying t = some (.slice e)) ∧ a.eval y = .slice none 0 0) ∨ (k = false ∧ (∃ e, P.underlying t = some (.pointer e)) ∧ a.eval y = .pointer none) := by
  unfold nilT at hn
  split at hn
  ·split at hn <;> first | (cases hn; done) | skip
   rename_i e he; injection hn with hn; exact .inl ⟨hn.symm, ⟨e, he⟩, rfl⟩
  ·split at hn <;> first | (cases hn; done) | skip
   rename_i e he; injection hn with hn; exact .inr ⟨hn.symm, ⟨e, he⟩, rfl⟩
  ·cases hn
 have sl : ∀ (ad : Option Addr) (n c : Nat), k = true → vx = .slice ad n c → (do eqGuard op t x y vx (a.eval y); binOp op t vx (a.eval y) : Sem Value).run P w = .ok (.bool (isNeq op != ad.isNone)) w := by
  intro ad n c hk hv
  rcases hy with ⟨_, ⟨e, hu⟩, hvy⟩ | ⟨h, _⟩
  ·rw [hv, hvy]
   have hr := run_eqnil_slice (w := w) hu ad n c
   rcases hb with rfl | rfl <;> simp [eqGuard, binOp, hr, isNeq]
  ·rw [hk] at h; cases h
 have pt : ∀ (ad : Option Addr), k = false → vx = .pointer ad → (do eqGuard op t x y vx (a.eval y); binOp op t vx (a.eval y) : Sem Value).run P w = .ok (.bool (isNeq op != ad.isNone)) w := by
  intro ad hk hv
  rcases hy with ⟨h, _⟩ | ⟨_, ⟨e, hu⟩, hvy⟩
  ·rw [hk] at h; cases h
  ·rw [hv, hvy]
   have hr := run_eqnil_ptr (w := w) hu ad
   rcases hb with rfl | rfl <;> simp [eqGuard, binOp, hr, isNeq]
 suffices h : (do eqGuard op t x y vx (a.eval y); binOp op t vx (a.eval y) : Sem Value).run P w = .ok (.bool (isNeq op != b)) w by
  simp only [execOp, hop, hvx]
  rw [Sem.run_bind, h]; rfl
 unfold isNil at hb2
 split at hb2 <;> first | (cases hb2; done) | skip
 all_goals
  rename_i ex
  rw [ex] at Rx
  injection hb2 with hb2; subst hb2
 ·cases Rx with | dat R => cases R; exact sl _ _ _ rfl rfl
 ·cases Rx with | dat R => cases R; exact pt _ rfl rfl
 ·cases Rx; exact pt _ rfl rfl
 ·cases Rx; exact pt _ rfl rfl
 ·cases Rx; exact pt _ rfl rfl
theorem run_eqnil_map {t k e : TypeId} (hu : P.underlying t = some (.map k e)) (b : Option Nat) : (Op.equal t (.map b) (.map none)).run P w = .ok b.isNone w := by
 show (Op.equalIn (9999 + 1) t (.map b) (.map none)).run P w = _
 rw [Op.equalIn]
 cases b <;> simp [run_underlying hu]
theorem eqm_sound {op : BinOp} {t u : TypeId} {x y : Operand} (hop : o.op = .binOp op t x y u) (hb : op = .eql ∨ op = .neq) (ht : opT P o = some xo) {ng : Bool} {x' : XO} (hxo : xo = .eqm ng x') (he : evalOp cf env H xo = some (av, H')) (hE : EnvR C w a env) : H' = H ∧ PureOk P C w a o av := by
 subst hxo
 have ht' : mapNil P t y = true ∧ operandT P (some t) x = some x' ∧ ng = isNeq op := by
  rcases hb with rfl | rfl <;>
  ·simp only [opT, hop] at ht
   split at ht
   ·simp only [Option.bind_eq_bind, Option.bind_eq_some_iff, Option.some.injEq] at ht
    obtain ⟨_, _, _, _, h⟩ := ht; cases h
   ·split at ht
    ·simp only [Option.map_eq_some_iff] at ht
     obtain ⟨_, _, h⟩ := ht; cases h
    ·split at ht <;> first | (cases ht; done) | skip
     rename_i hn
     simp only [Option.map_eq_some_iff, XOp.eqm.injEq] at ht
     obtain ⟨x2, hx, rfl, rfl⟩ := ht
     exact ⟨hn, hx, rfl⟩
 obtain ⟨hn, hx, rfl⟩ := ht'
 have Rx := operand_sound hx hE
 generalize hvx : a.eval x = vx at Rx
 have hy : (∃ k e, P.underlying t = some (.map k e)) ∧ a.eval y = .map none := by
  unfold mapNil at hn
  split at hn
  ·split at hn
   ·rename_i k e he; exact ⟨⟨k, e, he⟩, rfl⟩
   ·cases hn
  ·cases hn
 obtain ⟨⟨k, e, hu⟩, hvy⟩ := hy
 have key : ∀ (r : Option Nat), vx = .map r → (do eqGuard op t x y vx (a.eval y); binOp op t vx (a.eval y) : Sem Value).run P w = .ok (.bool (isNeq op != r.isNone)) w := by
  intro r hv
  rw [hv, hvy]
  have hr := run_eqnil_map (w := w) hu r
  rcases hb with rfl | rfl <;> simp [eqGuard, binOp, hr, isNeq]
 simp only [evalOp] at he
 split at he <;> first | (cases he; done) | skip
 ·rename_i id ex
  rw [ex] at Rx
  simp only [Option.some.injEq, Prod.mk.injEq] at he; obtain ⟨rfl, rfl⟩ := he
  cases Rx
  refine ⟨rfl, .bool (isNeq op), ?_, .dat (.bool _)⟩
  have := key _ rfl
  simp only [execOp, hop, hvx]
  rw [Sem.run_bind, this]; simp
 ·rename_i ex
  rw [ex] at Rx
  simp only [Option.some.injEq, Prod.mk.injEq] at he; obtain ⟨rfl, rfl⟩ := he
  cases Rx with
  | dat R =>
   cases R
   refine ⟨rfl, .bool (!isNeq op), ?_, .dat (.bool _)⟩
   have := key _ rfl
   simp only [execOp, hop, hvx]
   rw [Sem.run_bind, this]; simp
theorem eqv_sound {op : BinOp} {t u : TypeId} {x y : Operand} (hop : o.op = .binOp op t x y u) (hb : op = .eql ∨ op = .neq) (hne : ∀ k ng x', xo ≠ .eqn k ng x') (hne2 : ∀ ng x', xo ≠ .eqm ng x') (ht : opT P o = some xo) (he : evalOp cf env H xo = some (av, H')) (hE : EnvR C w a env) : H' = H ∧ PureOk P C w a o av := by
 have ht' : ∃ pl x' y', eqPlan P 16 t = some pl ∧ operandT P (some t) x = some x' ∧ operandT P (some t) y = some y' ∧ xo = .eqv (isNeq op) (aggOf P t).join.isSome pl x' y' := by
  rcases hb with rfl | rfl <;>
  ·simp only [opT, hop] at ht
   split at ht
   rotate_left
   ·split at ht
    ·simp only [Option.map_eq_some_iff] at ht
     obtain ⟨x', _, rfl⟩ := ht
     exact absurd rfl (hne _ _ x')
    ·split at ht <;> first | (cases ht; done) | skip
     simp only [Option.map_eq_some_iff] at ht
     obtain ⟨x', _, rfl⟩ := ht
     exact absurd rfl (hne2 _ x')
   rename_i pl hpl
   simp only [Option.bind_eq_bind, Option.bind_eq_some_iff, Option.some.injEq] at ht
   obtain ⟨x', hx, y', hy, rfl⟩ := ht
   exact ⟨pl, x', y', hpl, hx, hy, rfl⟩
 obtain ⟨pl, x', y', hpl, hx, hy, rfl⟩ := ht'
 have Rx := operand_sound hx hE
 have Ry := operand_sound hy hE
 generalize hvx : a.eval x = vx at Rx
 generalize hvy : a.eval y = vy at Ry
 simp only [evalOp] at he
 split at he <;> first | (cases he; done) | skip
 rename_i hag
 obtain ⟨hag1, hag2⟩ := hag
 split at he <;> first | (cases he; done) | skip
 rename_i b hc
 simp only [Option.some.injEq, Prod.mk.injEq] at he; obtain ⟨rfl, rfl⟩ := he
 refine ⟨rfl, .bool ((isNeq op) != b), ?_, .dat (.bool _)⟩
 suffices h : (do eqGuard op t x y vx vy; binOp op t vx vy : Sem Value).run P w = .ok (.bool ((isNeq op) != b)) w by
  simp only [execOp, hop, hvx, hvy]
  rw [Sem.run_bind, h]; rfl
 have hmain := equalIn_sound (C := C) (w := w) 16 t pl hpl 10000 (by omega)
 rcases aggOf_of_plan hpl with ha | ⟨ha, lk, rfl⟩
 ·rw [ha] at hag1 hag2
  obtain ⟨us, rfl, hU⟩ := Rx.agg_of hag1
  obtain ⟨vs, rfl, hV⟩ := Ry.agg_of hag2
  have hq := hmain _ _ us vs b hU hV hc (.agg us.toArray) (.agg vs.toArray) (fun e => by rw [ha] at e; cases e) (fun _ => ⟨rfl, rfl⟩)
  have hg := run_eqGuard_agg (P := P) w op t x y us.toArray vs.toArray (eqGuardType_of_plan 16 t pl hpl _ depth_le)
  rw [Sem.run_bind, hg]
  simp only [Result.andThen_ok]
  rcases hb with rfl | rfl
  ·rw [run_eql_struct, hq]; simp [isNeq]
  ·rw [run_neq_struct, hq]; simp [isNeq]
 ·rw [ha] at hag1 hag2
  have hU := Rx.leaf_of hag1
  have hV := Ry.leaf_of hag2
  have hq := hmain _ _ [vx] [vy] b hU hV hc vx vy (fun _ => ⟨rfl, rfl⟩) (fun e => absurd ha e)
  generalize x'.ev env = X at *
  generalize y'.ev env = Y at *
  have hcX : X.cells = [X] := by
   cases X <;> first | rfl | (simp [AV.isAgg] at hag1; done) | skip
   rename_i d; cases d <;> first | rfl | (simp [AV.isAgg] at hag1; done)
  have hcY : Y.cells = [Y] := by
   cases Y <;> first | rfl | (simp [AV.isAgg] at hag2; done) | skip
   rename_i d; cases d <;> first | rfl | (simp [AV.isAgg] at hag2; done)
  rw [hcX, hcY] at hc
  simp only [cellsEq] at hc
  split at hc <;> first | (cases hc; done) | skip
  rename_i c hl
  simp only [Bool.and_true, Option.some.injEq] at hc; subst hc
  unfold leafEq at hl
  split at hl <;> first | (cases hl; done) | skip
  ·injection hl with hl; subst hl
   cases Rx with | dat Rx => cases Rx; cases Ry with | dat Ry => cases Ry; (rcases hb with rfl | rfl <;> simp [eqGuard, binOp, Op.equal, Op.maxDepth, hq, isNeq])
  ·split at hl <;> first | (cases hl; done) | skip
   rename_i hk; subst hk
   injection hl with hl; subst hl
   cases Rx with | dat Rx => cases Rx; cases Ry with | dat Ry => cases Ry; (rcases hb with rfl | rfl <;> simp [eqGuard, binOp, Op.intCmp, bne, isNeq])
  ·injection hl with hl; subst hl
   cases Rx with | dat Rx => cases Rx; cases Ry with | dat Ry => cases Ry; (rcases hb with rfl | rfl <;> simp [eqGuard, binOp, Op.stringOp, beq_toListBytes, bne, isNeq])
end Go.Ax
namespace Go.Ax
set_option linter.unusedSectionVars false
open Go.RowKit
variable [Gls]
variable {P : Program} {C : Ctx} {w : World} {a : Act} {env : Env} {H H' : List Blk} {cf : CallF} {av : AV} {o : Oper} {xo : XOp} {Hp : Nat → Option Blk}
theorem foldl_set (off : Nat) : ∀ (vs : List Value) (k : Nat) (cs : Array Value), off + k + vs.length ≤ cs.size →
  ((vs.zipIdx k).foldl (fun (cs : Array Value) (p : Value × Nat) => cs.setIfInBounds (off + p.2) p.1) cs).toList = cs.toList.take (off + k) ++ vs ++ cs.toList.drop (off + k + vs.length)
 | [], k, cs, h => by simp
 | v :: vs, k, cs, h => by
  simp only [List.length_cons] at h
  rw [List.zipIdx_cons, List.foldl_cons, foldl_set off vs (k + 1) _ (by simp; omega)]
  simp only [Array.toList_setIfInBounds]
  have hlt : off + k < cs.toList.length := by simp; omega
  rw [List.take_set, List.drop_set]
  rw [if_pos (by omega)]
  rw [show off + (k + 1) = (off + k) + 1 by omega, List.take_succ_eq_append_getElem hlt]
  have e1 : (cs.toList.take (off + k) ++ [cs.toList[off + k]]).set (off + k) v = cs.toList.take (off + k) ++ [v] := by
   rw [List.set_append_right _ _ (by rw [List.length_take]; omega)]
   have : off + k - (List.take (off + k) cs.toList).length = 0 := by rw [List.length_take]; omega
   rw [this]; rfl
  rw [e1]
  simp only [List.length_cons, List.append_assoc, List.cons_append, List.nil_append]
  rw [show off + k + 1 + vs.length = off + k + (vs.length + 1) by omega]
theorem fold_cells (off : Nat) (v : Value) (cs : Array Value) (h : off + v.cells.size ≤ cs.size) :
  (v.cells.zipIdx.foldl (fun (cs : Array Value) (p : Value × Nat) => cs.setIfInBounds (off + p.2) p.1) cs).toList = cs.toList.take off ++ v.cells.toList ++ cs.toList.drop (off + v.cells.size) := by
 rw [← Array.foldl_toList]
 have := foldl_set off v.cells.toList 0 cs (by simpa using h)
 simpa using this
inductive F2 {α β : Type} (R : α → β → Prop) : List α → List β → Prop
 | nil : F2 R [] []
 | cons {x : α} {y : β} {l : List α} {m : List β} (h : R x y) (k : F2 R l m) : F2 R (x :: l) (y :: m)
theorem F2.imp {α β : Type} {R S : α → β → Prop} {l : List α} {m : List β} (h : F2 R l m) (k : ∀ x y, R x y → S x y) : F2 S l m := by
 induction h with
 | nil => exact .nil
 | cons h _ ih => exact .cons (k _ _ h) ih
theorem F2.length {α β : Type} {R : α → β → Prop} {l : List α} {m : List β} (h : F2 R l m) : l.length = m.length := by
 induction h with
 | nil => rfl
 | cons _ _ ih => simp [ih]
def PartOk (a : Act) (C : Ctx) (w : World) (env : Env) (pl : Nat → Option (Nat × Nat)) (p : Nat × Operand) (q : Nat × Nat × XO) : Prop :=
 pl p.1 = some (q.1, q.2.1) ∧ RV C w (a.eval p.2) (q.2.2.ev env)
theorem fill_sound {pl : Nat → Option (Nat × Nat)} : ∀ {parts : List (Nat × Operand)} {ps : List (Nat × Nat × XO)} {us : Array Value} {zs cs : List AV}, F2 (PartOk a C w env pl) parts ps →
  RL C w us.toList zs → fillParts env zs ps = some cs → (∀ u ∈ us.toList, u.oneCell' = true) →
  ∃ us', Instr.fill pl us (parts.map fun p => (p.1, a.eval p.2)) = some us' ∧ RL C w us'.toList cs ∧ (∀ u ∈ us'.toList, u.oneCell' = true) ∧ us'.size = us.size
 | [], [], us, zs, cs, _, hR, h, h1 => by
  simp only [fillParts, Option.some.injEq] at h; subst h
  exact ⟨us, rfl, hR, h1, rfl⟩
 | p :: parts, q :: ps, us, zs, cs, hf, hR, h, h1 => by
  obtain ⟨off, size, x⟩ := q
  cases hf with
  | cons hp hrest =>
   obtain ⟨hp1, hp2⟩ := hp
   unfold fillParts at h
   simp only at h
   split at h <;> first | (cases h; done) | skip
   rename_i hcond
   obtain ⟨hsize, hone⟩ := hcond
   split at h <;> first | (cases h; done) | skip
   rename_i cs' hset
   obtain ⟨hcl, hu1⟩ := hp2.cells_one hone
   simp only [setCells] at hset
   split at hset <;> first | (cases hset; done) | skip
   rename_i hle
   injection hset with hset; subst hset
   have hvs : (a.eval p.2).cells.size = size := by
    have := hcl.1; simp only [Array.length_toList] at this; rw [this, hsize]
   have hus : us.size = zs.length := by simpa using hR.1
   have hle' : off + (a.eval p.2).cells.size ≤ us.size := by rw [hvs, hus]; omega
   have hfold := fold_cells off (a.eval p.2) us hle'
   have hR' : RL C w ((a.eval p.2).cells.zipIdx.foldl (fun (cs : Array Value) (p : Value × Nat) => cs.setIfInBounds (off + p.2) p.1) us).toList (zs.take off ++ (x.ev env).cells ++ zs.drop (off + (x.ev env).cells.length)) := by
    rw [hfold, hvs, hsize]
    exact ((hR.take off).append hcl).append (hR.drop _)
   have h1' : ∀ u ∈ ((a.eval p.2).cells.zipIdx.foldl (fun (cs : Array Value) (p : Value × Nat) => cs.setIfInBounds (off + p.2) p.1) us).toList, u.oneCell' = true := by
    rw [hfold]
    intro u hu
    rcases List.mem_append.1 hu with hu | hu
    ·rcases List.mem_append.1 hu with hu | hu
     ·exact h1 u (List.mem_of_mem_take hu)
     ·exact hu1 u hu
    ·exact h1 u (List.mem_of_mem_drop hu)
   obtain ⟨us', e1, e2, e3, e4⟩ := fill_sound hrest hR' h h1'
   refine ⟨us', ?_, e2, e3, ?_⟩
   ·rw [List.map_cons, Instr.fill]
    simp only [hp1]
    rw [if_neg (by simp [hvs]; omega)]
    exact e1
   ·rw [e4]
    have := congrArg List.length hfold
    simp only [Array.length_toList, List.length_append, List.length_take, List.length_drop] at this
    omega
theorem listM_forall {α β : Type} {f : α → Option β} : ∀ {l : List α} {m : List β}, listM f l = some m → F2 (fun x y => f x = some y) l m
 | [], m, h => by simp only [listM, Option.some.injEq] at h; subst h; exact .nil
 | x :: l, m, h => by
  simp only [listM] at h
  split at h <;> first | (cases h; done) | skip
  rename_i y hy
  split at h <;> first | (cases h; done) | skip
  rename_i r hr
  injection h with h; subst h
  exact .cons hy (listM_forall hr)
theorem zeroC_sound {t : TypeId} {z : List AV} (h : zeroC P t = some z) : ∃ i v, P.info? t = some i ∧ i.zero = some v ∧ RL C w v.cells.toList z ∧ ∀ u ∈ v.cells.toList, u.oneCell' = true := by
 unfold zeroC at h
 split at h <;> first | (cases h; done) | skip
 rename_i i hi
 split at h <;> first | (cases h; done) | skip
 rename_i v l hz hl
 obtain ⟨h1, h2⟩ := cells_sound (C := C) (w := w) h
 refine ⟨i, v, hi, hz, ⟨h1.symm, fun j u x hu hx => (h2 j u x hu hx).1⟩, fun u hu => ?_⟩
 obtain ⟨j, hj, rfl⟩ := List.mem_iff_getElem.1 hu
 exact (h2 j _ _ (List.getElem?_eq_getElem hj) (List.getElem?_eq_getElem (by omega : j < z.length))).2.1
theorem run_zero {t : TypeId} {i : TypeInfo} {v : Value} (hi : P.info? t = some i) (hz : i.zero = some v) (w : World) : (zeroValue t).run P w = .ok v w := by
 simp [zeroValue, run_typeInfo w hi, hz]
theorem run_mapM_places (w : World) : ∀ (l : List Field), (∀ f ∈ l, (P.info? f.type).isSome = true) →
  (l.mapM fun (f : Field) => (do pure (f.offset, ← sizeOf f.type) : Sem (Nat × Nat))).run P w = .ok (l.map fun (f : Field) => (f.offset, P.cellsOf f.type)) w
 | [], _ => by simp
 | f :: l, h => by
  obtain ⟨i, hi⟩ := Option.isSome_iff_exists.1 (h f List.mem_cons_self)
  have ih := run_mapM_places w l (fun g hg => h g (List.mem_cons_of_mem _ hg))
  rw [List.mapM_cons]
  simp only [Sem.run_bind, run_sizeOf w hi, Result.andThen_ok, Sem.run_pure, ih, List.map_cons]
theorem build_sound {t : TypeId} {ps : Array (Nat × Operand)} (hop : o.op = .build t ps) (ht : opT P o = some xo) (he : evalOp cf env H xo = some (av, H')) (hE : EnvR C w a env) : H' = H ∧ PureOk P C w a o av := by
 simp only [opT, hop] at ht
 split at ht <;> first | (cases ht; done) | skip
 ·rename_i fs hu
  simp only [Option.bind_eq_bind, Option.bind_eq_some_iff] at ht
  obtain ⟨z, hz, l, hl, ht⟩ := ht
  split at ht <;> first | (cases ht; done) | skip
  rename_i hall
  simp only [Option.some.injEq] at ht; subst ht
  simp only [evalOp] at he
  split at he <;> first | (cases he; done) | skip
  rename_i cs hcs
  simp only [Option.some.injEq, Prod.mk.injEq] at he; obtain ⟨rfl, rfl⟩ := he
  obtain ⟨i, zv, hi, hzv, hRz, h1⟩ := zeroC_sound (C := C) (w := w) hz
  have hf := listM_forall hl
  have hfo : F2 (PartOk a C w env (fun k => (fs.map fun (f : Field) => (f.offset, P.cellsOf f.type))[k]?)) ps.toList l := by
   refine F2.imp hf (fun p q hpq => ?_)
   simp only [Option.bind_eq_some_iff, Option.some.injEq] at hpq
   obtain ⟨f, hf, x, hx, rfl⟩ := hpq
   exact ⟨by simp [hf], operand_sound hx hE⟩
  obtain ⟨us', e1, e2, e3, -⟩ := fill_sound hfo hRz hcs h1
  refine ⟨rfl, .agg us', ?_, ?_⟩
  ·have hm := run_mapM_places (P := P) w fs.toList (fun f hf => by
    rw [List.all_eq_true] at hall; exact hall f hf)
   have hm' : (fs.mapM fun (f : Field) => (do pure (f.offset, ← sizeOf f.type) : Sem (Nat × Nat))).run P w = .ok (fs.map fun (f : Field) => (f.offset, P.cellsOf f.type)) w := by
    rw [Array.mapM_eq_mapM_toList]
    simp only [Sem.run_map, hm, Result.andThen_ok]
    congr 1
    apply Array.ext'; simp
   simp only [execOp, hop, Instr.build, Sem.run_bind, run_zero hi hzv, Result.andThen_ok, run_underlying hu, hm']
   have e1' : Instr.fill (fun x => (fs.map fun (f : Field) => (f.offset, P.cellsOf f.type))[x]?) zv.cells (ps.map fun x => (x.1, a.eval x.2)).toList = some us' := by
    rw [Array.toList_map]; exact e1
   simp only [e1', Sem.run_pure, Result.andThen_ok]
  ·have := e2.agg
   simpa using this
 ·rename_i n el hu
  simp only [Option.bind_eq_bind, Option.bind_eq_some_iff] at ht
  obtain ⟨z, hz, ht⟩ := ht
  split at ht <;> first | (cases ht; done) | skip
  rename_i hel
  simp only [Option.bind_eq_some_iff, Option.some.injEq] at ht
  obtain ⟨l, hl, rfl⟩ := ht
  obtain ⟨inf, hinf⟩ := Option.isSome_iff_exists.1 hel
  have hsz : ∀ w : World, (sizeOf el).run P w = .ok (P.cellsOf el) w := fun w => run_sizeOf w hinf
  simp only [evalOp] at he
  split at he <;> first | (cases he; done) | skip
  rename_i cs hcs
  simp only [Option.some.injEq, Prod.mk.injEq] at he; obtain ⟨rfl, rfl⟩ := he
  obtain ⟨i, zv, hi, hzv, hRz, h1⟩ := zeroC_sound (C := C) (w := w) hz
  have hf := listM_forall hl
  have hfo : F2 (PartOk a C w env (fun k => some (k * P.cellsOf el, P.cellsOf el))) ps.toList l := by
   refine F2.imp hf (fun p q hpq => ?_)
   simp only [Option.bind_eq_some_iff, Option.some.injEq] at hpq
   obtain ⟨x, hx, rfl⟩ := hpq
   exact ⟨rfl, operand_sound hx hE⟩
  obtain ⟨us', e1, e2, e3, -⟩ := fill_sound hfo hRz hcs h1
  refine ⟨rfl, .agg us', ?_, ?_⟩
  ·simp only [execOp, hop, Instr.build, Sem.run_bind, run_zero hi hzv, Result.andThen_ok, run_underlying hu, hsz]
   have e1' : Instr.fill (fun i => some (i * P.cellsOf el, P.cellsOf el)) zv.cells (ps.map fun x => (x.1, a.eval x.2)).toList = some us' := by
    rw [Array.toList_map]; exact e1
   simp only [e1', Sem.run_pure, Result.andThen_ok]
  ·have := e2.agg
   simpa using this
end Go.Ax
