/-
  Ax, text 5: the operations that turn no memory, one by one.
-/
import Derived.Test.YtponcchkfmbicaaXPure
namespace Go.Ax
set_option linter.unusedSectionVars false
open Go.RowKit

/-- What is shown of an operation that turns no memory. -/
def PureOk (P : Program) (C : Ctx) (w : World) (a : Act) (o : Oper) (av : AV) : Prop := ∃ v, (execOp a.eval o).run P w = .ok (.value v) w ∧ RV C w v av

variable [Gls]
variable {P : Program} {C : Ctx} {w : World} {a : Act} {env : Env} {H H' : List Blk} {cf : CallF} {av : AV} {o : Oper} {xo : XOp} {Hp : Nat → Option Blk}

theorem mv_sound {x : Operand} (hop : o.op = .move x ∨ o.op = .assign x) (ht : opT P o = some xo) (he : evalOp cf env H xo = some (av, H')) (hE : EnvR C w a env) : H' = H ∧ PureOk P C w a o av := by
  have ht' : (operandT P (some o.type) x).map .mv = some xo := by
    rcases hop with hop | hop <;> simpa [opT, hop] using ht
  simp only [Option.map_eq_some_iff] at ht'
  obtain ⟨x', hx, rfl⟩ := ht'
  simp only [evalOp, Option.some.injEq, Prod.mk.injEq] at he
  obtain ⟨rfl, rfl⟩ := he
  refine ⟨rfl, a.eval x, ?_, operand_sound hx hE⟩
  rcases hop with hop | hop <;> simp [execOp, hop]

theorem pick_sound {c x y : Operand} (hop : o.op = .pick c x y) (ht : opT P o = some xo) (he : evalOp cf env H xo = some (av, H')) (hE : EnvR C w a env) : H' = H ∧ PureOk P C w a o av := by
  simp only [opT, hop, Option.bind_eq_bind, Option.bind_eq_some_iff, Option.some.injEq] at ht
  obtain ⟨c', hc, x', hx, y', hy, rfl⟩ := ht
  have Rc := operand_sound hc hE
  have Rx := operand_sound hx hE
  have Ry := operand_sound hy hE
  simp only [evalOp] at he
  split at he
  · rename_i e; rw [e] at Rc
    simp only [Option.some.injEq, Prod.mk.injEq] at he; obtain ⟨rfl, rfl⟩ := he
    generalize hb : a.eval c = b at Rc
    cases Rc with | dat h => cases h; exact ⟨rfl, _, by simp [execOp, hop, hb, asBool], Rx⟩
  · rename_i e; rw [e] at Rc
    simp only [Option.some.injEq, Prod.mk.injEq] at he; obtain ⟨rfl, rfl⟩ := he
    generalize hb : a.eval c = b at Rc
    cases Rc with | dat h => cases h; exact ⟨rfl, _, by simp [execOp, hop, hb, asBool], Ry⟩
  · cases he

theorem nilchk_sound {x : Operand} (hop : o.op = .nilCheck x) (ht : opT P o = some xo) (he : evalOp cf env H xo = some (av, H')) (hE : EnvR C w a env) : H' = H ∧ PureOk P C w a o av := by
  simp only [opT, hop, Option.map_eq_some_iff] at ht
  obtain ⟨x', hx, rfl⟩ := ht
  have R := operand_sound hx hE
  simp only [evalOp] at he
  generalize hv : a.eval x = v at R
  split at he <;> first | (cases he; done) | skip
  all_goals
    rename_i e; rw [e] at R
    simp only [Option.some.injEq, Prod.mk.injEq] at he; obtain ⟨rfl, rfl⟩ := he
    refine ⟨rfl, v, ?_, R⟩
    cases R <;> simp [execOp, hop, hv]

theorem not_sound {t : TypeId} {x : Operand} (hop : o.op = .unOp .not t x) (ht : opT P o = some xo) (he : evalOp cf env H xo = some (av, H')) (hE : EnvR C w a env) : H' = H ∧ PureOk P C w a o av := by
  simp only [opT, hop, Option.map_eq_some_iff] at ht
  obtain ⟨x', hx, rfl⟩ := ht
  have R := operand_sound hx hE
  simp only [evalOp] at he
  generalize hv : a.eval x = v at R
  split at he <;> first | (cases he; done) | skip
  rename_i e; rw [e] at R
  simp only [Option.some.injEq, Prod.mk.injEq] at he; obtain ⟨rfl, rfl⟩ := he
  cases R with | dat h => cases h; exact ⟨rfl, _, by simp [execOp, hop, hv, Op.unary], .dat (.bool _)⟩

theorem neg_sound {t : TypeId} {x : Operand} (hop : o.op = .unOp .neg t x) (ht : opT P o = some xo) (he : evalOp cf env H xo = some (av, H')) (hE : EnvR C w a env) : H' = H ∧ PureOk P C w a o av := by
  simp only [opT, hop, Option.map_eq_some_iff] at ht
  obtain ⟨x', hx, rfl⟩ := ht
  have R := operand_sound hx hE
  simp only [evalOp] at he
  generalize hv : a.eval x = v at R
  split at he <;> first | (cases he; done) | skip
  rename_i e; rw [e] at R
  simp only [Option.some.injEq, Prod.mk.injEq] at he; obtain ⟨rfl, rfl⟩ := he
  cases R with | dat h => cases h; exact ⟨rfl, _, by simp [execOp, hop, hv, Op.unary, Op.intArith], .dat (.int _ _)⟩

theorem conv_sound {t u : TypeId} {x : Operand} (hop : o.op = .convert t u x) (ht : opT P o = some xo) (he : evalOp cf env H xo = some (av, H')) (hE : EnvR C w a env) : H' = H ∧ PureOk P C w a o av := by
  simp only [opT, hop] at ht
  split at ht
  · rename_i k0 k hs hd
    simp only [Option.map_eq_some_iff] at ht
    obtain ⟨x', hx, rfl⟩ := ht
    have R := operand_sound hx hE
    simp only [evalOp] at he
    generalize hv : a.eval x = v at R
    split at he <;> first | (cases he; done) | skip
    rename_i e; rw [e] at R
    simp only [Option.some.injEq, Prod.mk.injEq] at he; obtain ⟨rfl, rfl⟩ := he
    cases R with | dat h => cases h; exact ⟨rfl, _, by simp [execOp, hop, hv, convert, run_underlying hs, run_underlying hd, Conv.intToInt], .dat (.int _ _)⟩
  · cases ht

theorem ext_sound {x : Operand} {i : Nat} (hop : o.op = .extract x i) (ht : opT P o = some xo) (he : evalOp cf env H xo = some (av, H')) (hE : EnvR C w a env) : H' = H ∧ PureOk P C w a o av := by
  simp only [opT, hop, Option.map_eq_some_iff] at ht
  obtain ⟨x', hx, rfl⟩ := ht
  have R := operand_sound hx hE
  simp only [evalOp] at he
  generalize hv : a.eval x = v at R
  split at he <;> first | (cases he; done) | skip
  rename_i vs e; rw [e] at R
  split at he <;> first | (cases he; done) | skip
  rename_i y hy
  simp only [Option.some.injEq, Prod.mk.injEq] at he; obtain ⟨rfl, rfl⟩ := he
  cases R with
  | tup us cs hn h =>
    have hi : i < us.size := by rw [hn]; exact (List.getElem?_eq_some_iff.1 hy).1
    have hu : us[i]? = some us[i] := by simp [hi]
    exact ⟨rfl, us[i], by simp [execOp, hop, hv, Instr.extract, hu], h i _ _ hy hu⟩

theorem len_sound {c : Call} (hop : o.op = .call c) (hc : c.callee = .builtin .len) (hne : ∀ m, xo ≠ .mlen m) (ht : opT P o = some xo) (he : evalOp cf env H xo = some (av, H')) (hE : EnvR C w a env) : H' = H ∧ PureOk P C w a o av := by
  obtain ⟨callee, args, argTypes⟩ := c
  simp only at hc; subst hc
  simp only [opT, hop] at ht
  split at ht <;> first | (cases ht; done) | skip
  rename_i t x htt hxx
  have hmap : (args.map a.eval)[0]? = some (a.eval x) := by simp [hxx]
  split at ht <;> first | (cases ht; done) | (split at ht <;> first | (cases ht; done) | (simp only [Option.map_eq_some_iff] at ht; obtain ⟨x', _, rfl⟩ := ht; exact absurd rfl (hne x'))) | skip
  all_goals
    rename_i hk
    simp only [Option.map_eq_some_iff] at ht
    obtain ⟨x', hx, rfl⟩ := ht
    have R := operand_sound hx hE
    simp only [evalOp] at he
    generalize hv : a.eval x = v at R hmap
    split at he <;> first | (cases he; done) | skip
    all_goals
      rename_i e; rw [e] at R
      simp only [Option.some.injEq, Prod.mk.injEq] at he; obtain ⟨rfl, rfl⟩ := he
      refine ⟨rfl, ?_⟩
      first
        | (cases R with | dat h => cases h <;> exact ⟨_, by simp [execOp, hop, resolve, invoke, builtin, Builtin.len_, htt, hmap, run_underlying hk, goInt], .dat (.int _ _)⟩)
        | (cases R <;> exact ⟨_, by simp [execOp, hop, resolve, invoke, builtin, Builtin.len_, htt, hmap, run_underlying hk, goInt], .dat (.int _ _)⟩)

theorem mkfn_sound {f : Fn} {xs ys : Array Operand} (hop : o.op = .makeFunc f xs ys) (ht : opT P o = some xo) (he : evalOp cf env H xo = some (av, H')) (hE : EnvR C w a env) : H' = H ∧ PureOk P C w a o av := by
  have list (l : List Operand) : ∀ m : List XO, listM (operandT P none) l = some m → RL C w (l.map a.eval) (m.map (XO.ev env)) := by
    induction l with
    | nil => intro m hm; simp only [listM, Option.some.injEq] at hm; subst hm; exact RL.nil
    | cons x l ih =>
      intro m hm
      simp only [listM] at hm
      split at hm <;> first | (cases hm; done) | skip
      rename_i y hy
      split at hm <;> first | (cases hm; done) | skip
      rename_i r hr
      injection hm with hm; subst hm
      exact RL.cons (operand_sound hy hE) (ih r hr)
  simp only [opT, hop, Option.bind_eq_bind, Option.bind_eq_some_iff, Option.some.injEq] at ht
  obtain ⟨x', hx, y', hy, rfl⟩ := ht
  simp only [evalOp, Option.some.injEq, Prod.mk.injEq] at he
  obtain ⟨rfl, rfl⟩ := he
  have hl := list _ _ hx
  have hr := list _ _ hy
  refine ⟨rfl, .func f (xs.map a.eval) (ys.map a.eval), by simp [execOp, hop, Instr.makeFunc], .fn _ _ _ _ _ ?_ ?_ ?_ ?_⟩
  · simpa using hl.1
  · simpa using hr.1
  · intro j c v hc hv; exact hl.2 j v c (by simpa using hv) hc
  · intro j c v hc hv; exact hr.2 j v c (by simpa using hv) hc

theorem bin_sound {op : BinOp} {t u : TypeId} {x y : Operand} (hop : o.op = .binOp op t x y u) (hb : op = .add ∨ op = .sub ∨ op = .mul ∨ op = .quo ∨ op = .rem ∨ op = .lss ∨ op = .leq ∨ op = .gtr ∨ op = .geq)
    (ht : opT P o = some xo) (he : evalOp cf env H xo = some (av, H')) (hE : EnvR C w a env) : H' = H ∧ PureOk P C w a o av := by
  have ht' : ∃ x' y', operandT P none x = some x' ∧ operandT P none y = some y' ∧ xo = .bin op x' y' := by
    rcases hb with rfl | rfl | rfl | rfl | rfl | rfl | rfl | rfl | rfl <;>
    · simp only [opT, hop] at ht
      split at ht <;> first | (cases ht; done) | skip
      simp only [Option.bind_eq_bind, Option.bind_eq_some_iff, Option.some.injEq] at ht
      obtain ⟨x', hx, y', hy, rfl⟩ := ht
      exact ⟨x', y', hx, hy, rfl⟩
  obtain ⟨x', y', hx, hy, rfl⟩ := ht'
  have Rx := operand_sound hx hE
  have Ry := operand_sound hy hE
  generalize hvx : a.eval x = vx at Rx
  generalize hvy : a.eval y = vy at Ry
  simp only [evalOp] at he
  split at he <;> first | (cases he; done) | skip
  rename_i z hz
  simp only [Option.some.injEq, Prod.mk.injEq] at he; obtain ⟨rfl, rfl⟩ := he
  unfold bin at hz
  split at hz <;> first | (cases hz; done) | skip
  rename_i k m k' n e1 e2
  rw [e1] at Rx; rw [e2] at Ry
  split at hz <;> first | (cases hz; done) | skip
  rename_i hk; subst hk
  simp only [Option.map_eq_some_iff] at hz
  obtain ⟨d, hd, rfl⟩ := hz
  refine ⟨rfl, ?_⟩
  cases Rx with | dat Rx => cases Rx; cases Ry with | dat Ry => cases Ry; (
    rcases hb with rfl | rfl | rfl | rfl | rfl | rfl | rfl | rfl | rfl <;> simp only [intBin] at hd <;>
    first
    | (split at hd <;> first | (cases hd; done) | skip
       rename_i hn
       injection hd with hd; subst hd
       refine ⟨_, ?_, .dat (.int _ _)⟩
       simp [execOp, hop, hvx, hvy, eqGuard, binOp, Op.intDiv, hn])
    | (injection hd with hd; subst hd
       first | refine ⟨_, ?_, .dat (.int _ _)⟩ | refine ⟨_, ?_, .dat (.bool _)⟩
       simp [execOp, hop, hvx, hvy, eqGuard, binOp, Op.intArith, Op.intCmp]))


/-! ### structs -/
theorem fadr_sound {t : TypeId} {x : Operand} {i : Nat} (hop : o.op = .fieldAddr t x i) (ht : opT P o = some xo) (he : evalOp cf env H xo = some (av, H')) (hE : EnvR C w a env) : H' = H ∧ PureOk P C w a o av := by
  simp only [opT, hop] at ht
  split at ht <;> first | (cases ht; done) | skip
  rename_i fs hu
  simp only [Option.bind_eq_bind, Option.bind_eq_some_iff] at ht
  obtain ⟨f, hf, ht⟩ := ht
  split at ht <;> first | (cases ht; done) | skip
  rename_i hz
  simp only [Option.bind_eq_some_iff, Option.some.injEq] at ht
  obtain ⟨x', hx, rfl⟩ := ht
  have R := operand_sound hx hE
  generalize hv : a.eval x = v at R
  have hsz : ∀ w : World, (sizeOf f.type).run P w = .ok (P.cellsOf f.type) w := by
    intro w
    cases hi : P.info? f.type with
    | none => exact absurd (by simp [Program.cellsOf, hi]) hz
    | some i => exact run_sizeOf w hi
  have hrun : ∀ ad : Addr, (execOp a.eval o).run P w = .ok (.value (.pointer (some (ad.add f.offset)))) w ∨ v ≠ .pointer (some ad) := by
    intro ad
    by_cases hva : v = .pointer (some ad)
    · left
      subst hva
      simp [execOp, hop, hv, Instr.fieldAt, run_underlying hu, hf, Instr.sureAddr, fieldPlace, hsz, hz]
    · exact .inr hva
  simp only [evalOp] at he
  split at he <;> first | (cases he; done) | skip
  · rename_i id off e; rw [e] at R
    simp only [Option.some.injEq, Prod.mk.injEq] at he; obtain ⟨rfl, rfl⟩ := he
    cases R with
    | ptr _ _ b hD h =>
      refine ⟨rfl, _, (hrun _).resolve_right (fun h => h rfl), ?_⟩
      have : (⟨b, off, none⟩ : Addr).add f.offset = ⟨b, off + f.offset, none⟩ := by unfold Addr.add; split <;> simp_all
      rw [this]; exact .ptr _ _ _ hD h
  · rename_i id i off e; rw [e] at R
    simp only [Option.some.injEq, Prod.mk.injEq] at he; obtain ⟨rfl, rfl⟩ := he
    cases R with
    | eptr _ _ _ g cap hD h =>
      refine ⟨rfl, _, (hrun _).resolve_right (fun h => h rfl), ?_⟩
      have : (⟨g, i * C.sz id + off, none⟩ : Addr).add f.offset = ⟨g, i * C.sz id + (off + f.offset), none⟩ := by
        unfold Addr.add; split
        · simp_all
        · simp [Nat.add_assoc]
      rw [this]; exact .eptr _ _ _ _ _ hD h
  · rename_i cs e; rw [e] at R
    split at he <;> first | (cases he; done) | skip
    rename_i hlt
    simp only [Option.some.injEq, Prod.mk.injEq] at he; obtain ⟨rfl, rfl⟩ := he
    cases R with
    | dptr ad _ vs hF hv hd =>
      refine ⟨rfl, _, (hrun _).resolve_right (fun h => h rfl), .dptr _ _ (fun k => vs (f.offset + k)) (by rw [add_block]; exact hF) (fun k d hk => ?_) (fun k d hk => ?_)⟩
      · have h1 := hv (f.offset + k) d (by simpa using hk)
        refine ⟨?_, h1.2⟩
        rw [show (ad.add f.offset).add k = ad.add (f.offset + k) from ?_]
        · exact h1.1
        · unfold Addr.add
          split <;> split <;> split <;> simp_all <;> omega
      · exact hd (f.offset + k) d (by simpa using hk)

end Go.Ax
