/-
  Ax, text 16: every operation.
-/
import Derived.Test.YtfoglingdnhjpaaGreatDoorXCpy
import Derived.Test.YtfoglingdnhjpaaGreatDoorXMap
import Derived.Test.YtfoglingdnhjpaaGreatDoorXPeek
namespace Go.Ax
set_option linter.all false
set_option linter.unusedSectionVars false
open Go.RowKit
variable [Gls]
variable {P : Program} {C C' : Ctx} {w w' : World} {a : Act} {env : Env} {H H' : List Blk} {cf : CallF} {av : AV} {o : Oper} {xo : XOp} {Hp : Nat → Option Blk} {wr : List Nat}
def OpWp (P : Program) (o : Oper) (a : Act) (w : World) (R : Value → World → Prop) : Prop :=
 ∀ (Q : Exit → Act → World → Prop) (K : Act → World → Prop), (∀ v w', R v w' → K (a.put o.dst v) w') → o.wp P a w K Q
theorem Runs.wp {v : Value} {R : Value → World → Prop} (h : Runs P o a w v w') (hR : R v w') : OpWp P o a w R := by
 intro Q K hK
 unfold Oper.wp
 rcases h with h | ⟨h, rfl⟩
 ·rw [h]; exact hK v w' hR
 ·rw [h]; exact hK undef w' hR
theorem Local.refl (hH : RH C w Hp) : Local C C w w H H Hp [] :=
 ⟨Keeps.refl C w, rfl, rfl, rfl, Nat.le_refl _, Nat.le_refl _, fun _ _ _ => rfl, fun _ _ => .inl rfl, fun _ h => .inl h, hH.lt, fun i hi => (by cases hi), fun i => ⟨.inl, fun h => h.elim id (fun h => by omega)⟩,
  fun i b ht => by rcases ht with h | h; (· cases h); (· omega),
  fun i b k ht => by rcases ht with h | h; (· cases h); (· omega),
  fun i j b b' k ht => by rcases ht with h | h; (· cases h); (· omega)⟩
def StepPost (C : Ctx) (w : World) (H : List Blk) (Hp : Nat → Option Blk) (av : AV) (H' : List Blk) (wr : List Nat) (v : Value) (w' : World) : Prop := ∃ C', RV C' w' v av ∧ Local C C' w w' H H' Hp wr
theorem PureOk.step (hH : RH C w Hp) (h : H' = H ∧ PureOk P C w a o av) (hwr : wr = []) : OpWp P o a w (StepPost C w H Hp av H' wr) := by
 obtain ⟨rfl, v, hr, hv⟩ := h
 subst hwr
 exact Runs.wp (.inl hr) ⟨C, hv, Local.refl hH⟩
theorem MemOk.step (h : MemOk P C w a o Hp H H' wr av) : OpWp P o a w (StepPost C w H Hp av H' wr) := by
 obtain ⟨v, w', C', hr, hv, hL⟩ := h
 exact hr.wp ⟨C', hv, hL⟩
theorem args_sound (hE : EnvR C w a env) : ∀ (xs : List Operand) (ts : List (Option TypeId)) (m : List XO), xs.length ≤ ts.length → listM (fun p : Operand × Option TypeId => operandT P p.2 p.1) (xs.zip ts) = some m → RL C w (xs.map a.eval) (m.map (XO.ev env))
 | [], ts, m, _, h => by
  simp only [List.zip_nil_left, listM, Option.some.injEq] at h; subst h; exact RL.nil
 | x :: xs, [], m, hl, h => by simp at hl
 | x :: xs, t :: ts, m, hl, h => by
  simp only [List.zip_cons_cons, listM] at h
  split at h <;> first | (cases h; done) | skip
  rename_i y hy
  split at h <;> first | (cases h; done) | skip
  rename_i r hr
  injection h with h; subst h
  exact RL.cons (operand_sound hy hE) (args_sound hE xs ts r (by simpa using hl) hr)
def callT (H : List Blk) (A : List AV) : List Nat × List Nat := if AV.hasPtrL A then (reach H 4096 (AV.refsL A) [], reach H 4096 (AV.refsL A) []) else (AV.refsL A, AV.ownsL A)
theorem call_core (hcf : CFSound P cf) {g : Nat} {U : List Value} {A : List AV} (enter : (∃ fn, P.funcs[g]? = some fn ∧ (fn.name == "runtime.NumGoroutine") = false ∧ fn.body.isNone = false) → (execOp a.eval o).run P w = .ok (.enter g U.toArray) w) (hRL : RL C w U A)
  (he : doCall cf H g A = some (av, H')) (hG : GlR C w) (hH : RH C w Hp) (hT : ∀ id ∈ (callT H A).1, Hp id = H[id]?) (hnew : ∀ i, H.length ≤ i → i < H'.length → ¬ C.D i) : OpWp P o a w (StepPost C w H Hp av H' (callT H A).2) := by
 unfold callT at hT ⊢
 have fin : ∀ (hfn : ∃ fn, P.funcs[g]? = some fn ∧ (fn.name == "runtime.NumGoroutine") = false ∧ fn.body.isNone = false) (R : Value → World → Prop), Calls P g U.toArray w (fun e w' => ∃ v, e = .returned v ∧ R v w') → OpWp P o a w R := by
  intro hfn R hcalls Q K hK
  unfold Oper.wp
  rw [enter hfn, Oper.upon_enter]
  refine hcalls.mono fun e w' hp => ?_
  obtain ⟨v, rfl, hR⟩ := hp
  exact hK v w' hR
 simp only [doCall] at he
 split at he
 ·rename_i hptr
  rw [if_pos hptr] at hT ⊢
  split at he <;> first | (cases he; done) | skip
  rename_i hcond
  simp only [Bool.and_eq_true, List.all_eq_true, decide_eq_true_eq] at hcond
  obtain ⟨⟨hcl, hrefs⟩, hlt⟩ := hcond
  split at he <;> first | (cases he; done) | skip
  rename_i args' hstrip
  split at he <;> first | (cases he; done) | skip
  rename_i r H1 hr
  simp only [Option.some.injEq, Prod.mk.injEq] at he
  obtain ⟨rfl, rfl⟩ := he
  refine fin (hcf.fn _ _ _ _ _ hr) _ ((ptrCall_sound hcf (reach_nodup H _ _ [] List.nodup_nil) hstrip hr hRL hG hH hT hcl (fun i hi => List.contains_iff_mem.1 (hrefs i hi)) hlt hnew).mono fun e w' hp => ?_)
  obtain ⟨v, C', rfl, hV, hL⟩ := hp
  exact ⟨v, rfl, C', hV, hL⟩
 ·rename_i hptr
  rw [if_neg hptr] at hT ⊢
  split at he <;> first | (cases he; done) | skip
  rename_i args' hstrip
  split at he <;> first | (cases he; done) | skip
  rename_i r H1 hr
  simp only [Option.some.injEq, Prod.mk.injEq] at he
  obtain ⟨rfl, rfl⟩ := he
  have howns := stripL_owns A args' hstrip
  refine fin (hcf.fn _ _ _ _ _ hr) _ ((pureCall_sound hcf hstrip hr hRL hG hH (by simpa using hptr) hT _ rfl (fun i h1 h2 => hnew i h1 (by simp [freeze_length]; omega))).mono fun e w' hp => ?_)
  obtain ⟨v, C', rfl, hV, hL⟩ := hp
  refine ⟨v, rfl, C', hV, hL.widen hH (fun i hi => ?_) (fun i hi => hT i (ownsL_refs A i hi)) (fun i hi => ?_)⟩
  ·split at hi
   ·cases hi
   ·exact hi
  ·obtain ⟨e, sz, fl, fz, xs, h⟩ := howns i hi
   exact (List.getElem?_eq_some_iff.1 h).1
theorem call_sound (hcf : CFSound P cf) {c : Call} (hop : o.op = .call c) {f : Operand} (hc : c.callee = .value f) (ht : opT P o = some xo) (he : evalOp cf env H xo = some (av, H')) (hE : EnvR C w a env) (hH : RH C w Hp)
  (hT : ∀ id ∈ (touched env H xo).1, Hp id = H[id]?) (hnew : ∀ i, H.length ≤ i → i < H'.length → ¬ C.D i) : OpWp P o a w (StepPost C w H Hp av H' (touched env H xo).2) := by
 obtain ⟨callee, args, argTypes⟩ := c
 simp only at hc; subst hc
 simp only [opT, hop, Option.bind_eq_bind, Option.bind_eq_some_iff, Option.some.injEq] at ht
 obtain ⟨g', hg, as', has, rfl⟩ := ht
 have Rg := operand_sound hg hE
 have Ras := args_sound (P := P) hE args.toList (argTypes.toList.map some ++ List.replicate args.size none) as' (by simp) has
 rcases mkCall_cases g' as' with e | ⟨k, e0, e⟩
 ·rw [e] at he hT ⊢
  generalize hvg : a.eval f = vg at Rg
  simp only [evalOp] at he
  split at he <;> first | (cases he; done) | skip
  rename_i g first cap eg
  rw [eg] at Rg
  simp only [touched, eg] at hT ⊢
  cases Rg with
  | fn _ fs cs _ _ hn1 hn2 hfs hcs =>
   have hRL : RL C w (fs.toList ++ args.toList.map a.eval ++ cs.toList) (first ++ as'.map (XO.ev env) ++ cap) := by
    refine RL.append (RL.append ⟨by simpa using hn1, fun j u x hu hx => hfs j x u hx (by simpa using hu)⟩ Ras) ⟨by simpa using hn2, fun j u x hu hx => hcs j x u hx (by simpa using hu)⟩
   generalize hA : first ++ as'.map (XO.ev env) ++ cap = A at he hRL hT ⊢
   generalize hU : fs.toList ++ args.toList.map a.eval ++ cs.toList = U at hRL
   have enter : (∃ fn, P.funcs[g]? = some fn ∧ (fn.name == "runtime.NumGoroutine") = false ∧ fn.body.isNone = false) → (execOp a.eval o).run P w = .ok (.enter g U.toArray) w := by
    rintro ⟨fn, h1, h2, h3⟩
    have harr : (fs ++ args.map a.eval ++ cs) = U.toArray := by
     rw [← hU]; apply Array.ext'; simp
    simp only [execOp, hop, resolve, hvg, Deferred.ofValue, Sem.run_bind, Sem.run_pure, Result.andThen_ok, invoke, callFunc, run_program, h1, h2, h3, Bool.false_eq_true, if_false, harr]
   exact call_core hcf enter hRL he hE.gl hH hT hnew
 ·rw [e] at he hT ⊢
  subst e0
  generalize hvg : a.eval f = vg at Rg
  simp only [XO.ev] at Rg
  simp only [evalOp] at he
  split at he <;> first | (cases he; done) | skip
  rename_i args' hstrip
  split at he <;> first | (cases he; done) | skip
  rename_i d hr
  split at he <;> first | (cases he; done) | skip
  rename_i hb
  simp only [Option.some.injEq, Prod.mk.injEq] at he
  obtain ⟨rfl, rfl⟩ := he
  simp only [touched] at hT ⊢
  cases Rg with
  | fn _ fs cs _ _ hn1 hn2 hfs hcs =>
   have e1 : fs = #[] := by simpa using hn1
   have e2 : cs = #[] := by simpa using hn2
   subst e1; subst e2
   have enter : (∃ fn, P.funcs[k]? = some fn ∧ (fn.name == "runtime.NumGoroutine") = false ∧ fn.body.isNone = false) → (execOp a.eval o).run P w = .ok (.enter k (args.toList.map a.eval).toArray) w := by
    rintro ⟨fn, h1, h2, h3⟩
    have harr : ((#[] : Array Value) ++ args.map a.eval ++ #[]) = (args.toList.map a.eval).toArray := by
     apply Array.ext'; simp
    simp only [execOp, hop, resolve, hvg, Deferred.ofValue, Sem.run_bind, Sem.run_pure, Result.andThen_ok, invoke, callFunc, run_program, h1, h2, h3, Bool.false_eq_true, if_false, harr]
   intro Q K hK
   unfold Oper.wp
   rw [enter (hcf.fn _ _ _ _ _ hr), Oper.upon_enter]
   refine (peekCall_sound hcf hstrip hr hb Ras hE.gl hH hT).mono fun e w' hp => ?_
   obtain ⟨v, rfl, hV, hL⟩ := hp
   exact hK v w' ⟨C, hV, hL⟩
theorem methT_get {name : String} {t f : Nat} (h0 : tblGet (methT P name) t = some f) : methAt P name t = some f := by
 have key : ∀ l : List Nat, tblGet (l.filterMap fun t => (methAt P name t).map fun f => (t, f)) t = some f → methAt P name t = some f := by
  intro l
  induction l with
  | nil => intro h; simp [tblGet] at h
  | cons x r ih =>
   intro h
   cases hx : methAt P name x with
   | none => rw [List.filterMap_cons_none (by simp [hx])] at h; exact ih h
   | some q =>
    rw [List.filterMap_cons_some (by rw [hx]; rfl)] at h
    simp only [tblGet] at h
    split at h
    ·rename_i e; subst e; injection h with h; subst h; exact hx
    ·exact ih h
 exact key _ h0
theorem inv_sound (hcf : CFSound P cf) {c : Call} (hop : o.op = .call c) {r : Operand} {name : String} (hc : c.callee = .invoke r name) (ht : opT P o = some xo) (he : evalOp cf env H xo = some (av, H')) (hE : EnvR C w a env) (hH : RH C w Hp)
  (hT : ∀ id ∈ (touched env H xo).1, Hp id = H[id]?) (hnew : ∀ i, H.length ≤ i → i < H'.length → ¬ C.D i) : OpWp P o a w (StepPost C w H Hp av H' (touched env H xo).2) := by
 obtain ⟨callee, args, argTypes⟩ := c
 simp only at hc; subst hc
 simp only [opT, hop, Option.bind_eq_bind, Option.bind_eq_some_iff, Option.some.injEq] at ht
 obtain ⟨x', hx, as', has, rfl⟩ := ht
 have Rx := operand_sound hx hE
 have Ras := args_sound (P := P) hE args.toList (argTypes.toList.map some ++ List.replicate args.size none) as' (by simp) has
 generalize hvx : a.eval r = vx at Rx
 simp only [evalOp] at he
 split at he <;> first | (cases he; done) | skip
 rename_i t v ex
 rw [ex] at Rx
 split at he <;> first | (cases he; done) | skip
 rename_i g hg
 simp only [touched, ex] at hT ⊢
 have hm := methT_get hg
 cases Rx with
 | ifc _ u _ hu =>
  have hRL : RL C w (u :: args.toList.map a.eval) (v :: as'.map (XO.ev env)) := RL.cons hu Ras
  refine call_core hcf (fun hfn => ?_) hRL he hE.gl hH (by simpa [callT] using hT) hnew
  obtain ⟨fn, h1, h2, h3⟩ := hfn
  unfold methAt at hm
  split at hm <;> first | (cases hm; done) | skip
  rename_i i hi
  split at hm <;> first | (cases hm; done) | skip
  rename_i m hfm
  have hmeth : (Go.method ((P.types.size) + Made.depth) t u name).run P w = .ok (g, u) w := by
   have hdep : ∃ k, P.types.size + Made.depth = k + 1 := ⟨P.types.size + (Made.depth - 1), by have h0 : 0 < Made.depth := (by decide); omega⟩
   obtain ⟨k, hk⟩ := hdep
   rw [hk]
   have hfm' : i.methods.find? (fun m => m.name == name) = some m := hfm
   split at hm <;> first | (cases hm; done) | skip
   ·rename_i f e hp hf hu'
    injection hm with hm; subst hm
    have hp' : m.path = #[] := by simpa using hp
    simp [Go.method, run_typeInfo w hi, hfm', hp', hf, Go.follow, Go.receiverAt, run_underlying hu', Go.Place.get]
   ·rename_i f d hd hp hf hu'
    injection hm with hm; subst hm
    have hp' : m.path = #[] := by simpa using hp
    cases d <;> first | exact absurd rfl (hd _ _ hf) | simp_all [Go.method, run_typeInfo w hi, Go.follow, Go.receiverAt, run_underlying hu', Go.Place.get]
  have harr : (#[u] ++ args.map a.eval) = (u :: args.toList.map a.eval).toArray := by
   apply Array.ext'; simp
  have e0 : (#[Value.iface t u] ++ args.map a.eval)[0]? = some (.iface t u) := by rw [Array.getElem?_append_left (by simp)]; rfl
  have e1 : (#[Value.iface t u] ++ args.map a.eval).extract 1 (#[Value.iface t u] ++ args.map a.eval).size = args.map a.eval := by
   apply Array.ext'; simp [List.take_of_length_le]
  simp only [execOp, hop, resolve, hvx, Sem.run_bind, Sem.run_pure, Result.andThen_ok, invoke, e0, e1, callMethod, run_program, hmeth, callFunc, h1, h2, h3, harr, Bool.false_eq_true, if_false]
theorem mkifc_sound {t : TypeId} {x : Operand} (hop : o.op = .makeInterface t x) (ht : opT P o = some xo) (he : evalOp cf env H xo = some (av, H')) (hE : EnvR C w a env) : H' = H ∧ PureOk P C w a o av ∧ (touched env H xo).2 = [] := by
 simp only [opT, hop] at ht
 split at ht <;> first | (cases ht; done) | skip
 rename_i d hd hu
 simp only [Option.map_eq_some_iff] at ht
 obtain ⟨x', hx, rfl⟩ := ht
 have Rx := operand_sound hx hE
 simp only [evalOp, Option.some.injEq, Prod.mk.injEq] at he; obtain ⟨rfl, rfl⟩ := he
 refine ⟨rfl, ⟨.iface t (a.eval x), ?_, .ifc _ _ _ Rx⟩, rfl⟩
 cases d <;> first | (simp [execOp, hop, Instr.makeInterface, run_underlying hu]; done) | (exact absurd rfl (hd _))
theorem tas_sound {x : Operand} {xt t : TypeId} {ok : Bool} (hop : o.op = .typeAssert x xt t ok) (ht : opT P o = some xo) (he : evalOp cf env H xo = some (av, H')) (hE : EnvR C w a env) : H' = H ∧ PureOk P C w a o av ∧ (touched env H xo).2 = [] := by
 cases ok with
 | false => simp only [opT, hop] at ht; cases ht
 | true =>
  simp only [opT, hop] at ht
  split at ht <;> first | (cases ht; done) | skip
  rename_i d hd hu
  simp only [Option.map_eq_some_iff] at ht
  obtain ⟨x', hx, rfl⟩ := ht
  have Rx := operand_sound hx hE
  simp only [evalOp] at he
  split at he <;> first | (cases he; done) | skip
  rename_i t' v hv
  rw [hv] at Rx
  split at he <;> first | (cases he; done) | skip
  rename_i hte
  subst hte
  simp only [Option.some.injEq, Prod.mk.injEq] at he; obtain ⟨rfl, rfl⟩ := he
  generalize hvx : a.eval x = vx at Rx
  cases Rx with
  | ifc _ u _ hr =>
   refine ⟨rfl, ⟨.tuple #[u, .bool true], ?_, .tup _ _ (by simp) (fun j c w' hc hw => ?_)⟩, rfl⟩
   ·cases d <;> first | (simp [execOp, hop, Instr.typeAssert, run_underlying hu, hvx]; done) | (exact absurd rfl (hd _))
   ·match j, hc, hw with
    | 0, hc, hw => simp at hc hw; subst hc; subst hw; exact hr
    | 1, hc, hw => simp at hc hw; subst hc; subst hw; exact .dat (.bool true)
    | j + 2, hc, _ => simp at hc
theorem new1 {b : Blk} {ids : List Nat} (hnew : ∀ i, H.length ≤ i → i < (freeze ids H ++ [b]).length → ¬ C.D i) : ¬ C.D H.length := hnew _ (Nat.le_refl _) (by simp [freeze_length])
theorem step_sound (hcf : CFSound P cf) (ht : opT P o = some xo) (he : evalOp cf env H xo = some (av, H')) (hE : EnvR C w a env) (hH : RH C w Hp)
  (hT : ∀ id ∈ (touched env H xo).1, Hp id = H[id]?) (hnew : ∀ i, H.length ≤ i → i < H'.length → ¬ C.D i) : OpWp P o a w (StepPost C w H Hp av H' (touched env H xo).2) := by
 have hN : H.length < H'.length → ¬ C.D H.length := fun h => hnew _ (Nat.le_refl _) h
 cases hop : o.op with
 | move x => 
  have := mv_sound (P := P) (.inl hop) ht he hE
  simp only [opT, hop, Option.map_eq_some_iff] at ht; obtain ⟨_, _, rfl⟩ := ht
  exact PureOk.step hH this rfl
 | assign x =>
  have := mv_sound (P := P) (.inr hop) ht he hE
  simp only [opT, hop, Option.map_eq_some_iff] at ht; obtain ⟨_, _, rfl⟩ := ht
  exact PureOk.step hH this rfl
 | pick c x y =>
  have := pick_sound (P := P) hop ht he hE
  simp only [opT, hop, Option.bind_eq_bind, Option.bind_eq_some_iff, Option.some.injEq] at ht; obtain ⟨_, _, _, _, _, _, rfl⟩ := ht
  exact PureOk.step hH this rfl
 | alloc t =>
  have hlt : H.length < H'.length := by
   simp only [opT, hop, Option.map_eq_some_iff] at ht; obtain ⟨_, _, rfl⟩ := ht
   simp only [evalOp, Option.some.injEq, Prod.mk.injEq] at he; obtain ⟨_, rfl⟩ := he; simp
  have := alloc_sound (a := a) hop ht he hH (hN hlt)
  simp only [opT, hop, Option.map_eq_some_iff] at ht; obtain ⟨_, _, rfl⟩ := ht
  exact this.step
 | box t x =>
  have hlt : H.length < H'.length := by
   simp only [opT, hop, Option.map_eq_some_iff] at ht; obtain ⟨_, _, rfl⟩ := ht
   simp only [evalOp] at he
   split at he <;> first | (cases he; done) | skip
   simp only [Option.some.injEq, Prod.mk.injEq] at he; obtain ⟨_, rfl⟩ := he; simp
  have := box_sound hop ht he hE hH (hN hlt)
  simp only [opT, hop, Option.map_eq_some_iff] at ht; obtain ⟨_, _, rfl⟩ := ht
  exact this.step
 | build t ps =>
  have := build_sound (P := P) hop ht he hE
  refine PureOk.step hH this ?_
  simp only [opT, hop] at ht
  split at ht <;> first | (cases ht; done) | skip
  ·simp only [Option.bind_eq_bind, Option.bind_eq_some_iff] at ht
   obtain ⟨_, _, _, _, ht⟩ := ht
   split at ht <;> first | (cases ht; done) | skip
   simp only [Option.some.injEq] at ht; subst ht; rfl
  ·simp only [Option.bind_eq_bind, Option.bind_eq_some_iff] at ht
   obtain ⟨_, _, ht⟩ := ht
   split at ht <;> first | (cases ht; done) | skip
   simp only [Option.bind_eq_some_iff, Option.some.injEq] at ht
   obtain ⟨_, _, rfl⟩ := ht; rfl
 | buildSlice t n ps =>
  have hlt : H.length < H'.length := by
   simp only [opT, hop] at ht
   split at ht <;> first | (cases ht; done) | skip
   simp only [Option.bind_eq_bind, Option.bind_eq_some_iff] at ht
   obtain ⟨_, _, _, _, ht⟩ := ht
   split at ht <;> first | (cases ht; done) | skip
   simp only [Option.some.injEq] at ht; subst ht
   simp only [evalOp] at he
   split at he <;> first | (cases he; done) | skip
   split at he <;> first | (cases he; done) | skip
   split at he <;> first | (cases he; done) | skip
   simp only [Option.some.injEq, Prod.mk.injEq] at he; obtain ⟨_, rfl⟩ := he; simp [freeze_length]
  exact (bsl_sound hop ht he hE hH (hN hlt) hT).step
 | load t x =>
  have := load_op_sound hop ht he hE hH hT
  refine PureOk.step hH this ?_
  simp only [opT, hop, Option.bind_eq_bind, Option.bind_eq_some_iff, Option.some.injEq] at ht
  obtain ⟨_, _, _, _, rfl⟩ := ht
  simp only [touched]; split <;> rfl
 | store t x y => exact (store_sound hop ht he hE hH hT).step
 | nilCheck x =>
  have := nilchk_sound (P := P) hop ht he hE
  simp only [opT, hop, Option.map_eq_some_iff] at ht; obtain ⟨_, _, rfl⟩ := ht
  exact PureOk.step hH this rfl
 | binOp op t x y u =>
  have hx : (∃ x' y', xo = .bin op x' y') ∨ (∃ b c p x' y', xo = .eqv b c p x' y') ∨ (∃ k b x', xo = .eqn k b x') ∨ ∃ b x', xo = .eqm b x' := by
   simp only [opT, hop] at ht
   cases op <;> simp only at ht <;> first | (cases ht; done) | skip
   all_goals
    split at ht <;> first | (cases ht; done) | skip
    all_goals first
     | (simp only [Option.bind_eq_bind, Option.bind_eq_some_iff, Option.some.injEq] at ht
        obtain ⟨x', _, y', _, rfl⟩ := ht
        first | exact .inl ⟨_, _, rfl⟩ | exact .inr (.inl ⟨_, _, _, _, _, rfl⟩))
     | (split at ht
        · simp only [Option.map_eq_some_iff] at ht
          obtain ⟨x', _, rfl⟩ := ht
          exact .inr (.inr (.inl ⟨_, _, _, rfl⟩))
        · split at ht <;> first | (cases ht; done) | skip
          simp only [Option.map_eq_some_iff] at ht
          obtain ⟨x', _, rfl⟩ := ht
          exact .inr (.inr (.inr ⟨_, _, rfl⟩)))
  have hwr : (touched env H xo).2 = [] := by rcases hx with ⟨_, _, rfl⟩ | ⟨_, _, _, _, _, rfl⟩ | ⟨_, _, _, rfl⟩ | ⟨_, _, rfl⟩ <;> rfl
  by_cases hb : op = .eql ∨ op = .neq
  ·by_cases hq : ∃ k ng x', xo = .eqn k ng x'
   ·obtain ⟨k, ng, x', hq⟩ := hq
    exact PureOk.step hH (eqn_sound (P := P) hop hb ht hq he hE) hwr
   ·by_cases hq2 : ∃ ng x', xo = .eqm ng x'
    ·obtain ⟨ng, x', hq2⟩ := hq2
     exact PureOk.step hH (eqm_sound (P := P) hop hb ht hq2 he hE) hwr
    ·exact PureOk.step hH (eqv_sound (P := P) hop hb (fun k ng x' e => hq ⟨k, ng, x', e⟩) (fun ng x' e => hq2 ⟨ng, x', e⟩) ht he hE) hwr
  ·by_cases hb2 : op = .add ∨ op = .sub ∨ op = .mul ∨ op = .quo ∨ op = .rem ∨ op = .lss ∨ op = .leq ∨ op = .gtr ∨ op = .geq
   ·exact PureOk.step hH (bin_sound (P := P) hop hb2 ht he hE) hwr
   ·exfalso
    cases op <;> first | (exact hb (.inl rfl)) | (exact hb (.inr rfl)) | (simp at hb2; done) | (simp only [opT, hop] at ht; cases ht)
 | unOp op t x =>
  cases op with
  | not =>
   have := not_sound (P := P) hop ht he hE
   simp only [opT, hop, Option.map_eq_some_iff] at ht; obtain ⟨_, _, rfl⟩ := ht
   exact PureOk.step hH this rfl
  | neg =>
   have := neg_sound (P := P) hop ht he hE
   simp only [opT, hop, Option.map_eq_some_iff] at ht; obtain ⟨_, _, rfl⟩ := ht
   exact PureOk.step hH this rfl
  | _ => simp only [opT, hop] at ht; cases ht
 | convert t u x =>
  have := conv_sound (P := P) hop ht he hE
  refine PureOk.step hH this ?_
  simp only [opT, hop] at ht
  split at ht <;> first | (cases ht; done) | skip
  simp only [Option.map_eq_some_iff] at ht; obtain ⟨_, _, rfl⟩ := ht; rfl
 | extract x i =>
  have := ext_sound (P := P) hop ht he hE
  simp only [opT, hop, Option.map_eq_some_iff] at ht; obtain ⟨_, _, rfl⟩ := ht
  exact PureOk.step hH this rfl
 | fieldAddr t x i =>
  have := fadr_sound (P := P) hop ht he hE
  refine PureOk.step hH this ?_
  simp only [opT, hop] at ht
  split at ht <;> first | (cases ht; done) | skip
  simp only [Option.bind_eq_bind, Option.bind_eq_some_iff] at ht
  obtain ⟨_, _, ht⟩ := ht
  split at ht <;> first | (cases ht; done) | skip
  simp only [Option.bind_eq_some_iff, Option.some.injEq] at ht
  obtain ⟨_, _, rfl⟩ := ht; rfl
 | field t x i =>
  have := fld_sound (P := P) hop ht he hE
  refine PureOk.step hH this ?_
  simp only [opT, hop] at ht
  split at ht <;> first | (cases ht; done) | skip
  simp only [Option.bind_eq_bind, Option.bind_eq_some_iff, Option.some.injEq] at ht
  obtain ⟨_, _, _, _, _, _, rfl⟩ := ht; rfl
 | indexAddr t x i =>
  have := iadr_sound hop ht he hE hH hT
  refine PureOk.step hH this ?_
  simp only [opT, hop] at ht
  split at ht <;> first | (cases ht; done) | skip
  all_goals
   simp only [Option.bind_eq_bind] at ht
   split at ht <;> first | (cases ht; done) | skip
   simp only [Option.bind_eq_some_iff, Option.some.injEq] at ht
   obtain ⟨_, _, _, _, rfl⟩ := ht; rfl
 | index t x i =>
  by_cases hq : ∃ x' i', xo = .sidx x' i'
  ·obtain ⟨x', i', hq⟩ := hq
   exact PureOk.step hH (sidx_sound (P := P) hop hq ht he hE) (by subst hq; rfl)
  ·have := idx_sound (P := P) hop (fun x' i' e => hq ⟨x', i', e⟩) ht he hE
   refine PureOk.step hH this ?_
   simp only [opT, hop] at ht
   split at ht <;> first | (cases ht; done) | skip
   ·simp only [Option.bind_eq_bind, Option.bind_eq_some_iff, Option.some.injEq] at ht
    obtain ⟨_, _, _, _, _, _, rfl⟩ := ht; rfl
   ·simp only [Option.bind_eq_bind, Option.bind_eq_some_iff, Option.some.injEq] at ht
    obtain ⟨_, _, _, _, rfl⟩ := ht; rfl
 | slice t x lo hi mx =>
  cases mx with
  | some m => simp only [opT, hop] at ht; cases ht
  | none =>
   have := slice_sound hop ht he hE hH hT
   refine PureOk.step hH this ?_
   simp only [opT, hop] at ht
   split at ht <;> first | (cases ht; done) | skip
   simp only [Option.bind_eq_bind] at ht
   split at ht <;> first | (cases ht; done) | skip
   simp only [Option.bind_eq_some_iff, Option.some.injEq] at ht
   obtain ⟨_, _, _, _, _, _, rfl⟩ := ht; rfl
 | makeSlice t l c =>
  have hlt : H.length < H'.length ∧ (touched env H xo).2 = [] := by
   simp only [opT, hop] at ht
   split at ht <;> first | (cases ht; done) | skip
   simp only [Option.bind_eq_bind, Option.bind_eq_some_iff] at ht
   obtain ⟨_, _, ht⟩ := ht
   split at ht <;> first | (cases ht; done) | skip
   simp only [Option.bind_eq_some_iff, Option.some.injEq] at ht
   obtain ⟨_, _, _, _, rfl⟩ := ht
   simp only [evalOp] at he
   split at he <;> first | (cases he; done) | skip
   split at he <;> first | (cases he; done) | skip
   split at he <;> first | (cases he; done) | skip
   split at he <;> first | (cases he; done) | skip
   simp only [Option.some.injEq, Prod.mk.injEq] at he; obtain ⟨_, rfl⟩ := he
   exact ⟨by simp, rfl⟩
  rw [hlt.2]
  exact (mksl_sound hop ht he hE hH (hN hlt.1)).step
 | makeInterface t x =>
  obtain ⟨h1, h2, h3⟩ := mkifc_sound (P := P) hop ht he hE
  exact PureOk.step hH ⟨h1, h2⟩ h3
 | panic x =>
  simp only [opT, hop, Option.some.injEq] at ht; subst ht
  simp [evalOp] at he
 | typeAssert x xt t ok =>
  obtain ⟨h1, h2, h3⟩ := tas_sound (P := P) hop ht he hE
  exact PureOk.step hH ⟨h1, h2⟩ h3
 | makeMap t r =>
  cases r with
  | some r => simp only [opT, hop] at ht; cases ht
  | none =>
   have hlt : H.length < H'.length ∧ (touched env H xo).2 = [] := by
    simp only [opT, hop] at ht
    split at ht <;> first | (cases ht; done) | skip
    split at ht <;> first | (cases ht; done) | skip
    simp only [Option.some.injEq] at ht; subst ht
    simp only [evalOp, Option.some.injEq, Prod.mk.injEq] at he; obtain ⟨_, rfl⟩ := he
    exact ⟨by simp, rfl⟩
   rw [hlt.2]
   exact (mkmap_sound (a := a) hop ht he hH (hN hlt.1)).step
 | lookup t x i ok =>
  have := mget_sound hop ht he hE hH hT
  refine PureOk.step hH this ?_
  simp only [opT, hop] at ht
  split at ht <;> first | (cases ht; done) | skip
  split at ht <;> first | (cases ht; done) | skip
  simp only [Option.bind_eq_bind, Option.bind_eq_some_iff, Option.some.injEq] at ht
  obtain ⟨_, _, _, _, rfl⟩ := ht; rfl
 | mapUpdate t x y z => exact (mput_sound hop ht he hE hH hT).step
 | makeFunc f xs ys =>
  have := mkfn_sound (P := P) hop ht he hE
  simp only [opT, hop, Option.bind_eq_bind, Option.bind_eq_some_iff, Option.some.injEq] at ht
  obtain ⟨_, _, _, _, rfl⟩ := ht
  exact PureOk.step hH this rfl
 | call c =>
  cases hc : c.callee with
  | value f => exact call_sound hcf hop hc ht he hE hH hT hnew
  | invoke r name => exact inv_sound hcf hop hc ht he hE hH hT hnew
  | builtin b =>
   by_cases h1 : b = .len
   ·subst h1
    by_cases hq : ∃ m, xo = .mlen m
    ·obtain ⟨m, hq⟩ := hq
     refine PureOk.step hH (mlen_sound hop hc ht hq he hE hH hT) (by subst hq; rfl)
    ·have := len_sound (P := P) hop hc (fun m e => hq ⟨m, e⟩) ht he hE
     refine PureOk.step hH this ?_
     simp only [opT, hop, hc] at ht
     split at ht <;> first | (cases ht; done) | skip
     split at ht <;> first | (cases ht; done) | skip
     ·simp only [Option.map_eq_some_iff] at ht; obtain ⟨_, _, rfl⟩ := ht; rfl
     ·simp only [Option.map_eq_some_iff] at ht; obtain ⟨_, _, rfl⟩ := ht; rfl
     ·split at ht <;> first | (cases ht; done) | skip
      simp only [Option.map_eq_some_iff] at ht; obtain ⟨_, _, rfl⟩ := ht; rfl
   ·by_cases h2 : b = .append
    ·subst h2
     have hlt : H.length < H'.length := by
      simp only [opT, hop, hc] at ht
      split at ht <;> first | (cases ht; done) | skip
      split at ht <;> first | (cases ht; done) | skip
      split at ht <;> first | (cases ht; done) | skip
      split at ht <;> first | (cases ht; done) | skip
      simp only [Option.bind_eq_bind, Option.bind_eq_some_iff, Option.some.injEq] at ht
      obtain ⟨_, _, _, _, rfl⟩ := ht
      simp only [evalOp, appendTo] at he
      split at he <;> first | (cases he; done) | skip
      split at he <;> first | (cases he; done) | skip
      split at he <;> first | (cases he; done) | skip
      ·split at he <;> first | (cases he; done) | skip
       simp only [Option.some.injEq, Prod.mk.injEq] at he; obtain ⟨_, rfl⟩ := he; simp
      ·split at he <;> first | (cases he; done) | skip
       split at he <;> first | (cases he; done) | skip
       simp only [Option.some.injEq, Prod.mk.injEq] at he; obtain ⟨_, rfl⟩ := he; simp
     exact (app_sound hop hc ht he hE hH (hN hlt) hT).step
    ·by_cases h3 : b = .copy
     ·subst h3
      exact (cpy_sound hop hc ht he hE hH hT).step
     ·by_cases h4 : b = .max ∨ b = .min
      ·have := mm_sound (P := P) hop hc h4 ht he hE
       refine PureOk.step hH this ?_
       rcases h4 with rfl | rfl <;> simp only [opT, hop, hc] at ht <;> split at ht <;> first | (cases ht; done) | skip
       all_goals
        simp only [Option.bind_eq_bind, Option.bind_eq_some_iff, Option.some.injEq] at ht
        obtain ⟨_, _, _, _, rfl⟩ := ht; rfl
      ·exfalso
       cases b <;> simp only [opT, hop, hc] at ht <;> first | (cases ht; done) | exact h1 rfl | exact h2 rfl | exact h3 rfl | exact h4 (.inl rfl) | exact h4 (.inr rfl)
 | _ => simp only [opT, hop] at ht; cases ht
end Go.Ax
