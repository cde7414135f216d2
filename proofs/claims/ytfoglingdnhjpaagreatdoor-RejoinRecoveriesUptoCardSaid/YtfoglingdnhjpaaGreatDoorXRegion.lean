/-
  Ax, text 19: regions.
-/
import Derived.Test.YtfoglingdnhjpaaGreatDoorXCum
import Derived.Orders
namespace Go.Ax
set_option linter.all false
set_option linter.unusedSectionVars false
open Go.RowKit
variable [Gls]
variable {P : Program} {C0 C C' : Ctx} {w0 w w' : World} {a : Act} {env : Env} {H0 H H' : List Blk} {cf : CallF} {av : AV} {o : Oper} {xo : XOp} {Hp : Nat → Option Blk} {wr : List Nat} {ops : Array Oper} {N : Nat}
 {Q : Exit → Act → World → Prop}
theorem envR_put {dst : Option Nat} {v : Value} {E E' : Nat → AV} (hE : ∀ n, RV C w (a.tmps.getD n undef) (E n)) (K : Keeps C C' w w') (hd : ∀ d, dst = some d → d < a.tmps.size ∧ RV C' w' v (E' d))
  (hs : ∀ n, dst ≠ some n → E' n = E n) : ∀ n, RV C' w' ((a.put dst v).tmps.getD n undef) (E' n) := by
 intro n
 cases dst with
 | none => rw [hs n (by simp)]; exact (hE n).keeps K
 | some d =>
  obtain ⟨h1, h2⟩ := hd d rfl
  by_cases h : d = n
  ·subst h
   have : (a.put (some d) v).tmps.getD d undef = v := by simp [Act.put, Array.getD, h1]
   rw [this]; exact h2
  ·have : (a.put (some d) v).tmps.getD n undef = a.tmps.getD n undef := by
    simp only [Act.put, Array.getD_eq_getD_getElem?, Array.getElem?_setIfInBounds_ne h]
   rw [this, hs n (by simpa using h)]; exact (hE n).keeps K
theorem get_put {env : Env} {dst : Option Nat} {v : AV} {n : Nat} : dst ≠ some n → get (match dst with | some d => (d, v) :: env | none => env) n = get env n := by
 intro h
 cases dst with
 | none => rfl
 | some d => simp only [get]; rw [if_neg (by simpa using h)]
theorem runOp_env {x : XOper} {s s' : St} (h : runOp cf x s = some s') : ∀ n, x.dst ≠ some n → get s'.env n = get s.env n := by
 intro n hn
 simp only [runOp] at h
 split at h
 ·split at h <;> first | (cases h; done) | skip
  injection h with h; subst h
  exact get_put hn
 ·split at h
  ·split at h
   ·split at h <;> first | (cases h; done) | skip
    injection h with h; subst h
    exact get_put hn
   ·injection h with h; subst h
    exact get_put hn
  ·injection h with h; subst h
   exact get_put hn
  ·cases h
theorem runOp_heap {x : XOper} {s s' : St} (h : runOp cf x s = some s') : s.H.length ≤ s'.H.length ∧ ∀ i, i < s.H.length → i ∉ (runTouched s.env s.H x).2 → s'.H[i]? = s.H[i]? := by
 simp only [runOp] at h
 simp only [runTouched]
 split at h
 ·rename_i hg
  split at h <;> first | (cases h; done) | skip
  rename_i v H hv
  injection h with h; subst h
  exact evalOp_frame hv
 ·rename_i t want hg
  split at h
  ·rename_i b hb
   simp only [hb]
   split at h
   ·rename_i hw
    split at h <;> first | (cases h; done) | skip
    rename_i v H hv
    injection h with h; subst h
    rw [if_pos hw]
    exact evalOp_frame hv
   ·injection h with h; subst h
    exact ⟨Nat.le_refl _, fun _ _ _ => rfl⟩
  ·rename_i hb
   simp only [hb]
   injection h with h; subst h
   exact ⟨Nat.le_refl _, fun _ _ _ => rfl⟩
  ·cases h
theorem runOp_uses {x : XOper} {env env' : Env} (h : ∀ n ∈ x.uses, get env n = get env' n) {s' : St} (hr : runOp cf x ⟨env, H⟩ = some s') :
  ∃ s2, runOp cf x ⟨env', H⟩ = some s2 ∧ s2.H = s'.H ∧ (∀ d, x.dst = some d → get s2.env d = get s'.env d) ∧ runTouched env' H x = runTouched env H x := by
 have h1 : evalOp cf env H x.op = evalOp cf env' H x.op := evalOp_congr fun n hn => h n (by simp only [XOper.uses, List.mem_append]; exact .inl hn)
 have h2 : touched env H x.op = touched env' H x.op := touched_congr fun n hn => h n (by simp only [XOper.uses, List.mem_append]; exact .inl hn)
 obtain ⟨dst, op, g⟩ := x
 cases g with
 | none =>
  simp only [runOp, runTouched] at hr ⊢
  simp only at h1 h2
  rw [← h1, ← h2]
  split at hr <;> first | (cases hr; done) | skip
  rename_i v H1 hv
  injection hr with hr; subst hr
  exact ⟨_, rfl, rfl, fun d hd => (by subst hd; simp [get]), rfl⟩
 | some p =>
  obtain ⟨t, want⟩ := p
  have h3 : get env t = get env' t := h t (by simp [XOper.uses])
  simp only [runOp, runTouched] at hr ⊢
  simp only at h1 h2
  rw [← h1, ← h2, ← h3]
  split at hr
  ·rename_i b hb
   split at hr
   ·rename_i hw
    split at hr <;> first | (cases hr; done) | skip
    rename_i v H1 hv
    injection hr with hr; subst hr
    simp only [hw, if_true]
    exact ⟨_, rfl, rfl, fun d hd => (by subst hd; simp [get]), trivial⟩
   ·rename_i hw
    injection hr with hr; subst hr
    simp only [if_neg hw]
    exact ⟨_, rfl, rfl, fun d hd => (by subst hd; simp [get]), trivial⟩
  ·injection hr with hr; subst hr
   exact ⟨_, rfl, rfl, fun d hd => (by subst hd; simp [get]), rfl⟩
  ·cases hr
theorem tmps_put (a : Act) (dst : Option Nat) (v : Value) : (a.put dst v).tmps.size = a.tmps.size := by
 cases dst <;> simp [Act.put]
theorem defers_put (a : Act) (dst : Option Nat) (v : Value) : (a.put dst v).defers = a.defers := by
 cases dst <;> rfl
theorem op_sound (hcf : CFSound P cf) {i : Nat} (hi : ops[i]? = some o) {x : XOper} (hx : operT P ops o = some x) {s' : St} (hr : runOp cf x ⟨env, H⟩ = some s') (hE : EnvR C w a env) (hH : RH C w Hp)
  (hT : ∀ id ∈ (runTouched env H x).1, Hp id = H[id]?) (hnew : ∀ i, H.length ≤ i → i < s'.H.length → ¬ C.D i) {K : Act → World → Prop}
  (hK : ∀ C' w' v, (∀ d, x.dst = some d → RV C' w' v (get s'.env d)) → Local C C' w w' H s'.H Hp (runTouched env H x).2 → K (a.put x.dst v) w') : wpOp P ops Q i K a w := by
 unfold wpOp
 simp only [hi]
 simp only [operT, Option.bind_eq_bind, Option.bind_eq_some_iff] at hx
 obtain ⟨xo, hxo, hx⟩ := hx
 have main : ∀ {g : Option (Nat × Bool)} {H' : List Blk} {av : AV}, evalOp cf env H xo = some (av, H') → (∀ id ∈ (touched env H xo).1, Hp id = H[id]?) → (∀ i, H.length ≤ i → i < H'.length → ¬ C.D i) →
   (∀ C' w' v, RV C' w' v av → Local C C' w w' H H' Hp (touched env H xo).2 → K (a.put o.dst v) w') → o.wp P a w K Q := fun he hT hnew hK =>
  step_sound hcf hxo he hE hH hT hnew Q K fun v w' ⟨C', hV, hL⟩ => hK C' w' v hV hL
 cases hg : o.guard with
 | none =>
  simp only [hg, Option.some.injEq] at hx; subst hx
  have hw : Region.wanted o (yielded ops a.tmps) = true := by simp [Region.wanted, hg]
  rw [if_pos hw]
  simp only [runOp, runTouched] at hr hT hK
  split at hr <;> first | (cases hr; done) | skip
  rename_i v H1 hv
  injection hr with hr; subst hr
  refine .inl (main (g := none) hv hT hnew fun C' w' v hV hL => hK C' w' v (fun d hd => ?_) hL)
  rw [hd]; simpa [get] using hV
 | some p =>
  obtain ⟨j, want⟩ := p
  simp only [hg, Option.bind_eq_some_iff, Option.some.injEq] at hx
  obtain ⟨oj, hoj, d0, hd0, rfl⟩ := hx
  simp only [runOp, runTouched] at hr hT hK
  split at hr
  ·rename_i b hb
   have hval : a.tmps.getD d0 undef = .bool b := by
    have := hE d0
    rw [hb] at this
    generalize a.tmps.getD d0 undef = u at this
    cases this with
    | dat h => cases h; rfl
   have hlt : d0 < a.tmps.size := by
    rcases Nat.lt_or_ge d0 a.tmps.size with h | h
    ·exact h
    ·rw [Array.getD_eq_getD_getElem?, Array.getElem?_eq_none h] at hval
     simp [undef] at hval
   have hy : yielded ops a.tmps j = some b := by
    unfold yielded
    rw [hoj]
    simp only [Option.bind_some, hd0]
    rw [Array.getD_eq_getD_getElem?, Array.getElem?_eq_getElem hlt] at hval
    rw [Array.getElem?_eq_getElem hlt]
    simp only [Option.getD_some] at hval
    rw [hval]
   have hwant : Region.wanted o (yielded ops a.tmps) = (b == want) := by
    simp only [Region.wanted, hg, hy]
    cases b <;> cases want <;> rfl
   simp only [hb] at hT hK
   rw [hwant]
   split at hr
   ·rename_i hbw
    rw [if_pos (by simp [hbw])]
    simp only [if_pos hbw] at hT hK
    split at hr <;> first | (cases hr; done) | skip
    rename_i v H1 hv
    injection hr with hr; subst hr
    refine .inl (main (g := none) hv hT hnew fun C' w' v hV hL => hK C' w' v (fun d hd => ?_) hL)
    rw [hd]; simpa [get] using hV
   ·rename_i hbw
    rw [if_neg (by simp [hbw])]
    simp only [if_neg hbw] at hT hK
    injection hr with hr; subst hr
    refine hK C w undef (fun d hd => ?_) (Local.refl hH)
    rw [hd]; simp only [get, if_true]
    exact .tup _ _ rfl (fun j c v hc _ => by simp at hc)
  ·rename_i hb
   have hval : a.tmps.getD d0 undef = .tuple #[] := by
    have := hE d0
    rw [hb] at this
    generalize a.tmps.getD d0 undef = u at this
    cases this with
    | tup vs _ hn _ =>
     have : vs = #[] := by simpa using hn
     rw [this]
   have hy : yielded ops a.tmps j = none := by
    unfold yielded
    rw [hoj]
    simp only [Option.bind_some, hd0]
    rw [Array.getD_eq_getD_getElem?] at hval
    cases ht : a.tmps[d0]? with
    | none => rfl
    | some u =>
     rw [ht] at hval
     simp only [Option.getD_some] at hval
     subst hval; rfl
   have hwant : Region.wanted o (yielded ops a.tmps) = false := by
    simp only [Region.wanted, hg, hy]; rfl
   simp only [hb] at hT hK
   rw [hwant, if_neg (by simp)]
   injection hr with hr; subst hr
   refine hK C w undef (fun d hd => ?_) (Local.refl hH)
   rw [hd]; simp only [get, if_true]
   exact .tup _ _ rfl (fun j c v hc _ => by simp at hc)
  ·cases hr
theorem upd_at {H H' : List Blk} {wr : List Nat} (hs : ∀ i, i < H.length → i ∉ wr → H'[i]? = H[i]?) : upd (at_ H) H H' wr = at_ H' := by
 funext i
 unfold upd
 split
 ·rfl
 ·rename_i h
  simp only [at_]
  by_cases h1 : i < H.length
  ·exact (hs i h1 (fun hm => h (.inl hm))).symm
  ·have h2 : ¬ i < H'.length := fun hlt => h (.inr ⟨by omega, hlt⟩)
   rw [List.getElem?_eq_none (by omega), List.getElem?_eq_none (by omega)]
theorem listM_get {α β : Type} {f : α → Option β} : ∀ {xs : List α} {l : List β}, listM f xs = some l → l.length = xs.length ∧ ∀ (i : Nat) (x : α), xs[i]? = some x → ∃ y : β, l[i]? = some y ∧ f x = some y
 | [], l, h => by
  simp only [listM, Option.some.injEq] at h; subst h
  exact ⟨rfl, fun i x hx => by simp at hx⟩
 | x :: xs, l, h => by
  simp only [listM] at h
  split at h <;> first | (cases h; done) | skip
  rename_i y hy
  split at h <;> first | (cases h; done) | skip
  rename_i r hr
  injection h with h; subst h
  obtain ⟨h1, h2⟩ := listM_get hr
  refine ⟨by simp [h1], fun i z hz => ?_⟩
  cases i with
  | zero => simp at hz; subst hz; exact ⟨y, rfl, hy⟩
  | succ i => exact h2 i z (by simpa using hz)
theorem dstOk_get {l : List XOper} (h : dstOk N l = true) {i : Nat} {x : XOper} (hx : l[i]? = some x) {d : Nat} (hd : x.dst = some d) : d < N := by
 have := List.all_eq_true.1 h x (List.mem_of_getElem? hx)
 rw [hd] at this
 simpa using this
theorem seq_sound [DefL] (hcf : CFSound P cf) (h0 : RH C0 w0 (at_ H0)) {l : List XOper} (hl : listM (operT P ops) ops.toList = some l) (hN : dstOk N l = true) {s' : St} (hQ : ∀ C a w, SR C0 w0 H0 N C a w s' → Q .normal a w) :
  ∀ (m k : Nat), k + m = ops.size → ∀ (s : St), runOps cf (l.drop k) s = some s' → ∀ C a w, SR C0 w0 H0 N C a w s → wpOps P ops Q (List.range' k m) a w := by
 obtain ⟨hlen, hget⟩ := listM_get hl
 intro m
 induction m with
 | zero =>
  intro k hk s hr C a w hS
  have : l.drop k = [] := List.drop_eq_nil_of_le (by simp at hlen; omega)
  rw [this] at hr
  simp only [runOps, Option.some.injEq] at hr; subst hr
  exact hQ C a w hS
 | succ m ih =>
  intro k hk s hr C a w hS
  have hklt : k < ops.size := by omega
  obtain ⟨x, hx, hox⟩ := hget k ops[k] (by simp [hklt])
  have hkl : k < l.length := (List.getElem?_eq_some_iff.1 hx).1
  have hdrop : l.drop k = x :: l.drop (k + 1) := by
   rw [List.drop_eq_getElem_cons hkl]
   congr 1
   exact (List.getElem?_eq_some_iff.1 hx).2
  rw [hdrop] at hr
  simp only [runOps] at hr
  split at hr <;> first | (cases hr; done) | skip
  rename_i s1 hs1
  rw [show List.range' k (m + 1) = k :: List.range' (k + 1) m from rfl, wpOps_cons]
  have hhp := runOp_heap hs1
  refine op_sound (H := s.H) (env := s.env) (Hp := at_ s.H) (C := C) hcf (Array.getElem?_eq_getElem hklt) hox hs1 hS.env hS.heap (fun _ _ => rfl) (fun i h1 _ hD => ?_) fun C' w' v hV hL => ?_
  ·have := (hS.dom i).1 hD; omega
  ·refine ih (k + 1) (by omega) s1 hr C' _ w' ⟨⟨envR_put hS.env.tm hL.keeps (fun d hd => ⟨Nat.lt_of_lt_of_le (dstOk_get hN hx hd) hS.tmps, hV d hd⟩) (fun n hn => runOp_env hs1 n hn), hS.env.gl.keeps hL.keeps⟩, ?_, fun i => ?_, ?_, Nat.le_trans hS.len hhp.1, by rw [tmps_put]; exact hS.tmps, by rw [defers_put]; exact hS.defers⟩
   ·have := hL.heap hS.heap
    rwa [upd_at hhp.2] at this
   ·rw [hL.dom i, hS.dom i]; have := hhp.1; omega
   ·have := hS.cum.step h0 hS.heap hL
    rwa [upd_at hhp.2] at this
def Throws (P : Program) (g : Nat) (t : TypeId) : Prop := (∃ fn, P.funcs[g]? = some fn ∧ (fn.name == "runtime.NumGoroutine") = false ∧ fn.body.isNone = false) ∧ ∀ (w : World) (e : Int), Calls P g #[.int .i64 e] w fun en w' => w' = w ∧ if e = 0 then ∃ u, en = .returned u else en = .panicked [{ v := .iface t (.agg #[.int .i64 e]), recovered := false }]
theorem callT_enter {o : Oper} {g : Nat} {x : XO} (ht : opT P o = some (.call (.c (.fn (.func g) [] [])) [x])) (hE : EnvR C w a env) : (∃ fn, P.funcs[g]? = some fn ∧ (fn.name == "runtime.NumGoroutine") = false ∧ fn.body.isNone = false) → ∃ v, (execOp a.eval o).run P w = .ok (.enter g #[v]) w ∧ RV C w v (x.ev env) := by
 rintro ⟨fn, h1, h2, h3⟩
 cases hop : o.op
 case call c =>
  obtain ⟨callee, args, argTypes⟩ := c
  cases callee with
  | value f =>
   simp only [opT, hop, Option.bind_eq_bind, Option.bind_eq_some_iff, Option.some.injEq] at ht
   obtain ⟨g', hg, as', has, ht⟩ := ht
   have Rg := operand_sound hg hE
   have Ras := args_sound (P := P) hE args.toList (argTypes.toList.map some ++ List.replicate args.size none) as' (by simp) has
   rcases mkCall_cases g' as' with e | ⟨k, e0, e⟩
   ·rw [e] at ht
    injection ht with e1 e2
    subst e1; subst e2
    generalize hvg : a.eval f = vg at Rg
    simp only [XO.ev] at Rg
    cases Rg with
    | fn _ fs cs _ _ hn1 hn2 hfs hcs =>
     have e1 : fs = #[] := by simpa using hn1
     have e2 : cs = #[] := by simpa using hn2
     subst e1; subst e2
     obtain ⟨hl, hv⟩ := Ras
     simp only [List.length_map, List.length_cons, List.length_nil] at hl
     obtain ⟨y, hy⟩ := List.length_eq_one_iff.1 hl
     have harr : args = #[y] := by apply Array.ext'; simpa using hy
     subst harr
     refine ⟨a.eval y, ?_, hv 0 _ _ (by simp) (by simp)⟩
     have harr : ((#[] : Array Value) ++ (#[y] : Array Operand).map a.eval ++ #[]) = #[a.eval y] := by apply Array.ext'; simp
     simp only [execOp, hop, resolve, hvg, Deferred.ofValue, Sem.run_bind, Sem.run_pure, Result.andThen_ok, invoke, callFunc, run_program, h1, h2, h3, Bool.false_eq_true, if_false, harr]
   ·rw [e] at ht; cases ht
  | _ =>
   simp only [opT, hop] at ht
   repeat' split at ht
   all_goals first | (cases ht; done) | (rename_i hq; cases hq; done) | (rename_i hq _; cases hq; done) | (rename_i hq _ _; cases hq; done) | (rename_i hq _ _ _; cases hq; done) | (simp only [Option.bind_eq_bind, Option.bind_eq_some_iff, Option.map_eq_some_iff, Option.ite_none_right_eq_some, Option.ite_none_left_eq_some, Option.some.injEq, reduceCtorEq, and_false, exists_false, exists_const, false_and] at ht; done) | skip
 all_goals
  simp only [opT, hop] at ht
  repeat' split at ht
  all_goals first | (cases ht; done) | (rename_i hq; cases hq; done) | (rename_i hq _; cases hq; done) | (rename_i hq _ _; cases hq; done) | (rename_i hq _ _ _; cases hq; done) | (simp only [Option.bind_eq_bind, Option.bind_eq_some_iff, Option.map_eq_some_iff, Option.ite_none_right_eq_some, Option.ite_none_left_eq_some, Option.some.injEq, reduceCtorEq, and_false, exists_false, exists_const, false_and] at ht; done) | skip
theorem thr_sound [DefL] (hcf : CFSound P cf) (h0 : RH C0 w0 (at_ H0)) {l : List XOper} {d g : Nat} {x : XO} (hl : listM (operT P ops) ops.toList = some (l ++ [⟨some d, .call (.c (.fn (.func g) [] [])) [x], none⟩])) (hN : dstOk N (l ++ [⟨some d, .call (.c (.fn (.func g) [] [])) [x], none⟩]) = true)
  (hth : Throws P g DefL.t) {s1 : St} {e : Int} (hx : x.ev s1.env = .dat (.int .i64 e)) (hQ : e = 0 → ∀ C a w, SR C0 w0 H0 N C a w ⟨(d, .top) :: s1.env, s1.H⟩ → Q .normal a w)
  (hQ2 : e ≠ 0 → ∀ C a w, SR C0 w0 H0 N C a w s1 → Q (.panic [{ v := .iface DefL.t (.agg #[.int .i64 e]), recovered := false }]) a w) :
  ∀ (m k : Nat), k + m = l.length → ∀ (s : St), runOps cf (l.drop k) s = some s1 → ∀ C a w, SR C0 w0 H0 N C a w s → wpOps P ops Q (List.range' k (m + 1)) a w := by
 obtain ⟨hlen, hget⟩ := listM_get hl
 have hsz : ops.size = l.length + 1 := by simp at hlen; omega
 intro m
 induction m with
 | zero =>
  intro k hk s hr C a w hS
  have hkl : k = l.length := by omega
  have : l.drop k = [] := List.drop_eq_nil_of_le (by omega)
  rw [this] at hr
  simp only [runOps, Option.some.injEq] at hr; subst hr
  have hklt : k < ops.size := by omega
  obtain ⟨y, hy, hoy⟩ := hget k ops[k] (by simp [hklt])
  have hye : y = ⟨some d, .call (.c (.fn (.func g) [] [])) [x], none⟩ := by
   rw [List.getElem?_append_right (by omega), hkl, Nat.sub_self] at hy
   simpa using hy.symm
  subst hye
  rw [show List.range' k (0 + 1) = [k] from rfl, wpOps_cons]
  unfold wpOp
  rw [Array.getElem?_eq_getElem hklt]
  simp only
  generalize ops[k] = o at *
  simp only [operT, Option.bind_eq_bind, Option.bind_eq_some_iff] at hoy
  obtain ⟨xo, hxo, hoy⟩ := hoy
  cases hg : o.guard with
  | some p =>
   obtain ⟨j, want⟩ := p
   simp only [hg, Option.bind_eq_some_iff, Option.some.injEq] at hoy
   obtain ⟨_, _, _, _, hh⟩ := hoy
   injection hh with _ _ hh; cases hh
  | none =>
   simp only [hg, Option.some.injEq] at hoy
   injection hoy with hd1 hd2 _
   subst hd2
   have hw : Region.wanted o (yielded ops a.tmps) = true := by simp [Region.wanted, hg]
   rw [if_pos hw]
   obtain ⟨v, hcall, hvx⟩ := callT_enter (P := P) (w := w) hxo hS.env hth.1
   rw [hx] at hvx
   have hv : v = .int .i64 e := by
    cases hvx with
    | dat h => cases h; rfl
   subst hv
   unfold Oper.wp
   left
   rw [hcall, Oper.upon_enter]
   refine (hth.2 w e).mono fun en w' hp => ?_
   obtain ⟨rfl, hp⟩ := hp
   by_cases he : e = 0
   ·rw [if_pos he] at hp
    obtain ⟨u, rfl⟩ := hp
    have : wpOps P ops Q [] (a.put o.dst u) w' = Q .normal (a.put o.dst u) w' := rfl
    show wpOps P ops Q [] (a.put o.dst u) w'
    rw [this]
    refine hQ he C _ w' ⟨⟨fun n => ?_, hS.env.gl⟩, hS.heap, hS.dom, hS.cum, hS.len, by rw [tmps_put]; exact hS.tmps, by rw [defers_put]; exact hS.defers⟩
    rw [hd1]
    have := envR_put (E' := fun n => get ((d, .top) :: s.env) n) (dst := some d) (v := u) hS.env.tm (Keeps.refl C w') (fun d' hd' => ⟨by injection hd' with hd'; subst hd'; exact Nat.lt_of_lt_of_le (dstOk_get hN hy rfl) hS.tmps, by
     injection hd' with hd'; subst hd'; simp only [get, if_true]; exact .top _⟩) (fun n hn => by
     simp only [get]
     rw [if_neg (fun h => hn (by rw [h]))])
    exact this n
   ·rw [if_neg he] at hp
    subst hp
    exact hQ2 he C a w' hS
 | succ m ih =>
  intro k hk s hr C a w hS
  have hklt : k < ops.size := by omega
  obtain ⟨y, hy, hoy⟩ := hget k ops[k] (by simp [hklt])
  have hkl : k < l.length := by omega
  have hyl : l[k]? = some y := by rw [← List.getElem?_append_left (l₂ := [⟨some d, .call (.c (.fn (.func g) [] [])) [x], none⟩]) hkl]; exact hy
  have hdrop : l.drop k = y :: l.drop (k + 1) := by
   rw [List.drop_eq_getElem_cons hkl]
   congr 1
   exact (List.getElem?_eq_some_iff.1 hyl).2
  rw [hdrop] at hr
  simp only [runOps] at hr
  split at hr <;> first | (cases hr; done) | skip
  rename_i s2 hs2
  rw [show List.range' k (m + 1 + 1) = k :: List.range' (k + 1) (m + 1) from rfl, wpOps_cons]
  have hhp := runOp_heap hs2
  refine op_sound (H := s.H) (env := s.env) (Hp := at_ s.H) (C := C) hcf (Array.getElem?_eq_getElem hklt) hoy hs2 hS.env hS.heap (fun _ _ => rfl) (fun i h1 _ hD => ?_) fun C' w' v hV hL => ?_
  ·have := (hS.dom i).1 hD; omega
  ·refine ih (k + 1) (by omega) s2 hr C' _ w' ⟨⟨envR_put hS.env.tm hL.keeps (fun d hd => ⟨Nat.lt_of_lt_of_le (dstOk_get hN hy hd) hS.tmps, hV d hd⟩) (fun n hn => runOp_env hs2 n hn), hS.env.gl.keeps hL.keeps⟩, ?_, fun i => ?_, ?_, Nat.le_trans hS.len hhp.1, by rw [tmps_put]; exact hS.tmps, by rw [defers_put]; exact hS.defers⟩
   ·have := hL.heap hS.heap
    rwa [upd_at hhp.2] at this
   ·rw [hL.dom i, hS.dom i]; have := hhp.1; omega
   ·have := hS.cum.step h0 hS.heap hL
    rwa [upd_at hhp.2] at this
end Go.Ax
