/-
  Ax, text 7: equality, and structs built.
-/
import Derived.Test.YtponcchkfmbicaaXPure3
namespace Go.Ax
set_option linter.unusedSectionVars false
open Go.RowKit

variable [Gls]
variable {P : Program} {C : Ctx} {w : World} {a : Act} {env : Env} {H H' : List Blk} {cf : CallF} {av : AV} {o : Oper} {xo : XOp} {Hp : Nat → Option Blk}

theorem cellsEq_append : ∀ {p : List LK} {q : List LK} {xs ys : List AV} {b : Bool}, cellsEq (p ++ q) xs ys = some b → ∃ b1 b2, cellsEq p (xs.take p.length) (ys.take p.length) = some b1 ∧
    cellsEq q (xs.drop p.length) (ys.drop p.length) = some b2 ∧ b = (b1 && b2)
  | [], q, xs, ys, b, h => ⟨true, b, by simp [cellsEq], by simpa using h, by simp⟩
  | k :: p, q, x :: xs, y :: ys, b, h => by
    simp only [List.cons_append, cellsEq] at h
    split at h <;> first | (cases h; done) | skip
    rename_i c hc
    split at h <;> first | (cases h; done) | skip
    rename_i d hd
    injection h with h; subst h
    obtain ⟨b1, b2, h1, h2, rfl⟩ := cellsEq_append hd
    exact ⟨c && b1, b2, by simp [cellsEq, hc, h1], by simpa using h2, by cases c <;> cases b1 <;> rfl⟩
  | _ :: _, _, [], _, _, h => by simp [cellsEq] at h
  | _ :: _, _, _ :: _, [], _, h => by simp [cellsEq] at h

theorem eqGuardType_of_plan : ∀ (k : Nat) (t : TypeId) (pl : List LK), eqPlan P k t = some pl → ∀ d, k ≤ d → P.eqGuardType d t = false
  | 0, _, _, h, _, _ => by simp [eqPlan] at h
  | k + 1, t, pl, h, d, hd => by
    obtain ⟨d, rfl⟩ : ∃ m, d = m + 1 := ⟨d - 1, by omega⟩
    simp only [eqPlan] at h
    unfold Program.eqGuardType
    split at h <;> first | (cases h; done) | skip
    · rename_i hu; rw [hu]
    · rename_i hu; rw [hu]
    · rename_i hu; rw [hu]
    · rename_i fs hu; rw [hu]
      split at h <;> first | (cases h; done) | skip
      have key : ∀ (l : List Field) (pos : Nat) (pl : List LK), planFields P (eqPlan P k) pos l = some pl → ∀ f ∈ l, (f.name != "_" && P.eqGuardType d f.type) = false := by
        intro l
        induction l with
        | nil => intro _ _ _ f hf; cases hf
        | cons g l ih =>
          intro pos pl hp f hf
          simp only [planFields] at hp
          split at hp <;> first | (cases hp; done) | skip
          split at hp <;> first | (cases hp; done) | skip
          rename_i p hg
          split at hp <;> first | (cases hp; done) | skip
          split at hp <;> first | (cases hp; done) | skip
          rename_i q hq
          rcases List.mem_cons.1 hf with rfl | hf
          · rw [eqGuardType_of_plan k _ _ hg d (by omega)]; simp
          · exact ih _ _ hq f hf
      simp only
      rw [← Array.any_toList]
      rw [List.any_eq_false]
      intro f hf
      rw [key _ _ _ h f hf]; simp

theorem aggOf_of_plan {k : Nat} {t : TypeId} {pl : List LK} (h : eqPlan P k t = some pl) : aggOf P t = some (some (P.cellsOf t)) ∨ (aggOf P t = some none ∧ ∃ x, pl = [x]) := by
  cases k with
  | zero => simp [eqPlan] at h
  | succ k =>
    simp only [eqPlan] at h
    unfold aggOf
    split at h <;> first | (cases h; done) | skip
    · rename_i hu; rw [hu]; injection h with h; exact .inr ⟨rfl, _, h.symm⟩
    · rename_i hu; rw [hu]; injection h with h; exact .inr ⟨rfl, _, h.symm⟩
    · rename_i hu; rw [hu]; injection h with h; exact .inr ⟨rfl, _, h.symm⟩
    · rename_i fs hu; rw [hu]; exact .inl rfl

theorem equalIn_sound : ∀ (k : Nat) (t : TypeId) (pl : List LK), eqPlan P k t = some pl → ∀ (d : Nat), k ≤ d → ∀ (xs ys : List AV) (us vs : List Value) (b : Bool), RL C w us xs → RL C w vs ys →
    cellsEq pl xs ys = some b →
    (∀ u v, (aggOf P t = some none → u = us.headD undef ∧ v = vs.headD undef) → (aggOf P t ≠ some none → u = .agg us.toArray ∧ v = .agg vs.toArray) → (Op.equalIn d t u v).run P w = .ok b w)
  | 0, _, _, h, _, _, _, _, _, _, _, _, _, _ => by simp [eqPlan] at h
  | k + 1, t, pl, h, d, hd, xs, ys, us, vs, b, hX, hY, hb => by
    obtain ⟨d, rfl⟩ : ∃ m, d = m + 1 := ⟨d - 1, by omega⟩
    intro u v h1 h2
    have leaf : ∀ lk : LK, pl = [lk] → ∃ x y, xs = [x] ∧ ys = [y] ∧ us = [us.headD undef] ∧ vs = [vs.headD undef] ∧ RV C w (us.headD undef) x ∧ RV C w (vs.headD undef) y ∧ leafEq lk x y = some b := by
      intro lk e; subst e
      cases xs with
      | nil => simp [cellsEq] at hb
      | cons x xs =>
        cases ys with
        | nil => simp [cellsEq] at hb
        | cons y ys =>
          simp only [cellsEq] at hb
          split at hb <;> first | (cases hb; done) | skip
          rename_i c hc
          cases xs <;> cases ys <;> simp [cellsEq] at hb
          subst hb
          obtain ⟨hx1, hx2⟩ := hX
          obtain ⟨hy1, hy2⟩ := hY
          cases us with
          | nil => simp at hx1
          | cons u us => cases us with
            | cons _ _ => simp at hx1
            | nil => cases vs with
              | nil => simp at hy1
              | cons v vs => cases vs with
                | cons _ _ => simp at hy1
                | nil => exact ⟨x, y, rfl, rfl, rfl, rfl, hx2 0 u x rfl rfl, hy2 0 v y rfl rfl, hc⟩
    simp only [eqPlan] at h
    split at h <;> first | (cases h; done) | skip
    · rename_i hu
      injection h with h
      obtain ⟨x, y, -, -, -, -, hx, hy, hl⟩ := leaf .b h.symm
      obtain ⟨rfl, rfl⟩ := h1 (by simp [aggOf, hu])
      generalize us.headD undef = u at hx
      generalize vs.headD undef = v at hy
      unfold leafEq at hl
      split at hl <;> first | (cases hl; done) | skip
      · injection hl with hl; subst hl
        cases hx with | dat hx => cases hx; cases hy with | dat hy => cases hy; exact run_equalIn_bool' w d t _ _ hu
      all_goals rename_i e; cases e
    · rename_i ik hu
      injection h with h
      obtain ⟨x, y, -, -, -, -, hx, hy, hl⟩ := leaf .i h.symm
      obtain ⟨rfl, rfl⟩ := h1 (by simp [aggOf, hu])
      generalize us.headD undef = u at hx
      generalize vs.headD undef = v at hy
      unfold leafEq at hl
      split at hl <;> first | (cases hl; done) | skip
      · rename_i e; cases e
      · split at hl <;> first | (cases hl; done) | skip
        rename_i hk; subst hk
        injection hl with hl; subst hl
        cases hx with | dat hx => cases hx; cases hy with | dat hy => cases hy; exact run_equalIn_int w d t _ _ _ _ hu
      · rename_i e; cases e
    · rename_i hu
      injection h with h
      obtain ⟨x, y, -, -, -, -, hx, hy, hl⟩ := leaf .s h.symm
      obtain ⟨rfl, rfl⟩ := h1 (by simp [aggOf, hu])
      generalize us.headD undef = u at hx
      generalize vs.headD undef = v at hy
      unfold leafEq at hl
      split at hl <;> first | (cases hl; done) | skip
      · rename_i e; cases e
      · rename_i e; cases e
      · injection hl with hl; subst hl
        cases hx with | dat hx => cases hx; cases hy with | dat hy => cases hy; rw [run_equalIn_string w d t _ _ hu, beq_toListBytes]
    · rename_i fs hu
      split at h <;> first | (cases h; done) | skip
      rename_i hst
      obtain ⟨rfl, rfl⟩ := h2 (by simp [aggOf, hu])
      have hfo : P.fieldsOf t = fs := by simp [Program.fieldsOf, hu]
      rw [run_equalIn_struct w d t _ _ (by rw [hfo, hu]) (by simpa using hst), hfo]
      -- the fields, one by one
      have key : ∀ (l : List Field) (pos : Nat) (pl : List LK) (b : Bool), planFields P (eqPlan P k) pos l = some pl → cellsEq pl (xs.drop pos) (ys.drop pos) = some b →
          (Op.eqFields d us.toArray vs.toArray l).run P w = .ok b w := by
        intro l
        induction l with
        | nil =>
          intro pos pl b hp hc
          simp only [planFields, Option.some.injEq] at hp; subst hp
          have : b = true := by
            generalize xs.drop pos = A at hc
            generalize ys.drop pos = B at hc
            cases A <;> cases B <;> simp [cellsEq] at hc
            exact hc
          subst this
          simp [Op.eqFields]
        | cons f l ih =>
          intro pos pl b hp hc
          simp only [planFields] at hp
          split at hp <;> first | (cases hp; done) | skip
          rename_i hf
          obtain ⟨hname, hoff⟩ := hf
          split at hp <;> first | (cases hp; done) | skip
          rename_i p hg
          split at hp <;> first | (cases hp; done) | skip
          rename_i hpl
          split at hp <;> first | (cases hp; done) | skip
          rename_i q hq
          injection hp with hp; subst hp
          obtain ⟨b1, b2, hc1, hc2, rfl⟩ := cellsEq_append hc
          rw [List.drop_drop] at hc2
          rw [List.drop_drop] at hc2
          have hrest := ih (pos + p.length) q b2 hq hc2
          have hlen : ∀ {p : List LK} {xs ys : List AV} {b : Bool}, cellsEq p xs ys = some b → xs.length = p.length ∧ ys.length = p.length := by
            intro p
            induction p with
            | nil => intro xs ys b h; cases xs <;> cases ys <;> simp [cellsEq] at h ⊢
            | cons k p ih =>
              intro xs ys b h
              cases xs <;> cases ys <;> simp only [cellsEq] at h <;> first | (cases h; done) | skip
              split at h <;> first | (cases h; done) | skip
              split at h <;> first | (cases h; done) | skip
              rename_i _ hd
              have := ih hd
              simp [this.1, this.2]
          have hXs := (hX.drop pos).take p.length
          have hYs := (hY.drop pos).take p.length
          have hl1 := hlen hc1
          -- the two parts
          have hparts : ∃ pu pv, (part f.type us.toArray f.offset).run P w = .ok pu w ∧ (part f.type vs.toArray f.offset).run P w = .ok pv w ∧ (Op.equalIn d f.type pu pv).run P w = .ok b1 w := by
            have main := equalIn_sound k f.type p hg d (by omega) _ _ _ _ b1 hXs hYs hc1
            subst hoff
            rcases aggOf_of_plan hg with ha | ⟨ha, lk, hlk⟩
            · refine ⟨.agg ((us.drop f.offset).take p.length).toArray, .agg ((vs.drop f.offset).take p.length).toArray, ?_, ?_, main _ _ (fun e => by rw [ha] at e; cases e) (fun _ => ⟨rfl, rfl⟩)⟩
              · obtain ⟨hn2, dd, hdd⟩ := aggOf_some ha
                simp only [part, Sem.run_bind, run_isAgg ha w, Result.andThen_ok, Option.isSome_some, if_true, run_sizeOf' hdd, Sem.run_pure, hpl]
                congr 2; apply Array.ext'; simp
              · obtain ⟨hn2, dd, hdd⟩ := aggOf_some ha
                simp only [part, Sem.run_bind, run_isAgg ha w, Result.andThen_ok, Option.isSome_some, if_true, run_sizeOf' hdd, Sem.run_pure, hpl]
                congr 2; apply Array.ext'; simp
            · subst hlk
              have hl2 := hXs.1
              have hl3 := hYs.1
              rw [hl1.1] at hl2
              rw [hl1.2] at hl3
              simp only [List.length_take, List.length_drop, List.length_cons, List.length_nil] at hl2 hl3
              have e1 : f.offset < us.length := by omega
              have e2 : f.offset < vs.length := by omega
              refine ⟨us[f.offset], vs[f.offset], ?_, ?_, main _ _ (fun _ => ⟨?_, ?_⟩) (fun e => absurd ha e)⟩
              · simp [part, run_isAgg ha w, e1]
              · simp [part, run_isAgg ha w, e2]
              · rw [List.drop_eq_getElem_cons e1]; rfl
              · rw [List.drop_eq_getElem_cons e2]; rfl
          obtain ⟨pu, pv, h1, h2, h3⟩ := hparts
          simp only [Op.eqFields]
          simp only [hname, ne_eq, not_false_eq_true, if_true, Sem.run_bind, h1, h2, h3, Result.andThen_ok]
          cases b1 with
          | true => simpa using hrest
          | false => simp
      exact key _ 0 pl b h (by simpa using hb)

theorem depth_le : 16 ≤ P.depth := by unfold Program.depth Made.depth; omega

theorem RV.agg_of {v : Value} {x : AV} (h : RV C w v x) (hx : x.isAgg = true) : ∃ us : List Value, v = .agg us.toArray ∧ RL C w us x.cells := by
  cases h <;> first | (simp [AV.isAgg] at hx; done) | skip
  · rename_i d h
    cases h <;> first | (simp [AV.isAgg] at hx; done) | skip
    rename_i vs ds hn h
    refine ⟨vs.toList, rfl, by simpa [AV.cells] using hn, fun j u y hu hy => ?_⟩
    simp only [AV.cells, List.getElem?_map, Option.map_eq_some_iff] at hy
    obtain ⟨d, hd, rfl⟩ := hy
    exact .dat (h j d u hd (by simpa using hu))
  · rename_i vs cs hn h
    exact ⟨vs.toList, rfl, by simpa [AV.cells] using hn, fun j u y hu hy => h j y u hy (by simpa using hu)⟩
theorem RV.leaf_of {v : Value} {x : AV} (h : RV C w v x) (hx : x.isAgg = false) : RL C w [v] x.cells := by
  have e : x.cells = [x] := by
    cases x <;> first | rfl | (simp [AV.isAgg] at hx; done) | skip
    rename_i d; cases d <;> first | rfl | (simp [AV.isAgg] at hx; done)
  rw [e]; exact RL.cons h RL.nil

def isNeq : BinOp → Bool
  | .neq => true
  | _ => false

theorem run_eqnil_slice {t e : TypeId} (hu : P.underlying t = some (.slice e)) (b : Option Addr) (n c : Nat) : (Op.equal t (.slice b n c) (.slice none 0 0)).run P w = .ok b.isNone w := by
  show (Op.equalIn (9999 + 1) t (.slice b n c) (.slice none 0 0)).run P w = _
  rw [Op.equalIn]
  cases b <;> simp [run_underlying hu]
theorem run_eqnil_ptr {t e : TypeId} (hu : P.underlying t = some (.pointer e)) (b : Option Addr) : (Op.equal t (.pointer b) (.pointer none)).run P w = .ok b.isNone w := by
  show (Op.equalIn (9999 + 1) t (.pointer b) (.pointer none)).run P w = _
  rw [Op.equalIn]
  cases b <;> simp [run_underlying hu]

theorem eqn_sound {op : BinOp} {t u : TypeId} {x y : Operand} (hop : o.op = .binOp op t x y u) (hb : op = .eql ∨ op = .neq) (ht : opT P o = some xo) {k ng : Bool} {x' : XO} (hxo : xo = .eqn k ng x') (he : evalOp cf env H xo = some (av, H')) (hE : EnvR C w a env) : H' = H ∧ PureOk P C w a o av := by
  subst hxo
  have ht' : nilT P t y = some k ∧ operandT P (some t) x = some x' ∧ ng = isNeq op := by
    rcases hb with rfl | rfl <;>
    · simp only [opT, hop] at ht
      split at ht
      · simp only [Option.bind_eq_bind, Option.bind_eq_some_iff, Option.some.injEq] at ht
        obtain ⟨_, _, _, _, h⟩ := ht; cases h
      · split at ht
        · rename_i hn
          simp only [Option.map_eq_some_iff, XOp.eqn.injEq] at ht
          obtain ⟨x2, hx, rfl, rfl, rfl⟩ := ht
          exact ⟨hn, hx, rfl⟩
        · split at ht <;> first | (cases ht; done) | skip
          simp only [Option.map_eq_some_iff] at ht
          obtain ⟨_, _, h⟩ := ht; cases h
  obtain ⟨hn, hx, rfl⟩ := ht'
  have Rx := operand_sound hx hE
  generalize hvx : a.eval x = vx at Rx
  simp only [evalOp] at he
  split at he <;> first | (cases he; done) | skip
  rename_i b hb2
  simp only [Option.some.injEq, Prod.mk.injEq] at he; obtain ⟨rfl, rfl⟩ := he
  refine ⟨rfl, .bool (isNeq op != b), ?_, .dat (.bool _)⟩
  have hy : (k = true ∧ (∃ e, P.underlying t = some (.slice e)) ∧ a.eval y = .slice none 0 0) ∨ (k = false ∧ (∃ e, P.underlying t = some (.pointer e)) ∧ a.eval y = .pointer none) := by
    unfold nilT at hn
    split at hn
    · split at hn <;> first | (cases hn; done) | skip
      rename_i e he; injection hn with hn; exact .inl ⟨hn.symm, ⟨e, he⟩, rfl⟩
    · split at hn <;> first | (cases hn; done) | skip
      rename_i e he; injection hn with hn; exact .inr ⟨hn.symm, ⟨e, he⟩, rfl⟩
    · cases hn
  have sl : ∀ (ad : Option Addr) (n c : Nat), k = true → vx = .slice ad n c → (do eqGuard op t x y vx (a.eval y); binOp op t vx (a.eval y) : Sem Value).run P w = .ok (.bool (isNeq op != ad.isNone)) w := by
    intro ad n c hk hv
    rcases hy with ⟨_, ⟨e, hu⟩, hvy⟩ | ⟨h, _⟩
    · rw [hv, hvy]
      have hr := run_eqnil_slice (w := w) hu ad n c
      rcases hb with rfl | rfl <;> simp [eqGuard, binOp, hr, isNeq]
    · rw [hk] at h; cases h
  have pt : ∀ (ad : Option Addr), k = false → vx = .pointer ad → (do eqGuard op t x y vx (a.eval y); binOp op t vx (a.eval y) : Sem Value).run P w = .ok (.bool (isNeq op != ad.isNone)) w := by
    intro ad hk hv
    rcases hy with ⟨h, _⟩ | ⟨_, ⟨e, hu⟩, hvy⟩
    · rw [hk] at h; cases h
    · rw [hv, hvy]
      have hr := run_eqnil_ptr (w := w) hu ad
      rcases hb with rfl | rfl <;> simp [eqGuard, binOp, hr, isNeq]
  suffices h : (do eqGuard op t x y vx (a.eval y); binOp op t vx (a.eval y) : Sem Value).run P w = .ok (.bool (isNeq op != b)) w by
    simp only [execOp, hop, hvx]
    rw [Sem.run_bind, h]; rfl
  unfold isNil at hb2
  split at hb2 <;> first | (cases hb2; done) | skip
  all_goals
    rename_i ex
    rw [ex] at Rx
    injection hb2 with hb2; subst hb2
  · cases Rx with | dat R => cases R; exact sl _ _ _ rfl rfl
  · cases Rx with | dat R => cases R; exact pt _ rfl rfl
  · cases Rx; exact pt _ rfl rfl
  · cases Rx; exact pt _ rfl rfl
  · cases Rx; exact pt _ rfl rfl

theorem run_eqnil_map {t k e : TypeId} (hu : P.underlying t = some (.map k e)) (b : Option Nat) : (Op.equal t (.map b) (.map none)).run P w = .ok b.isNone w := by
  show (Op.equalIn (9999 + 1) t (.map b) (.map none)).run P w = _
  rw [Op.equalIn]
  cases b <;> simp [run_underlying hu]

theorem eqm_sound {op : BinOp} {t u : TypeId} {x y : Operand} (hop : o.op = .binOp op t x y u) (hb : op = .eql ∨ op = .neq) (ht : opT P o = some xo) {ng : Bool} {x' : XO} (hxo : xo = .eqm ng x') (he : evalOp cf env H xo = some (av, H')) (hE : EnvR C w a env) : H' = H ∧ PureOk P C w a o av := by
  subst hxo
  have ht' : mapNil P t y = true ∧ operandT P (some t) x = some x' ∧ ng = isNeq op := by
    rcases hb with rfl | rfl <;>
    · simp only [opT, hop] at ht
      split at ht
      · simp only [Option.bind_eq_bind, Option.bind_eq_some_iff, Option.some.injEq] at ht
        obtain ⟨_, _, _, _, h⟩ := ht; cases h
      · split at ht
        · simp only [Option.map_eq_some_iff] at ht
          obtain ⟨_, _, h⟩ := ht; cases h
        · split at ht <;> first | (cases ht; done) | skip
          rename_i hn
          simp only [Option.map_eq_some_iff, XOp.eqm.injEq] at ht
          obtain ⟨x2, hx, rfl, rfl⟩ := ht
          exact ⟨hn, hx, rfl⟩
  obtain ⟨hn, hx, rfl⟩ := ht'
  have Rx := operand_sound hx hE
  generalize hvx : a.eval x = vx at Rx
  have hy : (∃ k e, P.underlying t = some (.map k e)) ∧ a.eval y = .map none := by
    unfold mapNil at hn
    split at hn
    · split at hn
      · rename_i k e he; exact ⟨⟨k, e, he⟩, rfl⟩
      · cases hn
    · cases hn
  obtain ⟨⟨k, e, hu⟩, hvy⟩ := hy
  have key : ∀ (r : Option Nat), vx = .map r → (do eqGuard op t x y vx (a.eval y); binOp op t vx (a.eval y) : Sem Value).run P w = .ok (.bool (isNeq op != r.isNone)) w := by
    intro r hv
    rw [hv, hvy]
    have hr := run_eqnil_map (w := w) hu r
    rcases hb with rfl | rfl <;> simp [eqGuard, binOp, hr, isNeq]
  simp only [evalOp] at he
  split at he <;> first | (cases he; done) | skip
  · rename_i id ex
    rw [ex] at Rx
    simp only [Option.some.injEq, Prod.mk.injEq] at he; obtain ⟨rfl, rfl⟩ := he
    cases Rx
    refine ⟨rfl, .bool (isNeq op), ?_, .dat (.bool _)⟩
    have := key _ rfl
    simp only [execOp, hop, hvx]
    rw [Sem.run_bind, this]; simp
  · rename_i ex
    rw [ex] at Rx
    simp only [Option.some.injEq, Prod.mk.injEq] at he; obtain ⟨rfl, rfl⟩ := he
    cases Rx with
    | dat R =>
      cases R
      refine ⟨rfl, .bool (!isNeq op), ?_, .dat (.bool _)⟩
      have := key _ rfl
      simp only [execOp, hop, hvx]
      rw [Sem.run_bind, this]; simp

theorem eqv_sound {op : BinOp} {t u : TypeId} {x y : Operand} (hop : o.op = .binOp op t x y u) (hb : op = .eql ∨ op = .neq) (hne : ∀ k ng x', xo ≠ .eqn k ng x') (hne2 : ∀ ng x', xo ≠ .eqm ng x') (ht : opT P o = some xo) (he : evalOp cf env H xo = some (av, H')) (hE : EnvR C w a env) : H' = H ∧ PureOk P C w a o av := by
  have ht' : ∃ pl x' y', eqPlan P 16 t = some pl ∧ operandT P (some t) x = some x' ∧ operandT P (some t) y = some y' ∧ xo = .eqv (isNeq op) (aggOf P t).join.isSome pl x' y' := by
    rcases hb with rfl | rfl <;>
    · simp only [opT, hop] at ht
      split at ht
      rotate_left
      · split at ht
        · simp only [Option.map_eq_some_iff] at ht
          obtain ⟨x', _, rfl⟩ := ht
          exact absurd rfl (hne _ _ x')
        · split at ht <;> first | (cases ht; done) | skip
          simp only [Option.map_eq_some_iff] at ht
          obtain ⟨x', _, rfl⟩ := ht
          exact absurd rfl (hne2 _ x')
      rename_i pl hpl
      simp only [Option.bind_eq_bind, Option.bind_eq_some_iff, Option.some.injEq] at ht
      obtain ⟨x', hx, y', hy, rfl⟩ := ht
      exact ⟨pl, x', y', hpl, hx, hy, rfl⟩
  obtain ⟨pl, x', y', hpl, hx, hy, rfl⟩ := ht'
  have Rx := operand_sound hx hE
  have Ry := operand_sound hy hE
  generalize hvx : a.eval x = vx at Rx
  generalize hvy : a.eval y = vy at Ry
  simp only [evalOp] at he
  split at he <;> first | (cases he; done) | skip
  rename_i hag
  obtain ⟨hag1, hag2⟩ := hag
  split at he <;> first | (cases he; done) | skip
  rename_i b hc
  simp only [Option.some.injEq, Prod.mk.injEq] at he; obtain ⟨rfl, rfl⟩ := he
  refine ⟨rfl, .bool ((isNeq op) != b), ?_, .dat (.bool _)⟩
  suffices h : (do eqGuard op t x y vx vy; binOp op t vx vy : Sem Value).run P w = .ok (.bool ((isNeq op) != b)) w by
    simp only [execOp, hop, hvx, hvy]
    rw [Sem.run_bind, h]; rfl
  have hmain := equalIn_sound (C := C) (w := w) 16 t pl hpl 10000 (by omega)
  rcases aggOf_of_plan hpl with ha | ⟨ha, lk, rfl⟩
  · rw [ha] at hag1 hag2
    obtain ⟨us, rfl, hU⟩ := Rx.agg_of hag1
    obtain ⟨vs, rfl, hV⟩ := Ry.agg_of hag2
    have hq := hmain _ _ us vs b hU hV hc (.agg us.toArray) (.agg vs.toArray) (fun e => by rw [ha] at e; cases e) (fun _ => ⟨rfl, rfl⟩)
    have hg := run_eqGuard_agg (P := P) w op t x y us.toArray vs.toArray (eqGuardType_of_plan 16 t pl hpl _ depth_le)
    rw [Sem.run_bind, hg]
    simp only [Result.andThen_ok]
    rcases hb with rfl | rfl
    · rw [run_eql_struct, hq]; simp [isNeq]
    · rw [run_neq_struct, hq]; simp [isNeq]
  · rw [ha] at hag1 hag2
    have hU := Rx.leaf_of hag1
    have hV := Ry.leaf_of hag2
    have hq := hmain _ _ [vx] [vy] b hU hV hc vx vy (fun _ => ⟨rfl, rfl⟩) (fun e => absurd ha e)
    -- what they are
    generalize x'.ev env = X at *
    generalize y'.ev env = Y at *
    have hcX : X.cells = [X] := by
      cases X <;> first | rfl | (simp [AV.isAgg] at hag1; done) | skip
      rename_i d; cases d <;> first | rfl | (simp [AV.isAgg] at hag1; done)
    have hcY : Y.cells = [Y] := by
      cases Y <;> first | rfl | (simp [AV.isAgg] at hag2; done) | skip
      rename_i d; cases d <;> first | rfl | (simp [AV.isAgg] at hag2; done)
    rw [hcX, hcY] at hc
    simp only [cellsEq] at hc
    split at hc <;> first | (cases hc; done) | skip
    rename_i c hl
    simp only [Bool.and_true, Option.some.injEq] at hc; subst hc
    unfold leafEq at hl
    split at hl <;> first | (cases hl; done) | skip
    · injection hl with hl; subst hl
      cases Rx with | dat Rx => cases Rx; cases Ry with | dat Ry => cases Ry; (rcases hb with rfl | rfl <;> simp [eqGuard, binOp, Op.equal, Op.maxDepth, hq, isNeq])
    · split at hl <;> first | (cases hl; done) | skip
      rename_i hk; subst hk
      injection hl with hl; subst hl
      cases Rx with | dat Rx => cases Rx; cases Ry with | dat Ry => cases Ry; (rcases hb with rfl | rfl <;> simp [eqGuard, binOp, Op.intCmp, bne, isNeq])
    · injection hl with hl; subst hl
      cases Rx with | dat Rx => cases Rx; cases Ry with | dat Ry => cases Ry; (rcases hb with rfl | rfl <;> simp [eqGuard, binOp, Op.stringOp, beq_toListBytes, bne, isNeq])

end Go.Ax
