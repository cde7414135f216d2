/-
  Ax, text 23: whole functions.
-/
import Derived.Test.YtfoglingdnhjpaaGreatDoorXCode
namespace Go.Ax
set_option linter.all false
set_option linter.unusedSectionVars false
open Go.RowKit
variable [Gls]
variable {P : Program} {C0 C C' : Ctx} {w0 w w' : World} {a : Act} {env : Env} {H0 H H' : List Blk} {cf : CallF} {av : AV} {N n : Nat} {s s' : St}
theorem get_params (m : Nat) : ∀ (l : List AV) (i : Nat), get (params i l) m = if i ≤ m then (l[m - i]?).getD .top else .top
 | [], i => by simp [params, get]
 | v :: r, i => by
  simp only [params, get]
  by_cases h : i = m
  ·subst h; simp
  ·rw [if_neg h, get_params m r (i + 1)]
   by_cases h2 : i + 1 ≤ m
   ·rw [if_pos h2, if_pos (by omega), show m - i = (m - (i + 1)) + 1 by omega, List.getElem?_cons_succ]
   ·rw [if_neg h2, if_neg (by omega)]
theorem loadVar_of_loadAt {t : TypeId} {v u : Value} (h : (Instr.loadAt t v).run P w = .ok u w) : ((do loadVar t (← asAddr v) : Sem Value)).run P w = .ok u w := by
 cases v <;> first
  | (simp [Instr.loadAt, Instr.sureAddr, stuck, Sem.run] at h; done)
  | skip
 rename_i p
 cases p with
 | none => simp [Instr.loadAt, Instr.sureAddr, stuck, Sem.run] at h
 | some ad =>
  simp only [Instr.loadAt, Instr.sureAddr, Sem.run_bind, Sem.run_pure, Result.andThen_ok] at h
  simp only [asAddr, Sem.run_bind, Sem.run_pure, Result.andThen_ok]
  exact h
def resOf (tmps : Array Value) : ResultVar → Sem Value
 | .tmp t => pure (tmps.getD t undef)
 | .cell a t => do loadVar t (← asAddr (tmps.getD a undef))
theorem results_eq (fn : Func) (tmps : Array Value) : results fn tmps = (do let vs ← fn.results.mapM (resOf tmps); pure (if h : vs.size = 1 then vs[0] else .tuple vs)) := rfl
theorem res_sound (hE : EnvR C w a env) (hH : RH C w (at_ H)) : ∀ (l : List ResultVar) (rs : List XRes) (vs : List AV), listM (resT P) l = some rs → evRes env H rs = some vs → ∃ us : List Value, (l.mapM (resOf a.tmps)).run P w = .ok us w ∧ RL C w us vs
 | [], rs, vs, h, hv => by
  simp only [listM, Option.some.injEq] at h; subst h
  simp only [evRes, Option.some.injEq] at hv; subst hv
  exact ⟨[], by simp, RL.nil⟩
 | x :: l, rs, vs, h, hv => by
  simp only [listM] at h
  split at h <;> first | (cases h; done) | skip
  rename_i y hy
  split at h <;> first | (cases h; done) | skip
  rename_i r hr
  injection h with h; subst h
  cases x with
  | tmp t =>
   simp only [resT, Option.some.injEq] at hy; subst hy
   simp only [evRes] at hv
   split at hv <;> first | (cases hv; done) | skip
   rename_i vs' hvs
   injection hv with hv; subst hv
   obtain ⟨us, h1, h2⟩ := res_sound hE hH l r vs' hr hvs
   exact ⟨a.tmps.getD t undef :: us, by simp only [List.mapM_cons, resOf, Sem.run_bind, Sem.run_pure, Result.andThen_ok, h1], RL.cons (hE t) h2⟩
  | cell t ty =>
   simp only [resT, Option.map_eq_some_iff] at hy
   obtain ⟨ag, hag, rfl⟩ := hy
   simp only [evRes] at hv
   split at hv <;> first | (cases hv; done) | skip
   rename_i v vs' hl hvs
   injection hv with hv; subst hv
   obtain ⟨us, h1, h2⟩ := res_sound hE hH l r vs' hr hvs
   obtain ⟨u, h3, h4⟩ := loadAt_sound hag (hE t) hl hH (fun _ _ => rfl)
   have h5 := loadVar_of_loadAt h3
   simp only [Sem.run_bind] at h5
   exact ⟨u :: us, by simp only [List.mapM_cons, resOf, Sem.run_bind, Sem.run_pure, Result.andThen_ok, h5, h1], RL.cons h4 h2⟩
theorem results_sound (hE : EnvR C w a env) (hH : RH C w (at_ H)) {fn : Func} {rs : List XRes} {vs : List AV} (h : listM (resT P) fn.results.toList = some rs) (hv : evRes env H rs = some vs) :
  ∃ u, (results fn a.tmps).run P w = .ok u w ∧ RV C w u (tupOf vs) := by
 obtain ⟨us, h1, h2⟩ := res_sound hE hH _ rs vs h hv
 rw [results_eq, Array.mapM_eq_mapM_toList]
 simp only [Sem.run_bind, map_eq_pure_bind, h1, Sem.run_pure, Result.andThen_ok]
 refine ⟨_, rfl, ?_⟩
 obtain ⟨hn, hx⟩ := h2
 by_cases h3 : us.length = 1
 ·obtain ⟨u, rfl⟩ := List.length_eq_one_iff.1 h3
  obtain ⟨v, rfl⟩ := List.length_eq_one_iff.1 (hn.symm.trans h3)
  exact hx 0 u v rfl rfl
 ·have h4 : tupOf vs = .tup vs := by
   match vs, hn with
   | [], _ => rfl
   | [v], hn => exact absurd hn h3
   | _ :: _ :: _, _ => rfl
  rw [h4]
  have h5 : us.toArray.size ≠ 1 := by simpa using h3
  rw [dif_neg h5]
  exact .tup _ _ (by simpa using hn) (fun j c v hc hv => hx j v c (by simpa using hv) hc)
theorem results_soundL (hE : EnvR C w a env) (hH : RH C w (at_ H)) {fn : Func} {rs : List XRes} {vs : List AV} (h : listM (resT P) fn.results.toList = some rs) (hv : evRes env H rs = some vs) :
  ∃ u us, (results fn a.tmps).run P w = .ok u w ∧ RL C w us vs ∧ ∀ C' vs', RL C' w us vs' → RV C' w u (tupOf vs') := by
 obtain ⟨us, h1, h2⟩ := res_sound hE hH _ rs vs h hv
 rw [results_eq, Array.mapM_eq_mapM_toList]
 simp only [Sem.run_bind, map_eq_pure_bind, h1, Sem.run_pure, Result.andThen_ok]
 refine ⟨_, us, rfl, h2, fun C' vs' h2' => ?_⟩
 obtain ⟨hn, hx⟩ := h2'
 by_cases h3 : us.length = 1
 ·obtain ⟨u, rfl⟩ := List.length_eq_one_iff.1 h3
  obtain ⟨v, rfl⟩ := List.length_eq_one_iff.1 (hn.symm.trans h3)
  exact hx 0 u v rfl rfl
 ·have h4 : tupOf vs' = .tup vs' := by
   match vs', hn with
   | [], _ => rfl
   | [v], hn => exact absurd hn h3
   | _ :: _ :: _, _ => rfl
  rw [h4]
  have h5 : us.toArray.size ≠ 1 := by simpa using h3
  rw [dif_neg h5]
  exact .tup _ _ (by simpa using hn) (fun j c v hc hv => hx j v c (by simpa using hv) hc)
def ctxPure (C : Ctx) (H : List Blk) : Ctx where
 ρ _ := .none
 sz _ := 0
 D _ := False
 Fz k := C.Fz k ∨ ∃ i b, H[i]? = some b ∧ Lies b (C.ρ i) k
theorem pure_sound {us : List Value} {vs vs' : List AV} (hd0 : ∀ i, ¬ C0.D i) (hH : RH C w (at_ H)) (hC : Cum C0 w0 [] C w (at_ H)) (hp : AV.hasPtrL vs = false) (hs : AV.stripL H vs = some vs') (hR : RL C w us vs) :
  ∃ C', RL C' w us vs' ∧ Local C0 C' w0 w [] [] (at_ []) (List.range ([] : List Blk).length) := by
 refine ⟨ctxPure C H, ?_, ?_⟩
 ·exact stripL_sound (C' := ctxPure C H) hH (fun b h => .inl h) vs vs' hs (fun i _ => rfl) (fun i _ b k hb hl => .inr ⟨i, b, hb, hl⟩) (fun i hi => by rw [ptrsL_nil vs hp] at hi; cases hi) us hR
 ·refine ⟨⟨fun b h => .inl (hC.keeps.fz b h), hC.keeps.blk, fun i h => absurd h (hd0 i), fun i h => absurd h (hd0 i), fun i h => absurd h (hd0 i)⟩, hC.os, hC.tape, hC.output, hC.size, Nat.le_refl _, fun i h => by simp at h,
   fun k hk => (hC.frame k hk).imp id (fun ⟨i, b, h, _⟩ => by simp at h), fun k hk => ?_, fun k hk => ?_, fun i hi => by simp at hi, fun i => ⟨fun h => h.elim, fun h => ?_⟩, fun i b _ h => by simp at h, fun i b k _ h => by simp at h,
   fun i j b b' k _ _ h => by simp at h⟩
  ·rcases hk with h | ⟨i, b, h, hl⟩
   ·rcases hC.newF k h with h | h | ⟨i, b, h, _⟩
    ·exact .inl h
    ·exact .inr (.inl h)
    ·simp at h
   ·rcases hC.lies i b k h hl with h | ⟨j, b0, h, _⟩
    ·exact .inr (.inl h)
    ·simp at h
  ·rcases hk with h | ⟨i, b, h, hl⟩
   ·exact hH.lt k h
   ·exact (hH.blk i b h).lies_lt hl
  ·rcases h with h | h
   ·exact absurd h (hd0 i)
   ·simp at h
structure NvOk [Gls] (P : Program) (f : Nat) (g : List AV → Option (AV × List Blk)) : Prop where
 fn : ∃ fn, P.funcs[f]? = some fn ∧ (fn.name == "runtime.NumGoroutine") = false ∧ fn.body.isNone = false
 calls : ∀ args r H', g args = some (r, H') → ∀ (C : Ctx) (w : World) (vs : List Value), RL C w vs args → RH C w (at_ []) → (∀ i, ¬ C.D i) → GlR C w → Calls P f vs.toArray w (FnPost C w [] r H')
structure GrdOk [Gls] (P : Program) (f : Nat) (xf : XFunc) (G : XGrd) : Prop where
 fn : ∃ fn, P.funcs[f]? = some fn ∧ (fn.name == "runtime.NumGoroutine") = false ∧ fn.body.isNone = false
 calls : ∀ (cf : CallF) (n : Nat), CFSound P cf → ∀ args r H', runGrd cf n xf G args = some (r, H') → ∀ (C : Ctx) (w : World) (vs : List Value), RL C w vs args → RH C w (at_ []) → (∀ i, ¬ C.D i) → GlR C w → Calls P f vs.toArray w (FnPost C w [] r H')
def FOk [Gls] (P : Program) (f : Nat) (xf : XFunc) : Prop := (xf.nv = none ∧ xf.grd = none ∧ progT P f = some xf.plain) ∨ (∃ g, xf.nv = some g ∧ NvOk P f g) ∨ ∃ G, xf.nv = none ∧ xf.grd = some G ∧ GrdOk P f xf G
theorem runFn_sound (hm : P.follows .mixedOrders = true) {T : Nat → Option XFunc} (hT : ∀ f xf, T f = some xf → FOk P f xf) (n : Nat) : ∀ d, CFSound P (runFn T n d)
 | 0 => ⟨fun f args H r H' h => by simp [runFn] at h, fun f args H r H' h => by simp [runFn] at h⟩
 | d + 1 => by
  have ih := runFn_sound hm hT n d
  have func : ∀ f xf, T f = some xf → xf.nv = none → xf.grd = none → ∃ fn c x rs, P.funcs[f]? = some fn ∧ fn.body = some c ∧ (fn.name == "runtime.NumGoroutine") = false ∧ codeT P fn.ntmps c = some x ∧ listM (resT P) fn.results.toList = some rs ∧ xf.results = rs ∧ @Tr _ ⟨[], 0⟩ P fn.ntmps c xf.body := by
   intro f xf h hnv hgrd
   have := ((hT f xf h).resolve_right (fun q => q.elim (fun ⟨g, hg, _⟩ => by rw [hnv] at hg; cases hg) (fun ⟨G, _, hg, _⟩ => by rw [hgrd] at hg; cases hg))).2.2
   simp only [progT, Option.bind_eq_some_iff] at this
   obtain ⟨fn, hfn, hF⟩ := this
   simp only [funcT] at hF
   split at hF <;> first | (cases hF; done) | skip
   rename_i c hb
   split at hF <;> first | (cases hF; done) | skip
   rename_i hname
   split at hF <;> first | (cases hF; done) | skip
   rename_i x rs hx hrs
   injection hF with hF
   have h1 : rs = xf.results := congrArg XFunc.results hF
   have h2 : strict (annot P (slotTypes P c) (retSlots rs) x (fun _ => []) (retSlots rs)) = xf.body := congrArg XFunc.body hF
   letI : DefL := ⟨[], 0⟩
   exact ⟨fn, c, x, rs, hfn, hb, by simpa using hname, hx, hrs, h1.symm, by rw [← h2]; exact strict_tr (annot_tr _ _ (codeT_tr c x hx) (codeT_tame c x hx) _ _)⟩
  refine ⟨fun f args H r H' h => ?_, fun f args H r H' h C w us hus hH hD hG => ?_⟩
  ·simp only [runFn] at h
   split at h <;> first | (cases h; done) | skip
   rename_i xf hxf
   cases hnv : xf.nv with
   | none =>
    cases hgrd : xf.grd with
    | none =>
     obtain ⟨fn, c, _, _, h1, h2, h3, _⟩ := func f xf hxf hnv hgrd
     exact ⟨fn, h1, h3, by rw [h2]; rfl⟩
    | some G =>
     rcases hT f xf hxf with ⟨_, h1, _⟩ | ⟨g', h1, _⟩ | ⟨G', _, _, hg⟩
     ·rw [hgrd] at h1; cases h1
     ·rw [hnv] at h1; cases h1
     ·exact hg.fn
   | some g =>
    rcases hT f xf hxf with ⟨h1, _⟩ | ⟨g', _, hg⟩ | ⟨_, h1, _⟩
    ·rw [hnv] at h1; cases h1
    ·exact hg.fn
    ·rw [hnv] at h1; cases h1
  ·simp only [runFn] at h
   split at h <;> first | (cases h; done) | skip
   rename_i xf hxf
   split at h
   ·rename_i g hnv
    split at h <;> first | (cases h; done) | skip
    rename_i hHe
    rw [List.isEmpty_iff] at hHe
    subst hHe
    rcases hT f xf hxf with ⟨h1, _⟩ | ⟨g', h1, hg⟩ | ⟨_, h1, _⟩
    ·rw [hnv] at h1; cases h1
    ·rw [hnv] at h1; injection h1 with h1; subst h1
     exact hg.calls args r H' h C w us hus hH (fun i hi => by have := (hD i).1 hi; simp at this) hG
    ·rw [hnv] at h1; cases h1
   rename_i hnv
   split at h
   ·rename_i G hgrd
    split at h <;> first | (cases h; done) | skip
    rename_i hHe
    rw [List.isEmpty_iff] at hHe
    subst hHe
    rcases hT f xf hxf with ⟨_, h1, _⟩ | ⟨g', h1, _⟩ | ⟨G', _, h1, hg⟩
    ·rw [hgrd] at h1; cases h1
    ·rw [hnv] at h1; cases h1
    ·rw [hgrd] at h1; injection h1 with h1; subst h1
     exact hg.calls _ n ih args r H' h C w us hus hH (fun i hi => by have := (hD i).1 hi; simp at this) hG
   rename_i hgrd
   letI : DefL := ⟨[], 0⟩
   obtain ⟨fn, c, x, rs, hfn, hb, _, hx, hrs, hres, htr⟩ := func f xf hxf hnv hgrd
   have h0 : RH C w (at_ H) := hH
   have hS : SR C w H fn.ntmps C { tmps := us.toArray ++ Array.replicate (fn.ntmps - us.toArray.size) undef, defers := [] } w ⟨params 0 args, H⟩ := by
    refine ⟨⟨fun m => ?_, hG⟩, hH, hD, Cum.refl, Nat.le_refl _, by simp; omega, rfl⟩
    show RV C w _ (get (params 0 args) m)
    rw [get_params, if_pos (Nat.zero_le m), Nat.sub_zero]
    cases ha : args[m]? with
    | none => exact .top _
    | some x =>
     have hml : m < us.length := by rw [hus.1]; exact (List.getElem?_eq_some_iff.1 ha).1
     have : (us.toArray ++ Array.replicate (fn.ntmps - us.toArray.size) undef).getD m undef = us[m] := by
      rw [Array.getD_eq_getD_getElem?, Array.getElem?_append_left (by simpa using hml)]
      simp [hml]
     rw [this]
     exact hus.2 m _ x (List.getElem?_eq_getElem hml) ha
   have post : ∀ (s : St) (vs : List AV), evRes s.env s.H xf.results = some vs → finish xf.pure H vs s.H = some (r, H') →
     ∀ C1 a1 w1, SR C w H fn.ntmps C1 a1 w1 s → a1.defers = [] ∧ ∃ v, (results fn a1.tmps).run P w1 = .ok v w1 ∧ FnPost C w H r H' (.returned v) w1 := by
    intro s vs hvs hfin C1 a1 w1 hS1
    rw [hres] at hvs
    refine ⟨hS1.defers, ?_⟩
    unfold finish at hfin
    split at hfin
    ·split at hfin <;> first | (cases hfin; done) | skip
     rename_i hc
     simp only [Bool.and_eq_true, List.isEmpty_iff, Bool.not_eq_true'] at hc
     obtain ⟨hc1, hc2⟩ := hc
     subst hc1
     split at hfin <;> first | (cases hfin; done) | skip
     rename_i vs' hvs'
     simp only [Option.some.injEq, Prod.mk.injEq] at hfin
     obtain ⟨rfl, rfl⟩ := hfin
     obtain ⟨u, us, h1, h2, h3⟩ := results_soundL hS1.env hS1.heap hrs hvs
     obtain ⟨C2, g1, g2⟩ := pure_sound (fun i hi => by have := (hD i).1 hi; simp at this) hS1.heap hS1.cum hc2 hvs' h2
     exact ⟨u, h1, u, C2, rfl, h3 C2 vs' g1, g2⟩
    ·split at hfin <;> first | (cases hfin; done) | skip
     rename_i s' hcan
     simp only [Option.some.injEq, Prod.mk.injEq] at hfin
     obtain ⟨hr, hH'⟩ := hfin
     obtain ⟨u, h1, h2⟩ := results_sound hS1.env hS1.heap hrs hvs
     refine ⟨u, h1, u, ?_⟩
     have hE2 : EnvR C1 w1 { tmps := #[u], defers := [] } [(0, tupOf vs)] := ⟨fun m => by
      simp only [get]
      split
      ·rename_i e; subst e; exact h2
      ·exact .top _, hS1.env.gl⟩
     obtain ⟨C2, g1, g2, g3, g4, g5⟩ := canon_sound hD hcan hE2 hS1.heap hS1.cum
     refine ⟨C2, rfl, ?_, ?_⟩
     ·rw [← hr]; exact g1 0
     ·rw [← hH']; exact g4.fnPost g2 hD g3 g5
   split at h <;> first | (cases h; done) | skip
   rename_i ex s hne hne2 hrun
   split at h <;> first | (cases h; done) | skip
   rename_i vs hvs
   refine calls_of_wp hfn hb (code_sound ih hm h0 hD htr _ s ex hrun _ (fun C1 a1 w1 hS1 => ?_) C _ w hS)
   have := post s vs hvs h C1 a1 w1 hS1
   cases ex with
   | normal => exact this
   | exit id => exact absurd rfl (hne id)
   | ret => exact this
   | thrown e => exact absurd rfl (hne2 e)
def lookT : List (Nat × XFunc) → Nat → Option XFunc
 | [], _ => none
 | (k, x) :: r, f => if k = f then some x else lookT r f
inductive AllOk (P : Program) : List (Nat × XFunc) → Prop
 | nil : AllOk P []
 | cons {k : Nat} {x : XFunc} {r : List (Nat × XFunc)} (h : FOk P k x) (t : AllOk P r) : AllOk P ((k, x) :: r)
theorem AllOk.look {l : List (Nat × XFunc)} (h : AllOk P l) : ∀ f xf, lookT l f = some xf → FOk P f xf := by
 induction h with
 | nil => intro f xf h; cases h
 | cons h t ih =>
  intro f xf hl
  simp only [lookT] at hl
  split at hl
  ·rename_i e; subst e; injection hl with hl; subst hl; exact h
  ·exact ih f xf hl
end Go.Ax
