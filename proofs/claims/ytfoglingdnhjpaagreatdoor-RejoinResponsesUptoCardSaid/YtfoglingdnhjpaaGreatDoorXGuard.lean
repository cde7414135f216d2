/-
  Ax, text 23b: functions that recover.
-/
import Derived.Test.YtfoglingdnhjpaaGreatDoorXFn
import Derived.Recover
namespace Go.Ax
set_option linter.all false
set_option linter.unusedSectionVars false
open Go.RowKit
variable [Gls]
variable {P : Program} {C0 C C' C1 C2 : Ctx} {w0 w w' w1 w2 : World} {a : Act} {env : Env} {H0 H H' H1 H2 : List Blk} {cf : CallF} {av : AV} {N n : Nat} {s s' : St}
theorem Cum.trans (h : Cum C0 w0 H0 C1 w1 (at_ H1)) (hR : RH C0 w0 (at_ H0)) (hH1 : RH C1 w1 (at_ H1)) (hd1 : ∀ i, C1.D i ↔ i < H1.length) (k : Cum C1 w1 H1 C2 w2 (at_ H2)) (hH2 : RH C2 w2 (at_ H2)) (hd2 : ∀ i, C2.D i ↔ i < H2.length) (hl : H1.length ≤ H2.length) :
  Cum C0 w0 H0 C2 w2 (at_ H2) := by
 have := h.step hR hH1 (k.fnPost hH2 hd1 hd2 hl)
 have e : upd (at_ H1) H1 H2 (List.range H1.length) = at_ H2 := upd_at (fun i hi hn => absurd (List.mem_range.2 hi) hn)
 rwa [e] at this
theorem get_drop (d n : Nat) : ∀ (env : Env), get (env.filter fun p => p.1 != d) n = if n = d then .top else get env n
 | [] => by simp [get]
 | (k, v) :: r => by
  have ih := get_drop d n r
  by_cases hk : k = d
  ·rw [List.filter_cons_of_neg (by simp [hk]), ih]
   split
   ·rfl
   ·rename_i hn
    simp only [get]
    rw [if_neg (by omega)]
  ·rw [List.filter_cons_of_pos (by simpa using hk)]
   simp only [get]
   by_cases h : k = n
   ·subst h
    rw [if_pos rfl, if_neg hk, if_pos rfl]
   ·rw [if_neg h, ih, if_neg h]
theorem get_append (n : Nat) (e2 : Env) : ∀ (e1 : Env), get (e1 ++ e2) n = if (e1.any fun p => p.1 == n) = true then get e1 n else get e2 n
 | [] => by simp
 | (k, v) :: r => by
  simp only [List.cons_append, get]
  by_cases h : k = n
  ·subst h; simp
  ·have hk : (k == n) = false := by simpa using h
   simp only [List.any_cons, hk, Bool.false_or]
   rw [if_neg h, get_append n e2 r, if_neg h]
theorem any_params (n : Nat) : ∀ (l : List AV) (i : Nat), ((params i l).any fun p => p.1 == n) = decide (i ≤ n ∧ n < i + l.length)
 | [], i => by simp [params]
 | v :: r, i => by
  simp only [params, List.any_cons, any_params n r (i + 1), List.length_cons]
  by_cases h : i = n
  ·subst h; simp
  ·have : (i == n) = false := by simpa using h
   rw [this, Bool.false_or]
   by_cases h2 : i + 1 ≤ n ∧ n < i + 1 + r.length
   ·rw [decide_eq_true h2, decide_eq_true (by omega)]
   ·rw [decide_eq_false h2, decide_eq_false (by omega)]
structure SRx (ds : List Deferred) (C0 : Ctx) (w0 : World) (H0 : List Blk) (N : Nat) (C : Ctx) (a : Act) (w : World) (s : St) : Prop where
 env : EnvR C w a s.env
 heap : RH C w (at_ s.H)
 dom : ∀ i, C.D i ↔ i < s.H.length
 cum : Cum C0 w0 H0 C w (at_ s.H)
 len : H0.length ≤ s.H.length
 tmps : N ≤ a.tmps.size
 defers : a.defers = ds
theorem run_at (ds : List Deferred) (t : TypeId) {c : Code} {x : XCode} {ex : Ex} {Q : Exit → Act → World → Prop} (hcf : CFSound P cf) (hm : P.follows .mixedOrders = true) (h0 : RH C0 w0 (at_ H0)) (hd0 : ∀ i, C0.D i ↔ i < H0.length) (htr : @Tr _ ⟨ds, t⟩ P N c x)
  (hr : x.run cf n H0.length s = some (ex, s')) (hS : SRx ds C0 w0 H0 N C a w s) (hQ : ∀ C a w, SRx ds C0 w0 H0 N C a w s' → Q (@Ex.out ⟨ds, t⟩ ex) a w) : c.wp P Q a w := by
 letI : DefL := ⟨ds, t⟩
 exact code_sound hcf hm h0 hd0 htr s s' ex hr Q (fun C a w h => hQ C a w ⟨h.env, h.heap, h.dom, h.cum, h.len, h.tmps, h.defers⟩) C a w ⟨hS.env, hS.heap, hS.dom, hS.cum, hS.len, hS.tmps, hS.defers⟩
structure Guards (P : Program) (f : Nat) (xf : XFunc) (G : XGrd) where
 fn : Func
 c0 : Code
 cD : Code
 c2 : Code
 k : Nat
 kn : Nat
 cin : Code
 hf : P.funcs[f]? = some fn
 hname : (fn.name == "runtime.NumGoroutine") = false
 hb : fn.body = some (.seq c0 (.seq cD c2))
 h0 : @Tr _ ⟨[], 0⟩ P fn.ntmps c0 xf.body
 h2 : ∀ ds, @Tr _ ⟨ds, G.t⟩ P fn.ntmps c2 G.rest
 hc : @Tr _ ⟨[], 0⟩ P kn cin G.rec_
 hres : listM (resT P) fn.results.toList = some xf.results
 hD : ∀ (a : Act) (w : World) (Q : Exit → Act → World → Prop), a.defers = [] → fn.ntmps ≤ a.tmps.size → (∀ a' : Act, a'.defers = [{ target := .fn (.func k) (G.caps.map fun c => a.tmps.getD c undef).toArray, args := #[] }] → (∀ n, n ≠ G.d → a'.tmps.getD n undef = a.tmps.getD n undef) → a'.tmps.size = a.tmps.size → Q .normal a' w) → cD.wp P Q a w
 hinv : ∀ (caps : Array Value) (w : World), (invoke (.fn (.func k) caps) #[]).run P w = .ok (.enter k caps) w
 hI : ∀ (caps : Array Value) (w : World), caps.size = G.caps.length → CallsD P k caps .returning w fun e u' w' => (∃ v, e = .returned v) ∧ u' = .returning ∧ w' = w
 hP : ∀ (caps : Array Value) (w : World) (e : Int) (R : World → Prop), caps.size = G.caps.length →
  (∀ a : Act, a.defers = [] → kn ≤ a.tmps.size → (∀ i, i < caps.size → a.tmps.getD i undef = caps.getD i undef) → a.tmps.getD G.slot undef = .iface G.t (.agg #[.int .i64 e]) → cin.wp P (fun ex a' w' => ex = .normal ∧ a'.defers = [] ∧ R w') a w) →
  CallsD P k caps (.panicking [{ v := .iface G.t (.agg #[.int .i64 e]), recovered := false }]) w fun en u' w' => (∃ v, en = .returned v) ∧ u' = .panicking [{ v := .iface G.t (.agg #[.int .i64 e]), recovered := true }] ∧ R w'
 hslot : G.caps.length ≤ G.slot
theorem Guards.ok {f : Nat} {xf : XFunc} {G : XGrd} (hm : P.follows .mixedOrders = true) (g : Guards P f xf G) : GrdOk P f xf G := by
 refine ⟨⟨g.fn, g.hf, g.hname, by rw [g.hb]; rfl⟩, fun cf n hcf args r H' hr C w vs hus hRH hDm hG => ?_⟩
 unfold runGrd at hr
 split at hr <;> first | (cases hr; done) | skip
 rename_i s1 hr1
 have hD0 : ∀ i, C.D i ↔ i < ([] : List Blk).length := fun i => ⟨fun h => absurd h (hDm i), fun h => by simp at h⟩
 refine calls_of_wp_defers g.hf g.hb ?_
 have hS0 : SRx [] C w [] g.fn.ntmps C { tmps := vs.toArray ++ Array.replicate (g.fn.ntmps - vs.toArray.size) undef, defers := [] } w ⟨params 0 args, []⟩ := by
  refine ⟨⟨fun m => ?_, hG⟩, hRH, hD0, Cum.refl, Nat.le_refl _, by simp; omega, rfl⟩
  show RV C w _ (get (params 0 args) m)
  rw [get_params, if_pos (Nat.zero_le m), Nat.sub_zero]
  cases ha : args[m]? with
  | none => exact .top _
  | some x =>
   have hml : m < vs.length := by rw [hus.1]; exact (List.getElem?_eq_some_iff.1 ha).1
   have : (vs.toArray ++ Array.replicate (g.fn.ntmps - vs.toArray.size) undef).getD m undef = vs[m] := by
    rw [Array.getD_eq_getD_getElem?, Array.getElem?_append_left (by simpa using hml)]
    simp [hml]
   rw [this]
   exact hus.2 m _ x (List.getElem?_eq_getElem hml) ha
 refine wp_seq (run_at [] 0 hcf hm hRH hD0 g.h0 hr1 hS0 fun C1 a1 w1 hS1 => ?_)
 refine wp_seq (g.hD a1 w1 _ hS1.defers hS1.tmps fun a2 hdef hkeep hsize => ?_)
 obtain ⟨D, hDe⟩ : ∃ D, D = [({ target := .fn (.func g.k) (G.caps.map fun c => a1.tmps.getD c undef).toArray, args := #[] } : Deferred)] := ⟨_, rfl⟩
 rw [← hDe] at hdef
 have hS2 : SRx D C1 w1 s1.H g.fn.ntmps C1 a2 w1 ⟨s1.env.filter (fun p => p.1 != G.d), s1.H⟩ := by
  refine ⟨⟨fun m => ?_, hS1.env.gl⟩, hS1.heap, hS1.dom, Cum.refl, Nat.le_refl _, by rw [hsize]; exact hS1.tmps, hdef⟩
  show RV C1 w1 _ (get (s1.env.filter fun p => p.1 != G.d) m)
  rw [get_drop]
  split
  ·exact .top _
  ·rename_i hmd
   rw [hkeep m hmd]
   exact hS1.env.tm m
 have hcaps : ((G.caps.map fun c => a1.tmps.getD c undef).toArray).size = G.caps.length := by simp
 have leaves : ∀ (C3 : Ctx) (a3 : Act) (w3 : World) (env3 : Env) (H3 : List Blk) (vs' : List AV), EnvR C3 w3 a3 env3 → RH C3 w3 (at_ H3) → Cum C w [] C3 w3 (at_ H3) → evRes env3 H3 xf.results = some vs' → finish true [] vs' H3 = some (r, H') →
   ∃ v, (results g.fn a3.tmps).run P w3 = .ok v w3 ∧ FnPost C w [] r H' (.returned v) w3 := by
  intro C3 a3 w3 env3 H3 vs' hE3 hH3 hC3 hvs hfin
  unfold finish at hfin
  rw [if_pos rfl] at hfin
  split at hfin <;> first | (cases hfin; done) | skip
  rename_i hc
  simp only [Bool.and_eq_true, List.isEmpty_iff, Bool.not_eq_true'] at hc
  split at hfin <;> first | (cases hfin; done) | skip
  rename_i vs2 hvs2
  simp only [Option.some.injEq, Prod.mk.injEq] at hfin
  obtain ⟨rfl, rfl⟩ := hfin
  obtain ⟨u, us, h1, h2, h3⟩ := results_soundL hE3 hH3 g.hres hvs
  obtain ⟨C5, g1, g2⟩ := pure_sound (fun i hi => hDm i hi) hH3 hC3 hc.2 hvs2 h2
  exact ⟨u, h1, u, C5, rfl, h3 C5 vs2 g1, g2⟩
 split at hr <;> first | (cases hr; done) | skip
 ·rename_i s hr2
  split at hr <;> first | (cases hr; done) | skip
  rename_i vs' hvs
  refine run_at D G.t hcf hm hS1.heap hS1.dom (g.h2 D) hr2 hS2 fun C3 a3 w3 hS3 => ?_
  show Leaves P g.fn a3.tmps (FnPost C w [] r H') a3.defers .returning w3
  rw [show a3.defers = D from hS3.defers, hDe]
  refine leaves_cons (by simp) (g.hinv _ _) ((g.hI _ w3 hcaps).mono ?_)
  rintro en u' w' ⟨⟨v0, rfl⟩, rfl, rfl⟩
  obtain ⟨v, hv1, hv2⟩ := leaves C3 a3 w' s.env s.H vs' hS3.env hS3.heap (hS1.cum.trans hRH hS1.heap hS1.dom hS3.cum hS3.heap hS3.dom hS3.len) hvs hr
  exact ⟨v, hv1, hv2⟩
 ·rename_i e s hr2
  split at hr <;> first | (cases hr; done) | skip
  rename_i s2 hr3
  split at hr <;> first | (cases hr; done) | skip
  rename_i vs' hvs
  refine run_at D G.t hcf hm hS1.heap hS1.dom (g.h2 D) hr2 hS2 fun C3 a3 w3 hS3 => ?_
  show Leaves P g.fn a3.tmps (FnPost C w [] r H') a3.defers (.panicking [{ v := .iface G.t (.agg #[.int .i64 e]), recovered := false }]) w3
  rw [show a3.defers = D from hS3.defers, hDe]
  refine leaves_cons (by simp) (g.hinv _ _) ((g.hP _ w3 e (fun w' => ∃ v, (results g.fn a3.tmps).run P w' = .ok v w' ∧ FnPost C w [] r H' (.returned v) w') hcaps ?_).mono ?_)
  ·intro a4 hd4 ht4 hcap4 hsl4
   have hS4 : SRx [] C3 w3 s.H g.kn C3 a4 w3 ⟨params 0 (G.caps.map (get s1.env)) ++ [(G.slot, .ifc G.t (.dat (.agg [.int .i64 e])))], s.H⟩ := by
    refine ⟨⟨fun m => ?_, hS3.env.gl⟩, hS3.heap, hS3.dom, Cum.refl, Nat.le_refl _, ht4, hd4⟩
    show RV C3 w3 _ (get (params 0 (G.caps.map (get s1.env)) ++ [(G.slot, .ifc G.t (.dat (.agg [.int .i64 e])))]) m)
    rw [get_append, any_params]
    by_cases hm1 : 0 ≤ m ∧ m < 0 + (G.caps.map (get s1.env)).length
    ·rw [decide_eq_true hm1, if_pos rfl, get_params, if_pos (Nat.zero_le m), Nat.sub_zero]
     have hml : m < G.caps.length := by simpa using hm1.2
     rw [List.getElem?_map, List.getElem?_eq_getElem hml]
     simp only [Option.map_some, Option.getD_some]
     rw [hcap4 m (by rw [hcaps]; exact hml)]
     have : ((G.caps.map fun c => a1.tmps.getD c undef).toArray).getD m undef = a1.tmps.getD G.caps[m] undef := by
      rw [Array.getD_eq_getD_getElem?]
      simp [hml]
     rw [this]
     exact (hS1.env.tm _).keeps hS3.cum.keeps
    ·rw [decide_eq_false hm1, if_neg (by simp)]
     simp only [get]
     by_cases hms : G.slot = m
     ·subst hms
      rw [if_pos rfl, hsl4]
      refine .ifc _ _ _ (.dat (.agg _ _ (by simp) fun j d v hd hv => ?_))
      match j, hd, hv with
      | 0, hd, hv => simp at hd hv; subst hd; subst hv; exact .int _ _
      | j + 1, hd, _ => simp at hd
     ·rw [if_neg hms]; exact .top _
   refine run_at [] 0 hcf hm hS3.heap hS3.dom g.hc hr3 hS4 fun C5 a5 w5 hS5 => ?_
   refine ⟨rfl, hS5.defers, ?_⟩
   have hE5 : EnvR C5 w5 a3 s.env := ⟨fun m => (hS3.env.tm m).keeps hS5.cum.keeps, hS5.env.gl⟩
   have c1 : Cum C w [] C3 w3 (at_ s.H) := hS1.cum.trans hRH hS1.heap hS1.dom hS3.cum hS3.heap hS3.dom hS3.len
   exact leaves C5 a3 w5 s.env s2.H vs' hE5 hS5.heap (c1.trans hRH hS3.heap hS3.dom hS5.cum hS5.heap hS5.dom hS5.len) hvs hr
  ·rintro en u' w' ⟨⟨v0, rfl⟩, rfl, hR⟩
   exact hR
theorem grdT_split {f g t slot kc : Nat} {x : XFunc} (h : grdT P f g t slot kc = some x) : ∃ fn c0 id ops c2 gn cin G, P.funcs[f]? = some fn ∧ fn.body = some (.seq c0 (.seq (.region id ops false) c2)) ∧ P.funcs[kc]? = some gn ∧ gn.body.bind cinOf = some cin ∧ x.grd = some G ∧ (∀ ds, Throws P g t → @Tr _ ⟨ds, t⟩ P fn.ntmps c2 G.rest) ∧
  @Tr _ ⟨[], 0⟩ P fn.ntmps c0 x.body ∧ @Tr _ ⟨[], 0⟩ P gn.ntmps cin G.rec_ ∧ listM (resT P) fn.results.toList = some x.results ∧ G.t = t ∧ G.slot = slot := by
 unfold grdT at h
 split at h <;> first | (cases h; done) | skip
 rename_i fn hf
 split at h <;> first | (cases h; done) | skip
 rename_i c0 id ops c2 hb
 split at h <;> first | (cases h; done) | skip
 rename_i o1 o2 ho
 split at h <;> first | (cases h; done) | skip
 rename_i k fs caps d h1 h2
 split at h <;> first | (cases h; done) | skip
 rename_i hk
 have hk : k = kc := Classical.not_not.1 hk
 subst hk
 split at h <;> first | (cases h; done) | skip
 rename_i cs gn hcs hgn
 split at h <;> first | (cases h; done) | skip
 rename_i cin x0 x2 rs hcin hx0 hx2 hrs
 split at h <;> first | (cases h; done) | skip
 rename_i xc hxc
 injection h with h
 subst h
 refine ⟨fn, c0, id, ops, c2, gn, cin, _, hf, hb, hgn, hcin, rfl, fun ds hth => ?_, ?_, ?_, hrs, rfl, rfl⟩
 ·letI : DefL := ⟨ds, t⟩
  exact thrify_tr hth (strict_tr (annot_tr _ _ (codeT_tr c2 x2 hx2) (codeT_tame c2 x2 hx2) _ _))
 ·letI : DefL := ⟨[], 0⟩
  exact strict_tr (annot_tr _ _ (codeT_tr c0 x0 hx0) (codeT_tame c0 x0 hx0) _ _)
 ·letI : DefL := ⟨[], 0⟩
  exact strict_tr (annot_tr _ _ (codeT_tr cin xc hxc) (codeT_tame cin xc hxc) _ _)
def cDof : Code → Option Code
 | .seq _ (.seq d _) => some d
 | _ => none
end Go.Ax
