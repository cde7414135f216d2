/-
  Ax, text 22: code, and a whole function.
-/
import Derived.Test.YtfoglingdnhjpaaGreatDoorXCanon
import Derived.Scope
namespace Go.Ax
set_option linter.all false
set_option linter.unusedSectionVars false
open Go.RowKit
variable [Gls]
variable {P : Program} {C0 C C' : Ctx} {w0 w w' : World} {a : Act} {env : Env} {H0 H H' : List Blk} {cf : CallF} {av : AV} {N n : Nat} {s s' : St}
inductive Tr [DefL] (P : Program) (N : Nat) : Code → XCode → Prop
 | skip : Tr P N .skip .skip
 | reg (id : Nat) (ops : Array Oper) (l : List XOper) (keep : List Nat) (h : listM (operT P ops) ops.toList = some l) (hd : dstOk N l = true) : Tr P N (.region id ops false) (.reg l none keep)
 | drawn (id : Nat) (ops : Array Oper) (l : List XOper) (keep : List Nat) (h : listM (operT P ops) ops.toList = some l) (hd : dstOk N l = true) (B : Array Nat) (hB : drawnOk ops l B = true) : Tr P N (.region id ops true) (.reg l (some (parX l B)) keep)
 | sreg (id : Nat) (ops : Array Oper) (l : List XOper) (l2 : List (XOper × Bool)) (keep : List Nat) (h : listM (operT P ops) ops.toList = some l) (hd : dstOk N l = true) (hs : strictify keep l = some l2) : Tr P N (.region id ops false) (.sreg l2 none keep)
 | sdrawn (id : Nat) (ops : Array Oper) (l : List XOper) (l2 : List (XOper × Bool)) (keep : List Nat) (h : listM (operT P ops) ops.toList = some l) (hd : dstOk N l = true) (B : Array Nat) (hB : drawnOk ops l B = true) (hs : strictify keep l = some l2) : Tr P N (.region id ops true) (.sreg l2 (some (parX l B)) keep)
 | seq {a b : Code} {x y : XCode} (h : Tr P N a x) (k : Tr P N b y) : Tr P N (.seq a b) (.seq x y)
 | cond {c : Operand} {z : XO} {a b : Code} {x y : XCode} (hc : operandT P none c = some z) (h : Tr P N a x) (k : Tr P N b y) : Tr P N (.cond c a b) (.cond z x y)
 | block {id : Nat} {c : Code} {x : XCode} (h : Tr P N c x) : Tr P N (.block id c) (.block id x)
 | loop {c : Code} {x : XCode} (keep : List (Nat × Option (Nat × Nat × Bool))) (h : Tr P N c x) : Tr P N (.loop c) (.loop keep x)
 | exit (id : Nat) (keep : List Nat) : Tr P N (.exit id) (.exit id keep)
 | ret (keep : List Nat) : Tr P N .ret (.ret keep)
 | scope {c : Code} {x : XCode} (h : Tr P N c x) : Tr P N (.scope c) x
 | label (l : Nat) : Tr P N (.label l) .skip
 | thr (id : Nat) (ops : Array Oper) (l : List XOper) (d g : Nat) (x : XO) (keep : List Nat) (h : listM (operT P ops) ops.toList = some (l ++ [⟨some d, .call (.c (.fn (.func g) [] [])) [x], none⟩])) (hd : dstOk N (l ++ [⟨some d, .call (.c (.fn (.func g) [] [])) [x], none⟩]) = true) (ht : Throws P g DefL.t) : Tr P N (.region id ops false) (.thr l d x keep)
theorem codeT_tr [DefL] : ∀ (c : Code) (x : XCode), codeT P N c = some x → Tr P N c x
 | .skip, x, h => by simp only [codeT, Option.some.injEq] at h; subst h; exact .skip
 | .region id ops draw, x, h => by
  simp only [codeT] at h
  split at h <;> first | (cases h; done) | skip
  rename_i l hl
  split at h <;> first | (cases h; done) | skip
  rename_i hd
  split at h
  ·split at h <;> first | (cases h; done) | skip
   rename_i hB
   injection h with h; subst h
   exact .drawn id ops l [] hl hd _ hB
  ·injection h with h; subst h
   exact .reg id ops l [] hl hd
 | .seq a b, x, h => by
  simp only [codeT] at h
  split at h <;> first | (cases h; done) | skip
  rename_i y z hy hz
  injection h with h; subst h
  exact .seq (codeT_tr a y hy) (codeT_tr b z hz)
 | .cond c a b, x, h => by
  simp only [codeT] at h
  split at h <;> first | (cases h; done) | skip
  rename_i u y z hu hy hz
  injection h with h; subst h
  exact .cond hu (codeT_tr a y hy) (codeT_tr b z hz)
 | .block id c, x, h => by
  simp only [codeT] at h
  split at h <;> first | (cases h; done) | skip
  rename_i y hy
  injection h with h; subst h
  exact .block (codeT_tr c y hy)
 | .loop c, x, h => by
  simp only [codeT] at h
  split at h <;> first | (cases h; done) | skip
  rename_i y hy
  injection h with h; subst h
  exact .loop [] (codeT_tr c y hy)
 | .exit id, x, h => by simp only [codeT, Option.some.injEq] at h; subst h; exact .exit id []
 | .ret, x, h => by simp only [codeT, Option.some.injEq] at h; subst h; exact .ret []
 | .scope c, x, h => .scope (codeT_tr c x (by simpa only [codeT] using h))
 | .label l, x, h => by simp only [codeT, Option.some.injEq] at h; subst h; exact .label l
 | .goto _, x, h => by simp [codeT] at h
 | .refuse _, x, h => by simp [codeT] at h
 | .rangeFunc .., x, h => by simp [codeT] at h
def XCode.tame : XCode → Bool
 | .sreg .. | .thr .. => false
 | .seq a b | .cond _ a b => a.tame && b.tame
 | .block _ c | .loop _ c => c.tame
 | _ => true
theorem codeT_tame : ∀ (c : Code) (x : XCode), codeT P N c = some x → x.tame = true
 | .skip, x, h => by simp only [codeT, Option.some.injEq] at h; subst h; rfl
 | .region id ops draw, x, h => by
  simp only [codeT] at h
  split at h <;> first | (cases h; done) | skip
  split at h <;> first | (cases h; done) | skip
  split at h
  ·split at h <;> first | (cases h; done) | skip
   injection h with h; subst h; rfl
  ·injection h with h; subst h; rfl
 | .seq a b, x, h => by
  simp only [codeT] at h
  split at h <;> first | (cases h; done) | skip
  rename_i y z hy hz
  injection h with h; subst h
  simp only [XCode.tame, codeT_tame a y hy, codeT_tame b z hz, Bool.and_self]
 | .cond c a b, x, h => by
  simp only [codeT] at h
  split at h <;> first | (cases h; done) | skip
  rename_i u y z hu hy hz
  injection h with h; subst h
  simp only [XCode.tame, codeT_tame a y hy, codeT_tame b z hz, Bool.and_self]
 | .block id c, x, h => by
  simp only [codeT] at h
  split at h <;> first | (cases h; done) | skip
  rename_i y hy
  injection h with h; subst h
  exact codeT_tame c y hy
 | .loop c, x, h => by
  simp only [codeT] at h
  split at h <;> first | (cases h; done) | skip
  rename_i y hy
  injection h with h; subst h
  exact codeT_tame c y hy
 | .exit id, x, h => by simp only [codeT, Option.some.injEq] at h; subst h; rfl
 | .ret, x, h => by simp only [codeT, Option.some.injEq] at h; subst h; rfl
 | .scope c, x, h => codeT_tame c x (by simpa only [codeT] using h)
 | .label l, x, h => by simp only [codeT, Option.some.injEq] at h; subst h; rfl
 | .goto _, x, h => by simp [codeT] at h
 | .refuse _, x, h => by simp [codeT] at h
 | .rangeFunc .., x, h => by simp [codeT] at h
theorem annot_tr [DefL] (ts : List (Nat × TypeId)) (rets : List Nat) {c : Code} {x : XCode} (h : Tr P N c x) (hp : x.tame = true) : ∀ (ex : Nat → List Nat) (out : List Nat), Tr P N c (annot P ts rets x ex out) := by
 induction h with
 | skip => intro ex out; exact .skip
 | reg id ops l keep h hd => intro ex out; exact .reg id ops l _ h hd
 | drawn id ops l keep h hd B hB => intro ex out; exact .drawn id ops l _ h hd B hB
 | sreg => simp [XCode.tame] at hp
 | sdrawn => simp [XCode.tame] at hp
 | thr => simp [XCode.tame] at hp
 | seq h k ih ik => intro ex out; simp only [XCode.tame, Bool.and_eq_true] at hp; exact .seq (ih hp.1 _ _) (ik hp.2 _ _)
 | cond hc h k ih ik => intro ex out; simp only [XCode.tame, Bool.and_eq_true] at hp; exact .cond hc (ih hp.1 _ _) (ik hp.2 _ _)
 | block h ih => intro ex out; exact .block (ih hp _ _)
 | loop keep h ih => intro ex out; exact .loop _ (ih hp _ _)
 | exit id keep => intro ex out; exact .exit id _
 | ret keep => intro ex out; exact .ret _
 | scope h ih => intro ex out; exact .scope (ih hp _ _)
 | label l => intro ex out; exact .label l
theorem strict_tr [DefL] {c : Code} {x : XCode} (h : Tr P N c x) : Tr P N c (strict x) := by
 induction h with
 | skip => exact .skip
 | reg id ops l keep h hd =>
  simp only [strict]
  split
  ·rename_i l2 h2; exact .sreg id ops l l2 keep h hd h2
  ·exact .reg id ops l keep h hd
 | drawn id ops l keep h hd B hB =>
  simp only [strict]
  split
  ·rename_i l2 h2; exact .sdrawn id ops l l2 keep h hd B hB h2
  ·exact .drawn id ops l keep h hd B hB
 | sreg id ops l l2 keep h hd hs => exact .sreg id ops l l2 keep h hd hs
 | sdrawn id ops l l2 keep h hd B hB hs => exact .sdrawn id ops l l2 keep h hd B hB hs
 | seq h k ih ik => exact .seq ih ik
 | cond hc h k ih ik => exact .cond hc ih ik
 | block h ih => exact .block ih
 | loop keep h ih => exact .loop _ ih
 | exit id keep => exact .exit id _
 | ret keep => exact .ret _
 | scope h ih => exact .scope ih
 | label l => exact .label l
 | thr id ops l d g x keep h hd ht => exact .thr id ops l d g x keep h hd ht
theorem lastThr_eq {g : Nat} {l l' : List XOper} {d : Nat} {x : XO} (h : lastThr g l = some (l', d, x)) : l = l' ++ [⟨some d, .call (.c (.fn (.func g) [] [])) [x], none⟩] := by
 unfold lastThr at h
 split at h <;> first | (cases h; done) | skip
 rename_i d' g' x' hl
 split at h <;> first | (cases h; done) | skip
 rename_i hg
 simp only [Option.some.injEq, Prod.mk.injEq] at h
 obtain ⟨rfl, rfl, rfl⟩ := h
 subst hg
 obtain ⟨ys, hl⟩ := List.getLast?_eq_some_iff.1 hl
 rw [hl]
 simp
theorem thrify_tr [DefL] {g : Nat} (ht : Throws P g DefL.t) {c : Code} {x : XCode} (h : Tr P N c x) : Tr P N c (thrify g x) := by
 induction h with
 | skip => exact .skip
 | reg id ops l keep h hd =>
  simp only [thrify]
  split
  ·rename_i l' d x hl
   have := lastThr_eq hl
   subst this
   exact .thr id ops l' d g x keep h hd ht
  ·exact .reg id ops l keep h hd
 | drawn id ops l keep h hd B hB => exact .drawn id ops l keep h hd B hB
 | sreg id ops l l2 keep h hd hs => exact .sreg id ops l l2 keep h hd hs
 | sdrawn id ops l l2 keep h hd B hB hs => exact .sdrawn id ops l l2 keep h hd B hB hs
 | seq h k ih ik => exact .seq ih ik
 | cond hc h k ih ik => exact .cond hc ih ik
 | block h ih => exact .block ih
 | loop keep h ih => exact .loop _ ih
 | exit id keep => exact .exit id _
 | ret keep => exact .ret _
 | scope h ih => exact .scope ih
 | label l => exact .label l
 | thr id ops l d g' x keep h hd ht' => exact .thr id ops l d g' x keep h hd ht'
def Ex.out [DefL] : Ex → Exit
 | .normal => .normal
 | .exit id => .exit id
 | .ret => .ret
 | .thrown e => .panic [{ v := .iface DefL.t (.agg #[.int .i64 e]), recovered := false }]
theorem code_sound [DefL] (hcf : CFSound P cf) (hm : P.follows .mixedOrders = true) (h0 : RH C0 w0 (at_ H0)) (hd0 : ∀ i, C0.D i ↔ i < H0.length) {c : Code} {x : XCode} (ht : Tr P N c x) :
  ∀ (s s' : St) (ex : Ex), x.run cf n H0.length s = some (ex, s') → ∀ (Q : Exit → Act → World → Prop), (∀ C a w, SR C0 w0 H0 N C a w s' → Q ex.out a w) → ∀ C a w, SR C0 w0 H0 N C a w s → c.wp P Q a w := by
 induction ht with
 | skip =>
  intro s s' ex hr Q hQ C a w hS
  simp only [XCode.run, Option.some.injEq, Prod.mk.injEq] at hr
  obtain ⟨rfl, rfl⟩ := hr
  exact wp_skip (hQ C a w hS)
 | reg id ops l keep h hd =>
  intro s s' ex hr Q hQ C a w hS
  simp only [XCode.run] at hr
  split at hr <;> first | (cases hr; done) | skip
  rename_i s1 hs1
  simp only [Option.some.injEq, Prod.mk.injEq] at hr
  obtain ⟨rfl, rfl⟩ := hr
  have := seq_sound (P := P) (Q := Q) (ops := ops) hcf h0 h hd (fun C a w hS => hQ C a w (restrict_sound hS keep)) ops.size 0 (by omega) s (by simpa using hs1) C a w hS
  exact wp_region (by rw [List.range_eq_range']; exact this)
 | drawn id ops l keep h hd B hB =>
  intro s s' ex hr Q hQ C a w hS
  simp only [XCode.run] at hr
  split at hr <;> first | (cases hr; done) | skip
  rename_i s1 t hs1
  split at hr <;> first | (cases hr; done) | skip
  rename_i hp
  simp only [Option.some.injEq, Prod.mk.injEq] at hr
  obtain ⟨rfl, rfl⟩ := hr
  refine wp_region_any hm (any_sound (P := P) (Q := Q) (ops := ops) hcf h0 h hd hB hs1 hp (fun C a w hS => hQ C a w (restrict_sound hS keep)) (C := C) ⟨⟨fun n => (hS.env n).keeps (Keeps.same (w := w) rfl), hS.env.gl.keeps (Keeps.same (w := w) rfl)⟩, RH.same (w := w) rfl hS.heap, hS.dom, Cum.same (w := w) rfl rfl rfl rfl hS.cum, hS.len, hS.tmps, hS.defers⟩)
 | sreg id ops l l2 keep h hd hs =>
  intro s s' ex hr Q hQ C a w hS
  simp only [XCode.run] at hr
  split at hr <;> first | (cases hr; done) | skip
  rename_i s1 hs1
  simp only [Option.some.injEq, Prod.mk.injEq] at hr
  obtain ⟨rfl, rfl⟩ := hr
  obtain ⟨s2, e1, e2, e3⟩ := strictify_run hs hs1
  have := seq_sound (P := P) (Q := Q) (ops := ops) hcf h0 h hd (fun C a w hS => hQ C a w (by rw [← e2, ← e3]; exact restrict_sound hS keep)) ops.size 0 (by omega) s (by simpa using e1) C a w hS
  exact wp_region (by rw [List.range_eq_range']; exact this)
 | sdrawn id ops l l2 keep h hd B hB hs =>
  intro s s' ex hr Q hQ C a w hS
  simp only [XCode.run] at hr
  split at hr <;> first | (cases hr; done) | skip
  rename_i s1 t hs1
  split at hr <;> first | (cases hr; done) | skip
  rename_i hp
  simp only [Option.some.injEq, Prod.mk.injEq] at hr
  obtain ⟨rfl, rfl⟩ := hr
  obtain ⟨s2, t2, e1, e2, e3, e4⟩ := strictify_trace hs hs1 hp
  refine wp_region_any hm (any_sound (P := P) (Q := Q) (ops := ops) hcf h0 h hd hB e1 e2 (fun C a w hS => hQ C a w (by rw [← e3, ← e4]; exact restrict_sound hS keep)) (C := C) ?_)
  exact ⟨⟨fun n => (hS.env n).keeps (Keeps.same (w := w) rfl), hS.env.gl.keeps (Keeps.same (w := w) rfl)⟩, RH.same (w := w) rfl hS.heap, hS.dom, Cum.same (w := w) rfl rfl rfl rfl hS.cum, hS.len, hS.tmps, hS.defers⟩
 | seq h k ih ik =>
  intro s s' ex hr Q hQ C a w hS
  simp only [XCode.run] at hr
  split at hr
  ·rename_i s1 hs1
   refine wp_seq (ih s s1 .normal hs1 _ (fun C a w hS1 => ?_) C a w hS)
   exact ik s1 s' ex hr Q hQ C a w hS1
  ·rename_i hne
   refine wp_seq (ih s s' ex hr _ (fun C a w hS1 => ?_) C a w hS)
   have := hQ C a w hS1
   cases ex with
   | normal => exact absurd hr (hne s')
   | exit id => exact this
   | ret => exact this
   | thrown e => exact this
 | cond hc h k ih ik =>
  intro s s' ex hr Q hQ C a w hS
  simp only [XCode.run] at hr
  split at hr <;> first | (cases hr; done) | skip
  rename_i t hz
  have hv := operand_sound hc hS.env
  rw [hz] at hv
  generalize hu : a.eval _ = u at hv
  cases hv with
  | dat hv =>
   cases hv
   refine wp_cond hu ?_
   cases t with
   | true => exact ih s s' ex hr Q hQ C a w hS
   | false => exact ik s s' ex hr Q hQ C a w hS
 | block h ih =>
  rename_i id c x
  intro s s' ex hr Q hQ C a w hS
  simp only [XCode.run] at hr
  split at hr
  ·rename_i j s1 hs1
   split at hr
   ·rename_i hj
    simp only [Option.some.injEq, Prod.mk.injEq] at hr
    obtain ⟨rfl, rfl⟩ := hr
    refine wp_block (ih s s1 _ hs1 _ (fun C a w hS1 => ?_) C a w hS)
    simp only [Ex.out, Exit.inBlock, if_pos hj]
    exact hQ C a w hS1
   ·rename_i hj
    simp only [Option.some.injEq, Prod.mk.injEq] at hr
    obtain ⟨rfl, rfl⟩ := hr
    refine wp_block (ih s s1 _ hs1 _ (fun C a w hS1 => ?_) C a w hS)
    simp only [Ex.out, Exit.inBlock, if_neg hj]
    exact hQ C a w hS1
  ·rename_i hne
   refine wp_block (ih s s' ex hr _ (fun C a w hS1 => ?_) C a w hS)
   have := hQ C a w hS1
   cases ex with
   | normal => exact this
   | exit id => exact absurd hr (hne id s')
   | ret => exact this
   | thrown e => exact this
 | loop keep h ih =>
  rename_i c x
  intro s s' ex hr Q hQ C a w hS
  simp only [XCode.run] at hr
  split at hr <;> first | (cases hr; done) | skip
  rename_i s1 hs1
  obtain ⟨C1, hS1⟩ := head_sound h0 hd0 hs1 hS
  refine wp_loop_rounds n ?_
  have key : ∀ (m : Nat) (s : St), loopAt (x.run cf n H0.length) (headOf H0.length keep) m s = some (ex, s') → ∀ C a w, SR C0 w0 H0 N C a w s → Code.rounds P c Q m a w := by
   intro m
   induction m with
   | zero => intro s hl; simp [loopAt] at hl
   | succ m im =>
    intro s hl C a w hS
    rw [rounds_succ]
    simp only [loopAt] at hl
    split at hl
    ·rename_i s2 hs2
     split at hl <;> first | (cases hl; done) | skip
     rename_i s3 hs3
     refine ih s s2 .normal hs2 _ (fun C a w hS2 => ?_) C a w hS
     obtain ⟨C3, hS3⟩ := head_sound h0 hd0 hs3 hS2
     exact im s3 hl C3 a w hS3
    ·rename_i hne
     refine ih s s' ex hl _ (fun C a w hS2 => ?_) C a w hS
     have := hQ C a w hS2
     cases ex with
     | normal => exact absurd hl (hne s')
     | exit id => exact this
     | ret => exact this
     | thrown e => exact this
  exact key n s1 hr C1 a w hS1
 | exit id keep =>
  intro s s' ex hr Q hQ C a w hS
  simp only [XCode.run, Option.some.injEq, Prod.mk.injEq] at hr
  obtain ⟨rfl, rfl⟩ := hr
  exact wp_exit (hQ C a w (restrict_sound hS keep))
 | ret keep =>
  intro s s' ex hr Q hQ C a w hS
  simp only [XCode.run, Option.some.injEq, Prod.mk.injEq] at hr
  obtain ⟨rfl, rfl⟩ := hr
  exact wp_ret (hQ C a w (restrict_sound hS keep))
 | scope h ih =>
  intro s s' ex hr Q hQ C a w hS
  refine wp_scope_straight (ih s s' ex hr _ (fun C a w hS1 => ?_) C a w hS)
  have := hQ C a w hS1
  cases ex <;> exact this
 | label l =>
  intro s s' ex hr Q hQ C a w hS
  simp only [XCode.run, Option.some.injEq, Prod.mk.injEq] at hr
  obtain ⟨rfl, rfl⟩ := hr
  exact wp_label (hQ C a w hS)
 | thr id ops l d g x keep h hd ht =>
  intro s s' ex hr Q hQ C a w hS
  simp only [XCode.run] at hr
  split at hr <;> first | (cases hr; done) | skip
  rename_i s1 hs1
  split at hr <;> first | (cases hr; done) | skip
  rename_i e hx
  have hsz : ops.size = l.length + 1 := by have := (listM_get h).1; simp at this; omega
  by_cases he : e = 0
  ·rw [if_pos he] at hr
   simp only [Option.some.injEq, Prod.mk.injEq] at hr
   obtain ⟨rfl, rfl⟩ := hr
   have := thr_sound (P := P) (Q := Q) (ops := ops) hcf h0 h hd ht hx (fun _ C a w hS => hQ C a w (restrict_sound hS keep)) (fun h => absurd he h) l.length 0 (by omega) s (by simpa using hs1) C a w hS
   exact wp_region (by rw [List.range_eq_range', hsz]; exact this)
  ·rw [if_neg he] at hr
   simp only [Option.some.injEq, Prod.mk.injEq] at hr
   obtain ⟨rfl, rfl⟩ := hr
   have := thr_sound (P := P) (Q := Q) (ops := ops) hcf h0 h hd ht hx (fun h => absurd h he) (fun _ C a w hS => hQ C a w hS) l.length 0 (by omega) s (by simpa using hs1) C a w hS
   exact wp_region (by rw [List.range_eq_range', hsz]; exact this)
end Go.Ax
