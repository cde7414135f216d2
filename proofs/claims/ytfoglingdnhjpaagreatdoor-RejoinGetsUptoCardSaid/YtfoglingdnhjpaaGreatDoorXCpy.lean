/-
  Ax, text 15b: copy.
-/
import Derived.Test.YtfoglingdnhjpaaGreatDoorXCall
import Derived.Laws.CopyRow
namespace Go.Ax
set_option linter.all false
set_option linter.unusedSectionVars false
open Go.RowKit
variable [Gls]
variable {P : Program} {C C' : Ctx} {w w' : World} {a : Act} {env : Env} {H H' : List Blk} {cf : CallF} {av : AV} {o : Oper} {xo : XOp} {Hp : Nat → Option Blk} {wr : List Nat}
theorem Local.refl0 (hH : RH C w Hp) : Local C C w w H H Hp [] :=
 ⟨Keeps.refl C w, rfl, rfl, rfl, Nat.le_refl _, Nat.le_refl _, fun _ _ _ => rfl, fun _ _ => .inl rfl, fun _ h => .inl h, hH.lt, fun i hi => (by cases hi), fun i => ⟨.inl, fun h => h.elim id (fun h => by omega)⟩,
  fun i b ht => by rcases ht with h | h; (· cases h); (· omega),
  fun i b k ht => by rcases ht with h | h; (· cases h); (· omega),
  fun i j b b' k ht => by rcases ht with h | h; (· cases h); (· omega)⟩
theorem cpy_sound {c : Call} (hop : o.op = .call c) (hc : c.callee = .builtin .copy) (ht : opT P o = some xo) (he : evalOp cf env H xo = some (av, H')) (hE : EnvR C w a env) (hH : RH C w Hp)
  (hT : ∀ id ∈ (touched env H xo).1, Hp id = H[id]?) : MemOk P C w a o Hp H H' (touched env H xo).2 av := by
 obtain ⟨callee, args, argTypes⟩ := c
 simp only at hc; subst hc
 simp only [opT, hop] at ht
 split at ht <;> first | (cases ht; done) | skip
 rename_i t htt
 split at ht <;> first | (cases ht; done) | skip
 rename_i el hu
 split at ht <;> first | (cases ht; done) | skip
 rename_i x y hargs
 split at ht <;> first | (cases ht; done) | skip
 rename_i hcond
 obtain ⟨htypes, hel, hz0⟩ := hcond
 simp only [Option.bind_eq_bind, Option.bind_eq_some_iff, Option.some.injEq] at ht
 obtain ⟨x', hx, y', hy, rfl⟩ := ht
 have hargs' : args = #[x, y] := by rw [← Array.toArray_toList (xs := args), hargs]
 have htypes' : argTypes = #[t, t] := by rw [← Array.toArray_toList (xs := argTypes), htypes]
 subst hargs'; subst htypes'
 obtain ⟨inf, hinf⟩ := Option.isSome_iff_exists.1 hel
 have hsz : ∀ w : World, (sizeOf el).run P w = .ok (P.cellsOf el) w := fun w => run_sizeOf w hinf
 have Rx := operand_sound hx hE
 have Ry := operand_sound hy hE
 generalize hvx : a.eval x = vx at Rx
 generalize hvy : a.eval y = vy at Ry
 simp only [touched] at hT ⊢
 simp only [evalOp] at he
 generalize hX : x'.ev env = X at *
 generalize hY : y'.ev env = Y at *
 split at he <;> first | (cases he; done) | skip
 rename_i sz' fl' ys hsl
 split at he <;> first | (cases he; done) | skip
 rename_i hsz'
 subst hsz'
 have hS := src_sound hH hsl Ry (fun id hid => hT id (by simp [hid]))
 obtain ⟨⟨ax, cx, hvy', hnone, hsome⟩, hycells, hyflat⟩ := hS
 have hrunOf : ∀ v' w', (Builtin.copy_ #[t, t] o.type #[vx, vy]).run P w = .ok v' w' → Runs P o a w v' w' := fun v' w' h => .inl (by
  simp only [execOp, hop, resolve, invoke, builtin, Sem.run_bind, Sem.run_pure, Result.andThen_ok, List.map_toArray, List.map_cons, List.map_nil, hvx, hvy, h])
 have nothing : ∀ base len cap, vx = .slice base len cap → min ys.length len = 0 → (Builtin.copy_ #[t, t] o.type #[vx, vy]).run P w = .ok (goInt 0) w := by
  intro base len cap hv hm
  have hf : (Builtin.firstCells (P.cellsOf el) 0 (.slice ax ys.length cx)).run P w = .ok #[] w := by cases ax <;> simp [Builtin.firstCells, loadCells, loadCellsFrom]
  have hm' : Nat.min ys.length len = 0 := hm
  rw [hv, hvy']
  cases base <;> simp [Builtin.copy_, run_underlying hu, hsz, Builtin.lenOf, hf, hm', storeCells]
 have int0 : ∀ C' : Ctx, RV C' w (goInt 0) (.dat (.int .i64 0)) := fun _ => .dat (.int .i64 0)
 unfold copyTo at he
 split at he <;> first | (cases he; done) | skip
 ·rename_i id off len
  split at he <;> first | (cases he; done) | skip
  rename_i e sz0 fl0 xs hb
  have hp := hT id (by simp [AV.refs])
  have hB := hH.blk id _ (hp.trans hb)
  have hidlt := (List.getElem?_eq_some_iff.1 hb).1
  split at he
  ·rename_i hc2
   obtain ⟨rfl, hle, hnc, hpos⟩ := hc2
   simp only [Option.some.injEq, Prod.mk.injEq] at he; obtain ⟨rfl, rfl⟩ := he
   generalize hn : min ys.length len = n at *
   cases Rx with
   | own0 => omega
   | own _ _ _ g cap hD hρ hlc =>
    cases hB with
    | arr0 => simp at hle; omega
    | arr _ _ _ _ _ g' cap' cc hρ' hz hz0' hbk hcs hl hcap hF hs hfl hcell =>
     rw [hρ] at hρ'; injection hρ' with e1 e2; subst e1; subst e2
     have hgF : ¬ C.Fz g := fun h => by have := hF.1 h; cases this
     obtain ⟨ad, news, hax, hnl, hnc', hn1, hnr⟩ := hsome (fun h => by subst h; simp at hn; omega)
     have hmul : n * P.cellsOf el ≤ ys.length * P.cellsOf el := Nat.mul_le_mul_right _ (by omega)
     have hnt : (news.take (n * P.cellsOf el)).length = n * P.cellsOf el := by rw [List.length_take]; omega
     have hload := run_loadCells_list (P := P) w ad (news.take (n * P.cellsOf el)) (fun j v hj => by
      rw [List.getElem?_take] at hj
      split at hj <;> first | (cases hj; done) | skip
      exact hnc' j v hj)
     rw [hnt] at hload
     have hmul2 : (off + n) * P.cellsOf el ≤ cap * P.cellsOf el := Nat.mul_le_mul_right _ (by omega)
     rw [Nat.add_mul] at hmul2
     have h1c : ∀ v ∈ news.take (n * P.cellsOf el), v.oneCell' = true := fun v hv => hn1 v (List.mem_of_mem_take hv)
     have hst := run_storeCells_at P g (off * P.cellsOf el) e (news.take (n * P.cellsOf el)) 0 cc w hbk (by rw [hnt, hcs]; omega) h1c
     rw [Nat.add_zero, hnt] at hst
     generalize hrow : (cc.toList.take (off * P.cellsOf el) ++ news.take (n * P.cellsOf el) ++ cc.toList.drop (off * P.cellsOf el + n * P.cellsOf el)) = row at hst
     have hcl : cc.toList.length = cap * P.cellsOf el := by simpa using hcs
     have hrl : row.length = cap * P.cellsOf el := by
      rw [← hrow]; simp only [List.length_append, List.length_take, List.length_drop, hnl, hcl]; omega
     have hrun : (Builtin.copy_ #[t, t] o.type #[Value.slice (some ⟨g, off * C.sz id, none⟩) len (cap - off), vy]).run P w = .ok (goInt n) (w.setRow g row.toArray) := by
      have hm' : Nat.min ys.length len = n := hn
      rw [hvy', hax, hz]
      simp [Builtin.copy_, run_underlying hu, hsz, Builtin.lenOf, Builtin.firstCells, hm', hload, hst]
     have hFz : ctxFz C H [] = C := by unfold ctxFz; cases C; simp
     refine ⟨goInt n, _, C, hrunOf _ _ hrun, .dat (.int .i64 n), ?_⟩
     have hK : Keeps C C w (w.setRow g row.toArray) := ⟨fun _ h => h, fun k hk => setRow_other w g k _ (fun e => hgF (e ▸ hk)), fun _ h => h, fun _ _ => rfl, fun _ _ => rfl⟩
     have hL := Local.turn (w' := w.setRow g row.toArray) (b' := .arr e (P.cellsOf el) (fl0 && fl') false (xs.take off ++ ys.take n ++ xs.drop (off + n))) hH (g := g) [] hb hp (by simp) (by rw [hρ]; exact ⟨rfl, rfl⟩)
      (fun i hi => by cases hi) (fun i hi => by cases hi) rfl rfl rfl (by simp) (fun k hk => setRow_other w g k _ hk) ?_ (fun k hk => by rw [hρ] at hk ⊢; exact hk)
     ·rw [hFz, freeze_nil] at hL
      exact hL
     ·rw [hFz]
      have hxl : (xs.take off ++ ys.take n ++ xs.drop (off + n)).length = xs.length := by simp; omega
      refine .arr e _ _ false _ g cap row.toArray hρ hz hz0 (setRow_heap w g cc _ e (0, 0) hbk) (by simpa using hrl) (by omega) hcap ⟨fun h => absurd h hgF, fun h => by cases h⟩ (fun x hx => ?_) (fun hf x hx => ?_) (fun k q hk => ?_)
      ·rcases List.mem_append.1 hx with hx | hx
       ·rcases List.mem_append.1 hx with hx | hx
        ·exact hs x (List.mem_of_mem_take hx)
        ·exact hycells x (List.mem_of_mem_take hx)
       ·exact hs x (List.mem_of_mem_drop hx)
      ·simp only [Bool.and_eq_true] at hf
       rcases List.mem_append.1 hx with hx | hx
       ·rcases List.mem_append.1 hx with hx | hx
        ·exact hfl hf.1 x (List.mem_of_mem_take hx)
        ·exact hyflat hf.2 x (List.mem_of_mem_take hx)
       ·exact hfl hf.1 x (List.mem_of_mem_drop hx)
      ·rw [flatten_append, flatten_append, flatten_take _ hs, flatten_take _ hycells, flatten_drop _ hs, Nat.add_mul] at hk
       have hfx := flatten_length hs
       have hfy := flatten_length hycells
       have hmul3 : (off + n) * P.cellsOf el ≤ xs.length * P.cellsOf el := Nat.mul_le_mul_right _ (by omega)
       rw [Nat.add_mul] at hmul3
       have hkeep : ∀ j q, (flatten xs)[j]? = some q → ∃ v : Value, cc.toList[j]? = some v ∧ RD C.Fz (w.setRow g row.toArray) v q ∧ v.oneCell' = true := fun j q hq => by
        obtain ⟨v, h1, h2, h3⟩ := hcell j q hq
        exact ⟨v, by rw [Array.getElem?_toList]; exact h1, h2.keeps hK.fz hK.blk, h3⟩
       have hnew : ∀ j q, j < n * P.cellsOf el → (flatten ys)[j]? = some q → ∃ v : Value, (news.take (n * P.cellsOf el))[j]? = some v ∧ RD C.Fz (w.setRow g row.toArray) v q ∧ v.oneCell' = true := fun j q hj hq => by
        have hjl : j < news.length := by omega
        refine ⟨news[j], by rw [List.getElem?_take, if_pos hj, List.getElem?_eq_getElem hjl], (hnr j q _ hq (List.getElem?_eq_getElem hjl)).keeps hK.fz hK.blk, hn1 _ (List.getElem_mem hjl)⟩
       suffices h : ∃ v : Value, row[k]? = some v ∧ RD C.Fz (w.setRow g row.toArray) v q ∧ v.oneCell' = true by
        obtain ⟨v, h1, h2⟩ := h
        exact ⟨v, by simpa using h1, h2⟩
       generalize w.setRow g row.toArray = W at hkeep hnew ⊢
       rw [← hrow]
       by_cases hk1 : k < off * P.cellsOf el
       ·rw [List.append_assoc, List.getElem?_append_left (by rw [List.length_take]; omega), List.getElem?_take, if_pos hk1]
        rw [List.append_assoc, List.getElem?_append_left (by rw [List.length_take]; omega), List.getElem?_take, if_pos hk1] at hk
        exact hkeep k q hk
       ·by_cases hk2 : k < off * P.cellsOf el + n * P.cellsOf el
        ·rw [List.append_assoc, List.getElem?_append_right (by rw [List.length_take]; omega), List.length_take, List.getElem?_append_left (by rw [hnt]; omega)]
         rw [List.append_assoc, List.getElem?_append_right (by rw [List.length_take]; omega), List.length_take, List.getElem?_append_left (by rw [List.length_take]; omega)] at hk
         rw [show min (off * P.cellsOf el) cc.toList.length = off * P.cellsOf el by omega]
         rw [show min (off * P.cellsOf el) (flatten xs).length = off * P.cellsOf el by omega, List.getElem?_take, if_pos (by omega)] at hk
         exact hnew _ q (by omega) hk
        ·rw [List.getElem?_append_right (by rw [List.length_append, hnt, List.length_take]; omega), List.length_append, hnt, List.length_take, List.getElem?_drop]
         rw [List.getElem?_append_right (by rw [List.length_append, List.length_take, List.length_take]; omega), List.length_append, List.length_take, List.length_take, List.getElem?_drop] at hk
         have e1 : off * P.cellsOf el + n * P.cellsOf el + (k - (min (off * P.cellsOf el) cc.toList.length + n * P.cellsOf el)) = k := by omega
         have e2 : off * P.cellsOf el + n * P.cellsOf el + (k - (min (off * P.cellsOf el) (flatten xs).length + min (n * P.cellsOf el) (flatten ys).length)) = k := by omega
         rw [e1]; rw [e2] at hk
         exact hkeep k q hk
  ·split at he <;> first | (cases he; done) | skip
   rename_i hm
   simp only [Option.some.injEq, Prod.mk.injEq] at he; obtain ⟨rfl, rfl⟩ := he
   have hL : Local C C w w H H Hp (AV.own id off len).refs := (Local.refl0 hH).widen hH (fun i hi => by cases hi) (fun i hi => hT i (by simp [hi])) (fun i hi => by simp only [AV.refs, List.mem_singleton] at hi; subst hi; exact hidlt)
   cases Rx with
   | own _ _ _ g cap hD hρ hlc => exact ⟨_, w, C, hrunOf _ _ (nothing _ _ _ rfl hm), int0 C, hL⟩
   | own0 => exact ⟨_, w, C, hrunOf _ _ (nothing _ _ _ rfl hm), int0 C, hL⟩
 ·simp only [Option.some.injEq, Prod.mk.injEq] at he; obtain ⟨rfl, rfl⟩ := he
  cases Rx with
  | dat R => cases R with
   | sl0 base cap _ _ _ => exact ⟨_, w, C, hrunOf _ _ (nothing _ _ _ rfl (by simp)), int0 C, Local.refl0 hH⟩
   | sl _ _ _ _ _ _ hne => exact absurd rfl hne
 ·simp only [Option.some.injEq, Prod.mk.injEq] at he; obtain ⟨rfl, rfl⟩ := he
  cases Rx
  exact ⟨_, w, C, hrunOf _ _ (nothing _ _ _ rfl (by simp)), int0 C, Local.refl0 hH⟩
end Go.Ax
