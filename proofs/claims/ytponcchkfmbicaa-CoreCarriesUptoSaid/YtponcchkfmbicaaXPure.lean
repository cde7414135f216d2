/-
  Ax, text 4: the operations that turn no memory: what the model's operation yields is what the interpreter's yields.
-/
import Derived.Test.YtponcchkfmbicaaXRel
import Derived.Test.YtponcchkfmbicaaXComp
import Derived.Orders
import Derived.Laws.StructEq
import Derived.Laws.Slices
import Derived.ChangeKeysEq
import Derived.WideLaws
namespace Go.Ax
set_option linter.unusedSectionVars false
open Go.RowKit

/-- The slots hold what the environment says. -/
def GlR [Gls] (C : Ctx) (w : World) : Prop := ∀ g ds, Gls.G g = some ds → RV C w (.pointer (some ⟨g, 0, none⟩)) (.dptr ds)
theorem GlR.mono [Gls] {C C' : Ctx} {w w' : World} (hF : ∀ b, C.Fz b → C'.Fz b) (hw : ∀ b, C.Fz b → w'.heap[b]? = w.heap[b]?) (h : GlR C w) : GlR C' w' := fun g ds hg => by
  have := h g ds hg
  generalize hx : Value.pointer (some ⟨g, 0, none⟩) = x at this ⊢
  cases this with
  | dptr ad cs vs hFz hv hd =>
    refine .dptr _ ds vs (hF _ hFz) (fun k d hk => ⟨?_, (hv k d hk).2⟩) (fun k d hk => (hd k d hk).keeps hF hw)
    rw [World.cell?_of_block (w := w) (by rw [add_block]; exact hw _ hFz)]
    exact (hv k d hk).1
theorem GlR.keeps [Gls] {C C' : Ctx} {w w' : World} (K : Keeps C C' w w') (h : GlR C w) : GlR C' w' := h.mono K.fz K.blk
structure EnvR [Gls] (C : Ctx) (w : World) (a : Act) (env : Env) : Prop where
  tm : ∀ n, RV C w (a.tmps.getD n undef) (get env n)
  gl : GlR C w
instance [Gls] {C : Ctx} {w : World} {a : Act} {env : Env} : CoeFun (EnvR C w a env) fun _ => ∀ n, RV C w (a.tmps.getD n undef) (get env n) := ⟨EnvR.tm⟩

variable [Gls]
variable {P : Program} {C : Ctx} {w : World} {a : Act} {env : Env} {H H' : List Blk} {cf : CallF} {av : AV}

theorem RV.one {v : Value} {x : AV} (h : RV C w v x) (h1 : x.one = true) : v.oneCell' = true := by
  cases h <;> first | rfl | (simp [AV.one] at h1; done) | skip
  rename_i d h
  cases h <;> first | rfl | (simp [AV.one] at h1; done)

theorem const1_sound {v : Value} {x : AV} (h : cellsT.constT1 v = some x) : RV C w v x ∧ v.oneCell' = true ∧ x.one = true := by
  unfold cellsT.constT1 at h
  split at h <;> first | (cases h; done) | (injection h with h; subst h; exact ⟨.dat (by constructor), rfl, rfl⟩)

theorem cells_sound : ∀ {zs : List AV} {vs : List Value} {l : List AV}, cellsT zs vs = some l →
    l.length = vs.length ∧ ∀ (j : Nat) (v : Value) (x : AV), vs[j]? = some v → l[j]? = some x → RV C w v x ∧ v.oneCell' = true ∧ x.one = true
  | [], [], l, h => by
    simp only [cellsT, Option.some.injEq] at h; subst h
    exact ⟨rfl, fun j v x h => by simp at h⟩
  | [], _ :: _, _, h => by simp [cellsT] at h
  | _ :: _, [], _, h => by simp [cellsT] at h
  | z :: zs, v :: vs, l, h => by
    simp only [cellsT] at h
    split at h
    · rename_i x r hx hr
      injection h with h; subst h
      obtain ⟨h1, h2⟩ := cells_sound hr
      refine ⟨by simp [h1], fun j v' x' hv hx' => ?_⟩
      cases j with
      | zero =>
        simp only [List.getElem?_cons_zero, Option.some.injEq] at hv hx'
        subst hv; subst hx'
        split at hx
        · injection hx with hx; subst hx
          exact ⟨.nil none _ _ _, rfl, rfl⟩
        · exact const1_sound hx
      | succ j => exact h2 j v' x' (by simpa using hv) (by simpa using hx')
    · cases h

theorem RV_agg_of {vs : List Value} {l : List AV} (hl : l.length = vs.length) (h : ∀ (j : Nat) (v : Value) (x : AV), vs[j]? = some v → l[j]? = some x → RV C w v x) : RV C w (.agg vs.toArray) (.agg l) :=
  .agg _ _ (by simp [hl]) fun j c v hc hv => h j v c (by simpa using hv) hc

theorem operand_sound {t : Option TypeId} {x : Operand} {xo : XO} (h : operandT P t x = some xo) (hE : EnvR C w a env) : RV C w (a.eval x) (xo.ev env) := by
  unfold operandT at h
  split at h
  · injection h with h; subst h; exact hE _
  · split at h
    · split at h
      · split at h
        · rename_i vs _ _ _ _ _ l hl
          injection h with h; subst h
          obtain ⟨h1, h2⟩ := cells_sound (C := C) (w := w) hl
          have := RV_agg_of (C := C) (w := w) h1 (fun j v x hv hx => (h2 j v x hv hx).1)
          simpa [Act.eval, XO.ev] using this
        · cases h
      · cases h
    · cases h
  · split at h
    · split at h
      · injection h with h; subst h; exact .nil none _ _ _
      · cases h
    · cases h
  · split at h
    · rename_i x hx
      injection h with h; subst h
      exact (const1_sound hx).1
    · cases h
  · injection h with h; subst h
    refine .fn _ _ _ _ _ rfl rfl (fun j c v h => by simp at h) (fun j c v h => by simp at h)
  · simp only [Option.map_eq_some_iff] at h
    obtain ⟨ds, hg, rfl⟩ := h
    exact hE.gl _ ds hg

theorem underlying_info {t : TypeId} {d : TypeDesc} (h : P.underlying t = some d) : ∃ i, P.info? t = some i := by
  unfold Program.underlying at h
  cases hi : P.info? t with
  | none => rw [hi] at h; simp at h
  | some i => exact ⟨i, rfl⟩

theorem run_sizeOf' {t : TypeId} {d : TypeDesc} (h : P.underlying t = some d) (w : World) : (sizeOf t).run P w = .ok (P.cellsOf t) w := by
  obtain ⟨i, hi⟩ := underlying_info h
  exact run_sizeOf w hi

theorem run_isAgg {t : TypeId} {ag : Option Nat} (h : aggOf P t = some ag) (w : World) : (isAgg t).run P w = .ok ag.isSome w := by
  unfold aggOf at h
  split at h
  · rename_i fs hu; injection h with h; subst h; simp [isAgg, run_underlying hu]
  · rename_i n e hu; injection h with h; subst h; simp [isAgg, run_underlying hu]
  · rename_i d h1 h2 hu
    injection h with h; subst h
    simp only [isAgg, Sem.run_bind, run_underlying hu, Result.andThen_ok]
    cases d <;> first | rfl | exact (h1 _ rfl).elim | exact (h2 _ _ rfl).elim
  · cases h
theorem aggOf_some {t : TypeId} {n : Nat} (h : aggOf P t = some (some n)) : n = P.cellsOf t ∧ ∃ d, P.underlying t = some d := by
  unfold aggOf at h
  split at h
  · rename_i fs hu; injection h with h; injection h with h; exact ⟨h.symm, _, hu⟩
  · rename_i m e hu; injection h with h; injection h with h; exact ⟨h.symm, _, hu⟩
  · injection h with h; cases h
  · cases h

/-- Lists of values and abstract values, one by one. -/
def RL (C : Ctx) (w : World) (us : List Value) (l : List AV) : Prop := us.length = l.length ∧ ∀ (j : Nat) (u : Value) (x : AV), us[j]? = some u → l[j]? = some x → RV C w u x

theorem RL.drop {us : List Value} {l : List AV} (h : RL C w us l) (n : Nat) : RL C w (us.drop n) (l.drop n) :=
  ⟨by simp [h.1], fun j u x hu hx => h.2 (n + j) u x (by simpa using hu) (by simpa using hx)⟩
theorem RL.take {us : List Value} {l : List AV} (h : RL C w us l) (n : Nat) : RL C w (us.take n) (l.take n) := by
  refine ⟨by simp [h.1], fun j u x hu hx => ?_⟩
  rw [List.getElem?_take] at hu hx
  split at hu
  · rename_i hj; rw [if_pos hj] at hx; exact h.2 j u x hu hx
  · cases hu
theorem RL.append {us vs : List Value} {l m : List AV} (h : RL C w us l) (k : RL C w vs m) : RL C w (us ++ vs) (l ++ m) := by
  refine ⟨by simp [h.1, k.1], fun j u x hu hx => ?_⟩
  by_cases hj : j < us.length
  · rw [List.getElem?_append_left hj] at hu
    rw [List.getElem?_append_left (by rw [← h.1]; exact hj)] at hx
    exact h.2 j u x hu hx
  · rw [List.getElem?_append_right (by omega)] at hu
    rw [List.getElem?_append_right (by rw [← h.1]; omega), ← h.1] at hx
    exact k.2 _ u x hu hx
theorem RL.nil : RL C w [] [] := ⟨rfl, fun j u x h => by simp at h⟩
theorem RL.cons {u : Value} {x : AV} {us : List Value} {l : List AV} (h : RV C w u x) (k : RL C w us l) : RL C w (u :: us) (x :: l) := by
  refine ⟨by simp [k.1], fun j v y hv hy => ?_⟩
  cases j with
  | zero => simp at hv hy; subst hv; subst hy; exact h
  | succ j => exact k.2 j v y (by simpa using hv) (by simpa using hy)
theorem RL.agg {us : List Value} {l : List AV} (h : RL C w us l) : RV C w (.agg us.toArray) (.agg l) := RV_agg_of h.1.symm h.2
theorem RL.keeps {C' : Ctx} {w' : World} {us : List Value} {l : List AV} (K : Keeps C C' w w') (h : RL C w us l) : RL C' w' us l := ⟨h.1, fun j u x hu hx => (h.2 j u x hu hx).keeps K⟩

/-- A value's cells. -/
theorem RV.cells {v : Value} {x : AV} (h : RV C w v x) (hx : x.one = true ∨ (∃ cs, x = .agg cs) ∨ ∃ ds, x = .dat (.agg ds)) : RL C w v.cells.toList x.cells := by
  rcases hx with hx | ⟨cs, rfl⟩ | ⟨ds, rfl⟩
  · have h1 := h.one hx
    have e1 : v.cells.toList = [v] := by cases v <;> first | rfl | (simp [Value.oneCell'] at h1; done)
    have e2 : x.cells = [x] := by
      cases x <;> first | rfl | (simp [AV.one] at hx; done) | skip
      rename_i d; cases d <;> first | rfl | (simp [AV.one] at hx; done)
    rw [e1, e2]
    exact RL.cons h RL.nil
  · cases h with
    | agg vs cs hn h => exact ⟨by simpa [Value.cells, AV.cells] using hn, fun j u x hu hx => h j x u (by simpa [AV.cells] using hx) (by simpa [Value.cells] using hu)⟩
  · cases h with
    | dat h => cases h with
      | agg vs ds hn h =>
        refine ⟨by simpa [Value.cells, AV.cells] using hn, fun j u x hu hx => ?_⟩
        simp only [AV.cells, List.getElem?_map, Option.map_eq_some_iff] at hx
        obtain ⟨d, hd, rfl⟩ := hx
        exact .dat (h j d u hd (by simpa [Value.cells] using hu))

/-- The cells of something that is written: each of one cell. -/
theorem RV.cells_one {v : Value} {x : AV} (h : RV C w v x) (h1 : x.cells.all AV.one = true) : RL C w v.cells.toList x.cells ∧ ∀ u ∈ v.cells.toList, u.oneCell' = true := by
  have hx : x.one = true ∨ (∃ cs, x = .agg cs) ∨ ∃ ds, x = .dat (.agg ds) := by
    cases x with
    | agg cs => exact .inr (.inl ⟨cs, rfl⟩)
    | dat d => cases d <;> first | exact .inr (.inr ⟨_, rfl⟩) | exact .inl rfl
    | tup vs => simp [AV.cells, AV.one] at h1
    | top => simp [AV.cells, AV.one] at h1
    | _ => exact .inl rfl
  have hc := h.cells hx
  refine ⟨hc, fun u hu => ?_⟩
  obtain ⟨j, hj, rfl⟩ := List.mem_iff_getElem.1 hu
  have hj2 : j < x.cells.length := by rw [← hc.1]; exact hj
  have := hc.2 j _ _ (List.getElem?_eq_getElem hj) (List.getElem?_eq_getElem hj2)
  exact this.one (List.all_eq_true.1 h1 _ (List.getElem_mem hj2))

theorem addr_add_zero (x : Addr) : x.add 0 = x := by simp [Addr.add]

/-- A load out of cells that are known. -/
theorem load_sound {t : TypeId} {ag : Option Nat} (ht : aggOf P t = some ag) {ad : Addr} {us : List Value} {l : List AV} (hL : RL C w us l) (hc : ∀ (j : Nat) (u : Value), us[j]? = some u → w.cell? (ad.add j) = some u)
    {x : AV} (hx : mkAgg ag l = some x) : ∃ u, (Instr.loadAt t (.pointer (some ad))).run P w = .ok u w ∧ RV C w u x := by
  have hA := run_isAgg ht w
  cases ag with
  | none =>
    cases l with
    | nil => simp [mkAgg] at hx
    | cons y l =>
      simp only [mkAgg, Option.some.injEq] at hx; subst hx
      obtain ⟨h1, h2⟩ := hL
      cases us with
      | nil => simp at h1
      | cons u us =>
        have h0 := hc 0 u rfl
        rw [addr_add_zero] at h0
        refine ⟨u, ?_, h2 0 u y rfl rfl⟩
        simp [Instr.loadAt, Instr.sureAddr, loadVar, hA, h0]
  | some n =>
    simp only [mkAgg] at hx
    split at hx
    · rename_i hn
      simp only [Option.some.injEq] at hx; subst hx
      obtain ⟨hn2, d, hd⟩ := aggOf_some ht
      refine ⟨.agg (us.take n).toArray, ?_, (hL.take n).agg⟩
      have hlen : (us.take n).length = n := by rw [List.length_take, hL.1]; omega
      have hl := run_loadCells_list (P := P) w ad (us.take n) (fun j v hv => hc j v (by
        rw [List.getElem?_take] at hv; split at hv
        · exact hv
        · cases hv))
      rw [hlen] at hl
      simp only [Instr.loadAt, Instr.sureAddr, loadVar, Sem.run_bind, Sem.run_pure, Result.andThen_ok, hA, Option.isSome_some, if_true, run_sizeOf' hd, ← hn2, hl]
    · cases hx

end Go.Ax
