/-
  Ax, text 6: loads, elements, slices.
-/
import Derived.Test.YtponcchkfmbicaaXPure2
namespace Go.Ax
set_option linter.unusedSectionVars false
open Go.RowKit

variable [Gls]
variable {P : Program} {C : Ctx} {w : World} {a : Act} {env : Env} {H H' : List Blk} {cf : CallF} {av : AV} {o : Oper} {xo : XOp} {Hp : Nat → Option Blk}

theorem flatten_cons (x : Dat) (xs : List Dat) : flatten (x :: xs) = x.cells ++ flatten xs := by simp [flatten]
theorem flatten_length {sz : Nat} : ∀ {xs : List Dat}, (∀ x ∈ xs, x.cells.length = sz) → (flatten xs).length = xs.length * sz
  | [], _ => by simp [flatten]
  | x :: xs, h => by
    rw [flatten_cons, List.length_append, flatten_length (fun y hy => h y (List.mem_cons_of_mem _ hy)), h x List.mem_cons_self, List.length_cons, Nat.succ_mul, Nat.add_comm]
theorem flatten_drop {sz : Nat} : ∀ {xs : List Dat} (n : Nat), (∀ x ∈ xs, x.cells.length = sz) → flatten (xs.drop n) = (flatten xs).drop (n * sz)
  | [], n, _ => by simp [flatten]
  | x :: xs, 0, _ => by simp
  | x :: xs, n + 1, h => by
    rw [List.drop_succ_cons, flatten_drop n (fun y hy => h y (List.mem_cons_of_mem _ hy)), flatten_cons, List.drop_append, Nat.succ_mul]
    have := h x List.mem_cons_self
    have e : List.drop (n * sz + sz) x.cells = [] := List.drop_eq_nil_of_le (by omega)
    rw [e, List.nil_append, this]
    congr 1; omega
theorem flatten_take {sz : Nat} : ∀ {xs : List Dat} (n : Nat), (∀ x ∈ xs, x.cells.length = sz) → flatten (xs.take n) = (flatten xs).take (n * sz)
  | [], n, _ => by simp [flatten]
  | x :: xs, 0, _ => by simp [flatten]
  | x :: xs, n + 1, h => by
    rw [List.take_succ_cons, flatten_cons, flatten_take n (fun y hy => h y (List.mem_cons_of_mem _ hy)), flatten_cons, List.take_append, Nat.succ_mul]
    have := h x List.mem_cons_self
    rw [List.take_of_length_le (l := x.cells) (by omega), this]
    congr 2; omega
theorem flatten_append (xs ys : List Dat) : flatten (xs ++ ys) = flatten xs ++ flatten ys := by simp [flatten]
theorem flatten_get {sz : Nat} {xs : List Dat} {x : Dat} {i j : Nat} (h : ∀ x ∈ xs, x.cells.length = sz) (hx : xs[i]? = some x) {d : Dat} (hj : x.cells[j]? = some d) : (flatten xs)[i * sz + j]? = some d := by
  have h1 := flatten_drop i h
  rw [← List.getElem?_drop, ← h1]
  have hi : i < xs.length := (List.getElem?_eq_some_iff.1 hx).1
  have hxe : xs[i] = x := (List.getElem?_eq_some_iff.1 hx).2
  rw [List.drop_eq_getElem_cons hi, flatten_cons, hxe, List.getElem?_append_left (List.getElem?_eq_some_iff.1 hj).1]
  exact hj

theorem add_add (x : Addr) (m n : Nat) : (x.add m).add n = x.add (m + n) := by
  unfold Addr.add
  split <;> split <;> split <;> simp_all <;> omega
theorem mk_add (b off n : Nat) : (⟨b, off, none⟩ : Addr).add n = ⟨b, off + n, none⟩ := by unfold Addr.add; split <;> simp_all

/-- The cells of data that is pointed to. -/
theorem datas_RL {F : Nat → Prop} {cs : List Dat} {vs : Nat → Value} (h : ∀ (k : Nat) (d : Dat), cs[k]? = some d → RD F w (vs k) d) (hF : F = C.Fz) : RL C w ((List.range cs.length).map vs) (cs.map .dat) := by
  subst hF
  refine ⟨by simp, fun j u x hu hx => ?_⟩
  simp only [List.getElem?_map, Option.map_eq_some_iff] at hu hx
  obtain ⟨d, hd, rfl⟩ := hx
  obtain ⟨k, hk, rfl⟩ := hu
  have hj : j < cs.length := (List.getElem?_eq_some_iff.1 hd).1
  rw [List.getElem?_range hj] at hk
  injection hk with hk; subst hk
  exact .dat (h j d hd)

theorem loadAt_sound {t : TypeId} {ag : Option Nat} (hag : aggOf P t = some ag) {x y : AV} {v : Value} (R : RV C w v x) (hy : loadAt H ag x = some y) (hH : RH C w Hp) (hT : ∀ id ∈ x.refs, Hp id = H[id]?) :
    ∃ u, (Instr.loadAt t v).run P w = .ok u w ∧ RV C w u y := by
  unfold loadAt at hy
  split at hy <;> first | (cases hy; done) | skip
  · rename_i id off
    split at hy <;> first | (cases hy; done) | skip
    rename_i cs hb
    have hp := hT id (by simp [AV.refs])
    rw [hb] at hp
    have hB := hH.blk id _ hp
    cases R with
    | ptr _ _ b hD hρ =>
      cases hB with
      | box _ b' c t' hρ' hh hn hF h h1 =>
        rw [hρ] at hρ'; injection hρ' with hρ'; subst hρ'
        have hRL : RL C w c.toList cs := ⟨by simpa using hn, fun j u x hu hx => h j u x (by simpa using hu) hx⟩
        refine load_sound hag (hRL.drop off) (fun j u hu => ?_) hy
        rw [mk_add, cell_of_row w b (off + j) c t' (0, 0) hh]
        simpa using hu
  · rename_i id i off
    split at hy <;> first | (cases hy; done) | skip
    rename_i e' sz fl fz xs hb
    split at hy <;> first | (cases hy; done) | skip
    rename_i d hd
    have hp := hT id (by simp [AV.refs])
    rw [hb] at hp
    have hB := hH.blk id _ hp
    cases R with
    | eptr _ _ _ g cap hD hρ =>
      cases hB with
      | arr0 => simp at hd
      | arr _ _ _ _ _ g' cap' c hρ' hz hz0 hh hc hl hcap hF hs hfl h =>
        rw [hρ] at hρ'; injection hρ' with hg hcp; subst hg; subst hcp
        have key : ∀ j q, d.cells[j]? = some q → ∃ v : Value, c[i * sz + j]? = some v ∧ RD C.Fz w v q ∧ v.oneCell' = true := fun j q hq => h _ q (flatten_get hs hd hq)
        have hdc : d.cells.length = sz := hs d (List.mem_of_getElem? hd)
        have hRL : RL C w (((List.range d.cells.length).map fun j => c.getD (i * sz + j) undef).drop off) ((d.cells.drop off).map .dat) := by
          rw [List.map_drop]
          exact (datas_RL (fun j q hq => by obtain ⟨v, h1, h2, _⟩ := key j q hq; simpa [Array.getD, Array.getElem?_eq_some_iff.1 h1 |>.1, (Array.getElem?_eq_some_iff.1 h1).2] using h2) rfl).drop off
        refine load_sound hag hRL (fun j u hu => ?_) hy
        rw [mk_add, hz, cell_of_row w g _ c _ (0, 0) hh]
        simp only [List.getElem?_drop, List.getElem?_map, Option.map_eq_some_iff] at hu
        obtain ⟨k, hk, rfl⟩ := hu
        have hlt : off + j < d.cells.length := by
          have := (List.getElem?_eq_some_iff.1 hk).1; simpa using this
        rw [List.getElem?_range hlt] at hk; injection hk with hk; subst hk
        obtain ⟨v, h1, _⟩ := key (off + j) _ (List.getElem?_eq_getElem hlt)
        rw [← Nat.add_assoc] at h1
        rw [h1, ← Nat.add_assoc]
        simp [Array.getD, (Array.getElem?_eq_some_iff.1 h1).1, (Array.getElem?_eq_some_iff.1 h1).2]
  · rename_i cs
    cases R with
    | dptr ad _ vs hF hv' hd =>
      refine load_sound hag (datas_RL hd rfl) (fun j u hu => ?_) hy
      simp only [List.getElem?_map, Option.map_eq_some_iff] at hu
      obtain ⟨k, hk, rfl⟩ := hu
      have hlt : j < cs.length := by
        have := (List.getElem?_eq_some_iff.1 hk).1; simpa using this
      rw [List.getElem?_range hlt] at hk; injection hk with hk; subst hk
      exact (hv' j _ (List.getElem?_eq_getElem hlt)).1

theorem load_op_sound {t : TypeId} {x : Operand} (hop : o.op = .load t x) (ht : opT P o = some xo) (he : evalOp cf env H xo = some (av, H')) (hE : EnvR C w a env) (hH : RH C w Hp)
    (hT : ∀ id ∈ (touched env H xo).1, Hp id = H[id]?) : H' = H ∧ PureOk P C w a o av := by
  simp only [opT, hop, Option.bind_eq_bind, Option.bind_eq_some_iff, Option.some.injEq] at ht
  obtain ⟨ag, hag, x', hx, rfl⟩ := ht
  have R := operand_sound hx hE
  generalize hv : a.eval x = v at R
  simp only [evalOp] at he
  split at he <;> first | (cases he; done) | skip
  rename_i y hy
  simp only [Option.some.injEq, Prod.mk.injEq] at he; obtain ⟨rfl, rfl⟩ := he
  refine ⟨rfl, ?_⟩
  have hT' : ∀ id ∈ (x'.ev env).refs, Hp id = H[id]? := fun id hid => by
    refine hT id ?_
    simp only [touched]
    unfold loadAt at hy
    split at hy <;> first | (cases hy; done) | skip
    all_goals
      rename_i e
      rw [e] at hid ⊢
      simp [AV.refs] at hid ⊢; try exact hid
  obtain ⟨u, h1, h2⟩ := loadAt_sound hag R hy hH hT'
  exact ⟨u, by simp [execOp, hop, hv, h1], h2⟩

theorem part_sound {t : TypeId} {ag : Option Nat} (ht : aggOf P t = some ag) {us : List Value} {l : List AV} (hL : RL C w us l) {off : Nat} {x : AV} (hx : mkAgg ag (l.drop off) = some x) :
    ∃ u, (part t us.toArray off).run P w = .ok u w ∧ RV C w u x := by
  have hA := run_isAgg ht w
  have hD := hL.drop off
  cases ag with
  | none =>
    cases hl : l.drop off with
    | nil => rw [hl] at hx; simp [mkAgg] at hx
    | cons y r =>
      rw [hl] at hx hD
      simp only [mkAgg, Option.some.injEq] at hx; subst hx
      cases hu : us.drop off with
      | nil => rw [hu] at hD; have := hD.1; simp at this
      | cons u us' =>
        rw [hu] at hD
        have h0 : us[off]? = some u := by
          have : (us.drop off)[0]? = some u := by rw [hu]; rfl
          simpa using this
        refine ⟨u, ?_, hD.2 0 u y rfl rfl⟩
        simp [part, hA, h0]
  | some n =>
    simp only [mkAgg] at hx
    split at hx
    · rename_i hn
      simp only [Option.some.injEq] at hx; subst hx
      obtain ⟨hn2, d, hd⟩ := aggOf_some ht
      refine ⟨.agg ((us.drop off).take n).toArray, ?_, (hD.take n).agg⟩
      simp only [part, Sem.run_bind, hA, Result.andThen_ok, Option.isSome_some, if_true, run_sizeOf' hd, ← hn2, Sem.run_pure]
      congr 2
      apply Array.ext'
      simp
    · cases hx

theorem fld_sound {t : TypeId} {x : Operand} {i : Nat} (hop : o.op = .field t x i) (ht : opT P o = some xo) (he : evalOp cf env H xo = some (av, H')) (hE : EnvR C w a env) : H' = H ∧ PureOk P C w a o av := by
  simp only [opT, hop] at ht
  split at ht <;> first | (cases ht; done) | skip
  rename_i fs hu
  simp only [Option.bind_eq_bind, Option.bind_eq_some_iff, Option.some.injEq] at ht
  obtain ⟨f, hf, ag, hag, x', hx, rfl⟩ := ht
  have R := operand_sound hx hE
  generalize hv : a.eval x = v at R
  simp only [evalOp] at he
  split at he <;> first | (cases he; done) | skip
  · rename_i cs e; rw [e] at R
    split at he <;> first | (cases he; done) | skip
    rename_i y hy
    simp only [Option.some.injEq, Prod.mk.injEq] at he; obtain ⟨rfl, rfl⟩ := he
    cases R with
    | agg vs _ hn h =>
      have hRL : RL C w vs.toList cs := ⟨by simpa using hn, fun j u x hu hx => h j x u hx (by simpa using hu)⟩
      obtain ⟨u, h1, h2⟩ := part_sound hag hRL hy
      have h1' : (part f.type vs f.offset).run P w = .ok u w := by simpa using h1
      exact ⟨rfl, u, by simp [execOp, hop, hv, Instr.field, run_underlying hu, hf, asAgg, h1'], h2⟩
  · rename_i ds e; rw [e] at R
    split at he <;> first | (cases he; done) | skip
    rename_i y hy
    simp only [Option.some.injEq, Prod.mk.injEq] at he; obtain ⟨rfl, rfl⟩ := he
    cases R with
    | dat R => cases R with
      | agg vs _ hn h =>
        have hRL : RL C w vs.toList (ds.map .dat) := ⟨by simpa using hn, fun j u x hu hx => by
          simp only [List.getElem?_map, Option.map_eq_some_iff] at hx
          obtain ⟨d, hd, rfl⟩ := hx
          exact .dat (h j d u hd (by simpa using hu))⟩
        rw [List.map_drop] at hy
        obtain ⟨u, h1, h2⟩ := part_sound hag hRL hy
        have h1' : (part f.type vs f.offset).run P w = .ok u w := by simpa using h1
        exact ⟨rfl, u, by simp [execOp, hop, hv, Instr.field, run_underlying hu, hf, asAgg, h1'], h2⟩


theorem aadr_sound {t el : TypeId} {n : Nat} {x i : Operand} (hop : o.op = .indexAddr t x i) (hu : P.underlying t = some (.array n el)) (hel : (P.info? el).isSome = true) {x' i' : XO} (R : RV C w (a.eval x) (x'.ev env)) (Ri : RV C w (a.eval i) (i'.ev env))
    (he : evalOp cf env H (.aadr (P.cellsOf el) n x' i') = some (av, H')) : H' = H ∧ PureOk P C w a o av := by
  generalize hv : a.eval x = v at R
  generalize hvi : a.eval i = vi at Ri
  obtain ⟨inf, hinf⟩ := Option.isSome_iff_exists.1 hel
  have hsz : ∀ w : World, (sizeOf el).run P w = .ok (P.cellsOf el) w := fun w => run_sizeOf w hinf
  simp only [evalOp] at he
  split at he <;> first | (cases he; done) | skip
  rename_i k m e; rw [e] at Ri
  split at he <;> first | (cases he; done) | skip
  rename_i hm
  obtain ⟨hm0, hm1⟩ := hm
  cases Ri with | dat Ri => cases Ri; (
    have hrun : ∀ (ad : Addr), v = .pointer (some ad) → (execOp a.eval o).run P w = .ok (.value (.pointer (some (ad.add (m.toNat * P.cellsOf el))))) w := by
      intro ad hva
      subst hva
      simp [execOp, hop, hv, hvi, Instr.indexAt, asIntOf, run_underlying hu, hm0, hm1, hsz, Instr.sureAddr]
    split at he <;> first | (cases he; done) | skip
    · rename_i id off ex; rw [ex] at R
      simp only [Option.some.injEq, Prod.mk.injEq] at he; obtain ⟨rfl, rfl⟩ := he
      cases R with
      | ptr _ _ b hD h =>
        refine ⟨rfl, _, hrun _ rfl, ?_⟩
        rw [mk_add]; exact .ptr _ _ _ hD h
    · rename_i id j off ex; rw [ex] at R
      simp only [Option.some.injEq, Prod.mk.injEq] at he; obtain ⟨rfl, rfl⟩ := he
      cases R with
      | eptr _ _ _ g cap hD h =>
        refine ⟨rfl, _, hrun _ rfl, ?_⟩
        rw [mk_add, Nat.add_assoc]; exact .eptr _ _ _ _ _ hD h
    · rename_i cs ex; rw [ex] at R
      split at he <;> first | (cases he; done) | skip
      simp only [Option.some.injEq, Prod.mk.injEq] at he; obtain ⟨rfl, rfl⟩ := he
      cases R with
      | dptr ad _ vs hF hv' hd =>
        refine ⟨rfl, _, hrun _ rfl, .dptr _ _ (fun q => vs (m.toNat * P.cellsOf el + q)) (by rw [add_block]; exact hF) (fun q d hk => ?_) (fun q d hk => ?_)⟩
        · have h1 := hv' (m.toNat * P.cellsOf el + q) d (by simpa using hk)
          rw [add_add]
          exact h1
        · exact hd (m.toNat * P.cellsOf el + q) d (by simpa using hk))

theorem iadr_sound {t : TypeId} {x i : Operand} (hop : o.op = .indexAddr t x i) (ht : opT P o = some xo) (he : evalOp cf env H xo = some (av, H')) (hE : EnvR C w a env) (hH : RH C w Hp)
    (hT : ∀ id ∈ (touched env H xo).1, Hp id = H[id]?) : H' = H ∧ PureOk P C w a o av := by
  simp only [opT, hop] at ht
  split at ht
  rotate_left
  · rename_i nn el hu
    simp only [Option.bind_eq_bind] at ht
    split at ht <;> first | (cases ht; done) | skip
    rename_i hel
    simp only [Option.bind_eq_some_iff, Option.some.injEq] at ht
    obtain ⟨x', hx, i', hi, rfl⟩ := ht
    exact aadr_sound hop hu hel (operand_sound hx hE) (operand_sound hi hE) he
  · cases ht
  rename_i el hu
  simp only [Option.bind_eq_bind] at ht
  split at ht <;> first | (cases ht; done) | skip
  rename_i hel
  simp only [Option.bind_eq_some_iff, Option.some.injEq] at ht
  obtain ⟨x', hx, i', hi, rfl⟩ := ht
  have R := operand_sound hx hE
  have Ri := operand_sound hi hE
  generalize hv : a.eval x = v at R
  generalize hvi : a.eval i = vi at Ri
  obtain ⟨inf, hinf⟩ := Option.isSome_iff_exists.1 hel
  have hsz : ∀ w : World, (sizeOf el).run P w = .ok (P.cellsOf el) w := fun w => run_sizeOf w hinf
  simp only [evalOp] at he
  split at he <;> first | (cases he; done) | skip
  rename_i k n e; rw [e] at Ri
  split at he <;> first | (cases he; done) | skip
  rename_i hn0
  cases Ri with | dat Ri => cases Ri; (
    have hrun : ∀ (ad : Addr) (len cap : Nat), n < (len : Int) → v = .slice (some ad) len cap → (execOp a.eval o).run P w = .ok (.value (.pointer (some (ad.add (n.toNat * P.cellsOf el))))) w := by
      intro ad len cap hlt hva
      subst hva
      simp [execOp, hop, hv, hvi, Instr.indexAt, asIntOf, run_underlying hu, hn0, hlt, hsz]
    split at he <;> first | (cases he; done) | skip
    · rename_i id off len ex; rw [ex] at R
      split at he <;> first | (cases he; done) | skip
      rename_i e' sz' fl fz xs hb
      split at he <;> first | (cases he; done) | skip
      rename_i hlt
      obtain ⟨hlt, hsz'⟩ := hlt
      simp only [Option.some.injEq, Prod.mk.injEq] at he; obtain ⟨rfl, rfl⟩ := he
      have hp := hT id (by simp [touched, ex, AV.refs])
      rw [hb] at hp
      have hB := hH.blk id _ hp
      have hzz : C.sz id = sz' := by cases hB <;> assumption
      cases R with
      | own _ _ _ g cap hD h hl =>
        refine ⟨rfl, _, hrun _ _ _ hlt rfl, ?_⟩
        rw [mk_add, ← hsz', ← hzz, ← Nat.add_mul]
        exact .eptr id (off + n.toNat) 0 g cap hD h
      | own0 => simp at hlt; omega
    · rename_i sz' fl xs ex; rw [ex] at R
      split at he <;> first | (cases he; done) | skip
      rename_i d hd
      split at he <;> first | (cases he; done) | skip
      rename_i hsz'
      simp only [Option.some.injEq, Prod.mk.injEq] at he; obtain ⟨rfl, rfl⟩ := he
      cases R with
      | dat R =>
        cases R with
        | sl0 => simp at hd
        | sl ad cap _ _ _ vs hne hF hcap hs hfl hv' hd' =>
          have hlt := (List.getElem?_eq_some_iff.1 hd).1
          refine ⟨rfl, _, hrun _ _ _ (by omega) rfl, .dptr _ _ (fun j => vs (n.toNat * sz' + j)) (by rw [add_block]; exact hF) (fun j q hq => ?_) (fun j q hq => hd' _ q (flatten_get hs hd hq))⟩
          have := hv' _ q (flatten_get hs hd hq)
          rw [add_add, ← hsz']
          exact this)

theorem bound_val {lo : Option Operand} {l' : Option XO} {k : IntKind} {m d : Int} (hl : optT P lo = some l') (hE : EnvR C w a env)
    (h : evOr env d l' = AV.dat (.int k m)) : (lo = none ∧ m = d) ∨ ∃ z, lo = some z ∧ a.eval z = .int k m := by
  cases lo with
  | none =>
    simp only [optT, Option.some.injEq] at hl; subst hl
    simp only [evOr, AV.dat.injEq, Dat.int.injEq] at h
    exact .inl ⟨rfl, h.2.symm⟩
  | some z =>
    simp only [optT, Option.map_eq_some_iff] at hl
    obtain ⟨z', hz, rfl⟩ := hl
    have Rz := operand_sound hz hE
    simp only [evOr] at h; rw [h] at Rz
    generalize hvz : a.eval z = vz at Rz
    cases Rz with | dat Rz => cases Rz; exact .inr ⟨z, rfl, hvz⟩

theorem run_slice_core {t el : TypeId} (hu : P.underlying t = some (.slice el)) (hsz : ∀ w : World, (sizeOf el).run P w = .ok (P.cellsOf el) w) (base : Option Addr) (len cap : Nat) (lo hi : Option Operand)
    {k1 k2 : IntKind} {m n : Int} (hlo : (lo = none ∧ m = 0) ∨ ∃ z, lo = some z ∧ a.eval z = .int k1 m) (hhi : (hi = none ∧ n = (len : Int)) ∨ ∃ z, hi = some z ∧ a.eval z = .int k2 n)
    (h1 : 0 ≤ m) (h2 : m ≤ n) (h3 : n ≤ (cap : Int)) :
    (Instr.sliceAt t (.slice base len cap) (lo.map a.eval) (hi.map a.eval) none).run P w = .ok (sliced base m.toNat n.toNat cap (P.cellsOf el)) w := by
  have he : P.elem t = el := by simp [Program.elem, hu]
  have ht : P.underlying t = some (.slice (P.elem t)) := by rw [he, hu]
  rw [run_sliceAt_slice w t _ _ _ _ ht]
  have hs := hsz w
  rw [← he] at hs
  rcases hlo with ⟨rfl, rfl⟩ | ⟨z, rfl, hz⟩ <;> rcases hhi with ⟨rfl, rfl⟩ | ⟨y, rfl, hy⟩
  · simp only [Option.map_none]
    rw [run_slice_all w t base len cap ht, hs, he]; simp
  · simp only [Option.map_none, Option.map_some, hy]
    rw [run_slice_h w t base len cap ht k2 n (by omega) h3, hs, he]; simp
  · simp only [Option.map_none, Option.map_some, hz]
    rw [run_slice_l w t base len cap ht k1 m h1 h2, hs, he]; simp
  · simp only [Option.map_some, hz, hy]
    rw [run_slice_lh w t base len cap ht k1 k2 m n h1 h2 h3, hs, he]; simp

theorem slice_sound {t : TypeId} {x : Operand} {lo hi : Option Operand} (hop : o.op = .slice t x lo hi none) (ht : opT P o = some xo) (he : evalOp cf env H xo = some (av, H')) (hE : EnvR C w a env) (hH : RH C w Hp)
    (hT : ∀ id ∈ (touched env H xo).1, Hp id = H[id]?) : H' = H ∧ PureOk P C w a o av := by
  simp only [opT, hop] at ht
  split at ht <;> first | (cases ht; done) | skip
  rename_i el hu
  simp only [Option.bind_eq_bind] at ht
  split at ht <;> first | (cases ht; done) | skip
  rename_i hel
  simp only [Option.bind_eq_some_iff, Option.some.injEq] at ht
  obtain ⟨x', hx, l', hl, h', hh, rfl⟩ := ht
  have R := operand_sound hx hE
  generalize hv : a.eval x = v at R
  obtain ⟨inf, hinf⟩ := Option.isSome_iff_exists.1 hel
  have hsz : ∀ w : World, (sizeOf el).run P w = .ok (P.cellsOf el) w := fun w => run_sizeOf w hinf
  simp only [evalOp] at he
  split at he <;> first | (cases he; done) | skip
  rename_i k1 m k2 n el1 eh1
  split at he <;> first | (cases he; done) | skip
  rename_i hb
  obtain ⟨hb1, hb2, hb3⟩ := hb
  have hlo := bound_val hl hE el1
  have hhi := bound_val hh hE eh1
  split at he <;> first | (cases he; done) | skip
  · rename_i sz' fl xs ex
    rw [ex] at R hb3 hhi
    simp only [slLen] at hb3 hhi
    split at he <;> first | (cases he; done) | skip
    rename_i hsz'
    simp only [Option.some.injEq, Prod.mk.injEq] at he; obtain ⟨rfl, rfl⟩ := he
    refine ⟨rfl, ?_⟩
    cases R with
    | dat R =>
      cases R with
      | sl0 base cap _ _ hbn =>
        have hr := run_slice_core (w := w) (a := a) hu hsz base 0 cap lo hi hlo hhi hb1 hb2 (by simp at hb3; omega)
        simp only [List.length_nil] at hb3
        refine ⟨_, by simp only [execOp, hop, hv, Option.map_none, Sem.run_bind, hr]; rfl, ?_⟩
        simp only [List.take_nil, List.drop_nil, sliced]
        rw [show n.toNat - m.toNat = 0 by omega]
        refine .dat (.sl0 _ _ _ _ (fun h => ?_))
        have : base = none := by
          split at h
          · exact h
          · cases base <;> simp at h ⊢
        have := hbn this; omega
      | sl ad cap _ _ _ vs hne hF hcap hs hfl hv' hd' =>
        have hr := run_slice_core (w := w) (a := a) hu hsz (some ad) xs.length cap lo hi hlo hhi hb1 hb2 (by omega)
        refine ⟨_, by simp only [execOp, hop, hv, Option.map_none, Sem.run_bind, hr]; rfl, ?_⟩
        simp only [sliced]
        by_cases hmn : m.toNat = n.toNat
        · rw [hmn, Nat.sub_self, List.drop_take, Nat.sub_self, List.take_zero]
          refine .dat (.sl0 _ _ _ _ (fun h => ?_))
          split at h <;> simp at h
        · rw [if_neg (by omega)]
          have hlen : ((xs.take n.toNat).drop m.toNat).length = n.toNat - m.toNat := by simp; omega
          have hfl2 : flatten ((xs.take n.toNat).drop m.toNat) = ((flatten xs).take (n.toNat * sz')).drop (m.toNat * sz') := by
            rw [flatten_drop (sz := sz') _ (fun x hx => hs x (List.mem_of_mem_take hx)), flatten_take _ hs]
          have hget : ∀ (k : Nat) (d : Dat), (flatten ((xs.take n.toNat).drop m.toNat))[k]? = some d → (flatten xs)[m.toNat * sz' + k]? = some d := by
            intro k d hk
            rw [hfl2, List.getElem?_drop, List.getElem?_take] at hk
            split at hk
            · exact hk
            · cases hk
          have hsub : ∀ x ∈ (xs.take n.toNat).drop m.toNat, x ∈ xs := fun x hx => List.mem_of_mem_take (List.mem_of_mem_drop hx)
          have := RD.sl (Fz := C.Fz) (w := w) (ad.add (m.toNat * sz')) (cap - m.toNat) sz' fl ((xs.take n.toNat).drop m.toNat) (fun k => vs (m.toNat * sz' + k))
            (fun e => by rw [e] at hlen; simp at hlen; omega) (by rw [add_block]; exact hF) (by omega) (fun x hx => hs x (hsub x hx)) (fun h x hx => hfl h x (hsub x hx))
            (fun k d hk => by rw [add_add]; exact hv' _ d (hget k d hk)) (fun k d hk => hd' _ d (hget k d hk))
          rw [hlen] at this
          rw [← hsz']
          exact .dat this
  · rename_i id off len ex
    rw [ex] at R hb3 hhi
    simp only [slLen] at hb3 hhi
    split at he <;> first | (cases he; done) | skip
    rename_i e' sz' fl fz xs hb
    split at he
    rotate_left
    · split at he <;> first | (cases he; done) | skip
      rename_i hge hsz'
      have hlt : ¬ m < (len : Int) := fun h => hge ⟨hsz', h⟩
      simp only [Option.some.injEq, Prod.mk.injEq] at he; obtain ⟨rfl, rfl⟩ := he
      refine ⟨rfl, ?_⟩
      have hmn : m.toNat = n.toNat := by omega
      cases R with
      | own _ _ _ g cap hD h hl =>
        have hr := run_slice_core (w := w) (a := a) hu hsz (some ⟨g, off * C.sz id, none⟩) len (cap - off) lo hi hlo hhi hb1 hb2 (by omega)
        refine ⟨_, by simp only [execOp, hop, hv, Option.map_none, Sem.run_bind, hr]; rfl, ?_⟩
        simp only [sliced]
        rw [hmn, Nat.sub_self]
        refine .dat (.sl0 _ _ _ _ (fun h => ?_))
        split at h <;> simp at h
      | own0 base _ hD h =>
        have hr := run_slice_core (w := w) (a := a) hu hsz base 0 0 lo hi hlo hhi hb1 hb2 (by omega)
        refine ⟨_, by simp only [execOp, hop, hv, Option.map_none, Sem.run_bind, hr]; rfl, ?_⟩
        simp only [sliced]
        rw [hmn, Nat.sub_self]
        refine .dat (.sl0 _ _ _ _ (fun _ => by simp))
    rename_i hlt
    obtain ⟨hsz', hlt⟩ := hlt
    simp only [Option.some.injEq, Prod.mk.injEq] at he; obtain ⟨rfl, rfl⟩ := he
    have hp := hT id (by simp [touched, ex, AV.refs])
    rw [hb] at hp
    have hB := hH.blk id _ hp
    have hzz : C.sz id = sz' := by cases hB <;> assumption
    refine ⟨rfl, ?_⟩
    cases R with
    | own _ _ _ g cap hD h hl =>
      have hr := run_slice_core (w := w) (a := a) hu hsz (some ⟨g, off * C.sz id, none⟩) len (cap - off) lo hi hlo hhi hb1 hb2 (by omega)
      refine ⟨_, by simp only [execOp, hop, hv, Option.map_none, Sem.run_bind, hr]; rfl, ?_⟩
      simp only [sliced]
      rw [if_neg (by omega), Option.map_some, mk_add, ← hsz', ← hzz, ← Nat.add_mul, Nat.sub_sub]
      exact .own id (off + m.toNat) (n.toNat - m.toNat) g cap hD h (by omega)
    | own0 => omega


theorem sidx_sound {t : TypeId} {x i : Operand} (hop : o.op = .index t x i) {x' i' : XO} (hxo : xo = .sidx x' i') (ht : opT P o = some xo) (he : evalOp cf env H xo = some (av, H')) (hE : EnvR C w a env) : H' = H ∧ PureOk P C w a o av := by
  subst hxo
  simp only [opT, hop] at ht
  split at ht <;> first | (cases ht; done) | skip
  · simp only [Option.bind_eq_bind, Option.bind_eq_some_iff, Option.some.injEq] at ht
    obtain ⟨_, _, _, _, _, _, h⟩ := ht; cases h
  rename_i hu
  simp only [Option.bind_eq_bind, Option.bind_eq_some_iff, Option.some.injEq, XOp.sidx.injEq] at ht
  obtain ⟨x2, hx, i2, hi, rfl, rfl⟩ := ht
  have R := operand_sound hx hE
  have Ri := operand_sound hi hE
  generalize hv : a.eval x = v at R
  generalize hvi : a.eval i = vi at Ri
  simp only [evalOp] at he
  split at he <;> first | (cases he; done) | skip
  rename_i s k m e1 e2
  rw [e1] at R; rw [e2] at Ri
  split at he <;> first | (cases he; done) | skip
  rename_i hm
  split at he <;> first | (cases he; done) | skip
  rename_i b hb
  simp only [Option.some.injEq, Prod.mk.injEq] at he; obtain ⟨rfl, rfl⟩ := he
  cases R with
  | dat R => cases R with
    | str =>
      cases Ri with
      | dat Ri => cases Ri with
        | int =>
          have hb' : s[m.toNat]? = some b := by
            have h1 : s.data[m.toNat]? = some b := by simpa using hb
            obtain ⟨hl, hg⟩ := Array.getElem?_eq_some_iff.1 h1
            have hl' : m.toNat < s.size := hl
            rw [getElem?_pos s m.toNat hl']
            exact congrArg some hg
          exact ⟨rfl, .int .u8 b.toNat, by simp [execOp, hop, hv, hvi, Instr.index, asIntOf, run_underlying hu, hm, hb'], .dat (.int _ _)⟩

theorem idx_sound {t : TypeId} {x i : Operand} (hop : o.op = .index t x i) (hne : ∀ x' i', xo ≠ .sidx x' i') (ht : opT P o = some xo) (he : evalOp cf env H xo = some (av, H')) (hE : EnvR C w a env) : H' = H ∧ PureOk P C w a o av := by
  simp only [opT, hop] at ht
  split at ht <;> first | (cases ht; done) | skip
  rotate_left
  · simp only [Option.bind_eq_bind, Option.bind_eq_some_iff, Option.some.injEq] at ht
    obtain ⟨_, _, _, _, h⟩ := ht
    exact absurd h.symm (hne _ _)
  rename_i n el hu
  simp only [Option.bind_eq_bind, Option.bind_eq_some_iff, Option.some.injEq] at ht
  obtain ⟨ag, hag, x', hx, i', hi, rfl⟩ := ht
  have R := operand_sound hx hE
  have Ri := operand_sound hi hE
  generalize hv : a.eval x = v at R
  generalize hvi : a.eval i = vi at Ri
  simp only [evalOp] at he
  split at he <;> first | (cases he; done) | skip
  rename_i k m e; rw [e] at Ri
  split at he <;> first | (cases he; done) | skip
  rename_i hm
  obtain ⟨hm0, hm1⟩ := hm
  have hsz : (sizeOf el).run P w = .ok (P.cellsOf el) w := by
    obtain ⟨d, hd⟩ : ∃ d, P.underlying el = some d := by
      unfold aggOf at hag; cases hd : P.underlying el with
      | none => rw [hd] at hag; cases hag
      | some d => exact ⟨d, rfl⟩
    exact run_sizeOf' hd w
  cases Ri with | dat Ri => cases Ri; (
    split at he <;> first | (cases he; done) | skip
    · rename_i cs ex; rw [ex] at R
      split at he <;> first | (cases he; done) | skip
      rename_i y hy
      simp only [Option.some.injEq, Prod.mk.injEq] at he; obtain ⟨rfl, rfl⟩ := he
      cases R with
      | agg vs _ hn h =>
        have hRL : RL C w vs.toList cs := ⟨by simpa using hn, fun j u x hu hx => h j x u hx (by simpa using hu)⟩
        obtain ⟨u, h1, h2⟩ := part_sound hag hRL hy
        have h1' : (part el vs (m.toNat * P.cellsOf el)).run P w = .ok u w := by simpa using h1
        exact ⟨rfl, u, by simp [execOp, hop, hv, hvi, Instr.index, asIntOf, run_underlying hu, hm0, hm1, hsz, h1'], h2⟩
    · rename_i ds ex; rw [ex] at R
      split at he <;> first | (cases he; done) | skip
      rename_i y hy
      simp only [Option.some.injEq, Prod.mk.injEq] at he; obtain ⟨rfl, rfl⟩ := he
      cases R with
      | dat R => cases R with
        | agg vs _ hn h =>
          have hRL : RL C w vs.toList (ds.map .dat) := ⟨by simpa using hn, fun j u x hu hx => by
            simp only [List.getElem?_map, Option.map_eq_some_iff] at hx
            obtain ⟨d, hd, rfl⟩ := hx
            exact .dat (h j d u hd (by simpa using hu))⟩
          rw [List.map_drop] at hy
          obtain ⟨u, h1, h2⟩ := part_sound hag hRL hy
          have h1' : (part el vs (m.toNat * P.cellsOf el)).run P w = .ok u w := by simpa using h1
          exact ⟨rfl, u, by simp [execOp, hop, hv, hvi, Instr.index, asIntOf, run_underlying hu, hm0, hm1, hsz, h1'], h2⟩)

theorem mm_sound {c : Call} {b : Builtin} (hop : o.op = .call c) (hc : c.callee = .builtin b) (hb : b = .max ∨ b = .min) (ht : opT P o = some xo) (he : evalOp cf env H xo = some (av, H')) (hE : EnvR C w a env) : H' = H ∧ PureOk P C w a o av := by
  obtain ⟨callee, args, argTypes⟩ := c
  simp only at hc; subst hc
  have hx : ∃ x y x' y' mx, args = #[x, y] ∧ operandT P none x = some x' ∧ operandT P none y = some y' ∧ xo = .mm mx x' y' ∧ (mx = true ↔ b = .max) := by
    rcases hb with rfl | rfl <;> simp only [opT, hop] at ht <;> split at ht <;> first | (cases ht; done) | skip
    all_goals
      rename_i x y hargs
      simp only [Option.bind_eq_bind, Option.bind_eq_some_iff, Option.some.injEq] at ht
      obtain ⟨x', hx, y', hy, rfl⟩ := ht
      exact ⟨x, y, x', y', _, by rw [← Array.toArray_toList (xs := args), hargs], hx, hy, rfl, by simp⟩
  obtain ⟨x, y, x', y', mx, rfl, hx, hy, rfl, hmx⟩ := hx
  have Rx := operand_sound hx hE
  have Ry := operand_sound hy hE
  generalize hvx : a.eval x = vx at Rx
  generalize hvy : a.eval y = vy at Ry
  simp only [evalOp] at he
  split at he <;> first | (cases he; done) | skip
  rename_i k m k' n e1 e2
  rw [e1] at Rx; rw [e2] at Ry
  split at he <;> first | (cases he; done) | skip
  rename_i hk; subst hk
  simp only [Option.some.injEq, Prod.mk.injEq] at he; obtain ⟨rfl, rfl⟩ := he
  refine ⟨rfl, ?_⟩
  cases Rx with | dat Rx => cases Rx; cases Ry with | dat Ry => cases Ry; (
    refine ⟨_, ?_, .dat (.int _ _)⟩
    rcases hb with rfl | rfl
    · have : mx = true := hmx.2 rfl
      subst this
      simp [execOp, hop, resolve, invoke, builtin, Builtin.max_, Builtin.max2, hvx, hvy]
    · have : mx = false := by cases mx; · rfl
                              · exact absurd (hmx.1 rfl) (by simp)
      subst this
      simp [execOp, hop, resolve, invoke, builtin, Builtin.min_, Builtin.min2, hvx, hvy])

end Go.Ax
