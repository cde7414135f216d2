/-
  Ax, text 12: append.
-/
import Derived.Test.YtponcchkfmbicaaXMem3
import Derived.Maps.AppendAt
namespace Go.Ax
set_option linter.unusedSectionVars false
open Go.RowKit

variable [Gls]
variable {P : Program} {C C' : Ctx} {w w' : World} {a : Act} {env : Env} {H H' : List Blk} {cf : CallF} {av : AV} {o : Oper} {xo : XOp} {Hp : Nat → Option Blk} {wr : List Nat}

/-- What is appended. -/
structure Src (C : Ctx) (w : World) (vx : Value) (sz : Nat) (fl : Bool) (ys : List Dat) : Prop where
  shape : ∃ ax cx, vx = .slice ax ys.length cx ∧ (ys = [] → ax = none → cx = 0) ∧ (ys ≠ [] → ∃ (ad : Addr) (news : List Value), ax = some ad ∧ news.length = ys.length * sz ∧ (∀ (j : Nat) (u : Value), news[j]? = some u → w.cell? (ad.add j) = some u) ∧ (∀ u ∈ news, u.oneCell' = true) ∧
    ∀ (k : Nat) (d : Dat) (u : Value), (flatten ys)[k]? = some d → news[k]? = some u → RD C.Fz w u d)
  cells : ∀ y ∈ ys, y.cells.length = sz
  flat : fl = true → ∀ y ∈ ys, y.flat = true

theorem news_of {n : Nat} (f : Nat → Value) (P : Nat → Value → Prop) (h : ∀ k, k < n → P k (f k)) : ∀ (j : Nat) (u : Value), ((List.range n).map f)[j]? = some u → P j u := by
  intro j u hu
  simp only [List.getElem?_map, Option.map_eq_some_iff] at hu
  obtain ⟨k, hk, rfl⟩ := hu
  have hj : j < n := by have := (List.getElem?_eq_some_iff.1 hk).1; simpa using this
  rw [List.getElem?_range hj] at hk; injection hk with hk; subst hk
  exact h j hj

theorem src_sound (hH : RH C w Hp) {X : AV} {vx : Value} {sz : Nat} {fl : Bool} {ys : List Dat} (hs : slElems H X = some (sz, fl, ys)) (hv : RV C w vx X) (hT : ∀ id ∈ X.refs, Hp id = H[id]?) : Src C w vx sz fl ys := by
  unfold slElems at hs
  split at hs <;> first | (cases hs; done) | skip
  · rename_i sz' fl' xs
    simp only [Option.some.injEq, Prod.mk.injEq] at hs; obtain ⟨rfl, rfl, rfl⟩ := hs
    cases hv with
    | dat hv => cases hv with
      | sl0 ax cap _ _ hn => exact ⟨⟨ax, cap, rfl, fun _ h => hn h, fun h => (h rfl).elim⟩, fun y hy => (by cases hy), fun _ y hy => (by cases hy)⟩
      | sl ad cap _ _ _ vs hne hF hcap hsz hfl hv hd =>
        have hfl2 := flatten_length hsz
        refine ⟨⟨some ad, cap, rfl, fun h => (hne h).elim, fun _ => ⟨ad, (List.range (xs.length * sz')).map vs, rfl, by simp, ?_, ?_, ?_⟩⟩, hsz, hfl⟩
        · refine news_of vs (fun j u => w.cell? (ad.add j) = some u) (fun k hk => ?_)
          exact (hv k _ (List.getElem?_eq_getElem (by omega))).1
        · intro u hu
          obtain ⟨j, hj, rfl⟩ := List.mem_iff_getElem.1 hu
          have := news_of vs (fun j u => u.oneCell' = true) (fun k hk => (hv k _ (List.getElem?_eq_getElem (by omega))).2) j _ (List.getElem?_eq_getElem hj)
          exact this
        · intro k d u hk hu
          have := news_of (n := xs.length * sz') vs (fun j u => ∀ d, (flatten xs)[j]? = some d → RD C.Fz w u d) (fun k hk d hd' => hd k d hd') k u hu
          exact this d hk
  · rename_i e sz' fl'
    simp only [Option.some.injEq, Prod.mk.injEq] at hs; obtain ⟨rfl, rfl, rfl⟩ := hs
    cases hv
    exact ⟨⟨_, 0, rfl, fun _ _ => rfl, fun h => (h rfl).elim⟩, fun y hy => (by cases hy), fun _ y hy => (by cases hy)⟩
  · rename_i id off len
    split at hs <;> first | (cases hs; done) | skip
    rename_i e sz' fl' fz xs hb
    split at hs <;> first | (cases hs; done) | skip
    rename_i hle
    simp only [Option.some.injEq, Prod.mk.injEq] at hs; obtain ⟨rfl, rfl, rfl⟩ := hs
    have hp := (hT id (by simp [AV.refs])).trans hb
    have hB := hH.blk id _ hp
    have hlen : ((xs.drop off).take len).length = len := by rw [List.length_take, List.length_drop]; omega
    cases hv with
    | own0 _ _ hD hρ =>
      simp only [List.take_zero]
      exact ⟨⟨_, 0, rfl, fun _ _ => rfl, fun h => (h rfl).elim⟩, fun y hy => (by cases hy), fun _ y hy => (by cases hy)⟩
    | own _ _ _ g cap hD hρ hle' =>
      cases hB with
      | arr0 =>
        have h0 : off = 0 ∧ len = 0 := by simp at hle; exact hle
        obtain ⟨rfl, rfl⟩ := h0
        simp only [List.take_zero]
        exact ⟨⟨_, _, rfl, fun _ h => (by cases h), fun h => (h rfl).elim⟩, fun y hy => (by cases hy), fun _ y hy => (by cases hy)⟩
      | arr _ _ _ _ _ g' cap' c hρ' hz hz0 hbk hc hlx hcap hFz hsz hfl hcell =>
        rw [hρ] at hρ'; injection hρ' with e1 e2; subst e1; subst e2
        have hsub : ∀ x ∈ (xs.drop off).take len, x ∈ xs := fun x hx => List.mem_of_mem_drop (List.mem_of_mem_take hx)
        have hflat : flatten ((xs.drop off).take len) = ((flatten xs).drop (off * sz')).take (len * sz') := by
          rw [flatten_take (sz := sz') _ (fun x hx => hsz x (List.mem_of_mem_drop hx)), flatten_drop _ hsz]
        have hfl2 := flatten_length hsz
        have hmul : (off + len) * sz' ≤ xs.length * sz' := Nat.mul_le_mul_right _ hle
        rw [Nat.add_mul] at hmul
        have hcells : ∀ k, k < len * sz' → ∃ d u, (flatten xs)[off * sz' + k]? = some d ∧ c[off * sz' + k]? = some u ∧ RD C.Fz w u d ∧ u.oneCell' = true := fun k hk => by
          have hlt : off * sz' + k < (flatten xs).length := by omega
          obtain ⟨u, h1, h2, h3⟩ := hcell _ _ (List.getElem?_eq_getElem hlt)
          exact ⟨_, u, List.getElem?_eq_getElem hlt, h1, h2, h3⟩
        refine ⟨⟨_, _, by rw [hlen], fun _ h => (by cases h), fun _ => ⟨⟨g, off * C.sz id, none⟩, (List.range (len * sz')).map fun k => c.getD (off * sz' + k) undef, rfl, by simp [hlen], ?_, ?_, ?_⟩⟩, fun y hy => hsz y (hsub y hy), fun h y hy => hfl h y (hsub y hy)⟩
        · refine news_of _ (fun j u => w.cell? ((⟨g, off * C.sz id, none⟩ : Addr).add j) = some u) (fun k hk => ?_)
          obtain ⟨d, u, _, h2, _, _⟩ := hcells k hk
          rw [mk_add, hz, cell_of_row w g _ c _ (0, 0) hbk, arr_getD h2]; exact h2
        · intro u hu
          obtain ⟨j, hj, rfl⟩ := List.mem_iff_getElem.1 hu
          refine news_of _ (fun j u => u.oneCell' = true) (fun k hk => ?_) j _ (List.getElem?_eq_getElem hj)
          obtain ⟨d, u, _, h2, _, h4⟩ := hcells k hk
          simp only [arr_getD h2]; exact h4
        · intro k d u hk hu
          have hklt : k < len * sz' := by have := (List.getElem?_eq_some_iff.1 hu).1; simpa using this
          have := news_of _ (fun j u => ∀ d, (flatten xs)[off * sz' + j]? = some d → RD C.Fz w u d) (fun k hk d' hd' => ?_) k u hu
          · refine this d ?_
            rw [hflat, List.getElem?_take, if_pos hklt, List.getElem?_drop] at hk
            exact hk
          · obtain ⟨d2, u2, h1, h2, h3, _⟩ := hcells k hk
            rw [h1] at hd'; injection hd' with hd'; subst hd'
            simp only [arr_getD h2]; exact h3


/-- Where a value lies that owns a row. -/
def locOf : Value → Loc
  | .slice (some ad) _ cap => .arr ad.block cap
  | _ => .none

theorem owns_RB {id e sz N : Nat} {fl : Bool} {zs : List Dat} {v : Value} {ws : List Value} (hO : w.ownsRow 0 e sz v N ws) (hN : zs.length = N) (hz0 : 0 < sz) (hρ : C.ρ id = locOf v) (hsz : C.sz id = sz) (hD : C.D id)
    (hs : ∀ x ∈ zs, x.cells.length = sz) (hfl : fl = true → ∀ x ∈ zs, x.flat = true) (hw : ∀ (k : Nat) (d : Dat) (u : Value), (flatten zs)[k]? = some d → ws[k]? = some u → RD C.Fz w u d ∧ u.oneCell' = true)
    (hF : ∀ g, v.ownBlock = some g → ¬ C.Fz g) : RB C w id (.arr e sz fl false zs) ∧ RV C w v (.own id 0 N) := by
  obtain ⟨hl, h⟩ := hO
  rcases h with ⟨rfl, h0⟩ | ⟨g, cap, cur, rfl, _, hg, hn, hcap, hc, htake⟩
  · have : zs = [] := List.eq_nil_of_length_eq_zero (by omega)
    subst this; subst h0
    exact ⟨.arr0 e sz fl false hρ hsz hz0, .own0 _ id hD hρ⟩
  · have hfz : (flatten zs).length = N * sz := by rw [flatten_length hs, hN]
    refine ⟨.arr e sz fl false zs g cap cur hρ hsz hz0 hg hc (by omega) hcap ⟨fun h => (hF g rfl h).elim, fun h => by cases h⟩ hs hfl (fun k d hk => ?_), ?_⟩
    · have hkl : k < N * sz := by rw [← hfz]; exact (List.getElem?_eq_some_iff.1 hk).1
      have hwl : k < ws.length := by omega
      obtain ⟨u0, hu⟩ : ∃ u0, ws[k]? = some u0 := ⟨_, List.getElem?_eq_getElem hwl⟩
      refine ⟨u0, ?_, hw k d _ hk hu⟩
      rw [← htake, List.getElem?_take, if_pos hkl] at hu
      simpa using hu
    · have := RV.own (C := C) (w := w) id 0 N g cap hD hρ (by omega)
      simpa using this

open Classical in
noncomputable def ctxApp (C : Ctx) (n : Nat) (l : Loc) (sz : Nat) : Ctx := { C with ρ := fun i => if i = n then l else C.ρ i, sz := fun i => if i = n then sz else C.sz i, D := fun i => C.D i ∨ i = n }

theorem ctxApp_keeps {n : Nat} {l : Loc} {sz : Nat} (hN : ¬ C.D n) (hs : ∀ k, C.Fz k → w'.heap[k]? = w.heap[k]?) : Keeps C (ctxApp C n l sz) w w' :=
  ⟨fun _ h => h, hs, fun _ h => .inl h, fun i hi => if_neg (fun e => hN (by rw [← e]; exact hi)), fun i hi => if_neg (fun e => hN (by rw [← e]; exact hi))⟩

/-- An append onto nothing: a new array (or none). -/
theorem Local.app0 (hH : RH C w Hp) {b : Blk} {l : Loc} {sz : Nat} (hN : ¬ C.D H.length) (hg : w.grownBy w' none) (hblk : RB (ctxApp C H.length l sz) w' H.length b) (hl : ∀ k, Lies b l k → w.heap.size ≤ k) :
    Local C (ctxApp C H.length l sz) w w' H (H ++ [b]) Hp [] := by
  have hs : ∀ k, k < w.heap.size → w'.heap[k]? = w.heap[k]? := fun k hk => hg.block k hk (by simp)
  have hK : Keeps C (ctxApp C H.length l sz) w w' := ctxApp_keeps hN (fun k hk => hs k (hH.lt k hk))
  have := Local.ext (C' := ctxApp C H.length l sz) (w' := w') (H := H) hH [] [b] (fun _ => False) (fun i hi => by cases hi) (fun i hi => by cases hi) hK.rho hK.siz (fun i => ?_) (fun k => ?_) hg.os hg.tape hg.output hg.size hs (fun _ h => h.elim)
    (fun j b' hb => ?_) (fun j b' k hb hk => ?_) (fun i j b1 b2 k hi hj _ _ => ?_)
  · rwa [freeze_nil] at this
  · simp only [ctxApp, List.length_cons, List.length_nil]
    constructor
    · rintro (h | h)
      · exact .inl h
      · exact .inr ⟨by omega, by omega⟩
    · rintro (h | h)
      · exact .inl h
      · exact .inr (by omega)
  · simp only [ctxApp]
    constructor
    · exact fun h => .inl h
    · rintro (h | ⟨i, hi, _⟩ | h)
      · exact h
      · cases hi
      · exact h.2.elim
  · cases j with
    | zero => simp only [List.getElem?_cons_zero, Option.some.injEq] at hb; subst hb; exact hblk
    | succ j => simp at hb
  · cases j with
    | zero =>
      simp only [List.getElem?_cons_zero, Option.some.injEq] at hb; subst hb
      refine hl k ?_
      simpa [ctxApp] using hk
    | succ j => simp at hb
  · cases i with
    | zero => cases j with
      | zero => rfl
      | succ j => simp at hj
    | succ i => simp at hi

/-- An append onto an own array: it goes under a new number. -/
theorem Local.app1 (hH : RH C w Hp) {id : Nat} {b0 b : Blk} {l : Loc} {sz : Nat} {row : Option Nat} (hid : H[id]? = some b0) (hpid : Hp id = H[id]?) (hN : ¬ C.D H.length) (hg : w.grownBy w' row)
    (hrow : ∀ k, row = some k → Writes b0 (C.ρ id) k) (hblk : RB (ctxApp C H.length l sz) w' H.length b) (hl : ∀ k, Lies b l k → w.heap.size ≤ k ∨ Lies b0 (C.ρ id) k) :
    Local C (ctxApp C H.length l sz) w w' H (H.set id .dead ++ [b]) Hp [id] := by
  have hidlt : id < H.length := (List.getElem?_eq_some_iff.1 hid).1
  have hB0 := hH.blk id b0 (hpid.trans hid)
  have hwF : ∀ k, Writes b0 (C.ρ id) k → ¬ C.Fz k := fun k hw hF => by
    cases hB0 with
    | box cs b c t hρ hb hn hF' h h1 => rw [hρ] at hw; simp only [Writes] at hw; subst hw; exact hF' hF
    | arr0 e sz fl fz hρ => rw [hρ] at hw; exact hw
    | arr e sz fl fz xs g' cap c hρ hz hz0 hbk hc hl hcap hF' => rw [hρ] at hw; simp only [Writes] at hw; obtain ⟨h1, rfl⟩ := hw; rw [hF'.1 hF] at h1; cases h1
    | mp l b es ck hρ hb hF' => rw [hρ] at hw; simp only [Writes] at hw; subst hw; exact hF' hF
    | dead => exact hw
  have hK : Keeps C (ctxApp C H.length l sz) w w' := ctxApp_keeps hN (fun k hk => hg.block k (hH.lt k hk) (fun e => hwF k (hrow k e.symm) hk))
  have hlen : (H.set id .dead ++ [b]).length = H.length + 1 := by simp
  have getid : (H.set id .dead ++ [b])[id]? = some .dead := by
    rw [List.getElem?_append_left (by simpa using hidlt), List.getElem?_set_self hidlt]
  have getnew : (H.set id .dead ++ [b])[H.length]? = some b := by
    rw [List.getElem?_append_right (by simp)]; simp
  have tch : ∀ i, Tch H (H.set id .dead ++ [b]) [id] i → i = id ∨ i = H.length := fun i hi => by
    rcases hi with hi | hi
    · exact .inl (by simpa using hi)
    · rw [hlen] at hi; exact .inr (by omega)
  refine ⟨hK, hg.os, hg.tape, hg.output, hg.size, by omega, fun i hi hn => ?_, fun k hk => ?_, fun k f => .inl f, fun k f => ?_, fun i hi => ?_, fun i => ?_, fun i b' ht hb => ?_, fun i b' k ht hb hk => ?_, fun i j b1 b2 k hi hj hb1 hb2 hl1 hl2 => ?_⟩
  · have : i ≠ id := fun e => hn (by simp [e])
    rw [List.getElem?_append_left (by simpa using hi), List.getElem?_set_ne (Ne.symm this)]
  · by_cases e : some k = row
    · exact .inr ⟨id, by simp, b0, hpid.trans hid, hrow k e.symm⟩
    · exact .inl (hg.block k hk e)
  · have := hH.lt k f; have := hg.size; omega
  · have : i = id := by simpa using hi
    subst this; exact hH.dom _ _ (hpid.trans hid)
  · rw [hlen]
    simp only [ctxApp]
    constructor
    · rintro (h | h)
      · exact .inl h
      · exact .inr (by omega)
    · rintro (h | h)
      · exact .inl h
      · exact .inr (by omega)
  · rcases tch i ht with rfl | rfl
    · rw [getid] at hb; injection hb with hb; subst hb; exact .dead
    · rw [getnew] at hb; injection hb with hb; subst hb; exact hblk
  · rcases tch i ht with rfl | rfl
    · rw [getid] at hb; injection hb with hb; subst hb
      exact hk.elim
    · rw [getnew] at hb; injection hb with hb; subst hb
      have hk' : Lies b l k := by simpa [ctxApp] using hk
      rcases hl k hk' with h | h
      · exact .inl h
      · exact .inr ⟨id, by simp, b0, hpid.trans hid, h⟩
  · rcases tch i hi with rfl | rfl
    · rw [getid] at hb1; injection hb1 with hb1; subst hb1; exact hl1.elim
    · rcases tch j hj with rfl | rfl
      · rw [getid] at hb2; injection hb2 with hb2; subst hb2; exact hl2.elim
      · rfl

theorem LIM_eq : LIM = 4294967296 := rfl

theorem app_sound {c : Call} (hop : o.op = .call c) (hc : c.callee = .builtin .append) (ht : opT P o = some xo) (he : evalOp cf env H xo = some (av, H')) (hE : EnvR C w a env) (hH : RH C w Hp) (hN : ¬ C.D H.length)
    (hT : ∀ id ∈ (touched env H xo).1, Hp id = H[id]?) : MemOk P C w a o Hp H H' (touched env H xo).2 av := by
  obtain ⟨callee, args, argTypes⟩ := c
  simp only at hc; subst hc
  simp only [opT, hop] at ht
  split at ht <;> first | (cases ht; done) | skip
  rename_i t htt
  split at ht <;> first | (cases ht; done) | skip
  rename_i el hu
  split at ht <;> first | (cases ht; done) | skip
  rename_i x y z hargs hz
  split at ht <;> first | (cases ht; done) | skip
  rename_i hcond
  obtain ⟨htypes, hz0, hbytes, hzl⟩ := hcond
  simp only [Option.bind_eq_bind, Option.bind_eq_some_iff, Option.some.injEq] at ht
  obtain ⟨x', hx, y', hy, rfl⟩ := ht
  have hargs' : args = #[x, y] := by rw [← Array.toArray_toList (xs := args), hargs]
  have htypes' : argTypes = #[t, t] := by rw [← Array.toArray_toList (xs := argTypes), htypes]
  subst hargs'; subst htypes'
  have Rx := operand_sound hx hE
  have Ry := operand_sound hy hE
  generalize hvx : a.eval x = vx at Rx
  generalize hvy : a.eval y = vy at Ry
  obtain ⟨i, zv, hi, hzv, hRz, h1z⟩ := zeroC_sound (C := C) (w := w) hz
  have hisz : i.size = P.cellsOf el := by simp [Program.cellsOf, hi]
  have hiby : i.bytes = P.bytesOf el := by simp [Program.bytesOf, hi]
  have hzs : zv.cells.size = P.cellsOf el := by
    have := hRz.1; simp only [Array.length_toList] at this; omega
  simp only [touched] at hT ⊢
  simp only [evalOp, appendTo] at he
  generalize hX : x'.ev env = X at *
  generalize hY : y'.ev env = Y at *
  split at he <;> first | (cases he; done) | skip
  rename_i sz' fl' ys hsl
  split at he <;> first | (cases he; done) | skip
  rename_i hsz'
  subst hsz'
  have hS := src_sound hH hsl Ry (fun id hid => hT id (by simp [hid]))
  obtain ⟨⟨ax, cx, hvy', hnone, hsome⟩, hycells, hyflat⟩ := hS
  have hrunOf : ∀ v' w', (Builtin.append_ #[t, t] o.type #[vx, vy]).run P w = .ok v' w' → Runs P o a w v' w' := fun v' w' h => .inl (by
    simp only [execOp, hop, resolve, invoke, builtin, Sem.run_bind, Sem.run_pure, Result.andThen_ok, List.map_toArray, List.map_cons, List.map_nil, hvx, hvy, h])
  -- the law of append, in one form
  have law : ∀ (n : Nat) (ws : List Value), w.ownsRow 0 el (P.cellsOf el) vx n ws → n + ys.length ≤ LIM → ∃ v' w' news, (Builtin.append_ #[t, t] o.type #[vx, vy]).run P w = .ok v' w' ∧ w'.ownsRow 0 el (P.cellsOf el) v' (n + ys.length) (ws ++ news) ∧
      w.grownBy w' vx.ownBlock ∧ (v'.ownBlock = vx.ownBlock ∨ v'.ownBlock = some w.heap.size) ∧ news.length = ys.length * P.cellsOf el ∧ ∀ (k : Nat) (d : Dat) (u : Value), (flatten ys)[k]? = some d → news[k]? = some u → RD C.Fz w u d ∧ u.oneCell' = true := by
    intro n ws hO hlim
    rw [LIM_eq] at hlim
    have hb' : (n + ys.length) * P.bytesOf el ≤ 140737488355328 := by
      have : (n + ys.length) * P.bytesOf el ≤ 4294967296 * 8192 := Nat.mul_le_mul hlim hbytes
      omega
    by_cases hys : ys = []
    · subst hys
      cases ax with
      | none =>
        have hcx := hnone rfl rfl
        subst hcx
        have hr := run_append_owned_none (P := P) w 0 t o.type el i (P.cellsOf el) hu hi vx n ws hO
        refine ⟨vx, w, [], by rw [hvy']; exact hr, by simpa using hO, ⟨rfl, rfl, rfl, Nat.le_refl _, fun _ _ _ => rfl⟩, .inl rfl, by simp, fun k d u h => (by simp [flatten] at h)⟩
      | some ad =>
        obtain ⟨v', w', hr, h2, h3, _, h5⟩ := run_append_own_at (P := P) w 0 t o.type el i zv (P.cellsOf el) (P.bytesOf el) hu hi hzv hisz hiby hzs hz0 vx n ws hO ad 0 cx [] (by simp) (fun j u h => by simp at h) (fun u h => by cases h)
          (by rw [maxLen_eq]; simp at hlim; omega) (by simpa using hb') (Nat.zero_le _)
        exact ⟨v', w', [], by rw [hvy']; exact hr, by simpa using h2, h3, h5, by simp, fun k d u h => (by simp [flatten] at h)⟩
    · obtain ⟨ad, news, rfl, hnl, hnc, hn1, hnr⟩ := hsome hys
      obtain ⟨v', w', hr, h2, h3, _, h5⟩ := run_append_own_at (P := P) w 0 t o.type el i zv (P.cellsOf el) (P.bytesOf el) hu hi hzv hisz hiby hzs hz0 vx n ws hO ad ys.length cx news hnl hnc hn1
        (by rw [maxLen_eq]; omega) hb' (Nat.zero_le _)
      exact ⟨v', w', news, by rw [hvy']; exact hr, h2, h3, h5, hnl, fun k d u hk hu => ⟨hnr k d u hk hu, hn1 u (List.mem_of_getElem? hu)⟩⟩
  -- onto a slice that has no room at all
  have law0 : ∀ (ad0 : Addr), vx = .slice (some ad0) 0 0 → ys.length ≤ LIM → (ys = [] ∧ (Builtin.append_ #[t, t] o.type #[vx, vy]).run P w = .ok vx w) ∨ ∃ v' w' news, (Builtin.append_ #[t, t] o.type #[vx, vy]).run P w = .ok v' w' ∧ w'.ownsRow 0 el (P.cellsOf el) v' (0 + ys.length) news ∧
      w.grownBy w' none ∧ (∀ g, v'.ownBlock = some g → g = w.heap.size) ∧ ∀ (k : Nat) (d : Dat) (u : Value), (flatten ys)[k]? = some d → news[k]? = some u → RD C.Fz w u d ∧ u.oneCell' = true := by
    intro ad0 hvx0 hlim
    rw [LIM_eq] at hlim
    by_cases hys : ys = []
    · subst hys
      refine .inl ⟨rfl, ?_⟩
      have hf : ∀ c, (Builtin.firstCells i.size 0 (.slice ax 0 c)).run P w = .ok #[] w := fun c => by cases ax <;> simp [Builtin.firstCells, loadCells, loadCellsFrom]
      rw [hvx0, hvy']
      simp [Builtin.append_, run_underlying hu, sizeOf, typeInfo, hi, Builtin.lenOf, hf, storeCells]
    · have hb' : (0 + ys.length) * P.bytesOf el ≤ 140737488355328 := by
        have : (0 + ys.length) * P.bytesOf el ≤ 4294967296 * 8192 := Nat.mul_le_mul (by omega) hbytes
        omega
      have hpos : 0 < ys.length := List.length_pos_iff.2 hys
      obtain ⟨ad, news, hax, hnl, hnc, hn1, hnr⟩ := hsome hys
      have hr := run_append_grow (P := P) w t o.type el i zv hu hi hzv ad0 0 0 [] (by simp) (by intro _ _ h'; simp at h') ad ys.length cx news (by rw [hisz]; exact hnl) hnc (by omega) (by omega)
        (growslice_fits (by omega) (by rw [hiby]; exact hb'))
      have hge := grownCap_ge w (0 + ys.length) 0 el
      have hcm : grownCap w (0 + ys.length) 0 el ≤ maxLen := grownCap_le_maxLen w (0 + ys.length) 0 el (by rw [maxLen_eq]; omega)
      refine .inr ⟨_, _, news, by rw [hvx0, hvy', hax]; exact hr, ⟨by rw [hnl, Nat.zero_add], .inr ⟨w.heap.size, _, _, rfl, Nat.zero_le _, heap_alloc_new w.drew _, hge, hcm, ?_, ?_⟩⟩, ⟨rfl, rfl, rfl, by simp, fun k hk _ => heap_alloc_old w.drew _ k hk⟩,
        fun g hg => by simp only [Value.ownBlock, Option.some.injEq] at hg; exact hg.symm, fun k d u hk hu => ⟨hnr k d u hk hu, hn1 u (List.mem_of_getElem? hu)⟩⟩
      · simp only [Array.size_append, List.size_toArray, List.length_nil, size_zeroCells, hzs, hnl]
        rw [Nat.zero_add, ← Nat.add_mul]
        congr 1
        omega
      · simp only [Array.toList_append, List.nil_append]
        rw [Nat.zero_add, ← hnl]
        exact List.take_left
  split at he <;> first | (cases he; done) | skip
  · rename_i e0 s0 f0
    split at he <;> first | (cases he; done) | skip
    rename_i hlim
    simp only [Option.some.injEq, Prod.mk.injEq] at he; obtain ⟨rfl, rfl⟩ := he
    cases Rx
    rename_i base
    have done : (∃ ad0, base = some ad0 ∧ ys = [] ∧ (Builtin.append_ #[t, t] o.type #[Value.slice base 0 0, vy]).run P w = .ok (Value.slice base 0 0) w) ∨ ∃ v' w' news, (Builtin.append_ #[t, t] o.type #[Value.slice base 0 0, vy]).run P w = .ok v' w' ∧ w'.ownsRow 0 el (P.cellsOf el) v' (0 + ys.length) news ∧
        w.grownBy w' none ∧ (∀ g, v'.ownBlock = some g → g = w.heap.size) ∧ ∀ (k : Nat) (d : Dat) (u : Value), (flatten ys)[k]? = some d → news[k]? = some u → RD C.Fz w u d ∧ u.oneCell' = true := by
      cases base with
      | none =>
        obtain ⟨v', w', news, hr, hO, hg, hob, hnl, hnr⟩ := law 0 [] (World.ownsRow_nil w 0 el _) (by omega)
        refine .inr ⟨v', w', news, hr, by simpa using hO, hg, fun g hg => ?_, hnr⟩
        rcases hob with h | h
        · rw [hg] at h; cases h
        · rw [hg] at h; injection h
      | some ad0 =>
        rcases law0 ad0 rfl (by omega) with ⟨h1, h2⟩ | h
        · exact .inl ⟨ad0, rfl, h1, h2⟩
        · exact .inr h
    rcases done with ⟨ad0, rfl, rfl, hr⟩ | ⟨v', w', news, hr, hO, hgn, hobk, hnr⟩
    · have hB : RB (ctxApp C H.length .none (P.cellsOf el)) w H.length (.arr el (P.cellsOf el) fl' false []) := .arr0 el (P.cellsOf el) fl' false (by simp [ctxApp]) (by simp [ctxApp]) hz0
      exact ⟨_, w, ctxApp C H.length .none (P.cellsOf el), hrunOf _ _ hr, .own0 _ _ (.inr rfl) (by simp [ctxApp]), Local.app0 hH hN ⟨rfl, rfl, rfl, Nat.le_refl _, fun _ _ _ => rfl⟩ hB (fun k hk => hk.elim)⟩
    have hs : ∀ k, k < w.heap.size → w'.heap[k]? = w.heap[k]? := fun k hk => hgn.block k hk (by simp)
    have hK : Keeps C (ctxApp C H.length (locOf v') (P.cellsOf el)) w w' := ctxApp_keeps hN (fun k hk => hs k (hH.lt k hk))
    simp only [Nat.zero_add] at hO
    obtain ⟨hB, hV⟩ := owns_RB (C := ctxApp C H.length (locOf v') (P.cellsOf el)) (id := H.length) (fl := fl') hO rfl hz0 (by simp [ctxApp]) (by simp [ctxApp]) (.inr rfl) hycells hyflat
      (fun k d u hk hu => let ⟨h1, h2⟩ := hnr k d u hk hu; ⟨h1.keeps hK.fz hK.blk, h2⟩) (fun g hg hf => by
        have h1 : C.Fz g := hf
        have := hH.lt g h1; have := hobk g hg; omega)
    refine ⟨v', w', _, hrunOf v' w' hr, hV, Local.app0 hH hN hgn hB (fun k hk => ?_)⟩
    rcases hO.2 with ⟨rfl, _⟩ | ⟨g, cap, cur, rfl, _⟩
    · exact hk.elim
    · have : k = g := hk
      have := hobk g rfl
      omega
  · rename_i id len
    split at he <;> first | (cases he; done) | skip
    rename_i e0 sz0 fl0 xs hb
    split at he <;> first | (cases he; done) | skip
    rename_i hc2
    obtain ⟨rfl, rfl, hlen, hlim, hnc⟩ := hc2
    simp only [Option.some.injEq, Prod.mk.injEq] at he; obtain ⟨rfl, rfl⟩ := he
    have hp := hT id (by simp [AV.refs])
    have hBid := hH.blk id _ (hp.trans hb)
    -- an own slice that has no room at all
    by_cases hx0 : ∃ ad0, vx = .slice (some ad0) 0 0 ∧ xs = [] ∧ C.ρ id = .none
    · obtain ⟨ad0, rfl, rfl, hρ0⟩ := hx0
      simp only [List.length_nil] at hlen hlim ⊢
      subst hlen
      rcases law0 ad0 rfl (by omega) with ⟨rfl, hr⟩ | ⟨v', w', news, hr, hO, hgn, hobk, hnr⟩
      · have hB : RB (ctxApp C H.length .none (P.cellsOf e0)) w H.length (.arr e0 (P.cellsOf e0) (fl0 && fl') false []) := .arr0 e0 (P.cellsOf e0) _ false (by simp [ctxApp]) (by simp [ctxApp]) hz0
        exact ⟨_, w, ctxApp C H.length .none (P.cellsOf e0), hrunOf _ _ hr, .own0 _ _ (.inr rfl) (by simp [ctxApp]), Local.app1 (row := none) hH hb hp hN ⟨rfl, rfl, rfl, Nat.le_refl _, fun _ _ _ => rfl⟩ (fun k h => by cases h) hB (fun k hk => hk.elim)⟩
      · have hs : ∀ k, k < w.heap.size → w'.heap[k]? = w.heap[k]? := fun k hk => hgn.block k hk (by simp)
        have hK : Keeps C (ctxApp C H.length (locOf v') (P.cellsOf e0)) w w' := ctxApp_keeps hN (fun k hk => hs k (hH.lt k hk))
        simp only [Nat.zero_add] at hO
        obtain ⟨hB, hV⟩ := owns_RB (C := ctxApp C H.length (locOf v') (P.cellsOf e0)) (id := H.length) (fl := fl0 && fl') hO rfl hz0 (by simp [ctxApp]) (by simp [ctxApp]) (.inr rfl) hycells (fun hf => hyflat (by simp only [Bool.and_eq_true] at hf; exact hf.2))
          (fun k d u hk hu => let ⟨h1, h2⟩ := hnr k d u hk hu; ⟨h1.keeps hK.fz hK.blk, h2⟩) (fun g hg hf => by
            have h1 : C.Fz g := hf
            have := hH.lt g h1; have := hobk g hg; omega)
        refine ⟨v', w', _, hrunOf v' w' hr, by simpa using hV, Local.app1 (row := none) hH hb hp hN hgn (fun k h => by cases h) (by simpa using hB) (fun k hk => ?_)⟩
        rcases hO.2 with ⟨rfl, _⟩ | ⟨g, cap, cur, rfl, _⟩
        · exact hk.elim
        · have : k = g := hk
          have := hobk g rfl
          left; omega
    -- what is owned before
    have hown : ∃ ws, w.ownsRow 0 e0 (P.cellsOf e0) vx xs.length ws ∧ (∀ k, vx.ownBlock = some k → Writes (.arr e0 (P.cellsOf e0) fl0 false xs) (C.ρ id) k) ∧ (∀ k, Lies (.arr e0 (P.cellsOf e0) fl0 false xs) (locOf vx) k → Lies (.arr e0 (P.cellsOf e0) fl0 false xs) (C.ρ id) k) ∧
        ∀ (k : Nat) (d : Dat) (u : Value), (flatten xs)[k]? = some d → ws[k]? = some u → RD C.Fz w u d ∧ u.oneCell' = true := by
      cases hBid with
      | arr0 _ _ _ _ hρ hz hz0 =>
        cases Rx with
        | own0 base => cases base with
          | none => exact ⟨[], World.ownsRow_nil w 0 _ _, fun k h => (by cases h), fun k h => h.elim, fun k d u h => (by simp [flatten] at h)⟩
          | some ad0 => exact absurd ⟨ad0, rfl, rfl, hρ⟩ hx0
        | own _ _ _ g cap hD hρ' => rw [hρ] at hρ'; cases hρ'
      | arr _ _ _ _ _ g cap cc hρ hz hz0 hbk hc hl hcap hF hs hfl hcell =>
        cases Rx with
        | own0 _ _ hD hρ' => rw [hρ] at hρ'; cases hρ'
        | own _ _ _ g' cap' hD hρ' hle =>
          rw [hρ] at hρ'; injection hρ' with e1 e2; subst e1; subst e2
          have hfl2 := flatten_length hs
          have hmul : xs.length * P.cellsOf e0 ≤ cap * P.cellsOf e0 := Nat.mul_le_mul_right _ hl
          have hcl : cc.toList.length = cc.size := by simp
          refine ⟨cc.toList.take (xs.length * P.cellsOf e0), ⟨by rw [List.length_take]; omega, .inr ⟨g, cap, cc, by rw [hlen]; simp, Nat.zero_le _, hbk, hl, hcap, hc, rfl⟩⟩, fun k h => ?_, fun k h => ?_, fun k d u hk hu => ?_⟩
          · simp only [Value.ownBlock, Option.some.injEq] at h; subst h; rw [hρ]; exact ⟨rfl, rfl⟩
          · rw [hρ]; exact h
          · obtain ⟨v, h1, h2, h3⟩ := hcell k d hk
            rw [List.getElem?_take] at hu
            split at hu <;> first | (cases hu; done) | skip
            have : cc[k]? = some u := by simpa using hu
            rw [h1] at this; injection this with this; subst this
            exact ⟨h2, h3⟩
    obtain ⟨ws, hO0, hrow, hlies, hwr⟩ := hown
    obtain ⟨v', w', news, hr, hO, hg, hob, hnl, hnr⟩ := law xs.length ws hO0 (by omega)
    have hxs : ∀ x ∈ xs, x.cells.length = P.cellsOf e0 := by
      cases hBid with
      | arr0 => exact fun x hx => (by cases hx)
      | arr => assumption
    have hxfl : fl0 = true → ∀ x ∈ xs, x.flat = true := by
      cases hBid with
      | arr0 => exact fun _ x hx => (by cases hx)
      | arr => assumption
    have hwF : ∀ k, vx.ownBlock = some k → ¬ C.Fz k := fun k hk hF => by
      have hw := hrow k hk
      cases hBid with
      | arr0 e sz fl fz hρ => rw [hρ] at hw; exact hw
      | arr e sz fl fz xs g' cap c hρ hz hz0 hbk hc hl hcap hF' => rw [hρ] at hw; simp only [Writes] at hw; obtain ⟨h1, rfl⟩ := hw; exact absurd (hF'.1 hF) (by simp)
    have hK : Keeps C (ctxApp C H.length (locOf v') (P.cellsOf e0)) w w' := ctxApp_keeps hN (fun k hk => hg.block k (hH.lt k hk) (fun e => hwF k e.symm hk))
    have hobF : ∀ g, v'.ownBlock = some g → ¬ C.Fz g := fun g hgb hF => by
      rcases hob with h | h
      · exact hwF g (by rw [← h, hgb]) hF
      · rw [hgb] at h; injection h with h; have := hH.lt g hF; omega
    obtain ⟨hB, hV⟩ := owns_RB (C := ctxApp C H.length (locOf v') (P.cellsOf e0)) (id := H.length) (fl := fl0 && fl') (zs := xs ++ ys) hO (by simp) hz0 (by simp [ctxApp]) (by simp [ctxApp]) (.inr rfl)
      (fun x hx => by
        rcases List.mem_append.1 hx with hx | hx
        · exact hxs x hx
        · exact hycells x hx) (fun hf x hx => by
        simp only [Bool.and_eq_true] at hf
        rcases List.mem_append.1 hx with hx | hx
        · exact hxfl hf.1 x hx
        · exact hyflat hf.2 x hx)
      (fun k d u hk hu => by
        rw [flatten_append] at hk
        have hwl := hO0.1
        have hfx := flatten_length hxs
        by_cases hkl : k < xs.length * P.cellsOf e0
        · rw [List.getElem?_append_left (by omega)] at hk hu
          obtain ⟨h1, h2⟩ := hwr k d u hk hu
          exact ⟨h1.keeps hK.fz hK.blk, h2⟩
        · rw [List.getElem?_append_right (by omega)] at hk hu
          rw [hfx] at hk; rw [hwl] at hu
          obtain ⟨h1, h2⟩ := hnr _ d u hk hu
          exact ⟨h1.keeps hK.fz hK.blk, h2⟩) (fun g hgb hf => hobF g hgb hf)
    refine ⟨v', w', _, hrunOf v' w' hr, hV, Local.app1 hH hb hp hN hg hrow hB (fun k hk => ?_)⟩
    rcases hO.2 with ⟨rfl, _⟩ | ⟨g, cap, cur, rfl, _⟩
    · exact hk.elim
    · have hkg : k = g := hk
      subst hkg
      rcases hob with h | h
      · right
        apply hlies
        cases vx with
        | slice ad _ _ => cases ad with
          | none => cases h
          | some ad => simp only [Value.ownBlock, Option.some.injEq] at h; exact h
        | _ => cases h
      · left
        simp only [Value.ownBlock, Option.some.injEq] at h
        omega

end Go.Ax
