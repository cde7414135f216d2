/-
  Ax, text 25: from a law's evaluation to its contract.
-/
import Derived.Test.YtfoglingdnhjpaaGreatDoorXRead
import Derived.Carry
import Derived.OpenShut
import Derived.ProofKit
import Derived.WideShapes
namespace Go.Ax
set_option linter.all false
set_option linter.unusedSectionVars false
open Go.RowKit Go.ChangeShapes Go.WideShapes
variable [Gls]
variable {P : Program} {w W : World}
inductive ArgsOf (P : Program) (B f : Nat) : List TypeId → List AV → Prop
 | nil : ArgsOf P B f [] []
 | cons {t : TypeId} {ts : List TypeId} {ds : List Dat} {as : List AV} (h : Cells P B f t ds) (k : ArgsOf P B f ts as) : ArgsOf P B f (t :: ts) (.dat (elemD P t ds) :: as)
theorem arg_reads {H : Type} {enc : TypeId × Value → H} {B f base b0 : Nat} {spare : Nat → Bool} {held : Bool} {M : DataW H → Prop} {r : Reach} (hB : Bounds M B) {t : TypeId} {v : Value} {d : DataW H} {ps : List MemPlace} (ht : tidyT P f t = true) (hM : M d)
  (hval : Value.okWide P W r b0 t v) (h : DataW.Trod enc P W base spare held t v d ps) : ∃ ds, Cells P B f t ds ∧ RD (fun b => b < W.heap.size) W v (elemD P t ds) := by
 obtain ⟨fuel, hf⟩ := h
 obtain ⟨ds, hr⟩ := trod_reads hB fuel f t _ d ps ht hM hf
 refine ⟨ds, hr.cells, ?_⟩
 have hlen := cells_length f t ds ht hr.cells
 cases f with
 | zero => simp [tidyT] at ht
 | succ f =>
  have single : v.cells = #[v] → (∀ fs, P.underlying t ≠ some (.struct fs)) → (∀ n e, P.underlying t ≠ some (.array n e)) → RD (fun b => b < W.heap.size) W v (elemD P t ds) := fun hv h1 h2 => by
   have he : elemD P t ds = ds.headD default := by
    unfold elemD
    split
    ·rename_i hu; exact absurd hu (h1 _)
    ·rename_i hu; exact absurd hu (h2 _ _)
    ·rfl
   have hl := hr.len
   rw [hv] at hl
   obtain ⟨x, rfl⟩ := List.length_eq_one_iff.1 hl
   rw [he]
   exact hr.rd 0 v x (by rw [hv]; rfl) rfl
  have whole : (∃ cs, v = .agg cs) → (elemD P t ds = .agg ds) → RD (fun b => b < W.heap.size) W v (elemD P t ds) := fun ⟨cs, hv⟩ he => by
   subst hv
   rw [he]
   exact .agg cs ds (by have := hr.len; simpa [Value.cells] using this.symm) (fun j d v hd hv => hr.rd j v d (by simpa [Value.cells] using hv) hd)
  unfold tidyT at ht
  split at ht
  ·rename_i hu
   obtain ⟨b, rfl⟩ := okWide_bool hu hval
   exact single rfl (fun _ h => by rw [hu] at h; cases h) (fun _ _ h => by rw [hu] at h; cases h)
  ·rename_i hu
   obtain ⟨b, rfl⟩ := okWide_int hu hval
   exact single rfl (fun _ h => by rw [hu] at h; cases h) (fun _ _ h => by rw [hu] at h; cases h)
  ·rename_i hu
   obtain ⟨b, rfl⟩ := okWide_string hu hval
   exact single rfl (fun _ h => by rw [hu] at h; cases h) (fun _ _ h => by rw [hu] at h; cases h)
  ·rename_i e hu
   obtain ⟨a, len, cap, rfl⟩ := okWide_slice hu hval
   exact single rfl (fun _ h => by rw [hu] at h; cases h) (fun _ _ h => by rw [hu] at h; cases h)
  ·rename_i fs hu
   obtain ⟨cs, hv, _⟩ := okWide_struct hu hval
   exact whole ⟨cs, hv⟩ (by simp [elemD, hu])
  ·rename_i n e hu
   simp only [Value.okWide, hu] at hval
   obtain ⟨cs, hv, _⟩ := hval
   exact whole ⟨cs, hv⟩ (by simp [elemD, hu])
  ·cases ht
theorem args_read {H : Type} {enc : TypeId × Value → H} {B f base b0 : Nat} {spare : Nat → Bool} {held : Bool} {M : DataW H → Prop} {r : Reach} (hB : Bounds M B) {C : Ctx} (hC : C.Fz = fun b => b < W.heap.size) : ∀ (ts : List TypeId) (vs : List Value) (ds : List (DataW H)) (ps : List MemPlace),
  (∀ t ∈ ts, tidyT P f t = true) → (∀ d ∈ ds, M d) → (∀ (j : Nat) (t : TypeId) (v : Value), ts[j]? = some t → vs[j]? = some v → Value.okWide P W r b0 t v) → DataW.TrodAll enc P W base spare held ts vs ds ps →
  ∃ as, ArgsOf P B f ts as ∧ RL C W vs as ∧ AV.hasPtrL as = false ∧ ds.length = ts.length
 | [], vs, ds, ps, _, _, _, h => by
  obtain ⟨rfl, rfl, _⟩ := trodAll_nil h
  exact ⟨[], .nil, RL.nil, rfl, rfl⟩
 | t :: ts, vs, ds, ps, ht, hM, hval, h => by
  obtain ⟨v, vs', d, ds', p, q, rfl, rfl, _, h1, h2⟩ := trodAll_cons h
  obtain ⟨cs, g1, g2⟩ := arg_reads hB (ht t (by simp)) (hM d (by simp)) (hval 0 t v rfl rfl) h1
  obtain ⟨as, g3, g4, g5, g6⟩ := args_read hB hC ts vs' ds' q (fun t h => ht t (by simp [h])) (fun d h => hM d (by simp [h])) (fun j t v a b => hval (j + 1) t v (by simpa using a) (by simpa using b)) h2
  exact ⟨_, .cons g1 g3, RL.cons (.dat (by rw [hC]; exact g2)) g4, by simp [AV.hasPtrL, AV.hasPtr, g5], by simp [g6]⟩
theorem trodAll_below {H : Type} {enc : TypeId × Value → H} {W' : World} (hl : laidOutB P = true) (hb : Below W.heap.size W W') : ∀ (ts : List TypeId) (vs : List Value) (ds : List (DataW H)) (ps : List MemPlace),
  (∀ t ∈ ts, P.readableRec t = true ∧ t < P.types.size) → DataW.TrodAll enc P W 0 (fun _ => true) true ts vs ds ps → DataW.TrodAll enc P W' 0 (fun b => decide (b < W.heap.size)) true ts vs ds ps
 | [], vs, ds, ps, _, h => by
  obtain ⟨rfl, rfl, rfl⟩ := trodAll_nil h
  exact trodAll_mk0
 | t :: ts, vs, ds, ps, ht, h => by
  obtain ⟨v, vs', d, ds', p, q, rfl, rfl, rfl, h1, h2⟩ := trodAll_cons h
  refine trodAll_cons_mk (Below.trod hl (ht t (by simp)).1 (ht t (by simp)).2 h1 hb (fun x hx => ?_)) (trodAll_below hl hb ts vs' ds' q (fun t h => ht t (by simp [h])) h2)
  obtain ⟨m, hm⟩ := h1
  exact DataW.trod_lt m _ _ _ hm x hx
theorem law_contract {H : Type} {enc : TypeId × Value → H} (hm : P.follows .mixedOrders = true) {T : Nat → Option XFunc} (hT : ∀ f xf, T f = some xf → FOk P f xf) (hl : laidOutB P = true) {fn : Func} {f FU B : Nat} {s : ChangeSpec} (hvars : s.vars = [])
  (hfn : ∀ ds : List (DataW H), ds.length = fn.params.toList.length → s.fn H (ds ++ []) = { results := [.lit (.bool true)], args := ds }) {tb : TypeId} (hres : fn.resultTypes = #[tb]) (htb : P.underlying tb = some .bool)
  (hread : ∀ t ∈ fn.params.toList, tidyT P FU t = true ∧ P.readableRec t = true ∧ t < P.types.size) {M : DataW H → Prop} (hB : Bounds M B)
  (law : ∀ as, ArgsOf P B FU fn.params.toList as → ∃ n d H', runFn T n d f as [] = some (.dat (.bool true), H'))
  {base : Nat} {args : Array Value} {ds gs : List (DataW H)} {before : List MemPlace} (hval : ∀ (j : Nat) t v, fn.params[j]? = some t → args[j]? = some v → Value.okWide P W .any base t v)
  (hW : DataW.Whole enc P fn.params.toList s.vars false W args.toList ds gs before) (hM : ∀ d ∈ ds, M d) (hG : ∀ C : Ctx, C.Fz = (fun b => b < W.heap.size) → GlR C W) :
  Calls P f args W fun e W' => ∃ v, e = .returned v ∧ s.post enc P fn false true false false W args v W' := by
 have hW' := hW
 obtain ⟨p, q, hA, hV, rfl, hfz, hnd⟩ := hW
 rw [hvars] at hV
 obtain ⟨rfl, rfl⟩ := trodVars_none hV
 let C : Ctx := ⟨fun _ => .none, fun _ => 0, fun _ => False, fun b => b < W.heap.size⟩
 obtain ⟨as, h1, h2, _, hlen⟩ := args_read (C := C) (r := .any) (b0 := base) hB rfl fn.params.toList args.toList ds p (fun t ht => (hread t ht).1) hM (fun j t v a b => hval j t v (by simpa using a) (by simpa using b)) hA
 obtain ⟨n, d, H', hrun⟩ := law as h1
 have hcf := runFn_sound hm hT n d
 have hcalls := hcf.calls f as [] _ H' hrun C W args.toList h2 ⟨fun i b h => by simp [at_] at h, fun i b h => by simp [at_] at h, fun i j b b' k h => by simp [at_] at h, fun b h => h⟩ (fun i => by simp [C]) (hG C rfl)
 rw [Array.toArray_toList] at hcalls
 refine hcalls.mono fun e W1 hp => ?_
 obtain ⟨v, C', rfl, hV', L⟩ := hp
 have hv : v = .bool true := by
  cases hV' with
  | dat h => cases h; rfl
 subst hv
 have bel : Below W.heap.size W W1 := ⟨L.os, L.tape, L.output, L.size, fun k hk => by
  rcases L.frame k hk with h | ⟨i, hi, _⟩
  ·exact h
  ·simp at hi⟩
 have hF : s.fn H (ds ++ []) = { results := [.lit (.bool true)], args := ds } := hfn ds hlen
 refine ⟨_, rfl, ds, [], _, [], p, [], hW', ?_, ?_, ?_, bel.frame _, fun h => by cases h⟩
 ·rw [hF, hres]
  exact trodAll_mk1 (shut_bool htb _)
 ·rw [hF]
  exact trodAll_below hl bel fn.params.toList args.toList ds p (fun t ht => (hread t ht).2) hA
 ·rw [hF, hvars]
  exact rfl
end Go.Ax
