/-
  Ax, text 17: an operation looks only at its slots and turns only what it says.
-/
import Derived.Test.YtfoglingdnhjpaaGreatDoorXStep
namespace Go.Ax
set_option linter.all false
set_option linter.unusedSectionVars false
open Go.RowKit
variable [Gls]
variable {cf : CallF} {env env' : Env} {H H' : List Blk} {av : AV} {xo : XOp}
theorem XO.ev_congr {x : XO} (h : ∀ n ∈ x.uses, get env n = get env' n) : x.ev env = x.ev env' := by
 cases x with
 | s n => exact h n (by simp [XO.uses])
 | c v => rfl
theorem evs_congr {l : List XO} (h : ∀ n ∈ l.flatMap XO.uses, get env n = get env' n) : l.map (XO.ev env) = l.map (XO.ev env') := by
 refine List.map_congr_left fun x hx => XO.ev_congr fun n hn => h n (List.mem_flatMap.2 ⟨x, hx, hn⟩)
theorem fillParts_congr : ∀ (ps : List (Nat × Nat × XO)) (zs : List AV), (∀ n ∈ ps.flatMap (fun p => p.2.2.uses), get env n = get env' n) → fillParts env zs ps = fillParts env' zs ps
 | [], zs, _ => by simp [fillParts]
 | (o, n, x) :: r, zs, h => by
  have hx : x.ev env = x.ev env' := XO.ev_congr fun m hm => h m (by simp [hm])
  have hr := fun zs' => fillParts_congr r zs' (fun m hm => h m (by simp at hm ⊢; exact .inr hm))
  simp only [fillParts, hx, hr]
theorem evOr_congr {d : Int} {x : Option XO} (h : ∀ n ∈ (match x with | some y => y.uses | none => []), get env n = get env' n) : evOr env d x = evOr env' d x := by
 cases x with
 | none => rfl
 | some y => exact XO.ev_congr h
theorem evalOp_congr (h : ∀ n ∈ xo.uses, get env n = get env' n) : evalOp cf env H xo = evalOp cf env' H xo := by
 cases xo with
 | build zs ps => simp only [evalOp, fillParts_congr ps zs (fun n hn => h n (by simpa [XOp.uses] using hn))]
 | bsl e sz b n zs ps => simp only [evalOp, fillParts_congr ps zs (fun n hn => h n (by simpa [XOp.uses] using hn))]
 | peek g as =>
  have h2 : as.map (XO.ev env) = as.map (XO.ev env') := evs_congr fun n hn => h n (by simpa only [XOp.uses] using hn)
  simp only [evalOp, h2]
 | call f as =>
  have h1 : f.ev env = f.ev env' := XO.ev_congr fun n hn => h n (by simp [XOp.uses, hn])
  have h2 : as.map (XO.ev env) = as.map (XO.ev env') := evs_congr fun n hn => h n (by simp only [XOp.uses, List.mem_append]; exact .inr hn)
  simp only [evalOp, h1, h2]
 | inv tbl x as =>
  have h1 : x.ev env = x.ev env' := XO.ev_congr fun n hn => h n (by simp [XOp.uses, hn])
  have h2 : as.map (XO.ev env) = as.map (XO.ev env') := evs_congr fun n hn => h n (by simp only [XOp.uses, List.mem_append]; exact .inr hn)
  simp only [evalOp, h1, h2]
 | mkfn f xs ys =>
  have h1 : xs.map (XO.ev env) = xs.map (XO.ev env') := evs_congr fun n hn => h n (by simp only [XOp.uses, List.mem_append]; exact .inl hn)
  have h2 : ys.map (XO.ev env) = ys.map (XO.ev env') := evs_congr fun n hn => h n (by simp only [XOp.uses, List.mem_append]; exact .inr hn)
  simp only [evalOp, h1, h2]
 | slice sz x lo hi =>
  have h1 : x.ev env = x.ev env' := XO.ev_congr fun n hn => h n (by simp [XOp.uses, hn])
  have h2 := fun d => evOr_congr (d := d) (x := lo) fun n hn => h n (by simp only [XOp.uses, List.mem_append]; exact .inl (.inr hn))
  have h3 := fun d => evOr_congr (d := d) (x := hi) fun n hn => h n (by simp only [XOp.uses, List.mem_append]; exact .inr hn)
  simp only [evalOp, h1, h2, h3]
 | alloc zs => rfl
 | mkmap => rfl
 | mput c x y =>
  have h1 : c.ev env = c.ev env' := XO.ev_congr fun n hn => h n (by simp [XOp.uses, hn])
  have h2 : x.ev env = x.ev env' := XO.ev_congr fun n hn => h n (by simp [XOp.uses, hn])
  have h3 : y.ev env = y.ev env' := XO.ev_congr fun n hn => h n (by simp [XOp.uses, hn])
  simp only [evalOp, h1, h2, h3]
 | pick c x y =>
  have h1 : c.ev env = c.ev env' := XO.ev_congr fun n hn => h n (by simp [XOp.uses, hn])
  have h2 : x.ev env = x.ev env' := XO.ev_congr fun n hn => h n (by simp [XOp.uses, hn])
  have h3 : y.ev env = y.ev env' := XO.ev_congr fun n hn => h n (by simp [XOp.uses, hn])
  simp only [evalOp, h1, h2, h3]
 | mv x | box x | load _ x | nilchk x | eqn _ _ x | eqm _ x | mkifc _ x | mlen x | not x | neg x | conv _ x | ext x _ | fadr _ x | fld _ _ x | tas _ x =>
  have h1 : x.ev env = x.ev env' := XO.ev_congr fun n hn => h n (by simp [XOp.uses, hn])
  simp only [evalOp, h1]
 | stop => rfl
 | len b x =>
  have h1 : x.ev env = x.ev env' := XO.ev_congr fun n hn => h n (by simp [XOp.uses, hn])
  cases b <;> simp only [evalOp, h1]
 | store _ x y | bin _ x y | eqv _ _ _ x y | app _ _ _ _ x y | iadr _ x y | mksl _ _ _ _ _ x y | idx _ _ _ x y | sidx x y | aadr _ _ x y | mm _ x y | cpy _ x y | mget _ _ x y =>
  have h1 : x.ev env = x.ev env' := XO.ev_congr fun n hn => h n (by simp [XOp.uses, hn])
  have h2 : y.ev env = y.ev env' := XO.ev_congr fun n hn => h n (by simp [XOp.uses, hn])
  simp only [evalOp, h1, h2]
theorem touched_congr (h : ∀ n ∈ xo.uses, get env n = get env' n) : touched env H xo = touched env' H xo := by
 cases xo with
 | bsl e sz b n zs ps => simp only [touched, fillParts_congr ps zs (fun n hn => h n (by simpa [XOp.uses] using hn))]
 | peek g as =>
  have h2 : as.map (XO.ev env) = as.map (XO.ev env') := evs_congr fun n hn => h n (by simpa only [XOp.uses] using hn)
  simp only [touched, h2]
 | call f as =>
  have h1 : f.ev env = f.ev env' := XO.ev_congr fun n hn => h n (by simp [XOp.uses, hn])
  have h2 : as.map (XO.ev env) = as.map (XO.ev env') := evs_congr fun n hn => h n (by simp only [XOp.uses, List.mem_append]; exact .inr hn)
  simp only [touched, h1, h2]
 | inv tbl x as =>
  have h1 : x.ev env = x.ev env' := XO.ev_congr fun n hn => h n (by simp [XOp.uses, hn])
  have h2 : as.map (XO.ev env) = as.map (XO.ev env') := evs_congr fun n hn => h n (by simp only [XOp.uses, List.mem_append]; exact .inr hn)
  simp only [touched, h1, h2]
 | slice sz x lo hi =>
  have h1 : x.ev env = x.ev env' := XO.ev_congr fun n hn => h n (by simp [XOp.uses, hn])
  simp only [touched, h1]
 | load _ x | mlen x =>
  have h1 : x.ev env = x.ev env' := XO.ev_congr fun n hn => h n (by simp [XOp.uses, hn])
  simp only [touched, h1]
 | mget _ _ x y | mput x y _ =>
  have h1 : x.ev env = x.ev env' := XO.ev_congr fun n hn => h n (by simp [XOp.uses, hn])
  simp only [touched, h1]
 | store _ x y | app _ _ _ _ x y | iadr _ x y | cpy _ x y =>
  have h1 : x.ev env = x.ev env' := XO.ev_congr fun n hn => h n (by simp [XOp.uses, hn])
  have h2 : y.ev env = y.ev env' := XO.ev_congr fun n hn => h n (by simp [XOp.uses, hn])
  simp only [touched, h1, h2]
 | _ => rfl
theorem reads_no (h : xo.reads = false) : touched env H xo = ([], []) := by
 cases xo <;> simp only [XOp.reads] at h <;> first | rfl | cases h
theorem makes_no (h : xo.makes = false) (he : evalOp cf env H xo = some (av, H')) : H' = H ∧ (touched env H xo).2 = [] := by
 cases xo <;> simp only [XOp.makes] at h <;> first | (cases h; done) | skip
 case len b x =>
  refine ⟨?_, rfl⟩
  revert he
  cases b <;> simp only [evalOp] <;> split <;> intro he <;> cases he <;> rfl
 all_goals
  refine ⟨?_, ?_⟩
  ·revert he
   simp only [evalOp]
   repeat' split
   all_goals (intro he; first | (cases he; done) | (cases he; rfl))
  ·simp only [touched]
   try (repeat' split) <;> rfl
theorem freeze_same {ids : List Nat} {i : Nat} (h : i ∉ ids) : (freeze ids H)[i]? = H[i]? := by
 rw [freeze_get]
 cases H[i]? with
 | none => rfl
 | some b => simp [h]
theorem writes_reads : ∀ i ∈ (touched env H xo).2, i ∈ (touched env H xo).1 := by
 intro i hi
 cases xo <;> simp only [touched] at hi ⊢ <;> (try (repeat' (split at hi))) <;> simp_all
 all_goals exact ownsL_refs _ _ hi
theorem evalOp_frame (he : evalOp cf env H xo = some (av, H')) : H.length ≤ H'.length ∧ ∀ i, i < H.length → i ∉ (touched env H xo).2 → H'[i]? = H[i]? := by
 by_cases hm : xo.makes = false
 ·obtain ⟨rfl, _⟩ := makes_no hm he
  exact ⟨Nat.le_refl _, fun _ _ _ => rfl⟩
 cases xo <;> simp only [XOp.makes, Bool.true_eq_false, not_false_eq_true, not_true_eq_false] at hm
 case alloc zs =>
  simp only [evalOp, Option.some.injEq, Prod.mk.injEq] at he; obtain ⟨_, rfl⟩ := he
  exact ⟨by simp, fun i hi _ => List.getElem?_append_left hi⟩
 case box x =>
  simp only [evalOp] at he
  split at he <;> first | (cases he; done) | skip
  simp only [Option.some.injEq, Prod.mk.injEq] at he; obtain ⟨_, rfl⟩ := he
  exact ⟨by simp, fun i hi _ => List.getElem?_append_left hi⟩
 case bsl e sz b n zs ps =>
  simp only [evalOp] at he
  simp only [touched]
  split at he <;> first | (cases he; done) | skip
  split at he <;> first | (cases he; done) | skip
  split at he <;> first | (cases he; done) | skip
  simp only [Option.some.injEq, Prod.mk.injEq] at he; obtain ⟨_, rfl⟩ := he
  exact ⟨by simp [freeze_length], fun i hi hn => by rw [List.getElem?_append_left (by simpa [freeze_length] using hi)]; exact freeze_same hn⟩
 case store n a x =>
  simp only [evalOp] at he
  split at he <;> first | (cases he; done) | skip
  rename_i H1 hs
  simp only [Option.some.injEq, Prod.mk.injEq] at he; obtain ⟨_, rfl⟩ := he
  simp only [storeAt] at hs
  simp only [touched]
  split at hs <;> first | (cases hs; done) | skip
  split at hs <;> first | (cases hs; done) | skip
  ·rename_i _ _ _ id off ha
   split at hs <;> first | (cases hs; done) | skip
   split at hs <;> first | (cases hs; done) | skip
   injection hs with hs; subst hs
   refine ⟨by simp, fun i hi hn => ?_⟩
   simp only [List.mem_singleton] at hn
   rw [List.getElem?_set_ne (Ne.symm hn)]
  ·rename_i _ _ _ id i off ha
   split at hs <;> first | (cases hs; done) | skip
   split at hs <;> first | (cases hs; done) | skip
   split at hs <;> first | (cases hs; done) | skip
   injection hs with hs; subst hs
   refine ⟨by simp [freeze_length], fun j hj hn => ?_⟩
   simp only [List.mem_cons, not_or] at hn
   rw [List.getElem?_set_ne (Ne.symm hn.1)]
   exact freeze_same hn.2
 case app e sz b fl s x =>
  simp only [evalOp, appendTo] at he
  simp only [touched]
  split at he <;> first | (cases he; done) | skip
  split at he <;> first | (cases he; done) | skip
  split at he <;> first | (cases he; done) | skip
  ·split at he <;> first | (cases he; done) | skip
   simp only [Option.some.injEq, Prod.mk.injEq] at he; obtain ⟨_, rfl⟩ := he
   exact ⟨by simp, fun i hi _ => List.getElem?_append_left hi⟩
  ·rename_i hs
   split at he <;> first | (cases he; done) | skip
   split at he <;> first | (cases he; done) | skip
   simp only [Option.some.injEq, Prod.mk.injEq] at he; obtain ⟨_, rfl⟩ := he
   refine ⟨by simp, fun i hi hn => ?_⟩
   rw [hs] at hn
   simp only [AV.refs, List.mem_singleton] at hn
   rw [List.getElem?_append_left (by simpa using hi), List.getElem?_set_ne (Ne.symm hn)]
 case mkmap =>
  simp only [evalOp, Option.some.injEq, Prod.mk.injEq] at he; obtain ⟨_, rfl⟩ := he
  exact ⟨by simp, fun i hi _ => List.getElem?_append_left hi⟩
 case mput m k v =>
  simp only [evalOp] at he
  split at he <;> first | (cases he; done) | skip
  rename_i id n hm hk
  split at he <;> first | (cases he; done) | skip
  split at he <;> first | (cases he; done) | skip
  split at he <;> first | (cases he; done) | skip
  simp only [Option.some.injEq, Prod.mk.injEq] at he; obtain ⟨_, rfl⟩ := he
  refine ⟨by simp, fun i hi hn => ?_⟩
  simp only [touched, hm, AV.refs, List.mem_singleton] at hn
  rw [List.getElem?_set_ne (Ne.symm hn)]
 case mksl e sz b fl zs l c =>
  simp only [evalOp] at he
  split at he <;> first | (cases he; done) | skip
  split at he <;> first | (cases he; done) | skip
  split at he <;> first | (cases he; done) | skip
  split at he <;> first | (cases he; done) | skip
  simp only [Option.some.injEq, Prod.mk.injEq] at he; obtain ⟨_, rfl⟩ := he
  exact ⟨by simp, fun i hi _ => List.getElem?_append_left hi⟩
 case cpy sz d s =>
  simp only [evalOp] at he
  split at he <;> first | (cases he; done) | skip
  split at he <;> first | (cases he; done) | skip
  simp only [touched]
  unfold copyTo at he
  split at he <;> first | (cases he; done) | skip
  ·rename_i id off len hd
   split at he <;> first | (cases he; done) | skip
   split at he
   ·simp only [Option.some.injEq, Prod.mk.injEq] at he; obtain ⟨_, rfl⟩ := he
    refine ⟨by simp, fun i hi hn => ?_⟩
    rw [hd] at hn
    simp only [AV.refs, List.mem_singleton] at hn
    rw [List.getElem?_set_ne (Ne.symm hn)]
   ·split at he <;> first | (cases he; done) | skip
    simp only [Option.some.injEq, Prod.mk.injEq] at he; obtain ⟨_, rfl⟩ := he
    exact ⟨Nat.le_refl _, fun _ _ _ => rfl⟩
  ·simp only [Option.some.injEq, Prod.mk.injEq] at he; obtain ⟨_, rfl⟩ := he
   exact ⟨Nat.le_refl _, fun _ _ _ => rfl⟩
  ·simp only [Option.some.injEq, Prod.mk.injEq] at he; obtain ⟨_, rfl⟩ := he
   exact ⟨Nat.le_refl _, fun _ _ _ => rfl⟩
 case inv tbl x as =>
  simp only [evalOp] at he
  split at he <;> first | (cases he; done) | skip
  rename_i t v hf
  split at he <;> first | (cases he; done) | skip
  simp only [touched, hf]
  generalize v :: as.map (XO.ev env) = A at he ⊢
  simp only [doCall] at he
  split at he
  ·rename_i hp
   rw [if_pos hp]
   split at he <;> first | (cases he; done) | skip
   split at he <;> first | (cases he; done) | skip
   split at he <;> first | (cases he; done) | skip
   simp only [Option.some.injEq, Prod.mk.injEq] at he; obtain ⟨_, rfl⟩ := he
   refine ⟨by simp [merge], fun i hi hn => ?_⟩
   rw [merge_get_old hi]
   cases H[i]? with
   | none => rfl
   | some b => simp only [Option.map_some]; rw [if_neg (fun h => hn (List.contains_iff_mem.1 h))]
  ·rename_i hp
   rw [if_neg hp]
   split at he <;> first | (cases he; done) | skip
   split at he <;> first | (cases he; done) | skip
   simp only [Option.some.injEq, Prod.mk.injEq] at he; obtain ⟨_, rfl⟩ := he
   refine ⟨by simp [freeze_length], fun i hi hn => ?_⟩
   rw [List.getElem?_append_left (by simpa [freeze_length] using hi)]
   split <;> exact freeze_same (by first | exact hn | simp)
 case call f as =>
  simp only [evalOp] at he
  split at he <;> first | (cases he; done) | skip
  rename_i g first cap hf
  simp only [touched, hf]
  generalize first ++ as.map (XO.ev env) ++ cap = A at he ⊢
  simp only [doCall] at he
  split at he
  ·rename_i hp
   rw [if_pos hp]
   split at he <;> first | (cases he; done) | skip
   split at he <;> first | (cases he; done) | skip
   split at he <;> first | (cases he; done) | skip
   simp only [Option.some.injEq, Prod.mk.injEq] at he; obtain ⟨_, rfl⟩ := he
   refine ⟨by simp [merge], fun i hi hn => ?_⟩
   rw [merge_get_old hi]
   cases H[i]? with
   | none => rfl
   | some b => simp only [Option.map_some]; rw [if_neg (fun h => hn (List.contains_iff_mem.1 h))]
  ·rename_i hp
   rw [if_neg hp]
   split at he <;> first | (cases he; done) | skip
   split at he <;> first | (cases he; done) | skip
   simp only [Option.some.injEq, Prod.mk.injEq] at he; obtain ⟨_, rfl⟩ := he
   refine ⟨by simp [freeze_length], fun i hi hn => ?_⟩
   rw [List.getElem?_append_left (by simpa [freeze_length] using hi)]
   split <;> exact freeze_same (by first | exact hn | simp)
end Go.Ax
