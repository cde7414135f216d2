/-
  Ax, text 28: loops over lists in three forms.
-/
import Derived.Test.YtfoglingdnhjpaaGreatDoorXAuto
namespace Go.Ax
set_option linter.all false
@[simp] theorem ite_ite_pos {α : Type} {c : Prop} [Decidable c] (x y z : α) : (if c then (if c then x else y) else z) = if c then x else z := by split <;> rfl
@[simp] theorem ite_ite_neg {α : Type} {c : Prop} [Decidable c] (x y z : α) : (if c then x else (if c then y else z)) = if c then x else z := by split <;> rfl
section
variable {cf : CallF} {n n0 m : Nat} {k : List (Nat × Option (Nat × Nat × Bool))} {b : XCode} {s s2 s3 : St}
theorem loop_step (h : XCode.run cf n n0 b s = some (.normal, s2)) (h2 : headOf n0 k s2 = some s3) :
  loopAt (XCode.run cf n n0 b) (headOf n0 k) (m + 1) s = loopAt (XCode.run cf n n0 b) (headOf n0 k) m s3 := by
 simp only [loopAt, h, h2]
theorem loop_exit {j : Nat} (h : XCode.run cf n n0 b s = some (.exit j, s2)) :
  loopAt (XCode.run cf n n0 b) (headOf n0 k) (m + 1) s = some (.exit j, s2) := by
 simp only [loopAt, h]
theorem loop_ret (h : XCode.run cf n n0 b s = some (.ret, s2)) :
  loopAt (XCode.run cf n n0 b) (headOf n0 k) (m + 1) s = some (.ret, s2) := by
 simp only [loopAt, h]
end
def nextK (head : St → Option St) (r : Option (Ex × St)) : Option St := match r with
 | some (.normal, s) => head s
 | _ => none
@[simp] theorem nextK_normal (head : St → Option St) (s : St) : nextK head (some (.normal, s)) = head s := rfl
@[simp] theorem nextK_exit (head : St → Option St) (i : Nat) (s : St) : nextK head (some (.exit i, s)) = none := rfl
@[simp] theorem nextK_ret (head : St → Option St) (s : St) : nextK head (some (.ret, s)) = none := rfl
@[simp] theorem nextK_thrown (head : St → Option St) (e : Int) (s : St) : nextK head (some (.thrown e, s)) = none := rfl
@[simp] theorem nextK_none (head : St → Option St) : nextK head none = none := rfl
@[simp] theorem nextK_ite {c : Prop} [Decidable c] (head : St → Option St) (x y : Option (Ex × St)) : nextK head (if c then x else y) = if c then nextK head x else nextK head y := by split <;> rfl
theorem nextK_some {head : St → Option St} {r : Option (Ex × St)} {s : St} (h : nextK head r = some s) : ∃ s2, r = some (.normal, s2) ∧ head s2 = some s := by
 match r with
 | some (.normal, s2) => exact ⟨s2, rfl, h⟩
 | some (.exit _, _) => cases h
 | some (.ret, _) => cases h
 | some (.thrown _, _) => cases h
 | none => cases h
theorem loopL_any {β ρ : Type} (p : β → Prop) [DecidablePred p] (e : ρ) (fin : Unit → ρ) : ∀ l : List β, loopL (fun _ x => if p x then .inr e else .inl ()) fin l () = if ∃ x ∈ l, p x then e else fin ()
 | [] => by simp [loopL]
 | x :: r => by
  simp only [loopL]
  by_cases h : p x
  ·simp [h]
  ·simp only [h, if_false, loopL_any p e fin r, List.mem_cons, exists_eq_or_imp, false_or]
theorem loopL_fold {α β ρ : Type} (g : α → β → α) (fin : α → ρ) : ∀ (l : List β) (a : α), loopL (fun a x => .inl (g a x)) fin l a = fin (l.foldl g a)
 | [], a => rfl
 | x :: r, a => by simp only [loopL, List.foldl_cons]; exact loopL_fold g fin r (g a x)
variable {body : St → Option (Ex × St)} {head : St → Option St}
theorem loop_pre {β : Type} (S : List β → St) (l : List β) (fin : Ex × St) (step : ∀ p v r, l = p ++ v :: r → nextK head (body (S p)) = some (S (p ++ [v]))) (done : body (S l) = some fin) (hfin : ∀ s, fin ≠ (.normal, s))
  (m : Nat) (hm : l.length < m) : loopAt body head m (S []) = some fin := by
 have := loop_list (body := body) (head := head) (fun i (_ : Unit) => S (l.take i)) (fun _ _ => True) l (fun _ _ => .inl ()) (fun _ => fin) (fun i _ h _ => ?_) (fun _ _ => ⟨by rw [List.take_length]; exact done, hfin⟩) l.length m 0 () (by omega) hm trivial
 ·rw [List.take_zero] at this
  rw [this]
  have : ∀ r : List β, loopL (fun (_ : Unit) (_ : β) => (Sum.inl () : Unit ⊕ (Ex × St))) (fun _ => fin) r () = fin := by
   intro r
   induction r with
   | nil => rfl
   | cons x r ih => simp only [loopL]; exact ih
  rw [this]
 ·have h1 := step (l.take i) l[i] (l.drop (i + 1)) (by rw [← List.drop_eq_getElem_cons h, List.take_append_drop])
  rw [← List.take_succ_eq_append_getElem h] at h1
  exact ⟨trivial, nextK_some h1⟩
theorem loop_any {β : Type} (S : Nat → St) (l : List β) (p : β → Prop) [DecidablePred p] (e fin : Ex × St) (stop : ∀ i (h : i < l.length), p l[i] → body (S i) = some e)
  (go : ∀ i (h : i < l.length), ¬ p l[i] → ∃ s2, body (S i) = some (.normal, s2) ∧ head s2 = some (S (i + 1))) (done : body (S l.length) = some fin) (he : ∀ s, e ≠ (.normal, s)) (hf : ∀ s, fin ≠ (.normal, s)) (m : Nat) (hm : l.length < m) :
  loopAt body head m (S 0) = some (if ∃ x ∈ l, p x then e else fin) := by
 have := loop_list (body := body) (head := head) (fun i (_ : Unit) => S i) (fun _ _ => True) l (fun _ x => if p x then .inr e else .inl ()) (fun _ => fin) (fun i a h _ => ?_) (fun a _ => ⟨done, hf⟩) l.length m 0 () (by omega) hm trivial
 ·rw [this, loopL_any, List.drop_zero]
 ·by_cases hp : p l[i]
  ·simp only [hp, if_true]; exact ⟨stop i h hp, he⟩
  ·simp only [hp, if_false]; exact ⟨trivial, go i h hp⟩
theorem loopL_find {β ρ : Type} (p : β → Bool) (e : β → ρ) (fin : ρ) : ∀ l : List β, loopL (fun (_ : Unit) x => if p x = true then .inr (e x) else .inl ()) (fun _ => fin) l () = (l.find? p).elim fin e
 | [] => rfl
 | x :: r => by
  simp only [loopL, List.find?_cons]
  cases h : p x
  ·simp only [Bool.false_eq_true, if_false]; exact loopL_find p e fin r
  ·simp
theorem loop_find {β : Type} (S : Nat → St) (l : List β) (p : β → Bool) (e : β → Ex × St) (fin : Ex × St) (stop : ∀ i (h : i < l.length), p l[i] = true → body (S i) = some (e l[i]))
  (go : ∀ i (h : i < l.length), p l[i] = false → ∃ s2, body (S i) = some (.normal, s2) ∧ head s2 = some (S (i + 1))) (done : body (S l.length) = some fin) (he : ∀ x s, e x ≠ (.normal, s)) (hf : ∀ s, fin ≠ (.normal, s)) (m : Nat) (hm : l.length < m) :
  loopAt body head m (S 0) = some ((l.find? p).elim fin e) := by
 have := loop_list (body := body) (head := head) (fun i (_ : Unit) => S i) (fun _ _ => True) l (fun _ x => if p x = true then .inr (e x) else .inl ()) (fun _ => fin) (fun i a h _ => ?_) (fun a _ => ⟨done, hf⟩) l.length m 0 () (by omega) hm trivial
 ·rw [this, loopL_find, List.drop_zero]
 ·cases hp : p l[i]
  ·simp only [Bool.false_eq_true, if_false]; exact ⟨trivial, go i h hp⟩
  ·simp only [if_true]; exact ⟨stop i h hp, he _⟩
@[simp] theorem take_len_map {β γ : Type} (f : β → γ) (l : List β) : (l.map f).take l.length = l.map f := List.take_of_length_le (by simp)
theorem dec_len_pos {α : Type} (l : List α) {_ : Decidable (0 < l.length)} : decide (0 < l.length) = !l.isEmpty := by cases l <;> simp
theorem dec_nil {α : Type} (l : List α) {_ : Decidable (l = [])} : decide (l = []) = l.isEmpty := by cases l <;> simp
theorem loop_fold {α β : Type} (S : Nat → α → St) (I : Nat → α → Prop) (l : List β) (g : α → β → α) (fin : α → Ex × St) (a0 : α) (h0 : I 0 a0)
  (step : ∀ i a (h : i < l.length), I i a → I (i + 1) (g a l[i]) ∧ ∃ s2, body (S i a) = some (.normal, s2) ∧ head s2 = some (S (i + 1) (g a l[i])))
  (done : ∀ a, I l.length a → body (S l.length a) = some (fin a)) (hf : ∀ a s, fin a ≠ (.normal, s)) (m : Nat) (hm : l.length < m) : loopAt body head m (S 0 a0) = some (fin (l.foldl g a0)) := by
 have := loop_list (body := body) (head := head) S I l (fun a x => .inl (g a x)) fin (fun i a h hI => step i a h hI) (fun a hI => ⟨done a hI, hf a⟩) l.length m 0 a0 (by omega) hm h0
 rw [this, loopL_fold, List.drop_zero]
theorem foldl_snoc_map {β γ : Type} (g : β → γ) : ∀ (l : List β) (a : List γ), l.foldl (fun a x => a ++ [g x]) a = a ++ l.map g
 | [], a => by simp
 | x :: r, a => by rw [List.foldl_cons, foldl_snoc_map g r]; simp
theorem foldl_snoc_filter {β : Type} (p : β → Prop) [DecidablePred p] : ∀ (l : List β) (a : List β), l.foldl (fun a x => if p x then a ++ [x] else a) a = a ++ l.filter (fun x => decide (p x))
 | [], a => by simp
 | x :: r, a => by
  rw [List.foldl_cons, foldl_snoc_filter p r]
  by_cases h : p x <;> simp [h]
theorem loop_until (S : Nat → St) (N : Nat) (fin : Ex × St) (stop : Nat → Prop) (r : Nat → Ex × St)
  (step : ∀ i, i < N → ¬ stop i → ∃ s2, body (S i) = some (.normal, s2) ∧ head s2 = some (S (i + 1)))
  (halt : ∀ i, i < N → stop i → body (S i) = some (r i) ∧ ∀ s, r i ≠ (.normal, s)) (done : body (S N) = some fin) (hfin : ∀ s, fin ≠ (.normal, s)) :
  ∀ (k m i : Nat), i + k = N → k < m → (∃ j, i ≤ j ∧ j < N ∧ stop j ∧ (∀ q, i ≤ q → q < j → ¬ stop q) ∧ loopAt body head m (S i) = some (r j)) ∨ ((∀ j, i ≤ j → j < N → ¬ stop j) ∧ loopAt body head m (S i) = some fin)
 | 0, m + 1, i, h, _ => by
  have : i = N := by omega
  subst this
  refine .inr ⟨fun j h1 h2 => by omega, ?_⟩
  simp only [loopAt, done]
  split
  ·rename_i s2 h2; injection h2 with h2; exact absurd h2 (hfin _)
  ·rfl
 | k + 1, m + 1, i, h, hm => by
  by_cases hs : stop i
  ·obtain ⟨h1, h2⟩ := halt i (by omega) hs
   refine .inl ⟨i, Nat.le_refl _, by omega, hs, fun q h1 h2 => by omega, ?_⟩
   simp only [loopAt, h1]
   split
   ·rename_i s2 h3; injection h3 with h3; exact absurd h3 (h2 _)
   ·rfl
  ·obtain ⟨s2, h1, h2⟩ := step i (by omega) hs
   have e : loopAt body head (m + 1) (S i) = loopAt body head m (S (i + 1)) := by simp only [loopAt, h1, h2]
   rw [e]
   rcases loop_until S N fin stop r step halt done hfin k m (i + 1) (by omega) (by omega) with ⟨j, a, b, c, d, f⟩ | ⟨a, b⟩
   ·refine .inl ⟨j, by omega, b, c, fun q h1 h2 => ?_, f⟩
    by_cases e : q = i
    ·subst e; exact hs
    ·exact d q (by omega) h2
   ·refine .inr ⟨fun j h1 h2 => ?_, b⟩
    by_cases e : j = i
    ·subst e; exact hs
    ·exact a j (by omega) h2
theorem loop_for (S : Nat → St) (N : Nat) (fin : Ex × St) (step : ∀ i, i < N → ∃ s2, body (S i) = some (.normal, s2) ∧ head s2 = some (S (i + 1)))
  (done : body (S N) = some fin) (hfin : ∀ s, fin ≠ (.normal, s)) (m : Nat) (hm : N < m) : loopAt body head m (S 0) = some fin := by
 rcases loop_until S N fin (fun _ => False) (fun _ => fin) (fun i hi _ => step i hi) (fun _ _ h => h.elim) done hfin N m 0 (by omega) hm with ⟨_, _, _, h, _⟩ | ⟨_, h⟩
 ·exact h.elim
 ·exact h
end Go.Ax
