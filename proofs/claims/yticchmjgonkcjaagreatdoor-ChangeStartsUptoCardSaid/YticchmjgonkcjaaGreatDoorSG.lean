/-
  The document's Start, evaluated.
-/
import Derived.Test.YticchmjgonkcjaaGreatDoorQG
import Derived.Test.YticchmjgonkcjaaGreatDoorPA
import Derived.Test.YticchmjgonkcjaaGreatDoorME
import Derived.Test.YticchmjgonkcjaaGreatDoorMF
import Derived.Test.YticchmjgonkcjaaGreatDoorED
namespace Go.Ax
set_option linter.all false
variable {n d : Nat}
set_option maxRecDepth 10000
set_option linter.unusedSimpArgs false
set_option maxHeartbeats 16000000
theorem loopL_or {α β ρ : Type} (p : β → Prop) [DecidablePred p] (e : α → ρ) (g : α → β → α) (fin : α → ρ) : ∀ (l : List β) (a : α),
  ((∃ x ∈ l, p x) ∧ ∃ b, loopL (fun a x => if p x then .inr (e a) else .inl (g a x)) fin l a = e b) ∨ ((∀ x ∈ l, ¬ p x) ∧ loopL (fun a x => if p x then .inr (e a) else .inl (g a x)) fin l a = fin (l.foldl g a))
 | [], a => .inr ⟨(fun x h => by cases h), rfl⟩
 | x :: r, a => by
  simp only [loopL]
  by_cases h : p x
  ·exact .inl ⟨⟨x, by simp, h⟩, a, by rw [if_pos h]⟩
  ·rw [if_neg h]
   rcases loopL_or p e g fin r (g a x) with ⟨⟨y, hy, h1⟩, h2⟩ | ⟨h1, h2⟩
   ·exact .inl ⟨⟨y, by simp [hy], h1⟩, h2⟩
   ·refine .inr ⟨fun y hy => ?_, h2⟩
    rcases List.mem_cons.1 hy with rfl | hy
    ·exact h
    ·exact h1 y hy
def g_rs (mk : Mark) (a : List Mark × Bool) (x : Mark) : List Mark × Bool := if mk.node < x.node ∧ a.2 = false then (a.1 ++ [mk, x], true) else (a.1 ++ [x], a.2)
theorem g_rs_fold (mk : Mark) (up : Mark → Bool) (l : List Mark) (hs : l.Pairwise (fun a b => a.node < b.node)) (hne : ∀ x ∈ l, x.node ≠ mk.node) :
  (l.foldl (g_rs mk) ([], false)).1 ++ (if (l.foldl (g_rs mk) ([], false)).2 = true then [] else [mk]) = putL (·.node) up mk l := by
 have : ∀ (l : List Mark) (a : List Mark × Bool), (∀ x ∈ l, x.node ≠ mk.node) → l.foldl (g_rs mk) a = l.foldl (putF (·.node) up mk) a := by
  intro l
  induction l with
  | nil => intro a _; rfl
  | cons x r ih =>
   intro a h
   have h1 := h x (by simp)
   have h2 : g_rs mk a x = putF (·.node) up mk a x := by unfold g_rs putF; rw [if_neg h1]
   rw [List.foldl_cons, List.foldl_cons, h2]
   exact ih _ (fun y hy => h y (by simp [hy]))
 rw [this l _ hne]
 have := putF_fold (fun x : Mark => x.node) up mk l [] hs
 simpa using this
abbrev arrSd2 (l : List Send) : Blk := .arr 98 19 false false (l.map encSd)
def H_rs (c : Cfg) (t : State) (m : Msg) (L : List Send) (a : List Mark) : List Blk := [boxC c, boxMsg m, boxZ, boxS t, arrSd2 L, .arr 86 3 true false (a.map encMark)]
def S_rs (c : Cfg) (t : State) (m : Msg) (L : List Send) (k : Int) (i : Nat) (a : List Mark × Bool) : St := ⟨[(3, .ptr 0 0), (5, .ptr 1 0), (6, .ptr 2 0), (9, .ptr 3 0), (12, .own 4 0 L.length), (13, .dat (di k)), (14, .own 5 0 a.1.length), (15, .dat (.bool a.2)), (16, .dat (di i))], H_rs c t m L a.1⟩
theorem l_rs (cf : CallF) (c : Cfg) (t : State) (m : Msg) (L : List Send) (k : Int) (hl : t.marks.length ≤ 7) (hv : 0 ≤ m.node ∧ m.node < t.vector.length) (hn : 1048577 < n) :
  ((∃ x ∈ t.marks, x.node = m.node) ∧ ∃ a : List Mark, loopAt (XCode.run cf n 0 xf_ref11_Start_b0) (headOf 0 xf_ref11_Start_k0) n (S_rs c t m L k 0 ([], false)) = some (.ret, ⟨[(6, .ptr 2 0), (7, .own 4 0 L.length), (8, .dat (di 0))], [boxC c, boxMsg m, boxS t, boxS t, arrSd2 L, .arr 86 3 true false (a.map encMark)]⟩)) ∨
  ((∀ x ∈ t.marks, ¬ x.node = m.node) ∧ loopAt (XCode.run cf n 0 xf_ref11_Start_b0) (headOf 0 xf_ref11_Start_k0) n (S_rs c t m L k 0 ([], false)) = some (.exit 0, ⟨[(3, .ptr 0 0), (5, .ptr 1 0), (6, .ptr 2 0), (9, .ptr 3 0), (12, .own 4 0 L.length), (13, .dat (di k)), (14, .own 5 0 (t.marks.foldl (g_rs (markOf t m.node)) ([], false)).1.length), (15, .dat (.bool (t.marks.foldl (g_rs (markOf t m.node)) ([], false)).2))], H_rs c t m L (t.marks.foldl (g_rs (markOf t m.node)) ([], false)).1⟩)) := by
 have hvn : m.node.toNat < t.vector.length := by omega
 have hd : drawAt t m.node = t.vector[m.node.toNat] := by simp [drawAt, List.getD, hvn]
 have main := loop_list (body := XCode.run cf n 0 xf_ref11_Start_b0) (head := headOf 0 xf_ref11_Start_k0) (S_rs c t m L k) (fun i a => a.1.length ≤ i + 1 ∧ (a.2 = false → a.1.length ≤ i)) t.marks
  (fun a x => if x.node = m.node then .inr ((fun (a : List Mark × Bool) => (Ex.ret, (⟨[(6, .ptr 2 0), (7, .own 4 0 L.length), (8, .dat (di 0))], [boxC c, boxMsg m, boxS t, boxS t, arrSd2 L, .arr 86 3 true false (a.1.map encMark)]⟩ : St))) a) else .inl (g_rs (markOf t m.node) a x))
  (fun a => (.exit 0, ⟨[(3, .ptr 0 0), (5, .ptr 1 0), (6, .ptr 2 0), (9, .ptr 3 0), (12, .own 4 0 L.length), (13, .dat (di k)), (14, .own 5 0 a.1.length), (15, .dat (.bool a.2))], H_rs c t m L a.1⟩)) (fun i a hi hI => ?_) (fun a hI => ⟨?_, fun s h => by cases h⟩) t.marks.length n 0 ([], false) (by omega) (by omega) (by simp)
 ·rw [List.drop_zero] at main
  rcases loopL_or (fun x : Mark => x.node = m.node) (fun (a : List Mark × Bool) => (Ex.ret, (⟨[(6, .ptr 2 0), (7, .own 4 0 L.length), (8, .dat (di 0))], [boxC c, boxMsg m, boxS t, boxS t, arrSd2 L, .arr 86 3 true false (a.1.map encMark)]⟩ : St))) (g_rs (markOf t m.node))
   (fun a => (Ex.exit 0, (⟨[(3, .ptr 0 0), (5, .ptr 1 0), (6, .ptr 2 0), (9, .ptr 3 0), (12, .own 4 0 L.length), (13, .dat (di k)), (14, .own 5 0 a.1.length), (15, .dat (.bool a.2))], H_rs c t m L a.1⟩ : St))) t.marks ([], false) with ⟨h1, b, h2⟩ | ⟨h1, h2⟩
  ·rw [h2] at main; exact .inl ⟨h1, b.1, main⟩
  ·rw [h2] at main; exact .inr ⟨h1, main⟩
 ·have hi' : (i : Int) < t.marks.length := by omega
  have hw := wrap_i i (by omega)
  obtain ⟨I1, I2⟩ := hI
  obtain ⟨A, b⟩ := a
  simp only at I1 I2
  by_cases q1 : t.marks[i].node = m.node
  ·rw [if_pos q1]
   have q1' := eq_true q1
   refine ⟨?_, fun s h => by cases h⟩
   simp [xf_ref11_Start_b0, S_rs, H_rs, hi, hi', q1']
  ·rw [if_neg q1]
   have q1' := eq_false q1
   have hL1 : A.length + 1 ≤ LIM := by simp only [LIM]; omega
   have hL2 : A.length + 1 + 1 ≤ LIM := by simp only [LIM]; omega
   have hmk : markOf t m.node = ⟨m.node, t.vector[m.node.toNat]⟩ := by unfold markOf; rw [hd]
   unfold g_rs
   rw [hmk]
   by_cases q2 : m.node < t.marks[i].node
   ·cases b
    ·simp only [q2, and_self, if_true]
     refine ⟨by simp; have := I2 rfl; omega, nextK_some ?_⟩
     simp [xf_ref11_Start_b0, xf_ref11_Start_k0, S_rs, H_rs, hi, hi', hw, q1', q2, hL1, hL2, hvn, hv]
    ·simp only [q2, true_and, Bool.true_eq_false, if_false]
     refine ⟨by simp; omega, nextK_some ?_⟩
     simp [xf_ref11_Start_b0, xf_ref11_Start_k0, S_rs, H_rs, hi, hi', hw, q1', q2, hL1, hvn, hv]
   ·simp only [q2, false_and, if_false]
    refine ⟨by simp; exact ⟨by omega, fun h => I2 h⟩, nextK_some ?_⟩
    simp [xf_ref11_Start_b0, xf_ref11_Start_k0, S_rs, H_rs, hi, hi', hw, q1', q2, hL1, hvn, hv]
 ·simp [xf_ref11_Start_b0, S_rs, H_rs]
end Go.Ax
namespace Go.Ax
set_option linter.all false
variable {n d : Nat}
set_option maxRecDepth 10000
set_option linter.unusedSimpArgs false
set_option maxHeartbeats 16000000
theorem allR_small2 {c : Cfg} {s : State} {m : Msg} (hs : Small2 s) (hm : SmallM m) : (allR c s m).length ≤ 1048577 ∧ ∀ x ∈ allR c s m, SmallM x.msg := by
 unfold allR
 split
 ·exact allS_small hs hm
 ·simp
theorem svc_small2 (v : Int) : SmallM (svcM v) := ⟨by simp [svcM, zeroM], by simp [svcM, zeroM]⟩
theorem putMark_same {c : Cfg} {t : State} (h : stateErr c t = 0) {k : Int} (hx : ∃ x ∈ t.marks, x.node = k) : putMark t.marks (markOf t k) = t.marks := by
 obtain ⟨x, hx, he⟩ := hx
 obtain ⟨j, hj, rfl⟩ := List.mem_iff_getElem.1 hx
 have hs := (sorted_of h).1
 have hv := ((votes_of h).marks _ hx).2.2
 have := putL_same (fun x : Mark => x.node) (upMark (markOf t k)) (markOf t k) t.marks j hj hs he
 unfold putMark
 rw [this]
 have hu : upMark (markOf t k) t.marks[j] = false := by
  unfold upMark markOf drawAt
  rw [← he, hv, cmp_self]
  rfl
 rw [hu]
 simp only [Bool.false_eq_true, if_false]
 rw [← List.drop_eq_getElem_cons hj, List.take_append_drop]
theorem putMark_new {t : State} {k : Int} (hne : ∀ x ∈ t.marks, x.node ≠ k) : (putMark t.marks (markOf t k)).length = t.marks.length + 1 := by
 have : ∀ (l : List Mark), (∀ x ∈ l, x.node ≠ k) → (putL (fun x : Mark => x.node) (upMark (markOf t k)) (markOf t k) l).length = l.length + 1 := by
  intro l
  induction l with
  | nil => intro _; rfl
  | cons x r ih =>
   intro h
   have h1 : ¬ x.node = (markOf t k).node := h x (by simp)
   simp only [putL, if_neg h1]
   split
   ·simp
   ·simp only [List.length_cons, ih (fun y hy => h y (by simp [hy]))]
 exact this _ hne
theorem e_ref11_Start (c : Cfg) (s : State) (m : Msg) (hs : Small2 s) (hm : SmallM m) (hn : 2097157 < n) :
  runFn T n (d + 10) 10 [.dat (encCfg c), .dat (encS s), .dat (encM m)] [] = some (.tup [.dat (encS (callS 6 c s m)), .dat (encSds (callL 6 c s m)), .dat (di (kErr c s m 6))], []) := by
 have ad := e_ref11_admitted (n := n) (d := d) c s m 6 hs.toSmall (by have := hm.log; omega) (by omega)
 rw [runFn_succ]
 unfold callS callL
 by_cases hk : kErr c s m 6 = 0
 ·have hke : stateErr c s = 0 ∧ m.kind = 6 ∧ msgErr c m = 0 := by
   unfold kErr at hk
   split at hk
   ·rename_i h; exact absurd hk h
   ·split at hk
    ·simp at hk
    ·rename_i h1 h2; exact ⟨by simpa using h1, by simpa using h2, hk⟩
  obtain ⟨he, hkd, hme⟩ := hke
  rw [hk] at ad ⊢
  simp only [ne_eq, not_true_eq_false, if_false] at ad ⊢
  have hok := admS_ok he hme
  have hsm := hs.adm he hme
  have hnod := nodes_ok hok
  obtain ⟨gc, gn1, gn2, gv1, gv2, _⟩ := msg_nums hme
  have hsort := (sorted_of hok).1
  have hshort := (nodes_short hok).1
  generalize admS c s m = t at *
  generalize admB c s m = B at *
  obtain ⟨_, g1, g2, g3, _⟩ := hnod
  simp only [NN] at g1 g3 gn2
  have hvn : m.node.toNat < t.vector.length := by omega
  have hvn' : m.node < t.vector.length := by omega
  cases B
  ·simp [T, xf_ref11_Start, ad]
  ·simp only [Bool.true_eq_false, if_false]
   unfold stepS stepL
   by_cases h3 : t.status = 3
   ·have h3' := eq_true h3
    rw [if_pos (.inl h3), if_pos (.inl h3)]
    simp [T, xf_ref11_Start, ad, h3']
   ·have h3' := eq_false h3
    by_cases hst : stale t m
    ·rw [if_pos (.inr hst), if_pos (.inr hst)]
     by_cases v1 : m.view < t.view
     ·simp [T, xf_ref11_Start, ad, h3', v1]
     ·have v2 : m.view = t.view ∧ t.status = 1 := by unfold stale at hst; rcases hst with h | h; exact absurd h v1; exact h
      have v2' := eq_true v2.1
      have v3' := eq_true v2.2
      simp [T, xf_ref11_Start, ad, h3', v1, v2', v3']
    ·have hns : ¬ (t.status = 3 ∨ stale t m) := fun h => h.elim h3 hst
     rw [if_neg hns, if_neg hns, if_pos rfl, if_pos rfl]
     have v1 : ¬ m.view < t.view := fun h => hst (.inl h)
     have hd : drawAt t m.node = t.vector[m.node.toNat] := by simp [drawAt, List.getD, hvn]
     have hmk : markOf t m.node = ⟨m.node, t.vector[m.node.toNat]⟩ := by unfold markOf; rw [hd]
     have hf13 : 1 ≤ c.f ∧ c.f ≤ 3 := by unfold cfgOk at gc; omega
     have hwf := wrap_small (x := c.f - 1) (by omega)
     by_cases v2 : m.view = t.view
     ·have v3 : ¬ t.status = 1 := fun h => hst (.inr ⟨v2, h⟩)
      have v2' := eq_true v2
      have v3' := eq_false v3
      have v4 : ¬ t.view < m.view := by omega
      have hf : firstS2 c t m = t := by unfold firstS2; rw [if_neg v4]
      have hfl : firstL c t m = [] := by unfold firstL; rw [if_neg v4]
      rcases l_rs (n := n) (runFn T n (d + 9)) c t m [] t.marks.length hshort ⟨gn1, hvn'⟩ (by omega) with ⟨hex, A, hl⟩ | ⟨hne, hl⟩
      ·have hSS : startS c t m = t := by unfold startS; rw [hf, putMark_same hok hex]
       have hSL : startL c t m = [] := by
        unfold startL
        rw [hfl, hf, hSS, if_neg (fun h => h.1 h.2)]
        rfl
       rw [hSS, hSL]
       simp [S_rs, H_rs, arrSd2, boxMsg, boxZ, boxS, boxC, xf_ref11_Start_k0] at hl
       simp [T, xf_ref11_Start, xf_ref11_Start_k0, ad, h3', v1, v2', v3', v4, hl]
      ·have hf2 := g_rs_fold (markOf t m.node) (upMark (markOf t m.node)) t.marks hsort hne
       have hlenP := putMark_new hne
       have hSS : startS c t m = { t with marks := putMark t.marks (markOf t m.node) } := by unfold startS; rw [hf]
       have hSL : startL c t m = if (t.marks.length : Int) = c.f - 1 then ballL c { t with marks := putMark t.marks (markOf t m.node) } else [] := by
        unfold startL
        rw [hfl, hf, hSS]
        simp only [List.nil_append, hlenP]
        by_cases hq : (t.marks.length : Int) = c.f - 1
        ·rw [if_pos ⟨by omega, by omega⟩, if_pos hq]
        ·rw [if_neg (by omega), if_neg hq]
       rw [hSS, hSL]
       rw [show putL (fun x : Mark => x.node) (upMark (markOf t m.node)) (markOf t m.node) t.marks = putMark t.marks (markOf t m.node) from rfl] at hf2
       have hPl : (putMark t.marks (markOf t m.node)).length ≤ 8 := by omega
       have hsv : Small2 { t with marks := putMark t.marks (markOf t m.node) } := ⟨⟨hsm.log, hsm.vector, hsm.acks, by simp only; omega, hsm.ballots, hsm.answers, hsm.blogs, hsm.alogs⟩, hsm.log2, hsm.vector2, hsm.blogs2, hsm.alogs2⟩
       have bal := e_ref11_ballot (n := n) (d := d) c { t with marks := putMark t.marks (markOf t m.node) } hsv (by omega)
       generalize putMark t.marks (markOf t m.node) = P at *
       generalize hfo : List.foldl (g_rs (markOf t m.node)) ([], false) t.marks = a at *
       obtain ⟨A, b⟩ := a
       simp only at hf2 hl
       have hbl : (ballL c { t with marks := P }).length ≤ 1 := by unfold ballL; split <;> simp
       generalize ballL c { t with marks := P } = BL at *
       have hBL : BL.length ≤ LIM := by simp only [LIM]; omega
       simp [S_rs, H_rs, arrSd2, boxMsg, boxZ, boxS, boxC, xf_ref11_Start_k0] at hl
       cases b
       ·simp only [Bool.false_eq_true, if_false] at hf2
        rw [hmk] at hf2
        subst hf2
        have hL1 : A.length + 1 ≤ LIM := by simp at hPl; simp only [LIM]; omega
        simp [encS, cellsS, encMarks] at bal
        by_cases hq : (t.marks.length : Int) = c.f - 1
        ·rw [if_pos hq]
         have hq' := eq_true hq
         simp [T, xf_ref11_Start, xf_ref11_Start_k0, ad, h3', v1, v2', v3', v4, hl, hvn, hvn', gn1, hL1, hwf, hq', take_snoc, bal, hBL]
        ·rw [if_neg hq]
         have hq' := eq_false hq
         simp [T, xf_ref11_Start, xf_ref11_Start_k0, ad, h3', v1, v2', v3', v4, hl, hvn, hvn', gn1, hL1, hwf, hq', take_snoc]
       ·simp only [if_true, List.append_nil] at hf2
        subst hf2
        by_cases hq : (t.marks.length : Int) = c.f - 1
        ·rw [if_pos hq]
         have hq' := eq_true hq
         simp [T, xf_ref11_Start, xf_ref11_Start_k0, ad, h3', v1, v2', v3', v4, hl, hwf, hq', bal, hBL]
        ·rw [if_neg hq]
         have hq' := eq_false hq
         simp [T, xf_ref11_Start, xf_ref11_Start_k0, ad, h3', v1, v2', v3', v4, hl, hwf, hq']
     ·have v4 : t.view < m.view := by omega
      have v2' := eq_false v2
      have hf : firstS2 c t m = goS t m.view := by unfold firstS2; rw [if_pos v4]
      have hfl : firstL c t m = goL c t m.view := by unfold firstL; rw [if_pos v4]
      have hmg : (⟨m.node, t.vector[m.node.toNat]⟩ : Mark) = markOf (goS t m.view) m.node := by unfold markOf; rw [show drawAt (goS t m.view) m.node = drawAt t m.node from rfl, hd]
      have hSS : startS c t m = { goS t m.view with marks := [⟨m.node, t.vector[m.node.toNat]⟩] } := by
       unfold startS
       rw [hf, hmk]
       simp [putMark, goS, putL]
      have hSL : startL c t m = goL c t m.view ++ (if (0 : Int) = c.f - 1 then ballL c { goS t m.view with marks := [⟨m.node, t.vector[m.node.toNat]⟩] } else []) := by
       unfold startL
       rw [hfl, hf, hSS]
       congr 1
       have e1 : ((goS t m.view).marks.length : Int) = 0 := rfl
       have e2 : (([⟨m.node, t.vector[m.node.toNat]⟩] : List Mark).length : Int) = 1 := rfl
       by_cases hq : (0 : Int) = c.f - 1
       ·rw [if_pos hq, if_pos ⟨by rw [e1]; omega, by simp only [e2]; omega⟩]
       ·rw [if_neg hq, if_neg (fun h => hq (by have h2 := h.2; simp only [e2] at h2; omega))]
      rw [hSL, hSS]
      have hgs := go_small2 hsm m.view
      have hgo := go_ok hok (view := m.view) ⟨v4, gv2⟩
      have hgl : (goL c t m.view).length ≤ 1048577 := (allR_small2 (c := c) hgs (svc_small2 m.view)).1
      have g := e_ref11_goTo (n := n) (d := d) c t m.view hsm (by omega) hgo
      have hsv : Small2 { goS t m.view with marks := [⟨m.node, t.vector[m.node.toNat]⟩] } := ⟨⟨hgs.log, hgs.vector, hgs.acks, by simp, hgs.ballots, hgs.answers, hgs.blogs, hgs.alogs⟩, hgs.log2, hgs.vector2, hgs.blogs2, hgs.alogs2⟩
      have bal := e_ref11_ballot (n := n) (d := d) c { goS t m.view with marks := [⟨m.node, t.vector[m.node.toNat]⟩] } hsv (by omega)
      have hbl : (ballL c { goS t m.view with marks := [⟨m.node, t.vector[m.node.toNat]⟩] }).length ≤ 1 := by unfold ballL; split <;> simp
      have hl := l_rs (n := n) (runFn T n (d + 9)) c (goS t m.view) m (goL c t m.view) 0 (by simp [goS]) ⟨gn1, hvn'⟩ (by omega)
      generalize goL c t m.view = L at *
      generalize ballL c { goS t m.view with marks := [⟨m.node, t.vector[m.node.toNat]⟩] } = BL at *
      have hBL : L.length + BL.length ≤ LIM := by simp only [LIM]; omega
      rcases hl with ⟨⟨x, hx, _⟩, _⟩ | ⟨_, hl⟩
      ·simp [goS] at hx
      ·simp [S_rs, H_rs, arrSd2, boxMsg, boxZ, boxS, boxC, xf_ref11_Start_k0, goS, encMarks, encAcks, encBals, encAnss] at hl
       simp [goS, encS, cellsS, encAcks, encMarks, encBals, encAnss] at g bal
       by_cases hq : (0 : Int) = c.f - 1
       ·rw [if_pos hq]
        have hq' := eq_true hq
        simp (maxSteps := 1000000) [T, xf_ref11_Start, xf_ref11_Start_k0, ad, h3', v1, v2', v4, g, hl, hvn, hvn', gn1, hwf, hq', bal, hBL, take_snoc, goS]
        exact List.take_of_length_le (by simp)
       ·rw [if_neg hq]
        have hq' := eq_false hq
        simp (maxSteps := 1000000) [T, xf_ref11_Start, xf_ref11_Start_k0, ad, h3', v1, v2', v4, g, hl, hvn, hvn', gn1, hwf, hq', take_snoc, goS]
 ·simp only [ne_eq, hk, not_false_eq_true, if_true] at ad ⊢
  generalize kErr c s m 6 = K at *
  simp [T, xf_ref11_Start, ad, hk, zeroS]
end Go.Ax
namespace Go.Ax
set_option linter.all false
variable {n d : Nat}
set_option maxRecDepth 10000
set_option linter.unusedSimpArgs false
set_option maxHeartbeats 8000000
theorem e_mark_above (v x : Mark) : runFn T n (d + 2) 200 [.dat (encMark v), .dat (encMark x)] [] = some (.dat (.bool false), []) := by
 rw [runFn_succ]; simp [T, xf_tally_mark_above]
def abMark (v x : Mark) : Bool := false
abbrev bxv_mark (x : Mark) : Blk := .box [.dat (di x.node), .dat (du x.draw.hi), .dat (du x.draw.lo)]
def upv_mark (v x : Mark) : Bool := decide (0 < cmp v.draw x.draw) || decide (cmp v.draw x.draw = 0) && abMark v x
theorem p0_mark (l : List Mark) (v : Mark) (hl : l.length ≤ 1048577) (hn : 1048577 < n) :
  (∃ j, ∃ hj : j < l.length, l[j].node = v.node ∧ loopAt (XCode.run (runFn T n (d + 2)) n 0 xf_tally_box_mark_put_b0) (headOf 0 xf_tally_box_mark_put_k0) n ⟨[(2, .ptr 0 0), (3, .ptr 1 0), (5, .dat (di l.length)), (6, .dat (.bool false)), (19, .dat (encMarks l)), (20, .dat (di l.length)), (21, .dat (di 0))], [.box [.dat (encMarks l)], bxv_mark v]⟩ = some (.exit 0, ⟨[(2, .ptr 0 0), (3, .ptr 1 0), (5, .dat (di j)), (6, .dat (.bool true))], [.box [.dat (encMarks l)], bxv_mark v, bxv_mark l[j]]⟩)) ∨
  ((∀ x ∈ l, x.node ≠ v.node) ∧ loopAt (XCode.run (runFn T n (d + 2)) n 0 xf_tally_box_mark_put_b0) (headOf 0 xf_tally_box_mark_put_k0) n ⟨[(2, .ptr 0 0), (3, .ptr 1 0), (5, .dat (di l.length)), (6, .dat (.bool false)), (19, .dat (encMarks l)), (20, .dat (di l.length)), (21, .dat (di 0))], [.box [.dat (encMarks l)], bxv_mark v]⟩ = some (.exit 0, ⟨[(2, .ptr 0 0), (3, .ptr 1 0), (5, .dat (di l.length)), (6, .dat (.bool false))], [.box [.dat (encMarks l)], bxv_mark v]⟩)) := by
 have main := loop_until (body := XCode.run (runFn T n (d + 2)) n 0 xf_tally_box_mark_put_b0) (head := headOf 0 xf_tally_box_mark_put_k0) (fun i => ⟨[(2, .ptr 0 0), (3, .ptr 1 0), (5, .dat (di l.length)), (6, .dat (.bool false)), (19, .dat (encMarks l)), (20, .dat (di l.length)), (21, .dat (di i))], [.box [.dat (encMarks l)], bxv_mark v]⟩) l.length (.exit 0, ⟨[(2, .ptr 0 0), (3, .ptr 1 0), (5, .dat (di l.length)), (6, .dat (.bool false))], [.box [.dat (encMarks l)], bxv_mark v]⟩) (fun i => (l[i]?.map (·.node)) = some v.node)
  (fun i => (.exit 0, ⟨[(2, .ptr 0 0), (3, .ptr 1 0), (5, .dat (di i)), (6, .dat (.bool true))], [.box [.dat (encMarks l)], bxv_mark v, bxv_mark (l.getD i default)]⟩)) (fun i hi hs => nextK_some ?_) (fun i hi hs => ⟨?_, fun s h => by cases h⟩) ?_ (fun s h => by cases h) l.length n 0 (by omega) (by omega)
 ·rcases main with ⟨j, _, hj, hs, _, e⟩ | ⟨hs, e⟩
  ·refine .inl ⟨j, hj, by simpa [hj] using hs, ?_⟩
   have hg : l.getD j default = l[j] := by simp [List.getD, hj]
   rw [hg] at e
   exact e
  ·refine .inr ⟨fun x hx h => ?_, e⟩
   obtain ⟨j, hj, rfl⟩ := List.mem_iff_getElem.1 hx
   exact hs j (Nat.zero_le _) hj (by simp [hj, h])
 ·have hi' : (i : Int) < l.length := by omega
  have hw := wrap_i i (by omega)
  have e1 := e_mark_node (n := n) (d := d + 1) l[i]
  have e2 := e_mark_node (n := n) (d := d + 1) v
  have hs' : ¬ l[i].node = v.node := by simpa [hi] using hs
  simp [xf_tally_box_mark_put_b0, xf_tally_box_mark_put_k0, hi, hi', hw, e1, e2, hs']
 ·have hi' : (i : Int) < l.length := by omega
  have e1 := e_mark_node (n := n) (d := d + 1) l[i]
  have e2 := e_mark_node (n := n) (d := d + 1) v
  have hs' : l[i].node = v.node := by simpa [hi] using hs
  have hs'' := eq_true hs'
  simp [xf_tally_box_mark_put_b0, hi, hi', e1, e2, hs'']
 ·simp [xf_tally_box_mark_put_b0]
theorem p1_mark (l : List Mark) (v : Mark) (hl : l.length ≤ 1048577) (hn : 1048577 < n) : ∃ j H, j ≤ l.length ∧ (∀ q (hq : q < l.length), q < j → ¬ v.node < l[q].node) ∧ (∀ hq : j < l.length, v.node < l[j].node) ∧
  loopAt (XCode.run (runFn T n (d + 2)) n 0 xf_tally_box_mark_put_b1) (headOf 0 xf_tally_box_mark_put_k1) n ⟨[(2, .ptr 0 0), (3, .ptr 1 0), (5, .dat (di l.length)), (6, .dat (.bool false)), (38, .dat (encMarks l)), (39, .dat (di l.length)), (40, .dat (di 0))], [.box [.dat (encMarks l)], bxv_mark v]⟩ = some (.exit 2, ⟨[(2, .ptr 0 0), (3, .ptr 1 0), (5, .dat (di j)), (6, .dat (.bool false))], H⟩) ∧ (H = [.box [.dat (encMarks l)], bxv_mark v] ∨ ∃ x, H = [.box [.dat (encMarks l)], bxv_mark v, bxv_mark x]) := by
 have main := loop_until (body := XCode.run (runFn T n (d + 2)) n 0 xf_tally_box_mark_put_b1) (head := headOf 0 xf_tally_box_mark_put_k1) (fun i => ⟨[(2, .ptr 0 0), (3, .ptr 1 0), (5, .dat (di l.length)), (6, .dat (.bool false)), (38, .dat (encMarks l)), (39, .dat (di l.length)), (40, .dat (di i))], [.box [.dat (encMarks l)], bxv_mark v]⟩) l.length (.exit 2, ⟨[(2, .ptr 0 0), (3, .ptr 1 0), (5, .dat (di l.length)), (6, .dat (.bool false))], [.box [.dat (encMarks l)], bxv_mark v]⟩) (fun i => ∃ h : i < l.length, v.node < l[i].node)
  (fun i => (.exit 2, ⟨[(2, .ptr 0 0), (3, .ptr 1 0), (5, .dat (di i)), (6, .dat (.bool false))], [.box [.dat (encMarks l)], bxv_mark v, bxv_mark (l.getD i default)]⟩)) (fun i hi hs => nextK_some ?_) (fun i hi hs => ⟨?_, fun s h => by cases h⟩) ?_ (fun s h => by cases h) l.length n 0 (by omega) (by omega)
 ·rcases main with ⟨j, _, hj, ⟨_, hs⟩, hq, e⟩ | ⟨hs, e⟩
  ·exact ⟨j, _, by omega, fun q h1 h2 h3 => hq q (Nat.zero_le _) h2 ⟨h1, h3⟩, fun _ => hs, e, .inr ⟨_, rfl⟩⟩
  ·exact ⟨l.length, _, Nat.le_refl _, fun q h1 h2 h3 => hs q (Nat.zero_le _) h1 ⟨h1, h3⟩, fun h => absurd h (by omega), e, .inl rfl⟩
 ·have hi' : (i : Int) < l.length := by omega
  have hw := wrap_i i (by omega)
  have e1 := e_mark_node (n := n) (d := d + 1) l[i]
  have e2 := e_mark_node (n := n) (d := d + 1) v
  have hs' : ¬ v.node < l[i].node := fun h => hs ⟨hi, h⟩
  simp [xf_tally_box_mark_put_b1, xf_tally_box_mark_put_k1, hi, hi', hw, e1, e2, hs']
 ·have hi' : (i : Int) < l.length := by omega
  have e1 := e_mark_node (n := n) (d := d + 1) l[i]
  have e2 := e_mark_node (n := n) (d := d + 1) v
  obtain ⟨_, hs'⟩ := hs
  simp [xf_tally_box_mark_put_b1, hi, hi', e1, e2, hs']
 ·simp [xf_tally_box_mark_put_b1]
def S_p2_mark (l : List Mark) (v : Mark) (at_ : Int) (b : Bool) (out : List Mark) (i : Nat) : St := ⟨[(2, .ptr 0 0), (3, .ptr 1 0), (5, .dat (di at_)), (6, .dat (.bool b)), (11, .own 2 0 out.length), (55, .dat (encMarks l)), (56, .dat (di l.length)), (57, .dat (di i))], [.box [.dat (encMarks l)], bxv_mark v, .arr 209 3 true false (out.map encMark)]⟩
theorem p2s_mark (l : List Mark) (v : Mark) (hl : l.length ≤ 1048577) (j : Nat) (hj : j < l.length) (hn : 1048577 < n) :
  loopAt (XCode.run (runFn T n (d + 2)) n 0 xf_tally_box_mark_put_b2) (headOf 0 xf_tally_box_mark_put_k2) n (S_p2_mark l v j true [] 0) = some (.exit 4, ⟨[(2, .ptr 0 0), (3, .ptr 1 0), (5, .dat (di j)), (11, .own 2 0 l.length)], (S_p2_mark l v j true (l.set j (if upv_mark v l[j] then v else l[j])) 0).H⟩) := by
 have hlen : ∀ i, i ≤ l.length → ((l.set j (if upv_mark v l[j] then v else l[j])).take i).length = i := fun i hi => by simp; omega
 have main := loop_for (body := XCode.run (runFn T n (d + 2)) n 0 xf_tally_box_mark_put_b2) (head := headOf 0 xf_tally_box_mark_put_k2) (fun i => S_p2_mark l v j true ((l.set j (if upv_mark v l[j] then v else l[j])).take i) i) l.length (.exit 4, ⟨[(2, .ptr 0 0), (3, .ptr 1 0), (5, .dat (di j)), (11, .own 2 0 l.length)], (S_p2_mark l v j true (l.set j (if upv_mark v l[j] then v else l[j])) 0).H⟩) (fun i hi => nextK_some ?_) ?_ (fun s h => by simp [S_p2_mark] at h) n (by omega)
 ·rw [List.take_zero] at main; exact main
 ·have hi' : (i : Int) < l.length := by omega
  have hw := wrap_i i (by omega)
  have hL : i + 1 ≤ LIM := by simp only [LIM]; omega
  have hsn : (l.set j (if upv_mark v l[j] then v else l[j])).take (i + 1) = (l.set j (if upv_mark v l[j] then v else l[j])).take i ++ [(l.set j (if upv_mark v l[j] then v else l[j]))[i]'(by simp; omega)] := List.take_succ_eq_append_getElem (by simp; omega)
  rw [hsn]
  have hl0 := hlen i (by omega)
  have e3 := e_mark_fresh (n := n) (d := d + 1) l[i]
  have e4 := e_mark_fresh (n := n) (d := d + 1) v
  by_cases hij : i = j
  ·subst hij
   have e5 := e_mark_draw (n := n) (d := d + 1) l[i]
   have e6 := e_mark_draw (n := n) (d := d + 1) v
   have e7 := p43 (n := n) (d := d + 1) v.draw l[i].draw
   have e8 := e_mark_above (n := n) (d := d) v l[i]
   have hget : (l.set i (if upv_mark v l[i] then v else l[i]))[i]'(by simp; omega) = (if upv_mark v l[i] then v else l[i]) := by simp
   rw [hget]
   generalize (l.set i (if upv_mark v l[i] then v else l[i])).take i = out at hl0 ⊢
   unfold upv_mark
   by_cases c1 : 0 < cmp v.draw l[i].draw
   ·simp [xf_tally_box_mark_put_b2, xf_tally_box_mark_put_k2, S_p2_mark, hi, hi', hw, hL, hl0, e3, e4, e5, e6, e7, c1]
   ·by_cases c2 : cmp v.draw l[i].draw = 0
    ·have c2' := eq_true c2
     cases c3 : abMark v l[i]
     ·(try rw [c3] at e8)
      simp [xf_tally_box_mark_put_b2, xf_tally_box_mark_put_k2, S_p2_mark, hi, hi', hw, hL, hl0, e3, e4, e5, e6, e7, e8, c1, c2', c3]
     ·(try rw [c3] at e8)
      (try cases c3)
      try simp [xf_tally_box_mark_put_b2, xf_tally_box_mark_put_k2, S_p2_mark, hi, hi', hw, hL, hl0, e3, e4, e5, e6, e7, e8, c1, c2', c3]
    ·have c2' := eq_false c2
     simp [xf_tally_box_mark_put_b2, xf_tally_box_mark_put_k2, S_p2_mark, hi, hi', hw, hL, hl0, e3, e4, e5, e6, e7, c1, c2']
  ·have hget : (l.set j (if upv_mark v l[j] then v else l[j]))[i]'(by simp; omega) = l[i] := by rw [List.getElem_set_ne (by omega)]
   rw [hget]
   generalize (l.set j (if upv_mark v l[j] then v else l[j])).take i = out at hl0 ⊢
   have hij' := eq_false hij
   have hij2 : ((i : Int) = j) = False := eq_false (by omega)
   simp [xf_tally_box_mark_put_b2, xf_tally_box_mark_put_k2, S_p2_mark, hi, hi', hw, hL, hl0, e3, hij', hij2]
 ·have := hlen l.length (Nat.le_refl _)
  rw [List.take_of_length_le (by simp)]
  simp [xf_tally_box_mark_put_b2, S_p2_mark]
def outN_mark (l : List Mark) (v : Mark) (j i : Nat) : List Mark := if i ≤ j then l.take i else l.take j ++ v :: (l.take i).drop j
theorem p2n_mark (l : List Mark) (v : Mark) (hl : l.length ≤ 1048577) (j : Nat) (hj : j ≤ l.length) (hn : 1048577 < n) :
  loopAt (XCode.run (runFn T n (d + 2)) n 0 xf_tally_box_mark_put_b2) (headOf 0 xf_tally_box_mark_put_k2) n (S_p2_mark l v j false [] 0) = some (.exit 4, ⟨[(2, .ptr 0 0), (3, .ptr 1 0), (5, .dat (di j)), (11, .own 2 0 (outN_mark l v j l.length).length)], (S_p2_mark l v j false (outN_mark l v j l.length) 0).H⟩) := by
 have main := loop_for (body := XCode.run (runFn T n (d + 2)) n 0 xf_tally_box_mark_put_b2) (head := headOf 0 xf_tally_box_mark_put_k2) (fun i => S_p2_mark l v j false (outN_mark l v j i) i) l.length (.exit 4, ⟨[(2, .ptr 0 0), (3, .ptr 1 0), (5, .dat (di j)), (11, .own 2 0 (outN_mark l v j l.length).length)], (S_p2_mark l v j false (outN_mark l v j l.length) 0).H⟩) (fun i hi => nextK_some ?_) ?_ (fun s h => by simp [S_p2_mark] at h) n (by omega)
 ·have : outN_mark l v j 0 = [] := by simp [outN_mark]
  rw [this] at main; exact main
 ·have hi' : (i : Int) < l.length := by omega
  have hw := wrap_i i (by omega)
  have hle : (outN_mark l v j i).length ≤ i + 1 := by unfold outN_mark; split <;> simp <;> omega
  have e3 := e_mark_fresh (n := n) (d := d + 1) l[i]
  have e4 := e_mark_fresh (n := n) (d := d + 1) v
  have hL : (outN_mark l v j i).length + 1 ≤ LIM := by simp only [LIM]; omega
  have hL2 : (outN_mark l v j i).length + 1 + 1 ≤ LIM := by simp only [LIM]; omega
  by_cases hij : i = j
  ·have hsn : outN_mark l v j (i + 1) = outN_mark l v j i ++ [v] ++ [l[i]] := by
    subst hij
    unfold outN_mark
    rw [if_neg (by omega), if_pos (Nat.le_refl _), List.take_succ_eq_append_getElem hi, List.drop_append_of_le_length (by simp; omega), List.drop_eq_nil_of_le (by simp; omega)]
    simp only [List.nil_append, List.append_assoc, List.singleton_append]
   rw [hsn]
   generalize outN_mark l v j i = out at *
   have hij' := eq_true hij
   subst hij
   simp [xf_tally_box_mark_put_b2, xf_tally_box_mark_put_k2, S_p2_mark, hi, hi', hw, hL, hL2, e3, e4]
  ·have hsn : outN_mark l v j (i + 1) = outN_mark l v j i ++ [l[i]] := by
    by_cases h1 : i < j
    ·unfold outN_mark
     rw [if_pos (by omega), if_pos (by omega), List.take_succ_eq_append_getElem hi]
    ·unfold outN_mark
     rw [if_neg (by omega), if_neg (by omega), List.take_succ_eq_append_getElem hi, List.drop_append_of_le_length (by simp; omega)]
     simp only [List.append_assoc, List.cons_append]
   rw [hsn]
   generalize outN_mark l v j i = out at *
   have hij' := eq_false hij
   have hij2 : ((i : Int) = j) = False := eq_false (by omega)
   simp [xf_tally_box_mark_put_b2, xf_tally_box_mark_put_k2, S_p2_mark, hi, hi', hw, hL, e3, hij', hij2]
 ·simp [xf_tally_box_mark_put_b2, S_p2_mark]
theorem e_put_mark (l : List Mark) (v : Mark) (hl : l.length ≤ 1048576) (hs : l.Pairwise (fun a b => a.node < b.node)) (hn : 1048577 < n) :
  runFn T n (d + 3) 169 [.dat (.agg [encMarks l]), .dat (encMark v)] [] = some (.dat (encMarks (putL (·.node) (upv_mark v) v l)), []) := by
 rw [runFn_succ]
 rcases p0_mark (n := n) (d := d) l v (by omega) hn with ⟨j, hj, he, e0⟩ | ⟨hne, e0⟩
 ·have e2 := p2s_mark (n := n) (d := d) l v (by omega) j hj hn
  have hput := putL_same (fun x : Mark => x.node) (upv_mark v) v l j hj hs he
  have hset : l.set j (if upv_mark v l[j] then v else l[j]) = l.take j ++ (if upv_mark v l[j] then v else l[j]) :: l.drop (j + 1) := by rw [List.set_eq_take_append_cons_drop, if_pos hj]
  rw [← hset] at hput
  rw [hput]
  have hll : (l.set j (if upv_mark v l[j] then v else l[j])).length = l.length := by simp
  generalize l.set j (if upv_mark v l[j] then v else l[j]) = out at *
  have hjl : ¬ (j : Int) = l.length := by omega
  have htk : List.take l.length (List.map encMark out) = List.map encMark out := List.take_of_length_le (by simp [hll])
  simp [S_p2_mark, xf_tally_box_mark_put_k2] at e2
  simp [xf_tally_box_mark_put_k0] at e0
  simp [T, xf_tally_box_mark_put, xf_tally_box_mark_put_k0, xf_tally_box_mark_put_k1, xf_tally_box_mark_put_k2, e0, e2, hjl, htk, hll]
 ·obtain ⟨j, H, hj, h1, h2, e1, hH⟩ := p1_mark (n := n) (d := d) l v (by omega) hn
  have e2 := p2n_mark (n := n) (d := d) l v (by omega) j hj hn
  have hput := putL_at (fun x : Mark => x.node) (upv_mark v) v l j hj (fun q hq hqj => by
   have a := h1 q hq hqj
   have b := hne l[q] (List.getElem_mem hq)
   omega) h2
  have e4 := e_mark_fresh (n := n) (d := d + 1) v
  rw [hput]
  simp [S_p2_mark, xf_tally_box_mark_put_k2] at e2
  simp [xf_tally_box_mark_put_k0] at e0
  simp [xf_tally_box_mark_put_k1] at e1
  by_cases hjl : j = l.length
  ·have ho : outN_mark l v j l.length = l := by simp [outN_mark, hjl]
   rw [ho] at e2
   have ho2 : l.take j ++ v :: l.drop j = l ++ [v] := by simp [hjl]
   rw [ho2]
   subst hjl
   have hL : l.length + 1 ≤ LIM := by simp only [LIM]; omega
   rcases hH with rfl | ⟨x, rfl⟩ <;> simp [T, xf_tally_box_mark_put, xf_tally_box_mark_put_k0, xf_tally_box_mark_put_k1, xf_tally_box_mark_put_k2, e0, e1, e2, e4, hL] <;> exact take_snoc _ _ _
  ·have ho : outN_mark l v j l.length = l.take j ++ v :: l.drop j := by simp [outN_mark, show ¬ l.length ≤ j by omega]
   rw [ho] at e2
   have hjl' : ¬ (j : Int) = l.length := by omega
   generalize l.take j ++ v :: l.drop j = out at *
   rcases hH with rfl | ⟨x, rfl⟩ <;> simp [T, xf_tally_box_mark_put, xf_tally_box_mark_put_k0, xf_tally_box_mark_put_k1, xf_tally_box_mark_put_k2, e0, e1, e2, hjl']
theorem e_Put_mark (l : List Mark) (v : Mark) (hl : l.length ≤ 1048576) (hs : l.Pairwise (fun a b => a.node < b.node)) (hn : 1048577 < n) :
  runFn T n (d + 4) 153 [.dat (encMarks l), .dat (encMark v)] [] = some (.dat (encMarks (putL (·.node) (upv_mark v) v l)), []) := by
 have h1 := e_turned_Mark_mark (n := n) (d := d + 1) l (by omega) hn
 have h2 := e_put_mark (n := n) (d := d) l v hl hs hn
 have hlen := putL_length (fun x : Mark => x.node) (upv_mark v) v l
 have h3 := e_turned_mark_Mark (n := n) (d := d + 1) (putL (fun x : Mark => x.node) (upv_mark v) v l) (by omega) hn
 rw [runFn_succ]
 simp [T, xf_tally_PutMark, h1, h2, h3]
end Go.Ax
namespace Go.Ax
set_option linter.all false
variable {n d : Nat}
set_option maxRecDepth 10000
set_option linter.unusedSimpArgs false
set_option maxHeartbeats 16000000
theorem allR_small {c : Cfg} {s : State} {m : Msg} (hs : Small2 s) (hm : SmallM m) : (allR c s m).length ≤ 1048577 ∧ ∀ x ∈ allR c s m, SmallM x.msg := by
 unfold allR
 split
 ·exact allS_small hs hm
 ·simp
theorem dvc_small {s : State} (h : Small2 s) : SmallM (dvcM s) := ⟨h.log2, by simp [dvcM, zeroM]⟩
theorem svc_small (v : Int) : SmallM (svcM v) := ⟨by simp [svcM, zeroM], by simp [svcM, zeroM]⟩
theorem adm_err0 {c : Cfg} {s : State} {m : Msg} (h : stateErr c s = 0) : admErr c s m = msgErr c m := by unfold admErr; rw [if_neg (by simp [h])]
theorem e_handle6 (c : Cfg) (s : State) (m : Msg) (hs : Small2 s) (hm : SmallM m) (hN : ∀ x ∈ s.vector, Nn x) (hn : 2097157 < n) :
  runFn T n (d + 11) 24 [.dat (encCfg c), .dat (encS s), .dat (encM m), .dat (di 6)] [] = some (.tup [.dat (encS (callS 6 c s m)), .dat (encSds (callL 6 c s m)), .dat (di (kErr c s m 6))], []) := by
 have k1 := e_core_Check (n := n) (d := d + 5) c s hs.toSmall (by omega)
 have mc := e_message_Check (n := n) (d := d + 7) c m (by have := hm.log; omega) (by omega)
 have ad := e_core_Admit (n := n) (d := d + 4) c s m hs.toSmall (by have := hm.log; omega) hN (by omega)
 have U50 := fun k a H => runFn_succ (n := n) T k 50 a H
 have U56 := fun k a H => runFn_succ (n := n) T k 56 a H
 have U100 := fun k a H => runFn_succ (n := n) T k 100 a H
 have U152 := fun k a H => runFn_succ (n := n) T k 152 a H
 have U47 := fun k a H => runFn_succ (n := n) T k 47 a H
 have U79 := fun k a H => runFn_succ (n := n) T k 79 a H
 have U49 := fun k a H => runFn_succ (n := n) T k 49 a H
 have U51 := fun k a H => runFn_succ (n := n) T k 51 a H
 have U82 := fun k a H => runFn_succ (n := n) T k 82 a H
 have U83 := fun k a H => runFn_succ (n := n) T k 83 a H
 have hw0 : IntKind.wrap .i64 0 = 0 := by decide
 rw [runFn_succ]
 unfold callS callL kErr
 by_cases he : stateErr c s = 0
 ·rw [he] at k1
  rw [if_neg (show ¬ stateErr c s ≠ 0 by simp [he])]
  by_cases hk : m.kind = 6
  ·have hk' := eq_true hk
   rw [if_neg (show ¬ m.kind ≠ 6 by simp [hk])]
   by_cases hme : msgErr c m = 0
   ·rw [hme] at mc
    rw [adm_err0 he, hme] at ad
    rw [if_neg (show ¬ msgErr c m ≠ 0 by simp [hme]), if_neg (show ¬ msgErr c m ≠ 0 by simp [hme]), hme]
    have hok := admS_ok he hme
    have hsm := hs.adm he hme
    have hnod := nodes_ok hok
    obtain ⟨gc, gn1, gn2, gv1, gv2, _⟩ := msg_nums hme
    have hsort := (sorted_of hok).1
    generalize admS c s m = t at *
    generalize admB c s m = B at *
    obtain ⟨_, g1, g2, g3, _⟩ := hnod
    simp only [NN] at g1 g3 gn2
    cases B
    ·simp [T, xf_change_handle, k1, mc, ad, hk']
    ·rw [if_neg (by simp), if_neg (by simp)]
     unfold stepS stepL
     by_cases h3 : t.status = 3
     ·have h3' := eq_true h3
      rw [if_pos (.inl h3), if_pos (.inl h3)]
      simp [T, xf_change_handle, k1, mc, ad, hw0, hk', h3']
     ·have h3' := eq_false h3
      by_cases hst : stale t m
      ·rw [if_pos (.inr hst), if_pos (.inr hst)]
       by_cases v1 : m.view < t.view
       ·simp [T, xf_change_handle, xf_change_handlers, xf_change_start, xf_change_step_later, U56, U100, U152, k1, mc, ad, hw0, hk', h3', v1]
       ·have v2 : m.view = t.view ∧ t.status = 1 := by unfold stale at hst; rcases hst with h | h; exact absurd h v1; exact h
        have v2' := eq_true v2.1
        have v3' := eq_true v2.2
        simp [T, xf_change_handle, xf_change_handlers, xf_change_start, xf_change_step_later, U56, U100, U152, k1, mc, ad, hw0, hk', h3', v1, v2', v3']
      ·have hns : ¬ (t.status = 3 ∨ stale t m) := fun h => h.elim h3 hst
       rw [if_neg hns, if_neg hns, if_pos rfl, if_pos rfl]
       have v1 : ¬ m.view < t.view := fun h => hst (.inl h)
       have hvn : m.node.toNat < t.vector.length := by omega
       have hvn' : m.node < t.vector.length := by omega
       have hd : drawAt t m.node = t.vector[m.node.toNat] := by simp [drawAt, List.getD, hvn]
       have hup : ∀ v, upv_mark v = upMark v := fun v => by funext x; simp [upv_mark, abMark, upMark]
       by_cases v2 : m.view = t.view
       ·have v3 : ¬ t.status = 1 := fun h => hst (.inr ⟨v2, h⟩)
        have v2' := eq_true v2
        have v3' := eq_false v3
        have v4 : ¬ t.view < m.view := by omega
        have hf : firstS2 c t m = t := by unfold firstS2; rw [if_neg v4]
        have hfl : firstL c t m = [] := by unfold firstL; rw [if_neg v4]
        have hp := e_Put_mark (n := n) (d := d + 5) t.marks ⟨m.node, t.vector[m.node.toNat]⟩ (by have := (nodes_short hok).1; omega) hsort (by omega)
        have hmk : (⟨m.node, t.vector[m.node.toNat]⟩ : Mark) = markOf t m.node := by unfold markOf; rw [hd]
        have hpe : putL (fun x : Mark => x.node) (upv_mark ⟨m.node, t.vector[m.node.toNat]⟩) ⟨m.node, t.vector[m.node.toNat]⟩ t.marks = putMark t.marks (markOf t m.node) := by rw [hmk, hup]; rfl
        rw [hpe] at hp
        have hSS : startS c t m = { t with marks := putMark t.marks (markOf t m.node) } := by unfold startS; rw [hf]
        have hSL : startL c t m = if ¬ c.f ≤ t.marks.length ∧ c.f ≤ (putMark t.marks (markOf t m.node)).length then ballL c { t with marks := putMark t.marks (markOf t m.node) } else [] := by
         unfold startL
         rw [hfl, hf, hSS]
         simp only [List.nil_append]
        rw [hSL, hSS]
        have hlen : (putMark t.marks (markOf t m.node)).length ≤ t.marks.length + 1 := putL_length _ _ _ _
        generalize hL : putMark t.marks (markOf t m.node) = L at *
        have hsv : Small2 { t with marks := L } := ⟨⟨hsm.log, hsm.vector, hsm.acks, by have := (nodes_short hok).1; simp only; omega, hsm.ballots, hsm.answers, hsm.blogs, hsm.alogs⟩, hsm.log2, hsm.vector2, hsm.blogs2, hsm.alogs2⟩
        have pr := e_core_Primary (n := n) (d := d + 4) c t.view
        have o1 := e_core_One (n := n) (d := d + 1) c { t with marks := L } (primaryOf c t.view) (dvcM { t with marks := L }) hsv (dvc_small hsv) (by omega)
        have hz : (⟨#[]⟩ : ByteArray) = ByteArray.empty := rfl
        by_cases b1 : c.f ≤ t.marks.length
        ·rw [if_neg (by simp [b1])]
         simp [T, xf_change_handle, xf_change_handlers, xf_change_start, xf_change_step_later, xf_tally_Marked, U50, U56, U100, U152, k1, mc, ad, hw0, hk', h3', v1, v2', v3', v4, hvn, hvn', gn1, hp, b1]
        ·by_cases b2 : c.f ≤ L.length
         ·rw [if_pos ⟨b1, b2⟩]
          unfold ballL
          by_cases hpp : primaryOf c t.view = t.self
          ·rw [if_pos hpp]
           rw [hpp] at pr
           simp [T, xf_change_handle, xf_change_handlers, xf_change_start, xf_change_step_later, xf_change_frame_ballot, xf_change_frame_primary, xf_tally_Marked, U50, U51, U82, U56, U100, U152, k1, mc, ad, hw0, hk', h3', v1, v2', v3', v4, hvn, hvn', gn1, hp, b1, b2, pr]
          ·rw [if_neg hpp]
           generalize oneS c { t with marks := L } (primaryOf c t.view) (dvcM { t with marks := L }) = X at *
           have hpp' := eq_false hpp
           simp [dvcM, zeroM, encM, cellsM, encLog, encV] at o1
           simp [T, xf_change_handle, xf_change_handlers, xf_change_start, xf_change_step_later, xf_change_frame_ballot, xf_change_frame_primary, xf_change_frame_one, xf_tally_Marked, U50, U51, U82, U83, U56, U100, U152, k1, mc, ad, hw0, hk', h3', v1, v2', v3', v4, hvn, hvn', gn1, hp, b1, b2, pr, hpp', o1, hz]
         ·rw [if_neg (by simp [b2])]
          simp [T, xf_change_handle, xf_change_handlers, xf_change_start, xf_change_step_later, xf_tally_Marked, U50, U56, U100, U152, k1, mc, ad, hw0, hk', h3', v1, v2', v3', v4, hvn, hvn', gn1, hp, b1, b2]
       ·have v2' := eq_false v2
        have v4 : t.view < m.view := by omega
        have hf : firstS2 c t m = goS t m.view := by unfold firstS2; rw [if_pos v4]
        have hfl : firstL c t m = goL c t m.view := by unfold firstL; rw [if_pos v4]
        have hp := e_Put_mark (n := n) (d := d + 5) [] ⟨m.node, t.vector[m.node.toNat]⟩ (by simp) (by simp) (by omega)
        have hmk : (⟨m.node, t.vector[m.node.toNat]⟩ : Mark) = markOf t m.node := by unfold markOf; rw [hd]
        simp [putL, encMarks] at hp
        have hSS : startS c t m = { goS t m.view with marks := [⟨m.node, t.vector[m.node.toNat]⟩] } := by
         unfold startS
         rw [hf, ← hmk]
         simp [putMark, goS, putL]
        have hSL : startL c t m = goL c t m.view ++ (if ¬ c.f ≤ 0 ∧ c.f ≤ 1 then ballL c { goS t m.view with marks := [⟨m.node, t.vector[m.node.toNat]⟩] } else []) := by
         unfold startL
         rw [hfl, hf, hSS]
         rfl
        rw [hSL, hSS]
        have hgs := go_small2 hsm m.view
        have a1 := e_core_All (n := n) (d := d) c (goS t m.view) (svcM m.view) hgs (svc_small _) (by omega)
        have hgl := (allR_small (c := c) hgs (svc_small m.view)).1
        have haL : (if stateErr c (goS t m.view) = 0 then allS c (goS t m.view) (svcM m.view) else []) = goL c t m.view := rfl
        rw [haL] at a1
        rw [show allR c (goS t m.view) (svcM m.view) = goL c t m.view from rfl] at hgl
        generalize goL c t m.view = L at *
        generalize stateErr c (goS t m.view) = SE at *
        have hL1 : L.length ≤ LIM := by simp only [LIM]; omega
        have hL2 : L.length + 1 ≤ LIM := by simp only [LIM]; omega
        have hz : (⟨#[]⟩ : ByteArray) = ByteArray.empty := rfl
        have b1 : ¬ c.f ≤ 0 := by unfold cfgOk at gc; omega
        have hsv : Small2 { goS t m.view with marks := [⟨m.node, t.vector[m.node.toNat]⟩] } := ⟨⟨hgs.log, hgs.vector, hgs.acks, by simp, hgs.ballots, hgs.answers, hgs.blogs, hgs.alogs⟩, hgs.log2, hgs.vector2, hgs.blogs2, hgs.alogs2⟩
        have pr := e_core_Primary (n := n) (d := d + 4) c m.view
        have o1 := e_core_One (n := n) (d := d + 1) c { goS t m.view with marks := [⟨m.node, t.vector[m.node.toNat]⟩] } (primaryOf c m.view) (dvcM { goS t m.view with marks := [⟨m.node, t.vector[m.node.toNat]⟩] }) hsv (dvc_small hsv) (by omega)
        simp [goS, svcM, zeroM, encM, cellsM, encLog, encV, encS, cellsS, encAcks, encMarks, encBals, encAnss] at a1
        by_cases b2 : c.f ≤ 1
        ·rw [if_pos ⟨b1, b2⟩]
         have hbl : ballL c { goS t m.view with marks := [⟨m.node, t.vector[m.node.toNat]⟩] } = if primaryOf c m.view = t.self then [] else [oneS c { goS t m.view with marks := [⟨m.node, t.vector[m.node.toNat]⟩] } (primaryOf c m.view) (dvcM { goS t m.view with marks := [⟨m.node, t.vector[m.node.toNat]⟩] })] := rfl
         rw [hbl]
         by_cases hpp : primaryOf c m.view = t.self
         ·rw [if_pos hpp]
          rw [hpp] at pr
          simp (maxSteps := 1000000) [T, xf_change_handle, xf_change_handlers, xf_change_start, xf_change_step_later, xf_change_frame_goes, xf_change_frame_clear, xf_change_frame_all, xf_change_frame_ballot, xf_change_frame_primary, xf_tally_Marked, U47, U49, U79, U50, U51, U82, U56, U100, U152, k1, mc, ad, hw0, hk', h3', v1, v2', v4, hvn, hvn', gn1, hp, b1, b2, pr, a1, hL1, hz, goS]
         ·rw [if_neg hpp]
          generalize oneS c { goS t m.view with marks := [⟨m.node, t.vector[m.node.toNat]⟩] } (primaryOf c m.view) (dvcM { goS t m.view with marks := [⟨m.node, t.vector[m.node.toNat]⟩] }) = X at *
          have hpp' := eq_false hpp
          simp [goS, dvcM, zeroM, encM, cellsM, encLog, encV, encS, cellsS, encAcks, encMarks, encBals, encAnss] at o1
          simp (maxSteps := 1000000) [T, xf_change_handle, xf_change_handlers, xf_change_start, xf_change_step_later, xf_change_frame_goes, xf_change_frame_clear, xf_change_frame_all, xf_change_frame_ballot, xf_change_frame_primary, xf_change_frame_one, xf_tally_Marked, U47, U49, U79, U50, U51, U82, U83, U56, U100, U152, k1, mc, ad, hw0, hk', h3', v1, v2', v4, hvn, hvn', gn1, hp, b1, b2, pr, hpp', o1, a1, hL1, hL2, hz, goS]
          exact take_snoc _ _ _
        ·rw [if_neg (by simp [b2])]
         simp (maxSteps := 1000000) [T, xf_change_handle, xf_change_handlers, xf_change_start, xf_change_step_later, xf_change_frame_goes, xf_change_frame_clear, xf_change_frame_all, xf_tally_Marked, U47, U49, U79, U50, U56, U100, U152, k1, mc, ad, hw0, hk', h3', v1, v2', v4, hvn, hvn', gn1, hp, b1, b2, a1, hL1, hz, goS]
   ·rw [if_pos hme, if_pos hme]
    generalize msgErr c m = ME at *
    simp [T, xf_change_handle, k1, mc, hk', hme, zeroS]
  ·have hk' := eq_false hk
   rw [if_pos hk, if_pos (by simp), if_pos (by simp)]
   simp [T, xf_change_handle, k1, hk', zeroS]
 ·rw [if_pos he, if_pos he, if_pos he]
  generalize stateErr c s = SE at *
  simp [T, xf_change_handle, k1, he, zeroS]
end Go.Ax
namespace Go.Ax
set_option linter.all false
variable {n d : Nat}
set_option maxRecDepth 10000
set_option linter.unusedSimpArgs false
set_option maxHeartbeats 8000000
theorem start_small {c : Cfg} {t : State} {m : Msg} (h : Small2 t) (hok : stateErr c t = 0) : Small2 (startS c t m) := by
 have h1 := first_small (c := c) (m := m) h
 have h2 := first_short (m := m) hok
 have h3 : (putMark (firstS2 c t m).marks (markOf t m.node)).length ≤ (firstS2 c t m).marks.length + 1 := putL_length _ _ _ _
 exact ⟨⟨h1.log, h1.vector, h1.acks, by unfold startS; simp only; omega, h1.ballots, h1.answers, h1.blogs, h1.alogs⟩, h1.log2, h1.vector2, h1.blogs2, h1.alogs2⟩
theorem startL_small {c : Cfg} {t : State} {m : Msg} (h : Small2 t) (hok : stateErr c t = 0) : SmallL (startL c t m) := by
 obtain ⟨⟨a1, a2⟩, a3⟩ := firstL_small (c := c) (m := m) h
 obtain ⟨b1, b2⟩ := ballL_small (c := c) (start_small (m := m) h hok)
 unfold startL
 split
 ·refine ⟨by rw [List.length_append]; omega, fun x hx => ?_⟩
  rcases List.mem_append.1 hx with hx | hx
  ·exact a2 x hx
  ·exact b2 x hx
 ·simpa using ⟨a1, a2⟩
theorem call6_small {c : Cfg} {s : State} {m : Msg} (hs : Small2 s) : Small2 (callS 6 c s m) ∧ SmallL (callL 6 c s m) := by
 refine call_small hs fun _ ho h2 => ?_
 unfold stepS stepL
 split
 ·exact ⟨h2, SmallL.nil⟩
 ·rw [if_pos rfl, if_pos rfl]
  exact ⟨start_small h2 ho, startL_small h2 ho⟩
theorem e_change_Start (c : Cfg) (s : State) (m : Msg) (hs : Small2 s) (hm : SmallM m) (hN : ∀ x ∈ s.vector, Nn x) (hn : 2097157 < n) :
  runFn T n (d + 12) 7 [.dat (encCfg c), .dat (encS s), .dat (encM m)] [] = some (.tup [.dat (encS (callS 6 c s m)), .dat (encSds (callL 6 c s m)), .dat (di (kErr c s m 6))], []) := by
 have h := e_handle6 (n := n) (d := d) c s m hs hm hN hn
 rw [runFn_succ]
 simp [T, xf_change_Start, h]
theorem law_ChangeStarts (c : Cfg) (s : State) (m : Msg) (hs : Small2 s) (hm : SmallM m) (hN : ∀ x ∈ s.vector, Nn x) (hn : 2097157 < n) (hal : ∃ H, runFn T n (d + 14) 13 [] [] = some (.dat (.bool true), H)) :
  ∃ H, runFn T n (d + 15) 3 [.dat (encCfg c), .dat (encS s), .dat (encM m)] [] = some (.dat (.bool true), H) := by
 have g := e_Given_State (n := n) (d := d + 11) s hs (by omega)
 have hgl : (gsE1 s s.answers).length ≤ 6000000 ∧ 0 < (gsE1 s s.answers).length := by
  have hb := hs.ballots
  have ha := hs.answers
  constructor
  ·simp [gsE1]; omega
  ·simp [gsE1]
 have g2 := e_Given_Msg (n := n) (d := d + 11) m hm [rD s.vector] (gsE1 s s.answers) [encS s] (by simp) (by simp) hgl.1 hgl.2 (by simp)
 have o1 := e_change_Start (n := n) (d := d + 2) c s m hs hm hN hn
 have o2 := e_ref11_Start (n := n) (d := d + 4) c s m hs hm hn
 obtain ⟨sm1, sm2⟩ := call6_small (c := c) (m := m) hs
 have s1 := e_same11 (n := n) (d := d + 10) (callS 6 c s m) (callL 6 c s m) (kErr c s m 6) sm1.toSmall sm2 (by omega)
 have hin := e_Intact2 (n := n) (d := d + 10) s m hs hm hn
 unfold givAV givH at g
 simp only [List.length_cons, List.length_nil, Nat.zero_add] at g2
 generalize callS 6 c s m = X at o1 o2 s1
 generalize callL 6 c s m = L at o1 o2 s1
 generalize kErr c s m 6 = K at o1 o2 s1
 obtain ⟨AH, hal⟩ := hal
 rw [runFn_succ]
 simp [T, xf_law11_ChangeStarts, g, g2, o1, o2, s1, hin, hal]
end Go.Ax
