/-
  A view change, played: the replicas at the start, and behind marks: plain.
-/
import Derived.Test.YtlmbnpajipfkaaaGreatDoorSP
import Derived.Test.YtlmbnpajipfkaaaGreatDoorRR
namespace Go.Ax
set_option linter.all false
set_option maxRecDepth 10000
set_option linter.unusedSimpArgs false
set_option maxHeartbeats 4000000
def zerosV (c : Cfg) : List Draw := List.replicate (nodesOf c).toNat ⟨0, 0⟩
def baseQ (c : Cfg) (log : List Ent) (i : Int) : State := ⟨i, 1, 0, 0, log, 0, zerosV c, 0, [], [], [], []⟩
theorem zerosV_get (c : Cfg) (k : Nat) : (zerosV c).getD k ⟨0, 0⟩ = ⟨0, 0⟩ := by
 unfold zerosV
 simp [List.getD, List.getElem?_replicate]
 split <;> rfl
theorem base_ok {c : Cfg} {log : List Ent} {i : Int} (hc : cfgOk c) (hl : logErr log c.room = 0) (hi : 0 ≤ i ∧ i < nodesOf c) : stateErr c (baseQ c log i) = 0 := by
 have hn := nodes_le (c := c)
 refine zeroOk hc hi (by simp [baseQ]) rfl rfl ?_ ?_ ⟨rfl, rfl, rfl, rfl⟩ rfl
 ·simp [baseQ, zerosV]; omega
 ·rw [logOk_iff]
  exact ⟨hl, by simp [baseQ], by simp [baseQ]⟩
def chgQ (c : Cfg) (log : List Ent) (i view : Int) (ks : List Int) : State := { goS (baseQ c log i) view with marks := ks.map fun k => ⟨k, ⟨0, 0⟩⟩ }
def svcQ (c : Cfg) (k view : Int) : Msg := { zeroM with kind := 6, node := k, view := view, vector := zerosV c }
theorem svcQ_ok {c : Cfg} {k view : Int} (hc : cfgOk c) (hk : 0 ≤ k ∧ k < nodesOf c) (hv : 1 ≤ view ∧ view ≤ 4294967296) : msgErr c (svcQ c k view) = 0 := by
 have hX : Head c { baseQ c [] k with view := view, last := 0 } := by
  rw [NN_of hc] at hk
  refine ⟨hc, hk, hv, by simp [baseQ], ?_, ⟨?_, by simp [baseQ], by simp [baseQ]⟩⟩
  ·have hn := nodes_le (c := c)
   rw [← NN_of hc]
   simp [baseQ, zerosV]; omega
  ·show logErr [] c.room = 0
   have := room_of hc
   unfold logErr
   unfold cfgOk at hc
   rw [if_neg (by omega), if_neg (by simp; omega)]
   rfl
 have := svc_msg hX
 have e : stampM { baseQ c [] k with view := view, last := 0 } (svcM view) = svcQ c k view := by
  unfold stampM svcQ svcM
  have : between 6 = true := by decide
  simp [this, baseQ]
 rw [show ({ baseQ c [] k with view := view, last := 0 } : State).view = view from rfl, e] at this
 exact this
theorem putL_end {α : Type} (node : α → Int) (up : α → Bool) (v : α) : ∀ l : List α, (∀ x ∈ l, node x < node v) → putL node up v l = l ++ [v]
 | [], _ => rfl
 | x :: r, h => by
  have h1 := h x (by simp)
  simp only [putL]
  rw [if_neg (by omega), if_neg (by omega), putL_end node up v r (fun y hy => h y (by simp [hy]))]
  rfl
theorem mxv_zeros2 (k : Nat) : mxv (List.replicate k ⟨0, 0⟩) (List.replicate k ⟨0, 0⟩) = List.replicate k ⟨0, 0⟩ := by
 unfold mxv
 rw [List.zipWith_replicate]
 simp [mxd, cmp]
theorem adm_zeros {c : Cfg} {X : State} {m : Msg} (hX : stateErr c X = 0) (hm : msgErr c m = 0) (hb : between m.kind = true) (hv : X.vector = zerosV c) (hmv : m.vector = zerosV c) (hne : m.node ≠ X.self) : admS c X m = X ∧ admB c X m = true := by
 have o1 : overB X m = false := by unfold overB; rw [hv, hmv, zerosV_get, cmp_self]; rfl
 have o2 : aheadB X m = false := by unfold aheadB; rw [hv, hmv, zerosV_get, cmp_self]; rfl
 have z := adm_zero hX hm
 have hs := struck_self hX
 unfold admS admB
 simp only [z, ne_eq, not_true_eq_false, if_false, hb, Bool.true_eq_false, hne, o1, o2, Bool.false_eq_true]
 refine ⟨?_, ?_⟩
 ·split
  ·rfl
  ·rw [hv, hmv]
   unfold zerosV
   rw [mxv_zeros2]
   rw [hv] at hs
   exact hs
 ·split <;> rfl
theorem start_q0 {c : Cfg} {log : List Ent} {i k view : Int} (hc : cfgOk c) (hl : logErr log c.room = 0) (hi : 0 ≤ i ∧ i < nodesOf c) (hk : 0 ≤ k ∧ k < nodesOf c) (hne : k ≠ i) (hv : 1 ≤ view ∧ view ≤ 4294967296) :
  kErr c (baseQ c log i) (svcQ c k view) 6 = 0 ∧ callS 6 c (baseQ c log i) (svcQ c k view) = chgQ c log i view [k] := by
 have hX := base_ok hc hl hi
 have hm := svcQ_ok hc hk hv
 have hE : kErr c (baseQ c log i) (svcQ c k view) 6 = 0 := by unfold kErr; rw [if_neg (by simp [hX]), if_neg (by simp [svcQ])]; exact hm
 obtain ⟨a1, a2⟩ := adm_zeros hX hm (between_kind (k := 6) rfl (by omega)) rfl rfl hne
 refine ⟨hE, ?_⟩
 unfold callS
 simp only [hE, a1, a2, ne_eq, not_true_eq_false, if_false, Bool.true_eq_false]
 unfold stepS
 have hns : ¬ ((baseQ c log i).status = 3 ∨ stale (baseQ c log i) (svcQ c k view)) := by
  unfold stale
  simp [baseQ, svcQ]
  omega
 rw [if_neg hns, if_pos rfl]
 unfold startS
 have hf : firstS2 c (baseQ c log i) (svcQ c k view) = goS (baseQ c log i) view := by
  unfold firstS2
  rw [if_pos (by simp [baseQ, svcQ]; omega)]
  rfl
 rw [hf]
 have hmk : markOf (baseQ c log i) (svcQ c k view).node = ⟨k, ⟨0, 0⟩⟩ := by
  unfold markOf drawAt
  rw [show (baseQ c log i).vector = zerosV c from rfl, zerosV_get]
  rfl
 rw [hmk]
 rfl
theorem start_q {c : Cfg} {log : List Ent} {i k view : Int} {ks : List Int} (hc : cfgOk c) (hok : stateErr c (chgQ c log i view ks) = 0) (hk : 0 ≤ k ∧ k < nodesOf c) (hne : k ≠ i) (hv : 1 ≤ view ∧ view ≤ 4294967296) (hlt : ∀ x ∈ ks, x < k) :
  kErr c (chgQ c log i view ks) (svcQ c k view) 6 = 0 ∧ callS 6 c (chgQ c log i view ks) (svcQ c k view) = chgQ c log i view (ks ++ [k]) := by
 have hm := svcQ_ok hc hk hv
 have hE : kErr c (chgQ c log i view ks) (svcQ c k view) 6 = 0 := by unfold kErr; rw [if_neg (by simp [hok]), if_neg (by simp [svcQ])]; exact hm
 obtain ⟨a1, a2⟩ := adm_zeros hok hm (between_kind (k := 6) rfl (by omega)) rfl rfl hne
 refine ⟨hE, ?_⟩
 unfold callS
 simp only [hE, a1, a2, ne_eq, not_true_eq_false, if_false, Bool.true_eq_false]
 unfold stepS
 have hns : ¬ ((chgQ c log i view ks).status = 3 ∨ stale (chgQ c log i view ks) (svcQ c k view)) := by
  unfold stale
  simp [chgQ, goS, baseQ, svcQ]
 rw [if_neg hns, if_pos rfl, startS_same (X := chgQ c log i view ks) rfl]
 have hmk : markOf (chgQ c log i view ks) (svcQ c k view).node = ⟨k, ⟨0, 0⟩⟩ := by
  unfold markOf drawAt
  rw [show (chgQ c log i view ks).vector = zerosV c from rfl, zerosV_get]
  rfl
 rw [hmk]
 have hp : putMark (chgQ c log i view ks).marks ⟨k, ⟨0, 0⟩⟩ = (ks ++ [k]).map fun k => (⟨k, ⟨0, 0⟩⟩ : Mark) := by
  unfold putMark
  rw [putL_end]
  ·simp [chgQ]
  ·intro x hx
   simp only [chgQ] at hx
   obtain ⟨y, hy, rfl⟩ := List.mem_map.1 hx
   exact hlt y hy
 rw [hp]
 rfl
theorem again_q {c : Cfg} {X : State} (hok : stateErr c X = 0) (hs : X.status = 2) (hm : c.f ≤ X.marks.length) (hp : primaryOf c X.view ≠ X.self) :
  agErr c X = 0 ∧ ((agL c X).length : Int) = nodesOf c ∧ (agL c X)[(agL c X).length - 1]? = some (outM X (primaryOf c X.view) (dvcM X)) := by
 have hc := (head_of hok).1
 have hv := (head_of hok).2.2.1
 have hpi := primary_in hc hv
 have hA : agErr c X = 0 := by unfold agErr; rw [if_neg (by simp [hok]), if_pos hs]
 have hl := allR_len (m := svcM X.view) hok
 have hb : ballL c X = [outM X (primaryOf c X.view) (dvcM X)] := by
  unfold ballL
  rw [if_neg hp, one_ok hok ⟨hpi.1, hpi.2.1, hp⟩]
 have hL : agL c X = allR c X (svcM X.view) ++ [outM X (primaryOf c X.view) (dvcM X)] := by
  unfold agL
  rw [if_neg (by simp [hA]), if_pos hm, hb]
 refine ⟨hA, ?_, ?_⟩
 ·rw [hL]
  have : nodesOf c = 2 * c.f + 1 := by unfold nodesOf; rw [if_pos hc]
  simp
  omega
 ·rw [hL]
  simp
def dvQ (c : Cfg) (log : List Ent) (i view : Int) : Msg := { zeroM with kind := 7, node := i, view := view, log := log, vector := zerosV c }
theorem dvQ_eq (c : Cfg) (log : List Ent) (i view : Int) (ks : List Int) : stampM (chgQ c log i view ks) (dvcM (chgQ c log i view ks)) = dvQ c log i view := by
 unfold stampM dvcM dvQ
 have : between 7 = true := by decide
 simp [this, chgQ, goS, baseQ, zeroM]
theorem dvQ_ok {c : Cfg} {log : List Ent} {i view : Int} {ks : List Int} (h : stateErr c (chgQ c log i view ks) = 0) (hv : 1 ≤ view) : msgErr c (dvQ c log i view) = 0 := by
 rw [← dvQ_eq c log i view ks]
 refine dvc_msg (Head.of h hv) ?_
 show (0 : Int) < view
 omega
def balQ (log : List Ent) (i : Int) : Ballot := ⟨i, ⟨0, 0⟩, 0, 0, log⟩
def priQ (c : Cfg) (log : List Ent) (p view : Int) (ks : List Int) (bs : List Ballot) : State := { chgQ c log p view ks with ballots := bs }
theorem vote_q {c : Cfg} {logp log : List Ent} {p i view : Int} {ks : List Int} {bs : List Ballot} (hok : stateErr c (priQ c logp p view ks bs) = 0) (hm : msgErr c (dvQ c log i view) = 0) (hp : primaryOf c view = p) (hne : i ≠ p) (hlt : ∀ x ∈ bs, x.node < i) :
  kErr c (priQ c logp p view ks bs) (dvQ c log i view) 7 = 0 ∧ Goes c (priQ c logp p view ks bs) (dvQ c log i view) ∧ voteS c (priQ c logp p view ks bs) (dvQ c log i view) = priQ c logp p view ks (bs ++ [balQ log i]) ∧
  callS 7 c (priQ c logp p view ks bs) (dvQ c log i view) = votedS c (priQ c logp p view ks bs) (dvQ c log i view) ∧ callL 7 c (priQ c logp p view ks bs) (dvQ c log i view) = votedL c (priQ c logp p view ks bs) (dvQ c log i view) := by
 have hE : kErr c (priQ c logp p view ks bs) (dvQ c log i view) 7 = 0 := by unfold kErr; rw [if_neg (by simp [hok]), if_neg (by simp [dvQ])]; exact hm
 obtain ⟨a1, a2⟩ := adm_zeros hok hm (between_kind (k := 7) rfl (by omega)) rfl rfl hne
 have hns : ¬ ((priQ c logp p view ks bs).status = 3 ∨ stale (priQ c logp p view ks bs) (dvQ c log i view)) := by
  unfold stale
  simp [priQ, chgQ, goS, baseQ, dvQ]
 refine ⟨hE, ⟨hok, hm, fun h => hns (.inl h), fun h => hns (.inr h)⟩, ?_, ?_, ?_⟩
 ·rw [voteS_same (X := priQ c logp p view ks bs) rfl]
  have hb : balOf (priQ c logp p view ks bs) (dvQ c log i view) = balQ log i := by
   unfold balOf drawAt
   rw [show (priQ c logp p view ks bs).vector = zerosV c from rfl, zerosV_get]
   rfl
  have hpb : putBal (priQ c logp p view ks bs).ballots (balQ log i) = bs ++ [balQ log i] := putL_end _ _ _ _ hlt
  rw [hb, hpb]
  rfl
 ·unfold callS
  simp only [hE, a1, a2, ne_eq, not_true_eq_false, if_false, Bool.true_eq_false]
  unfold stepS
  rw [if_neg hns, if_neg (show ¬ (7 : Int) = 6 by decide), if_pos rfl]
 ·unfold callL
  simp only [hE, a1, a2, ne_eq, not_true_eq_false, if_false, Bool.true_eq_false]
  unfold stepL
  rw [if_neg hns, if_neg (show ¬ (7 : Int) = 6 by decide), if_pos rfl]
def stQ (c : Cfg) (log : List Ent) (i view : Int) (ks : List Int) : State := if ks = [] then baseQ c log i else chgQ c log i view ks
theorem start_st {c : Cfg} {log : List Ent} {i k view : Int} {ks : List Int} (hc : cfgOk c) (hl : logErr log c.room = 0) (hi : 0 ≤ i ∧ i < nodesOf c) (hok : stateErr c (stQ c log i view ks) = 0) (hk : 0 ≤ k ∧ k < nodesOf c) (hne : k ≠ i) (hv : 1 ≤ view ∧ view ≤ 4294967296) (hlt : ∀ x ∈ ks, x < k) :
  kErr c (stQ c log i view ks) (svcQ c k view) 6 = 0 ∧ callS 6 c (stQ c log i view ks) (svcQ c k view) = stQ c log i view (ks ++ [k]) ∧ stateErr c (stQ c log i view (ks ++ [k])) = 0 := by
 have h2 : stQ c log i view (ks ++ [k]) = chgQ c log i view (ks ++ [k]) := by unfold stQ; rw [if_neg (by simp)]
 have key : kErr c (stQ c log i view ks) (svcQ c k view) 6 = 0 ∧ callS 6 c (stQ c log i view ks) (svcQ c k view) = stQ c log i view (ks ++ [k]) := by
  rw [h2]
  unfold stQ at hok ⊢
  by_cases h : ks = []
  ·rw [if_pos h, h]
   exact start_q0 hc hl hi hk hne hv
  ·rw [if_neg h] at hok ⊢
   exact start_q hc hok hk hne hv hlt
 refine ⟨key.1, key.2, ?_⟩
 rw [← key.2]
 exact (stand_call (.inl rfl) key.1).ok
def svQ (c : Cfg) (log : List Ent) (p view : Int) : Msg := { zeroM with kind := 8, node := p, view := view, log := log, vector := zerosV c }
theorem inst_q {c : Cfg} {X : State} {log : List Ent} {p view : Int} (hok : stateErr c X = 0) (hm : msgErr c (svQ c log p view) = 0) (hz : X.vector = zerosV c) (hne : p ≠ X.self) (h : X.status ≠ 3 ∧ (X.view < view ∨ X.view = view ∧ X.status = 2)) :
  kErr c X (svQ c log p view) 8 = 0 ∧ (callS 8 c X (svQ c log p view)).status = 1 ∧ (callS 8 c X (svQ c log p view)).view = view ∧ (callS 8 c X (svQ c log p view)).log = log := by
 have hE : kErr c X (svQ c log p view) 8 = 0 := by unfold kErr; rw [if_neg (by simp [hok]), if_neg (by simp [svQ])]; exact hm
 obtain ⟨a1, a2⟩ := adm_zeros hok hm (between_kind (k := 8) rfl (by omega)) hz rfl hne
 have hns : ¬ (X.status = 3 ∨ stale X (svQ c log p view)) := by
  unfold stale
  show ¬ (X.status = 3 ∨ view < X.view ∨ view = X.view ∧ X.status = 1)
  omega
 have e : callS 8 c X (svQ c log p view) = instS X (svQ c log p view) := by
  unfold callS
  simp only [hE, a1, a2, ne_eq, not_true_eq_false, if_false, Bool.true_eq_false]
  unfold stepS
  rw [if_neg hns, if_neg (show ¬ (8 : Int) = 6 by decide), if_neg (show ¬ (8 : Int) = 7 by decide)]
 rw [e]
 exact ⟨hE, rfl, rfl, rfl⟩
theorem lead_q {c : Cfg} {X : State} {m : Msg} (g : Goes c X m) (hk : m.kind = 7) (hv : X.view = m.view) (hp : primaryOf c X.view = X.self) (hf : c.f ≤ (voteS c X m).ballots.length) (hz : X.commit = 0 ∧ ∀ b ∈ (voteS c X m).ballots, b.commit = 0) :
  votedS c X m = ledT c (voteS c X m) ∧ (votedS c X m).commit = 0 ∧ votedL c X m = allR c (ledS0 (voteS c X m) (bestP (ownBal (voteS c X m)) (voteS c X m).ballots).log) (svM (voteS c X m) (bestP (ownBal (voteS c X m)) (voteS c X m).ballots).log 0) ∧ ((votedL c X m).length : Int) = 2 * c.f := by
 obtain ⟨f1, f2⟩ := first_eq (c := c) (X := X) (m := m) hv
 have hld := led_ok g hk
 have hce := carryErr_led g hk
 have hcom : (voteS c X m).commit = 0 := by rw [show (voteS c X m).commit = (firstS2 c X m).commit from rfl, f1]; exact hz.1
 have hC : chosen (ownBal (voteS c X m)) (voteS c X m).ballots = 0 := by
  have h1 := (fold_max_mem (voteS c X m).ballots (ownBal (voteS c X m)).commit).2.2
  have h2 : mostP (ownBal (voteS c X m)) (voteS c X m).ballots = (voteS c X m).ballots.foldl (fun a b => max a b.commit) (ownBal (voteS c X m)).commit := rfl
  rw [← h2] at h1
  have h3 : mostP (ownBal (voteS c X m)) (voteS c X m).ballots = 0 := by
   rcases h1 with h | ⟨x, hx, h⟩
   ·rw [h]; exact hcom
   ·rw [← h]; exact hz.2 x hx
  unfold chosen
  rw [h3]
  omega
 have hS : votedS c X m = ledT c (voteS c X m) := by
  unfold votedS
  rw [f1, if_neg (not_not_intro hp), if_pos hf]
  exact leadS_eq g hk
 have hl0 : (ledS0 (voteS c X m) (bestP (ownBal (voteS c X m)) (voteS c X m).ballots).log).commit = 0 := by
  simp only [ledS0, hcom]
  omega
 have hL : votedL c X m = allR c (ledS0 (voteS c X m) (bestP (ownBal (voteS c X m)) (voteS c X m).ballots).log) (svM (voteS c X m) (bestP (ownBal (voteS c X m)) (voteS c X m).ballots).log 0) := by
  unfold votedL
  rw [f1, f2, if_neg (not_not_intro hp), if_pos hf, List.nil_append]
  unfold leadL
  rw [hC] at hce ⊢
  have : carryL c (ledS0 (voteS c X m) (bestP (ownBal (voteS c X m)) (voteS c X m).ballots).log) 0 = [] := by
   unfold carryL
   rw [if_neg (by simp [hce]), if_pos (by rw [hl0]; omega)]
  rw [this, List.append_nil]
 refine ⟨hS, ?_, hL, ?_⟩
 ·rw [hS]
  unfold ledT
  simp only [hl0, hC]
  rfl
 ·rw [hL]
  exact allR_len hld
theorem take_own {α : Type} (l : List α) (k : Nat) : l.take k = l.take (l.take k).length := by
 rw [List.length_take]
 by_cases h : k ≤ l.length
 ·rw [Nat.min_eq_left h]
 ·rw [Nat.min_eq_right (by omega), List.take_of_length_le (by omega), List.take_of_length_le (Nat.le_refl _)]
theorem best_q {own : Ballot} {bs : List Ballot} {log : List Ent} (hs : bs.Pairwise (fun a b => a.node < b.node)) (hne : ∀ b ∈ bs, own.node ≠ b.node) (h : ∀ x ∈ own :: bs, x.last = 0 ∧ ∃ k, x.log = log.take k) :
  (bestP own bs).log = log.take (bestP own bs).log.length ∧ (∃ x ∈ own :: bs, x.log = (bestP own bs).log) ∧ ∀ x ∈ own :: bs, x.log.length ≤ (bestP own bs).log.length := by
 have hb := bestP_best bs own [own] ⟨by simp, fun x hx => by rw [List.mem_singleton.1 hx]; unfold geB; omega, fun x hx _ => by rw [List.mem_singleton.1 hx]; exact Int.le_refl _⟩ (fun y hy x hx => by rw [List.mem_singleton.1 hy]; exact hne x hx) hs
 have hm : bestP own bs ∈ own :: bs := by simpa using hb.mem
 obtain ⟨h1, k, h2⟩ := h _ hm
 refine ⟨?_, ⟨_, hm, rfl⟩, fun x hx => ?_⟩
 ·rw [h2]; exact take_own log k
 ·have := hb.ge x (by simpa using hx)
  unfold geB at this
  have := (h x hx).1
  omega
theorem views_q {c : Cfg} {u : State} {log : List Ent} {i view : Int} (hz : u.vector = zerosV c) (hv : u.view = view) : (outM (ledS0 u log) i (svM u log 0)).msg = svQ c log u.self view := by
 show stampM (ledS0 u log) (svM u log 0) = _
 unfold stampM svM svQ
 have : between 8 = true := by decide
 simp [this, ledS0, hz, hv, zeroM]
theorem logErr1_take : ∀ (l pre : List Ent) (k : Nat), logErr1 pre l = 0 → logErr1 pre (l.take k) = 0
 | [], pre, k, _ => by simp [logErr1]
 | x :: r, pre, 0, _ => by simp [logErr1]
 | x :: r, pre, k + 1, h => by
  simp only [logErr1] at h
  rw [List.take_succ_cons]
  simp only [logErr1]
  by_cases he : entErr pre x = 0
  ·rw [if_neg (by simp [he])] at h ⊢
   exact logErr1_take r _ k h
  ·rw [if_pos he] at h; exact absurd h he
theorem logErr_take {l : List Ent} {room : Int} (k : Nat) (h : logErr l room = 0) : logErr (l.take k) room = 0 := by
 unfold logErr at h ⊢
 by_cases h1 : room < 1 ∨ 256 < room
 ·rw [if_pos h1] at h; cases h
 ·rw [if_neg h1] at h ⊢
  by_cases h2 : room < l.length
  ·rw [if_pos h2] at h; cases h
  ·rw [if_neg h2] at h
   have hlen : (l.take k).length ≤ l.length := by rw [List.length_take]; omega
   rw [if_neg (by omega)]
   exact logErr1_take l [] k h
end Go.Ax
namespace Go.Ax
set_option linter.all false
set_option maxRecDepth 10000
set_option linter.unusedSimpArgs false
set_option maxHeartbeats 4000000
def upQ (f p k : Nat) : List Bool := (List.range k).foldl (fun u i => u.set ((p + i) % (2 * f + 1)) true) (List.replicate (2 * f + 1) false)
def othQ (u : List Bool) (j m : Nat) : List Nat := (List.range m).filter fun k => u.getD k false && decide (j ≠ k)
theorem othQ_succ (u : List Bool) (j m : Nat) : othQ u j (m + 1) = if u.getD m false = true ∧ j ≠ m then othQ u j m ++ [m] else othQ u j m := by
 unfold othQ
 rw [List.range_succ, List.filter_append]
 by_cases h : u.getD m false = true ∧ j ≠ m
 ·rw [if_pos h, List.filter_cons_of_pos (by simpa using h)]; rfl
 ·rw [if_neg h, List.filter_cons_of_neg (by simpa using h)]; simp
theorem othQ_mem {u : List Bool} {j m x : Nat} (h : x ∈ othQ u j m) : x < m ∧ u.getD x false = true ∧ j ≠ x := by
 unfold othQ at h
 simp only [List.mem_filter, List.mem_range, Bool.and_eq_true, decide_eq_true_eq] at h
 exact ⟨h.1, h.2.1, h.2.2⟩
theorem othQ_in {u : List Bool} {j m x : Nat} (h : x < m) (hu : u.getD x false = true) (hne : j ≠ x) : x ∈ othQ u j m := by
 unfold othQ
 simp only [List.mem_filter, List.mem_range, Bool.and_eq_true, decide_eq_true_eq]
 exact ⟨h, hu, hne⟩
theorem othQ_pair (u : List Bool) (j m : Nat) : (othQ u j m).Pairwise (fun a b => a < b) := List.Pairwise.filter _ List.pairwise_lt_range
theorem othQ_le {u : List Bool} {j m n : Nat} (h : m ≤ n) : (othQ u j m).length ≤ (othQ u j n).length := by
 induction n with
 | zero =>
  have : m = 0 := by omega
  subst this
  exact Nat.le_refl _
 | succ n ih =>
  by_cases e : m = n + 1
  ·subst e; exact Nat.le_refl _
  ·refine Nat.le_trans (ih (by omega)) ?_
   rw [othQ_succ]
   split
   ·simp
   ·exact Nat.le_refl _
def UpOk (f p : Nat) : Bool := decide ((upQ f p (f + 1)).length = 2 * f + 1) && (upQ f p (f + 1)).getD p false && (List.range (2 * f + 1)).all fun j => !(upQ f p (f + 1)).getD j false || decide ((othQ (upQ f p (f + 1)) j (2 * f + 1)).length = f)
theorem up_ok {f p : Nat} (hf : 1 ≤ f ∧ f ≤ 3) (hp : p < 2 * f + 1) : UpOk f p = true := by
 have h : f = 1 ∨ f = 2 ∨ f = 3 := by omega
 rcases h with rfl | rfl | rfl
 ·have h : p = 0 ∨ p = 1 ∨ p = 2 := by omega
  rcases h with rfl | rfl | rfl <;> decide
 ·have h : p = 0 ∨ p = 1 ∨ p = 2 ∨ p = 3 ∨ p = 4 := by omega
  rcases h with rfl | rfl | rfl | rfl | rfl <;> decide
 ·have h : p = 0 ∨ p = 1 ∨ p = 2 ∨ p = 3 ∨ p = 4 ∨ p = 5 ∨ p = 6 := by omega
  rcases h with rfl | rfl | rfl | rfl | rfl | rfl | rfl <;> decide
structure PlayQ (c : Cfg) (log : List Ent) (κ : Nat → Nat) (view : Int) (u : List Bool) (N F p : Nat) : Prop where
 cfg : cfgOk c
 f : (F : Int) = c.f
 n : N = 2 * F + 1
 ok : logErr log c.room = 0
 vw : 1 ≤ view ∧ view ≤ 4294967296
 prim : primaryOf c view = (p : Int)
 pN : p < N
 up : u.getD p false = true
 len : u.length = N
 cnt : ∀ j, j < N → u.getD j false = true → (othQ u j N).length = F
section
variable {c : Cfg} {log : List Ent} {κ : Nat → Nat} {view : Int} {u : List Bool} {N F p : Nat}
def LQ (log : List Ent) (κ : Nat → Nat) (j : Nat) : List Ent := log.take (κ j)
theorem PlayQ.nodes (P : PlayQ c log κ view u N F p) : nodesOf c = (N : Int) := by
 unfold nodesOf
 rw [if_pos P.cfg]
 have := P.f; have := P.n
 omega
theorem PlayQ.logs (P : PlayQ c log κ view u N F p) (j : Nat) : logErr (LQ log κ j) c.room = 0 := logErr_take _ P.ok
def ksQ (u : List Bool) (j m : Nat) : List Int := (othQ u j m).map fun (k : Nat) => (k : Int)
def sQ (c : Cfg) (log : List Ent) (κ : Nat → Nat) (view : Int) (u : List Bool) (j m : Nat) : State := stQ c (LQ log κ j) j view (if u.getD j false = true then ksQ u j m else [])
theorem sQ_step0 (P : PlayQ c log κ view u N F p) {j k : Nat} (hj : j < N) (hk : k < N) (hu : u.getD j false = true) (hku : u.getD k false = true) (hne : j ≠ k) (hok : stateErr c (sQ c log κ view u j k) = 0) :
  kErr c (sQ c log κ view u j k) (svcQ c k view) 6 = 0 ∧ callS 6 c (sQ c log κ view u j k) (svcQ c k view) = sQ c log κ view u j (k + 1) ∧ stateErr c (sQ c log κ view u j (k + 1)) = 0 := by
 have hn := P.nodes
 have e : sQ c log κ view u j (k + 1) = stQ c (LQ log κ j) j view (ksQ u j k ++ [(k : Int)]) := by
  unfold sQ ksQ
  rw [if_pos hu, othQ_succ, if_pos ⟨hku, hne⟩]
  simp
 have e0 : sQ c log κ view u j k = stQ c (LQ log κ j) j view (ksQ u j k) := by unfold sQ; rw [if_pos hu]
 rw [e]
 rw [e0] at hok ⊢
 refine start_st P.cfg (P.logs j) (by omega) hok (by omega) (by omega) P.vw ?_
 intro x hx
 unfold ksQ at hx
 obtain ⟨y, hy, rfl⟩ := List.mem_map.1 hx
 have := (othQ_mem hy).1
 omega
theorem sQ_same {j k : Nat} (h : ¬ (u.getD j false = true ∧ u.getD k false = true ∧ j ≠ k)) : sQ c log κ view u j (k + 1) = sQ c log κ view u j k := by
 unfold sQ
 by_cases hu : u.getD j false = true
 ·rw [if_pos hu, if_pos hu]
  unfold ksQ
  rw [othQ_succ, if_neg (fun q => h ⟨hu, q⟩)]
 ·rw [if_neg hu, if_neg hu]
theorem sQ_cases (j m : Nat) : sQ c log κ view u j m = baseQ c (LQ log κ j) j ∨ ∃ ks, sQ c log κ view u j m = chgQ c (LQ log κ j) j view ks := by
 unfold sQ
 generalize (if u.getD j false = true then ksQ u j m else []) = ks
 unfold stQ
 split
 ·exact .inl rfl
 ·exact .inr ⟨ks, rfl⟩
theorem sQ_zero (j : Nat) : sQ c log κ view u j 0 = baseQ c (LQ log κ j) j := by
 unfold sQ ksQ othQ stQ
 simp
theorem sQ_ok (P : PlayQ c log κ view u N F p) {j : Nat} (hj : j < N) : ∀ m, m ≤ N → stateErr c (sQ c log κ view u j m) = 0
 | 0, _ => by
  rw [sQ_zero]
  exact base_ok P.cfg (P.logs j) (by have := P.nodes; omega)
 | m + 1, h => by
  have ih := sQ_ok P hj m (by omega)
  by_cases hc : u.getD j false = true ∧ u.getD m false = true ∧ j ≠ m
  ·exact (sQ_step0 P hj (by omega) hc.1 hc.2.1 hc.2.2 ih).2.2
  ·rw [sQ_same hc]; exact ih
theorem sQ_step (P : PlayQ c log κ view u N F p) {j k : Nat} (hj : j < N) (hk : k < N) (hu : u.getD j false = true) (hku : u.getD k false = true) (hne : j ≠ k) :
  kErr c (sQ c log κ view u j k) (svcQ c k view) 6 = 0 ∧ callS 6 c (sQ c log κ view u j k) (svcQ c k view) = sQ c log κ view u j (k + 1) :=
 let h := sQ_step0 P hj hk hu hku hne (sQ_ok P hj k (by omega)); ⟨h.1, h.2.1⟩
def lQ (c : Cfg) (log : List Ent) (κ : Nat → Nat) (view : Int) (u : List Bool) (N i k : Nat) : List State := (List.range N).map fun j => sQ c log κ view u j (if j < i then N else if j = i then k else 0)
theorem lQ_len (i k : Nat) : (lQ c log κ view u N i k).length = N := by simp [lQ]
theorem lQ_get {i k j : Nat} (hj : j < N) : (lQ c log κ view u N i k)[j]? = some (sQ c log κ view u j (if j < i then N else if j = i then k else 0)) := by
 unfold lQ
 rw [List.getElem?_map, List.getElem?_range hj]
 rfl
theorem lQ_at {i k : Nat} (hi : i < N) : (lQ c log κ view u N i k)[i]? = some (sQ c log κ view u i k) := by
 rw [lQ_get hi, if_neg (by omega), if_pos rfl]
theorem lQ_set {i k : Nat} (hi : i < N) : (lQ c log κ view u N i k).set i (sQ c log κ view u i (k + 1)) = lQ c log κ view u N i (k + 1) := by
 apply List.ext_getElem?
 intro j
 by_cases hj : j < N
 ·rw [lQ_get hj, List.getElem?_set]
  by_cases e : i = j
  ·subst e
   rw [if_pos rfl, if_pos (by rw [lQ_len]; exact hi), if_neg (by omega), if_pos rfl]
  ·rw [if_neg e, lQ_get hj]
   by_cases h : j < i
   ·rw [if_pos h, if_pos h]
   ·rw [if_neg h, if_neg h, if_neg (by omega), if_neg (by omega)]
 ·rw [List.getElem?_eq_none (by rw [List.length_set, lQ_len]; omega), List.getElem?_eq_none (by rw [lQ_len]; omega)]
theorem lQ_same {i k : Nat} (h : ¬ (u.getD i false = true ∧ u.getD k false = true ∧ i ≠ k)) : lQ c log κ view u N i (k + 1) = lQ c log κ view u N i k := by
 unfold lQ
 apply List.map_congr_left
 intro j _
 by_cases h1 : j < i
 ·rw [if_pos h1, if_pos h1]
 ·rw [if_neg h1, if_neg h1]
  by_cases h2 : j = i
  ·subst h2; rw [if_pos rfl, if_pos rfl]; exact sQ_same h
  ·rw [if_neg h2, if_neg h2]
theorem lQ_next (i : Nat) : lQ c log κ view u N i N = lQ c log κ view u N (i + 1) 0 := by
 unfold lQ
 apply List.map_congr_left
 intro j _
 by_cases h1 : j < i
 ·rw [if_pos h1, if_pos (by omega)]
 ·rw [if_neg h1]
  by_cases h2 : j = i
  ·subst h2; rw [if_pos rfl, if_pos (by omega)]
  ·rw [if_neg h2, if_neg (by omega)]
   split <;> rfl
theorem lQ_zero : lQ c log κ view u N 0 0 = (List.range N).map fun j => baseQ c (LQ log κ j) (j : Nat) := by
 unfold lQ
 apply List.map_congr_left
 intro j _
 rw [if_neg (by omega)]
 split <;> exact sQ_zero j
theorem ks_ne (P : PlayQ c log κ view u N F p) {j : Nat} (hj : j < N) (hu : u.getD j false = true) : ksQ u j N ≠ [] := by
 intro h
 have h1 := P.cnt j hj hu
 have h2 : (ksQ u j N).length = F := by unfold ksQ; rw [List.length_map]; exact h1
 rw [h] at h2
 have := P.f; have := P.cfg.1
 simp at h2
 omega
theorem sQ_chg (P : PlayQ c log κ view u N F p) {j : Nat} (hj : j < N) (hu : u.getD j false = true) : sQ c log κ view u j N = chgQ c (LQ log κ j) j view (ksQ u j N) := by
 unfold sQ stQ
 rw [if_pos hu, if_neg (ks_ne P hj hu)]
theorem sQ_marks (P : PlayQ c log κ view u N F p) {j : Nat} (hj : j < N) (hu : u.getD j false = true) : ((sQ c log κ view u j N).marks.length : Int) = c.f := by
 rw [sQ_chg P hj hu]
 have h1 := P.cnt j hj hu
 have := P.f
 simp only [chgQ, List.length_map, ksQ]
 omega
theorem again_step (P : PlayQ c log κ view u N F p) {i : Nat} (hi : i < N) (hu : u.getD i false = true) (hne : p ≠ i) :
  agErr c (sQ c log κ view u i N) = 0 ∧ ((agL c (sQ c log κ view u i N)).length : Int) = nodesOf c ∧ ∃ to, (agL c (sQ c log κ view u i N))[(agL c (sQ c log κ view u i N)).length - 1]? = some ⟨to, dvQ c (LQ log κ i) i view⟩ := by
 have hok := sQ_ok P hi N (Nat.le_refl _)
 have hm := sQ_marks P hi hu
 have hs : (sQ c log κ view u i N).status = 2 := by rw [sQ_chg P hi hu]; rfl
 have hv : (sQ c log κ view u i N).view = view := by rw [sQ_chg P hi hu]; rfl
 have hse : (sQ c log κ view u i N).self = (i : Int) := by rw [sQ_chg P hi hu]; rfl
 have hp : primaryOf c (sQ c log κ view u i N).view ≠ (sQ c log κ view u i N).self := by rw [hv, hse, P.prim]; omega
 obtain ⟨a1, a2, a3⟩ := again_q hok hs (by omega) hp
 refine ⟨a1, a2, primaryOf c (sQ c log κ view u i N).view, ?_⟩
 rw [a3]
 unfold outM
 rw [sQ_chg P hi hu, dvQ_eq]
def bsQ (log : List Ent) (κ : Nat → Nat) (u : List Bool) (p i : Nat) : List Ballot := (othQ u p i).map fun j => balQ (LQ log κ j) j
def prQ (c : Cfg) (log : List Ent) (κ : Nat → Nat) (view : Int) (u : List Bool) (N p i : Nat) : State := priQ c (LQ log κ p) p view (ksQ u p N) (bsQ log κ u p i)
def bestQ (c : Cfg) (log : List Ent) (κ : Nat → Nat) (view : Int) (u : List Bool) (N p i : Nat) : Ballot := bestP (ownBal (prQ c log κ view u N p i)) (bsQ log κ u p i)
def pQ (c : Cfg) (log : List Ent) (κ : Nat → Nat) (view : Int) (u : List Bool) (N F p i : Nat) : State := if (othQ u p i).length < F then prQ c log κ view u N p i else ledT c (prQ c log κ view u N p i)
def vQ (c : Cfg) (log : List Ent) (κ : Nat → Nat) (view : Int) (u : List Bool) (N F p i : Nat) : List Send := if (othQ u p i).length < F then [] else
 allR c (ledS0 (prQ c log κ view u N p i) (bestQ c log κ view u N p i).log) (svM (prQ c log κ view u N p i) (bestQ c log κ view u N p i).log 0)
structure VInv (c : Cfg) (log : List Ent) (κ : Nat → Nat) (view : Int) (u : List Bool) (N F p i : Nat) : Prop where
 ok : stateErr c (pQ c log κ view u N F p i) = 0
 led : ¬ (othQ u p i).length < F → ((vQ c log κ view u N F p i).length : Int) = 2 * c.f ∧ ∀ x ∈ vQ c log κ view u N F p i, RightM c (pQ c log κ view u N F p i) x
theorem pQ_zero (P : PlayQ c log κ view u N F p) : pQ c log κ view u N F p 0 = sQ c log κ view u p N := by
 have := P.f; have := P.cfg.1
 unfold pQ
 rw [if_pos (by simp [othQ]; omega), sQ_chg P P.pN P.up]
 rfl
theorem vQ_zero (P : PlayQ c log κ view u N F p) : vQ c log κ view u N F p 0 = [] := by
 have := P.f; have := P.cfg.1
 unfold vQ
 rw [if_pos (by simp [othQ]; omega)]
theorem vinv_zero (P : PlayQ c log κ view u N F p) : VInv c log κ view u N F p 0 := by
 have := P.f; have := P.cfg.1
 refine ⟨?_, fun h => absurd (by simp [othQ]; omega) h⟩
 rw [pQ_zero P]
 exact sQ_ok P P.pN N (Nat.le_refl _)
theorem vsame {i : Nat} (h : ¬ (u.getD i false = true ∧ p ≠ i)) : othQ u p (i + 1) = othQ u p i := by rw [othQ_succ, if_neg h]
theorem psame {i : Nat} (h : ¬ (u.getD i false = true ∧ p ≠ i)) : pQ c log κ view u N F p (i + 1) = pQ c log κ view u N F p i ∧ vQ c log κ view u N F p (i + 1) = vQ c log κ view u N F p i := by
 unfold pQ vQ prQ bestQ prQ bsQ
 rw [vsame h]
 exact ⟨rfl, rfl⟩
theorem vinv_same {i : Nat} (h : ¬ (u.getD i false = true ∧ p ≠ i)) (v : VInv c log κ view u N F p i) : VInv c log κ view u N F p (i + 1) := by
 obtain ⟨h1, h2⟩ := psame (c := c) (log := log) (κ := κ) (view := view) (N := N) (F := F) h
 refine ⟨?_, ?_⟩
 ·rw [h1]; exact v.ok
 ·rw [vsame h, h1, h2]; exact v.led
theorem vote_step (P : PlayQ c log κ view u N F p) {i : Nat} (hi : i < N) (hu : u.getD i false = true) (hne : p ≠ i) (v : VInv c log κ view u N F p i) :
  kErr c (pQ c log κ view u N F p i) (dvQ c (LQ log κ i) i view) 7 = 0 ∧ callS 7 c (pQ c log κ view u N F p i) (dvQ c (LQ log κ i) i view) = pQ c log κ view u N F p (i + 1) ∧
  vQ c log κ view u N F p i = [] ∧ callL 7 c (pQ c log κ view u N F p i) (dvQ c (LQ log κ i) i view) = vQ c log κ view u N F p (i + 1) ∧ VInv c log κ view u N F p (i + 1) := by
 have hs : othQ u p (i + 1) = othQ u p i ++ [i] := by rw [othQ_succ, if_pos ⟨hu, hne⟩]
 have hle := othQ_le (u := u) (j := p) (m := i + 1) (n := N) (by omega)
 have hcn := P.cnt p P.pN P.up
 have hl : (othQ u p (i + 1)).length = (othQ u p i).length + 1 := by rw [hs]; simp
 have hlt : (othQ u p i).length < F := by omega
 have e0 : pQ c log κ view u N F p i = prQ c log κ view u N p i := by unfold pQ; rw [if_pos hlt]
 have hv0 : vQ c log κ view u N F p i = [] := by unfold vQ; rw [if_pos hlt]
 have hok := v.ok
 rw [e0] at hok
 have hoi := sQ_ok P hi N (Nat.le_refl _)
 rw [sQ_chg P hi hu] at hoi
 have hm := dvQ_ok hoi P.vw.1
 obtain ⟨a1, g, a3, a4, a5⟩ : kErr c (prQ c log κ view u N p i) (dvQ c (LQ log κ i) i view) 7 = 0 ∧ Goes c (prQ c log κ view u N p i) (dvQ c (LQ log κ i) i view) ∧ voteS c (prQ c log κ view u N p i) (dvQ c (LQ log κ i) i view) = priQ c (LQ log κ p) p view (ksQ u p N) (bsQ log κ u p i ++ [balQ (LQ log κ i) i]) ∧
  callS 7 c (prQ c log κ view u N p i) (dvQ c (LQ log κ i) i view) = votedS c (prQ c log κ view u N p i) (dvQ c (LQ log κ i) i view) ∧ callL 7 c (prQ c log κ view u N p i) (dvQ c (LQ log κ i) i view) = votedL c (prQ c log κ view u N p i) (dvQ c (LQ log κ i) i view) := vote_q (log := LQ log κ i) (i := (i : Int)) hok hm P.prim (by omega) (by
  intro x hx
  obtain ⟨y, hy, rfl⟩ := List.mem_map.1 hx
  have := (othQ_mem hy).1
  show (y : Int) < i
  omega)
 have a3' : voteS c (prQ c log κ view u N p i) (dvQ c (LQ log κ i) i view) = prQ c log κ view u N p (i + 1) := by
  rw [a3]
  unfold prQ bsQ
  rw [hs, List.map_append]
  rfl
 have hvw : (prQ c log κ view u N p i).view = (dvQ c (LQ log κ i) i view).view := rfl
 obtain ⟨f1, f2⟩ := first_eq (c := c) (X := prQ c log κ view u N p i) (m := dvQ c (LQ log κ i) i view) hvw
 have hpr : primaryOf c (prQ c log κ view u N p i).view = (prQ c log κ view u N p i).self := P.prim
 have hst := stand_call (k := 7) (.inr (.inl rfl)) a1
 rw [e0, hv0]
 have hbl : (prQ c log κ view u N p (i + 1)).ballots.length = (othQ u p i).length + 1 := by
  show (bsQ log κ u p (i + 1)).length = _
  unfold bsQ
  rw [List.length_map, hl]
 have hF := P.f
 by_cases hlast : (othQ u p (i + 1)).length < F
 ·have b1 : votedS c (prQ c log κ view u N p i) (dvQ c (LQ log κ i) i view) = prQ c log κ view u N p (i + 1) := by
   unfold votedS
   rw [f1, if_neg (not_not_intro hpr), a3', if_neg (by rw [hbl]; omega)]
  have b2 : votedL c (prQ c log κ view u N p i) (dvQ c (LQ log κ i) i view) = [] := by
   unfold votedL
   rw [f1, f2, if_neg (not_not_intro hpr), a3', if_neg (by rw [hbl]; omega)]
   rfl
  have c1 : pQ c log κ view u N F p (i + 1) = prQ c log κ view u N p (i + 1) := by unfold pQ; rw [if_pos hlast]
  have c2 : vQ c log κ view u N F p (i + 1) = [] := by unfold vQ; rw [if_pos hlast]
  have d1 : callS 7 c (prQ c log κ view u N p i) (dvQ c (LQ log κ i) i view) = prQ c log κ view u N p (i + 1) := a4.trans b1
  refine ⟨a1, ?_, rfl, ?_, ?_, fun h => absurd hlast h⟩
  ·rw [c1]; exact d1
  ·rw [c2]; exact a5.trans b2
  ·rw [c1, ← d1]; exact hst.ok
 ·have hz : (prQ c log κ view u N p i).commit = 0 ∧ ∀ b ∈ (voteS c (prQ c log κ view u N p i) (dvQ c (LQ log κ i) i view)).ballots, b.commit = 0 := by
   refine ⟨rfl, ?_⟩
   rw [a3']
   intro b hb
   obtain ⟨y, hy, rfl⟩ := List.mem_map.1 (show b ∈ bsQ log κ u p (i + 1) from hb)
   rfl
  obtain ⟨l1, l2, l3, l4⟩ := lead_q g rfl hvw hpr (by rw [a3', hbl]; omega) hz
  rw [a3'] at l1 l3
  have c1 : pQ c log κ view u N F p (i + 1) = ledT c (prQ c log κ view u N p (i + 1)) := by unfold pQ; rw [if_neg hlast]
  have c2 : vQ c log κ view u N F p (i + 1) = votedL c (prQ c log κ view u N p i) (dvQ c (LQ log κ i) i view) := by
   unfold vQ; rw [if_neg hlast, l3]; rfl
  have d1 : callS 7 c (prQ c log κ view u N p i) (dvQ c (LQ log κ i) i view) = pQ c log κ view u N F p (i + 1) := by rw [c1]; exact a4.trans l1
  have d2 : callL 7 c (prQ c log κ view u N p i) (dvQ c (LQ log κ i) i view) = vQ c log κ view u N F p (i + 1) := by rw [c2]; exact a5
  refine ⟨a1, d1, rfl, d2, ?_, fun _ => ⟨by rw [c2]; exact l4, ?_⟩⟩
  ·rw [← d1]; exact hst.ok
  ·rw [← d1, ← d2]; exact hst.right
def mostQ (log : List Ent) (κ : Nat → Nat) (u : List Bool) (i : Nat) : Nat := (List.range i).foldl (fun a j => if u.getD j false = true ∧ a < (LQ log κ j).length then (LQ log κ j).length else a) 0
theorem mostQ_succ (i : Nat) : mostQ log κ u (i + 1) = if u.getD i false = true ∧ mostQ log κ u i < (LQ log κ i).length then (LQ log κ i).length else mostQ log κ u i := by
 unfold mostQ
 rw [List.range_succ, List.foldl_append]
 rfl
theorem mostQ_ge : ∀ i j, j < i → u.getD j false = true → (LQ log κ j).length ≤ mostQ log κ u i
 | 0, j, h, _ => by omega
 | i + 1, j, h, hu => by
  rw [mostQ_succ]
  by_cases e : j = i
  ·subst e
   split
   ·exact Nat.le_refl _
   ·rename_i hn
    have : ¬ mostQ log κ u j < (LQ log κ j).length := fun q => hn ⟨hu, q⟩
    omega
  ·have ih := mostQ_ge i j (by omega) hu
   split
   ·rename_i hn; omega
   ·exact ih
theorem mostQ_in : ∀ i, mostQ log κ u i = 0 ∨ ∃ j, j < i ∧ u.getD j false = true ∧ mostQ log κ u i = (LQ log κ j).length
 | 0 => .inl rfl
 | i + 1 => by
  rw [mostQ_succ]
  split
  ·rename_i h; exact .inr ⟨i, by omega, h.1, rfl⟩
  ·rcases mostQ_in i with h | ⟨j, h1, h2, h3⟩
   ·exact .inl h
   ·exact .inr ⟨j, by omega, h2, h3⟩
theorem mostQ_le (i : Nat) : mostQ log κ u i ≤ log.length := by
 rcases mostQ_in (log := log) (κ := κ) (u := u) i with h | ⟨j, _, _, h⟩
 ·omega
 ·rw [h]; unfold LQ; rw [List.length_take]; omega
theorem best_most (P : PlayQ c log κ view u N F p) : (bestQ c log κ view u N p N).log = log.take (mostQ log κ u N) ∧ (bestQ c log κ view u N p N).log.length = mostQ log κ u N := by
 have hown : ownBal (prQ c log κ view u N p N) = ⟨(p : Int), drawAt (prQ c log κ view u N p N) p, 0, 0, LQ log κ p⟩ := rfl
 have key := best_q (own := ownBal (prQ c log κ view u N p N)) (bs := bsQ log κ u p N) (log := log) ?_ ?_ ?_
 ·obtain ⟨b1, ⟨x, hx, b2⟩, b3⟩ := key
  have hlen : (bestP (ownBal (prQ c log κ view u N p N)) (bsQ log κ u p N)).log.length = mostQ log κ u N := by
   apply Nat.le_antisymm
   ·rw [← b2]
    rcases List.mem_cons.1 hx with rfl | hx
    ·rw [hown]; exact mostQ_ge N p P.pN P.up
    ·obtain ⟨y, hy, rfl⟩ := List.mem_map.1 hx
     obtain ⟨y1, y2, _⟩ := othQ_mem hy
     exact mostQ_ge N y y1 y2
   ·rcases mostQ_in (log := log) (κ := κ) (u := u) N with h | ⟨j, h1, h2, h3⟩
    ·omega
    ·rw [h3]
     by_cases e : p = j
     ·subst e
      have := b3 _ (by simp : ownBal (prQ c log κ view u N p N) ∈ ownBal (prQ c log κ view u N p N) :: bsQ log κ u p N)
      exact this
     ·have := b3 (balQ (LQ log κ j) j) (by
       refine List.mem_cons_of_mem _ (List.mem_map.2 ⟨j, othQ_in h1 h2 e, rfl⟩))
      exact this
  refine ⟨?_, hlen⟩
  unfold bestQ
  rw [b1, hlen]
 ·unfold bsQ
  rw [List.pairwise_map]
  refine (othQ_pair u p N).imp ?_
  intro a b h
  show (a : Int) < b
  omega
 ·intro b hb
  obtain ⟨y, hy, rfl⟩ := List.mem_map.1 hb
  have := (othQ_mem hy).2.2
  show (p : Int) ≠ y
  omega
 ·intro x hx
  rcases List.mem_cons.1 hx with rfl | hx
  ·exact ⟨rfl, κ p, rfl⟩
  ·obtain ⟨y, hy, rfl⟩ := List.mem_map.1 hx
   exact ⟨rfl, κ y, rfl⟩
theorem end_q (P : PlayQ c log κ view u N F p) (v : VInv c log κ view u N F p N) :
  (pQ c log κ view u N F p N).status = 1 ∧ (pQ c log κ view u N F p N).view = view ∧ (pQ c log κ view u N F p N).log.length = mostQ log κ u N ∧ ((vQ c log κ view u N F p N).length : Int) = nodesOf c - 1 := by
 have hcn := P.cnt p P.pN P.up
 have hlast : ¬ (othQ u p N).length < F := by omega
 have c1 : pQ c log κ view u N F p N = ledT c (prQ c log κ view u N p N) := by unfold pQ; rw [if_neg hlast]
 refine ⟨by rw [c1]; rfl, by rw [c1]; rfl, ?_, ?_⟩
 ·rw [c1]; exact (best_most P).2
 ·rw [(v.led hlast).1, P.nodes]
  have := P.f; have := P.n
  omega
theorem inst_step (P : PlayQ c log κ view u N F p) (v : VInv c log κ view u N F p N) {x : Send} (hx : x ∈ vQ c log κ view u N F p N) :
  ∃ t : Nat, x.to = t ∧ t < N ∧ t ≠ p ∧ msgErr c x.msg = 0 ∧ kErr c (sQ c log κ view u t N) x.msg 8 = 0 ∧ (callS 8 c (sQ c log κ view u t N) x.msg).status = 1 ∧ (callS 8 c (sQ c log κ view u t N) x.msg).view = view ∧
   (callS 8 c (sQ c log κ view u t N) x.msg).log = log.take (mostQ log κ u N) ∧ x.msg.vector = zerosV c ∧ x.msg.log = log.take (mostQ log κ u N) := by
 have hcn := P.cnt p P.pN P.up
 have hlast : ¬ (othQ u p N).length < F := by omega
 have c1 : pQ c log κ view u N F p N = ledT c (prQ c log κ view u N p N) := by unfold pQ; rw [if_neg hlast]
 have hr := (v.led hlast).2 x hx
 have hvq : vQ c log κ view u N F p N = allR c (ledS0 (prQ c log κ view u N p N) (bestQ c log κ view u N p N).log) (svM (prQ c log κ view u N p N) (bestQ c log κ view u N p N).log 0) := by unfold vQ; rw [if_neg hlast]
 rw [hvq] at hx
 obtain ⟨_, t, ht, htn, rfl⟩ := allR_mem hx
 have hmsg := views_q (c := c) (u := prQ c log κ view u N p N) (log := (bestQ c log κ view u N p N).log) (i := (t : Int)) (view := view) rfl rfl
 have hN := P.nodes
 have hse : (ledS0 (prQ c log κ view u N p N) (bestQ c log κ view u N p N).log).self = (p : Int) := rfl
 have htp : t ≠ p := by
  intro e; subst e; exact htn hse.symm
 have htN : t < N := by omega
 have hok := sQ_ok P htN N (Nat.le_refl _)
 have herr := hr.err
 refine ⟨t, rfl, htN, htp, herr, ?_⟩
 rw [hmsg] at herr ⊢
 have hpself : (prQ c log κ view u N p N).self = (p : Int) := rfl
 rw [hpself] at herr ⊢
 have hv1 := P.vw.1
 have hzs : (sQ c log κ view u t N).vector = zerosV c ∧ (sQ c log κ view u t N).self = (t : Int) ∧ (sQ c log κ view u t N).status ≠ 3 ∧ ((sQ c log κ view u t N).view < view ∨ (sQ c log κ view u t N).view = view ∧ (sQ c log κ view u t N).status = 2) := by
  rcases sQ_cases (c := c) (log := log) (κ := κ) (view := view) (u := u) t N with e | ⟨ks, e⟩
  ·rw [e]
   exact ⟨rfl, rfl, by simp [baseQ], .inl (by simp [baseQ]; omega)⟩
  ·rw [e]
   exact ⟨rfl, rfl, by simp [chgQ, goS], .inr ⟨rfl, rfl⟩⟩
 obtain ⟨hzs, hss, hst⟩ := hzs
 obtain ⟨i1, i2, i3, i4⟩ := inst_q hok herr hzs (by rw [hss]; omega) hst
 exact ⟨i1, i2, i3, by rw [i4]; exact (best_most P).1, rfl, (best_most P).1⟩
end
end Go.Ax
namespace Go.Ax
set_option linter.all false
variable {n d : Nat}
set_option maxRecDepth 10000
set_option linter.unusedSimpArgs false
set_option maxHeartbeats 16000000
abbrev bigB (l : List State) : Blk := .arr 36 12 false false (l.map encS)
abbrev upB (u : List Bool) : Blk := .arr 4 1 true false (u.map Dat.bool)
abbrev vwB (v : List Send) : Blk := .arr 62 19 false false (v.map encSd)
abbrev encIs (l : List Int) : Dat := .sl 1 true (l.map di)
def kQ (log : List Ent) (keep : List Int) (j : Nat) : Nat := match keep[j]? with
 | some k => if 0 ≤ k ∧ k < (log.length : Int) then k.toNat else log.length
 | none => log.length
def S_q0 (c : Cfg) (log : List Ent) (keep : List Int) (view : Int) (N : Nat) (i : Nat) (a : List State) : St := ⟨[(1, .dat (encLog log)), (2, .dat (encIs keep)), (3, .dat (di view)), (4, .ptr 0 0), (9, .dat (di N)), (11, .own 1 0 a.length), (12, .dat (di i))], [boxC c, bigB a]⟩
theorem r_q0 (c : Cfg) (log : List Ent) (keep : List Int) (view : Int) (N i : Nat) (a : List State) (hz : zerosV c = List.replicate N ⟨0, 0⟩) (hN : N ≤ 100) (hi : i < N) (ha : a.length = i) (hl : log.length ≤ 1048576) (hk : keep.length ≤ 1048576) (hn : 2097157 < n) :
  nextK (headOf 0 xf_law11_ChangeQuorum_k0) (XCode.run (runFn T n (d + 14)) n 0 xf_law11_ChangeQuorum_b0 (S_q0 c log keep view N i a)) = some (S_q0 c log keep view N (i + 1) (a ++ [baseQ c (LQ log (kQ log keep) i) i])) := by
 have hi' : (i : Int) < N := by omega
 have hw := wrap_i i (by omega)
 have hL1 : i + 1 ≤ LIM := by simp only [LIM]; omega
 have hL2 : (N : Int) ≤ (LIM : Nat) := by simp only [LIM]; omega
 unfold S_q0 LQ kQ baseQ
 rw [hz]
 subst ha
 cases hg : keep[a.length]? with
 | none =>
  have hg1 : ¬ (a.length : Int) < keep.length := by
   have := List.getElem?_eq_none_iff.1 hg
   omega
  have ce := e_plain_CopyEntries (n := n) (d := d + 13) (log.take log.length) (by simp; omega)
  rw [List.take_length] at ce
  simp (maxSteps := 1000000) [xf_law11_ChangeQuorum_b0, xf_law11_ChangeQuorum_k0, hi', hw, hg1, ce, hL1, hL2]
 | some k =>
  have hg0 := (List.getElem?_eq_some_iff.1 hg).1
  have hg1 : (a.length : Int) < keep.length := by omega
  by_cases q1 : 0 ≤ k
  ·by_cases q2 : k < (log.length : Int)
   ·have ce : runFn T n (d + 14) 7 [.dat (.sl 5 true ((log.map encE).take k.toNat))] [] = some (.own 0 0 (log.take k.toNat).length, [arrE (log.take k.toNat)]) := by
     rw [← List.map_take]
     exact e_plain_CopyEntries (n := n) (d := d + 13) (log.take k.toNat) (by simp; omega)
    have q3 : k ≤ (log.length : Int) := by omega
    simp (maxSteps := 1000000) [xf_law11_ChangeQuorum_b0, xf_law11_ChangeQuorum_k0, hi', hw, hg, hg1, ce, q1, q2, q3, hL1, hL2, List.take_take]
   ·have ce := e_plain_CopyEntries (n := n) (d := d + 13) (log.take log.length) (by simp; omega)
    rw [List.take_length] at ce
    simp (maxSteps := 1000000) [xf_law11_ChangeQuorum_b0, xf_law11_ChangeQuorum_k0, hi', hw, hg, hg1, ce, q1, q2, hL1, hL2]
  ·have ce := e_plain_CopyEntries (n := n) (d := d + 13) (log.take log.length) (by simp; omega)
   rw [List.take_length] at ce
   simp (maxSteps := 1000000) [xf_law11_ChangeQuorum_b0, xf_law11_ChangeQuorum_k0, hi', hw, hg, hg1, ce, q1, hL1, hL2]
theorem l_q0 (c : Cfg) (log : List Ent) (keep : List Int) (view : Int) (N : Nat) (hz : zerosV c = List.replicate N ⟨0, 0⟩) (hN : N ≤ 100) (hl : log.length ≤ 1048576) (hk : keep.length ≤ 1048576) (hn : 2097157 < n) :
  loopAt (XCode.run (runFn T n (d + 14)) n 0 xf_law11_ChangeQuorum_b0) (headOf 0 xf_law11_ChangeQuorum_k0) n (S_q0 c log keep view N 0 []) =
  some (.exit 0, ⟨[(1, .dat (encLog log)), (3, .dat (di view)), (4, .ptr 0 0), (9, .dat (di N)), (11, .own 1 0 N)], [boxC c, bigB ((List.range N).map fun j => baseQ c (LQ log (kQ log keep) j) (j : Nat))]⟩) := by
 have main := loop_fold (body := XCode.run (runFn T n (d + 14)) n 0 xf_law11_ChangeQuorum_b0) (head := headOf 0 xf_law11_ChangeQuorum_k0) (S_q0 c log keep view N) (fun i a => a.length = i) (List.range N) (fun a j => a ++ [baseQ c (LQ log (kQ log keep) j) (j : Nat)])
  (fun a => (.exit 0, ⟨[(1, .dat (encLog log)), (3, .dat (di view)), (4, .ptr 0 0), (9, .dat (di N)), (11, .own 1 0 a.length)], [boxC c, bigB a]⟩)) [] rfl
  (fun i a hi hI => ?_) (fun a hI => ?_) (fun a s h => by cases h) n (by simp; omega)
 ·rw [main, foldl_snoc_map]
  simp
 ·simp only [List.length_range] at hi
  rw [List.getElem_range]
  refine ⟨by simp [hI], nextK_some ?_⟩
  exact r_q0 c log keep view N i a hz hN hi hI hl hk hn
 ·simp only [List.length_range] at hI
  simp [xf_law11_ChangeQuorum_b0, S_q0]
def S_q1 (c : Cfg) (log : List Ent) (view : Int) (N p : Nat) (l : List State) (i : Nat) (u : List Bool) : St := ⟨[(1, .dat (encLog log)), (3, .dat (di view)), (4, .ptr 0 0), (9, .dat (di N)), (11, .own 1 0 l.length), (14, .dat (di p)), (15, .own 2 0 u.length), (16, .dat (di i))], [boxC c, bigB l, upB u]⟩
theorem l_q1 (cf : CallF) (c : Cfg) (log : List Ent) (view : Int) (N F p : Nat) (l : List State) (hF : (F : Int) = c.f) (hN : N = 2 * F + 1) (hF3 : F ≤ 3) (hp : p < N) (hn : 2097157 < n) :
  loopAt (XCode.run cf n 0 xf_law11_ChangeQuorum_b1) (headOf 0 xf_law11_ChangeQuorum_k1) n (S_q1 c log view N p l 0 (List.replicate N false)) =
  some (.exit 2, ⟨[(1, .dat (encLog log)), (3, .dat (di view)), (4, .ptr 0 0), (9, .dat (di N)), (11, .own 1 0 l.length), (14, .dat (di p)), (15, .own 2 0 N)], [boxC c, bigB l, upB (upQ F p (F + 1))]⟩) := by
 have main := loop_fold (body := XCode.run cf n 0 xf_law11_ChangeQuorum_b1) (head := headOf 0 xf_law11_ChangeQuorum_k1) (S_q1 c log view N p l) (fun i u => u.length = N) (List.range (F + 1)) (fun u i => u.set ((p + i) % (2 * F + 1)) true)
  (fun u => (.exit 2, ⟨[(1, .dat (encLog log)), (3, .dat (di view)), (4, .ptr 0 0), (9, .dat (di N)), (11, .own 1 0 l.length), (14, .dat (di p)), (15, .own 2 0 N)], [boxC c, bigB l, upB u]⟩)) (List.replicate N false) (by simp)
  (fun i u hi hI => ?_) (fun u hI => ?_) (fun a s h => by cases h) n (by simp; omega)
 ·rw [main]
  unfold upQ
  rw [hN]
 ·simp only [List.length_range] at hi
  rw [List.getElem_range]
  refine ⟨by simp [hI], nextK_some ?_⟩
  have hi' : (i : Int) ≤ c.f := by omega
  have hw := wrap_i i (by omega)
  have hw2 : IntKind.wrap .i64 ((p : Int) + i) = ((p + i : Nat) : Int) := by rw [wrap_small (by omega)]; omega
  have hm : ((p + i : Nat) : Int).tmod (N : Int) = (((p + i) % N : Nat) : Int) := rfl
  have hlt : (p + i) % N < N := Nat.mod_lt _ (by omega)
  have hlt' : (((p + i) % N : Nat) : Int) < N := by omega
  have h0 : (0 : Int) ≤ (((p + i) % N : Nat) : Int) := by omega
  have hN0 : ¬ (N : Int) = 0 := by omega
  have hN0' : ¬ N = 0 := by omega
  rw [← hN]
  unfold S_q1
  subst hI
  have hget : (u.map Dat.bool)[(p + i) % u.length]? = some (.bool u[(p + i) % u.length]) := by simp [hlt]
  generalize (p + i) % u.length = q at *
  generalize p + i = pi at *
  simp (maxSteps := 1000000) [xf_law11_ChangeQuorum_b1, xf_law11_ChangeQuorum_k1, hi', hw, hw2, hm, hlt, hlt', h0, hN0, hN0', hget]
 ·have : ¬ ((F : Int) + 1) ≤ c.f := by omega
  simp [xf_law11_ChangeQuorum_b1, S_q1, this, hI]
def S_q2 (c : Cfg) (log : List Ent) (view : Int) (N p : Nat) (l : List State) (u : List Bool) (i : Nat) (a : Nat) : St := ⟨[(1, .dat (encLog log)), (3, .dat (di view)), (4, .ptr 0 0), (9, .dat (di N)), (11, .own 1 0 l.length), (14, .dat (di p)), (15, .own 2 0 u.length), (17, .dat (di a)), (18, .dat (di i))], [boxC c, bigB l, upB u]⟩
theorem l_q2 (cf : CallF) (c : Cfg) (log : List Ent) (κ : Nat → Nat) (view : Int) (N p : Nat) (l : List State) (u : List Bool) (hl : l.length = N) (hu : u.length = N) (hx : ∀ i, i < N → ∃ x, l[i]? = some x ∧ x.log = LQ log κ i) (hN : N ≤ 100) (hn : 2097157 < n) :
  loopAt (XCode.run cf n 0 xf_law11_ChangeQuorum_b2) (headOf 0 xf_law11_ChangeQuorum_k2) n (S_q2 c log view N p l u 0 0) =
  some (.exit 4, ⟨[(1, .dat (encLog log)), (3, .dat (di view)), (4, .ptr 0 0), (9, .dat (di N)), (11, .own 1 0 l.length), (14, .dat (di p)), (15, .own 2 0 u.length), (17, .dat (di (mostQ log κ u N : Nat)))], [boxC c, bigB l, upB u]⟩) := by
 refine loop_for (fun i => S_q2 c log view N p l u i (mostQ log κ u i)) N _ (fun i hi => nextK_some ?_) ?_ (fun s h => by cases h) n (by omega)
 ·have hi' : (i : Int) < N := by omega
  have hw := wrap_i i (by omega)
  have hlt : i < l.length := by omega
  have hlt' : (i : Int) < l.length := by omega
  have hut : i < u.length := by omega
  have hut' : (i : Int) < u.length := by omega
  obtain ⟨x, hx1, hx2⟩ := hx i hi
  have hub : u[i]? = some (u.getD i false) := by rw [List.getD_eq_getElem?_getD, List.getElem?_eq_getElem hut]; rfl
  rw [mostQ_succ]
  unfold S_q2
  rw [← hx2]
  generalize u.getD i false = b at *
  generalize mostQ log κ u i = a at *
  cases b
  ·simp (maxSteps := 1000000) [xf_law11_ChangeQuorum_b2, xf_law11_ChangeQuorum_k2, hi', hw, hlt', hut', hx1, hub]
  ·by_cases q : a < x.log.length
   ·have q' : (a : Int) < x.log.length := by omega
    simp (maxSteps := 1000000) [xf_law11_ChangeQuorum_b2, xf_law11_ChangeQuorum_k2, hi', hw, hlt', hut', hx1, hub, q, q']
   ·have q' : ¬ (a : Int) < x.log.length := by omega
    simp (maxSteps := 1000000) [xf_law11_ChangeQuorum_b2, xf_law11_ChangeQuorum_k2, hi', hw, hlt', hut', hx1, hub, q, q']
 ·simp [xf_law11_ChangeQuorum_b2, S_q2]
def S_q4 (c : Cfg) (log : List Ent) (view : Int) (N p most : Nat) (u : List Bool) (i k : Nat) (l : List State) : St := ⟨[(1, .dat (encLog log)), (3, .dat (di view)), (4, .ptr 0 0), (9, .dat (di N)), (11, .own 1 0 l.length), (14, .dat (di p)), (15, .own 2 0 u.length), (17, .dat (di most)), (19, .dat (di i)), (20, .dat (di k))], [boxC c, bigB l, upB u]⟩
theorem r_q4 (c : Cfg) (log : List Ent) (view : Int) (N p most : Nat) (u : List Bool) (i k : Nat) (l : List State) (X Y : State) (L : List Send) (hz : zerosV c = List.replicate N ⟨0, 0⟩) (hl : l.length = N) (hu : u.length = N) (hi : i < N) (hk : k < N) (hX : l[i]? = some X)
  (st : u.getD i false = true → u.getD k false = true → i ≠ k → runFn T n (d + 14) 9 [.dat (encCfg c), .dat (encS X), .dat (encM (svcQ c k view))] [] = some (.tup [.dat (encS Y), .dat (encSds L), .dat (di 0)], [])) (hN : N ≤ 100) (hn : 2097157 < n) :
  nextK (headOf 0 xf_law11_ChangeQuorum_k4) (XCode.run (runFn T n (d + 14)) n 0 xf_law11_ChangeQuorum_b4 (S_q4 c log view N p most u i k l)) = some (S_q4 c log view N p most u i (k + 1) (if u.getD i false = true ∧ u.getD k false = true ∧ i ≠ k then l.set i Y else l)) := by
 have hi' : (i : Int) < N := by omega
 have hk' : (k : Int) < N := by omega
 have hw := wrap_i k (by omega)
 have hlt : i < l.length := by omega
 have hlt' : (i : Int) < l.length := by omega
 have hut : i < u.length := by omega
 have hut' : (i : Int) < u.length := by omega
 have hvt : k < u.length := by omega
 have hvt' : (k : Int) < u.length := by omega
 have nm := e_num11 (n := n) (d := d + 13) 0
 have hL2 : (N : Int) ≤ (LIM : Nat) := by simp only [LIM]; omega
 have hub : u[i]? = some (u.getD i false) := by rw [List.getD_eq_getElem?_getD, List.getElem?_eq_getElem hut]; rfl
 have huc : u[k]? = some (u.getD k false) := by rw [List.getD_eq_getElem?_getD, List.getElem?_eq_getElem hvt]; rfl
 by_cases e : i = k
 ·subst e
  generalize u.getD i false = b at *
  unfold S_q4
  cases b <;> simp (maxSteps := 1000000) [xf_law11_ChangeQuorum_b4, xf_law11_ChangeQuorum_k4, hk', hw, hlt', hut', hub]
 ·have e1 : (i : Int) = k ↔ False := iff_of_false (by omega) id
  have e2 : (i = k) = False := eq_false e
  generalize u.getD i false = b at *
  generalize u.getD k false = b2 at *
  cases b
  ·unfold S_q4
   simp (maxSteps := 1000000) [xf_law11_ChangeQuorum_b4, xf_law11_ChangeQuorum_k4, hk', hw, hlt', hut', hvt', hub, huc, e1, e2]
  ·cases b2
   ·unfold S_q4
    simp (maxSteps := 1000000) [xf_law11_ChangeQuorum_b4, xf_law11_ChangeQuorum_k4, hk', hw, hlt', hut', hvt', hub, huc, e1, e2]
   ·have st := st rfl rfl e
    have hv : encV (List.replicate N (⟨0, 0⟩ : Draw)) = .sl 2 true (List.replicate N (.agg [du 0, du 0])) := by simp [encV]
    have hl0 : encLog [] = .sl 5 true [] := rfl
    have hb0 : ByteArray.empty = ⟨#[]⟩ := rfl
    unfold svcQ encM cellsM at st
    simp only [zeroM, hz, hv, hl0, hb0] at st
    unfold S_q4
    simp (maxSteps := 1000000) [xf_law11_ChangeQuorum_b4, xf_law11_ChangeQuorum_k4, hk', hw, hlt', hut', hvt', hub, huc, e1, e2, hX, st, nm, hL2]
end Go.Ax
namespace Go.Ax
set_option linter.all false
variable {n d : Nat}
set_option maxRecDepth 10000
set_option linter.unusedSimpArgs false
set_option maxHeartbeats 16000000
section
variable {c : Cfg} {log : List Ent} {κ : Nat → Nat} {view : Int} {u : List Bool} {N F p : Nat}
theorem n_small (P : PlayQ c log κ view u N F p) : N ≤ 7 ∧ 3 ≤ N ∧ F ≤ 3 ∧ 1 ≤ F := by
 have := P.f; have := P.n; have := P.cfg
 unfold cfgOk at this
 omega
theorem zeros_N (P : PlayQ c log κ view u N F p) : zerosV c = List.replicate N ⟨0, 0⟩ := by
 unfold zerosV
 rw [P.nodes]
 rfl
theorem log_small (P : PlayQ c log κ view u N F p) : log.length ≤ 256 := by
 have := logErr_room P.ok
 have := P.cfg
 unfold cfgOk at this
 omega
theorem LQ_small (P : PlayQ c log κ view u N F p) (j : Nat) : (LQ log κ j).length ≤ 256 := by
 have := log_small P
 unfold LQ
 rw [List.length_take]
 omega
theorem zeros_nn (P : PlayQ c log κ view u N F p) : (zerosV c).length ≤ 7 ∧ ∀ x ∈ zerosV c, Nn x := by
 rw [zeros_N P]
 refine ⟨by simp; exact (n_small P).1, fun x hx => ?_⟩
 have := List.eq_of_mem_replicate hx
 subst this
 exact ⟨Int.le_refl _, Int.le_refl _⟩
theorem base_small (P : PlayQ c log κ view u N F p) (j : Nat) : Small2 (baseQ c (LQ log κ j) j) := by
 have h1 := LQ_small P j
 have h2 := (zeros_nn P).1
 exact ⟨⟨by simp only [baseQ]; omega, by simp only [baseQ]; omega, by simp [baseQ], by simp [baseQ], by simp [baseQ], by simp [baseQ], by simp [baseQ], by simp [baseQ]⟩, by simp only [baseQ]; omega, by simp only [baseQ]; omega, by simp [baseQ], by simp [baseQ]⟩
theorem svc_smallQ (P : PlayQ c log κ view u N F p) (k : Int) : SmallM (svcQ c k view) := by
 have h2 := (zeros_nn P).1
 exact ⟨by simp [svcQ, zeroM], by simp only [svcQ]; omega⟩
theorem dv_smallQ (P : PlayQ c log κ view u N F p) (j : Nat) (k : Int) : SmallM (dvQ c (LQ log κ j) k view) := by
 have h1 := LQ_small P j
 have h2 := (zeros_nn P).1
 exact ⟨by simp only [dvQ]; omega, by simp only [dvQ]; omega⟩
theorem sQ_small (P : PlayQ c log κ view u N F p) {j : Nat} (hj : j < N) : ∀ m, m ≤ N → Small2 (sQ c log κ view u j m)
 | 0, _ => by rw [sQ_zero]; exact base_small P j
 | m + 1, h => by
  have ih := sQ_small P hj m (by omega)
  by_cases hc : u.getD j false = true ∧ u.getD m false = true ∧ j ≠ m
  ·rw [← (sQ_step P hj (by omega) hc.1 hc.2.1 hc.2.2).2]
   exact (call6_small ih).1
  ·rw [sQ_same hc]; exact ih
theorem sQ_vec (j m : Nat) : (sQ c log κ view u j m).vector = zerosV c := by
 rcases sQ_cases (c := c) (log := log) (κ := κ) (view := view) (u := u) j m with e | ⟨ks, e⟩ <;> rw [e] <;> rfl
theorem e_startQ (P : PlayQ c log κ view u N F p) {j k : Nat} (hj : j < N) (hk : k < N) (hu : u.getD j false = true) (hku : u.getD k false = true) (hne : j ≠ k) (hn : 2097157 < n) :
  ∃ L, runFn T n (d + 14) 9 [.dat (encCfg c), .dat (encS (sQ c log κ view u j k)), .dat (encM (svcQ c k view))] [] = some (.tup [.dat (encS (sQ c log κ view u j (k + 1))), .dat (encSds L), .dat (di 0)], []) := by
 have h := e_change_Start (n := n) (d := d + 2) c (sQ c log κ view u j k) (svcQ c k view) (sQ_small P hj k (by omega)) (svc_smallQ P k) (by rw [sQ_vec]; exact (zeros_nn P).2) hn
 obtain ⟨a, b⟩ := sQ_step P hj hk hu hku hne
 rw [a, b] at h
 exact ⟨_, h⟩
theorem l_q4 (P : PlayQ c log κ view u N F p) (most i : Nat) (hi : i < N) (hn : 2097157 < n) :
  loopAt (XCode.run (runFn T n (d + 14)) n 0 xf_law11_ChangeQuorum_b4) (headOf 0 xf_law11_ChangeQuorum_k4) n (S_q4 c log view N p most u i 0 (lQ c log κ view u N i 0)) =
  some (.exit 8, ⟨[(1, .dat (encLog log)), (3, .dat (di view)), (4, .ptr 0 0), (9, .dat (di N)), (11, .own 1 0 N), (14, .dat (di p)), (15, .own 2 0 N), (17, .dat (di most)), (19, .dat (di i))], [boxC c, bigB (lQ c log κ view u N (i + 1) 0), upB u]⟩) := by
 have hN := n_small P
 refine loop_for (fun k => S_q4 c log view N p most u i k (lQ c log κ view u N i k)) N _ (fun k hk => nextK_some ?_) ?_ (fun s h => by cases h) n (by omega)
 ·by_cases hc : u.getD i false = true ∧ u.getD k false = true ∧ i ≠ k
  ·obtain ⟨L, st⟩ := e_startQ (n := n) (d := d) P hi hk hc.1 hc.2.1 hc.2.2 hn
   have r := r_q4 (n := n) (d := d) c log view N p most u i k (lQ c log κ view u N i k) (sQ c log κ view u i k) (sQ c log κ view u i (k + 1)) L (zeros_N P) (lQ_len i k) P.len hi hk (lQ_at hi) (fun _ _ _ => st) (by omega) hn
   rw [if_pos hc, lQ_set hi] at r
   exact r
  ·have r := r_q4 (n := n) (d := d) c log view N p most u i k (lQ c log κ view u N i k) (sQ c log κ view u i k) (sQ c log κ view u i (k + 1)) [] (zeros_N P) (lQ_len i k) P.len hi hk (lQ_at hi) (fun a b e => absurd ⟨a, b, e⟩ hc) (by omega) hn
   rw [if_neg hc] at r
   rw [lQ_same hc]
   exact r
 ·rw [← lQ_next]
  have e1 := lQ_len (c := c) (log := log) (κ := κ) (view := view) (u := u) (N := N) i N
  have e2 := P.len
  generalize lQ c log κ view u N i N = l at *
  simp [xf_law11_ChangeQuorum_b4, S_q4, e1, e2]
def S_q3 (c : Cfg) (log : List Ent) (view : Int) (N p most : Nat) (u : List Bool) (i : Nat) (l : List State) : St := ⟨[(1, .dat (encLog log)), (3, .dat (di view)), (4, .ptr 0 0), (9, .dat (di N)), (11, .own 1 0 N), (14, .dat (di p)), (15, .own 2 0 N), (17, .dat (di most)), (19, .dat (di i))], [boxC c, bigB l, upB u]⟩
theorem l_q3 (P : PlayQ c log κ view u N F p) (most : Nat) (hn : 2097157 < n) :
  loopAt (XCode.run (runFn T n (d + 14)) n 0 xf_law11_ChangeQuorum_b3) (headOf 0 xf_law11_ChangeQuorum_k3) n (S_q3 c log view N p most u 0 (lQ c log κ view u N 0 0)) =
  some (.exit 6, ⟨[(1, .dat (encLog log)), (3, .dat (di view)), (4, .ptr 0 0), (9, .dat (di N)), (11, .own 1 0 N), (14, .dat (di p)), (15, .own 2 0 N), (17, .dat (di most))], [boxC c, bigB (lQ c log κ view u N N 0), upB u]⟩) := by
 have hN := n_small P
 refine loop_for (fun i => S_q3 c log view N p most u i (lQ c log κ view u N i 0)) N _ (fun i hi => nextK_some ?_) ?_ (fun s h => by cases h) n (by omega)
 ·have hi' : (i : Int) < N := by omega
  have hw := wrap_i i (by omega)
  have h4 := l_q4 (n := n) (d := d) P most i hi hn
  unfold S_q4 at h4
  rw [lQ_len, P.len] at h4
  unfold S_q3
  generalize lQ c log κ view u N (i + 1) 0 = l2 at *
  generalize lQ c log κ view u N i 0 = l at *
  simp [xf_law11_ChangeQuorum_k4] at h4
  simp (maxSteps := 1000000) [xf_law11_ChangeQuorum_b3, xf_law11_ChangeQuorum_k3, xf_law11_ChangeQuorum_k4, hi', hw, h4]
 ·simp [xf_law11_ChangeQuorum_b3, S_q3]
end
def S_q5 (c : Cfg) (log : List Ent) (view : Int) (N p most : Nat) (u : List Bool) (i : Nat) (l : List State) (v : List Send) : St := ⟨[(1, .dat (encLog log)), (3, .dat (di view)), (4, .ptr 0 0), (9, .dat (di N)), (11, .own 1 0 l.length), (14, .dat (di p)), (15, .own 2 0 u.length), (17, .dat (di most)), (24, .own 3 0 v.length), (25, .dat (di i))], [boxC c, bigB l, upB u, vwB v]⟩
theorem r_q5 (c : Cfg) (log : List Ent) (view : Int) (N p most : Nat) (u : List Bool) (i : Nat) (l : List State) (v : List Send) (X Xp Y : State) (A L : List Send) (to : Int) (m : Msg) (hl : l.length = N) (hu : u.length = N) (hi : i < N) (hp : p < N) (hX : l[i]? = some X) (hXp : l[p]? = some Xp)
  (sa : u.getD i false = true → p ≠ i → runFn T n (d + 14) 11 [.dat (encCfg c), .dat (encS X)] [] = some (.tup [.dat (encSds A), .dat (di 0)], []) ∧ A.length = N ∧ A[N - 1]? = some ⟨to, m⟩)
  (sv : u.getD i false = true → p ≠ i → runFn T n (d + 14) 12 [.dat (encCfg c), .dat (encS Xp), .dat (encM m)] [] = some (.tup [.dat (encS Y), .dat (encSds L), .dat (di 0)], [])) (hN : N ≤ 7) (hvl : v.length ≤ 1000) (hLl : u.getD i false = true → p ≠ i → L.length ≤ 1000) (hn : 2097157 < n) :
  nextK (headOf 0 xf_law11_ChangeQuorum_k5) (XCode.run (runFn T n (d + 14)) n 0 xf_law11_ChangeQuorum_b5 (S_q5 c log view N p most u i l v)) = some (if u.getD i false = true ∧ p ≠ i then S_q5 c log view N p most u (i + 1) (l.set p Y) (v ++ L) else S_q5 c log view N p most u (i + 1) l v) := by
 have hi' : (i : Int) < N := by omega
 have hp' : (p : Int) < N := by omega
 have hw := wrap_i i (by omega)
 have hlt' : (i : Int) < l.length := by omega
 have hpt : p < l.length := by omega
 have hpt' : (p : Int) < l.length := by omega
 have hut : i < u.length := by omega
 have hut' : (i : Int) < u.length := by omega
 have nm := e_num11 (n := n) (d := d + 13) 0
 have hub : u[i]? = some (u.getD i false) := by rw [List.getD_eq_getElem?_getD, List.getElem?_eq_getElem hut]; rfl
 by_cases e : p = i
 ·have e1 : (i : Int) = p ↔ True := iff_of_true (by omega) trivial
  have e2 := eq_true e
  generalize u.getD i false = b at *
  unfold S_q5
  cases b <;> simp (maxSteps := 1000000) [xf_law11_ChangeQuorum_b5, xf_law11_ChangeQuorum_k5, hi', hw, hut', hub, e1, e2]
 ·have e1 : (i : Int) = p ↔ False := iff_of_false (by omega) id
  have e2 := eq_false e
  generalize u.getD i false = b at *
  cases b
  ·unfold S_q5
   simp (maxSteps := 1000000) [xf_law11_ChangeQuorum_b5, xf_law11_ChangeQuorum_k5, hi', hw, hut', hub, e1, e2]
  ·obtain ⟨sa1, sa2, sa3⟩ := sa rfl e
   have sv1 := sv rfl e
   have hw2 : IntKind.wrap .i64 ((N : Int) - 1) = ((N - 1 : Nat) : Int) := by rw [wrap_small (by omega)]; omega
   have hal : ((A.length : Nat) : Int) = N := by omega
   have hLL := hLl rfl e
   have hL1 : v.length + L.length ≤ LIM := by simp only [LIM]; omega
   generalize hN1 : N - 1 = N1 at *
   unfold S_q5
   simp (maxSteps := 1000000) [xf_law11_ChangeQuorum_b5, xf_law11_ChangeQuorum_k5, hi', hw, hlt', hpt', hut', hub, e1, e2, hX, hXp, sa1, sa2, sa3, sv1, nm, hal, hw2, hL1]
def S_q6 (c : Cfg) (log : List Ent) (view : Int) (N most : Nat) (l : List State) (v : List Send) (i : Nat) : St := ⟨[(1, .dat (encLog log)), (3, .dat (di view)), (4, .ptr 0 0), (9, .dat (di N)), (11, .own 1 0 l.length), (17, .dat (di most)), (24, .own 2 0 v.length), (31, .dat (di i))], [boxC c, bigB l, vwB v]⟩
theorem l_q6 (c : Cfg) (log : List Ent) (view : Int) (N most : Nat) (l : List State) (v : List Send) (hl : l.length = N) (hN : N ≤ 7) (hm : most ≤ log.length) (hlog : log.length ≤ 256) (hv : v.length ≤ 1000)
  (hx : ∀ x ∈ v, ∃ (t : Nat) (X Y : State) (L : List Send), x.to = t ∧ t < N ∧ l[t]? = some X ∧ runFn T n (d + 14) 13 [.dat (encCfg c), .dat (encS X), .dat (encM x.msg)] [] = some (.tup [.dat (encS Y), .dat (encSds L), .dat (di 0)], []) ∧ Y.status = 1 ∧ Y.view = view ∧ Y.log = log.take most) (hn : 2097157 < n) :
  loopAt (XCode.run (runFn T n (d + 14)) n 0 xf_law11_ChangeQuorum_b6) (headOf 0 xf_law11_ChangeQuorum_k6) n (S_q6 c log view N most l v 0) = some (.exit 12, ⟨[], [boxC c, bigB l, vwB v]⟩) := by
 refine loop_for (S_q6 c log view N most l v) v.length _ (fun i hi => nextK_some ?_) ?_ (fun s h => by cases h) n (by omega)
 ·have hi' : (i : Int) < v.length := by omega
  have hw := wrap_i i (by omega)
  obtain ⟨t, X, Y, L, h1, h2, h3, h4, h5, h6, h7⟩ := hx _ (List.getElem_mem hi)
  have nm := e_num11 (n := n) (d := d + 13) 0
  have se : runFn T n (d + 14) 14 [.dat (encLog (log.take most)), .dat (.sl 5 true ((log.map encE).take most))] [] = some (.dat (.bool true), []) := by
   have h := eq_plain_SameEntries (n := n) (d := d + 13) (log.take most) (log.take most) (by simp; omega) (by omega)
   have hd : decide (log.take most = log.take most) = true := by simp
   rw [hd] at h
   rw [← List.map_take]
   exact h
  have t1 : (t : Int) < N := by omega
  have t1' : ¬ (N : Int) ≤ t := by omega
  have t2 : t < l.length := by omega
  have t2' : (t : Int) < l.length := by omega
  have t3 : ¬ (t : Int) < 0 := by omega
  have hm' : (most : Int) ≤ log.length := by omega
  have g1 := eq_true h5
  have g2 := eq_true h6
  have hget : v[i]? = some v[i] := List.getElem?_eq_getElem hi
  generalize v[i] = x at *
  unfold S_q6
  simp (maxSteps := 1000000) [xf_law11_ChangeQuorum_b6, xf_law11_ChangeQuorum_k6, hi', hw, hget, h1, t1, t1', t2', t3, h3, h4, nm, g1, g2, h7, se, hm']
 ·simp [xf_law11_ChangeQuorum_b6, S_q6]
end Go.Ax
namespace Go.Ax
set_option linter.all false
variable {n d : Nat}
set_option maxRecDepth 10000
set_option linter.unusedSimpArgs false
set_option maxHeartbeats 16000000
section
variable {c : Cfg} {log : List Ent} {κ : Nat → Nat} {view : Int} {u : List Bool} {N F p : Nat}
theorem pQ_all (P : PlayQ c log κ view u N F p) : ∀ i, i ≤ N → VInv c log κ view u N F p i ∧ Small2 (pQ c log κ view u N F p i)
 | 0, _ => ⟨vinv_zero P, by rw [pQ_zero P]; exact sQ_small P P.pN N (Nat.le_refl _)⟩
 | i + 1, h => by
  obtain ⟨v, hs⟩ := pQ_all P i (by omega)
  by_cases hc : u.getD i false = true ∧ p ≠ i
  ·obtain ⟨_, a2, _, _, a5⟩ := vote_step P (by omega) hc.1 hc.2 v
   exact ⟨a5, by rw [← a2]; exact (call7_small hs (dv_smallQ P i i)).1⟩
  ·exact ⟨vinv_same hc v, by rw [(psame hc).1]; exact hs⟩
theorem vQ_len (P : PlayQ c log κ view u N F p) {i : Nat} (v : VInv c log κ view u N F p i) : (vQ c log κ view u N F p i).length ≤ 6 := by
 by_cases h : (othQ u p i).length < F
 ·unfold vQ; rw [if_pos h]; simp
 ·have := (v.led h).1
  have := (n_small P).2.2.1
  have := P.f
  omega
theorem pQ_vec (P : PlayQ c log κ view u N F p) (i : Nat) : (pQ c log κ view u N F p i).vector = zerosV c := by
 unfold pQ
 split <;> rfl
def l5 (c : Cfg) (log : List Ent) (κ : Nat → Nat) (view : Int) (u : List Bool) (N F p i : Nat) : List State := (lQ c log κ view u N N 0).set p (pQ c log κ view u N F p i)
theorem l5_len (i : Nat) : (l5 c log κ view u N F p i).length = N := by unfold l5; rw [List.length_set, lQ_len]
theorem l5_zero (P : PlayQ c log κ view u N F p) : l5 c log κ view u N F p 0 = lQ c log κ view u N N 0 := by
 unfold l5
 rw [pQ_zero P]
 apply List.ext_getElem?
 intro j
 rw [List.getElem?_set]
 by_cases e : p = j
 ·subst e
  rw [if_pos rfl, if_pos (by rw [lQ_len]; exact P.pN), lQ_get P.pN, if_pos P.pN]
 ·rw [if_neg e]
theorem l5_at (P : PlayQ c log κ view u N F p) (i : Nat) : (l5 c log κ view u N F p i)[p]? = some (pQ c log κ view u N F p i) := by
 unfold l5
 rw [List.getElem?_set, if_pos rfl, if_pos (by rw [lQ_len]; exact P.pN)]
theorem l5_other {i j : Nat} (hj : j < N) (hne : p ≠ j) : (l5 c log κ view u N F p i)[j]? = some (sQ c log κ view u j N) := by
 unfold l5
 rw [List.getElem?_set, if_neg hne, lQ_get hj, if_pos hj]
theorem l_q5 (P : PlayQ c log κ view u N F p) (most : Nat) (hn : 2097157 < n) :
  loopAt (XCode.run (runFn T n (d + 14)) n 0 xf_law11_ChangeQuorum_b5) (headOf 0 xf_law11_ChangeQuorum_k5) n (S_q5 c log view N p most u 0 (lQ c log κ view u N N 0) []) =
  some (.exit 10, ⟨[(1, .dat (encLog log)), (3, .dat (di view)), (4, .ptr 0 0), (9, .dat (di N)), (11, .own 1 0 N), (14, .dat (di p)), (17, .dat (di most)), (24, .own 3 0 (vQ c log κ view u N F p N).length)], [boxC c, bigB (l5 c log κ view u N F p N), upB u, vwB (vQ c log κ view u N F p N)]⟩) := by
 have hN := n_small P
 rw [← l5_zero P, ← vQ_zero P]
 refine loop_for (fun i => S_q5 c log view N p most u i (l5 c log κ view u N F p i) (vQ c log κ view u N F p i)) N _ (fun i hi => nextK_some ?_) ?_ (fun s h => by cases h) n (by omega)
 ·obtain ⟨v, hs⟩ := pQ_all P i (by omega)
  have hlen := vQ_len P v
  by_cases hc : u.getD i false = true ∧ p ≠ i
  ·obtain ⟨a1, a2, a3, a4, a5⟩ := vote_step P hi hc.1 hc.2 v
   obtain ⟨b1, b2, to, b3⟩ := again_step P hi hc.1 hc.2
   have ag := e_change_Again (n := n) (d := d + 5) c (sQ c log κ view u i N) (sQ_small P hi N (Nat.le_refl _)) hn
   rw [b1] at ag
   have vo := e_change_Vote (n := n) (d := d + 2) c (pQ c log κ view u N F p i) (dvQ c (LQ log κ i) i view) hs (dv_smallQ P i i) (by rw [pQ_vec P]; exact (zeros_nn P).2) hn
   rw [a1, a2, a4] at vo
   have hal : (agL c (sQ c log κ view u i N)).length = N := by have := P.nodes; omega
   rw [hal] at b3
   have hl2 := vQ_len P a5
   have r := r_q5 (n := n) (d := d) c log view N p most u i (l5 c log κ view u N F p i) (vQ c log κ view u N F p i) (sQ c log κ view u i N) (pQ c log κ view u N F p i) (pQ c log κ view u N F p (i + 1)) (agL c (sQ c log κ view u i N)) (vQ c log κ view u N F p (i + 1)) to (dvQ c (LQ log κ i) i view)
    (l5_len i) P.len hi P.pN (l5_other hi hc.2) (l5_at P i) (fun _ _ => ⟨ag, hal, b3⟩) (fun _ _ => vo) hN.1 (by omega) (fun _ _ => by omega) hn
   rw [if_pos hc, a3, List.nil_append] at r
   have e5 : (l5 c log κ view u N F p i).set p (pQ c log κ view u N F p (i + 1)) = l5 c log κ view u N F p (i + 1) := by
    unfold l5
    rw [List.set_set]
   rw [e5] at r
   rw [a3]
   exact r
  ·obtain ⟨X, hX⟩ : ∃ X, (l5 c log κ view u N F p i)[i]? = some X := ⟨_, List.getElem?_eq_getElem (by rw [l5_len]; exact hi)⟩
   have r := r_q5 (n := n) (d := d) c log view N p most u i (l5 c log κ view u N F p i) (vQ c log κ view u N F p i) X (pQ c log κ view u N F p i) X [] [] 0 zeroM
    (l5_len i) P.len hi P.pN hX (l5_at P i) (fun a b => absurd ⟨a, b⟩ hc) (fun a b => absurd ⟨a, b⟩ hc) hN.1 (by omega) (fun a b => absurd ⟨a, b⟩ hc) hn
   rw [if_neg hc] at r
   have e5 : l5 c log κ view u N F p (i + 1) = l5 c log κ view u N F p i := by unfold l5; rw [(psame hc).1]
   show _ = some (S_q5 c log view N p most u (i + 1) (l5 c log κ view u N F p (i + 1)) (vQ c log κ view u N F p (i + 1)))
   rw [e5, (psame hc).2]
   exact r
 ·have e1 := l5_len (c := c) (log := log) (κ := κ) (view := view) (u := u) (N := N) (F := F) (p := p) N
  have e2 := P.len
  generalize l5 c log κ view u N F p N = l at *
  generalize vQ c log κ view u N F p N = v at *
  simp [xf_law11_ChangeQuorum_b5, S_q5, e1, e2]
end
set_option maxRecDepth 100000 in
theorem alive11q : runFn T 2097158 14 4 [] [] = some (.dat (.bool true), []) := by kernel_rfl
theorem law_ChangeQuorum (c : Cfg) (log : List Ent) (keep : List Int) (view : Int) (hlog : log.length ≤ 1048576) (hkeep : keep.length ≤ 1048576) (hn : 2097157 < n) (hal : runFn T n (d + 14) 4 [] [] = some (.dat (.bool true), [])) :
  ∃ H, runFn T n (d + 15) 3 [.dat (encCfg c), .dat (encLog log), .dat (encIs keep), .dat (di view)] [] = some (.dat (.bool true), H) := by
 have nd := e_core_Nodes (n := n) (d := d + 12) c
 have hnl := nodes_le (c := c)
 obtain ⟨N, hN⟩ : ∃ N : Nat, nodesOf c = (N : Int) := ⟨(nodesOf c).toNat, by omega⟩
 have hz : zerosV c = List.replicate N ⟨0, 0⟩ := by unfold zerosV; rw [hN]; rfl
 have hL2 : (N : Int) ≤ (LIM : Nat) := by simp only [LIM]; omega
 have bs : Small2 (baseQ c log 0) := by
  have h2 : (zerosV c).length ≤ 100 := by rw [hz]; simp; omega
  exact ⟨⟨by simp only [baseQ]; omega, by simp only [baseQ]; omega, by simp [baseQ], by simp [baseQ], by simp [baseQ], by simp [baseQ], by simp [baseQ], by simp [baseQ]⟩, by simp only [baseQ]; omega, by simp only [baseQ]; omega, by simp [baseQ], by simp [baseQ]⟩
 have ck := e_ref09_Check (n := n) (d := d + 7) c (baseQ c log 0) bs.toSmall (by omega)
 have hv : encV (List.replicate N (⟨0, 0⟩ : Draw)) = .sl 2 true (List.replicate N (.agg [du 0, du 0])) := by simp [encV]
 have hl0 : encAcks [] = .sl 4 true [] ∧ encMarks [] = .sl 3 true [] ∧ encBals [] = .sl 6 false [] ∧ encAnss [] = .sl 6 false [] := ⟨rfl, rfl, rfl, rfl⟩
 unfold encS cellsS at ck
 simp only [baseQ, hz, hv, hl0] at ck
 rw [hN] at nd
 by_cases he : stateErr c ⟨0, 1, 0, 0, log, 0, List.replicate N ⟨0, 0⟩, 0, [], [], [], []⟩ = 0
 ·rw [he] at ck
  by_cases hv1 : view < 1
  ·rw [runFn_succ]
   simp (maxSteps := 1000000) [T, xf_law11_ChangeQuorum, hal, nd, ck, hL2, hv1]
  ·by_cases hv2 : 4294967296 < view
   ·rw [runFn_succ]
    simp (maxSteps := 1000000) [T, xf_law11_ChangeQuorum, hal, nd, ck, hL2, hv1, hv2]
   ·have hc := (head_of he).1
    have hlok : logErr log c.room = 0 := by
     have := (head_of he).2.2.2.2
     rw [logOk_iff] at this
     exact this.1
    obtain ⟨F, hF⟩ : ∃ F : Nat, (F : Int) = c.f := ⟨c.f.toNat, by unfold cfgOk at hc; omega⟩
    have hNF : N = 2 * F + 1 := by
     have : nodesOf c = 2 * c.f + 1 := by unfold nodesOf; rw [if_pos hc]
     omega
    have hF3 : 1 ≤ F ∧ F ≤ 3 := by unfold cfgOk at hc; omega
    obtain ⟨p1, p2, _⟩ := primary_in (c := c) (v := view) hc ⟨by omega, by omega⟩
    obtain ⟨p, hp⟩ : ∃ p : Nat, primaryOf c view = (p : Int) := ⟨(primaryOf c view).toNat, by omega⟩
    have pr := e_core_Primary (n := n) (d := d + 11) c view
    rw [hp] at pr
    have hpN : p < N := by omega
    have hup := up_ok hF3 (show p < 2 * F + 1 by omega)
    unfold UpOk at hup
    simp only [Bool.and_eq_true, decide_eq_true_eq, List.all_eq_true, List.mem_range, Bool.or_eq_true, Bool.not_eq_true'] at hup
    obtain ⟨⟨u1, u2⟩, u3⟩ := hup
    have P : PlayQ c log (kQ log keep) view (upQ F p (F + 1)) N F p := by
     refine ⟨hc, hF, hNF, hlok, by omega, hp, hpN, u2, by omega, fun j hj hu => ?_⟩
     rcases u3 j (by omega) with h | h
     ·rw [h] at hu; cases hu
     ·rw [hNF]; exact h
    have h0 := l_q0 (n := n) (d := d) c log keep view N hz (by omega) hlog hkeep hn
    rw [show ((List.range N).map fun j => baseQ c (LQ log (kQ log keep) j) (j : Nat)) = lQ c log (kQ log keep) view (upQ F p (F + 1)) N 0 0 from lQ_zero.symm] at h0
    have hl0l := lQ_len (c := c) (log := log) (κ := kQ log keep) (view := view) (u := upQ F p (F + 1)) (N := N) 0 0
    have h1 := l_q1 (n := n) (runFn T n (d + 14)) c log view N F p (lQ c log (kQ log keep) view (upQ F p (F + 1)) N 0 0) hF hNF hF3.2 hpN hn
    have h2 := l_q2 (n := n) (runFn T n (d + 14)) c log (kQ log keep) view N p (lQ c log (kQ log keep) view (upQ F p (F + 1)) N 0 0) (upQ F p (F + 1)) hl0l P.len
     (fun i hi => ⟨_, lQ_get hi, by rcases sQ_cases (c := c) (log := log) (κ := kQ log keep) (view := view) (u := upQ F p (F + 1)) i (if i < 0 then N else if i = 0 then 0 else 0) with e | ⟨ks, e⟩ <;> rw [e] <;> rfl⟩) (by omega) hn
    have h3 := l_q3 (n := n) (d := d) P (mostQ log (kQ log keep) (upQ F p (F + 1)) N) hn
    have h5 := l_q5 (n := n) (d := d) P (mostQ log (kQ log keep) (upQ F p (F + 1)) N) hn
    obtain ⟨v, _⟩ := pQ_all P N (Nat.le_refl _)
    obtain ⟨g1, g2, g3, g4⟩ := end_q P v
    have hat := l5_at P N
    have h5l := l5_len (c := c) (log := log) (κ := kQ log keep) (view := view) (u := upQ F p (F + 1)) (N := N) (F := F) (p := p) N
    have hvl := vQ_len P v
    have h6 := l_q6 (n := n) (d := d) c log view N (mostQ log (kQ log keep) (upQ F p (F + 1)) N) (l5 c log (kQ log keep) view (upQ F p (F + 1)) N F p N) (vQ c log (kQ log keep) view (upQ F p (F + 1)) N F p N) h5l (n_small P).1 (mostQ_le N) (log_small P) (by omega)
     (fun x hx => by
      obtain ⟨t, t1, t2, t3, t4, t5, t6, t7, t8, t9, t10⟩ := inst_step P v hx
      have mv := (zeros_nn P)
      have vi : SmallM x.msg := by
       refine ⟨?_, by rw [t9]; omega⟩
       rw [t10, List.length_take]
       have := log_small P
       omega
      have i1 := e_change_Install (n := n) (d := d + 2) c (sQ c log (kQ log keep) view (upQ F p (F + 1)) t N) x.msg (sQ_small P t2 N (Nat.le_refl _)) vi (by rw [sQ_vec]; exact mv.2) hn
      rw [t5] at i1
      exact ⟨t, _, _, _, t1, t2, l5_other t2 (fun e => t3 e.symm), i1, t6, t7, t8⟩) hn
    have hw1 : IntKind.wrap .i64 ((N : Int) - 1) = (N : Int) - 1 := wrap_small (by omega)
    have hpN' : (p : Int) < N := by omega
    have hlN0 := hl0l
    rw [hN] at g4
    generalize hmm : mostQ log (kQ log keep) (upQ F p (F + 1)) N = most at *
    generalize l5 c log (kQ log keep) view (upQ F p (F + 1)) N F p N = L5 at *
    generalize pQ c log (kQ log keep) view (upQ F p (F + 1)) N F p N = XP at *
    generalize vQ c log (kQ log keep) view (upQ F p (F + 1)) N F p N = V at *
    have e1 := lQ_len (c := c) (log := log) (κ := kQ log keep) (view := view) (u := upQ F p (F + 1)) (N := N) N 0
    generalize lQ c log (kQ log keep) view (upQ F p (F + 1)) N N 0 = L3 at *
    generalize lQ c log (kQ log keep) view (upQ F p (F + 1)) N 0 0 = L0 at *
    have hul := P.len
    generalize upQ F p (F + 1) = u at *
    have k1 := eq_true g1
    have k2 := eq_true g2
    have k3 : ((XP.log.length : Nat) : Int) = most := by omega
    have hlp : (p : Int) < L5.length := by omega
    unfold S_q0 at h0
    unfold S_q1 at h1
    unfold S_q2 at h2
    unfold S_q3 at h3
    unfold S_q5 at h5
    unfold S_q6 at h6
    rw [hl0l] at h1 h2
    rw [e1] at h5
    rw [h5l] at h6
    simp only [List.length_replicate, hul] at h1 h2 h3 h5
    simp [xf_law11_ChangeQuorum_k0, bigB, upB, vwB] at h0
    simp [xf_law11_ChangeQuorum_k1, bigB, upB, vwB] at h1
    simp [xf_law11_ChangeQuorum_k2, bigB, upB, vwB] at h2
    simp [xf_law11_ChangeQuorum_k3, bigB, upB, vwB] at h3
    simp [xf_law11_ChangeQuorum_k5, bigB, upB, vwB] at h5
    simp [xf_law11_ChangeQuorum_k6, bigB, upB, vwB] at h6
    rw [runFn_succ]
    simp (maxSteps := 2000000) [T, xf_law11_ChangeQuorum, xf_law11_ChangeQuorum_k0, xf_law11_ChangeQuorum_k1, xf_law11_ChangeQuorum_k2, xf_law11_ChangeQuorum_k3, xf_law11_ChangeQuorum_k5, xf_law11_ChangeQuorum_k6, hal, nd, ck, pr, hL2, hv1, hv2, h0, h1, h2, h3, h5, h6, hat, hlp, hpN', k1, k2, k3, g4, hw1]
 ·generalize stateErr c ⟨0, 1, 0, 0, log, 0, List.replicate N ⟨0, 0⟩, 0, [], [], [], []⟩ = E at *
  rw [runFn_succ]
  simp (maxSteps := 1000000) [T, xf_law11_ChangeQuorum, hal, nd, ck, hL2, he]
end Go.Ax
