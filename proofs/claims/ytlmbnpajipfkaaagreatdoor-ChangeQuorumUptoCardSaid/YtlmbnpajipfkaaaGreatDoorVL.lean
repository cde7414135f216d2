/-
  Which log goes on: the program's choice and the document's, evaluated.
-/
import Derived.Test.YtlmbnpajipfkaaaGreatDoorPA
import Derived.Test.YtlmbnpajipfkaaaGreatDoorME
import Derived.Test.YtlmbnpajipfkaaaGreatDoorEC
import Derived.Test.YtlmbnpajipfkaaaGreatDoorQG
import Derived.Test.YtlmbnpajipfkaaaGreatDoorEH
namespace Go.Ax
set_option linter.all false
variable {n d : Nat}
set_option maxRecDepth 10000
set_option linter.unusedSimpArgs false
set_option maxHeartbeats 8000000
abbrev bxB (x : Ballot) : Blk := .box [.dat (di x.node), .dat (du x.draw.hi), .dat (du x.draw.lo), .dat (di x.last), .dat (di x.commit), .dat (encLog x.log)]
abbrev boxZB : Blk := .box [.dat (di 0), .dat (du 0), .dat (du 0), .dat (di 0), .dat (di 0), .nil 50 5 true]
def g_ch (a : Ballot × Int) (x : Ballot) : Ballot × Int := (if betterP x a.1 = true then x else a.1, max a.2 x.commit)
theorem g_ch_fold : ∀ (l : List Ballot) (a : Ballot × Int), l.foldl g_ch a = (bestP a.1 l, l.foldl (fun a b => max a b.commit) a.2)
 | [], a => rfl
 | x :: r, a => by rw [List.foldl_cons, g_ch_fold r]; rfl
def S_ch (l : List Ballot) (i : Nat) (a : Ballot × Int) : St := ⟨[(6, .ptr 0 0), (8, .ptr 1 0), (9, .dat (di a.2)), (21, .dat (encBals l)), (22, .dat (di l.length)), (23, .dat (di i))], [boxZB, bxB a.1]⟩
theorem l_ch (l : List Ballot) (a : Ballot × Int) (cf : CallF) (hl : l.length ≤ 1048577) (hn : 1048577 < n) :
  loopAt (XCode.run cf n 0 xf_tally_Choose_b0) (headOf 0 xf_tally_Choose_k0) n (S_ch l 0 a) = some (.exit 0, ⟨[(6, .ptr 0 0), (8, .ptr 1 0), (9, .dat (di (l.foldl g_ch a).2))], [boxZB, bxB (l.foldl g_ch a).1]⟩) := by
 refine loop_fold (S_ch l) (fun _ _ => True) l g_ch (fun a => (.exit 0, ⟨[(6, .ptr 0 0), (8, .ptr 1 0), (9, .dat (di a.2))], [boxZB, bxB a.1]⟩)) a trivial (fun i a hi _ => ⟨trivial, nextK_some ?_⟩) (fun a _ => ?_) (fun a s h => by cases h) n (by omega)
 ·have hi' : (i : Int) < l.length := by omega
  have hw := wrap_i i (by omega)
  obtain ⟨b, k⟩ := a
  have hmax : max k l[i].commit = if k < l[i].commit then l[i].commit else k := by split <;> omega
  unfold g_ch betterP
  by_cases h1 : b.last < l[i].last
  ·simp [xf_tally_Choose_b0, xf_tally_Choose_k0, S_ch, hi, hi', hw, hmax, h1]
  ·by_cases h2 : l[i].last = b.last
   ·have h2' := eq_true h2
    by_cases h3 : b.log.length < l[i].log.length
    ·have h3' : (b.log.length : Int) < l[i].log.length := by omega
     simp [xf_tally_Choose_b0, xf_tally_Choose_k0, S_ch, hi, hi', hw, hmax, h1, h2', h3, h3']
    ·have h3' : ¬ (b.log.length : Int) < l[i].log.length := by omega
     by_cases h4 : l[i].log.length = b.log.length
     ·have h4' := eq_true h4
      have h4c : ((l[i].log.length : Int) = b.log.length) = True := eq_true (by omega)
      by_cases h5 : l[i].node < b.node
      ·simp [xf_tally_Choose_b0, xf_tally_Choose_k0, S_ch, hi, hi', hw, hmax, h1, h2', h3, h3', h4', h4c, h5]
      ·simp [xf_tally_Choose_b0, xf_tally_Choose_k0, S_ch, hi, hi', hw, hmax, h1, h2', h3, h3', h4', h4c, h5]
     ·have h4' := eq_false h4
      have h4c : ((l[i].log.length : Int) = b.log.length) = False := eq_false (by omega)
      simp [xf_tally_Choose_b0, xf_tally_Choose_k0, S_ch, hi, hi', hw, hmax, h1, h2', h3, h3', h4', h4c]
   ·have h2' := eq_false h2
    simp [xf_tally_Choose_b0, xf_tally_Choose_k0, S_ch, hi, hi', hw, hmax, h1, h2']
 ·simp [xf_tally_Choose_b0, S_ch]
def zeroBal : Ballot := ⟨0, ⟨0, 0⟩, 0, 0, []⟩
theorem bestP_mem : ∀ (l : List Ballot) (b : Ballot), bestP b l = b ∨ bestP b l ∈ l
 | [], b => .inl rfl
 | x :: r, b => by
  have : bestP b (x :: r) = bestP (if betterP x b then x else b) r := rfl
  rw [this]
  rcases bestP_mem r (if betterP x b then x else b) with h | h
  ·rw [h]; split
   ·exact .inr (by simp)
   ·exact .inl rfl
  ·exact .inr (by simp [h])
theorem e_tally_Choose (f : Int) (own : Ballot) (l : List Ballot) (hl : l.length ≤ 1048577) (hg : ∀ x ∈ l, x.log.length ≤ 1048577) (ho : own.log.length ≤ 1048577) (hn : 1048577 < n) :
  runFn T n (d + 2) 110 [.dat (di f), .dat (encBal own), .dat (encBals l)] [] =
   some (.tup [.dat (encBal (if (l.length : Int) < f then zeroBal else { bestP own l with commit := chosen own l })), .dat (di (if (l.length : Int) < f then 81 else 0))], []) := by
 have hL := l_ch (n := n) l (own, own.commit) (runFn T n (d + 1)) hl hn
 rw [g_ch_fold] at hL
 have hbl : (bestP own l).log.length ≤ 1048577 := by
  rcases bestP_mem l own with h | h
  ·rw [h]; exact ho
  ·exact hg _ h
 have hm : l.foldl (fun a b => max a b.commit) own.commit = mostP own l := rfl
 have hc : chosen own l = max 0 (min (mostP own l) (bestP own l).log.length) := rfl
 simp only [hm] at hL
 rw [hc]
 generalize mostP own l = K at *
 generalize bestP own l = B at *
 have fr := e_ballot_fresh (n := n) (d := d) B hbl
 simp [S_ch, xf_tally_Choose_k0] at hL
 rw [runFn_succ]
 by_cases q : (l.length : Int) < f
 ·rw [if_pos q, if_pos q]
  simp [T, xf_tally_Choose, q, zeroBal]
 ·rw [if_neg q, if_neg q]
  have hx : max 0 (min K (B.log.length : Int)) = if 0 < (if (B.log.length : Int) < K then (B.log.length : Int) else K) then (if (B.log.length : Int) < K then (B.log.length : Int) else K) else 0 := by
   split <;> split at * <;> omega
  rw [hx]
  simp [T, xf_tally_Choose, xf_tally_Choose_k0, q, hL, fr]
end Go.Ax
namespace Go.Ax
set_option linter.all false
variable {n d : Nat}
set_option maxRecDepth 10000
set_option linter.unusedSimpArgs false
set_option maxHeartbeats 8000000
theorem ledS0_small {u : State} {log : List Ent} (hs : Small2 u) (hl : log.length ≤ 1048576) : Small2 (ledS0 u log) :=
 ⟨⟨by simp only [ledS0]; omega, hs.vector, by simp [ledS0], by simp [ledS0], by simp [ledS0], by simp [ledS0], by simp [ledS0], by simp [ledS0]⟩, hl, hs.vector2, by simp [ledS0], by simp [ledS0]⟩
theorem sv_small {u : State} {log : List Ent} {k : Int} (hl : log.length ≤ 1048576) : SmallM (svM u log k) := ⟨by simpa [svM] using hl, by simp [svM, zeroM]⟩
theorem best_log {u : State} (hs : Small2 u) (own : Ballot) (ho : own.log = u.log) : (bestP own u.ballots).log.length ≤ 1048576 := by
 rcases bestP_mem u.ballots own with h | h
 ·rw [h, ho]; exact hs.log2
 ·exact hs.blogs2 _ h
end Go.Ax
