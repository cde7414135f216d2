/-
  What a message may be: the small questions.
-/
import Derived.Test.YtfoglingdnhjpaaGreatDoorEA
namespace Go.Ax
set_option linter.all false
variable {n d : Nat}
set_option maxRecDepth 10000
set_option maxHeartbeats 4000000
theorem e_message_config (c : Cfg) : runFn T n (d + 1) 116 [.dat (encCfg c)] [] = some (.dat (.bool (decide (cfgOk c))), []) := by
 rw [runFn_succ]
 simp [T, xf_message_config, Bool.and_assoc]
theorem e_message_is (k : Int) : runFn T n (d + 1) 117 [.dat (di k)] [] = some (.dat (.bool (decide (1 ≤ k ∧ k ≤ 14))), []) := by
 rw [runFn_succ]
 simp [T, xf_message_is]
theorem e_message_short (k : Int) : runFn T n (d + 1) 146 [.dat (di k)] [] = some (.dat (.bool (decide (k = 2 ∨ k = 14))), []) := by
 rw [runFn_succ]
 simp [T, xf_message_short]
def answersOk (r : Res) : Bool :=
 if r.code = 1 ∨ r.code = 2 ∨ r.code = 4 then decide (0 ≤ r.slot ∧ r.slot < 1024 ∧ (r.value.size : Int) ≤ 64)
 else if r.code = 5 then decide (0 ≤ r.slot ∧ r.slot < 1024 ∧ r.value = ByteArray.empty)
 else if r.code = 6 then decide (0 ≤ r.slot ∧ r.slot ≤ 1024 ∧ r.value = ByteArray.empty)
 else if r.code = 3 ∨ r.code = 7 then decide (r.slot = 0 ∧ r.value = ByteArray.empty) else false
theorem e_message_answers (r : Res) : runFn T n (d + 1) 121 [.dat (encR r)] [] = some (.dat (.bool (answersOk r)), []) := by
 have hz : ({ data := #[] } : ByteArray) = ByteArray.empty := rfl
 obtain ⟨cd, sl, vl⟩ := r
 unfold answersOk
 simp only
 rw [runFn_succ]
 by_cases h1 : cd = 1
 ·subst h1; simp [T, xf_message_answers, hz, Bool.and_assoc]
 ·by_cases h2 : cd = 2
  ·subst h2; simp [T, xf_message_answers, hz, Bool.and_assoc]
  ·by_cases h4 : cd = 4
   ·subst h4; simp [T, xf_message_answers, hz, Bool.and_assoc]
   ·by_cases h5 : cd = 5
    ·subst h5; simp [T, xf_message_answers, hz, Bool.and_assoc]
    ·by_cases h6 : cd = 6
     ·subst h6; simp [T, xf_message_answers, hz, Bool.and_assoc]
     ·by_cases h3 : cd = 3
      ·subst h3; simp [T, xf_message_answers, hz, Bool.and_assoc]
      ·by_cases h7 : cd = 7
       ·subst h7; simp [T, xf_message_answers, hz, Bool.and_assoc]
       ·simp [T, xf_message_answers, hz, h1, h2, h3, h4, h5, h6, h7]
theorem e_ref07_result (r : Res) : runFn T n (d + 1) 105 [.dat (encR r)] [] = some (.dat (.bool (answersOk r)), []) := by
 have hz : ({ data := #[] } : ByteArray) = ByteArray.empty := rfl
 obtain ⟨cd, sl, vl⟩ := r
 unfold answersOk
 simp only
 rw [runFn_succ]
 by_cases h1 : cd = 1
 ·subst h1; simp [T, xf_ref07_result, hz, Bool.and_assoc]
 ·by_cases h2 : cd = 2
  ·subst h2; simp [T, xf_ref07_result, hz, Bool.and_assoc]
  ·by_cases h4 : cd = 4
   ·subst h4; simp [T, xf_ref07_result, hz, Bool.and_assoc]
   ·by_cases h5 : cd = 5
    ·subst h5; simp [T, xf_ref07_result, hz, Bool.and_assoc]
    ·by_cases h6 : cd = 6
     ·subst h6; simp [T, xf_ref07_result, hz, Bool.and_assoc]
     ·by_cases h3 : cd = 3
      ·subst h3; simp [T, xf_ref07_result, hz, Bool.and_assoc]
      ·by_cases h7 : cd = 7
       ·subst h7; simp [T, xf_ref07_result, hz, Bool.and_assoc]
       ·simp [T, xf_ref07_result, hz, h1, h2, h3, h4, h5, h6, h7]
def asksOk (k : Int) (e : Ent) : Bool :=
 if e.client < 0 ∨ 16 ≤ e.client ∨ e.number < 1 then false
 else if k = 2 ∨ k = 14 then decide (e.op = ⟨0, 0, ByteArray.empty⟩)
 else if k = 13 ∧ e.op.kind ≠ 3 ∧ e.op.kind ≠ 4 then false
 else decide (opErr e.op = 0)
theorem e_message_asks (k : Int) (e : Ent) : runFn T n (d + 2) 120 [.dat (di k), .dat (encE e)] [] = some (.dat (.bool (asksOk k e)), []) := by
 have hz : ({ data := #[] } : ByteArray) = ByteArray.empty := rfl
 have h1 := e_message_short (n := n) (d := d) k
 have h2 := e_ledger_Check (n := n) (d := d) e.op
 unfold asksOk
 rw [runFn_succ]
 by_cases g : e.client < 0 ∨ 16 ≤ e.client ∨ e.number < 1
 ·have g' : (e.client < 0 ∨ 16 ≤ e.client) ∨ e.number < 1 := by omega
  simp [T, xf_message_asks, g, g']
 ·have g' : ¬ ((e.client < 0 ∨ 16 ≤ e.client) ∨ e.number < 1) := by omega
  by_cases k2 : k = 2 ∨ k = 14
  ·rw [decide_eq_true k2] at h1
   simp [T, xf_message_asks, g, g', h1, k2, hz]
   obtain ⟨cl, nu, ⟨a, b, v⟩⟩ := e
   simp
  ·rw [decide_eq_false k2] at h1
   by_cases k3 : k = 13
   ·subst k3
    by_cases o3 : e.op.kind = 3
    ·have o3' := eq_true o3
     simp [T, xf_message_asks, g, g', h1, h2, o3']
    ·have o3' := eq_false o3
     by_cases o4 : e.op.kind = 4
     ·have o4' := eq_true o4
      simp [T, xf_message_asks, g, g', h1, h2, o3', o4']
     ·have o4' := eq_false o4
      simp [T, xf_message_asks, g, g', h1, h2, o3', o4']
   ·have k3' := eq_false k3
    simp [T, xf_message_asks, g, g', h1, h2, k2, k3']
theorem e_ref07_entry (k : Int) (e : Ent) : runFn T n (d + 3) 104 [.dat (di k), .dat (encE e)] [] = some (.dat (.bool (asksOk k e)), []) := by
 have hz : ({ data := #[] } : ByteArray) = ByteArray.empty := rfl
 have h2 := e_ref05_Entry (n := n) (d := d) e
 unfold asksOk
 rw [runFn_succ]
 by_cases k2 : k = 2 ∨ k = 14
 ·simp only [if_pos k2]
  obtain ⟨cl, nu, ⟨a, b, v⟩⟩ := e
  simp only
  have key : ((decide (0 ≤ cl) && decide (cl < 16)) && decide (1 ≤ nu) && decide ((⟨a, b, v⟩ : LOp) = ⟨0, 0, ByteArray.empty⟩)) = (if cl < 0 ∨ 16 ≤ cl ∨ nu < 1 then false else decide ((⟨a, b, v⟩ : LOp) = ⟨0, 0, ByteArray.empty⟩)) := by
   by_cases g : cl < 0 ∨ 16 ≤ cl ∨ nu < 1
   ·rw [if_pos g]
    by_cases g1 : 0 ≤ cl <;> by_cases g2 : cl < 16 <;> by_cases g3 : 1 ≤ nu <;> simp [g1, g2, g3] <;> omega
   ·rw [if_neg g]
    have g1 : 0 ≤ cl := by omega
    have g2 : cl < 16 := by omega
    have g3 : 1 ≤ nu := by omega
    simp [g1, g2, g3]
  rw [← key]
  rcases k2 with rfl | rfl
  ·simp [T, xf_ref07_entry, hz, Bool.and_assoc]
  ·simp [T, xf_ref07_entry, hz, Bool.and_assoc]
 ·simp only [if_neg k2]
  have k2a := eq_false (show ¬ k = 2 by omega)
  have k2b := eq_false (show ¬ k = 14 by omega)
  unfold entErr1 at h2
  by_cases g : e.client < 0 ∨ 16 ≤ e.client
  ·have g' : e.client < 0 ∨ 16 ≤ e.client ∨ e.number < 1 := by omega
   simp only [if_pos g, if_pos g'] at h2 ⊢
   simp [T, xf_ref07_entry, hz, k2a, k2b, h2]
  ·by_cases g3 : e.number < 1
   ·have g' : e.client < 0 ∨ 16 ≤ e.client ∨ e.number < 1 := by omega
    simp only [if_neg g, if_pos g3, if_pos g'] at h2 ⊢
    simp [T, xf_ref07_entry, hz, k2a, k2b, h2]
   ·have g' : ¬ (e.client < 0 ∨ 16 ≤ e.client ∨ e.number < 1) := by omega
    simp only [if_neg g, if_neg g3, if_neg g'] at h2 ⊢
    by_cases k3 : k = 13
    ·subst k3
     by_cases o3 : e.op.kind = 3
     ·have o3' := eq_true o3
      simp [T, xf_ref07_entry, h2, o3']
     ·have o3' := eq_false o3
      by_cases o4 : e.op.kind = 4
      ·have o4' := eq_true o4
       simp [T, xf_ref07_entry, h2, o3', o4']
      ·have o4' := eq_false o4
       simp [T, xf_ref07_entry, h2, o3', o4']
    ·have k3' := eq_false k3
     simp [T, xf_ref07_entry, h2, k2a, k2b, k3']
def readsOk (m : Msg) : Bool := if m.kind = 14 then decide (m.result.code = 4 ∨ m.result.code = 5 ∨ m.result.code = 6) else if m.kind = 2 then decide (m.place = 0) == decide (m.result.code = 7) else true
theorem e_message_reads (m : Msg) : runFn T n (d + 1) 122 [.dat (encM m)] [] = some (.dat (.bool (readsOk m)), []) := by
 unfold readsOk
 rw [runFn_succ]
 by_cases k1 : m.kind = 14
 ·have k1' := eq_true k1
  simp [T, xf_message_reads, k1', Bool.or_assoc]
 ·have k1' := eq_false k1
  by_cases k2 : m.kind = 2
  ·have k2' := eq_true k2
   simp [T, xf_message_reads, k1', k2']
  ·have k2' := eq_false k2
   simp [T, xf_message_reads, k1', k2']
end Go.Ax
namespace Go.Ax
set_option linter.all false
variable {n d : Nat}
set_option maxRecDepth 10000
set_option maxHeartbeats 4000000
def ub (k : Int) (i : Nat) : Bool := (usesB.flatten[k.toNat * 10 + i]?).getD false
theorem uses_at (j : Nat) (h : j < 150) : usesD.drop j = .bool ((usesB.flatten[j]?).getD false) :: usesD.drop (j + 1) := by
 have hl : usesD.length = 150 := by decide
 have hl2 : usesB.flatten.length = 150 := by decide
 rw [List.drop_eq_getElem_cons (by omega)]
 congr 1
 unfold usesD
 rw [List.getElem_map, List.getElem?_eq_getElem (by omega)]
 rfl
theorem usesD_len : usesD.length = 150 := by decide
def rowL (k : Int) : List Bool := if 1 ≤ k ∧ k ≤ 14 then [ub k 0, ub k 1, ub k 2, ub k 3, ub k 4, ub k 5, ub k 6, ub k 7, ub k 8, ub k 9] else []
abbrev encBs (l : List Bool) : Dat := .sl 1 true (l.map .bool)
def dots (s : List UInt8) : List Bool := s.map fun b => !decide ((b.toNat : Int) = 46)
def S_uses (s p : List UInt8) : St := ⟨[(3, .dat (.str ⟨s.toArray⟩)), (4, .own 0 0 p.length), (5, .dat (di p.length))], [.arr 4 1 true false ((dots p).map .bool)]⟩
theorem l_uses (cf : CallF) (s : List UInt8) (hs : s.length ≤ 100) (hn : 1048577 < n) : loopAt (XCode.run cf n 0 xf_ref07_Uses_b0) (headOf 0 xf_ref07_Uses_k0) n (S_uses s []) = some (.exit 1, ⟨[(4, .own 0 0 s.length)], [.arr 4 1 true false ((dots s).map .bool)]⟩) := by
 refine loop_pre (S_uses s) s (.exit 1, ⟨[(4, .own 0 0 s.length)], [.arr 4 1 true false ((dots s).map .bool)]⟩) (fun p v r hl' => ?_) ?_ (fun s h => by simp at h) n (by omega)
 ·have hx : (p.length : Int) < p.length + (r.length + 1) := by omega
  have hp : p.length ≤ 100 := by have : s.length = p.length + (r.length + 1) := (by simp [hl']); omega
  have hw := wrap_i p.length (by omega)
  have hL : p.length + 1 ≤ LIM := by simp only [LIM]; omega
  simp at hw
  have hsz : ∀ (l : List UInt8), (⟨l.toArray⟩ : ByteArray).size = l.length := fun l => by simp [ByteArray.size]
  simp [xf_ref07_Uses_b0, xf_ref07_Uses_k0, S_uses, hl', hx, hw, hL, hsz, dots]
 ·have hsz : ∀ (l : List UInt8), (⟨l.toArray⟩ : ByteArray).size = l.length := fun l => by simp [ByteArray.size]
  simp [xf_ref07_Uses_b0, S_uses, hsz]
theorem rowL_1 : rowL 1 = [false, false, false, false, false, false, true, false, false, false] := by decide
theorem rowL_2 : rowL 2 = [true, true, false, true, false, false, true, true, false, false] := by decide
theorem rowL_3 : rowL 3 = [true, true, false, true, true, false, true, false, false, true] := by decide
theorem rowL_4 : rowL 4 = [true, true, false, true, false, false, false, false, false, true] := by decide
theorem rowL_5 : rowL 5 = [true, true, false, false, true, false, false, false, false, true] := by decide
theorem rowL_6 : rowL 6 = [true, true, false, false, false, false, false, false, false, true] := by decide
theorem rowL_7 : rowL 7 = [true, true, true, false, true, false, false, false, true, true] := by decide
theorem rowL_8 : rowL 8 = [true, true, false, false, true, false, false, false, true, true] := by decide
theorem rowL_9 : rowL 9 = [true, false, false, false, false, true, false, false, false, true] := by decide
theorem rowL_10 : rowL 10 = [true, true, false, false, true, true, false, false, true, true] := by decide
theorem rowL_11 : rowL 11 = [true, true, false, false, false, false, false, false, false, true] := by decide
theorem rowL_12 : rowL 12 = [true, true, false, false, true, false, false, false, true, true] := by decide
theorem rowL_13 : rowL 13 = [false, false, false, true, false, false, true, false, false, false] := by decide
theorem rowL_14 : rowL 14 = [true, true, false, false, true, false, true, true, false, false] := by decide
theorem kind_cases {k : Int} (h : 1 ≤ k ∧ k ≤ 14) : k = 1 ∨ k = 2 ∨ k = 3 ∨ k = 4 ∨ k = 5 ∨ k = 6 ∨ k = 7 ∨ k = 8 ∨ k = 9 ∨ k = 10 ∨ k = 11 ∨ k = 12 ∨ k = 13 ∨ k = 14 := by omega
section
variable (hn : 1048577 < n)
include hn
theorem e_Uses_1 : runFn T n (d + 1) 65 [.dat (di 1)] [] = some (.dat (encBs (rowL 1)), []) := by
 have h := l_uses (runFn T n d) [46, 46, 46, 46, 46, 46, 101, 46, 46, 46] (by decide) hn
 simp [S_uses, xf_ref07_Uses_k0, dots] at h
 rw [runFn_succ, rowL_1]
 simp [T, xf_ref07_Uses, xf_ref07_Uses_k0, h]
theorem e_Uses_2 : runFn T n (d + 1) 65 [.dat (di 2)] [] = some (.dat (encBs (rowL 2)), []) := by
 have h := l_uses (runFn T n d) [110, 118, 46, 112, 46, 46, 101, 114, 46, 46] (by decide) hn
 simp [S_uses, xf_ref07_Uses_k0, dots] at h
 rw [runFn_succ, rowL_2]
 simp [T, xf_ref07_Uses, xf_ref07_Uses_k0, h]
theorem e_Uses_3 : runFn T n (d + 1) 65 [.dat (di 3)] [] = some (.dat (encBs (rowL 3)), []) := by
 have h := l_uses (runFn T n d) [110, 118, 46, 112, 99, 46, 101, 46, 46, 120] (by decide) hn
 simp [S_uses, xf_ref07_Uses_k0, dots] at h
 rw [runFn_succ, rowL_3]
 simp [T, xf_ref07_Uses, xf_ref07_Uses_k0, h]
theorem e_Uses_4 : runFn T n (d + 1) 65 [.dat (di 4)] [] = some (.dat (encBs (rowL 4)), []) := by
 have h := l_uses (runFn T n d) [110, 118, 46, 112, 46, 46, 46, 46, 46, 120] (by decide) hn
 simp [S_uses, xf_ref07_Uses_k0, dots] at h
 rw [runFn_succ, rowL_4]
 simp [T, xf_ref07_Uses, xf_ref07_Uses_k0, h]
theorem e_Uses_5 : runFn T n (d + 1) 65 [.dat (di 5)] [] = some (.dat (encBs (rowL 5)), []) := by
 have h := l_uses (runFn T n d) [110, 118, 46, 46, 99, 46, 46, 46, 46, 120] (by decide) hn
 simp [S_uses, xf_ref07_Uses_k0, dots] at h
 rw [runFn_succ, rowL_5]
 simp [T, xf_ref07_Uses, xf_ref07_Uses_k0, h]
theorem e_Uses_6 : runFn T n (d + 1) 65 [.dat (di 6)] [] = some (.dat (encBs (rowL 6)), []) := by
 have h := l_uses (runFn T n d) [110, 118, 46, 46, 46, 46, 46, 46, 46, 120] (by decide) hn
 simp [S_uses, xf_ref07_Uses_k0, dots] at h
 rw [runFn_succ, rowL_6]
 simp [T, xf_ref07_Uses, xf_ref07_Uses_k0, h]
theorem e_Uses_7 : runFn T n (d + 1) 65 [.dat (di 7)] [] = some (.dat (encBs (rowL 7)), []) := by
 have h := l_uses (runFn T n d) [110, 118, 108, 46, 99, 46, 46, 46, 103, 120] (by decide) hn
 simp [S_uses, xf_ref07_Uses_k0, dots] at h
 rw [runFn_succ, rowL_7]
 simp [T, xf_ref07_Uses, xf_ref07_Uses_k0, h]
theorem e_Uses_8 : runFn T n (d + 1) 65 [.dat (di 8)] [] = some (.dat (encBs (rowL 8)), []) := by
 have h := l_uses (runFn T n d) [110, 118, 46, 46, 99, 46, 46, 46, 103, 120] (by decide) hn
 simp [S_uses, xf_ref07_Uses_k0, dots] at h
 rw [runFn_succ, rowL_8]
 simp [T, xf_ref07_Uses, xf_ref07_Uses_k0, h]
theorem e_Uses_9 : runFn T n (d + 1) 65 [.dat (di 9)] [] = some (.dat (encBs (rowL 9)), []) := by
 have h := l_uses (runFn T n d) [110, 46, 46, 46, 46, 100, 46, 46, 46, 120] (by decide) hn
 simp [S_uses, xf_ref07_Uses_k0, dots] at h
 rw [runFn_succ, rowL_9]
 simp [T, xf_ref07_Uses, xf_ref07_Uses_k0, h]
theorem e_Uses_10 : runFn T n (d + 1) 65 [.dat (di 10)] [] = some (.dat (encBs (rowL 10)), []) := by
 have h := l_uses (runFn T n d) [110, 118, 46, 46, 99, 100, 46, 46, 103, 120] (by decide) hn
 simp [S_uses, xf_ref07_Uses_k0, dots] at h
 rw [runFn_succ, rowL_10]
 simp [T, xf_ref07_Uses, xf_ref07_Uses_k0, h]
theorem e_Uses_11 : runFn T n (d + 1) 65 [.dat (di 11)] [] = some (.dat (encBs (rowL 11)), []) := by
 have h := l_uses (runFn T n d) [110, 118, 46, 46, 46, 46, 46, 46, 46, 120] (by decide) hn
 simp [S_uses, xf_ref07_Uses_k0, dots] at h
 rw [runFn_succ, rowL_11]
 simp [T, xf_ref07_Uses, xf_ref07_Uses_k0, h]
theorem e_Uses_12 : runFn T n (d + 1) 65 [.dat (di 12)] [] = some (.dat (encBs (rowL 12)), []) := by
 have h := l_uses (runFn T n d) [110, 118, 46, 46, 99, 46, 46, 46, 103, 120] (by decide) hn
 simp [S_uses, xf_ref07_Uses_k0, dots] at h
 rw [runFn_succ, rowL_12]
 simp [T, xf_ref07_Uses, xf_ref07_Uses_k0, h]
theorem e_Uses_13 : runFn T n (d + 1) 65 [.dat (di 13)] [] = some (.dat (encBs (rowL 13)), []) := by
 have h := l_uses (runFn T n d) [46, 46, 46, 112, 46, 46, 101, 46, 46, 46] (by decide) hn
 simp [S_uses, xf_ref07_Uses_k0, dots] at h
 rw [runFn_succ, rowL_13]
 simp [T, xf_ref07_Uses, xf_ref07_Uses_k0, h]
theorem e_Uses_14 : runFn T n (d + 1) 65 [.dat (di 14)] [] = some (.dat (encBs (rowL 14)), []) := by
 have h := l_uses (runFn T n d) [110, 118, 46, 46, 99, 46, 101, 114, 46, 46] (by decide) hn
 simp [S_uses, xf_ref07_Uses_k0, dots] at h
 rw [runFn_succ, rowL_14]
 simp [T, xf_ref07_Uses, xf_ref07_Uses_k0, h]
theorem e_Uses_no (k : Int) (hk : ¬ (1 ≤ k ∧ k ≤ 14)) : runFn T n (d + 1) 65 [.dat (di k)] [] = some (.dat (encBs (rowL k)), []) := by
 have h := l_uses (runFn T n d) [] (by decide) hn
 simp [S_uses, xf_ref07_Uses_k0, dots] at h
 have g : ∀ j : Int, 1 ≤ j ∧ j ≤ 14 → (k = j) = False := fun j hj => eq_false (by omega)
 unfold rowL
 rw [runFn_succ, if_neg hk]
 simp [T, xf_ref07_Uses, xf_ref07_Uses_k0, h, g 1, g 2, g 3, g 4, g 5, g 6, g 7, g 8, g 9, g 10, g 11, g 12, g 13, g 14]
theorem e_ref07_Uses (k : Int) : runFn T n (d + 1) 65 [.dat (di k)] [] = some (.dat (encBs (rowL k)), []) := by
 by_cases hk : 1 ≤ k ∧ k ≤ 14
 ·rcases kind_cases hk with rfl | rfl | rfl | rfl | rfl | rfl | rfl | rfl | rfl | rfl | rfl | rfl | rfl | rfl
  ·exact e_Uses_1 hn
  ·exact e_Uses_2 hn
  ·exact e_Uses_3 hn
  ·exact e_Uses_4 hn
  ·exact e_Uses_5 hn
  ·exact e_Uses_6 hn
  ·exact e_Uses_7 hn
  ·exact e_Uses_8 hn
  ·exact e_Uses_9 hn
  ·exact e_Uses_10 hn
  ·exact e_Uses_11 hn
  ·exact e_Uses_12 hn
  ·exact e_Uses_13 hn
  ·exact e_Uses_14 hn
 ·exact e_Uses_no hn k hk
end
end Go.Ax
namespace Go.Ax
set_option linter.all false
variable {n d : Nat}
set_option maxRecDepth 10000
set_option maxHeartbeats 4000000
abbrev boxMsg (m : Msg) : Blk := .box ((cellsM m).map .dat)
theorem ub_drop (k : Int) (hk : 1 ≤ k ∧ k ≤ 14) (i : Nat) (hi : i < 10) : usesD.drop (k.toNat * 10 + i) = .bool (ub k i) :: usesD.drop (k.toNat * 10 + (i + 1)) := uses_at _ (by omega)
theorem ub_dropV (k : Int) (hk : 1 ≤ k ∧ k ≤ 14) (i : Nat) (hi : i < 10) : List.drop (k.toNat * 10 + i) (List.map AV.dat usesD) = .dat (.bool (ub k i)) :: List.drop (k.toNat * 10 + (i + 1)) (List.map AV.dat usesD) := by
 rw [← List.map_drop, ub_drop k hk i hi, List.map_cons, List.map_drop]
def pU (x : Bool × Bool) : Bool := !x.1 && !x.2
def pairsM (k : Int) (z0 z1 z2 z3 z4 z5 z6 z7 z8 z9 : Bool) : List (Bool × Bool) := [(ub k 0, z0), (ub k 1, z1), (ub k 2, z2), (ub k 3, z3), (ub k 4, z4), (ub k 5, z5), (ub k 6, z6), (ub k 7, z7), (ub k 8, z8), (ub k 9, z9)]
def S_un (m : Msg) (z0 z1 z2 z3 z4 z5 z6 z7 z8 z9 : Bool) (i : Nat) : St := ⟨[(1, .ptr 0 0), (42, .agg [.dat (.bool z0), .dat (.bool z1), .dat (.bool z2), .dat (.bool z3), .dat (.bool z4), .dat (.bool z5), .dat (.bool z6), .dat (.bool z7), .dat (.bool z8), .dat (.bool z9)]), (43, .dat (di i))], [boxMsg m]⟩
theorem l_unused (cf : CallF) (m : Msg) (hk : 1 ≤ m.kind ∧ m.kind ≤ 14) (z0 z1 z2 z3 z4 z5 z6 z7 z8 z9 : Bool) (hn : 1048577 < n) : loopAt (XCode.run cf n 0 xf_message_unused_b0) (headOf 0 xf_message_unused_k0) n (S_un m z0 z1 z2 z3 z4 z5 z6 z7 z8 z9 0) =
  some (((pairsM m.kind z0 z1 z2 z3 z4 z5 z6 z7 z8 z9).find? pU).elim (.exit 0, ⟨[], [boxMsg m]⟩) (fun _ => (.ret, ⟨[(2, .dat (.bool false))], [boxMsg m]⟩))) := by
 have k0 : 0 ≤ m.kind ∧ m.kind < 15 := by omega
 have k1 : m.kind.toNat * 10 < 150 := by omega
 have hl : ∀ i, i < 10 → i < 150 - m.kind.toNat * 10 := fun i hi => by omega
 have hd := ub_dropV m.kind hk
 refine loop_find (S_un m z0 z1 z2 z3 z4 z5 z6 z7 z8 z9) (pairsM m.kind z0 z1 z2 z3 z4 z5 z6 z7 z8 z9) pU (fun _ => (.ret, ⟨[(2, .dat (.bool false))], [boxMsg m]⟩)) (.exit 0, ⟨[], [boxMsg m]⟩) (fun i hi hp => ?_) (fun i hi hp => ?_) ?_ (fun x s h => by simp at h) (fun s h => by simp at h) n (by simp [pairsM]; omega)
 ·simp only [pairsM, List.length_cons, List.length_nil] at hi
  have : i = 0 ∨ i = 1 ∨ i = 2 ∨ i = 3 ∨ i = 4 ∨ i = 5 ∨ i = 6 ∨ i = 7 ∨ i = 8 ∨ i = 9 := by omega
  rcases this with rfl | rfl | rfl | rfl | rfl | rfl | rfl | rfl | rfl | rfl
  ·have hdi := hd 0 (by decide)
   have hli := hl 0 (by decide)
   simp [pairsM, pU] at hp
   rw [hp.1] at hdi
   simp at hdi
   simp [xf_message_unused_b0, S_un, k0, k1, usesD_len, hp, hdi, hli]
  ·have hdi := hd 1 (by decide)
   have hli := hl 1 (by decide)
   simp [pairsM, pU] at hp
   rw [hp.1] at hdi
   simp at hdi
   simp [xf_message_unused_b0, S_un, k0, k1, usesD_len, hp, hdi, hli]
  ·have hdi := hd 2 (by decide)
   have hli := hl 2 (by decide)
   simp [pairsM, pU] at hp
   rw [hp.1] at hdi
   simp at hdi
   simp [xf_message_unused_b0, S_un, k0, k1, usesD_len, hp, hdi, hli]
  ·have hdi := hd 3 (by decide)
   have hli := hl 3 (by decide)
   simp [pairsM, pU] at hp
   rw [hp.1] at hdi
   simp at hdi
   simp [xf_message_unused_b0, S_un, k0, k1, usesD_len, hp, hdi, hli]
  ·have hdi := hd 4 (by decide)
   have hli := hl 4 (by decide)
   simp [pairsM, pU] at hp
   rw [hp.1] at hdi
   simp at hdi
   simp [xf_message_unused_b0, S_un, k0, k1, usesD_len, hp, hdi, hli]
  ·have hdi := hd 5 (by decide)
   have hli := hl 5 (by decide)
   simp [pairsM, pU] at hp
   rw [hp.1] at hdi
   simp at hdi
   simp [xf_message_unused_b0, S_un, k0, k1, usesD_len, hp, hdi, hli]
  ·have hdi := hd 6 (by decide)
   have hli := hl 6 (by decide)
   simp [pairsM, pU] at hp
   rw [hp.1] at hdi
   simp at hdi
   simp [xf_message_unused_b0, S_un, k0, k1, usesD_len, hp, hdi, hli]
  ·have hdi := hd 7 (by decide)
   have hli := hl 7 (by decide)
   simp [pairsM, pU] at hp
   rw [hp.1] at hdi
   simp at hdi
   simp [xf_message_unused_b0, S_un, k0, k1, usesD_len, hp, hdi, hli]
  ·have hdi := hd 8 (by decide)
   have hli := hl 8 (by decide)
   simp [pairsM, pU] at hp
   rw [hp.1] at hdi
   simp at hdi
   simp [xf_message_unused_b0, S_un, k0, k1, usesD_len, hp, hdi, hli]
  ·have hdi := hd 9 (by decide)
   have hli := hl 9 (by decide)
   simp [pairsM, pU] at hp
   rw [hp.1] at hdi
   simp at hdi
   simp [xf_message_unused_b0, S_un, k0, k1, usesD_len, hp, hdi, hli]
 ·simp only [pairsM, List.length_cons, List.length_nil] at hi
  have : i = 0 ∨ i = 1 ∨ i = 2 ∨ i = 3 ∨ i = 4 ∨ i = 5 ∨ i = 6 ∨ i = 7 ∨ i = 8 ∨ i = 9 := by omega
  rcases this with rfl | rfl | rfl | rfl | rfl | rfl | rfl | rfl | rfl | rfl
  ·have hdi := hd 0 (by decide)
   have hli := hl 0 (by decide)
   simp at hdi
   simp [pairsM, pU] at hp
   refine nextK_some ?_
   cases hz : z0
   ·have hu : ub m.kind 0 = true := by
     cases hu : ub m.kind 0
     ·simp [hu, hz] at hp
     ·rfl
    rw [hu] at hdi
    simp [xf_message_unused_b0, xf_message_unused_k0, S_un, k0, k1, usesD_len, hz, hdi, hli, (show IntKind.wrap .i64 1 = 1 by decide)]
   ·simp [xf_message_unused_b0, xf_message_unused_k0, S_un, k0, k1, usesD_len, hz, hdi, hli, (show IntKind.wrap .i64 1 = 1 by decide)]
  ·have hdi := hd 1 (by decide)
   have hli := hl 1 (by decide)
   simp at hdi
   simp [pairsM, pU] at hp
   refine nextK_some ?_
   cases hz : z1
   ·have hu : ub m.kind 1 = true := by
     cases hu : ub m.kind 1
     ·simp [hu, hz] at hp
     ·rfl
    rw [hu] at hdi
    simp [xf_message_unused_b0, xf_message_unused_k0, S_un, k0, k1, usesD_len, hz, hdi, hli, (show IntKind.wrap .i64 2 = 2 by decide)]
   ·simp [xf_message_unused_b0, xf_message_unused_k0, S_un, k0, k1, usesD_len, hz, hdi, hli, (show IntKind.wrap .i64 2 = 2 by decide)]
  ·have hdi := hd 2 (by decide)
   have hli := hl 2 (by decide)
   simp at hdi
   simp [pairsM, pU] at hp
   refine nextK_some ?_
   cases hz : z2
   ·have hu : ub m.kind 2 = true := by
     cases hu : ub m.kind 2
     ·simp [hu, hz] at hp
     ·rfl
    rw [hu] at hdi
    simp [xf_message_unused_b0, xf_message_unused_k0, S_un, k0, k1, usesD_len, hz, hdi, hli, (show IntKind.wrap .i64 3 = 3 by decide)]
   ·simp [xf_message_unused_b0, xf_message_unused_k0, S_un, k0, k1, usesD_len, hz, hdi, hli, (show IntKind.wrap .i64 3 = 3 by decide)]
  ·have hdi := hd 3 (by decide)
   have hli := hl 3 (by decide)
   simp at hdi
   simp [pairsM, pU] at hp
   refine nextK_some ?_
   cases hz : z3
   ·have hu : ub m.kind 3 = true := by
     cases hu : ub m.kind 3
     ·simp [hu, hz] at hp
     ·rfl
    rw [hu] at hdi
    simp [xf_message_unused_b0, xf_message_unused_k0, S_un, k0, k1, usesD_len, hz, hdi, hli, (show IntKind.wrap .i64 4 = 4 by decide)]
   ·simp [xf_message_unused_b0, xf_message_unused_k0, S_un, k0, k1, usesD_len, hz, hdi, hli, (show IntKind.wrap .i64 4 = 4 by decide)]
  ·have hdi := hd 4 (by decide)
   have hli := hl 4 (by decide)
   simp at hdi
   simp [pairsM, pU] at hp
   refine nextK_some ?_
   cases hz : z4
   ·have hu : ub m.kind 4 = true := by
     cases hu : ub m.kind 4
     ·simp [hu, hz] at hp
     ·rfl
    rw [hu] at hdi
    simp [xf_message_unused_b0, xf_message_unused_k0, S_un, k0, k1, usesD_len, hz, hdi, hli, (show IntKind.wrap .i64 5 = 5 by decide)]
   ·simp [xf_message_unused_b0, xf_message_unused_k0, S_un, k0, k1, usesD_len, hz, hdi, hli, (show IntKind.wrap .i64 5 = 5 by decide)]
  ·have hdi := hd 5 (by decide)
   have hli := hl 5 (by decide)
   simp at hdi
   simp [pairsM, pU] at hp
   refine nextK_some ?_
   cases hz : z5
   ·have hu : ub m.kind 5 = true := by
     cases hu : ub m.kind 5
     ·simp [hu, hz] at hp
     ·rfl
    rw [hu] at hdi
    simp [xf_message_unused_b0, xf_message_unused_k0, S_un, k0, k1, usesD_len, hz, hdi, hli, (show IntKind.wrap .i64 6 = 6 by decide)]
   ·simp [xf_message_unused_b0, xf_message_unused_k0, S_un, k0, k1, usesD_len, hz, hdi, hli, (show IntKind.wrap .i64 6 = 6 by decide)]
  ·have hdi := hd 6 (by decide)
   have hli := hl 6 (by decide)
   simp at hdi
   simp [pairsM, pU] at hp
   refine nextK_some ?_
   cases hz : z6
   ·have hu : ub m.kind 6 = true := by
     cases hu : ub m.kind 6
     ·simp [hu, hz] at hp
     ·rfl
    rw [hu] at hdi
    simp [xf_message_unused_b0, xf_message_unused_k0, S_un, k0, k1, usesD_len, hz, hdi, hli, (show IntKind.wrap .i64 7 = 7 by decide)]
   ·simp [xf_message_unused_b0, xf_message_unused_k0, S_un, k0, k1, usesD_len, hz, hdi, hli, (show IntKind.wrap .i64 7 = 7 by decide)]
  ·have hdi := hd 7 (by decide)
   have hli := hl 7 (by decide)
   simp at hdi
   simp [pairsM, pU] at hp
   refine nextK_some ?_
   cases hz : z7
   ·have hu : ub m.kind 7 = true := by
     cases hu : ub m.kind 7
     ·simp [hu, hz] at hp
     ·rfl
    rw [hu] at hdi
    simp [xf_message_unused_b0, xf_message_unused_k0, S_un, k0, k1, usesD_len, hz, hdi, hli, (show IntKind.wrap .i64 8 = 8 by decide)]
   ·simp [xf_message_unused_b0, xf_message_unused_k0, S_un, k0, k1, usesD_len, hz, hdi, hli, (show IntKind.wrap .i64 8 = 8 by decide)]
  ·have hdi := hd 8 (by decide)
   have hli := hl 8 (by decide)
   simp at hdi
   simp [pairsM, pU] at hp
   refine nextK_some ?_
   cases hz : z8
   ·have hu : ub m.kind 8 = true := by
     cases hu : ub m.kind 8
     ·simp [hu, hz] at hp
     ·rfl
    rw [hu] at hdi
    simp [xf_message_unused_b0, xf_message_unused_k0, S_un, k0, k1, usesD_len, hz, hdi, hli, (show IntKind.wrap .i64 9 = 9 by decide)]
   ·simp [xf_message_unused_b0, xf_message_unused_k0, S_un, k0, k1, usesD_len, hz, hdi, hli, (show IntKind.wrap .i64 9 = 9 by decide)]
  ·have hdi := hd 9 (by decide)
   have hli := hl 9 (by decide)
   simp at hdi
   simp [pairsM, pU] at hp
   refine nextK_some ?_
   cases hz : z9
   ·have hu : ub m.kind 9 = true := by
     cases hu : ub m.kind 9
     ·simp [hu, hz] at hp
     ·rfl
    rw [hu] at hdi
    simp [xf_message_unused_b0, xf_message_unused_k0, S_un, k0, k1, usesD_len, hz, hdi, hli, (show IntKind.wrap .i64 10 = 10 by decide)]
   ·simp [xf_message_unused_b0, xf_message_unused_k0, S_un, k0, k1, usesD_len, hz, hdi, hli, (show IntKind.wrap .i64 10 = 10 by decide)]
 ·simp [xf_message_unused_b0, S_un, pairsM]
def pairs (m : Msg) : List (Bool × Bool) := pairsM m.kind (decide (m.node = 0)) (decide (m.view = 0)) (decide (m.last = 0)) (decide (m.place = 0)) (decide (m.commit = 0)) (decide (m.draw.hi = 0) && decide (m.draw.lo = 0))
 (decide (m.entry.client = 0) && (decide (m.entry.number = 0) && (decide (m.entry.op.kind = 0) && (decide (m.entry.op.slot = 0) && decide (m.entry.op.value = ByteArray.empty))))) (decide (m.result.code = 0) && (decide (m.result.slot = 0) && decide (m.result.value = ByteArray.empty))) (decide (m.log = [])) (decide (m.vector = []))
def unusedOk (m : Msg) : Bool := !(pairs m).any pU
theorem e_message_unused (m : Msg) (hk : 1 ≤ m.kind ∧ m.kind ≤ 14) (hn : 1048577 < n) : runFn T n (d + 1) 118 [.dat (encM m)] [] = some (.dat (.bool (unusedOk m)), []) := by
 have hz : ({ data := #[] } : ByteArray) = ByteArray.empty := rfl
 have h := l_unused (runFn T n d) m hk (decide (m.node = 0)) (decide (m.view = 0)) (decide (m.last = 0)) (decide (m.place = 0)) (decide (m.commit = 0)) (decide (m.draw.hi = 0) && decide (m.draw.lo = 0))
  (decide (m.entry.client = 0) && (decide (m.entry.number = 0) && (decide (m.entry.op.kind = 0) && (decide (m.entry.op.slot = 0) && decide (m.entry.op.value = ByteArray.empty))))) (decide (m.result.code = 0) && (decide (m.result.slot = 0) && decide (m.result.value = ByteArray.empty))) (decide (m.log = [])) (decide (m.vector = [])) hn
 rw [show pairsM m.kind _ _ _ _ _ _ _ _ _ _ = pairs m from rfl] at h
 simp [S_un, xf_message_unused_k0, boxMsg] at h
 unfold unusedOk
 rw [runFn_succ]
 cases hf : (pairs m).find? pU with
 | none =>
  rw [hf] at h
  have ha : (pairs m).any pU = false := by
   rw [List.find?_eq_none] at hf
   rw [List.any_eq_false]
   exact hf
  simp at h
  rw [ha]
  simp [T, xf_message_unused, xf_message_unused_k0, hz, h]
 | some x =>
  rw [hf] at h
  have ha : (pairs m).any pU = true := List.any_eq_true.2 ⟨x, List.mem_of_find?_eq_some hf, List.find?_some hf⟩
  simp at h
  rw [ha]
  simp [T, xf_message_unused, xf_message_unused_k0, hz, h]
end Go.Ax
namespace Go.Ax
set_option linter.all false
variable {n d : Nat}
set_option maxRecDepth 10000
set_option maxHeartbeats 4000000
theorem e_ref07_unused (m : Msg) (k : Int) (hk : 1 ≤ k ∧ k ≤ 14) (he : m.kind = k) : runFn T n (d + 1) 66 [.dat (encM m), .dat (encBs (rowL k))] [] = some (.dat (.bool (unusedOk m)), []) := by
 have hz : ({ data := #[] } : ByteArray) = ByteArray.empty := rfl
 unfold unusedOk pairs pairsM rowL
 rw [if_pos hk, he]
 generalize ub k 0 = b0
 generalize ub k 1 = b1
 generalize ub k 2 = b2
 generalize ub k 3 = b3
 generalize ub k 4 = b4
 generalize ub k 5 = b5
 generalize ub k 6 = b6
 generalize ub k 7 = b7
 generalize ub k 8 = b8
 generalize ub k 9 = b9
 rw [runFn_succ]
 by_cases c0 : b0 = true ∨ (m.node = 0)
 case neg =>
  obtain ⟨p, q⟩ := not_or.1 c0
  have p' : b0 = false := by simpa using p
  subst p'
  have q' : (m.node = 0) = False := eq_false q
  simp [T, xf_ref07_unused, hz, pU, q', Bool.or_assoc]
 by_cases c1 : b1 = true ∨ (m.view = 0)
 case neg =>
  obtain ⟨p, q⟩ := not_or.1 c1
  have p' : b1 = false := by simpa using p
  subst p'
  have q' : (m.view = 0) = False := eq_false q
  simp [T, xf_ref07_unused, hz, pU, q', c0, Bool.or_assoc]
 by_cases c2 : b2 = true ∨ (m.last = 0)
 case neg =>
  obtain ⟨p, q⟩ := not_or.1 c2
  have p' : b2 = false := by simpa using p
  subst p'
  have q' : (m.last = 0) = False := eq_false q
  simp [T, xf_ref07_unused, hz, pU, q', c0, c1, Bool.or_assoc]
 by_cases c3 : b3 = true ∨ (m.place = 0)
 case neg =>
  obtain ⟨p, q⟩ := not_or.1 c3
  have p' : b3 = false := by simpa using p
  subst p'
  have q' : (m.place = 0) = False := eq_false q
  simp [T, xf_ref07_unused, hz, pU, q', c0, c1, c2, Bool.or_assoc]
 by_cases c4 : b4 = true ∨ (m.commit = 0)
 case neg =>
  obtain ⟨p, q⟩ := not_or.1 c4
  have p' : b4 = false := by simpa using p
  subst p'
  have q' : (m.commit = 0) = False := eq_false q
  simp [T, xf_ref07_unused, hz, pU, q', c0, c1, c2, c3, Bool.or_assoc]
 by_cases c5 : b5 = true ∨ (m.draw.hi = 0 ∧ m.draw.lo = 0)
 case neg =>
  obtain ⟨p, q⟩ := not_or.1 c5
  have p' : b5 = false := by simpa using p
  subst p'
  have q' : (m.draw.hi = 0 ∧ m.draw.lo = 0) = False := eq_false q
  simp [T, xf_ref07_unused, hz, pU, q', c0, c1, c2, c3, c4, Bool.or_assoc]
  intro h0 h1; exact absurd ⟨h0, h1⟩ q
 by_cases c6 : b6 = true ∨ (m.entry.client = 0 ∧ m.entry.number = 0 ∧ m.entry.op.kind = 0 ∧ m.entry.op.slot = 0 ∧ m.entry.op.value = ByteArray.empty)
 case neg =>
  obtain ⟨p, q⟩ := not_or.1 c6
  have p' : b6 = false := by simpa using p
  subst p'
  have q' : (m.entry.client = 0 ∧ m.entry.number = 0 ∧ m.entry.op.kind = 0 ∧ m.entry.op.slot = 0 ∧ m.entry.op.value = ByteArray.empty) = False := eq_false q
  simp [T, xf_ref07_unused, hz, pU, q', c0, c1, c2, c3, c4, c5, Bool.or_assoc]
  intro h0 h1 h2 h3 h4; exact absurd ⟨h0, h1, h2, h3, h4⟩ q
 by_cases c7 : b7 = true ∨ (m.result.code = 0 ∧ m.result.slot = 0 ∧ m.result.value = ByteArray.empty)
 case neg =>
  obtain ⟨p, q⟩ := not_or.1 c7
  have p' : b7 = false := by simpa using p
  subst p'
  have q' : (m.result.code = 0 ∧ m.result.slot = 0 ∧ m.result.value = ByteArray.empty) = False := eq_false q
  simp [T, xf_ref07_unused, hz, pU, q', c0, c1, c2, c3, c4, c5, c6, Bool.or_assoc]
  intro h0 h1 h2; exact absurd ⟨h0, h1, h2⟩ q
 by_cases c8 : b8 = true ∨ (m.log = [])
 case neg =>
  obtain ⟨p, q⟩ := not_or.1 c8
  have p' : b8 = false := by simpa using p
  subst p'
  have q' : (m.log = []) = False := eq_false q
  simp [T, xf_ref07_unused, hz, pU, q', c0, c1, c2, c3, c4, c5, c6, c7, Bool.or_assoc]
 by_cases c9 : b9 = true ∨ (m.vector = [])
 case neg =>
  obtain ⟨p, q⟩ := not_or.1 c9
  have p' : b9 = false := by simpa using p
  subst p'
  have q' : (m.vector = []) = False := eq_false q
  simp [T, xf_ref07_unused, hz, pU, q', c0, c1, c2, c3, c4, c5, c6, c7, c8, Bool.or_assoc]
 simp [T, xf_ref07_unused, hz, pU, c0, c1, c2, c3, c4, c5, c6, c7, c8, c9]
 have e0 : (b0 || decide (m.node = 0)) = true := by simpa using c0
 have e1 : (b1 || decide (m.view = 0)) = true := by simpa using c1
 have e2 : (b2 || decide (m.last = 0)) = true := by simpa using c2
 have e3 : (b3 || decide (m.place = 0)) = true := by simpa using c3
 have e4 : (b4 || decide (m.commit = 0)) = true := by simpa using c4
 have e5 : (b5 || (decide (m.draw.hi = 0) && decide (m.draw.lo = 0))) = true := by simpa using c5
 have e6 : (b6 || (decide (m.entry.client = 0) && (decide (m.entry.number = 0) && (decide (m.entry.op.kind = 0) && (decide (m.entry.op.slot = 0) && decide (m.entry.op.value = ByteArray.empty)))))) = true := by simpa using c6
 have e7 : (b7 || (decide (m.result.code = 0) && (decide (m.result.slot = 0) && decide (m.result.value = ByteArray.empty)))) = true := by simpa using c7
 have e8 : (b8 || decide (m.log = [])) = true := by simpa using c8
 have e9 : (b9 || decide (m.vector = [])) = true := by simpa using c9
 simp only [e0, e1, e2, e3, e4, e5, e6, e7, e8, e9, Bool.and_true]
end Go.Ax
namespace Go.Ax
set_option linter.all false
variable {n d : Nat}
set_option maxRecDepth 10000
set_option maxHeartbeats 4000000
abbrev NN (c : Cfg) : Int := 2 * c.f + 1
def numsBase (c : Cfg) (m : Msg) : Bool := !decide (m.node < 0) && !decide (NN c ≤ m.node) && !decide (m.view < 0) && !decide (4294967296 < m.view) && !decide (m.place < 0) && !decide (c.room < m.place) && !decide (m.commit < 0) && !decide (m.last < 0)
def numsEnd (m : Msg) : Bool := (!ub m.kind 2 || decide (m.last < m.view)) && (!ub m.kind 8 || decide (m.commit ≤ m.log.length))
def numsTail (c : Cfg) (m : Msg) : Bool :=
 if m.kind = 3 then !decide (m.place < 1) && (decide (m.node = m.view.tmod (NN c)) && decide (m.commit ≤ c.room))
 else if m.kind = 5 then decide (m.node = m.view.tmod (NN c)) && decide (m.commit ≤ c.room)
 else if m.kind = 14 then decide (m.commit ≤ c.room)
 else if m.kind = 8 then decide (m.node = m.view.tmod (NN c)) && (!decide (m.view < 1) && numsEnd m)
 else if m.kind = 6 ∨ m.kind = 7 then !decide (m.view < 1) && numsEnd m
 else numsEnd m
def numsOk (c : Cfg) (m : Msg) : Bool := numsBase c m && numsTail c m
theorem rowV_1 : List.drop 10 (List.map AV.dat usesD) = .dat (.bool false) :: .dat (.bool false) :: .dat (.bool false) :: .dat (.bool false) :: .dat (.bool false) :: .dat (.bool false) :: .dat (.bool true) :: .dat (.bool false) :: .dat (.bool false) :: .dat (.bool false) :: List.drop 20 (List.map AV.dat usesD) := rfl
theorem ub_1_0 : ub 1 0 = false := by decide
theorem ub_1_1 : ub 1 1 = false := by decide
theorem ub_1_2 : ub 1 2 = false := by decide
theorem ub_1_3 : ub 1 3 = false := by decide
theorem ub_1_4 : ub 1 4 = false := by decide
theorem ub_1_5 : ub 1 5 = false := by decide
theorem ub_1_6 : ub 1 6 = true := by decide
theorem ub_1_7 : ub 1 7 = false := by decide
theorem ub_1_8 : ub 1 8 = false := by decide
theorem ub_1_9 : ub 1 9 = false := by decide
theorem rowV_2 : List.drop 20 (List.map AV.dat usesD) = .dat (.bool true) :: .dat (.bool true) :: .dat (.bool false) :: .dat (.bool true) :: .dat (.bool false) :: .dat (.bool false) :: .dat (.bool true) :: .dat (.bool true) :: .dat (.bool false) :: .dat (.bool false) :: List.drop 30 (List.map AV.dat usesD) := rfl
theorem ub_2_0 : ub 2 0 = true := by decide
theorem ub_2_1 : ub 2 1 = true := by decide
theorem ub_2_2 : ub 2 2 = false := by decide
theorem ub_2_3 : ub 2 3 = true := by decide
theorem ub_2_4 : ub 2 4 = false := by decide
theorem ub_2_5 : ub 2 5 = false := by decide
theorem ub_2_6 : ub 2 6 = true := by decide
theorem ub_2_7 : ub 2 7 = true := by decide
theorem ub_2_8 : ub 2 8 = false := by decide
theorem ub_2_9 : ub 2 9 = false := by decide
theorem rowV_3 : List.drop 30 (List.map AV.dat usesD) = .dat (.bool true) :: .dat (.bool true) :: .dat (.bool false) :: .dat (.bool true) :: .dat (.bool true) :: .dat (.bool false) :: .dat (.bool true) :: .dat (.bool false) :: .dat (.bool false) :: .dat (.bool true) :: List.drop 40 (List.map AV.dat usesD) := rfl
theorem ub_3_0 : ub 3 0 = true := by decide
theorem ub_3_1 : ub 3 1 = true := by decide
theorem ub_3_2 : ub 3 2 = false := by decide
theorem ub_3_3 : ub 3 3 = true := by decide
theorem ub_3_4 : ub 3 4 = true := by decide
theorem ub_3_5 : ub 3 5 = false := by decide
theorem ub_3_6 : ub 3 6 = true := by decide
theorem ub_3_7 : ub 3 7 = false := by decide
theorem ub_3_8 : ub 3 8 = false := by decide
theorem ub_3_9 : ub 3 9 = true := by decide
theorem rowV_4 : List.drop 40 (List.map AV.dat usesD) = .dat (.bool true) :: .dat (.bool true) :: .dat (.bool false) :: .dat (.bool true) :: .dat (.bool false) :: .dat (.bool false) :: .dat (.bool false) :: .dat (.bool false) :: .dat (.bool false) :: .dat (.bool true) :: List.drop 50 (List.map AV.dat usesD) := rfl
theorem ub_4_0 : ub 4 0 = true := by decide
theorem ub_4_1 : ub 4 1 = true := by decide
theorem ub_4_2 : ub 4 2 = false := by decide
theorem ub_4_3 : ub 4 3 = true := by decide
theorem ub_4_4 : ub 4 4 = false := by decide
theorem ub_4_5 : ub 4 5 = false := by decide
theorem ub_4_6 : ub 4 6 = false := by decide
theorem ub_4_7 : ub 4 7 = false := by decide
theorem ub_4_8 : ub 4 8 = false := by decide
theorem ub_4_9 : ub 4 9 = true := by decide
theorem rowV_5 : List.drop 50 (List.map AV.dat usesD) = .dat (.bool true) :: .dat (.bool true) :: .dat (.bool false) :: .dat (.bool false) :: .dat (.bool true) :: .dat (.bool false) :: .dat (.bool false) :: .dat (.bool false) :: .dat (.bool false) :: .dat (.bool true) :: List.drop 60 (List.map AV.dat usesD) := rfl
theorem ub_5_0 : ub 5 0 = true := by decide
theorem ub_5_1 : ub 5 1 = true := by decide
theorem ub_5_2 : ub 5 2 = false := by decide
theorem ub_5_3 : ub 5 3 = false := by decide
theorem ub_5_4 : ub 5 4 = true := by decide
theorem ub_5_5 : ub 5 5 = false := by decide
theorem ub_5_6 : ub 5 6 = false := by decide
theorem ub_5_7 : ub 5 7 = false := by decide
theorem ub_5_8 : ub 5 8 = false := by decide
theorem ub_5_9 : ub 5 9 = true := by decide
theorem rowV_6 : List.drop 60 (List.map AV.dat usesD) = .dat (.bool true) :: .dat (.bool true) :: .dat (.bool false) :: .dat (.bool false) :: .dat (.bool false) :: .dat (.bool false) :: .dat (.bool false) :: .dat (.bool false) :: .dat (.bool false) :: .dat (.bool true) :: List.drop 70 (List.map AV.dat usesD) := rfl
theorem ub_6_0 : ub 6 0 = true := by decide
theorem ub_6_1 : ub 6 1 = true := by decide
theorem ub_6_2 : ub 6 2 = false := by decide
theorem ub_6_3 : ub 6 3 = false := by decide
theorem ub_6_4 : ub 6 4 = false := by decide
theorem ub_6_5 : ub 6 5 = false := by decide
theorem ub_6_6 : ub 6 6 = false := by decide
theorem ub_6_7 : ub 6 7 = false := by decide
theorem ub_6_8 : ub 6 8 = false := by decide
theorem ub_6_9 : ub 6 9 = true := by decide
theorem rowV_7 : List.drop 70 (List.map AV.dat usesD) = .dat (.bool true) :: .dat (.bool true) :: .dat (.bool true) :: .dat (.bool false) :: .dat (.bool true) :: .dat (.bool false) :: .dat (.bool false) :: .dat (.bool false) :: .dat (.bool true) :: .dat (.bool true) :: List.drop 80 (List.map AV.dat usesD) := rfl
theorem ub_7_0 : ub 7 0 = true := by decide
theorem ub_7_1 : ub 7 1 = true := by decide
theorem ub_7_2 : ub 7 2 = true := by decide
theorem ub_7_3 : ub 7 3 = false := by decide
theorem ub_7_4 : ub 7 4 = true := by decide
theorem ub_7_5 : ub 7 5 = false := by decide
theorem ub_7_6 : ub 7 6 = false := by decide
theorem ub_7_7 : ub 7 7 = false := by decide
theorem ub_7_8 : ub 7 8 = true := by decide
theorem ub_7_9 : ub 7 9 = true := by decide
theorem rowV_8 : List.drop 80 (List.map AV.dat usesD) = .dat (.bool true) :: .dat (.bool true) :: .dat (.bool false) :: .dat (.bool false) :: .dat (.bool true) :: .dat (.bool false) :: .dat (.bool false) :: .dat (.bool false) :: .dat (.bool true) :: .dat (.bool true) :: List.drop 90 (List.map AV.dat usesD) := rfl
theorem ub_8_0 : ub 8 0 = true := by decide
theorem ub_8_1 : ub 8 1 = true := by decide
theorem ub_8_2 : ub 8 2 = false := by decide
theorem ub_8_3 : ub 8 3 = false := by decide
theorem ub_8_4 : ub 8 4 = true := by decide
theorem ub_8_5 : ub 8 5 = false := by decide
theorem ub_8_6 : ub 8 6 = false := by decide
theorem ub_8_7 : ub 8 7 = false := by decide
theorem ub_8_8 : ub 8 8 = true := by decide
theorem ub_8_9 : ub 8 9 = true := by decide
theorem rowV_9 : List.drop 90 (List.map AV.dat usesD) = .dat (.bool true) :: .dat (.bool false) :: .dat (.bool false) :: .dat (.bool false) :: .dat (.bool false) :: .dat (.bool true) :: .dat (.bool false) :: .dat (.bool false) :: .dat (.bool false) :: .dat (.bool true) :: List.drop 100 (List.map AV.dat usesD) := rfl
theorem ub_9_0 : ub 9 0 = true := by decide
theorem ub_9_1 : ub 9 1 = false := by decide
theorem ub_9_2 : ub 9 2 = false := by decide
theorem ub_9_3 : ub 9 3 = false := by decide
theorem ub_9_4 : ub 9 4 = false := by decide
theorem ub_9_5 : ub 9 5 = true := by decide
theorem ub_9_6 : ub 9 6 = false := by decide
theorem ub_9_7 : ub 9 7 = false := by decide
theorem ub_9_8 : ub 9 8 = false := by decide
theorem ub_9_9 : ub 9 9 = true := by decide
theorem rowV_10 : List.drop 100 (List.map AV.dat usesD) = .dat (.bool true) :: .dat (.bool true) :: .dat (.bool false) :: .dat (.bool false) :: .dat (.bool true) :: .dat (.bool true) :: .dat (.bool false) :: .dat (.bool false) :: .dat (.bool true) :: .dat (.bool true) :: List.drop 110 (List.map AV.dat usesD) := rfl
theorem ub_10_0 : ub 10 0 = true := by decide
theorem ub_10_1 : ub 10 1 = true := by decide
theorem ub_10_2 : ub 10 2 = false := by decide
theorem ub_10_3 : ub 10 3 = false := by decide
theorem ub_10_4 : ub 10 4 = true := by decide
theorem ub_10_5 : ub 10 5 = true := by decide
theorem ub_10_6 : ub 10 6 = false := by decide
theorem ub_10_7 : ub 10 7 = false := by decide
theorem ub_10_8 : ub 10 8 = true := by decide
theorem ub_10_9 : ub 10 9 = true := by decide
theorem rowV_11 : List.drop 110 (List.map AV.dat usesD) = .dat (.bool true) :: .dat (.bool true) :: .dat (.bool false) :: .dat (.bool false) :: .dat (.bool false) :: .dat (.bool false) :: .dat (.bool false) :: .dat (.bool false) :: .dat (.bool false) :: .dat (.bool true) :: List.drop 120 (List.map AV.dat usesD) := rfl
theorem ub_11_0 : ub 11 0 = true := by decide
theorem ub_11_1 : ub 11 1 = true := by decide
theorem ub_11_2 : ub 11 2 = false := by decide
theorem ub_11_3 : ub 11 3 = false := by decide
theorem ub_11_4 : ub 11 4 = false := by decide
theorem ub_11_5 : ub 11 5 = false := by decide
theorem ub_11_6 : ub 11 6 = false := by decide
theorem ub_11_7 : ub 11 7 = false := by decide
theorem ub_11_8 : ub 11 8 = false := by decide
theorem ub_11_9 : ub 11 9 = true := by decide
theorem rowV_12 : List.drop 120 (List.map AV.dat usesD) = .dat (.bool true) :: .dat (.bool true) :: .dat (.bool false) :: .dat (.bool false) :: .dat (.bool true) :: .dat (.bool false) :: .dat (.bool false) :: .dat (.bool false) :: .dat (.bool true) :: .dat (.bool true) :: List.drop 130 (List.map AV.dat usesD) := rfl
theorem ub_12_0 : ub 12 0 = true := by decide
theorem ub_12_1 : ub 12 1 = true := by decide
theorem ub_12_2 : ub 12 2 = false := by decide
theorem ub_12_3 : ub 12 3 = false := by decide
theorem ub_12_4 : ub 12 4 = true := by decide
theorem ub_12_5 : ub 12 5 = false := by decide
theorem ub_12_6 : ub 12 6 = false := by decide
theorem ub_12_7 : ub 12 7 = false := by decide
theorem ub_12_8 : ub 12 8 = true := by decide
theorem ub_12_9 : ub 12 9 = true := by decide
theorem rowV_13 : List.drop 130 (List.map AV.dat usesD) = .dat (.bool false) :: .dat (.bool false) :: .dat (.bool false) :: .dat (.bool true) :: .dat (.bool false) :: .dat (.bool false) :: .dat (.bool true) :: .dat (.bool false) :: .dat (.bool false) :: .dat (.bool false) :: List.drop 140 (List.map AV.dat usesD) := rfl
theorem ub_13_0 : ub 13 0 = false := by decide
theorem ub_13_1 : ub 13 1 = false := by decide
theorem ub_13_2 : ub 13 2 = false := by decide
theorem ub_13_3 : ub 13 3 = true := by decide
theorem ub_13_4 : ub 13 4 = false := by decide
theorem ub_13_5 : ub 13 5 = false := by decide
theorem ub_13_6 : ub 13 6 = true := by decide
theorem ub_13_7 : ub 13 7 = false := by decide
theorem ub_13_8 : ub 13 8 = false := by decide
theorem ub_13_9 : ub 13 9 = false := by decide
theorem rowV_14 : List.drop 140 (List.map AV.dat usesD) = .dat (.bool true) :: .dat (.bool true) :: .dat (.bool false) :: .dat (.bool false) :: .dat (.bool true) :: .dat (.bool false) :: .dat (.bool true) :: .dat (.bool true) :: .dat (.bool false) :: .dat (.bool false) :: List.drop 150 (List.map AV.dat usesD) := rfl
theorem ub_14_0 : ub 14 0 = true := by decide
theorem ub_14_1 : ub 14 1 = true := by decide
theorem ub_14_2 : ub 14 2 = false := by decide
theorem ub_14_3 : ub 14 3 = false := by decide
theorem ub_14_4 : ub 14 4 = true := by decide
theorem ub_14_5 : ub 14 5 = false := by decide
theorem ub_14_6 : ub 14 6 = true := by decide
theorem ub_14_7 : ub 14 7 = true := by decide
theorem ub_14_8 : ub 14 8 = false := by decide
theorem ub_14_9 : ub 14 9 = false := by decide
theorem e_numbers_1 (c : Cfg) (m : Msg) (hk : m.kind = 1) (hc : cfgOk c) : runFn T n (d + 1) 119 [.dat (encCfg c), .dat (encM m)] [] = some (.dat (.bool (numsOk c m)), []) := by
 have w1 := wrap_small (x := 2 * c.f) (by unfold cfgOk at hc; omega)
 have w2 := wrap_small (x := 2 * c.f + 1) (by unfold cfgOk at hc; omega)
 have w3 : ¬ (2 * c.f + 1 = 0) := by unfold cfgOk at hc; omega
 obtain ⟨kd, nd, vw, en, rs, pl, cm, ls, dr, lg, vc⟩ := m
 simp only at hk
 subst hk
 unfold numsOk numsTail numsBase numsEnd NN
 rw [runFn_succ]
 simp [T, xf_message_numbers, w1, w2, w3, rowV_1, usesD_len, ub_1_2, ub_1_8]
 try grind
theorem e_numbers_2 (c : Cfg) (m : Msg) (hk : m.kind = 2) (hc : cfgOk c) : runFn T n (d + 1) 119 [.dat (encCfg c), .dat (encM m)] [] = some (.dat (.bool (numsOk c m)), []) := by
 have w1 := wrap_small (x := 2 * c.f) (by unfold cfgOk at hc; omega)
 have w2 := wrap_small (x := 2 * c.f + 1) (by unfold cfgOk at hc; omega)
 have w3 : ¬ (2 * c.f + 1 = 0) := by unfold cfgOk at hc; omega
 obtain ⟨kd, nd, vw, en, rs, pl, cm, ls, dr, lg, vc⟩ := m
 simp only at hk
 subst hk
 unfold numsOk numsTail numsBase numsEnd NN
 rw [runFn_succ]
 simp [T, xf_message_numbers, w1, w2, w3, rowV_2, usesD_len, ub_2_2, ub_2_8]
 try grind
theorem e_numbers_3 (c : Cfg) (m : Msg) (hk : m.kind = 3) (hc : cfgOk c) : runFn T n (d + 1) 119 [.dat (encCfg c), .dat (encM m)] [] = some (.dat (.bool (numsOk c m)), []) := by
 have w1 := wrap_small (x := 2 * c.f) (by unfold cfgOk at hc; omega)
 have w2 := wrap_small (x := 2 * c.f + 1) (by unfold cfgOk at hc; omega)
 have w3 : ¬ (2 * c.f + 1 = 0) := by unfold cfgOk at hc; omega
 obtain ⟨kd, nd, vw, en, rs, pl, cm, ls, dr, lg, vc⟩ := m
 simp only at hk
 subst hk
 unfold numsOk numsTail numsBase numsEnd NN
 rw [runFn_succ]
 simp [T, xf_message_numbers, w1, w2, w3, rowV_3, usesD_len, ub_3_2, ub_3_8]
 try grind
theorem e_numbers_4 (c : Cfg) (m : Msg) (hk : m.kind = 4) (hc : cfgOk c) : runFn T n (d + 1) 119 [.dat (encCfg c), .dat (encM m)] [] = some (.dat (.bool (numsOk c m)), []) := by
 have w1 := wrap_small (x := 2 * c.f) (by unfold cfgOk at hc; omega)
 have w2 := wrap_small (x := 2 * c.f + 1) (by unfold cfgOk at hc; omega)
 have w3 : ¬ (2 * c.f + 1 = 0) := by unfold cfgOk at hc; omega
 obtain ⟨kd, nd, vw, en, rs, pl, cm, ls, dr, lg, vc⟩ := m
 simp only at hk
 subst hk
 unfold numsOk numsTail numsBase numsEnd NN
 rw [runFn_succ]
 simp [T, xf_message_numbers, w1, w2, w3, rowV_4, usesD_len, ub_4_2, ub_4_8]
 try grind
theorem e_numbers_5 (c : Cfg) (m : Msg) (hk : m.kind = 5) (hc : cfgOk c) : runFn T n (d + 1) 119 [.dat (encCfg c), .dat (encM m)] [] = some (.dat (.bool (numsOk c m)), []) := by
 have w1 := wrap_small (x := 2 * c.f) (by unfold cfgOk at hc; omega)
 have w2 := wrap_small (x := 2 * c.f + 1) (by unfold cfgOk at hc; omega)
 have w3 : ¬ (2 * c.f + 1 = 0) := by unfold cfgOk at hc; omega
 obtain ⟨kd, nd, vw, en, rs, pl, cm, ls, dr, lg, vc⟩ := m
 simp only at hk
 subst hk
 unfold numsOk numsTail numsBase numsEnd NN
 rw [runFn_succ]
 simp [T, xf_message_numbers, w1, w2, w3, rowV_5, usesD_len, ub_5_2, ub_5_8]
 try grind
theorem e_numbers_6 (c : Cfg) (m : Msg) (hk : m.kind = 6) (hc : cfgOk c) : runFn T n (d + 1) 119 [.dat (encCfg c), .dat (encM m)] [] = some (.dat (.bool (numsOk c m)), []) := by
 have w1 := wrap_small (x := 2 * c.f) (by unfold cfgOk at hc; omega)
 have w2 := wrap_small (x := 2 * c.f + 1) (by unfold cfgOk at hc; omega)
 have w3 : ¬ (2 * c.f + 1 = 0) := by unfold cfgOk at hc; omega
 obtain ⟨kd, nd, vw, en, rs, pl, cm, ls, dr, lg, vc⟩ := m
 simp only at hk
 subst hk
 unfold numsOk numsTail numsBase numsEnd NN
 rw [runFn_succ]
 simp [T, xf_message_numbers, w1, w2, w3, rowV_6, usesD_len, ub_6_2, ub_6_8]
 try grind
theorem e_numbers_7 (c : Cfg) (m : Msg) (hk : m.kind = 7) (hc : cfgOk c) : runFn T n (d + 1) 119 [.dat (encCfg c), .dat (encM m)] [] = some (.dat (.bool (numsOk c m)), []) := by
 have w1 := wrap_small (x := 2 * c.f) (by unfold cfgOk at hc; omega)
 have w2 := wrap_small (x := 2 * c.f + 1) (by unfold cfgOk at hc; omega)
 have w3 : ¬ (2 * c.f + 1 = 0) := by unfold cfgOk at hc; omega
 obtain ⟨kd, nd, vw, en, rs, pl, cm, ls, dr, lg, vc⟩ := m
 simp only at hk
 subst hk
 unfold numsOk numsTail numsBase numsEnd NN
 rw [runFn_succ]
 simp [T, xf_message_numbers, w1, w2, w3, rowV_7, usesD_len, ub_7_2, ub_7_8]
 try grind
theorem e_numbers_8 (c : Cfg) (m : Msg) (hk : m.kind = 8) (hc : cfgOk c) : runFn T n (d + 1) 119 [.dat (encCfg c), .dat (encM m)] [] = some (.dat (.bool (numsOk c m)), []) := by
 have w1 := wrap_small (x := 2 * c.f) (by unfold cfgOk at hc; omega)
 have w2 := wrap_small (x := 2 * c.f + 1) (by unfold cfgOk at hc; omega)
 have w3 : ¬ (2 * c.f + 1 = 0) := by unfold cfgOk at hc; omega
 obtain ⟨kd, nd, vw, en, rs, pl, cm, ls, dr, lg, vc⟩ := m
 simp only at hk
 subst hk
 unfold numsOk numsTail numsBase numsEnd NN
 rw [runFn_succ]
 simp [T, xf_message_numbers, w1, w2, w3, rowV_8, usesD_len, ub_8_2, ub_8_8]
 try grind
theorem e_numbers_9 (c : Cfg) (m : Msg) (hk : m.kind = 9) (hc : cfgOk c) : runFn T n (d + 1) 119 [.dat (encCfg c), .dat (encM m)] [] = some (.dat (.bool (numsOk c m)), []) := by
 have w1 := wrap_small (x := 2 * c.f) (by unfold cfgOk at hc; omega)
 have w2 := wrap_small (x := 2 * c.f + 1) (by unfold cfgOk at hc; omega)
 have w3 : ¬ (2 * c.f + 1 = 0) := by unfold cfgOk at hc; omega
 obtain ⟨kd, nd, vw, en, rs, pl, cm, ls, dr, lg, vc⟩ := m
 simp only at hk
 subst hk
 unfold numsOk numsTail numsBase numsEnd NN
 rw [runFn_succ]
 simp [T, xf_message_numbers, w1, w2, w3, rowV_9, usesD_len, ub_9_2, ub_9_8]
 try grind
theorem e_numbers_10 (c : Cfg) (m : Msg) (hk : m.kind = 10) (hc : cfgOk c) : runFn T n (d + 1) 119 [.dat (encCfg c), .dat (encM m)] [] = some (.dat (.bool (numsOk c m)), []) := by
 have w1 := wrap_small (x := 2 * c.f) (by unfold cfgOk at hc; omega)
 have w2 := wrap_small (x := 2 * c.f + 1) (by unfold cfgOk at hc; omega)
 have w3 : ¬ (2 * c.f + 1 = 0) := by unfold cfgOk at hc; omega
 obtain ⟨kd, nd, vw, en, rs, pl, cm, ls, dr, lg, vc⟩ := m
 simp only at hk
 subst hk
 unfold numsOk numsTail numsBase numsEnd NN
 rw [runFn_succ]
 simp [T, xf_message_numbers, w1, w2, w3, rowV_10, usesD_len, ub_10_2, ub_10_8]
 try grind
theorem e_numbers_11 (c : Cfg) (m : Msg) (hk : m.kind = 11) (hc : cfgOk c) : runFn T n (d + 1) 119 [.dat (encCfg c), .dat (encM m)] [] = some (.dat (.bool (numsOk c m)), []) := by
 have w1 := wrap_small (x := 2 * c.f) (by unfold cfgOk at hc; omega)
 have w2 := wrap_small (x := 2 * c.f + 1) (by unfold cfgOk at hc; omega)
 have w3 : ¬ (2 * c.f + 1 = 0) := by unfold cfgOk at hc; omega
 obtain ⟨kd, nd, vw, en, rs, pl, cm, ls, dr, lg, vc⟩ := m
 simp only at hk
 subst hk
 unfold numsOk numsTail numsBase numsEnd NN
 rw [runFn_succ]
 simp [T, xf_message_numbers, w1, w2, w3, rowV_11, usesD_len, ub_11_2, ub_11_8]
 try grind
theorem e_numbers_12 (c : Cfg) (m : Msg) (hk : m.kind = 12) (hc : cfgOk c) : runFn T n (d + 1) 119 [.dat (encCfg c), .dat (encM m)] [] = some (.dat (.bool (numsOk c m)), []) := by
 have w1 := wrap_small (x := 2 * c.f) (by unfold cfgOk at hc; omega)
 have w2 := wrap_small (x := 2 * c.f + 1) (by unfold cfgOk at hc; omega)
 have w3 : ¬ (2 * c.f + 1 = 0) := by unfold cfgOk at hc; omega
 obtain ⟨kd, nd, vw, en, rs, pl, cm, ls, dr, lg, vc⟩ := m
 simp only at hk
 subst hk
 unfold numsOk numsTail numsBase numsEnd NN
 rw [runFn_succ]
 simp [T, xf_message_numbers, w1, w2, w3, rowV_12, usesD_len, ub_12_2, ub_12_8]
 try grind
theorem e_numbers_13 (c : Cfg) (m : Msg) (hk : m.kind = 13) (hc : cfgOk c) : runFn T n (d + 1) 119 [.dat (encCfg c), .dat (encM m)] [] = some (.dat (.bool (numsOk c m)), []) := by
 have w1 := wrap_small (x := 2 * c.f) (by unfold cfgOk at hc; omega)
 have w2 := wrap_small (x := 2 * c.f + 1) (by unfold cfgOk at hc; omega)
 have w3 : ¬ (2 * c.f + 1 = 0) := by unfold cfgOk at hc; omega
 obtain ⟨kd, nd, vw, en, rs, pl, cm, ls, dr, lg, vc⟩ := m
 simp only at hk
 subst hk
 unfold numsOk numsTail numsBase numsEnd NN
 rw [runFn_succ]
 simp [T, xf_message_numbers, w1, w2, w3, rowV_13, usesD_len, ub_13_2, ub_13_8]
 try grind
theorem e_numbers_14 (c : Cfg) (m : Msg) (hk : m.kind = 14) (hc : cfgOk c) : runFn T n (d + 1) 119 [.dat (encCfg c), .dat (encM m)] [] = some (.dat (.bool (numsOk c m)), []) := by
 have w1 := wrap_small (x := 2 * c.f) (by unfold cfgOk at hc; omega)
 have w2 := wrap_small (x := 2 * c.f + 1) (by unfold cfgOk at hc; omega)
 have w3 : ¬ (2 * c.f + 1 = 0) := by unfold cfgOk at hc; omega
 obtain ⟨kd, nd, vw, en, rs, pl, cm, ls, dr, lg, vc⟩ := m
 simp only at hk
 subst hk
 unfold numsOk numsTail numsBase numsEnd NN
 rw [runFn_succ]
 simp [T, xf_message_numbers, w1, w2, w3, rowV_14, usesD_len, ub_14_2, ub_14_8]
 try grind
end Go.Ax
