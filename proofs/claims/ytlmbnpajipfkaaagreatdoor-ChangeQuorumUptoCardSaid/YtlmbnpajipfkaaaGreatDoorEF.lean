/-
  The ledger.
-/
import Derived.Test.YtlmbnpajipfkaaaGreatDoorEA
namespace Go.Ax
attribute [simp] evalOp.eq_39
set_option linter.all false
variable {n d : Nat}
set_option maxRecDepth 10000
set_option maxHeartbeats 4000000
abbrev encLd (L : List (Int × ByteArray)) : List (Int × Dat) := L.map (fun x => (x.1, .agg [.str x.2]))
abbrev ledH (L : List (Int × ByteArray)) (k : Int) : List Blk := [.box [.mref 1, .dat (di k)], .mp (encLd L)]
abbrev avR (r : Res) : AV := .agg [.dat (di r.code), .dat (di r.slot), .dat (.str r.value)]
def lookL : List (Int × ByteArray) → Int → Option ByteArray
 | [], _ => none
 | (k, v) :: r, n => if k = n then some v else lookL r n
theorem mlook_enc (L : List (Int × ByteArray)) (k : Int) : mlook (encLd L) k = (lookL L k).map (fun v => .agg [.str v]) := by
 induction L with
 | nil => rfl
 | cons x r ih =>
  obtain ⟨a, v⟩ := x
  simp only [List.map_cons, mlook, lookL]
  split
  ·rfl
  ·exact ih
def countL (L : List (Int × ByteArray)) : Nat := mcount (encLd L)
theorem e_ledger_New : runFn T n (d + 1) 113 [] [] = some (.ptr 0 0, ledH [] 0) := by
 rw [runFn_succ]
 simp [T, xf_ledger_New]
theorem e_ledger_put (L : List (Int × ByteArray)) (k slot : Int) (v : ByteArray) (hs : 0 ≤ slot ∧ slot ≤ 2000) (hL : L.length ≤ 100000) : runFn T n (d + 1) 122 [.ptr 0 0, .dat (di slot), .dat (.str v)] (ledH L k) = some (.tup [], ledH ((slot, v) :: L) (max k (slot + 1))) := by
 have hw := wrap_small (x := slot + 1) (by omega)
 have h1 : -9223372036854775808 ≤ slot ∧ slot ≤ 9223372036854775807 := by omega
 rw [runFn_succ]
 have h2 : L.length ≤ LIM := by simp only [LIM]; omega
 have h3 : (if k < slot + 1 then slot + 1 else k) = max k (slot + 1) := by split <;> omega
 simp [T, xf_ledger_Ledger_put, hw, h1, h2, h3]
def wouldR (L : List (Int × ByteArray)) (nx : Int) (o : LOp) : Res :=
 if o.kind = 1 then (match lookL L o.slot with | some v => ⟨2, o.slot, v⟩ | none => ⟨1, o.slot, o.value⟩)
 else if o.kind = 2 then (if nx = 1024 then ⟨3, 0, ByteArray.empty⟩ else ⟨1, nx, o.value⟩)
 else if o.kind = 3 then (match lookL L o.slot with | some v => ⟨4, o.slot, v⟩ | none => ⟨5, o.slot, ByteArray.empty⟩)
 else ⟨6, countL L, ByteArray.empty⟩
theorem op_cases {o : LOp} (h : opErr o = 0) : (o.kind = 1 ∧ 0 ≤ o.slot ∧ o.slot < 1024) ∨ (o.kind = 2 ∧ o.slot = 0) ∨ (o.kind = 3 ∧ 0 ≤ o.slot ∧ o.slot < 1024) ∨ (o.kind = 4 ∧ o.slot = 0) := by
 unfold opErr at h
 split at h
 ·split at h
  ·omega
  ·split at h <;> omega
 ·split at h
  ·split at h
   ·omega
   ·split at h <;> omega
  ·omega
theorem e_ledger_Would (L : List (Int × ByteArray)) (k : Int) (o : LOp) (h : opErr o = 0) : runFn T n (d + 2) 121 [.ptr 0 0, .dat (encOp o)] (ledH L k) = some (avR (wouldR L k o), ledH L k) := by
 have h1 := e_ledger_Check (n := n) (d := d) o
 rw [h] at h1
 have hk : -9223372036854775808 ≤ o.slot ∧ o.slot ≤ 9223372036854775807 := by rcases op_cases h with h | h | h | h <;> omega
 have hz : ({ data := #[] } : ByteArray) = ByteArray.empty := rfl
 have hm := mlook_enc L o.slot
 have hc := op_cases h
 clear h
 unfold wouldR countL ledH
 generalize encLd L = M at *
 obtain ⟨kd, sl, vl⟩ := o
 simp only at h1 hk hm hc ⊢
 rw [runFn_succ]
 rcases hc with h | h | h | h
 ·obtain ⟨rfl, _⟩ := h
  cases hl : lookL L sl with
  | none =>
   rw [hl] at hm
   simp [T, xf_ledger_Ledger_Would, h1, hk, hm, hz]
  | some v =>
   rw [hl] at hm
   simp [T, xf_ledger_Ledger_Would, h1, hk, hm, hz]
 ·obtain ⟨rfl, _⟩ := h
  cases hl : lookL L sl with
  | none =>
   rw [hl] at hm
   simp [T, xf_ledger_Ledger_Would, h1, hk, hm, hz]
   split <;> simp_all
  | some v =>
   rw [hl] at hm
   simp [T, xf_ledger_Ledger_Would, h1, hk, hm, hz]
   split <;> simp_all
 ·obtain ⟨rfl, _⟩ := h
  cases hl : lookL L sl with
  | none =>
   rw [hl] at hm
   simp [T, xf_ledger_Ledger_Would, h1, hk, hm, hz]
  | some v =>
   rw [hl] at hm
   simp [T, xf_ledger_Ledger_Would, h1, hk, hm, hz]
 ·obtain ⟨rfl, _⟩ := h
  cases hl : lookL L sl with
  | none =>
   rw [hl] at hm
   simp [T, xf_ledger_Ledger_Would, h1, hk, hm, hz]
  | some v =>
   rw [hl] at hm
   simp [T, xf_ledger_Ledger_Would, h1, hk, hm, hz]
def doL (L : List (Int × ByteArray)) (nx : Int) (o : LOp) : List (Int × ByteArray) := if (wouldR L nx o).code = 1 then ((wouldR L nx o).slot, (wouldR L nx o).value) :: L else L
def doN (L : List (Int × ByteArray)) (nx : Int) (o : LOp) : Int := if (wouldR L nx o).code = 1 then max nx ((wouldR L nx o).slot + 1) else nx
theorem would_slot {L : List (Int × ByteArray)} {nx : Int} {o : LOp} (h : opErr o = 0) (hx : 0 ≤ nx ∧ nx ≤ 1024) (hc : (wouldR L nx o).code = 1) : 0 ≤ (wouldR L nx o).slot ∧ (wouldR L nx o).slot < 1024 := by
 have := op_cases h
 unfold wouldR at hc ⊢
 split
 ·split <;> (simp only; omega)
 ·rename_i h1
  rw [if_neg h1] at hc
  split
  ·rename_i h2
   rw [if_pos h2] at hc
   split
   ·simp
   ·simp only; omega
  ·rename_i h2
   rw [if_neg h2] at hc
   split
   ·rename_i h3
    rw [if_pos h3] at hc
    split <;> (simp only; omega)
   ·rename_i h3
    rw [if_neg h3] at hc
    simp at hc
theorem e_ledger_Do (L : List (Int × ByteArray)) (k : Int) (o : LOp) (h : opErr o = 0) (hk : 0 ≤ k ∧ k ≤ 1024) (hL : L.length ≤ 100000) : runFn T n (d + 3) 114 [.ptr 0 0, .dat (encOp o)] (ledH L k) = some (avR (wouldR L k o), ledH (doL L k o) (doN L k o)) := by
 have h1 := e_ledger_Would (n := n) (d := d) L k o h
 rw [runFn_succ]
 unfold doL doN
 have hs := would_slot (L := L) h hk
 generalize wouldR L k o = r at *
 by_cases hc : r.code = 1
 ·have h2 := e_ledger_put (n := n) (d := d + 1) L k r.slot r.value (by have := hs hc; omega) hL
  simp [T, xf_ledger_Ledger_Do, h1, h2, hc]
 ·simp [T, xf_ledger_Ledger_Do, h1, hc]
end Go.Ax
namespace Go.Ax
set_option linter.all false
variable {n d : Nat}
set_option maxRecDepth 10000
set_option maxHeartbeats 4000000
theorem e_client_entry (c k : Int) (h : 0 ≤ c ∧ c < 16 ∧ 1 ≤ k) : runFn T n (d + 1) 112 [.dat (di c), .dat (di k)] [] = some (.dat (di 0), []) := by
 have h1 : ¬ c < 0 := by omega
 have h2 : ¬ 16 ≤ c := by omega
 have h3 : ¬ k < 1 := by omega
 rw [runFn_succ]
 simp [T, xf_client_entry, h1, h2, h3]
theorem entErr_of_log : ∀ (p r pre : List Ent) (v : Ent), logErr1 pre (p ++ v :: r) = 0 → entErr (pre ++ p) v = 0
 | [], r, pre, v, h => by
  simp only [List.nil_append, logErr1, List.append_nil] at h ⊢
  by_cases he : entErr pre v = 0
  ·exact he
  ·rw [if_pos he] at h; exact absurd h he
 | x :: p, r, pre, v, h => by
  simp only [List.cons_append, logErr1] at h
  by_cases he : entErr pre x = 0
  ·simp only [he, ne_eq, not_true_eq_false, if_false] at h
   have := entErr_of_log p r (pre ++ [x]) v h
   simpa using this
  ·rw [if_pos he] at h; exact absurd h he
theorem ent_ok {pre : List Ent} {v : Ent} (h : entErr pre v = 0) : 0 ≤ v.client ∧ v.client < 16 ∧ 1 ≤ v.number ∧ opErr v.op = 0 ∧ ∀ x ∈ pre, x.client = v.client → x.number < v.number := by
 unfold entErr at h
 by_cases h1 : entErr1 v = 0
 ·rw [if_neg (by simp [h1])] at h
  have h2 : ¬ ∃ x ∈ pre, x.client = v.client ∧ v.number ≤ x.number := by
   intro hx
   rw [if_pos hx] at h
   cases h
  unfold entErr1 at h1
  by_cases a : v.client < 0 ∨ 16 ≤ v.client
  ·rw [if_pos a] at h1; cases h1
  ·rw [if_neg a] at h1
   by_cases b : v.number < 1
   ·rw [if_pos b] at h1; cases h1
   ·rw [if_neg b] at h1
    refine ⟨by omega, by omega, by omega, h1, fun x hx hc => ?_⟩
    by_cases hl : v.number ≤ x.number
    ·exact absurd ⟨x, hx, hc, hl⟩ h2
    ·omega
 ·rw [if_pos h1] at h; exact absurd h h1
def chk (p : List Ent) : List (Int × Dat) := p.foldl (fun a e => (e.client, di e.number) :: a) []
theorem chk_look (c : Int) (v : Int) (hv : 1 ≤ v) : ∀ (p : List Ent) (a : List (Int × Dat)), (∃ k, (mlook a c).getD (di 0) = di k ∧ k < v) → (∀ x ∈ p, x.client = c → x.number < v) → ∃ k, (mlook (p.foldl (fun a e => (e.client, di e.number) :: a) a) c).getD (di 0) = di k ∧ k < v
 | [], a, h, _ => h
 | x :: p, a, h, hp => by
  refine chk_look c v hv p _ ?_ (fun y hy => hp y (by simp [hy]))
  simp only [mlook]
  by_cases hx : x.client = c
  ·rw [if_pos hx]
   exact ⟨x.number, rfl, hp x (by simp) hx⟩
  ·rw [if_neg hx]
   exact h
theorem chk_len (p : List Ent) : (chk p).length = p.length := by
 have : ∀ (p : List Ent) (a : List (Int × Dat)), (p.foldl (fun a e => (e.client, di e.number) :: a) a).length = a.length + p.length := by
  intro p
  induction p with
  | nil => intro a; rfl
  | cons x r ih => intro a; simp only [List.foldl_cons, ih, List.length_cons]; omega
 have := this p []
 simpa [chk] using this
theorem chk_snoc (p : List Ent) (v : Ent) : chk (p ++ [v]) = (v.client, di v.number) :: chk p := by simp [chk]
def S_chk (l p : List Ent) : St := ⟨[(3, .mref 0), (12, .dat (encLog l)), (13, .dat (di l.length)), (14, .dat (di p.length))], [.mp (chk p)]⟩
theorem e_client_check (l : List Ent) (hl : l.length ≤ 256) (h : logErr1 [] l = 0) (hn : 1048577 < n) : runFn T n (d + 2) 78 [.dat (encLog l)] [] = some (.dat (di 0), []) := by
 have h0 : loopAt (XCode.run (runFn T n (d + 1)) n 0 xf_client_check_b0) (headOf 0 xf_client_check_k0) n (S_chk l []) = some (.exit 0, ⟨[], [.mp (chk l)]⟩) := by
  refine loop_pre (S_chk l) l _ (fun p v r hl' => ?_) ?_ (fun s h => by simp at h) n (by omega)
  ·have hx : (p.length : Int) < p.length + (r.length + 1) := by omega
   have hp : p.length ≤ 256 := by have : l.length = p.length + (r.length + 1) := (by simp [hl']); omega
   have hw := wrap_i p.length (by omega)
   have hL : (chk p).length ≤ LIM := by rw [chk_len]; simp only [LIM]; omega
   have he := entErr_of_log p r [] v (by rw [← hl']; exact h)
   obtain ⟨q1, q2, q3, q4, q5⟩ := ent_ok he
   obtain ⟨k, hk, hkv⟩ := chk_look v.client v.number q3 p [] ⟨0, rfl, by omega⟩ q5
   have e1 := e_client_entry (n := n) (d := d) v.client v.number ⟨q1, q2, q3⟩
   have e2 := e_ledger_Check (n := n) (d := d) v.op
   rw [q4] at e2
   have hk' : (mlook (chk p) v.client).getD (di 0) = di k := hk
   have hkv' : ¬ v.number ≤ k := by omega
   have hc : -9223372036854775808 ≤ v.client ∧ v.client ≤ 9223372036854775807 := by omega
   simp at hw
   simp only [S_chk, chk_snoc]
   generalize chk p = M at *
   simp [xf_client_check_b0, xf_client_check_k0, hl', hx, hw, hL, e1, e2, hk', hkv', hc]
  ·simp [xf_client_check_b0, S_chk]
 simp [S_chk, xf_client_check_k0, chk] at h0
 have hl' : ¬ (256 : Int) < l.length := by omega
 rw [runFn_succ]
 simp [T, xf_client_check, xf_client_check_k0, h0, hl']
structure Led where
 rows : List Row
 L : List (Int × ByteArray)
 nx : Int
def stepR (a : Led) (e : Ent) : Led := ⟨a.rows ++ [⟨e.client, e.number, a.rows.length + 1, true, wouldR a.L a.nx e.op⟩], doL a.L a.nx e.op, doN a.L a.nx e.op⟩
def ledS (p : List Ent) : Led := p.foldl stepR ⟨[], [], 0⟩
theorem ledS_snoc (p : List Ent) (v : Ent) : ledS (p ++ [v]) = stepR (ledS p) v := by simp [ledS]
structure LedOk (k : Nat) (a : Led) : Prop where
 rows : a.rows.length = k
 len : a.L.length ≤ k
 nx : 0 ≤ a.nx ∧ a.nx ≤ 1024
theorem LedOk.step {k : Nat} {a : Led} {e : Ent} (h : LedOk k a) (he : opErr e.op = 0) : LedOk (k + 1) (stepR a e) := by
 obtain ⟨h1, h2, h3⟩ := h
 refine ⟨by simp [stepR, h1], ?_, ?_⟩
 ·simp only [stepR, doL]
  split
  ·simp only [List.length_cons]; omega
  ·omega
 ·simp only [stepR, doN]
  split
  ·rename_i hc
   have := would_slot he h3 hc
   omega
  ·exact h3
theorem ledS_ok : ∀ (r p pre : List Ent), logErr1 pre (p ++ r) = 0 → LedOk p.length (ledS p) := by
 have key : ∀ (p : List Ent) (k : Nat) (a : Led), LedOk k a → (∀ x ∈ p, opErr x.op = 0) → LedOk (k + p.length) (p.foldl stepR a) := by
  intro p
  induction p with
  | nil => intro k a h _; exact h
  | cons x r ih =>
   intro k a h hp
   have := ih (k + 1) (stepR a x) (h.step (hp x (by simp))) (fun y hy => hp y (by simp [hy]))
   simpa [Nat.add_assoc, Nat.add_comm 1] using this
 intro r p pre h
 have := key p 0 ⟨[], [], 0⟩ ⟨rfl, by simp, by decide⟩ (fun x hx => by
  obtain ⟨A, B, rfl⟩ := List.append_of_mem hx
  have := entErr_of_log A (B ++ r) pre x (by simpa using h)
  exact (ent_ok this).2.2.2.1)
 simpa [ledS] using this
abbrev arrR (l : List Row) : Blk := .arr 105 7 true false (l.map encRow)
def S_rows (q p : List Ent) : St := ⟨[(5, .own 0 0 (ledS p).rows.length), (6, .ptr 1 0), (12, .dat (encLog q)), (13, .dat (di q.length)), (14, .dat (di p.length))], [arrR (ledS p).rows, .box [.mref 2, .dat (di (ledS p).nx)], .mp (encLd (ledS p).L)]⟩
theorem e_client_rows (q r : List Ent) (hl : (q ++ r).length ≤ 256) (h : logErr1 [] (q ++ r) = 0) (hn : 1048577 < n) : runFn T n (d + 4) 79 [.dat (encLog (q ++ r)), .dat (di q.length)] [] = some (.dat (encRows (ledS q).rows), []) := by
 have hql : q.length ≤ 256 := by simp at hl; omega
 have h0 : loopAt (XCode.run (runFn T n (d + 3)) n 0 xf_client_rows_b0) (headOf 0 xf_client_rows_k0) n (S_rows q []) = some (.exit 0, ⟨[(5, .own 0 0 (ledS q).rows.length)], (S_rows q q).H⟩) := by
  refine loop_pre (S_rows q) q _ (fun p v r' hl' => ?_) ?_ (fun s h => by simp at h) n (by omega)
  ·have hx : (p.length : Int) < p.length + (r'.length + 1) := by omega
   have hp : p.length ≤ 256 := by have : q.length = p.length + (r'.length + 1) := (by simp [hl']); omega
   have hw := wrap_i p.length (by omega)
   have ho := ledS_ok (v :: r' ++ r) p [] (by rw [← List.append_assoc, ← hl']; exact h)
   have hqe : p ++ v :: (r' ++ r) = q ++ r := by rw [hl']; simp
   have he := (ent_ok (entErr_of_log p (r' ++ r) [] v (by rw [hqe]; exact h))).2.2.2.1
   have hL : p.length + 1 ≤ LIM := by simp only [LIM]; omega
   have e1 := e_ledger_Do (n := n) (d := d) (ledS p).L (ledS p).nx v.op he ho.nx (by have := ho.len; omega)
   have hr := ho.rows
   simp only [S_rows, ledS_snoc, stepR]
   generalize ledS p = A at *
   simp at hw
   simp [xf_client_rows_b0, xf_client_rows_k0, hl', hx, hw, hL, e1, hr]
  ·simp [xf_client_rows_b0, S_rows]
 have hz : ledS [] = ⟨[], [], 0⟩ := rfl
 simp [S_rows, xf_client_rows_k0, hz, arrR, encLog] at h0
 have h1 := e_ledger_New (n := n) (d := d + 2)
 have h2 : (q.length : Int) ≤ q.length + r.length := by omega
 rw [runFn_succ]
 simp [T, xf_client_rows, xf_client_rows_k0, h0, h1, h2]
end Go.Ax
namespace Go.Ax
set_option linter.all false
variable {n d : Nat}
set_option maxRecDepth 10000
set_option maxHeartbeats 4000000
abbrev Cell := Int × ByteArray
def putG (c : Cell) (a : List Cell × Bool) (x : Cell) : List Cell × Bool := if a.2 = false ∧ c.1 < x.1 then (a.1 ++ [c, x], true) else (a.1 ++ [x], a.2)
def putC (l : List Cell) (c : Cell) : List Cell := if (l.foldl (putG c) ([], false)).2 then (l.foldl (putG c) ([], false)).1 else (l.foldl (putG c) ([], false)).1 ++ [c]
def maxG (s : Int) (x : Cell) : Int := if s ≤ x.1 then x.1 + 1 else s
def maxS (l : List Cell) : Int := l.foldl maxG 0
def refDo (l : List Cell) (o : LOp) : List Cell × Res :=
 if o.kind = 1 then (match lookL l o.slot with | some v => (l, ⟨2, o.slot, v⟩) | none => (putC l (o.slot, o.value), ⟨1, o.slot, o.value⟩))
 else if o.kind = 2 then (if 1024 ≤ maxS l then (l, ⟨3, 0, ByteArray.empty⟩) else (putC l (maxS l, o.value), ⟨1, maxS l, o.value⟩))
 else if o.kind = 3 then (match lookL l o.slot with | some v => (l, ⟨4, o.slot, v⟩) | none => (l, ⟨5, o.slot, ByteArray.empty⟩))
 else (l, ⟨6, l.length, ByteArray.empty⟩)
end Go.Ax
namespace Go.Ax
set_option linter.all false
variable {n d : Nat}
set_option maxRecDepth 10000
set_option maxHeartbeats 4000000
theorem putC_split (l : List Cell) (c : Cell) : ∃ X Y, l = X ++ Y ∧ putC l c = X ++ c :: Y := by
 have key : ∀ (l : List Cell) (o : List Cell), (∃ X Y, l = X ++ Y ∧ (l.foldl (putG c) (o, false)) = (o ++ X ++ c :: Y, true)) ∨ l.foldl (putG c) (o, false) = (o ++ l, false) := by
  have done : ∀ (l o : List Cell), l.foldl (putG c) (o, true) = (o ++ l, true) := by
   intro l
   induction l with
   | nil => intro o; simp
   | cons x r ih => intro o; simp [putG, ih]
  intro l
  induction l with
  | nil => intro o; right; simp
  | cons x r ih =>
   intro o
   by_cases hc : c.1 < x.1
   ·left
    refine ⟨[], x :: r, rfl, ?_⟩
    simp [putG, hc, done]
   ·have hs : putG c (o, false) x = (o ++ [x], false) := by simp [putG, hc]
    rw [List.foldl_cons, hs]
    rcases ih (o ++ [x]) with ⟨X, Y, h1, h2⟩ | h
    ·left; exact ⟨x :: X, Y, by rw [h1]; rfl, by rw [h2]; simp⟩
    ·right; rw [h]; simp
 unfold putC
 rcases key l [] with ⟨X, Y, h1, h2⟩ | h
 ·exact ⟨X, Y, h1, by rw [h2]; simp⟩
 ·exact ⟨l, [], by simp, by rw [h]; simp⟩
theorem look_append : ∀ (X Y : List Cell) (k : Int), lookL (X ++ Y) k = (lookL X k).or (lookL Y k)
 | [], _, _ => by simp [lookL]
 | (a, v) :: r, Y, k => by
  simp only [List.cons_append, lookL]
  by_cases h : a = k
  ·simp [h]
  ·simp [h, look_append r Y k]
theorem maxG_max (s : Int) (x : Cell) : maxG s x = max s (x.1 + 1) := by unfold maxG; split <;> omega
theorem maxS_from : ∀ (l : List Cell) (s t : Int), l.foldl maxG (max s t) = max (l.foldl maxG s) t
 | [], _, _ => rfl
 | x :: r, s, t => by
  simp only [List.foldl_cons, maxG_max]
  rw [show max (max s t) (x.1 + 1) = max (max s (x.1 + 1)) t by omega]
  exact maxS_from r _ t
theorem maxS_above : ∀ (l : List Cell) (s : Int), s ≤ l.foldl maxG s ∧ ∀ x ∈ l, x.1 < l.foldl maxG s
 | [], s => ⟨Int.le_refl _, by simp⟩
 | x :: r, s => by
  obtain ⟨h1, h2⟩ := maxS_above r (maxG s x)
  simp only [List.foldl_cons]
  rw [maxG_max] at h1 h2 ⊢
  refine ⟨by omega, fun y hy => ?_⟩
  rcases List.mem_cons.1 hy with rfl | hy
  ·omega
  ·exact h2 y hy
theorem look_none : ∀ (l : List Cell) (k : Int), (∀ x ∈ l, x.1 ≠ k) → lookL l k = none
 | [], _, _ => rfl
 | (a, v) :: r, k, h => by
  simp only [lookL]
  rw [if_neg (h (a, v) (by simp))]
  exact look_none r k (fun x hx => h x (by simp [hx]))
structure RelC (A : List Cell) (nx : Int) (cs : List Cell) : Prop where
 look : ∀ k, lookL cs k = lookL A k
 len : cs.length = countL A
 mx : maxS cs = nx
 bnd : ∀ x ∈ cs, 0 ≤ x.1 ∧ x.1 < 1024
theorem RelC.put {A cs : List Cell} {nx k : Int} {v : ByteArray} (h : RelC A nx cs) (hk : 0 ≤ k ∧ k < 1024) (hl : lookL A k = none) : RelC ((k, v) :: A) (max nx (k + 1)) (putC cs (k, v)) := by
 obtain ⟨X, Y, rfl, hp⟩ := putC_split cs (k, v)
 have hl' := h.look k
 rw [hl, look_append] at hl'
 rw [hp]
 refine ⟨fun j => ?_, ?_, ?_, fun x hx => ?_⟩
 ·have := h.look j
  rw [look_append] at this
  rw [look_append]
  simp only [lookL]
  by_cases hj : k = j
  ·subst hj
   rw [if_pos rfl, if_pos rfl]
   cases hX : lookL X k with
   | none => rfl
   | some w => rw [hX] at hl'; simp at hl'
  ·rw [if_neg hj, if_neg hj]
   exact this
 ·have := h.len
  have hm := mlook_enc A k
  rw [hl] at hm
  simp only [List.length_append, List.length_cons, countL, encLd, List.map_cons, mcount] at this hm ⊢
  rw [hm]
  simp
  omega
 ·have := h.mx
  unfold maxS at this ⊢
  rw [List.foldl_append] at this ⊢
  rw [List.foldl_cons, maxG_max, maxS_from, this]
 ·rcases List.mem_append.1 hx with hx | hx
  ·exact h.bnd x (List.mem_append.2 (.inl hx))
  ·rcases List.mem_cons.1 hx with rfl | hx
   ·exact hk
   ·exact h.bnd x (List.mem_append.2 (.inr hx))
theorem RelC.step {A cs : List Cell} {nx : Int} {o : LOp} (h : RelC A nx cs) (ho : opErr o = 0) (hn : 0 ≤ nx ∧ nx ≤ 1024) : (refDo cs o).2 = wouldR A nx o ∧ RelC (doL A nx o) (doN A nx o) (refDo cs o).1 := by
 have hc := op_cases ho
 unfold doL doN refDo wouldR
 rw [h.look, h.mx, h.len]
 by_cases k1 : o.kind = 1
 ·simp only [k1, if_true]
  cases hl : lookL A o.slot with
  | none => exact ⟨by simp, by simp only [if_true]; exact h.put (by omega) hl⟩
  | some v => exact ⟨by simp, by simp; exact h⟩
 ·simp only [k1, if_false]
  by_cases k2 : o.kind = 2
  ·simp only [k2, if_true]
   by_cases hf : nx = 1024
   ·simp only [hf, if_true, Int.le_refl]
    exact ⟨by simp, by simp; rw [← hf]; exact h⟩
   ·have : ¬ 1024 ≤ nx := by omega
    simp only [hf, if_false, this, if_true]
    refine ⟨trivial, h.put (by omega) ?_⟩
    rw [← h.look]
    refine look_none cs nx (fun x hx => ?_)
    have := (maxS_above cs 0).2 x hx
    have hm := h.mx
    unfold maxS at hm
    omega
  ·simp only [k2, if_false]
   by_cases k3 : o.kind = 3
   ·simp only [k3, if_true]
    cases hl : lookL A o.slot with
    | none => exact ⟨by simp, by simp; exact h⟩
    | some v => exact ⟨by simp, by simp; exact h⟩
   ·simp only [k3, if_false]
    exact ⟨trivial, by simp; exact h⟩
def stepC (a : List Cell × List Res) (o : LOp) : List Cell × List Res := ((refDo a.1 o).1, a.2 ++ [(refDo a.1 o).2])
structure RepOk (a : Led) (b : List Cell × List Res) : Prop where
 rel : RelC a.L a.nx b.1
 res : a.rows.map (·.result) = b.2
theorem RepOk.step {k : Nat} {a : Led} {b : List Cell × List Res} {e : Ent} (h : RepOk a b) (ho : LedOk k a) (he : opErr e.op = 0) : RepOk (stepR a e) (stepC b e.op) := by
 obtain ⟨h1, h2⟩ := h.rel.step he ho.nx
 refine ⟨h2, ?_⟩
 simp only [stepR, stepC, List.map_append, List.map_cons, List.map_nil, h.res, h1]
end Go.Ax
namespace Go.Ax
set_option linter.all false
variable {n d : Nat}
set_option maxRecDepth 10000
set_option maxHeartbeats 4000000
theorem e_client_Between (q r : List Ent) (k : Nat) (hk : k ≤ q.length) (hl : (q ++ r).length ≤ 256) (h : logErr1 [] (q ++ r) = 0) (hn : 1048577 < n) :
  runFn T n (d + 5) 46 [.dat (encLog (q ++ r)), .dat (di k), .dat (di q.length)] [] = some (.tup [.dat (encRows ((ledS q).rows.drop k)), .dat (di 0)], []) := by
 have h1 := e_client_check (n := n) (d := d + 2) (q ++ r) hl h hn
 have h2 := e_client_rows (n := n) (d := d) q r hl h hn
 have ho := ledS_ok r q [] h
 have hr := ho.rows
 have hlen : ((q ++ r).length : Int) = q.length + r.length := by simp
 have g1 : ¬ ((k : Int) < 0) := by omega
 have g2 : ¬ ((q.length : Int) + r.length < k) := by omega
 have g3 : ¬ ((q.length : Int) < 0) := by omega
 have g4 : ¬ ((q.length : Int) + r.length < q.length) := by omega
 have g5 : ¬ ((q.length : Int) < k) := by omega
 have g6 : (k : Int) ≤ q.length := by omega
 have hL : q.length - k ≤ LIM := by simp at hl; simp only [LIM]; omega
 rw [runFn_succ]
 generalize ledS q = A at *
 simp [T, xf_client_Between, h1, h2, g1, g2, g3, g4, g5, g6, hr, hL]
 rw [List.take_of_length_le (i := q.length) (by simp [hr]), List.take_of_length_le (by simp [hr])]
end Go.Ax
