/-
  The ledger.
-/
import Derived.Test.YticchmjgonkcjaaGreatDoorEA
namespace Go.Ax
attribute [simp] evalOp.eq_39
set_option linter.all false
variable {n d : Nat}
set_option maxRecDepth 10000
set_option maxHeartbeats 4000000
abbrev encLd (L : List (Int × ByteArray)) : List (Int × Dat) := L.map (fun x => (x.1, .agg [.str x.2]))
abbrev ledH (L : List (Int × ByteArray)) (k : Int) : List Blk := [.box [.mref 1, .dat (di k)], .mp (encLd L)]
abbrev avR (r : Res) : AV := .agg [.dat (di r.code), .dat (di r.slot), .dat (.str r.value)]
def lookL : List (Int × ByteArray) → Int → Option ByteArray
 | [], _ => none
 | (k, v) :: r, n => if k = n then some v else lookL r n
theorem mlook_enc (L : List (Int × ByteArray)) (k : Int) : mlook (encLd L) k = (lookL L k).map (fun v => .agg [.str v]) := by
 induction L with
 | nil => rfl
 | cons x r ih =>
  obtain ⟨a, v⟩ := x
  simp only [List.map_cons, mlook, lookL]
  split
  ·rfl
  ·exact ih
def countL (L : List (Int × ByteArray)) : Nat := mcount (encLd L)
theorem e_ledger_New : runFn T n (d + 1) 164 [] [] = some (.ptr 0 0, ledH [] 0) := by
 rw [runFn_succ]
 simp [T, xf_ledger_New]
theorem e_ledger_put (L : List (Int × ByteArray)) (k slot : Int) (v : ByteArray) (hs : 0 ≤ slot ∧ slot ≤ 2000) (hL : L.length ≤ 100000) : runFn T n (d + 1) 175 [.ptr 0 0, .dat (di slot), .dat (.str v)] (ledH L k) = some (.tup [], ledH ((slot, v) :: L) (max k (slot + 1))) := by
 have hw := wrap_small (x := slot + 1) (by omega)
 have h1 : -9223372036854775808 ≤ slot ∧ slot ≤ 9223372036854775807 := by omega
 rw [runFn_succ]
 have h2 : L.length ≤ LIM := by simp only [LIM]; omega
 have h3 : (if k < slot + 1 then slot + 1 else k) = max k (slot + 1) := by split <;> omega
 simp [T, xf_ledger_Ledger_put, hw, h1, h2, h3]
def wouldR (L : List (Int × ByteArray)) (nx : Int) (o : LOp) : Res :=
 if o.kind = 1 then (match lookL L o.slot with | some v => ⟨2, o.slot, v⟩ | none => ⟨1, o.slot, o.value⟩)
 else if o.kind = 2 then (if nx = 1024 then ⟨3, 0, ByteArray.empty⟩ else ⟨1, nx, o.value⟩)
 else if o.kind = 3 then (match lookL L o.slot with | some v => ⟨4, o.slot, v⟩ | none => ⟨5, o.slot, ByteArray.empty⟩)
 else ⟨6, countL L, ByteArray.empty⟩
theorem op_cases {o : LOp} (h : opErr o = 0) : (o.kind = 1 ∧ 0 ≤ o.slot ∧ o.slot < 1024) ∨ (o.kind = 2 ∧ o.slot = 0) ∨ (o.kind = 3 ∧ 0 ≤ o.slot ∧ o.slot < 1024) ∨ (o.kind = 4 ∧ o.slot = 0) := by
 unfold opErr at h
 split at h
 ·split at h
  ·omega
  ·split at h <;> omega
 ·split at h
  ·split at h
   ·omega
   ·split at h <;> omega
  ·omega
theorem e_ledger_Would (L : List (Int × ByteArray)) (k : Int) (o : LOp) (h : opErr o = 0) : runFn T n (d + 2) 174 [.ptr 0 0, .dat (encOp o)] (ledH L k) = some (avR (wouldR L k o), ledH L k) := by
 have h1 := e_ledger_Check (n := n) (d := d) o
 rw [h] at h1
 have hk : -9223372036854775808 ≤ o.slot ∧ o.slot ≤ 9223372036854775807 := by rcases op_cases h with h | h | h | h <;> omega
 have hz : ({ data := #[] } : ByteArray) = ByteArray.empty := rfl
 have hm := mlook_enc L o.slot
 have hc := op_cases h
 clear h
 unfold wouldR countL ledH
 generalize encLd L = M at *
 obtain ⟨kd, sl, vl⟩ := o
 simp only at h1 hk hm hc ⊢
 rw [runFn_succ]
 rcases hc with h | h | h | h
 ·obtain ⟨rfl, _⟩ := h
  cases hl : lookL L sl with
  | none =>
   rw [hl] at hm
   simp [T, xf_ledger_Ledger_Would, h1, hk, hm, hz]
  | some v =>
   rw [hl] at hm
   simp [T, xf_ledger_Ledger_Would, h1, hk, hm, hz]
 ·obtain ⟨rfl, _⟩ := h
  cases hl : lookL L sl with
  | none =>
   rw [hl] at hm
   simp [T, xf_ledger_Ledger_Would, h1, hk, hm, hz]
   split <;> simp_all
  | some v =>
   rw [hl] at hm
   simp [T, xf_ledger_Ledger_Would, h1, hk, hm, hz]
   split <;> simp_all
 ·obtain ⟨rfl, _⟩ := h
  cases hl : lookL L sl with
  | none =>
   rw [hl] at hm
   simp [T, xf_ledger_Ledger_Would, h1, hk, hm, hz]
  | some v =>
   rw [hl] at hm
   simp [T, xf_ledger_Ledger_Would, h1, hk, hm, hz]
 ·obtain ⟨rfl, _⟩ := h
  cases hl : lookL L sl with
  | none =>
   rw [hl] at hm
   simp [T, xf_ledger_Ledger_Would, h1, hk, hm, hz]
  | some v =>
   rw [hl] at hm
   simp [T, xf_ledger_Ledger_Would, h1, hk, hm, hz]
def doL (L : List (Int × ByteArray)) (nx : Int) (o : LOp) : List (Int × ByteArray) := if (wouldR L nx o).code = 1 then ((wouldR L nx o).slot, (wouldR L nx o).value) :: L else L
def doN (L : List (Int × ByteArray)) (nx : Int) (o : LOp) : Int := if (wouldR L nx o).code = 1 then max nx ((wouldR L nx o).slot + 1) else nx
theorem would_slot {L : List (Int × ByteArray)} {nx : Int} {o : LOp} (h : opErr o = 0) (hx : 0 ≤ nx ∧ nx ≤ 1024) (hc : (wouldR L nx o).code = 1) : 0 ≤ (wouldR L nx o).slot ∧ (wouldR L nx o).slot < 1024 := by
 have := op_cases h
 unfold wouldR at hc ⊢
 split
 ·split <;> (simp only; omega)
 ·rename_i h1
  rw [if_neg h1] at hc
  split
  ·rename_i h2
   rw [if_pos h2] at hc
   split
   ·simp
   ·simp only; omega
  ·rename_i h2
   rw [if_neg h2] at hc
   split
   ·rename_i h3
    rw [if_pos h3] at hc
    split <;> (simp only; omega)
   ·rename_i h3
    rw [if_neg h3] at hc
    simp at hc
theorem e_ledger_Do (L : List (Int × ByteArray)) (k : Int) (o : LOp) (h : opErr o = 0) (hk : 0 ≤ k ∧ k ≤ 1024) (hL : L.length ≤ 100000) : runFn T n (d + 3) 165 [.ptr 0 0, .dat (encOp o)] (ledH L k) = some (avR (wouldR L k o), ledH (doL L k o) (doN L k o)) := by
 have h1 := e_ledger_Would (n := n) (d := d) L k o h
 rw [runFn_succ]
 unfold doL doN
 have hs := would_slot (L := L) h hk
 generalize wouldR L k o = r at *
 by_cases hc : r.code = 1
 ·have h2 := e_ledger_put (n := n) (d := d + 1) L k r.slot r.value (by have := hs hc; omega) hL
  simp [T, xf_ledger_Ledger_Do, h1, h2, hc]
 ·simp [T, xf_ledger_Ledger_Do, h1, hc]
end Go.Ax
namespace Go.Ax
set_option linter.all false
variable {n d : Nat}
set_option maxRecDepth 10000
set_option maxHeartbeats 4000000
theorem e_client_entry (c k : Int) (h : 0 ≤ c ∧ c < 16 ∧ 1 ≤ k) : runFn T n (d + 1) 163 [.dat (di c), .dat (di k)] [] = some (.dat (di 0), []) := by
 have h1 : ¬ c < 0 := by omega
 have h2 : ¬ 16 ≤ c := by omega
 have h3 : ¬ k < 1 := by omega
 rw [runFn_succ]
 simp [T, xf_client_entry, h1, h2, h3]
theorem entErr_of_log : ∀ (p r pre : List Ent) (v : Ent), logErr1 pre (p ++ v :: r) = 0 → entErr (pre ++ p) v = 0
 | [], r, pre, v, h => by
  simp only [List.nil_append, logErr1, List.append_nil] at h ⊢
  by_cases he : entErr pre v = 0
  ·exact he
  ·rw [if_pos he] at h; exact absurd h he
 | x :: p, r, pre, v, h => by
  simp only [List.cons_append, logErr1] at h
  by_cases he : entErr pre x = 0
  ·simp only [he, ne_eq, not_true_eq_false, if_false] at h
   have := entErr_of_log p r (pre ++ [x]) v h
   simpa using this
  ·rw [if_pos he] at h; exact absurd h he
theorem ent_ok {pre : List Ent} {v : Ent} (h : entErr pre v = 0) : 0 ≤ v.client ∧ v.client < 16 ∧ 1 ≤ v.number ∧ opErr v.op = 0 ∧ ∀ x ∈ pre, x.client = v.client → x.number < v.number := by
 unfold entErr at h
 by_cases h1 : entErr1 v = 0
 ·rw [if_neg (by simp [h1])] at h
  have h2 : ¬ ∃ x ∈ pre, x.client = v.client ∧ v.number ≤ x.number := by
   intro hx
   rw [if_pos hx] at h
   cases h
  unfold entErr1 at h1
  by_cases a : v.client < 0 ∨ 16 ≤ v.client
  ·rw [if_pos a] at h1; cases h1
  ·rw [if_neg a] at h1
   by_cases b : v.number < 1
   ·rw [if_pos b] at h1; cases h1
   ·rw [if_neg b] at h1
    refine ⟨by omega, by omega, by omega, h1, fun x hx hc => ?_⟩
    by_cases hl : v.number ≤ x.number
    ·exact absurd ⟨x, hx, hc, hl⟩ h2
    ·omega
 ·rw [if_pos h1] at h; exact absurd h h1
def chk (p : List Ent) : List (Int × Dat) := p.foldl (fun a e => (e.client, di e.number) :: a) []
theorem chk_look (c : Int) (v : Int) (hv : 1 ≤ v) : ∀ (p : List Ent) (a : List (Int × Dat)), (∃ k, (mlook a c).getD (di 0) = di k ∧ k < v) → (∀ x ∈ p, x.client = c → x.number < v) → ∃ k, (mlook (p.foldl (fun a e => (e.client, di e.number) :: a) a) c).getD (di 0) = di k ∧ k < v
 | [], a, h, _ => h
 | x :: p, a, h, hp => by
  refine chk_look c v hv p _ ?_ (fun y hy => hp y (by simp [hy]))
  simp only [mlook]
  by_cases hx : x.client = c
  ·rw [if_pos hx]
   exact ⟨x.number, rfl, hp x (by simp) hx⟩
  ·rw [if_neg hx]
   exact h
theorem chk_len (p : List Ent) : (chk p).length = p.length := by
 have : ∀ (p : List Ent) (a : List (Int × Dat)), (p.foldl (fun a e => (e.client, di e.number) :: a) a).length = a.length + p.length := by
  intro p
  induction p with
  | nil => intro a; rfl
  | cons x r ih => intro a; simp only [List.foldl_cons, ih, List.length_cons]; omega
 have := this p []
 simpa [chk] using this
theorem chk_snoc (p : List Ent) (v : Ent) : chk (p ++ [v]) = (v.client, di v.number) :: chk p := by simp [chk]
def S_chk (l p : List Ent) : St := ⟨[(3, .mref 0), (12, .dat (encLog l)), (13, .dat (di l.length)), (14, .dat (di p.length))], [.mp (chk p)]⟩
theorem e_client_check (l : List Ent) (hl : l.length ≤ 256) (h : logErr1 [] l = 0) (hn : 1048577 < n) : runFn T n (d + 2) 119 [.dat (encLog l)] [] = some (.dat (di 0), []) := by
 have h0 : loopAt (XCode.run (runFn T n (d + 1)) n 0 xf_client_check_b0) (headOf 0 xf_client_check_k0) n (S_chk l []) = some (.exit 0, ⟨[], [.mp (chk l)]⟩) := by
  refine loop_pre (S_chk l) l _ (fun p v r hl' => ?_) ?_ (fun s h => by simp at h) n (by omega)
  ·have hx : (p.length : Int) < p.length + (r.length + 1) := by omega
   have hp : p.length ≤ 256 := by have : l.length = p.length + (r.length + 1) := (by simp [hl']); omega
   have hw := wrap_i p.length (by omega)
   have hL : (chk p).length ≤ LIM := by rw [chk_len]; simp only [LIM]; omega
   have he := entErr_of_log p r [] v (by rw [← hl']; exact h)
   obtain ⟨q1, q2, q3, q4, q5⟩ := ent_ok he
   obtain ⟨k, hk, hkv⟩ := chk_look v.client v.number q3 p [] ⟨0, rfl, by omega⟩ q5
   have e1 := e_client_entry (n := n) (d := d) v.client v.number ⟨q1, q2, q3⟩
   have e2 := e_ledger_Check (n := n) (d := d) v.op
   rw [q4] at e2
   have hk' : (mlook (chk p) v.client).getD (di 0) = di k := hk
   have hkv' : ¬ v.number ≤ k := by omega
   have hc : -9223372036854775808 ≤ v.client ∧ v.client ≤ 9223372036854775807 := by omega
   simp at hw
   simp only [S_chk, chk_snoc]
   generalize chk p = M at *
   simp [xf_client_check_b0, xf_client_check_k0, hl', hx, hw, hL, e1, e2, hk', hkv', hc]
  ·simp [xf_client_check_b0, S_chk]
 simp [S_chk, xf_client_check_k0, chk] at h0
 have hl' : ¬ (256 : Int) < l.length := by omega
 rw [runFn_succ]
 simp [T, xf_client_check, xf_client_check_k0, h0, hl']
structure Led where
 rows : List Row
 L : List (Int × ByteArray)
 nx : Int
def stepR (a : Led) (e : Ent) : Led := ⟨a.rows ++ [⟨e.client, e.number, a.rows.length + 1, true, wouldR a.L a.nx e.op⟩], doL a.L a.nx e.op, doN a.L a.nx e.op⟩
def ledS (p : List Ent) : Led := p.foldl stepR ⟨[], [], 0⟩
theorem ledS_snoc (p : List Ent) (v : Ent) : ledS (p ++ [v]) = stepR (ledS p) v := by simp [ledS]
structure LedOk (k : Nat) (a : Led) : Prop where
 rows : a.rows.length = k
 len : a.L.length ≤ k
 nx : 0 ≤ a.nx ∧ a.nx ≤ 1024
theorem LedOk.step {k : Nat} {a : Led} {e : Ent} (h : LedOk k a) (he : opErr e.op = 0) : LedOk (k + 1) (stepR a e) := by
 obtain ⟨h1, h2, h3⟩ := h
 refine ⟨by simp [stepR, h1], ?_, ?_⟩
 ·simp only [stepR, doL]
  split
  ·simp only [List.length_cons]; omega
  ·omega
 ·simp only [stepR, doN]
  split
  ·rename_i hc
   have := would_slot he h3 hc
   omega
  ·exact h3
theorem ledS_ok : ∀ (r p pre : List Ent), logErr1 pre (p ++ r) = 0 → LedOk p.length (ledS p) := by
 have key : ∀ (p : List Ent) (k : Nat) (a : Led), LedOk k a → (∀ x ∈ p, opErr x.op = 0) → LedOk (k + p.length) (p.foldl stepR a) := by
  intro p
  induction p with
  | nil => intro k a h _; exact h
  | cons x r ih =>
   intro k a h hp
   have := ih (k + 1) (stepR a x) (h.step (hp x (by simp))) (fun y hy => hp y (by simp [hy]))
   simpa [Nat.add_assoc, Nat.add_comm 1] using this
 intro r p pre h
 have := key p 0 ⟨[], [], 0⟩ ⟨rfl, by simp, by decide⟩ (fun x hx => by
  obtain ⟨A, B, rfl⟩ := List.append_of_mem hx
  have := entErr_of_log A (B ++ r) pre x (by simpa using h)
  exact (ent_ok this).2.2.2.1)
 simpa [ledS] using this
abbrev arrR (l : List Row) : Blk := .arr 141 7 true false (l.map encRow)
def S_rows (q p : List Ent) : St := ⟨[(5, .own 0 0 (ledS p).rows.length), (6, .ptr 1 0), (12, .dat (encLog q)), (13, .dat (di q.length)), (14, .dat (di p.length))], [arrR (ledS p).rows, .box [.mref 2, .dat (di (ledS p).nx)], .mp (encLd (ledS p).L)]⟩
theorem e_client_rows (q r : List Ent) (hl : (q ++ r).length ≤ 256) (h : logErr1 [] (q ++ r) = 0) (hn : 1048577 < n) : runFn T n (d + 4) 120 [.dat (encLog (q ++ r)), .dat (di q.length)] [] = some (.dat (encRows (ledS q).rows), []) := by
 have hql : q.length ≤ 256 := by simp at hl; omega
 have h0 : loopAt (XCode.run (runFn T n (d + 3)) n 0 xf_client_rows_b0) (headOf 0 xf_client_rows_k0) n (S_rows q []) = some (.exit 0, ⟨[(5, .own 0 0 (ledS q).rows.length)], (S_rows q q).H⟩) := by
  refine loop_pre (S_rows q) q _ (fun p v r' hl' => ?_) ?_ (fun s h => by simp at h) n (by omega)
  ·have hx : (p.length : Int) < p.length + (r'.length + 1) := by omega
   have hp : p.length ≤ 256 := by have : q.length = p.length + (r'.length + 1) := (by simp [hl']); omega
   have hw := wrap_i p.length (by omega)
   have ho := ledS_ok (v :: r' ++ r) p [] (by rw [← List.append_assoc, ← hl']; exact h)
   have hqe : p ++ v :: (r' ++ r) = q ++ r := by rw [hl']; simp
   have he := (ent_ok (entErr_of_log p (r' ++ r) [] v (by rw [hqe]; exact h))).2.2.2.1
   have hL : p.length + 1 ≤ LIM := by simp only [LIM]; omega
   have e1 := e_ledger_Do (n := n) (d := d) (ledS p).L (ledS p).nx v.op he ho.nx (by have := ho.len; omega)
   have hr := ho.rows
   simp only [S_rows, ledS_snoc, stepR]
   generalize ledS p = A at *
   simp at hw
   simp [xf_client_rows_b0, xf_client_rows_k0, hl', hx, hw, hL, e1, hr]
  ·simp [xf_client_rows_b0, S_rows]
 have hz : ledS [] = ⟨[], [], 0⟩ := rfl
 simp [S_rows, xf_client_rows_k0, hz, arrR, encLog] at h0
 have h1 := e_ledger_New (n := n) (d := d + 2)
 have h2 : (q.length : Int) ≤ q.length + r.length := by omega
 rw [runFn_succ]
 simp [T, xf_client_rows, xf_client_rows_k0, h0, h1, h2]
end Go.Ax
namespace Go.Ax
set_option linter.all false
variable {n d : Nat}
set_option maxRecDepth 10000
set_option maxHeartbeats 4000000
abbrev Cell := Int × ByteArray
abbrev encC (x : Cell) : Dat := .agg [di x.1, .str x.2]
abbrev encCs (l : List Cell) : Dat := .sl 2 true (l.map encC)
theorem look_find : ∀ (l : List Cell) (k : Int), lookL l k = (l.find? (fun x => decide (x.1 = k))).map (·.2)
 | [], _ => rfl
 | (a, v) :: r, k => by
  simp only [lookL, List.find?_cons]
  by_cases h : a = k
  ·simp [h]
  ·simp [h, look_find r k]
def S_get (l : List Cell) (k : Int) (i : Nat) : St := ⟨[(0, .dat (encCs l)), (1, .dat (di k)), (6, .dat (di i))], []⟩
theorem e_ref04_Get (l : List Cell) (k : Int) (hl : l.length ≤ 1048577) (hn : 1048577 < n) : runFn T n (d + 1) 178 [.dat (encCs l), .dat (di k)] [] = some (.tup [.dat (.str ((lookL l k).getD ByteArray.empty)), .dat (.bool (lookL l k).isSome)], []) := by
 have h0 : loopAt (XCode.run (runFn T n d) n 0 xf_ref04_Get_b0) (headOf 0 xf_ref04_Get_k0) n (S_get l k 0) = some ((l.find? (fun x => decide (x.1 = k))).elim (.exit 0, ⟨[], []⟩) (fun x => (.ret, ⟨[(4, .dat (.str x.2)), (5, .dat (.bool true))], []⟩))) := by
  refine loop_find (S_get l k) l (fun x => decide (x.1 = k)) (fun x => (.ret, ⟨[(4, .dat (.str x.2)), (5, .dat (.bool true))], []⟩)) (.exit 0, ⟨[], []⟩) (fun i hi hp => ?_) (fun i hi hp => ?_) ?_ (fun x s h => by simp at h) (fun s h => by simp at h) n (by omega)
  ·have hi' : (i : Int) < l.length := by omega
   have hp' : l[i].1 = k := by simpa using hp
   simp [xf_ref04_Get_b0, S_get, hi, hi', hp']
  ·have hi' : (i : Int) < l.length := by omega
   have hw := wrap_i i (by omega)
   have hp' : ¬ l[i].1 = k := by simpa using hp
   refine ⟨S_get l k (i + 1), ?_, by simp [xf_ref04_Get_k0, S_get]⟩
   simp [xf_ref04_Get_b0, S_get, hi, hi', hp', hw]
  ·simp [xf_ref04_Get_b0, S_get]
 simp [S_get, xf_ref04_Get_k0] at h0
 rw [look_find, runFn_succ]
 have hz : ({ data := #[] } : ByteArray) = ByteArray.empty := rfl
 cases hf : l.find? (fun x => decide (x.1 = k)) with
 | none =>
  rw [hf] at h0
  simp at h0
  simp [T, xf_ref04_Get, xf_ref04_Get_k0, h0, hz]
 | some x =>
  rw [hf] at h0
  simp at h0
  simp [T, xf_ref04_Get, xf_ref04_Get_k0, h0, hz]
def putG (c : Cell) (a : List Cell × Bool) (x : Cell) : List Cell × Bool := if a.2 = false ∧ c.1 < x.1 then (a.1 ++ [c, x], true) else (a.1 ++ [x], a.2)
def notYet (b : Bool) : Nat := if b then 0 else 1
theorem putG_len (c : Cell) : ∀ (l : List Cell) (a : List Cell × Bool), (l.foldl (putG c) a).1.length + notYet (l.foldl (putG c) a).2 ≤ a.1.length + l.length + notYet a.2
 | [], a => by simp
 | x :: r, a => by
  have h := putG_len c r (putG c a x)
  have h1 : (putG c a x).1.length + notYet (putG c a x).2 ≤ a.1.length + 1 + notYet a.2 := by
   obtain ⟨o, b⟩ := a
   unfold putG
   cases b <;> by_cases hc : c.1 < x.1 <;> simp [hc, notYet]
  simp only [List.foldl_cons, List.length_cons]
  omega
def putC (l : List Cell) (c : Cell) : List Cell := if (l.foldl (putG c) ([], false)).2 then (l.foldl (putG c) ([], false)).1 else (l.foldl (putG c) ([], false)).1 ++ [c]
abbrev arrC (l : List Cell) : Blk := .arr 279 2 true false (l.map encC)
def S_put (l : List Cell) (c : Cell) (i : Nat) (a : List Cell × Bool) : St := ⟨[(0, .dat (encCs l)), (3, .ptr 0 0), (5, .own 1 0 a.1.length), (6, .dat (.bool a.2)), (7, .dat (di i))], [.box [.dat (di c.1), .dat (.str c.2)], arrC a.1]⟩
theorem e_ref04_put (l : List Cell) (c : Cell) (hl : l.length ≤ 1048577) (hn : 1048577 < n) : runFn T n (d + 1) 179 [.dat (encCs l), .dat (encC c)] [] = some (.dat (encCs (putC l c)), []) := by
 have h0 : loopAt (XCode.run (runFn T n d) n 0 xf_ref04_put_b0) (headOf 0 xf_ref04_put_k0) n (S_put l c 0 ([], false)) = some ((fun a => (.exit 0, ⟨[(3, .ptr 0 0), (5, .own 1 0 a.1.length), (6, .dat (.bool a.2))], (S_put l c 0 a).H⟩)) (l.foldl (putG c) ([], false))) ∧ (l.foldl (putG c) ([], false)).1.length ≤ l.length + 1 := by
  refine ⟨?_, ?_⟩
  ·refine loop_fold (S_put l c) (fun i a => a.1.length ≤ i + (if a.2 then 1 else 0)) l (putG c) (fun a => (.exit 0, ⟨[(3, .ptr 0 0), (5, .own 1 0 a.1.length), (6, .dat (.bool a.2))], (S_put l c 0 a).H⟩)) ([], false) (by simp) (fun i a hi hI => ?_) (fun a _ => ?_) (fun a s h => by simp at h) n (by omega)
   ·have hi' : (i : Int) < l.length := by omega
    have hw := wrap_i i (by omega)
    obtain ⟨o, b⟩ := a
    simp only at hI
    have hL : o.length + 1 ≤ LIM := by simp only [LIM]; split at hI <;> omega
    have hL2 : o.length + 2 ≤ LIM := by simp only [LIM]; split at hI <;> omega
    have hL3 : o.length + 1 + 1 ≤ LIM := hL2
    cases b
    ·by_cases hc : c.1 < l[i].1
     ·refine ⟨by simp [putG, hc] at hI ⊢; omega, nextK_some ?_⟩
      simp [xf_ref04_put_b0, xf_ref04_put_k0, S_put, putG, hi, hi', hw, hL, hL2, hL3, hc]
     ·refine ⟨by simp [putG, hc] at hI ⊢; omega, nextK_some ?_⟩
      simp [xf_ref04_put_b0, xf_ref04_put_k0, S_put, putG, hi, hi', hw, hL, hL2, hL3, hc]
    ·refine ⟨by simp [putG] at hI ⊢; omega, nextK_some ?_⟩
     simp [xf_ref04_put_b0, xf_ref04_put_k0, S_put, putG, hi, hi', hw, hL, hL2, hL3]
   ·simp [xf_ref04_put_b0, S_put]
  ·have := putG_len c l ([], false)
   simp [notYet] at this
   omega
 obtain ⟨h0, hlen⟩ := h0
 simp [S_put, xf_ref04_put_k0, arrC] at h0
 unfold putC
 generalize l.foldl (putG c) ([], false) = A at *
 obtain ⟨o, b⟩ := A
 simp only at *
 have hL : o.length + 1 ≤ LIM := by simp only [LIM]; omega
 rw [runFn_succ]
 cases b
 ·simp [T, xf_ref04_put, xf_ref04_put_k0, h0, hL]
  rw [List.take_of_length_le (by simp)]
 ·simp [T, xf_ref04_put, xf_ref04_put_k0, h0, hL]
def maxG (s : Int) (x : Cell) : Int := if s ≤ x.1 then x.1 + 1 else s
def maxS (l : List Cell) : Int := l.foldl maxG 0
def refDo (l : List Cell) (o : LOp) : List Cell × Res :=
 if o.kind = 1 then (match lookL l o.slot with | some v => (l, ⟨2, o.slot, v⟩) | none => (putC l (o.slot, o.value), ⟨1, o.slot, o.value⟩))
 else if o.kind = 2 then (if 1024 ≤ maxS l then (l, ⟨3, 0, ByteArray.empty⟩) else (putC l (maxS l, o.value), ⟨1, maxS l, o.value⟩))
 else if o.kind = 3 then (match lookL l o.slot with | some v => (l, ⟨4, o.slot, v⟩) | none => (l, ⟨5, o.slot, ByteArray.empty⟩))
 else (l, ⟨6, l.length, ByteArray.empty⟩)
def S_do (l : List Cell) (o : LOp) (i : Nat) (s : Int) : St := ⟨[(0, .dat (encCs l)), (3, .ptr 0 0), (5, .ptr 1 0), (8, .dat (di s)), (9, .dat (di i))], [.box [.dat (di o.kind), .dat (di o.slot), .dat (.str o.value)], .box [.dat (di 0), .dat (di 0), .dat (.str ByteArray.empty)]]⟩
theorem l_ref04_Do (cf : CallF) (l : List Cell) (o : LOp) (hl : l.length ≤ 1048577) (hb : ∀ x ∈ l, 0 ≤ x.1 ∧ x.1 < 1024) (hn : 1048577 < n) : loopAt (XCode.run cf n 0 xf_ref04_Do_b0) (headOf 0 xf_ref04_Do_k0) n (S_do l o 0 0) = some (.exit 1, ⟨[(0, .dat (encCs l)), (3, .ptr 0 0), (5, .ptr 1 0), (8, .dat (di (maxS l)))], (S_do l o 0 0).H⟩) := by
 refine loop_fold (S_do l o) (fun _ _ => True) l maxG (fun s => (.exit 1, ⟨[(0, .dat (encCs l)), (3, .ptr 0 0), (5, .ptr 1 0), (8, .dat (di s))], (S_do l o 0 0).H⟩)) 0 trivial (fun i s hi _ => ?_) (fun a _ => ?_) (fun a s h => by simp at h) n (by omega)
 ·have hi' : (i : Int) < l.length := by omega
  have hw := wrap_i i (by omega)
  have hx := hb l[i] (List.getElem_mem hi)
  have hw2 := wrap_small (x := l[i].1 + 1) (by omega)
  refine ⟨trivial, nextK_some ?_⟩
  unfold maxG
  by_cases hc : s ≤ l[i].1 <;> simp [xf_ref04_Do_b0, xf_ref04_Do_k0, S_do, hi, hi', hw, hw2, hc]
 ·simp [xf_ref04_Do_b0, S_do]
theorem e_ref04_Do (l : List Cell) (o : LOp) (h : opErr o = 0) (hl : l.length ≤ 1048577) (hb : ∀ x ∈ l, 0 ≤ x.1 ∧ x.1 < 1024) (hn : 1048577 < n) : runFn T n (d + 2) 177 [.dat (encCs l), .dat (encOp o)] [] = some (.tup [.dat (encCs (refDo l o).1), .dat (encR (refDo l o).2)], []) := by
 have h1 := e_ref04_Check (n := n) (d := d) o
 rw [h] at h1
 have h2 := e_ref04_Get (n := n) (d := d) l o.slot hl hn
 have h3 := e_ref04_put (n := n) (d := d) l (o.slot, o.value) hl hn
 have h4 := e_ref04_put (n := n) (d := d) l (maxS l, o.value) hl hn
 have h5 := l_ref04_Do (n := n) (runFn T n (d + 1)) l o hl hb hn
 simp [S_do, xf_ref04_Do_k0] at h5
 have hz : ({ data := #[] } : ByteArray) = ByteArray.empty := rfl
 have hc := op_cases h
 clear h
 unfold refDo
 obtain ⟨kd, sl, vl⟩ := o
 simp only at h1 h2 h3 h4 h5 hc ⊢
 rw [runFn_succ]
 rcases hc with h | h | h | h
 ·obtain ⟨rfl, _⟩ := h
  cases hf : lookL l sl with
  | none =>
   rw [hf] at h2
   simp at h2
   simp [T, xf_ref04_Do, h1, h2, h3, hz]
  | some v =>
   rw [hf] at h2
   simp at h2
   simp [T, xf_ref04_Do, h1, h2, h3, hz]
 ·obtain ⟨rfl, rfl⟩ := h
  by_cases hm : 1024 ≤ maxS l
  ·simp [T, xf_ref04_Do, xf_ref04_Do_k0, h1, h2, h4, h5, hm, hz]
  ·simp [T, xf_ref04_Do, xf_ref04_Do_k0, h1, h2, h4, h5, hm, hz]
 ·obtain ⟨rfl, _⟩ := h
  cases hf : lookL l sl with
  | none =>
   rw [hf] at h2
   simp at h2
   simp [T, xf_ref04_Do, h1, h2, hz]
  | some v =>
   rw [hf] at h2
   simp at h2
   simp [T, xf_ref04_Do, h1, h2, hz]
 ·obtain ⟨rfl, _⟩ := h
  simp [T, xf_ref04_Do, h1, h2, hz]
end Go.Ax
namespace Go.Ax
set_option linter.all false
variable {n d : Nat}
set_option maxRecDepth 10000
set_option maxHeartbeats 4000000
theorem putC_split (l : List Cell) (c : Cell) : ∃ X Y, l = X ++ Y ∧ putC l c = X ++ c :: Y := by
 have key : ∀ (l : List Cell) (o : List Cell), (∃ X Y, l = X ++ Y ∧ (l.foldl (putG c) (o, false)) = (o ++ X ++ c :: Y, true)) ∨ l.foldl (putG c) (o, false) = (o ++ l, false) := by
  have done : ∀ (l o : List Cell), l.foldl (putG c) (o, true) = (o ++ l, true) := by
   intro l
   induction l with
   | nil => intro o; simp
   | cons x r ih => intro o; simp [putG, ih]
  intro l
  induction l with
  | nil => intro o; right; simp
  | cons x r ih =>
   intro o
   by_cases hc : c.1 < x.1
   ·left
    refine ⟨[], x :: r, rfl, ?_⟩
    simp [putG, hc, done]
   ·have hs : putG c (o, false) x = (o ++ [x], false) := by simp [putG, hc]
    rw [List.foldl_cons, hs]
    rcases ih (o ++ [x]) with ⟨X, Y, h1, h2⟩ | h
    ·left; exact ⟨x :: X, Y, by rw [h1]; rfl, by rw [h2]; simp⟩
    ·right; rw [h]; simp
 unfold putC
 rcases key l [] with ⟨X, Y, h1, h2⟩ | h
 ·exact ⟨X, Y, h1, by rw [h2]; simp⟩
 ·exact ⟨l, [], by simp, by rw [h]; simp⟩
theorem look_append : ∀ (X Y : List Cell) (k : Int), lookL (X ++ Y) k = (lookL X k).or (lookL Y k)
 | [], _, _ => by simp [lookL]
 | (a, v) :: r, Y, k => by
  simp only [List.cons_append, lookL]
  by_cases h : a = k
  ·simp [h]
  ·simp [h, look_append r Y k]
theorem maxG_max (s : Int) (x : Cell) : maxG s x = max s (x.1 + 1) := by unfold maxG; split <;> omega
theorem maxS_from : ∀ (l : List Cell) (s t : Int), l.foldl maxG (max s t) = max (l.foldl maxG s) t
 | [], _, _ => rfl
 | x :: r, s, t => by
  simp only [List.foldl_cons, maxG_max]
  rw [show max (max s t) (x.1 + 1) = max (max s (x.1 + 1)) t by omega]
  exact maxS_from r _ t
theorem maxS_above : ∀ (l : List Cell) (s : Int), s ≤ l.foldl maxG s ∧ ∀ x ∈ l, x.1 < l.foldl maxG s
 | [], s => ⟨Int.le_refl _, by simp⟩
 | x :: r, s => by
  obtain ⟨h1, h2⟩ := maxS_above r (maxG s x)
  simp only [List.foldl_cons]
  rw [maxG_max] at h1 h2 ⊢
  refine ⟨by omega, fun y hy => ?_⟩
  rcases List.mem_cons.1 hy with rfl | hy
  ·omega
  ·exact h2 y hy
theorem look_none : ∀ (l : List Cell) (k : Int), (∀ x ∈ l, x.1 ≠ k) → lookL l k = none
 | [], _, _ => rfl
 | (a, v) :: r, k, h => by
  simp only [lookL]
  rw [if_neg (h (a, v) (by simp))]
  exact look_none r k (fun x hx => h x (by simp [hx]))
structure RelC (A : List Cell) (nx : Int) (cs : List Cell) : Prop where
 look : ∀ k, lookL cs k = lookL A k
 len : cs.length = countL A
 mx : maxS cs = nx
 bnd : ∀ x ∈ cs, 0 ≤ x.1 ∧ x.1 < 1024
theorem RelC.put {A cs : List Cell} {nx k : Int} {v : ByteArray} (h : RelC A nx cs) (hk : 0 ≤ k ∧ k < 1024) (hl : lookL A k = none) : RelC ((k, v) :: A) (max nx (k + 1)) (putC cs (k, v)) := by
 obtain ⟨X, Y, rfl, hp⟩ := putC_split cs (k, v)
 have hl' := h.look k
 rw [hl, look_append] at hl'
 rw [hp]
 refine ⟨fun j => ?_, ?_, ?_, fun x hx => ?_⟩
 ·have := h.look j
  rw [look_append] at this
  rw [look_append]
  simp only [lookL]
  by_cases hj : k = j
  ·subst hj
   rw [if_pos rfl, if_pos rfl]
   cases hX : lookL X k with
   | none => rfl
   | some w => rw [hX] at hl'; simp at hl'
  ·rw [if_neg hj, if_neg hj]
   exact this
 ·have := h.len
  have hm := mlook_enc A k
  rw [hl] at hm
  simp only [List.length_append, List.length_cons, countL, encLd, List.map_cons, mcount] at this hm ⊢
  rw [hm]
  simp
  omega
 ·have := h.mx
  unfold maxS at this ⊢
  rw [List.foldl_append] at this ⊢
  rw [List.foldl_cons, maxG_max, maxS_from, this]
 ·rcases List.mem_append.1 hx with hx | hx
  ·exact h.bnd x (List.mem_append.2 (.inl hx))
  ·rcases List.mem_cons.1 hx with rfl | hx
   ·exact hk
   ·exact h.bnd x (List.mem_append.2 (.inr hx))
theorem RelC.step {A cs : List Cell} {nx : Int} {o : LOp} (h : RelC A nx cs) (ho : opErr o = 0) (hn : 0 ≤ nx ∧ nx ≤ 1024) : (refDo cs o).2 = wouldR A nx o ∧ RelC (doL A nx o) (doN A nx o) (refDo cs o).1 := by
 have hc := op_cases ho
 unfold doL doN refDo wouldR
 rw [h.look, h.mx, h.len]
 by_cases k1 : o.kind = 1
 ·simp only [k1, if_true]
  cases hl : lookL A o.slot with
  | none => exact ⟨by simp, by simp only [if_true]; exact h.put (by omega) hl⟩
  | some v => exact ⟨by simp, by simp; exact h⟩
 ·simp only [k1, if_false]
  by_cases k2 : o.kind = 2
  ·simp only [k2, if_true]
   by_cases hf : nx = 1024
   ·simp only [hf, if_true, Int.le_refl]
    exact ⟨by simp, by simp; rw [← hf]; exact h⟩
   ·have : ¬ 1024 ≤ nx := by omega
    simp only [hf, if_false, this, if_true]
    refine ⟨trivial, h.put (by omega) ?_⟩
    rw [← h.look]
    refine look_none cs nx (fun x hx => ?_)
    have := (maxS_above cs 0).2 x hx
    have hm := h.mx
    unfold maxS at hm
    omega
  ·simp only [k2, if_false]
   by_cases k3 : o.kind = 3
   ·simp only [k3, if_true]
    cases hl : lookL A o.slot with
    | none => exact ⟨by simp, by simp; exact h⟩
    | some v => exact ⟨by simp, by simp; exact h⟩
   ·simp only [k3, if_false]
    exact ⟨trivial, by simp; exact h⟩
def stepC (a : List Cell × List Res) (o : LOp) : List Cell × List Res := ((refDo a.1 o).1, a.2 ++ [(refDo a.1 o).2])
def repS (p : List LOp) : List Cell × List Res := p.foldl stepC ([], [])
theorem repS_snoc (p : List LOp) (o : LOp) : repS (p ++ [o]) = stepC (repS p) o := by simp [repS]
structure RepOk (a : Led) (b : List Cell × List Res) : Prop where
 rel : RelC a.L a.nx b.1
 res : a.rows.map (·.result) = b.2
theorem RepOk.step {k : Nat} {a : Led} {b : List Cell × List Res} {e : Ent} (h : RepOk a b) (ho : LedOk k a) (he : opErr e.op = 0) : RepOk (stepR a e) (stepC b e.op) := by
 obtain ⟨h1, h2⟩ := h.rel.step he ho.nx
 refine ⟨h2, ?_⟩
 simp only [stepR, stepC, List.map_append, List.map_cons, List.map_nil, h.res, h1]
theorem rep_ok (p r : List Ent) (h : logErr1 [] (p ++ r) = 0) : RepOk (ledS p) (repS (p.map (·.op))) := by
 have key : ∀ (p : List Ent) (k : Nat) (a : Led) (b : List Cell × List Res), LedOk k a → RepOk a b → (∀ x ∈ p, opErr x.op = 0) → RepOk (p.foldl stepR a) ((p.map (·.op)).foldl stepC b) := by
  intro p
  induction p with
  | nil => intro k a b _ h _; exact h
  | cons x r ih =>
   intro k a b h1 h2 hp
   exact ih (k + 1) (stepR a x) (stepC b x.op) (h1.step (hp x (by simp))) (h2.step h1 (hp x (by simp))) (fun y hy => hp y (by simp [hy]))
 refine key p 0 ⟨[], [], 0⟩ ([], []) ⟨rfl, by simp, by decide⟩ ⟨⟨fun _ => rfl, rfl, rfl, by simp⟩, rfl⟩ (fun x hx => ?_)
 obtain ⟨A, B, rfl⟩ := List.append_of_mem hx
 have := entErr_of_log A (B ++ r) [] x (by simpa using h)
 exact (ent_ok this).2.2.2.1
theorem rep_len : ∀ (p : List LOp), (repS p).2.length = p.length ∧ (repS p).1.length ≤ p.length := by
 have hput : ∀ (l : List Cell) (c : Cell), (putC l c).length = l.length + 1 := by
  intro l c
  obtain ⟨X, Y, rfl, h⟩ := putC_split l c
  rw [h]; simp; omega
 have hdo : ∀ (l : List Cell) (o : LOp), (refDo l o).1.length ≤ l.length + 1 := by
  intro l o
  unfold refDo
  split
  ·split
   ·simp
   ·simp [hput]
  ·split
   ·split
    ·simp
    ·simp [hput]
   ·split
    ·split <;> simp
    ·simp
 have key : ∀ (p : List LOp) (a : List Cell × List Res), (p.foldl stepC a).2.length = a.2.length + p.length ∧ (p.foldl stepC a).1.length ≤ a.1.length + p.length := by
  intro p
  induction p with
  | nil => intro a; simp
  | cons x r ih =>
   intro a
   obtain ⟨h1, h2⟩ := ih (stepC a x)
   have := hdo a.1 x
   have q1 : (stepC a x).2.length = a.2.length + 1 := by simp [stepC]
   have q2 : (stepC a x).1.length ≤ a.1.length + 1 := this
   simp only [List.foldl_cons, List.length_cons]
   exact ⟨by rw [h1]; omega, by omega⟩
 intro p
 have := key p ([], [])
 simpa [repS] using this
end Go.Ax
namespace Go.Ax
set_option linter.all false
variable {n d : Nat}
set_option maxRecDepth 10000
set_option maxHeartbeats 4000000
theorem e_client_Between (q r : List Ent) (k : Nat) (hk : k ≤ q.length) (hl : (q ++ r).length ≤ 256) (h : logErr1 [] (q ++ r) = 0) (hn : 1048577 < n) :
  runFn T n (d + 5) 78 [.dat (encLog (q ++ r)), .dat (di k), .dat (di q.length)] [] = some (.tup [.dat (encRows ((ledS q).rows.drop k)), .dat (di 0)], []) := by
 have h1 := e_client_check (n := n) (d := d + 2) (q ++ r) hl h hn
 have h2 := e_client_rows (n := n) (d := d) q r hl h hn
 have ho := ledS_ok r q [] h
 have hr := ho.rows
 have hlen : ((q ++ r).length : Int) = q.length + r.length := by simp
 have g1 : ¬ ((k : Int) < 0) := by omega
 have g2 : ¬ ((q.length : Int) + r.length < k) := by omega
 have g3 : ¬ ((q.length : Int) < 0) := by omega
 have g4 : ¬ ((q.length : Int) + r.length < q.length) := by omega
 have g5 : ¬ ((q.length : Int) < k) := by omega
 have g6 : (k : Int) ≤ q.length := by omega
 have hL : q.length - k ≤ LIM := by simp at hl; simp only [LIM]; omega
 rw [runFn_succ]
 generalize ledS q = A at *
 simp [T, xf_client_Between, h1, h2, g1, g2, g3, g4, g5, g6, hr, hL]
 rw [List.take_of_length_le (i := q.length) (by simp [hr]), List.take_of_length_le (by simp [hr])]
abbrev encOps (l : List LOp) : Dat := .sl 3 true (l.map encOp)
abbrev encRs (l : List Res) : Dat := .sl 3 true (l.map encR)
abbrev arrRs (l : List Res) : Blk := .arr 40 3 true false (l.map encR)
abbrev arrOp (l : List LOp) : Blk := .arr 36 3 true false (l.map encOp)
def S_rep (l p : List LOp) : St := if p = [] then ⟨[(0, .dat (encOps l)), (4, .own 0 0 0), (5, .own 1 0 0), (6, .dat (di 0))], [.arr 279 2 true false [], arrRs []]⟩ else
 ⟨[(0, .dat (encOps l)), (4, .dat (encCs (repS p).1)), (5, .own 0 0 (repS p).2.length), (6, .dat (di p.length))], [arrRs (repS p).2]⟩
theorem S_rep_snoc (l p : List LOp) (o : LOp) : S_rep l (p ++ [o]) = ⟨[(0, .dat (encOps l)), (4, .dat (encCs (stepC (repS p) o).1)), (5, .own 0 0 (stepC (repS p) o).2.length), (6, .dat (di (p.length + 1)))], [arrRs (stepC (repS p) o).2]⟩ := by
 unfold S_rep
 rw [if_neg (by simp), repS_snoc]
 simp
theorem e_ref04_Replay (l : List LOp) (h0 : l ≠ []) (hl : l.length ≤ 256) (ho : ∀ p o r, l = p ++ o :: r → opErr o = 0 ∧ ∀ x ∈ (repS p).1, 0 ≤ x.1 ∧ x.1 < 1024) (hn : 1048577 < n) :
  runFn T n (d + 3) 173 [.dat (encOps l)] [] = some (.tup [.dat (encCs (repS l).1), .dat (encRs (repS l).2)], []) := by
 have hA : loopAt (XCode.run (runFn T n (d + 2)) n 0 xf_ref04_Replay_b0) (headOf 0 xf_ref04_Replay_k0) n (S_rep l []) = some (.exit 0, ⟨[(4, .dat (encCs (repS l).1)), (5, .own 0 0 (repS l).2.length)], [arrRs (repS l).2]⟩) := by
  refine loop_pre (S_rep l) l _ (fun p v r hl' => ?_) ?_ (fun s h => by simp at h) n (by omega)
  ·have hx : (p.length : Int) < p.length + (r.length + 1) := by omega
   have hp : p.length ≤ 256 := by have : l.length = p.length + (r.length + 1) := (by simp [hl']); omega
   have hw := wrap_i p.length (by omega)
   obtain ⟨q1, q2⟩ := ho p v r hl'
   obtain ⟨r1, r2⟩ := rep_len p
   have e1 := e_ref04_Do (n := n) (d := d) (repS p).1 v q1 (by omega) q2 hn
   have hL : p.length + 1 ≤ LIM := by simp only [LIM]; omega
   rw [S_rep_snoc]
   rcases p with _ | ⟨a, b⟩
   ·have hz : repS [] = ([], []) := rfl
    rw [hz] at e1 ⊢
    simp only [encCs, List.map_nil] at e1
    have wrap1 : IntKind.wrap .i64 1 = 1 := by decide
    have hx' : (0 : Int) < (r.length : Int) + 1 := by omega
    simp [stepC]
    simp [xf_ref04_Replay_b0, xf_ref04_Replay_k0, S_rep, hl', hx', wrap1, e1, LIM]
   ·simp only [S_rep, stepC]
    have hne : a :: b ≠ [] := by simp
    generalize repS (a :: b) = A at *
    obtain ⟨A1, A2⟩ := A
    generalize a :: b = p at *
    simp only at r1
    simp at hw
    simp [xf_ref04_Replay_b0, xf_ref04_Replay_k0, hne, hl', hx, hw, hL, e1, r1]
  ·simp only [S_rep, if_neg h0]
   simp [xf_ref04_Replay_b0]
 simp [S_rep, xf_ref04_Replay_k0, arrRs] at hA
 rw [runFn_succ]
 simp [T, xf_ref04_Replay, xf_ref04_Replay_k0, hA]
def S_res (l p : List Ent) (k : Nat) : St := ⟨[(0, .dat (encLog l)), (1, .dat (di k)), (5, .own 0 0 p.length), (6, .dat (di p.length))], [arrOp (p.map (·.op))]⟩
theorem e_ref05_results (q r : List Ent) (h0 : q ≠ []) (hl : (q ++ r).length ≤ 256) (h : logErr1 [] (q ++ r) = 0) (hn : 1048577 < n) :
  runFn T n (d + 4) 161 [.dat (encLog (q ++ r)), .dat (di q.length)] [] = some (.dat (encRs ((ledS q).rows.map (·.result))), []) := by
 have hql : q.length ≤ 256 := by simp at hl; omega
 have hA : loopAt (XCode.run (runFn T n (d + 3)) n 0 xf_ref05_results_b0) (headOf 0 xf_ref05_results_k0) n (S_res (q ++ r) [] q.length) = some (.exit 0, ⟨[(5, .own 0 0 q.length)], [arrOp (q.map (·.op))]⟩) := by
  refine loop_pre (fun p => S_res (q ++ r) p q.length) q _ (fun p v r' hl' => ?_) ?_ (fun s h => by simp at h) n (by omega)
  ·have hp : p.length ≤ 256 := by have : q.length = p.length + (r'.length + 1) := (by simp [hl']); omega
   have hw := wrap_i p.length (by omega)
   have hx : (p.length : Int) < p.length + (r'.length + 1) := by omega
   have hL : p.length + 1 ≤ LIM := by simp only [LIM]; omega
   have hx2 : p.length < p.length + (r'.length + 1 + r.length) := by omega
   simp at hw
   simp [xf_ref05_results_b0, xf_ref05_results_k0, S_res, hl', hx, hw, hL, hx2]
  ·simp [xf_ref05_results_b0, S_res]
 simp [S_res, xf_ref05_results_k0, arrOp] at hA
 have e1 := e_ref04_Replay (n := n) (d := d) (q.map (·.op)) (by simp [h0]) (by simp; omega) (fun p o r' hp => ?_) hn
 ·have hR := (rep_ok q r h).res
  rw [← hR, show encOps (q.map (·.op)) = .sl 3 true (q.map (encOp ∘ fun x => x.op)) by simp [encOps]] at e1
  generalize (ledS q).rows.map (·.result) = R at *
  rw [runFn_succ]
  simp [T, xf_ref05_results, xf_ref05_results_k0, hA, e1]
 ·obtain ⟨p', r'', rfl, rfl, h2⟩ := List.map_eq_append_iff.1 hp
  obtain ⟨v, r3, rfl, rfl, rfl⟩ := List.map_eq_cons_iff.1 h2
  have he := entErr_of_log p' (r3 ++ r) [] v (by simpa using h)
  refine ⟨(ent_ok he).2.2.2.1, ?_⟩
  exact (rep_ok p' (v :: r3 ++ r) (by simpa using h)).rel.bnd
theorem e_ref05_row (p r : List Ent) (v : Ent) (hl : (p ++ v :: r).length ≤ 256) : runFn T n (d + 1) 162 [.dat (encLog (p ++ v :: r)), .dat (di (p.length + 1)), .dat (.bool false)] [] = some (.dat (encRow ⟨v.client, v.number, p.length + 1, false, ⟨0, 0, ByteArray.empty⟩⟩), []) := by
 have hp : p.length ≤ 256 := by simp at hl; omega
 have hw := wrap_small (x := (p.length : Int) + 1 - 1) (by omega)
 have hw1 : (p.length : Int) + 1 - 1 = p.length := by omega
 rw [hw1] at hw
 have hx : p.length < p.length + (r.length + 1) := by omega
 have hz : ({ data := #[] } : ByteArray) = ByteArray.empty := rfl
 rw [runFn_succ]
 simp [T, xf_ref05_row, hw1, hw, hx, hz]
end Go.Ax
