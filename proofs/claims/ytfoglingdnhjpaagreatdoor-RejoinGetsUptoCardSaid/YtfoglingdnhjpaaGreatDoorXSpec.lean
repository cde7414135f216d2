/-
  The program's data as Lean structures, how the interpreter holds them, and what the lower layers answer: plain Lean.
-/
import Derived.Test.YtfoglingdnhjpaaGreatDoorXDefs
namespace Go.Ax
set_option linter.all false
structure Draw where
 hi : Int
 lo : Int
 deriving DecidableEq, Inhabited
structure LOp where
 kind : Int
 slot : Int
 value : ByteArray
 deriving DecidableEq, Inhabited
structure Ent where
 client : Int
 number : Int
 op : LOp
 deriving DecidableEq, Inhabited
structure Cfg where
 f : Int
 room : Int
 patience : Int
 unguarded : Bool
 deriving DecidableEq, Inhabited
structure Ack where
 node : Int
 draw : Draw
 place : Int
 deriving DecidableEq, Inhabited
structure Mark where
 node : Int
 draw : Draw
 deriving DecidableEq, Inhabited
structure Ballot where
 node : Int
 draw : Draw
 last : Int
 commit : Int
 log : List Ent
 deriving DecidableEq, Inhabited
structure Answer where
 node : Int
 draw : Draw
 view : Int
 commit : Int
 log : List Ent
 deriving DecidableEq, Inhabited
structure State where
 self : Int
 status : Int
 view : Int
 last : Int
 log : List Ent
 commit : Int
 vector : List Draw
 idle : Int
 acks : List Ack
 marks : List Mark
 ballots : List Ballot
 answers : List Answer
 deriving DecidableEq, Inhabited
structure Res where
 code : Int
 slot : Int
 value : ByteArray
 deriving DecidableEq, Inhabited
structure Msg where
 kind : Int
 node : Int
 view : Int
 entry : Ent
 result : Res
 place : Int
 commit : Int
 last : Int
 draw : Draw
 log : List Ent
 vector : List Draw
 deriving DecidableEq, Inhabited
structure Send where
 to : Int
 msg : Msg
 deriving DecidableEq, Inhabited
structure Row where
 client : Int
 number : Int
 place : Int
 done : Bool
 result : Res
 deriving DecidableEq, Inhabited
abbrev di (n : Int) : Dat := .int .i64 n
abbrev du (n : Int) : Dat := .int .u64 n
abbrev encD (d : Draw) : Dat := .agg [du d.hi, du d.lo]
abbrev encV (l : List Draw) : Dat := .sl 2 true (l.map encD)
abbrev encOp (o : LOp) : Dat := .agg [di o.kind, di o.slot, .str o.value]
abbrev encE (e : Ent) : Dat := .agg [di e.client, di e.number, di e.op.kind, di e.op.slot, .str e.op.value]
abbrev encLog (l : List Ent) : Dat := .sl 5 true (l.map encE)
abbrev encCfg (c : Cfg) : Dat := .agg [di c.f, di c.room, di c.patience, .bool c.unguarded]
abbrev encAck (a : Ack) : Dat := .agg [di a.node, du a.draw.hi, du a.draw.lo, di a.place]
abbrev encMark (a : Mark) : Dat := .agg [di a.node, du a.draw.hi, du a.draw.lo]
abbrev encBal (b : Ballot) : Dat := .agg [di b.node, du b.draw.hi, du b.draw.lo, di b.last, di b.commit, encLog b.log]
abbrev encAns (b : Answer) : Dat := .agg [di b.node, du b.draw.hi, du b.draw.lo, di b.view, di b.commit, encLog b.log]
abbrev encAcks (l : List Ack) : Dat := .sl 4 true (l.map encAck)
abbrev encMarks (l : List Mark) : Dat := .sl 3 true (l.map encMark)
abbrev encBals (l : List Ballot) : Dat := .sl 6 false (l.map encBal)
abbrev encAnss (l : List Answer) : Dat := .sl 6 false (l.map encAns)
abbrev cellsS (s : State) : List Dat := [di s.self, di s.status, di s.view, di s.last, encLog s.log, di s.commit, encV s.vector, di s.idle, encAcks s.acks, encMarks s.marks, encBals s.ballots, encAnss s.answers]
abbrev encS (s : State) : Dat := .agg (cellsS s)
abbrev encR (r : Res) : Dat := .agg [di r.code, di r.slot, .str r.value]
abbrev cellsM (m : Msg) : List Dat := [di m.kind, di m.node, di m.view, di m.entry.client, di m.entry.number, di m.entry.op.kind, di m.entry.op.slot, .str m.entry.op.value, di m.result.code, di m.result.slot, .str m.result.value,
 di m.place, di m.commit, di m.last, du m.draw.hi, du m.draw.lo, encLog m.log, encV m.vector]
abbrev encM (m : Msg) : Dat := .agg (cellsM m)
abbrev encSd (x : Send) : Dat := .agg (di x.to :: cellsM x.msg)
abbrev encSds (l : List Send) : Dat := .sl 19 false (l.map encSd)
abbrev encRow (r : Row) : Dat := .agg [di r.client, di r.number, di r.place, .bool r.done, di r.result.code, di r.result.slot, .str r.result.value]
abbrev encRows (l : List Row) : Dat := .sl 7 true (l.map encRow)
def opErr (o : LOp) : Int :=
 if o.kind = 1 ∨ o.kind = 3 then (if o.slot < 0 ∨ 1024 ≤ o.slot then 41 else if (o.kind = 1 ∧ 64 < o.value.size) ∨ (o.kind = 3 ∧ 0 < o.value.size) then 42 else 0)
 else if o.kind = 2 ∨ o.kind = 4 then (if o.slot ≠ 0 then 41 else if (o.kind = 2 ∧ 64 < o.value.size) ∨ (o.kind = 4 ∧ 0 < o.value.size) then 42 else 0)
 else 40
def entErr1 (e : Ent) : Int := if e.client < 0 ∨ 16 ≤ e.client then 62 else if e.number < 1 then 63 else opErr e.op
def entErr (l : List Ent) (e : Ent) : Int := if entErr1 e ≠ 0 then entErr1 e else if ∃ x ∈ l, x.client = e.client ∧ e.number ≤ x.number then 64 else 0
def logErr1 : List Ent → List Ent → Int
 | _, [] => 0
 | pre, x :: r => if entErr pre x ≠ 0 then entErr pre x else logErr1 (pre ++ [x]) r
def logPlace : List Ent → List Ent → Int
 | _, [] => 0
 | pre, x :: r => if entErr pre x ≠ 0 then (pre.length : Int) + 1 else logPlace (pre ++ [x]) r
def logErr (l : List Ent) (room : Int) : Int := if room < 1 ∨ 256 < room then 3 else if room < l.length then 60 else logErr1 [] l
def logAt (l : List Ent) (room : Int) : Int := if room < 1 ∨ 256 < room then 0 else if room < l.length then room else logPlace [] l
def decE : Dat → Option Ent
 | .agg [.int .i64 a, .int .i64 b, .int .i64 c, .int .i64 d, .str s] => some ⟨a, b, ⟨c, d, s⟩⟩
 | _ => none
def decEs : List Dat → Option (List Ent)
 | [] => some []
 | x :: r => match decE x, decEs r with
  | some e, some l => some (e :: l)
  | _, _ => none
@[simp] theorem decEs_enc (l : List Ent) : decEs (l.map encE) = some l := by
 induction l with
 | nil => rfl
 | cons x r ih => simp [decEs, decE, ih]
theorem decE_some {d : Dat} {e : Ent} (h : decE d = some e) : d = encE e := by
 unfold decE at h
 split at h <;> first | (cases h; done) | skip
 injection h with h; subst h; rfl
theorem decEs_some : ∀ {l : List Dat} {es : List Ent}, decEs l = some es → l = es.map encE
 | [], es, h => by simp only [decEs, Option.some.injEq] at h; subst h; rfl
 | x :: r, es, h => by
  simp only [decEs] at h
  split at h <;> first | (cases h; done) | skip
  rename_i e l he hl
  injection h with h; subst h
  rw [decE_some he, decEs_some hl]; rfl
def checkNv : List AV → Option (AV × List Blk)
 | [.dat (.sl 5 _ xs), .dat (.int .i64 room)] => match decEs xs with
  | some l => if l.length ≤ 1048577 then some (.tup [.dat (di (logErr l room)), .dat (di (logAt l room))], []) else none
  | none => none
 | _ => none
end Go.Ax
