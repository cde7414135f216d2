/-
  A second state that is handed in.
-/
import Derived.Test.YtponcchkfmbicaaGreatDoorED
namespace Go.Ax
set_option linter.all false
variable {n d : Nat}
set_option maxRecDepth 10000
set_option linter.unusedSimpArgs false
set_option maxHeartbeats 8000000

theorem g_Entries4x (l : List Ent) (hl : l.length ≤ 1048576) (D D' E F S S' : List Dat) (hD : D.length = D'.length) (h0 : 0 < D.length) (hE : E.length ≤ 6000000) (hF : E.length = F.length) (he : 0 < E.length) (hS : S.length = S'.length) (hs : 0 < S.length) :
    runFn T n (d + 2) 49 [.ptr 0 0, .dat (encLog l)]
     [boxG (.own 1 0 D.length) (.own 2 0 D.length) (.own 3 0 E.length) (.own 4 0 E.length) (.own 5 0 S.length) (.own 6 0 S.length), lD D, lD D', lE E, lE F, lS S, lS S', .arr 38 5 true true (l.map encE)] =
    some (.own 8 0 l.length, [boxG (.own 1 0 D.length) (.own 2 0 D.length) (.own 9 0 (E.length + 1)) (.own 10 0 (E.length + 1)) (.own 5 0 S.length) (.own 6 0 S.length), lD D, lD D', .dead, .dead, lS S, lS S', .arr 38 5 true true (l.map encE), frzE l, lE (E ++ [rE l]), lE (F ++ [rE l])]) := by
  have c := e_plain_CopyEntries (n := n) (d := d) l (by omega)
  have c2 := copy_rawE (n := n) (d := d) l hl
  have h2 : l.length + 1 ≤ LIM := by simp only [LIM]; omega
  have h3 : (l.length : Int) ≤ (l.length : Int) + 1 := by omega
  have h5 : F.length + 1 ≤ LIM := by simp only [LIM]; omega
  rw [runFn_succ]
  simp [T, xf_plain_Given_Entries, c, h2, c2, take_snoc, h3, hD, hF, h5, hS]
theorem g_Vector4x (l : List Draw) (hl : l.length ≤ 1048576) (D D' E F S S' : List Dat) (hD : D.length = D'.length) (h0 : 0 < D.length) (hDl : D.length ≤ 6000000) (hF : E.length = F.length) (he : 0 < E.length) (hS : S.length = S'.length) (hs : 0 < S.length) :
    runFn T n (d + 2) 50 [.ptr 0 0, .dat (encV l)]
     [boxG (.own 1 0 D.length) (.own 2 0 D.length) (.own 3 0 E.length) (.own 4 0 E.length) (.own 5 0 S.length) (.own 6 0 S.length), lD D, lD D', lE E, lE F, lS S, lS S', .arr 43 2 true true (l.map encD)] =
    some (.own 8 0 l.length, [boxG (.own 9 0 (D.length + 1)) (.own 10 0 (D.length + 1)) (.own 3 0 E.length) (.own 4 0 E.length) (.own 5 0 S.length) (.own 6 0 S.length), .dead, .dead, lE E, lE F, lS S, lS S', .arr 43 2 true true (l.map encD), frzD l, lD (D ++ [rD l]), lD (D' ++ [rD l])]) := by
  have c := e_plain_CopyVector (n := n) (d := d) l (by omega)
  have c2 := copy_rawD (n := n) (d := d) l hl
  have h2 : l.length + 1 ≤ LIM := by simp only [LIM]; omega
  have h3 : (l.length : Int) ≤ (l.length : Int) + 1 := by omega
  have h5 : D'.length + 1 ≤ LIM := by simp only [LIM]; omega
  rw [runFn_succ]
  simp [T, xf_plain_Given_Vector, c, h2, c2, take_snoc, h3, hD, hF, h5, hS]
abbrev boxQ2 (s : State) : Blk := .box [.dat (di s.self), .dat (di s.status), .dat (di s.view), .dat (di s.last), .own 12 0 s.log.length, .dat (di s.commit), .own 13 0 s.vector.length, .dat (di s.idle), .own 14 0 s.acks.length, .own 15 0 s.marks.length, .own 16 0 s.ballots.length, .own 17 0 s.answers.length]
def gtH (s : State) (D E S : List Dat) : List Blk := [boxG (.own 7 0 D.length) (.own 8 0 D.length) (.own 9 0 E.length) (.own 10 0 E.length) (.own 5 0 S.length) (.own 6 0 S.length), .dead, .dead, .dead, .dead, lS S, lS S, lD D, lD D, lE E, lE E, boxQ2 s, frzE s.log, frzD s.vector, arrK s.acks, arrM s.marks, arrB s.ballots, arrA s.answers, boxZ]
def gtE0 (E : List Dat) (s : State) (p : List Ballot) : List Dat := E ++ rE s.log :: p.map fun b => rE b.log
def gtE1 (E : List Dat) (s : State) (p : List Answer) : List Dat := E ++ rE s.log :: (s.ballots.map (fun b => rE b.log) ++ p.map fun b => rE b.log)
def S_gt0 (s : State) (D E S : List Dat) (p : List Ballot) : St := ⟨[(0, .ptr 0 0), (3, .ptr 11 0), (4, .ptr 18 0), (5, .dat (di p.length))], gtH s D (gtE0 E s p) S⟩
theorem l_gt0 (s : State) (D E S : List Dat) (h0 : 0 < D.length) (hE : E.length ≤ 2500000) (hS : 0 < S.length) (hs : Small2 s) (hn : 1048577 < n) : loopAt (XCode.run (runFn T n (d + 2)) n 7 xf_plain_Given_State_b0) (headOf 7 xf_plain_Given_State_k0) n (S_gt0 s D E S []) = some (.exit 0, ⟨[(0, .ptr 0 0), (3, .ptr 11 0), (4, .ptr 18 0)], gtH s D (gtE0 E s s.ballots) S⟩) := by
  have hl := hs.ballots
  refine loop_pre (S_gt0 s D E S) s.ballots _ (fun p v r hl => ?_) ?_ (fun s h => by simp at h) n (by omega)
  · have hlen : s.ballots.length = p.length + (r.length + 1) := by simp [hl]
    have hp : p.length ≤ 1048577 := by omega
    have hpp : p.length < s.ballots.length := by omega
    have hpi : (p.length : Int) < s.ballots.length := by omega
    have hg : s.ballots[p.length] = v := by simp [hl]
    have hw := wrap_i p.length (by omega)
    have hc := g_Entries4 (n := n) (d := d) v.log (hs.blogs2 v (by rw [hl]; simp)) D D (gtE0 E s p) (gtE0 E s p) S S rfl h0 (by simp [gtE0]; omega) rfl (by simp [gtE0] <;> omega) rfl hS
    have hset := set_map encBal s.ballots p.length hpp
    rw [hg] at hset
    have hE2 : gtE0 E s (p ++ [v]) = gtE0 E s p ++ [rE v.log] := by simp [gtE0]
    have hEl : (gtE0 E s p ++ [rE v.log]).length = (gtE0 E s p).length + 1 := by simp
    simp at hw
    simp only [S_gt0, hE2, gtH, hEl]
    generalize gtE0 E s p = E at hc ⊢
    simp [xf_plain_Given_State_b0, xf_plain_Given_State_k0, hpp, hpi, hg, hw, hc, take_ahead, hset]
  · simp [xf_plain_Given_State_b0, S_gt0, gtH]
def S_gt1 (s : State) (D E S : List Dat) (p : List Answer) : St := ⟨[(0, .ptr 0 0), (3, .ptr 11 0), (4, .ptr 18 0), (6, .dat (di p.length))], gtH s D (gtE1 E s p) S⟩
theorem l_gt1 (s : State) (D E S : List Dat) (h0 : 0 < D.length) (hE : E.length ≤ 2500000) (hS : 0 < S.length) (hs : Small2 s) (hn : 1048577 < n) : loopAt (XCode.run (runFn T n (d + 2)) n 7 xf_plain_Given_State_b1) (headOf 7 xf_plain_Given_State_k1) n (S_gt1 s D E S []) = some (.exit 2, ⟨[(0, .ptr 0 0), (3, .ptr 11 0), (4, .ptr 18 0)], gtH s D (gtE1 E s s.answers) S⟩) := by
  have hl := hs.answers
  have hsum := hs.ballots
  refine loop_pre (S_gt1 s D E S) s.answers _ (fun p v r hl => ?_) ?_ (fun s h => by simp at h) n (by omega)
  · have hlen : s.answers.length = p.length + (r.length + 1) := by simp [hl]
    have hp : p.length ≤ 1048577 := by omega
    have hpp : p.length < s.answers.length := by omega
    have hpi : (p.length : Int) < s.answers.length := by omega
    have hg : s.answers[p.length] = v := by simp [hl]
    have hw := wrap_i p.length (by omega)
    have hc := g_Entries4 (n := n) (d := d) v.log (hs.alogs2 v (by rw [hl]; simp)) D D (gtE1 E s p) (gtE1 E s p) S S rfl h0 (by simp [gtE1]; omega) rfl (by simp [gtE1] <;> omega) rfl hS
    have hset := set_map encAns s.answers p.length hpp
    rw [hg] at hset
    have hE2 : gtE1 E s (p ++ [v]) = gtE1 E s p ++ [rE v.log] := by simp [gtE1]
    have hEl : (gtE1 E s p ++ [rE v.log]).length = (gtE1 E s p).length + 1 := by simp
    simp at hw
    simp only [S_gt1, hE2, gtH, hEl]
    generalize gtE1 E s p = E at hc ⊢
    simp [xf_plain_Given_State_b1, xf_plain_Given_State_k1, hpp, hpi, hg, hw, hc, take_ahead, hset]
  · simp [xf_plain_Given_State_b1, S_gt1, gtH]
theorem gtE01 (E : List Dat) (s : State) : gtE1 E s [] = gtE0 E s s.ballots := by simp [gtE1, gtE0]
theorem e_Given_State2 (s : State) (D E S : List Dat) (h0 : 0 < D.length) (hD : D.length ≤ 6000000) (hE : E.length ≤ 2500000) (hE0 : 0 < E.length) (hS : 0 < S.length) (hS2 : S.length ≤ 6000000) (hs : Small2 s) (hn : 1048577 < n) :
    runFn T n (d + 3) 10 [.ptr 0 0, .dat (encS s)] [boxG (.own 1 0 D.length) (.own 2 0 D.length) (.own 3 0 E.length) (.own 4 0 E.length) (.own 5 0 S.length) (.own 6 0 S.length), lD D, lD D, lE E, lE E, lS S, lS S] =
    some (.agg [.dat (di s.self), .dat (di s.status), .dat (di s.view), .dat (di s.last), .own 7 0 s.log.length, .dat (di s.commit), .own 8 0 s.vector.length, .dat (di s.idle), .own 9 0 s.acks.length, .own 10 0 s.marks.length, .own 11 0 s.ballots.length, .own 12 0 s.answers.length],
      [boxG (.own 13 0 (D.length + 1)) (.own 14 0 (D.length + 1)) (.own 15 0 (gtE1 E s s.answers).length) (.own 16 0 (gtE1 E s s.answers).length) (.own 17 0 (S.length + 1)) (.own 18 0 (S.length + 1)), .dead, .dead, .dead, .dead, .dead, .dead, frzE s.log, frzD s.vector,
       .arr 67 4 true true (s.acks.map encAck), .arr 69 3 true true (s.marks.map encMark), .arr 71 6 false true (s.ballots.map encBal), .arr 73 6 false true (s.answers.map encAns),
       lD (D ++ [rD s.vector]), lD (D ++ [rD s.vector]), lE (gtE1 E s s.answers), lE (gtE1 E s s.answers), lS (S ++ [encS s]), lS (S ++ [encS s])]) := by
  have c := e_plain_CopyState (n := n) (d := d) s hs.toSmall hn
  have g1 := g_Entries4x (n := n) (d := d) s.log hs.log2 D D E E S S rfl h0 (by omega) rfl hE0 rfl hS
  have g2 := g_Vector4x (n := n) (d := d) s.vector hs.vector2 D D (E ++ [rE s.log]) (E ++ [rE s.log]) S S rfl h0 hD rfl (by simp) rfl hS
  have h0 := l_gt0 (d := d) s (D ++ [rD s.vector]) E S (by simp) hE hS hs hn
  have h1 := l_gt1 (d := d) s (D ++ [rD s.vector]) E S (by simp) hE hS hs hn
  simp only [S_gt0, S_gt1, gtE01, xf_plain_Given_State_k0, xf_plain_Given_State_k1, List.length_nil, Int.natCast_zero] at h0 h1
  have e0 : gtE0 E s [] = E ++ [rE s.log] := rfl
  rw [e0] at h0
  generalize gtE0 E s s.ballots = E0 at h0 h1
  generalize gtE1 E s s.answers = E1 at h0 h1 ⊢
  simp only [gtH, List.length_append, List.length_cons, List.length_nil, Nat.zero_add] at h0 h1 g2
  have hL : S.length + 1 ≤ LIM := by simp only [LIM]; omega
  rw [runFn_succ]
  simp (maxSteps := 1000000) [T, xf_plain_Given_State, xf_plain_Given_State_k0, xf_plain_Given_State_k1, c, g1, g2, h0, h1, take_ahead, hL]
end Go.Ax
