/-
  rejoin.run, which recovers: its contract.
-/
import Derived.Test.YtfoglingdnhjpaaGreatDoorXFall
import Derived.Test.YtfoglingdnhjpaaGreatDoorXGuard
import Derived.Tactics
import Derived.Tactics2
import Derived.WalkSmall
import Derived.WalkKit
import Derived.JoinedCond
namespace Go.Ax
open Go.Proofs
set_option linter.all false
set_option maxRecDepth 100000
theorem must_throws : Throws Tryz.prog 86 145 := by
 refine ⟨⟨_, Tryz.func86, by kernel_rfl, by kernel_rfl⟩, fun w e => ?_⟩
 by_cases h : e = 0
 ·subst h
  go_enter Tryz.func86, Tryz.ntmps86
  go_wp2
  simp [bodyPost, results, Tryz.results86]
 ·go_enter Tryz.func86, Tryz.ntmps86
  go_wp2
  simp [bodyPost]
theorem three {caps : Array Value} (hc : caps.size = 3) : ∃ a b c, caps = #[a, b, c] := by
 refine ⟨caps[0], caps[1], caps[2], ?_⟩
 apply Array.ext (by simpa using hc)
 intro i h1 h2
 match i, h2 with
 | 0, _ => rfl
 | 1, _ => rfl
 | 2, _ => rfl
theorem closure_idle (caps : Array Value) (w : World) (hc : caps.size = 3) : CallsD Tryz.prog 85 caps .returning w fun e u' w' => (∃ v, e = .returned v) ∧ u' = .returning ∧ w' = w := by
 obtain ⟨a, b, c, rfl⟩ := three hc
 refine callsD_of_wpS Tryz.func85 rfl fun c₀ cs hu => ?_
 apply wpS_seq
 apply wpS_region
 simp [wpOpsS, go_sem, recoverD, hu, Tryz.ntmps85, Exit.thenS]
 apply wpS_seq
 apply wpS_region
 simp [wpOpsS, go_sem, recoverD, hu, Tryz.ntmps85, Exit.thenS]
 refine wpS_cond (t := false) (by simp [Act.eval, Array.replicate]) ?_
 simp only [Bool.false_eq_true, if_false]
 refine wpS_of_wp (wp_skip ?_)
 cases c₀
 simp_all [bodyPostS, results, Tryz.results85]
theorem closure_panic {cin : Code} (hcin : Tryz.f85.body.bind cinOf = some cin) (caps : Array Value) (w : World) (e : Int) (R : World → Prop) (hc : caps.size = 3)
  (h : ∀ a : Act, a.defers = [] → Tryz.f85.ntmps ≤ a.tmps.size → (∀ i, i < caps.size → a.tmps.getD i undef = caps.getD i undef) → a.tmps.getD 3 undef = .iface 145 (.agg #[.int .i64 e]) → cin.wp Tryz.prog (fun ex a' w' => ex = .normal ∧ a'.defers = [] ∧ R w') a w) :
  CallsD Tryz.prog 85 caps (.panicking [{ v := .iface 145 (.agg #[.int .i64 e]), recovered := false }]) w fun en u' w' => (∃ v, en = .returned v) ∧ u' = .panicking [{ v := .iface 145 (.agg #[.int .i64 e]), recovered := true }] ∧ R w' := by
 obtain ⟨a, b, c, rfl⟩ := three hc
 refine callsD_of_wpS Tryz.func85 rfl fun c₀ cs hu => ?_
 apply wpS_seq
 apply wpS_region
 simp [wpOpsS, go_sem, recoverD, hu, Tryz.ntmps85, Exit.thenS]
 apply wpS_seq
 apply wpS_region
 simp [wpOpsS, go_sem, recoverD, hu, Tryz.ntmps85, Exit.thenS]
 refine wpS_cond (t := true) (by simp [Act.eval, Array.replicate]) ?_
 simp only [if_true]
 have hl : Tryz.f85.body.bind cinOf = some _ := rfl
 obtain rfl := Option.some.inj (hcin.symm.trans hl)
 refine wpS_of_wp (wp_mono (h _ rfl ?_ ?_ ?_) ?_)
 ·simp [Tryz.ntmps85]
 ·intro i hi
  match i, hi with
  | 0, _ => simp [Array.replicate]
  | 1, _ => simp [Array.replicate]
  | 2, _ => simp [Array.replicate]
 ·simp [Array.replicate]
 ·rintro ex a' w' ⟨rfl, hd, hR⟩
  refine ⟨hd, _, rfl, ?_⟩
  simp [results, Tryz.results85, hR]
theorem defer_run {cD : Code} (hcD : Tryz.f48.body.bind cDof = some cD) (a : Act) (w : World) (Q : Exit → Act → World → Prop) (hd : a.defers = []) (ht : 63 ≤ a.tmps.size)
  (h : ∀ a' : Act, a'.defers = [{ target := .fn (.func 85) ([8, 9, 10].map fun c => a.tmps.getD c undef).toArray, args := #[] }] → (∀ n, n ≠ 14 → a'.tmps.getD n undef = a.tmps.getD n undef) → a'.tmps.size = a.tmps.size → Q .normal a' w) : cD.wp Tryz.prog Q a w := by
 have hl : Tryz.f48.body.bind cDof = some _ := rfl
 obtain rfl := Option.some.inj (hcD.symm.trans hl)
 have hmf : ∀ (fn : Fn) (first cap : Array Value) (w : World), (Instr.makeFunc fn first cap).run Tryz.prog w = .ok (.func fn first cap) w := fun _ _ _ _ => rfl
 have h14 : 14 < a.tmps.size := by omega
 apply wp_region
 simp [wpOps, go_sem, hmf, Act.eval, Act.put, hd, h14]
 left
 left
 refine h _ ?_ (fun n hn => ?_) ?_
 ·simp
 ·simp only [Array.getD_eq_getD_getElem?]
  rw [Array.getElem?_setIfInBounds_ne (by omega)]
 ·simp
theorem grd_rejoin_run : GrdOk Tryz.prog 48 xf_rejoin_run ⟨xf_rejoin_run_rest, xf_rejoin_run_rec, [8, 9, 10], 145, 3, 14⟩ := by
 obtain ⟨fn, c0, id, ops, c2, gn, cin, G, h1, h2, h3, h4, h5, h6, h7, h8, h9, _, _⟩ := grdT_split r_rejoin_run
 have e1 : Tryz.f48 = fn := Option.some.inj (Tryz.func48.symm.trans h1)
 have e2 : Tryz.f85 = gn := Option.some.inj (Tryz.func85.symm.trans h3)
 have e3 : G = ⟨xf_rejoin_run_rest, xf_rejoin_run_rec, [8, 9, 10], 145, 3, 14⟩ := (Option.some.inj h5).symm
 subst e1
 subst e2
 subst e3
 have hcD : Tryz.f48.body.bind cDof = some (.region id ops false) := by rw [h2]; rfl
 exact Guards.ok (by kernel_rfl) {
   fn := Tryz.f48, c0 := c0, cD := .region id ops false, c2 := c2, k := 85, kn := Tryz.f85.ntmps, cin := cin
   hf := Tryz.func48, hname := by kernel_rfl, hb := h2, h0 := h7, h2 := fun ds => h6 ds must_throws, hc := h8, hres := h9
   hD := fun a w Q hd ht h => defer_run hcD a w Q hd (by rw [Tryz.ntmps48] at ht; exact ht) h
   hinv := fun caps w => by
     have hf : Tryz.prog.funcs[85]? = some Tryz.f85 := Tryz.func85
     have hn : (Tryz.f85.name == "runtime.NumGoroutine") = false := by kernel_rfl
     have hb : Tryz.f85.body.isNone = false := by kernel_rfl
     simp only [invoke, callFunc, Sem.run_bind, Sem.run_pure, run_program, Result.andThen_ok, hf, hn, hb, Bool.false_eq_true, if_false, Array.empty_append]
   hI := fun caps w hc => closure_idle caps w hc
   hP := fun caps w e R hc h => closure_panic h4 caps w e R hc h
   hslot := by decide }
end Go.Ax
