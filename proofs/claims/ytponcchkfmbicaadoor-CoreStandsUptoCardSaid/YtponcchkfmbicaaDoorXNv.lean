/-
  The functions of this seat whose contracts are proved by hand.
-/
import Derived.Test.YtponcchkfmbicaaDoorXFc
import Derived.Test.YtponcchkfmbicaaDoorOC
import Derived.Test.YtponcchkfmbicaaDoorXNat
import Derived.Test.YtponcchkfmbicaaDoorXSpec
import Derived.Test.YtponcchkfmbicaaDoorChecked
namespace Go.Ax
set_option linter.all false
open Go.RowKit Go.Proofs
set_option maxRecDepth 100000

theorem cl_nil_slices_Clone_Entry_Entry (w : World) (c : Nat) : Calls Tryd.prog 60 #[.slice none 0 c] w fun e w' => (∃ b, e = .returned (.slice b 0 0)) ∧ Below w.heap.size w w' := by
  have hq := fun w b n c => run_binnil (P := Tryd.prog) (w := w) 28 _ Tryd.underlying28 b n c
  go_enter Tryd.func60, Tryd.ntmps60
  go_wp2
  go_ret
  exact ⟨⟨_, rfl⟩, Below.refl _ _⟩
theorem cl_emp_slices_Clone_Entry_Entry (w : World) (ad : Addr) (c : Nat) : Calls Tryd.prog 60 #[.slice (some ad) 0 c] w fun e w' => (∃ b, e = .returned (.slice b 0 0)) ∧ Below w.heap.size w w' := by
  have hq := fun w b n c => run_binnil (P := Tryd.prog) (w := w) 28 _ Tryd.underlying28 b n c
  go_enter Tryd.func60, Tryd.ntmps60
  go_wp2
  go_ret
  exact ⟨⟨_, rfl⟩, (Below.refl _ _).alloc (Nat.le_refl _) _⟩
def T_slices_Clone_Entry_Entry : Nat → Option XFunc
  | 60 => some xf_slices_Clone_Entry_Entry
  | _ => none
theorem TOk_slices_Clone_Entry_Entry : ∀ g xf, T_slices_Clone_Entry_Entry g = some xf → FOk Tryd.prog g xf := by
  intro g xf h
  unfold T_slices_Clone_Entry_Entry at h
  split at h
  · cases h; exact .inl ⟨rfl, r_slices_Clone_Entry_Entry⟩
  · cases h
theorem nv_slices_Clone_Entry_Entry : NvOk Tryd.prog 60 (cloneNv 55 5 false) := by
  refine clone_ok (Checked.mixed Tryd.checked) TOk_slices_Clone_Entry_Entry (fun fl x xs h => ?_) (cl_nil_slices_Clone_Entry_Entry) (cl_emp_slices_Clone_Entry_Entry) ⟨_, Tryd.func60, by kernel_rfl, by kernel_rfl⟩
  have h1 : xs.length + 1 ≤ LIM := by simpa using h
  rw [runFn_succ]
  simp [T_slices_Clone_Entry_Entry, xf_slices_Clone_Entry_Entry, cloneNv, h1]

theorem cl_nil_slices_Clone_Vector_Draw (w : World) (c : Nat) : Calls Tryd.prog 61 #[.slice none 0 c] w fun e w' => (∃ b, e = .returned (.slice b 0 0)) ∧ Below w.heap.size w w' := by
  have hq := fun w b n c => run_binnil (P := Tryd.prog) (w := w) 30 _ Tryd.underlying30 b n c
  go_enter Tryd.func61, Tryd.ntmps61
  go_wp2
  go_ret
  exact ⟨⟨_, rfl⟩, Below.refl _ _⟩
theorem cl_emp_slices_Clone_Vector_Draw (w : World) (ad : Addr) (c : Nat) : Calls Tryd.prog 61 #[.slice (some ad) 0 c] w fun e w' => (∃ b, e = .returned (.slice b 0 0)) ∧ Below w.heap.size w w' := by
  have hq := fun w b n c => run_binnil (P := Tryd.prog) (w := w) 30 _ Tryd.underlying30 b n c
  go_enter Tryd.func61, Tryd.ntmps61
  go_wp2
  go_ret
  exact ⟨⟨_, rfl⟩, (Below.refl _ _).alloc (Nat.le_refl _) _⟩
def T_slices_Clone_Vector_Draw : Nat → Option XFunc
  | 61 => some xf_slices_Clone_Vector_Draw
  | _ => none
theorem TOk_slices_Clone_Vector_Draw : ∀ g xf, T_slices_Clone_Vector_Draw g = some xf → FOk Tryd.prog g xf := by
  intro g xf h
  unfold T_slices_Clone_Vector_Draw at h
  split at h
  · cases h; exact .inl ⟨rfl, r_slices_Clone_Vector_Draw⟩
  · cases h
theorem nv_slices_Clone_Vector_Draw : NvOk Tryd.prog 61 (cloneNv 26 2 false) := by
  refine clone_ok (Checked.mixed Tryd.checked) TOk_slices_Clone_Vector_Draw (fun fl x xs h => ?_) (cl_nil_slices_Clone_Vector_Draw) (cl_emp_slices_Clone_Vector_Draw) ⟨_, Tryd.func61, by kernel_rfl, by kernel_rfl⟩
  have h1 : xs.length + 1 ≤ LIM := by simpa using h
  rw [runFn_succ]
  simp [T_slices_Clone_Vector_Draw, xf_slices_Clone_Vector_Draw, cloneNv, h1]

theorem cl_nil_slices_Clone_Ack_Ack (w : World) (c : Nat) : Calls Tryd.prog 62 #[.slice none 0 c] w fun e w' => (∃ b, e = .returned (.slice b 0 0)) ∧ Below w.heap.size w w' := by
  have hq := fun w b n c => run_binnil (P := Tryd.prog) (w := w) 31 _ Tryd.underlying31 b n c
  go_enter Tryd.func62, Tryd.ntmps62
  go_wp2
  go_ret
  exact ⟨⟨_, rfl⟩, Below.refl _ _⟩
theorem cl_emp_slices_Clone_Ack_Ack (w : World) (ad : Addr) (c : Nat) : Calls Tryd.prog 62 #[.slice (some ad) 0 c] w fun e w' => (∃ b, e = .returned (.slice b 0 0)) ∧ Below w.heap.size w w' := by
  have hq := fun w b n c => run_binnil (P := Tryd.prog) (w := w) 31 _ Tryd.underlying31 b n c
  go_enter Tryd.func62, Tryd.ntmps62
  go_wp2
  go_ret
  exact ⟨⟨_, rfl⟩, (Below.refl _ _).alloc (Nat.le_refl _) _⟩
def T_slices_Clone_Ack_Ack : Nat → Option XFunc
  | 62 => some xf_slices_Clone_Ack_Ack
  | _ => none
theorem TOk_slices_Clone_Ack_Ack : ∀ g xf, T_slices_Clone_Ack_Ack g = some xf → FOk Tryd.prog g xf := by
  intro g xf h
  unfold T_slices_Clone_Ack_Ack at h
  split at h
  · cases h; exact .inl ⟨rfl, r_slices_Clone_Ack_Ack⟩
  · cases h
theorem nv_slices_Clone_Ack_Ack : NvOk Tryd.prog 62 (cloneNv 111 4 false) := by
  refine clone_ok (Checked.mixed Tryd.checked) TOk_slices_Clone_Ack_Ack (fun fl x xs h => ?_) (cl_nil_slices_Clone_Ack_Ack) (cl_emp_slices_Clone_Ack_Ack) ⟨_, Tryd.func62, by kernel_rfl, by kernel_rfl⟩
  have h1 : xs.length + 1 ≤ LIM := by simpa using h
  rw [runFn_succ]
  simp [T_slices_Clone_Ack_Ack, xf_slices_Clone_Ack_Ack, cloneNv, h1]

theorem cl_nil_slices_Clone_Mark_Mark (w : World) (c : Nat) : Calls Tryd.prog 63 #[.slice none 0 c] w fun e w' => (∃ b, e = .returned (.slice b 0 0)) ∧ Below w.heap.size w w' := by
  have hq := fun w b n c => run_binnil (P := Tryd.prog) (w := w) 32 _ Tryd.underlying32 b n c
  go_enter Tryd.func63, Tryd.ntmps63
  go_wp2
  go_ret
  exact ⟨⟨_, rfl⟩, Below.refl _ _⟩
theorem cl_emp_slices_Clone_Mark_Mark (w : World) (ad : Addr) (c : Nat) : Calls Tryd.prog 63 #[.slice (some ad) 0 c] w fun e w' => (∃ b, e = .returned (.slice b 0 0)) ∧ Below w.heap.size w w' := by
  have hq := fun w b n c => run_binnil (P := Tryd.prog) (w := w) 32 _ Tryd.underlying32 b n c
  go_enter Tryd.func63, Tryd.ntmps63
  go_wp2
  go_ret
  exact ⟨⟨_, rfl⟩, (Below.refl _ _).alloc (Nat.le_refl _) _⟩
def T_slices_Clone_Mark_Mark : Nat → Option XFunc
  | 63 => some xf_slices_Clone_Mark_Mark
  | _ => none
theorem TOk_slices_Clone_Mark_Mark : ∀ g xf, T_slices_Clone_Mark_Mark g = some xf → FOk Tryd.prog g xf := by
  intro g xf h
  unfold T_slices_Clone_Mark_Mark at h
  split at h
  · cases h; exact .inl ⟨rfl, r_slices_Clone_Mark_Mark⟩
  · cases h
theorem nv_slices_Clone_Mark_Mark : NvOk Tryd.prog 63 (cloneNv 113 3 false) := by
  refine clone_ok (Checked.mixed Tryd.checked) TOk_slices_Clone_Mark_Mark (fun fl x xs h => ?_) (cl_nil_slices_Clone_Mark_Mark) (cl_emp_slices_Clone_Mark_Mark) ⟨_, Tryd.func63, by kernel_rfl, by kernel_rfl⟩
  have h1 : xs.length + 1 ≤ LIM := by simpa using h
  rw [runFn_succ]
  simp [T_slices_Clone_Mark_Mark, xf_slices_Clone_Mark_Mark, cloneNv, h1]

theorem cl_nil_slices_Clone_Ballot_Ballot (w : World) (c : Nat) : Calls Tryd.prog 64 #[.slice none 0 c] w fun e w' => (∃ b, e = .returned (.slice b 0 0)) ∧ Below w.heap.size w w' := by
  have hq := fun w b n c => run_binnil (P := Tryd.prog) (w := w) 33 _ Tryd.underlying33 b n c
  go_enter Tryd.func64, Tryd.ntmps64
  go_wp2
  go_ret
  exact ⟨⟨_, rfl⟩, Below.refl _ _⟩
theorem cl_emp_slices_Clone_Ballot_Ballot (w : World) (ad : Addr) (c : Nat) : Calls Tryd.prog 64 #[.slice (some ad) 0 c] w fun e w' => (∃ b, e = .returned (.slice b 0 0)) ∧ Below w.heap.size w w' := by
  have hq := fun w b n c => run_binnil (P := Tryd.prog) (w := w) 33 _ Tryd.underlying33 b n c
  go_enter Tryd.func64, Tryd.ntmps64
  go_wp2
  go_ret
  exact ⟨⟨_, rfl⟩, (Below.refl _ _).alloc (Nat.le_refl _) _⟩
def T_slices_Clone_Ballot_Ballot : Nat → Option XFunc
  | 64 => some xf_slices_Clone_Ballot_Ballot
  | _ => none
theorem TOk_slices_Clone_Ballot_Ballot : ∀ g xf, T_slices_Clone_Ballot_Ballot g = some xf → FOk Tryd.prog g xf := by
  intro g xf h
  unfold T_slices_Clone_Ballot_Ballot at h
  split at h
  · cases h; exact .inl ⟨rfl, r_slices_Clone_Ballot_Ballot⟩
  · cases h
theorem nv_slices_Clone_Ballot_Ballot : NvOk Tryd.prog 64 (cloneNv 115 6 true) := by
  refine clone_ok (Checked.mixed Tryd.checked) TOk_slices_Clone_Ballot_Ballot (fun fl x xs h => ?_) (cl_nil_slices_Clone_Ballot_Ballot) (cl_emp_slices_Clone_Ballot_Ballot) ⟨_, Tryd.func64, by kernel_rfl, by kernel_rfl⟩
  have h1 : xs.length + 1 ≤ LIM := by simpa using h
  rw [runFn_succ]
  simp [T_slices_Clone_Ballot_Ballot, xf_slices_Clone_Ballot_Ballot, cloneNv, h1]

theorem cl_nil_slices_Clone_Answer_Answer (w : World) (c : Nat) : Calls Tryd.prog 65 #[.slice none 0 c] w fun e w' => (∃ b, e = .returned (.slice b 0 0)) ∧ Below w.heap.size w w' := by
  have hq := fun w b n c => run_binnil (P := Tryd.prog) (w := w) 34 _ Tryd.underlying34 b n c
  go_enter Tryd.func65, Tryd.ntmps65
  go_wp2
  go_ret
  exact ⟨⟨_, rfl⟩, Below.refl _ _⟩
theorem cl_emp_slices_Clone_Answer_Answer (w : World) (ad : Addr) (c : Nat) : Calls Tryd.prog 65 #[.slice (some ad) 0 c] w fun e w' => (∃ b, e = .returned (.slice b 0 0)) ∧ Below w.heap.size w w' := by
  have hq := fun w b n c => run_binnil (P := Tryd.prog) (w := w) 34 _ Tryd.underlying34 b n c
  go_enter Tryd.func65, Tryd.ntmps65
  go_wp2
  go_ret
  exact ⟨⟨_, rfl⟩, (Below.refl _ _).alloc (Nat.le_refl _) _⟩
def T_slices_Clone_Answer_Answer : Nat → Option XFunc
  | 65 => some xf_slices_Clone_Answer_Answer
  | _ => none
theorem TOk_slices_Clone_Answer_Answer : ∀ g xf, T_slices_Clone_Answer_Answer g = some xf → FOk Tryd.prog g xf := by
  intro g xf h
  unfold T_slices_Clone_Answer_Answer at h
  split at h
  · cases h; exact .inl ⟨rfl, r_slices_Clone_Answer_Answer⟩
  · cases h
theorem nv_slices_Clone_Answer_Answer : NvOk Tryd.prog 65 (cloneNv 117 6 true) := by
  refine clone_ok (Checked.mixed Tryd.checked) TOk_slices_Clone_Answer_Answer (fun fl x xs h => ?_) (cl_nil_slices_Clone_Answer_Answer) (cl_emp_slices_Clone_Answer_Answer) ⟨_, Tryd.func65, by kernel_rfl, by kernel_rfl⟩
  have h1 : xs.length + 1 ≤ LIM := by simpa using h
  rw [runFn_succ]
  simp [T_slices_Clone_Answer_Answer, xf_slices_Clone_Answer_Answer, cloneNv, h1]


theorem rd_log {F : Nat → Prop} {w : World} {v : Value} {fl : Bool} {l : List Ent} (h : RD F w v (.sl 5 fl (l.map encE))) : RD F w v (encLog l) := by
  generalize hd : Dat.sl 5 fl (l.map encE) = d at h
  cases h <;> first | (cases hd; done) | skip
  · rename_i a cap sz fl hn
    injection hd with h1 h2 h3
    have : l = [] := by simpa using h3
    subst this
    exact .sl0 a cap _ _ hn
  · rename_i ad cap sz fl xs vs hne hF hcap hs hfl hv hr
    injection hd with h1 h2 h3
    subst h1 h3
    refine .sl ad cap 5 true (l.map encE) vs hne hF hcap hs (fun _ x hx => ?_) hv hr
    obtain ⟨e, _, rfl⟩ := List.mem_map.1 hx
    rfl
theorem nv_oplog_Check : NvOk Tryd.prog 58 checkNv := by
  refine ⟨⟨_, Tryd.func58, by kernel_rfl, by kernel_rfl⟩, fun args r H' h C w vs hR hH hD _ => ?_⟩
  unfold checkNv at h
  split at h <;> first | (cases h; done) | skip
  rename_i fl xs room
  split at h <;> first | (cases h; done) | skip
  rename_i l hl
  split at h <;> first | (cases h; done) | skip
  rename_i hlen
  simp only [Option.some.injEq, Prod.mk.injEq] at h
  obtain ⟨rfl, rfl⟩ := h
  rw [decEs_some hl] at hR
  obtain ⟨h0, h1⟩ := hR
  match vs, h0 with
  | [v0, v1], _ =>
    have r0 := h1 0 v0 _ rfl rfl
    have r1 := h1 1 v1 _ rfl rfl
    cases r1 with
    | dat r1 => cases r1 with
      | int =>
        cases r0 with
        | dat r0 =>
          refine (check_calls l room hlen (rd_log r0) ⟨hH, hD⟩).mono fun e w' hp => ?_
          obtain ⟨rfl, hb⟩ := hp
          refine ⟨_, C, rfl, .tup _ _ rfl fun j c v hc hv => ?_, local_below hH hD hb⟩
          match j with
          | 0 => simp at hc hv; subst hc hv; exact .dat (.int _ _)
          | 1 => simp at hc hv; subst hc hv; exact .dat (.int _ _)
          | j + 2 => simp at hc

end Go.Ax
