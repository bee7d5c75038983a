/- What package verify computes: what a unit's flow keeps, and that it comes to an end. Plain Lean. -/
import Derived.Test.YtkhagebjphaboaaVerLem
namespace Go.Proofs.Ytkhagebjphaboaa.Ver
set_option linter.unusedVariables false
set_option linter.unusedSimpArgs false
open ImgM

/-- the stack and the fault apart the same -/
structure Same (f g : Flow) : Prop where
  at_ : g.at_ = f.at_
  todo : g.todo = f.todo
  has : g.has = f.has
theorem Same.refl (f : Flow) : Same f f := ⟨rfl, rfl, rfl⟩
theorem Same.trans {f g h : Flow} (a : Same f g) (b : Same g h) : Same f h := ⟨b.at_.trans a.at_, b.todo.trans a.todo, b.has.trans a.has⟩
/-- the stack grows by one at most, and if it is too large there is a fault; what is on it are numbers of 64 bits; a fault stays -/
structure Kept (N : Nat) (f g : Flow) : Prop where
  same : Same f g
  len : g.stack.length ≤ N
  ty : (∀ t ∈ f.stack, In64 t) → ∀ t ∈ g.stack, In64 t
  err : ¬ f.err = 0 → g.err = f.err

theorem fail_kept (e : Int) (f : Flow) : Kept f.stack.length f (fail e f) := by
  unfold fail
  split
  · exact ⟨⟨rfl, rfl, rfl⟩, Nat.le_refl _, fun h => h, fun h => absurd ‹f.err = 0› h⟩
  · exact ⟨⟨rfl, rfl, rfl⟩, Nat.le_refl _, fun h => h, fun _ => rfl⟩
theorem fail_err (e : Int) (he : ¬ e = 0) (f : Flow) : ¬ (fail e f).err = 0 := by
  unfold fail
  split
  · exact he
  · assumption
theorem Kept.refl (f : Flow) : Kept f.stack.length f f := ⟨Same.refl f, Nat.le_refl _, fun h => h, fun _ => rfl⟩
theorem Kept.le {N M : Nat} {f g : Flow} (h : Kept N f g) (hm : N ≤ M) : Kept M f g := ⟨h.same, Nat.le_trans h.len hm, h.ty, h.err⟩
theorem Kept.trans {N M : Nat} {f g h : Flow} (a : Kept N f g) (b : Kept M g h) : Kept M f h :=
  ⟨a.same.trans b.same, b.len, fun t => b.ty (a.ty t), fun e => (b.err (by rw [a.err e]; exact e)).trans (a.err e)⟩
theorem pop_kept (f : Flow) : Kept f.stack.length f (pop f).2 := by
  unfold pop
  split
  · exact fail_kept _ _
  · exact ⟨⟨rfl, rfl, rfl⟩, by simp, fun h t ht => h t (List.mem_of_mem_take ht), fun _ => rfl⟩
theorem pop_ty (f : Flow) (h : ∀ t ∈ f.stack, In64 t) : In64 (pop f).1 := by
  unfold pop
  split
  · unfold In64; simp only; omega
  · refine h _ ?_
    rw [List.getD_eq_getElem?_getD, List.getElem?_eq_getElem (by omega)]
    exact List.getElem_mem _
theorem want1_kept (t : Int) (f : Flow) : Kept f.stack.length f (want1 t f) := by
  have h := pop_kept f
  unfold want1
  split
  · exact (h.trans (fail_kept 9 _)).le h.len
  · exact h
theorem want_kept (l : List Int) (f : Flow) : Kept f.stack.length f (want l f) := by
  induction l with
  | nil => exact Kept.refl f
  | cons t r ih => exact (ih.trans (want1_kept t _)).le ih.len
theorem push_kept (t : Int) (f : Flow) (ht : In64 t) : Kept (f.stack.length + 1) f (push t f) := by
  unfold push
  split
  · have h := fail_kept 4 { f with stack := f.stack ++ [t] }
    refine ⟨⟨h.same.at_, h.same.todo, h.same.has⟩, by have := h.len; simpa using this, fun hf => h.ty (fun u hu => ?_), h.err⟩
    rcases List.mem_append.1 hu with hu | hu
    · exact hf u hu
    · simp at hu; rw [hu]; exact ht
  · refine ⟨⟨rfl, rfl, rfl⟩, by simp, fun hf u hu => ?_, fun _ => rfl⟩
    rcases List.mem_append.1 hu with hu | hu
    · exact hf u hu
    · simp at hu; rw [hu]; exact ht
theorem push_ok (t : Int) (f : Flow) (h : (push t f).err = 0) : (push t f).stack.length ≤ 300 := by
  unfold push at h ⊢
  split
  · rename_i h1
    rw [if_pos h1] at h
    exact absurd h (fail_err 4 (by decide) _)
  · simp; omega
theorem args_kept (M : Mdl) (k : Int) (f : Flow) : Kept f.stack.length f (args M k f) := want_kept _ _
theorem gen_kept (M : Mdl) (f : Flow) : Kept f.stack.length f (gen M f).2 := by
  have h := pop_kept f
  unfold gen
  split
  · exact h
  split
  · exact (h.trans (fail_kept 9 _)).le h.len
  · exact h
theorem done_kept (f : Flow) : Kept f.stack.length f (done f) := by
  unfold done
  split
  · exact Kept.refl f
  · exact fail_kept _ _

/-- what a unit's code needs of its module -/
structure Good (M : Mdl) (u : Unt) : Prop where
  units : ∀ k, k < M.units.length → In64 (M.units.getD k default).result ∧ In64 (M.units.getD k default).takes
  boxes : ∀ k, k < M.boxes.length → In64 (M.boxes.getD k default).1
  locals : ∀ t ∈ u.locals, In64 t
  result : In64 u.result
  takes : In64 u.takes
  few : M.units.length ≤ 30
  code : ∀ i ∈ u.code, instr M u i = 0
theorem rng_eq {b : Bool} (h : rng b = 0) : b = true := by
  unfold rng at h
  split at h
  · assumption
  · cases h
theorem unit_eq {M : Mdl} {i kind : Int} (h : isUnit M i kind = true) : 0 ≤ i ∧ i < (M.units.length : Int) ∧ (M.units.getD i.toNat default).kind = kind := by
  simp only [isUnit, Bool.and_eq_true, decide_eq_true_eq] at h
  exact ⟨h.1.1, h.1.2, h.2⟩
/-- what an instruction's form says -/
structure InsOk (M : Mdl) (u : Unt) (i : Ins) : Prop where
  op : 1 ≤ i.op ∧ i.op ≤ 32
  loc : i.op = 3 ∨ i.op = 4 → 0 ≤ i.a ∧ i.a < (u.locals.length : Int)
  jump : i.op = 21 ∨ i.op = 22 → 0 ≤ i.a ∧ i.a < (u.code.length : Int)
  call : i.op = 23 → isUnit M i.a 2 = true
  start : i.op = 29 → isUnit M i.a 3 = true
  box : i.op = 26 ∨ i.op = 27 → 0 ≤ i.a ∧ i.a < (M.boxes.length : Int)
theorem instr_ok {M : Mdl} {u : Unt} {i : Ins} (h : instr M u i = 0) : InsOk M u i := by
  unfold instr at h
  by_cases h1 : i.op = 2
  · exact ⟨by omega, by omega, by omega, by omega, by omega, by omega⟩
  rw [if_neg h1] at h
  by_cases h2 : i.op = 3 ∨ i.op = 4
  · rw [if_pos h2] at h
    have := rng_eq h
    simp only [Bool.and_eq_true, decide_eq_true_eq] at this
    exact ⟨by omega, fun _ => this, by omega, by omega, by omega, by omega⟩
  rw [if_neg h2] at h
  by_cases h3 : i.op = 21 ∨ i.op = 22
  · rw [if_pos h3] at h
    have := rng_eq h
    simp only [Bool.and_eq_true, decide_eq_true_eq] at this
    exact ⟨by omega, by omega, fun _ => this, by omega, by omega, by omega⟩
  rw [if_neg h3] at h
  by_cases h4 : i.op = 23
  · rw [if_pos h4] at h
    exact ⟨by omega, by omega, by omega, fun _ => rng_eq h, by omega, by omega⟩
  rw [if_neg h4] at h
  by_cases h5 : i.op = 29
  · rw [if_pos h5] at h
    exact ⟨by omega, by omega, by omega, by omega, fun _ => rng_eq h, by omega⟩
  rw [if_neg h5] at h
  by_cases h6 : i.op = 26 ∨ i.op = 27
  · rw [if_pos h6] at h
    have := rng_eq h
    simp only [Bool.and_eq_true, decide_eq_true_eq] at this
    exact ⟨by omega, by omega, by omega, by omega, by omega, fun _ => this⟩
  rw [if_neg h6] at h
  by_cases h7 : i.op < 1 ∨ 32 < i.op
  · rw [if_pos h7] at h; cases h
  · exact ⟨by omega, by omega, by omega, by omega, by omega, by omega⟩

theorem getD_in {l : List Int} {k : Nat} (h : ∀ t ∈ l, In64 t) : In64 (l.getD k 0) := by
  rw [List.getD_eq_getElem?_getD]
  rcases Nat.lt_or_ge k l.length with hk | hk
  · rw [List.getElem?_eq_getElem hk]; exact h _ (List.getElem_mem _)
  · rw [List.getElem?_eq_none hk]; unfold In64; simp
theorem in1 : In64 1 := by unfold In64; omega
theorem in2 : In64 2 := by unfold In64; omega

/-- what a step that goes nowhere keeps -/
structure Stp (f g : Flow) : Prop where
  kept : Kept (f.stack.length + 1) f g
  ok : g.err = 0 → f.stack.length ≤ 300 → g.stack.length ≤ 300
theorem Stp.of {f g : Flow} (h : Kept f.stack.length f g) : Stp f g := ⟨h.le (Nat.le_succ _), fun _ hl => Nat.le_trans h.len hl⟩
theorem Stp.push {f g : Flow} (h : Kept f.stack.length f g) (t : Int) (ht : In64 t) : Stp f (push t g) :=
  ⟨(h.trans (push_kept t g ht)).le (Nat.succ_le_succ h.len), fun he _ => push_ok t g he⟩
theorem Kept.fail {f g : Flow} (h : Kept f.stack.length f g) (e : Int) : Kept f.stack.length f (fail e g) := (h.trans (fail_kept e g)).le h.len
theorem Kept.ite {f : Flow} {c : Prop} [Decidable c] {a b : Flow} (ha : Kept f.stack.length f a) (hb : Kept f.stack.length f b) : Kept f.stack.length f (if c then a else b) := by split <;> assumption
theorem Kept.want {f g : Flow} (h : Kept f.stack.length f g) (l : List Int) : Kept f.stack.length f (want l g) := (h.trans (want_kept l g)).le h.len
theorem Kept.done {f g : Flow} (h : Kept f.stack.length f g) : Kept f.stack.length f (done g) := (h.trans (done_kept g)).le h.len

theorem special_stp {M : Mdl} {u : Unt} (hg : Good M u) {i : Ins} (hi : InsOk M u i) (f : Flow) : Stp f (special M u i f).2 := by
  unfold special
  by_cases h1 : i.op = 23
  · rw [if_pos h1]
    obtain ⟨g1, g2, g3⟩ := unit_eq (hi.call h1)
    exact Stp.push (args_kept M _ f) _ (hg.units i.a.toNat (by omega)).1
  rw [if_neg h1]
  by_cases h2 : i.op = 29
  · rw [if_pos h2]
    obtain ⟨g1, g2, g3⟩ := unit_eq (hi.start h2)
    have := hg.few
    exact Stp.push (args_kept M _ f) _ (by unfold In64; omega)
  rw [if_neg h2]
  by_cases h3 : i.op = 24
  · rw [if_pos h3]; exact Stp.of (((Kept.refl f).fail 8 |>.ite (Kept.refl f)).want _ |>.done)
  rw [if_neg h3]
  by_cases h4 : i.op = 25
  · rw [if_pos h4]; exact Stp.of (((Kept.refl f).fail 8 |>.ite (Kept.refl f)).done)
  rw [if_neg h4]
  by_cases h5 : i.op = 26
  · rw [if_pos h5]; exact Stp.of ((Kept.refl f).want _)
  rw [if_neg h5]
  by_cases h6 : i.op = 27
  · rw [if_pos h6]
    have := hi.box (.inr h6)
    exact Stp.push (Kept.refl f) _ (hg.boxes i.a.toNat (by omega))
  rw [if_neg h6]
  by_cases h7 : i.op = 28
  · rw [if_pos h7]; exact Stp.of ((pop_kept f).fail 9 |>.ite (pop_kept f))
  rw [if_neg h7]
  by_cases h8 : i.op = 30
  · rw [if_pos h8]
    have hk := (pop_kept f).trans (gen_kept M (pop f).2)
    have hk' := hk.le (pop_kept f).len
    have hu : ∀ k, (gen M (pop f).2).1 = some k → 0 ≤ k ∧ k < (M.units.length : Int) := by
      unfold gen
      split
      · intro k h; cases h
      split
      · intro k h; cases h
      · intro k h
        rename_i h2
        simp only [Option.some.injEq] at h
        subst h
        have h3 : handle M (pop (pop f).2).1 = true := by simpa using h2
        simp only [handle, Bool.and_eq_true] at h3
        obtain ⟨q1, q2, -⟩ := unit_eq h3.2
        exact ⟨q1, q2⟩
    generalize gen M (pop f).2 = G at *
    obtain ⟨o, g⟩ := G
    cases o with
    | none => exact Stp.of hk'
    | some k =>
      have := hu k rfl
      exact Stp.push ((hk'.fail 9).ite hk') _ (hg.units k.toNat (by omega)).1
  rw [if_neg h8]
  by_cases h9 : i.op = 31
  · rw [if_pos h9]
    exact Stp.push (((Kept.refl f).fail 8 |>.ite (Kept.refl f)).want _) _ hg.takes
  rw [if_neg h9]
  by_cases h10 : i.op = 32
  · rw [if_pos h10]; exact Stp.push (gen_kept M f) _ in2
  rw [if_neg h10]
  exact Stp.of (Kept.refl f)

/-- what a step does, jumps apart -/
inductive StepIs (M : Mdl) (u : Unt) (i : Ins) (f : Flow) : Bool × Flow → Prop
  | plain {b : Bool} {g : Flow} : i.op ≠ 4 → i.op ≠ 21 → i.op ≠ 22 → Stp f g → StepIs M u i f (b, g)
  | store {g : Flow} : i.op = 4 → Kept f.stack.length f g → StepIs M u i f (true, { g with has := g.has.set i.a.toNat true })
  | jump : i.op = 21 → StepIs M u i f (false, to u.code.length i.a f)
  | els : i.op = 22 → StepIs M u i f (true, to u.code.length i.a (want [2] f))
theorem step_is {M : Mdl} {u : Unt} (hg : Good M u) {i : Ins} (hi : InsOk M u i) (f : Flow) : StepIs M u i f (step M u i f) := by
  unfold step
  by_cases h1 : i.op = 1
  · rw [if_pos h1]; exact .plain (by omega) (by omega) (by omega) (Stp.push (Kept.refl f) _ in1)
  rw [if_neg h1]
  by_cases h2 : i.op = 2
  · rw [if_pos h2]; exact .plain (by omega) (by omega) (by omega) (Stp.push (Kept.refl f) _ in2)
  rw [if_neg h2]
  by_cases h3 : i.op = 3
  · rw [if_pos h3]; exact .plain (by omega) (by omega) (by omega) (Stp.push (by split; exact Kept.refl f; exact (Kept.refl f).fail 11) _ (getD_in hg.locals))
  rw [if_neg h3]
  by_cases h4 : i.op = 4
  · rw [if_pos h4]; exact .store h4 ((Kept.refl f).want _)
  rw [if_neg h4]
  by_cases h5 : i.op = 5
  · rw [if_pos h5]; exact .plain (by omega) (by omega) (by omega) (Stp.of (pop_kept f))
  rw [if_neg h5]
  by_cases h6 : i.op = 6
  · rw [if_pos h6]; exact .plain (by omega) (by omega) (by omega) (Stp.push ((Kept.refl f).want _) _ in1)
  rw [if_neg h6]
  by_cases h7 : i.op = 7
  · rw [if_pos h7]; exact .plain (by omega) (by omega) (by omega) (Stp.push ((Kept.refl f).want _) _ in2)
  rw [if_neg h7]
  by_cases h8 : 8 ≤ i.op ∧ i.op ≤ 12
  · rw [if_pos h8]; exact .plain (by omega) (by omega) (by omega) (Stp.push ((Kept.refl f).want _) _ in1)
  rw [if_neg h8]
  by_cases h9 : i.op = 13 ∨ i.op = 14
  · rw [if_pos h9]; exact .plain (by omega) (by omega) (by omega) (Stp.push (((pop_kept f).fail 9 |>.ite (pop_kept f)).want _) _ in2)
  rw [if_neg h9]
  by_cases h10 : 15 ≤ i.op ∧ i.op ≤ 18
  · rw [if_pos h10]; exact .plain (by omega) (by omega) (by omega) (Stp.push ((Kept.refl f).want _) _ in2)
  rw [if_neg h10]
  by_cases h11 : i.op = 19 ∨ i.op = 20
  · rw [if_pos h11]; exact .plain (by omega) (by omega) (by omega) (Stp.push ((Kept.refl f).want _) _ in2)
  rw [if_neg h11]
  by_cases h12 : i.op = 21
  · rw [if_pos h12]; exact .jump h12
  rw [if_neg h12]
  by_cases h13 : i.op = 22
  · rw [if_pos h13]; exact .els h13
  rw [if_neg h13]
  have := special_stp hg hi f
  generalize special M u i f = G at *
  obtain ⟨b, g⟩ := G
  exact .plain h4 h12 h13 this
end Go.Proofs.Ytkhagebjphaboaa.Ver
