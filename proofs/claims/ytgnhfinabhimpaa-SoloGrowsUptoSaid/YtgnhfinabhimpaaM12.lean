/- What package verify computes: what a unit's flow keeps, and that it comes to an end. Plain Lean. -/
import Derived.Test.YtgnhfinabhimpaaM11
namespace Go.Proofs.Ytgnhfinabhimpaa.Ver
set_option linter.unusedVariables false
set_option linter.unusedSimpArgs false
open ImgM

/-- the stack and the fault apart the same -/
structure Same (f g : Flow) : Prop where
  at_ : g.at_ = f.at_
  todo : g.todo = f.todo
  has : g.has = f.has
theorem Same.refl (f : Flow) : Same f f := ⟨rfl, rfl, rfl⟩
theorem Same.trans {f g h : Flow} (a : Same f g) (b : Same g h) : Same f h := ⟨b.at_.trans a.at_, b.todo.trans a.todo, b.has.trans a.has⟩
/-- the stack grows by one at most, and if it is too large there is a fault; what is on it are numbers of 64 bits; a fault stays -/
structure Kept (N : Nat) (f g : Flow) : Prop where
  same : Same f g
  len : g.stack.length ≤ N
  ty : (∀ t ∈ f.stack, In64 t) → ∀ t ∈ g.stack, In64 t
  err : ¬ f.err = 0 → g.err = f.err

theorem fail_kept (e : Int) (f : Flow) : Kept f.stack.length f (fail e f) := by
  unfold fail
  split
  · exact ⟨⟨rfl, rfl, rfl⟩, Nat.le_refl _, fun h => h, fun h => absurd ‹f.err = 0› h⟩
  · exact ⟨⟨rfl, rfl, rfl⟩, Nat.le_refl _, fun h => h, fun _ => rfl⟩
theorem fail_err (e : Int) (he : ¬ e = 0) (f : Flow) : ¬ (fail e f).err = 0 := by
  unfold fail
  split
  · exact he
  · assumption
theorem Kept.refl (f : Flow) : Kept f.stack.length f f := ⟨Same.refl f, Nat.le_refl _, fun h => h, fun _ => rfl⟩
theorem Kept.le {N M : Nat} {f g : Flow} (h : Kept N f g) (hm : N ≤ M) : Kept M f g := ⟨h.same, Nat.le_trans h.len hm, h.ty, h.err⟩
theorem Kept.trans {N M : Nat} {f g h : Flow} (a : Kept N f g) (b : Kept M g h) : Kept M f h :=
  ⟨a.same.trans b.same, b.len, fun t => b.ty (a.ty t), fun e => (b.err (by rw [a.err e]; exact e)).trans (a.err e)⟩
theorem pop_kept (f : Flow) : Kept f.stack.length f (pop f).2 := by
  unfold pop
  split
  · exact fail_kept _ _
  · exact ⟨⟨rfl, rfl, rfl⟩, by simp, fun h t ht => h t (List.mem_of_mem_take ht), fun _ => rfl⟩
theorem pop_ty (f : Flow) (h : ∀ t ∈ f.stack, In64 t) : In64 (pop f).1 := by
  unfold pop
  split
  · unfold In64; simp only; omega
  · refine h _ ?_
    rw [List.getD_eq_getElem?_getD, List.getElem?_eq_getElem (by omega)]
    exact List.getElem_mem _
theorem want1_kept (t : Int) (f : Flow) : Kept f.stack.length f (want1 t f) := by
  have h := pop_kept f
  unfold want1
  split
  · exact (h.trans (fail_kept 9 _)).le h.len
  · exact h
theorem want_kept (l : List Int) (f : Flow) : Kept f.stack.length f (want l f) := by
  induction l with
  | nil => exact Kept.refl f
  | cons t r ih => exact (ih.trans (want1_kept t _)).le ih.len
theorem push_kept (t : Int) (f : Flow) (ht : In64 t) : Kept (f.stack.length + 1) f (push t f) := by
  unfold push
  split
  · have h := fail_kept 4 { f with stack := f.stack ++ [t] }
    refine ⟨⟨h.same.at_, h.same.todo, h.same.has⟩, by have := h.len; simpa using this, fun hf => h.ty (fun u hu => ?_), h.err⟩
    rcases List.mem_append.1 hu with hu | hu
    · exact hf u hu
    · simp at hu; rw [hu]; exact ht
  · refine ⟨⟨rfl, rfl, rfl⟩, by simp, fun hf u hu => ?_, fun _ => rfl⟩
    rcases List.mem_append.1 hu with hu | hu
    · exact hf u hu
    · simp at hu; rw [hu]; exact ht
theorem push_ok (t : Int) (f : Flow) (h : (push t f).err = 0) : (push t f).stack.length ≤ 300 := by
  unfold push at h ⊢
  split
  · rename_i h1
    rw [if_pos h1] at h
    exact absurd h (fail_err 4 (by decide) _)
  · simp; omega
theorem args_kept (M : Mdl) (k : Int) (f : Flow) : Kept f.stack.length f (args M k f) := want_kept _ _
theorem gen_kept (M : Mdl) (f : Flow) : Kept f.stack.length f (gen M f).2 := by
  have h := pop_kept f
  unfold gen
  split
  · exact h
  split
  · exact (h.trans (fail_kept 9 _)).le h.len
  · exact h
theorem done_kept (f : Flow) : Kept f.stack.length f (done f) := by
  unfold done
  split
  · exact Kept.refl f
  · exact fail_kept _ _

/-- what a unit's code needs of its module -/
structure Good (M : Mdl) (u : Unt) : Prop where
  units : ∀ k, k < M.units.length → In64 (M.units.getD k default).result ∧ In64 (M.units.getD k default).takes
  boxes : ∀ k, k < M.boxes.length → In64 (M.boxes.getD k default).1
  locals : ∀ t ∈ u.locals, In64 t
  result : In64 u.result
  takes : In64 u.takes
  few : M.units.length ≤ 30
  code : ∀ i ∈ u.code, instr M u i = 0
theorem rng_eq {b : Bool} (h : rng b = 0) : b = true := by
  unfold rng at h
  split at h
  · assumption
  · cases h
theorem unit_eq {M : Mdl} {i kind : Int} (h : isUnit M i kind = true) : 0 ≤ i ∧ i < (M.units.length : Int) ∧ (M.units.getD i.toNat default).kind = kind := by
  simp only [isUnit, Bool.and_eq_true, decide_eq_true_eq] at h
  exact ⟨h.1.1, h.1.2, h.2⟩
/-- what an instruction's form says -/
structure InsOk (M : Mdl) (u : Unt) (i : Ins) : Prop where
  op : 1 ≤ i.op ∧ i.op ≤ 32
  loc : i.op = 3 ∨ i.op = 4 → 0 ≤ i.a ∧ i.a < (u.locals.length : Int)
  jump : i.op = 21 ∨ i.op = 22 → 0 ≤ i.a ∧ i.a < (u.code.length : Int)
  call : i.op = 23 → isUnit M i.a 2 = true
  start : i.op = 29 → isUnit M i.a 3 = true
  box : i.op = 26 ∨ i.op = 27 → 0 ≤ i.a ∧ i.a < (M.boxes.length : Int)
theorem instr_ok {M : Mdl} {u : Unt} {i : Ins} (h : instr M u i = 0) : InsOk M u i := by
  unfold instr at h
  by_cases h1 : i.op = 2
  · exact ⟨by omega, by omega, by omega, by omega, by omega, by omega⟩
  rw [if_neg h1] at h
  by_cases h2 : i.op = 3 ∨ i.op = 4
  · rw [if_pos h2] at h
    have := rng_eq h
    simp only [Bool.and_eq_true, decide_eq_true_eq] at this
    exact ⟨by omega, fun _ => this, by omega, by omega, by omega, by omega⟩
  rw [if_neg h2] at h
  by_cases h3 : i.op = 21 ∨ i.op = 22
  · rw [if_pos h3] at h
    have := rng_eq h
    simp only [Bool.and_eq_true, decide_eq_true_eq] at this
    exact ⟨by omega, by omega, fun _ => this, by omega, by omega, by omega⟩
  rw [if_neg h3] at h
  by_cases h4 : i.op = 23
  · rw [if_pos h4] at h
    exact ⟨by omega, by omega, by omega, fun _ => rng_eq h, by omega, by omega⟩
  rw [if_neg h4] at h
  by_cases h5 : i.op = 29
  · rw [if_pos h5] at h
    exact ⟨by omega, by omega, by omega, by omega, fun _ => rng_eq h, by omega⟩
  rw [if_neg h5] at h
  by_cases h6 : i.op = 26 ∨ i.op = 27
  · rw [if_pos h6] at h
    have := rng_eq h
    simp only [Bool.and_eq_true, decide_eq_true_eq] at this
    exact ⟨by omega, by omega, by omega, by omega, by omega, fun _ => this⟩
  rw [if_neg h6] at h
  by_cases h7 : i.op < 1 ∨ 32 < i.op
  · rw [if_pos h7] at h; cases h
  · exact ⟨by omega, by omega, by omega, by omega, by omega, by omega⟩

theorem getD_in {l : List Int} {k : Nat} (h : ∀ t ∈ l, In64 t) : In64 (l.getD k 0) := by
  rw [List.getD_eq_getElem?_getD]
  rcases Nat.lt_or_ge k l.length with hk | hk
  · rw [List.getElem?_eq_getElem hk]; exact h _ (List.getElem_mem _)
  · rw [List.getElem?_eq_none hk]; unfold In64; simp
theorem in1 : In64 1 := by unfold In64; omega
theorem in2 : In64 2 := by unfold In64; omega

/-- what a step that goes nowhere keeps -/
structure Stp (f g : Flow) : Prop where
  kept : Kept (f.stack.length + 1) f g
  ok : g.err = 0 → f.stack.length ≤ 300 → g.stack.length ≤ 300
theorem Stp.of {f g : Flow} (h : Kept f.stack.length f g) : Stp f g := ⟨h.le (Nat.le_succ _), fun _ hl => Nat.le_trans h.len hl⟩
theorem Stp.push {f g : Flow} (h : Kept f.stack.length f g) (t : Int) (ht : In64 t) : Stp f (push t g) :=
  ⟨(h.trans (push_kept t g ht)).le (Nat.succ_le_succ h.len), fun he _ => push_ok t g he⟩
theorem Kept.fail {f g : Flow} (h : Kept f.stack.length f g) (e : Int) : Kept f.stack.length f (fail e g) := (h.trans (fail_kept e g)).le h.len
theorem Kept.ite {f : Flow} {c : Prop} [Decidable c] {a b : Flow} (ha : Kept f.stack.length f a) (hb : Kept f.stack.length f b) : Kept f.stack.length f (if c then a else b) := by split <;> assumption
theorem Kept.want {f g : Flow} (h : Kept f.stack.length f g) (l : List Int) : Kept f.stack.length f (want l g) := (h.trans (want_kept l g)).le h.len
theorem Kept.done {f g : Flow} (h : Kept f.stack.length f g) : Kept f.stack.length f (done g) := (h.trans (done_kept g)).le h.len

theorem special_stp {M : Mdl} {u : Unt} (hg : Good M u) {i : Ins} (hi : InsOk M u i) (f : Flow) : Stp f (special M u i f).2 := by
  unfold special
  by_cases h1 : i.op = 23
  · rw [if_pos h1]
    obtain ⟨g1, g2, g3⟩ := unit_eq (hi.call h1)
    exact Stp.push (args_kept M _ f) _ (hg.units i.a.toNat (by omega)).1
  rw [if_neg h1]
  by_cases h2 : i.op = 29
  · rw [if_pos h2]
    obtain ⟨g1, g2, g3⟩ := unit_eq (hi.start h2)
    have := hg.few
    exact Stp.push (args_kept M _ f) _ (by unfold In64; omega)
  rw [if_neg h2]
  by_cases h3 : i.op = 24
  · rw [if_pos h3]; exact Stp.of (((Kept.refl f).fail 8 |>.ite (Kept.refl f)).want _ |>.done)
  rw [if_neg h3]
  by_cases h4 : i.op = 25
  · rw [if_pos h4]; exact Stp.of (((Kept.refl f).fail 8 |>.ite (Kept.refl f)).done)
  rw [if_neg h4]
  by_cases h5 : i.op = 26
  · rw [if_pos h5]; exact Stp.of ((Kept.refl f).want _)
  rw [if_neg h5]
  by_cases h6 : i.op = 27
  · rw [if_pos h6]
    have := hi.box (.inr h6)
    exact Stp.push (Kept.refl f) _ (hg.boxes i.a.toNat (by omega))
  rw [if_neg h6]
  by_cases h7 : i.op = 28
  · rw [if_pos h7]; exact Stp.of ((pop_kept f).fail 9 |>.ite (pop_kept f))
  rw [if_neg h7]
  by_cases h8 : i.op = 30
  · rw [if_pos h8]
    have hk := (pop_kept f).trans (gen_kept M (pop f).2)
    have hk' := hk.le (pop_kept f).len
    have hu : ∀ k, (gen M (pop f).2).1 = some k → 0 ≤ k ∧ k < (M.units.length : Int) := by
      unfold gen
      split
      · intro k h; cases h
      split
      · intro k h; cases h
      · intro k h
        rename_i h2
        simp only [Option.some.injEq] at h
        subst h
        have h3 : handle M (pop (pop f).2).1 = true := by simpa using h2
        simp only [handle, Bool.and_eq_true] at h3
        obtain ⟨q1, q2, -⟩ := unit_eq h3.2
        exact ⟨q1, q2⟩
    generalize gen M (pop f).2 = G at *
    obtain ⟨o, g⟩ := G
    cases o with
    | none => exact Stp.of hk'
    | some k =>
      have := hu k rfl
      exact Stp.push ((hk'.fail 9).ite hk') _ (hg.units k.toNat (by omega)).1
  rw [if_neg h8]
  by_cases h9 : i.op = 31
  · rw [if_pos h9]
    exact Stp.push (((Kept.refl f).fail 8 |>.ite (Kept.refl f)).want _) _ hg.takes
  rw [if_neg h9]
  by_cases h10 : i.op = 32
  · rw [if_pos h10]; exact Stp.push (gen_kept M f) _ in2
  rw [if_neg h10]
  exact Stp.of (Kept.refl f)

/-- what a step does, jumps apart -/
inductive StepIs (M : Mdl) (u : Unt) (i : Ins) (f : Flow) : Bool × Flow → Prop
  | plain {b : Bool} {g : Flow} : i.op ≠ 4 → i.op ≠ 21 → i.op ≠ 22 → Stp f g → StepIs M u i f (b, g)
  | store {g : Flow} : i.op = 4 → Kept f.stack.length f g → StepIs M u i f (true, { g with has := g.has.set i.a.toNat true })
  | jump : i.op = 21 → StepIs M u i f (false, to u.code.length i.a f)
  | els : i.op = 22 → StepIs M u i f (true, to u.code.length i.a (want [2] f))
theorem step_is {M : Mdl} {u : Unt} (hg : Good M u) {i : Ins} (hi : InsOk M u i) (f : Flow) : StepIs M u i f (step M u i f) := by
  unfold step
  by_cases h1 : i.op = 1
  · rw [if_pos h1]; exact .plain (by omega) (by omega) (by omega) (Stp.push (Kept.refl f) _ in1)
  rw [if_neg h1]
  by_cases h2 : i.op = 2
  · rw [if_pos h2]; exact .plain (by omega) (by omega) (by omega) (Stp.push (Kept.refl f) _ in2)
  rw [if_neg h2]
  by_cases h3 : i.op = 3
  · rw [if_pos h3]; exact .plain (by omega) (by omega) (by omega) (Stp.push (by split; exact Kept.refl f; exact (Kept.refl f).fail 11) _ (getD_in hg.locals))
  rw [if_neg h3]
  by_cases h4 : i.op = 4
  · rw [if_pos h4]; exact .store h4 ((Kept.refl f).want _)
  rw [if_neg h4]
  by_cases h5 : i.op = 5
  · rw [if_pos h5]; exact .plain (by omega) (by omega) (by omega) (Stp.of (pop_kept f))
  rw [if_neg h5]
  by_cases h6 : i.op = 6
  · rw [if_pos h6]; exact .plain (by omega) (by omega) (by omega) (Stp.push ((Kept.refl f).want _) _ in1)
  rw [if_neg h6]
  by_cases h7 : i.op = 7
  · rw [if_pos h7]; exact .plain (by omega) (by omega) (by omega) (Stp.push ((Kept.refl f).want _) _ in2)
  rw [if_neg h7]
  by_cases h8 : 8 ≤ i.op ∧ i.op ≤ 12
  · rw [if_pos h8]; exact .plain (by omega) (by omega) (by omega) (Stp.push ((Kept.refl f).want _) _ in1)
  rw [if_neg h8]
  by_cases h9 : i.op = 13 ∨ i.op = 14
  · rw [if_pos h9]; exact .plain (by omega) (by omega) (by omega) (Stp.push (((pop_kept f).fail 9 |>.ite (pop_kept f)).want _) _ in2)
  rw [if_neg h9]
  by_cases h10 : 15 ≤ i.op ∧ i.op ≤ 18
  · rw [if_pos h10]; exact .plain (by omega) (by omega) (by omega) (Stp.push ((Kept.refl f).want _) _ in2)
  rw [if_neg h10]
  by_cases h11 : i.op = 19 ∨ i.op = 20
  · rw [if_pos h11]; exact .plain (by omega) (by omega) (by omega) (Stp.push ((Kept.refl f).want _) _ in2)
  rw [if_neg h11]
  by_cases h12 : i.op = 21
  · rw [if_pos h12]; exact .jump h12
  rw [if_neg h12]
  by_cases h13 : i.op = 22
  · rw [if_pos h13]; exact .els h13
  rw [if_neg h13]
  have := special_stp hg hi f
  generalize special M u i f = G at *
  obtain ⟨b, g⟩ := G
  exact .plain h4 h12 h13 this
end Go.Proofs.Ytgnhfinabhimpaa.Ver

/- What package verify computes: a unit's flow comes to an end. Plain Lean. -/
namespace Go.Proofs.Ytgnhfinabhimpaa.Ver
set_option linter.unusedVariables false
set_option linter.unusedSimpArgs false
open ImgM

theorem find_nil (k : Int) : find [] k = none := rfl
theorem find_cons (p : Int × Shape) (l : List (Int × Shape)) (k : Int) : find (p :: l) k = if p.1 = k then some p.2 else find l k := by
  unfold find
  by_cases h : p.1 = k <;> simp [h]
theorem find_app (l : List (Int × Shape)) (p q : Int) (s : Shape) (h : find l p = none) : find (l ++ [(p, s)]) q = if p = q then some s else find l q := by
  induction l with
  | nil => simp [find_cons, find_nil]
  | cons a l ih =>
    rw [find_cons] at h
    by_cases ha : a.1 = p
    · rw [if_pos ha] at h; cases h
    · rw [if_neg ha] at h
      rw [List.cons_append, find_cons, find_cons, ih h]
      by_cases haq : a.1 = q
      · have : ¬ p = q := fun h => ha (by rw [haq, h])
        rw [if_pos haq, if_neg this, if_pos haq]
      · rw [if_neg haq, if_neg haq]
theorem find_put (l : List (Int × Shape)) (p q : Int) (s s0 : Shape) (h : find l p = some s0) : find (put l p s) q = if p = q then some s else find l q := by
  induction l with
  | nil => cases h
  | cons a l ih =>
    rw [find_cons] at h
    unfold put
    by_cases ha : a.1 = p
    · rw [if_pos ha, find_cons, find_cons]
      by_cases hpq : p = q
      · rw [if_pos (by rw [ha]; exact hpq), if_pos hpq]
      · rw [if_neg (by simp only; rw [ha]; exact hpq), if_neg hpq, if_neg (by rw [ha]; exact hpq)]
    · rw [if_neg ha] at h
      rw [if_neg ha, find_cons, find_cons, ih h]
      by_cases haq : a.1 = q
      · have : ¬ p = q := fun h => ha (by rw [haq, h])
        rw [if_pos haq, if_neg this, if_pos haq]
      · rw [if_neg haq, if_neg haq]

theorem meet_length : ∀ (a b : List Bool), a.length = b.length → (meet a b).length = a.length
  | [], [], _ => rfl
  | [], _ :: _, h => by cases h
  | _ :: _, [], h => by cases h
  | x :: a, y :: b, h => by simp [meet, meet_length a b (by simpa using h)]
theorem meet_count : ∀ (a b : List Bool), a.length = b.length → (meet a b).count true ≤ a.count true ∧ (¬ meet a b = a → (meet a b).count true < a.count true)
  | [], [], _ => ⟨Nat.le_refl _, fun h => absurd rfl h⟩
  | [], _ :: _, h => by cases h
  | _ :: _, [], h => by cases h
  | x :: a, y :: b, h => by
    obtain ⟨h1, h2⟩ := meet_count a b (by simpa using h)
    unfold meet
    cases x <;> cases y <;> simp only [Bool.and_true, Bool.and_false, Bool.true_and, Bool.false_and, List.count_cons, beq_self_eq_true, if_true]
    · exact ⟨by simpa using h1, fun hn => by have := h2 (fun e => hn (by rw [e])); simpa using this⟩
    · exact ⟨by simpa using h1, fun hn => by have := h2 (fun e => hn (by rw [e])); simpa using this⟩
    · refine ⟨by simp; omega, fun _ => by simp; omega⟩
    · exact ⟨by omega, fun hn => by have := h2 (fun e => hn (by rw [e])); omega⟩

/-- how much may still come about at a place -/
def weight (L : Nat) : Option Shape → Nat
  | none => L + 1
  | some s => s.2.count true
def room (n L : Nat) (l : List (Int × Shape)) : Nat := ((List.range n).map fun (p : Nat) => weight L (find l (p : Int))).sum
theorem room_nil (n L : Nat) : room n L [] = n * (L + 1) := by
  unfold room
  simp only [find_nil, weight]
  induction n with
  | zero => simp
  | succ n ih => rw [List.range_succ, List.map_append, List.sum_append, ih]; simp [Nat.add_mul]
theorem sum_le (g h : Nat → Nat) : ∀ (l : List Nat), (∀ p, g p ≤ h p) → (l.map g).sum ≤ (l.map h).sum
  | [], _ => Nat.le_refl _
  | a :: l, hle => by
    simp only [List.map_cons, List.sum_cons]
    have := sum_le g h l hle
    have := hle a
    omega
theorem sum_lt (g h : Nat → Nat) (p0 : Nat) (hlt : g p0 < h p0) : ∀ (l : List Nat), (∀ p, g p ≤ h p) → p0 ∈ l → (l.map g).sum < (l.map h).sum
  | [], _, hp => by cases hp
  | a :: l, hle, hp => by
    simp only [List.map_cons, List.sum_cons]
    have h1 := hle a
    have h2 := sum_le g h l hle
    rcases List.mem_cons.1 hp with rfl | hp
    · omega
    · have := sum_lt g h p0 hlt l hle hp
      omega
/-- what holds of a flow at all times; n: how many instructions; L: how many locals -/
structure Inv (n L : Nat) (f : Flow) : Prop where
  has : f.has.length = L
  ent : ∀ p s, find f.at_ p = some s → s.1.length ≤ 300 ∧ (∀ t ∈ s.1, In64 t) ∧ s.2.length = L
  todo : ∀ p ∈ f.todo, 0 ≤ p ∧ p < (n : Int) ∧ (find f.at_ p).isSome = true
theorem Inv.same {n L : Nat} {f g : Flow} (h : Inv n L f) (s : Same f g) : Inv n L g :=
  ⟨by rw [s.has]; exact h.has, by rw [s.at_]; exact h.ent, by rw [s.todo, s.at_]; exact h.todo⟩
/-- what going to a place does -/
structure Went (n L : Nat) (f g : Flow) : Prop where
  inv : Inv n L g
  stack : g.stack = f.stack
  has : g.has = f.has
  err : ¬ f.err = 0 → g.err = f.err
  mu : g.todo.length + room n L g.at_ ≤ f.todo.length + room n L f.at_
  old : ∀ p, (find f.at_ p).isSome = true → (find g.at_ p).isSome = true
theorem Went.refl {n L : Nat} {f : Flow} (h : Inv n L f) : Went n L f f := ⟨h, rfl, rfl, fun _ => rfl, Nat.le_refl _, fun _ h => h⟩
theorem fail_went {n L : Nat} {f : Flow} (h : Inv n L f) (e : Int) : Went n L f (fail e f) := by
  have k := fail_kept e f
  have hst : (fail e f).stack = f.stack := by unfold fail; split <;> rfl
  exact ⟨h.same k.same, hst, k.same.has, k.err, by rw [k.same.todo, k.same.at_]; exact Nat.le_refl _, fun p hp => by rw [k.same.at_]; exact hp⟩
theorem to_went {n L : Nat} {f : Flow} (h : Inv n L f) {p : Int} (h0 : 0 ≤ p) (hn : p ≤ (n : Int)) (hs : f.err = 0 → f.stack.length ≤ 300) (ht : ∀ t ∈ f.stack, In64 t) : Went n L f (to n p f) := by
  unfold to
  by_cases he : ¬ f.err = 0
  · rw [if_pos he]; exact Went.refl h
  have he : f.err = 0 := Decidable.not_not.1 he
  rw [if_neg (fun h => h he)]
  by_cases hp : p = (n : Int)
  · rw [if_pos hp]; exact fail_went h 3
  rw [if_neg hp]
  have hmem : p.toNat ∈ List.range n := List.mem_range.2 (by omega)
  have hcast : ((p.toNat : Nat) : Int) = p := by omega
  cases hf : find f.at_ p with
  | none =>
    simp only
    have hfa := fun q => find_app f.at_ p q (f.stack, f.has) hf
    have hcnt : f.has.count true ≤ L := by rw [← h.has]; exact List.count_le_length
    refine ⟨⟨h.has, fun q s hq => ?_, fun q hq => ?_⟩, rfl, rfl, fun h => absurd he h, ?_, fun q hq => ?_⟩
    · simp only at hq
      rw [hfa] at hq
      by_cases hpq : p = q
      · rw [if_pos hpq] at hq
        cases hq
        exact ⟨hs he, ht, h.has⟩
      · rw [if_neg hpq] at hq; exact h.ent q s hq
    · simp only at hq ⊢
      rw [hfa]
      by_cases hpq : p = q
      · subst hpq; rw [if_pos rfl]; exact ⟨h0, by omega, rfl⟩
      · rw [if_neg hpq]
        rcases List.mem_append.1 hq with hq | hq
        · exact h.todo q hq
        · simp at hq; exact absurd hq.symm hpq
    · simp only
      have := sum_lt (fun q => weight L (find (f.at_ ++ [(p, (f.stack, f.has))]) (q : Int))) (fun q => weight L (find f.at_ (q : Int))) p.toNat (by
        (try simp only)
        rw [hfa, hcast, if_pos rfl, hf]
        simp only [weight]; omega) (List.range n) (fun q => by
        (try simp only)
        rw [hfa]
        split
        · rename_i hpq; rw [← hpq, hf]; simp only [weight]; omega
        · exact Nat.le_refl _) hmem
      unfold room
      simp only [List.length_append, List.length_cons, List.length_nil]
      omega
    · simp only
      rw [hfa]; split
      · rfl
      · exact hq
  | some s =>
    simp only
    obtain ⟨g1, g2, g3⟩ := h.ent p s hf
    by_cases hst : ¬ s.1 = f.stack
    · rw [if_pos hst]; exact fail_went h 8
    have hst : s.1 = f.stack := Decidable.not_not.1 hst
    rw [if_neg (fun h => h hst)]
    by_cases hm : meet s.2 f.has = s.2
    · rw [if_pos hm]; exact Went.refl h
    rw [if_neg hm]
    have hfp := fun q => find_put f.at_ p q (s.1, meet s.2 f.has) s hf
    have hlen := meet_length s.2 f.has (by rw [g3, h.has])
    obtain ⟨m1, m2⟩ := meet_count s.2 f.has (by rw [g3, h.has])
    have m3 := m2 hm
    refine ⟨⟨h.has, fun q s' hq => ?_, fun q hq => ?_⟩, rfl, rfl, fun h => absurd he h, ?_, fun q hq => ?_⟩
    · simp only at hq
      rw [hfp] at hq
      by_cases hpq : p = q
      · rw [if_pos hpq] at hq
        cases hq
        exact ⟨g1, g2, by simp only; rw [hlen]; exact g3⟩
      · rw [if_neg hpq] at hq; exact h.ent q s' hq
    · simp only at hq ⊢
      rw [hfp]
      by_cases hpq : p = q
      · subst hpq; rw [if_pos rfl]; exact ⟨h0, by omega, rfl⟩
      · rw [if_neg hpq]
        rcases List.mem_append.1 hq with hq | hq
        · exact h.todo q hq
        · simp at hq; exact absurd hq.symm hpq
    · simp only
      have := sum_lt (fun q => weight L (find (put f.at_ p (s.1, meet s.2 f.has)) (q : Int))) (fun q => weight L (find f.at_ (q : Int))) p.toNat (by
        (try simp only)
        rw [hfp, hcast, if_pos rfl, hf]
        simp only [weight]; omega) (List.range n) (fun q => by
        (try simp only)
        rw [hfp]
        split
        · rename_i hpq; rw [← hpq, hf]; simp only [weight]; omega
        · exact Nat.le_refl _) hmem
      unfold room
      simp only [List.length_append, List.length_cons, List.length_nil]
      omega
    · simp only
      rw [hfp]; split
      · rfl
      · exact hq
/-- what a step, or a round, does to a flow -/
structure Gone (n L : Nat) (f g : Flow) : Prop where
  inv : Inv n L g
  len : g.stack.length ≤ 301
  ok : g.err = 0 → g.stack.length ≤ 300
  ty : ∀ t ∈ g.stack, In64 t
  mu : g.todo.length + room n L g.at_ ≤ f.todo.length + room n L f.at_
theorem step_gone {M : Mdl} {u : Unt} (hg : Good M u) {i : Ins} (hi : InsOk M u i) {f : Flow} {n L : Nat} (hn : n = u.code.length) (hL : L = u.locals.length) (h : Inv n L f) (hl : f.stack.length ≤ 300) (ht : ∀ t ∈ f.stack, In64 t) : Gone n L f (step M u i f).2 := by
  have hs := step_is hg hi f
  generalize step M u i f = G at *
  cases hs with
  | @plain b g h1 h2 h3 hk =>
    exact ⟨h.same hk.kept.same, Nat.le_trans hk.kept.len (by omega), fun he => hk.ok he hl, hk.kept.ty ht, by rw [hk.kept.same.todo, hk.kept.same.at_]; exact Nat.le_refl _⟩
  | @store g h1 hk =>
    have := h.same hk.same
    exact ⟨⟨by simp only [List.length_set]; exact this.has, this.ent, this.todo⟩, Nat.le_trans hk.len (by omega), fun _ => Nat.le_trans hk.len hl, hk.ty ht, by simp only; rw [hk.same.todo, hk.same.at_]; exact Nat.le_refl _⟩
  | jump h1 =>
    have hj := hi.jump (.inl h1)
    have hw := to_went (p := i.a) h (by omega) (by omega) (fun _ => hl) ht
    rw [← hn]
    exact ⟨hw.inv, by simp only [hw.stack]; omega, fun _ => by simp only [hw.stack]; omega, by simp only [hw.stack]; exact ht, hw.mu⟩
  | els h1 =>
    have hj := hi.jump (.inr h1)
    have hk := want_kept [2] f
    have hw := to_went (p := i.a) (h.same hk.same) (by omega) (by omega) (fun _ => Nat.le_trans hk.len hl) (hk.ty ht)
    have hl2 := Nat.le_trans hk.len hl
    rw [← hn]
    exact ⟨hw.inv, by simp only [hw.stack]; omega, fun _ => by simp only [hw.stack]; omega, by simp only [hw.stack]; exact hk.ty ht, by
      have := hw.mu
      rw [hk.same.todo, hk.same.at_] at this
      exact this⟩
end Go.Proofs.Ytgnhfinabhimpaa.Ver

/- What package verify computes: the units that a task comes to. Plain Lean. -/
namespace Go.Proofs.Ytgnhfinabhimpaa.Ver
set_option linter.unusedVariables false
set_option linter.unusedSimpArgs false
open ImgM

/-- units' numbers, each once -/
structure Once (N : Nat) (l : List Int) : Prop where
  nodup : l.Nodup
  ok : ∀ x ∈ l, 0 ≤ x ∧ x < (N : Int)
theorem nodup_le : ∀ (N : Nat) (l : List Int), Once N l → l.length ≤ N
  | 0, l, h => by
    cases l with
    | nil => exact Nat.le_refl _
    | cons x r => have := h.ok x List.mem_cons_self; omega
  | N + 1, l, h => by
    have h2 : Once N (l.filter fun x => decide (x ≠ (N : Int))) := ⟨h.nodup.filter _, fun x hx => by
      rw [List.mem_filter] at hx
      have := h.ok x hx.1
      have h3 : x ≠ (N : Int) := by simpa using hx.2
      omega⟩
    have h3 := nodup_le N _ h2
    have h4 : ∀ l : List Int, l.Nodup → l.length ≤ (l.filter fun x => decide (x ≠ (N : Int))).length + 1 := by
      intro l hl
      induction l with
      | nil => simp
      | cons a r ih =>
        rw [List.nodup_cons] at hl
        rw [List.filter_cons]
        by_cases ha : a = (N : Int)
        · have : r.filter (fun x => decide (x ≠ (N : Int))) = r := List.filter_eq_self.2 (fun x hx => by
            have : x ≠ (N : Int) := fun e => hl.1 (by rw [ha, ← e]; exact hx)
            simpa using this)
          rw [if_neg (by simpa using ha), this]
          simp
        · rw [if_pos (by simpa using ha)]
          have := ih hl.2
          simp only [List.length_cons]
          omega
    have := h4 l h.nodup
    omega
theorem Once.len {N : Nat} {l : List Int} (h : Once N l) : l.length ≤ N := nodup_le N l h
theorem Once.snoc {N : Nat} {l : List Int} (h : Once N l) {a : Int} (ha : a ∉ l) (h1 : 0 ≤ a ∧ a < (N : Int)) : Once N (l ++ [a]) := by
  refine ⟨?_, fun x hx => ?_⟩
  · rw [List.nodup_append]
    exact ⟨h.nodup, by simp, fun x hx y hy => by
      simp at hy
      subst hy
      exact fun e => ha (e ▸ hx)⟩
  · rcases List.mem_append.1 hx with hx | hx
    · exact h.ok x hx
    · simp at hx; subst hx; exact h1
theorem Once.one {N k : Nat} (h : k < N) : Once N [(k : Int)] := ⟨by simp, fun x hx => by simp at hx; subst hx; omega⟩
/-- one instruction -/
def call1 (out : List Int) (i : Ins) : List Int := if (i.op = 23 ∨ i.op = 29) ∧ i.a ∉ out then out ++ [i.a] else out
theorem calls_cons (i : Ins) (l : List Ins) (out : List Int) : calls (i :: l) out = calls l (call1 out i) := rfl
theorem calls_nil (out : List Int) : calls [] out = out := rfl
theorem call1_once {N : Nat} {out : List Int} {i : Ins} (h : Once N out) (hi : i.op = 23 ∨ i.op = 29 → 0 ≤ i.a ∧ i.a < (N : Int)) : Once N (call1 out i) := by
  unfold call1
  split
  · rename_i h1
    exact h.snoc h1.2 (hi h1.1)
  · exact h
theorem calls_once {N : Nat} : ∀ (l : List Ins) (out : List Int), Once N out → (∀ i ∈ l, i.op = 23 ∨ i.op = 29 → 0 ≤ i.a ∧ i.a < (N : Int)) → Once N (calls l out)
  | [], _, h, _ => h
  | i :: l, out, h, hi => by
    rw [calls_cons]
    exact calls_once l _ (call1_once h (hi i List.mem_cons_self)) (fun j hj => hi j (List.mem_cons_of_mem _ hj))
theorem reachRun_step {M : Mdl} {n k : Nat} {out : List Int} (h : k < out.length) : reachRun M (n + 1) k out = reachRun M n (k + 1) (calls (M.units.getD (out.getD k 0).toNat default).code out) := by
  conv => lhs; unfold reachRun
  rw [if_pos h]
theorem reachRun_end {M : Mdl} {n k : Nat} {out : List Int} (h : ¬ k < out.length) : reachRun M n k out = out := by
  cases n with
  | zero => rfl
  | succ n => unfold reachRun; rw [if_neg h]
theorem reachRun_once {M : Mdl} {N : Nat} (hc : ∀ k, k < N → ∀ i ∈ (M.units.getD k default).code, i.op = 23 ∨ i.op = 29 → 0 ≤ i.a ∧ i.a < (N : Int)) : ∀ (n k : Nat) (out : List Int), Once N out → Once N (reachRun M n k out)
  | 0, _, _, h => h
  | n + 1, k, out, h => by
    unfold reachRun
    split
    · rename_i hk
      refine reachRun_once hc n (k + 1) _ (calls_once _ _ h (hc _ ?_))
      have := h.ok (out.getD k 0) (by rw [List.getD_eq_getElem?_getD, List.getElem?_eq_getElem hk]; exact List.getElem_mem _)
      omega
    · exact h
theorem owned_1 {M : Mdl} {b n : Nat} (h : 1 < users M 26 b ∨ 1 < users M 27 b) : owned M b (n + 1) = ⟨8, 0, b⟩ := by unfold owned; rw [if_pos h]
theorem owned_2 {M : Mdl} {b n : Nat} (h : ¬(1 < users M 26 b ∨ 1 < users M 27 b)) : owned M b (n + 1) = owned M (b + 1) n := by
  conv => lhs; unfold owned
  rw [if_neg h]
/-- how many of the first k tasks -/
def usersTo (M : Mdl) (op b : Int) (k : Nat) : Nat := ((List.range k).filter fun k => decide ((M.units.getD k default).kind = 4) && uses M op b k).length
theorem usersTo_succ (M : Mdl) (op b : Int) (k : Nat) : usersTo M op b (k + 1) = usersTo M op b k + if (decide ((M.units.getD k default).kind = 4) && uses M op b k) = true then 1 else 0 := by
  unfold usersTo
  rw [List.range_succ, List.filter_append, List.length_append]
  congr 1
  rw [List.filter_cons]
  split <;> rfl
theorem usersTo_le (M : Mdl) (op b : Int) (k : Nat) : usersTo M op b k ≤ k := by
  unfold usersTo
  exact Nat.le_trans (List.length_filter_le _ _) (by simp)
end Go.Proofs.Ytgnhfinabhimpaa.Ver

/- What a right form says. Plain Lean. -/
namespace Go.Proofs.Ytgnhfinabhimpaa.Ver
set_option linter.unusedVariables false
set_option linter.unusedSimpArgs false
open ImgM

theorem boxes_ok : ∀ (l : List (Int × Int)) (i : Nat), (boxes i l).err = 0 ↔ ∀ b ∈ l, plain b.1 = true ∧ 1 ≤ b.2 ∧ b.2 ≤ 20
  | [], i => by simp [boxes, Where.ok]
  | b :: r, i => by
    by_cases h1 : plain b.1 = false
    · rw [boxes_1 h1]
      simp [h1]
    · have h1' : plain b.1 = true := by simpa using h1
      by_cases h2 : b.2 < 1 ∨ 20 < b.2
      · rw [boxes_2 h1' h2]
        simp only [List.forall_mem_cons]
        constructor
        · intro h; simp at h
        · rintro ⟨⟨-, h3, h4⟩, -⟩; omega
      · rw [boxes_3 h1' h2, boxes_ok r (i + 1)]
        simp only [List.forall_mem_cons, h1', true_and]
        constructor
        · intro h; exact ⟨by omega, h⟩
        · rintro ⟨-, h⟩; exact h
theorem instrs_ok {M : Mdl} {u : Unt} {k : Nat} : ∀ (l : List Ins) (j : Nat), (instrs M u k j l).err = 0 ↔ ∀ i ∈ l, instr M u i = 0
  | [], j => by simp [instrs, Where.ok]
  | i :: r, j => by
    by_cases h : instr M u i = 0
    · rw [instrs_2 h, instrs_ok r (j + 1)]
      simp [h]
    · rw [instrs_1 h]
      simp [h]
theorem unit_ok {M : Mdl} {k : Nat} {u : Unt} : (unit M k u).err = 0 ↔ head M u = 0 ∧ ∀ i ∈ u.code, instr M u i = 0 := by
  by_cases h : head M u = 0
  · rw [unit_2 h, instrs_ok]; simp [h]
  · rw [unit_1 h]; simp [h]
theorem units_ok {M : Mdl} : ∀ (l : List Unt) (k : Nat), (units M k l).err = 0 ↔ ∀ u ∈ l, head M u = 0 ∧ ∀ i ∈ u.code, instr M u i = 0
  | [], k => by simp [units, Where.ok]
  | u :: r, k => by
    by_cases h : (unit M k u).err = 0
    · rw [units_2 h, units_ok r (k + 1)]
      have := unit_ok.1 h
      simp only [List.forall_mem_cons]
      exact ⟨fun h => ⟨this, h⟩, fun h => h.2⟩
    · rw [units_1 h]
      simp only [List.forall_mem_cons]
      exact ⟨fun h' => absurd h' h, fun h' => absurd (unit_ok.2 h'.1) h⟩
/-- a right form -/
structure FormOk (M : Mdl) : Prop where
  nboxes : M.boxes.length ≤ 30
  nunits : M.units.length ≤ 30
  boxes : ∀ b ∈ M.boxes, plain b.1 = true ∧ 1 ≤ b.2 ∧ b.2 ≤ 20
  units : ∀ u ∈ M.units, head M u = 0 ∧ ∀ i ∈ u.code, instr M u i = 0
  task : ∃ u ∈ M.units, u.kind = 4
theorem form_ok {M : Mdl} : (form M).err = 0 ↔ FormOk M := by
  by_cases h : 30 < M.boxes.length ∨ 30 < M.units.length
  · rw [form_1 h]
    constructor
    · intro h; simp at h
    · intro h'; have := h'.nboxes; have := h'.nunits; omega
  by_cases hb : ¬ (Ver.boxes 0 M.boxes).err = 0
  · rw [form_2 h rfl hb]
    exact ⟨fun h' => absurd h' hb, fun h' => absurd ((boxes_ok _ _).2 h'.boxes) hb⟩
  have hb : (Ver.boxes 0 M.boxes).err = 0 := Decidable.not_not.1 hb
  by_cases hu : ¬ (Ver.units M 0 M.units).err = 0
  · rw [form_3 h hb rfl hu]
    exact ⟨fun h' => absurd h' hu, fun h' => absurd ((units_ok _ _).2 h'.units) hu⟩
  have hu : (Ver.units M 0 M.units).err = 0 := Decidable.not_not.1 hu
  by_cases ht : (M.units.filter (fun u => decide (u.kind = 4))).length = 0
  · rw [form_4 h hb hu ht]
    constructor
    · intro h; simp at h
    · rintro ⟨-, -, -, -, u, h1, h2⟩
      have : u ∈ M.units.filter (fun u => decide (u.kind = 4)) := List.mem_filter.2 ⟨h1, by simpa using h2⟩
      rw [List.eq_nil_of_length_eq_zero ht] at this
      cases this
  · rw [form_5 h hb hu ht]
    refine ⟨fun _ => ⟨by omega, by omega, (boxes_ok _ _).1 hb, (units_ok _ _).1 hu, ?_⟩, fun _ => rfl⟩
    cases hf : M.units.filter (fun u => decide (u.kind = 4)) with
    | nil => rw [hf] at ht; exact absurd rfl ht
    | cons u r =>
      have : u ∈ M.units.filter (fun u => decide (u.kind = 4)) := by rw [hf]; exact List.mem_cons_self
      rw [List.mem_filter] at this
      exact ⟨u, this.1, by simpa using this.2⟩
theorem codes_1 {M : Mdl} {k n : Nat} (h : ¬ (code M k).err = 0) : codes M k (n + 1) = code M k := by unfold codes; rw [if_pos h]
theorem codes_2 {M : Mdl} {k n : Nat} (h : (code M k).err = 0) : codes M k (n + 1) = codes M (k + 1) n := by
  conv => lhs; unfold codes
  rw [if_neg (fun h' => h' h)]
theorem codes_ok {M : Mdl} : ∀ (n k : Nat), (codes M k n).err = 0 ↔ ∀ j, k ≤ j → j < k + n → (code M j).err = 0
  | 0, k => by
    unfold codes
    exact ⟨fun _ j h1 h2 => by omega, fun _ => rfl⟩
  | n + 1, k => by
    by_cases h : (code M k).err = 0
    · rw [codes_2 h, codes_ok n (k + 1)]
      constructor
      · intro h' j h1 h2
        by_cases hj : j = k
        · subst hj; exact h
        · exact h' j (by omega) (by omega)
      · intro h' j h1 h2; exact h' j (by omega) (by omega)
    · rw [codes_1 h]
      exact ⟨fun h' => absurd h' h, fun h' => absurd (h' k (Nat.le_refl _) (by omega)) h⟩
theorem verify_1 {M : Mdl} (h : ¬ (form M).err = 0) : verify M = form M := by unfold verify; rw [if_pos h]
theorem verify_2 {M : Mdl} (h : (form M).err = 0) (h2 : ¬ (codes M 0 M.units.length).err = 0) : verify M = codes M 0 M.units.length := by
  unfold verify; rw [if_neg (fun h' => h' h), if_pos h2]
theorem verify_3 {M : Mdl} (h : (form M).err = 0) (h2 : (codes M 0 M.units.length).err = 0) : verify M = owned M 0 M.boxes.length := by
  unfold verify; rw [if_neg (fun h' => h' h), if_neg (fun h' => h' h2)]
end Go.Proofs.Ytgnhfinabhimpaa.Ver
