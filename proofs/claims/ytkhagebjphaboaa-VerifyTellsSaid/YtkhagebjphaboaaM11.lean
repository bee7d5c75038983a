/- With shorter code a unit has a typing still. Plain Lean. -/
import Derived.Test.YtkhagebjphaboaaM10
namespace Go.Proofs.Ytkhagebjphaboaa.Opt
set_option linter.unusedVariables false
set_option linter.unusedSimpArgs false
open ImgM Ver

theorem isC_iff {i : Ins} : isC i = true ↔ i.op = 1 ∨ i.op = 2 := by unfold isC; rw [Bool.or_eq_true, decide_eq_true_eq, decide_eq_true_eq]

/-- the stack behind an instruction, whatever is wrong -/
theorem push_stack (t : Int) (f : Flow) : (push t f).stack = f.stack ++ [t] ∧ (push t f).has = f.has := by
  unfold push fail
  split
  · split <;> exact ⟨rfl, rfl⟩
  · exact ⟨rfl, rfl⟩
theorem fail_stack (e : Int) (f : Flow) : (fail e f).stack = f.stack ∧ (fail e f).has = f.has := by unfold fail; split <;> exact ⟨rfl, rfl⟩
theorem pop_stack (f : Flow) : (pop f).2.stack = f.stack.take (f.stack.length - 1) ∧ (pop f).2.has = f.has := by
  unfold pop
  split
  · rename_i h
    have : f.stack = [] := List.eq_nil_of_length_eq_zero h
    rw [(fail_stack _ _).1, (fail_stack _ _).2, this]
    exact ⟨rfl, rfl⟩
  · exact ⟨rfl, rfl⟩
theorem want1_stack (t : Int) (f : Flow) : (want1 t f).stack = f.stack.take (f.stack.length - 1) ∧ (want1 t f).has = f.has := by
  unfold want1
  split
  · rw [(fail_stack _ _).1, (fail_stack _ _).2]; exact pop_stack f
  · exact pop_stack f
theorem take_snoc1 {α : Type} (st : List α) (x : α) : (st ++ [x]).take ((st ++ [x]).length - 1) = st := by simp
section
variable {M : Mdl} {u : Unt} {i : Ins} {st : List Int} {h : List Bool}
theorem step1 (hi : i.op = 1 ∨ i.op = 2) (f : Flow) : Ver.step M u i f = (true, push i.op f) := by
  unfold Ver.step
  rcases hi with hi | hi
  · rw [if_pos hi, hi]
  · rw [if_neg (by omega), if_pos hi, hi]
theorem sem_const (hi : i.op = 1 ∨ i.op = 2) : sem M u i (st, h) = push i.op ⟨[], [], st, h, 0⟩ := by
  unfold sem core
  rw [if_neg (by omega), if_neg (by omega), step1 hi]
theorem push_err {t : Int} : (push t ⟨[], [], st, h, 0⟩).err = 0 ↔ st.length + 1 ≤ 300 := by
  unfold push
  simp only
  split
  · rename_i h'
    unfold fail
    simp only [if_true]
    constructor
    · intro h; cases h
    · intro h; omega
  · rename_i h'
    exact ⟨fun _ => by omega, fun _ => rfl⟩
theorem sem_two {x y : Int} (hi : 8 ≤ i.op ∧ i.op ≤ 20) : (sem M u i (st ++ [x] ++ [y], h)).stack = st ++ [if 12 < i.op then 2 else 1] ∧ (sem M u i (st ++ [x] ++ [y], h)).has = h := by
  unfold sem core
  rw [if_neg (by omega), if_neg (by omega)]
  have e : ∀ (a b c : Int), (want1 a (want1 b (⟨[], [], st ++ [x] ++ [y], h, 0⟩ : Flow))).stack = st ∧ (want1 a (want1 b (⟨[], [], st ++ [x] ++ [y], h, 0⟩ : Flow))).has = h := by
    intro a b c
    rw [(want1_stack _ _).1, (want1_stack _ _).2, (want1_stack _ _).1, (want1_stack _ _).2]
    simp only
    rw [take_snoc1, take_snoc1]
    simp
  unfold Ver.step
  rw [if_neg (by omega), if_neg (by omega), if_neg (by omega), if_neg (by omega), if_neg (by omega), if_neg (by omega), if_neg (by omega)]
  by_cases h1 : 8 ≤ i.op ∧ i.op ≤ 12
  · rw [if_pos h1, if_neg (by omega)]
    have := e 1 1 0
    rw [(push_stack _ _).1, (push_stack _ _).2]
    exact ⟨by rw [show want [1, 1] (⟨[], [], st ++ [x] ++ [y], h, 0⟩ : Flow) = want1 1 (want1 1 (⟨[], [], st ++ [x] ++ [y], h, 0⟩ : Flow)) from rfl, this.1], this.2⟩
  rw [if_neg h1]
  rw [if_pos (show 12 < i.op by omega)]
  by_cases h2 : i.op = 13 ∨ i.op = 14
  · rw [if_pos h2]
    simp only [(push_stack _ _).1, (push_stack _ _).2, show ∀ (t : Int) (f : Flow), want [t] f = want1 t f from fun _ _ => rfl, (want1_stack _ _).1, (want1_stack _ _).2]
    have p := pop_stack (⟨[], [], st ++ [x] ++ [y], h, 0⟩ : Flow)
    simp only at p
    rw [take_snoc1] at p
    split
    · rw [(fail_stack _ _).1, (fail_stack _ _).2, p.1, take_snoc1]; exact ⟨rfl, p.2⟩
    · rw [p.1, take_snoc1]; exact ⟨rfl, p.2⟩
  rw [if_neg h2]
  by_cases h3 : 15 ≤ i.op ∧ i.op ≤ 18
  · rw [if_pos h3]
    have := e 1 1 0
    rw [(push_stack _ _).1, (push_stack _ _).2]
    exact ⟨by rw [show want [1, 1] (⟨[], [], st ++ [x] ++ [y], h, 0⟩ : Flow) = want1 1 (want1 1 (⟨[], [], st ++ [x] ++ [y], h, 0⟩ : Flow)) from rfl, this.1], this.2⟩
  rw [if_neg h3, if_pos (by omega)]
  have := e 2 2 0
  rw [(push_stack _ _).1, (push_stack _ _).2]
  exact ⟨by rw [show want [2, 2] (⟨[], [], st ++ [x] ++ [y], h, 0⟩ : Flow) = want1 2 (want1 2 (⟨[], [], st ++ [x] ++ [y], h, 0⟩ : Flow)) from rfl, this.1], this.2⟩
theorem sem_load (hi : i.op = 3) : (sem M u i (st, h)).stack = st ++ [u.locals.getD i.a.toNat 0] ∧ (sem M u i (st, h)).has = h := by
  unfold sem core
  rw [if_neg (by omega), if_neg (by omega), step_3 M u i _ hi]
  simp only [(push_stack _ _).1, (push_stack _ _).2]
  split
  · exact ⟨rfl, rfl⟩
  · rw [(fail_stack _ _).1, (fail_stack _ _).2]; exact ⟨rfl, rfl⟩
theorem sem_drop {x : Int} (hi : i.op = 5) : (sem M u i (st ++ [x], h)).stack = st ∧ (sem M u i (st ++ [x], h)).has = h := by
  unfold sem core
  rw [if_neg (by omega), if_neg (by omega)]
  unfold Ver.step
  rw [if_neg (by omega), if_neg (by omega), if_neg (by omega), if_neg (by omega), if_pos hi]
  simp only
  rw [(pop_stack _).1, (pop_stack _).2]
  exact ⟨take_snoc1 _ _, rfl⟩
theorem sem_one {x : Int} (hi : i.op = 6 ∨ i.op = 7) : (sem M u i (st ++ [x], h)).stack = st ++ [if i.op = 6 then 1 else 2] ∧ (sem M u i (st ++ [x], h)).has = h := by
  unfold sem core
  rw [if_neg (by omega), if_neg (by omega)]
  unfold Ver.step
  rw [if_neg (by omega), if_neg (by omega), if_neg (by omega), if_neg (by omega), if_neg (by omega)]
  by_cases h6 : i.op = 6
  · rw [if_pos h6, if_pos h6, (push_stack _ _).1, (push_stack _ _).2]
    simp only [show ∀ (t : Int) (f : Flow), want [t] f = want1 t f from fun _ _ => rfl, (want1_stack _ _).1, (want1_stack _ _).2]
    rw [take_snoc1]; exact ⟨rfl, trivial⟩
  · rw [if_neg h6, if_neg h6, if_pos (by omega), (push_stack _ _).1, (push_stack _ _).2]
    simp only [show ∀ (t : Int) (f : Flow), want [t] f = want1 t f from fun _ _ => rfl, (want1_stack _ _).1, (want1_stack _ _).2]
    rw [take_snoc1]; exact ⟨rfl, trivial⟩
theorem sem_else {x : Int} (hi : i.op = 22) : (sem M u i (st ++ [x], h)).stack = st ∧ (sem M u i (st ++ [x], h)).has = h := by
  unfold sem core
  rw [if_neg (by omega), if_pos hi]
  simp only [show ∀ (t : Int) (f : Flow), want [t] f = want1 t f from fun _ _ => rfl, (want1_stack _ _).1, (want1_stack _ _).2]
  rw [take_snoc1]; exact ⟨rfl, trivial⟩
theorem sem_jump (hi : i.op = 21) : sem M u i (st, h) = ⟨[], [], st, h, 0⟩ := by
  unfold sem core
  rw [if_pos hi]
end
theorem ins_at (u : Unt) (p : Nat) : ins u (p : Int) = at_ u.code p := rfl
section
variable {M : Mdl} {u : Unt} {τ : Int → Option Shape} (hc : Cert M u τ)
include hc
/-- one instruction that goes on -/
theorem go1 {p : Nat} {st : List Int} {h : List Bool} (ht : τ (p : Int) = some (st, h)) (h1 : (at_ u.code p).op ≠ 21) (h3 : (at_ u.code p).op ≠ 24) (h4 : (at_ u.code p).op ≠ 25) :
    (sem M u (at_ u.code p) (st, h)).err = 0 ∧ ∃ h', τ ((p + 1 : Nat) : Int) = some ((sem M u (at_ u.code p) (st, h)).stack, h') ∧ Le h' (sem M u (at_ u.code p) (st, h)).has := by
  have hf := hc.fits _ _ ht
  refine ⟨hf.ok, ?_⟩
  have hn := hf.next ((p + 1 : Nat) : Int) (by
    rw [ins_at]
    unfold nexts
    rw [if_neg h1]
    split
    · simp
    · rw [if_neg (by omega)]; simp)
  exact hn
/-- what a piece comes to -/
theorem piece {p : Nat} {st : List Int} {h : List Bool} (ht : τ (p : Int) = some (st, h)) (hs : (shorter u.code p).2 ≠ 0) :
    (em u.code p = [] ∧ ∃ h', τ (nx u.code p : Int) = some (st, h') ∧ Le h' h) ∨
    (∃ i, em u.code p = [i] ∧ (i.op = 1 ∨ i.op = 2) ∧ (sem M u i (st, h)).err = 0 ∧ ∃ h', τ (nx u.code p : Int) = some ((sem M u i (st, h)).stack, h') ∧ Le h' (sem M u i (st, h)).has) ∨
    (∃ i, em u.code p = [i] ∧ i.op = 21 ∧ ∃ h', τ i.a = some (st, h') ∧ Le h' h) := by
  have e1 : em u.code p = (shorter u.code p).1 := by unfold em; rw [if_neg hs]
  have e2 : nx u.code p = p + (shorter u.code p).2 := by unfold nx; rw [if_neg hs]
  rw [e1, e2]
  rcases shorter_cases hs with ⟨r, h1, h2, h3⟩ | ⟨r, h1, h2, h3⟩ | ⟨h1, h2, h3, h4⟩
  · -- three
    rw [h1]
    unfold three at h3
    split at h3
    · cases h3
    rename_i g1
    split at h3
    · cases h3
    rename_i g2
    cases h3
    have c1 : isC (at_ u.code p) = true := by
      cases hx : isC (at_ u.code p) with
      | true => rfl
      | false => exact absurd (.inl hx) g1
    have c2 : isC (at_ u.code (p + 1)) = true := by
      cases hx : isC (at_ u.code (p + 1)) with
      | true => rfl
      | false => exact absurd (.inr (.inl hx)) g1
    rw [isC_iff] at c1 c2
    have c3 : (at_ u.code p).op = (at_ u.code (p + 1)).op := Classical.byContradiction fun hx => g1 (.inr (.inr (.inl hx)))
    have c4 : 8 ≤ (at_ u.code (p + 2)).op ∧ (at_ u.code (p + 2)).op ≤ 20 := by
      refine ⟨?_, ?_⟩
      · exact Int.not_lt.1 fun hx => g1 (.inr (.inr (.inr (.inl hx))))
      · exact Int.not_lt.1 fun hx => g1 (.inr (.inr (.inr (.inr (.inl hx)))))
    obtain ⟨o1, k1, t1, l1⟩ := go1 hc ht (by omega) (by omega) (by omega)
    rw [sem_const c1] at o1 t1 l1
    rw [(push_stack _ _).1] at t1
    rw [(push_stack _ _).2] at l1
    obtain ⟨o2, k2, t2, l2⟩ := go1 hc t1 (by omega) (by omega) (by omega)
    rw [sem_const c2] at o2 t2 l2
    rw [(push_stack _ _).1] at t2
    rw [(push_stack _ _).2] at l2
    rw [show p + 1 + 1 = p + 2 from rfl] at t2
    obtain ⟨o3, k3, t3, l3⟩ := go1 hc t2 (by omega) (by omega) (by omega)
    simp only at t3 l3
    rw [(sem_two c4).1] at t3
    rw [(sem_two c4).2] at l3
    right; left
    rw [push_err] at o1
    have l : Le k3 h := (l3.trans l2).trans l1
    by_cases h12 : 12 < (at_ u.code (p + 2)).op
    · rw [if_pos h12] at t3
      refine ⟨⟨2, two2 (at_ u.code (p + 2)).op (cval (at_ u.code p)) (cval (at_ u.code (p + 1))), 0⟩, ?_, .inr rfl, ?_, k3, ?_, ?_⟩
      · simp only; unfold known; rw [if_pos (by simpa using h12)]
      · rw [sem_const (.inr rfl), push_err]; exact o1
      · rw [sem_const (.inr rfl), (push_stack _ _).1]; exact t3
      · rw [sem_const (.inr rfl), (push_stack _ _).2]; exact l
    · rw [if_neg h12] at t3
      refine ⟨⟨1, 0, two2 (at_ u.code (p + 2)).op (cval (at_ u.code p)) (cval (at_ u.code (p + 1)))⟩, ?_, .inl rfl, ?_, k3, ?_, ?_⟩
      · simp only; unfold known; rw [if_neg (by simpa using h12)]
      · rw [sem_const (.inl rfl), push_err]; exact o1
      · rw [sem_const (.inl rfl), (push_stack _ _).1]; exact t3
      · rw [sem_const (.inl rfl), (push_stack _ _).2]; exact l
  · -- two
    rw [h1]
    unfold pair at h3
    split at h3
    · -- dropped
      rename_i g
      cases h3
      left
      refine ⟨rfl, ?_⟩
      have g1 : ((at_ u.code p).op = 1 ∨ (at_ u.code p).op = 2) ∨ (at_ u.code p).op = 3 := by
        rcases g.2 with g | g
        · exact .inl (isC_iff.1 g)
        · exact .inr g
      obtain ⟨o1, k1, t1, l1⟩ := go1 hc ht (by omega) (by omega) (by omega)
      have key : ∃ x, (sem M u (at_ u.code p) (st, h)).stack = st ++ [x] ∧ (sem M u (at_ u.code p) (st, h)).has = h := by
        rcases g1 with g1 | g1
        · rw [sem_const g1, (push_stack _ _).1, (push_stack _ _).2]; exact ⟨_, rfl, rfl⟩
        · exact ⟨_, (sem_load g1).1, (sem_load g1).2⟩
      obtain ⟨x, x1, x2⟩ := key
      rw [x1] at t1
      rw [x2] at l1
      obtain ⟨o2, k2, t2, l2⟩ := go1 hc t1 (by omega) (by omega) (by omega)
      rw [(sem_drop g.1).1] at t2
      rw [(sem_drop g.1).2] at l2
      exact ⟨k2, t2, l2.trans l1⟩
    split at h3
    · cases h3
    rename_i g0
    have c1 : (at_ u.code p).op = 1 ∨ (at_ u.code p).op = 2 := isC_iff.1 (by simpa using g0)
    obtain ⟨o1, k1, t1, l1⟩ := go1 hc ht (by omega) (by omega) (by omega)
    rw [sem_const c1] at o1 t1 l1
    rw [(push_stack _ _).1] at t1
    rw [(push_stack _ _).2] at l1
    rw [push_err] at o1
    simp only at t1 l1
    split at h3
    · -- a number, turned
      rename_i g
      cases h3
      obtain ⟨o2, k2, t2, l2⟩ := go1 hc t1 (by omega) (by omega) (by omega)
      rw [(sem_one (.inl g.1)).1, if_pos g.1] at t2
      rw [(sem_one (.inl g.1)).2] at l2
      right; left
      refine ⟨⟨1, 0, IntKind.i64.wrap (-(cval (at_ u.code p)))⟩, rfl, .inl rfl, ?_, k2, ?_, ?_⟩
      · rw [sem_const (.inl rfl), push_err]; exact o1
      · rw [sem_const (.inl rfl), (push_stack _ _).1]; exact t2
      · rw [sem_const (.inl rfl), (push_stack _ _).2]; exact l2.trans l1
    split at h3
    · cases h3
    split at h3
    · -- a truth, turned
      rename_i g
      cases h3
      obtain ⟨o2, k2, t2, l2⟩ := go1 hc t1 (by omega) (by omega) (by omega)
      rw [(sem_one (.inr g)).1, if_neg (by omega)] at t2
      rw [(sem_one (.inr g)).2] at l2
      right; left
      refine ⟨⟨2, IntKind.i64.wrap (1 - cval (at_ u.code p)), 0⟩, rfl, .inr rfl, ?_, k2, ?_, ?_⟩
      · rw [sem_const (.inr rfl), push_err]; exact o1
      · rw [sem_const (.inr rfl), (push_stack _ _).1]; exact t2
      · rw [sem_const (.inr rfl), (push_stack _ _).2]; exact l2.trans l1
    split at h3
    · -- a test of what is true
      rename_i g
      cases h3
      obtain ⟨o2, k2, t2, l2⟩ := go1 hc t1 (by omega) (by omega) (by omega)
      rw [(sem_else g.1).1] at t2
      rw [(sem_else g.1).2] at l2
      exact .inl ⟨rfl, k2, t2, l2.trans l1⟩
    split at h3
    · -- a test of what is false
      rename_i g
      cases h3
      have hf := hc.fits _ _ t1
      obtain ⟨k2, t2, l2⟩ := hf.next (at_ u.code (p + 1)).a (by
        rw [ins_at]
        unfold nexts
        rw [if_neg (by omega), if_pos g]
        simp)
      rw [ins_at] at t2 l2
      rw [(sem_else g).1] at t2
      rw [(sem_else g).2] at l2
      exact .inr (.inr ⟨_, rfl, rfl, k2, t2, l2.trans l1⟩)
    · cases h3
  · -- a jump to what follows
    rw [h1]
    left
    refine ⟨rfl, ?_⟩
    have hf := hc.fits _ _ ht
    obtain ⟨k2, t2, l2⟩ := hf.next (at_ u.code p).a (by
      rw [ins_at]
      unfold nexts
      rw [if_pos h3]
      simp)
    rw [ins_at, sem_jump h3] at t2 l2
    rw [h4] at t2
    exact ⟨k2, t2, l2⟩
end
end Go.Proofs.Ytkhagebjphaboaa.Opt

/- What a typing says of an instruction that goes well: the stack ahead of it, and behind it. Plain Lean. -/
namespace Go.Proofs.Ytkhagebjphaboaa.Vm
set_option linter.unusedVariables false
set_option linter.unusedSimpArgs false
open ImgM Ver Opt

theorem fail_ne {e : Int} (he : e ≠ 0) {f : Flow} : (fail e f).err ≠ 0 := by
  unfold Ver.fail
  split
  · exact he
  · assumption
theorem push_inv {t : Int} {f : Flow} (h : (Ver.push t f).err = 0) : f.err = 0 ∧ Ver.push t f = { f with stack := f.stack ++ [t] } ∧ f.stack.length + 1 ≤ 300 := by
  unfold Ver.push at h ⊢
  split
  · rename_i h3
    rw [if_pos h3] at h
    exact absurd h (fail_ne (by decide))
  · rename_i h3
    rw [if_neg h3] at h
    exact ⟨h, rfl, by omega⟩
theorem snoc_of {α : Type} [Inhabited α] {l : List α} (h : ¬ l.length = 0) : l = l.take (l.length - 1) ++ [l.getD (l.length - 1) default] := by
  have : l.length - 1 + 1 = l.length := by omega
  conv => lhs; rw [← List.take_length (l := l), ← this, List.take_succ_eq_append_getElem (show l.length - 1 < l.length by omega)]
  rw [List.getD_eq_getElem?_getD, List.getElem?_eq_getElem (show l.length - 1 < l.length by omega)]
  rfl
theorem pop_inv {f : Flow} (h : (pop f).2.err = 0) : f.err = 0 ∧ ∃ st t, f.stack = st ++ [t] ∧ (pop f).1 = t ∧ (pop f).2 = { f with stack := st } := by
  unfold pop at h ⊢
  split
  · rename_i h0
    rw [if_pos h0] at h
    exact absurd h (fail_ne (by decide))
  · rename_i h0
    rw [if_neg h0] at h
    exact ⟨h, _, _, snoc_of h0, rfl, rfl⟩
theorem want1_inv {t : Int} {f : Flow} (h : (want1 t f).err = 0) : f.err = 0 ∧ ∃ st, f.stack = st ++ [t] ∧ want1 t f = { f with stack := st } := by
  unfold want1 at h ⊢
  split
  · rename_i hn
    rw [if_pos hn] at h
    exact absurd h (fail_ne (by decide))
  · rename_i hn
    rw [if_neg hn] at h
    obtain ⟨h1, st, t', h2, h3, h4⟩ := pop_inv h
    have : t' = t := Classical.byContradiction fun hx => hn (by rw [h3]; exact hx)
    subst this
    exact ⟨h1, st, h2, h4⟩
theorem want_inv : ∀ (l : List Int) {f : Flow}, (want l f).err = 0 → f.err = 0 ∧ ∃ st, f.stack = st ++ l ∧ want l f = { f with stack := st }
  | [], f, h => ⟨h, f.stack, by simp, rfl⟩
  | t :: r, f, h => by
    have hh : want (t :: r) f = want1 t (want r f) := rfl
    rw [hh] at h ⊢
    obtain ⟨h1, st, h2, h3⟩ := want1_inv h
    obtain ⟨g1, st', g2, g3⟩ := want_inv r h1
    rw [g3] at h2 h3
    simp only at h2
    exact ⟨g1, st, by rw [g2, h2]; simp, by rw [g3]; exact h3⟩
theorem fail_inv {e : Int} (he : e ≠ 0) {c : Prop} [Decidable c] {f : Flow} (h : (if c then fail e f else f).err = 0) : ¬ c ∧ f.err = 0 := by
  by_cases hc : c
  · rw [if_pos hc] at h; exact absurd h (fail_ne he)
  · rw [if_neg hc] at h; exact ⟨hc, h⟩
theorem fail_inv' {e : Int} (he : e ≠ 0) {c : Prop} [Decidable c] {f : Flow} (h : (if c then f else fail e f).err = 0) : c ∧ f.err = 0 := by
  by_cases hc : c
  · rw [if_pos hc] at h; exact ⟨hc, h⟩
  · rw [if_neg hc] at h; exact absurd h (fail_ne he)
theorem done_inv {f : Flow} (h : (done f).err = 0) : f.err = 0 ∧ f.stack = [] ∧ done f = f := by
  unfold done at h ⊢
  split
  · rename_i h0; rw [if_pos h0] at h; exact ⟨h, List.eq_nil_of_length_eq_zero h0, rfl⟩
  · rename_i h0; rw [if_neg h0] at h; exact absurd h (fail_ne (by decide))
/-- what an instruction does to the stack's types, and asks of them -/
inductive Does (M : Mdl) (u : Unt) (i : Ins) : List Int → List Bool → List Int → List Bool → Prop
  | const (st h) (hi : i.op = 1 ∨ i.op = 2) : Does M u i st h (st ++ [i.op]) h
  | load (st h) (hi : i.op = 3) (hh : h.getD i.a.toNat false = true) : Does M u i st h (st ++ [u.locals.getD i.a.toNat 0]) h
  | store (st h) (hi : i.op = 4) : Does M u i (st ++ [u.locals.getD i.a.toNat 0]) h st (h.set i.a.toNat true)
  | drop (st h t) (hi : i.op = 5) : Does M u i (st ++ [t]) h st h
  | neg (st h) (hi : i.op = 6) : Does M u i (st ++ [1]) h (st ++ [1]) h
  | not (st h) (hi : i.op = 7) : Does M u i (st ++ [2]) h (st ++ [2]) h
  | arith (st h) (hi : 8 ≤ i.op ∧ i.op ≤ 12) : Does M u i (st ++ [1, 1]) h (st ++ [1]) h
  | eq (st h t) (hi : i.op = 13 ∨ i.op = 14) (ht : t = 1 ∨ t = 2) : Does M u i (st ++ [t, t]) h (st ++ [2]) h
  | cmp (st h) (hi : 15 ≤ i.op ∧ i.op ≤ 18) : Does M u i (st ++ [1, 1]) h (st ++ [2]) h
  | logic (st h) (hi : i.op = 19 ∨ i.op = 20) : Does M u i (st ++ [2, 2]) h (st ++ [2]) h
  | jump (st h) (hi : i.op = 21) : Does M u i st h st h
  | els (st h) (hi : i.op = 22) : Does M u i (st ++ [2]) h st h
  | call (st h) (hi : i.op = 23) : Does M u i (st ++ (M.units.getD i.a.toNat default).locals.take (M.units.getD i.a.toNat default).params.toNat) h (st ++ [(M.units.getD i.a.toNat default).result]) h
  | ret (h) (hi : i.op = 24) (hk : u.kind = 2) : Does M u i [u.result] h [] h
  | end_ (h) (hi : i.op = 25) (hk : u.kind ≠ 2) : Does M u i [] h [] h
  | send (st h) (hi : i.op = 26) : Does M u i (st ++ [(M.boxes.getD i.a.toNat default).1]) h st h
  | recv (st h) (hi : i.op = 27) : Does M u i st h (st ++ [(M.boxes.getD i.a.toNat default).1]) h
  | out (st h t) (hi : i.op = 28) : Does M u i (st ++ [t]) h st h
  | start (st h) (hi : i.op = 29) : Does M u i (st ++ (M.units.getD i.a.toNat default).locals.take (M.units.getD i.a.toNat default).params.toNat) h (st ++ [10 + i.a]) h
  | resume (st h k) (hi : i.op = 30) (hk : handle M (10 + k) = true) : Does M u i (st ++ [10 + k, (M.units.getD k.toNat default).takes]) h (st ++ [(M.units.getD k.toNat default).result]) h
  | yield (st h) (hi : i.op = 31) (hk : u.kind = 3) : Does M u i (st ++ [u.result]) h (st ++ [u.takes]) h
  | alive (st h k) (hi : i.op = 32) (hk : handle M (10 + k) = true) : Does M u i (st ++ [10 + k]) h (st ++ [2]) h
theorem app2 {α : Type} (s : List α) (a b : α) : s ++ [a] ++ [b] = s ++ [a, b] := by simp
theorem gen_inv {M : Mdl} {f : Flow} (h : (gen M f).2.err = 0) : f.err = 0 ∧ ∃ st k, f.stack = st ++ [10 + k] ∧ handle M (10 + k) = true ∧ gen M f = (some k, { f with stack := st }) := by
  unfold gen at h ⊢
  by_cases h1 : (pop f).2.err ≠ 0
  · rw [if_pos h1] at h; exact absurd h h1
  rw [if_neg h1] at h ⊢
  by_cases h2 : handle M (pop f).1 = false
  · rw [if_pos h2] at h; exact absurd h (fail_ne (by decide))
  rw [if_neg h2] at h ⊢
  obtain ⟨g1, st, t, g2, g3, g4⟩ := pop_inv h
  rw [g3] at h2 ⊢
  refine ⟨g1, st, t - 10, by rw [g2]; congr 2; omega, ?_, ?_⟩
  · rw [show (10 : Int) + (t - 10) = t by omega]; simpa using h2
  · rw [g4]
theorem sem_does {M : Mdl} {u : Unt} {i : Ins} {st : List Int} {h : List Bool} (ho : 1 ≤ i.op ∧ i.op ≤ 32) (he : (sem M u i (st, h)).err = 0) :
    Does M u i st h (sem M u i (st, h)).stack (sem M u i (st, h)).has := by
  unfold sem core at he ⊢
  by_cases h21 : i.op = 21
  · rw [if_pos h21]; exact .jump _ _ h21
  rw [if_neg h21] at he ⊢
  by_cases h22 : i.op = 22
  · rw [if_pos h22] at he ⊢
    obtain ⟨-, s, g2, g3⟩ := want_inv _ he
    simp only at g2
    rw [g3]; subst g2
    exact .els _ _ h22
  rw [if_neg h22] at he ⊢
  unfold Ver.step at he ⊢
  by_cases h1 : i.op = 1
  · rw [if_pos h1] at he ⊢
    obtain ⟨-, g2, -⟩ := push_inv he
    simp only
    rw [g2]
    have := Does.const (M := M) (u := u) (i := i) st h (.inl h1)
    rw [h1] at this; exact this
  rw [if_neg h1] at he ⊢
  by_cases h2 : i.op = 2
  · rw [if_pos h2] at he ⊢
    obtain ⟨-, g2, -⟩ := push_inv he
    simp only
    rw [g2]
    have := Does.const (M := M) (u := u) (i := i) st h (.inr h2)
    rw [h2] at this; exact this
  rw [if_neg h2] at he ⊢
  by_cases h3 : i.op = 3
  · rw [if_pos h3] at he ⊢
    obtain ⟨g1, g2, -⟩ := push_inv he
    obtain ⟨k1, k2⟩ := fail_inv' (by decide) g1
    simp only at k1 ⊢
    rw [g2, if_pos k1]
    exact .load _ _ h3 k1
  rw [if_neg h3] at he ⊢
  by_cases h4 : i.op = 4
  · rw [if_pos h4] at he ⊢
    obtain ⟨-, s, g2, g3⟩ := want_inv _ (show (want [u.locals.getD i.a.toNat 0] ⟨[], [], st, h, 0⟩).err = 0 from he)
    simp only at g2 ⊢
    rw [g3]; subst g2
    exact .store _ _ h4
  rw [if_neg h4] at he ⊢
  by_cases h5 : i.op = 5
  · rw [if_pos h5] at he ⊢
    obtain ⟨-, s, t, g2, g3, g4⟩ := pop_inv he
    simp only at g2 ⊢
    rw [g4]; subst g2
    exact .drop _ _ _ h5
  rw [if_neg h5] at he ⊢
  by_cases h6 : i.op = 6
  · rw [if_pos h6] at he ⊢
    obtain ⟨g1, g2, -⟩ := push_inv he
    obtain ⟨-, s, k2, k3⟩ := want_inv _ g1
    simp only at k2 ⊢
    rw [g2, k3]; subst k2
    exact .neg _ _ h6
  rw [if_neg h6] at he ⊢
  by_cases h7 : i.op = 7
  · rw [if_pos h7] at he ⊢
    obtain ⟨g1, g2, -⟩ := push_inv he
    obtain ⟨-, s, k2, k3⟩ := want_inv _ g1
    simp only at k2 ⊢
    rw [g2, k3]; subst k2
    exact .not _ _ h7
  rw [if_neg h7] at he ⊢
  by_cases h8 : 8 ≤ i.op ∧ i.op ≤ 12
  · rw [if_pos h8] at he ⊢
    obtain ⟨g1, g2, -⟩ := push_inv he
    obtain ⟨-, s, k2, k3⟩ := want_inv _ g1
    simp only at k2 ⊢
    rw [g2, k3]; subst k2
    exact .arith _ _ h8
  rw [if_neg h8] at he ⊢
  by_cases h9 : i.op = 13 ∨ i.op = 14
  · rw [if_pos h9] at he ⊢
    obtain ⟨g1, g2, -⟩ := push_inv he
    obtain ⟨g3, s, k2, k3⟩ := want_inv _ g1
    obtain ⟨q1, q2⟩ := fail_inv (by decide) g3
    obtain ⟨-, s', t, p2, p3, p4⟩ := pop_inv q2
    rw [if_neg q1] at k2 k3 g2 ⊢
    rw [g2, k3]
    rw [p4] at k2 ⊢
    rw [p3] at q1 k2
    simp only at k2 p2 ⊢
    subst k2 p2
    rw [app2]
    refine .eq _ _ _ h9 ?_
    omega
  rw [if_neg h9] at he ⊢
  by_cases h10 : 15 ≤ i.op ∧ i.op ≤ 18
  · rw [if_pos h10] at he ⊢
    obtain ⟨g1, g2, -⟩ := push_inv he
    obtain ⟨-, s, k2, k3⟩ := want_inv _ g1
    simp only at k2 ⊢
    rw [g2, k3]; subst k2
    exact .cmp _ _ h10
  rw [if_neg h10] at he ⊢
  by_cases h11 : i.op = 19 ∨ i.op = 20
  · rw [if_pos h11] at he ⊢
    obtain ⟨g1, g2, -⟩ := push_inv he
    obtain ⟨-, s, k2, k3⟩ := want_inv _ g1
    simp only at k2 ⊢
    rw [g2, k3]; subst k2
    exact .logic _ _ h11
  rw [if_neg h11, if_neg h21, if_neg h22] at he ⊢
  unfold special at he ⊢
  by_cases h23 : i.op = 23
  · rw [if_pos h23] at he ⊢
    obtain ⟨g1, g2, -⟩ := push_inv he
    obtain ⟨-, s, k2, k3⟩ := want_inv _ (show (want _ _).err = 0 from g1)
    simp only at k2 ⊢
    rw [g2]
    unfold args
    rw [k3]; subst k2
    exact .call _ _ h23
  rw [if_neg h23] at he ⊢
  by_cases h29 : i.op = 29
  · rw [if_pos h29] at he ⊢
    obtain ⟨g1, g2, -⟩ := push_inv he
    obtain ⟨-, s, k2, k3⟩ := want_inv _ (show (want _ _).err = 0 from g1)
    simp only at k2 ⊢
    rw [g2]
    unfold args
    rw [k3]; subst k2
    exact .start _ _ h29
  rw [if_neg h29] at he ⊢
  by_cases h24 : i.op = 24
  · rw [if_pos h24] at he ⊢
    obtain ⟨g1, g2, g3⟩ := done_inv he
    obtain ⟨k1, s, k2, k3⟩ := want_inv _ g1
    obtain ⟨q1, q2⟩ := fail_inv (by decide) k1
    rw [if_neg q1] at k2 k3 g2
    simp only at k2 ⊢
    rw [g3, if_neg q1, k3]
    rw [k3] at g2
    simp only at g2
    subst g2 k2
    exact .ret _ h24 (Classical.byContradiction q1)
  rw [if_neg h24] at he ⊢
  by_cases h25 : i.op = 25
  · rw [if_pos h25] at he ⊢
    obtain ⟨g1, g2, g3⟩ := done_inv he
    obtain ⟨q1, q2⟩ := fail_inv (by decide) g1
    rw [if_neg q1] at g2
    simp only at g2 ⊢
    rw [g3, if_neg q1]
    subst g2
    exact .end_ _ h25 q1
  rw [if_neg h25] at he ⊢
  by_cases h26 : i.op = 26
  · rw [if_pos h26] at he ⊢
    obtain ⟨-, s, g2, g3⟩ := want_inv _ he
    simp only at g2 ⊢
    rw [g3]; subst g2
    exact .send _ _ h26
  rw [if_neg h26] at he ⊢
  by_cases h27 : i.op = 27
  · rw [if_pos h27] at he ⊢
    obtain ⟨-, g2, -⟩ := push_inv he
    simp only
    rw [g2]
    exact .recv _ _ h27
  rw [if_neg h27] at he ⊢
  by_cases h28 : i.op = 28
  · rw [if_pos h28] at he ⊢
    obtain ⟨q1, q2⟩ := fail_inv (by decide) (show (if (pop ⟨[], [], st, h, 0⟩).2.err = 0 ∧ plain (pop ⟨[], [], st, h, 0⟩).1 = false then fail 9 (pop ⟨[], [], st, h, 0⟩).2 else (pop ⟨[], [], st, h, 0⟩).2).err = 0 from he)
    obtain ⟨-, s, t, g2, g3, g4⟩ := pop_inv q2
    simp only at g2 ⊢
    rw [if_neg q1, g4]; subst g2
    exact .out _ _ _ h28
  rw [if_neg h28] at he ⊢
  by_cases h30 : i.op = 30
  · rw [if_pos h30] at he ⊢
    have hg : (gen M (pop ⟨[], [], st, h, 0⟩).2).2.err = 0 ∧ ∀ k g, gen M (pop ⟨[], [], st, h, 0⟩).2 = (some k, g) → (pop ⟨[], [], st, h, 0⟩).1 = (M.units.getD k.toNat default).takes := by
      revert he
      generalize gen M (pop ⟨[], [], st, h, 0⟩).2 = G
      obtain ⟨o, g⟩ := G
      cases o with
      | none => intro he; exact ⟨he, fun k g h => by cases h⟩
      | some k =>
        intro he
        obtain ⟨g1, -, -⟩ := push_inv (show (Ver.push _ _).err = 0 from he)
        obtain ⟨q1, q2⟩ := fail_inv (by decide) g1
        refine ⟨q2, fun k' g' h => ?_⟩
        simp only [Prod.mk.injEq, Option.some.injEq] at h
        obtain ⟨rfl, rfl⟩ := h
        exact Classical.byContradiction q1
    obtain ⟨hg1, hg2⟩ := hg
    obtain ⟨g1, s, k, g2, g3, g4⟩ := gen_inv hg1
    obtain ⟨-, s', t, p2, p3, p4⟩ := pop_inv g1
    have ht := hg2 _ _ g4
    rw [g4] at he ⊢
    obtain ⟨-, r2, -⟩ := push_inv (show (Ver.push _ _).err = 0 from he)
    simp only at r2 ⊢
    rw [r2, if_neg (fun hx => hx ht)]
    rw [p4] at g2 ⊢
    simp only at g2 p2 ⊢
    rw [p3] at ht
    subst g2 p2 ht
    rw [app2]
    exact .resume _ _ _ h30 g3
  rw [if_neg h30] at he ⊢
  by_cases h31 : i.op = 31
  · rw [if_pos h31] at he ⊢
    obtain ⟨g1, g2, -⟩ := push_inv he
    obtain ⟨k1, s, k2, k3⟩ := want_inv _ g1
    obtain ⟨q1, q2⟩ := fail_inv (by decide) k1
    rw [if_neg q1] at k2 k3
    simp only at k2 ⊢
    rw [g2, if_neg q1, k3]
    subst k2
    exact .yield _ _ h31 (Classical.byContradiction q1)
  rw [if_neg h31] at he ⊢
  have h32 : i.op = 32 := by omega
  rw [if_pos h32] at he ⊢
  obtain ⟨g1, g2, -⟩ := push_inv he
  obtain ⟨-, s, k, k2, k3, k4⟩ := gen_inv g1
  simp only at k2 ⊢
  rw [g2, k4]
  subst k2
  exact .alive _ _ _ h32 k3
end Go.Proofs.Ytkhagebjphaboaa.Vm

/- The document's answer to chapter 7: types as letters; an instruction, in letters, does what package verify does. Plain Lean. -/
namespace Go.Proofs.Ytkhagebjphaboaa.Rf7
open ImgM Ver Opt
set_option linter.unusedVariables false
set_option linter.unusedSimpArgs false
/-- a type's letter -/
def lt1 (t : Int) : UInt8 := if t = 1 then 110 else if t = 2 then 98 else UInt8.ofNat (55 + t).toNat
/-- a type that there is -/
def VT (M : Mdl) (t : Int) : Prop := t = 1 ∨ t = 2 ∨ handle M t = true
theorem handle_iff {M : Mdl} {t : Int} : handle M t = true ↔ 10 ≤ t ∧ t - 10 < (M.units.length : Int) ∧ (M.units.getD (t - 10).toNat default).kind = 3 := by
  unfold handle isUnit
  simp only [Bool.and_eq_true, decide_eq_true_eq]
  constructor
  · rintro ⟨h1, ⟨-, h2⟩, h3⟩; exact ⟨h1, h2, h3⟩
  · rintro ⟨h1, h2, h3⟩; exact ⟨h1, ⟨by omega, h2⟩, h3⟩
theorem VT.rng {M : Mdl} (h30 : M.units.length ≤ 30) {t : Int} (h : VT M t) : t = 1 ∨ t = 2 ∨ (10 ≤ t ∧ t < 40) := by
  rcases h with h | h | h
  · exact .inl h
  · exact .inr (.inl h)
  · have := handle_iff.1 h; omega
theorem lt1_nat {t : Int} (h : 10 ≤ t ∧ t < 40) : (lt1 t).toNat = (55 + t).toNat := by
  unfold lt1
  rw [if_neg (by omega), if_neg (by omega)]
  rw [UInt8.toNat_ofNat']
  omega
theorem lt1_val {t : Int} (h : t = 1 ∨ t = 2 ∨ (10 ≤ t ∧ t < 40)) : ((lt1 t).toNat : Int) = if t = 1 then 110 else if t = 2 then 98 else 55 + t := by
  rcases h with rfl | rfl | h
  · rfl
  · rfl
  · rw [lt1_nat h, if_neg (by omega), if_neg (by omega)]; omega
theorem lt1_inj {t t' : Int} (h : t = 1 ∨ t = 2 ∨ (10 ≤ t ∧ t < 40)) (h' : t' = 1 ∨ t' = 2 ∨ (10 ≤ t' ∧ t' < 40)) (e : lt1 t = lt1 t') : t = t' := by
  have e1 := lt1_val h
  have e2 := lt1_val h'
  rw [e, e2] at e1
  repeat' split at e1
  all_goals omega
theorem lt1_ne {t : Int} (h : t = 1 ∨ t = 2 ∨ (10 ≤ t ∧ t < 40)) : lt1 t ≠ 42 ∧ lt1 t ≠ 63 ∧ lt1 t ≠ 0 := by
  have e1 := lt1_val h
  refine ⟨fun e => ?_, fun e => ?_, fun e => ?_⟩ <;> (rw [e] at e1; simp at e1; repeat' split at e1) <;> omega
theorem lt1_pl {t : Int} (h : t = 1 ∨ t = 2 ∨ (10 ≤ t ∧ t < 40)) : (lt1 t = 110 ↔ t = 1) ∧ (lt1 t = 98 ↔ t = 2) := by
  refine ⟨⟨fun e => ?_, fun e => by rw [e]; rfl⟩, ⟨fun e => ?_, fun e => by rw [e]; rfl⟩⟩
  · exact lt1_inj h (.inl rfl) e
  · exact lt1_inj h (.inr (.inl rfl)) e
theorem map_inj {l l' : List Int} (h : ∀ t ∈ l, t = 1 ∨ t = 2 ∨ (10 ≤ t ∧ t < 40)) (h' : ∀ t ∈ l', t = 1 ∨ t = 2 ∨ (10 ≤ t ∧ t < 40)) (e : l.map lt1 = l'.map lt1) : l = l' := by
  induction l generalizing l' with
  | nil =>
    cases l' with
    | nil => rfl
    | cons a r => simp at e
  | cons a r ih =>
    cases l' with
    | nil => simp at e
    | cons b s =>
      simp only [List.map_cons, List.cons.injEq] at e
      rw [lt1_inj (h a List.mem_cons_self) (h' b List.mem_cons_self) e.1, ih (fun t ht => h t (List.mem_cons_of_mem _ ht)) (fun t ht => h' t (List.mem_cons_of_mem _ ht)) e.2]
/-- what is taken from a stack: what is left, or what is wrong -/
def tk7 : List UInt8 → UInt8 → List UInt8 → List UInt8 × Int
  | [], _, st => (st, 0)
  | x :: w, last, st =>
    if st.length = 0 then ([], 12)
    else if x = 42 then tk7 w last (st.take (st.length - 1))
    else if x = 63 then (if (st.getD (st.length - 1) 0 ≠ 110 ∧ st.getD (st.length - 1) 0 ≠ 98) ∨ (last ≠ 0 ∧ last ≠ st.getD (st.length - 1) 0) then ([], 9) else tk7 w (st.getD (st.length - 1) 0) (st.take (st.length - 1)))
    else if st.getD (st.length - 1) 0 ≠ x then ([], 9) else tk7 w last (st.take (st.length - 1))
def take7 (st want : List UInt8) : List UInt8 × Int := tk7 want.reverse 0 st
def par7 (M : Mdl) (k : Int) : List UInt8 := ((M.units.getD k.toNat default).locals.take (M.units.getD k.toNat default).params.toNat).map lt1
def res7 (M : Mdl) (k : Int) : UInt8 := lt1 (M.units.getD k.toNat default).result
/-- what an instruction takes, and puts there -/
def needs7 (M : Mdl) (u : Unt) (i : Ins) : List UInt8 × List UInt8 :=
  if i.op = 1 then ([], [110])
  else if i.op = 2 then ([], [98])
  else if i.op = 3 then ([], [lt1 (u.locals.getD i.a.toNat 0)])
  else if i.op = 4 then ([lt1 (u.locals.getD i.a.toNat 0)], [])
  else if i.op = 5 then ([42], [])
  else if i.op = 6 then ([110], [110])
  else if i.op = 7 then ([98], [98])
  else if i.op ≤ 12 then ([110, 110], [110])
  else if i.op = 13 ∨ i.op = 14 then ([63, 63], [98])
  else if i.op ≤ 18 then ([110, 110], [98])
  else if i.op = 19 ∨ i.op = 20 then ([98, 98], [98])
  else if i.op = 22 then ([98], [])
  else if i.op = 23 then (par7 M i.a, [res7 M i.a])
  else if i.op = 24 then ([lt1 u.result], [])
  else if i.op = 26 then ([lt1 (M.boxes.getD i.a.toNat default).1], [])
  else if i.op = 27 then ([], [lt1 (M.boxes.getD i.a.toNat default).1])
  else if i.op = 28 then ([63], [])
  else if i.op = 29 then (par7 M i.a, [lt1 (10 + i.a)])
  else if i.op = 31 then ([lt1 u.result], [lt1 u.takes])
  else ([], [])
/-- the same, where what a generator has started is asked for -/
def want7 (M : Mdl) (u : Unt) (i : Ins) (st : List UInt8) : Int × List UInt8 × List UInt8 :=
  if i.op = 30 ∨ i.op = 32 then
    let n := if i.op = 30 then 2 else 1
    if st.length < n then (12, [], [])
    else if st.getD (st.length - n) 0 = 110 ∨ st.getD (st.length - n) 0 = 98 then (9, [], [])
    else
      let x := M.units.getD ((st.getD (st.length - n) 0).toNat - 65) default
      if i.op = 30 then (0, [st.getD (st.length - n) 0, lt1 x.takes], [lt1 x.result]) else (0, [st.getD (st.length - n) 0], [98])
  else (0, needs7 M u i)
/-- an instruction: what is wrong, or what is so behind it -/
def core7 (M : Mdl) (u : Unt) (i : Ins) (st : List UInt8) (h : List Bool) : Int × List UInt8 × List Bool :=
  if i.op = 3 ∧ h.getD i.a.toNat false = false then (11, [], [])
  else if (i.op = 24 ∧ u.kind ≠ 2) ∨ (i.op = 25 ∧ u.kind = 2) ∨ (i.op = 31 ∧ u.kind ≠ 3) then (8, [], [])
  else if (want7 M u i st).1 ≠ 0 then ((want7 M u i st).1, [], [])
  else if (take7 st (want7 M u i st).2.1).2 ≠ 0 then ((take7 st (want7 M u i st).2.1).2, [], [])
  else if 300 < ((take7 st (want7 M u i st).2.1).1 ++ (want7 M u i st).2.2).length then (4, [], [])
  else if (i.op = 24 ∨ i.op = 25) ∧ ((take7 st (want7 M u i st).2.1).1 ++ (want7 M u i st).2.2).length ≠ 0 then (12, [], [])
  else (0, (take7 st (want7 M u i st).2.1).1 ++ (want7 M u i st).2.2, if i.op = 4 then h.set i.a.toNat true else h)
section
variable {M : Mdl} (h30 : M.units.length ≤ 30)
theorem err_want1 {t : Int} {f : Flow} (h : f.err ≠ 0) : (want1 t f).err = f.err := (want1_kept t f).err h
theorem err_want {l : List Int} {f : Flow} (h : f.err ≠ 0) : (want l f).err = f.err := (want_kept l f).err h
theorem err_push {t : Int} {f : Flow} (h : f.err ≠ 0) : (push t f).err = f.err := by
  unfold push
  split
  · unfold fail
    rw [if_neg h]
  · rfl
theorem err_fail {e : Int} {f : Flow} (h : f.err ≠ 0) : fail e f = f := by unfold fail; rw [if_neg h]
theorem map_last (st : List Int) : (st.map lt1).getD ((st.map lt1).length - 1) 0 = if st.length = 0 then 0 else lt1 (st.getD (st.length - 1) 0) := by
  rw [List.length_map]
  by_cases h : st.length = 0
  · rw [if_pos h, List.eq_nil_of_length_eq_zero h]; rfl
  · rw [if_neg h, List.getD_eq_getElem?_getD, List.getElem?_map, List.getElem?_eq_getElem (by omega), List.getD_eq_getElem?_getD, List.getElem?_eq_getElem (by omega)]; rfl
theorem getD_in {st : List Int} {k : Nat} (h : k < st.length) : st.getD k 0 ∈ st := by
  rw [List.getD_eq_getElem?_getD, List.getElem?_eq_getElem h]; exact List.getElem_mem h
include h30 in
theorem pop_in {st : List Int} (hst : ∀ t ∈ st, VT M t) (hne : st.length ≠ 0) : st.getD (st.length - 1) 0 = 1 ∨ st.getD (st.length - 1) 0 = 2 ∨ (10 ≤ st.getD (st.length - 1) 0 ∧ st.getD (st.length - 1) 0 < 40) := (hst _ (getD_in (by omega))).rng h30
theorem pop_ok {f : Flow} (h : f.stack.length ≠ 0) : pop f = (f.stack.getD (f.stack.length - 1) 0, { f with stack := f.stack.take (f.stack.length - 1) }) := by
  unfold pop
  rw [if_neg h]
theorem pop_no {f : Flow} (h : f.stack.length = 0) : pop f = (0, fail 12 f) := by
  unfold pop
  rw [if_pos h]
include h30 in
/-- types taken, and letters taken -/
theorem want_tk : ∀ (r : List Int) (f : Flow) (last : UInt8), f.err = 0 → (∀ t ∈ r, VT M t) → (∀ t ∈ f.stack, VT M t) →
    tk7 (r.map lt1) last (f.stack.map lt1) = if (want r.reverse f).err = 0 then ((want r.reverse f).stack.map lt1, 0) else ([], (want r.reverse f).err)
  | [], f, last, he, hr, hs => by
    show (f.stack.map lt1, 0) = if f.err = 0 then (f.stack.map lt1, 0) else ([], f.err)
    rw [if_pos he]
  | t :: r, f, last, he, hr, hs => by
    have hw : want (t :: r).reverse f = want r.reverse (want1 t f) := by
      unfold want
      rw [List.reverse_cons, List.foldr_append]; rfl
    have ht := (hr t List.mem_cons_self).rng h30
    obtain ⟨n1, n2, n3⟩ := lt1_ne ht
    rw [hw, List.map_cons]
    unfold tk7
    rw [List.length_map]
    by_cases h0 : f.stack.length = 0
    · rw [if_pos h0]
      have h1 : want1 t f = fail 12 f := by
        unfold want1
        rw [pop_no h0]
        dsimp only
        rw [if_pos (by omega), err_fail (by unfold fail; rw [if_pos he]; exact (by decide : (12 : Int) ≠ 0))]
      have h2 : (want1 t f).err = 12 := by rw [h1]; unfold fail; rw [if_pos he]
      rw [err_want (by rw [h2]; decide), h2, if_neg (by decide)]
    · rw [if_neg h0, if_neg n1, if_neg n2]
      have hl := map_last f.stack
      rw [List.length_map, if_neg h0] at hl
      have htop := pop_in h30 hs h0
      rw [hl]
      by_cases he2 : f.stack.getD (f.stack.length - 1) 0 = t
      · rw [he2, if_neg (fun h => h rfl)]
        have h1 : want1 t f = { f with stack := f.stack.take (f.stack.length - 1) } := by
          unfold want1
          rw [pop_ok h0]
          dsimp only
          rw [if_neg (fun h => h he2)]
        rw [h1, ← List.map_take]
        exact want_tk r { f with stack := f.stack.take (f.stack.length - 1) } last he (fun x hx => hr x (List.mem_cons_of_mem _ hx)) (fun x hx => hs x (List.mem_of_mem_take hx))
      · rw [if_pos (fun h => he2 (lt1_inj htop ht h))]
        have h1 : want1 t f = fail 9 { f with stack := f.stack.take (f.stack.length - 1) } := by
          unfold want1
          rw [pop_ok h0]
          dsimp only
          rw [if_pos he2]
        have h2 : (want1 t f).err = 9 := by rw [h1]; unfold fail; rw [if_pos he]
        rw [err_want (by rw [h2]; decide), h2, if_neg (by decide)]
include h30 in
theorem want_take {l : List Int} {f : Flow} (he : f.err = 0) (hl : ∀ t ∈ l, VT M t) (hs : ∀ t ∈ f.stack, VT M t) :
    take7 (f.stack.map lt1) (l.map lt1) = if (want l f).err = 0 then ((want l f).stack.map lt1, 0) else ([], (want l f).err) := by
  have := want_tk h30 l.reverse f 0 he (fun t ht => hl t (List.mem_reverse.1 ht)) hs
  rw [List.reverse_reverse] at this
  unfold take7
  rw [← List.map_reverse]
  exact this
end
end Go.Proofs.Ytkhagebjphaboaa.Rf7
