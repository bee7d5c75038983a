/- With shorter code a unit has a typing still. Plain Lean. -/
import Derived.Test.YtfeajpghabjaaaaM04
namespace Go.Proofs.Ytfeajpghabjaaaa.Opt
set_option linter.unusedVariables false
set_option linter.unusedSimpArgs false
open ImgM Ver

def withC (u : Unt) (c : List Ins) : Unt := { u with code := c }
theorem step_code (M : Mdl) (u : Unt) (c : List Ins) (i : Ins) (f : Flow) (h21 : i.op ≠ 21) (h22 : i.op ≠ 22) : Ver.step M (withC u c) i f = Ver.step M u i f := by
  unfold Ver.step
  rw [if_neg h21, if_neg h22, if_neg h21, if_neg h22]
  rfl
theorem sem_code (M : Mdl) (u : Unt) (c : List Ins) (i : Ins) (s : Shape) : sem M (withC u c) i s = sem M u i s := by
  unfold sem core
  by_cases h21 : i.op = 21
  · rw [if_pos h21, if_pos h21]
  rw [if_neg h21, if_neg h21]
  by_cases h22 : i.op = 22
  · rw [if_pos h22, if_pos h22]
  rw [if_neg h22, if_neg h22, step_code M u c i _ h21 h22]
/-- it hangs on where a jump leads not at all -/
theorem sem_reloc (M : Mdl) (u : Unt) (wh : List Int) (i : Ins) (s : Shape) : sem M u (reloc wh i) s = sem M u i s := by
  unfold reloc
  split
  · rename_i h
    unfold isJ at h
    rw [Bool.or_eq_true, decide_eq_true_eq, decide_eq_true_eq] at h
    unfold sem core
    rcases h with h | h <;> simp only [h, if_true] <;> rfl
  · rfl
theorem reloc_op (wh : List Int) (i : Ins) : (reloc wh i).op = i.op := by unfold reloc; split <;> rfl
theorem reloc_no {wh : List Int} {i : Ins} (h : isJ i = false) : reloc wh i = i := by unfold reloc; rw [if_neg (by rw [h]; decide)]
theorem reloc_a {wh : List Int} {i : Ins} (h : isJ i = true) : (reloc wh i).a = wh.getD i.a.toNat 0 := by unfold reloc; rw [if_pos h]
theorem isJ_iff {i : Ins} : isJ i = true ↔ i.op = 21 ∨ i.op = 22 := by unfold isJ; rw [Bool.or_eq_true, decide_eq_true_eq, decide_eq_true_eq]
theorem isC_iff {i : Ins} : isC i = true ↔ i.op = 1 ∨ i.op = 2 := by unfold isC; rw [Bool.or_eq_true, decide_eq_true_eq, decide_eq_true_eq]

/-- the stack behind an instruction, whatever is wrong -/
theorem push_stack (t : Int) (f : Flow) : (push t f).stack = f.stack ++ [t] ∧ (push t f).has = f.has := by
  unfold push fail
  split
  · split <;> exact ⟨rfl, rfl⟩
  · exact ⟨rfl, rfl⟩
theorem fail_stack (e : Int) (f : Flow) : (fail e f).stack = f.stack ∧ (fail e f).has = f.has := by unfold fail; split <;> exact ⟨rfl, rfl⟩
theorem pop_stack (f : Flow) : (pop f).2.stack = f.stack.take (f.stack.length - 1) ∧ (pop f).2.has = f.has := by
  unfold pop
  split
  · rename_i h
    have : f.stack = [] := List.eq_nil_of_length_eq_zero h
    rw [(fail_stack _ _).1, (fail_stack _ _).2, this]
    exact ⟨rfl, rfl⟩
  · exact ⟨rfl, rfl⟩
theorem want1_stack (t : Int) (f : Flow) : (want1 t f).stack = f.stack.take (f.stack.length - 1) ∧ (want1 t f).has = f.has := by
  unfold want1
  split
  · rw [(fail_stack _ _).1, (fail_stack _ _).2]; exact pop_stack f
  · exact pop_stack f
theorem take_snoc1 {α : Type} (st : List α) (x : α) : (st ++ [x]).take ((st ++ [x]).length - 1) = st := by simp
section
variable {M : Mdl} {u : Unt} {i : Ins} {st : List Int} {h : List Bool}
theorem step1 (hi : i.op = 1 ∨ i.op = 2) (f : Flow) : Ver.step M u i f = (true, push i.op f) := by
  unfold Ver.step
  rcases hi with hi | hi
  · rw [if_pos hi, hi]
  · rw [if_neg (by omega), if_pos hi, hi]
theorem sem_const (hi : i.op = 1 ∨ i.op = 2) : sem M u i (st, h) = push i.op ⟨[], [], st, h, 0⟩ := by
  unfold sem core
  rw [if_neg (by omega), if_neg (by omega), step1 hi]
theorem push_err {t : Int} : (push t ⟨[], [], st, h, 0⟩).err = 0 ↔ st.length + 1 ≤ 300 := by
  unfold push
  simp only
  split
  · rename_i h'
    unfold fail
    simp only [if_true]
    constructor
    · intro h; cases h
    · intro h; omega
  · rename_i h'
    exact ⟨fun _ => by omega, fun _ => rfl⟩
theorem sem_two {x y : Int} (hi : 8 ≤ i.op ∧ i.op ≤ 20) : (sem M u i (st ++ [x] ++ [y], h)).stack = st ++ [if 12 < i.op then 2 else 1] ∧ (sem M u i (st ++ [x] ++ [y], h)).has = h := by
  unfold sem core
  rw [if_neg (by omega), if_neg (by omega)]
  have e : ∀ (a b c : Int), (want1 a (want1 b (⟨[], [], st ++ [x] ++ [y], h, 0⟩ : Flow))).stack = st ∧ (want1 a (want1 b (⟨[], [], st ++ [x] ++ [y], h, 0⟩ : Flow))).has = h := by
    intro a b c
    rw [(want1_stack _ _).1, (want1_stack _ _).2, (want1_stack _ _).1, (want1_stack _ _).2]
    simp only
    rw [take_snoc1, take_snoc1]
    simp
  unfold Ver.step
  rw [if_neg (by omega), if_neg (by omega), if_neg (by omega), if_neg (by omega), if_neg (by omega), if_neg (by omega), if_neg (by omega)]
  by_cases h1 : 8 ≤ i.op ∧ i.op ≤ 12
  · rw [if_pos h1, if_neg (by omega)]
    have := e 1 1 0
    rw [(push_stack _ _).1, (push_stack _ _).2]
    exact ⟨by rw [show want [1, 1] (⟨[], [], st ++ [x] ++ [y], h, 0⟩ : Flow) = want1 1 (want1 1 (⟨[], [], st ++ [x] ++ [y], h, 0⟩ : Flow)) from rfl, this.1], this.2⟩
  rw [if_neg h1]
  rw [if_pos (show 12 < i.op by omega)]
  by_cases h2 : i.op = 13 ∨ i.op = 14
  · rw [if_pos h2]
    simp only [(push_stack _ _).1, (push_stack _ _).2, show ∀ (t : Int) (f : Flow), want [t] f = want1 t f from fun _ _ => rfl, (want1_stack _ _).1, (want1_stack _ _).2]
    have p := pop_stack (⟨[], [], st ++ [x] ++ [y], h, 0⟩ : Flow)
    simp only at p
    rw [take_snoc1] at p
    split
    · rw [(fail_stack _ _).1, (fail_stack _ _).2, p.1, take_snoc1]; exact ⟨rfl, p.2⟩
    · rw [p.1, take_snoc1]; exact ⟨rfl, p.2⟩
  rw [if_neg h2]
  by_cases h3 : 15 ≤ i.op ∧ i.op ≤ 18
  · rw [if_pos h3]
    have := e 1 1 0
    rw [(push_stack _ _).1, (push_stack _ _).2]
    exact ⟨by rw [show want [1, 1] (⟨[], [], st ++ [x] ++ [y], h, 0⟩ : Flow) = want1 1 (want1 1 (⟨[], [], st ++ [x] ++ [y], h, 0⟩ : Flow)) from rfl, this.1], this.2⟩
  rw [if_neg h3, if_pos (by omega)]
  have := e 2 2 0
  rw [(push_stack _ _).1, (push_stack _ _).2]
  exact ⟨by rw [show want [2, 2] (⟨[], [], st ++ [x] ++ [y], h, 0⟩ : Flow) = want1 2 (want1 2 (⟨[], [], st ++ [x] ++ [y], h, 0⟩ : Flow)) from rfl, this.1], this.2⟩
theorem sem_load (hi : i.op = 3) : (sem M u i (st, h)).stack = st ++ [u.locals.getD i.a.toNat 0] ∧ (sem M u i (st, h)).has = h := by
  unfold sem core
  rw [if_neg (by omega), if_neg (by omega), step_3 M u i _ hi]
  simp only [(push_stack _ _).1, (push_stack _ _).2]
  split
  · exact ⟨rfl, rfl⟩
  · rw [(fail_stack _ _).1, (fail_stack _ _).2]; exact ⟨rfl, rfl⟩
theorem sem_drop {x : Int} (hi : i.op = 5) : (sem M u i (st ++ [x], h)).stack = st ∧ (sem M u i (st ++ [x], h)).has = h := by
  unfold sem core
  rw [if_neg (by omega), if_neg (by omega)]
  unfold Ver.step
  rw [if_neg (by omega), if_neg (by omega), if_neg (by omega), if_neg (by omega), if_pos hi]
  simp only
  rw [(pop_stack _).1, (pop_stack _).2]
  exact ⟨take_snoc1 _ _, rfl⟩
theorem sem_one {x : Int} (hi : i.op = 6 ∨ i.op = 7) : (sem M u i (st ++ [x], h)).stack = st ++ [if i.op = 6 then 1 else 2] ∧ (sem M u i (st ++ [x], h)).has = h := by
  unfold sem core
  rw [if_neg (by omega), if_neg (by omega)]
  unfold Ver.step
  rw [if_neg (by omega), if_neg (by omega), if_neg (by omega), if_neg (by omega), if_neg (by omega)]
  by_cases h6 : i.op = 6
  · rw [if_pos h6, if_pos h6, (push_stack _ _).1, (push_stack _ _).2]
    simp only [show ∀ (t : Int) (f : Flow), want [t] f = want1 t f from fun _ _ => rfl, (want1_stack _ _).1, (want1_stack _ _).2]
    rw [take_snoc1]; exact ⟨rfl, trivial⟩
  · rw [if_neg h6, if_neg h6, if_pos (by omega), (push_stack _ _).1, (push_stack _ _).2]
    simp only [show ∀ (t : Int) (f : Flow), want [t] f = want1 t f from fun _ _ => rfl, (want1_stack _ _).1, (want1_stack _ _).2]
    rw [take_snoc1]; exact ⟨rfl, trivial⟩
theorem sem_else {x : Int} (hi : i.op = 22) : (sem M u i (st ++ [x], h)).stack = st ∧ (sem M u i (st ++ [x], h)).has = h := by
  unfold sem core
  rw [if_neg (by omega), if_pos hi]
  simp only [show ∀ (t : Int) (f : Flow), want [t] f = want1 t f from fun _ _ => rfl, (want1_stack _ _).1, (want1_stack _ _).2]
  rw [take_snoc1]; exact ⟨rfl, trivial⟩
theorem sem_jump (hi : i.op = 21) : sem M u i (st, h) = ⟨[], [], st, h, 0⟩ := by
  unfold sem core
  rw [if_pos hi]
end
theorem nexts_on {i : Ins} {p : Int} (h1 : i.op ≠ 21) (h2 : i.op ≠ 22) (h3 : i.op ≠ 24) (h4 : i.op ≠ 25) : nexts i p = [p + 1] := by
  unfold nexts
  rw [if_neg h1, if_neg h2, if_neg (by omega)]
theorem ins_at (u : Unt) (p : Nat) : ins u (p : Int) = at_ u.code p := rfl
section
variable {M : Mdl} {u : Unt} {τ : Int → Option Shape} (hc : Cert M u τ)
include hc
/-- one instruction that goes on -/
theorem go1 {p : Nat} {st : List Int} {h : List Bool} (ht : τ (p : Int) = some (st, h)) (h1 : (at_ u.code p).op ≠ 21) (h3 : (at_ u.code p).op ≠ 24) (h4 : (at_ u.code p).op ≠ 25) :
    (sem M u (at_ u.code p) (st, h)).err = 0 ∧ ∃ h', τ ((p + 1 : Nat) : Int) = some ((sem M u (at_ u.code p) (st, h)).stack, h') ∧ Le h' (sem M u (at_ u.code p) (st, h)).has := by
  have hf := hc.fits _ _ ht
  refine ⟨hf.ok, ?_⟩
  have hn := hf.next ((p + 1 : Nat) : Int) (by
    rw [ins_at]
    unfold nexts
    rw [if_neg h1]
    split
    · simp
    · rw [if_neg (by omega)]; simp)
  exact hn
/-- what a piece comes to -/
theorem piece {p : Nat} {st : List Int} {h : List Bool} (ht : τ (p : Int) = some (st, h)) (hs : (shorter u.code p).2 ≠ 0) :
    (em u.code p = [] ∧ ∃ h', τ (nx u.code p : Int) = some (st, h') ∧ Le h' h) ∨
    (∃ i, em u.code p = [i] ∧ (i.op = 1 ∨ i.op = 2) ∧ (sem M u i (st, h)).err = 0 ∧ ∃ h', τ (nx u.code p : Int) = some ((sem M u i (st, h)).stack, h') ∧ Le h' (sem M u i (st, h)).has) ∨
    (∃ i, em u.code p = [i] ∧ i.op = 21 ∧ ∃ h', τ i.a = some (st, h') ∧ Le h' h) := by
  have e1 : em u.code p = (shorter u.code p).1 := by unfold em; rw [if_neg hs]
  have e2 : nx u.code p = p + (shorter u.code p).2 := by unfold nx; rw [if_neg hs]
  rw [e1, e2]
  rcases shorter_cases hs with ⟨r, h1, h2, h3⟩ | ⟨r, h1, h2, h3⟩ | ⟨h1, h2, h3, h4⟩
  · -- three
    rw [h1]
    unfold three at h3
    split at h3
    · cases h3
    rename_i g1
    split at h3
    · cases h3
    rename_i g2
    cases h3
    have c1 : isC (at_ u.code p) = true := by
      cases hx : isC (at_ u.code p) with
      | true => rfl
      | false => exact absurd (.inl hx) g1
    have c2 : isC (at_ u.code (p + 1)) = true := by
      cases hx : isC (at_ u.code (p + 1)) with
      | true => rfl
      | false => exact absurd (.inr (.inl hx)) g1
    rw [isC_iff] at c1 c2
    have c3 : (at_ u.code p).op = (at_ u.code (p + 1)).op := Classical.byContradiction fun hx => g1 (.inr (.inr (.inl hx)))
    have c4 : 8 ≤ (at_ u.code (p + 2)).op ∧ (at_ u.code (p + 2)).op ≤ 20 := by
      refine ⟨?_, ?_⟩
      · exact Int.not_lt.1 fun hx => g1 (.inr (.inr (.inr (.inl hx))))
      · exact Int.not_lt.1 fun hx => g1 (.inr (.inr (.inr (.inr (.inl hx)))))
    obtain ⟨o1, k1, t1, l1⟩ := go1 hc ht (by omega) (by omega) (by omega)
    rw [sem_const c1] at o1 t1 l1
    rw [(push_stack _ _).1] at t1
    rw [(push_stack _ _).2] at l1
    obtain ⟨o2, k2, t2, l2⟩ := go1 hc t1 (by omega) (by omega) (by omega)
    rw [sem_const c2] at o2 t2 l2
    rw [(push_stack _ _).1] at t2
    rw [(push_stack _ _).2] at l2
    rw [show p + 1 + 1 = p + 2 from rfl] at t2
    obtain ⟨o3, k3, t3, l3⟩ := go1 hc t2 (by omega) (by omega) (by omega)
    simp only at t3 l3
    rw [(sem_two c4).1] at t3
    rw [(sem_two c4).2] at l3
    right; left
    rw [push_err] at o1
    have l : Le k3 h := (l3.trans l2).trans l1
    by_cases h12 : 12 < (at_ u.code (p + 2)).op
    · rw [if_pos h12] at t3
      refine ⟨⟨2, two2 (at_ u.code (p + 2)).op (cval (at_ u.code p)) (cval (at_ u.code (p + 1))), 0⟩, ?_, .inr rfl, ?_, k3, ?_, ?_⟩
      · simp only; unfold known; rw [if_pos (by simpa using h12)]
      · rw [sem_const (.inr rfl), push_err]; exact o1
      · rw [sem_const (.inr rfl), (push_stack _ _).1]; exact t3
      · rw [sem_const (.inr rfl), (push_stack _ _).2]; exact l
    · rw [if_neg h12] at t3
      refine ⟨⟨1, 0, two2 (at_ u.code (p + 2)).op (cval (at_ u.code p)) (cval (at_ u.code (p + 1)))⟩, ?_, .inl rfl, ?_, k3, ?_, ?_⟩
      · simp only; unfold known; rw [if_neg (by simpa using h12)]
      · rw [sem_const (.inl rfl), push_err]; exact o1
      · rw [sem_const (.inl rfl), (push_stack _ _).1]; exact t3
      · rw [sem_const (.inl rfl), (push_stack _ _).2]; exact l
  · -- two
    rw [h1]
    unfold pair at h3
    split at h3
    · -- dropped
      rename_i g
      cases h3
      left
      refine ⟨rfl, ?_⟩
      have g1 : ((at_ u.code p).op = 1 ∨ (at_ u.code p).op = 2) ∨ (at_ u.code p).op = 3 := by
        rcases g.2 with g | g
        · exact .inl (isC_iff.1 g)
        · exact .inr g
      obtain ⟨o1, k1, t1, l1⟩ := go1 hc ht (by omega) (by omega) (by omega)
      have key : ∃ x, (sem M u (at_ u.code p) (st, h)).stack = st ++ [x] ∧ (sem M u (at_ u.code p) (st, h)).has = h := by
        rcases g1 with g1 | g1
        · rw [sem_const g1, (push_stack _ _).1, (push_stack _ _).2]; exact ⟨_, rfl, rfl⟩
        · exact ⟨_, (sem_load g1).1, (sem_load g1).2⟩
      obtain ⟨x, x1, x2⟩ := key
      rw [x1] at t1
      rw [x2] at l1
      obtain ⟨o2, k2, t2, l2⟩ := go1 hc t1 (by omega) (by omega) (by omega)
      rw [(sem_drop g.1).1] at t2
      rw [(sem_drop g.1).2] at l2
      exact ⟨k2, t2, l2.trans l1⟩
    split at h3
    · cases h3
    rename_i g0
    have c1 : (at_ u.code p).op = 1 ∨ (at_ u.code p).op = 2 := isC_iff.1 (by simpa using g0)
    obtain ⟨o1, k1, t1, l1⟩ := go1 hc ht (by omega) (by omega) (by omega)
    rw [sem_const c1] at o1 t1 l1
    rw [(push_stack _ _).1] at t1
    rw [(push_stack _ _).2] at l1
    rw [push_err] at o1
    simp only at t1 l1
    split at h3
    · -- a number, turned
      rename_i g
      cases h3
      obtain ⟨o2, k2, t2, l2⟩ := go1 hc t1 (by omega) (by omega) (by omega)
      rw [(sem_one (.inl g.1)).1, if_pos g.1] at t2
      rw [(sem_one (.inl g.1)).2] at l2
      right; left
      refine ⟨⟨1, 0, IntKind.i64.wrap (-(cval (at_ u.code p)))⟩, rfl, .inl rfl, ?_, k2, ?_, ?_⟩
      · rw [sem_const (.inl rfl), push_err]; exact o1
      · rw [sem_const (.inl rfl), (push_stack _ _).1]; exact t2
      · rw [sem_const (.inl rfl), (push_stack _ _).2]; exact l2.trans l1
    split at h3
    · cases h3
    split at h3
    · -- a truth, turned
      rename_i g
      cases h3
      obtain ⟨o2, k2, t2, l2⟩ := go1 hc t1 (by omega) (by omega) (by omega)
      rw [(sem_one (.inr g)).1, if_neg (by omega)] at t2
      rw [(sem_one (.inr g)).2] at l2
      right; left
      refine ⟨⟨2, IntKind.i64.wrap (1 - cval (at_ u.code p)), 0⟩, rfl, .inr rfl, ?_, k2, ?_, ?_⟩
      · rw [sem_const (.inr rfl), push_err]; exact o1
      · rw [sem_const (.inr rfl), (push_stack _ _).1]; exact t2
      · rw [sem_const (.inr rfl), (push_stack _ _).2]; exact l2.trans l1
    split at h3
    · -- a test of what is true
      rename_i g
      cases h3
      obtain ⟨o2, k2, t2, l2⟩ := go1 hc t1 (by omega) (by omega) (by omega)
      rw [(sem_else g.1).1] at t2
      rw [(sem_else g.1).2] at l2
      exact .inl ⟨rfl, k2, t2, l2.trans l1⟩
    split at h3
    · -- a test of what is false
      rename_i g
      cases h3
      have hf := hc.fits _ _ t1
      obtain ⟨k2, t2, l2⟩ := hf.next (at_ u.code (p + 1)).a (by
        rw [ins_at]
        unfold nexts
        rw [if_neg (by omega), if_pos g]
        simp)
      rw [ins_at] at t2 l2
      rw [(sem_else g).1] at t2
      rw [(sem_else g).2] at l2
      exact .inr (.inr ⟨_, rfl, rfl, k2, t2, l2.trans l1⟩)
    · cases h3
  · -- a jump to what follows
    rw [h1]
    left
    refine ⟨rfl, ?_⟩
    have hf := hc.fits _ _ ht
    obtain ⟨k2, t2, l2⟩ := hf.next (at_ u.code p).a (by
      rw [ins_at]
      unfold nexts
      rw [if_pos h3]
      simp)
    rw [ins_at, sem_jump h3] at t2 l2
    rw [h4] at t2
    exact ⟨k2, t2, l2⟩
end
end Go.Proofs.Ytfeajpghabjaaaa.Opt
