/- Plain mathematics of a stack with room: words in a list, a number for the room; nothing of the program stands here. -/
namespace Go.Proofs.Ytninmkkcphnniaa.StackM

/-- a doing: kind, n, v -/
abbrev Op := Int × Int × Int

/-- one doing: the words, the room; or what is wrong -/
def step (mn mx : Nat) (ws : List Int) (rm : Nat) (o : Op) : Except Int (List Int × Nat) :=
  if o.1 < 1 ∨ 3 < o.1 then .error 1
  else if o.1 = 1 then
    if ws.length = mx then .error 4 else .ok (ws ++ [o.2.2], if ws.length = rm then min (2 * rm) mx else rm)
  else if o.2.1 < 0 ∨ (ws.length : Int) < o.2.1 ∨ (o.1 = 3 ∧ o.2.1 = ws.length) then .error 3
  else if o.1 = 2 then
    .ok (ws.take (ws.length - o.2.1.toNat), if ws.length - o.2.1.toNat ≤ rm / 4 ∧ mn < rm then max (rm / 2) mn else rm)
  else .ok (ws.set o.2.1.toNat o.2.2, rm)

/-- all doings: words, room, the rooms after each; or what is wrong, and where -/
def run (mn mx : Nat) (ws : List Int) (rm : Nat) (i : Nat) : List Op → Except (Int × Nat) (List Int × Nat × List Nat)
  | [] => .ok (ws, rm, [])
  | o :: r => match step mn mx ws rm o with
    | .error e => .error (e, i)
    | .ok (ws', rm') => match run mn mx ws' rm' (i + 1) r with
      | .error e => .error e
      | .ok (w, m, rs) => .ok (w, m, rm' :: rs)

theorem run_append (mn mx : Nat) (l k : List Op) : ∀ ws rm i, run mn mx ws rm i (l ++ k) = match run mn mx ws rm i l with
    | .error e => .error e
    | .ok (w, m, rs) => match run mn mx w m (i + l.length) k with
      | .error e => .error e
      | .ok (w', m', rs') => .ok (w', m', rs ++ rs') := by
  induction l with
  | nil =>
    intro ws rm i
    simp only [List.nil_append, run, List.length_nil, Nat.add_zero]
    cases run mn mx ws rm i k with
    | error e => rfl
    | ok x => obtain ⟨a, b, c⟩ := x; simp
  | cons o r ih =>
    intro ws rm i
    simp only [List.cons_append, run]
    cases step mn mx ws rm o with
    | error e => rfl
    | ok x =>
      obtain ⟨ws', rm'⟩ := x
      simp only [ih, List.length_cons]
      cases run mn mx ws' rm' (i + 1) r with
      | error e => rfl
      | ok y =>
        obtain ⟨w, m, rs⟩ := y
        simp only [show i + 1 + r.length = i + (r.length + 1) by omega]
        cases run mn mx w m (i + (r.length + 1)) k with
        | error e => rfl
        | ok z => obtain ⟨a, b, c⟩ := z; simp

/-- what always holds of words and room -/
def Inv (mn mx : Nat) (ws : List Int) (rm : Nat) : Prop := 1 ≤ mn ∧ mn ≤ mx ∧ ws.length ≤ rm ∧ mn ≤ rm ∧ rm ≤ mx

theorem step_inv {mn mx : Nat} {ws ws' : List Int} {rm rm' : Nat} {o : Op} (h : Inv mn mx ws rm) (hs : step mn mx ws rm o = .ok (ws', rm')) : Inv mn mx ws' rm' := by
  obtain ⟨h1, h2, h3, h4, h5⟩ := h
  unfold step at hs
  split at hs
  · cases hs
  split at hs
  · split at hs
    · cases hs
    · cases hs
      refine ⟨h1, h2, ?_⟩
      simp only [List.length_append, List.length_cons, List.length_nil]
      split <;> omega
  split at hs
  · cases hs
  split at hs
  · cases hs
    refine ⟨h1, h2, ?_⟩
    simp only [List.length_take]
    split <;> omega
  · cases hs
    refine ⟨h1, h2, ?_⟩
    simp only [List.length_set]
    omega

theorem run_inv {mn mx : Nat} (l : List Op) : ∀ {ws ws' : List Int} {rm rm' i : Nat} {rs : List Nat}, Inv mn mx ws rm → run mn mx ws rm i l = .ok (ws', rm', rs) → Inv mn mx ws' rm' ∧ rs.length = l.length := by
  induction l with
  | nil => intro ws ws' rm rm' i rs h hr; cases hr; exact ⟨h, rfl⟩
  | cons o r ih =>
    intro ws ws' rm rm' i rs h hr
    simp only [run] at hr
    cases hs : step mn mx ws rm o with
    | error e => rw [hs] at hr; cases hr
    | ok x =>
      obtain ⟨a, b⟩ := x
      rw [hs] at hr
      simp only at hr
      cases hq : run mn mx a b (i + 1) r with
      | error e => rw [hq] at hr; cases hr
      | ok y =>
        obtain ⟨c, d, e⟩ := y
        rw [hq] at hr
        cases hr
        have := ih (step_inv h hs) hq
        exact ⟨this.1, by simp [this.2]⟩

/-- with another room at first: the same words, the same faults -/
theorem step_room (mn mn' mx : Nat) (ws : List Int) (rm rm' : Nat) (o : Op) :
    (∃ e, step mn mx ws rm o = .error e ∧ step mn' mx ws rm' o = .error e) ∨
    (∃ w a b, step mn mx ws rm o = .ok (w, a) ∧ step mn' mx ws rm' o = .ok (w, b)) := by
  unfold step
  split
  · exact .inl ⟨_, rfl, rfl⟩
  split
  · split
    · exact .inl ⟨_, rfl, rfl⟩
    · exact .inr ⟨_, _, _, rfl, rfl⟩
  split
  · exact .inl ⟨_, rfl, rfl⟩
  split
  · exact .inr ⟨_, _, _, rfl, rfl⟩
  · exact .inr ⟨_, _, _, rfl, rfl⟩

theorem run_room (mn mn' mx : Nat) (l : List Op) : ∀ ws rm rm' i,
    (∃ e, run mn mx ws rm i l = .error e ∧ run mn' mx ws rm' i l = .error e) ∨
    (∃ w a b r s, run mn mx ws rm i l = .ok (w, a, r) ∧ run mn' mx ws rm' i l = .ok (w, b, s)) := by
  induction l with
  | nil => intro ws rm rm' i; exact .inr ⟨_, _, _, _, _, rfl, rfl⟩
  | cons o r ih =>
    intro ws rm rm' i
    rcases step_room mn mn' mx ws rm rm' o with ⟨e, h1, h2⟩ | ⟨w, a, b, h1, h2⟩
    · left; exact ⟨(e, i), by simp [run, h1], by simp [run, h2]⟩
    · rcases ih w a b (i + 1) with ⟨e, g1, g2⟩ | ⟨w', a', b', r', s', g1, g2⟩
      · left; exact ⟨e, by simp [run, h1, g1], by simp [run, h2, g2]⟩
      · right; exact ⟨w', a', b', a :: r', b :: s', by simp [run, h1, g1], by simp [run, h2, g2]⟩

/-- the gauge: live, high, and the rooms, as the statement reckons them -/
def gauge (mn mx : Nat) (live high : Int) : List Op → List Nat → Bool
  | o :: l, r :: rs =>
    let live' := if o.1 = 1 then live + 1 else if o.1 = 2 then live - o.2.1 else live
    let high' := if live' > high then live' else high
    if (r : Int) < live' ∨ (r : Int) < mn ∨ (r : Int) > mx ∨ ((r : Int) > mn ∧ (r : Int) > 2 * high') then false else gauge mn mx live' high' l rs
  | _, _ => true

theorem gauge_run (mn mx : Nat) (l : List Op) : ∀ (ws : List Int) (rm i : Nat) (high : Int) (w : List Int) (m : Nat) (rs : List Nat), Inv mn mx ws rm → (ws.length : Int) ≤ high → (mn < rm → (rm : Int) ≤ 2 * high) →
    run mn mx ws rm i l = .ok (w, m, rs) → gauge mn mx ws.length high l rs = true := by
  induction l with
  | nil => intro ws rm i high w m rs _ _ _ h; cases h; rfl
  | cons o r ih =>
    intro ws rm i high w m rs hi hh hr h
    simp only [run] at h
    cases hs : step mn mx ws rm o with
    | error e => rw [hs] at h; cases h
    | ok x =>
      obtain ⟨a, b⟩ := x
      rw [hs] at h
      simp only at h
      cases hq : run mn mx a b (i + 1) r with
      | error e => rw [hq] at h; cases h
      | ok y =>
        obtain ⟨c, d, e⟩ := y
        rw [hq] at h
        cases h
        have hi' := step_inv hi hs
        have key : (a.length : Int) = (if o.1 = 1 then (ws.length : Int) + 1 else if o.1 = 2 then ws.length - o.2.1 else ws.length) ∧
            (mn < b → (b : Int) ≤ 2 * (if (a.length : Int) > high then (a.length : Int) else high)) := by
          obtain ⟨h1, h2, h3, h4, h5⟩ := hi
          unfold step at hs
          split at hs
          · cases hs
          split at hs
          · rename_i ho
            split at hs
            · cases hs
            · cases hs
              simp only [ho, if_true, List.length_append, List.length_cons, List.length_nil]
              refine ⟨by omega, ?_⟩
              split <;> split <;> omega
          split at hs
          · cases hs
          split at hs
          · rename_i ho1 ho2 ho
            cases hs
            simp only [ho, List.length_take]
            refine ⟨by simp; omega, ?_⟩
            split <;> split <;> omega
          · rename_i ho1 ho2 ho3
            cases hs
            simp only [ho1, ho3, if_false, List.length_set]
            refine ⟨trivial, ?_⟩
            split <;> omega
        simp only [gauge]
        rw [← key.1]
        have hb := key.2
        have hi2 := hi'
        obtain ⟨h1, h2, h3, h4, h5⟩ := hi2
        rw [if_neg]
        · refine ih a b (i + 1) _ _ _ _ hi' ?_ hb hq
          split <;> omega
        · omega

/-- words pushed, and as many taken away -/
theorem run_pushes (mn mx : Nat) (more : List Int) : ∀ (ws : List Int) (rm i : Nat), Inv mn mx ws rm → ws.length + more.length ≤ mx →
    ∃ m rs, run mn mx ws rm i (more.map fun v => ((1, 0, v) : Op)) = .ok (ws ++ more, m, rs) := by
  induction more with
  | nil => intro ws rm i _ _; exact ⟨rm, [], by simp [run]⟩
  | cons v r ih =>
    intro ws rm i hi hl
    simp only [List.length_cons] at hl
    have hne : ¬ ws.length = mx := by omega
    have hs : step mn mx ws rm (1, 0, v) = .ok (ws ++ [v], if ws.length = rm then min (2 * rm) mx else rm) := by
      simp [step, hne]
    obtain ⟨m, rs, h⟩ := ih (ws ++ [v]) _ (i + 1) (step_inv hi hs) (by simp; omega)
    exact ⟨m, _ :: rs, by simp only [List.map_cons, run, hs, h, List.append_assoc, List.cons_append, List.nil_append]; rfl⟩

theorem run_back (mn mx : Nat) (l : List Op) (more : List Int) (w : List Int) (m rm : Nat) (rs : List Nat) (hi : Inv mn mx [] rm) (h : run mn mx [] rm 0 l = .ok (w, m, rs)) (hl : w.length + more.length ≤ mx) :
    ∃ m' rs', run mn mx [] rm 0 (l ++ (more.map fun v => ((1, 0, v) : Op)) ++ [((2, more.length, 0) : Op)]) = .ok (w, m', rs') := by
  obtain ⟨hi', _⟩ := run_inv l hi h
  obtain ⟨m1, r1, h1⟩ := run_pushes mn mx more w m l.length hi' hl
  have h2 : run mn mx [] rm 0 (l ++ (more.map fun v => ((1, 0, v) : Op))) = .ok (w ++ more, m1, rs ++ r1) := by
    rw [run_append, h]; simp only [Nat.zero_add, h1]
  rw [run_append, h2]
  have e : step mn mx (w ++ more) m1 (2, more.length, 0) = .ok (w, if w.length ≤ m1 / 4 ∧ mn < m1 then max (m1 / 2) mn else m1) := by
    have : ¬ ((w.length : Int) + more.length < more.length) := by omega
    simp [step, this]
  simp only [run, e]
  exact ⟨_, _, rfl⟩

end Go.Proofs.Ytninmkkcphnniaa.StackM
