/- Plain mathematics of a box: a queue of at most 'cap' words; nothing of the program stands here. -/
namespace Go.Proofs.Ytninmkkcphnniaa.MailM

/-- one doing: (put?, v); what came of it: (ok, v) -/
def step (cap : Nat) (q : List Int) (o : Bool × Int) : (Bool × Int) × List Int :=
  if o.1 then (if q.length < cap then ((true, 0), q ++ [o.2]) else ((false, 0), q))
  else match q with
    | [] => ((false, 0), [])
    | x :: r => ((true, x), r)

def run (cap : Nat) (q : List Int) : List (Bool × Int) → List (Bool × Int) × List Int
  | [] => ([], q)
  | o :: r => ((step cap q o).1 :: (run cap (step cap q o).2 r).1, (run cap (step cap q o).2 r).2)

theorem run_snoc (cap : Nat) (l : List (Bool × Int)) (o : Bool × Int) : ∀ q, run cap q (l ++ [o]) =
    ((run cap q l).1 ++ [(step cap (run cap q l).2 o).1], (step cap (run cap q l).2 o).2) := by
  induction l with
  | nil => intro q; simp [run]
  | cons a r ih => intro q; simp [run, ih]

theorem run_length (cap : Nat) (l : List (Bool × Int)) : ∀ q, (run cap q l).1.length = l.length := by
  induction l with
  | nil => intro q; simp [run]
  | cons a r ih => intro q; simp [run, ih]

theorem step_le (cap : Nat) (q : List Int) (o : Bool × Int) (h : q.length ≤ cap) : (step cap q o).2.length ≤ cap := by
  unfold step
  split
  · split
    · simp; omega
    · exact h
  · split
    · simp
    · simp at h ⊢; omega

theorem run_le (cap : Nat) (l : List (Bool × Int)) : ∀ q, q.length ≤ cap → (run cap q l).2.length ≤ cap := by
  induction l with
  | nil => intro q h; exact h
  | cons a r ih => intro q h; exact ih _ (step_le cap q a h)

/-- what was put, what was taken -/
def puts : List (Bool × Int) → List (Bool × Int) → List Int
  | o :: r, g :: s => if o.1 && g.1 then o.2 :: puts r s else puts r s
  | _, _ => []
def gots : List (Bool × Int) → List (Bool × Int) → List Int
  | o :: r, g :: s => if !o.1 && g.1 then g.2 :: gots r s else gots r s
  | _, _ => []

theorem fifo (cap : Nat) (l : List (Bool × Int)) : ∀ q, q ++ puts l (run cap q l).1 = gots l (run cap q l).1 ++ (run cap q l).2 := by
  induction l with
  | nil => intro q; simp [run, puts, gots]
  | cons o r ih =>
    intro q
    have h := ih (step cap q o).2
    obtain ⟨p, v⟩ := o
    cases p with
    | true =>
      by_cases hq : q.length < cap
      · simp [run, puts, gots, step, hq] at h ⊢; exact h
      · simp [run, puts, gots, step, hq] at h ⊢; exact h
    | false =>
      cases q with
      | nil => simp [run, puts, gots, step] at h ⊢; exact h
      | cons x q => simp [run, puts, gots, step] at h ⊢; exact h

/-- two runs side by side, the second with more places: as long as none differs, both queues are the same; the first that differs is a refusal of the narrow one. -/
def wider : Bool → List (Bool × Int) → List (Bool × Int) → List (Bool × Int) → Option Bool
  | same, [], _, _ => some same
  | same, o :: r, a :: s, b :: t =>
    if same && decide (a ≠ b) then (if !o.1 || a.1 || !b.1 then none else wider false r s t) else wider same r s t
  | same, _, _, _ => some same

theorem wider_false (l : List (Bool × Int)) : ∀ a b, wider false l a b = some false := by
  induction l with
  | nil => intro a b; rfl
  | cons o r ih =>
    intro a b
    cases a with
    | nil => rfl
    | cons x s => cases b with
      | nil => rfl
      | cons y t => simp [wider, ih]

theorem wider_run (c d : Nat) (hcd : c ≤ d) (l : List (Bool × Int)) : ∀ q,
    wider true l (run c q l).1 (run d q l).1 = some false ∨
    (wider true l (run c q l).1 (run d q l).1 = some true ∧ (run c q l).2 = (run d q l).2) := by
  induction l with
  | nil => intro q; right; simp [run, wider]
  | cons o r ih =>
    intro q
    obtain ⟨p, v⟩ := o
    cases p with
    | false =>
      have e : step c q (false, v) = step d q (false, v) := by simp [step]
      simp only [run, wider, e]
      simp
      exact ih _
    | true =>
      by_cases hc : q.length < c
      · have e : step c q (true, v) = step d q (true, v) := by simp [step, hc, show q.length < d by omega]
        simp only [run, wider, e]
        simp
        exact ih _
      · by_cases hd : q.length < d
        · left
          simp [run, wider, step, hc, hd, wider_false]
        · have e : step c q (true, v) = step d q (true, v) := by simp [step, hc, hd]
          simp only [run, wider, e]
          simp
          exact ih _

end Go.Proofs.Ytninmkkcphnniaa.MailM
