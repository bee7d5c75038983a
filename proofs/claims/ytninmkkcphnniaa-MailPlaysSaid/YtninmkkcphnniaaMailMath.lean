/- Plain mathematics of a box: a queue of at most 'cap' words; nothing of the program stands here. -/
namespace Go.Proofs.Ytninmkkcphnniaa.MailM

/-- one doing: (put?, v); what came of it: (ok, v) -/
def step (cap : Nat) (q : List Int) (o : Bool × Int) : (Bool × Int) × List Int :=
  if o.1 then (if q.length < cap then ((true, 0), q ++ [o.2]) else ((false, 0), q))
  else match q with
    | [] => ((false, 0), [])
    | x :: r => ((true, x), r)

def run (cap : Nat) (q : List Int) : List (Bool × Int) → List (Bool × Int) × List Int
  | [] => ([], q)
  | o :: r => ((step cap q o).1 :: (run cap (step cap q o).2 r).1, (run cap (step cap q o).2 r).2)

theorem run_snoc (cap : Nat) (l : List (Bool × Int)) (o : Bool × Int) : ∀ q, run cap q (l ++ [o]) =
    ((run cap q l).1 ++ [(step cap (run cap q l).2 o).1], (step cap (run cap q l).2 o).2) := by
  induction l with
  | nil => intro q; simp [run]
  | cons a r ih => intro q; simp [run, ih]

theorem run_length (cap : Nat) (l : List (Bool × Int)) : ∀ q, (run cap q l).1.length = l.length := by
  induction l with
  | nil => intro q; simp [run]
  | cons a r ih => intro q; simp [run, ih]

theorem step_le (cap : Nat) (q : List Int) (o : Bool × Int) (h : q.length ≤ cap) : (step cap q o).2.length ≤ cap := by
  unfold step
  split
  · split
    · simp; omega
    · exact h
  · split
    · simp
    · simp at h ⊢; omega

theorem run_le (cap : Nat) (l : List (Bool × Int)) : ∀ q, q.length ≤ cap → (run cap q l).2.length ≤ cap := by
  induction l with
  | nil => intro q h; exact h
  | cons a r ih => intro q h; exact ih _ (step_le cap q a h)

/-- what was put, what was taken -/
def puts : List (Bool × Int) → List (Bool × Int) → List Int
  | o :: r, g :: s => if o.1 && g.1 then o.2 :: puts r s else puts r s
  | _, _ => []
def gots : List (Bool × Int) → List (Bool × Int) → List Int
  | o :: r, g :: s => if !o.1 && g.1 then g.2 :: gots r s else gots r s
  | _, _ => []

theorem puts_le : ∀ (l g : List (Bool × Int)), (puts l g).length ≤ l.length
  | [], _ => by simp [puts]
  | _ :: _, [] => by simp [puts]
  | a :: l, b :: g => by
    have := puts_le l g
    simp only [puts]
    split <;> simp <;> omega
theorem gots_le : ∀ (l g : List (Bool × Int)), (gots l g).length ≤ l.length
  | [], _ => by simp [gots]
  | _ :: _, [] => by simp [gots]
  | a :: l, b :: g => by
    have := gots_le l g
    simp only [gots]
    split <;> simp <;> omega
theorem puts_snoc : ∀ (l g : List (Bool × Int)) (o x : Bool × Int), l.length = g.length → puts (l ++ [o]) (g ++ [x]) = puts l g ++ (if o.1 && x.1 then [o.2] else [])
  | [], [], o, x, _ => by simp [puts]
  | a :: l, b :: g, o, x, h => by
    simp only [List.cons_append, puts]
    rw [puts_snoc l g o x (by simpa using h)]
    split <;> simp
  | [], _ :: _, _, _, h => by simp at h
  | _ :: _, [], _, _, h => by simp at h
theorem gots_snoc : ∀ (l g : List (Bool × Int)) (o x : Bool × Int), l.length = g.length → gots (l ++ [o]) (g ++ [x]) = gots l g ++ (if !o.1 && x.1 then [x.2] else [])
  | [], [], o, x, _ => by simp [gots]
  | a :: l, b :: g, o, x, h => by
    simp only [List.cons_append, gots]
    rw [gots_snoc l g o x (by simpa using h)]
    split <;> simp
  | [], _ :: _, _, _, h => by simp at h
  | _ :: _, [], _, _, h => by simp at h

theorem fifo (cap : Nat) (l : List (Bool × Int)) : ∀ q, q ++ puts l (run cap q l).1 = gots l (run cap q l).1 ++ (run cap q l).2 := by
  induction l with
  | nil => intro q; simp [run, puts, gots]
  | cons o r ih =>
    intro q
    have h := ih (step cap q o).2
    obtain ⟨p, v⟩ := o
    cases p with
    | true =>
      by_cases hq : q.length < cap
      · simp [run, puts, gots, step, hq] at h ⊢; exact h
      · simp [run, puts, gots, step, hq] at h ⊢; exact h
    | false =>
      cases q with
      | nil => simp [run, puts, gots, step] at h ⊢; exact h
      | cons x q => simp [run, puts, gots, step] at h ⊢; exact h

/-- two runs side by side, the second with more places: as long as none differs, both queues are the same; the first that differs is a refusal of the narrow one. -/
def wider : Bool → List (Bool × Int) → List (Bool × Int) → List (Bool × Int) → Option Bool
  | same, [], _, _ => some same
  | same, o :: r, a :: s, b :: t =>
    if same && decide (a ≠ b) then (if !o.1 || a.1 || !b.1 then none else wider false r s t) else wider same r s t
  | same, _, _, _ => some same

theorem wider_false (l : List (Bool × Int)) : ∀ a b, wider false l a b = some false := by
  induction l with
  | nil => intro a b; rfl
  | cons o r ih =>
    intro a b
    cases a with
    | nil => rfl
    | cons x s => cases b with
      | nil => rfl
      | cons y t => simp [wider, ih]

theorem wider_append : ∀ (l a b l' a' b' : List (Bool × Int)) (s : Bool), l.length = a.length → l.length = b.length →
    wider s (l ++ l') (a ++ a') (b ++ b') = (wider s l a b).bind (fun s' => wider s' l' a' b')
  | [], [], [], l', a', b', s, _, _ => by simp [wider]
  | o :: l, x :: a, y :: b, l', a', b', s, h1, h2 => by
    simp only [List.cons_append, wider]
    split
    · split
      · rfl
      · exact wider_append l a b l' a' b' false (by simpa using h1) (by simpa using h2)
    · exact wider_append l a b l' a' b' s (by simpa using h1) (by simpa using h2)
  | [], _ :: _, _, _, _, _, _, h, _ => by simp at h
  | [], [], _ :: _, _, _, _, _, _, h => by simp at h
  | _ :: _, [], _, _, _, _, _, h, _ => by simp at h
  | _ :: _, _ :: _, [], _, _, _, _, _, h => by simp at h

/-- what the round finds, if the whole comes to something -/
theorem wider_round {l a b : List (Bool × Int)} {k : Nat} {s r : Bool} (hk : k < l.length) (ha : a.length = l.length) (hb : b.length = l.length)
    (hw : wider true l a b = some r) (hp : wider true (l.take k) (a.take k) (b.take k) = some s) :
    (s = true → a.getD k (false, 0) ≠ b.getD k (false, 0) → (l.getD k (false, 0)).1 = true ∧ (a.getD k (false, 0)).1 = false ∧ (b.getD k (false, 0)).1 = true) ∧
    wider true (l.take (k + 1)) (a.take (k + 1)) (b.take (k + 1)) = some (s && decide (a.getD k (false, 0) = b.getD k (false, 0))) := by
  have e (m : List (Bool × Int)) (hm : k < m.length) : m = m.take k ++ m.getD k (false, 0) :: m.drop (k + 1) := by
    have : m.getD k (false, 0) = m[k] := by simp [List.getD_eq_getElem?_getD, hm]
    rw [this, List.getElem_cons_drop]
    simp
  have e' (m : List (Bool × Int)) (hm : k < m.length) : m.take (k + 1) = m.take k ++ [m.getD k (false, 0)] := by
    rw [List.take_succ_eq_append_getElem hm]; simp [List.getD_eq_getElem?_getD, hm]
  have h1 := hw
  rw [e l hk, e a (by omega), e b (by omega), wider_append _ _ _ _ _ _ _ (by simp; omega) (by simp; omega)] at h1
  have t1 : (l.take k ++ l.getD k (false, 0) :: l.drop (k + 1)).take k = l.take k := by rw [← e l hk]
  rw [hp] at h1
  simp only [Option.bind_some] at h1
  rw [e' l hk, e' a (by omega), e' b (by omega), wider_append _ _ _ _ _ _ _ (by simp; omega) (by simp; omega), hp]
  simp only [Option.bind_some]
  generalize l.getD k (false, 0) = o at *
  generalize a.getD k (false, 0) = x at *
  generalize b.getD k (false, 0) = y at *
  simp only [wider] at h1 ⊢
  cases s with
  | false => simp
  | true =>
    by_cases hxy : x = y
    · simp [hxy]
    · simp only [hxy, ne_eq, not_false_eq_true, decide_true, Bool.and_self, if_true] at h1 ⊢
      obtain ⟨o1, o2⟩ := o
      obtain ⟨x1, x2⟩ := x
      obtain ⟨y1, y2⟩ := y
      clear e e' t1 hp hw hk ha hb
      cases o1 <;> cases x1 <;> cases y1 <;> simp at h1 ⊢

theorem wider_run (c d : Nat) (hcd : c ≤ d) (l : List (Bool × Int)) : ∀ q,
    wider true l (run c q l).1 (run d q l).1 = some false ∨
    (wider true l (run c q l).1 (run d q l).1 = some true ∧ (run c q l).2 = (run d q l).2) := by
  induction l with
  | nil => intro q; right; simp [run, wider]
  | cons o r ih =>
    intro q
    obtain ⟨p, v⟩ := o
    cases p with
    | false =>
      have e : step c q (false, v) = step d q (false, v) := by simp [step]
      simp only [run, wider, e]
      simp
      exact ih _
    | true =>
      by_cases hc : q.length < c
      · have e : step c q (true, v) = step d q (true, v) := by simp [step, hc, show q.length < d by omega]
        simp only [run, wider, e]
        simp
        exact ih _
      · by_cases hd : q.length < d
        · left
          simp [run, wider, step, hc, hd, wider_false]
        · have e : step c q (true, v) = step d q (true, v) := by simp [step, hc, hd]
          simp only [run, wider, e]
          simp
          exact ih _

end Go.Proofs.Ytninmkkcphnniaa.MailM
