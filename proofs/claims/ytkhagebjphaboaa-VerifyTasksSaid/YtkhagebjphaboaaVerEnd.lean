/- What package verify computes: a unit's flow comes to an end. Plain Lean. -/
import Derived.Test.YtkhagebjphaboaaVerRun
namespace Go.Proofs.Ytkhagebjphaboaa.Ver
set_option linter.unusedVariables false
set_option linter.unusedSimpArgs false
open ImgM

theorem find_nil (k : Int) : find [] k = none := rfl
theorem find_cons (p : Int × Shape) (l : List (Int × Shape)) (k : Int) : find (p :: l) k = if p.1 = k then some p.2 else find l k := by
  unfold find
  by_cases h : p.1 = k <;> simp [h]
theorem find_app (l : List (Int × Shape)) (p q : Int) (s : Shape) (h : find l p = none) : find (l ++ [(p, s)]) q = if p = q then some s else find l q := by
  induction l with
  | nil => simp [find_cons, find_nil]
  | cons a l ih =>
    rw [find_cons] at h
    by_cases ha : a.1 = p
    · rw [if_pos ha] at h; cases h
    · rw [if_neg ha] at h
      rw [List.cons_append, find_cons, find_cons, ih h]
      by_cases haq : a.1 = q
      · have : ¬ p = q := fun h => ha (by rw [haq, h])
        rw [if_pos haq, if_neg this, if_pos haq]
      · rw [if_neg haq, if_neg haq]
theorem find_put (l : List (Int × Shape)) (p q : Int) (s s0 : Shape) (h : find l p = some s0) : find (put l p s) q = if p = q then some s else find l q := by
  induction l with
  | nil => cases h
  | cons a l ih =>
    rw [find_cons] at h
    unfold put
    by_cases ha : a.1 = p
    · rw [if_pos ha, find_cons, find_cons]
      by_cases hpq : p = q
      · rw [if_pos (by rw [ha]; exact hpq), if_pos hpq]
      · rw [if_neg (by simp only; rw [ha]; exact hpq), if_neg hpq, if_neg (by rw [ha]; exact hpq)]
    · rw [if_neg ha] at h
      rw [if_neg ha, find_cons, find_cons, ih h]
      by_cases haq : a.1 = q
      · have : ¬ p = q := fun h => ha (by rw [haq, h])
        rw [if_pos haq, if_neg this, if_pos haq]
      · rw [if_neg haq, if_neg haq]

theorem meet_length : ∀ (a b : List Bool), a.length = b.length → (meet a b).length = a.length
  | [], [], _ => rfl
  | [], _ :: _, h => by cases h
  | _ :: _, [], h => by cases h
  | x :: a, y :: b, h => by simp [meet, meet_length a b (by simpa using h)]
theorem meet_count : ∀ (a b : List Bool), a.length = b.length → (meet a b).count true ≤ a.count true ∧ (¬ meet a b = a → (meet a b).count true < a.count true)
  | [], [], _ => ⟨Nat.le_refl _, fun h => absurd rfl h⟩
  | [], _ :: _, h => by cases h
  | _ :: _, [], h => by cases h
  | x :: a, y :: b, h => by
    obtain ⟨h1, h2⟩ := meet_count a b (by simpa using h)
    unfold meet
    cases x <;> cases y <;> simp only [Bool.and_true, Bool.and_false, Bool.true_and, Bool.false_and, List.count_cons, beq_self_eq_true, if_true]
    · exact ⟨by simpa using h1, fun hn => by have := h2 (fun e => hn (by rw [e])); simpa using this⟩
    · exact ⟨by simpa using h1, fun hn => by have := h2 (fun e => hn (by rw [e])); simpa using this⟩
    · refine ⟨by simp; omega, fun _ => by simp; omega⟩
    · exact ⟨by omega, fun hn => by have := h2 (fun e => hn (by rw [e])); omega⟩

/-- how much may still come about at a place -/
def weight (L : Nat) : Option Shape → Nat
  | none => L + 1
  | some s => s.2.count true
def room (n L : Nat) (l : List (Int × Shape)) : Nat := ((List.range n).map fun (p : Nat) => weight L (find l (p : Int))).sum
theorem room_nil (n L : Nat) : room n L [] = n * (L + 1) := by
  unfold room
  simp only [find_nil, weight]
  induction n with
  | zero => simp
  | succ n ih => rw [List.range_succ, List.map_append, List.sum_append, ih]; simp [Nat.add_mul]
theorem sum_le (g h : Nat → Nat) : ∀ (l : List Nat), (∀ p, g p ≤ h p) → (l.map g).sum ≤ (l.map h).sum
  | [], _ => Nat.le_refl _
  | a :: l, hle => by
    simp only [List.map_cons, List.sum_cons]
    have := sum_le g h l hle
    have := hle a
    omega
theorem sum_lt (g h : Nat → Nat) (p0 : Nat) (hlt : g p0 < h p0) : ∀ (l : List Nat), (∀ p, g p ≤ h p) → p0 ∈ l → (l.map g).sum < (l.map h).sum
  | [], _, hp => by cases hp
  | a :: l, hle, hp => by
    simp only [List.map_cons, List.sum_cons]
    have h1 := hle a
    have h2 := sum_le g h l hle
    rcases List.mem_cons.1 hp with rfl | hp
    · omega
    · have := sum_lt g h p0 hlt l hle hp
      omega
/-- what holds of a flow at all times; n: how many instructions; L: how many locals -/
structure Inv (n L : Nat) (f : Flow) : Prop where
  has : f.has.length = L
  ent : ∀ p s, find f.at_ p = some s → s.1.length ≤ 300 ∧ (∀ t ∈ s.1, In64 t) ∧ s.2.length = L
  todo : ∀ p ∈ f.todo, 0 ≤ p ∧ p < (n : Int) ∧ (find f.at_ p).isSome = true
theorem Inv.same {n L : Nat} {f g : Flow} (h : Inv n L f) (s : Same f g) : Inv n L g :=
  ⟨by rw [s.has]; exact h.has, by rw [s.at_]; exact h.ent, by rw [s.todo, s.at_]; exact h.todo⟩
/-- what going to a place does -/
structure Went (n L : Nat) (f g : Flow) : Prop where
  inv : Inv n L g
  stack : g.stack = f.stack
  has : g.has = f.has
  err : ¬ f.err = 0 → g.err = f.err
  mu : g.todo.length + room n L g.at_ ≤ f.todo.length + room n L f.at_
  old : ∀ p, (find f.at_ p).isSome = true → (find g.at_ p).isSome = true
theorem Went.refl {n L : Nat} {f : Flow} (h : Inv n L f) : Went n L f f := ⟨h, rfl, rfl, fun _ => rfl, Nat.le_refl _, fun _ h => h⟩
theorem fail_went {n L : Nat} {f : Flow} (h : Inv n L f) (e : Int) : Went n L f (fail e f) := by
  have k := fail_kept e f
  have hst : (fail e f).stack = f.stack := by unfold fail; split <;> rfl
  exact ⟨h.same k.same, hst, k.same.has, k.err, by rw [k.same.todo, k.same.at_]; exact Nat.le_refl _, fun p hp => by rw [k.same.at_]; exact hp⟩
theorem to_went {n L : Nat} {f : Flow} (h : Inv n L f) {p : Int} (h0 : 0 ≤ p) (hn : p ≤ (n : Int)) (hs : f.err = 0 → f.stack.length ≤ 300) (ht : ∀ t ∈ f.stack, In64 t) : Went n L f (to n p f) := by
  unfold to
  by_cases he : ¬ f.err = 0
  · rw [if_pos he]; exact Went.refl h
  have he : f.err = 0 := Decidable.not_not.1 he
  rw [if_neg (fun h => h he)]
  by_cases hp : p = (n : Int)
  · rw [if_pos hp]; exact fail_went h 3
  rw [if_neg hp]
  have hmem : p.toNat ∈ List.range n := List.mem_range.2 (by omega)
  have hcast : ((p.toNat : Nat) : Int) = p := by omega
  cases hf : find f.at_ p with
  | none =>
    simp only
    have hfa := fun q => find_app f.at_ p q (f.stack, f.has) hf
    have hcnt : f.has.count true ≤ L := by rw [← h.has]; exact List.count_le_length
    refine ⟨⟨h.has, fun q s hq => ?_, fun q hq => ?_⟩, rfl, rfl, fun h => absurd he h, ?_, fun q hq => ?_⟩
    · simp only at hq
      rw [hfa] at hq
      by_cases hpq : p = q
      · rw [if_pos hpq] at hq
        cases hq
        exact ⟨hs he, ht, h.has⟩
      · rw [if_neg hpq] at hq; exact h.ent q s hq
    · simp only at hq ⊢
      rw [hfa]
      by_cases hpq : p = q
      · subst hpq; rw [if_pos rfl]; exact ⟨h0, by omega, rfl⟩
      · rw [if_neg hpq]
        rcases List.mem_append.1 hq with hq | hq
        · exact h.todo q hq
        · simp at hq; exact absurd hq.symm hpq
    · simp only
      have := sum_lt (fun q => weight L (find (f.at_ ++ [(p, (f.stack, f.has))]) (q : Int))) (fun q => weight L (find f.at_ (q : Int))) p.toNat (by
        (try simp only)
        rw [hfa, hcast, if_pos rfl, hf]
        simp only [weight]; omega) (List.range n) (fun q => by
        (try simp only)
        rw [hfa]
        split
        · rename_i hpq; rw [← hpq, hf]; simp only [weight]; omega
        · exact Nat.le_refl _) hmem
      unfold room
      simp only [List.length_append, List.length_cons, List.length_nil]
      omega
    · simp only
      rw [hfa]; split
      · rfl
      · exact hq
  | some s =>
    simp only
    obtain ⟨g1, g2, g3⟩ := h.ent p s hf
    by_cases hst : ¬ s.1 = f.stack
    · rw [if_pos hst]; exact fail_went h 8
    have hst : s.1 = f.stack := Decidable.not_not.1 hst
    rw [if_neg (fun h => h hst)]
    by_cases hm : meet s.2 f.has = s.2
    · rw [if_pos hm]; exact Went.refl h
    rw [if_neg hm]
    have hfp := fun q => find_put f.at_ p q (s.1, meet s.2 f.has) s hf
    have hlen := meet_length s.2 f.has (by rw [g3, h.has])
    obtain ⟨m1, m2⟩ := meet_count s.2 f.has (by rw [g3, h.has])
    have m3 := m2 hm
    refine ⟨⟨h.has, fun q s' hq => ?_, fun q hq => ?_⟩, rfl, rfl, fun h => absurd he h, ?_, fun q hq => ?_⟩
    · simp only at hq
      rw [hfp] at hq
      by_cases hpq : p = q
      · rw [if_pos hpq] at hq
        cases hq
        exact ⟨g1, g2, by simp only; rw [hlen]; exact g3⟩
      · rw [if_neg hpq] at hq; exact h.ent q s' hq
    · simp only at hq ⊢
      rw [hfp]
      by_cases hpq : p = q
      · subst hpq; rw [if_pos rfl]; exact ⟨h0, by omega, rfl⟩
      · rw [if_neg hpq]
        rcases List.mem_append.1 hq with hq | hq
        · exact h.todo q hq
        · simp at hq; exact absurd hq.symm hpq
    · simp only
      have := sum_lt (fun q => weight L (find (put f.at_ p (s.1, meet s.2 f.has)) (q : Int))) (fun q => weight L (find f.at_ (q : Int))) p.toNat (by
        (try simp only)
        rw [hfp, hcast, if_pos rfl, hf]
        simp only [weight]; omega) (List.range n) (fun q => by
        (try simp only)
        rw [hfp]
        split
        · rename_i hpq; rw [← hpq, hf]; simp only [weight]; omega
        · exact Nat.le_refl _) hmem
      unfold room
      simp only [List.length_append, List.length_cons, List.length_nil]
      omega
    · simp only
      rw [hfp]; split
      · rfl
      · exact hq
/-- what a step, or a round, does to a flow -/
structure Gone (n L : Nat) (f g : Flow) : Prop where
  inv : Inv n L g
  len : g.stack.length ≤ 301
  ok : g.err = 0 → g.stack.length ≤ 300
  ty : ∀ t ∈ g.stack, In64 t
  mu : g.todo.length + room n L g.at_ ≤ f.todo.length + room n L f.at_
theorem step_gone {M : Mdl} {u : Unt} (hg : Good M u) {i : Ins} (hi : InsOk M u i) {f : Flow} {n L : Nat} (hn : n = u.code.length) (hL : L = u.locals.length) (h : Inv n L f) (hl : f.stack.length ≤ 300) (ht : ∀ t ∈ f.stack, In64 t) : Gone n L f (step M u i f).2 := by
  have hs := step_is hg hi f
  generalize step M u i f = G at *
  cases hs with
  | @plain b g h1 h2 h3 hk =>
    exact ⟨h.same hk.kept.same, Nat.le_trans hk.kept.len (by omega), fun he => hk.ok he hl, hk.kept.ty ht, by rw [hk.kept.same.todo, hk.kept.same.at_]; exact Nat.le_refl _⟩
  | @store g h1 hk =>
    have := h.same hk.same
    exact ⟨⟨by simp only [List.length_set]; exact this.has, this.ent, this.todo⟩, Nat.le_trans hk.len (by omega), fun _ => Nat.le_trans hk.len hl, hk.ty ht, by simp only; rw [hk.same.todo, hk.same.at_]; exact Nat.le_refl _⟩
  | jump h1 =>
    have hj := hi.jump (.inl h1)
    have hw := to_went (p := i.a) h (by omega) (by omega) (fun _ => hl) ht
    rw [← hn]
    exact ⟨hw.inv, by simp only [hw.stack]; omega, fun _ => by simp only [hw.stack]; omega, by simp only [hw.stack]; exact ht, hw.mu⟩
  | els h1 =>
    have hj := hi.jump (.inr h1)
    have hk := want_kept [2] f
    have hw := to_went (p := i.a) (h.same hk.same) (by omega) (by omega) (fun _ => Nat.le_trans hk.len hl) (hk.ty ht)
    have hl2 := Nat.le_trans hk.len hl
    rw [← hn]
    exact ⟨hw.inv, by simp only [hw.stack]; omega, fun _ => by simp only [hw.stack]; omega, by simp only [hw.stack]; exact hk.ty ht, by
      have := hw.mu
      rw [hk.same.todo, hk.same.at_] at this
      exact this⟩
end Go.Proofs.Ytkhagebjphaboaa.Ver
