/- What an instruction does hangs on the task alone, and on what it receives; what it does elsewhere are its events. Plain Lean. -/
import Derived.Test.YtfeajpghabjaaaaM22
namespace Go.Proofs.Ytfeajpghabjaaaa.Vm
set_option linter.unusedVariables false
set_option linter.unusedSimpArgs false
set_option linter.unusedSectionVars false
open ImgM Ver Opt
abbrev Ev := Int × Int × Int
/-- who remembers what is told, and gives x -/
def rec (x : Int) : Env (List Ev) where
  full _ _ := false
  empty _ _ := false
  put s _ _ := s
  take s _ := (x, s)
  tell s e := s ++ [e]
section
variable {ν : Type} (V : Env ν) (M : Mdl)
/-- an event takes place -/
def play (s : ν) (e : Ev) : ν := if e.1 = 2 then V.tell (V.put s e.2.1.toNat e.2.2) e else if e.1 = 3 then V.tell (V.take s e.2.1.toNat).2 e else V.tell s e
def loc (x : Int) (i : Ins) (t : Tk) : Tk × List Ev := exec (rec x) M i (t, [])
abbrev pl (s : ν) (r : Tk × List Ev) : Tk × ν := (r.1, r.2.foldl (play V) s)
variable (x : Int) (s : ν)
theorem pl_told (t : Tk) (l : List Ev) (e : Ev) (h2 : e.1 ≠ 2) (h3 : e.1 ≠ 3) : pl V s (t, l ++ [e]) = (t, V.tell (l.foldl (play V) s) e) := by
  unfold pl
  simp only [List.foldl_append, List.foldl_cons, List.foldl_nil]
  rw [show play V (l.foldl (play V) s) e = V.tell (l.foldl (play V) s) e by unfold play; rw [if_neg h2, if_neg h3]]
theorem trap_pl (n : Int) (r : Tk × List Ev) : trap V n (pl V s r) = pl V s (trap (rec x) n r) := by
  obtain ⟨t, l⟩ := r
  unfold trap
  by_cases h : t.st = 5
  · rw [if_pos (show (pl V s (t, l)).1.st = 5 from h), if_pos (show (t, l).1.st = 5 from h)]
  · rw [if_neg (show ¬ (pl V s (t, l)).1.st = 5 from h), if_neg (show ¬ (t, l).1.st = 5 from h)]
    exact (pl_told V s _ l (5, 0, n) (by simp) (by simp)).symm
theorem push_pl (v : Int) (r : Tk × List Ev) : push V v (pl V s r) = pl V s (push (rec x) v r) := by
  unfold push
  by_cases h : (cur r.1).ws.length = 400
  · rw [if_pos (show (cur (pl V s r).1).ws.length = 400 from h), if_pos h]; exact trap_pl V x s 4 r
  · rw [if_neg (show ¬ (cur (pl V s r).1).ws.length = 400 from h), if_neg h]
theorem pushN_pl : ∀ (n : Nat) (r : Tk × List Ev), pushN V n (pl V s r) = pl V s (pushN (rec x) n r)
  | 0, r => rfl
  | n + 1, r => by
    unfold pushN
    rw [push_pl V x s 0 r]
    exact pushN_pl n _
theorem pl_ite {c : Prop} [Decidable c] {a b : Tk × ν} {a' b' : Tk × List Ev} (h1 : a = pl V s a') (h2 : b = pl V s b') : (if c then a else b) = pl V s (if c then a' else b') := by
  split
  · exact h1
  · exact h2
theorem exec_pl (i : Ins) (t : Tk) (hx : i.op = 27 → x = (V.take s i.a.toNat).1) : exec V M i (t, s) = pl V s (loc M x i t) := by
  have e0 : ∀ t : Tk, (t, s) = pl V s (t, []) := fun _ => rfl
  have tl : ∀ (t : Tk) (e : Ev), e.1 ≠ 2 → e.1 ≠ 3 → (t, V.tell s e) = pl V s (t, [e]) := fun t e h2 h3 => (pl_told V s t [] e h2 h3).symm
  unfold loc exec
  dsimp only
  refine pl_ite V s (push_pl V x s _ (_, [])) ?_
  refine pl_ite V s (push_pl V x s _ (_, [])) ?_
  refine pl_ite V s (push_pl V x s _ (_, [])) ?_
  refine pl_ite V s rfl ?_
  refine pl_ite V s rfl ?_
  refine pl_ite V s (push_pl V x s _ (_, [])) ?_
  refine pl_ite V s (push_pl V x s _ (_, [])) ?_
  refine pl_ite V s (pl_ite V s (trap_pl V x s _ (_, [])) (push_pl V x s _ (_, []))) ?_
  refine pl_ite V s rfl ?_
  refine pl_ite V s rfl ?_
  refine pl_ite V s rfl ?_
  by_cases h27 : i.op = 27
  · rw [if_pos h27, if_pos h27]
    have hx := hx h27
    have e : ((t, V.tell (V.take s i.a.toNat).2 (3, i.a, (V.take s i.a.toNat).1)) : Tk × ν) = pl V s (t, [] ++ [(3, i.a, x)]) := by
      rw [← hx]; rfl
    rw [e, ← hx]
    exact push_pl V x s _ (t, [] ++ [(3, i.a, x)])
  rw [if_neg h27, if_neg h27]
  refine pl_ite V s (tl _ _ (by simp) (by simp)) ?_
  refine pl_ite V s ?_ ?_
  · unfold callU
    refine pl_ite V s (trap_pl V x s _ (_, [])) (pushN_pl V x s _ (_, []))
  refine pl_ite V s ?_ ?_
  · exact push_pl V x s _ (_, [])
  refine pl_ite V s ?_ ?_
  · unfold endU
    dsimp only
    cases (cur t).up with
    | none => exact tl _ _ (by simp) (by simp)
    | some j => exact push_pl V x s _ (_, [])
  refine pl_ite V s ?_ ?_
  · unfold startU
    dsimp only
    refine pl_ite V s (trap_pl V x s _ (_, [])) ?_
    rw [tl _ _ (by simp) (by simp)]
    exact push_pl V x s _ (_, [_])
  refine pl_ite V s ?_ ?_
  · unfold resumeU
    dsimp only
    refine pl_ite V s (trap_pl V x s _ (_, [])) ?_
    refine pl_ite V s (trap_pl V x s _ (_, [])) ?_
    exact pl_ite V s rfl (push_pl V x s _ (_, []))
  refine pl_ite V s ?_ ?_
  · exact push_pl V x s _ (_, [])
  exact pl_ite V s (push_pl V x s _ (_, [])) rfl
end
/-- what was put out -/
def outs (l : List Ev) : List Int := l.filterMap fun e => if e.1 = 1 then some e.2.2 else none
theorem outs_app (a b : List Ev) : outs (a ++ b) = outs a ++ outs b := List.filterMap_append ..
/-- as it stood, or trapped -/
def Psh (t : Tk) (l : List Ev) (r : Tk × List Ev) : Prop :=
  (r.2 = l ∧ r.1.st = t.st ∧ r.1.tr = t.tr ∧ r.1.out = t.out) ∨ (r.2 = l ++ [(5, 0, r.1.tr)] ∧ r.1.st = 5 ∧ r.1.out = t.out)
theorem Psh.ite {t : Tk} {l : List Ev} {c : Prop} [Decidable c] {a b : Tk × List Ev} (h1 : Psh t l a) (h2 : Psh t l b) : Psh t l (if c then a else b) := by split <;> assumption
section
variable {x : Int}
theorem trap_psh (n : Int) (r : Tk × List Ev) (h : r.1.st ≠ 5) : Psh r.1 r.2 (trap (rec x) n r) := by
  unfold trap
  rw [if_neg h]
  exact .inr ⟨rfl, rfl, rfl⟩
theorem push_psh (v : Int) (r : Tk × List Ev) (h : r.1.st ≠ 5) : Psh r.1 r.2 (push (rec x) v r) := by
  unfold push
  split
  · exact trap_psh _ r h
  · exact .inl ⟨rfl, rfl, rfl, rfl⟩
theorem push_t {v : Int} {r : Tk × List Ev} (h : r.1.st = 5) : (push (rec x) v r).2 = r.2 ∧ (push (rec x) v r).1.st = 5 ∧ (push (rec x) v r).1.tr = r.1.tr ∧ (push (rec x) v r).1.out = r.1.out := by
  unfold push
  split
  · unfold trap; rw [if_pos h]; exact ⟨rfl, h, rfl, rfl⟩
  · exact ⟨rfl, h, rfl, rfl⟩
theorem pushN_t : ∀ (n : Nat) {r : Tk × List Ev}, r.1.st = 5 → (pushN (rec x) n r).2 = r.2 ∧ (pushN (rec x) n r).1.st = 5 ∧ (pushN (rec x) n r).1.tr = r.1.tr ∧ (pushN (rec x) n r).1.out = r.1.out
  | 0, r, h => ⟨rfl, h, rfl, rfl⟩
  | n + 1, r, h => by
    unfold pushN
    obtain ⟨h1, h2, h3, h4⟩ := push_t (x := x) (v := 0) h
    obtain ⟨g1, g2, g3, g4⟩ := pushN_t n h2
    exact ⟨g1.trans h1, g2, g3.trans h3, g4.trans h4⟩
theorem pushN_psh : ∀ (n : Nat) (r : Tk × List Ev), r.1.st ≠ 5 → Psh r.1 r.2 (pushN (rec x) n r)
  | 0, r, h => .inl ⟨rfl, rfl, rfl, rfl⟩
  | n + 1, r, h => by
    unfold pushN
    rcases push_psh (x := x) 0 r h with ⟨h1, h2, h3, h4⟩ | ⟨h1, h2, h3⟩
    · rcases pushN_psh n (push (rec x) 0 r) (by rw [h2]; exact h) with ⟨g1, g2, g3, g4⟩ | ⟨g1, g2, g3⟩
      · exact .inl ⟨g1.trans h1, g2.trans h2, g3.trans h3, g4.trans h4⟩
      · exact .inr ⟨by rw [g1, h1], g2, g3.trans h4⟩
    · obtain ⟨g1, g2, g3, g4⟩ := pushN_t (x := x) n h2
      exact .inr ⟨by rw [g1, h1, g3], g2, g4.trans h3⟩
/-- what comes of an instruction: its events ahead of a trap, what it puts out, where it stands -/
structure Did (i : Ins) (x : Int) (t : Tk) (r : Tk × List Ev) : Prop where
  ex : (∃ t1 l1, Psh t1 l1 r ∧ t1.st = t.st ∧ t1.tr = t.tr ∧ t1.out = t.out ++ outs l1 ∧ (l1 = [] ∧ i.op ≠ 26 ∧ i.op ≠ 27 ∨ i.op = 26 ∧ l1 = [(2, i.a, last t)] ∨ i.op = 27 ∧ l1 = [(3, i.a, x)] ∨ i.op = 28 ∧ l1 = [(1, 0, last t)] ∨ i.op = 29 ∧ l1 = [(6, 0, (i.a.toNat : Int))])) ∨ (i.op = 25 ∧ r.2 = [(4, 0, 0)] ∧ r.1.st = 4 ∧ r.1.tr = t.tr ∧ r.1.out = t.out)
theorem loc_did (M : Mdl) (x : Int) (i : Ins) (t : Tk) (h5 : t.st ≠ 5) : Did i x t (loc M x i t) := by
  have nil : ∀ {r : Tk × List Ev} {t1 : Tk}, Psh t1 [] r → t1.st = t.st → t1.tr = t.tr → t1.out = t.out → i.op ≠ 26 → i.op ≠ 27 → Did i x t r := fun {r t1} h1 h2 h3 h4 h6 h7 =>
    ⟨.inl ⟨t1, [], h1, h2, h3, by rw [h4]; simp [outs], .inl ⟨rfl, h6, h7⟩⟩⟩
  have pn : ∀ (v : Int) (t1 : Tk), t1.st = t.st → t1.tr = t.tr → t1.out = t.out → i.op ≠ 26 → i.op ≠ 27 → Did i x t (push (rec x) v (t1, [])) := fun v t1 h2 h3 h4 h6 h7 =>
    nil (push_psh v (t1, []) (by show t1.st ≠ 5; rw [h2]; exact h5)) h2 h3 h4 h6 h7
  have tn : ∀ (n : Int) (t1 : Tk), t1.st = t.st → t1.tr = t.tr → t1.out = t.out → i.op ≠ 26 → i.op ≠ 27 → Did i x t (trap (rec x) n (t1, [])) := fun v t1 h2 h3 h4 h6 h7 =>
    nil (trap_psh v (t1, []) (by show t1.st ≠ 5; rw [h2]; exact h5)) h2 h3 h4 h6 h7
  have sn : ∀ (t1 : Tk), t1.st = t.st → t1.tr = t.tr → t1.out = t.out → i.op ≠ 26 → i.op ≠ 27 → Did i x t (t1, []) := fun t1 h2 h3 h4 h6 h7 =>
    nil (.inl ⟨rfl, rfl, rfl, rfl⟩) h2 h3 h4 h6 h7
  unfold loc exec
  dsimp only
  by_cases h1 : i.op = 1
  · rw [if_pos h1]; exact pn _ _ rfl rfl rfl (by omega) (by omega)
  rw [if_neg h1]
  by_cases h1 : i.op = 2
  · rw [if_pos h1]; exact pn _ _ rfl rfl rfl (by omega) (by omega)
  rw [if_neg h1]
  by_cases h1 : i.op = 3
  · rw [if_pos h1]; exact pn _ _ rfl rfl rfl (by omega) (by omega)
  rw [if_neg h1]
  by_cases h1 : i.op = 4
  · rw [if_pos h1]; exact sn _ rfl rfl rfl (by omega) (by omega)
  rw [if_neg h1]
  by_cases h1 : i.op = 5
  · rw [if_pos h1]; exact sn _ rfl rfl rfl (by omega) (by omega)
  rw [if_neg h1]
  by_cases h1 : i.op = 6
  · rw [if_pos h1]; exact pn _ _ rfl rfl rfl (by omega) (by omega)
  rw [if_neg h1]
  by_cases h1 : i.op = 7
  · rw [if_pos h1]; exact pn _ _ rfl rfl rfl (by omega) (by omega)
  rw [if_neg h1]
  by_cases h1 : 8 ≤ i.op ∧ i.op ≤ 20
  · rw [if_pos h1]
    split
    · exact tn _ _ rfl rfl rfl (by omega) (by omega)
    · exact pn _ _ rfl rfl rfl (by omega) (by omega)
  rw [if_neg h1]
  by_cases h1 : i.op = 21
  · rw [if_pos h1]; exact sn _ rfl rfl rfl (by omega) (by omega)
  rw [if_neg h1]
  by_cases h1 : i.op = 22
  · rw [if_pos h1]
    split
    · exact sn _ rfl rfl rfl (by omega) (by omega)
    · exact sn _ rfl rfl rfl (by omega) (by omega)
  rw [if_neg h1]
  by_cases h1 : i.op = 26
  · rw [if_pos h1]
    exact ⟨.inl ⟨drop 1 t, [(2, i.a, last t)], .inl ⟨rfl, rfl, rfl, rfl⟩, rfl, rfl, by simp [outs, drop, setCur, setC], .inr (.inl ⟨h1, rfl⟩)⟩⟩
  rw [if_neg h1]
  by_cases h1 : i.op = 27
  · rw [if_pos h1]
    exact ⟨.inl ⟨t, [(3, i.a, x)], push_psh x (t, [(3, i.a, x)]) h5, rfl, rfl, by simp [outs], .inr (.inr (.inl ⟨h1, rfl⟩))⟩⟩
  rw [if_neg h1]
  by_cases h1 : i.op = 28
  · rw [if_pos h1]
    exact ⟨.inl ⟨{ drop 1 t with out := (drop 1 t).out ++ [last t] }, [(1, 0, last t)], .inl ⟨rfl, rfl, rfl, rfl⟩, rfl, rfl, by simp [outs, drop, setCur, setC], .inr (.inr (.inr (.inl ⟨h1, rfl⟩)))⟩⟩
  rw [if_neg h1]
  by_cases h1 : i.op = 23
  · rw [if_pos h1]
    unfold callU
    split
    · exact tn _ _ rfl rfl rfl (by omega) (by omega)
    · refine nil (pushN_psh _ (_, []) ?_) rfl rfl rfl (by omega) (by omega)
      exact h5
  rw [if_neg h1]
  by_cases h1 : i.op = 24
  · rw [if_pos h1]; exact pn _ _ rfl rfl rfl (by omega) (by omega)
  rw [if_neg h1]
  by_cases h1 : i.op = 25
  · rw [if_pos h1]
    unfold endU
    dsimp only
    cases (cur t).up with
    | none => exact ⟨.inr ⟨h1, rfl, rfl, rfl, rfl⟩⟩
    | some j => exact pn _ _ rfl rfl rfl (by omega) (by omega)
  rw [if_neg h1]
  by_cases h1 : i.op = 29
  · rw [if_pos h1]
    unfold startU
    dsimp only
    split
    · exact tn _ _ rfl rfl rfl (by omega) (by omega)
    · exact ⟨.inl ⟨{ drop (unt M i.a.toNat).params.toNat t with cs := (drop (unt M i.a.toNat).params.toNat t).cs ++ [begin M i.a.toNat ((cur t).ws.drop ((cur t).ws.length - (unt M i.a.toNat).params.toNat))] }, [(6, 0, (i.a.toNat : Int))], push_psh _ (_, [(6, 0, (i.a.toNat : Int))]) h5, rfl, rfl, by simp [outs, drop, setCur, setC], .inr (.inr (.inr (.inr ⟨h1, rfl⟩)))⟩⟩
  rw [if_neg h1]
  by_cases h1 : i.op = 30
  · rw [if_pos h1]
    unfold resumeU
    dsimp only
    split
    · exact tn _ _ rfl rfl rfl (by omega) (by omega)
    split
    · exact tn _ _ rfl rfl rfl (by omega) (by omega)
    split
    · exact sn _ rfl rfl rfl (by omega) (by omega)
    · exact pn _ _ rfl rfl rfl (by omega) (by omega)
  rw [if_neg h1]
  by_cases h1 : i.op = 31
  · rw [if_pos h1]; exact pn _ _ rfl rfl rfl (by omega) (by omega)
  rw [if_neg h1]
  by_cases h1' : i.op = 32
  · rw [if_pos h1']; exact pn _ _ rfl rfl rfl (by omega) (by omega)
  rw [if_neg h1']
  exact sn _ rfl rfl rfl (by assumption) (by assumption)
end
end Go.Proofs.Ytfeajpghabjaaaa.Vm

/- A step's events; what grows with steps. Plain Lean. -/
namespace Go.Proofs.Ytfeajpghabjaaaa.Vm
set_option linter.unusedVariables false
set_option linter.unusedSimpArgs false
set_option linter.unusedSectionVars false
open ImgM Ver Opt
/-- the place moved on -/
def mvd (t : Tk) : Tk := setPc ((topF (cur t)).pc + 1) t
def lstep (M : Mdl) (x : Int) (t : Tk) : Tk × List Ev := loc M x (insT M t) (mvd t)
section
variable {ν : Type} (V : Env ν) (M : Mdl)
/-- what would be received -/
def inp (r : Tk × ν) : Int := if (insT M r.1).op = 27 then (V.take r.2 (insT M r.1).a.toNat).1 else 0
theorem look_snd (r : Tk × ν) : (look V M r).2 = r.2 := by
  unfold look waits
  split
  · split
    · rfl
    split <;> rfl
  · rfl
/-- looked at: as it was, but how it stands -/
theorem look_fst (r : Tk × ν) : ∃ a b, (look V M r).1 = { r.1 with st := a, bx := b } := by
  unfold look waits
  split
  · split
    · exact ⟨_, _, rfl⟩
    split <;> exact ⟨_, _, rfl⟩
  · exact ⟨r.1.st, r.1.bx, rfl⟩
theorem look_ins (r : Tk × ν) : insT M (look V M r).1 = insT M r.1 := by
  obtain ⟨a, b, h⟩ := look_fst V M r
  rw [h]; rfl
theorem look_out (r : Tk × ν) : (look V M r).1.out = r.1.out ∧ (look V M r).1.tr = r.1.tr := by
  obtain ⟨a, b, h⟩ := look_fst V M r
  rw [h]; exact ⟨rfl, rfl⟩
/-- looked at twice -/
theorem look_look (r : Tk × ν) : look V M (look V M r) = look V M r := by
  by_cases h : r.1.st ≤ 3
  · have e : ∀ (a b : Int), a ≤ 3 → look V M ({ r.1 with st := a, bx := b }, r.2) = look V M r := fun a b ha => by
      unfold look
      rw [if_pos (show ({ r.1 with st := a, bx := b } : Tk).st ≤ 3 from ha), if_pos h]
      rfl
    have h2 : ∃ a b, a ≤ 3 ∧ look V M r = ({ r.1 with st := a, bx := b }, r.2) := by
      unfold look waits
      rw [if_pos h]
      split
      · exact ⟨2, _, by omega, rfl⟩
      split
      · exact ⟨3, _, by omega, rfl⟩
      · exact ⟨1, _, by omega, rfl⟩
    obtain ⟨a, b, ha, hl⟩ := h2
    rw [hl, e a b ha, hl]
  · have : look V M r = r := by unfold look; rw [if_neg h]
    rw [this, this]
theorem step_no {r : Tk × ν} (h : (look V M r).1.st ≠ 1) : step V M r = (false, look V M r) := by unfold step; exact if_pos h
theorem step_yes {r : Tk × ν} (h : (look V M r).1.st = 1) : step V M r = (true, look V M (pl V r.2 (lstep M (inp V M r) (look V M r).1))) := by
  unfold step
  dsimp only
  rw [if_neg (fun h' => h' h)]
  unfold lstep
  rw [look_ins]
  have e : ((setPc ((topF (cur (look V M r).1)).pc + 1) (look V M r).1, (look V M r).2) : Tk × ν) = (mvd (look V M r).1, r.2) := by rw [look_snd]; rfl
  rw [e, exec_pl V M (inp V M r) r.2 (insT M r.1) _ (fun h => by unfold inp; rw [if_pos h])]
/-- a step's events -/
def evs (r : Tk × ν) : List Ev := if (look V M r).1.st = 1 then (lstep M (inp V M r) (look V M r).1).2 else []
theorem lstep_did {x : Int} {t : Tk} (h : t.st ≠ 5) : Did (insT M t) x (mvd t) (lstep M x t) := loc_did M x _ _ h
end
section
variable {i : Ins} {x : Int} {t : Tk} {r : Tk × List Ev}
theorem outs_one {k a v : Int} (h : k ≠ 1) : outs [(k, a, v)] = [] := by unfold outs; simp [h]
theorem outs_of1 {i : Ins} {x : Int} {t : Tk} {l1 : List Ev} (h : l1 = [] ∧ i.op ≠ 26 ∧ i.op ≠ 27 ∨ i.op = 26 ∧ l1 = [(2, i.a, last t)] ∨ i.op = 27 ∧ l1 = [(3, i.a, x)] ∨ i.op = 28 ∧ l1 = [(1, 0, last t)] ∨ i.op = 29 ∧ l1 = [(6, 0, (i.a.toNat : Int))]) : l1.length ≤ 1 := by
  rcases h with h | h | h | h | h
  · rw [h.1]; simp
  all_goals (rw [h.2]; simp)
theorem Did.len (h : Did i x t r) : r.2.length ≤ 2 := by
  rcases h.ex with ⟨t1, l1, h1, h2, h3, h4, h5⟩ | ⟨-, h1, -⟩
  · have hl := outs_of1 h5
    rcases h1 with ⟨e, -⟩ | ⟨e, -⟩
    · rw [e]; omega
    · rw [e]; simp; omega
  · rw [h1]; simp
theorem Did.out (h : Did i x t r) : r.1.out = t.out ++ outs r.2 := by
  rcases h.ex with ⟨t1, l1, h1, h2, h3, h4, h5⟩ | ⟨-, h1, -, -, h2⟩
  · rcases h1 with ⟨e, -, -, e2⟩ | ⟨e, -, e2⟩
    · rw [e, e2, h4]
    · rw [e, e2, h4, outs_app, outs_one (by omega), List.append_nil]
  · rw [h1, h2, outs_one (by omega), List.append_nil]
theorem outs_len : ∀ l : List Ev, (outs l).length ≤ l.length := fun l => List.length_filterMap_le _ l
end
section
variable {ν : Type} {V : Env ν} {M : Mdl} {sz : ν → Nat} (sPut : ∀ v b x, sz (V.put v b x) ≤ sz v + 1) (sTake : ∀ v b, sz (V.take v b).2 ≤ sz v + 1) (sTell : ∀ v x, sz (V.tell v x) ≤ sz v + 1)
include sPut sTake sTell
theorem play_size (s : ν) (e : Ev) : sz (play V s e) ≤ sz s + 2 := by
  unfold play
  split
  · have := sTell (V.put s e.2.1.toNat e.2.2) e
    have := sPut s e.2.1.toNat e.2.2
    omega
  split
  · have := sTell (V.take s e.2.1.toNat).2 e
    have := sTake s e.2.1.toNat
    omega
  · have := sTell s e; omega
theorem plays_size : ∀ (l : List Ev) (s : ν), sz (l.foldl (play V) s) ≤ sz s + 2 * l.length
  | [], s => by simp
  | e :: l, s => by
    have h1 := plays_size l (play V s e)
    have h2 := play_size sPut sTake sTell s e
    simp only [List.foldl_cons, List.length_cons]
    omega
theorem step_size (r : Tk × ν) : sz (step V M r).2.2 ≤ sz r.2 + 4 := by
  by_cases h : (look V M r).1.st = 1
  · rw [step_yes V M h, look_snd]
    have h1 := plays_size sPut sTake sTell (lstep M (inp V M r) (look V M r).1).2 r.2
    have h2 := (lstep_did M (x := inp V M r) (t := (look V M r).1) (by omega)).len
    show sz (List.foldl (play V) r.2 _) ≤ _
    omega
  · rw [step_no V M h, look_snd]; omega
end
section
variable {ν : Type} {V : Env ν} {M : Mdl}
theorem step_out (r : Tk × ν) : (step V M r).2.1.out = r.1.out ++ outs (evs V M r) := by
  unfold evs
  by_cases h : (look V M r).1.st = 1
  · rw [if_pos h, step_yes V M h, (look_out V M _).1]
    show (lstep _ _ _).1.out = _
    rw [(lstep_did M (x := inp V M r) (t := (look V M r).1) (by omega)).out]
    show (look V M r).1.out ++ _ = _
    rw [(look_out V M r).1]
  · rw [if_neg h, step_no V M h, (look_out V M r).1]; simp [outs]
theorem evs_len (r : Tk × ν) : (evs V M r).length ≤ 2 := by
  unfold evs
  split
  · rename_i h
    exact (lstep_did M (x := inp V M r) (t := (look V M r).1) (by omega)).len
  · simp
theorem step_outLen (r : Tk × ν) : (step V M r).2.1.out.length ≤ r.1.out.length + 2 := by
  rw [step_out, List.length_append]
  have := outs_len (evs V M r)
  have := evs_len (V := V) (M := M) r
  omega
end
end Go.Proofs.Ytfeajpghabjaaaa.Vm

/- What package sched computes: all tasks of a module, as they are picked; boxes with their places. Plain Lean. -/
namespace Go.Proofs.Ytfeajpghabjaaaa.Vm
set_option linter.unusedVariables false
set_option linter.unusedSimpArgs false
open ImgM Ver Opt
/-- what lies in the boxes; what was told, of which task -/
structure Bs where
  ws : List (List Int)
  log : List (Nat × Ev)
def capN (M : Mdl) (b : Nat) : Nat := (M.boxes.getD b default).2.toNat
/-- boxes with their places; 'told': whose doings are told, if any are -/
def bxs (M : Mdl) (told : Option Nat) : Env Bs where
  full s b := decide ((s.ws.getD b []).length = capN M b)
  empty s b := decide ((s.ws.getD b []).length = 0)
  put s b v := { s with ws := s.ws.set b (s.ws.getD b [] ++ [v]) }
  take s b := ((s.ws.getD b []).headD 0, { s with ws := s.ws.set b (s.ws.getD b []).tail })
  tell s e := match told with
    | none => s
    | some k => { s with log := s.log ++ [(k, e)] }
/-- all tasks at work -/
structure Ma where
  ts : List Tk
  bs : Bs
  n : Nat
def tOf (told : Bool) (k : Nat) : Option Nat := if told then some k else none
def Ma.at_ (c : Ma) (k : Nat) : Tk × Bs := (c.ts.getD k default, c.bs)
/-- a pick of one task, which has so many steps behind it all: what was wrong with it, how many steps it took, how it stands then -/
def pick1 {ν : Type} (V : Env ν) (M : Mdl) (n : Nat) (q : Int) (r : Tk × ν) : (Int × Nat) × (Tk × ν) :=
  if q < 1 ∨ 10000 < q then ((5, 0), r)
  else if (look V M r).1.st ≠ 1 then ((11, 0), look V M r)
  else (if (goN V M (min q.toNat (20000 - n)) (look V M r)).1 = 0 then (10, 0) else (0, (goN V M (min q.toNat (20000 - n)) (look V M r)).1), (goN V M (min q.toNat (20000 - n)) (look V M r)).2)
/-- a pick, done -/
def pick (M : Mdl) (told : Bool) (c : Ma) (p : Int × Int) : (Int × Nat) × Ma :=
  if p.1 < 0 ∨ (c.ts.length : Int) ≤ p.1 then ((3, 0), c)
  else
    let r := pick1 (bxs M (tOf told p.1.toNat)) M c.n p.2 (c.at_ p.1.toNat)
    (r.1, ⟨c.ts.set p.1.toNat r.2.1, r.2.2, c.n + r.1.2⟩)
/-- all tasks looked at -/
def Ma.looked (M : Mdl) (c : Ma) : Ma := ⟨c.ts.map fun t => (look (bxs M none) M (t, c.bs)).1, c.bs, c.n⟩
/-- the numbers of tasks that can go on -/
def Ma.ready (c : Ma) : List Nat := (List.range c.ts.length).filter fun k => decide ((c.ts.getD k default).st = 1)
def wrong (M : Mdl) (n : Nat) : Int := if (verify M).err ≠ 0 then (verify M).err else if 400 < n then 5 else 0
end Go.Proofs.Ytfeajpghabjaaaa.Vm

/- What a typing says of an instruction that goes well: the stack ahead of it, and behind it. Plain Lean. -/
namespace Go.Proofs.Ytfeajpghabjaaaa.Vm
set_option linter.unusedVariables false
set_option linter.unusedSimpArgs false
open ImgM Ver Opt

theorem fail_ne {e : Int} (he : e ≠ 0) {f : Flow} : (fail e f).err ≠ 0 := by
  unfold Ver.fail
  split
  · exact he
  · assumption
theorem push_inv {t : Int} {f : Flow} (h : (Ver.push t f).err = 0) : f.err = 0 ∧ Ver.push t f = { f with stack := f.stack ++ [t] } ∧ f.stack.length + 1 ≤ 300 := by
  unfold Ver.push at h ⊢
  split
  · rename_i h3
    rw [if_pos h3] at h
    exact absurd h (fail_ne (by decide))
  · rename_i h3
    rw [if_neg h3] at h
    exact ⟨h, rfl, by omega⟩
theorem snoc_of {α : Type} [Inhabited α] {l : List α} (h : ¬ l.length = 0) : l = l.take (l.length - 1) ++ [l.getD (l.length - 1) default] := by
  have : l.length - 1 + 1 = l.length := by omega
  conv => lhs; rw [← List.take_length (l := l), ← this, List.take_succ_eq_append_getElem (show l.length - 1 < l.length by omega)]
  rw [List.getD_eq_getElem?_getD, List.getElem?_eq_getElem (show l.length - 1 < l.length by omega)]
  rfl
theorem pop_inv {f : Flow} (h : (pop f).2.err = 0) : f.err = 0 ∧ ∃ st t, f.stack = st ++ [t] ∧ (pop f).1 = t ∧ (pop f).2 = { f with stack := st } := by
  unfold pop at h ⊢
  split
  · rename_i h0
    rw [if_pos h0] at h
    exact absurd h (fail_ne (by decide))
  · rename_i h0
    rw [if_neg h0] at h
    exact ⟨h, _, _, snoc_of h0, rfl, rfl⟩
theorem want1_inv {t : Int} {f : Flow} (h : (want1 t f).err = 0) : f.err = 0 ∧ ∃ st, f.stack = st ++ [t] ∧ want1 t f = { f with stack := st } := by
  unfold want1 at h ⊢
  split
  · rename_i hn
    rw [if_pos hn] at h
    exact absurd h (fail_ne (by decide))
  · rename_i hn
    rw [if_neg hn] at h
    obtain ⟨h1, st, t', h2, h3, h4⟩ := pop_inv h
    have : t' = t := Classical.byContradiction fun hx => hn (by rw [h3]; exact hx)
    subst this
    exact ⟨h1, st, h2, h4⟩
theorem want_inv : ∀ (l : List Int) {f : Flow}, (want l f).err = 0 → f.err = 0 ∧ ∃ st, f.stack = st ++ l ∧ want l f = { f with stack := st }
  | [], f, h => ⟨h, f.stack, by simp, rfl⟩
  | t :: r, f, h => by
    have hh : want (t :: r) f = want1 t (want r f) := rfl
    rw [hh] at h ⊢
    obtain ⟨h1, st, h2, h3⟩ := want1_inv h
    obtain ⟨g1, st', g2, g3⟩ := want_inv r h1
    rw [g3] at h2 h3
    simp only at h2
    exact ⟨g1, st, by rw [g2, h2]; simp, by rw [g3]; exact h3⟩
theorem fail_inv {e : Int} (he : e ≠ 0) {c : Prop} [Decidable c] {f : Flow} (h : (if c then fail e f else f).err = 0) : ¬ c ∧ f.err = 0 := by
  by_cases hc : c
  · rw [if_pos hc] at h; exact absurd h (fail_ne he)
  · rw [if_neg hc] at h; exact ⟨hc, h⟩
theorem fail_inv' {e : Int} (he : e ≠ 0) {c : Prop} [Decidable c] {f : Flow} (h : (if c then f else fail e f).err = 0) : c ∧ f.err = 0 := by
  by_cases hc : c
  · rw [if_pos hc] at h; exact ⟨hc, h⟩
  · rw [if_neg hc] at h; exact absurd h (fail_ne he)
theorem done_inv {f : Flow} (h : (done f).err = 0) : f.err = 0 ∧ f.stack = [] ∧ done f = f := by
  unfold done at h ⊢
  split
  · rename_i h0; rw [if_pos h0] at h; exact ⟨h, List.eq_nil_of_length_eq_zero h0, rfl⟩
  · rename_i h0; rw [if_neg h0] at h; exact absurd h (fail_ne (by decide))
/-- what an instruction does to the stack's types, and asks of them -/
inductive Does (M : Mdl) (u : Unt) (i : Ins) : List Int → List Bool → List Int → List Bool → Prop
  | const (st h) (hi : i.op = 1 ∨ i.op = 2) : Does M u i st h (st ++ [i.op]) h
  | load (st h) (hi : i.op = 3) (hh : h.getD i.a.toNat false = true) : Does M u i st h (st ++ [u.locals.getD i.a.toNat 0]) h
  | store (st h) (hi : i.op = 4) : Does M u i (st ++ [u.locals.getD i.a.toNat 0]) h st (h.set i.a.toNat true)
  | drop (st h t) (hi : i.op = 5) : Does M u i (st ++ [t]) h st h
  | neg (st h) (hi : i.op = 6) : Does M u i (st ++ [1]) h (st ++ [1]) h
  | not (st h) (hi : i.op = 7) : Does M u i (st ++ [2]) h (st ++ [2]) h
  | arith (st h) (hi : 8 ≤ i.op ∧ i.op ≤ 12) : Does M u i (st ++ [1, 1]) h (st ++ [1]) h
  | eq (st h t) (hi : i.op = 13 ∨ i.op = 14) (ht : t = 1 ∨ t = 2) : Does M u i (st ++ [t, t]) h (st ++ [2]) h
  | cmp (st h) (hi : 15 ≤ i.op ∧ i.op ≤ 18) : Does M u i (st ++ [1, 1]) h (st ++ [2]) h
  | logic (st h) (hi : i.op = 19 ∨ i.op = 20) : Does M u i (st ++ [2, 2]) h (st ++ [2]) h
  | jump (st h) (hi : i.op = 21) : Does M u i st h st h
  | els (st h) (hi : i.op = 22) : Does M u i (st ++ [2]) h st h
  | call (st h) (hi : i.op = 23) : Does M u i (st ++ (M.units.getD i.a.toNat default).locals.take (M.units.getD i.a.toNat default).params.toNat) h (st ++ [(M.units.getD i.a.toNat default).result]) h
  | ret (h) (hi : i.op = 24) (hk : u.kind = 2) : Does M u i [u.result] h [] h
  | end_ (h) (hi : i.op = 25) (hk : u.kind ≠ 2) : Does M u i [] h [] h
  | send (st h) (hi : i.op = 26) : Does M u i (st ++ [(M.boxes.getD i.a.toNat default).1]) h st h
  | recv (st h) (hi : i.op = 27) : Does M u i st h (st ++ [(M.boxes.getD i.a.toNat default).1]) h
  | out (st h t) (hi : i.op = 28) : Does M u i (st ++ [t]) h st h
  | start (st h) (hi : i.op = 29) : Does M u i (st ++ (M.units.getD i.a.toNat default).locals.take (M.units.getD i.a.toNat default).params.toNat) h (st ++ [10 + i.a]) h
  | resume (st h k) (hi : i.op = 30) (hk : handle M (10 + k) = true) : Does M u i (st ++ [10 + k, (M.units.getD k.toNat default).takes]) h (st ++ [(M.units.getD k.toNat default).result]) h
  | yield (st h) (hi : i.op = 31) (hk : u.kind = 3) : Does M u i (st ++ [u.result]) h (st ++ [u.takes]) h
  | alive (st h k) (hi : i.op = 32) (hk : handle M (10 + k) = true) : Does M u i (st ++ [10 + k]) h (st ++ [2]) h
theorem app2 {α : Type} (s : List α) (a b : α) : s ++ [a] ++ [b] = s ++ [a, b] := by simp
theorem gen_inv {M : Mdl} {f : Flow} (h : (gen M f).2.err = 0) : f.err = 0 ∧ ∃ st k, f.stack = st ++ [10 + k] ∧ handle M (10 + k) = true ∧ gen M f = (some k, { f with stack := st }) := by
  unfold gen at h ⊢
  by_cases h1 : (pop f).2.err ≠ 0
  · rw [if_pos h1] at h; exact absurd h h1
  rw [if_neg h1] at h ⊢
  by_cases h2 : handle M (pop f).1 = false
  · rw [if_pos h2] at h; exact absurd h (fail_ne (by decide))
  rw [if_neg h2] at h ⊢
  obtain ⟨g1, st, t, g2, g3, g4⟩ := pop_inv h
  rw [g3] at h2 ⊢
  refine ⟨g1, st, t - 10, by rw [g2]; congr 2; omega, ?_, ?_⟩
  · rw [show (10 : Int) + (t - 10) = t by omega]; simpa using h2
  · rw [g4]
theorem sem_does {M : Mdl} {u : Unt} {i : Ins} {st : List Int} {h : List Bool} (ho : 1 ≤ i.op ∧ i.op ≤ 32) (he : (sem M u i (st, h)).err = 0) :
    Does M u i st h (sem M u i (st, h)).stack (sem M u i (st, h)).has := by
  unfold sem core at he ⊢
  by_cases h21 : i.op = 21
  · rw [if_pos h21]; exact .jump _ _ h21
  rw [if_neg h21] at he ⊢
  by_cases h22 : i.op = 22
  · rw [if_pos h22] at he ⊢
    obtain ⟨-, s, g2, g3⟩ := want_inv _ he
    simp only at g2
    rw [g3]; subst g2
    exact .els _ _ h22
  rw [if_neg h22] at he ⊢
  unfold Ver.step at he ⊢
  by_cases h1 : i.op = 1
  · rw [if_pos h1] at he ⊢
    obtain ⟨-, g2, -⟩ := push_inv he
    simp only
    rw [g2]
    have := Does.const (M := M) (u := u) (i := i) st h (.inl h1)
    rw [h1] at this; exact this
  rw [if_neg h1] at he ⊢
  by_cases h2 : i.op = 2
  · rw [if_pos h2] at he ⊢
    obtain ⟨-, g2, -⟩ := push_inv he
    simp only
    rw [g2]
    have := Does.const (M := M) (u := u) (i := i) st h (.inr h2)
    rw [h2] at this; exact this
  rw [if_neg h2] at he ⊢
  by_cases h3 : i.op = 3
  · rw [if_pos h3] at he ⊢
    obtain ⟨g1, g2, -⟩ := push_inv he
    obtain ⟨k1, k2⟩ := fail_inv' (by decide) g1
    simp only at k1 ⊢
    rw [g2, if_pos k1]
    exact .load _ _ h3 k1
  rw [if_neg h3] at he ⊢
  by_cases h4 : i.op = 4
  · rw [if_pos h4] at he ⊢
    obtain ⟨-, s, g2, g3⟩ := want_inv _ (show (want [u.locals.getD i.a.toNat 0] ⟨[], [], st, h, 0⟩).err = 0 from he)
    simp only at g2 ⊢
    rw [g3]; subst g2
    exact .store _ _ h4
  rw [if_neg h4] at he ⊢
  by_cases h5 : i.op = 5
  · rw [if_pos h5] at he ⊢
    obtain ⟨-, s, t, g2, g3, g4⟩ := pop_inv he
    simp only at g2 ⊢
    rw [g4]; subst g2
    exact .drop _ _ _ h5
  rw [if_neg h5] at he ⊢
  by_cases h6 : i.op = 6
  · rw [if_pos h6] at he ⊢
    obtain ⟨g1, g2, -⟩ := push_inv he
    obtain ⟨-, s, k2, k3⟩ := want_inv _ g1
    simp only at k2 ⊢
    rw [g2, k3]; subst k2
    exact .neg _ _ h6
  rw [if_neg h6] at he ⊢
  by_cases h7 : i.op = 7
  · rw [if_pos h7] at he ⊢
    obtain ⟨g1, g2, -⟩ := push_inv he
    obtain ⟨-, s, k2, k3⟩ := want_inv _ g1
    simp only at k2 ⊢
    rw [g2, k3]; subst k2
    exact .not _ _ h7
  rw [if_neg h7] at he ⊢
  by_cases h8 : 8 ≤ i.op ∧ i.op ≤ 12
  · rw [if_pos h8] at he ⊢
    obtain ⟨g1, g2, -⟩ := push_inv he
    obtain ⟨-, s, k2, k3⟩ := want_inv _ g1
    simp only at k2 ⊢
    rw [g2, k3]; subst k2
    exact .arith _ _ h8
  rw [if_neg h8] at he ⊢
  by_cases h9 : i.op = 13 ∨ i.op = 14
  · rw [if_pos h9] at he ⊢
    obtain ⟨g1, g2, -⟩ := push_inv he
    obtain ⟨g3, s, k2, k3⟩ := want_inv _ g1
    obtain ⟨q1, q2⟩ := fail_inv (by decide) g3
    obtain ⟨-, s', t, p2, p3, p4⟩ := pop_inv q2
    rw [if_neg q1] at k2 k3 g2 ⊢
    rw [g2, k3]
    rw [p4] at k2 ⊢
    rw [p3] at q1 k2
    simp only at k2 p2 ⊢
    subst k2 p2
    rw [app2]
    refine .eq _ _ _ h9 ?_
    omega
  rw [if_neg h9] at he ⊢
  by_cases h10 : 15 ≤ i.op ∧ i.op ≤ 18
  · rw [if_pos h10] at he ⊢
    obtain ⟨g1, g2, -⟩ := push_inv he
    obtain ⟨-, s, k2, k3⟩ := want_inv _ g1
    simp only at k2 ⊢
    rw [g2, k3]; subst k2
    exact .cmp _ _ h10
  rw [if_neg h10] at he ⊢
  by_cases h11 : i.op = 19 ∨ i.op = 20
  · rw [if_pos h11] at he ⊢
    obtain ⟨g1, g2, -⟩ := push_inv he
    obtain ⟨-, s, k2, k3⟩ := want_inv _ g1
    simp only at k2 ⊢
    rw [g2, k3]; subst k2
    exact .logic _ _ h11
  rw [if_neg h11, if_neg h21, if_neg h22] at he ⊢
  unfold special at he ⊢
  by_cases h23 : i.op = 23
  · rw [if_pos h23] at he ⊢
    obtain ⟨g1, g2, -⟩ := push_inv he
    obtain ⟨-, s, k2, k3⟩ := want_inv _ (show (want _ _).err = 0 from g1)
    simp only at k2 ⊢
    rw [g2]
    unfold args
    rw [k3]; subst k2
    exact .call _ _ h23
  rw [if_neg h23] at he ⊢
  by_cases h29 : i.op = 29
  · rw [if_pos h29] at he ⊢
    obtain ⟨g1, g2, -⟩ := push_inv he
    obtain ⟨-, s, k2, k3⟩ := want_inv _ (show (want _ _).err = 0 from g1)
    simp only at k2 ⊢
    rw [g2]
    unfold args
    rw [k3]; subst k2
    exact .start _ _ h29
  rw [if_neg h29] at he ⊢
  by_cases h24 : i.op = 24
  · rw [if_pos h24] at he ⊢
    obtain ⟨g1, g2, g3⟩ := done_inv he
    obtain ⟨k1, s, k2, k3⟩ := want_inv _ g1
    obtain ⟨q1, q2⟩ := fail_inv (by decide) k1
    rw [if_neg q1] at k2 k3 g2
    simp only at k2 ⊢
    rw [g3, if_neg q1, k3]
    rw [k3] at g2
    simp only at g2
    subst g2 k2
    exact .ret _ h24 (Classical.byContradiction q1)
  rw [if_neg h24] at he ⊢
  by_cases h25 : i.op = 25
  · rw [if_pos h25] at he ⊢
    obtain ⟨g1, g2, g3⟩ := done_inv he
    obtain ⟨q1, q2⟩ := fail_inv (by decide) g1
    rw [if_neg q1] at g2
    simp only at g2 ⊢
    rw [g3, if_neg q1]
    subst g2
    exact .end_ _ h25 q1
  rw [if_neg h25] at he ⊢
  by_cases h26 : i.op = 26
  · rw [if_pos h26] at he ⊢
    obtain ⟨-, s, g2, g3⟩ := want_inv _ he
    simp only at g2 ⊢
    rw [g3]; subst g2
    exact .send _ _ h26
  rw [if_neg h26] at he ⊢
  by_cases h27 : i.op = 27
  · rw [if_pos h27] at he ⊢
    obtain ⟨-, g2, -⟩ := push_inv he
    simp only
    rw [g2]
    exact .recv _ _ h27
  rw [if_neg h27] at he ⊢
  by_cases h28 : i.op = 28
  · rw [if_pos h28] at he ⊢
    obtain ⟨q1, q2⟩ := fail_inv (by decide) (show (if (pop ⟨[], [], st, h, 0⟩).2.err = 0 ∧ plain (pop ⟨[], [], st, h, 0⟩).1 = false then fail 9 (pop ⟨[], [], st, h, 0⟩).2 else (pop ⟨[], [], st, h, 0⟩).2).err = 0 from he)
    obtain ⟨-, s, t, g2, g3, g4⟩ := pop_inv q2
    simp only at g2 ⊢
    rw [if_neg q1, g4]; subst g2
    exact .out _ _ _ h28
  rw [if_neg h28] at he ⊢
  by_cases h30 : i.op = 30
  · rw [if_pos h30] at he ⊢
    have hg : (gen M (pop ⟨[], [], st, h, 0⟩).2).2.err = 0 ∧ ∀ k g, gen M (pop ⟨[], [], st, h, 0⟩).2 = (some k, g) → (pop ⟨[], [], st, h, 0⟩).1 = (M.units.getD k.toNat default).takes := by
      revert he
      generalize gen M (pop ⟨[], [], st, h, 0⟩).2 = G
      obtain ⟨o, g⟩ := G
      cases o with
      | none => intro he; exact ⟨he, fun k g h => by cases h⟩
      | some k =>
        intro he
        obtain ⟨g1, -, -⟩ := push_inv (show (Ver.push _ _).err = 0 from he)
        obtain ⟨q1, q2⟩ := fail_inv (by decide) g1
        refine ⟨q2, fun k' g' h => ?_⟩
        simp only [Prod.mk.injEq, Option.some.injEq] at h
        obtain ⟨rfl, rfl⟩ := h
        exact Classical.byContradiction q1
    obtain ⟨hg1, hg2⟩ := hg
    obtain ⟨g1, s, k, g2, g3, g4⟩ := gen_inv hg1
    obtain ⟨-, s', t, p2, p3, p4⟩ := pop_inv g1
    have ht := hg2 _ _ g4
    rw [g4] at he ⊢
    obtain ⟨-, r2, -⟩ := push_inv (show (Ver.push _ _).err = 0 from he)
    simp only at r2 ⊢
    rw [r2, if_neg (fun hx => hx ht)]
    rw [p4] at g2 ⊢
    simp only at g2 p2 ⊢
    rw [p3] at ht
    subst g2 p2 ht
    rw [app2]
    exact .resume _ _ _ h30 g3
  rw [if_neg h30] at he ⊢
  by_cases h31 : i.op = 31
  · rw [if_pos h31] at he ⊢
    obtain ⟨g1, g2, -⟩ := push_inv he
    obtain ⟨k1, s, k2, k3⟩ := want_inv _ g1
    obtain ⟨q1, q2⟩ := fail_inv (by decide) k1
    rw [if_neg q1] at k2 k3
    simp only at k2 ⊢
    rw [g2, if_neg q1, k3]
    subst k2
    exact .yield _ _ h31 (Classical.byContradiction q1)
  rw [if_neg h31] at he ⊢
  have h32 : i.op = 32 := by omega
  rw [if_pos h32] at he ⊢
  obtain ⟨g1, g2, -⟩ := push_inv he
  obtain ⟨-, s, k, k2, k3, k4⟩ := gen_inv g1
  simp only at k2 ⊢
  rw [g2, k4]
  subst k2
  exact .alive _ _ _ h32 k3
end Go.Proofs.Ytfeajpghabjaaaa.Vm
