/- A right module with shorter code is right. Plain Lean. -/
import Derived.Test.YtfeajpghabjaaaaM05
namespace Go.Proofs.Ytfeajpghabjaaaa.Opt
set_option linter.unusedVariables false
set_option linter.unusedSimpArgs false
open ImgM Ver

/-- where old places are now -/
def whr (l : List Ins) (a : Int) : Int := (pass0 l).wh.getD a.toNat 0
def src (l : List Ins) : List Nat := srcs l (bs l)
/-- what is known at new instructions -/
def tau (l : List Ins) (τ : Int → Option Shape) (j : Int) : Option Shape := if 0 ≤ j then ((src l)[j.toNat]?).bind fun q => τ (q : Int) else none
theorem tau_nat (l : List Ins) (τ : Int → Option Shape) (j : Nat) : tau l τ (j : Int) = ((src l)[j]?).bind fun q => τ (q : Int) := by unfold tau; rw [if_pos (by omega)]; rfl
theorem pass_code (l : List Ins) : (pass l).1 = ((bs l).flatMap (em l)).map (reloc (pass0 l).wh) := by unfold pass; rw [pass0_out]
theorem pass_length (l : List Ins) : (pass l).1.length = ((bs l).flatMap (em l)).length := by rw [pass_code, List.length_map]
theorem pass_at {l : List Ins} {j : Nat} {i : Ins} (h : ((bs l).flatMap (em l))[j]? = some i) : at_ (pass l).1 j = reloc (pass0 l).wh i := by
  unfold at_
  rw [pass_code, List.getD_eq_getElem?_getD, List.getElem?_map, h]
  rfl
/-- the first new instruction that stands for a place -/
theorem src_first {l : List Ins} {A C : List Nat} {q : Nat} (h : bs l = A ++ q :: C) (he : em l q ≠ []) : (src l)[(A.flatMap (em l)).length]? = some q := by
  unfold src
  rw [h, srcs_app, List.getElem?_append_right (by rw [srcs_len]; exact Nat.le_refl _), srcs_len, Nat.sub_self]
  unfold srcs
  rw [List.flatMap_cons, if_neg he]
  rfl
/-- a place is never at the end of new code -/
theorem whr_lt {l : List Ins} : ∀ (C A : List Nat) (q : Nat), bs l = A ++ q :: C → (A.flatMap (em l)).length < (pass l).1.length
  | [], A, q, h => by
    obtain ⟨hq, hn⟩ := bs_next h
    rcases hn with ⟨hn, -⟩ | ⟨-, C', hn⟩
    · rw [pass_length, h, List.flatMap_append, List.length_append, List.flatMap_cons, em_last hn]
      simp
    · cases hn
  | c :: C, A, q, h => by
    have := whr_lt C (A ++ [q]) c (by rw [h]; simp)
    rw [List.flatMap_append, List.length_append] at this
    omega
theorem tgt_of {u : Unt} {i : Ins} (hi : i ∈ u.code) (hj : isJ i = true) : tgt u.code i.a = true := by
  unfold tgt
  exact List.any_eq_true.2 ⟨i, hi, by rw [hj]; simp⟩
section
variable {M : Mdl} {u : Unt} {τ : Int → Option Shape} (hc : Cert M u τ)
include hc
/-- who comes to a place comes to the first new instruction that stands for it -/
theorem chain : ∀ (C A : List Nat) (q : Nat) (st : List Int) (h : List Bool), bs u.code = A ++ q :: C → τ (q : Int) = some (st, h) → ∃ h', tau u.code τ ((A.flatMap (em u.code)).length : Int) = some (st, h') ∧ Le h' h := by
  have base : ∀ (C A : List Nat) (q : Nat) (st : List Int) (h : List Bool), bs u.code = A ++ q :: C → τ (q : Int) = some (st, h) → em u.code q ≠ [] → ∃ h', tau u.code τ ((A.flatMap (em u.code)).length : Int) = some (st, h') ∧ Le h' h := by
    intro C A q st h hb ht he
    rw [tau_nat, src_first hb he]
    exact ⟨h, ht, Le.refl _⟩
  intro C
  induction C with
  | nil =>
    intro A q st h hb ht
    refine base [] A q st h hb ht ?_
    obtain ⟨hq, hn⟩ := bs_next hb
    rcases hn with ⟨hn, -⟩ | ⟨-, C', hn⟩
    · rw [em_last hn]; simp
    · cases hn
  | cons c C ih =>
    intro A q st h hb ht
    by_cases he : em u.code q = []
    · have hs : (shorter u.code q).2 ≠ 0 := fun h0 => by unfold em at he; rw [if_pos h0] at he; cases he
      obtain ⟨hq, hn⟩ := bs_next hb
      rcases hn with ⟨-, hn⟩ | ⟨-, C', hn⟩
      · cases hn
      · simp only [List.cons.injEq] at hn
        obtain ⟨rfl, -⟩ := hn
        rcases piece hc ht hs with ⟨-, h', t', l'⟩ | ⟨i, hi, -⟩ | ⟨i, hi, -⟩
        · obtain ⟨h2, t2, l2⟩ := ih (A ++ [q]) _ st h' (by rw [hb]; simp) t'
          rw [List.flatMap_append, List.flatMap_cons, he] at t2
          simp only [List.flatMap_nil, List.append_nil] at t2
          exact ⟨h2, t2, l2.trans l'⟩
        · rw [he] at hi; cases hi
        · rw [he] at hi; cases hi
    · exact base _ A q st h hb ht he
/-- who jumps to a place comes to the first new instruction that stands for it -/
theorem land {a : Int} {st : List Int} {h : List Bool} (h0 : 0 ≤ a) (h1 : a < (u.code.length : Int)) (ht : tgt u.code a = true) (hτ : τ a = some (st, h)) : ∃ h', tau u.code τ (whr u.code a) = some (st, h') ∧ Le h' h := by
  obtain ⟨n, rfl⟩ : ∃ n : Nat, a = (n : Int) := ⟨a.toNat, by omega⟩
  obtain ⟨A, C, hb⟩ := bs_tgt (by omega) ht
  have hw : whr u.code (n : Int) = ((A.flatMap (em u.code)).length : Int) := pass0_wh hb
  rw [hw]
  exact chain hc C A n st h hb hτ
/-- what follows a piece -/
theorem follow {A C : List Nat} {q : Nat} {i : Ins} (hb : bs u.code = A ++ q :: C) (hi : em u.code q = [i]) {st : List Int} {h : List Bool} (hτ : τ (nx u.code q : Int) = some (st, h)) : ∃ h', tau u.code τ (((A.flatMap (em u.code)).length : Int) + 1) = some (st, h') ∧ Le h' h := by
  obtain ⟨hq, hn⟩ := bs_next hb
  have hr := hc.rng _ _ hτ
  rcases hn with ⟨hn, -⟩ | ⟨-, C', rfl⟩
  · omega
  · have := chain hc C' (A ++ [q]) (nx u.code q) st h (by rw [hb]; simp) hτ
    rw [List.flatMap_append, List.flatMap_cons, hi] at this
    simpa using this
/-- A TYPING OF NEW CODE. -/
theorem cert_pass (h1 : 1 ≤ u.code.length) (hin : ∀ i ∈ u.code, instr M u i = 0) : Cert M (withC u (pass u.code).1) (tau u.code τ) := by
  have hmem : ∀ q, q < u.code.length → at_ u.code q ∈ u.code := fun q hq => by
    unfold at_
    rw [List.getD_eq_getElem?_getD, List.getElem?_eq_getElem hq]
    exact List.getElem_mem _
  have hgo : ∀ q, q < u.code.length → isJ (at_ u.code q) = true → 0 ≤ (at_ u.code q).a ∧ (at_ u.code q).a < (u.code.length : Int) ∧ tgt u.code (at_ u.code q).a = true := fun q hq hj => by
    have := (instr_ok (hin _ (hmem q hq))).jump (isJ_iff.1 hj)
    exact ⟨this.1, this.2, tgt_of (hmem q hq) hj⟩
  refine ⟨?_, fun j s hj => ?_, fun j s hj => ?_⟩
  · obtain ⟨h, ht, hl⟩ := hc.start
    obtain ⟨C, hb⟩ := bs_zero (l := u.code) (by omega)
    obtain ⟨h', t', l'⟩ := chain hc C [] 0 [] h hb ht
    exact ⟨h', t', l'.trans hl⟩
  · unfold tau at hj
    by_cases h0 : 0 ≤ j
    · rw [if_pos h0] at hj
      refine ⟨h0, ?_⟩
      cases hs : (src u.code)[j.toNat]? with
      | none => rw [hs] at hj; cases hj
      | some q =>
        have := (List.getElem?_eq_some_iff.1 hs).1
        unfold src at this
        rw [srcs_len, ← pass_length] at this
        show j < ((pass u.code).1.length : Int)
        omega
    · rw [if_neg h0] at hj; cases hj
  · by_cases h0' : ¬ 0 ≤ j
    · unfold tau at hj; rw [if_neg h0'] at hj; cases hj
    have h0 : 0 ≤ j := Int.not_lt.1 (fun h => h0' (by omega))
    obtain ⟨j, rfl⟩ : ∃ n : Nat, j = (n : Int) := ⟨j.toNat, by omega⟩
    rw [tau_nat] at hj
    cases hs : (src u.code)[j]? with
    | none => rw [hs] at hj; cases hj
    | some q =>
      rw [hs] at hj
      have hτ : τ (q : Int) = some s := hj
      obtain ⟨A, C, i, hb, hi, hjA, hout⟩ := src_at _ _ _ hs
      have hnew : ins (withC u (pass u.code).1) (j : Int) = reloc (pass0 u.code).wh i := (ins_at _ _).trans (pass_at hout)
      obtain ⟨st, h⟩ := s
      have hlift : ∀ {st' : List Int} {h' hh : List Bool}, (∃ h2, tau u.code τ ((j : Int) + 1) = some (st', h2) ∧ Le h2 h') → Le h' hh → ∃ h2, tau u.code τ ((j : Int) + 1) = some (st', h2) ∧ Le h2 hh := fun ⟨h2, a, b⟩ c => ⟨h2, a, b.trans c⟩
      obtain ⟨hq, -⟩ := bs_next hb
      by_cases hse : (shorter u.code q).2 = 0
      · -- as it was
        have hiq : i = at_ u.code q := by unfold em at hi; rw [if_pos hse] at hi; simpa using hi.symm
        have hnx : nx u.code q = q + 1 := by unfold nx; rw [if_pos hse]
        have hf := hc.fits _ _ hτ
        have hok := hf.ok
        have hnn := hf.next
        rw [ins_at, ← hiq] at hok hnn
        refine ⟨?_, fun x hx => ?_⟩
        · rw [hnew, sem_code, sem_reloc]; exact hok
        · rw [hnew, sem_code, sem_reloc]
          rw [hnew] at hx
          unfold nexts at hx
          rw [reloc_op] at hx
          have hon : ((q : Int) + 1) ∈ nexts i (q : Int) → ∃ h2, tau u.code τ ((j : Int) + 1) = some ((sem M u i (st, h)).stack, h2) ∧ Le h2 (sem M u i (st, h)).has := fun hm => by
            obtain ⟨h', t', l'⟩ := hnn _ hm
            have e : ((q : Int) + 1) = ((nx u.code q : Nat) : Int) := by rw [hnx]; simp
            rw [e] at t'
            rw [hjA]
            exact ⟨_, (follow hc hb hi t').choose_spec.1, (follow hc hb hi t').choose_spec.2.trans l'⟩
          have hjump : isJ i = true → i.a ∈ nexts i (q : Int) → ∃ h2, tau u.code τ (reloc (pass0 u.code).wh i).a = some ((sem M u i (st, h)).stack, h2) ∧ Le h2 (sem M u i (st, h)).has := fun hJ hm => by
            obtain ⟨h', t', l'⟩ := hnn _ hm
            have hg := hgo q hq (by rw [← hiq]; exact hJ)
            rw [← hiq] at hg
            obtain ⟨h2, t2, l2⟩ := land hc hg.1 hg.2.1 hg.2.2 t'
            rw [reloc_a hJ]
            exact ⟨h2, t2, l2.trans l'⟩
          by_cases h21 : i.op = 21
          · rw [if_pos h21] at hx
            simp at hx
            subst hx
            exact hjump (isJ_iff.2 (.inl h21)) (by unfold nexts; rw [if_pos h21]; simp)
          rw [if_neg h21] at hx
          by_cases h22 : i.op = 22
          · rw [if_pos h22] at hx
            simp at hx
            rcases hx with rfl | rfl
            · exact hjump (isJ_iff.2 (.inr h22)) (by unfold nexts; rw [if_neg h21, if_pos h22]; simp)
            · exact hon (by unfold nexts; rw [if_neg h21, if_pos h22]; simp)
          rw [if_neg h22] at hx
          by_cases h24 : i.op = 24 ∨ i.op = 25
          · rw [if_pos h24] at hx; cases hx
          rw [if_neg h24] at hx
          simp at hx
          subst hx
          exact hon (by unfold nexts; rw [if_neg h21, if_neg h22, if_neg h24]; simp)
      · rcases piece hc hτ hse with ⟨he, -⟩ | ⟨i', hi', hop, herr, h', t', l'⟩ | ⟨i', hi', hop, h', t', l'⟩
        · rw [he] at hi; cases hi
        · obtain rfl : i = i' := by rw [hi] at hi'; simpa using hi'
          have hnj : isJ i = false := by
            cases hx : isJ i with
            | false => rfl
            | true => rw [isJ_iff] at hx; omega
          rw [reloc_no hnj] at hnew
          refine ⟨?_, fun x hx => ?_⟩
          · rw [hnew, sem_code]; exact herr
          · rw [hnew, nexts_on (by omega) (by omega) (by omega) (by omega)] at hx
            simp at hx
            subst hx
            rw [hnew, sem_code, hjA]
            obtain ⟨h2, t2, l2⟩ := follow hc hb hi t'
            exact ⟨h2, t2, l2.trans l'⟩
        · obtain rfl : i = i' := by rw [hi] at hi'; simpa using hi'
          have hJ : isJ i = true := isJ_iff.2 (.inl hop)
          refine ⟨?_, fun x hx => ?_⟩
          · rw [hnew, sem_code, sem_reloc, sem_jump hop]
          · rw [hnew] at hx
            unfold nexts at hx
            rw [reloc_op, if_pos hop] at hx
            simp at hx
            subst hx
            rw [hnew, sem_code, sem_reloc, sem_jump hop, reloc_a hJ]
            have hr := hc.rng _ _ t'
            -- it came of a jump of the old code, to the same place
            have hg : tgt u.code i.a = true := by
              rcases shorter_cases hse with ⟨r, g1, g2, g3⟩ | ⟨r, g1, g2, g3⟩ | ⟨g1, g2, g3, g4⟩
              · unfold em at hi
                rw [if_neg hse, g1] at hi
                simp only at hi
                subst hi
                unfold three at g3
                split at g3
                · cases g3
                split at g3
                · cases g3
                unfold known at g3
                split at g3
                · simp at g3; subst g3; simp at hop
                · simp at g3; subst g3; simp at hop
              · unfold em at hi
                rw [if_neg hse, g1] at hi
                simp only at hi
                subst hi
                unfold pair at g3
                repeat' split at g3
                all_goals first | (cases g3; done) | skip
                · unfold known at g3; simp at g3; subst g3; simp at hop
                · unfold known at g3; simp at g3; subst g3; simp at hop
                · rename_i hb2
                  simp at g3
                  subst g3
                  have hq1 := free_lt g2
                  show tgt u.code (at_ u.code (q + 1)).a = true
                  exact tgt_of (hmem (q + 1) (by omega)) (isJ_iff.2 (.inr hb2))
              · unfold em at hi
                rw [if_neg hse, g1] at hi
                cases hi
            obtain ⟨h2, t2, l2⟩ := land hc hr.1 hr.2 hg t'
            exact ⟨h2, t2, l2.trans l'⟩
end
/-- a right unit -/
structure UOk (M : Mdl) (u : Unt) : Prop where
  head : head M u = 0
  ins : ∀ i ∈ u.code, instr M u i = 0
  cert : ∃ τ, Cert M u τ
theorem head_len {M : Mdl} {u : Unt} (h : Ver.head M u = 0) : 1 ≤ u.code.length ∧ u.code.length ≤ 4000 := by
  unfold Ver.head at h
  by_cases e1 : u.kind ≠ 2 ∧ u.kind ≠ 3 ∧ u.kind ≠ 4
  · rw [if_pos e1] at h; cases h
  rw [if_neg e1] at h
  by_cases e2 : 200 < u.locals.length ∨ u.params < 0 ∨ 6 < u.params ∨ (u.locals.length : Int) < u.params ∨ (u.kind = 4 ∧ 0 < u.params)
  · rw [if_pos e2] at h; cases h
  rw [if_neg e2] at h
  by_cases e3 : u.code.length < 1 ∨ 4000 < u.code.length
  · rw [if_pos e3] at h; cases h
  omega
theorem head_withC {M : Mdl} {u : Unt} {c : List Ins} (h : Ver.head M u = 0) (h1 : 1 ≤ c.length) (h2 : c.length ≤ 4000) : Ver.head M (withC u c) = 0 := by
  have hl := head_len h
  generalize hw : withC u c = u'
  have k1 : u'.kind = u.kind := by rw [← hw]; rfl
  have k2 : u'.params = u.params := by rw [← hw]; rfl
  have k3 : u'.locals = u.locals := by rw [← hw]; rfl
  have k4 : u'.result = u.result := by rw [← hw]; rfl
  have k5 : u'.takes = u.takes := by rw [← hw]; rfl
  have k6 : u'.code = c := by rw [← hw]; rfl
  clear hw
  unfold Ver.head at h ⊢
  rw [k1, k2, k3, k4, k5, k6]
  by_cases e1 : u.kind ≠ 2 ∧ u.kind ≠ 3 ∧ u.kind ≠ 4
  · rw [if_pos e1] at h; cases h
  rw [if_neg e1] at h ⊢
  by_cases e2 : 200 < u.locals.length ∨ u.params < 0 ∨ 6 < u.params ∨ (u.locals.length : Int) < u.params ∨ (u.kind = 4 ∧ 0 < u.params)
  · rw [if_pos e2] at h; cases h
  rw [if_neg e2] at h ⊢
  rw [if_neg (by omega)] at h ⊢
  exact h
/-- the form hangs on an instruction's number and place alone -/
theorem instr_withC {M : Mdl} {u : Unt} {c : List Ins} {i : Ins} (h : instr M u i = 0) (hj : isJ i = false) : instr M (withC u c) i = 0 := by
  have h21 : ¬(i.op = 21 ∨ i.op = 22) := fun hx => by rw [isJ_iff.2 hx] at hj; cases hj
  unfold instr at h ⊢
  rw [if_neg h21] at h ⊢
  exact h
theorem instr_jump {M : Mdl} {u : Unt} {i : Ins} (hj : isJ i = true) (h0 : 0 ≤ i.a) (h1 : i.a < (u.code.length : Int)) : instr M u i = 0 := by
  rw [isJ_iff] at hj
  unfold instr
  rw [if_neg (by omega), if_neg (by omega), if_pos hj]
  simp [rng, h0, h1]
theorem instr_push {M : Mdl} {u : Unt} (n a : Int) : instr M u ⟨1, a, n⟩ = 0 := by
  unfold instr
  simp
theorem instr_truth {M : Mdl} {u : Unt} {v : Int} (n : Int) (h : v = 0 ∨ v = 1) : instr M u ⟨2, v, n⟩ = 0 := by
  unfold instr
  rw [if_pos rfl]
  rcases h with rfl | rfl <;> rfl
theorem truth_in {M : Mdl} {u : Unt} {i : Ins} (h : instr M u i = 0) (ho : i.op = 2) : i.a = 0 ∨ i.a = 1 := by
  unfold instr at h
  rw [if_pos ho] at h
  have := rng_eq h
  rw [Bool.or_eq_true, decide_eq_true_eq, decide_eq_true_eq] at this
  exact this
theorem yes_in (b : Bool) : yes b = 0 ∨ yes b = 1 := by cases b <;> simp [yes]
theorem two2_truth {op x y : Int} (h : 12 < op) (h20 : op ≤ 20) (hx : 18 < op → (x = 0 ∨ x = 1) ∧ (y = 0 ∨ y = 1)) : two2 op x y = 0 ∨ two2 op x y = 1 := by
  unfold two2
  rw [if_neg (by omega), if_neg (by omega), if_neg (by omega), if_neg (by omega)]
  repeat' split
  all_goals first | exact yes_in _ | skip
  · obtain ⟨h1, h2⟩ := hx (by omega)
    rcases h1 with rfl | rfl <;> rcases h2 with rfl | rfl <;> decide
  · obtain ⟨h1, h2⟩ := hx (by omega)
    rcases h1 with rfl | rfl <;> rcases h2 with rfl | rfl <;> decide
theorem cval_truth {M : Mdl} {u : Unt} {i : Ins} (h : instr M u i = 0) (ho : i.op = 2) : cval i = 0 ∨ cval i = 1 := by
  unfold cval
  rw [if_neg (by omega), if_pos ho]
  exact truth_in h ho
theorem isC_of {i : Ins} (h : ¬ isC i = false) : i.op = 1 ∨ i.op = 2 := isC_iff.1 (by simpa using h)
theorem mem_at {l : List Ins} {q : Nat} (hq : q < l.length) : at_ l q ∈ l := by
  unfold at_
  rw [List.getD_eq_getElem?_getD, List.getElem?_eq_getElem hq]
  exact List.getElem_mem _
/-- new instructions: old ones, known words, and jumps to where old ones led -/
theorem em_mem {M : Mdl} {u : Unt} (hin : ∀ i ∈ u.code, instr M u i = 0) {q : Nat} (hq : q < u.code.length) {i : Ins} (hi : i ∈ em u.code q) : i ∈ u.code ∨ (∃ v, i = ⟨1, 0, v⟩) ∨ (∃ v, i = ⟨2, v, 0⟩ ∧ (v = 0 ∨ v = 1)) ∨ (i.op = 21 ∧ ∃ j ∈ u.code, isJ j = true ∧ i.a = j.a) := by
  by_cases hs : (shorter u.code q).2 = 0
  · unfold em at hi
    rw [if_pos hs] at hi
    simp at hi
    subst hi
    exact .inl (mem_at hq)
  · unfold em at hi
    rw [if_neg hs] at hi
    rcases shorter_cases hs with ⟨r, g1, g2, g3⟩ | ⟨r, g1, g2, g3⟩ | ⟨g1, g2, g3, g4⟩
    · rw [g1] at hi
      have := free_lt g2
      have m1 := hin _ (mem_at (l := u.code) (q := q) (by omega))
      have m2 := hin _ (mem_at (l := u.code) (q := q + 1) (by omega))
      simp only at hi
      unfold three at g3
      split at g3
      · cases g3
      rename_i n1
      split at g3
      · cases g3
      rename_i n2
      cases g3
      unfold known at hi
      split at hi
      · rename_i h12
        simp at hi h12
        subst hi
        refine .inr (.inr (.inl ⟨_, rfl, two2_truth h12 ?_ (fun h18 => ?_)⟩))
        · exact Int.not_lt.1 fun hx => n1 (.inr (.inr (.inr (.inr (.inl hx)))))
        · have c1 : (at_ u.code q).op = 2 := Classical.byContradiction fun hx => n2 ⟨⟨fun _ => hx, fun _ => by
            have : (at_ u.code (q + 2)).op ≤ 20 := Int.not_lt.1 fun hx => n1 (.inr (.inr (.inr (.inr (.inl hx)))))
            omega⟩, by omega, by omega⟩
          have c2 : (at_ u.code q).op = (at_ u.code (q + 1)).op := Classical.byContradiction fun hx => n1 (.inr (.inr (.inl hx)))
          exact ⟨cval_truth m1 c1, cval_truth m2 (by omega)⟩
      · simp at hi
        subst hi
        exact .inr (.inl ⟨_, rfl⟩)
    · rw [g1] at hi
      have := free_lt g2
      have m1 := hin _ (mem_at (l := u.code) (q := q) (by omega))
      simp only at hi
      unfold pair at g3
      split at g3
      · cases g3; cases hi
      split at g3
      · cases g3
      rename_i n0
      split at g3
      · cases g3
        simp [known] at hi
        subst hi
        exact .inr (.inl ⟨_, rfl⟩)
      split at g3
      · cases g3
      rename_i n1
      have c1 : (at_ u.code q).op = 2 := by have := isC_of n0; omega
      split at g3
      · cases g3
        simp [known] at hi
        subst hi
        refine .inr (.inr (.inl ⟨_, rfl, ?_⟩))
        rcases cval_truth m1 c1 with h | h <;> rw [h] <;> decide
      split at g3
      · cases g3; cases hi
      split at g3
      · rename_i hb2
        cases g3
        simp at hi
        subst hi
        exact .inr (.inr (.inr ⟨rfl, _, mem_at (l := u.code) (q := q + 1) (by omega), isJ_iff.2 (.inr hb2), rfl⟩))
      · cases g3
    · rw [g1] at hi; cases hi
theorem mem_pass {l : List Ins} {i : Ins} (h : i ∈ (pass l).1) : ∃ q j, q < l.length ∧ j ∈ em l q ∧ i = reloc (pass0 l).wh j := by
  rw [pass_code] at h
  obtain ⟨j, hj, rfl⟩ := List.mem_map.1 h
  obtain ⟨q, hq, hj⟩ := List.mem_flatMap.1 hj
  exact ⟨q, j, (pcs_ge _ _ q hq).2, hj, rfl⟩
theorem pass_pos {l : List Ins} (h : 1 ≤ l.length) : 1 ≤ (pass l).1.length := by
  obtain ⟨C, hb⟩ := bs_zero (l := l) (by omega)
  have := whr_lt C [] 0 hb
  omega
theorem UOk.pass {M : Mdl} {u : Unt} (h : UOk M u) : UOk M (withC u (pass u.code).1) := by
  have hl := head_len h.head
  have hp := pass_len u.code
  refine ⟨head_withC h.head (pass_pos hl.1) (by omega), fun i hi => ?_, ?_⟩
  · obtain ⟨q, j, hq, hj, rfl⟩ := mem_pass hi
    have hgo : ∀ k, isJ k = true → (k ∈ u.code ∨ (k.op = 21 ∧ ∃ j ∈ u.code, isJ j = true ∧ k.a = j.a)) → instr M (withC u (Opt.pass u.code).1) (reloc (pass0 u.code).wh k) = 0 := by
      intro k hk hm
      have hJ : isJ (reloc (pass0 u.code).wh k) = true := by rw [isJ_iff, reloc_op, ← isJ_iff]; exact hk
      obtain ⟨x, hx, hxj, hxa⟩ : ∃ x ∈ u.code, isJ x = true ∧ k.a = x.a := by
        rcases hm with hm | ⟨-, hm⟩
        · exact ⟨k, hm, hk, rfl⟩
        · exact hm
      have hxo := (instr_ok (h.ins x hx)).jump (isJ_iff.1 hxj)
      obtain ⟨n, hn⟩ : ∃ n : Nat, k.a = (n : Int) := ⟨k.a.toNat, by omega⟩
      obtain ⟨A, C, hb⟩ := bs_tgt (l := u.code) (a := n) (by omega) (by rw [← hn, hxa]; exact tgt_of hx hxj)
      have hw := pass0_wh hb
      have hlt := whr_lt C A n hb
      refine instr_jump hJ ?_ ?_
      · rw [reloc_a hk, hn, Int.toNat_natCast, hw]; omega
      · rw [reloc_a hk, hn, Int.toNat_natCast, hw]
        show _ < ((Opt.pass u.code).1.length : Int)
        omega
    rcases em_mem h.ins hq hj with hm | ⟨v, rfl⟩ | ⟨v, rfl, hv⟩ | hm
    · cases hx : isJ j with
      | true => exact hgo j hx (.inl hm)
      | false => rw [reloc_no hx]; exact instr_withC (h.ins j hm) hx
    · exact instr_push _ _
    · exact instr_truth _ hv
    · exact hgo j (isJ_iff.2 (.inl hm.1)) (.inr hm)
  · obtain ⟨τ, hτ⟩ := h.cert
    exact ⟨_, cert_pass hτ hl.1 h.ins⟩
theorem UOk.codeN {M : Mdl} : ∀ (n : Nat) {u : Unt}, UOk M u → UOk M (withC u (codeN n u.code))
  | 0, u, h => h
  | n + 1, u, h => by
    unfold Opt.codeN
    split
    · have := UOk.codeN n h.pass
      exact this
    · exact h.pass
theorem UOk.code {M : Mdl} {u : Unt} (h : UOk M u) : UOk M (unit u) := UOk.codeN _ h

/-- what has to do with other units, and boxes, stays -/
theorem key_no {i : Ins} {l : List Ins} (h : i.op ≠ 23 ∧ i.op ≠ 29 ∧ i.op ≠ 26 ∧ i.op ≠ 27) : key (i :: l) = key l := by
  unfold key
  rw [List.filter_cons, if_neg (by simp [h.1, h.2.1, h.2.2.1, h.2.2.2])]
theorem key_app (a b : List Ins) : key (a ++ b) = key a ++ key b := by unfold key; rw [List.filter_append]
theorem key_reloc (wh : List Int) : ∀ l : List Ins, key (l.map (reloc wh)) = key l
  | [] => rfl
  | i :: l => by
    have ih := key_reloc wh l
    rw [List.map_cons]
    by_cases h : i.op ≠ 23 ∧ i.op ≠ 29 ∧ i.op ≠ 26 ∧ i.op ≠ 27
    · rw [key_no (by rw [reloc_op]; exact h), key_no h, ih]
    · have hj : isJ i = false := by
        cases hx : isJ i with
        | false => rfl
        | true => rw [isJ_iff] at hx; exfalso; omega
      rw [reloc_no hj]
      unfold key at ih ⊢
      rw [List.filter_cons, List.filter_cons, ih]
theorem drop_at {l : List Ins} {p : Nat} (h : p < l.length) : l.drop p = at_ l p :: l.drop (p + 1) := by
  rw [← List.getElem_cons_drop (h := h)]
  unfold at_
  simp [List.getD_eq_getElem?_getD, h]
theorem key_em {l : List Ins} {p : Nat} (h : p < l.length) : key (l.drop p) = key (em l p) ++ key (l.drop (nx l p)) := by
  by_cases hs : (shorter l p).2 = 0
  · rw [show em l p = [at_ l p] by unfold em; rw [if_pos hs], show nx l p = p + 1 by unfold nx; rw [if_pos hs], drop_at h, ← key_app]
    rfl
  · rw [show em l p = (shorter l p).1 by unfold em; rw [if_neg hs], show nx l p = p + (shorter l p).2 by unfold nx; rw [if_neg hs]]
    have kn : ∀ (v : Int) (t : Bool), key (known v t) = [] := fun v t => by unfold known; split <;> rfl
    rcases shorter_cases hs with ⟨r, g1, g2, g3⟩ | ⟨r, g1, g2, g3⟩ | ⟨g1, g2, g3, g4⟩
    · have := free_lt g2
      rw [g1]
      simp only
      unfold three at g3
      split at g3
      · cases g3
      rename_i n1
      split at g3
      · cases g3
      cases g3
      have c1 : (at_ l p).op = 1 ∨ (at_ l p).op = 2 := isC_of fun hx => n1 (.inl hx)
      have c2 : (at_ l (p + 1)).op = 1 ∨ (at_ l (p + 1)).op = 2 := isC_of fun hx => n1 (.inr (.inl hx))
      have c4 : (at_ l (p + 2)).op ≤ 20 := Int.not_lt.1 fun hx => n1 (.inr (.inr (.inr (.inr (.inl hx)))))
      rw [kn, drop_at h, key_no (by omega), drop_at (show p + 1 < l.length by omega), key_no (by omega), drop_at (show p + 2 < l.length by omega), key_no (by omega)]
      rfl
    · have := free_lt g2
      rw [g1]
      simp only
      have key2 : ((at_ l p).op ≤ 3) → ((at_ l (p + 1)).op ≤ 7 ∨ (at_ l (p + 1)).op = 22) → key (l.drop p) = key (l.drop (p + 2)) := fun a b => by
        rw [drop_at h, key_no (by omega), drop_at (show p + 1 < l.length by omega), key_no (by omega)]
      unfold pair at g3
      split at g3
      · rename_i g
        cases g3
        refine key2 ?_ (.inl (by omega))
        rcases g.2 with g | g
        · have := isC_iff.1 g; omega
        · omega
      split at g3
      · cases g3
      rename_i n0
      have c1 := isC_of n0
      split at g3
      · rename_i g; cases g3; rw [kn]; exact key2 (by omega) (.inl (by omega))
      split at g3
      · cases g3
      split at g3
      · rename_i g; cases g3; rw [kn]; exact key2 (by omega) (.inl (by omega))
      split at g3
      · rename_i g; cases g3; exact key2 (by omega) (.inr g.1)
      split at g3
      · rename_i g; cases g3; rw [key_no (by simp)]; exact key2 (by omega) (.inr g)
      · cases g3
    · rw [g1, drop_at h, key_no (by omega)]
      rfl
theorem key_pcs {l : List Ins} : ∀ (n p : Nat), l.length ≤ n + p → key ((pcs l n p).flatMap (em l)) = key (l.drop p)
  | 0, p, h => by unfold pcs; rw [List.drop_eq_nil_of_le (by omega)]; rfl
  | n + 1, p, h => by
    unfold pcs
    split
    · rename_i hp
      have := nx_gt l p
      rw [List.flatMap_cons, key_app, key_em hp, key_pcs n (nx l p) (by omega)]
    · rename_i hp; rw [List.drop_eq_nil_of_le (by omega)]; rfl
theorem key_pass (l : List Ins) : key (pass l).1 = key l := by
  rw [pass_code, key_reloc]
  exact key_pcs l.length 0 (by omega)
theorem key_codeN : ∀ (n : Nat) (l : List Ins), key (codeN n l) = key l
  | 0, l => rfl
  | n + 1, l => by
    unfold codeN
    split
    · rw [key_codeN n, key_pass]
    · exact key_pass l
theorem key_code (l : List Ins) : key (code l) = key l := key_codeN _ l

theorem uAt_mdl (M : Mdl) (k : Int) (h : k.toNat < M.units.length) : uAt (mdl M) k = unit (uAt M k) := by
  show (M.units.map unit).getD k.toNat default = unit (M.units.getD k.toNat default)
  rw [List.getD_eq_getElem?_getD, List.getD_eq_getElem?_getD, List.getElem?_map, List.getElem?_eq_getElem h]
  rfl
theorem mdl_len (M : Mdl) : (mdl M).units.length = M.units.length := List.length_map _
theorem mdl_alike (M : Mdl) : AlikeM M (mdl M) :=
  ⟨Nat.le_of_eq (mdl_len M).symm, Nat.le_refl _, fun k h0 hk _ => by rw [uAt_mdl M k (by omega)]; exact ⟨rfl, rfl, rfl, rfl, rfl⟩, fun _ _ => rfl⟩
theorem uses_mdl {M : Mdl} (hF : FormOk M) {op b : Int} (ho : op = 26 ∨ op = 27) {k : Nat} (hk : k < M.units.length) : uses (mdl M) op b k = uses M op b k := by
  let R : Int → Prop := fun x => 0 ≤ x ∧ x < (M.units.length : Int)
  have hkey : ∀ x, R x → key (uAt (mdl M) x).code = key (uAt M x).code := fun x hx => by
    rw [uAt_mdl M x (by have := hx.1; have := hx.2; omega)]
    exact key_code _
  have hR : ∀ x, R x → ∀ i ∈ (uAt M x).code, i.op = 23 ∨ i.op = 29 → R i.a := by
    rintro x ⟨h1, h2⟩ i hi hio
    exact callsOk hF x.toNat (by omega) i hi hio
  have e3 := reachRun_alike hkey hR (M.units.length + 1) 0 [(k : Int)] (fun x hx => by
    simp at hx
    subst hx
    exact ⟨by omega, by omega⟩)
  have e4 : reach (mdl M) k = reach M k := by
    unfold reach
    rw [mdl_len, e3.1]
  unfold uses
  rw [e4]
  have : ∀ l : List Int, (∀ x ∈ l, R x) → (l.any fun x => ((mdl M).units.getD x.toNat default).code.any fun i => decide (i.op = op) && decide (i.a = b)) = (l.any fun x => (M.units.getD x.toNat default).code.any fun i => decide (i.op = op) && decide (i.a = b)) := by
    intro l hl
    induction l with
    | nil => rfl
    | cons x l ih =>
      rw [List.any_cons, List.any_cons, ih (fun y hy => hl y (List.mem_cons_of_mem _ hy))]
      congr 1
      have hx := hkey x (hl x List.mem_cons_self)
      rw [← any_key ho, ← any_key ho (M.units.getD x.toNat default).code]
      rw [show key ((mdl M).units.getD x.toNat default).code = key (M.units.getD x.toNat default).code from hx]
  exact this _ e3.2
/-- A RIGHT MODULE IS RIGHT WITH SHORTER CODE. -/
theorem right_opt {M : Mdl} (hR : Right M) (hG : ∀ k, k < M.units.length → Ver.Good M (M.units.getD k default)) : Right (mdl M) := by
  have hF := hR.form
  have hM := mdl_alike M
  have hU : ∀ k, k < M.units.length → UOk M (uAt M k) := fun k hk => by
    obtain ⟨g1, g2⟩ := hF.units _ (uAt_mem hk)
    have hh : (M.units.getD k default).params.toNat ≤ (M.units.getD k default).locals.length := by
      have g1' : head M (M.units.getD k default) = 0 := g1
      unfold head at g1'
      generalize M.units.getD k default = u at *
      by_cases e1 : u.kind ≠ 2 ∧ u.kind ≠ 3 ∧ u.kind ≠ 4
      · rw [if_pos e1] at g1'; cases g1'
      rw [if_neg e1] at g1'
      by_cases e2 : 200 < u.locals.length ∨ u.params < 0 ∨ 6 < u.params ∨ (u.locals.length : Int) < u.params ∨ (u.kind = 4 ∧ 0 < u.params)
      · rw [if_pos e2] at g1'; cases g1'
      omega
    obtain ⟨τ, hτ, -⟩ := cert_of_code (hG k hk) hh (head_len g1).1 (hR.code k hk)
    exact ⟨g1, g2, τ, hτ⟩
  have hU' : ∀ k, k < M.units.length → UOk (mdl M) (uAt (mdl M) k) := fun k hk => by
    rw [uAt_mdl M k (by omega)]
    have h := (hU k hk).code
    obtain ⟨τ, hτ⟩ := h.cert
    have ha := AlikeU.refl (unit (uAt M k))
    exact ⟨head_alike hM ha h.head (head_len h.head).2, fun i hi => instr_alike hM ha (h.ins i hi), τ, Cert.alike hM ha h.ins hτ⟩
  refine ⟨⟨hF.nboxes, by rw [mdl_len]; exact hF.nunits, hF.boxes, fun u hu => ?_, ?_⟩, fun k hk => ?_, fun b hb => ?_⟩
  · obtain ⟨k, hk, rfl⟩ := mem_uAt hu
    rw [mdl_len] at hk
    exact ⟨(hU' k hk).head, (hU' k hk).ins⟩
  · obtain ⟨u, u1, u2⟩ := hF.task
    exact ⟨unit u, List.mem_map.2 ⟨u, u1, rfl⟩, u2⟩
  · rw [mdl_len] at hk
    obtain ⟨τ, hτ⟩ := (hU' k hk).cert
    exact code_of_cert hτ
  · have hb' := hR.owned b hb
    have hm : ∀ op : Int, op = 26 ∨ op = 27 → users (mdl M) op b ≤ users M op b := fun op ho => users_mono (Nat.le_of_eq (mdl_len M).symm) fun k hk h4 hu => by
      rw [mdl_len] at hk
      rw [uAt_mdl M k (by omega)] at h4
      rw [uses_mdl hF ho hk] at hu
      exact ⟨hk, h4, hu⟩
    have := hm 26 (.inl rfl)
    have := hm 27 (.inr rfl)
    omega
theorem verify_opt {M : Mdl} (h : verify M = .ok) (hG : ∀ k, k < M.units.length → Ver.Good M (M.units.getD k default)) : verify (mdl M) = .ok := verify_iff.2 (right_opt (verify_iff.1 h) hG)
end Go.Proofs.Ytfeajpghabjaaaa.Opt

/- Shorter code is not made shorter again. Plain Lean. -/
namespace Go.Proofs.Ytfeajpghabjaaaa.Opt
set_option linter.unusedVariables false
set_option linter.unusedSimpArgs false
open ImgM Ver

/-- the units of a right module -/
theorem uok {M : Mdl} (hR : Right M) (hG : ∀ k, k < M.units.length → Ver.Good M (M.units.getD k default)) {k : Nat} (hk : k < M.units.length) : UOk M (uAt M k) := by
  have hF := hR.form
  obtain ⟨g1, g2⟩ := hF.units _ (uAt_mem hk)
  have hh : (M.units.getD k default).params.toNat ≤ (M.units.getD k default).locals.length := by
    have g1' : head M (M.units.getD k default) = 0 := g1
    unfold head at g1'
    generalize M.units.getD k default = u at *
    by_cases e1 : u.kind ≠ 2 ∧ u.kind ≠ 3 ∧ u.kind ≠ 4
    · rw [if_pos e1] at g1'; cases g1'
    rw [if_neg e1] at g1'
    by_cases e2 : 200 < u.locals.length ∨ u.params < 0 ∨ 6 < u.params ∨ (u.locals.length : Int) < u.params ∨ (u.kind = 4 ∧ 0 < u.params)
    · rw [if_pos e2] at g1'; cases g1'
    omega
  obtain ⟨τ, hτ, -⟩ := cert_of_code (hG k hk) hh (head_len g1).1 (hR.code k hk)
  exact ⟨g1, g2, τ, hτ⟩
end Go.Proofs.Ytfeajpghabjaaaa.Opt
