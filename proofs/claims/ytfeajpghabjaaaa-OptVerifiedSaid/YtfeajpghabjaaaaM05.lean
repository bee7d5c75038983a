/- A pass of package opt as a list of pieces. Plain Lean. -/
import Derived.Test.YtfeajpghabjaaaaM04
namespace Go.Proofs.Ytfeajpghabjaaaa.Opt
set_option linter.unusedVariables false
set_option linter.unusedSimpArgs false
open ImgM Ver

def nx (l : List Ins) (p : Nat) : Nat := p + (if (shorter l p).2 = 0 then 1 else (shorter l p).2)
def em (l : List Ins) (p : Nat) : List Ins := if (shorter l p).2 = 0 then [at_ l p] else (shorter l p).1
/-- the places from one on, at which a pass stands -/
def pcs (l : List Ins) : Nat → Nat → List Nat
  | 0, _ => []
  | n + 1, p => if p < l.length then p :: pcs l n (nx l p) else []
theorem free_lt {l : List Ins} {p n : Nat} (h : free l p n = true) : p + n < l.length := by
  unfold free at h
  rw [Bool.and_eq_true, decide_eq_true_eq] at h
  exact h.1
theorem free_not {l : List Ins} {p n k : Nat} (h : free l p n = true) (h0 : 0 < k) (hk : k < n) : tgt l ((p + k : Nat) : Int) = false := by
  unfold free at h
  rw [Bool.and_eq_true, List.all_eq_true] at h
  have := h.2 k (List.mem_range.2 hk)
  rw [Bool.or_eq_true, decide_eq_true_eq, Bool.not_eq_true'] at this
  rcases this with h | h
  · omega
  · exact h
theorem shorter_cases {l : List Ins} {p : Nat} (h : (shorter l p).2 ≠ 0) :
    (∃ r, shorter l p = (r, 3) ∧ free l p 3 = true ∧ three (at_ l p) (at_ l (p + 1)) (at_ l (p + 2)) = some r) ∨
    (∃ r, shorter l p = (r, 2) ∧ free l p 2 = true ∧ pair (at_ l p) (at_ l (p + 1)) = some r) ∨
    (shorter l p = ([], 1) ∧ free l p 1 = true ∧ (at_ l p).op = 21 ∧ (at_ l p).a = (p : Int) + 1) := by
  unfold shorter at h ⊢
  split
  · rename_i r hr
    left
    by_cases hf : free l p 3 = true
    · rw [if_pos hf] at hr
      exact ⟨r, rfl, hf, hr⟩
    · rw [if_neg hf] at hr; cases hr
  · rename_i h3
    right
    rw [h3] at h
    simp only at h
    split
    · rename_i r hr
      left
      by_cases hf : free l p 2 = true
      · rw [if_pos hf] at hr
        exact ⟨r, rfl, hf, hr⟩
      · rw [if_neg hf] at hr; cases hr
    · rename_i h2
      right
      rw [h2] at h
      simp only at h
      by_cases hf : free l p 1 = true ∧ (at_ l p).op = 21 ∧ (at_ l p).a = (p : Int) + 1
      · rw [if_pos hf]; exact ⟨rfl, hf⟩
      · rw [if_neg hf] at h; exact absurd rfl h
theorem known_len (v : Int) (t : Bool) : (known v t).length = 1 := by unfold known; split <;> rfl
theorem three_len {a b c : Ins} {r : List Ins} (h : three a b c = some r) : r.length = 1 := by
  unfold three at h
  split at h
  · cases h
  · split at h
    · cases h
    · cases h; exact known_len _ _
theorem pair_len {a b : Ins} {r : List Ins} (h : pair a b = some r) : r.length ≤ 1 := by
  unfold pair at h
  repeat' split at h
  all_goals cases h
  all_goals first | exact Nat.le_of_eq (known_len _ _) | simp
/-- a piece is shorter than what it stands for, and is not the last one -/
theorem shorter_len {l : List Ins} {p : Nat} (h : (shorter l p).2 ≠ 0) : (shorter l p).1.length ≤ 1 ∧ (shorter l p).1.length < (shorter l p).2 ∧ p + (shorter l p).2 < l.length := by
  rcases shorter_cases h with ⟨r, h1, h2, h3⟩ | ⟨r, h1, h2, h3⟩ | ⟨h1, h2, h3⟩
  · have := three_len h3; have := free_lt h2
    rw [h1]; exact ⟨by simp only; omega, by simp only; omega, by simp only; omega⟩
  · have := pair_len h3; have := free_lt h2
    rw [h1]; exact ⟨by simp only; omega, by simp only; omega, by simp only; omega⟩
  · have := free_lt h2
    rw [h1]; exact ⟨by simp, by simp, by simp only; omega⟩
theorem shorter_not {l : List Ins} {p k : Nat} (h : (shorter l p).2 ≠ 0) (h0 : 0 < k) (hk : k < (shorter l p).2) : tgt l ((p + k : Nat) : Int) = false := by
  rcases shorter_cases h with ⟨r, h1, h2, h3⟩ | ⟨r, h1, h2, h3⟩ | ⟨h1, h2, h3⟩ <;> (rw [h1] at hk; exact free_not h2 h0 hk)
theorem em_len (l : List Ins) (p : Nat) : (em l p).length ≤ 1 := by
  unfold em
  split
  · simp
  · rename_i h; exact (shorter_len h).1
theorem nx_gt (l : List Ins) (p : Nat) : p < nx l p := by unfold nx; split <;> omega
theorem nx_le {l : List Ins} {p : Nat} (h : p < l.length) : nx l p ≤ l.length := by
  unfold nx
  split
  · omega
  · rename_i h'; have := (shorter_len h').2.2; omega
theorem em_last {l : List Ins} {p : Nat} (h : nx l p = l.length) : em l p = [at_ l p] := by
  unfold em
  split
  · rfl
  · rename_i h'
    unfold nx at h
    rw [if_neg h'] at h
    have := (shorter_len h').2.2
    omega

theorem setAll_len (wh : List Int) (p : Nat) (v : Int) : ∀ n, (setAll wh p v n).length = wh.length
  | 0 => rfl
  | n + 1 => by unfold setAll; rw [List.length_set, setAll_len wh p v n]
theorem getD_setI {l : List Int} {k j : Nat} {v : Int} (hk : k < l.length) : (l.set k v).getD j 0 = if k = j then v else l.getD j 0 := by
  simp only [List.getD_eq_getElem?_getD, List.getElem?_set]
  by_cases h : k = j
  · subst h; simp [hk]
  · simp [h]
theorem getD_setI' {l : List Int} {k j : Nat} {v : Int} (hk : k ≠ j) : (l.set k v).getD j 0 = l.getD j 0 := by
  simp only [List.getD_eq_getElem?_getD, List.getElem?_set]
  rw [if_neg hk]
theorem setAll_getD {wh : List Int} {p : Nat} {v : Int} {q : Nat} (hq : q ≤ p) : ∀ n, (setAll wh p v n).getD q 0 = wh.getD q 0
  | 0 => rfl
  | n + 1 => by unfold setAll; rw [getD_setI' (by omega), setAll_getD hq n]
theorem pstep_p (l : List Ins) (s : PS) : (pstep l s).p = nx l s.p := by unfold pstep nx; split <;> rfl
theorem pstep_out (l : List Ins) (s : PS) : (pstep l s).out = s.out ++ em l s.p := by unfold pstep em; split <;> rfl
theorem pstep_did (l : List Ins) (s : PS) : (pstep l s).did = (s.did || decide ((shorter l s.p).2 ≠ 0)) := by
  unfold pstep
  split
  · rename_i h; simp [h]
  · rename_i h; simp [h]
theorem pstep_len (l : List Ins) (s : PS) : (pstep l s).wh.length = s.wh.length := by
  unfold pstep
  split
  · simp
  · simp [setAll_len]
theorem pstep_wh {l : List Ins} {s : PS} (hw : s.wh.length = l.length + 1) (hp : s.p < l.length) {q : Nat} (hq : q ≤ s.p) : (pstep l s).wh.getD q 0 = if s.p = q then (s.out.length : Int) else s.wh.getD q 0 := by
  unfold pstep
  split
  · exact getD_setI (by omega)
  · simp only
    rw [setAll_getD hq, getD_setI (by omega)]
theorem pcs_ge {l : List Ins} : ∀ (n p : Nat), ∀ q ∈ pcs l n p, p ≤ q ∧ q < l.length
  | 0, p, q, h => by cases h
  | n + 1, p, q, h => by
    unfold pcs at h
    split at h
    · rename_i hp
      rcases List.mem_cons.1 h with rfl | h
      · exact ⟨Nat.le_refl _, hp⟩
      · have := pcs_ge n _ q h
        have := nx_gt l p
        omega
    · cases h
/-- what a pass comes to -/
structure Ran (l : List Ins) (n : Nat) (s r : PS) : Prop where
  out : r.out = s.out ++ (pcs l n s.p).flatMap (em l)
  old : ∀ q, q < s.p → r.wh.getD q 0 = s.wh.getD q 0
  wh : ∀ A q C, pcs l n s.p = A ++ q :: C → r.wh.getD q 0 = ((s.out.length + (A.flatMap (em l)).length : Nat) : Int)
  did : r.did = (s.did || (pcs l n s.p).any fun q => decide ((shorter l q).2 ≠ 0))
  len : r.wh.length = l.length + 1
theorem prun_ran {l : List Ins} : ∀ (n : Nat) (s : PS), s.wh.length = l.length + 1 → Ran l n s (prun l n s)
  | 0, s, hw => ⟨by simp [prun, pcs], fun q _ => rfl, fun A q C h => by simp [pcs] at h, by simp [prun, pcs], hw⟩
  | n + 1, s, hw => by
    by_cases hp : s.p < l.length
    · have ih := prun_ran n (pstep l s) (by rw [pstep_len, hw])
      rw [show prun l (n + 1) s = prun l n (pstep l s) by conv => lhs; unfold prun
                                                          rw [if_pos hp]]
      have hpc : pcs l (n + 1) s.p = s.p :: pcs l n (nx l s.p) := by conv => lhs; unfold pcs
                                                                     rw [if_pos hp]
      have hgt := nx_gt l s.p
      refine ⟨?_, fun q hq => ?_, fun A q C h => ?_, ?_, ih.len⟩
      · rw [ih.out, pstep_out, pstep_p, hpc, List.flatMap_cons, List.append_assoc]
      · rw [ih.old q (by rw [pstep_p]; omega), pstep_wh hw hp (by omega), if_neg (by omega)]
      · rw [hpc] at h
        cases A with
        | nil =>
          simp only [List.nil_append, List.cons.injEq] at h
          obtain ⟨rfl, -⟩ := h
          rw [ih.old _ (by rw [pstep_p]; omega), pstep_wh hw hp (Nat.le_refl _), if_pos rfl]
          simp
        | cons a A =>
          simp only [List.cons_append, List.cons.injEq] at h
          obtain ⟨rfl, h⟩ := h
          rw [ih.wh A q C (by rw [pstep_p]; exact h), pstep_out, List.flatMap_cons, List.length_append, List.length_append]
          congr 1
          omega
      · rw [ih.did, pstep_did, pstep_p, hpc, List.any_cons, Bool.or_assoc]
    · rw [show prun l (n + 1) s = s by conv => lhs; unfold prun
                                       rw [if_neg hp]]
      have hpc : pcs l (n + 1) s.p = [] := by unfold pcs; rw [if_neg hp]
      exact ⟨by simp [hpc], fun q _ => rfl, fun A q C h => by simp [hpc] at h, by simp [hpc], hw⟩
/-- all places at which a pass stands -/
def bs (l : List Ins) : List Nat := pcs l l.length 0
theorem pass0_ran (l : List Ins) : Ran l l.length ⟨0, [], List.replicate (l.length + 1) 0, false⟩ (pass0 l) := prun_ran _ _ (by simp)
theorem pass0_out (l : List Ins) : (pass0 l).out = (bs l).flatMap (em l) := (pass0_ran l).out
theorem pass0_wh {l : List Ins} {A : List Nat} {q : Nat} {C : List Nat} (h : bs l = A ++ q :: C) : (pass0 l).wh.getD q 0 = ((A.flatMap (em l)).length : Int) := by
  have := (pass0_ran l).wh A q C h
  simpa using this
theorem pass0_did (l : List Ins) : (pass0 l).did = (bs l).any fun q => decide ((shorter l q).2 ≠ 0) := by
  have := (pass0_ran l).did
  rw [this]
  exact Bool.false_or _
/-- what follows a place -/
theorem pcs_next {l : List Ins} : ∀ (n p : Nat) (A : List Nat) (q : Nat) (C : List Nat), l.length ≤ n + p → pcs l n p = A ++ q :: C → q < l.length ∧ ((nx l q = l.length ∧ C = []) ∨ (nx l q < l.length ∧ ∃ C', C = nx l q :: C'))
  | 0, p, A, q, C, _, h => by simp [pcs] at h
  | n + 1, p, A, q, C, hn, h => by
    unfold pcs at h
    split at h
    · rename_i hp
      have hgt := nx_gt l p
      cases A with
      | nil =>
        simp only [List.nil_append, List.cons.injEq] at h
        obtain ⟨rfl, h⟩ := h
        refine ⟨hp, ?_⟩
        have hle := nx_le hp
        by_cases hl : nx l p < l.length
        · right
          refine ⟨hl, ?_⟩
          cases n with
          | zero => omega
          | succ n =>
            unfold pcs at h
            rw [if_pos hl] at h
            exact ⟨_, h.symm⟩
        · left
          refine ⟨by omega, ?_⟩
          rw [← h]
          cases n with
          | zero => rfl
          | succ n => unfold pcs; rw [if_neg hl]
      | cons a A =>
        simp only [List.cons_append, List.cons.injEq] at h
        exact pcs_next n (nx l p) A q C (by omega) h.2
    · simp at h
theorem bs_next {l : List Ins} {A : List Nat} {q : Nat} {C : List Nat} (h : bs l = A ++ q :: C) : q < l.length ∧ ((nx l q = l.length ∧ C = []) ∨ (nx l q < l.length ∧ ∃ C', C = nx l q :: C')) := pcs_next l.length 0 A q C (by omega) h
theorem bs_zero {l : List Ins} (h : 0 < l.length) : ∃ C, bs l = 0 :: C := by
  unfold bs
  obtain ⟨n, hn⟩ : ∃ n, l.length = n + 1 := ⟨l.length - 1, by omega⟩
  rw [hn]
  unfold pcs
  rw [if_pos (by omega)]
  exact ⟨_, rfl⟩
/-- each place lies in a piece -/
theorem bs_cover {l : List Ins} (h : 0 < l.length) : ∀ a, a < l.length → ∃ A q C, bs l = A ++ q :: C ∧ q ≤ a ∧ a < nx l q
  | 0, _ => by
    obtain ⟨C, hC⟩ := bs_zero h
    exact ⟨[], 0, C, hC, Nat.le_refl _, nx_gt l 0⟩
  | a + 1, ha => by
    obtain ⟨A, q, C, h1, h2, h3⟩ := bs_cover h a (by omega)
    by_cases hx : a + 1 < nx l q
    · exact ⟨A, q, C, h1, by omega, hx⟩
    · obtain ⟨-, hn⟩ := bs_next h1
      have he : nx l q = a + 1 := by omega
      rcases hn with ⟨hn, -⟩ | ⟨hn, C', rfl⟩
      · omega
      · rw [he] at h1
        exact ⟨A ++ [q], a + 1, C', by rw [h1]; simp, Nat.le_refl _, nx_gt _ _⟩
/-- where code jumps to, a piece begins -/
theorem bs_tgt {l : List Ins} {a : Nat} (ha : a < l.length) (ht : tgt l (a : Int) = true) : ∃ A C, bs l = A ++ a :: C := by
  obtain ⟨A, q, C, h1, h2, h3⟩ := bs_cover (by omega) a ha
  by_cases he : q = a
  · subst he; exact ⟨A, C, h1⟩
  · exfalso
    unfold nx at h3
    by_cases hs : (shorter l q).2 = 0
    · rw [if_pos hs] at h3; omega
    · rw [if_neg hs] at h3
      have := shorter_not hs (k := a - q) (by omega) (by omega)
      rw [show q + (a - q) = a by omega, ht] at this
      cases this
/-- where each new instruction comes from -/
def srcs (l : List Ins) (b : List Nat) : List Nat := b.flatMap fun q => if em l q = [] then [] else [q]
theorem srcs_len (l : List Ins) (b : List Nat) : (srcs l b).length = (b.flatMap (em l)).length := by
  unfold srcs
  induction b with
  | nil => rfl
  | cons q r ih =>
    rw [List.flatMap_cons, List.flatMap_cons, List.length_append, List.length_append, ih]
    have := em_len l q
    congr 1
    by_cases h : em l q = []
    · rw [if_pos h, h]; rfl
    · rw [if_neg h]
      have : (em l q).length ≠ 0 := fun h' => h (List.eq_nil_of_length_eq_zero h')
      simp; omega
theorem srcs_app (l : List Ins) (a b : List Nat) : srcs l (a ++ b) = srcs l a ++ srcs l b := by unfold srcs; rw [List.flatMap_append]
theorem src_at {l : List Ins} : ∀ (b : List Nat) (j q : Nat), (srcs l b)[j]? = some q → ∃ A C i, b = A ++ q :: C ∧ em l q = [i] ∧ j = (A.flatMap (em l)).length ∧ (b.flatMap (em l))[j]? = some i
  | [], j, q, h => by simp [srcs] at h
  | x :: r, j, q, h => by
    have e : srcs l (x :: r) = (if em l x = [] then [] else [x]) ++ srcs l r := by unfold srcs; rw [List.flatMap_cons]
    rw [e] at h
    by_cases hx : em l x = []
    · rw [if_pos hx, List.nil_append] at h
      obtain ⟨A, C, i, h1, h2, h3, h4⟩ := src_at r j q h
      exact ⟨x :: A, C, i, by rw [h1]; rfl, h2, by rw [List.flatMap_cons, hx]; simpa using h3, by rw [List.flatMap_cons, hx]; simpa using h4⟩
    · rw [if_neg hx] at h
      obtain ⟨i, hi⟩ : ∃ i, em l x = [i] := by
        have := em_len l x
        match hm : em l x with
        | [] => exact absurd hm hx
        | [i] => exact ⟨i, rfl⟩
        | _ :: _ :: _ => rw [hm] at this; simp at this
      cases j with
      | zero =>
        simp at h
        subst h
        exact ⟨[], r, i, rfl, hi, rfl, by rw [List.flatMap_cons, hi]; rfl⟩
      | succ j =>
        have h' : (srcs l r)[j]? = some q := by simpa using h
        obtain ⟨A, C, i', h1, h2, h3, h4⟩ := src_at r j q h'
        refine ⟨x :: A, C, i', by rw [h1]; rfl, h2, ?_, ?_⟩
        · rw [List.flatMap_cons, hi]; simp [h3]
        · rw [List.flatMap_cons, hi]; first | exact h4 | simpa using h4
/-- a new instruction has a place that it comes from -/
theorem src_some {l : List Ins} {b : List Nat} {j : Nat} (h : j < (b.flatMap (em l)).length) : ∃ q, (srcs l b)[j]? = some q := by
  rw [← srcs_len] at h
  exact ⟨_, List.getElem?_eq_getElem h⟩
/-- it is never longer, and shorter if something was done -/
theorem pcs_len {l : List Ins} : ∀ (n p : Nat), p ≤ l.length → p + ((pcs l n p).flatMap (em l)).length + (if (pcs l n p).any (fun q => decide ((shorter l q).2 ≠ 0)) then 1 else 0) ≤ l.length
  | 0, p, h => by simp [pcs]; exact h
  | n + 1, p, h => by
    unfold pcs
    split
    · rename_i hp
      have ih := pcs_len n (nx l p) (nx_le hp)
      rw [List.flatMap_cons, List.length_append, List.any_cons]
      by_cases hs : (shorter l p).2 = 0
      · have e1 : nx l p = p + 1 := by unfold nx; rw [if_pos hs]
        have e2 : (em l p).length = 1 := by unfold em; rw [if_pos hs]; rfl
        simp only [hs, ne_eq, not_true_eq_false, decide_false, Bool.false_or]
        rw [e2]
        simp only [ne_eq] at ih
        omega
      · have e1 : nx l p = p + (shorter l p).2 := by unfold nx; rw [if_neg hs]
        have e2 : em l p = (shorter l p).1 := by unfold em; rw [if_neg hs]
        have := shorter_len hs
        simp only [hs, ne_eq, not_false_eq_true, decide_true, Bool.true_or, if_true]
        rw [e2]
        split at ih <;> omega
    · simp; exact h
theorem pass_len (l : List Ins) : (pass l).1.length + (if (pass l).2 then 1 else 0) ≤ l.length := by
  have := pcs_len (l := l) l.length 0 (Nat.zero_le _)
  unfold pass
  simp only [List.length_map]
  rw [pass0_did, pass0_out]
  rw [Nat.zero_add] at this
  exact this
theorem codeN_len : ∀ (n : Nat) (l : List Ins), (codeN n l).length ≤ l.length
  | 0, l => by unfold codeN; exact Nat.le_refl _
  | n + 1, l => by
    have h := pass_len l
    unfold codeN
    split
    · rename_i hd
      have := codeN_len n (pass l).1
      omega
    · omega
theorem code_len (l : List Ins) : (code l).length ≤ l.length := codeN_len _ l
end Go.Proofs.Ytfeajpghabjaaaa.Opt

/- With shorter code a unit has a typing still. Plain Lean. -/
namespace Go.Proofs.Ytfeajpghabjaaaa.Opt
set_option linter.unusedVariables false
set_option linter.unusedSimpArgs false
open ImgM Ver

def withC (u : Unt) (c : List Ins) : Unt := { u with code := c }
theorem special_code (M : Mdl) (u : Unt) (c : List Ins) (i : Ins) (f : Flow) : special M (withC u c) i f = special M u i f := rfl
theorem step_code (M : Mdl) (u : Unt) (c : List Ins) (i : Ins) (f : Flow) (h21 : i.op ≠ 21) (h22 : i.op ≠ 22) : Ver.step M (withC u c) i f = Ver.step M u i f := by
  unfold Ver.step
  rw [if_neg h21, if_neg h22, if_neg h21, if_neg h22]
  rfl
theorem sem_code (M : Mdl) (u : Unt) (c : List Ins) (i : Ins) (s : Shape) : sem M (withC u c) i s = sem M u i s := by
  unfold sem core
  by_cases h21 : i.op = 21
  · rw [if_pos h21, if_pos h21]
  rw [if_neg h21, if_neg h21]
  by_cases h22 : i.op = 22
  · rw [if_pos h22, if_pos h22]
  rw [if_neg h22, if_neg h22, step_code M u c i _ h21 h22]
/-- it hangs on where a jump leads not at all -/
theorem sem_reloc (M : Mdl) (u : Unt) (wh : List Int) (i : Ins) (s : Shape) : sem M u (reloc wh i) s = sem M u i s := by
  unfold reloc
  split
  · rename_i h
    unfold isJ at h
    rw [Bool.or_eq_true, decide_eq_true_eq, decide_eq_true_eq] at h
    unfold sem core
    rcases h with h | h <;> simp only [h, if_true] <;> rfl
  · rfl
theorem reloc_op (wh : List Int) (i : Ins) : (reloc wh i).op = i.op := by unfold reloc; split <;> rfl
theorem reloc_no {wh : List Int} {i : Ins} (h : isJ i = false) : reloc wh i = i := by unfold reloc; rw [if_neg (by rw [h]; decide)]
theorem reloc_a {wh : List Int} {i : Ins} (h : isJ i = true) : (reloc wh i).a = wh.getD i.a.toNat 0 := by unfold reloc; rw [if_pos h]
theorem isJ_iff {i : Ins} : isJ i = true ↔ i.op = 21 ∨ i.op = 22 := by unfold isJ; rw [Bool.or_eq_true, decide_eq_true_eq, decide_eq_true_eq]
theorem isC_iff {i : Ins} : isC i = true ↔ i.op = 1 ∨ i.op = 2 := by unfold isC; rw [Bool.or_eq_true, decide_eq_true_eq, decide_eq_true_eq]

/-- the stack behind an instruction, whatever is wrong -/
theorem push_stack (t : Int) (f : Flow) : (push t f).stack = f.stack ++ [t] ∧ (push t f).has = f.has := by
  unfold push fail
  split
  · split <;> exact ⟨rfl, rfl⟩
  · exact ⟨rfl, rfl⟩
theorem fail_stack (e : Int) (f : Flow) : (fail e f).stack = f.stack ∧ (fail e f).has = f.has := by unfold fail; split <;> exact ⟨rfl, rfl⟩
theorem pop_stack (f : Flow) : (pop f).2.stack = f.stack.take (f.stack.length - 1) ∧ (pop f).2.has = f.has := by
  unfold pop
  split
  · rename_i h
    have : f.stack = [] := List.eq_nil_of_length_eq_zero h
    rw [(fail_stack _ _).1, (fail_stack _ _).2, this]
    exact ⟨rfl, rfl⟩
  · exact ⟨rfl, rfl⟩
theorem want1_stack (t : Int) (f : Flow) : (want1 t f).stack = f.stack.take (f.stack.length - 1) ∧ (want1 t f).has = f.has := by
  unfold want1
  split
  · rw [(fail_stack _ _).1, (fail_stack _ _).2]; exact pop_stack f
  · exact pop_stack f
theorem take_snoc1 {α : Type} (st : List α) (x : α) : (st ++ [x]).take ((st ++ [x]).length - 1) = st := by simp
section
variable {M : Mdl} {u : Unt} {i : Ins} {st : List Int} {h : List Bool}
theorem step1 (hi : i.op = 1 ∨ i.op = 2) (f : Flow) : Ver.step M u i f = (true, push i.op f) := by
  unfold Ver.step
  rcases hi with hi | hi
  · rw [if_pos hi, hi]
  · rw [if_neg (by omega), if_pos hi, hi]
theorem sem_const (hi : i.op = 1 ∨ i.op = 2) : sem M u i (st, h) = push i.op ⟨[], [], st, h, 0⟩ := by
  unfold sem core
  rw [if_neg (by omega), if_neg (by omega), step1 hi]
theorem push_err {t : Int} : (push t ⟨[], [], st, h, 0⟩).err = 0 ↔ st.length + 1 ≤ 300 := by
  unfold push
  simp only
  split
  · rename_i h'
    unfold fail
    simp only [if_true]
    constructor
    · intro h; cases h
    · intro h; omega
  · rename_i h'
    exact ⟨fun _ => by omega, fun _ => rfl⟩
theorem sem_two {x y : Int} (hi : 8 ≤ i.op ∧ i.op ≤ 20) : (sem M u i (st ++ [x] ++ [y], h)).stack = st ++ [if 12 < i.op then 2 else 1] ∧ (sem M u i (st ++ [x] ++ [y], h)).has = h := by
  unfold sem core
  rw [if_neg (by omega), if_neg (by omega)]
  have e : ∀ (a b c : Int), (want1 a (want1 b (⟨[], [], st ++ [x] ++ [y], h, 0⟩ : Flow))).stack = st ∧ (want1 a (want1 b (⟨[], [], st ++ [x] ++ [y], h, 0⟩ : Flow))).has = h := by
    intro a b c
    rw [(want1_stack _ _).1, (want1_stack _ _).2, (want1_stack _ _).1, (want1_stack _ _).2]
    simp only
    rw [take_snoc1, take_snoc1]
    simp
  unfold Ver.step
  rw [if_neg (by omega), if_neg (by omega), if_neg (by omega), if_neg (by omega), if_neg (by omega), if_neg (by omega), if_neg (by omega)]
  by_cases h1 : 8 ≤ i.op ∧ i.op ≤ 12
  · rw [if_pos h1, if_neg (by omega)]
    have := e 1 1 0
    rw [(push_stack _ _).1, (push_stack _ _).2]
    exact ⟨by rw [show want [1, 1] (⟨[], [], st ++ [x] ++ [y], h, 0⟩ : Flow) = want1 1 (want1 1 (⟨[], [], st ++ [x] ++ [y], h, 0⟩ : Flow)) from rfl, this.1], this.2⟩
  rw [if_neg h1]
  rw [if_pos (show 12 < i.op by omega)]
  by_cases h2 : i.op = 13 ∨ i.op = 14
  · rw [if_pos h2]
    simp only [(push_stack _ _).1, (push_stack _ _).2, show ∀ (t : Int) (f : Flow), want [t] f = want1 t f from fun _ _ => rfl, (want1_stack _ _).1, (want1_stack _ _).2]
    have p := pop_stack (⟨[], [], st ++ [x] ++ [y], h, 0⟩ : Flow)
    simp only at p
    rw [take_snoc1] at p
    split
    · rw [(fail_stack _ _).1, (fail_stack _ _).2, p.1, take_snoc1]; exact ⟨rfl, p.2⟩
    · rw [p.1, take_snoc1]; exact ⟨rfl, p.2⟩
  rw [if_neg h2]
  by_cases h3 : 15 ≤ i.op ∧ i.op ≤ 18
  · rw [if_pos h3]
    have := e 1 1 0
    rw [(push_stack _ _).1, (push_stack _ _).2]
    exact ⟨by rw [show want [1, 1] (⟨[], [], st ++ [x] ++ [y], h, 0⟩ : Flow) = want1 1 (want1 1 (⟨[], [], st ++ [x] ++ [y], h, 0⟩ : Flow)) from rfl, this.1], this.2⟩
  rw [if_neg h3, if_pos (by omega)]
  have := e 2 2 0
  rw [(push_stack _ _).1, (push_stack _ _).2]
  exact ⟨by rw [show want [2, 2] (⟨[], [], st ++ [x] ++ [y], h, 0⟩ : Flow) = want1 2 (want1 2 (⟨[], [], st ++ [x] ++ [y], h, 0⟩ : Flow)) from rfl, this.1], this.2⟩
theorem sem_load (hi : i.op = 3) : (sem M u i (st, h)).stack = st ++ [u.locals.getD i.a.toNat 0] ∧ (sem M u i (st, h)).has = h := by
  unfold sem core
  rw [if_neg (by omega), if_neg (by omega), step_3 M u i _ hi]
  simp only [(push_stack _ _).1, (push_stack _ _).2]
  split
  · exact ⟨rfl, rfl⟩
  · rw [(fail_stack _ _).1, (fail_stack _ _).2]; exact ⟨rfl, rfl⟩
theorem sem_drop {x : Int} (hi : i.op = 5) : (sem M u i (st ++ [x], h)).stack = st ∧ (sem M u i (st ++ [x], h)).has = h := by
  unfold sem core
  rw [if_neg (by omega), if_neg (by omega)]
  unfold Ver.step
  rw [if_neg (by omega), if_neg (by omega), if_neg (by omega), if_neg (by omega), if_pos hi]
  simp only
  rw [(pop_stack _).1, (pop_stack _).2]
  exact ⟨take_snoc1 _ _, rfl⟩
theorem sem_one {x : Int} (hi : i.op = 6 ∨ i.op = 7) : (sem M u i (st ++ [x], h)).stack = st ++ [if i.op = 6 then 1 else 2] ∧ (sem M u i (st ++ [x], h)).has = h := by
  unfold sem core
  rw [if_neg (by omega), if_neg (by omega)]
  unfold Ver.step
  rw [if_neg (by omega), if_neg (by omega), if_neg (by omega), if_neg (by omega), if_neg (by omega)]
  by_cases h6 : i.op = 6
  · rw [if_pos h6, if_pos h6, (push_stack _ _).1, (push_stack _ _).2]
    simp only [show ∀ (t : Int) (f : Flow), want [t] f = want1 t f from fun _ _ => rfl, (want1_stack _ _).1, (want1_stack _ _).2]
    rw [take_snoc1]; exact ⟨rfl, trivial⟩
  · rw [if_neg h6, if_neg h6, if_pos (by omega), (push_stack _ _).1, (push_stack _ _).2]
    simp only [show ∀ (t : Int) (f : Flow), want [t] f = want1 t f from fun _ _ => rfl, (want1_stack _ _).1, (want1_stack _ _).2]
    rw [take_snoc1]; exact ⟨rfl, trivial⟩
theorem sem_else {x : Int} (hi : i.op = 22) : (sem M u i (st ++ [x], h)).stack = st ∧ (sem M u i (st ++ [x], h)).has = h := by
  unfold sem core
  rw [if_neg (by omega), if_pos hi]
  simp only [show ∀ (t : Int) (f : Flow), want [t] f = want1 t f from fun _ _ => rfl, (want1_stack _ _).1, (want1_stack _ _).2]
  rw [take_snoc1]; exact ⟨rfl, trivial⟩
theorem sem_jump (hi : i.op = 21) : sem M u i (st, h) = ⟨[], [], st, h, 0⟩ := by
  unfold sem core
  rw [if_pos hi]
end
theorem nexts_on {i : Ins} {p : Int} (h1 : i.op ≠ 21) (h2 : i.op ≠ 22) (h3 : i.op ≠ 24) (h4 : i.op ≠ 25) : nexts i p = [p + 1] := by
  unfold nexts
  rw [if_neg h1, if_neg h2, if_neg (by omega)]
theorem ins_at (u : Unt) (p : Nat) : ins u (p : Int) = at_ u.code p := rfl
section
variable {M : Mdl} {u : Unt} {τ : Int → Option Shape} (hc : Cert M u τ)
include hc
/-- one instruction that goes on -/
theorem go1 {p : Nat} {st : List Int} {h : List Bool} (ht : τ (p : Int) = some (st, h)) (h1 : (at_ u.code p).op ≠ 21) (h3 : (at_ u.code p).op ≠ 24) (h4 : (at_ u.code p).op ≠ 25) :
    (sem M u (at_ u.code p) (st, h)).err = 0 ∧ ∃ h', τ ((p + 1 : Nat) : Int) = some ((sem M u (at_ u.code p) (st, h)).stack, h') ∧ Le h' (sem M u (at_ u.code p) (st, h)).has := by
  have hf := hc.fits _ _ ht
  refine ⟨hf.ok, ?_⟩
  have hn := hf.next ((p + 1 : Nat) : Int) (by
    rw [ins_at]
    unfold nexts
    rw [if_neg h1]
    split
    · simp
    · rw [if_neg (by omega)]; simp)
  exact hn
/-- what a piece comes to -/
theorem piece {p : Nat} {st : List Int} {h : List Bool} (ht : τ (p : Int) = some (st, h)) (hs : (shorter u.code p).2 ≠ 0) :
    (em u.code p = [] ∧ ∃ h', τ (nx u.code p : Int) = some (st, h') ∧ Le h' h) ∨
    (∃ i, em u.code p = [i] ∧ (i.op = 1 ∨ i.op = 2) ∧ (sem M u i (st, h)).err = 0 ∧ ∃ h', τ (nx u.code p : Int) = some ((sem M u i (st, h)).stack, h') ∧ Le h' (sem M u i (st, h)).has) ∨
    (∃ i, em u.code p = [i] ∧ i.op = 21 ∧ ∃ h', τ i.a = some (st, h') ∧ Le h' h) := by
  have e1 : em u.code p = (shorter u.code p).1 := by unfold em; rw [if_neg hs]
  have e2 : nx u.code p = p + (shorter u.code p).2 := by unfold nx; rw [if_neg hs]
  rw [e1, e2]
  rcases shorter_cases hs with ⟨r, h1, h2, h3⟩ | ⟨r, h1, h2, h3⟩ | ⟨h1, h2, h3, h4⟩
  · -- three
    rw [h1]
    unfold three at h3
    split at h3
    · cases h3
    rename_i g1
    split at h3
    · cases h3
    rename_i g2
    cases h3
    have c1 : isC (at_ u.code p) = true := by
      cases hx : isC (at_ u.code p) with
      | true => rfl
      | false => exact absurd (.inl hx) g1
    have c2 : isC (at_ u.code (p + 1)) = true := by
      cases hx : isC (at_ u.code (p + 1)) with
      | true => rfl
      | false => exact absurd (.inr (.inl hx)) g1
    rw [isC_iff] at c1 c2
    have c3 : (at_ u.code p).op = (at_ u.code (p + 1)).op := Classical.byContradiction fun hx => g1 (.inr (.inr (.inl hx)))
    have c4 : 8 ≤ (at_ u.code (p + 2)).op ∧ (at_ u.code (p + 2)).op ≤ 20 := by
      refine ⟨?_, ?_⟩
      · exact Int.not_lt.1 fun hx => g1 (.inr (.inr (.inr (.inl hx))))
      · exact Int.not_lt.1 fun hx => g1 (.inr (.inr (.inr (.inr (.inl hx)))))
    obtain ⟨o1, k1, t1, l1⟩ := go1 hc ht (by omega) (by omega) (by omega)
    rw [sem_const c1] at o1 t1 l1
    rw [(push_stack _ _).1] at t1
    rw [(push_stack _ _).2] at l1
    obtain ⟨o2, k2, t2, l2⟩ := go1 hc t1 (by omega) (by omega) (by omega)
    rw [sem_const c2] at o2 t2 l2
    rw [(push_stack _ _).1] at t2
    rw [(push_stack _ _).2] at l2
    rw [show p + 1 + 1 = p + 2 from rfl] at t2
    obtain ⟨o3, k3, t3, l3⟩ := go1 hc t2 (by omega) (by omega) (by omega)
    simp only at t3 l3
    rw [(sem_two c4).1] at t3
    rw [(sem_two c4).2] at l3
    right; left
    rw [push_err] at o1
    have l : Le k3 h := (l3.trans l2).trans l1
    by_cases h12 : 12 < (at_ u.code (p + 2)).op
    · rw [if_pos h12] at t3
      refine ⟨⟨2, two2 (at_ u.code (p + 2)).op (cval (at_ u.code p)) (cval (at_ u.code (p + 1))), 0⟩, ?_, .inr rfl, ?_, k3, ?_, ?_⟩
      · simp only; unfold known; rw [if_pos (by simpa using h12)]
      · rw [sem_const (.inr rfl), push_err]; exact o1
      · rw [sem_const (.inr rfl), (push_stack _ _).1]; exact t3
      · rw [sem_const (.inr rfl), (push_stack _ _).2]; exact l
    · rw [if_neg h12] at t3
      refine ⟨⟨1, 0, two2 (at_ u.code (p + 2)).op (cval (at_ u.code p)) (cval (at_ u.code (p + 1)))⟩, ?_, .inl rfl, ?_, k3, ?_, ?_⟩
      · simp only; unfold known; rw [if_neg (by simpa using h12)]
      · rw [sem_const (.inl rfl), push_err]; exact o1
      · rw [sem_const (.inl rfl), (push_stack _ _).1]; exact t3
      · rw [sem_const (.inl rfl), (push_stack _ _).2]; exact l
  · -- two
    rw [h1]
    unfold pair at h3
    split at h3
    · -- dropped
      rename_i g
      cases h3
      left
      refine ⟨rfl, ?_⟩
      have g1 : ((at_ u.code p).op = 1 ∨ (at_ u.code p).op = 2) ∨ (at_ u.code p).op = 3 := by
        rcases g.2 with g | g
        · exact .inl (isC_iff.1 g)
        · exact .inr g
      obtain ⟨o1, k1, t1, l1⟩ := go1 hc ht (by omega) (by omega) (by omega)
      have key : ∃ x, (sem M u (at_ u.code p) (st, h)).stack = st ++ [x] ∧ (sem M u (at_ u.code p) (st, h)).has = h := by
        rcases g1 with g1 | g1
        · rw [sem_const g1, (push_stack _ _).1, (push_stack _ _).2]; exact ⟨_, rfl, rfl⟩
        · exact ⟨_, (sem_load g1).1, (sem_load g1).2⟩
      obtain ⟨x, x1, x2⟩ := key
      rw [x1] at t1
      rw [x2] at l1
      obtain ⟨o2, k2, t2, l2⟩ := go1 hc t1 (by omega) (by omega) (by omega)
      rw [(sem_drop g.1).1] at t2
      rw [(sem_drop g.1).2] at l2
      exact ⟨k2, t2, l2.trans l1⟩
    split at h3
    · cases h3
    rename_i g0
    have c1 : (at_ u.code p).op = 1 ∨ (at_ u.code p).op = 2 := isC_iff.1 (by simpa using g0)
    obtain ⟨o1, k1, t1, l1⟩ := go1 hc ht (by omega) (by omega) (by omega)
    rw [sem_const c1] at o1 t1 l1
    rw [(push_stack _ _).1] at t1
    rw [(push_stack _ _).2] at l1
    rw [push_err] at o1
    simp only at t1 l1
    split at h3
    · -- a number, turned
      rename_i g
      cases h3
      obtain ⟨o2, k2, t2, l2⟩ := go1 hc t1 (by omega) (by omega) (by omega)
      rw [(sem_one (.inl g.1)).1, if_pos g.1] at t2
      rw [(sem_one (.inl g.1)).2] at l2
      right; left
      refine ⟨⟨1, 0, IntKind.i64.wrap (-(cval (at_ u.code p)))⟩, rfl, .inl rfl, ?_, k2, ?_, ?_⟩
      · rw [sem_const (.inl rfl), push_err]; exact o1
      · rw [sem_const (.inl rfl), (push_stack _ _).1]; exact t2
      · rw [sem_const (.inl rfl), (push_stack _ _).2]; exact l2.trans l1
    split at h3
    · cases h3
    split at h3
    · -- a truth, turned
      rename_i g
      cases h3
      obtain ⟨o2, k2, t2, l2⟩ := go1 hc t1 (by omega) (by omega) (by omega)
      rw [(sem_one (.inr g)).1, if_neg (by omega)] at t2
      rw [(sem_one (.inr g)).2] at l2
      right; left
      refine ⟨⟨2, IntKind.i64.wrap (1 - cval (at_ u.code p)), 0⟩, rfl, .inr rfl, ?_, k2, ?_, ?_⟩
      · rw [sem_const (.inr rfl), push_err]; exact o1
      · rw [sem_const (.inr rfl), (push_stack _ _).1]; exact t2
      · rw [sem_const (.inr rfl), (push_stack _ _).2]; exact l2.trans l1
    split at h3
    · -- a test of what is true
      rename_i g
      cases h3
      obtain ⟨o2, k2, t2, l2⟩ := go1 hc t1 (by omega) (by omega) (by omega)
      rw [(sem_else g.1).1] at t2
      rw [(sem_else g.1).2] at l2
      exact .inl ⟨rfl, k2, t2, l2.trans l1⟩
    split at h3
    · -- a test of what is false
      rename_i g
      cases h3
      have hf := hc.fits _ _ t1
      obtain ⟨k2, t2, l2⟩ := hf.next (at_ u.code (p + 1)).a (by
        rw [ins_at]
        unfold nexts
        rw [if_neg (by omega), if_pos g]
        simp)
      rw [ins_at] at t2 l2
      rw [(sem_else g).1] at t2
      rw [(sem_else g).2] at l2
      exact .inr (.inr ⟨_, rfl, rfl, k2, t2, l2.trans l1⟩)
    · cases h3
  · -- a jump to what follows
    rw [h1]
    left
    refine ⟨rfl, ?_⟩
    have hf := hc.fits _ _ ht
    obtain ⟨k2, t2, l2⟩ := hf.next (at_ u.code p).a (by
      rw [ins_at]
      unfold nexts
      rw [if_pos h3]
      simp)
    rw [ins_at, sem_jump h3] at t2 l2
    rw [h4] at t2
    exact ⟨k2, t2, l2⟩
end
end Go.Proofs.Ytfeajpghabjaaaa.Opt
