/- What package verify computes: the units that a task comes to. Plain Lean. -/
import Derived.Test.YtkhagebjphaboaaVerEnd
namespace Go.Proofs.Ytkhagebjphaboaa.Ver
set_option linter.unusedVariables false
set_option linter.unusedSimpArgs false
open ImgM

/-- units' numbers, each once -/
structure Once (N : Nat) (l : List Int) : Prop where
  nodup : l.Nodup
  ok : ∀ x ∈ l, 0 ≤ x ∧ x < (N : Int)
theorem nodup_le : ∀ (N : Nat) (l : List Int), Once N l → l.length ≤ N
  | 0, l, h => by
    cases l with
    | nil => exact Nat.le_refl _
    | cons x r => have := h.ok x List.mem_cons_self; omega
  | N + 1, l, h => by
    have h2 : Once N (l.filter fun x => decide (x ≠ (N : Int))) := ⟨h.nodup.filter _, fun x hx => by
      rw [List.mem_filter] at hx
      have := h.ok x hx.1
      have h3 : x ≠ (N : Int) := by simpa using hx.2
      omega⟩
    have h3 := nodup_le N _ h2
    have h4 : ∀ l : List Int, l.Nodup → l.length ≤ (l.filter fun x => decide (x ≠ (N : Int))).length + 1 := by
      intro l hl
      induction l with
      | nil => simp
      | cons a r ih =>
        rw [List.nodup_cons] at hl
        rw [List.filter_cons]
        by_cases ha : a = (N : Int)
        · have : r.filter (fun x => decide (x ≠ (N : Int))) = r := List.filter_eq_self.2 (fun x hx => by
            have : x ≠ (N : Int) := fun e => hl.1 (by rw [ha, ← e]; exact hx)
            simpa using this)
          rw [if_neg (by simpa using ha), this]
          simp
        · rw [if_pos (by simpa using ha)]
          have := ih hl.2
          simp only [List.length_cons]
          omega
    have := h4 l h.nodup
    omega
theorem Once.len {N : Nat} {l : List Int} (h : Once N l) : l.length ≤ N := nodup_le N l h
theorem Once.snoc {N : Nat} {l : List Int} (h : Once N l) {a : Int} (ha : a ∉ l) (h1 : 0 ≤ a ∧ a < (N : Int)) : Once N (l ++ [a]) := by
  refine ⟨?_, fun x hx => ?_⟩
  · rw [List.nodup_append]
    exact ⟨h.nodup, by simp, fun x hx y hy => by
      simp at hy
      subst hy
      exact fun e => ha (e ▸ hx)⟩
  · rcases List.mem_append.1 hx with hx | hx
    · exact h.ok x hx
    · simp at hx; subst hx; exact h1
theorem Once.one {N k : Nat} (h : k < N) : Once N [(k : Int)] := ⟨by simp, fun x hx => by simp at hx; subst hx; omega⟩
/-- one instruction -/
def call1 (out : List Int) (i : Ins) : List Int := if (i.op = 23 ∨ i.op = 29) ∧ i.a ∉ out then out ++ [i.a] else out
theorem calls_cons (i : Ins) (l : List Ins) (out : List Int) : calls (i :: l) out = calls l (call1 out i) := rfl
theorem calls_nil (out : List Int) : calls [] out = out := rfl
theorem call1_once {N : Nat} {out : List Int} {i : Ins} (h : Once N out) (hi : i.op = 23 ∨ i.op = 29 → 0 ≤ i.a ∧ i.a < (N : Int)) : Once N (call1 out i) := by
  unfold call1
  split
  · rename_i h1
    exact h.snoc h1.2 (hi h1.1)
  · exact h
theorem calls_once {N : Nat} : ∀ (l : List Ins) (out : List Int), Once N out → (∀ i ∈ l, i.op = 23 ∨ i.op = 29 → 0 ≤ i.a ∧ i.a < (N : Int)) → Once N (calls l out)
  | [], _, h, _ => h
  | i :: l, out, h, hi => by
    rw [calls_cons]
    exact calls_once l _ (call1_once h (hi i List.mem_cons_self)) (fun j hj => hi j (List.mem_cons_of_mem _ hj))
theorem reachRun_step {M : Mdl} {n k : Nat} {out : List Int} (h : k < out.length) : reachRun M (n + 1) k out = reachRun M n (k + 1) (calls (M.units.getD (out.getD k 0).toNat default).code out) := by
  conv => lhs; unfold reachRun
  rw [if_pos h]
theorem reachRun_end {M : Mdl} {n k : Nat} {out : List Int} (h : ¬ k < out.length) : reachRun M n k out = out := by
  cases n with
  | zero => rfl
  | succ n => unfold reachRun; rw [if_neg h]
theorem reachRun_once {M : Mdl} {N : Nat} (hc : ∀ k, k < N → ∀ i ∈ (M.units.getD k default).code, i.op = 23 ∨ i.op = 29 → 0 ≤ i.a ∧ i.a < (N : Int)) : ∀ (n k : Nat) (out : List Int), Once N out → Once N (reachRun M n k out)
  | 0, _, _, h => h
  | n + 1, k, out, h => by
    unfold reachRun
    split
    · rename_i hk
      refine reachRun_once hc n (k + 1) _ (calls_once _ _ h (hc _ ?_))
      have := h.ok (out.getD k 0) (by rw [List.getD_eq_getElem?_getD, List.getElem?_eq_getElem hk]; exact List.getElem_mem _)
      omega
    · exact h
theorem owned_1 {M : Mdl} {b n : Nat} (h : 1 < users M 26 b ∨ 1 < users M 27 b) : owned M b (n + 1) = ⟨8, 0, b⟩ := by unfold owned; rw [if_pos h]
theorem owned_2 {M : Mdl} {b n : Nat} (h : ¬(1 < users M 26 b ∨ 1 < users M 27 b)) : owned M b (n + 1) = owned M (b + 1) n := by
  conv => lhs; unfold owned
  rw [if_neg h]
/-- how many of the first k tasks -/
def usersTo (M : Mdl) (op b : Int) (k : Nat) : Nat := ((List.range k).filter fun k => decide ((M.units.getD k default).kind = 4) && uses M op b k).length
theorem usersTo_succ (M : Mdl) (op b : Int) (k : Nat) : usersTo M op b (k + 1) = usersTo M op b k + if (decide ((M.units.getD k default).kind = 4) && uses M op b k) = true then 1 else 0 := by
  unfold usersTo
  rw [List.range_succ, List.filter_append, List.length_append]
  congr 1
  rw [List.filter_cons]
  split <;> rfl
theorem usersTo_le (M : Mdl) (op b : Int) (k : Nat) : usersTo M op b k ≤ k := by
  unfold usersTo
  exact Nat.le_trans (List.length_filter_le _ _) (by simp)
end Go.Proofs.Ytkhagebjphaboaa.Ver
