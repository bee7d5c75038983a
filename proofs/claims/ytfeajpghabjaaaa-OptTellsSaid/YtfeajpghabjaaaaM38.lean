/- The document's answer to chapter 7: who comes to which code. Plain Lean. -/
import Derived.Test.YtfeajpghabjaaaaM37
namespace Go.Proofs.Ytfeajpghabjaaaa.Rf7
open ImgM Ver
set_option linter.unusedVariables false
set_option linter.unusedSimpArgs false
theorem calls_pre7 : ∀ (l : List Ins) (out : List Int), out <+: calls l out
  | [], out => List.prefix_refl _
  | i :: l, out => by
    rw [calls_cons]
    refine List.IsPrefix.trans ?_ (calls_pre7 l _)
    unfold call1
    split
    · exact List.prefix_append _ _
    · exact List.prefix_refl _
theorem calls_has7 : ∀ (l : List Ins) (out : List Int) (i : Ins), i ∈ l → i.op = 23 ∨ i.op = 29 → i.a ∈ calls l out
  | j :: l, out, i, hi, ho => by
    rw [calls_cons]
    rcases List.mem_cons.1 hi with rfl | hi
    · refine (calls_pre7 l _).subset ?_
      unfold call1
      by_cases h : i.a ∈ out
      · rw [if_neg (fun h' => h'.2 h)]; exact h
      · rw [if_pos ⟨ho, h⟩]; simp
    · exact calls_has7 l _ i hi ho
theorem reach_closed7 {M : Mdl} {N : Nat} (hc : ∀ k, k < N → ∀ i ∈ (M.units.getD k default).code, i.op = 23 ∨ i.op = 29 → 0 ≤ i.a ∧ i.a < (N : Int)) : ∀ (n k : Nat) (out : List Int), Once N out → N < n + k →
    (∀ j, j < k → j < out.length → ∀ i ∈ (uAt M (out.getD j 0)).code, i.op = 23 ∨ i.op = 29 → i.a ∈ out) →
    out <+: reachRun M n k out ∧ ∀ x ∈ reachRun M n k out, ∀ i ∈ (uAt M x).code, i.op = 23 ∨ i.op = 29 → i.a ∈ reachRun M n k out
  | n, k, out, h, hn, hcl => by
    by_cases hk : k < out.length
    · cases n with
      | zero => have := h.len; omega
      | succ n =>
        rw [reachRun_step hk]
        have hpre := calls_pre7 (M.units.getD (out.getD k 0).toNat default).code out
        have hget : ∀ j, j < out.length → (calls (M.units.getD (out.getD k 0).toNat default).code out).getD j 0 = out.getD j 0 := fun j hj => by
          obtain ⟨x, hx⟩ := hpre
          rw [← hx, List.getD_eq_getElem?_getD, List.getElem?_append_left hj, ← List.getD_eq_getElem?_getD]
        have ho : Once N (calls (M.units.getD (out.getD k 0).toNat default).code out) := calls_once _ _ h (hc _ (by
          have := h.ok (out.getD k 0) (by rw [List.getD_eq_getElem?_getD, List.getElem?_eq_getElem hk]; exact List.getElem_mem _)
          omega))
        obtain ⟨h1, h2⟩ := reach_closed7 hc n (k + 1) _ ho (by omega) (fun j hj hj2 i hi hop => by
          by_cases hjk : j = k
          · subst hjk
            rw [hget j hk] at hi
            exact calls_has7 _ _ i hi hop
          · rw [hget j (by omega)] at hi
            exact hpre.subset (hcl j (by omega) (by omega) i hi hop))
        exact ⟨hpre.trans h1, h2⟩
    · rw [reachRun_end hk]
      refine ⟨List.prefix_refl _, fun x hx i hi hop => ?_⟩
      obtain ⟨j, hj, rfl⟩ := List.getElem_of_mem hx
      refine hcl j (by omega) hj i ?_ hop
      rw [List.getD_eq_getElem?_getD, List.getElem?_eq_getElem hj]
      exact hi
/-- who is come to from who is -/
inductive Rch (M : Mdl) (task : Nat) : Nat → Prop
  | base : Rch M task task
  | step {k : Nat} {i : Ins} (h : Rch M task k) (hi : i ∈ (M.units.getD k default).code) (ho : i.op = 23 ∨ i.op = 29) : Rch M task i.a.toNat
section
variable {M : Mdl} (hc : ∀ k, k < M.units.length → ∀ i ∈ (M.units.getD k default).code, i.op = 23 ∨ i.op = 29 → 0 ≤ i.a ∧ i.a < (M.units.length : Int))
theorem call1_rch {task k : Nat} (hk : Rch M task k) {i : Ins} (hi : i ∈ (M.units.getD k default).code) {out : List Int} (h : ∀ x ∈ out, Rch M task x.toNat) : ∀ x ∈ call1 out i, Rch M task x.toNat := fun x hx => by
  unfold call1 at hx
  split at hx
  · rename_i h1
    rcases List.mem_append.1 hx with hx | hx
    · exact h x hx
    · simp at hx; subst hx
      exact .step hk hi h1.1
  · exact h x hx
theorem calls_rch {task k : Nat} (hk : Rch M task k) : ∀ (l : List Ins) (out : List Int), (∀ i ∈ l, i ∈ (M.units.getD k default).code) → (∀ x ∈ out, Rch M task x.toNat) → ∀ x ∈ calls l out, Rch M task x.toNat
  | [], out, hl, h => h
  | i :: l, out, hl, h => by
    rw [calls_cons]
    exact calls_rch hk l _ (fun j hj => hl j (List.mem_cons_of_mem _ hj)) (call1_rch hk (hl i List.mem_cons_self) h)
theorem run_rch {task : Nat} : ∀ (n k : Nat) (out : List Int), (∀ x ∈ out, Rch M task x.toNat) → ∀ x ∈ reachRun M n k out, Rch M task x.toNat
  | 0, k, out, h => h
  | n + 1, k, out, h => by
    by_cases hk : k < out.length
    · rw [reachRun_step hk]
      refine run_rch n (k + 1) _ (calls_rch (h _ ?_) _ out (fun i hi => hi) h)
      rw [List.getD_eq_getElem?_getD, List.getElem?_eq_getElem hk]; exact List.getElem_mem hk
    · rw [reachRun_end hk]; exact h
include hc in
theorem mem_reach {task : Nat} (ht : task < M.units.length) (k : Nat) : (k : Int) ∈ reach M task ↔ Rch M task k := by
  have ho : Once M.units.length [(task : Int)] := Once.one ht
  obtain ⟨h1, h2⟩ := reach_closed7 hc (M.units.length + 1) 0 [(task : Int)] ho (by omega) (fun j hj => absurd hj (Nat.not_lt_zero _))
  have h3 := reachRun_once hc (M.units.length + 1) 0 [(task : Int)] ho
  constructor
  · intro h
    have := run_rch (M := M) (task := task) (M.units.length + 1) 0 [(task : Int)] (fun x hx => by simp at hx; subst hx; exact .base) (k : Int) h
    exact this
  · intro h
    induction h with
    | base => exact h1.subset (by simp)
    | @step k i hk hi hop ih =>
      have hi' : i ∈ (uAt M (k : Int)).code := hi
      have hm : i.a ∈ reach M task := h2 (k : Int) ih i hi' hop
      have hr := h3.ok _ hm
      have e : ((i.a.toNat : Nat) : Int) = i.a := by omega
      rw [e]; exact hm
/-- an instruction marks whom it calls -/
def mark7 (k : Nat) (ins : List Bool) (i : Ins) : List Bool := if ins.getD k false = true ∧ (i.op = 23 ∨ i.op = 29) then ins.set i.a.toNat true else ins
def marks7 (M : Mdl) (ins : List Bool) (k : Nat) : List Bool := (M.units.getD k default).code.foldl (mark7 k) ins
def pass7 (M : Mdl) (ins : List Bool) : List Bool := (List.range M.units.length).foldl (marks7 M) ins
def in7 (M : Mdl) (task : Nat) : Nat → List Bool
  | 0 => (List.replicate M.units.length false).set task true
  | n + 1 => pass7 M (in7 M task n)
/-- more is marked -/
def Sub7 (a b : List Bool) : Prop := a.length = b.length ∧ ∀ k, a.getD k false = true → b.getD k false = true
theorem Sub7.refl (a : List Bool) : Sub7 a a := ⟨rfl, fun _ h => h⟩
theorem Sub7.trans {a b c : List Bool} (h : Sub7 a b) (k : Sub7 b c) : Sub7 a c := ⟨h.1.trans k.1, fun j hj => k.2 j (h.2 j hj)⟩
theorem getD_setT {l : List Bool} {k j : Nat} (hk : k < l.length) : (l.set k true).getD j false = if k = j then true else l.getD j false := by
  simp only [List.getD_eq_getElem?_getD, List.getElem?_set]
  by_cases h : k = j
  · subst h; simp [hk]
  · simp [h]
theorem mark_sub (k : Nat) (ins : List Bool) (i : Ins) : Sub7 ins (mark7 k ins i) := by
  unfold mark7
  split
  · refine ⟨by simp, fun j hj => ?_⟩
    by_cases h : i.a.toNat < ins.length
    · rw [getD_setT h]
      split
      · rfl
      · exact hj
    · rw [List.set_eq_of_length_le (by omega)]; exact hj
  · exact Sub7.refl _
theorem foldl_sub {α : Type} {f : List Bool → α → List Bool} (hf : ∀ a x, Sub7 a (f a x)) : ∀ (l : List α) (a : List Bool), Sub7 a (l.foldl f a)
  | [], a => Sub7.refl a
  | x :: l, a => (hf a x).trans (foldl_sub hf l _)
theorem marks_sub (M : Mdl) (ins : List Bool) (k : Nat) : Sub7 ins (marks7 M ins k) := foldl_sub (mark_sub k) _ _
theorem pass_sub (M : Mdl) (ins : List Bool) : Sub7 ins (pass7 M ins) := foldl_sub (marks_sub M) _ _
/-- what holds of who is marked goes on holding -/
theorem foldl_all {α : Type} {f : List Bool → α → List Bool} {R : Nat → Prop} : ∀ (l : List α) (a : List Bool), (∀ x ∈ l, ∀ a, (∀ k, a.getD k false = true → R k) → ∀ k, (f a x).getD k false = true → R k) → (∀ k, a.getD k false = true → R k) → ∀ k, (l.foldl f a).getD k false = true → R k
  | [], a, hf, h => h
  | x :: l, a, hf, h => foldl_all l _ (fun y hy => hf y (List.mem_cons_of_mem _ hy)) (hf x List.mem_cons_self a h)
theorem pass_rch {task : Nat} {ins : List Bool} (h : ∀ k, ins.getD k false = true → Rch M task k) : ∀ k, (pass7 M ins).getD k false = true → Rch M task k := by
  refine foldl_all (R := Rch M task) _ ins (fun k _ a ha => ?_) h
  refine foldl_all (R := Rch M task) _ a (fun i hi b hb => ?_) ha
  intro j hj
  unfold mark7 at hj
  split at hj
  · rename_i hm
    by_cases hl : i.a.toNat < b.length
    · rw [getD_setT hl] at hj
      by_cases e : i.a.toNat = j
      · subst e; exact .step (hb k hm.1) hi hm.2
      · rw [if_neg e] at hj; exact hb j hj
    · rw [List.set_eq_of_length_le (by omega)] at hj; exact hb j hj
  · exact hb j hj
/-- whom who is marked calls is marked behind a pass -/
theorem fold_hit {k : Nat} : ∀ (l : List Ins) (ins : List Bool) (i : Ins), i ∈ l → ins.getD k false = true → (i.op = 23 ∨ i.op = 29) → i.a.toNat < ins.length → (l.foldl (mark7 k) ins).getD i.a.toNat false = true
  | [], ins, i, hi, _, _, _ => by cases hi
  | j :: l, ins, i, hi, hk, ho, hl => by
    have hs := mark_sub k ins j
    rcases List.mem_cons.1 hi with rfl | hi
    · refine (foldl_sub (mark_sub k) l _).2 _ ?_
      unfold mark7
      rw [if_pos ⟨hk, ho⟩, getD_setT hl, if_pos rfl]
    · exact fold_hit l _ i hi (hs.2 k hk) ho (by rw [← hs.1]; exact hl)
theorem pass_hit {k : Nat} {i : Ins} (hi : i ∈ (M.units.getD k default).code) (ho : i.op = 23 ∨ i.op = 29) : ∀ (l : List Nat) (ins : List Bool), k ∈ l → ins.getD k false = true → i.a.toNat < ins.length → (l.foldl (marks7 M) ins).getD i.a.toNat false = true
  | [], ins, hk, _, _ => by cases hk
  | j :: l, ins, hk, hm, hl => by
    have hs := marks_sub M ins j
    rcases List.mem_cons.1 hk with rfl | hk
    · exact (foldl_sub (marks_sub M) l _).2 _ (fold_hit _ ins i hi hm ho hl)
    · exact pass_hit hi ho l _ hk (hs.2 k hm) (by rw [← hs.1]; exact hl)
def cnt7 (a : List Bool) : Nat := a.count true
theorem sub_cnt : ∀ {a b : List Bool}, Sub7 a b → cnt7 a ≤ cnt7 b ∧ (a ≠ b → cnt7 a < cnt7 b)
  | [], [], h => ⟨Nat.le_refl _, fun h => absurd rfl h⟩
  | [], y :: b, h => by cases h.1
  | x :: a, [], h => by cases h.1
  | x :: a, y :: b, h => by
    have h1 : Sub7 a b := ⟨by simpa using h.1, fun k hk => by have := h.2 (k + 1); simpa using this (by simpa using hk)⟩
    have h0 := h.2 0
    simp only [List.getD_cons_zero] at h0
    obtain ⟨g1, g2⟩ := sub_cnt h1
    unfold cnt7 at *
    cases x <;> cases y
    · refine ⟨by simpa using g1, fun hn => ?_⟩
      have := g2 (fun e => hn (by rw [e]))
      simpa using this
    · refine ⟨by simp; omega, fun _ => by simp; omega⟩
    · exact absurd (h0 rfl) (by decide)
    · refine ⟨by simpa using g1, fun hn => ?_⟩
      have := g2 (fun e => hn (by rw [e]))
      simpa using this
theorem in_len (M : Mdl) (task : Nat) : ∀ n, (in7 M task n).length = M.units.length
  | 0 => by simp [in7]
  | n + 1 => by
    show (pass7 M (in7 M task n)).length = _
    rw [← (pass_sub M (in7 M task n)).1, in_len M task n]
/-- as many passes as there are units are enough -/
theorem in_fix {task : Nat} (ht : task < M.units.length) : pass7 M (in7 M task M.units.length) = in7 M task M.units.length := by
  have grow : ∀ n, (∀ j, j < n → pass7 M (in7 M task j) ≠ in7 M task j) → n + 1 ≤ cnt7 (in7 M task n) := by
    intro n
    induction n with
    | zero =>
      intro _
      have hs : Sub7 (List.replicate M.units.length false) ((List.replicate M.units.length false).set task true) := ⟨by simp, fun k hk => by
        rw [List.getD_eq_getElem?_getD, List.getElem?_replicate] at hk
        split at hk <;> simp at hk⟩
      have := (sub_cnt hs).2 (fun e => by
        have h1 := congrArg (fun l : List Bool => l.getD task false) e
        rw [getD_setT (by simpa using ht), if_pos rfl, List.getD_eq_getElem?_getD, List.getElem?_replicate] at h1
        split at h1 <;> simp at h1)
      show 1 ≤ cnt7 ((List.replicate M.units.length false).set task true)
      omega
    | succ n ih =>
      intro h
      have h1 := ih (fun j hj => h j (by omega))
      have h2 := (sub_cnt (pass_sub M (in7 M task n))).2 (fun e => h n (by omega) e.symm)
      show n + 1 + 1 ≤ cnt7 (pass7 M (in7 M task n))
      omega
  have le : cnt7 (in7 M task M.units.length) ≤ M.units.length := by
    have := List.count_le_length (a := true) (l := in7 M task M.units.length)
    rw [in_len] at this
    exact this
  have ex : ∃ j, j < M.units.length ∧ pass7 M (in7 M task j) = in7 M task j := by
    refine Classical.byContradiction fun hn => ?_
    have := grow M.units.length (fun j hj e => hn ⟨j, hj, e⟩)
    omega
  obtain ⟨j, hj, e⟩ := ex
  have stay : ∀ d, in7 M task (j + d) = in7 M task j := by
    intro d
    induction d with
    | zero => rfl
    | succ d ih =>
      show pass7 M (in7 M task (j + d)) = _
      rw [ih, e]
  have hN := stay (M.units.length - j)
  rw [show j + (M.units.length - j) = M.units.length by omega] at hN
  rw [hN, e]
include hc in
theorem in_iff {task : Nat} (ht : task < M.units.length) (k : Nat) : (in7 M task M.units.length).getD k false = true ↔ Rch M task k := by
  have sound : ∀ n, ∀ k, (in7 M task n).getD k false = true → Rch M task k := by
    intro n
    induction n with
    | zero =>
      intro k hk
      have hk' : ((List.replicate M.units.length false).set task true).getD k false = true := hk
      rw [getD_setT (by simpa using ht)] at hk'
      by_cases e : task = k
      · subst e; exact .base
      · rw [if_neg e, List.getD_eq_getElem?_getD, List.getElem?_replicate] at hk'
        split at hk' <;> simp at hk'
    | succ n ih => exact pass_rch ih
  constructor
  · exact sound _ k
  · intro h
    induction h with
    | base =>
      have mono : ∀ n, Sub7 (in7 M task 0) (in7 M task n) := by
        intro n
        induction n with
        | zero => exact Sub7.refl _
        | succ n ih => exact ih.trans (pass_sub M _)
      refine (mono _).2 task ?_
      show ((List.replicate M.units.length false).set task true).getD task false = true
      rw [getD_setT (by simpa using ht), if_pos rfl]
    | @step k i hk hi hop ih =>
      have hkl : k < M.units.length := by
        refine Nat.lt_of_not_le fun hle => ?_
        rw [List.getD_eq_getElem?_getD, List.getElem?_eq_none (by rw [in_len]; exact hle)] at ih
        simp at ih
      have ha := hc k hkl i hi hop
      rw [← in_fix ht]
      exact pass_hit hi hop _ _ (List.mem_range.2 hkl) ih (by rw [in_len]; omega)
/-- does a task come to code of such an instruction? -/
def comes7 (M : Mdl) (task : Nat) (op a : Int) : Bool := (List.range M.units.length).any fun k => (M.units.getD k default).code.any fun i => (in7 M task M.units.length).getD k false && (decide (i.op = op) && decide (i.a = a))
include hc in
theorem comes_uses {task : Nat} (ht : task < M.units.length) (op a : Int) : comes7 M task op a = uses M op a task := by
  rw [Bool.eq_iff_iff]
  unfold comes7 uses
  rw [List.any_eq_true, List.any_eq_true]
  constructor
  · rintro ⟨k, hk, h⟩
    rw [List.any_eq_true] at h
    obtain ⟨i, hi, h2⟩ := h
    rw [Bool.and_eq_true] at h2
    refine ⟨(k : Int), (mem_reach hc ht k).2 ((in_iff hc ht k).1 h2.1), ?_⟩
    rw [List.any_eq_true]
    exact ⟨i, hi, h2.2⟩
  · rintro ⟨x, hx, h⟩
    have ho : Once M.units.length (reach M task) := reachRun_once hc (M.units.length + 1) 0 [(task : Int)] (Once.one ht)
    have hr := ho.ok x hx
    obtain ⟨k, rfl⟩ := Int.eq_ofNat_of_zero_le hr.1
    refine ⟨k, List.mem_range.2 (by omega), ?_⟩
    rw [List.any_eq_true] at h ⊢
    obtain ⟨i, hi, h2⟩ := h
    refine ⟨i, hi, ?_⟩
    rw [Bool.and_eq_true]
    exact ⟨(in_iff hc ht k).2 ((mem_reach hc ht k).1 hx), h2⟩
end
end Go.Proofs.Ytfeajpghabjaaaa.Rf7
