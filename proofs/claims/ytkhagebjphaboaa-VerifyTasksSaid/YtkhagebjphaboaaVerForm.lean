/- What a right form says. Plain Lean. -/
import Derived.Test.YtkhagebjphaboaaVerReach
namespace Go.Proofs.Ytkhagebjphaboaa.Ver
set_option linter.unusedVariables false
set_option linter.unusedSimpArgs false
open ImgM

theorem boxes_ok : ∀ (l : List (Int × Int)) (i : Nat), (boxes i l).err = 0 ↔ ∀ b ∈ l, plain b.1 = true ∧ 1 ≤ b.2 ∧ b.2 ≤ 20
  | [], i => by simp [boxes, Where.ok]
  | b :: r, i => by
    by_cases h1 : plain b.1 = false
    · rw [boxes_1 h1]
      simp [h1]
    · have h1' : plain b.1 = true := by simpa using h1
      by_cases h2 : b.2 < 1 ∨ 20 < b.2
      · rw [boxes_2 h1' h2]
        simp only [List.forall_mem_cons]
        constructor
        · intro h; simp at h
        · rintro ⟨⟨-, h3, h4⟩, -⟩; omega
      · rw [boxes_3 h1' h2, boxes_ok r (i + 1)]
        simp only [List.forall_mem_cons, h1', true_and]
        constructor
        · intro h; exact ⟨by omega, h⟩
        · rintro ⟨-, h⟩; exact h
theorem instrs_ok {M : Mdl} {u : Unt} {k : Nat} : ∀ (l : List Ins) (j : Nat), (instrs M u k j l).err = 0 ↔ ∀ i ∈ l, instr M u i = 0
  | [], j => by simp [instrs, Where.ok]
  | i :: r, j => by
    by_cases h : instr M u i = 0
    · rw [instrs_2 h, instrs_ok r (j + 1)]
      simp [h]
    · rw [instrs_1 h]
      simp [h]
theorem unit_ok {M : Mdl} {k : Nat} {u : Unt} : (unit M k u).err = 0 ↔ head M u = 0 ∧ ∀ i ∈ u.code, instr M u i = 0 := by
  by_cases h : head M u = 0
  · rw [unit_2 h, instrs_ok]; simp [h]
  · rw [unit_1 h]; simp [h]
theorem units_ok {M : Mdl} : ∀ (l : List Unt) (k : Nat), (units M k l).err = 0 ↔ ∀ u ∈ l, head M u = 0 ∧ ∀ i ∈ u.code, instr M u i = 0
  | [], k => by simp [units, Where.ok]
  | u :: r, k => by
    by_cases h : (unit M k u).err = 0
    · rw [units_2 h, units_ok r (k + 1)]
      have := unit_ok.1 h
      simp only [List.forall_mem_cons]
      exact ⟨fun h => ⟨this, h⟩, fun h => h.2⟩
    · rw [units_1 h]
      simp only [List.forall_mem_cons]
      exact ⟨fun h' => absurd h' h, fun h' => absurd (unit_ok.2 h'.1) h⟩
/-- a right form -/
structure FormOk (M : Mdl) : Prop where
  nboxes : M.boxes.length ≤ 30
  nunits : M.units.length ≤ 30
  boxes : ∀ b ∈ M.boxes, plain b.1 = true ∧ 1 ≤ b.2 ∧ b.2 ≤ 20
  units : ∀ u ∈ M.units, head M u = 0 ∧ ∀ i ∈ u.code, instr M u i = 0
  task : ∃ u ∈ M.units, u.kind = 4
theorem form_ok {M : Mdl} : (form M).err = 0 ↔ FormOk M := by
  by_cases h : 30 < M.boxes.length ∨ 30 < M.units.length
  · rw [form_1 h]
    constructor
    · intro h; simp at h
    · intro h'; have := h'.nboxes; have := h'.nunits; omega
  by_cases hb : ¬ (Ver.boxes 0 M.boxes).err = 0
  · rw [form_2 h rfl hb]
    exact ⟨fun h' => absurd h' hb, fun h' => absurd ((boxes_ok _ _).2 h'.boxes) hb⟩
  have hb : (Ver.boxes 0 M.boxes).err = 0 := Decidable.not_not.1 hb
  by_cases hu : ¬ (Ver.units M 0 M.units).err = 0
  · rw [form_3 h hb rfl hu]
    exact ⟨fun h' => absurd h' hu, fun h' => absurd ((units_ok _ _).2 h'.units) hu⟩
  have hu : (Ver.units M 0 M.units).err = 0 := Decidable.not_not.1 hu
  by_cases ht : (M.units.filter (fun u => decide (u.kind = 4))).length = 0
  · rw [form_4 h hb hu ht]
    constructor
    · intro h; simp at h
    · rintro ⟨-, -, -, -, u, h1, h2⟩
      have : u ∈ M.units.filter (fun u => decide (u.kind = 4)) := List.mem_filter.2 ⟨h1, by simpa using h2⟩
      rw [List.eq_nil_of_length_eq_zero ht] at this
      cases this
  · rw [form_5 h hb hu ht]
    refine ⟨fun _ => ⟨by omega, by omega, (boxes_ok _ _).1 hb, (units_ok _ _).1 hu, ?_⟩, fun _ => rfl⟩
    cases hf : M.units.filter (fun u => decide (u.kind = 4)) with
    | nil => rw [hf] at ht; exact absurd rfl ht
    | cons u r =>
      have : u ∈ M.units.filter (fun u => decide (u.kind = 4)) := by rw [hf]; exact List.mem_cons_self
      rw [List.mem_filter] at this
      exact ⟨u, this.1, by simpa using this.2⟩
theorem codes_1 {M : Mdl} {k n : Nat} (h : ¬ (code M k).err = 0) : codes M k (n + 1) = code M k := by unfold codes; rw [if_pos h]
theorem codes_2 {M : Mdl} {k n : Nat} (h : (code M k).err = 0) : codes M k (n + 1) = codes M (k + 1) n := by
  conv => lhs; unfold codes
  rw [if_neg (fun h' => h' h)]
theorem codes_ok {M : Mdl} : ∀ (n k : Nat), (codes M k n).err = 0 ↔ ∀ j, k ≤ j → j < k + n → (code M j).err = 0
  | 0, k => by
    unfold codes
    exact ⟨fun _ j h1 h2 => by omega, fun _ => rfl⟩
  | n + 1, k => by
    by_cases h : (code M k).err = 0
    · rw [codes_2 h, codes_ok n (k + 1)]
      constructor
      · intro h' j h1 h2
        by_cases hj : j = k
        · subst hj; exact h
        · exact h' j (by omega) (by omega)
      · intro h' j h1 h2; exact h' j (by omega) (by omega)
    · rw [codes_1 h]
      exact ⟨fun h' => absurd h' h, fun h' => absurd (h' k (Nat.le_refl _) (by omega)) h⟩
theorem verify_1 {M : Mdl} (h : ¬ (form M).err = 0) : verify M = form M := by unfold verify; rw [if_pos h]
theorem verify_2 {M : Mdl} (h : (form M).err = 0) (h2 : ¬ (codes M 0 M.units.length).err = 0) : verify M = codes M 0 M.units.length := by
  unfold verify; rw [if_neg (fun h' => h' h), if_pos h2]
theorem verify_3 {M : Mdl} (h : (form M).err = 0) (h2 : (codes M 0 M.units.length).err = 0) : verify M = owned M 0 M.boxes.length := by
  unfold verify; rw [if_neg (fun h' => h' h), if_neg (fun h' => h' h2)]
end Go.Proofs.Ytkhagebjphaboaa.Ver
