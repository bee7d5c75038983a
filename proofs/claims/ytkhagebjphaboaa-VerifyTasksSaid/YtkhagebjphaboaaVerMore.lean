/- What is not come to changes nothing; tasks may be left out. Plain Lean. -/
import Derived.Test.YtkhagebjphaboaaVerCert
namespace Go.Proofs.Ytkhagebjphaboaa.Ver
set_option linter.unusedVariables false
set_option linter.unusedSimpArgs false
open ImgM

theorem boxes_eq : ∀ (l : List (Int × Int)) (i : Nat), (boxes i l).err = 0 → boxes i l = .ok
  | [], _, _ => rfl
  | b :: r, i, h => by
    by_cases h1 : plain b.1 = false
    · rw [boxes_1 h1] at h; simp at h
    have h1' : plain b.1 = true := by simpa using h1
    by_cases h2 : b.2 < 1 ∨ 20 < b.2
    · rw [boxes_2 h1' h2] at h; simp at h
    · rw [boxes_3 h1' h2] at h ⊢; exact boxes_eq r _ h
theorem form_eq {M : Mdl} (h : (form M).err = 0) : form M = .ok := by
  have hf := form_ok.1 h
  have h1 : ¬(30 < M.boxes.length ∨ 30 < M.units.length) := by have := hf.nboxes; have := hf.nunits; omega
  refine form_5 h1 ((boxes_ok _ _).2 hf.boxes) ((units_ok _ _).2 hf.units) (fun ht => ?_)
  obtain ⟨u, h1, h2⟩ := hf.task
  have : u ∈ M.units.filter (fun u => decide (u.kind = 4)) := List.mem_filter.2 ⟨h1, by simpa using h2⟩
  rw [List.eq_nil_of_length_eq_zero ht] at this
  cases this
theorem run_eq {M : Mdl} {u : Unt} {k : Nat} : ∀ (n : Nat) (f : Flow), (run M u k n f).err = 0 → run M u k n f = .ok
  | 0, _, _ => rfl
  | n + 1, f, h => by
    unfold run at h ⊢
    cases ht : f.todo with
    | nil => rfl
    | cons p r =>
      rw [ht] at h
      simp only at h ⊢
      by_cases hr : (round M u p r f).err ≠ 0
      · rw [if_pos hr] at h; exact absurd h hr
      · rw [if_neg hr] at h ⊢; exact run_eq n _ h
theorem codes_eq {M : Mdl} : ∀ (n k : Nat), (codes M k n).err = 0 → codes M k n = .ok
  | 0, _, _ => by unfold codes; rfl
  | n + 1, k, h => by
    by_cases hc : (code M k).err = 0
    · rw [codes_2 hc] at h ⊢; exact codes_eq n _ h
    · rw [codes_1 hc] at h; exact absurd h hc
theorem owned_ok {M : Mdl} : ∀ (n b : Nat), (owned M b n).err = 0 ↔ ∀ j, b ≤ j → j < b + n → ¬(1 < users M 26 j ∨ 1 < users M 27 j)
  | 0, b => by
    unfold owned
    exact ⟨fun _ j h1 h2 => by omega, fun _ => rfl⟩
  | n + 1, b => by
    by_cases h : 1 < users M 26 b ∨ 1 < users M 27 b
    · rw [owned_1 h]
      exact ⟨fun h' => by simp at h', fun h' => absurd h (h' b (Nat.le_refl _) (by omega))⟩
    · rw [owned_2 h, owned_ok n (b + 1)]
      constructor
      · intro h' j h1 h2
        by_cases hj : j = b
        · subst hj; exact h
        · exact h' j (by omega) (by omega)
      · intro h' j h1 h2; exact h' j (by omega) (by omega)
theorem owned_eq {M : Mdl} : ∀ (n b : Nat), (owned M b n).err = 0 → owned M b n = .ok
  | 0, _, _ => by unfold owned; rfl
  | n + 1, b, h => by
    by_cases hu : 1 < users M 26 b ∨ 1 < users M 27 b
    · rw [owned_1 hu] at h; simp at h
    · rw [owned_2 hu] at h ⊢; exact owned_eq n _ h
/-- a right module -/
structure Right (M : Mdl) : Prop where
  form : FormOk M
  code : ∀ k, k < M.units.length → (code M k).err = 0
  owned : ∀ b, b < M.boxes.length → users M 26 b ≤ 1 ∧ users M 27 b ≤ 1
theorem verify_ok {M : Mdl} : (verify M).err = 0 ↔ Right M := by
  by_cases h : (form M).err = 0
  · by_cases h2 : (codes M 0 M.units.length).err = 0
    · rw [verify_3 h h2, owned_ok]
      constructor
      · intro h3
        refine ⟨form_ok.1 h, fun k hk => (codes_ok _ _).1 h2 k (Nat.zero_le _) (by omega), fun b hb => ?_⟩
        have := h3 b (Nat.zero_le _) (by omega)
        omega
      · rintro ⟨-, -, h3⟩ j - hj
        have := h3 j (by omega)
        omega
    · rw [verify_2 h h2]
      exact ⟨fun h' => absurd h' h2, fun h' => absurd ((codes_ok _ _).2 (fun j _ hj => h'.code j (by omega))) h2⟩
  · rw [verify_1 h]
    exact ⟨fun h' => absurd h' h, fun h' => absurd (form_ok.2 h'.form) h⟩
theorem verify_eq {M : Mdl} (h : (verify M).err = 0) : verify M = .ok := by
  by_cases h1 : (form M).err = 0
  · by_cases h2 : (codes M 0 M.units.length).err = 0
    · rw [verify_3 h1 h2] at h ⊢; exact owned_eq _ _ h
    · rw [verify_2 h1 h2] at h; exact absurd h h2
  · rw [verify_1 h1] at h; exact absurd h h1
theorem verify_iff {M : Mdl} : verify M = .ok ↔ Right M := ⟨fun h => verify_ok.1 (by rw [h]; rfl), fun h => verify_eq (verify_ok.2 h)⟩

abbrev uAt (M : Mdl) (k : Int) : Unt := M.units.getD k.toNat default
/-- what is called, or started, is there still -/
structure AlikeM (M M' : Mdl) : Prop where
  nun : M.units.length ≤ M'.units.length
  nbx : M.boxes.length ≤ M'.boxes.length
  units : ∀ k : Int, 0 ≤ k → k < (M.units.length : Int) → (uAt M k).kind = 2 ∨ (uAt M k).kind = 3 → (uAt M' k).kind = (uAt M k).kind ∧ (uAt M' k).locals = (uAt M k).locals ∧ (uAt M' k).params = (uAt M k).params ∧ (uAt M' k).result = (uAt M k).result ∧ (uAt M' k).takes = (uAt M k).takes
  boxes : ∀ k, k < M.boxes.length → M'.boxes.getD k default = M.boxes.getD k default
structure AlikeU (u u' : Unt) : Prop where
  kind : u'.kind = u.kind
  params : u'.params = u.params
  locals : u'.locals = u.locals
  result : u'.result = u.result
  takes : u'.takes = u.takes
  len : u.code.length ≤ u'.code.length
  ins : ∀ p : Int, 0 ≤ p → p < (u.code.length : Int) → ins u' p = ins u p
section
variable {M M' : Mdl} (hM : AlikeM M M') {u u' : Unt} (hU : AlikeU u u')
include hM
theorem unit_alike {i kind : Int} (hk : kind = 2 ∨ kind = 3) (h : isUnit M i kind = true) : isUnit M' i kind = true ∧ (uAt M' i).locals = (uAt M i).locals ∧ (uAt M' i).params = (uAt M i).params ∧ (uAt M' i).result = (uAt M i).result ∧ (uAt M' i).takes = (uAt M i).takes := by
  obtain ⟨h1, h2, h3⟩ := unit_eq h
  obtain ⟨k1, k2⟩ := hM.units i h1 h2 (by rw [← h3] at hk; exact hk)
  refine ⟨?_, k2⟩
  have := hM.nun
  simp only [isUnit, Bool.and_eq_true, decide_eq_true_eq]
  exact ⟨⟨h1, by omega⟩, k1.trans h3⟩
theorem handle_alike {t : Int} (h : handle M t = true) : handle M' t = true := by
  unfold handle at h ⊢
  rw [Bool.and_eq_true] at h ⊢
  exact ⟨h.1, (unit_alike hM (.inr rfl) h.2).1⟩
theorem args_alike {i kind : Int} (hk : kind = 2 ∨ kind = 3) (h : isUnit M i kind = true) (f : Flow) : args M' i f = args M i f := by
  obtain ⟨-, h1, h2, -⟩ := unit_alike hM hk h
  unfold args
  show want ((uAt M' i).locals.take (uAt M' i).params.toNat) f = want ((uAt M i).locals.take (uAt M i).params.toNat) f
  rw [h1, h2]
theorem gen_alike {f : Flow} (he : (gen M f).2.err = 0) : gen M' f = gen M f ∧ ∀ k, (gen M f).1 = some k → isUnit M k 3 = true := by
  unfold gen at he ⊢
  by_cases h1 : (pop f).2.err ≠ 0
  · rw [if_pos h1] at he; exact absurd he h1
  rw [if_neg h1] at he ⊢
  rw [if_neg h1]
  by_cases h2 : handle M (pop f).1 = false
  · rw [if_pos h2] at he; exact absurd he (fail_err 9 (by decide) _)
  have h3 : handle M (pop f).1 = true := by simpa using h2
  rw [if_neg h2, if_neg (by rw [handle_alike hM h3]; decide)]
  refine ⟨rfl, fun k hk => ?_⟩
  simp only [Option.some.injEq] at hk
  rw [← hk]
  unfold handle at h3
  rw [Bool.and_eq_true] at h3
  exact h3.2
end
theorem fail_err0 {e : Int} {f : Flow} (h : (fail e f).err = 0) : f.err = 0 := by
  by_cases h1 : f.err = 0
  · exact h1
  · rw [(fail_kept e f).err h1] at h; exact h
theorem push_err0 {t : Int} {f : Flow} (h : (push t f).err = 0) : f.err = 0 := by
  unfold push at h
  split at h
  · exact fail_err0 (f := { f with stack := f.stack ++ [t] }) h
  · exact h
theorem step_special {M : Mdl} {u : Unt} {i : Ins} {f : Flow} (h : 23 ≤ i.op) : step M u i f = special M u i f := by
  unfold step
  rw [if_neg (by omega), if_neg (by omega), if_neg (by omega), if_neg (by omega), if_neg (by omega), if_neg (by omega), if_neg (by omega), if_neg (by omega), if_neg (by omega), if_neg (by omega), if_neg (by omega), if_neg (by omega), if_neg (by omega)]
theorem ite_c {α : Type} {c : Prop} [Decidable c] {x a b : α} (h : ¬c → a = b) : (if c then x else a) = (if c then x else b) := by
  split
  · rfl
  · exact h ‹_›
section
variable {M M' : Mdl} (hM : AlikeM M M') {u u' : Unt} (hU : AlikeU u u')
include hM hU
theorem special_alike {i : Ins} (hi : InsOk M u i) {f : Flow} (he : (special M u i f).2.err = 0) : special M' u' i f = special M u i f := by
  unfold special at he ⊢
  rw [hU.kind, hU.result, hU.takes]
  by_cases h1 : i.op = 23
  · rw [if_pos h1, if_pos h1, args_alike hM (.inl rfl) (hi.call h1)]
    have := (unit_alike hM (.inl rfl) (hi.call h1)).2.2.2.1
    rw [show (M'.units.getD i.a.toNat default).result = (M.units.getD i.a.toNat default).result from this]
  rw [if_neg h1] at he; rw [if_neg h1, if_neg h1]
  by_cases h2 : i.op = 29
  · rw [if_pos h2, if_pos h2, args_alike hM (.inr rfl) (hi.start h2)]
  rw [if_neg h2] at he; rw [if_neg h2, if_neg h2]
  by_cases h3 : i.op = 24
  · rw [if_pos h3, if_pos h3]
  rw [if_neg h3] at he; rw [if_neg h3, if_neg h3]
  by_cases h4 : i.op = 25
  · rw [if_pos h4, if_pos h4]
  rw [if_neg h4] at he; rw [if_neg h4, if_neg h4]
  by_cases h5 : i.op = 26
  · have := hi.box (.inl h5)
    rw [if_pos h5, if_pos h5, hM.boxes _ (by omega)]
  rw [if_neg h5] at he; rw [if_neg h5, if_neg h5]
  by_cases h6 : i.op = 27
  · have := hi.box (.inr h6)
    rw [if_pos h6, if_pos h6, hM.boxes _ (by omega)]
  rw [if_neg h6] at he; rw [if_neg h6, if_neg h6]
  by_cases h7 : i.op = 28
  · rw [if_pos h7, if_pos h7]
  rw [if_neg h7] at he; rw [if_neg h7, if_neg h7]
  by_cases h8 : i.op = 30
  · rw [if_pos h8] at he; rw [if_pos h8, if_pos h8]
    have hge : (gen M (pop f).2).2.err = 0 := by
      generalize gen M (pop f).2 = G at *
      obtain ⟨o, g⟩ := G
      cases o with
      | none => exact he
      | some k =>
        have := push_err0 he
        split at this
        · exact fail_err0 this
        · exact this
    obtain ⟨e1, e2⟩ := gen_alike hM hge
    rw [e1]
    generalize gen M (pop f).2 = G at *
    obtain ⟨o, g⟩ := G
    cases o with
    | none => rfl
    | some k =>
      obtain ⟨-, -, -, k1, k2⟩ := unit_alike hM (.inr rfl) (e2 k rfl)
      simp only
      rw [show (M'.units.getD k.toNat default).result = (M.units.getD k.toNat default).result from k1, show (M'.units.getD k.toNat default).takes = (M.units.getD k.toNat default).takes from k2]
  rw [if_neg h8] at he; rw [if_neg h8, if_neg h8]
  by_cases h9 : i.op = 31
  · rw [if_pos h9, if_pos h9]
  rw [if_neg h9] at he; rw [if_neg h9, if_neg h9]
  by_cases h10 : i.op = 32
  · rw [if_pos h10] at he; rw [if_pos h10, if_pos h10, (gen_alike hM (push_err0 he)).1]
  rw [if_neg h10, if_neg h10]
theorem step_alike {i : Ins} (hi : InsOk M u i) (h21 : i.op ≠ 21) (h22 : i.op ≠ 22) {f : Flow} (he : (step M u i f).2.err = 0) : step M' u' i f = step M u i f := by
  by_cases h : 23 ≤ i.op
  · rw [step_special h] at he ⊢
    rw [step_special h]
    exact special_alike hM hU hi he
  · have := hi.op
    unfold step
    rw [hU.locals]
    refine ite_c fun _ => ite_c fun _ => ite_c fun _ => ite_c fun _ => ite_c fun _ => ite_c fun _ => ite_c fun _ => ite_c fun _ => ite_c fun _ => ite_c fun _ => ite_c fun _ => ?_
    exfalso; omega
theorem sem_alike {i : Ins} (hi : InsOk M u i) {s : Shape} (he : (sem M u i s).err = 0) : sem M' u' i s = sem M u i s := by
  unfold sem core at *
  by_cases h21 : i.op = 21
  · rw [if_pos h21, if_pos h21]
  rw [if_neg h21] at he; rw [if_neg h21, if_neg h21]
  by_cases h22 : i.op = 22
  · rw [if_pos h22, if_pos h22]
  rw [if_neg h22] at he; rw [if_neg h22, if_neg h22]
  rw [step_alike hM hU hi h21 h22 he]
theorem Cert.alike (hg : ∀ i ∈ u.code, instr M u i = 0) {τ : Int → Option Shape} (hc : Cert M u τ) : Cert M' u' τ := by
  have hl := hU.len
  refine ⟨?_, fun p s hp => ?_, fun p s hp => ?_⟩
  · have := hc.start
    unfold has0 at this ⊢
    rw [hU.params, hU.locals]
    exact this
  · have := hc.rng p s hp
    omega
  · obtain ⟨r1, r2⟩ := hc.rng p s hp
    have hf := hc.fits p s hp
    have hi : InsOk M u (ins u p) := by
      refine instr_ok (hg _ ?_)
      unfold ins
      rw [List.getD_eq_getElem?_getD, List.getElem?_eq_getElem (by omega)]
      exact List.getElem_mem _
    have hs := sem_alike hM hU hi hf.ok
    refine ⟨?_, fun q hq => ?_⟩
    · rw [hU.ins p r1 r2, hs]; exact hf.ok
    · rw [hU.ins p r1 r2] at hq ⊢
      rw [hs]
      exact hf.next q hq
theorem instr_alike {i : Ins} (h : instr M u i = 0) : instr M' u' i = 0 := by
  have hl := hU.len
  have hb := hM.nbx
  have ho := instr_ok h
  unfold instr at h ⊢
  rw [hU.locals]
  by_cases h1 : i.op = 2
  · rw [if_pos h1] at h ⊢; exact h
  rw [if_neg h1] at h ⊢
  by_cases h2 : i.op = 3 ∨ i.op = 4
  · rw [if_pos h2] at h ⊢; exact h
  rw [if_neg h2] at h ⊢
  by_cases h3 : i.op = 21 ∨ i.op = 22
  · rw [if_pos h3]
    have := ho.jump h3
    simp only [rng, Bool.and_eq_true, decide_eq_true_eq]
    rw [if_pos ⟨this.1, by omega⟩]
  rw [if_neg h3] at h ⊢
  by_cases h4 : i.op = 23
  · rw [if_pos h4, (unit_alike hM (.inl rfl) (ho.call h4)).1]; rfl
  rw [if_neg h4] at h ⊢
  by_cases h5 : i.op = 29
  · rw [if_pos h5, (unit_alike hM (.inr rfl) (ho.start h5)).1]; rfl
  rw [if_neg h5] at h ⊢
  by_cases h6 : i.op = 26 ∨ i.op = 27
  · rw [if_pos h6]
    have := ho.box h6
    simp only [rng, Bool.and_eq_true, decide_eq_true_eq]
    rw [if_pos ⟨this.1, by omega⟩]
  rw [if_neg h6] at h ⊢
  exact h
theorem head_alike (h : head M u = 0) (hn : u'.code.length ≤ 4000) : head M' u' = 0 := by
  have hl := hU.len
  unfold head at h ⊢
  rw [hU.kind, hU.params, hU.locals, hU.result, hU.takes]
  by_cases h1 : u.kind ≠ 2 ∧ u.kind ≠ 3 ∧ u.kind ≠ 4
  · rw [if_pos h1] at h; cases h
  rw [if_neg h1] at h ⊢
  by_cases h2 : 200 < u.locals.length ∨ u.params < 0 ∨ 6 < u.params ∨ (u.locals.length : Int) < u.params ∨ (u.kind = 4 ∧ 0 < u.params)
  · rw [if_pos h2] at h; cases h
  rw [if_neg h2] at h ⊢
  by_cases h3 : u.code.length < 1 ∨ 4000 < u.code.length
  · rw [if_pos h3] at h; cases h
  rw [if_neg h3] at h
  rw [if_neg (by omega)]
  by_cases h4 : (u.kind ≠ 4 ∧ plain u.result = false) ∨ (u.kind = 3 ∧ plain u.takes = false)
  · rw [if_pos h4] at h; cases h
  rw [if_neg h4] at h ⊢
  by_cases h5 : u.locals.any (fun t => !plain t && !handle M t) = true
  · rw [if_pos h5] at h; cases h
  rw [if_neg]
  intro hn
  refine h5 ?_
  rw [List.any_eq_true] at hn ⊢
  obtain ⟨t, t1, t2⟩ := hn
  refine ⟨t, t1, ?_⟩
  rw [Bool.and_eq_true] at t2 ⊢
  refine ⟨t2.1, ?_⟩
  cases hh : handle M t with
  | false => rfl
  | true => rw [handle_alike hM hh] at t2; exact absurd t2.2 (by decide)
end
end Go.Proofs.Ytkhagebjphaboaa.Ver
