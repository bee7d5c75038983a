/- What is not come to changes nothing; tasks may be left out. Plain Lean. -/
import Derived.Test.YtfeajpghabjaaaaM02
import Derived.WalkKit
import Derived.WalkSpells
import Derived.WalkLawsBesides
import Derived.Deep.Draws
import Derived.Deep.OwnRows
import Derived.StillTailTactics
import Derived.Deep.AppendLies
import Derived.Deep.RegionHeld3
import Derived.Deep.QuietTactic
import Derived.BigQuiet
import Derived.BigRegion
import Derived.Lib.Hide
namespace Go.Proofs.Ytfeajpghabjaaaa.Ver
set_option linter.unusedVariables false
set_option linter.unusedSimpArgs false
open ImgM

theorem owned_ok {M : Mdl} : ∀ (n b : Nat), (owned M b n).err = 0 ↔ ∀ j, b ≤ j → j < b + n → ¬(1 < users M 26 j ∨ 1 < users M 27 j)
  | 0, b => by
    unfold owned
    exact ⟨fun _ j h1 h2 => by omega, fun _ => rfl⟩
  | n + 1, b => by
    by_cases h : 1 < users M 26 b ∨ 1 < users M 27 b
    · rw [owned_1 h]
      exact ⟨fun h' => by simp at h', fun h' => absurd h (h' b (Nat.le_refl _) (by omega))⟩
    · rw [owned_2 h, owned_ok n (b + 1)]
      constructor
      · intro h' j h1 h2
        by_cases hj : j = b
        · subst hj; exact h
        · exact h' j (by omega) (by omega)
      · intro h' j h1 h2; exact h' j (by omega) (by omega)
theorem owned_eq {M : Mdl} : ∀ (n b : Nat), (owned M b n).err = 0 → owned M b n = .ok
  | 0, _, _ => by unfold owned; rfl
  | n + 1, b, h => by
    by_cases hu : 1 < users M 26 b ∨ 1 < users M 27 b
    · rw [owned_1 hu] at h; simp at h
    · rw [owned_2 hu] at h ⊢; exact owned_eq n _ h
/-- a right module -/
structure Right (M : Mdl) : Prop where
  form : FormOk M
  code : ∀ k, k < M.units.length → (code M k).err = 0
  owned : ∀ b, b < M.boxes.length → users M 26 b ≤ 1 ∧ users M 27 b ≤ 1
theorem verify_ok {M : Mdl} : (verify M).err = 0 ↔ Right M := by
  by_cases h : (form M).err = 0
  · by_cases h2 : (codes M 0 M.units.length).err = 0
    · rw [verify_3 h h2, owned_ok]
      constructor
      · intro h3
        refine ⟨form_ok.1 h, fun k hk => (codes_ok _ _).1 h2 k (Nat.zero_le _) (by omega), fun b hb => ?_⟩
        have := h3 b (Nat.zero_le _) (by omega)
        omega
      · rintro ⟨-, -, h3⟩ j - hj
        have := h3 j (by omega)
        omega
    · rw [verify_2 h h2]
      exact ⟨fun h' => absurd h' h2, fun h' => absurd ((codes_ok _ _).2 (fun j _ hj => h'.code j (by omega))) h2⟩
  · rw [verify_1 h]
    exact ⟨fun h' => absurd h' h, fun h' => absurd (form_ok.2 h'.form) h⟩
theorem verify_eq {M : Mdl} (h : (verify M).err = 0) : verify M = .ok := by
  by_cases h1 : (form M).err = 0
  · by_cases h2 : (codes M 0 M.units.length).err = 0
    · rw [verify_3 h1 h2] at h ⊢; exact owned_eq _ _ h
    · rw [verify_2 h1 h2] at h; exact absurd h h2
  · rw [verify_1 h1] at h; exact absurd h h1
theorem verify_iff {M : Mdl} : verify M = .ok ↔ Right M := ⟨fun h => verify_ok.1 (by rw [h]; rfl), fun h => verify_eq (verify_ok.2 h)⟩

abbrev uAt (M : Mdl) (k : Int) : Unt := M.units.getD k.toNat default
/-- what is called, or started, is there still -/
structure AlikeM (M M' : Mdl) : Prop where
  nun : M.units.length ≤ M'.units.length
  nbx : M.boxes.length ≤ M'.boxes.length
  units : ∀ k : Int, 0 ≤ k → k < (M.units.length : Int) → (uAt M k).kind = 2 ∨ (uAt M k).kind = 3 → (uAt M' k).kind = (uAt M k).kind ∧ (uAt M' k).locals = (uAt M k).locals ∧ (uAt M' k).params = (uAt M k).params ∧ (uAt M' k).result = (uAt M k).result ∧ (uAt M' k).takes = (uAt M k).takes
  boxes : ∀ k, k < M.boxes.length → M'.boxes.getD k default = M.boxes.getD k default
structure AlikeU (u u' : Unt) : Prop where
  kind : u'.kind = u.kind
  params : u'.params = u.params
  locals : u'.locals = u.locals
  result : u'.result = u.result
  takes : u'.takes = u.takes
  len : u.code.length ≤ u'.code.length
  ins : ∀ p : Int, 0 ≤ p → p < (u.code.length : Int) → ins u' p = ins u p
section
variable {M M' : Mdl} (hM : AlikeM M M') {u u' : Unt} (hU : AlikeU u u')
include hM
theorem unit_alike {i kind : Int} (hk : kind = 2 ∨ kind = 3) (h : isUnit M i kind = true) : isUnit M' i kind = true ∧ (uAt M' i).locals = (uAt M i).locals ∧ (uAt M' i).params = (uAt M i).params ∧ (uAt M' i).result = (uAt M i).result ∧ (uAt M' i).takes = (uAt M i).takes := by
  obtain ⟨h1, h2, h3⟩ := unit_eq h
  obtain ⟨k1, k2⟩ := hM.units i h1 h2 (by rw [← h3] at hk; exact hk)
  refine ⟨?_, k2⟩
  have := hM.nun
  simp only [isUnit, Bool.and_eq_true, decide_eq_true_eq]
  exact ⟨⟨h1, by omega⟩, k1.trans h3⟩
theorem handle_alike {t : Int} (h : handle M t = true) : handle M' t = true := by
  unfold handle at h ⊢
  rw [Bool.and_eq_true] at h ⊢
  exact ⟨h.1, (unit_alike hM (.inr rfl) h.2).1⟩
theorem args_alike {i kind : Int} (hk : kind = 2 ∨ kind = 3) (h : isUnit M i kind = true) (f : Flow) : args M' i f = args M i f := by
  obtain ⟨-, h1, h2, -⟩ := unit_alike hM hk h
  unfold args
  show want ((uAt M' i).locals.take (uAt M' i).params.toNat) f = want ((uAt M i).locals.take (uAt M i).params.toNat) f
  rw [h1, h2]
theorem gen_alike {f : Flow} (he : (gen M f).2.err = 0) : gen M' f = gen M f ∧ ∀ k, (gen M f).1 = some k → isUnit M k 3 = true := by
  unfold gen at he ⊢
  by_cases h1 : (pop f).2.err ≠ 0
  · rw [if_pos h1] at he; exact absurd he h1
  rw [if_neg h1] at he ⊢
  rw [if_neg h1]
  by_cases h2 : handle M (pop f).1 = false
  · rw [if_pos h2] at he; exact absurd he (fail_err 9 (by decide) _)
  have h3 : handle M (pop f).1 = true := by simpa using h2
  rw [if_neg h2, if_neg (by rw [handle_alike hM h3]; decide)]
  refine ⟨rfl, fun k hk => ?_⟩
  simp only [Option.some.injEq] at hk
  rw [← hk]
  unfold handle at h3
  rw [Bool.and_eq_true] at h3
  exact h3.2
end
theorem fail_err0 {e : Int} {f : Flow} (h : (fail e f).err = 0) : f.err = 0 := by
  by_cases h1 : f.err = 0
  · exact h1
  · rw [(fail_kept e f).err h1] at h; exact h
theorem push_err0 {t : Int} {f : Flow} (h : (push t f).err = 0) : f.err = 0 := by
  unfold push at h
  split at h
  · exact fail_err0 (f := { f with stack := f.stack ++ [t] }) h
  · exact h
theorem step_special {M : Mdl} {u : Unt} {i : Ins} {f : Flow} (h : 23 ≤ i.op) : step M u i f = special M u i f := by
  unfold step
  rw [if_neg (by omega), if_neg (by omega), if_neg (by omega), if_neg (by omega), if_neg (by omega), if_neg (by omega), if_neg (by omega), if_neg (by omega), if_neg (by omega), if_neg (by omega), if_neg (by omega), if_neg (by omega), if_neg (by omega)]
theorem ite_c {α : Type} {c : Prop} [Decidable c] {x a b : α} (h : ¬c → a = b) : (if c then x else a) = (if c then x else b) := by
  split
  · rfl
  · exact h ‹_›
section
variable {M M' : Mdl} (hM : AlikeM M M') {u u' : Unt} (hU : AlikeU u u')
include hM hU
theorem special_alike {i : Ins} (hi : InsOk M u i) {f : Flow} (he : (special M u i f).2.err = 0) : special M' u' i f = special M u i f := by
  unfold special at he ⊢
  rw [hU.kind, hU.result, hU.takes]
  by_cases h1 : i.op = 23
  · rw [if_pos h1, if_pos h1, args_alike hM (.inl rfl) (hi.call h1)]
    have := (unit_alike hM (.inl rfl) (hi.call h1)).2.2.2.1
    rw [show (M'.units.getD i.a.toNat default).result = (M.units.getD i.a.toNat default).result from this]
  rw [if_neg h1] at he; rw [if_neg h1, if_neg h1]
  by_cases h2 : i.op = 29
  · rw [if_pos h2, if_pos h2, args_alike hM (.inr rfl) (hi.start h2)]
  rw [if_neg h2] at he; rw [if_neg h2, if_neg h2]
  by_cases h3 : i.op = 24
  · rw [if_pos h3, if_pos h3]
  rw [if_neg h3] at he; rw [if_neg h3, if_neg h3]
  by_cases h4 : i.op = 25
  · rw [if_pos h4, if_pos h4]
  rw [if_neg h4] at he; rw [if_neg h4, if_neg h4]
  by_cases h5 : i.op = 26
  · have := hi.box (.inl h5)
    rw [if_pos h5, if_pos h5, hM.boxes _ (by omega)]
  rw [if_neg h5] at he; rw [if_neg h5, if_neg h5]
  by_cases h6 : i.op = 27
  · have := hi.box (.inr h6)
    rw [if_pos h6, if_pos h6, hM.boxes _ (by omega)]
  rw [if_neg h6] at he; rw [if_neg h6, if_neg h6]
  by_cases h7 : i.op = 28
  · rw [if_pos h7, if_pos h7]
  rw [if_neg h7] at he; rw [if_neg h7, if_neg h7]
  by_cases h8 : i.op = 30
  · rw [if_pos h8] at he; rw [if_pos h8, if_pos h8]
    have hge : (gen M (pop f).2).2.err = 0 := by
      generalize gen M (pop f).2 = G at *
      obtain ⟨o, g⟩ := G
      cases o with
      | none => exact he
      | some k =>
        have := push_err0 he
        split at this
        · exact fail_err0 this
        · exact this
    obtain ⟨e1, e2⟩ := gen_alike hM hge
    rw [e1]
    generalize gen M (pop f).2 = G at *
    obtain ⟨o, g⟩ := G
    cases o with
    | none => rfl
    | some k =>
      obtain ⟨-, -, -, k1, k2⟩ := unit_alike hM (.inr rfl) (e2 k rfl)
      simp only
      rw [show (M'.units.getD k.toNat default).result = (M.units.getD k.toNat default).result from k1, show (M'.units.getD k.toNat default).takes = (M.units.getD k.toNat default).takes from k2]
  rw [if_neg h8] at he; rw [if_neg h8, if_neg h8]
  by_cases h9 : i.op = 31
  · rw [if_pos h9, if_pos h9]
  rw [if_neg h9] at he; rw [if_neg h9, if_neg h9]
  by_cases h10 : i.op = 32
  · rw [if_pos h10] at he; rw [if_pos h10, if_pos h10, (gen_alike hM (push_err0 he)).1]
  rw [if_neg h10, if_neg h10]
theorem step_alike {i : Ins} (hi : InsOk M u i) (h21 : i.op ≠ 21) (h22 : i.op ≠ 22) {f : Flow} (he : (step M u i f).2.err = 0) : step M' u' i f = step M u i f := by
  by_cases h : 23 ≤ i.op
  · rw [step_special h] at he ⊢
    rw [step_special h]
    exact special_alike hM hU hi he
  · have := hi.op
    unfold step
    rw [hU.locals]
    refine ite_c fun _ => ite_c fun _ => ite_c fun _ => ite_c fun _ => ite_c fun _ => ite_c fun _ => ite_c fun _ => ite_c fun _ => ite_c fun _ => ite_c fun _ => ite_c fun _ => ?_
    exfalso; omega
theorem sem_alike {i : Ins} (hi : InsOk M u i) {s : Shape} (he : (sem M u i s).err = 0) : sem M' u' i s = sem M u i s := by
  unfold sem core at *
  by_cases h21 : i.op = 21
  · rw [if_pos h21, if_pos h21]
  rw [if_neg h21] at he; rw [if_neg h21, if_neg h21]
  by_cases h22 : i.op = 22
  · rw [if_pos h22, if_pos h22]
  rw [if_neg h22] at he; rw [if_neg h22, if_neg h22]
  rw [step_alike hM hU hi h21 h22 he]
theorem Cert.alike (hg : ∀ i ∈ u.code, instr M u i = 0) {τ : Int → Option Shape} (hc : Cert M u τ) : Cert M' u' τ := by
  have hl := hU.len
  refine ⟨?_, fun p s hp => ?_, fun p s hp => ?_⟩
  · have := hc.start
    unfold has0 at this ⊢
    rw [hU.params, hU.locals]
    exact this
  · have := hc.rng p s hp
    omega
  · obtain ⟨r1, r2⟩ := hc.rng p s hp
    have hf := hc.fits p s hp
    have hi : InsOk M u (ins u p) := by
      refine instr_ok (hg _ ?_)
      unfold ins
      rw [List.getD_eq_getElem?_getD, List.getElem?_eq_getElem (by omega)]
      exact List.getElem_mem _
    have hs := sem_alike hM hU hi hf.ok
    refine ⟨?_, fun q hq => ?_⟩
    · rw [hU.ins p r1 r2, hs]; exact hf.ok
    · rw [hU.ins p r1 r2] at hq ⊢
      rw [hs]
      exact hf.next q hq
theorem instr_alike {i : Ins} (h : instr M u i = 0) : instr M' u' i = 0 := by
  have hl := hU.len
  have hb := hM.nbx
  have ho := instr_ok h
  unfold instr at h ⊢
  rw [hU.locals]
  by_cases h1 : i.op = 2
  · rw [if_pos h1] at h ⊢; exact h
  rw [if_neg h1] at h ⊢
  by_cases h2 : i.op = 3 ∨ i.op = 4
  · rw [if_pos h2] at h ⊢; exact h
  rw [if_neg h2] at h ⊢
  by_cases h3 : i.op = 21 ∨ i.op = 22
  · rw [if_pos h3]
    have := ho.jump h3
    simp only [rng, Bool.and_eq_true, decide_eq_true_eq]
    rw [if_pos ⟨this.1, by omega⟩]
  rw [if_neg h3] at h ⊢
  by_cases h4 : i.op = 23
  · rw [if_pos h4, (unit_alike hM (.inl rfl) (ho.call h4)).1]; rfl
  rw [if_neg h4] at h ⊢
  by_cases h5 : i.op = 29
  · rw [if_pos h5, (unit_alike hM (.inr rfl) (ho.start h5)).1]; rfl
  rw [if_neg h5] at h ⊢
  by_cases h6 : i.op = 26 ∨ i.op = 27
  · rw [if_pos h6]
    have := ho.box h6
    simp only [rng, Bool.and_eq_true, decide_eq_true_eq]
    rw [if_pos ⟨this.1, by omega⟩]
  rw [if_neg h6] at h ⊢
  exact h
theorem head_alike (h : head M u = 0) (hn : u'.code.length ≤ 4000) : head M' u' = 0 := by
  have hl := hU.len
  unfold head at h ⊢
  rw [hU.kind, hU.params, hU.locals, hU.result, hU.takes]
  by_cases h1 : u.kind ≠ 2 ∧ u.kind ≠ 3 ∧ u.kind ≠ 4
  · rw [if_pos h1] at h; cases h
  rw [if_neg h1] at h ⊢
  by_cases h2 : 200 < u.locals.length ∨ u.params < 0 ∨ 6 < u.params ∨ (u.locals.length : Int) < u.params ∨ (u.kind = 4 ∧ 0 < u.params)
  · rw [if_pos h2] at h; cases h
  rw [if_neg h2] at h ⊢
  by_cases h3 : u.code.length < 1 ∨ 4000 < u.code.length
  · rw [if_pos h3] at h; cases h
  rw [if_neg h3] at h
  rw [if_neg (by omega)]
  by_cases h4 : (u.kind ≠ 4 ∧ plain u.result = false) ∨ (u.kind = 3 ∧ plain u.takes = false)
  · rw [if_pos h4] at h; cases h
  rw [if_neg h4] at h ⊢
  by_cases h5 : u.locals.any (fun t => !plain t && !handle M t) = true
  · rw [if_pos h5] at h; cases h
  rw [if_neg]
  intro hn
  refine h5 ?_
  rw [List.any_eq_true] at hn ⊢
  obtain ⟨t, t1, t2⟩ := hn
  refine ⟨t, t1, ?_⟩
  rw [Bool.and_eq_true] at t2 ⊢
  refine ⟨t2.1, ?_⟩
  cases hh : handle M t with
  | false => rfl
  | true => rw [handle_alike hM hh] at t2; exact absurd t2.2 (by decide)
end
end Go.Proofs.Ytfeajpghabjaaaa.Ver

/- What is not come to changes nothing; tasks may be left out: who uses a box, and the laws. Plain Lean. -/
namespace Go.Proofs.Ytfeajpghabjaaaa.Ver
set_option linter.unusedVariables false
set_option linter.unusedSimpArgs false
open ImgM

/-- what of some code tells of other units and of boxes -/
def key (c : List Ins) : List Ins := c.filter fun i => decide (i.op = 23) || decide (i.op = 29) || decide (i.op = 26) || decide (i.op = 27)
theorem calls_key : ∀ (l : List Ins) (out : List Int), calls (key l) out = calls l out
  | [], _ => rfl
  | i :: l, out => by
    unfold key
    rw [List.filter_cons]
    by_cases h : (decide (i.op = 23) || decide (i.op = 29) || decide (i.op = 26) || decide (i.op = 27)) = true
    · rw [if_pos h, calls_cons, calls_cons]; exact calls_key l _
    · rw [if_neg h, calls_cons]
      have : call1 out i = out := by
        unfold call1
        rw [if_neg]
        simp at h
        omega
      rw [this]; exact calls_key l _
theorem any_key {op b : Int} (ho : op = 26 ∨ op = 27) : ∀ l : List Ins, (key l).any (fun i => decide (i.op = op) && decide (i.a = b)) = l.any (fun i => decide (i.op = op) && decide (i.a = b))
  | [] => rfl
  | i :: l => by
    unfold key
    rw [List.filter_cons]
    by_cases h : (decide (i.op = 23) || decide (i.op = 29) || decide (i.op = 26) || decide (i.op = 27)) = true
    · rw [if_pos h, List.any_cons, List.any_cons]; rw [← any_key ho l]; rfl
    · rw [if_neg h, List.any_cons, ← any_key ho l]
      have : decide (i.op = op) = false := by
        simp at h
        simp only [decide_eq_false_iff_not]
        omega
      rw [this]; rfl
theorem call1_mem {out : List Int} {i : Ins} {x : Int} (h : x ∈ call1 out i) : x ∈ out ∨ ((i.op = 23 ∨ i.op = 29) ∧ i.a = x) := by
  unfold call1 at h
  split at h
  · rename_i h1
    rcases List.mem_append.1 h with h | h
    · exact .inl h
    · simp at h; exact .inr ⟨h1.1, h.symm⟩
  · exact .inl h
theorem calls_mem : ∀ (l : List Ins) (out : List Int) (x : Int), x ∈ calls l out → x ∈ out ∨ ∃ i ∈ l, (i.op = 23 ∨ i.op = 29) ∧ i.a = x
  | [], _, _, h => .inl h
  | i :: l, out, x, h => by
    rw [calls_cons] at h
    rcases calls_mem l _ x h with h | ⟨j, h1, h2⟩
    · rcases call1_mem h with h | h
      · exact .inl h
      · exact .inr ⟨i, List.mem_cons_self, h⟩
    · exact .inr ⟨j, List.mem_cons_of_mem _ h1, h2⟩
theorem getD_mem' {l : List Int} {k : Nat} (h : k < l.length) : l.getD k 0 ∈ l := by
  rw [List.getD_eq_getElem?_getD, List.getElem?_eq_getElem h]; exact List.getElem_mem _
theorem reachRun_alike {M M' : Mdl} {R : Int → Prop} (hk : ∀ x, R x → key (uAt M' x).code = key (uAt M x).code) (hR : ∀ x, R x → ∀ i ∈ (uAt M x).code, i.op = 23 ∨ i.op = 29 → R i.a) :
    ∀ (n k : Nat) (out : List Int), (∀ x ∈ out, R x) → reachRun M' n k out = reachRun M n k out ∧ ∀ x ∈ reachRun M n k out, R x
  | 0, _, _, h => ⟨rfl, h⟩
  | n + 1, k, out, h => by
    by_cases hko : k < out.length
    · have hx := h _ (getD_mem' hko)
      rw [reachRun_step hko, reachRun_step hko]
      have e : calls (M'.units.getD (out.getD k 0).toNat default).code out = calls (M.units.getD (out.getD k 0).toNat default).code out := by
        rw [← calls_key, ← calls_key (M.units.getD (out.getD k 0).toNat default).code]
        rw [show key (M'.units.getD (out.getD k 0).toNat default).code = key (M.units.getD (out.getD k 0).toNat default).code from hk _ hx]
      rw [e]
      refine reachRun_alike hk hR n (k + 1) _ (fun x hx' => ?_)
      rcases calls_mem _ _ x hx' with h' | ⟨i, i1, i2, i3⟩
      · exact h x h'
      · rw [← i3]; exact hR _ hx i i1 i2
    · rw [reachRun_end hko, reachRun_end hko]; exact ⟨rfl, h⟩
theorem reachRun_fuel {M : Mdl} {N : Nat} (hc : ∀ k, k < N → ∀ i ∈ (M.units.getD k default).code, i.op = 23 ∨ i.op = 29 → 0 ≤ i.a ∧ i.a < (N : Int)) : ∀ (n k : Nat) (out : List Int), Once N out → N < n + k → reachRun M (n + 1) k out = reachRun M n k out
  | 0, k, out, ho, hn => by
    have := ho.len
    rw [reachRun_end (by omega), reachRun_end (by omega)]
  | n + 1, k, out, ho, hn => by
    by_cases hko : k < out.length
    · rw [reachRun_step hko, reachRun_step hko]
      refine reachRun_fuel hc n (k + 1) _ (calls_once _ _ ho (hc _ ?_)) (by omega)
      have := ho.ok _ (getD_mem' hko)
      omega
    · rw [reachRun_end hko, reachRun_end hko]
theorem reachRun_more {M : Mdl} {N : Nat} (hc : ∀ k, k < N → ∀ i ∈ (M.units.getD k default).code, i.op = 23 ∨ i.op = 29 → 0 ≤ i.a ∧ i.a < (N : Int)) {n k : Nat} {out : List Int} (ho : Once N out) (hn : N < n + k) : ∀ d, reachRun M (n + d) k out = reachRun M n k out
  | 0 => rfl
  | d + 1 => by rw [← Nat.add_assoc, reachRun_fuel hc (n + d) k out ho (by omega)]; exact reachRun_more hc ho hn d

/-- a task that puts a number out -/
def sm : Unt := ⟨4, 0, [], 0, 0, [⟨1, 0, 1⟩, ⟨28, 0, 0⟩, ⟨25, 0, 0⟩]⟩
theorem sm_run (M : Mdl) (k : Nat) : (run M sm k (most sm) (Ver.start sm)).err = 0 := rfl
theorem sm_head (M : Mdl) : head M sm = 0 := rfl
theorem sm_instr (M : Mdl) : ∀ i ∈ sm.code, instr M sm i = 0 := by
  intro i hi
  simp only [sm, List.mem_cons, List.not_mem_nil, or_false] at hi
  rcases hi with rfl | rfl | rfl <;> rfl
theorem sm_uses {M : Mdl} {op b : Int} {k : Nat} (ho : op = 26 ∨ op = 27) (h : uAt M k = sm) : uses M op b k = false := by
  have hr : reach M k = [(k : Int)] := by
    unfold reach
    rw [reachRun_step (by simp)]
    have e : calls (M.units.getD ([(k : Int)].getD 0 0).toNat default).code [(k : Int)] = [(k : Int)] := by
      show calls (uAt M k).code _ = _
      rw [h]; rfl
    rw [e, reachRun_end (by simp)]
  unfold uses
  rw [hr]
  show ((uAt M k).code.any _ || false) = false
  rw [h]
  rcases ho with rfl | rfl <;> rfl

/-- some is left out of a module, or is set beside it -/
structure Left (M M' : Mdl) : Prop where
  nun : M.units.length ≤ M'.units.length
  nbx : M.boxes.length ≤ M'.boxes.length
  boxes : ∀ k, k < M.boxes.length → M'.boxes.getD k default = M.boxes.getD k default
  bx : ∀ b ∈ M'.boxes, plain b.1 = true ∧ 1 ≤ b.2 ∧ b.2 ≤ 20
  few : M'.boxes.length ≤ 30 ∧ M'.units.length ≤ 30
  units : ∀ k : Nat, k < M'.units.length → (k < M.units.length ∧ AlikeU (uAt M k) (uAt M' k) ∧ key (uAt M' k).code = key (uAt M k).code ∧ (uAt M' k).code.length ≤ 4000 ∧ ∀ i ∈ (uAt M' k).code, i ∈ (uAt M k).code ∨ i.op = 5 ∨ i.op = 7) ∨ (uAt M' k = sm ∧ (k < M.units.length → (uAt M k).kind = 4))
theorem Left.alike {M M' : Mdl} (h : Left M M') : AlikeM M M' := by
  refine ⟨h.nun, h.nbx, fun k h0 hk hkind => ?_, h.boxes⟩
  have hn := h.nun
  have hc : ((k.toNat : Nat) : Int) = k := by omega
  rcases h.units k.toNat (by omega) with ⟨-, ha, -⟩ | ⟨-, h4⟩
  · rw [hc] at ha
    exact ⟨ha.kind, ha.locals, ha.params, ha.result, ha.takes⟩
  · rw [hc] at h4
    have := h4 (by omega)
    omega
theorem uAt_mem {M : Mdl} {k : Nat} (h : k < M.units.length) : uAt M k ∈ M.units := by
  show M.units.getD k default ∈ _
  rw [List.getD_eq_getElem?_getD, List.getElem?_eq_getElem h]; exact List.getElem_mem _
theorem mem_uAt {M : Mdl} {u : Unt} (h : u ∈ M.units) : ∃ k : Nat, k < M.units.length ∧ uAt M k = u := by
  obtain ⟨k, hk, e⟩ := List.getElem_of_mem h
  refine ⟨k, hk, ?_⟩
  show M.units.getD k default = u
  rw [List.getD_eq_getElem?_getD, List.getElem?_eq_getElem hk]; exact e
theorem usersTo_mono {M M' : Mdl} {op b : Int} (h : ∀ k : Nat, k < M'.units.length → (uAt M' k).kind = 4 → uses M' op b k = true → k < M.units.length ∧ (uAt M k).kind = 4 ∧ uses M op b k = true) : ∀ k, k ≤ M'.units.length → usersTo M' op b k ≤ usersTo M op b (min k M.units.length)
  | 0, _ => by simp [usersTo]
  | k + 1, hk => by
    have ih := usersTo_mono h k (by omega)
    rw [usersTo_succ]
    by_cases hx : (decide ((M'.units.getD k default).kind = 4) && uses M' op b k) = true
    · rw [if_pos hx]
      rw [Bool.and_eq_true, decide_eq_true_eq] at hx
      obtain ⟨h1, h2, h3⟩ := h k (by omega) hx.1 hx.2
      rw [show min (k + 1) M.units.length = k + 1 by omega, usersTo_succ]
      rw [show min k M.units.length = k by omega] at ih
      rw [if_pos (by rw [Bool.and_eq_true, decide_eq_true_eq]; exact ⟨h2, h3⟩)]
      omega
    · rw [if_neg hx]
      have : usersTo M op b (min k M.units.length) ≤ usersTo M op b (min (k + 1) M.units.length) := by
        by_cases hkn : k < M.units.length
        · rw [show min (k + 1) M.units.length = k + 1 by omega, show min k M.units.length = k by omega, usersTo_succ]; omega
        · rw [show min (k + 1) M.units.length = min k M.units.length by omega]; exact Nat.le_refl _
      omega
theorem users_mono {M M' : Mdl} {op b : Int} (hn : M.units.length ≤ M'.units.length) (h : ∀ k : Nat, k < M'.units.length → (uAt M' k).kind = 4 → uses M' op b k = true → k < M.units.length ∧ (uAt M k).kind = 4 ∧ uses M op b k = true) : users M' op b ≤ users M op b := by
  have := usersTo_mono h M'.units.length (Nat.le_refl _)
  rw [show min M'.units.length M.units.length = M.units.length by omega] at this
  exact this
section
variable {M M' : Mdl} (hF : FormOk M) (hL : Left M M')
include hF
theorem insOk {k : Nat} (hk : k < M.units.length) : ∀ i ∈ (uAt M k).code, InsOk M (uAt M k) i := fun i hi => instr_ok ((hF.units _ (uAt_mem hk)).2 i hi)
theorem callsOk : ∀ k, k < M.units.length → ∀ i ∈ (M.units.getD k default).code, i.op = 23 ∨ i.op = 29 → 0 ≤ i.a ∧ i.a < (M.units.length : Int) := by
  intro k hk i hi ho
  have h := insOk hF hk i hi
  rcases ho with ho | ho
  · obtain ⟨h1, h2, -⟩ := unit_eq (h.call ho); exact ⟨h1, h2⟩
  · obtain ⟨h1, h2, -⟩ := unit_eq (h.start ho); exact ⟨h1, h2⟩
theorem uses_far {op b : Int} (ho : op = 26 ∨ op = 27) (hb : (M.boxes.length : Int) ≤ b) {k : Nat} (hk : k < M.units.length) : uses M op b k = false := by
  cases h : uses M op b k with
  | false => rfl
  | true =>
    unfold uses at h
    rw [List.any_eq_true] at h
    obtain ⟨x, x1, x2⟩ := h
    rw [List.any_eq_true] at x2
    obtain ⟨i, i1, i2⟩ := x2
    have hx := (reachRun_once (callsOk hF) (M.units.length + 1) 0 [(k : Int)] (Once.one hk)).ok x x1
    have := (insOk hF (k := x.toNat) (by omega) i i1).box
    rw [Bool.and_eq_true, decide_eq_true_eq, decide_eq_true_eq] at i2
    have := this (by omega)
    omega
include hL
theorem uses_left {op b : Int} (ho : op = 26 ∨ op = 27) {k : Nat} (hk : k < M.units.length) (hkey : key (uAt M' k).code = key (uAt M k).code) : uses M' op b k = uses M op b k := by
  have hn := hL.nun
  let R : Int → Prop := fun x => 0 ≤ x ∧ x < (M.units.length : Int) ∧ key (uAt M' x).code = key (uAt M x).code
  have hR : ∀ x, R x → ∀ i ∈ (uAt M x).code, i.op = 23 ∨ i.op = 29 → R i.a := by
    rintro x ⟨h1, h2, -⟩ i hi hio
    have hc := callsOk hF x.toNat (by omega) i hi hio
    have hio' := insOk hF (k := x.toNat) (by omega) i hi
    refine ⟨hc.1, hc.2, ?_⟩
    have hkind : (uAt M i.a).kind = 2 ∨ (uAt M i.a).kind = 3 := by
      rcases hio with hio | hio
      · exact .inl (unit_eq (hio'.call hio)).2.2
      · exact .inr (unit_eq (hio'.start hio)).2.2
    have hca : ((i.a.toNat : Nat) : Int) = i.a := by omega
    rcases hL.units i.a.toNat (by omega) with ⟨-, -, hk, -, -⟩ | ⟨-, h4⟩
    · rw [hca] at hk; exact hk
    · rw [hca] at h4
      have := h4 (by omega)
      omega
  obtain ⟨e1, e2⟩ := reachRun_alike (fun x hx => hx.2.2) hR (M.units.length + 1) 0 [(k : Int)] (fun x hx => by
    simp at hx
    subst hx
    exact ⟨by omega, by omega, hkey⟩)
  have e3 := reachRun_alike (fun x hx => hx.2.2) hR (M'.units.length + 1) 0 [(k : Int)] (fun x hx => by
    simp at hx
    subst hx
    exact ⟨by omega, by omega, hkey⟩)
  have e4 : reach M' k = reach M k := by
    unfold reach
    rw [e3.1, show M'.units.length + 1 = (M.units.length + 1) + (M'.units.length - M.units.length) by omega]
    exact reachRun_more (callsOk hF) (Once.one hk) (by omega) _
  unfold uses
  rw [e4]
  have : ∀ l : List Int, (∀ x ∈ l, R x) → (l.any fun x => (M'.units.getD x.toNat default).code.any fun i => decide (i.op = op) && decide (i.a = b)) = (l.any fun x => (M.units.getD x.toNat default).code.any fun i => decide (i.op = op) && decide (i.a = b)) := by
    intro l hl
    induction l with
    | nil => rfl
    | cons x l ih =>
      rw [List.any_cons, List.any_cons, ih (fun y hy => hl y (List.mem_cons_of_mem _ hy))]
      congr 1
      have hx := (hl x List.mem_cons_self).2.2
      rw [← any_key ho, ← any_key ho (M.units.getD x.toNat default).code]
      rw [show key (M'.units.getD x.toNat default).code = key (M.units.getD x.toNat default).code from hx]
  exact this _ e2
theorem users_left {op b : Int} (ho : op = 26 ∨ op = 27) : users M' op b ≤ users M op b := by
  refine users_mono hL.nun (fun k hk h4 hu => ?_)
  rcases hL.units k hk with ⟨h1, h2, h3, -⟩ | ⟨h1, -⟩
  · exact ⟨h1, by rw [← h2.kind]; exact h4, by rw [← uses_left hF hL ho h1 h3]; exact hu⟩
  · rw [sm_uses ho h1] at hu; cases hu
end
/-- A RIGHT MODULE STAYS RIGHT. -/
theorem Right.left {M M' : Mdl} (hR : Right M) (hG : ∀ k, k < M.units.length → Good M (M.units.getD k default)) (hL : Left M M') : Right M' := by
  have hM := hL.alike
  have hF := hR.form
  refine ⟨⟨hL.few.1, hL.few.2, hL.bx, fun u hu => ?_, ?_⟩, fun k hk => ?_, fun b hb => ?_⟩
  · obtain ⟨k, hk, rfl⟩ := mem_uAt hu
    rcases hL.units k hk with ⟨h1, h2, -, h4, h5⟩ | ⟨h1, -⟩
    · obtain ⟨g1, g2⟩ := hF.units _ (uAt_mem h1)
      refine ⟨head_alike hM h2 g1 h4, fun i hi => ?_⟩
      rcases h5 i hi with h | h
      · exact instr_alike hM h2 (g2 i h)
      · unfold instr
        rw [if_neg (by omega), if_neg (by omega), if_neg (by omega), if_neg (by omega), if_neg (by omega), if_neg (by omega), if_neg (by omega)]
    · rw [h1]; exact ⟨sm_head _, sm_instr _⟩
  · obtain ⟨u, u1, u2⟩ := hF.task
    obtain ⟨k, hk, rfl⟩ := mem_uAt u1
    have hn := hL.nun
    refine ⟨uAt M' k, uAt_mem (by omega), ?_⟩
    rcases hL.units k (by omega) with ⟨h1, h2, -, h4, -⟩ | ⟨h1, -⟩
    · rw [h2.kind]; exact u2
    · rw [h1]; rfl
  · rcases hL.units k hk with ⟨h1, h2, -, h4, -⟩ | ⟨h1, -⟩
    · obtain ⟨g1, g2⟩ := hF.units _ (uAt_mem h1)
      have hh : (M.units.getD k default).params.toNat ≤ (M.units.getD k default).locals.length ∧ 1 ≤ (M.units.getD k default).code.length := by
        have g1' : head M (M.units.getD k default) = 0 := g1
        unfold head at g1'
        generalize M.units.getD k default = u at *
        by_cases e1 : u.kind ≠ 2 ∧ u.kind ≠ 3 ∧ u.kind ≠ 4
        · rw [if_pos e1] at g1'; cases g1'
        rw [if_neg e1] at g1'
        by_cases e2 : 200 < u.locals.length ∨ u.params < 0 ∨ 6 < u.params ∨ (u.locals.length : Int) < u.params ∨ (u.kind = 4 ∧ 0 < u.params)
        · rw [if_pos e2] at g1'; cases g1'
        rw [if_neg e2] at g1'
        by_cases e3 : u.code.length < 1 ∨ 4000 < u.code.length
        · rw [if_pos e3] at g1'; cases g1'
        omega
      obtain ⟨τ, hτ, -⟩ := cert_of_code (hG k h1) hh.1 hh.2 (hR.code k h1)
      exact code_of_cert (Cert.alike hM h2 g2 hτ)
    · have : M'.units.getD k default = sm := h1
      unfold Ver.code
      rw [this]
      exact sm_run _ _
  · have l1 := users_left hF hL (b := b) (.inl (rfl : (26 : Int) = 26))
    have l2 := users_left hF hL (b := b) (.inr (rfl : (27 : Int) = 27))
    by_cases hb' : b < M.boxes.length
    · have := hR.owned b hb'
      omega
    · have z : ∀ op : Int, op = 26 ∨ op = 27 → users M op b = 0 := fun op ho => by
        unfold users
        rw [List.length_eq_zero_iff, List.filter_eq_nil_iff]
        intro k hk
        rw [uses_far hF ho (by omega) (List.mem_range.1 hk)]
        simp
      rw [z 26 (.inl rfl)] at l1
      rw [z 27 (.inr rfl)] at l2
      omega

/-- more behind an end -/
def longer (u : Unt) : Unt := { u with code := u.code ++ [⟨7, 0, 0⟩, ⟨5, 0, 0⟩] }
theorem AlikeU.refl (u : Unt) : AlikeU u u := ⟨rfl, rfl, rfl, rfl, rfl, Nat.le_refl _, fun _ _ _ => rfl⟩
end Go.Proofs.Ytfeajpghabjaaaa.Ver

/- Heaps by whole blocks: what a step may have changed ('Keeps'), and what a block is behind a store, a new block, a draw. Nothing of the program stands here. -/
namespace Go.Proofs.Ytfeajpghabjaaaa
open Go.RowKit

/-- between w and w' only blocks in S may have turned; blocks may have come. -/
structure Keeps (S : Nat → Prop) (w w' : World) : Prop where
  os : w'.os = w.os
  tape : w'.tape = w.tape
  output : w'.output = w.output
  size : w.heap.size ≤ w'.heap.size
  block : ∀ k, k < w.heap.size → ¬ S k → w'.heap[k]? = w.heap[k]?

def Nil : Nat → Prop := fun _ => False

theorem Keeps.refl (S : Nat → Prop) (w : World) : Keeps S w w := ⟨rfl, rfl, rfl, Nat.le_refl _, fun _ _ _ => rfl⟩

theorem Keeps.trans {S T : Nat → Prop} {a b c : World} (h : Keeps S a b) (k : Keeps T b c) (ht : ∀ i, i < a.heap.size → T i → S i) : Keeps S a c :=
  ⟨k.os.trans h.os, k.tape.trans h.tape, k.output.trans h.output, Nat.le_trans h.size k.size,
    fun i hi hs => (k.block i (Nat.lt_of_lt_of_le hi h.size) (fun t => hs (ht i hi t))).trans (h.block i hi hs)⟩

theorem Keeps.mono {S T : Nat → Prop} {a b : World} (h : Keeps S a b) (ht : ∀ i, i < a.heap.size → S i → T i) : Keeps T a b :=
  ⟨h.os, h.tape, h.output, h.size, fun i hi hs => h.block i hi (fun t => hs (ht i hi t))⟩

theorem Keeps.drew {S : Nat → Prop} {a b : World} (h : Keeps S a b) : Keeps S a b.drew := ⟨h.os, h.tape, h.output, h.size, h.block⟩

theorem Keeps.alloc {S : Nat → Prop} {a b : World} (h : Keeps S a b) (o : Obj) : Keeps S a (b.alloc o) :=
  ⟨h.os, h.tape, h.output, Nat.le_trans h.size (by simp), fun k hk hs => (Below.heap_alloc _ _ _ (Nat.lt_of_lt_of_le hk h.size)).trans (h.block k hk hs)⟩

theorem Keeps.setCell {S : Nat → Prop} {a b : World} (h : Keeps S a b) {p : Addr} (hp : p.block < a.heap.size → S p.block) (u : Value) : Keeps S a (b.setCell p u) :=
  ⟨h.os, h.tape, h.output, Nat.le_trans h.size (by simp), fun k hk hs => (Below.heap_setCell _ _ _ _ (fun e => by subst e; exact hs (hp hk))).trans (h.block k hk hs)⟩

theorem Keeps.below {S : Nat → Prop} {B : Nat} {a b : World} (h : Keeps S a b) (hB : B ≤ a.heap.size) (hs : ∀ i, S i → B ≤ i) : Below B a b :=
  ⟨h.os, h.tape, h.output, h.size, fun k hk => h.block k (by omega) (fun s => by have := hs k s; omega)⟩

theorem Keeps.cell {S : Nat → Prop} {w w' : World} (h : Keeps S w w') {p : Addr} (hp : p.block < w.heap.size) (hs : ¬ S p.block) : w'.cell? p = w.cell? p := World.cell?_of_block (w := w) (h.block p.block hp hs)
theorem Keeps.frozen {S : Nat → Prop} {w w' : World} (h : Keeps S w w') {p : Addr} (hp : p.block < w.heap.size) (hs : ¬ S p.block) : w'.frozen? p = w.frozen? p := World.frozen?_of_block (w := w) (h.block p.block hp hs)
theorem Keeps.at {S : Nat → Prop} {w w' : World} (h : Keeps S w w') {k : Nat} {o : Obj} (ho : w.heap[k]? = some o) (hs : ¬ S k) : w'.heap[k]? = some o := (h.block k (lt_of_block ho) hs).trans ho

/-- a block of cells, nothing of it frozen -/
def Blk (w : World) (b : Nat) (cs : Array Value) (t : TypeId) : Prop := w.heap[b]? = some (.cells cs t (0, 0))

theorem Blk.lt {w : World} {b : Nat} {cs : Array Value} {t : TypeId} (h : Blk w b cs t) : b < w.heap.size := lt_of_block h
theorem Blk.cell {w : World} {b : Nat} {cs : Array Value} {t : TypeId} (h : Blk w b cs t) (i : Nat) : w.cell? ⟨b, i, none⟩ = cs[i]? := cell_of_row w b i cs t (0, 0) h
theorem Blk.free {w : World} {b : Nat} {cs : Array Value} {t : TypeId} (h : Blk w b cs t) (i : Nat) : w.frozen? ⟨b, i, none⟩ = false := frozen_of_row w b i cs t h
theorem Blk.keep {S : Nat → Prop} {w w' : World} {b : Nat} {cs : Array Value} {t : TypeId} (h : Blk w b cs t) (k : Keeps S w w') (hs : ¬ S b) : Blk w' b cs t := k.at h hs
theorem Blk.drew {w : World} {b : Nat} {cs : Array Value} {t : TypeId} (h : Blk w b cs t) : Blk w.drew b cs t := h
theorem Blk.alloc {w : World} {b : Nat} {cs : Array Value} {t : TypeId} (h : Blk w b cs t) (o : Obj) : Blk (w.alloc o) b cs t := (Below.heap_alloc w o b h.lt).trans h
theorem Blk.new (w : World) (cs : Array Value) (t : TypeId) : Blk (w.alloc (.cells cs t)) w.heap.size cs t := heap_alloc_new w _
theorem Blk.new' {w : World} {cs : Array Value} {t : TypeId} {B : Nat} (h : B = w.heap.size) : Blk (w.alloc (.cells cs t)) B cs t := by subst h; exact Blk.new w cs t
theorem Blk.set {w : World} {b : Nat} {cs : Array Value} {t : TypeId} (h : Blk w b cs t) (i : Nat) (u : Value) : Blk (w.setCell ⟨b, i, none⟩ u) b (cs.setIfInBounds i u) t := heap_setCell_same w b i cs t u h
theorem Blk.other {w : World} {b : Nat} {cs : Array Value} {t : TypeId} (h : Blk w b cs t) (p : Addr) (hp : b ≠ p.block) (u : Value) : Blk (w.setCell p u) b cs t := (Below.heap_setCell w p u b hp).trans h
/-- the same heap (draws apart), the same cells otherwise written -/
theorem Blk.to {w w' : World} {b : Nat} {cs cs' : Array Value} {t : TypeId} (h : Blk w b cs t) (hw : w'.heap = w.heap) (e : cs = cs') : Blk w' b cs' t := by
  subst e; unfold Blk; rw [hw]; exact h
theorem Keeps.of_grown {w w' : World} {row : Option Nat} (h : w.grownBy w' row) : Keeps (fun i => row = some i) w w' :=
  ⟨h.os, h.tape, h.output, h.size, fun k hk hs => h.block k hk (fun e => hs e.symm)⟩

theorem news_blk {w : World} {B : Nat} {news : List Value} {e : TypeId} (hb : Blk w B news.toArray e) : ∀ j u, news[j]? = some u → w.cell? ((⟨B, 0, none⟩ : Addr).add j) = some u := by
  intro j u hj
  have ha : (⟨B, 0, none⟩ : Addr).add j = ⟨B, j, none⟩ := by unfold Addr.add; split <;> simp_all
  rw [ha, hb.cell j]
  simpa using hj

/-- The same at a step of a region that draws. -/
theorem step1 {P : Program} {ops : Array Oper} {o : Oper} {a : Act} {w : World} {K : Act → World → Prop} {Q : Exit → Act → World → Prop} {E : Prop} (hgd : o.guard = none) (s x : Operand) (t : TypeId)
    (ho : o.op = .call { callee := .builtin .append, args := #[s, x], argTypes := #[t, t] })
    (base : Nat) (e : TypeId) (z : Value) (size bytes : Nat) (ht : P.underlying t = some (.slice e)) (hi : (P.info? e).map (fun i => (i.zero, i.size, i.bytes)) = some (some z, size, bytes))
    (hzs : z.cells.size = size) (hsz : 0 < size)
    (v : Value) (n : Nat) (xs : List Value) (hs : a.eval s = v) (hown : w.ownsRow base e size v n xs)
    (B c : Nat) (news : List Value) (hx : a.eval x = .slice (some ⟨B, 0, none⟩) 1 c) (hb : Blk w B news.toArray e) (hl : news.length = size) (h1 : ∀ u ∈ news, u.oneCell' = true)
    (h63 : n + 1 ≤ maxLen) (hbytes : (n + 1) * bytes ≤ 140737488355328) (hbase : base ≤ w.heap.size)
    (h : ∀ g cap w', w'.ownsRow base e size (.slice (some ⟨g, 0, none⟩) (n + 1) cap) (n + 1) (xs ++ news) → Keeps (fun i => v.ownBlock = some i) w w' → (v.ownBlock = some g ∨ w.heap.size ≤ g) → g < w'.heap.size → K (a.put o.dst (.slice (some ⟨g, 0, none⟩) (n + 1) cap)) w') : if Region.wanted o (yielded ops a.tmps) = true then Oper.wp P o a w K Q else E := by
  obtain ⟨i, hi0, hi1, hi2, hi3⟩ := info_parts hi
  exact step_append_lies w hgd s x t ho base e i z size bytes ht hi0 hi1 hi2 hi3 hzs hsz v n xs hs hown ⟨B, 0, none⟩ 1 c news hx (by rw [hl]; omega) (news_blk hb) h1 (by omega) h63 hbytes hbase _ rfl
    (fun g cap w' a b hat hlt => h g cap w' a (Keeps.of_grown b) (hat.imp id (fun e => by omega)) hlt)

end Go.Proofs.Ytfeajpghabjaaaa
