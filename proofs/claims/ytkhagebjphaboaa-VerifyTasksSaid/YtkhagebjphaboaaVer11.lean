/- verify's flow, walked: a unit's code. -/
import Derived.Test.YtkhagebjphaboaaVer10
import Derived.Test.YtkhagebjphaboaaVer5
import Derived.Test.YtkhagebjphaboaaVerEnd
namespace Go.Proofs.Ytkhagebjphaboaa.Vw
open Go.RowKit Go.Proofs.Ytkhagebjphaboaa.Img
set_option linter.unusedVariables false
set_option linter.unusedSimpArgs false
attribute [local irreducible] Run Cod End OpT Still RunQ RunS RunT Fn PutOk

/-- a module whose form is right -/
structure Formed (m : ML) : Prop where
  boxes : m.bx.length ≤ 30
  units : m.us.length ≤ 30
  head : ∀ k, k < m.us.length → Ver.head m.mdl (m.us.getD k default).u = 0
  instr : ∀ k, k < m.us.length → ∀ i ∈ (m.us.getD k default).u.code, Ver.instr m.mdl (m.us.getD k default).u i = 0
theorem Formed.good {m : ML} (h : Formed m) (hwf : m.Wf) {q : Nat} (hq : q < m.us.length) : Ver.Good m.mdl (m.us.getD q default).u := by
  have hu := hwf.us _ (ML.uat_mem hq)
  refine ⟨fun k hk => ?_, fun k hk => ?_, hu.locals, hu.result, hu.takes, by simpa using h.units, h.instr q hq⟩
  · have := hwf.us _ (ML.uat_mem (show k < m.us.length by simpa using hk))
    rw [ML.unit_at]
    exact ⟨this.result, this.takes⟩
  · exact (hwf.bx _ (getD_mem hk)).1
theorem ent_of {r : FR} {z : FS} {n L : Nat} (h : Ver.Inv n L (flow r z)) (p : Int) (x : SH) (hx : mfind r.ents p = some x) : x.st.length ≤ 300 ∧ (∀ t ∈ x.st, ImgM.In64 t) ∧ x.hs.length = L := by
  have := mfind_at r.ents p
  rw [hx] at this
  exact h.ent p (x.st, x.hs) this
theorem has_of {r : FR} {z : FS} {n L : Nat} (h : Ver.Inv n L (flow r z)) : r.has.length = L := h.has

theorem step_any (fb cb ab mb : Nat) (m : ML) (r : FR) (z : FS) (q : Nat) (hq : q < m.us.length) (hf : Formed m) {n : Nat} (hi : Ver.Inv n (m.us.getD q default).u.locals.length (flow r z)) (hl : z.st.length ≤ 300) (hst : ∀ t ∈ z.st, ImgM.In64 t) (hto : r.todo.length ≤ 1000000000)
    (i : ImgM.Ins) (hin : Ver.instr m.mdl (m.us.getD q default).u i = 0) : StepFn fb cb ab mb m r z q i := by
  have ho := Ver.instr_ok hin
  have hlo := (head_ok (hf.head q hq)).1
  have hhl := has_of hi
  have hent : ∀ a x, mfind r.ents a = some x → x.st.length ≤ 1000 ∧ x.hs.length = r.has.length := fun a x hx => by
    obtain ⟨h1, h2, h3⟩ := ent_of hi a x hx
    exact ⟨by omega, by rw [h3, hhl]⟩
  obtain ⟨op, a, nn⟩ := i
  obtain ⟨hop, hloc, hjmp, hcall, hstart, hbox⟩ := ho
  simp only at hop hloc hjmp hcall hstart hbox
  rcases (by omega : op = 1 ∨ op = 2 ∨ op = 3 ∨ op = 4 ∨ op = 5 ∨ op = 6 ∨ op = 7 ∨ (8 ≤ op ∧ op ≤ 12) ∨ op = 13 ∨ op = 14 ∨ (15 ≤ op ∧ op ≤ 18) ∨ op = 19 ∨ op = 20 ∨ op = 21 ∨ op = 22 ∨ op = 23 ∨ op = 24 ∨ op = 25 ∨ op = 26 ∨ op = 27 ∨ op = 28 ∨ op = 29 ∨ op = 30 ∨ op = 31 ∨ op = 32) with rfl | rfl | rfl | rfl | rfl | rfl | rfl | h | rfl | rfl | h | rfl | rfl | rfl | rfl | rfl | rfl | rfl | rfl | rfl | rfl | rfl | rfl | rfl | rfl
  · exact step_1 fb cb ab mb m r z q hq hl hst a nn
  · exact step_2 fb cb ab mb m r z q hq hl hst a nn
  · obtain ⟨h1, h2⟩ := hloc (.inl rfl)
    obtain ⟨k, rfl⟩ := Int.eq_ofNat_of_zero_le h1
    exact step_3 fb cb ab mb m r z q hq hl hst k nn (by omega) hhl
  · obtain ⟨h1, h2⟩ := hloc (.inr rfl)
    obtain ⟨k, rfl⟩ := Int.eq_ofNat_of_zero_le h1
    exact step_4 fb cb ab mb m r z q hq hl hst k nn (by omega) hhl
  · exact step_5 fb cb ab mb m r z q hq hl hst a nn
  · exact step_6 fb cb ab mb m r z q hq hl hst a nn
  · exact step_7 fb cb ab mb m r z q hq hl hst a nn
  · exact step_8 fb cb ab mb m r z q hq hl hst op a nn h
  · exact step_13 fb cb ab mb m r z q hq hl hst a nn
  · exact step_14 fb cb ab mb m r z q hq hl hst a nn
  · exact step_15 fb cb ab mb m r z q hq hl hst op a nn h
  · exact step_19 fb cb ab mb m r z q hq hl hst a nn
  · exact step_20 fb cb ab mb m r z q hq hl hst a nn
  · exact step_21 fb cb ab mb m r z q hq hl hst a nn (by omega) hto (hent a)
  · exact step_22 fb cb ab mb m r z q hq hl hst a nn (by omega) hto (hent a)
  · obtain ⟨k, rfl, hk, -⟩ := isUnit_ok (hcall rfl)
    have hk : k < m.us.length := by simpa using hk
    exact step_23 fb cb ab mb m r z q hq hl hst _ _ _ (by omega) (special_23 fb cb ab mb m r z q hq hl hst k nn hk (hf.head k hk))
  · exact step_23 fb cb ab mb m r z q hq hl hst _ _ _ (by omega) (special_24 fb cb ab mb m r z q hq hl hst a nn)
  · exact step_23 fb cb ab mb m r z q hq hl hst _ _ _ (by omega) (special_25 fb cb ab mb m r z q hq hl hst a nn)
  · obtain ⟨h1, h2⟩ := hbox (.inl rfl)
    obtain ⟨k, rfl⟩ := Int.eq_ofNat_of_zero_le h1
    exact step_23 fb cb ab mb m r z q hq hl hst _ _ _ (by omega) (special_26 fb cb ab mb m r z q hq hl hst k nn (by omega))
  · obtain ⟨h1, h2⟩ := hbox (.inr rfl)
    obtain ⟨k, rfl⟩ := Int.eq_ofNat_of_zero_le h1
    exact step_23 fb cb ab mb m r z q hq hl hst _ _ _ (by omega) (special_27 fb cb ab mb m r z q hq hl hst k nn (by omega))
  · exact step_23 fb cb ab mb m r z q hq hl hst _ _ _ (by omega) (special_28 fb cb ab mb m r z q hq hl hst a nn)
  · obtain ⟨k, rfl, hk, -⟩ := isUnit_ok (hstart rfl)
    have hk : k < m.us.length := by simpa using hk
    exact step_23 fb cb ab mb m r z q hq hl hst _ _ _ (by omega) (special_29 fb cb ab mb m r z q hq hl hst k nn hk hf.units (hf.head k hk))
  · exact step_23 fb cb ab mb m r z q hq hl hst _ _ _ (by omega) (special_30 fb cb ab mb m r z q hq hl hst a nn)
  · exact step_23 fb cb ab mb m r z q hq hl hst _ _ _ (by omega) (special_31 fb cb ab mb m r z q hq hl hst a nn)
  · exact step_23 fb cb ab mb m r z q hq hl hst _ _ _ (by omega) (special_32 fb cb ab mb m r z q hq hl hst a nn)
end Go.Proofs.Ytkhagebjphaboaa.Vw
