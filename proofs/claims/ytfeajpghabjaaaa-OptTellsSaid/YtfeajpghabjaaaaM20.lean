/- verify's heads, walked. -/
import Derived.Test.YtfeajpghabjaaaaM19
namespace Go.Proofs.Ytfeajpghabjaaaa.Vw
open Go.RowKit Go.Proofs.Ytfeajpghabjaaaa.Img
set_option linter.unusedVariables false
set_option linter.unusedSimpArgs false
attribute [local irreducible] Run Cod End OpT Still RunQ RunS RunT Fn PutOk

set_option maxRecDepth 100000 in
set_option maxHeartbeats 1000000 in
theorem head_is (cb mb : Nat) (m : ML) (k : Nat) (hk : k < m.us.length) (hl : ∀ t ∈ (m.us.getD k default).u.locals, ImgM.In64 t) (hlen : (m.us.getD k default).u.locals.length ≤ 9223372036854775807) : Fn Try.prog 38 #[ptr cb, up m k] [md m] (ck cb mb m) (σ := Unit) (fun _ => True) (fun _ => .int .i64 (Ver.head m.mdl (m.us.getD k default).u)) (fun _ => ck cb mb m) := by
  refine Fn.enter (args := [ptr cb, up m k]) Try.func38 rfl _ Try.ntmps38 rfl (by simp [rd_excl, md_excl]) (fun w S => ?_)
  (try conv => rhs; simp only [List.cons_append, List.nil_append])
  repeat' (first | ((first | (apply Run.op; exact rfl) | refine Run.yes_ (h := ?_)); refine OpT.call0_ (spec := plain_is _) (k := ?_); intro s hs; (try conv => rhs; simp only [List.cons_append, List.nil_append])) | ((first | (apply Run.op; exact rfl) | refine Run.yes_ (h := ?_)); refine OpT.call0_ (spec := containsFuncI_is _ _ _ _ rfl hlen _ [ptr _] (md m) md_excl (blk _ [ptr cb] 58 :: ck cb mb m) (by simp [blk_excl]) (fun t => !Ver.plain t && !Ver.handle m.mdl t) (by kernel_rfl) (fun x hx => head1_is cb mb _ m x (hl x hx))) (k := ?_); intro s hs; (try conv => rhs; simp only [List.cons_append, List.nil_append])) | refine go (k := ?_) | (refine goB (k := ?_); intro b) | (refine goA (k := ?_); intro ao cap) | refine goQ (k := fun h => ?_) (k' := fun h => ?_) | fail)
  all_goals ((refine End.done1_ (()) (he := by (refine int_eq ?_; generalize (m.us.getD k default).u = u at *; generalize m.mdl = M at *; unfold Ver.head; (repeat' split); all_goals (first | rfl | omega | (simp_all; done) | (simp_all; omega)))) (hp := ?_)); trivial)
end Go.Proofs.Ytfeajpghabjaaaa.Vw

/- verify's form, walked. -/
namespace Go.Proofs.Ytfeajpghabjaaaa.Vw
open Go.RowKit Go.Proofs.Ytfeajpghabjaaaa.Img
set_option linter.unusedVariables false
set_option linter.unusedSimpArgs false
attribute [local irreducible] Run Cod End OpT Still RunQ RunS RunT Fn PutOk

def whereC (w : Ver.Where) : List Value := [.int .i64 w.err, .int .i64 w.unit, .int .i64 w.at_]
abbrev whereV (w : Ver.Where) : Value := .agg (whereC w).toArray
theorem where_eq {a b c : Int} {w : Ver.Where} (h : w = ⟨a, b, c⟩) : whereV w = .agg [Value.int .i64 a, Value.int .i64 b, Value.int .i64 c].toArray := by subst h; rfl

set_option maxRecDepth 100000 in
set_option maxHeartbeats 1000000 in
theorem form_is (cb mb : Nat) (m : ML) (hwf : m.Wf) : Fn Try.prog 22 #[ptr cb] [md m] (ck cb mb m) (σ := Unit) (fun _ => True) (fun _ => whereV (Ver.form m.mdl)) (fun _ => ck cb mb m) := by
  refine Fn.enter (args := [ptr cb]) Try.func22 rfl _ Try.ntmps22 rfl (by simp [rd_excl, md_excl]) (fun w S => ?_)
  (try conv => rhs; simp only [List.cons_append, List.nil_append])
  apply Cod.fact m.Small (fun w hm => (md_holds.1 (hm.has tk)).small)
  intro hsm
  have hs1 := hsm.bx
  have hs2 := hsm.us
  have hnu : m.mdl.units.length = m.us.length := by simp
  by_cases hmany : 30 < m.bx.length ∨ 30 < m.us.length
  · have hf : Ver.form m.mdl = ⟨5, 0, 0⟩ := Ver.form_1 (by rw [hnu]; exact hmany)
    repeat' (first | refine go (k := ?_) | (refine goB (k := ?_); intro b) | (refine goA (k := ?_); intro ao cap) | refine goQ (k := fun h => ?_) (k' := fun h => ?_) | fail)
    all_goals ((refine End.doneC1_ (()) (he := by exact where_eq hf) (hp := ?_)); trivial)
  have hmany' : ¬(30 < m.mdl.boxes.length ∨ 30 < m.mdl.units.length) := by rw [hnu]; exact hmany
  repeat (first | refine go (k := ?_) | (refine goB (k := ?_); intro b) | (refine goA (k := ?_); intro ao cap))
  rename Nat => b0
  apply Cod.loop (σ := Nat) (fun k => k ≤ m.bx.length ∧ Ver.boxes 0 m.bx = Ver.boxes k (m.bx.drop k)) (fun k => [(0, ptr cb), (2, ptr b0), (39, .slice m.bo m.bx.length m.bc), (40, .int .i64 (m.bx.length : Int)), (41, .int .i64 (k : Int))]) (fun _ => old w S :: md m :: blk b0 [.int .i64 0, .int .i64 0, .int .i64 0] 28 :: ck cb mb m) (fun k => m.bx.length - k) 0
  rotate_left
  exact sb
  exact tks
  intro s hs K hK
  (try conv => rhs; simp only [List.cons_append, List.nil_append])
  rotate_left
  · exact ⟨by omega, by simp⟩
  rename Nat => k
  obtain ⟨hk, hbx⟩ := hs
  by_cases h : k < m.bx.length
  · rw [drop_cons h] at hbx
    have hw := hwf.bx _ (getD_mem h)
    unfold ImgM.In64 at hw
    repeat' (first | ((first | (apply Run.op; exact rfl) | refine Run.yes_ (h := ?_)); refine OpT.call0_ (spec := plain_is _) (k := ?_); intro s hs; (try conv => rhs; simp only [List.cons_append, List.nil_append])) | refine go (k := ?_) | (refine goB (k := ?_); intro b) | (refine goA (k := ?_); intro ao cap) | refine goQ (k := fun h => ?_) (k' := fun h => ?_) | fail)
    · (refine End.doneC1_ (()) (he := by exact where_eq (Ver.form_2 hmany' (hbx.trans (Ver.boxes_1 (by assumption))) (by simp))) (hp := ?_))
      trivial
    · (refine End.doneC1_ (()) (he := by exact where_eq (Ver.form_2 hmany' (hbx.trans (Ver.boxes_2 (by assumption) (by omega))) (by simp))) (hp := ?_))
      trivial
    · (refine End.doneC1_ (()) (he := by exact where_eq (Ver.form_2 hmany' (hbx.trans (Ver.boxes_2 (by assumption) (by omega))) (by simp))) (hp := ?_))
      trivial
    · refine End.round0_ hK (k + 1) ?_ ?_
      · exact ⟨by omega, hbx.trans (Ver.boxes_3 (by assumption) (by omega))⟩
      · omega
  rw [List.drop_of_length_le (by omega)] at hbx
  have hb0 : (Ver.boxes 0 m.mdl.boxes).err = 0 := by rw [show Ver.boxes 0 m.mdl.boxes = _ from hbx]; rfl
  clear hbx hK
  repeat (first | refine go (k := ?_) | (refine goB (k := ?_); intro b) | (refine goA (k := ?_); intro ao cap))
  apply Cod.loop (σ := Nat × Nat) (fun s => s.1 ≤ m.us.length ∧ Ver.units m.mdl 0 m.mdl.units = Ver.units m.mdl s.1 (m.mdl.units.drop s.1) ∧ s.2 = ((m.mdl.units.take s.1).filter (fun u => decide (u.kind = 4))).length) (fun s => [(0, ptr cb), (2, ptr b0), (5, .int .i64 (s.2 : Int)), (70, .int .i64 (m.us.length : Int)), (71, .int .i64 (s.1 : Int))]) (fun _ => old w S :: md m :: blk b0 [.int .i64 0, .int .i64 0, .int .i64 0] 28 :: ck cb mb m) (fun s => m.us.length - s.1) (0, 0)
  rotate_left
  exact sb
  exact tks
  intro s hs K hK
  (try conv => rhs; simp only [List.cons_append, List.nil_append])
  rotate_left
  · exact ⟨by simp only; omega, by simp, by simp⟩
  obtain ⟨k, t⟩ := s
  obtain ⟨hk, hun, ht⟩ := hs
  simp only at hk hun ht hK ⊢
  by_cases hku : k < m.us.length
  · have hd := drop_cons (show k < m.mdl.units.length by omega)
    have htk := take_snoc (show k < m.mdl.units.length by omega)
    rw [ML.unit_at] at hd htk
    rw [hd] at hun
    have hts := Ver.tasks_snoc (u := (m.us.getD k default).u) ht
    rw [← htk] at hts
    have hwu := hwf.us _ (ML.uat_mem hku)
    have ht2 : t ≤ k := by rw [ht]; exact Nat.le_trans (List.length_filter_le _ _) (List.length_take_le _ _)
    clear ht hd htk
    repeat' (first | ((first | (apply Run.op; exact rfl) | refine Run.yes_ (h := ?_)); refine OpT.call0_ (spec := head_is cb mb m k hku hwu.locals (hsm.lo k hku)) (k := ?_); intro s hs; (try conv => rhs; simp only [List.cons_append, List.nil_append])) | refine go (k := ?_) | (refine goB (k := ?_); intro b) | (refine goA (k := ?_); intro ao cap) | refine goQ (k := fun h => ?_) (k' := fun h => ?_) | fail)
    · have hu1 := Ver.unit_1 (M := m.mdl) (k := k) (by assumption)
      (refine End.doneC1_ (()) (he := by exact where_eq (Ver.form_3 hmany' hb0 (hun.trans ((Ver.units_1 (by rw [hu1]; assumption)).trans hu1)) (by assumption))) (hp := ?_))
      trivial
    · have hh0 : Ver.head m.mdl (m.us.getD k default).u = 0 := by assumption
      have hu2 := Ver.unit_2 (M := m.mdl) (k := k) hh0
      have hlc := hsm.co k hku
      have hlen : (m.us.getD k default).u.code.length = (m.us.getD k default).u.code.length := rfl
      apply Cod.loop (σ := Nat) (fun j => j ≤ (m.us.getD k default).u.code.length ∧ Ver.instrs m.mdl (m.us.getD k default).u k 0 (m.us.getD k default).u.code = Ver.instrs m.mdl (m.us.getD k default).u k j ((m.us.getD k default).u.code.drop j)) (fun j => [(0, ptr cb), (2, ptr b0), (5, .int .i64 (t : Int)), (6, .int .i64 (k : Int)), (7, up m k), (70, .int .i64 (m.us.length : Int)), (71, .int .i64 (k : Int)), (94, .slice (m.us.getD k default).co (m.us.getD k default).u.code.length (m.us.getD k default).cc), (95, .int .i64 ((m.us.getD k default).u.code.length : Int)), (96, .int .i64 (j : Int))]) (fun _ => old w S :: md m :: blk b0 [.int .i64 0, .int .i64 0, .int .i64 0] 28 :: ck cb mb m) (fun j => (m.us.getD k default).u.code.length - j) 0
      rotate_left
      exact sb
      exact tks
      intro j hj KJ hKJ
      (try conv => rhs; simp only [List.cons_append, List.nil_append])
      rotate_left
      · exact ⟨by omega, by simp⟩
      obtain ⟨hj1, hj2⟩ := hj
      by_cases hjl : j < (m.us.getD k default).u.code.length
      · rw [drop_cons hjl] at hj2
        have hi0 : (m.us.getD k default).u.code.getD j default ∈ (m.us.getD k default).u.code := getD_mem hjl
        repeat' (first | ((first | (apply Run.op; exact rfl) | refine Run.yes_ (h := ?_)); refine OpT.call0_ (spec := instr_is cb mb m k hku _) (k := ?_); intro s hs; (try conv => rhs; simp only [List.cons_append, List.nil_append])) | refine go (k := ?_) | (refine goB (k := ?_); intro b) | (refine goA (k := ?_); intro ao cap) | refine goQ (k := fun h => ?_) (k' := fun h => ?_) | fail)
        · have hi1 := Ver.instrs_1 (M := m.mdl) (i := (m.us.getD k default).u.code.getD j default) (u := (m.us.getD k default).u) (k := k) (j := j) (r := (m.us.getD k default).u.code.drop (j + 1)) (by assumption)
          have hu3 := hu2.trans (hj2.trans hi1)
          (refine End.doneC1_ (()) (he := by exact where_eq (Ver.form_3 hmany' hb0 (hun.trans ((Ver.units_1 (by rw [hu3]; assumption)).trans hu3)) (by assumption))) (hp := ?_))
          trivial
        · refine End.round0_ hKJ (j + 1) ?_ ?_
          · exact ⟨by omega, hj2.trans (Ver.instrs_2 (by assumption))⟩
          · omega
      · have hu3 : (Ver.unit m.mdl k (m.us.getD k default).u).err = 0 := by
          rw [hu2, hj2, List.drop_of_length_le (by omega)]; rfl
        repeat' (first | refine go (k := ?_) | (refine goB (k := ?_); intro b) | (refine goA (k := ?_); intro ao cap) | refine goQ (k := fun h => ?_) (k' := fun h => ?_) | fail)
        · refine End.round0_ hK (k + 1, t + 1) ?_ ?_
          · refine ⟨by simp only; omega, hun.trans (Ver.units_2 hu3), ?_⟩
            rw [hts, if_pos (by assumption)]
          · simp only; omega
        · refine End.round0_ hK (k + 1, t) ?_ ?_
          · refine ⟨by simp only; omega, hun.trans (Ver.units_2 hu3), ?_⟩
            rw [hts, if_neg (by assumption)]
          · simp only; omega
  · rw [List.drop_of_length_le (by rw [hnu]; omega)] at hun
    rw [List.take_of_length_le (by rw [hnu]; omega)] at ht
    have hu0 : (Ver.units m.mdl 0 m.mdl.units).err = 0 := by rw [hun]; rfl
    repeat' (first | refine go (k := ?_) | (refine goB (k := ?_); intro b) | (refine goA (k := ?_); intro ao cap) | refine goQ (k := fun h => ?_) (k' := fun h => ?_) | fail)
    · (refine End.doneC1_ (()) (he := by exact where_eq (Ver.form_4 hmany' hb0 hu0 (by rw [← ht]; omega))) (hp := ?_))
      trivial
    · (refine End.doneC1_ (()) (he := by exact where_eq (Ver.form_5 hmany' hb0 hu0 (by rw [← ht]; omega))) (hp := ?_))
      trivial
end Go.Proofs.Ytfeajpghabjaaaa.Vw

/- verify's flow, walked: a unit's code. -/
namespace Go.Proofs.Ytfeajpghabjaaaa.Vw
open Go.RowKit Go.Proofs.Ytfeajpghabjaaaa.Img
set_option linter.unusedVariables false
set_option linter.unusedSimpArgs false
attribute [local irreducible] Run Cod End OpT Still RunQ RunS RunT Fn PutOk

/-- a module whose form is right -/
structure Formed (m : ML) : Prop where
  boxes : m.bx.length ≤ 30
  units : m.us.length ≤ 30
  head : ∀ k, k < m.us.length → Ver.head m.mdl (m.us.getD k default).u = 0
  instr : ∀ k, k < m.us.length → ∀ i ∈ (m.us.getD k default).u.code, Ver.instr m.mdl (m.us.getD k default).u i = 0
theorem Formed.good {m : ML} (h : Formed m) (hwf : m.Wf) {q : Nat} (hq : q < m.us.length) : Ver.Good m.mdl (m.us.getD q default).u := by
  have hu := hwf.us _ (ML.uat_mem hq)
  refine ⟨fun k hk => ?_, fun k hk => ?_, hu.locals, hu.result, hu.takes, by simpa using h.units, h.instr q hq⟩
  · have := hwf.us _ (ML.uat_mem (show k < m.us.length by simpa using hk))
    rw [ML.unit_at]
    exact ⟨this.result, this.takes⟩
  · exact (hwf.bx _ (getD_mem hk)).1
theorem ent_of {r : FR} {z : FS} {n L : Nat} (h : Ver.Inv n L (flow r z)) (p : Int) (x : SH) (hx : mfind r.ents p = some x) : x.st.length ≤ 300 ∧ (∀ t ∈ x.st, ImgM.In64 t) ∧ x.hs.length = L := by
  have := mfind_at r.ents p
  rw [hx] at this
  exact h.ent p (x.st, x.hs) this
theorem has_of {r : FR} {z : FS} {n L : Nat} (h : Ver.Inv n L (flow r z)) : r.has.length = L := h.has

theorem step_any (fb cb ab mb : Nat) (m : ML) (r : FR) (z : FS) (q : Nat) (hq : q < m.us.length) (hf : Formed m) {n : Nat} (hi : Ver.Inv n (m.us.getD q default).u.locals.length (flow r z)) (hl : z.st.length ≤ 300) (hst : ∀ t ∈ z.st, ImgM.In64 t) (hto : r.todo.length ≤ 1000000000)
    (i : ImgM.Ins) (hin : Ver.instr m.mdl (m.us.getD q default).u i = 0) : StepFn fb cb ab mb m r z q i := by
  have ho := Ver.instr_ok hin
  have hlo := (head_ok (hf.head q hq)).1
  have hhl := has_of hi
  have hent : ∀ a x, mfind r.ents a = some x → x.st.length ≤ 1000 ∧ x.hs.length = r.has.length := fun a x hx => by
    obtain ⟨h1, h2, h3⟩ := ent_of hi a x hx
    exact ⟨by omega, by rw [h3, hhl]⟩
  obtain ⟨op, a, nn⟩ := i
  obtain ⟨hop, hloc, hjmp, hcall, hstart, hbox⟩ := ho
  simp only at hop hloc hjmp hcall hstart hbox
  rcases (by omega : op = 1 ∨ op = 2 ∨ op = 3 ∨ op = 4 ∨ op = 5 ∨ op = 6 ∨ op = 7 ∨ (8 ≤ op ∧ op ≤ 12) ∨ op = 13 ∨ op = 14 ∨ (15 ≤ op ∧ op ≤ 18) ∨ op = 19 ∨ op = 20 ∨ op = 21 ∨ op = 22 ∨ op = 23 ∨ op = 24 ∨ op = 25 ∨ op = 26 ∨ op = 27 ∨ op = 28 ∨ op = 29 ∨ op = 30 ∨ op = 31 ∨ op = 32) with rfl | rfl | rfl | rfl | rfl | rfl | rfl | h | rfl | rfl | h | rfl | rfl | rfl | rfl | rfl | rfl | rfl | rfl | rfl | rfl | rfl | rfl | rfl | rfl
  · exact step_1 fb cb ab mb m r z q hq hl hst a nn
  · exact step_2 fb cb ab mb m r z q hq hl hst a nn
  · obtain ⟨h1, h2⟩ := hloc (.inl rfl)
    obtain ⟨k, rfl⟩ := Int.eq_ofNat_of_zero_le h1
    exact step_3 fb cb ab mb m r z q hq hl hst k nn (by omega) hhl
  · obtain ⟨h1, h2⟩ := hloc (.inr rfl)
    obtain ⟨k, rfl⟩ := Int.eq_ofNat_of_zero_le h1
    exact step_4 fb cb ab mb m r z q hq hl hst k nn (by omega) hhl
  · exact step_5 fb cb ab mb m r z q hq hl hst a nn
  · exact step_6 fb cb ab mb m r z q hq hl hst a nn
  · exact step_7 fb cb ab mb m r z q hq hl hst a nn
  · exact step_8 fb cb ab mb m r z q hq hl hst op a nn h
  · exact step_13 fb cb ab mb m r z q hq hl hst a nn
  · exact step_14 fb cb ab mb m r z q hq hl hst a nn
  · exact step_15 fb cb ab mb m r z q hq hl hst op a nn h
  · exact step_19 fb cb ab mb m r z q hq hl hst a nn
  · exact step_20 fb cb ab mb m r z q hq hl hst a nn
  · exact step_21 fb cb ab mb m r z q hq hl hst a nn (by omega) hto (hent a)
  · exact step_22 fb cb ab mb m r z q hq hl hst a nn (by omega) hto (hent a)
  · obtain ⟨k, rfl, hk, -⟩ := isUnit_ok (hcall rfl)
    have hk : k < m.us.length := by simpa using hk
    exact step_23 fb cb ab mb m r z q hq hl hst _ _ _ (by omega) (special_23 fb cb ab mb m r z q hq hl hst k nn hk (hf.head k hk))
  · exact step_23 fb cb ab mb m r z q hq hl hst _ _ _ (by omega) (special_24 fb cb ab mb m r z q hq hl hst a nn)
  · exact step_23 fb cb ab mb m r z q hq hl hst _ _ _ (by omega) (special_25 fb cb ab mb m r z q hq hl hst a nn)
  · obtain ⟨h1, h2⟩ := hbox (.inl rfl)
    obtain ⟨k, rfl⟩ := Int.eq_ofNat_of_zero_le h1
    exact step_23 fb cb ab mb m r z q hq hl hst _ _ _ (by omega) (special_26 fb cb ab mb m r z q hq hl hst k nn (by omega))
  · obtain ⟨h1, h2⟩ := hbox (.inr rfl)
    obtain ⟨k, rfl⟩ := Int.eq_ofNat_of_zero_le h1
    exact step_23 fb cb ab mb m r z q hq hl hst _ _ _ (by omega) (special_27 fb cb ab mb m r z q hq hl hst k nn (by omega))
  · exact step_23 fb cb ab mb m r z q hq hl hst _ _ _ (by omega) (special_28 fb cb ab mb m r z q hq hl hst a nn)
  · obtain ⟨k, rfl, hk, -⟩ := isUnit_ok (hstart rfl)
    have hk : k < m.us.length := by simpa using hk
    exact step_23 fb cb ab mb m r z q hq hl hst _ _ _ (by omega) (special_29 fb cb ab mb m r z q hq hl hst k nn hk hf.units (hf.head k hk))
  · exact step_23 fb cb ab mb m r z q hq hl hst _ _ _ (by omega) (special_30 fb cb ab mb m r z q hq hl hst a nn)
  · exact step_23 fb cb ab mb m r z q hq hl hst _ _ _ (by omega) (special_31 fb cb ab mb m r z q hq hl hst a nn)
  · exact step_23 fb cb ab mb m r z q hq hl hst _ _ _ (by omega) (special_32 fb cb ab mb m r z q hq hl hst a nn)
end Go.Proofs.Ytfeajpghabjaaaa.Vw

/- verify's flow, walked: a unit's code. -/
namespace Go.Proofs.Ytfeajpghabjaaaa.Vw
open Go.RowKit Go.Proofs.Ytfeajpghabjaaaa.Img
set_option linter.unusedVariables false
set_option linter.unusedSimpArgs false
attribute [local irreducible] Run Cod End OpT Still RunQ RunS RunT Fn PutOk

/-- the parameters have something, the other locals not -/
def has0 (L p : Nat) : List Bool := List.replicate p true ++ List.replicate (L - p) false
theorem has0_len {L p : Nat} (h : p ≤ L) : (has0 L p).length = L := by simp [has0]; omega
theorem has0_set {L p : Nat} (h : p < L) : (has0 L p).set p true = has0 L (p + 1) := by
  unfold has0
  rw [List.set_append_right _ _ (by simp)]
  obtain ⟨j, hj⟩ : ∃ j, L - p = j + 1 := ⟨L - p - 1, by omega⟩
  rw [hj, show L - (p + 1) = j by omega, List.replicate_succ' (n := p)]
  simp [List.replicate_succ]

theorem ix_zero : (0 : Int) = ((0 : Nat) : Int) := rfl
theorem nil_or_cons (l : List Int) : l = [] ∨ ∃ p r, l = p :: r := by cases l <;> simp

set_option maxRecDepth 100000 in
theorem code_is (cb mb : Nat) (m : ML) (q : Nat) (hq : q < m.us.length) (hf : Formed m) (hwf : m.Wf) : Fn Try.prog 23 #[ptr cb, .int .i64 (q : Int)] [md m] (ck cb mb m) (σ := Unit) (fun _ => True) (fun _ => whereV (Ver.code m.mdl q)) (fun _ => ck cb mb m) := by
  obtain ⟨h1, h2, h3, h4, h5, h6⟩ := head_ok (hf.head q hq)
  have hgood := hf.good hwf hq
  obtain ⟨W, hW⟩ : ∃ W, W = Ver.code m.mdl q := ⟨_, rfl⟩
  rw [← hW]
  unfold Ver.code at hW
  rw [ML.unit_at] at hW
  refine Fn.enter (args := [ptr cb, .int .i64 (q : Int)]) Try.func23 rfl _ Try.ntmps23 rfl (by simp [rd_excl, md_excl]) (fun w S => ?_)
  (try conv => rhs; simp only [List.cons_append, List.nil_append])
  have hlc : ((m.us.getD q default).u.locals.length : Int) = ((m.us.getD q default).u.locals.length : Nat) := rfl
  obtain ⟨P, hP⟩ : ∃ P : Nat, (m.us.getD q default).u.params = (P : Int) := Int.eq_ofNat_of_zero_le h2
  generalize hL : (m.us.getD q default).u.locals.length = L at *
  repeat (first | refine go (k := ?_) | (refine goB (k := ?_); intro b) | (refine goA (k := ?_); intro ao cap))
  obtain ⟨wb, rfl⟩ : ∃ x, x = b := ⟨_, rfl⟩
  apply Run.op (by exact rfl)
  refine OpT.makeMap_ shV (k := ?_)
  intro ab
  repeat (first | refine go (k := ?_) | (refine goB (k := ?_); intro b) | (refine goA (k := ?_); intro ao cap))
  obtain ⟨fb, rfl⟩ : ∃ x, x = b := ⟨_, rfl⟩
  apply Run.op (by exact rfl)
  refine OpT.makeSlice_ (f := boolc) (iα := inferInstance) (ef := inferInstance) (z := false) (n := L) (hj := by rw [hL]) (hj' := by rw [hL]) (k := ?_)
  intro hb
  repeat (first | refine go (k := ?_) | (refine goB (k := ?_); intro b) | (refine goA (k := ?_); intro ao cap))
  apply Cod.imp (fun w hm => ((hm.nilArr 3 i64c).nilArr 3 i64c).bagNil)
  apply Cod.loop (σ := Nat) (fun k => k ≤ P) (fun k => [(0, ptr cb), (1, .int .i64 (q : Int)), (4, ptr wb), (5, up m q), (6, ptr fb), (36, .int .i64 (m.us.getD q default).u.params), (37, .int .i64 (k : Int))]) (fun k => [old w S, md m, blk cb [.pointer (some ⟨mb, 0, none⟩)] 61, blk mb [.slice m.bo m.bx.length m.bc, .slice m.uo m.us.length m.uc] 25, blk wb [.int .i64 0, .int .i64 0, .int .i64 0] 28, blk fb [ptr cb, up m q, .map (some ab), .slice none 0 0, .slice none 0 0, .slice (some ⟨hb, 0, none⟩) L L, .int .i64 0] 93, arr none 0 0 3 i64c [], arr none 0 0 3 i64c [], arr (some ⟨hb, 0, none⟩) L L 4 boolc (has0 L k), mp ab shV [], bag []]) (fun k => P - k) 0
  rotate_left
  exact sb
  exact tks
  intro k hs K1 hK1
  (try conv => rhs; simp only [List.cons_append, List.nil_append])
  rotate_left
  · exact Nat.zero_le _
  by_cases hk : k < P
  · repeat (first | refine go (k := ?_) | (refine goB (k := ?_); intro b) | (refine goA (k := ?_); intro ao cap))
    apply Run.op (by exact rfl)
    refine OpT.storeE_ (a' := true) (k := ?_)
    rw [has0_set (show k < L by omega)]
    repeat (first | refine go (k := ?_) | (refine goB (k := ?_); intro b) | (refine goA (k := ?_); intro ao cap))
    refine End.round0_ hK1 (k + 1) ?_ ?_
    · omega
    · omega
  obtain rfl : k = P := by omega
  clear hK1 hs hk
  have hL0 : (has0 L k).length = L := has0_len (by omega)
  have hst : Ver.start (m.us.getD q default).u = Ver.to (m.us.getD q default).u.code.length 0 (flow (⟨[], [], none, 0, has0 L k, some ⟨hb, 0, none⟩, L⟩ : FR) (⟨[], none, 0, 0⟩ : FS)) := by
    unfold Ver.start
    rw [hP, hL, Int.toNat_natCast]
    rfl
  rw [hst] at hW
  have hinv0 : Ver.Inv (m.us.getD q default).u.code.length L (flow (⟨[], [], none, 0, has0 L k, some ⟨hb, 0, none⟩, L⟩ : FR) (⟨[], none, 0, 0⟩ : FS)) :=
    ⟨hL0, (fun p s h => by cases h), (fun p h => by cases h)⟩
  have hw0 := Ver.to_went hinv0 (p := 0) (by omega) (by omega) (fun _ => Nat.zero_le _) (fun t h => by cases h)
  have he0 : (Ver.to (m.us.getD q default).u.code.length 0 (flow (⟨[], [], none, 0, has0 L k, some ⟨hb, 0, none⟩, L⟩ : FR) (⟨[], none, 0, 0⟩ : FS))).err = 0 := by
    unfold Ver.to
    rw [if_neg (fun h => h rfl), if_neg (by omega)]
    rfl
  have hmu0 := hw0.mu
  have hst0 := hw0.stack
  have hm0 : Ver.most (m.us.getD q default).u = 2 * ((m.us.getD q default).u.code.length * (L + 1)) + 1 := by unfold Ver.most; rw [hL]
  have hcl : (m.us.getD q default).u.code.length * (L + 1) ≤ 4000 * 201 := Nat.mul_le_mul h6 (by omega)
  repeat (first | refine go (k := ?_) | (refine goB (k := ?_); intro b) | (refine goA (k := ?_); intro ao cap))
  ((first | (apply Run.op; exact rfl) | refine Run.yes_ (h := ?_)); refine OpT.call0_ (spec := to_is fb cb ab m q hq ⟨[], [], none, 0, has0 L k, some ⟨hb, 0, none⟩, L⟩ ⟨[], none, 0, 0⟩ 0 (by simp) (by show (has0 L k).length ≤ 1000; omega) (by simp) (fun x h => by cases h)) (t := by (repeat (first | exact Takes.nil | exact Take.head | (refine Take.blkEq ?_; (focus (first | rfl | (simp; done) | (simp; omega) | omega | (simp [*]; done)))) | (refine Take.arrEq ?_ ?_; (focus (first | rfl | (simp; done) | (simp; omega) | omega | (simp [*]; done))); (focus (first | rfl | (simp; done) | (simp; omega) | omega | (simp [*]; done)))) | apply Take.tail | apply Takes.cons))) (k := ?_); intro s hs; (try conv => rhs; simp only [List.cons_append, List.nil_append]))
  rw [← hs] at hW hw0 he0 hmu0 hst0
  clear hs hst
  obtain ⟨r, z⟩ := s
  have hmu1 : r.todo.length + Ver.room (m.us.getD q default).u.code.length L (flow r z).at_ ≤ (m.us.getD q default).u.code.length * (L + 1) := by
    rw [← Ver.room_nil]
    have : (flow r z).todo.length + Ver.room (m.us.getD q default).u.code.length L (flow r z).at_ ≤ 0 + Ver.room (m.us.getD q default).u.code.length L [] := hmu0
    rw [Nat.zero_add] at this
    exact this
  have hzl : z.st.length ≤ 301 := by
    have : z.st = [] := hst0
    rw [this]; simp
  repeat (first | refine go (k := ?_) | (refine goB (k := ?_); intro b) | (refine goA (k := ?_); intro ao cap))
  apply Cod.loop (σ := FR × FS × Nat) (fun s => Ver.Inv (m.us.getD q default).u.code.length L (flow s.1 s.2.1) ∧ s.2.1.err = 0 ∧ s.2.1.st.length ≤ 301 ∧ W = Ver.run m.mdl (m.us.getD q default).u q s.2.2 (flow s.1 s.2.1) ∧ s.1.todo.length + Ver.room (m.us.getD q default).u.code.length L (flow s.1 s.2.1).at_ ≤ s.2.2 ∧ s.2.2 ≤ 2000000) (fun s => [(0, ptr cb), (1, .int .i64 (q : Int)), (4, ptr wb), (5, up m q), (6, ptr fb)]) (fun s => old w S :: md m :: blk wb [.int .i64 0, .int .i64 0, .int .i64 0] 28 :: (fa fb cb ab (up m q) s.1 s.2.1 ++ ck cb mb m)) (fun s => s.2.2) (r, z, Ver.most (m.us.getD q default).u)
  rotate_left
  exact sb
  exact tks
  intro s hs KM hKM
  (try conv => rhs; simp only [List.cons_append, List.nil_append])
  rotate_left
  · exact ⟨hw0.inv, he0, hzl, hW, by simp only; omega, by simp only; omega⟩
  clear hW hw0 he0 hmu0 hst0 hmu1 hzl r z hinv0
  obtain ⟨r, z, fuel⟩ := s
  obtain ⟨hinv, he, hzl, hW, hmu, hfu⟩ := hs
  simp only at hinv he hzl hW hmu hfu hKM ⊢
  rcases nil_or_cons r.todo with hT | ⟨p, rest, hT⟩
  · have hWo : W = ⟨0, 0, 0⟩ := by
      rw [hW]
      cases fuel with
      | zero => rfl
      | succ j => unfold Ver.run; rw [show (flow r z).todo = [] from hT]; rfl
    have hlen : r.todo.length = 0 := by rw [hT]; rfl
    repeat (first | refine go (k := ?_) | (refine goB (k := ?_); intro b) | (refine goA (k := ?_); intro ao cap))
    (refine End.doneC1_ (()) (he := by exact where_eq hWo) (hp := ?_))
    trivial
  · have hlen : r.todo.length = rest.length + 1 := by rw [hT]; rfl
    have hgp : r.todo.getD 0 default = p := by rw [hT]; rfl
    have hdp : r.todo.drop 1 = rest := by rw [hT]; rfl
    obtain ⟨j, rfl⟩ : ∃ j, fuel = j + 1 := ⟨fuel - 1, by omega⟩
    obtain ⟨hp0, hpn, hps⟩ := hinv.todo p (by rw [show (flow r z).todo = _ from hT]; exact List.mem_cons_self)
    have hx0 : Ver.find (flow r z).at_ p = (mfind r.ents p).map fun x => (x.st, x.hs) := mfind_at r.ents p
    obtain ⟨x, hx⟩ : ∃ x, mfind r.ents p = some x := by
      rw [hx0] at hps
      cases hm : mfind r.ents p with
      | none => rw [hm] at hps; cases hps
      | some x => exact ⟨x, rfl⟩
    rw [hx] at hx0
    simp only [Option.map_some] at hx0
    obtain ⟨g1, g2, g3⟩ := hinv.ent p _ hx0
    simp only at g1 g2 g3
    have hmem := inner_mem r.ents p x hx
    have hm1 : arr x.so x.st.length x.sc 3 i64c x.st ∈ inner r.ents := hmem _ (by simp)
    have hm2 : arr x.ho x.hs.length x.hc 4 boolc x.hs ∈ inner r.ents := hmem _ (by simp)
    have hin : Ver.instr m.mdl (m.us.getD q default).u ((m.us.getD q default).u.code.getD p.toNat default) = 0 := hf.instr q hq _ (getD_mem (by omega))
    rw [← hgp] at hx hin hp0 hpn
    have hrun : W = if (Ver.round m.mdl (m.us.getD q default).u p rest (flow r z)).err ≠ 0 then ⟨(Ver.round m.mdl (m.us.getD q default).u p rest (flow r z)).err, q, p⟩ else Ver.run m.mdl (m.us.getD q default).u q j (Ver.round m.mdl (m.us.getD q default).u p rest (flow r z)) := by
      rw [hW]
      conv => lhs; unfold Ver.run
      rw [show (flow r z).todo = p :: rest from hT]
    clear hW
    repeat (first | refine go (k := ?_) | (refine goB (k := ?_); intro b) | (refine goA (k := ?_); intro ao cap))
    (apply Run.op; exact rfl; refine OpT.val_ (h := by (apply Still.at_; exact rfl; exact rfl; (first | (apply Rdb.arr; focus ((repeat (first | exact Take.head | apply Take.tail)); done)) | (apply Rdb.rd; focus ((repeat (first | exact Take.head | apply Take.tail)); done)) | (apply Rdb.md_units; focus ((repeat (first | exact Take.head | apply Take.tail)); done)) | (apply Rdb.md_boxes; focus ((repeat (first | exact Take.head | apply Take.tail)); done)) | (apply Rdb.md_code; (focus ((repeat (first | exact Take.head | apply Take.tail)); done)); (focus (first | assumption | omega))) | (apply Rdb.md_locals; (focus ((repeat (first | exact Take.head | apply Take.tail)); done)); (focus (first | assumption | omega))) | (apply Rdb.old; (focus assumption); (focus ((repeat (first | exact Take.head | apply Take.tail)); done)))); exact rfl; exact rfl; exact rfl; exact ix_zero; omega)) (k := ?_))
    repeat (first | refine go (k := ?_) | (refine goB (k := ?_); intro b) | (refine goA (k := ?_); intro ao cap))
    (apply Run.op; exact rfl; refine OpT.call0_ (spec := copied_is x (by omega) (by omega)) (k := ?_); intro s hs; (try conv => rhs; simp only [List.cons_append, List.nil_append]))
    obtain ⟨y, rfl⟩ : ∃ y, y = s := ⟨_, rfl⟩
    obtain ⟨hy1, hy2⟩ := hs
    repeat (first | refine go (k := ?_) | (refine goB (k := ?_); intro b) | (refine goA (k := ?_); intro ao cap))
    have hfl : flow ⟨r.ents, r.todo.drop 1, ao, cap, y.hs, y.ho, y.hc⟩ ⟨y.st, y.so, y.sc, z.err⟩ = { flow r z with todo := rest, stack := x.st, has := x.hs } := by
      unfold flow; simp only [hy1, hy2, hdp]; rfl
    have hinv1 : Ver.Inv (m.us.getD q default).u.code.length L (flow ⟨r.ents, r.todo.drop 1, ao, cap, y.hs, y.ho, y.hc⟩ ⟨y.st, y.so, y.sc, z.err⟩) := by
      rw [hfl]
      exact ⟨g3, hinv.ent, fun t ht => hinv.todo t (by rw [show (flow r z).todo = _ from hT]; exact List.mem_cons_of_mem _ ht)⟩
    have hyl : y.st.length ≤ 300 := by rw [hy1]; exact g1
    have hyt : ∀ t ∈ y.st, ImgM.In64 t := by rw [hy1]; exact g2
    have hgone := Ver.step_gone hgood (Ver.instr_ok hin) rfl hL.symm hinv1 hyl hyt
    have hround : Ver.round m.mdl (m.us.getD q default).u p rest (flow r z) = if (Ver.step m.mdl (m.us.getD q default).u ((m.us.getD q default).u.code.getD (r.todo.getD 0 default).toNat default) (flow ⟨r.ents, r.todo.drop 1, ao, cap, y.hs, y.ho, y.hc⟩ ⟨y.st, y.so, y.sc, z.err⟩)).1 = true then Ver.to (m.us.getD q default).u.code.length (p + 1) (Ver.step m.mdl (m.us.getD q default).u ((m.us.getD q default).u.code.getD (r.todo.getD 0 default).toNat default) (flow ⟨r.ents, r.todo.drop 1, ao, cap, y.hs, y.ho, y.hc⟩ ⟨y.st, y.so, y.sc, z.err⟩)).2 else (Ver.step m.mdl (m.us.getD q default).u ((m.us.getD q default).u.code.getD (r.todo.getD 0 default).toNat default) (flow ⟨r.ents, r.todo.drop 1, ao, cap, y.hs, y.ho, y.hc⟩ ⟨y.st, y.so, y.sc, z.err⟩)).2 := by
      unfold Ver.round
      rw [hx0, hfl, hgp]
      rfl
    have hmu1 : (flow ⟨r.ents, r.todo.drop 1, ao, cap, y.hs, y.ho, y.hc⟩ ⟨y.st, y.so, y.sc, z.err⟩).todo.length + Ver.room (m.us.getD q default).u.code.length L (flow ⟨r.ents, r.todo.drop 1, ao, cap, y.hs, y.ho, y.hc⟩ ⟨y.st, y.so, y.sc, z.err⟩).at_ ≤ j := by
      rw [hfl]
      have : (flow r z).at_ = ({ flow r z with todo := rest, stack := x.st, has := x.hs } : Ver.Flow).at_ := rfl
      rw [this] at hmu
      simp only at hmu ⊢
      omega
    have hdl : (r.todo.drop 1).length ≤ 1000000000 := by rw [hdp]; omega
    ((first | (apply Run.op; exact rfl) | refine Run.yes_ (h := ?_)); refine OpT.call0_ (spec := step_any fb cb ab mb m ⟨r.ents, r.todo.drop 1, ao, cap, y.hs, y.ho, y.hc⟩ ⟨y.st, y.so, y.sc, z.err⟩ q hq hf (by rw [hL]; exact hinv1) hyl hyt hdl _ hin) (t := by (repeat (first | exact Takes.nil | exact Take.head | (refine Take.blkEq ?_; (focus (first | rfl | (simp; done) | (simp; omega) | omega | (simp [*]; done)))) | (refine Take.arrEq ?_ ?_; (focus (first | rfl | (simp; done) | (simp; omega) | omega | (simp [*]; done))); (focus (first | rfl | (simp; done) | (simp; omega) | omega | (simp [*]; done)))) | apply Take.tail | apply Takes.cons))) (k := ?_); intro s hs; (try conv => rhs; simp only [List.cons_append, List.nil_append]))
    obtain ⟨G, hG⟩ : ∃ G, G = Ver.step m.mdl (m.us.getD q default).u ((m.us.getD q default).u.code.getD (r.todo.getD 0 default).toNat default) (flow ⟨r.ents, r.todo.drop 1, ao, cap, y.hs, y.ho, y.hc⟩ ⟨y.st, y.so, y.sc, z.err⟩) := ⟨_, rfl⟩
    rw [← hG] at hs hround hgone
    obtain ⟨b1, g⟩ := G
    simp only at hs hround hgone
    apply Run.look (d := 88) (v' := .bool b1) (by exact rfl) (by rw [← hG])
    clear hG
    have hsl : s.2.st.length ≤ 301 := by
      have : s.2.st = g.stack := congrArg Ver.Flow.stack hs
      rw [this]; exact hgone.len
    have hsi : Ver.Inv (m.us.getD q default).u.code.length L (flow s.1 s.2) := by rw [hs]; exact hgone.inv
    have hsm : s.1.todo.length + Ver.room (m.us.getD q default).u.code.length L (flow s.1 s.2).at_ ≤ j := by
      have := hgone.mu
      rw [← hs] at this
      exact Nat.le_trans this hmu1
    cases b1 with
    | true =>
      rw [if_pos rfl] at hround
      have hsh := hsi.has
      have hw2 := Ver.to_went hsi (p := p + 1) (by omega) (by omega) (by rw [hs]; exact hgone.ok) (by rw [hs]; exact hgone.ty)
      rw [← hs] at hround
      repeat (first | refine go (k := ?_) | (refine goB (k := ?_); intro b) | (refine goA (k := ?_); intro ao cap))
      obtain ⟨s1, rfl⟩ : ∃ s1, s1 = s := ⟨_, rfl⟩
      have hent1 : ∀ x, mfind s1.1.ents (r.todo.getD 0 default + 1) = some x → x.st.length ≤ 1000 ∧ x.hs.length = s1.1.has.length := fun x hx => by
        obtain ⟨q1, q2, q3⟩ := ent_of hsi _ x hx
        exact ⟨by omega, by rw [q3]; exact hsh.symm⟩
      have hsh1 : s1.1.has.length ≤ 1000 := by rw [show s1.1.has.length = L from hsh]; omega
      have hs1 := hs
      clear hs
      ((first | (apply Run.op; exact rfl) | refine Run.yes_ (h := ?_)); refine OpT.call0_ (spec := to_is fb cb ab m q hq s1.1 s1.2 (r.todo.getD 0 default + 1) (by omega) hsh1 (by omega) hent1) (t := by (repeat (first | exact Takes.nil | exact Take.head | (refine Take.blkEq ?_; (focus (first | rfl | (simp; done) | (simp; omega) | omega | (simp [*]; done)))) | (refine Take.arrEq ?_ ?_; (focus (first | rfl | (simp; done) | (simp; omega) | omega | (simp [*]; done))); (focus (first | rfl | (simp; done) | (simp; omega) | omega | (simp [*]; done)))) | apply Take.tail | apply Takes.cons))) (k := ?_); intro s hs; (try conv => rhs; simp only [List.cons_append, List.nil_append]))
      rw [hgp] at hs
      have hfin : Ver.Inv (m.us.getD q default).u.code.length L (flow s.1 s.2) ∧ s.2.st.length ≤ 301 ∧ s.1.todo.length + Ver.room (m.us.getD q default).u.code.length L (flow s.1 s.2).at_ ≤ j := by
        have e1 : s.2.st = (flow s1.1 s1.2).stack := (congrArg Ver.Flow.stack hs).trans hw2.stack
        refine ⟨by rw [hs]; exact hw2.inv, by rw [e1]; exact hsl, ?_⟩
        have := hw2.mu
        rw [← hs] at this
        exact Nat.le_trans this hsm
      rw [← hs] at hround
      clear hs
      have hrd := hround
      by_cases he2 : s.2.err = 0
      · rw [if_neg (fun h => h (show (Ver.round m.mdl (m.us.getD q default).u p rest (flow r z)).err = 0 by rw [hround]; exact he2)), hround] at hrun
        repeat (first | refine go (k := ?_) | (refine goB (k := ?_); intro b) | (refine goA (k := ?_); intro ao cap))
        refine End.round0_ hKM (s.1, s.2, j) ?_ ?_
        · exact ⟨hfin.1, he2, hfin.2.1, hrun, by simp only; exact hfin.2.2, by simp only; omega⟩
        · simp only; omega
      · rw [if_pos (show (Ver.round m.mdl (m.us.getD q default).u p rest (flow r z)).err ≠ 0 by rw [hround]; exact he2), hround] at hrun
        repeat (first | refine go (k := ?_) | (refine goB (k := ?_); intro b) | (refine goA (k := ?_); intro ao cap))
        (refine End.doneC1_ (()) (he := by refine where_eq (hrun.trans ?_); rw [hgp]; rfl) (hp := ?_))
        trivial
    | false =>
      rw [if_neg (by decide)] at hround
      rw [← hs] at hround
      have hfin := And.intro hsi (And.intro hsl hsm)
      by_cases he2 : s.2.err = 0
      · rw [if_neg (fun h => h (show (Ver.round m.mdl (m.us.getD q default).u p rest (flow r z)).err = 0 by rw [hround]; exact he2)), hround] at hrun
        repeat (first | refine go (k := ?_) | (refine goB (k := ?_); intro b) | (refine goA (k := ?_); intro ao cap))
        refine End.round0_ hKM (s.1, s.2, j) ?_ ?_
        · exact ⟨hfin.1, he2, hfin.2.1, hrun, by simp only; exact hfin.2.2, by simp only; omega⟩
        · simp only; omega
      · rw [if_pos (show (Ver.round m.mdl (m.us.getD q default).u p rest (flow r z)).err ≠ 0 by rw [hround]; exact he2), hround] at hrun
        repeat (first | refine go (k := ?_) | (refine goB (k := ?_); intro b) | (refine goA (k := ?_); intro ao cap))
        (refine End.doneC1_ (()) (he := by refine where_eq (hrun.trans ?_); rw [hgp]; rfl) (hp := ?_))
        trivial
end Go.Proofs.Ytfeajpghabjaaaa.Vw
