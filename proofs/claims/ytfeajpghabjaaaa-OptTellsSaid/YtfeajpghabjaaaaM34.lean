/- yieldref7.Code, a round: what an instruction wants. -/
import Derived.Test.YtfeajpghabjaaaaM33
namespace Go.Proofs.Ytfeajpghabjaaaa.Vw
open Go.RowKit Go.Proofs.Ytfeajpghabjaaaa.Img
set_option linter.unusedVariables false
set_option linter.unusedSimpArgs false
attribute [local irreducible] Run Cod End OpT Still RunQ RunS RunT Fn PutOk
section
variable (m : ML) (q : Nat) (mb kb wb ub zb : Nat) (l : List Sn) (p : Nat) (w : World) (S : Nat → Prop) (Q : Exit → Act → World → Prop)
theorem letter_tn {m : ML} (hu : m.mdl.units.length ≤ 30) {t : Int} (ht : Rf7.VT m.mdl t) (h1 : ¬ Rf7.lt1 t = 110) (h2 : ¬ Rf7.lt1 t = 98) : ∃ tn : Nat, tn < m.us.length ∧ (Rf7.lt1 t).toNat = 65 + tn ∧ (m.us.getD tn default).u.kind = 3 := by
  have hr := ht.rng hu
  obtain ⟨a1, a2⟩ := Rf7.lt1_pl hr
  have g : Ver.handle m.mdl t = true := by
    rcases ht with h | h | h
    · exact absurd (a1.2 h) h1
    · exact absurd (a2.2 h) h2
    · exact h
  obtain ⟨g1, g2, g3⟩ := Rf7.handle_iff.1 g
  have e := Rf7.lt1_nat (t := t) (by omega)
  refine ⟨(t - 10).toNat, by have : m.mdl.units.length = m.us.length := by simp
                             omega, by omega, ?_⟩
  rw [m.unit_at] at g3
  exact g3
set_option maxRecDepth 100000 in
set_option maxHeartbeats 1000000 in
theorem code7_w (hQ : PutOk Q) (hwf : m.Wf) (hF : Formed m) (hB : ∀ k, k < m.bx.length → (m.bx.getD k default).1 = 1 ∨ (m.bx.getD k default).1 = 2) (hq : q < m.us.length) (to_ : Option Addr) (tc : Nat) (rest : List Int) (i : ImgM.Ins) (hi : Ver.InsOk m.mdl (m.us.getD q default).u i) (h : List Bool) (st : List UInt8) (ab ib : Nat) (no : Option Addr) (nc : Nat)
    (h24 : i.op = 24 → (m.us.getD q default).u.kind = 2) (h31 : i.op = 31 → (m.us.getD q default).u.kind = 3) (hl : st.length ≤ 300) (hst : ∀ g ∈ st, ∃ t, Rf7.VT m.mdl t ∧ g = Rf7.lt1 t)
    (h8 : (Rf7.want7 m.mdl (m.us.getD q default).u i st).1 ≠ 0 → Rets Q w S wb q p (Rf7.want7 m.mdl (m.us.getD q default).u i st).1)
    (hN : (Rf7.want7 m.mdl (m.us.getD q default).u i st).1 = 0 → Cod Try.prog Q 308 rnW ((15, sv (Rf7.want7 m.mdl (m.us.getD q default).u i st).2.1) :: (16, sv (Rf7.want7 m.mdl (m.us.getD q default).u i st).2.2) :: (E7 mb kb wb ub zb l.length to_ tc rest.length ++ F7 kb ab ib no nc h.length st)) (M7 m q mb kb wb ub zb l to_ tc rest w S ++ N7 ab ib p i no nc h)) :
    Cod Try.prog Q 308 rnB (E7 mb kb wb ub zb l.length to_ tc rest.length ++ F7 kb ab ib no nc h.length st) (M7 m q mb kb wb ub zb l to_ tc rest w S ++ N7 ab ib p i no nc h) := by
  show Cod _ _ _ (Code.seq (sl rnB) (Code.seq (sl (sr rnB)) rnW)) _ _
  generalize rnW = y at hN ⊢
  dsimp only [M7, E7, N7, F7, List.cons_append, List.nil_append]
  have hu30 := hF.units
  have hun : m.mdl.units.length = m.us.length := by simp
  obtain ⟨R, hR⟩ : ∃ R, R = Rf7.want7 m.mdl (m.us.getD q default).u i st := ⟨_, rfl⟩
  rw [← hR] at h8 hN
  repeat (first | (apply Run.op; exact rfl; refine OpT.val_ (h := by (first | exact Still.sEql rfl rfl | exact Still.sNeq rfl rfl | exact Still.sLen rfl rfl | exact Still.sAdd rfl rfl (by omega) (by omega))) (k := ?_)) | (refine Run.yes_ (h := ?_); refine OpT.val_ (h := by (first | exact Still.sEql rfl rfl | exact Still.sNeq rfl rfl | exact Still.sLen rfl rfl | exact Still.sAdd rfl rfl (by omega) (by omega))) (k := ?_)) | (refine RunQ.val_ (h := by (first | exact Still.sEql rfl rfl | exact Still.sNeq rfl rfl | exact Still.sLen rfl rfl | exact Still.sAdd rfl rfl (by omega) (by omega))) (k := ?_)) | (refine RunQ.yes_ (h := by (first | exact Still.sEql rfl rfl | exact Still.sNeq rfl rfl | exact Still.sLen rfl rfl | exact Still.sAdd rfl rfl (by omega) (by omega))) (k := ?_)) | refine go (k := ?_) | (refine goB (k := ?_); intro b) | (refine goA (k := ?_); intro ao cap))
  (first | (apply Run.op; exact rfl) | refine Run.yes_ (h := ?_)); refine OpT.call0_ (spec := needs7_is m hwf hF hB q hq i hi h24 h31) (k := ?_); intro s hs; (try conv => rhs; simp only [List.cons_append, List.nil_append])
  by_cases o30 : i.op = 30
  · have e0 : Rf7.want7 m.mdl (m.us.getD q default).u i st = if st.length < 2 then (12, [], []) else if st.getD (st.length - 2) 0 = 110 ∨ st.getD (st.length - 2) 0 = 98 then (9, [], []) else (0, [st.getD (st.length - 2) 0, Rf7.lt1 (m.mdl.units.getD ((st.getD (st.length - 2) 0).toNat - 65) default).takes], [Rf7.lt1 (m.mdl.units.getD ((st.getD (st.length - 2) 0).toNat - 65) default).result]) := by
      unfold Rf7.want7
      rw [if_pos (.inl o30)]
      simp only [o30, if_true]
    rw [e0] at hR
    by_cases c2 : st.length < 2
    · rw [if_pos c2] at hR
      subst hR
      repeat (first | (apply Run.op; exact rfl; refine OpT.val_ (h := by (first | exact Still.sEql rfl rfl | exact Still.sNeq rfl rfl | exact Still.sLen rfl rfl | exact Still.sAdd rfl rfl (by omega) (by omega))) (k := ?_)) | (refine Run.yes_ (h := ?_); refine OpT.val_ (h := by (first | exact Still.sEql rfl rfl | exact Still.sNeq rfl rfl | exact Still.sLen rfl rfl | exact Still.sAdd rfl rfl (by omega) (by omega))) (k := ?_)) | (refine RunQ.val_ (h := by (first | exact Still.sEql rfl rfl | exact Still.sNeq rfl rfl | exact Still.sLen rfl rfl | exact Still.sAdd rfl rfl (by omega) (by omega))) (k := ?_)) | (refine RunQ.yes_ (h := by (first | exact Still.sEql rfl rfl | exact Still.sNeq rfl rfl | exact Still.sLen rfl rfl | exact Still.sAdd rfl rfl (by omega) (by omega))) (k := ?_)) | refine go (k := ?_) | (refine goB (k := ?_); intro b) | (refine goA (k := ?_); intro ao cap))
      (first | (apply Run.op; exact rfl) | refine Run.yes_ (h := ?_)); refine OpT.call_ (spec := bad7_is kb ab q p 12) (k := ?_); intro s hs; (try conv => rhs; simp only [List.cons_append, List.nil_append])
      repeat (first | (apply Run.op; exact rfl; refine OpT.val_ (h := by (first | exact Still.sEql rfl rfl | exact Still.sNeq rfl rfl | exact Still.sLen rfl rfl | exact Still.sAdd rfl rfl (by omega) (by omega))) (k := ?_)) | (refine Run.yes_ (h := ?_); refine OpT.val_ (h := by (first | exact Still.sEql rfl rfl | exact Still.sNeq rfl rfl | exact Still.sLen rfl rfl | exact Still.sAdd rfl rfl (by omega) (by omega))) (k := ?_)) | (refine RunQ.val_ (h := by (first | exact Still.sEql rfl rfl | exact Still.sNeq rfl rfl | exact Still.sLen rfl rfl | exact Still.sAdd rfl rfl (by omega) (by omega))) (k := ?_)) | (refine RunQ.yes_ (h := by (first | exact Still.sEql rfl rfl | exact Still.sNeq rfl rfl | exact Still.sLen rfl rfl | exact Still.sAdd rfl rfl (by omega) (by omega))) (k := ?_)) | refine go (k := ?_) | (refine goB (k := ?_); intro b) | (refine goA (k := ?_); intro ao cap))
      exact h8 (by decide) _ _ _ _ rfl tk tks
    rw [if_neg c2] at hR
    obtain ⟨t, ht, hgt⟩ := hst (st.getD (st.length - 2) 0) (by rw [List.getD_eq_getElem?_getD, List.getElem?_eq_getElem (by omega)]; exact List.getElem_mem _)
    repeat (first | (apply Run.op; exact rfl; refine OpT.val_ (h := by (first | exact Still.sEql rfl rfl | exact Still.sNeq rfl rfl | exact Still.sLen rfl rfl | exact Still.sAdd rfl rfl (by omega) (by omega))) (k := ?_)) | (refine Run.yes_ (h := ?_); refine OpT.val_ (h := by (first | exact Still.sEql rfl rfl | exact Still.sNeq rfl rfl | exact Still.sLen rfl rfl | exact Still.sAdd rfl rfl (by omega) (by omega))) (k := ?_)) | (refine RunQ.val_ (h := by (first | exact Still.sEql rfl rfl | exact Still.sNeq rfl rfl | exact Still.sLen rfl rfl | exact Still.sAdd rfl rfl (by omega) (by omega))) (k := ?_)) | (refine RunQ.yes_ (h := by (first | exact Still.sEql rfl rfl | exact Still.sNeq rfl rfl | exact Still.sLen rfl rfl | exact Still.sAdd rfl rfl (by omega) (by omega))) (k := ?_)) | refine go (k := ?_) | (refine goB (k := ?_); intro b) | (refine goA (k := ?_); intro ao cap))
    (apply Run.op; exact rfl; refine OpT.val_ (h := by exact Still.sAt (i := st.length - 2) rfl rfl rfl (by omega) (by omega)) (k := ?_))
    generalize st.getD (st.length - 2) 0 = g at hR hgt ⊢
    subst hgt
    have k110 : (((Rf7.lt1 t).toNat : Int) = 110) ↔ Rf7.lt1 t = 110 := u8_eq (y := 110)
    have k98 : (((Rf7.lt1 t).toNat : Int) = 98) ↔ Rf7.lt1 t = 98 := u8_eq (y := 98)
    by_cases c110 : Rf7.lt1 t = 110
    · rw [if_pos (.inl c110)] at hR
      subst hR
      have d := k110.2 c110
      clear k110 k98
      repeat (first | (apply Run.op; exact rfl; refine OpT.val_ (h := by (first | exact Still.sEql rfl rfl | exact Still.sNeq rfl rfl | exact Still.sLen rfl rfl | exact Still.sAdd rfl rfl (by omega) (by omega))) (k := ?_)) | (refine Run.yes_ (h := ?_); refine OpT.val_ (h := by (first | exact Still.sEql rfl rfl | exact Still.sNeq rfl rfl | exact Still.sLen rfl rfl | exact Still.sAdd rfl rfl (by omega) (by omega))) (k := ?_)) | (refine RunQ.val_ (h := by (first | exact Still.sEql rfl rfl | exact Still.sNeq rfl rfl | exact Still.sLen rfl rfl | exact Still.sAdd rfl rfl (by omega) (by omega))) (k := ?_)) | (refine RunQ.yes_ (h := by (first | exact Still.sEql rfl rfl | exact Still.sNeq rfl rfl | exact Still.sLen rfl rfl | exact Still.sAdd rfl rfl (by omega) (by omega))) (k := ?_)) | refine go (k := ?_) | (refine goB (k := ?_); intro b) | (refine goA (k := ?_); intro ao cap))
      (first | (apply Run.op; exact rfl) | refine Run.yes_ (h := ?_)); refine OpT.call_ (spec := bad7_is kb ab q p 9) (k := ?_); intro s hs; (try conv => rhs; simp only [List.cons_append, List.nil_append])
      repeat (first | (apply Run.op; exact rfl; refine OpT.val_ (h := by (first | exact Still.sEql rfl rfl | exact Still.sNeq rfl rfl | exact Still.sLen rfl rfl | exact Still.sAdd rfl rfl (by omega) (by omega))) (k := ?_)) | (refine Run.yes_ (h := ?_); refine OpT.val_ (h := by (first | exact Still.sEql rfl rfl | exact Still.sNeq rfl rfl | exact Still.sLen rfl rfl | exact Still.sAdd rfl rfl (by omega) (by omega))) (k := ?_)) | (refine RunQ.val_ (h := by (first | exact Still.sEql rfl rfl | exact Still.sNeq rfl rfl | exact Still.sLen rfl rfl | exact Still.sAdd rfl rfl (by omega) (by omega))) (k := ?_)) | (refine RunQ.yes_ (h := by (first | exact Still.sEql rfl rfl | exact Still.sNeq rfl rfl | exact Still.sLen rfl rfl | exact Still.sAdd rfl rfl (by omega) (by omega))) (k := ?_)) | refine go (k := ?_) | (refine goB (k := ?_); intro b) | (refine goA (k := ?_); intro ao cap))
      exact h8 (by decide) _ _ _ _ rfl tk tks
    have d110 : ¬ ((Rf7.lt1 t).toNat : Int) = 110 := fun h => c110 (k110.1 h)
    by_cases c98 : Rf7.lt1 t = 98
    · rw [if_pos (.inr c98)] at hR
      subst hR
      have d := k98.2 c98
      clear k110 k98
      repeat (first | (apply Run.op; exact rfl; refine OpT.val_ (h := by (first | exact Still.sEql rfl rfl | exact Still.sNeq rfl rfl | exact Still.sLen rfl rfl | exact Still.sAdd rfl rfl (by omega) (by omega))) (k := ?_)) | (refine Run.yes_ (h := ?_); refine OpT.val_ (h := by (first | exact Still.sEql rfl rfl | exact Still.sNeq rfl rfl | exact Still.sLen rfl rfl | exact Still.sAdd rfl rfl (by omega) (by omega))) (k := ?_)) | (refine RunQ.val_ (h := by (first | exact Still.sEql rfl rfl | exact Still.sNeq rfl rfl | exact Still.sLen rfl rfl | exact Still.sAdd rfl rfl (by omega) (by omega))) (k := ?_)) | (refine RunQ.yes_ (h := by (first | exact Still.sEql rfl rfl | exact Still.sNeq rfl rfl | exact Still.sLen rfl rfl | exact Still.sAdd rfl rfl (by omega) (by omega))) (k := ?_)) | refine go (k := ?_) | (refine goB (k := ?_); intro b) | (refine goA (k := ?_); intro ao cap))
      (first | (apply Run.op; exact rfl) | refine Run.yes_ (h := ?_)); refine OpT.call_ (spec := bad7_is kb ab q p 9) (k := ?_); intro s hs; (try conv => rhs; simp only [List.cons_append, List.nil_append])
      repeat (first | (apply Run.op; exact rfl; refine OpT.val_ (h := by (first | exact Still.sEql rfl rfl | exact Still.sNeq rfl rfl | exact Still.sLen rfl rfl | exact Still.sAdd rfl rfl (by omega) (by omega))) (k := ?_)) | (refine Run.yes_ (h := ?_); refine OpT.val_ (h := by (first | exact Still.sEql rfl rfl | exact Still.sNeq rfl rfl | exact Still.sLen rfl rfl | exact Still.sAdd rfl rfl (by omega) (by omega))) (k := ?_)) | (refine RunQ.val_ (h := by (first | exact Still.sEql rfl rfl | exact Still.sNeq rfl rfl | exact Still.sLen rfl rfl | exact Still.sAdd rfl rfl (by omega) (by omega))) (k := ?_)) | (refine RunQ.yes_ (h := by (first | exact Still.sEql rfl rfl | exact Still.sNeq rfl rfl | exact Still.sLen rfl rfl | exact Still.sAdd rfl rfl (by omega) (by omega))) (k := ?_)) | refine go (k := ?_) | (refine goB (k := ?_); intro b) | (refine goA (k := ?_); intro ao cap))
      exact h8 (by decide) _ _ _ _ rfl tk tks
    have d98 : ¬ ((Rf7.lt1 t).toNat : Int) = 98 := fun h => c98 (k98.1 h)
    clear k110 k98
    rw [if_neg (fun h => h.elim c110 c98)] at hR
    obtain ⟨tn, ht1, ht2, ht3⟩ := letter_tn (by rw [hun]; exact hu30) ht c110 c98
    rw [ht2, Nat.add_sub_cancel_left, ML.unit_at] at hR
    have hx1 := (Rf7.uv_head (hF.head tn ht1)).res (by omega)
    have hx2 := (Rf7.uv_head (hF.head tn ht1)).tak ht3
    have etn : (((Rf7.lt1 t).toNat : Int) - 65).toNat = tn := by omega
    repeat (first | (apply Run.op; exact rfl; refine OpT.val_ (h := by (first | exact Still.sEql rfl rfl | exact Still.sNeq rfl rfl | exact Still.sLen rfl rfl | exact Still.sAdd rfl rfl (by omega) (by omega))) (k := ?_)) | (refine Run.yes_ (h := ?_); refine OpT.val_ (h := by (first | exact Still.sEql rfl rfl | exact Still.sNeq rfl rfl | exact Still.sLen rfl rfl | exact Still.sAdd rfl rfl (by omega) (by omega))) (k := ?_)) | (refine RunQ.val_ (h := by (first | exact Still.sEql rfl rfl | exact Still.sNeq rfl rfl | exact Still.sLen rfl rfl | exact Still.sAdd rfl rfl (by omega) (by omega))) (k := ?_)) | (refine RunQ.yes_ (h := by (first | exact Still.sEql rfl rfl | exact Still.sNeq rfl rfl | exact Still.sLen rfl rfl | exact Still.sAdd rfl rfl (by omega) (by omega))) (k := ?_)) | refine go (k := ?_) | (refine goB (k := ?_); intro b) | (refine goA (k := ?_); intro ao cap))
    obtain ⟨cb, rfl⟩ : ∃ x, x = b := ⟨_, rfl⟩
    obtain ⟨xb, rfl⟩ : ∃ x, x = b := ⟨_, rfl⟩
    rw [etn]
    refine Run.imp (fun w hm => toArr7 byC [Rf7.lt1 t] 1 rfl (by unfold maxLen; omega) (b := cb) (by (repeat (first | exact Take.head | apply Take.tail))) hm) ?_
    (apply Run.op; exact rfl; refine OpT.val_ (h := by exact Still.sOf (a := [Rf7.lt1 t]) rfl (Rdb.arr tk) rfl rfl rfl (by omega)) (k := ?_))
    repeat (first | (apply Run.op; exact rfl; refine OpT.val_ (h := by (first | exact Still.sEql rfl rfl | exact Still.sNeq rfl rfl | exact Still.sLen rfl rfl | exact Still.sAdd rfl rfl (by omega) (by omega))) (k := ?_)) | (refine Run.yes_ (h := ?_); refine OpT.val_ (h := by (first | exact Still.sEql rfl rfl | exact Still.sNeq rfl rfl | exact Still.sLen rfl rfl | exact Still.sAdd rfl rfl (by omega) (by omega))) (k := ?_)) | (refine RunQ.val_ (h := by (first | exact Still.sEql rfl rfl | exact Still.sNeq rfl rfl | exact Still.sLen rfl rfl | exact Still.sAdd rfl rfl (by omega) (by omega))) (k := ?_)) | (refine RunQ.yes_ (h := by (first | exact Still.sEql rfl rfl | exact Still.sNeq rfl rfl | exact Still.sLen rfl rfl | exact Still.sAdd rfl rfl (by omega) (by omega))) (k := ?_)) | refine go (k := ?_) | (refine goB (k := ?_); intro b) | (refine goA (k := ?_); intro ao cap))
    apply Cod.draw 9 ([blk xb (ucell (m.us.getD tn default)) 38]) (by kernel_rfl) 10 rfl
    refine RunT.takeR_ 0 (hQ := by (repeat (first | assumption | exact PutOk.body | apply PutOk.nxt | apply PutOk.then_ | apply PutOk.block))) (h := ?_)
    refine RunT.takeR_ 1 (hQ := by (repeat (first | assumption | exact PutOk.body | apply PutOk.nxt | apply PutOk.then_ | apply PutOk.block))) (h := ?_)
    refine RunT.takeR_ 2 (hQ := by (repeat (first | assumption | exact PutOk.body | apply PutOk.nxt | apply PutOk.then_ | apply PutOk.block))) (h := ?_)
    refine RunT.takeR_ 5 (hQ := by (repeat (first | assumption | exact PutOk.body | apply PutOk.nxt | apply PutOk.then_ | apply PutOk.block))) (h := ?_)
    refine RunT.takeR_ 6 (hQ := by (repeat (first | assumption | exact PutOk.body | apply PutOk.nxt | apply PutOk.then_ | apply PutOk.block))) (h := ?_)
    (refine RunT.one_ 3 (h := ?_); refine OpT.call0_ (spec := letter_is _ (hx2.imp id .inl)) (k := ?_); intro s hs; refine And.intro gud ?_; (try conv => rhs; simp only [List.cons_append, List.nil_append]))
    refine RunT.takeR_ 4 (hQ := by (repeat (first | assumption | exact PutOk.body | apply PutOk.nxt | apply PutOk.then_ | apply PutOk.block))) (hy := by exact Still.sAdd rfl rfl (by simp) (by simp)) (h := ?_)
    (refine RunT.one_ 7 (h := ?_); refine OpT.call0_ (spec := letter_is _ (hx1.imp id .inl)) (k := ?_); intro s hs; refine And.intro gud ?_; (try conv => rhs; simp only [List.cons_append, List.nil_append]))
    refine RunT.takeR_ 8 (hQ := by (repeat (first | assumption | exact PutOk.body | apply PutOk.nxt | apply PutOk.then_ | apply PutOk.block))) (h := ?_)
    (refine RunT.one_ 9 (h := ?_); (first | refine OpT.val_ (k := ?_) | (refine OpT.alloc_ (k := ?_); intro b) | (refine OpT.box_ (k := ?_); intro b) | refine OpT.store_ (k := ?_) | (refine OpT.buildSlice_ (k := ?_); intro b) | (refine OpT.buildSlice0_ (k := ?_); intro b) | (refine OpT.append1_ (k := ?_); intro ao cap) | (refine OpT.cutA0_ (k := ?_); intro ao cap) | (refine OpT.cutR0_ (k := ?_); intro ao cap) | (refine OpT.cutA1_ (k := ?_); intro ao cap) | (refine OpT.cutA_ (k := ?_); intro ao cap) | (refine OpT.cutR_ (k := ?_); intro ao cap)); refine And.intro gud ?_)
    (apply RunT.done; kernel_rfl)
    subst hR
    repeat (first | (apply Run.op; exact rfl; refine OpT.val_ (h := by (first | exact Still.sEql rfl rfl | exact Still.sNeq rfl rfl | exact Still.sLen rfl rfl | exact Still.sAdd rfl rfl (by omega) (by omega))) (k := ?_)) | (refine Run.yes_ (h := ?_); refine OpT.val_ (h := by (first | exact Still.sEql rfl rfl | exact Still.sNeq rfl rfl | exact Still.sLen rfl rfl | exact Still.sAdd rfl rfl (by omega) (by omega))) (k := ?_)) | (refine RunQ.val_ (h := by (first | exact Still.sEql rfl rfl | exact Still.sNeq rfl rfl | exact Still.sLen rfl rfl | exact Still.sAdd rfl rfl (by omega) (by omega))) (k := ?_)) | (refine RunQ.yes_ (h := by (first | exact Still.sEql rfl rfl | exact Still.sNeq rfl rfl | exact Still.sLen rfl rfl | exact Still.sAdd rfl rfl (by omega) (by omega))) (k := ?_)) | refine go (k := ?_) | (refine goB (k := ?_); intro b) | (refine goA (k := ?_); intro ao cap))
    (apply Cod.weak (hN rfl); (focus (dsimp only [E7, F7, List.cons_append, List.nil_append]; exact sb)); (focus (dsimp only [M7, N7, List.cons_append, List.nil_append]; exact tks)))
  by_cases o32 : i.op = 32
  · have e0 : Rf7.want7 m.mdl (m.us.getD q default).u i st = if st.length < 1 then (12, [], []) else if st.getD (st.length - 1) 0 = 110 ∨ st.getD (st.length - 1) 0 = 98 then (9, [], []) else (0, [st.getD (st.length - 1) 0], [98]) := by
      unfold Rf7.want7
      rw [if_pos (.inr o32)]
      simp only [o30, if_false]
    rw [e0] at hR
    by_cases c2 : st.length < 1
    · rw [if_pos c2] at hR
      subst hR
      repeat (first | (apply Run.op; exact rfl; refine OpT.val_ (h := by (first | exact Still.sEql rfl rfl | exact Still.sNeq rfl rfl | exact Still.sLen rfl rfl | exact Still.sAdd rfl rfl (by omega) (by omega))) (k := ?_)) | (refine Run.yes_ (h := ?_); refine OpT.val_ (h := by (first | exact Still.sEql rfl rfl | exact Still.sNeq rfl rfl | exact Still.sLen rfl rfl | exact Still.sAdd rfl rfl (by omega) (by omega))) (k := ?_)) | (refine RunQ.val_ (h := by (first | exact Still.sEql rfl rfl | exact Still.sNeq rfl rfl | exact Still.sLen rfl rfl | exact Still.sAdd rfl rfl (by omega) (by omega))) (k := ?_)) | (refine RunQ.yes_ (h := by (first | exact Still.sEql rfl rfl | exact Still.sNeq rfl rfl | exact Still.sLen rfl rfl | exact Still.sAdd rfl rfl (by omega) (by omega))) (k := ?_)) | refine go (k := ?_) | (refine goB (k := ?_); intro b) | (refine goA (k := ?_); intro ao cap))
      (first | (apply Run.op; exact rfl) | refine Run.yes_ (h := ?_)); refine OpT.call_ (spec := bad7_is kb ab q p 12) (k := ?_); intro s hs; (try conv => rhs; simp only [List.cons_append, List.nil_append])
      repeat (first | (apply Run.op; exact rfl; refine OpT.val_ (h := by (first | exact Still.sEql rfl rfl | exact Still.sNeq rfl rfl | exact Still.sLen rfl rfl | exact Still.sAdd rfl rfl (by omega) (by omega))) (k := ?_)) | (refine Run.yes_ (h := ?_); refine OpT.val_ (h := by (first | exact Still.sEql rfl rfl | exact Still.sNeq rfl rfl | exact Still.sLen rfl rfl | exact Still.sAdd rfl rfl (by omega) (by omega))) (k := ?_)) | (refine RunQ.val_ (h := by (first | exact Still.sEql rfl rfl | exact Still.sNeq rfl rfl | exact Still.sLen rfl rfl | exact Still.sAdd rfl rfl (by omega) (by omega))) (k := ?_)) | (refine RunQ.yes_ (h := by (first | exact Still.sEql rfl rfl | exact Still.sNeq rfl rfl | exact Still.sLen rfl rfl | exact Still.sAdd rfl rfl (by omega) (by omega))) (k := ?_)) | refine go (k := ?_) | (refine goB (k := ?_); intro b) | (refine goA (k := ?_); intro ao cap))
      exact h8 (by decide) _ _ _ _ rfl tk tks
    rw [if_neg c2] at hR
    obtain ⟨t, ht, hgt⟩ := hst (st.getD (st.length - 1) 0) (by rw [List.getD_eq_getElem?_getD, List.getElem?_eq_getElem (by omega)]; exact List.getElem_mem _)
    repeat (first | (apply Run.op; exact rfl; refine OpT.val_ (h := by (first | exact Still.sEql rfl rfl | exact Still.sNeq rfl rfl | exact Still.sLen rfl rfl | exact Still.sAdd rfl rfl (by omega) (by omega))) (k := ?_)) | (refine Run.yes_ (h := ?_); refine OpT.val_ (h := by (first | exact Still.sEql rfl rfl | exact Still.sNeq rfl rfl | exact Still.sLen rfl rfl | exact Still.sAdd rfl rfl (by omega) (by omega))) (k := ?_)) | (refine RunQ.val_ (h := by (first | exact Still.sEql rfl rfl | exact Still.sNeq rfl rfl | exact Still.sLen rfl rfl | exact Still.sAdd rfl rfl (by omega) (by omega))) (k := ?_)) | (refine RunQ.yes_ (h := by (first | exact Still.sEql rfl rfl | exact Still.sNeq rfl rfl | exact Still.sLen rfl rfl | exact Still.sAdd rfl rfl (by omega) (by omega))) (k := ?_)) | refine go (k := ?_) | (refine goB (k := ?_); intro b) | (refine goA (k := ?_); intro ao cap))
    (apply Run.op; exact rfl; refine OpT.val_ (h := by exact Still.sAt (i := st.length - 1) rfl rfl rfl (by omega) (by omega)) (k := ?_))
    generalize st.getD (st.length - 1) 0 = g at hR hgt ⊢
    subst hgt
    have k110 : (((Rf7.lt1 t).toNat : Int) = 110) ↔ Rf7.lt1 t = 110 := u8_eq (y := 110)
    have k98 : (((Rf7.lt1 t).toNat : Int) = 98) ↔ Rf7.lt1 t = 98 := u8_eq (y := 98)
    by_cases c110 : Rf7.lt1 t = 110
    · rw [if_pos (.inl c110)] at hR
      subst hR
      have d := k110.2 c110
      clear k110 k98
      repeat (first | (apply Run.op; exact rfl; refine OpT.val_ (h := by (first | exact Still.sEql rfl rfl | exact Still.sNeq rfl rfl | exact Still.sLen rfl rfl | exact Still.sAdd rfl rfl (by omega) (by omega))) (k := ?_)) | (refine Run.yes_ (h := ?_); refine OpT.val_ (h := by (first | exact Still.sEql rfl rfl | exact Still.sNeq rfl rfl | exact Still.sLen rfl rfl | exact Still.sAdd rfl rfl (by omega) (by omega))) (k := ?_)) | (refine RunQ.val_ (h := by (first | exact Still.sEql rfl rfl | exact Still.sNeq rfl rfl | exact Still.sLen rfl rfl | exact Still.sAdd rfl rfl (by omega) (by omega))) (k := ?_)) | (refine RunQ.yes_ (h := by (first | exact Still.sEql rfl rfl | exact Still.sNeq rfl rfl | exact Still.sLen rfl rfl | exact Still.sAdd rfl rfl (by omega) (by omega))) (k := ?_)) | refine go (k := ?_) | (refine goB (k := ?_); intro b) | (refine goA (k := ?_); intro ao cap))
      (first | (apply Run.op; exact rfl) | refine Run.yes_ (h := ?_)); refine OpT.call_ (spec := bad7_is kb ab q p 9) (k := ?_); intro s hs; (try conv => rhs; simp only [List.cons_append, List.nil_append])
      repeat (first | (apply Run.op; exact rfl; refine OpT.val_ (h := by (first | exact Still.sEql rfl rfl | exact Still.sNeq rfl rfl | exact Still.sLen rfl rfl | exact Still.sAdd rfl rfl (by omega) (by omega))) (k := ?_)) | (refine Run.yes_ (h := ?_); refine OpT.val_ (h := by (first | exact Still.sEql rfl rfl | exact Still.sNeq rfl rfl | exact Still.sLen rfl rfl | exact Still.sAdd rfl rfl (by omega) (by omega))) (k := ?_)) | (refine RunQ.val_ (h := by (first | exact Still.sEql rfl rfl | exact Still.sNeq rfl rfl | exact Still.sLen rfl rfl | exact Still.sAdd rfl rfl (by omega) (by omega))) (k := ?_)) | (refine RunQ.yes_ (h := by (first | exact Still.sEql rfl rfl | exact Still.sNeq rfl rfl | exact Still.sLen rfl rfl | exact Still.sAdd rfl rfl (by omega) (by omega))) (k := ?_)) | refine go (k := ?_) | (refine goB (k := ?_); intro b) | (refine goA (k := ?_); intro ao cap))
      exact h8 (by decide) _ _ _ _ rfl tk tks
    have d110 : ¬ ((Rf7.lt1 t).toNat : Int) = 110 := fun h => c110 (k110.1 h)
    by_cases c98 : Rf7.lt1 t = 98
    · rw [if_pos (.inr c98)] at hR
      subst hR
      have d := k98.2 c98
      clear k110 k98
      repeat (first | (apply Run.op; exact rfl; refine OpT.val_ (h := by (first | exact Still.sEql rfl rfl | exact Still.sNeq rfl rfl | exact Still.sLen rfl rfl | exact Still.sAdd rfl rfl (by omega) (by omega))) (k := ?_)) | (refine Run.yes_ (h := ?_); refine OpT.val_ (h := by (first | exact Still.sEql rfl rfl | exact Still.sNeq rfl rfl | exact Still.sLen rfl rfl | exact Still.sAdd rfl rfl (by omega) (by omega))) (k := ?_)) | (refine RunQ.val_ (h := by (first | exact Still.sEql rfl rfl | exact Still.sNeq rfl rfl | exact Still.sLen rfl rfl | exact Still.sAdd rfl rfl (by omega) (by omega))) (k := ?_)) | (refine RunQ.yes_ (h := by (first | exact Still.sEql rfl rfl | exact Still.sNeq rfl rfl | exact Still.sLen rfl rfl | exact Still.sAdd rfl rfl (by omega) (by omega))) (k := ?_)) | refine go (k := ?_) | (refine goB (k := ?_); intro b) | (refine goA (k := ?_); intro ao cap))
      (first | (apply Run.op; exact rfl) | refine Run.yes_ (h := ?_)); refine OpT.call_ (spec := bad7_is kb ab q p 9) (k := ?_); intro s hs; (try conv => rhs; simp only [List.cons_append, List.nil_append])
      repeat (first | (apply Run.op; exact rfl; refine OpT.val_ (h := by (first | exact Still.sEql rfl rfl | exact Still.sNeq rfl rfl | exact Still.sLen rfl rfl | exact Still.sAdd rfl rfl (by omega) (by omega))) (k := ?_)) | (refine Run.yes_ (h := ?_); refine OpT.val_ (h := by (first | exact Still.sEql rfl rfl | exact Still.sNeq rfl rfl | exact Still.sLen rfl rfl | exact Still.sAdd rfl rfl (by omega) (by omega))) (k := ?_)) | (refine RunQ.val_ (h := by (first | exact Still.sEql rfl rfl | exact Still.sNeq rfl rfl | exact Still.sLen rfl rfl | exact Still.sAdd rfl rfl (by omega) (by omega))) (k := ?_)) | (refine RunQ.yes_ (h := by (first | exact Still.sEql rfl rfl | exact Still.sNeq rfl rfl | exact Still.sLen rfl rfl | exact Still.sAdd rfl rfl (by omega) (by omega))) (k := ?_)) | refine go (k := ?_) | (refine goB (k := ?_); intro b) | (refine goA (k := ?_); intro ao cap))
      exact h8 (by decide) _ _ _ _ rfl tk tks
    have d98 : ¬ ((Rf7.lt1 t).toNat : Int) = 98 := fun h => c98 (k98.1 h)
    clear k110 k98
    rw [if_neg (fun h => h.elim c110 c98)] at hR
    obtain ⟨tn, ht1, ht2, ht3⟩ := letter_tn (by rw [hun]; exact hu30) ht c110 c98
    have etn : (((Rf7.lt1 t).toNat : Int) - 65).toNat = tn := by omega
    repeat (first | (apply Run.op; exact rfl; refine OpT.val_ (h := by (first | exact Still.sEql rfl rfl | exact Still.sNeq rfl rfl | exact Still.sLen rfl rfl | exact Still.sAdd rfl rfl (by omega) (by omega))) (k := ?_)) | (refine Run.yes_ (h := ?_); refine OpT.val_ (h := by (first | exact Still.sEql rfl rfl | exact Still.sNeq rfl rfl | exact Still.sLen rfl rfl | exact Still.sAdd rfl rfl (by omega) (by omega))) (k := ?_)) | (refine RunQ.val_ (h := by (first | exact Still.sEql rfl rfl | exact Still.sNeq rfl rfl | exact Still.sLen rfl rfl | exact Still.sAdd rfl rfl (by omega) (by omega))) (k := ?_)) | (refine RunQ.yes_ (h := by (first | exact Still.sEql rfl rfl | exact Still.sNeq rfl rfl | exact Still.sLen rfl rfl | exact Still.sAdd rfl rfl (by omega) (by omega))) (k := ?_)) | refine go (k := ?_) | (refine goB (k := ?_); intro b) | (refine goA (k := ?_); intro ao cap))
    obtain ⟨cb, rfl⟩ : ∃ x, x = b := ⟨_, rfl⟩
    obtain ⟨xb, rfl⟩ : ∃ x, x = b := ⟨_, rfl⟩
    rw [etn]
    refine Run.imp (fun w hm => toArr7 byC [Rf7.lt1 t] 1 rfl (by unfold maxLen; omega) (b := cb) (by (repeat (first | exact Take.head | apply Take.tail))) hm) ?_
    (apply Run.op; exact rfl; refine OpT.val_ (h := by exact Still.sOf (a := [Rf7.lt1 t]) rfl (Rdb.arr tk) rfl rfl rfl (by omega)) (k := ?_))
    repeat (first | (apply Run.op; exact rfl; refine OpT.val_ (h := by (first | exact Still.sEql rfl rfl | exact Still.sNeq rfl rfl | exact Still.sLen rfl rfl | exact Still.sAdd rfl rfl (by omega) (by omega))) (k := ?_)) | (refine Run.yes_ (h := ?_); refine OpT.val_ (h := by (first | exact Still.sEql rfl rfl | exact Still.sNeq rfl rfl | exact Still.sLen rfl rfl | exact Still.sAdd rfl rfl (by omega) (by omega))) (k := ?_)) | (refine RunQ.val_ (h := by (first | exact Still.sEql rfl rfl | exact Still.sNeq rfl rfl | exact Still.sLen rfl rfl | exact Still.sAdd rfl rfl (by omega) (by omega))) (k := ?_)) | (refine RunQ.yes_ (h := by (first | exact Still.sEql rfl rfl | exact Still.sNeq rfl rfl | exact Still.sLen rfl rfl | exact Still.sAdd rfl rfl (by omega) (by omega))) (k := ?_)) | refine go (k := ?_) | (refine goB (k := ?_); intro b) | (refine goA (k := ?_); intro ao cap))
    subst hR
    repeat (first | (apply Run.op; exact rfl; refine OpT.val_ (h := by (first | exact Still.sEql rfl rfl | exact Still.sNeq rfl rfl | exact Still.sLen rfl rfl | exact Still.sAdd rfl rfl (by omega) (by omega))) (k := ?_)) | (refine Run.yes_ (h := ?_); refine OpT.val_ (h := by (first | exact Still.sEql rfl rfl | exact Still.sNeq rfl rfl | exact Still.sLen rfl rfl | exact Still.sAdd rfl rfl (by omega) (by omega))) (k := ?_)) | (refine RunQ.val_ (h := by (first | exact Still.sEql rfl rfl | exact Still.sNeq rfl rfl | exact Still.sLen rfl rfl | exact Still.sAdd rfl rfl (by omega) (by omega))) (k := ?_)) | (refine RunQ.yes_ (h := by (first | exact Still.sEql rfl rfl | exact Still.sNeq rfl rfl | exact Still.sLen rfl rfl | exact Still.sAdd rfl rfl (by omega) (by omega))) (k := ?_)) | refine go (k := ?_) | (refine goB (k := ?_); intro b) | (refine goA (k := ?_); intro ao cap))
    (apply Cod.weak (hN rfl); (focus (dsimp only [E7, F7, List.cons_append, List.nil_append]; exact sb)); (focus (dsimp only [M7, N7, List.cons_append, List.nil_append]; exact tks)))
  have e0 : Rf7.want7 m.mdl (m.us.getD q default).u i st = (0, Rf7.needs7 m.mdl (m.us.getD q default).u i) := by
    unfold Rf7.want7
    rw [if_neg (fun h => h.elim o30 o32)]
  rw [e0] at hR
  subst hR
  repeat (first | (apply Run.op; exact rfl; refine OpT.val_ (h := by (first | exact Still.sEql rfl rfl | exact Still.sNeq rfl rfl | exact Still.sLen rfl rfl | exact Still.sAdd rfl rfl (by omega) (by omega))) (k := ?_)) | (refine Run.yes_ (h := ?_); refine OpT.val_ (h := by (first | exact Still.sEql rfl rfl | exact Still.sNeq rfl rfl | exact Still.sLen rfl rfl | exact Still.sAdd rfl rfl (by omega) (by omega))) (k := ?_)) | (refine RunQ.val_ (h := by (first | exact Still.sEql rfl rfl | exact Still.sNeq rfl rfl | exact Still.sLen rfl rfl | exact Still.sAdd rfl rfl (by omega) (by omega))) (k := ?_)) | (refine RunQ.yes_ (h := by (first | exact Still.sEql rfl rfl | exact Still.sNeq rfl rfl | exact Still.sLen rfl rfl | exact Still.sAdd rfl rfl (by omega) (by omega))) (k := ?_)) | refine go (k := ?_) | (refine goB (k := ?_); intro b) | (refine goA (k := ?_); intro ao cap))
  (apply Cod.weak (hN rfl); (focus (dsimp only [E7, F7, List.cons_append, List.nil_append]; exact sb)); (focus (dsimp only [M7, N7, List.cons_append, List.nil_append]; exact tks)))
end
end Go.Proofs.Ytfeajpghabjaaaa.Vw

/- yieldref7.Code, a round: what an instruction takes, and puts there. -/
namespace Go.Proofs.Ytfeajpghabjaaaa.Vw
open Go.RowKit Go.Proofs.Ytfeajpghabjaaaa.Img
set_option linter.unusedVariables false
set_option linter.unusedSimpArgs false
theorem tk7_len : ∀ (want : List UInt8) (last : UInt8) (st : List UInt8), (Rf7.tk7 want last st).1.length ≤ st.length
  | [], _, _ => Nat.le_refl _
  | x :: want, last, st => by
    have e := fun last => tk7_len want last (st.take (st.length - 1))
    have e2 : (st.take (st.length - 1)).length ≤ st.length := by rw [List.length_take]; omega
    rw [Rf7.tk7_cons]
    repeat' split
    all_goals first
      | exact Nat.zero_le _
      | exact Nat.le_trans (e _) e2
theorem take7_len (st want : List UInt8) : (Rf7.take7 st want).1.length ≤ st.length := tk7_len _ _ _
attribute [local irreducible] Run Cod End OpT Still RunQ RunS RunT Fn PutOk
section
variable (m : ML) (q : Nat) (mb kb wb ub zb : Nat) (l : List Sn) (p : Nat) (w : World) (S : Nat → Prop) (Q : Exit → Act → World → Prop)
set_option maxRecDepth 100000 in
set_option maxHeartbeats 1000000 in
theorem code7_t (to_ : Option Addr) (tc : Nat) (rest : List Int) (i : ImgM.Ins) (h : List Bool) (st want put : List UInt8) (ab ib : Nat) (no : Option Addr) (nc : Nat)
    (hl : st.length ≤ 300) (hw1 : want.length ≤ 300) (hp1 : put.length ≤ 300) (h4 : i.op = 4 → 0 ≤ i.a ∧ i.a < (h.length : Int))
    (hbt : (Rf7.take7 st want).2 ≠ 0 → Rets Q w S wb q p (Rf7.take7 st want).2)
    (hbm : (Rf7.take7 st want).2 = 0 → 300 < ((Rf7.take7 st want).1 ++ put).length → Rets Q w S wb q p 4)
    (hN : (Rf7.take7 st want).2 = 0 → ¬ 300 < ((Rf7.take7 st want).1 ++ put).length → ∀ h' : List Bool, h'.length = h.length → h' = (if i.op = 4 then h.set i.a.toNat true else h) → Cod Try.prog Q 308 rnT (E7 mb kb wb ub zb l.length to_ tc rest.length ++ F7 kb ab ib no nc h'.length ((Rf7.take7 st want).1 ++ put)) (M7 m q mb kb wb ub zb l to_ tc rest w S ++ N7 ab ib p i no nc h')) :
    Cod Try.prog Q 308 rnW ((15, sv want) :: (16, sv put) :: (E7 mb kb wb ub zb l.length to_ tc rest.length ++ F7 kb ab ib no nc h.length st)) (M7 m q mb kb wb ub zb l to_ tc rest w S ++ N7 ab ib p i no nc h) := by
  show Cod _ _ _ (Code.seq (sl rnW) (Code.seq (sl (sr rnW)) (Code.seq (sl (sr (sr rnW))) (Code.seq (sl (sr (sr (sr rnW)))) (Code.seq (sl (sr (sr (sr (sr rnW))))) rnT))))) _ _
  generalize rnT = y at hN ⊢
  dsimp only [M7, E7, N7, F7, List.cons_append, List.nil_append]
  have htl := take7_len st want
  repeat (first | (apply Run.op; exact rfl; refine OpT.val_ (h := by (first | exact Still.sEql rfl rfl | exact Still.sNeq rfl rfl | exact Still.sLen rfl rfl | exact Still.sAdd rfl rfl (by omega) (by omega))) (k := ?_)) | (refine Run.yes_ (h := ?_); refine OpT.val_ (h := by (first | exact Still.sEql rfl rfl | exact Still.sNeq rfl rfl | exact Still.sLen rfl rfl | exact Still.sAdd rfl rfl (by omega) (by omega))) (k := ?_)) | (refine RunQ.val_ (h := by (first | exact Still.sEql rfl rfl | exact Still.sNeq rfl rfl | exact Still.sLen rfl rfl | exact Still.sAdd rfl rfl (by omega) (by omega))) (k := ?_)) | (refine RunQ.yes_ (h := by (first | exact Still.sEql rfl rfl | exact Still.sNeq rfl rfl | exact Still.sLen rfl rfl | exact Still.sAdd rfl rfl (by omega) (by omega))) (k := ?_)) | refine go (k := ?_) | (refine goB (k := ?_); intro b) | (refine goA (k := ?_); intro ao cap))
  (first | (apply Run.op; exact rfl) | refine Run.yes_ (h := ?_)); refine OpT.call0_ (spec := take7_is st want (by omega) (by omega)) (k := ?_); intro s hs; (try conv => rhs; simp only [List.cons_append, List.nil_append])
  obtain ⟨T, hT⟩ : ∃ T, T = Rf7.take7 st want := ⟨_, rfl⟩
  rw [← hT] at hbt hbm hN htl ⊢
  clear hT
  obtain ⟨t1, t2⟩ := T
  dsimp only at hbt hbm hN htl ⊢
  by_cases c0 : ¬ t2 = 0
  · repeat (first | (apply Run.op; exact rfl; refine OpT.val_ (h := by (first | exact Still.sEql rfl rfl | exact Still.sNeq rfl rfl | exact Still.sLen rfl rfl | exact Still.sAdd rfl rfl (by omega) (by omega))) (k := ?_)) | (refine Run.yes_ (h := ?_); refine OpT.val_ (h := by (first | exact Still.sEql rfl rfl | exact Still.sNeq rfl rfl | exact Still.sLen rfl rfl | exact Still.sAdd rfl rfl (by omega) (by omega))) (k := ?_)) | (refine RunQ.val_ (h := by (first | exact Still.sEql rfl rfl | exact Still.sNeq rfl rfl | exact Still.sLen rfl rfl | exact Still.sAdd rfl rfl (by omega) (by omega))) (k := ?_)) | (refine RunQ.yes_ (h := by (first | exact Still.sEql rfl rfl | exact Still.sNeq rfl rfl | exact Still.sLen rfl rfl | exact Still.sAdd rfl rfl (by omega) (by omega))) (k := ?_)) | refine go (k := ?_) | (refine goB (k := ?_); intro b) | (refine goA (k := ?_); intro ao cap))
    (first | (apply Run.op; exact rfl) | refine Run.yes_ (h := ?_)); refine OpT.call_ (spec := bad7_is kb ab q p t2) (k := ?_); intro s hs; (try conv => rhs; simp only [List.cons_append, List.nil_append])
    repeat (first | (apply Run.op; exact rfl; refine OpT.val_ (h := by (first | exact Still.sEql rfl rfl | exact Still.sNeq rfl rfl | exact Still.sLen rfl rfl | exact Still.sAdd rfl rfl (by omega) (by omega))) (k := ?_)) | (refine Run.yes_ (h := ?_); refine OpT.val_ (h := by (first | exact Still.sEql rfl rfl | exact Still.sNeq rfl rfl | exact Still.sLen rfl rfl | exact Still.sAdd rfl rfl (by omega) (by omega))) (k := ?_)) | (refine RunQ.val_ (h := by (first | exact Still.sEql rfl rfl | exact Still.sNeq rfl rfl | exact Still.sLen rfl rfl | exact Still.sAdd rfl rfl (by omega) (by omega))) (k := ?_)) | (refine RunQ.yes_ (h := by (first | exact Still.sEql rfl rfl | exact Still.sNeq rfl rfl | exact Still.sLen rfl rfl | exact Still.sAdd rfl rfl (by omega) (by omega))) (k := ?_)) | refine go (k := ?_) | (refine goB (k := ?_); intro b) | (refine goA (k := ?_); intro ao cap))
    exact hbt c0 _ _ _ _ rfl tk tks
  have c0 : t2 = 0 := Classical.not_not.1 c0
  have hal : (t1 ++ put).length = t1.length + put.length := List.length_append
  by_cases c3 : 300 < (t1 ++ put).length
  · repeat (first | (apply Run.op; exact rfl; refine OpT.val_ (h := by (first | exact Still.sEql rfl rfl | exact Still.sNeq rfl rfl | exact Still.sLen rfl rfl | exact Still.sAdd rfl rfl (by omega) (by omega))) (k := ?_)) | (refine Run.yes_ (h := ?_); refine OpT.val_ (h := by (first | exact Still.sEql rfl rfl | exact Still.sNeq rfl rfl | exact Still.sLen rfl rfl | exact Still.sAdd rfl rfl (by omega) (by omega))) (k := ?_)) | (refine RunQ.val_ (h := by (first | exact Still.sEql rfl rfl | exact Still.sNeq rfl rfl | exact Still.sLen rfl rfl | exact Still.sAdd rfl rfl (by omega) (by omega))) (k := ?_)) | (refine RunQ.yes_ (h := by (first | exact Still.sEql rfl rfl | exact Still.sNeq rfl rfl | exact Still.sLen rfl rfl | exact Still.sAdd rfl rfl (by omega) (by omega))) (k := ?_)) | refine go (k := ?_) | (refine goB (k := ?_); intro b) | (refine goA (k := ?_); intro ao cap))
    (first | (apply Run.op; exact rfl) | refine Run.yes_ (h := ?_)); refine OpT.call_ (spec := bad7_is kb ab q p 4) (k := ?_); intro s hs; (try conv => rhs; simp only [List.cons_append, List.nil_append])
    repeat (first | (apply Run.op; exact rfl; refine OpT.val_ (h := by (first | exact Still.sEql rfl rfl | exact Still.sNeq rfl rfl | exact Still.sLen rfl rfl | exact Still.sAdd rfl rfl (by omega) (by omega))) (k := ?_)) | (refine Run.yes_ (h := ?_); refine OpT.val_ (h := by (first | exact Still.sEql rfl rfl | exact Still.sNeq rfl rfl | exact Still.sLen rfl rfl | exact Still.sAdd rfl rfl (by omega) (by omega))) (k := ?_)) | (refine RunQ.val_ (h := by (first | exact Still.sEql rfl rfl | exact Still.sNeq rfl rfl | exact Still.sLen rfl rfl | exact Still.sAdd rfl rfl (by omega) (by omega))) (k := ?_)) | (refine RunQ.yes_ (h := by (first | exact Still.sEql rfl rfl | exact Still.sNeq rfl rfl | exact Still.sLen rfl rfl | exact Still.sAdd rfl rfl (by omega) (by omega))) (k := ?_)) | refine go (k := ?_) | (refine goB (k := ?_); intro b) | (refine goA (k := ?_); intro ao cap))
    exact hbm c0 c3 _ _ _ _ rfl tk tks
  by_cases o4 : i.op = 4
  · obtain ⟨a, ha⟩ := Int.eq_ofNat_of_zero_le (h4 o4).1
    have hal2 := (h4 o4).2
    rw [ha] at hal2
    repeat (first | (apply Run.op; exact rfl; refine OpT.val_ (h := by (first | exact Still.sEql rfl rfl | exact Still.sNeq rfl rfl | exact Still.sLen rfl rfl | exact Still.sAdd rfl rfl (by omega) (by omega))) (k := ?_)) | (refine Run.yes_ (h := ?_); refine OpT.val_ (h := by (first | exact Still.sEql rfl rfl | exact Still.sNeq rfl rfl | exact Still.sLen rfl rfl | exact Still.sAdd rfl rfl (by omega) (by omega))) (k := ?_)) | (refine RunQ.val_ (h := by (first | exact Still.sEql rfl rfl | exact Still.sNeq rfl rfl | exact Still.sLen rfl rfl | exact Still.sAdd rfl rfl (by omega) (by omega))) (k := ?_)) | (refine RunQ.yes_ (h := by (first | exact Still.sEql rfl rfl | exact Still.sNeq rfl rfl | exact Still.sLen rfl rfl | exact Still.sAdd rfl rfl (by omega) (by omega))) (k := ?_)) | refine go (k := ?_) | (refine goB (k := ?_); intro b) | (refine goA (k := ?_); intro ao cap))
    rw [ha]
    repeat (first | (apply Run.op; exact rfl; refine OpT.val_ (h := by (first | exact Still.sEql rfl rfl | exact Still.sNeq rfl rfl | exact Still.sLen rfl rfl | exact Still.sAdd rfl rfl (by omega) (by omega))) (k := ?_)) | (refine Run.yes_ (h := ?_); refine OpT.val_ (h := by (first | exact Still.sEql rfl rfl | exact Still.sNeq rfl rfl | exact Still.sLen rfl rfl | exact Still.sAdd rfl rfl (by omega) (by omega))) (k := ?_)) | (refine RunQ.val_ (h := by (first | exact Still.sEql rfl rfl | exact Still.sNeq rfl rfl | exact Still.sLen rfl rfl | exact Still.sAdd rfl rfl (by omega) (by omega))) (k := ?_)) | (refine RunQ.yes_ (h := by (first | exact Still.sEql rfl rfl | exact Still.sNeq rfl rfl | exact Still.sLen rfl rfl | exact Still.sAdd rfl rfl (by omega) (by omega))) (k := ?_)) | refine go (k := ?_) | (refine goB (k := ?_); intro b) | (refine goA (k := ?_); intro ao cap))
    apply Run.op (by exact rfl)
    refine OpT.storeE_ (a' := true) (k := ?_)
    simp only [Int.toNat_natCast]
    have hlen : (h.set a true).length = h.length := List.length_set
    have he : h.set a true = if i.op = 4 then h.set i.a.toNat true else h := by rw [if_pos o4, ha, Int.toNat_natCast]
    repeat (first | (apply Run.op; exact rfl; refine OpT.val_ (h := by (first | exact Still.sEql rfl rfl | exact Still.sNeq rfl rfl | exact Still.sLen rfl rfl | exact Still.sAdd rfl rfl (by omega) (by omega))) (k := ?_)) | (refine Run.yes_ (h := ?_); refine OpT.val_ (h := by (first | exact Still.sEql rfl rfl | exact Still.sNeq rfl rfl | exact Still.sLen rfl rfl | exact Still.sAdd rfl rfl (by omega) (by omega))) (k := ?_)) | (refine RunQ.val_ (h := by (first | exact Still.sEql rfl rfl | exact Still.sNeq rfl rfl | exact Still.sLen rfl rfl | exact Still.sAdd rfl rfl (by omega) (by omega))) (k := ?_)) | (refine RunQ.yes_ (h := by (first | exact Still.sEql rfl rfl | exact Still.sNeq rfl rfl | exact Still.sLen rfl rfl | exact Still.sAdd rfl rfl (by omega) (by omega))) (k := ?_)) | refine go (k := ?_) | (refine goB (k := ?_); intro b) | (refine goA (k := ?_); intro ao cap))
    rw [← ha]
    generalize h.set a true = h' at *
    rw [← hlen]
    (apply Cod.weak (hN c0 c3 h' hlen he); (focus (dsimp only [E7, F7, List.cons_append, List.nil_append]; exact sb)); (focus (dsimp only [M7, N7, List.cons_append, List.nil_append]; exact tks)))
  · repeat (first | (apply Run.op; exact rfl; refine OpT.val_ (h := by (first | exact Still.sEql rfl rfl | exact Still.sNeq rfl rfl | exact Still.sLen rfl rfl | exact Still.sAdd rfl rfl (by omega) (by omega))) (k := ?_)) | (refine Run.yes_ (h := ?_); refine OpT.val_ (h := by (first | exact Still.sEql rfl rfl | exact Still.sNeq rfl rfl | exact Still.sLen rfl rfl | exact Still.sAdd rfl rfl (by omega) (by omega))) (k := ?_)) | (refine RunQ.val_ (h := by (first | exact Still.sEql rfl rfl | exact Still.sNeq rfl rfl | exact Still.sLen rfl rfl | exact Still.sAdd rfl rfl (by omega) (by omega))) (k := ?_)) | (refine RunQ.yes_ (h := by (first | exact Still.sEql rfl rfl | exact Still.sNeq rfl rfl | exact Still.sLen rfl rfl | exact Still.sAdd rfl rfl (by omega) (by omega))) (k := ?_)) | refine go (k := ?_) | (refine goB (k := ?_); intro b) | (refine goA (k := ?_); intro ao cap))
    (apply Cod.weak (hN c0 c3 h rfl (by rw [if_neg o4])); (focus (dsimp only [E7, F7, List.cons_append, List.nil_append]; exact sb)); (focus (dsimp only [M7, N7, List.cons_append, List.nil_append]; exact tks)))
end
end Go.Proofs.Ytfeajpghabjaaaa.Vw
