/- yieldref7.Verify, walked: the document's answer is verify's. -/
import Derived.Test.YtfeajpghabjaaaaM39
namespace Go.Proofs.Ytfeajpghabjaaaa.Vw
open Go.RowKit Go.Proofs.Ytfeajpghabjaaaa.Img
set_option linter.unusedVariables false
set_option linter.unusedSimpArgs false
attribute [local irreducible] Run Cod End OpT Still RunQ RunS RunT Fn PutOk
set_option maxRecDepth 100000 in
set_option maxHeartbeats 1000000 in
theorem verify7_is (m : ML) (hwf : m.Wf) : Fn Try.prog 19 #[m.val] [md m] [] (σ := Unit) (fun _ => True) (fun _ => whereV (Ver.verify m.mdl)) (fun _ => []) := by
  obtain ⟨W, hW⟩ : ∃ W, W = Ver.verify m.mdl := ⟨_, rfl⟩
  rw [← hW]
  have hnu : m.mdl.units.length = m.us.length := by simp
  refine Fn.enter (args := [m.val]) Try.func19 rfl _ Try.ntmps19 rfl (by simp [rd_excl, md_excl]) (fun w S => ?_)
  (try conv => rhs; simp only [List.cons_append, List.nil_append])
  apply Cod.fact m.Small (fun w hm => (md_holds.1 (hm.has tk)).small)
  intro hsm
  have hs1 := hsm.bx
  have hs2 := hsm.us
  repeat (first | (apply Run.op; exact rfl; refine OpT.val_ (h := by (first | exact Still.sEql rfl rfl | exact Still.sNeq rfl rfl | exact Still.sLen rfl rfl | exact Still.sAdd rfl rfl (by omega) (by omega))) (k := ?_)) | (refine Run.yes_ (h := ?_); refine OpT.val_ (h := by (first | exact Still.sEql rfl rfl | exact Still.sNeq rfl rfl | exact Still.sLen rfl rfl | exact Still.sAdd rfl rfl (by omega) (by omega))) (k := ?_)) | (refine RunQ.val_ (h := by (first | exact Still.sEql rfl rfl | exact Still.sNeq rfl rfl | exact Still.sLen rfl rfl | exact Still.sAdd rfl rfl (by omega) (by omega))) (k := ?_)) | (refine RunQ.yes_ (h := by (first | exact Still.sEql rfl rfl | exact Still.sNeq rfl rfl | exact Still.sLen rfl rfl | exact Still.sAdd rfl rfl (by omega) (by omega))) (k := ?_)) | refine go (k := ?_) | (refine goB (k := ?_); intro b) | (refine goA (k := ?_); intro ao cap))
  obtain ⟨wb, rfl⟩ : ∃ x, x = b := ⟨_, rfl⟩
  obtain ⟨mb, rfl⟩ : ∃ x, x = b := ⟨_, rfl⟩
  (first | (apply Run.op; exact rfl) | refine Run.yes_ (h := ?_)); refine OpT.call0_ (spec := form7_is m hwf) (k := ?_); intro s hs; (try conv => rhs; simp only [List.cons_append, List.nil_append])
  by_cases hf : (Ver.form m.mdl).err = 0
  · have hO := Ver.form_ok.1 hf
    have hF := formed hO
    have hFr := Rf7.frm_of hO
    have hB := hF.boxes
    have hU := hF.units
    have hcalls : ∀ k, k < m.mdl.units.length → ∀ i ∈ (m.mdl.units.getD k default).code, i.op = 23 ∨ i.op = 29 → 0 ≤ i.a ∧ i.a < (m.mdl.units.length : Int) := by rw [hnu]; exact hF.calls
    repeat (first | (apply Run.op; exact rfl; refine OpT.val_ (h := by (first | exact Still.sEql rfl rfl | exact Still.sNeq rfl rfl | exact Still.sLen rfl rfl | exact Still.sAdd rfl rfl (by omega) (by omega))) (k := ?_)) | (refine Run.yes_ (h := ?_); refine OpT.val_ (h := by (first | exact Still.sEql rfl rfl | exact Still.sNeq rfl rfl | exact Still.sLen rfl rfl | exact Still.sAdd rfl rfl (by omega) (by omega))) (k := ?_)) | (refine RunQ.val_ (h := by (first | exact Still.sEql rfl rfl | exact Still.sNeq rfl rfl | exact Still.sLen rfl rfl | exact Still.sAdd rfl rfl (by omega) (by omega))) (k := ?_)) | (refine RunQ.yes_ (h := by (first | exact Still.sEql rfl rfl | exact Still.sNeq rfl rfl | exact Still.sLen rfl rfl | exact Still.sAdd rfl rfl (by omega) (by omega))) (k := ?_)) | refine go (k := ?_) | (refine goB (k := ?_); intro b) | (refine goA (k := ?_); intro ao cap))
    refine Cod.only ((fun _ => [old w S, md m, blk wb [.int .i64 0, .int .i64 0, .int .i64 0] 28, blk mb [.slice m.bo m.bx.length m.bc, .slice m.uo m.us.length m.uc] 25]) 0) (by (repeat (first | exact Takes.nil | exact Take.head | apply Take.tail | apply Takes.cons))) ?_
    apply Cod.loop (σ := Nat) (fun k => k ≤ m.us.length ∧ Ver.codes m.mdl 0 m.mdl.units.length = Ver.codes m.mdl k (m.us.length - k)) (fun k => [(1, ptr mb), (2, ptr wb), (19, .int .i64 (m.us.length : Int)), (20, .int .i64 (k : Int))]) (fun _ => [old w S, md m, blk wb [.int .i64 0, .int .i64 0, .int .i64 0] 28, blk mb [.slice m.bo m.bx.length m.bc, .slice m.uo m.us.length m.uc] 25]) (fun k => m.us.length - k) 0
    rotate_left
    exact sb
    exact tks
    intro k hs K1 hK1
    (try conv => rhs; simp only [List.cons_append, List.nil_append])
    rotate_left
    · exact ⟨Nat.zero_le _, by simp⟩
    obtain ⟨hk, hc⟩ := hs
    by_cases hkl : k < m.us.length
    · rw [show m.us.length - k = (m.us.length - (k + 1)) + 1 by omega] at hc
      repeat (first | (apply Run.op; exact rfl; refine OpT.val_ (h := by (first | exact Still.sEql rfl rfl | exact Still.sNeq rfl rfl | exact Still.sLen rfl rfl | exact Still.sAdd rfl rfl (by omega) (by omega))) (k := ?_)) | (refine Run.yes_ (h := ?_); refine OpT.val_ (h := by (first | exact Still.sEql rfl rfl | exact Still.sNeq rfl rfl | exact Still.sLen rfl rfl | exact Still.sAdd rfl rfl (by omega) (by omega))) (k := ?_)) | (refine RunQ.val_ (h := by (first | exact Still.sEql rfl rfl | exact Still.sNeq rfl rfl | exact Still.sLen rfl rfl | exact Still.sAdd rfl rfl (by omega) (by omega))) (k := ?_)) | (refine RunQ.yes_ (h := by (first | exact Still.sEql rfl rfl | exact Still.sNeq rfl rfl | exact Still.sLen rfl rfl | exact Still.sAdd rfl rfl (by omega) (by omega))) (k := ?_)) | refine go (k := ?_) | (refine goB (k := ?_); intro b) | (refine goA (k := ?_); intro ao cap))
      (first | (apply Run.op; exact rfl) | refine Run.yes_ (h := ?_)); refine OpT.call0_ (spec := code7_is m k hkl hF hwf hFr) (k := ?_); intro s hs; (try conv => rhs; simp only [List.cons_append, List.nil_append])
      by_cases he : (Ver.code m.mdl k).err = 0
      · rw [Ver.codes_2 he] at hc
        repeat (first | (apply Run.op; exact rfl; refine OpT.val_ (h := by (first | exact Still.sEql rfl rfl | exact Still.sNeq rfl rfl | exact Still.sLen rfl rfl | exact Still.sAdd rfl rfl (by omega) (by omega))) (k := ?_)) | (refine Run.yes_ (h := ?_); refine OpT.val_ (h := by (first | exact Still.sEql rfl rfl | exact Still.sNeq rfl rfl | exact Still.sLen rfl rfl | exact Still.sAdd rfl rfl (by omega) (by omega))) (k := ?_)) | (refine RunQ.val_ (h := by (first | exact Still.sEql rfl rfl | exact Still.sNeq rfl rfl | exact Still.sLen rfl rfl | exact Still.sAdd rfl rfl (by omega) (by omega))) (k := ?_)) | (refine RunQ.yes_ (h := by (first | exact Still.sEql rfl rfl | exact Still.sNeq rfl rfl | exact Still.sLen rfl rfl | exact Still.sAdd rfl rfl (by omega) (by omega))) (k := ?_)) | refine go (k := ?_) | (refine goB (k := ?_); intro b) | (refine goA (k := ?_); intro ao cap))
        refine End.round0_ hK1 (k + 1) ?_ ?_
        · exact ⟨by omega, hc⟩
        · omega
      · rw [Ver.codes_1 he] at hc
        have hWx : W = Ver.code m.mdl k := by
          rw [hW, Ver.verify_2 hf (by rw [hc]; exact he), hc]
        repeat (first | (apply Run.op; exact rfl; refine OpT.val_ (h := by (first | exact Still.sEql rfl rfl | exact Still.sNeq rfl rfl | exact Still.sLen rfl rfl | exact Still.sAdd rfl rfl (by omega) (by omega))) (k := ?_)) | (refine Run.yes_ (h := ?_); refine OpT.val_ (h := by (first | exact Still.sEql rfl rfl | exact Still.sNeq rfl rfl | exact Still.sLen rfl rfl | exact Still.sAdd rfl rfl (by omega) (by omega))) (k := ?_)) | (refine RunQ.val_ (h := by (first | exact Still.sEql rfl rfl | exact Still.sNeq rfl rfl | exact Still.sLen rfl rfl | exact Still.sAdd rfl rfl (by omega) (by omega))) (k := ?_)) | (refine RunQ.yes_ (h := by (first | exact Still.sEql rfl rfl | exact Still.sNeq rfl rfl | exact Still.sLen rfl rfl | exact Still.sAdd rfl rfl (by omega) (by omega))) (k := ?_)) | refine go (k := ?_) | (refine goB (k := ?_); intro b) | (refine goA (k := ?_); intro ao cap))
        (refine End.doneC1_ (()) (he := by exact where_eq hWx) (hp := ?_))
        trivial
    · have hWx : W = Ver.owned m.mdl 0 m.bx.length := by
        rw [hW, Ver.verify_3 hf (by rw [hc, show m.us.length - k = 0 by omega]; rfl)]
      clear hc hK1
      repeat (first | (apply Run.op; exact rfl; refine OpT.val_ (h := by (first | exact Still.sEql rfl rfl | exact Still.sNeq rfl rfl | exact Still.sLen rfl rfl | exact Still.sAdd rfl rfl (by omega) (by omega))) (k := ?_)) | (refine Run.yes_ (h := ?_); refine OpT.val_ (h := by (first | exact Still.sEql rfl rfl | exact Still.sNeq rfl rfl | exact Still.sLen rfl rfl | exact Still.sAdd rfl rfl (by omega) (by omega))) (k := ?_)) | (refine RunQ.val_ (h := by (first | exact Still.sEql rfl rfl | exact Still.sNeq rfl rfl | exact Still.sLen rfl rfl | exact Still.sAdd rfl rfl (by omega) (by omega))) (k := ?_)) | (refine RunQ.yes_ (h := by (first | exact Still.sEql rfl rfl | exact Still.sNeq rfl rfl | exact Still.sLen rfl rfl | exact Still.sAdd rfl rfl (by omega) (by omega))) (k := ?_)) | refine go (k := ?_) | (refine goB (k := ?_); intro b) | (refine goA (k := ?_); intro ao cap))
      refine Cod.only ((fun _ => [old w S, md m, blk wb [.int .i64 0, .int .i64 0, .int .i64 0] 28, blk mb [.slice m.bo m.bx.length m.bc, .slice m.uo m.us.length m.uc] 25]) 0) (by (repeat (first | exact Takes.nil | exact Take.head | apply Take.tail | apply Takes.cons))) ?_
      apply Cod.loop (σ := Nat) (fun bi => bi ≤ m.bx.length ∧ W = Ver.owned m.mdl bi (m.bx.length - bi)) (fun bi => [(1, ptr mb), (2, ptr wb), (33, .int .i64 (m.bx.length : Int)), (34, .int .i64 (bi : Int))]) (fun _ => [old w S, md m, blk wb [.int .i64 0, .int .i64 0, .int .i64 0] 28, blk mb [.slice m.bo m.bx.length m.bc, .slice m.uo m.us.length m.uc] 25]) (fun bi => m.bx.length - bi) 0
      rotate_left
      exact sb
      exact tks
      intro bi hb K2 hK2
      (try conv => rhs; simp only [List.cons_append, List.nil_append])
      rotate_left
      · exact ⟨Nat.zero_le _, by rw [hWx]; rfl⟩
      obtain ⟨hb, hWb⟩ := hb
      by_cases hbl : bi < m.bx.length
      · rw [show m.bx.length - bi = (m.bx.length - (bi + 1)) + 1 by omega] at hWb
        repeat (first | (apply Run.op; exact rfl; refine OpT.val_ (h := by (first | exact Still.sEql rfl rfl | exact Still.sNeq rfl rfl | exact Still.sLen rfl rfl | exact Still.sAdd rfl rfl (by omega) (by omega))) (k := ?_)) | (refine Run.yes_ (h := ?_); refine OpT.val_ (h := by (first | exact Still.sEql rfl rfl | exact Still.sNeq rfl rfl | exact Still.sLen rfl rfl | exact Still.sAdd rfl rfl (by omega) (by omega))) (k := ?_)) | (refine RunQ.val_ (h := by (first | exact Still.sEql rfl rfl | exact Still.sNeq rfl rfl | exact Still.sLen rfl rfl | exact Still.sAdd rfl rfl (by omega) (by omega))) (k := ?_)) | (refine RunQ.yes_ (h := by (first | exact Still.sEql rfl rfl | exact Still.sNeq rfl rfl | exact Still.sLen rfl rfl | exact Still.sAdd rfl rfl (by omega) (by omega))) (k := ?_)) | refine go (k := ?_) | (refine goB (k := ?_); intro b) | (refine goA (k := ?_); intro ao cap))
        refine Cod.only ((fun _ => [old w S, md m, blk wb [.int .i64 0, .int .i64 0, .int .i64 0] 28, blk mb [.slice m.bo m.bx.length m.bc, .slice m.uo m.us.length m.uc] 25]) 0) (by (repeat (first | exact Takes.nil | exact Take.head | apply Take.tail | apply Takes.cons))) ?_
        apply Cod.loop (σ := Nat) (fun k => k ≤ m.us.length) (fun k => [(1, ptr mb), (2, ptr wb), (6, .int .i64 (bi : Int)), (7, .int .i64 ((Ver.usersTo m.mdl 26 bi k : Nat) : Int)), (8, .int .i64 ((Ver.usersTo m.mdl 27 bi k : Nat) : Int)), (33, .int .i64 (m.bx.length : Int)), (34, .int .i64 (bi : Int)), (38, .slice m.uo m.us.length m.uc), (39, .int .i64 (m.us.length : Int)), (40, .int .i64 (k : Int))]) (fun _ => [old w S, md m, blk wb [.int .i64 0, .int .i64 0, .int .i64 0] 28, blk mb [.slice m.bo m.bx.length m.bc, .slice m.uo m.us.length m.uc] 25]) (fun k => m.us.length - k) 0
        rotate_left
        exact sb
        exact tks
        intro k2 hk2 K3 hK3
        (try conv => rhs; simp only [List.cons_append, List.nil_append])
        rotate_left
        · exact Nat.zero_le _
        by_cases hkl2 : k2 < m.us.length
        · have e26 := Ver.usersTo_succ m.mdl 26 bi k2
          have e27 := Ver.usersTo_succ m.mdl 27 bi k2
          have l26 := Ver.usersTo_le m.mdl 26 bi k2
          have l27 := Ver.usersTo_le m.mdl 27 bi k2
          rw [ML.unit_at] at e26 e27
          have c26 := Rf7.comes_uses hcalls (task := k2) (by omega) 26 bi
          have c27 := Rf7.comes_uses hcalls (task := k2) (by omega) 27 bi
          rw [← c26] at e26
          rw [← c27] at e27
          clear c26 c27
          by_cases k4 : (m.us.getD k2 default).u.kind = 4
          · rw [decide_eq_true k4, Bool.true_and] at e26 e27
            repeat (first | (apply Run.op; exact rfl; refine OpT.val_ (h := by (first | exact Still.sEql rfl rfl | exact Still.sNeq rfl rfl | exact Still.sLen rfl rfl | exact Still.sAdd rfl rfl (by omega) (by omega))) (k := ?_)) | (refine Run.yes_ (h := ?_); refine OpT.val_ (h := by (first | exact Still.sEql rfl rfl | exact Still.sNeq rfl rfl | exact Still.sLen rfl rfl | exact Still.sAdd rfl rfl (by omega) (by omega))) (k := ?_)) | (refine RunQ.val_ (h := by (first | exact Still.sEql rfl rfl | exact Still.sNeq rfl rfl | exact Still.sLen rfl rfl | exact Still.sAdd rfl rfl (by omega) (by omega))) (k := ?_)) | (refine RunQ.yes_ (h := by (first | exact Still.sEql rfl rfl | exact Still.sNeq rfl rfl | exact Still.sLen rfl rfl | exact Still.sAdd rfl rfl (by omega) (by omega))) (k := ?_)) | refine go (k := ?_) | (refine goB (k := ?_); intro b) | (refine goA (k := ?_); intro ao cap))
            (first | (apply Run.op; exact rfl) | refine Run.yes_ (h := ?_)); refine OpT.call0_ (spec := comes7_is m k2 hkl2 hF 26 bi) (k := ?_); intro s hs; (try conv => rhs; simp only [List.cons_append, List.nil_append])
            cases u26 : Rf7.comes7 m.mdl k2 26 bi with
            | true =>
              rw [u26, if_pos rfl] at e26
              repeat (first | (apply Run.op; exact rfl; refine OpT.val_ (h := by (first | exact Still.sEql rfl rfl | exact Still.sNeq rfl rfl | exact Still.sLen rfl rfl | exact Still.sAdd rfl rfl (by omega) (by omega))) (k := ?_)) | (refine Run.yes_ (h := ?_); refine OpT.val_ (h := by (first | exact Still.sEql rfl rfl | exact Still.sNeq rfl rfl | exact Still.sLen rfl rfl | exact Still.sAdd rfl rfl (by omega) (by omega))) (k := ?_)) | (refine RunQ.val_ (h := by (first | exact Still.sEql rfl rfl | exact Still.sNeq rfl rfl | exact Still.sLen rfl rfl | exact Still.sAdd rfl rfl (by omega) (by omega))) (k := ?_)) | (refine RunQ.yes_ (h := by (first | exact Still.sEql rfl rfl | exact Still.sNeq rfl rfl | exact Still.sLen rfl rfl | exact Still.sAdd rfl rfl (by omega) (by omega))) (k := ?_)) | refine go (k := ?_) | (refine goB (k := ?_); intro b) | (refine goA (k := ?_); intro ao cap))
              (first | (apply Run.op; exact rfl) | refine Run.yes_ (h := ?_)); refine OpT.call0_ (spec := comes7_is m k2 hkl2 hF 27 bi) (k := ?_); intro s hs; (try conv => rhs; simp only [List.cons_append, List.nil_append])
              cases u27 : Rf7.comes7 m.mdl k2 27 bi with
              | true =>
                rw [u27, if_pos rfl] at e27
                repeat (first | (apply Run.op; exact rfl; refine OpT.val_ (h := by (first | exact Still.sEql rfl rfl | exact Still.sNeq rfl rfl | exact Still.sLen rfl rfl | exact Still.sAdd rfl rfl (by omega) (by omega))) (k := ?_)) | (refine Run.yes_ (h := ?_); refine OpT.val_ (h := by (first | exact Still.sEql rfl rfl | exact Still.sNeq rfl rfl | exact Still.sLen rfl rfl | exact Still.sAdd rfl rfl (by omega) (by omega))) (k := ?_)) | (refine RunQ.val_ (h := by (first | exact Still.sEql rfl rfl | exact Still.sNeq rfl rfl | exact Still.sLen rfl rfl | exact Still.sAdd rfl rfl (by omega) (by omega))) (k := ?_)) | (refine RunQ.yes_ (h := by (first | exact Still.sEql rfl rfl | exact Still.sNeq rfl rfl | exact Still.sLen rfl rfl | exact Still.sAdd rfl rfl (by omega) (by omega))) (k := ?_)) | refine go (k := ?_) | (refine goB (k := ?_); intro b) | (refine goA (k := ?_); intro ao cap))
                refine End.round0_ hK3 (k2 + 1) ?_ ?_
                · omega
                · omega
              | false =>
                rw [u27, if_neg (by decide)] at e27
                repeat (first | (apply Run.op; exact rfl; refine OpT.val_ (h := by (first | exact Still.sEql rfl rfl | exact Still.sNeq rfl rfl | exact Still.sLen rfl rfl | exact Still.sAdd rfl rfl (by omega) (by omega))) (k := ?_)) | (refine Run.yes_ (h := ?_); refine OpT.val_ (h := by (first | exact Still.sEql rfl rfl | exact Still.sNeq rfl rfl | exact Still.sLen rfl rfl | exact Still.sAdd rfl rfl (by omega) (by omega))) (k := ?_)) | (refine RunQ.val_ (h := by (first | exact Still.sEql rfl rfl | exact Still.sNeq rfl rfl | exact Still.sLen rfl rfl | exact Still.sAdd rfl rfl (by omega) (by omega))) (k := ?_)) | (refine RunQ.yes_ (h := by (first | exact Still.sEql rfl rfl | exact Still.sNeq rfl rfl | exact Still.sLen rfl rfl | exact Still.sAdd rfl rfl (by omega) (by omega))) (k := ?_)) | refine go (k := ?_) | (refine goB (k := ?_); intro b) | (refine goA (k := ?_); intro ao cap))
                refine End.round0_ hK3 (k2 + 1) ?_ ?_
                · omega
                · omega
            | false =>
              rw [u26, if_neg (by decide)] at e26
              repeat (first | (apply Run.op; exact rfl; refine OpT.val_ (h := by (first | exact Still.sEql rfl rfl | exact Still.sNeq rfl rfl | exact Still.sLen rfl rfl | exact Still.sAdd rfl rfl (by omega) (by omega))) (k := ?_)) | (refine Run.yes_ (h := ?_); refine OpT.val_ (h := by (first | exact Still.sEql rfl rfl | exact Still.sNeq rfl rfl | exact Still.sLen rfl rfl | exact Still.sAdd rfl rfl (by omega) (by omega))) (k := ?_)) | (refine RunQ.val_ (h := by (first | exact Still.sEql rfl rfl | exact Still.sNeq rfl rfl | exact Still.sLen rfl rfl | exact Still.sAdd rfl rfl (by omega) (by omega))) (k := ?_)) | (refine RunQ.yes_ (h := by (first | exact Still.sEql rfl rfl | exact Still.sNeq rfl rfl | exact Still.sLen rfl rfl | exact Still.sAdd rfl rfl (by omega) (by omega))) (k := ?_)) | refine go (k := ?_) | (refine goB (k := ?_); intro b) | (refine goA (k := ?_); intro ao cap))
              (first | (apply Run.op; exact rfl) | refine Run.yes_ (h := ?_)); refine OpT.call0_ (spec := comes7_is m k2 hkl2 hF 27 bi) (k := ?_); intro s hs; (try conv => rhs; simp only [List.cons_append, List.nil_append])
              cases u27 : Rf7.comes7 m.mdl k2 27 bi with
              | true =>
                rw [u27, if_pos rfl] at e27
                repeat (first | (apply Run.op; exact rfl; refine OpT.val_ (h := by (first | exact Still.sEql rfl rfl | exact Still.sNeq rfl rfl | exact Still.sLen rfl rfl | exact Still.sAdd rfl rfl (by omega) (by omega))) (k := ?_)) | (refine Run.yes_ (h := ?_); refine OpT.val_ (h := by (first | exact Still.sEql rfl rfl | exact Still.sNeq rfl rfl | exact Still.sLen rfl rfl | exact Still.sAdd rfl rfl (by omega) (by omega))) (k := ?_)) | (refine RunQ.val_ (h := by (first | exact Still.sEql rfl rfl | exact Still.sNeq rfl rfl | exact Still.sLen rfl rfl | exact Still.sAdd rfl rfl (by omega) (by omega))) (k := ?_)) | (refine RunQ.yes_ (h := by (first | exact Still.sEql rfl rfl | exact Still.sNeq rfl rfl | exact Still.sLen rfl rfl | exact Still.sAdd rfl rfl (by omega) (by omega))) (k := ?_)) | refine go (k := ?_) | (refine goB (k := ?_); intro b) | (refine goA (k := ?_); intro ao cap))
                refine End.round0_ hK3 (k2 + 1) ?_ ?_
                · omega
                · omega
              | false =>
                rw [u27, if_neg (by decide)] at e27
                repeat (first | (apply Run.op; exact rfl; refine OpT.val_ (h := by (first | exact Still.sEql rfl rfl | exact Still.sNeq rfl rfl | exact Still.sLen rfl rfl | exact Still.sAdd rfl rfl (by omega) (by omega))) (k := ?_)) | (refine Run.yes_ (h := ?_); refine OpT.val_ (h := by (first | exact Still.sEql rfl rfl | exact Still.sNeq rfl rfl | exact Still.sLen rfl rfl | exact Still.sAdd rfl rfl (by omega) (by omega))) (k := ?_)) | (refine RunQ.val_ (h := by (first | exact Still.sEql rfl rfl | exact Still.sNeq rfl rfl | exact Still.sLen rfl rfl | exact Still.sAdd rfl rfl (by omega) (by omega))) (k := ?_)) | (refine RunQ.yes_ (h := by (first | exact Still.sEql rfl rfl | exact Still.sNeq rfl rfl | exact Still.sLen rfl rfl | exact Still.sAdd rfl rfl (by omega) (by omega))) (k := ?_)) | refine go (k := ?_) | (refine goB (k := ?_); intro b) | (refine goA (k := ?_); intro ao cap))
                refine End.round0_ hK3 (k2 + 1) ?_ ?_
                · omega
                · omega
          · rw [decide_eq_false k4, Bool.false_and, if_neg (by decide)] at e26 e27
            repeat (first | (apply Run.op; exact rfl; refine OpT.val_ (h := by (first | exact Still.sEql rfl rfl | exact Still.sNeq rfl rfl | exact Still.sLen rfl rfl | exact Still.sAdd rfl rfl (by omega) (by omega))) (k := ?_)) | (refine Run.yes_ (h := ?_); refine OpT.val_ (h := by (first | exact Still.sEql rfl rfl | exact Still.sNeq rfl rfl | exact Still.sLen rfl rfl | exact Still.sAdd rfl rfl (by omega) (by omega))) (k := ?_)) | (refine RunQ.val_ (h := by (first | exact Still.sEql rfl rfl | exact Still.sNeq rfl rfl | exact Still.sLen rfl rfl | exact Still.sAdd rfl rfl (by omega) (by omega))) (k := ?_)) | (refine RunQ.yes_ (h := by (first | exact Still.sEql rfl rfl | exact Still.sNeq rfl rfl | exact Still.sLen rfl rfl | exact Still.sAdd rfl rfl (by omega) (by omega))) (k := ?_)) | refine go (k := ?_) | (refine goB (k := ?_); intro b) | (refine goA (k := ?_); intro ao cap))
            refine End.round0_ hK3 (k2 + 1) ?_ ?_
            · omega
            · omega
        · obtain rfl : k2 = m.us.length := by omega
          have u26 : Ver.users m.mdl 26 bi = Ver.usersTo m.mdl 26 bi m.us.length := by rw [← hnu]; rfl
          have u27 : Ver.users m.mdl 27 bi = Ver.usersTo m.mdl 27 bi m.us.length := by rw [← hnu]; rfl
          clear hK3
          by_cases g26 : 1 < Ver.usersTo m.mdl 26 bi m.us.length
          · rw [Ver.owned_1 (by rw [u26]; exact .inl g26)] at hWb
            repeat (first | (apply Run.op; exact rfl; refine OpT.val_ (h := by (first | exact Still.sEql rfl rfl | exact Still.sNeq rfl rfl | exact Still.sLen rfl rfl | exact Still.sAdd rfl rfl (by omega) (by omega))) (k := ?_)) | (refine Run.yes_ (h := ?_); refine OpT.val_ (h := by (first | exact Still.sEql rfl rfl | exact Still.sNeq rfl rfl | exact Still.sLen rfl rfl | exact Still.sAdd rfl rfl (by omega) (by omega))) (k := ?_)) | (refine RunQ.val_ (h := by (first | exact Still.sEql rfl rfl | exact Still.sNeq rfl rfl | exact Still.sLen rfl rfl | exact Still.sAdd rfl rfl (by omega) (by omega))) (k := ?_)) | (refine RunQ.yes_ (h := by (first | exact Still.sEql rfl rfl | exact Still.sNeq rfl rfl | exact Still.sLen rfl rfl | exact Still.sAdd rfl rfl (by omega) (by omega))) (k := ?_)) | refine go (k := ?_) | (refine goB (k := ?_); intro b) | (refine goA (k := ?_); intro ao cap))
            (refine End.doneC1_ (()) (he := by exact where_eq hWb) (hp := ?_))
            trivial
          by_cases g27 : 1 < Ver.usersTo m.mdl 27 bi m.us.length
          · rw [Ver.owned_1 (by rw [u27]; exact .inr g27)] at hWb
            repeat (first | (apply Run.op; exact rfl; refine OpT.val_ (h := by (first | exact Still.sEql rfl rfl | exact Still.sNeq rfl rfl | exact Still.sLen rfl rfl | exact Still.sAdd rfl rfl (by omega) (by omega))) (k := ?_)) | (refine Run.yes_ (h := ?_); refine OpT.val_ (h := by (first | exact Still.sEql rfl rfl | exact Still.sNeq rfl rfl | exact Still.sLen rfl rfl | exact Still.sAdd rfl rfl (by omega) (by omega))) (k := ?_)) | (refine RunQ.val_ (h := by (first | exact Still.sEql rfl rfl | exact Still.sNeq rfl rfl | exact Still.sLen rfl rfl | exact Still.sAdd rfl rfl (by omega) (by omega))) (k := ?_)) | (refine RunQ.yes_ (h := by (first | exact Still.sEql rfl rfl | exact Still.sNeq rfl rfl | exact Still.sLen rfl rfl | exact Still.sAdd rfl rfl (by omega) (by omega))) (k := ?_)) | refine go (k := ?_) | (refine goB (k := ?_); intro b) | (refine goA (k := ?_); intro ao cap))
            (refine End.doneC1_ (()) (he := by exact where_eq hWb) (hp := ?_))
            trivial
          rw [Ver.owned_2 (by rw [u26, u27]; exact fun h => h.elim g26 g27)] at hWb
          repeat (first | (apply Run.op; exact rfl; refine OpT.val_ (h := by (first | exact Still.sEql rfl rfl | exact Still.sNeq rfl rfl | exact Still.sLen rfl rfl | exact Still.sAdd rfl rfl (by omega) (by omega))) (k := ?_)) | (refine Run.yes_ (h := ?_); refine OpT.val_ (h := by (first | exact Still.sEql rfl rfl | exact Still.sNeq rfl rfl | exact Still.sLen rfl rfl | exact Still.sAdd rfl rfl (by omega) (by omega))) (k := ?_)) | (refine RunQ.val_ (h := by (first | exact Still.sEql rfl rfl | exact Still.sNeq rfl rfl | exact Still.sLen rfl rfl | exact Still.sAdd rfl rfl (by omega) (by omega))) (k := ?_)) | (refine RunQ.yes_ (h := by (first | exact Still.sEql rfl rfl | exact Still.sNeq rfl rfl | exact Still.sLen rfl rfl | exact Still.sAdd rfl rfl (by omega) (by omega))) (k := ?_)) | refine go (k := ?_) | (refine goB (k := ?_); intro b) | (refine goA (k := ?_); intro ao cap))
          refine End.round0_ hK2 (bi + 1) ?_ ?_
          · exact ⟨by omega, hWb⟩
          · omega
      · rw [show m.bx.length - bi = 0 by omega] at hWb
        repeat (first | (apply Run.op; exact rfl; refine OpT.val_ (h := by (first | exact Still.sEql rfl rfl | exact Still.sNeq rfl rfl | exact Still.sLen rfl rfl | exact Still.sAdd rfl rfl (by omega) (by omega))) (k := ?_)) | (refine Run.yes_ (h := ?_); refine OpT.val_ (h := by (first | exact Still.sEql rfl rfl | exact Still.sNeq rfl rfl | exact Still.sLen rfl rfl | exact Still.sAdd rfl rfl (by omega) (by omega))) (k := ?_)) | (refine RunQ.val_ (h := by (first | exact Still.sEql rfl rfl | exact Still.sNeq rfl rfl | exact Still.sLen rfl rfl | exact Still.sAdd rfl rfl (by omega) (by omega))) (k := ?_)) | (refine RunQ.yes_ (h := by (first | exact Still.sEql rfl rfl | exact Still.sNeq rfl rfl | exact Still.sLen rfl rfl | exact Still.sAdd rfl rfl (by omega) (by omega))) (k := ?_)) | refine go (k := ?_) | (refine goB (k := ?_); intro b) | (refine goA (k := ?_); intro ao cap))
        (refine End.doneC1_ (()) (he := by exact where_eq hWb) (hp := ?_))
        trivial
  · have hWx : W = Ver.form m.mdl := by rw [hW, Ver.verify_1 hf]
    repeat (first | (apply Run.op; exact rfl; refine OpT.val_ (h := by (first | exact Still.sEql rfl rfl | exact Still.sNeq rfl rfl | exact Still.sLen rfl rfl | exact Still.sAdd rfl rfl (by omega) (by omega))) (k := ?_)) | (refine Run.yes_ (h := ?_); refine OpT.val_ (h := by (first | exact Still.sEql rfl rfl | exact Still.sNeq rfl rfl | exact Still.sLen rfl rfl | exact Still.sAdd rfl rfl (by omega) (by omega))) (k := ?_)) | (refine RunQ.val_ (h := by (first | exact Still.sEql rfl rfl | exact Still.sNeq rfl rfl | exact Still.sLen rfl rfl | exact Still.sAdd rfl rfl (by omega) (by omega))) (k := ?_)) | (refine RunQ.yes_ (h := by (first | exact Still.sEql rfl rfl | exact Still.sNeq rfl rfl | exact Still.sLen rfl rfl | exact Still.sAdd rfl rfl (by omega) (by omega))) (k := ?_)) | refine go (k := ?_) | (refine goB (k := ?_); intro b) | (refine goA (k := ?_); intro ao cap))
    (refine End.doneC1_ (()) (he := by exact where_eq hWx) (hp := ?_))
    trivial
end Go.Proofs.Ytfeajpghabjaaaa.Vw

/- yieldref14's Module, walked. -/
namespace Go.Proofs.Ytfeajpghabjaaaa.Vw
open Go.RowKit Go.Proofs.Ytfeajpghabjaaaa.Img
set_option linter.unusedVariables false
set_option linter.unusedSimpArgs false
/-- units whose locals are another module's, and whose code is one's own -/
def innerC (us : List UC) : List Chunk := us.map fun x => arr x.co x.u.code.length x.cc 57 insC x.u.code
theorem innerC_snoc (us : List UC) (x : UC) : innerC (us ++ [x]) = innerC us ++ [arr x.co x.u.code.length x.cc 57 insC x.u.code] := by simp [innerC]
theorem Mem.codeAdd {w : World} {L L' F : List Chunk} (us : List UC) (x : UC) (h : Mem w L) (t : Take (bag (innerC us)) L L')
    (t2 : Takes [arr x.co x.u.code.length x.cc 57 insC x.u.code] L' F) : Mem w (bag (innerC (us ++ [x])) :: F) := by
  rw [innerC_snoc]
  exact h.bagAdd t t2 (by simp [arr_excl])
abbrev rsC (n : ML) : List Chunk := [arr n.uo n.us.length n.uc 38 ucell n.us, bag (innerC n.us)]
/-- what a module has of another one's -/
structure Share (m n : ML) : Prop where
  bo : n.bo = m.bo
  bc : n.bc = m.bc
  bx : n.bx = m.bx
  us : n.us.map (fun x => (x.u, x.lo, x.lc)) = m.us.map (fun x => (Opt.unit x.u, x.lo, x.lc))
theorem Share.mdl {m n : ML} (h : Share m n) : n.mdl = Opt.mdl m.mdl := by
  have e := congrArg (List.map fun x : ImgM.Unt × Option Addr × Nat => x.1) h.us
  simp only [List.map_map] at e
  unfold Opt.mdl
  simp only [ML.mdl, ImgM.Mdl.mk.injEq, List.map_map]
  exact ⟨h.bx, e⟩
theorem Share.local {m n : ML} (h : Share m n) {x : UC} (hx : x ∈ n.us) : ∃ y ∈ m.us, x.lo = y.lo ∧ x.lc = y.lc ∧ x.u.locals = y.u.locals := by
  have : (x.u, x.lo, x.lc) ∈ n.us.map (fun x => (x.u, x.lo, x.lc)) := List.mem_map.2 ⟨x, hx, rfl⟩
  rw [h.us] at this
  obtain ⟨y, hy, he⟩ := List.mem_map.1 this
  simp only [Prod.mk.injEq] at he
  exact ⟨y, hy, he.2.1.symm, he.2.2.symm, by rw [← he.1]; rfl⟩
theorem share_md {w : World} {L F : List Chunk} {m n : ML} (hs : Share m n) (t : Takes [arr n.uo n.us.length n.uc 38 ucell n.us, bag (innerC n.us), md m] L F) (h : Mem w L) : Mem w (md n :: F) := by
  have ht := h.takes t
  have a1 := arr_holds.1 (ht.all _ (.head _))
  have a2 := bag_holds.1 (ht.all _ (.tail _ (.head _)))
  have a3 := md_holds.1 (ht.all _ (.tail _ (.tail _ (.head _))))
  have l1 := a1.1.le
  have hin : ∀ x ∈ n.us, (arr x.co x.u.code.length x.cc 57 insC x.u.code).holds w := fun x hx => a2.1.all _ (List.mem_map.2 ⟨x, hx, rfl⟩)
  refine Mem.toRead t h (md_holds.2 ⟨by rw [hs.bo, hs.bc, hs.bx]; exact a3.boxes, a1.1.row Enc.pos, fun x hx => ?_, fun x hx => (arr_holds.1 (hin x hx)).1.row Enc.pos⟩) md_excl (fun b hb => ?_)
  · obtain ⟨y, hy, e1, e2, e3⟩ := hs.local hx
    rw [e1, e2, e3]
    exact a3.locals y hy
  · rw [md_foot] at hb
    rcases hb with ⟨h, h0⟩ | ⟨h, h0⟩ | ⟨x, hx, ⟨h, h0⟩ | ⟨h, h0⟩⟩
    · rw [hs.bo, hs.bc, hs.bx] at h
      rw [hs.bx] at h0
      exact ⟨_, .tail _ (.tail _ (.head _)), md_foot.2 (.inl ⟨h, h0⟩)⟩
    · exact ⟨_, .head _, arr_foot.2 ⟨h, by omega⟩⟩
    · obtain ⟨y, hy, e1, e2, e3⟩ := hs.local hx
      rw [e1, e2, e3] at h
      rw [e3] at h0
      exact ⟨_, .tail _ (.tail _ (.head _)), md_foot.2 (.inr (.inr ⟨y, hy, .inl ⟨h, h0⟩⟩))⟩
    · have := (arr_holds.1 (hin x hx)).1.le
      exact ⟨_, .tail _ (.head _), bag_foot.2 ⟨_, List.mem_map.2 ⟨x, hx, rfl⟩, arr_foot.2 ⟨h, by omega⟩⟩⟩
def ModOk14 (m n : ML) : Prop := if Ver.verify m.mdl = .ok then Share m n else n = ⟨[], none, 0, [], none, 0⟩
attribute [local irreducible] Run Cod End OpT Still RunQ RunS RunT Fn PutOk
set_option maxRecDepth 100000 in
set_option maxHeartbeats 2000000 in
theorem module14_is (m : ML) (hwf : m.Wf) : Fn Try.prog 9 #[m.val] [md m] [] (σ := ML) (ModOk14 m) (fun n => .tuple #[n.val, whereV (Ver.verify m.mdl)]) rsC := by
  refine Fn.enter (args := [m.val]) Try.func9 rfl _ Try.ntmps9 rfl (by simp [rd_excl, md_excl]) (fun w S => ?_)
  (try conv => rhs; simp only [List.cons_append, List.nil_append])
  apply Cod.fact m.Small (fun w hm => (md_holds.1 (hm.has tk)).small)
  intro hsm
  repeat (first | refine go (k := ?_) | (refine goB (k := ?_); intro b) | (refine goA (k := ?_); intro ao cap))
  (apply Run.op; exact rfl; refine OpT.call0_ (spec := verify7_is m hwf) (k := ?_); intro s hs; (try conv => rhs; simp only [List.cons_append, List.nil_append]))
  have hve : (Ver.verify m.mdl).err = 0 → Ver.verify m.mdl = .ok := Ver.verify_eq
  have hM : ∀ n, ModOk14 m n ↔ if Ver.verify m.mdl = .ok then Share m n else n = ⟨[], none, 0, [], none, 0⟩ := fun n => Iff.rfl
  generalize hV : Ver.verify m.mdl = V at *
  obtain ⟨rw2, rfl⟩ : ∃ x, x = b := ⟨_, rfl⟩
  obtain ⟨rm2, rfl⟩ : ∃ x, x = b := ⟨_, rfl⟩
  obtain ⟨mb, rfl⟩ : ∃ x, x = b := ⟨_, rfl⟩
  repeat' (first | refine go (k := ?_) | (refine goB (k := ?_); intro b) | (refine goA (k := ?_); intro ao cap) | refine goQ (k := fun h => ?_) (k' := fun h => ?_) | fail)
  · obtain ⟨wb, rfl⟩ : ∃ x, x = b := ⟨_, rfl⟩
    apply Cod.draw 3 ([blk wb [.int .i64 V.err, .int .i64 V.unit, .int .i64 V.at_] 28]) (by kernel_rfl) 4 rfl
    refine RunT.takeR_ 0 (h := ?_)
    refine RunT.takeR_ 1 (h := ?_)
    (refine RunT.one_ 2 (h := ?_); (first | refine OpT.val_ (k := ?_) | (refine OpT.alloc_ (k := ?_); intro b) | (refine OpT.box_ (k := ?_); intro b) | refine OpT.store_ (k := ?_) | (refine OpT.buildSlice_ (k := ?_); intro b) | (refine OpT.buildSlice0_ (k := ?_); intro b) | (refine OpT.append1_ (k := ?_); intro ao cap) | (refine OpT.cutA0_ (k := ?_); intro ao cap) | (refine OpT.cutR0_ (k := ?_); intro ao cap) | (refine OpT.cutA1_ (k := ?_); intro ao cap) | (refine OpT.cutA_ (k := ?_); intro ao cap) | (refine OpT.cutR_ (k := ?_); intro ao cap)); refine And.intro gud ?_)
    (refine RunT.one_ 3 (h := ?_); (first | refine OpT.val_ (k := ?_) | (refine OpT.alloc_ (k := ?_); intro b) | (refine OpT.box_ (k := ?_); intro b) | refine OpT.store_ (k := ?_) | (refine OpT.buildSlice_ (k := ?_); intro b) | (refine OpT.buildSlice0_ (k := ?_); intro b) | (refine OpT.append1_ (k := ?_); intro ao cap) | (refine OpT.cutA0_ (k := ?_); intro ao cap) | (refine OpT.cutR0_ (k := ?_); intro ao cap) | (refine OpT.cutA1_ (k := ?_); intro ao cap) | (refine OpT.cutA_ (k := ?_); intro ao cap) | (refine OpT.cutR_ (k := ?_); intro ao cap)); refine And.intro gud ?_)
    (apply RunT.done; kernel_rfl)
    repeat (first | refine go (k := ?_) | (refine goB (k := ?_); intro b) | (refine goA (k := ?_); intro ao cap))
    apply End.imp (fun w hm => (hm.bagNil).nilArr 38 ucell)
    refine End.doneCC (⟨[], none, 0, [], none, 0⟩ : ML) (hr := by exact rfl) (hv := by exact rfl) (ht := by exact rfl) (hm := by (repeat (first | exact Take.head | apply Take.tail))) (hl := by exact rfl) (hu := by exact rfl) (ht2 := by exact rfl) (hm2 := by (repeat (first | exact Take.head | apply Take.tail))) (hl2 := by exact rfl) (he := rfl) (hp := by rw [hM, if_neg (fun h => by rename_i hn; rw [h] at hn; exact hn rfl)]) (hx := by simp [arr_excl, bag_excl]) (hF := by exact tks)
  · have hv := hve (by assumption)
    subst hv
    have hR := Ver.verify_iff.1 hV
    have hF := formed hR.form
    have hG : ∀ j, j < m.mdl.units.length → Ver.Good m.mdl (m.mdl.units.getD j default) := fun j hj => by
      rw [ML.unit_at]
      exact hF.good hwf (by simpa using hj)
    repeat (first | refine go (k := ?_) | (refine goB (k := ?_); intro b) | (refine goA (k := ?_); intro ao cap))
    obtain ⟨ob, rfl⟩ : ∃ x, x = b := ⟨_, rfl⟩
    apply Cod.imp (fun w hm => hm.bagNil.nilArr 38 ucell)
    have hu30 := hF.units
    refine Cod.only ((fun z : Nat × List UC × Option Addr × Nat => [old w S, md m, blk ob [.slice m.bo m.bx.length m.bc, .slice z.2.2.1 z.1 z.2.2.2] 25, arr z.2.2.1 z.1 z.2.2.2 38 ucell z.2.1, bag (innerC z.2.1), blk rm2 [.slice none 0 0, .slice none 0 0] 25, blk rw2 [.int .i64 0, .int .i64 0, .int .i64 0] 28]) (0, [], none, 0)) (by (repeat (first | exact Takes.nil | exact Take.head | apply Take.tail | apply Takes.cons))) ?_
    apply Cod.loop (σ := Nat × List UC × Option Addr × Nat) (fun z => z.1 ≤ m.us.length ∧ z.2.1.length = z.1 ∧ z.2.1.map (fun x => (x.u, x.lo, x.lc)) = (m.us.take z.1).map (fun x => (Opt.unit x.u, x.lo, x.lc))) (fun z => [(2, ptr rm2), (3, ptr rw2), (5, ptr ob), (21, .slice m.uo m.us.length m.uc), (22, .int .i64 (m.us.length : Int)), (23, .int .i64 (z.1 : Int))]) (fun z : Nat × List UC × Option Addr × Nat => [old w S, md m, blk ob [.slice m.bo m.bx.length m.bc, .slice z.2.2.1 z.1 z.2.2.2] 25, arr z.2.2.1 z.1 z.2.2.2 38 ucell z.2.1, bag (innerC z.2.1), blk rm2 [.slice none 0 0, .slice none 0 0] 25, blk rw2 [.int .i64 0, .int .i64 0, .int .i64 0] 28]) (fun z => m.us.length - z.1) (0, [], none, 0)
    rotate_left
    exact sb
    exact tks
    intro z hz K1 hK1
    (try conv => rhs; simp only [List.cons_append, List.nil_append])
    rotate_left
    · exact ⟨Nat.zero_le _, rfl, rfl⟩
    obtain ⟨q, us, ao, ac⟩ := z
    obtain ⟨hz1, hzl, hz2⟩ := hz
    simp only at hz1 hzl hz2 hK1 ⊢
    by_cases hk : q < m.us.length
    · have hu := Opt.uok hR hG (k := q) (by simpa using hk)
      have e : Ver.uAt m.mdl q = (m.us.getD q default).u := m.unit_at q
      rw [e] at hu
      have h64 := wf_in64s hwf hk
      obtain ⟨q1, q2, q3, q4, q5, q6⟩ := head_ok hu.head
      have hU : (Opt.unit (m.us.getD q default).u).code = Opt.code (m.us.getD q default).u.code := rfl
      have hw0 : Opt.withC (m.us.getD q default).u (m.us.getD q default).u.code = (m.us.getD q default).u := rfl
      generalize hC : Opt.code (m.us.getD q default).u.code = C at *
      repeat (first | refine go (k := ?_) | (refine goB (k := ?_); intro b) | (refine goA (k := ?_); intro ao cap))
      obtain ⟨ub, rfl⟩ : ∃ x, x = b := ⟨_, rfl⟩
      apply Cod.imp (fun w hm => hm.nilArr 57 insC)
      refine Cod.only ((fun y : List ImgM.Ins × Option Addr × Nat × List ImgM.Ins × Option Addr × Nat => [old w S, md m, blk ob [.slice m.bo m.bx.length m.bc, .slice ao q ac] 25, arr ao q ac 38 ucell us, bag (innerC us), blk rm2 [.slice none 0 0, .slice none 0 0] 25, blk rw2 [.int .i64 0, .int .i64 0, .int .i64 0] 28, blk ub [.int .i64 (m.us.getD q default).u.kind, .int .i64 (m.us.getD q default).u.params, .slice (m.us.getD q default).lo (m.us.getD q default).u.locals.length (m.us.getD q default).lc, .int .i64 (m.us.getD q default).u.result, .int .i64 (m.us.getD q default).u.takes, .slice y.2.1 y.1.length y.2.2.1] 38, arr y.2.2.2.2.1 y.2.2.2.1.length y.2.2.2.2.2 57 insC y.2.2.2.1]) ((m.us.getD q default).u.code, (m.us.getD q default).co, (m.us.getD q default).cc, [], none, 0)) (by (repeat (first | exact Takes.nil | exact Take.head | apply Take.tail | apply Takes.cons))) ?_
      apply Cod.loop (σ := List ImgM.Ins × Option Addr × Nat × List ImgM.Ins × Option Addr × Nat) (fun y => Opt.UOk m.mdl (Opt.withC (m.us.getD q default).u y.1) ∧ In64s y.1 ∧ Opt.code y.1 = C ∧ ((y.1 = (m.us.getD q default).u.code ∧ y.2.1 = (m.us.getD q default).co ∧ y.2.2.1 = (m.us.getD q default).cc) ∨ (y.2.2.2.1 = y.1 ∧ y.2.2.2.2.1 = y.2.1 ∧ y.2.2.2.2.2 = y.2.2.1))) (fun y => [(2, ptr rm2), (3, ptr rw2), (5, ptr ob), (7, ptr ub), (21, .slice m.uo m.us.length m.uc), (22, .int .i64 (m.us.length : Int)), (23, .int .i64 (q : Int))]) (fun y : List ImgM.Ins × Option Addr × Nat × List ImgM.Ins × Option Addr × Nat => [old w S, md m, blk ob [.slice m.bo m.bx.length m.bc, .slice ao q ac] 25, arr ao q ac 38 ucell us, bag (innerC us), blk rm2 [.slice none 0 0, .slice none 0 0] 25, blk rw2 [.int .i64 0, .int .i64 0, .int .i64 0] 28, blk ub [.int .i64 (m.us.getD q default).u.kind, .int .i64 (m.us.getD q default).u.params, .slice (m.us.getD q default).lo (m.us.getD q default).u.locals.length (m.us.getD q default).lc, .int .i64 (m.us.getD q default).u.result, .int .i64 (m.us.getD q default).u.takes, .slice y.2.1 y.1.length y.2.2.1] 38, arr y.2.2.2.2.1 y.2.2.2.1.length y.2.2.2.2.2 57 insC y.2.2.2.1]) (fun y => y.1.length) ((m.us.getD q default).u.code, (m.us.getD q default).co, (m.us.getD q default).cc, [], none, 0)
      rotate_left
      exact sb
      exact tks
      intro y hy K2 hK2
      (try conv => rhs; simp only [List.cons_append, List.nil_append])
      rotate_left
      · exact ⟨hu, h64, hC, .inl ⟨rfl, rfl, rfl⟩⟩
      obtain ⟨c, co, cc, ol, oo, oc⟩ := y
      obtain ⟨y1, y2, y3, y4⟩ := hy
      simp only at y1 y2 y3 y4 hK2 ⊢
      have hcl : (Opt.withC (m.us.getD q default).u c).code = c := rfl
      have hc4 := (Opt.head_len y1.head).2
      have hp := y1.pass
      have h64' := In64s_pass y1 y2
      have hbt := UOk_bits y1
      have hjm := UOk_jumps y1
      rw [hcl] at hc4 hp h64' hbt hjm
      have hpl := Opt.pass_len c
      rw [code_step] at y3
      rcases y4 with ⟨rfl, rfl, rfl⟩ | ⟨rfl, rfl, rfl⟩
      · repeat (first | refine go (k := ?_) | (refine goB (k := ?_); intro b) | (refine goA (k := ?_); intro ao cap))
        (apply Run.op; exact rfl; refine OpT.call0_ (spec := once14_is (m.us.getD q default).co (m.us.getD q default).u.code.length (m.us.getD q default).cc (m.us.getD q default).u.code rfl (by omega) y2 hjm hbt) (k := ?_); intro s hs; (try conv => rhs; simp only [List.cons_append, List.nil_append]))
        generalize hPc : Opt.pass (m.us.getD q default).u.code = pc at *
        obtain ⟨c1, c2⟩ := s
        dsimp only
        cases hag : pc.2 with
        | true =>
          rw [hag, if_pos rfl] at y3 hpl
          repeat (first | refine go (k := ?_) | (refine goB (k := ?_); intro b) | (refine goA (k := ?_); intro ao cap))
          refine End.round0_ hK2 (pc.1, c1, c2, pc.1, c1, c2) ?_ ?_
          · exact ⟨hp, h64', y3, .inr ⟨rfl, rfl, rfl⟩⟩
          · simp only; omega
        | false =>
          rw [hag, if_neg (by decide)] at y3
          rw [y3]
          subst hC
          repeat (first | refine go (k := ?_) | (refine goB (k := ?_); intro b) | (refine goA (k := ?_); intro ao cap))
          (apply Run.op; exact rfl; refine OpT.append1_ (a := (⟨Opt.unit (m.us.getD q default).u, (m.us.getD q default).lo, (m.us.getD q default).lc, c1, c2⟩ : UC)) (k := ?_); intro ao1 cap1)
          repeat (first | refine go (k := ?_) | (refine goB (k := ?_); intro b) | (refine goA (k := ?_); intro ao cap))
          apply End.imp (fun w hm => Mem.codeAdd us (⟨Opt.unit (m.us.getD q default).u, (m.us.getD q default).lo, (m.us.getD q default).lc, c1, c2⟩ : UC) hm (by (repeat (first | exact Take.head | apply Take.tail))) (by (repeat (first | exact Takes.nil | exact Take.head | apply Take.tail | apply Takes.cons))))
          refine End.round0_ hK1 (q + 1, us ++ [(⟨Opt.unit (m.us.getD q default).u, (m.us.getD q default).lo, (m.us.getD q default).lc, c1, c2⟩ : UC)], ao1, cap1) ?_ ?_
          · refine ⟨by simp only; omega, by simp [hzl], ?_⟩
            simp only
            rw [take_snoc hk, List.map_append, List.map_append, hz2]
            rfl
          · simp only; omega
      · repeat (first | refine go (k := ?_) | (refine goB (k := ?_); intro b) | (refine goA (k := ?_); intro ao cap))
        (apply Run.op; exact rfl; refine OpT.call0_ (spec := once14_is oo ol.length oc ol rfl (by omega) y2 hjm hbt) (k := ?_); intro s hs; (try conv => rhs; simp only [List.cons_append, List.nil_append]))
        generalize hPc : Opt.pass ol = pc at *
        obtain ⟨c1, c2⟩ := s
        dsimp only
        cases hag : pc.2 with
        | true =>
          rw [hag, if_pos rfl] at y3 hpl
          repeat (first | refine go (k := ?_) | (refine goB (k := ?_); intro b) | (refine goA (k := ?_); intro ao cap))
          refine End.round0_ hK2 (pc.1, c1, c2, pc.1, c1, c2) ?_ ?_
          · exact ⟨hp, h64', y3, .inr ⟨rfl, rfl, rfl⟩⟩
          · simp only; omega
        | false =>
          rw [hag, if_neg (by decide)] at y3
          rw [y3]
          subst hC
          repeat (first | refine go (k := ?_) | (refine goB (k := ?_); intro b) | (refine goA (k := ?_); intro ao cap))
          (apply Run.op; exact rfl; refine OpT.append1_ (a := (⟨Opt.unit (m.us.getD q default).u, (m.us.getD q default).lo, (m.us.getD q default).lc, c1, c2⟩ : UC)) (k := ?_); intro ao1 cap1)
          repeat (first | refine go (k := ?_) | (refine goB (k := ?_); intro b) | (refine goA (k := ?_); intro ao cap))
          apply End.imp (fun w hm => Mem.codeAdd us (⟨Opt.unit (m.us.getD q default).u, (m.us.getD q default).lo, (m.us.getD q default).lc, c1, c2⟩ : UC) hm (by (repeat (first | exact Take.head | apply Take.tail))) (by (repeat (first | exact Takes.nil | exact Take.head | apply Take.tail | apply Takes.cons))))
          refine End.round0_ hK1 (q + 1, us ++ [(⟨Opt.unit (m.us.getD q default).u, (m.us.getD q default).lo, (m.us.getD q default).lc, c1, c2⟩ : UC)], ao1, cap1) ?_ ?_
          · refine ⟨by simp only; omega, by simp [hzl], ?_⟩
            simp only
            rw [take_snoc hk, List.map_append, List.map_append, hz2]
            rfl
          · simp only; omega
    · repeat (first | refine go (k := ?_) | (refine goB (k := ?_); intro b) | (refine goA (k := ?_); intro ao cap))
      obtain rfl : q = us.length := hzl.symm
      have hl : us.length = m.us.length := by omega
      rw [List.take_of_length_le (by omega)] at hz2
      refine End.doneCC (⟨m.bx, m.bo, m.bc, us, ao, ac⟩ : ML) (hr := by exact rfl) (hv := by exact rfl) (ht := by exact rfl) (hm := by (repeat (first | exact Take.head | apply Take.tail))) (hl := by exact rfl) (hu := by exact rfl) (ht2 := by exact rfl) (hm2 := by (repeat (first | exact Take.head | apply Take.tail))) (hl2 := by exact rfl) (he := rfl) (hp := by rw [hM, if_pos rfl]; exact ⟨rfl, rfl, rfl, hz2⟩) (hx := by simp [arr_excl, bag_excl]) (hF := by exact tks)
end Go.Proofs.Ytfeajpghabjaaaa.Vw

/- yieldlaw14's small functions, walked; the new module's numbers. -/
namespace Go.Proofs.Ytfeajpghabjaaaa.Vw
open Go.RowKit Go.Proofs.Ytfeajpghabjaaaa.Img
set_option linter.unusedVariables false
set_option linter.unusedSimpArgs false
theorem opt_ok {m : ML} (hwf : m.Wf) (hV : Ver.verify m.mdl = .ok) : Ver.verify (Opt.mdl m.mdl) = .ok := by
  have hF := formed (Ver.verify_iff.1 hV).form
  exact Opt.verify_opt hV fun j hj => by
    rw [ML.unit_at]
    exact hF.good hwf (by simpa using hj)
attribute [local irreducible] Ver.verify Opt.mdl Opt.code
attribute [local irreducible] Run Cod End OpT Still RunQ RunS RunT Fn PutOk
end Go.Proofs.Ytfeajpghabjaaaa.Vw
