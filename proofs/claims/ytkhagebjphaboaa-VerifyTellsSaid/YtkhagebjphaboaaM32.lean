/- yieldref7.Verify, walked: the document's answer is verify's. -/
import Derived.Test.YtkhagebjphaboaaM31
import Derived.Laws.StructEq
import Derived.ProofKit
import Derived.OpenShut
import Derived.JoinedCond
import Derived.SizedLaws
import Derived.Deep.Slices
import Derived.Carry
namespace Go.Proofs.Ytkhagebjphaboaa.Vw
open Go.RowKit Go.Proofs.Ytkhagebjphaboaa.Img
set_option linter.unusedVariables false
set_option linter.unusedSimpArgs false
attribute [local irreducible] Run Cod End OpT Still RunQ RunS RunT Fn PutOk
set_option maxRecDepth 100000 in
set_option maxHeartbeats 1000000 in
theorem verify7_is (m : ML) (hwf : m.Wf) : Fn Try.prog 7 #[m.val] [md m] [] (σ := Unit) (fun _ => True) (fun _ => whereV (Ver.verify m.mdl)) (fun _ => []) := by
  obtain ⟨W, hW⟩ : ∃ W, W = Ver.verify m.mdl := ⟨_, rfl⟩
  rw [← hW]
  have hnu : m.mdl.units.length = m.us.length := by simp
  refine Fn.enter (args := [m.val]) Try.func7 rfl _ Try.ntmps7 rfl (by simp [rd_excl, md_excl]) (fun w S => ?_)
  (try conv => rhs; simp only [List.cons_append, List.nil_append])
  apply Cod.fact m.Small (fun w hm => (md_holds.1 (hm.has tk)).small)
  intro hsm
  have hs1 := hsm.bx
  have hs2 := hsm.us
  repeat (first | (apply Run.op; exact rfl; refine OpT.val_ (h := by (first | exact Still.sEql rfl rfl | exact Still.sNeq rfl rfl | exact Still.sLen rfl rfl | exact Still.sAdd rfl rfl (by omega) (by omega))) (k := ?_)) | (refine Run.yes_ (h := ?_); refine OpT.val_ (h := by (first | exact Still.sEql rfl rfl | exact Still.sNeq rfl rfl | exact Still.sLen rfl rfl | exact Still.sAdd rfl rfl (by omega) (by omega))) (k := ?_)) | (refine RunQ.val_ (h := by (first | exact Still.sEql rfl rfl | exact Still.sNeq rfl rfl | exact Still.sLen rfl rfl | exact Still.sAdd rfl rfl (by omega) (by omega))) (k := ?_)) | (refine RunQ.yes_ (h := by (first | exact Still.sEql rfl rfl | exact Still.sNeq rfl rfl | exact Still.sLen rfl rfl | exact Still.sAdd rfl rfl (by omega) (by omega))) (k := ?_)) | refine go (k := ?_) | (refine goB (k := ?_); intro b) | (refine goA (k := ?_); intro ao cap))
  obtain ⟨wb, rfl⟩ : ∃ x, x = b := ⟨_, rfl⟩
  obtain ⟨mb, rfl⟩ : ∃ x, x = b := ⟨_, rfl⟩
  (first | (apply Run.op; exact rfl) | refine Run.yes_ (h := ?_)); refine OpT.call0_ (spec := form7_is m hwf) (k := ?_); intro s hs; (try conv => rhs; simp only [List.cons_append, List.nil_append])
  by_cases hf : (Ver.form m.mdl).err = 0
  · have hO := Ver.form_ok.1 hf
    have hF := formed hO
    have hFr := Rf7.frm_of hO
    have hB := hF.boxes
    have hU := hF.units
    have hcalls : ∀ k, k < m.mdl.units.length → ∀ i ∈ (m.mdl.units.getD k default).code, i.op = 23 ∨ i.op = 29 → 0 ≤ i.a ∧ i.a < (m.mdl.units.length : Int) := by rw [hnu]; exact hF.calls
    repeat (first | (apply Run.op; exact rfl; refine OpT.val_ (h := by (first | exact Still.sEql rfl rfl | exact Still.sNeq rfl rfl | exact Still.sLen rfl rfl | exact Still.sAdd rfl rfl (by omega) (by omega))) (k := ?_)) | (refine Run.yes_ (h := ?_); refine OpT.val_ (h := by (first | exact Still.sEql rfl rfl | exact Still.sNeq rfl rfl | exact Still.sLen rfl rfl | exact Still.sAdd rfl rfl (by omega) (by omega))) (k := ?_)) | (refine RunQ.val_ (h := by (first | exact Still.sEql rfl rfl | exact Still.sNeq rfl rfl | exact Still.sLen rfl rfl | exact Still.sAdd rfl rfl (by omega) (by omega))) (k := ?_)) | (refine RunQ.yes_ (h := by (first | exact Still.sEql rfl rfl | exact Still.sNeq rfl rfl | exact Still.sLen rfl rfl | exact Still.sAdd rfl rfl (by omega) (by omega))) (k := ?_)) | refine go (k := ?_) | (refine goB (k := ?_); intro b) | (refine goA (k := ?_); intro ao cap))
    refine Cod.only ((fun _ => [old w S, md m, blk wb [.int .i64 0, .int .i64 0, .int .i64 0] 28, blk mb [.slice m.bo m.bx.length m.bc, .slice m.uo m.us.length m.uc] 25]) 0) (by (repeat (first | exact Takes.nil | exact Take.head | apply Take.tail | apply Takes.cons))) ?_
    apply Cod.loop (σ := Nat) (fun k => k ≤ m.us.length ∧ Ver.codes m.mdl 0 m.mdl.units.length = Ver.codes m.mdl k (m.us.length - k)) (fun k => [(1, ptr mb), (2, ptr wb), (19, .int .i64 (m.us.length : Int)), (20, .int .i64 (k : Int))]) (fun _ => [old w S, md m, blk wb [.int .i64 0, .int .i64 0, .int .i64 0] 28, blk mb [.slice m.bo m.bx.length m.bc, .slice m.uo m.us.length m.uc] 25]) (fun k => m.us.length - k) 0
    rotate_left
    exact sb
    exact tks
    intro k hs K1 hK1
    (try conv => rhs; simp only [List.cons_append, List.nil_append])
    rotate_left
    · exact ⟨Nat.zero_le _, by simp⟩
    obtain ⟨hk, hc⟩ := hs
    by_cases hkl : k < m.us.length
    · rw [show m.us.length - k = (m.us.length - (k + 1)) + 1 by omega] at hc
      repeat (first | (apply Run.op; exact rfl; refine OpT.val_ (h := by (first | exact Still.sEql rfl rfl | exact Still.sNeq rfl rfl | exact Still.sLen rfl rfl | exact Still.sAdd rfl rfl (by omega) (by omega))) (k := ?_)) | (refine Run.yes_ (h := ?_); refine OpT.val_ (h := by (first | exact Still.sEql rfl rfl | exact Still.sNeq rfl rfl | exact Still.sLen rfl rfl | exact Still.sAdd rfl rfl (by omega) (by omega))) (k := ?_)) | (refine RunQ.val_ (h := by (first | exact Still.sEql rfl rfl | exact Still.sNeq rfl rfl | exact Still.sLen rfl rfl | exact Still.sAdd rfl rfl (by omega) (by omega))) (k := ?_)) | (refine RunQ.yes_ (h := by (first | exact Still.sEql rfl rfl | exact Still.sNeq rfl rfl | exact Still.sLen rfl rfl | exact Still.sAdd rfl rfl (by omega) (by omega))) (k := ?_)) | refine go (k := ?_) | (refine goB (k := ?_); intro b) | (refine goA (k := ?_); intro ao cap))
      (first | (apply Run.op; exact rfl) | refine Run.yes_ (h := ?_)); refine OpT.call0_ (spec := code7_is m k hkl hF hwf hFr) (k := ?_); intro s hs; (try conv => rhs; simp only [List.cons_append, List.nil_append])
      by_cases he : (Ver.code m.mdl k).err = 0
      · rw [Ver.codes_2 he] at hc
        repeat (first | (apply Run.op; exact rfl; refine OpT.val_ (h := by (first | exact Still.sEql rfl rfl | exact Still.sNeq rfl rfl | exact Still.sLen rfl rfl | exact Still.sAdd rfl rfl (by omega) (by omega))) (k := ?_)) | (refine Run.yes_ (h := ?_); refine OpT.val_ (h := by (first | exact Still.sEql rfl rfl | exact Still.sNeq rfl rfl | exact Still.sLen rfl rfl | exact Still.sAdd rfl rfl (by omega) (by omega))) (k := ?_)) | (refine RunQ.val_ (h := by (first | exact Still.sEql rfl rfl | exact Still.sNeq rfl rfl | exact Still.sLen rfl rfl | exact Still.sAdd rfl rfl (by omega) (by omega))) (k := ?_)) | (refine RunQ.yes_ (h := by (first | exact Still.sEql rfl rfl | exact Still.sNeq rfl rfl | exact Still.sLen rfl rfl | exact Still.sAdd rfl rfl (by omega) (by omega))) (k := ?_)) | refine go (k := ?_) | (refine goB (k := ?_); intro b) | (refine goA (k := ?_); intro ao cap))
        refine End.round0_ hK1 (k + 1) ?_ ?_
        · exact ⟨by omega, hc⟩
        · omega
      · rw [Ver.codes_1 he] at hc
        have hWx : W = Ver.code m.mdl k := by
          rw [hW, Ver.verify_2 hf (by rw [hc]; exact he), hc]
        repeat (first | (apply Run.op; exact rfl; refine OpT.val_ (h := by (first | exact Still.sEql rfl rfl | exact Still.sNeq rfl rfl | exact Still.sLen rfl rfl | exact Still.sAdd rfl rfl (by omega) (by omega))) (k := ?_)) | (refine Run.yes_ (h := ?_); refine OpT.val_ (h := by (first | exact Still.sEql rfl rfl | exact Still.sNeq rfl rfl | exact Still.sLen rfl rfl | exact Still.sAdd rfl rfl (by omega) (by omega))) (k := ?_)) | (refine RunQ.val_ (h := by (first | exact Still.sEql rfl rfl | exact Still.sNeq rfl rfl | exact Still.sLen rfl rfl | exact Still.sAdd rfl rfl (by omega) (by omega))) (k := ?_)) | (refine RunQ.yes_ (h := by (first | exact Still.sEql rfl rfl | exact Still.sNeq rfl rfl | exact Still.sLen rfl rfl | exact Still.sAdd rfl rfl (by omega) (by omega))) (k := ?_)) | refine go (k := ?_) | (refine goB (k := ?_); intro b) | (refine goA (k := ?_); intro ao cap))
        (refine End.doneC1_ (()) (he := by exact where_eq hWx) (hp := ?_))
        trivial
    · have hWx : W = Ver.owned m.mdl 0 m.bx.length := by
        rw [hW, Ver.verify_3 hf (by rw [hc, show m.us.length - k = 0 by omega]; rfl)]
      clear hc hK1
      repeat (first | (apply Run.op; exact rfl; refine OpT.val_ (h := by (first | exact Still.sEql rfl rfl | exact Still.sNeq rfl rfl | exact Still.sLen rfl rfl | exact Still.sAdd rfl rfl (by omega) (by omega))) (k := ?_)) | (refine Run.yes_ (h := ?_); refine OpT.val_ (h := by (first | exact Still.sEql rfl rfl | exact Still.sNeq rfl rfl | exact Still.sLen rfl rfl | exact Still.sAdd rfl rfl (by omega) (by omega))) (k := ?_)) | (refine RunQ.val_ (h := by (first | exact Still.sEql rfl rfl | exact Still.sNeq rfl rfl | exact Still.sLen rfl rfl | exact Still.sAdd rfl rfl (by omega) (by omega))) (k := ?_)) | (refine RunQ.yes_ (h := by (first | exact Still.sEql rfl rfl | exact Still.sNeq rfl rfl | exact Still.sLen rfl rfl | exact Still.sAdd rfl rfl (by omega) (by omega))) (k := ?_)) | refine go (k := ?_) | (refine goB (k := ?_); intro b) | (refine goA (k := ?_); intro ao cap))
      refine Cod.only ((fun _ => [old w S, md m, blk wb [.int .i64 0, .int .i64 0, .int .i64 0] 28, blk mb [.slice m.bo m.bx.length m.bc, .slice m.uo m.us.length m.uc] 25]) 0) (by (repeat (first | exact Takes.nil | exact Take.head | apply Take.tail | apply Takes.cons))) ?_
      apply Cod.loop (σ := Nat) (fun bi => bi ≤ m.bx.length ∧ W = Ver.owned m.mdl bi (m.bx.length - bi)) (fun bi => [(1, ptr mb), (2, ptr wb), (33, .int .i64 (m.bx.length : Int)), (34, .int .i64 (bi : Int))]) (fun _ => [old w S, md m, blk wb [.int .i64 0, .int .i64 0, .int .i64 0] 28, blk mb [.slice m.bo m.bx.length m.bc, .slice m.uo m.us.length m.uc] 25]) (fun bi => m.bx.length - bi) 0
      rotate_left
      exact sb
      exact tks
      intro bi hb K2 hK2
      (try conv => rhs; simp only [List.cons_append, List.nil_append])
      rotate_left
      · exact ⟨Nat.zero_le _, by rw [hWx]; rfl⟩
      obtain ⟨hb, hWb⟩ := hb
      by_cases hbl : bi < m.bx.length
      · rw [show m.bx.length - bi = (m.bx.length - (bi + 1)) + 1 by omega] at hWb
        repeat (first | (apply Run.op; exact rfl; refine OpT.val_ (h := by (first | exact Still.sEql rfl rfl | exact Still.sNeq rfl rfl | exact Still.sLen rfl rfl | exact Still.sAdd rfl rfl (by omega) (by omega))) (k := ?_)) | (refine Run.yes_ (h := ?_); refine OpT.val_ (h := by (first | exact Still.sEql rfl rfl | exact Still.sNeq rfl rfl | exact Still.sLen rfl rfl | exact Still.sAdd rfl rfl (by omega) (by omega))) (k := ?_)) | (refine RunQ.val_ (h := by (first | exact Still.sEql rfl rfl | exact Still.sNeq rfl rfl | exact Still.sLen rfl rfl | exact Still.sAdd rfl rfl (by omega) (by omega))) (k := ?_)) | (refine RunQ.yes_ (h := by (first | exact Still.sEql rfl rfl | exact Still.sNeq rfl rfl | exact Still.sLen rfl rfl | exact Still.sAdd rfl rfl (by omega) (by omega))) (k := ?_)) | refine go (k := ?_) | (refine goB (k := ?_); intro b) | (refine goA (k := ?_); intro ao cap))
        refine Cod.only ((fun _ => [old w S, md m, blk wb [.int .i64 0, .int .i64 0, .int .i64 0] 28, blk mb [.slice m.bo m.bx.length m.bc, .slice m.uo m.us.length m.uc] 25]) 0) (by (repeat (first | exact Takes.nil | exact Take.head | apply Take.tail | apply Takes.cons))) ?_
        apply Cod.loop (σ := Nat) (fun k => k ≤ m.us.length) (fun k => [(1, ptr mb), (2, ptr wb), (6, .int .i64 (bi : Int)), (7, .int .i64 ((Ver.usersTo m.mdl 26 bi k : Nat) : Int)), (8, .int .i64 ((Ver.usersTo m.mdl 27 bi k : Nat) : Int)), (33, .int .i64 (m.bx.length : Int)), (34, .int .i64 (bi : Int)), (38, .slice m.uo m.us.length m.uc), (39, .int .i64 (m.us.length : Int)), (40, .int .i64 (k : Int))]) (fun _ => [old w S, md m, blk wb [.int .i64 0, .int .i64 0, .int .i64 0] 28, blk mb [.slice m.bo m.bx.length m.bc, .slice m.uo m.us.length m.uc] 25]) (fun k => m.us.length - k) 0
        rotate_left
        exact sb
        exact tks
        intro k2 hk2 K3 hK3
        (try conv => rhs; simp only [List.cons_append, List.nil_append])
        rotate_left
        · exact Nat.zero_le _
        by_cases hkl2 : k2 < m.us.length
        · have e26 := Ver.usersTo_succ m.mdl 26 bi k2
          have e27 := Ver.usersTo_succ m.mdl 27 bi k2
          have l26 := Ver.usersTo_le m.mdl 26 bi k2
          have l27 := Ver.usersTo_le m.mdl 27 bi k2
          rw [ML.unit_at] at e26 e27
          have c26 := Rf7.comes_uses hcalls (task := k2) (by omega) 26 bi
          have c27 := Rf7.comes_uses hcalls (task := k2) (by omega) 27 bi
          rw [← c26] at e26
          rw [← c27] at e27
          clear c26 c27
          by_cases k4 : (m.us.getD k2 default).u.kind = 4
          · rw [decide_eq_true k4, Bool.true_and] at e26 e27
            repeat (first | (apply Run.op; exact rfl; refine OpT.val_ (h := by (first | exact Still.sEql rfl rfl | exact Still.sNeq rfl rfl | exact Still.sLen rfl rfl | exact Still.sAdd rfl rfl (by omega) (by omega))) (k := ?_)) | (refine Run.yes_ (h := ?_); refine OpT.val_ (h := by (first | exact Still.sEql rfl rfl | exact Still.sNeq rfl rfl | exact Still.sLen rfl rfl | exact Still.sAdd rfl rfl (by omega) (by omega))) (k := ?_)) | (refine RunQ.val_ (h := by (first | exact Still.sEql rfl rfl | exact Still.sNeq rfl rfl | exact Still.sLen rfl rfl | exact Still.sAdd rfl rfl (by omega) (by omega))) (k := ?_)) | (refine RunQ.yes_ (h := by (first | exact Still.sEql rfl rfl | exact Still.sNeq rfl rfl | exact Still.sLen rfl rfl | exact Still.sAdd rfl rfl (by omega) (by omega))) (k := ?_)) | refine go (k := ?_) | (refine goB (k := ?_); intro b) | (refine goA (k := ?_); intro ao cap))
            (first | (apply Run.op; exact rfl) | refine Run.yes_ (h := ?_)); refine OpT.call0_ (spec := comes7_is m k2 hkl2 hF 26 bi) (k := ?_); intro s hs; (try conv => rhs; simp only [List.cons_append, List.nil_append])
            cases u26 : Rf7.comes7 m.mdl k2 26 bi with
            | true =>
              rw [u26, if_pos rfl] at e26
              repeat (first | (apply Run.op; exact rfl; refine OpT.val_ (h := by (first | exact Still.sEql rfl rfl | exact Still.sNeq rfl rfl | exact Still.sLen rfl rfl | exact Still.sAdd rfl rfl (by omega) (by omega))) (k := ?_)) | (refine Run.yes_ (h := ?_); refine OpT.val_ (h := by (first | exact Still.sEql rfl rfl | exact Still.sNeq rfl rfl | exact Still.sLen rfl rfl | exact Still.sAdd rfl rfl (by omega) (by omega))) (k := ?_)) | (refine RunQ.val_ (h := by (first | exact Still.sEql rfl rfl | exact Still.sNeq rfl rfl | exact Still.sLen rfl rfl | exact Still.sAdd rfl rfl (by omega) (by omega))) (k := ?_)) | (refine RunQ.yes_ (h := by (first | exact Still.sEql rfl rfl | exact Still.sNeq rfl rfl | exact Still.sLen rfl rfl | exact Still.sAdd rfl rfl (by omega) (by omega))) (k := ?_)) | refine go (k := ?_) | (refine goB (k := ?_); intro b) | (refine goA (k := ?_); intro ao cap))
              (first | (apply Run.op; exact rfl) | refine Run.yes_ (h := ?_)); refine OpT.call0_ (spec := comes7_is m k2 hkl2 hF 27 bi) (k := ?_); intro s hs; (try conv => rhs; simp only [List.cons_append, List.nil_append])
              cases u27 : Rf7.comes7 m.mdl k2 27 bi with
              | true =>
                rw [u27, if_pos rfl] at e27
                repeat (first | (apply Run.op; exact rfl; refine OpT.val_ (h := by (first | exact Still.sEql rfl rfl | exact Still.sNeq rfl rfl | exact Still.sLen rfl rfl | exact Still.sAdd rfl rfl (by omega) (by omega))) (k := ?_)) | (refine Run.yes_ (h := ?_); refine OpT.val_ (h := by (first | exact Still.sEql rfl rfl | exact Still.sNeq rfl rfl | exact Still.sLen rfl rfl | exact Still.sAdd rfl rfl (by omega) (by omega))) (k := ?_)) | (refine RunQ.val_ (h := by (first | exact Still.sEql rfl rfl | exact Still.sNeq rfl rfl | exact Still.sLen rfl rfl | exact Still.sAdd rfl rfl (by omega) (by omega))) (k := ?_)) | (refine RunQ.yes_ (h := by (first | exact Still.sEql rfl rfl | exact Still.sNeq rfl rfl | exact Still.sLen rfl rfl | exact Still.sAdd rfl rfl (by omega) (by omega))) (k := ?_)) | refine go (k := ?_) | (refine goB (k := ?_); intro b) | (refine goA (k := ?_); intro ao cap))
                refine End.round0_ hK3 (k2 + 1) ?_ ?_
                · omega
                · omega
              | false =>
                rw [u27, if_neg (by decide)] at e27
                repeat (first | (apply Run.op; exact rfl; refine OpT.val_ (h := by (first | exact Still.sEql rfl rfl | exact Still.sNeq rfl rfl | exact Still.sLen rfl rfl | exact Still.sAdd rfl rfl (by omega) (by omega))) (k := ?_)) | (refine Run.yes_ (h := ?_); refine OpT.val_ (h := by (first | exact Still.sEql rfl rfl | exact Still.sNeq rfl rfl | exact Still.sLen rfl rfl | exact Still.sAdd rfl rfl (by omega) (by omega))) (k := ?_)) | (refine RunQ.val_ (h := by (first | exact Still.sEql rfl rfl | exact Still.sNeq rfl rfl | exact Still.sLen rfl rfl | exact Still.sAdd rfl rfl (by omega) (by omega))) (k := ?_)) | (refine RunQ.yes_ (h := by (first | exact Still.sEql rfl rfl | exact Still.sNeq rfl rfl | exact Still.sLen rfl rfl | exact Still.sAdd rfl rfl (by omega) (by omega))) (k := ?_)) | refine go (k := ?_) | (refine goB (k := ?_); intro b) | (refine goA (k := ?_); intro ao cap))
                refine End.round0_ hK3 (k2 + 1) ?_ ?_
                · omega
                · omega
            | false =>
              rw [u26, if_neg (by decide)] at e26
              repeat (first | (apply Run.op; exact rfl; refine OpT.val_ (h := by (first | exact Still.sEql rfl rfl | exact Still.sNeq rfl rfl | exact Still.sLen rfl rfl | exact Still.sAdd rfl rfl (by omega) (by omega))) (k := ?_)) | (refine Run.yes_ (h := ?_); refine OpT.val_ (h := by (first | exact Still.sEql rfl rfl | exact Still.sNeq rfl rfl | exact Still.sLen rfl rfl | exact Still.sAdd rfl rfl (by omega) (by omega))) (k := ?_)) | (refine RunQ.val_ (h := by (first | exact Still.sEql rfl rfl | exact Still.sNeq rfl rfl | exact Still.sLen rfl rfl | exact Still.sAdd rfl rfl (by omega) (by omega))) (k := ?_)) | (refine RunQ.yes_ (h := by (first | exact Still.sEql rfl rfl | exact Still.sNeq rfl rfl | exact Still.sLen rfl rfl | exact Still.sAdd rfl rfl (by omega) (by omega))) (k := ?_)) | refine go (k := ?_) | (refine goB (k := ?_); intro b) | (refine goA (k := ?_); intro ao cap))
              (first | (apply Run.op; exact rfl) | refine Run.yes_ (h := ?_)); refine OpT.call0_ (spec := comes7_is m k2 hkl2 hF 27 bi) (k := ?_); intro s hs; (try conv => rhs; simp only [List.cons_append, List.nil_append])
              cases u27 : Rf7.comes7 m.mdl k2 27 bi with
              | true =>
                rw [u27, if_pos rfl] at e27
                repeat (first | (apply Run.op; exact rfl; refine OpT.val_ (h := by (first | exact Still.sEql rfl rfl | exact Still.sNeq rfl rfl | exact Still.sLen rfl rfl | exact Still.sAdd rfl rfl (by omega) (by omega))) (k := ?_)) | (refine Run.yes_ (h := ?_); refine OpT.val_ (h := by (first | exact Still.sEql rfl rfl | exact Still.sNeq rfl rfl | exact Still.sLen rfl rfl | exact Still.sAdd rfl rfl (by omega) (by omega))) (k := ?_)) | (refine RunQ.val_ (h := by (first | exact Still.sEql rfl rfl | exact Still.sNeq rfl rfl | exact Still.sLen rfl rfl | exact Still.sAdd rfl rfl (by omega) (by omega))) (k := ?_)) | (refine RunQ.yes_ (h := by (first | exact Still.sEql rfl rfl | exact Still.sNeq rfl rfl | exact Still.sLen rfl rfl | exact Still.sAdd rfl rfl (by omega) (by omega))) (k := ?_)) | refine go (k := ?_) | (refine goB (k := ?_); intro b) | (refine goA (k := ?_); intro ao cap))
                refine End.round0_ hK3 (k2 + 1) ?_ ?_
                · omega
                · omega
              | false =>
                rw [u27, if_neg (by decide)] at e27
                repeat (first | (apply Run.op; exact rfl; refine OpT.val_ (h := by (first | exact Still.sEql rfl rfl | exact Still.sNeq rfl rfl | exact Still.sLen rfl rfl | exact Still.sAdd rfl rfl (by omega) (by omega))) (k := ?_)) | (refine Run.yes_ (h := ?_); refine OpT.val_ (h := by (first | exact Still.sEql rfl rfl | exact Still.sNeq rfl rfl | exact Still.sLen rfl rfl | exact Still.sAdd rfl rfl (by omega) (by omega))) (k := ?_)) | (refine RunQ.val_ (h := by (first | exact Still.sEql rfl rfl | exact Still.sNeq rfl rfl | exact Still.sLen rfl rfl | exact Still.sAdd rfl rfl (by omega) (by omega))) (k := ?_)) | (refine RunQ.yes_ (h := by (first | exact Still.sEql rfl rfl | exact Still.sNeq rfl rfl | exact Still.sLen rfl rfl | exact Still.sAdd rfl rfl (by omega) (by omega))) (k := ?_)) | refine go (k := ?_) | (refine goB (k := ?_); intro b) | (refine goA (k := ?_); intro ao cap))
                refine End.round0_ hK3 (k2 + 1) ?_ ?_
                · omega
                · omega
          · rw [decide_eq_false k4, Bool.false_and, if_neg (by decide)] at e26 e27
            repeat (first | (apply Run.op; exact rfl; refine OpT.val_ (h := by (first | exact Still.sEql rfl rfl | exact Still.sNeq rfl rfl | exact Still.sLen rfl rfl | exact Still.sAdd rfl rfl (by omega) (by omega))) (k := ?_)) | (refine Run.yes_ (h := ?_); refine OpT.val_ (h := by (first | exact Still.sEql rfl rfl | exact Still.sNeq rfl rfl | exact Still.sLen rfl rfl | exact Still.sAdd rfl rfl (by omega) (by omega))) (k := ?_)) | (refine RunQ.val_ (h := by (first | exact Still.sEql rfl rfl | exact Still.sNeq rfl rfl | exact Still.sLen rfl rfl | exact Still.sAdd rfl rfl (by omega) (by omega))) (k := ?_)) | (refine RunQ.yes_ (h := by (first | exact Still.sEql rfl rfl | exact Still.sNeq rfl rfl | exact Still.sLen rfl rfl | exact Still.sAdd rfl rfl (by omega) (by omega))) (k := ?_)) | refine go (k := ?_) | (refine goB (k := ?_); intro b) | (refine goA (k := ?_); intro ao cap))
            refine End.round0_ hK3 (k2 + 1) ?_ ?_
            · omega
            · omega
        · obtain rfl : k2 = m.us.length := by omega
          have u26 : Ver.users m.mdl 26 bi = Ver.usersTo m.mdl 26 bi m.us.length := by rw [← hnu]; rfl
          have u27 : Ver.users m.mdl 27 bi = Ver.usersTo m.mdl 27 bi m.us.length := by rw [← hnu]; rfl
          clear hK3
          by_cases g26 : 1 < Ver.usersTo m.mdl 26 bi m.us.length
          · rw [Ver.owned_1 (by rw [u26]; exact .inl g26)] at hWb
            repeat (first | (apply Run.op; exact rfl; refine OpT.val_ (h := by (first | exact Still.sEql rfl rfl | exact Still.sNeq rfl rfl | exact Still.sLen rfl rfl | exact Still.sAdd rfl rfl (by omega) (by omega))) (k := ?_)) | (refine Run.yes_ (h := ?_); refine OpT.val_ (h := by (first | exact Still.sEql rfl rfl | exact Still.sNeq rfl rfl | exact Still.sLen rfl rfl | exact Still.sAdd rfl rfl (by omega) (by omega))) (k := ?_)) | (refine RunQ.val_ (h := by (first | exact Still.sEql rfl rfl | exact Still.sNeq rfl rfl | exact Still.sLen rfl rfl | exact Still.sAdd rfl rfl (by omega) (by omega))) (k := ?_)) | (refine RunQ.yes_ (h := by (first | exact Still.sEql rfl rfl | exact Still.sNeq rfl rfl | exact Still.sLen rfl rfl | exact Still.sAdd rfl rfl (by omega) (by omega))) (k := ?_)) | refine go (k := ?_) | (refine goB (k := ?_); intro b) | (refine goA (k := ?_); intro ao cap))
            (refine End.doneC1_ (()) (he := by exact where_eq hWb) (hp := ?_))
            trivial
          by_cases g27 : 1 < Ver.usersTo m.mdl 27 bi m.us.length
          · rw [Ver.owned_1 (by rw [u27]; exact .inr g27)] at hWb
            repeat (first | (apply Run.op; exact rfl; refine OpT.val_ (h := by (first | exact Still.sEql rfl rfl | exact Still.sNeq rfl rfl | exact Still.sLen rfl rfl | exact Still.sAdd rfl rfl (by omega) (by omega))) (k := ?_)) | (refine Run.yes_ (h := ?_); refine OpT.val_ (h := by (first | exact Still.sEql rfl rfl | exact Still.sNeq rfl rfl | exact Still.sLen rfl rfl | exact Still.sAdd rfl rfl (by omega) (by omega))) (k := ?_)) | (refine RunQ.val_ (h := by (first | exact Still.sEql rfl rfl | exact Still.sNeq rfl rfl | exact Still.sLen rfl rfl | exact Still.sAdd rfl rfl (by omega) (by omega))) (k := ?_)) | (refine RunQ.yes_ (h := by (first | exact Still.sEql rfl rfl | exact Still.sNeq rfl rfl | exact Still.sLen rfl rfl | exact Still.sAdd rfl rfl (by omega) (by omega))) (k := ?_)) | refine go (k := ?_) | (refine goB (k := ?_); intro b) | (refine goA (k := ?_); intro ao cap))
            (refine End.doneC1_ (()) (he := by exact where_eq hWb) (hp := ?_))
            trivial
          rw [Ver.owned_2 (by rw [u26, u27]; exact fun h => h.elim g26 g27)] at hWb
          repeat (first | (apply Run.op; exact rfl; refine OpT.val_ (h := by (first | exact Still.sEql rfl rfl | exact Still.sNeq rfl rfl | exact Still.sLen rfl rfl | exact Still.sAdd rfl rfl (by omega) (by omega))) (k := ?_)) | (refine Run.yes_ (h := ?_); refine OpT.val_ (h := by (first | exact Still.sEql rfl rfl | exact Still.sNeq rfl rfl | exact Still.sLen rfl rfl | exact Still.sAdd rfl rfl (by omega) (by omega))) (k := ?_)) | (refine RunQ.val_ (h := by (first | exact Still.sEql rfl rfl | exact Still.sNeq rfl rfl | exact Still.sLen rfl rfl | exact Still.sAdd rfl rfl (by omega) (by omega))) (k := ?_)) | (refine RunQ.yes_ (h := by (first | exact Still.sEql rfl rfl | exact Still.sNeq rfl rfl | exact Still.sLen rfl rfl | exact Still.sAdd rfl rfl (by omega) (by omega))) (k := ?_)) | refine go (k := ?_) | (refine goB (k := ?_); intro b) | (refine goA (k := ?_); intro ao cap))
          refine End.round0_ hK2 (bi + 1) ?_ ?_
          · exact ⟨by omega, hWb⟩
          · omega
      · rw [show m.bx.length - bi = 0 by omega] at hWb
        repeat (first | (apply Run.op; exact rfl; refine OpT.val_ (h := by (first | exact Still.sEql rfl rfl | exact Still.sNeq rfl rfl | exact Still.sLen rfl rfl | exact Still.sAdd rfl rfl (by omega) (by omega))) (k := ?_)) | (refine Run.yes_ (h := ?_); refine OpT.val_ (h := by (first | exact Still.sEql rfl rfl | exact Still.sNeq rfl rfl | exact Still.sLen rfl rfl | exact Still.sAdd rfl rfl (by omega) (by omega))) (k := ?_)) | (refine RunQ.val_ (h := by (first | exact Still.sEql rfl rfl | exact Still.sNeq rfl rfl | exact Still.sLen rfl rfl | exact Still.sAdd rfl rfl (by omega) (by omega))) (k := ?_)) | (refine RunQ.yes_ (h := by (first | exact Still.sEql rfl rfl | exact Still.sNeq rfl rfl | exact Still.sLen rfl rfl | exact Still.sAdd rfl rfl (by omega) (by omega))) (k := ?_)) | refine go (k := ?_) | (refine goB (k := ?_); intro b) | (refine goA (k := ?_); intro ao cap))
        (refine End.doneC1_ (()) (he := by exact where_eq hWb) (hp := ?_))
        trivial
  · have hWx : W = Ver.form m.mdl := by rw [hW, Ver.verify_1 hf]
    repeat (first | (apply Run.op; exact rfl; refine OpT.val_ (h := by (first | exact Still.sEql rfl rfl | exact Still.sNeq rfl rfl | exact Still.sLen rfl rfl | exact Still.sAdd rfl rfl (by omega) (by omega))) (k := ?_)) | (refine Run.yes_ (h := ?_); refine OpT.val_ (h := by (first | exact Still.sEql rfl rfl | exact Still.sNeq rfl rfl | exact Still.sLen rfl rfl | exact Still.sAdd rfl rfl (by omega) (by omega))) (k := ?_)) | (refine RunQ.val_ (h := by (first | exact Still.sEql rfl rfl | exact Still.sNeq rfl rfl | exact Still.sLen rfl rfl | exact Still.sAdd rfl rfl (by omega) (by omega))) (k := ?_)) | (refine RunQ.yes_ (h := by (first | exact Still.sEql rfl rfl | exact Still.sNeq rfl rfl | exact Still.sLen rfl rfl | exact Still.sAdd rfl rfl (by omega) (by omega))) (k := ?_)) | refine go (k := ?_) | (refine goB (k := ?_); intro b) | (refine goA (k := ?_); intro ao cap))
    (refine End.doneC1_ (()) (he := by exact where_eq hWx) (hp := ?_))
    trivial
end Go.Proofs.Ytkhagebjphaboaa.Vw

/- == of two places of faults; one's own as a thing that is only read. -/
namespace Go.Proofs.Ytkhagebjphaboaa.Vw
open Go.RowKit Go.Proofs.Ytkhagebjphaboaa.Img
set_option linter.unusedVariables false
set_option linter.unusedSimpArgs false
theorem run_whereIn (x y : Ver.Where) (w : World) : (Op.equalIn 10000 28 (whereV x) (whereV y)).run Try.prog w = .ok (decide (x = y)) w := by
  have u3 := Try.underlying3
  have a3 := Try.isAgg3
  have z3 := Try.sizeOf3
  have u4 := Try.underlying26
  have a4 := Try.isAgg26
  have hS : Try.prog.underlying 28 = some (.struct (Try.prog.fieldsOf 28)) := by kernel_rfl
  have hp : Try.prog.stoodInHeld 28 = false := by kernel_rfl
  obtain ⟨a, b, c⟩ := x
  obtain ⟨d, e, f⟩ := y
  simp only [whereV, whereC]
  rw [show (10000 : Nat) = 9999 + 1 from rfl, run_equalIn_agg w 9999 28 _ _ hS hp]
  simp only [Program.fieldsOf, Try.underlying28]
  go_simp
  by_cases h1 : a = d <;> by_cases h2 : b = e <;> by_cases h3 : c = f <;> simp [h1, h2, h3]
section
variable {N : Nat} {E : Env} {L : List Chunk} {dst : Option Tmp} {ty : TypeId} {pos : String} {aft : Array Edge} {g : Option (Nat × Bool)}
theorem Still.eqlW {x y : Operand} {a b : Ver.Where} {v v' : Value} {r : Bool} (hx : ev E x = some v) (hy : ev E y = some v') (h1 : v = whereV a) (h2 : v' = whereV b) (hr : decide (a = b) = r) : Still Try.prog N ⟨dst, .binOp .eql 28 x y 28, ty, pos, aft, g⟩ E L (.bool r) := fun A w hs _ => by
  subst h1 h2 hr
  have hg := run_eqGuard_agg (P := Try.prog) w .eql 28 x y (whereC a).toArray (whereC b).toArray (by kernel_rfl)
  simp [execOp, hs.ev hx, hs.ev hy, hg, run_eql_struct, run_whereIn]
end
end Go.Proofs.Ytkhagebjphaboaa.Vw

/- yieldlaw7.VerifyTells, walked. -/
namespace Go.Proofs.Ytkhagebjphaboaa.Vw
open Go.RowKit Go.Proofs.Ytkhagebjphaboaa.Img
set_option linter.unusedVariables false
set_option linter.unusedSimpArgs false
attribute [local irreducible] Run Cod End OpT Still RunQ RunS RunT Fn PutOk
set_option maxRecDepth 100000 in
theorem tells7_is (m : ML) (hwf : m.Wf) : Fn Try.prog 3 #[m.val] [md m] [] (σ := Unit) (fun _ => True) (fun _ => .bool true) (fun _ => []) := by
  refine Fn.enter (args := [m.val]) Try.func3 rfl _ Try.ntmps3 rfl (by simp [rd_excl, md_excl]) (fun w S => ?_)
  (try conv => rhs; simp only [List.cons_append, List.nil_append])
  repeat (first | refine go (k := ?_) | (refine goB (k := ?_); intro b) | (refine goA (k := ?_); intro ao cap))
  apply Cod.quiet (by kernel_rfl) (by kernel_rfl)
  repeat (first | refine go (k := ?_) | (refine goB (k := ?_); intro b) | (refine goA (k := ?_); intro ao cap))
  refine RunQ.call (hx := by exact rfl) (hv := by exact evz) (hc := by kernel_rfl) (hd := by exact rfl) (v := whereV (Ver.verify m.mdl)) (spec := verify_is m hwf) (r := fun w => rds) (hval := fun s _ => ⟨rfl, rfl⟩) (k := ?_)
  repeat (first | refine go (k := ?_) | (refine goB (k := ?_); intro b) | (refine goA (k := ?_); intro ao cap))
  refine RunQ.call (hx := by exact rfl) (hv := by exact evz) (hc := by kernel_rfl) (hd := by exact rfl) (v := whereV (Ver.verify m.mdl)) (spec := verify7_is m hwf) (r := fun w => rds) (hval := fun s _ => ⟨rfl, rfl⟩) (k := ?_)
  repeat (first | refine go (k := ?_) | (refine goB (k := ?_); intro b) | (refine goA (k := ?_); intro ao cap))
  refine RunQ.val_ (h := by exact Still.eqlW (a := Ver.verify m.mdl) (b := Ver.verify m.mdl) (r := true) rfl rfl rfl rfl (decide_eq_true rfl)) (k := ?_)
  repeat (first | refine go (k := ?_) | (refine goB (k := ?_); intro b) | (refine goA (k := ?_); intro ao cap))
  (refine End.done1_ (()) (he := by (first | exact rfl | (refine congrArg (Value.int _) ?_; omega) | (refine congrArg (Value.int _) ?_; dsimp only; omega))) (hp := ?_))
  trivial
end Go.Proofs.Ytkhagebjphaboaa.Vw

/- How the arguments' data are read: a slice's cells out of its reading ('read_slice'); what a law owes at its end ('law_post'). Of whatever program. -/
namespace Go.Proofs.Ytkhagebjphaboaa
open Go.RowKit Go.ChangeShapes Go.WideShapes Go.ChangeAt
set_option linter.unusedVariables false

section
variable {H : Type} {enc : TypeId × Value → H} {P : Program} {w : World}

abbrev Trd (enc : TypeId × Value → H) (P : Program) (w : World) (fuel : Nat) (t : TypeId) (cs : List Value) (x : DataW H × List MemPlace) : Prop :=
  DataW.trod enc P w 0 (fun _ => true) true fuel t cs = some x

/-- every weight of a datum is within the reach -/
def Fits (P : Program) (t : TypeId) (d : DataW H) : Prop := ∀ n ∈ d.weights P t, n ≤ reachBytes

theorem fits_all {e : TypeId} : ∀ {l : List (DataW H)}, (∀ n ∈ DataW.weightsAll P e l, n ≤ reachBytes) → ∀ d ∈ l, Fits P e d
  | [], _, d, hd => by cases hd
  | x :: r, h, d, hd => by
    simp only [DataW.weightsAll, List.mem_append] at h
    rcases List.mem_cons.1 hd with rfl | hd
    · exact fun n hn => h n (.inl hn)
    · exact fits_all (fun n hn => h n (.inr hn)) d hd

theorem fits_each {ts : List TypeId} {ds : List (DataW H)} (h : ∀ n ∈ DataW.weightsEach P ts ds, n ≤ reachBytes) {j : Nat} {t : TypeId} {d : DataW H} (ht : ts[j]? = some t) (hd : ds[j]? = some d) : Fits P t d :=
  fun n hn => h n (DataW.weights_mem_each ht hd n hn)

/-- A SLICE, READ: its elements' cells are those of a list, if each element's are those of a thing. -/
theorem read_slice {α : Type} [Inhabited α] {t e : TypeId} {size : Nat} (f : α → List Value) (Q : α → Prop) (ht : P.underlying t = some (.slice e)) (hc : P.cellsOf e = size) (hs : 0 < size)
    (hel : ∀ fuel cs x, Trd enc P w fuel e cs x → Fits P e x.1 → cs.length = size → ∃ a, cs = f a ∧ Q a)
    {fuel : Nat} {cs : List Value} {x : DataW H × List MemPlace} (h : Trd enc P w fuel t cs x) (hf : Fits P t x.1) :
    ∃ (v : Value) (l : List α), cs = [v] ∧ Row w v size l.length (l.flatMap f) ∧ (∀ a ∈ l, Q a) ∧ l.length * P.bytesOf e ≤ reachBytes ∧ (∀ b, v.ownBlock = some b → 0 < l.length → b < w.heap.size) := by
  rcases Deep.open_slice ht h with ⟨rfl, rfl⟩ | ⟨a, len, cap, m, n, D, Pl, rfl, hb, hl, hm, hmm, rfl, hx⟩
  · exact ⟨_, [], rfl, ⟨by simp, Nat.zero_le _, none, 0, rfl, Nat.le_refl _, fun h => by simp at h⟩, by simp, by simp, fun b h => by cases h⟩
  · simp only [if_true] at hmm
    subst hmm
    have hw := hf
    simp only [Fits, DataW.weights, ht, List.mem_cons, List.mem_append] at hw
    have hel' : ∀ i, i < len → ∃ y : α, (∀ j, j < size → w.cell? (a.add (i * size + j)) = (f y)[j]?) ∧ (f y).length = size ∧ Q y := by
      intro i hi
      obtain ⟨cs', h1, h2⟩ := hx i (by omega)
      rw [hc] at h1
      obtain ⟨-, h3, h4⟩ := World.cells?_some h1
      obtain ⟨y, rfl, hq⟩ := hel n cs' (D i, Pl i) h2 (fits_all (fun n hn => hw n (.inr (.inl hn))) (D i) (List.mem_map.2 ⟨i, by simpa using hi, rfl⟩)) h3
      refine ⟨y, fun j hj => ?_, h3, hq⟩
      rw [← Deep.add_add]
      exact h4 j hj
    obtain ⟨F, hF⟩ := Deep.choose_lt hel'
    refine ⟨_, (List.range len).map F, rfl, ?_, ?_, ?_, ?_⟩
    · have hlen : ∀ m, m ≤ len → (((List.range m).map F).flatMap f).length = m * size := by
        intro m hm
        induction m with
        | zero => simp
        | succ m ih =>
          rw [List.range_succ, List.map_append, List.flatMap_append, List.length_append, ih (by omega)]
          simp [(hF m (by omega)).2.1, Nat.add_mul]
      have hget : ∀ m, m ≤ len → ∀ j, j < m * size → w.cell? (a.add j) = (((List.range m).map F).flatMap f)[j]? := by
        intro m hm
        induction m with
        | zero => intro j hj; simp at hj
        | succ m ih =>
          intro j hj
          rw [List.range_succ, List.map_append, List.flatMap_append]
          by_cases hjm : j < m * size
          · rw [List.getElem?_append_left (by rw [hlen m (by omega)]; exact hjm)]
            exact ih (by omega) j hjm
          · rw [List.getElem?_append_right (by rw [hlen m (by omega)]; omega), hlen m (by omega)]
            have := (hF m (by omega)).1 (j - m * size) (by rw [Nat.add_mul] at hj; omega)
            rw [show m * size + (j - m * size) = j by omega] at this
            simpa using this
      refine ⟨by simp only [List.length_map, List.length_range]; exact hlen len (Nat.le_refl _), by simp; omega, some a, m, by simp, by simpa using hl, fun hpos => ?_⟩
      simp only [List.length_map, List.length_range] at hpos ⊢
      have h0 := hget len (Nat.le_refl _) 0 (Nat.mul_pos hpos hs)
      have hsome : (w.cell? (a.add 0)).isSome = true := by
        rw [h0, List.getElem?_eq_getElem (by rw [hlen len (Nat.le_refl _)]; exact Nat.mul_pos hpos hs)]; rfl
      obtain ⟨b, off, spot⟩ := a
      have hspot : spot = none := by
        cases spot with
        | none => rfl
        | some s =>
          unfold World.cell? Addr.add at hsome
          split at hsome <;> simp_all
      subst hspot
      exact ⟨b, off, rfl, fun j hj => by rw [← Addr.add_lit]; exact hget len (Nat.le_refl _) j hj⟩
    · intro y hy
      obtain ⟨i, hi, rfl⟩ := List.mem_map.1 hy
      exact (hF i (by simpa using hi)).2.2
    · have := hw _ (.inl rfl)
      simp only [List.length_map, List.length_range] at this ⊢
      refine Nat.le_trans (Nat.mul_le_mul_right _ ?_) this
      omega
    · intro b hb' hpos
      simp only [List.length_map, List.length_range] at hpos
      simp [Value.ownBlock] at hb'
      subst hb'
      obtain ⟨y, hy1, hy2, -⟩ := hel' 0 hpos
      have := hy1 0 hs
      rw [List.getElem?_eq_getElem (by omega)] at this
      have hlt := World.block_lt_of_cell? w _ this
      have e1 : (a.add (0 * size + 0)).block = a.block := by unfold Addr.add; split <;> rfl
      rwa [e1] at hlt

theorem wf_i64 {n : Int} (h : (Lit.int .i64 n).wf = true) : -9223372036854775808 ≤ n ∧ n ≤ 9223372036854775807 := by
  simpa [Lit.wf, IntKind.min, IntKind.max, IntKind.signed, IntKind.bits] using h
/-- what a law owes at its end: true, and nothing of old memory has turned -/
theorem law_post {f : Func} {s : ChangeSpec} {W W' : World} {args : Array Value} {ds gs : List (DataW H)} {before : List MemPlace} {tb : TypeId}
    (hl : laidOutB P = true) (hr : ∀ t ∈ f.params.toList, P.readableRec t = true ∧ t < P.types.size) (hrt : f.resultTypes = #[tb]) (htb : P.underlying tb = some .bool) (hsv : s.vars = [])
    (hW : DataW.Whole enc P f.params.toList s.vars false W args.toList ds gs before) (hfn : (s.fn H (ds ++ gs)) = { results := [.lit (.bool true)], args := ds }) (hb : Below W.heap.size W W') :
    s.post enc P f false true false false W args (.bool true) W' := by
  have hlt := hW.lt
  have hW0 := hW
  obtain ⟨p, q, hA, hV, rfl, hfz, hnd⟩ := hW
  rw [hsv] at hV
  obtain ⟨rfl, rfl⟩ := trodVars_none hV
  have key : ∀ (ts : List TypeId) (vs : List Value) (ds : List (DataW H)) (p : List MemPlace), (∀ t ∈ ts, P.readableRec t = true ∧ t < P.types.size) → (∀ x ∈ p, x.block < W.heap.size) →
      DataW.TrodAll enc P W 0 (fun _ => true) true ts vs ds p → DataW.TrodAll enc P W' 0 (fun b => decide (b < W.heap.size)) true ts vs ds p := by
    intro ts
    induction ts with
    | nil => intro vs ds p _ _ h; cases vs <;> cases ds <;> simp_all [DataW.TrodAll]
    | cons t ts ih =>
      intro vs ds p h1 h2 h
      cases vs with
      | nil => simp [DataW.TrodAll] at h
      | cons v vs =>
        cases ds with
        | nil => simp [DataW.TrodAll] at h
        | cons d ds =>
          obtain ⟨p1, p2, h3, h4, rfl⟩ := h
          have ht := h1 t (by simp)
          exact ⟨p1, p2, Below.trod hl ht.1 ht.2 h3 hb (fun x hx => h2 x (by simp [hx])), ih vs ds p2 (fun t ht => h1 t (by simp [ht])) (fun x hx => h2 x (by simp [hx])) h4, rfl⟩
  refine ⟨ds, [], _, [], p, [], hW0, ?_, ?_, ?_, hb.frame _, fun h => by cases h⟩
  · rw [hfn, hrt]
    exact trodAll_mk1 (shut_bool htb true)
  · rw [hfn]
    exact key _ _ _ _ hr (fun x hx => hlt x (by simp [hx])) hA
  · rw [hfn, hsv]
    rfl
end
end Go.Proofs.Ytkhagebjphaboaa
