/- yieldref7.Code, a round: where an instruction leads. -/
import Derived.Test.YtfeajpghabjaaaaM34
namespace Go.Proofs.Ytfeajpghabjaaaa.Vw
open Go.RowKit Go.Proofs.Ytfeajpghabjaaaa.Img
set_option linter.unusedVariables false
set_option linter.unusedSimpArgs false
attribute [local irreducible] Run Cod End OpT Still RunQ RunS RunT Fn PutOk
section
variable (m : ML) (q : Nat) (mb kb wb ub zb : Nat) (l : List Sn) (p : Nat) (w : World) (S : Nat → Prop) (Q : Exit → Act → World → Prop)
set_option maxRecDepth 100000 in
set_option maxHeartbeats 1000000 in
theorem code7_n (to_ : Option Addr) (tc : Nat) (rest : List Int) (i : ImgM.Ins) (h : List Bool) (st : List UInt8) (ab ib : Nat) (no : Option Addr) (nc : Nat) (hp : p ≤ 4000)
    (hb : (i.op = 24 ∨ i.op = 25) ∧ st.length ≠ 0 → Rets Q w S wb q p 12)
    (hN : ¬ ((i.op = 24 ∨ i.op = 25) ∧ st.length ≠ 0) → ∀ lo lc, Cod Try.prog Q 308 rnN ((22, .slice lo (Ver.nexts i (p : Int)).length lc) :: (E7 mb kb wb ub zb l.length to_ tc rest.length ++ F7 kb ab ib no nc h.length st)) (arr lo (Ver.nexts i (p : Int)).length lc 3 i64c (Ver.nexts i (p : Int)) :: (M7 m q mb kb wb ub zb l to_ tc rest w S ++ N7 ab ib p i no nc h))) :
    Cod Try.prog Q 308 rnT (E7 mb kb wb ub zb l.length to_ tc rest.length ++ F7 kb ab ib no nc h.length st) (M7 m q mb kb wb ub zb l to_ tc rest w S ++ N7 ab ib p i no nc h) := by
  show Cod _ _ _ (Code.seq (sl rnT) (Code.seq (sl (sr rnT)) rnN)) _ _
  generalize rnN = y at hN ⊢
  dsimp only [M7, E7, N7, F7, List.cons_append, List.nil_append]
  by_cases o24 : i.op = 24 ∨ i.op = 25
  · have e : Ver.nexts i (p : Int) = [] := by unfold Ver.nexts; rw [if_neg (by omega), if_neg (by omega), if_pos o24]
    rw [e] at hN
    by_cases c : st = []
    · have c' : (!decide (st = [])) = false := by rw [decide_eq_true c]; rfl
      have hc0 : ¬ ((i.op = 24 ∨ i.op = 25) ∧ st.length ≠ 0) := fun h => h.2 (by rw [c]; rfl)
      rcases o24 with o24 | o24
      · repeat (first | (apply Run.op; exact rfl; refine OpT.val_ (h := by (first | exact Still.sEql rfl rfl | exact Still.sNeq rfl rfl | exact Still.sLen rfl rfl | exact Still.sAdd rfl rfl (by omega) (by omega))) (k := ?_)) | (refine Run.yes_ (h := ?_); refine OpT.val_ (h := by (first | exact Still.sEql rfl rfl | exact Still.sNeq rfl rfl | exact Still.sLen rfl rfl | exact Still.sAdd rfl rfl (by omega) (by omega))) (k := ?_)) | (refine RunQ.val_ (h := by (first | exact Still.sEql rfl rfl | exact Still.sNeq rfl rfl | exact Still.sLen rfl rfl | exact Still.sAdd rfl rfl (by omega) (by omega))) (k := ?_)) | (refine RunQ.yes_ (h := by (first | exact Still.sEql rfl rfl | exact Still.sNeq rfl rfl | exact Still.sLen rfl rfl | exact Still.sAdd rfl rfl (by omega) (by omega))) (k := ?_)) | refine go (k := ?_) | (refine goB (k := ?_); intro b) | (refine goA (k := ?_); intro ao cap))
        apply Cod.imp (fun w hm => hm.nilArr 3 i64c)
        (apply Cod.weak (hN hc0 none 0); (focus (dsimp only [E7, F7, List.cons_append, List.nil_append]; exact sb)); (focus (dsimp only [M7, N7, List.cons_append, List.nil_append]; exact tks)))
      · repeat (first | (apply Run.op; exact rfl; refine OpT.val_ (h := by (first | exact Still.sEql rfl rfl | exact Still.sNeq rfl rfl | exact Still.sLen rfl rfl | exact Still.sAdd rfl rfl (by omega) (by omega))) (k := ?_)) | (refine Run.yes_ (h := ?_); refine OpT.val_ (h := by (first | exact Still.sEql rfl rfl | exact Still.sNeq rfl rfl | exact Still.sLen rfl rfl | exact Still.sAdd rfl rfl (by omega) (by omega))) (k := ?_)) | (refine RunQ.val_ (h := by (first | exact Still.sEql rfl rfl | exact Still.sNeq rfl rfl | exact Still.sLen rfl rfl | exact Still.sAdd rfl rfl (by omega) (by omega))) (k := ?_)) | (refine RunQ.yes_ (h := by (first | exact Still.sEql rfl rfl | exact Still.sNeq rfl rfl | exact Still.sLen rfl rfl | exact Still.sAdd rfl rfl (by omega) (by omega))) (k := ?_)) | refine go (k := ?_) | (refine goB (k := ?_); intro b) | (refine goA (k := ?_); intro ao cap))
        apply Cod.imp (fun w hm => hm.nilArr 3 i64c)
        (apply Cod.weak (hN hc0 none 0); (focus (dsimp only [E7, F7, List.cons_append, List.nil_append]; exact sb)); (focus (dsimp only [M7, N7, List.cons_append, List.nil_append]; exact tks)))
    · have c' : (!decide (st = [])) = true := by rw [decide_eq_false c]; rfl
      have hc0 : (i.op = 24 ∨ i.op = 25) ∧ st.length ≠ 0 := ⟨o24, fun h => c (List.eq_nil_of_length_eq_zero h)⟩
      rcases o24 with o24 | o24
      · repeat (first | (apply Run.op; exact rfl; refine OpT.val_ (h := by (first | exact Still.sEql rfl rfl | exact Still.sNeq rfl rfl | exact Still.sLen rfl rfl | exact Still.sAdd rfl rfl (by omega) (by omega))) (k := ?_)) | (refine Run.yes_ (h := ?_); refine OpT.val_ (h := by (first | exact Still.sEql rfl rfl | exact Still.sNeq rfl rfl | exact Still.sLen rfl rfl | exact Still.sAdd rfl rfl (by omega) (by omega))) (k := ?_)) | (refine RunQ.val_ (h := by (first | exact Still.sEql rfl rfl | exact Still.sNeq rfl rfl | exact Still.sLen rfl rfl | exact Still.sAdd rfl rfl (by omega) (by omega))) (k := ?_)) | (refine RunQ.yes_ (h := by (first | exact Still.sEql rfl rfl | exact Still.sNeq rfl rfl | exact Still.sLen rfl rfl | exact Still.sAdd rfl rfl (by omega) (by omega))) (k := ?_)) | refine go (k := ?_) | (refine goB (k := ?_); intro b) | (refine goA (k := ?_); intro ao cap))
        (first | (apply Run.op; exact rfl) | refine Run.yes_ (h := ?_)); refine OpT.call_ (spec := bad7_is kb ab q p 12) (k := ?_); intro s hs; (try conv => rhs; simp only [List.cons_append, List.nil_append])
        repeat (first | (apply Run.op; exact rfl; refine OpT.val_ (h := by (first | exact Still.sEql rfl rfl | exact Still.sNeq rfl rfl | exact Still.sLen rfl rfl | exact Still.sAdd rfl rfl (by omega) (by omega))) (k := ?_)) | (refine Run.yes_ (h := ?_); refine OpT.val_ (h := by (first | exact Still.sEql rfl rfl | exact Still.sNeq rfl rfl | exact Still.sLen rfl rfl | exact Still.sAdd rfl rfl (by omega) (by omega))) (k := ?_)) | (refine RunQ.val_ (h := by (first | exact Still.sEql rfl rfl | exact Still.sNeq rfl rfl | exact Still.sLen rfl rfl | exact Still.sAdd rfl rfl (by omega) (by omega))) (k := ?_)) | (refine RunQ.yes_ (h := by (first | exact Still.sEql rfl rfl | exact Still.sNeq rfl rfl | exact Still.sLen rfl rfl | exact Still.sAdd rfl rfl (by omega) (by omega))) (k := ?_)) | refine go (k := ?_) | (refine goB (k := ?_); intro b) | (refine goA (k := ?_); intro ao cap))
        exact hb hc0 _ _ _ _ rfl tk tks
      · repeat (first | (apply Run.op; exact rfl; refine OpT.val_ (h := by (first | exact Still.sEql rfl rfl | exact Still.sNeq rfl rfl | exact Still.sLen rfl rfl | exact Still.sAdd rfl rfl (by omega) (by omega))) (k := ?_)) | (refine Run.yes_ (h := ?_); refine OpT.val_ (h := by (first | exact Still.sEql rfl rfl | exact Still.sNeq rfl rfl | exact Still.sLen rfl rfl | exact Still.sAdd rfl rfl (by omega) (by omega))) (k := ?_)) | (refine RunQ.val_ (h := by (first | exact Still.sEql rfl rfl | exact Still.sNeq rfl rfl | exact Still.sLen rfl rfl | exact Still.sAdd rfl rfl (by omega) (by omega))) (k := ?_)) | (refine RunQ.yes_ (h := by (first | exact Still.sEql rfl rfl | exact Still.sNeq rfl rfl | exact Still.sLen rfl rfl | exact Still.sAdd rfl rfl (by omega) (by omega))) (k := ?_)) | refine go (k := ?_) | (refine goB (k := ?_); intro b) | (refine goA (k := ?_); intro ao cap))
        (first | (apply Run.op; exact rfl) | refine Run.yes_ (h := ?_)); refine OpT.call_ (spec := bad7_is kb ab q p 12) (k := ?_); intro s hs; (try conv => rhs; simp only [List.cons_append, List.nil_append])
        repeat (first | (apply Run.op; exact rfl; refine OpT.val_ (h := by (first | exact Still.sEql rfl rfl | exact Still.sNeq rfl rfl | exact Still.sLen rfl rfl | exact Still.sAdd rfl rfl (by omega) (by omega))) (k := ?_)) | (refine Run.yes_ (h := ?_); refine OpT.val_ (h := by (first | exact Still.sEql rfl rfl | exact Still.sNeq rfl rfl | exact Still.sLen rfl rfl | exact Still.sAdd rfl rfl (by omega) (by omega))) (k := ?_)) | (refine RunQ.val_ (h := by (first | exact Still.sEql rfl rfl | exact Still.sNeq rfl rfl | exact Still.sLen rfl rfl | exact Still.sAdd rfl rfl (by omega) (by omega))) (k := ?_)) | (refine RunQ.yes_ (h := by (first | exact Still.sEql rfl rfl | exact Still.sNeq rfl rfl | exact Still.sLen rfl rfl | exact Still.sAdd rfl rfl (by omega) (by omega))) (k := ?_)) | refine go (k := ?_) | (refine goB (k := ?_); intro b) | (refine goA (k := ?_); intro ao cap))
        exact hb hc0 _ _ _ _ rfl tk tks
  have hc0 : ¬ ((i.op = 24 ∨ i.op = 25) ∧ st.length ≠ 0) := fun h => o24 h.1
  by_cases o21 : i.op = 21
  · have e : Ver.nexts i (p : Int) = [i.a] := by unfold Ver.nexts; rw [if_pos o21]
    rw [e] at hN
    repeat (first | (apply Run.op; exact rfl; refine OpT.val_ (h := by (first | exact Still.sEql rfl rfl | exact Still.sNeq rfl rfl | exact Still.sLen rfl rfl | exact Still.sAdd rfl rfl (by omega) (by omega))) (k := ?_)) | (refine Run.yes_ (h := ?_); refine OpT.val_ (h := by (first | exact Still.sEql rfl rfl | exact Still.sNeq rfl rfl | exact Still.sLen rfl rfl | exact Still.sAdd rfl rfl (by omega) (by omega))) (k := ?_)) | (refine RunQ.val_ (h := by (first | exact Still.sEql rfl rfl | exact Still.sNeq rfl rfl | exact Still.sLen rfl rfl | exact Still.sAdd rfl rfl (by omega) (by omega))) (k := ?_)) | (refine RunQ.yes_ (h := by (first | exact Still.sEql rfl rfl | exact Still.sNeq rfl rfl | exact Still.sLen rfl rfl | exact Still.sAdd rfl rfl (by omega) (by omega))) (k := ?_)) | refine go (k := ?_) | (refine goB (k := ?_); intro b) | (refine goA (k := ?_); intro ao cap))
    obtain ⟨cb, rfl⟩ : ∃ x, x = b := ⟨_, rfl⟩
    apply Cod.imp (fun w hm => toArr7 i64c [i.a] 1 rfl (by unfold maxLen; omega) (b := cb) (by (repeat (first | exact Take.head | apply Take.tail))) hm)
    (apply Cod.weak (hN hc0 (some ⟨cb, 0, none⟩) 1); (focus (dsimp only [E7, F7, List.cons_append, List.nil_append]; exact sb)); (focus (dsimp only [M7, N7, List.cons_append, List.nil_append]; exact tks)))
  by_cases o22 : i.op = 22
  · have e : Ver.nexts i (p : Int) = [i.a, (p : Int) + 1] := by unfold Ver.nexts; rw [if_neg o21, if_pos o22]
    rw [e] at hN
    repeat (first | (apply Run.op; exact rfl; refine OpT.val_ (h := by (first | exact Still.sEql rfl rfl | exact Still.sNeq rfl rfl | exact Still.sLen rfl rfl | exact Still.sAdd rfl rfl (by omega) (by omega))) (k := ?_)) | (refine Run.yes_ (h := ?_); refine OpT.val_ (h := by (first | exact Still.sEql rfl rfl | exact Still.sNeq rfl rfl | exact Still.sLen rfl rfl | exact Still.sAdd rfl rfl (by omega) (by omega))) (k := ?_)) | (refine RunQ.val_ (h := by (first | exact Still.sEql rfl rfl | exact Still.sNeq rfl rfl | exact Still.sLen rfl rfl | exact Still.sAdd rfl rfl (by omega) (by omega))) (k := ?_)) | (refine RunQ.yes_ (h := by (first | exact Still.sEql rfl rfl | exact Still.sNeq rfl rfl | exact Still.sLen rfl rfl | exact Still.sAdd rfl rfl (by omega) (by omega))) (k := ?_)) | refine go (k := ?_) | (refine goB (k := ?_); intro b) | (refine goA (k := ?_); intro ao cap))
    obtain ⟨cb, rfl⟩ : ∃ x, x = b := ⟨_, rfl⟩
    apply Cod.imp (fun w hm => toArr7 i64c [i.a, (p : Int) + 1] 2 rfl (by unfold maxLen; omega) (b := cb) (by (repeat (first | exact Take.head | apply Take.tail))) hm)
    (apply Cod.weak (hN hc0 (some ⟨cb, 0, none⟩) 2); (focus (dsimp only [E7, F7, List.cons_append, List.nil_append]; exact sb)); (focus (dsimp only [M7, N7, List.cons_append, List.nil_append]; exact tks)))
  · have e : Ver.nexts i (p : Int) = [(p : Int) + 1] := by unfold Ver.nexts; rw [if_neg o21, if_neg o22, if_neg o24]
    rw [e] at hN
    have n24 : ¬ i.op = 24 := fun h => o24 (.inl h)
    have n25 : ¬ i.op = 25 := fun h => o24 (.inr h)
    repeat (first | (apply Run.op; exact rfl; refine OpT.val_ (h := by (first | exact Still.sEql rfl rfl | exact Still.sNeq rfl rfl | exact Still.sLen rfl rfl | exact Still.sAdd rfl rfl (by omega) (by omega))) (k := ?_)) | (refine Run.yes_ (h := ?_); refine OpT.val_ (h := by (first | exact Still.sEql rfl rfl | exact Still.sNeq rfl rfl | exact Still.sLen rfl rfl | exact Still.sAdd rfl rfl (by omega) (by omega))) (k := ?_)) | (refine RunQ.val_ (h := by (first | exact Still.sEql rfl rfl | exact Still.sNeq rfl rfl | exact Still.sLen rfl rfl | exact Still.sAdd rfl rfl (by omega) (by omega))) (k := ?_)) | (refine RunQ.yes_ (h := by (first | exact Still.sEql rfl rfl | exact Still.sNeq rfl rfl | exact Still.sLen rfl rfl | exact Still.sAdd rfl rfl (by omega) (by omega))) (k := ?_)) | refine go (k := ?_) | (refine goB (k := ?_); intro b) | (refine goA (k := ?_); intro ao cap))
    obtain ⟨cb, rfl⟩ : ∃ x, x = b := ⟨_, rfl⟩
    apply Cod.imp (fun w hm => toArr7 i64c [(p : Int) + 1] 1 rfl (by unfold maxLen; omega) (b := cb) (by (repeat (first | exact Take.head | apply Take.tail))) hm)
    (apply Cod.weak (hN hc0 (some ⟨cb, 0, none⟩) 1); (focus (dsimp only [E7, F7, List.cons_append, List.nil_append]; exact sb)); (focus (dsimp only [M7, N7, List.cons_append, List.nil_append]; exact tks)))
end
end Go.Proofs.Ytfeajpghabjaaaa.Vw
