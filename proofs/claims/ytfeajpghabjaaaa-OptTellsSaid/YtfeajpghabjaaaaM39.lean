/- yieldref7.Comes, walked. -/
import Derived.Test.YtfeajpghabjaaaaM38
namespace Go.Proofs.Ytfeajpghabjaaaa.Vw
open Go.RowKit Go.Proofs.Ytfeajpghabjaaaa.Img
set_option linter.unusedVariables false
set_option linter.unusedSimpArgs false
theorem in7_succ (M : ImgM.Mdl) (task n : Nat) : Rf7.in7 M task (n + 1) = (List.range M.units.length).foldl (Rf7.marks7 M) (Rf7.in7 M task n) := rfl
theorem fold_range (M : ImgM.Mdl) (k : Nat) (ins : List Bool) : (List.range (k + 1)).foldl (Rf7.marks7 M) ins = Rf7.marks7 M ((List.range k).foldl (Rf7.marks7 M) ins) k := by
  rw [List.range_succ, List.foldl_append]; rfl
theorem fold_take {k : Nat} {c : List ImgM.Ins} {j : Nat} (h : j < c.length) (ins : List Bool) : (c.take (j + 1)).foldl (Rf7.mark7 k) ins = Rf7.mark7 k ((c.take j).foldl (Rf7.mark7 k) ins) (c.getD j default) := by
  rw [List.take_succ_eq_append_getElem h, List.foldl_append, List.getD_eq_getElem?_getD, List.getElem?_eq_getElem h]; rfl
theorem marks_len (M : ImgM.Mdl) (l : List Nat) (ins : List Bool) : (l.foldl (Rf7.marks7 M) ins).length = ins.length := (Rf7.foldl_sub (Rf7.marks_sub M) l ins).1.symm
theorem mark_len (k : Nat) (c : List ImgM.Ins) (ins : List Bool) : (c.foldl (Rf7.mark7 k) ins).length = ins.length := (Rf7.foldl_sub (Rf7.mark_sub k) c ins).1.symm
theorem drop_range {k U : Nat} (h : k < U) : (List.range U).drop k = k :: (List.range U).drop (k + 1) := by
  rw [drop_cons (l := List.range U) (k := k) (by simpa using h)]
  congr 1
  rw [List.getD_eq_getElem?_getD, List.getElem?_range h]; rfl
attribute [local irreducible] Run Cod End OpT Still RunQ RunS RunT Fn PutOk
set_option maxRecDepth 100000 in
set_option maxHeartbeats 1000000 in
theorem comes7_is (m : ML) (task : Nat) (ht : task < m.us.length) (hF : Formed m) (op a : Int) : Fn Try.prog 35 #[m.val, .int .i64 (task : Int), .int .i64 op, .int .i64 a] [md m] [] (σ := Unit) (fun _ => True) (fun _ => .bool (Rf7.comes7 m.mdl task op a)) (fun _ => []) := by
  have hU := hF.units
  have hun : m.mdl.units.length = m.us.length := by simp
  have hcalls := hF.calls
  have hcl : ∀ k, k < m.us.length → (m.us.getD k default).u.code.length ≤ 4000 := fun k hk => (head_ok (hF.head k hk)).2.2.2.2.2
  obtain ⟨W, hW⟩ : ∃ W, W = Rf7.comes7 m.mdl task op a := ⟨_, rfl⟩
  rw [← hW]
  refine Fn.enter (args := [m.val, .int .i64 (task : Int), .int .i64 op, .int .i64 a]) Try.func35 rfl _ Try.ntmps35 rfl (by simp [rd_excl, md_excl]) (fun w S => ?_)
  (try conv => rhs; simp only [List.cons_append, List.nil_append])
  repeat (first | (apply Run.op; exact rfl; refine OpT.val_ (h := by (first | exact Still.sEql rfl rfl | exact Still.sNeq rfl rfl | exact Still.sLen rfl rfl | exact Still.sAdd rfl rfl (by omega) (by omega))) (k := ?_)) | (refine Run.yes_ (h := ?_); refine OpT.val_ (h := by (first | exact Still.sEql rfl rfl | exact Still.sNeq rfl rfl | exact Still.sLen rfl rfl | exact Still.sAdd rfl rfl (by omega) (by omega))) (k := ?_)) | (refine RunQ.val_ (h := by (first | exact Still.sEql rfl rfl | exact Still.sNeq rfl rfl | exact Still.sLen rfl rfl | exact Still.sAdd rfl rfl (by omega) (by omega))) (k := ?_)) | (refine RunQ.yes_ (h := by (first | exact Still.sEql rfl rfl | exact Still.sNeq rfl rfl | exact Still.sLen rfl rfl | exact Still.sAdd rfl rfl (by omega) (by omega))) (k := ?_)) | refine go (k := ?_) | (refine goB (k := ?_); intro b) | (refine goA (k := ?_); intro ao cap))
  apply Run.op (by exact rfl)
  refine OpT.makeSlice_ (f := boolc) (iα := inferInstance) (ef := inferInstance) (z := false) (n := m.us.length) (k := ?_)
  intro zb
  repeat (first | (apply Run.op; exact rfl; refine OpT.val_ (h := by (first | exact Still.sEql rfl rfl | exact Still.sNeq rfl rfl | exact Still.sLen rfl rfl | exact Still.sAdd rfl rfl (by omega) (by omega))) (k := ?_)) | (refine Run.yes_ (h := ?_); refine OpT.val_ (h := by (first | exact Still.sEql rfl rfl | exact Still.sNeq rfl rfl | exact Still.sLen rfl rfl | exact Still.sAdd rfl rfl (by omega) (by omega))) (k := ?_)) | (refine RunQ.val_ (h := by (first | exact Still.sEql rfl rfl | exact Still.sNeq rfl rfl | exact Still.sLen rfl rfl | exact Still.sAdd rfl rfl (by omega) (by omega))) (k := ?_)) | (refine RunQ.yes_ (h := by (first | exact Still.sEql rfl rfl | exact Still.sNeq rfl rfl | exact Still.sLen rfl rfl | exact Still.sAdd rfl rfl (by omega) (by omega))) (k := ?_)) | refine go (k := ?_) | (refine goB (k := ?_); intro b) | (refine goA (k := ?_); intro ao cap))
  apply Run.op (by exact rfl)
  refine OpT.storeE_ (f := boolc) (a' := true) (k := ?_)
  repeat (first | (apply Run.op; exact rfl; refine OpT.val_ (h := by (first | exact Still.sEql rfl rfl | exact Still.sNeq rfl rfl | exact Still.sLen rfl rfl | exact Still.sAdd rfl rfl (by omega) (by omega))) (k := ?_)) | (refine Run.yes_ (h := ?_); refine OpT.val_ (h := by (first | exact Still.sEql rfl rfl | exact Still.sNeq rfl rfl | exact Still.sLen rfl rfl | exact Still.sAdd rfl rfl (by omega) (by omega))) (k := ?_)) | (refine RunQ.val_ (h := by (first | exact Still.sEql rfl rfl | exact Still.sNeq rfl rfl | exact Still.sLen rfl rfl | exact Still.sAdd rfl rfl (by omega) (by omega))) (k := ?_)) | (refine RunQ.yes_ (h := by (first | exact Still.sEql rfl rfl | exact Still.sNeq rfl rfl | exact Still.sLen rfl rfl | exact Still.sAdd rfl rfl (by omega) (by omega))) (k := ?_)) | refine go (k := ?_) | (refine goB (k := ?_); intro b) | (refine goA (k := ?_); intro ao cap))
  obtain ⟨mb, rfl⟩ : ∃ x, x = b := ⟨_, rfl⟩
  refine Cod.only ((fun s => [old w S, md m, blk mb [.slice m.bo m.bx.length m.bc, .slice m.uo m.us.length m.uc] 25, arr (some ⟨zb, 0, none⟩) m.us.length m.us.length 4 boolc s.2]) (0, (List.replicate m.us.length false).set task true)) (by (repeat (first | exact Takes.nil | exact Take.head | apply Take.tail | apply Takes.cons))) ?_
  apply Cod.loop (σ := Nat × List Bool) (fun s => s.1 ≤ m.us.length ∧ s.2 = Rf7.in7 m.mdl task s.1) (fun s => [(2, .int .i64 op), (3, .int .i64 a), (4, ptr mb), (9, .slice (some ⟨zb, 0, none⟩) m.us.length m.us.length), (27, .int .i64 (m.us.length : Int)), (28, .int .i64 (s.1 : Int))]) (fun s => [old w S, md m, blk mb [.slice m.bo m.bx.length m.bc, .slice m.uo m.us.length m.uc] 25, arr (some ⟨zb, 0, none⟩) m.us.length m.us.length 4 boolc s.2]) (fun s => m.us.length - s.1) (0, (List.replicate m.us.length false).set task true)
  rotate_left
  exact sb
  exact tks
  intro s hs K1 hK1
  (try conv => rhs; simp only [List.cons_append, List.nil_append])
  rotate_left
  · exact ⟨Nat.zero_le _, by dsimp only; unfold Rf7.in7; rw [hun]⟩
  obtain ⟨x, ins0⟩ := s
  obtain ⟨hx, hi0⟩ := hs
  dsimp only at hx hi0 hK1 ⊢
  have hl0 : ins0.length = m.us.length := by rw [hi0, Rf7.in_len, hun]
  by_cases hxl : x < m.us.length
  · repeat (first | (apply Run.op; exact rfl; refine OpT.val_ (h := by (first | exact Still.sEql rfl rfl | exact Still.sNeq rfl rfl | exact Still.sLen rfl rfl | exact Still.sAdd rfl rfl (by omega) (by omega))) (k := ?_)) | (refine Run.yes_ (h := ?_); refine OpT.val_ (h := by (first | exact Still.sEql rfl rfl | exact Still.sNeq rfl rfl | exact Still.sLen rfl rfl | exact Still.sAdd rfl rfl (by omega) (by omega))) (k := ?_)) | (refine RunQ.val_ (h := by (first | exact Still.sEql rfl rfl | exact Still.sNeq rfl rfl | exact Still.sLen rfl rfl | exact Still.sAdd rfl rfl (by omega) (by omega))) (k := ?_)) | (refine RunQ.yes_ (h := by (first | exact Still.sEql rfl rfl | exact Still.sNeq rfl rfl | exact Still.sLen rfl rfl | exact Still.sAdd rfl rfl (by omega) (by omega))) (k := ?_)) | refine go (k := ?_) | (refine goB (k := ?_); intro b) | (refine goA (k := ?_); intro ao cap))
    refine Cod.only ((fun s => [old w S, md m, blk mb [.slice m.bo m.bx.length m.bc, .slice m.uo m.us.length m.uc] 25, arr (some ⟨zb, 0, none⟩) m.us.length m.us.length 4 boolc s.2]) (0, ins0)) (by (repeat (first | exact Takes.nil | exact Take.head | apply Take.tail | apply Takes.cons))) ?_
    apply Cod.loop (σ := Nat × List Bool) (fun s => s.1 ≤ m.us.length ∧ s.2 = (List.range s.1).foldl (Rf7.marks7 m.mdl) ins0) (fun s => [(2, .int .i64 op), (3, .int .i64 a), (4, ptr mb), (9, .slice (some ⟨zb, 0, none⟩) m.us.length m.us.length), (27, .int .i64 (m.us.length : Int)), (28, .int .i64 (x : Int)), (31, .slice m.uo m.us.length m.uc), (32, .int .i64 (m.us.length : Int)), (33, .int .i64 (s.1 : Int))]) (fun s => [old w S, md m, blk mb [.slice m.bo m.bx.length m.bc, .slice m.uo m.us.length m.uc] 25, arr (some ⟨zb, 0, none⟩) m.us.length m.us.length 4 boolc s.2]) (fun s => m.us.length - s.1) (0, ins0)
    rotate_left
    exact sb
    exact tks
    intro s hs K2 hK2
    (try conv => rhs; simp only [List.cons_append, List.nil_append])
    rotate_left
    · exact ⟨Nat.zero_le _, rfl⟩
    obtain ⟨k, ins1⟩ := s
    obtain ⟨hk, hi1⟩ := hs
    dsimp only at hk hi1 hK2 ⊢
    have hl1 : ins1.length = m.us.length := by rw [hi1, marks_len, hl0]
    by_cases hkl : k < m.us.length
    · have hc4 := hcl k hkl
      repeat (first | (apply Run.op; exact rfl; refine OpT.val_ (h := by (first | exact Still.sEql rfl rfl | exact Still.sNeq rfl rfl | exact Still.sLen rfl rfl | exact Still.sAdd rfl rfl (by omega) (by omega))) (k := ?_)) | (refine Run.yes_ (h := ?_); refine OpT.val_ (h := by (first | exact Still.sEql rfl rfl | exact Still.sNeq rfl rfl | exact Still.sLen rfl rfl | exact Still.sAdd rfl rfl (by omega) (by omega))) (k := ?_)) | (refine RunQ.val_ (h := by (first | exact Still.sEql rfl rfl | exact Still.sNeq rfl rfl | exact Still.sLen rfl rfl | exact Still.sAdd rfl rfl (by omega) (by omega))) (k := ?_)) | (refine RunQ.yes_ (h := by (first | exact Still.sEql rfl rfl | exact Still.sNeq rfl rfl | exact Still.sLen rfl rfl | exact Still.sAdd rfl rfl (by omega) (by omega))) (k := ?_)) | refine go (k := ?_) | (refine goB (k := ?_); intro b) | (refine goA (k := ?_); intro ao cap))
      obtain ⟨ub, rfl⟩ : ∃ x, x = b := ⟨_, rfl⟩
      refine Cod.only ((fun s => [old w S, md m, blk mb [.slice m.bo m.bx.length m.bc, .slice m.uo m.us.length m.uc] 25, blk ub (ucell (m.us.getD k default)) 38, arr (some ⟨zb, 0, none⟩) m.us.length m.us.length 4 boolc s.2]) (0, ins1)) (by (repeat (first | exact Takes.nil | exact Take.head | apply Take.tail | apply Takes.cons))) ?_
      apply Cod.loop (σ := Nat × List Bool) (fun s => s.1 ≤ (m.us.getD k default).u.code.length ∧ s.2 = ((m.us.getD k default).u.code.take s.1).foldl (Rf7.mark7 k) ins1) (fun s => [(2, .int .i64 op), (3, .int .i64 a), (4, ptr mb), (9, .slice (some ⟨zb, 0, none⟩) m.us.length m.us.length), (10, .int .i64 (k : Int)), (11, ptr ub), (27, .int .i64 (m.us.length : Int)), (28, .int .i64 (x : Int)), (31, .slice m.uo m.us.length m.uc), (32, .int .i64 (m.us.length : Int)), (33, .int .i64 (k : Int)), (39, .slice (m.us.getD k default).co (m.us.getD k default).u.code.length (m.us.getD k default).cc), (40, .int .i64 ((m.us.getD k default).u.code.length : Int)), (41, .int .i64 (s.1 : Int))]) (fun s => [old w S, md m, blk mb [.slice m.bo m.bx.length m.bc, .slice m.uo m.us.length m.uc] 25, blk ub (ucell (m.us.getD k default)) 38, arr (some ⟨zb, 0, none⟩) m.us.length m.us.length 4 boolc s.2]) (fun s => (m.us.getD k default).u.code.length - s.1) (0, ins1)
      rotate_left
      exact sb
      exact tks
      intro s hs K3 hK3
      (try conv => rhs; simp only [List.cons_append, List.nil_append])
      rotate_left
      · exact ⟨Nat.zero_le _, rfl⟩
      obtain ⟨j, ins⟩ := s
      obtain ⟨hj, hi2⟩ := hs
      dsimp only at hj hi2 hK3 ⊢
      have hl2 : ins.length = m.us.length := by rw [hi2, mark_len, hl1]
      by_cases hjl : j < (m.us.getD k default).u.code.length
      · have hft := fold_take (k := k) hjl ins1
        rw [← hi2] at hft
        have hia := hcalls k hkl _ (show (m.us.getD k default).u.code.getD j default ∈ (m.mdl.units.getD k default).code by rw [ML.unit_at]; exact getD_mem hjl)
        unfold Rf7.mark7 at hft
        have hdf : ins.getD k false = ins.getD k default := rfl
        rw [hdf] at hft
        cases hb : ins.getD k default with
        | false =>
          rw [hb, if_neg (fun h => by cases h.1)] at hft
          repeat (first | (apply Run.op; exact rfl; refine OpT.val_ (h := by (first | exact Still.sEql rfl rfl | exact Still.sNeq rfl rfl | exact Still.sLen rfl rfl | exact Still.sAdd rfl rfl (by omega) (by omega))) (k := ?_)) | (refine Run.yes_ (h := ?_); refine OpT.val_ (h := by (first | exact Still.sEql rfl rfl | exact Still.sNeq rfl rfl | exact Still.sLen rfl rfl | exact Still.sAdd rfl rfl (by omega) (by omega))) (k := ?_)) | (refine RunQ.val_ (h := by (first | exact Still.sEql rfl rfl | exact Still.sNeq rfl rfl | exact Still.sLen rfl rfl | exact Still.sAdd rfl rfl (by omega) (by omega))) (k := ?_)) | (refine RunQ.yes_ (h := by (first | exact Still.sEql rfl rfl | exact Still.sNeq rfl rfl | exact Still.sLen rfl rfl | exact Still.sAdd rfl rfl (by omega) (by omega))) (k := ?_)) | refine go (k := ?_) | (refine goB (k := ?_); intro b) | (refine goA (k := ?_); intro ao cap))
          refine End.round0_ hK3 (j + 1, ins) ?_ ?_
          · exact ⟨by dsimp only; omega, hft.symm⟩
          · dsimp only; omega
        | true =>
          by_cases o23 : ((m.us.getD k default).u.code.getD j default).op = 23
          · rw [if_pos ⟨hb, .inl o23⟩] at hft
            obtain ⟨a1, ha1⟩ := Int.eq_ofNat_of_zero_le (hia (.inl o23)).1
            have ha2 := (hia (.inl o23)).2
            rw [ha1] at ha2 hft
            repeat (first | (apply Run.op; exact rfl; refine OpT.val_ (h := by (first | exact Still.sEql rfl rfl | exact Still.sNeq rfl rfl | exact Still.sLen rfl rfl | exact Still.sAdd rfl rfl (by omega) (by omega))) (k := ?_)) | (refine Run.yes_ (h := ?_); refine OpT.val_ (h := by (first | exact Still.sEql rfl rfl | exact Still.sNeq rfl rfl | exact Still.sLen rfl rfl | exact Still.sAdd rfl rfl (by omega) (by omega))) (k := ?_)) | (refine RunQ.val_ (h := by (first | exact Still.sEql rfl rfl | exact Still.sNeq rfl rfl | exact Still.sLen rfl rfl | exact Still.sAdd rfl rfl (by omega) (by omega))) (k := ?_)) | (refine RunQ.yes_ (h := by (first | exact Still.sEql rfl rfl | exact Still.sNeq rfl rfl | exact Still.sLen rfl rfl | exact Still.sAdd rfl rfl (by omega) (by omega))) (k := ?_)) | refine go (k := ?_) | (refine goB (k := ?_); intro b) | (refine goA (k := ?_); intro ao cap))
            rw [ha1]
            repeat (first | (apply Run.op; exact rfl; refine OpT.val_ (h := by (first | exact Still.sEql rfl rfl | exact Still.sNeq rfl rfl | exact Still.sLen rfl rfl | exact Still.sAdd rfl rfl (by omega) (by omega))) (k := ?_)) | (refine Run.yes_ (h := ?_); refine OpT.val_ (h := by (first | exact Still.sEql rfl rfl | exact Still.sNeq rfl rfl | exact Still.sLen rfl rfl | exact Still.sAdd rfl rfl (by omega) (by omega))) (k := ?_)) | (refine RunQ.val_ (h := by (first | exact Still.sEql rfl rfl | exact Still.sNeq rfl rfl | exact Still.sLen rfl rfl | exact Still.sAdd rfl rfl (by omega) (by omega))) (k := ?_)) | (refine RunQ.yes_ (h := by (first | exact Still.sEql rfl rfl | exact Still.sNeq rfl rfl | exact Still.sLen rfl rfl | exact Still.sAdd rfl rfl (by omega) (by omega))) (k := ?_)) | refine go (k := ?_) | (refine goB (k := ?_); intro b) | (refine goA (k := ?_); intro ao cap))
            apply Run.op (by exact rfl)
            refine OpT.storeE_ (f := boolc) (a' := true) (k := ?_)
            repeat (first | (apply Run.op; exact rfl; refine OpT.val_ (h := by (first | exact Still.sEql rfl rfl | exact Still.sNeq rfl rfl | exact Still.sLen rfl rfl | exact Still.sAdd rfl rfl (by omega) (by omega))) (k := ?_)) | (refine Run.yes_ (h := ?_); refine OpT.val_ (h := by (first | exact Still.sEql rfl rfl | exact Still.sNeq rfl rfl | exact Still.sLen rfl rfl | exact Still.sAdd rfl rfl (by omega) (by omega))) (k := ?_)) | (refine RunQ.val_ (h := by (first | exact Still.sEql rfl rfl | exact Still.sNeq rfl rfl | exact Still.sLen rfl rfl | exact Still.sAdd rfl rfl (by omega) (by omega))) (k := ?_)) | (refine RunQ.yes_ (h := by (first | exact Still.sEql rfl rfl | exact Still.sNeq rfl rfl | exact Still.sLen rfl rfl | exact Still.sAdd rfl rfl (by omega) (by omega))) (k := ?_)) | refine go (k := ?_) | (refine goB (k := ?_); intro b) | (refine goA (k := ?_); intro ao cap))
            refine End.round0_ hK3 (j + 1, ins.set (a1 : Int).toNat true) ?_ ?_
            · exact ⟨by dsimp only; omega, hft.symm⟩
            · dsimp only; omega
          by_cases o29 : ((m.us.getD k default).u.code.getD j default).op = 29
          · rw [if_pos ⟨hb, .inr o29⟩] at hft
            obtain ⟨a1, ha1⟩ := Int.eq_ofNat_of_zero_le (hia (.inr o29)).1
            have ha2 := (hia (.inr o29)).2
            rw [ha1] at ha2 hft
            repeat (first | (apply Run.op; exact rfl; refine OpT.val_ (h := by (first | exact Still.sEql rfl rfl | exact Still.sNeq rfl rfl | exact Still.sLen rfl rfl | exact Still.sAdd rfl rfl (by omega) (by omega))) (k := ?_)) | (refine Run.yes_ (h := ?_); refine OpT.val_ (h := by (first | exact Still.sEql rfl rfl | exact Still.sNeq rfl rfl | exact Still.sLen rfl rfl | exact Still.sAdd rfl rfl (by omega) (by omega))) (k := ?_)) | (refine RunQ.val_ (h := by (first | exact Still.sEql rfl rfl | exact Still.sNeq rfl rfl | exact Still.sLen rfl rfl | exact Still.sAdd rfl rfl (by omega) (by omega))) (k := ?_)) | (refine RunQ.yes_ (h := by (first | exact Still.sEql rfl rfl | exact Still.sNeq rfl rfl | exact Still.sLen rfl rfl | exact Still.sAdd rfl rfl (by omega) (by omega))) (k := ?_)) | refine go (k := ?_) | (refine goB (k := ?_); intro b) | (refine goA (k := ?_); intro ao cap))
            rw [ha1]
            repeat (first | (apply Run.op; exact rfl; refine OpT.val_ (h := by (first | exact Still.sEql rfl rfl | exact Still.sNeq rfl rfl | exact Still.sLen rfl rfl | exact Still.sAdd rfl rfl (by omega) (by omega))) (k := ?_)) | (refine Run.yes_ (h := ?_); refine OpT.val_ (h := by (first | exact Still.sEql rfl rfl | exact Still.sNeq rfl rfl | exact Still.sLen rfl rfl | exact Still.sAdd rfl rfl (by omega) (by omega))) (k := ?_)) | (refine RunQ.val_ (h := by (first | exact Still.sEql rfl rfl | exact Still.sNeq rfl rfl | exact Still.sLen rfl rfl | exact Still.sAdd rfl rfl (by omega) (by omega))) (k := ?_)) | (refine RunQ.yes_ (h := by (first | exact Still.sEql rfl rfl | exact Still.sNeq rfl rfl | exact Still.sLen rfl rfl | exact Still.sAdd rfl rfl (by omega) (by omega))) (k := ?_)) | refine go (k := ?_) | (refine goB (k := ?_); intro b) | (refine goA (k := ?_); intro ao cap))
            apply Run.op (by exact rfl)
            refine OpT.storeE_ (f := boolc) (a' := true) (k := ?_)
            repeat (first | (apply Run.op; exact rfl; refine OpT.val_ (h := by (first | exact Still.sEql rfl rfl | exact Still.sNeq rfl rfl | exact Still.sLen rfl rfl | exact Still.sAdd rfl rfl (by omega) (by omega))) (k := ?_)) | (refine Run.yes_ (h := ?_); refine OpT.val_ (h := by (first | exact Still.sEql rfl rfl | exact Still.sNeq rfl rfl | exact Still.sLen rfl rfl | exact Still.sAdd rfl rfl (by omega) (by omega))) (k := ?_)) | (refine RunQ.val_ (h := by (first | exact Still.sEql rfl rfl | exact Still.sNeq rfl rfl | exact Still.sLen rfl rfl | exact Still.sAdd rfl rfl (by omega) (by omega))) (k := ?_)) | (refine RunQ.yes_ (h := by (first | exact Still.sEql rfl rfl | exact Still.sNeq rfl rfl | exact Still.sLen rfl rfl | exact Still.sAdd rfl rfl (by omega) (by omega))) (k := ?_)) | refine go (k := ?_) | (refine goB (k := ?_); intro b) | (refine goA (k := ?_); intro ao cap))
            refine End.round0_ hK3 (j + 1, ins.set (a1 : Int).toNat true) ?_ ?_
            · exact ⟨by dsimp only; omega, hft.symm⟩
            · dsimp only; omega
          rw [if_neg (fun h => h.2.elim o23 o29)] at hft
          repeat (first | (apply Run.op; exact rfl; refine OpT.val_ (h := by (first | exact Still.sEql rfl rfl | exact Still.sNeq rfl rfl | exact Still.sLen rfl rfl | exact Still.sAdd rfl rfl (by omega) (by omega))) (k := ?_)) | (refine Run.yes_ (h := ?_); refine OpT.val_ (h := by (first | exact Still.sEql rfl rfl | exact Still.sNeq rfl rfl | exact Still.sLen rfl rfl | exact Still.sAdd rfl rfl (by omega) (by omega))) (k := ?_)) | (refine RunQ.val_ (h := by (first | exact Still.sEql rfl rfl | exact Still.sNeq rfl rfl | exact Still.sLen rfl rfl | exact Still.sAdd rfl rfl (by omega) (by omega))) (k := ?_)) | (refine RunQ.yes_ (h := by (first | exact Still.sEql rfl rfl | exact Still.sNeq rfl rfl | exact Still.sLen rfl rfl | exact Still.sAdd rfl rfl (by omega) (by omega))) (k := ?_)) | refine go (k := ?_) | (refine goB (k := ?_); intro b) | (refine goA (k := ?_); intro ao cap))
          refine End.round0_ hK3 (j + 1, ins) ?_ ?_
          · exact ⟨by dsimp only; omega, hft.symm⟩
          · dsimp only; omega
      · rw [List.take_of_length_le (by omega)] at hi2
        repeat (first | (apply Run.op; exact rfl; refine OpT.val_ (h := by (first | exact Still.sEql rfl rfl | exact Still.sNeq rfl rfl | exact Still.sLen rfl rfl | exact Still.sAdd rfl rfl (by omega) (by omega))) (k := ?_)) | (refine Run.yes_ (h := ?_); refine OpT.val_ (h := by (first | exact Still.sEql rfl rfl | exact Still.sNeq rfl rfl | exact Still.sLen rfl rfl | exact Still.sAdd rfl rfl (by omega) (by omega))) (k := ?_)) | (refine RunQ.val_ (h := by (first | exact Still.sEql rfl rfl | exact Still.sNeq rfl rfl | exact Still.sLen rfl rfl | exact Still.sAdd rfl rfl (by omega) (by omega))) (k := ?_)) | (refine RunQ.yes_ (h := by (first | exact Still.sEql rfl rfl | exact Still.sNeq rfl rfl | exact Still.sLen rfl rfl | exact Still.sAdd rfl rfl (by omega) (by omega))) (k := ?_)) | refine go (k := ?_) | (refine goB (k := ?_); intro b) | (refine goA (k := ?_); intro ao cap))
        refine End.round0_ hK2 (k + 1, ins) ?_ ?_
        · exact ⟨by dsimp only; omega, by dsimp only; rw [fold_range, ← hi1, hi2]; unfold Rf7.marks7; rw [ML.unit_at]⟩
        · dsimp only; omega
    · obtain rfl : k = m.us.length := by omega
      repeat (first | (apply Run.op; exact rfl; refine OpT.val_ (h := by (first | exact Still.sEql rfl rfl | exact Still.sNeq rfl rfl | exact Still.sLen rfl rfl | exact Still.sAdd rfl rfl (by omega) (by omega))) (k := ?_)) | (refine Run.yes_ (h := ?_); refine OpT.val_ (h := by (first | exact Still.sEql rfl rfl | exact Still.sNeq rfl rfl | exact Still.sLen rfl rfl | exact Still.sAdd rfl rfl (by omega) (by omega))) (k := ?_)) | (refine RunQ.val_ (h := by (first | exact Still.sEql rfl rfl | exact Still.sNeq rfl rfl | exact Still.sLen rfl rfl | exact Still.sAdd rfl rfl (by omega) (by omega))) (k := ?_)) | (refine RunQ.yes_ (h := by (first | exact Still.sEql rfl rfl | exact Still.sNeq rfl rfl | exact Still.sLen rfl rfl | exact Still.sAdd rfl rfl (by omega) (by omega))) (k := ?_)) | refine go (k := ?_) | (refine goB (k := ?_); intro b) | (refine goA (k := ?_); intro ao cap))
      refine End.round0_ hK1 (x + 1, ins1) ?_ ?_
      · exact ⟨by dsimp only; omega, by dsimp only; rw [in7_succ, hun, ← hi0]; exact hi1⟩
      · dsimp only; omega
  obtain rfl : x = m.us.length := by omega
  clear hK1
  have hWd : W = ((List.range m.us.length).drop 0).any fun k => (m.mdl.units.getD k default).code.any fun i => ins0.getD k false && (decide (i.op = op) && decide (i.a = a)) := by
    rw [hW, hi0]; unfold Rf7.comes7; rw [hun]; rfl
  repeat (first | (apply Run.op; exact rfl; refine OpT.val_ (h := by (first | exact Still.sEql rfl rfl | exact Still.sNeq rfl rfl | exact Still.sLen rfl rfl | exact Still.sAdd rfl rfl (by omega) (by omega))) (k := ?_)) | (refine Run.yes_ (h := ?_); refine OpT.val_ (h := by (first | exact Still.sEql rfl rfl | exact Still.sNeq rfl rfl | exact Still.sLen rfl rfl | exact Still.sAdd rfl rfl (by omega) (by omega))) (k := ?_)) | (refine RunQ.val_ (h := by (first | exact Still.sEql rfl rfl | exact Still.sNeq rfl rfl | exact Still.sLen rfl rfl | exact Still.sAdd rfl rfl (by omega) (by omega))) (k := ?_)) | (refine RunQ.yes_ (h := by (first | exact Still.sEql rfl rfl | exact Still.sNeq rfl rfl | exact Still.sLen rfl rfl | exact Still.sAdd rfl rfl (by omega) (by omega))) (k := ?_)) | refine go (k := ?_) | (refine goB (k := ?_); intro b) | (refine goA (k := ?_); intro ao cap))
  refine Cod.only ((fun s => [old w S, md m, blk mb [.slice m.bo m.bx.length m.bc, .slice m.uo m.us.length m.uc] 25, arr (some ⟨zb, 0, none⟩) m.us.length m.us.length 4 boolc ins0]) 0) (by (repeat (first | exact Takes.nil | exact Take.head | apply Take.tail | apply Takes.cons))) ?_
  apply Cod.loop (σ := Nat) (fun s => s ≤ m.us.length ∧ W = ((List.range m.us.length).drop s).any fun k => (m.mdl.units.getD k default).code.any fun i => ins0.getD k false && (decide (i.op = op) && decide (i.a = a))) (fun s => [(2, .int .i64 op), (3, .int .i64 a), (4, ptr mb), (9, .slice (some ⟨zb, 0, none⟩) m.us.length m.us.length), (67, .slice m.uo m.us.length m.uc), (68, .int .i64 (m.us.length : Int)), (69, .int .i64 (s : Int))]) (fun s => [old w S, md m, blk mb [.slice m.bo m.bx.length m.bc, .slice m.uo m.us.length m.uc] 25, arr (some ⟨zb, 0, none⟩) m.us.length m.us.length 4 boolc ins0]) (fun s => m.us.length - s) 0
  rotate_left
  exact sb
  exact tks
  intro k hk K4 hK4
  (try conv => rhs; simp only [List.cons_append, List.nil_append])
  rotate_left
  · exact ⟨Nat.zero_le _, hWd⟩
  obtain ⟨hk, hWk⟩ := hk
  by_cases hkl : k < m.us.length
  · rw [drop_range hkl, List.any_cons, ML.unit_at] at hWk
    have hc4 := hcl k hkl
    obtain ⟨V, hV⟩ : ∃ V, V = ((List.range m.us.length).drop (k + 1)).any fun k => (m.mdl.units.getD k default).code.any fun i => ins0.getD k false && (decide (i.op = op) && decide (i.a = a)) := ⟨_, rfl⟩
    rw [← hV] at hWk
    repeat (first | (apply Run.op; exact rfl; refine OpT.val_ (h := by (first | exact Still.sEql rfl rfl | exact Still.sNeq rfl rfl | exact Still.sLen rfl rfl | exact Still.sAdd rfl rfl (by omega) (by omega))) (k := ?_)) | (refine Run.yes_ (h := ?_); refine OpT.val_ (h := by (first | exact Still.sEql rfl rfl | exact Still.sNeq rfl rfl | exact Still.sLen rfl rfl | exact Still.sAdd rfl rfl (by omega) (by omega))) (k := ?_)) | (refine RunQ.val_ (h := by (first | exact Still.sEql rfl rfl | exact Still.sNeq rfl rfl | exact Still.sLen rfl rfl | exact Still.sAdd rfl rfl (by omega) (by omega))) (k := ?_)) | (refine RunQ.yes_ (h := by (first | exact Still.sEql rfl rfl | exact Still.sNeq rfl rfl | exact Still.sLen rfl rfl | exact Still.sAdd rfl rfl (by omega) (by omega))) (k := ?_)) | refine go (k := ?_) | (refine goB (k := ?_); intro b) | (refine goA (k := ?_); intro ao cap))
    obtain ⟨ub, rfl⟩ : ∃ x, x = b := ⟨_, rfl⟩
    refine Cod.only ((fun s => [old w S, md m, blk mb [.slice m.bo m.bx.length m.bc, .slice m.uo m.us.length m.uc] 25, arr (some ⟨zb, 0, none⟩) m.us.length m.us.length 4 boolc ins0]) 0) (by (repeat (first | exact Takes.nil | exact Take.head | apply Take.tail | apply Takes.cons))) ?_
    apply Cod.loop (σ := Nat) (fun s => s ≤ (m.us.getD k default).u.code.length ∧ W = ((((m.us.getD k default).u.code.drop s).any fun i => ins0.getD k false && (decide (i.op = op) && decide (i.a = a))) || V)) (fun s => [(2, .int .i64 op), (3, .int .i64 a), (4, ptr mb), (9, .slice (some ⟨zb, 0, none⟩) m.us.length m.us.length), (14, .int .i64 (k : Int)), (67, .slice m.uo m.us.length m.uc), (68, .int .i64 (m.us.length : Int)), (69, .int .i64 (k : Int)), (75, .slice (m.us.getD k default).co (m.us.getD k default).u.code.length (m.us.getD k default).cc), (76, .int .i64 ((m.us.getD k default).u.code.length : Int)), (77, .int .i64 (s : Int))]) (fun s => [old w S, md m, blk mb [.slice m.bo m.bx.length m.bc, .slice m.uo m.us.length m.uc] 25, arr (some ⟨zb, 0, none⟩) m.us.length m.us.length 4 boolc ins0]) (fun s => (m.us.getD k default).u.code.length - s) 0
    rotate_left
    exact sb
    exact tks
    intro j hj K5 hK5
    (try conv => rhs; simp only [List.cons_append, List.nil_append])
    rotate_left
    · exact ⟨Nat.zero_le _, hWk⟩
    obtain ⟨hj, hWj⟩ := hj
    by_cases hjl : j < (m.us.getD k default).u.code.length
    · rw [drop_cons hjl, List.any_cons] at hWj
      have hdf : ins0.getD k false = ins0.getD k default := rfl
      rw [hdf] at hWj
      cases hb : ins0.getD k default with
      | false =>
        rw [hb] at hWj
        simp only [Bool.false_and, Bool.false_or] at hWj
        repeat (first | (apply Run.op; exact rfl; refine OpT.val_ (h := by (first | exact Still.sEql rfl rfl | exact Still.sNeq rfl rfl | exact Still.sLen rfl rfl | exact Still.sAdd rfl rfl (by omega) (by omega))) (k := ?_)) | (refine Run.yes_ (h := ?_); refine OpT.val_ (h := by (first | exact Still.sEql rfl rfl | exact Still.sNeq rfl rfl | exact Still.sLen rfl rfl | exact Still.sAdd rfl rfl (by omega) (by omega))) (k := ?_)) | (refine RunQ.val_ (h := by (first | exact Still.sEql rfl rfl | exact Still.sNeq rfl rfl | exact Still.sLen rfl rfl | exact Still.sAdd rfl rfl (by omega) (by omega))) (k := ?_)) | (refine RunQ.yes_ (h := by (first | exact Still.sEql rfl rfl | exact Still.sNeq rfl rfl | exact Still.sLen rfl rfl | exact Still.sAdd rfl rfl (by omega) (by omega))) (k := ?_)) | refine go (k := ?_) | (refine goB (k := ?_); intro b) | (refine goA (k := ?_); intro ao cap))
        refine End.round0_ hK5 (j + 1) ?_ ?_
        · exact ⟨by omega, by rw [hdf, hb]; simpa using hWj⟩
        · omega
      | true =>
        by_cases o1 : ((m.us.getD k default).u.code.getD j default).op = op
        · by_cases o2 : ((m.us.getD k default).u.code.getD j default).a = a
          · have hWt : W = true := by rw [hWj, hb, decide_eq_true o1, decide_eq_true o2]; rfl
            subst hWt
            repeat (first | (apply Run.op; exact rfl; refine OpT.val_ (h := by (first | exact Still.sEql rfl rfl | exact Still.sNeq rfl rfl | exact Still.sLen rfl rfl | exact Still.sAdd rfl rfl (by omega) (by omega))) (k := ?_)) | (refine Run.yes_ (h := ?_); refine OpT.val_ (h := by (first | exact Still.sEql rfl rfl | exact Still.sNeq rfl rfl | exact Still.sLen rfl rfl | exact Still.sAdd rfl rfl (by omega) (by omega))) (k := ?_)) | (refine RunQ.val_ (h := by (first | exact Still.sEql rfl rfl | exact Still.sNeq rfl rfl | exact Still.sLen rfl rfl | exact Still.sAdd rfl rfl (by omega) (by omega))) (k := ?_)) | (refine RunQ.yes_ (h := by (first | exact Still.sEql rfl rfl | exact Still.sNeq rfl rfl | exact Still.sLen rfl rfl | exact Still.sAdd rfl rfl (by omega) (by omega))) (k := ?_)) | refine go (k := ?_) | (refine goB (k := ?_); intro b) | (refine goA (k := ?_); intro ao cap))
            (refine End.done1_ (()) (he := by (first | exact rfl | (refine congrArg (Value.int _) ?_; omega) | (refine congrArg (Value.int _) ?_; dsimp only; omega))) (hp := ?_))
            trivial
          · rw [decide_eq_false o2, Bool.and_false, Bool.and_false, Bool.false_or] at hWj
            repeat (first | (apply Run.op; exact rfl; refine OpT.val_ (h := by (first | exact Still.sEql rfl rfl | exact Still.sNeq rfl rfl | exact Still.sLen rfl rfl | exact Still.sAdd rfl rfl (by omega) (by omega))) (k := ?_)) | (refine Run.yes_ (h := ?_); refine OpT.val_ (h := by (first | exact Still.sEql rfl rfl | exact Still.sNeq rfl rfl | exact Still.sLen rfl rfl | exact Still.sAdd rfl rfl (by omega) (by omega))) (k := ?_)) | (refine RunQ.val_ (h := by (first | exact Still.sEql rfl rfl | exact Still.sNeq rfl rfl | exact Still.sLen rfl rfl | exact Still.sAdd rfl rfl (by omega) (by omega))) (k := ?_)) | (refine RunQ.yes_ (h := by (first | exact Still.sEql rfl rfl | exact Still.sNeq rfl rfl | exact Still.sLen rfl rfl | exact Still.sAdd rfl rfl (by omega) (by omega))) (k := ?_)) | refine go (k := ?_) | (refine goB (k := ?_); intro b) | (refine goA (k := ?_); intro ao cap))
            refine End.round0_ hK5 (j + 1) ?_ ?_
            · exact ⟨by omega, hWj⟩
            · omega
        · rw [decide_eq_false o1, Bool.false_and, Bool.and_false, Bool.false_or] at hWj
          repeat (first | (apply Run.op; exact rfl; refine OpT.val_ (h := by (first | exact Still.sEql rfl rfl | exact Still.sNeq rfl rfl | exact Still.sLen rfl rfl | exact Still.sAdd rfl rfl (by omega) (by omega))) (k := ?_)) | (refine Run.yes_ (h := ?_); refine OpT.val_ (h := by (first | exact Still.sEql rfl rfl | exact Still.sNeq rfl rfl | exact Still.sLen rfl rfl | exact Still.sAdd rfl rfl (by omega) (by omega))) (k := ?_)) | (refine RunQ.val_ (h := by (first | exact Still.sEql rfl rfl | exact Still.sNeq rfl rfl | exact Still.sLen rfl rfl | exact Still.sAdd rfl rfl (by omega) (by omega))) (k := ?_)) | (refine RunQ.yes_ (h := by (first | exact Still.sEql rfl rfl | exact Still.sNeq rfl rfl | exact Still.sLen rfl rfl | exact Still.sAdd rfl rfl (by omega) (by omega))) (k := ?_)) | refine go (k := ?_) | (refine goB (k := ?_); intro b) | (refine goA (k := ?_); intro ao cap))
          refine End.round0_ hK5 (j + 1) ?_ ?_
          · exact ⟨by omega, hWj⟩
          · omega
    · rw [List.drop_of_length_le (by omega), List.any_nil, Bool.false_or, hV] at hWj
      repeat (first | (apply Run.op; exact rfl; refine OpT.val_ (h := by (first | exact Still.sEql rfl rfl | exact Still.sNeq rfl rfl | exact Still.sLen rfl rfl | exact Still.sAdd rfl rfl (by omega) (by omega))) (k := ?_)) | (refine Run.yes_ (h := ?_); refine OpT.val_ (h := by (first | exact Still.sEql rfl rfl | exact Still.sNeq rfl rfl | exact Still.sLen rfl rfl | exact Still.sAdd rfl rfl (by omega) (by omega))) (k := ?_)) | (refine RunQ.val_ (h := by (first | exact Still.sEql rfl rfl | exact Still.sNeq rfl rfl | exact Still.sLen rfl rfl | exact Still.sAdd rfl rfl (by omega) (by omega))) (k := ?_)) | (refine RunQ.yes_ (h := by (first | exact Still.sEql rfl rfl | exact Still.sNeq rfl rfl | exact Still.sLen rfl rfl | exact Still.sAdd rfl rfl (by omega) (by omega))) (k := ?_)) | refine go (k := ?_) | (refine goB (k := ?_); intro b) | (refine goA (k := ?_); intro ao cap))
      refine End.round0_ hK4 (k + 1) ?_ ?_
      · exact ⟨by omega, hWj⟩
      · omega
  · rw [List.drop_of_length_le (by simp; omega), List.any_nil] at hWk
    subst hWk
    repeat (first | (apply Run.op; exact rfl; refine OpT.val_ (h := by (first | exact Still.sEql rfl rfl | exact Still.sNeq rfl rfl | exact Still.sLen rfl rfl | exact Still.sAdd rfl rfl (by omega) (by omega))) (k := ?_)) | (refine Run.yes_ (h := ?_); refine OpT.val_ (h := by (first | exact Still.sEql rfl rfl | exact Still.sNeq rfl rfl | exact Still.sLen rfl rfl | exact Still.sAdd rfl rfl (by omega) (by omega))) (k := ?_)) | (refine RunQ.val_ (h := by (first | exact Still.sEql rfl rfl | exact Still.sNeq rfl rfl | exact Still.sLen rfl rfl | exact Still.sAdd rfl rfl (by omega) (by omega))) (k := ?_)) | (refine RunQ.yes_ (h := by (first | exact Still.sEql rfl rfl | exact Still.sNeq rfl rfl | exact Still.sLen rfl rfl | exact Still.sAdd rfl rfl (by omega) (by omega))) (k := ?_)) | refine go (k := ?_) | (refine goB (k := ?_); intro b) | (refine goA (k := ?_); intro ao cap))
    (refine End.done1_ (()) (he := by (first | exact rfl | (refine congrArg (Value.int _) ?_; omega) | (refine congrArg (Value.int _) ?_; dsimp only; omega))) (hp := ?_))
    trivial
end Go.Proofs.Ytfeajpghabjaaaa.Vw
