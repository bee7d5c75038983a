/- SchedRefused, walked. -/
import Derived.Test.YtjehflelkpacfaaM36
namespace Go.Proofs.Ytjehflelkpacfaa.Vw
open Go.RowKit Go.Proofs.Ytjehflelkpacfaa.Img
set_option linter.unusedVariables false
set_option linter.unusedSimpArgs false
attribute [local irreducible] Run Cod End OpT Still RunQ RunS RunT Fn PutOk
def gdTo (l : List (Int × Int)) (d : List (Int × Nat)) (k : Nat) : List (Int × Int) := Vm.goods (l.take k) (d.take k)
theorem gdTo_succ {l : List (Int × Int)} {d : List (Int × Nat)} {k : Nat} (hk : k < l.length) (hd : k < d.length) : gdTo l d (k + 1) = gdTo l d k ++ if (d.getD k default).1 = 0 then [l.getD k default] else [] := by
  unfold gdTo Vm.goods
  rw [List.take_succ_eq_append_getElem hk, List.take_succ_eq_append_getElem hd, Vm.zip_snoc (by simp; omega), List.filter_append, List.map_append]
  congr 1
  simp only [List.getD_eq_getElem?_getD, List.getElem?_eq_getElem hk, List.getElem?_eq_getElem hd, Option.getD_some]
  by_cases h : (d[k]).1 = 0
  · rw [if_pos h]; simp [h]
  · rw [if_neg h]; simp [h]
theorem gdTo_le (l : List (Int × Int)) (d : List (Int × Nat)) (k : Nat) : (gdTo l d k).length ≤ k := by
  have := Vm.goods_len (l.take k) (d.take k)
  unfold gdTo
  simp at this
  omega
theorem refused_eq (m : ML) (ps : List (Int × Int)) : (Vm.picks m.mdl false (gdTo ps (Vm.picks m.mdl false ps (Vm.Ma.init m.mdl)).1 ps.length) (Vm.Ma.init m.mdl)).2.looked m.mdl = (Vm.picks m.mdl false ps (Vm.Ma.init m.mdl)).2.looked m.mdl := by
  have h := Vm.picks_good (M := m.mdl) (told := false) ps (Vm.Rel.refl (Vm.Ma.init m.mdl))
  have hl := Vm.picks_len m.mdl false ps (Vm.Ma.init m.mdl)
  unfold gdTo
  rw [List.take_length, show List.take ps.length (Vm.picks m.mdl false ps (Vm.Ma.init m.mdl)).1 = (Vm.picks m.mdl false ps (Vm.Ma.init m.mdl)).1 by rw [← hl, List.take_length]]
  exact h.looked.symm
theorem wrong_len {M : ImgM.Mdl} {n n' : Nat} (h : n ≤ 400) (h' : n' ≤ 400) : Vm.wrong M n = Vm.wrong M n' := by
  unfold Vm.wrong
  rw [if_neg (show ¬ 400 < n by omega), if_neg (show ¬ 400 < n' by omega)]
attribute [local irreducible] Ver.verify Vm.wrong Vm.picks gdTo
set_option maxRecDepth 100000 in
set_option maxHeartbeats 2000000 in
theorem refused_is (m : ML) (hwf : m.Wf) (ps : PkL) : Fn Try.prog 5 #[m.val, ps.val] [md m, pkR ps] [] (σ := Unit) (fun _ => True) (fun _ => .bool true) (fun _ => []) := by
  refine Fn.enter (args := [m.val, ps.val]) Try.func5 rfl _ Try.ntmps5 rfl (by simp [md_excl, rd_excl]) (fun w S => ?_)
  (try conv => rhs; simp only [List.cons_append, List.nil_append])
  repeat (first | refine go (k := ?_) | (refine goB (k := ?_); intro b) | (refine goA (k := ?_); intro ao cap))
  obtain ⟨mb, rfl⟩ : ∃ x, x = b := ⟨_, rfl⟩
  (apply Run.op; exact rfl; refine OpT.call0_ (spec := alive10_is) (k := ?_); intro s hs; (try conv => rhs; simp only [List.cons_append, List.nil_append]))
  repeat (first | refine go (k := ?_) | (refine goB (k := ?_); intro b) | (refine goA (k := ?_); intro ao cap))
  ((first | (apply Run.op; exact rfl) | refine Run.yes_ (h := ?_)); refine OpT.call0_ (spec := run_is m hwf ps) (r := (fun w => Reads.md (by (repeat (first | exact Take.head | apply Take.tail))) (Reads.rd (by (repeat (first | exact Take.head | apply Take.tail))) .nil))) (k := ?_); intro s hs; (try conv => rhs; simp only [List.cons_append, List.nil_append]))
  obtain ⟨r, rfl⟩ : ∃ x, x = s := ⟨_, rfl⟩
  obtain ⟨W, hW⟩ : ∃ W, W = Vm.wrong m.mdl ps.l.length := ⟨_, rfl⟩
  unfold RunIs at hs
  rw [← hW] at hs ⊢
  by_cases h0 : ¬ W = 0
  · repeat (first | refine go (k := ?_) | (refine goB (k := ?_); intro b) | (refine goA (k := ?_); intro ao cap))
    (refine End.done1_ (()) (he := by (first | exact rfl | (refine congrArg (Value.int _) ?_; omega) | (refine congrArg (Value.int _) ?_; dsimp only; omega))) (hp := ?_))
    trivial
  have h0 := Classical.not_not.1 h0
  subst h0
  rw [if_pos rfl] at hs
  obtain ⟨hv, hp4⟩ := wrong_zero hW.symm
  have hpl := Vm.picks_len m.mdl false ps.l (Vm.Ma.init m.mdl)
  have href := refused_eq m ps.l
  rw [← hs.l] at hpl href
  have hw1 := hs.w
  rw [← href] at hw1
  clear hs href
  repeat (first | refine go (k := ?_) | (refine goB (k := ?_); intro b) | (refine goA (k := ?_); intro ao cap))
  obtain ⟨wb, rfl⟩ : ∃ x, x = b := ⟨_, rfl⟩
  apply Cod.imp (fun w hm => Mem.nilArr' hm 37 pkC (l := gdTo ps.l r.l 0) (by unfold gdTo; simp [Vm.goods]))
  have hg0 : (gdTo ps.l r.l 0).length = 0 := by have := gdTo_le ps.l r.l 0; omega
  refine Cod.only ((fun z => [old w S, md m, pkR ps, blk mb (mdV m) 25, blk wb r.w.cells 31, arr r.o r.l.length r.c 41 ddC r.l, arr z.2.1 z.2.2.2 z.2.2.1 37 pkC (gdTo ps.l r.l z.1)] ++ r.w.mem) (0, none, 0, 0)) (by (repeat (first | exact Takes.nil | exact Take.head | apply Take.tail | apply Takes.cons))) ?_
  apply Cod.loop (σ := Nat × Option Addr × Nat × Nat) (fun z => z.1 ≤ ps.l.length ∧ z.2.2.2 = (gdTo ps.l r.l z.1).length) (fun z => [(1, ps.val), (2, ptr mb), (5, ptr wb), (6, .slice r.o r.l.length r.c), (8, .slice z.2.1 z.2.2.2 z.2.2.1), (29, ps.val), (30, .int .i64 (ps.l.length : Int)), (31, .int .i64 (z.1 : Int))]) (fun z => [old w S, md m, pkR ps, blk mb (mdV m) 25, blk wb r.w.cells 31, arr r.o r.l.length r.c 41 ddC r.l, arr z.2.1 z.2.2.2 z.2.2.1 37 pkC (gdTo ps.l r.l z.1)] ++ r.w.mem) (fun z => ps.l.length - z.1) (0, none, 0, 0)
  rotate_left
  exact sb
  exact tks
  intro z hz K1 hK1
  (try conv => rhs; simp only [List.cons_append, List.nil_append])
  rotate_left
  · exact ⟨Nat.zero_le _, hg0.symm⟩
  obtain ⟨k, qo, qc, qn⟩ := z
  obtain ⟨hk, hqn⟩ := hz
  dsimp only at hk hqn hK1 ⊢
  have hgl := gdTo_le ps.l r.l k
  by_cases hkn : k < ps.l.length
  · have hsn := gdTo_succ (l := ps.l) (d := r.l) hkn (by omega)
    obtain ⟨p, hp⟩ : ∃ p, p = ps.l.getD k default := ⟨_, rfl⟩
    rw [← hp] at hsn
    by_cases hd : (r.l.getD k default).1 = 0
    · rw [if_pos hd] at hsn
      have hln := congrArg List.length hsn
      rw [List.length_append, List.length_singleton] at hln
      repeat (first | refine go (k := ?_) | (refine goB (k := ?_); intro b) | (refine goA (k := ?_); intro ao cap))
      rw [← hp, ← hsn]
      refine End.round0_ hK1 (k + 1, ao, cap, qn + 1) ?_ ?_
      · exact ⟨by dsimp only; omega, by dsimp only; omega⟩
      · dsimp only; omega
    · rw [if_neg hd, List.append_nil] at hsn
      repeat (first | refine go (k := ?_) | (refine goB (k := ?_); intro b) | (refine goA (k := ?_); intro ao cap))
      rw [← hsn]
      refine End.round0_ hK1 (k + 1, qo, qc, qn) ?_ ?_
      · exact ⟨by dsimp only; omega, by dsimp only; rw [hsn]; exact hqn⟩
      · dsimp only; omega
  · obtain rfl : k = ps.l.length := by omega
    clear hK1
    obtain ⟨G, hG⟩ : ∃ G : PkL, G = ⟨qo, qc, gdTo ps.l r.l ps.l.length⟩ := ⟨_, rfl⟩
    have hGl : gdTo ps.l r.l ps.l.length = G.l := by rw [hG]
    have hGo : qo = G.o := by rw [hG]
    have hGc : qc = G.c := by rw [hG]
    rw [hGl] at hqn hgl hw1 ⊢
    rw [hqn]
    clear hG hGl
    subst hGo hGc
    have hw0 : Vm.wrong m.mdl G.l.length = 0 := by rw [wrong_len (n' := ps.l.length) (by omega) hp4]; exact hW.symm
    have hsp := run_is m hwf G
    rw [hw0] at hsp
    repeat (first | refine go (k := ?_) | (refine goB (k := ?_); intro b) | (refine goA (k := ?_); intro ao cap))
    ((first | (apply Run.op; exact rfl) | refine Run.yes_ (h := ?_)); refine OpT.call0_ (spec := hsp) (r := (fun w => Reads.md (by (repeat (first | exact Take.head | apply Take.tail))) (Reads.arr (by (repeat (first | exact Take.head | apply Take.tail))) .nil))) (k := ?_); intro s hs; (try conv => rhs; simp only [List.cons_append, List.nil_append]))
    obtain ⟨v, rfl⟩ : ∃ x, x = s := ⟨_, rfl⟩
    unfold RunIs at hs
    rw [if_pos hw0] at hs
    have hE := hw1.eq hs.w
    clear hs hw1
    repeat (first | refine go (k := ?_) | (refine goB (k := ?_); intro b) | (refine goA (k := ?_); intro ao cap))
    apply Run.imp' (fun w hm => wo_own r.w (by (repeat (first | exact Takes.nil | exact Take.head | apply Take.tail | apply Takes.cons))) hm)
    apply Run.imp' (fun w hm => wo_own v.w (by (repeat (first | exact Takes.nil | exact Take.head | apply Take.tail | apply Takes.cons))) hm)
    (try conv => rhs; simp only [List.cons_append, List.nil_append])
    ((first | (apply Run.op; exact rfl) | refine Run.yes_ (h := ?_)); refine OpT.call0_ (spec := same10_is r.w v.w hE) (r := (fun w => Reads.any (by (repeat (first | exact Take.head | apply Take.tail))) ed_excl (Reads.any (by (repeat (first | exact Take.head | apply Take.tail))) fd_excl (Reads.any (by (repeat (first | exact Take.head | apply Take.tail))) ed_excl (Reads.any (by (repeat (first | exact Take.head | apply Take.tail))) fd_excl .nil))))) (k := ?_); intro s hs; (try conv => rhs; simp only [List.cons_append, List.nil_append]))
    repeat (first | refine go (k := ?_) | (refine goB (k := ?_); intro b) | (refine goA (k := ?_); intro ao cap))
    (refine End.done1_ (()) (he := by (first | exact rfl | (refine congrArg (Value.int _) ?_; omega) | (refine congrArg (Value.int _) ?_; dsimp only; omega))) (hp := ?_))
    trivial
end Go.Proofs.Ytjehflelkpacfaa.Vw
