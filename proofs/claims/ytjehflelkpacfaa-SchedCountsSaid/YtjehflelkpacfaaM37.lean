/- SchedCounts, walked. -/
import Derived.Test.YtjehflelkpacfaaM36
namespace Go.Proofs.Ytjehflelkpacfaa.Vm
theorem picks_cnt (M : ImgM.Mdl) (told : Bool) : ∀ (l : List (Int × Int)) (c : Ma), (picks M told l c).2.n = c.n + ((picks M told l c).1.map (·.2)).sum
  | [], c => by simp [picks]
  | p :: l, c => by
    simp only [picks, List.map_cons, List.sum_cons]
    rw [picks_cnt M told l]
    have := (pick_cnt (M := M) (told := told) c p).sum
    omega
theorem picks_each (M : ImgM.Mdl) (told : Bool) : ∀ (l : List (Int × Int)) (c : Ma) (k : Nat), k < l.length → (((picks M told l c).1.getD k default).1 = 0 → 1 ≤ ((picks M told l c).1.getD k default).2 ∧ (((picks M told l c).1.getD k default).2 : Int) ≤ (l.getD k default).2) ∧ (((picks M told l c).1.getD k default).1 ≠ 0 → ((picks M told l c).1.getD k default).2 = 0)
  | [], c, k, h => absurd h (Nat.not_lt_zero _)
  | p :: l, c, 0, h => by
    have := pick_cnt (M := M) (told := told) c p
    exact ⟨this.ok, this.no⟩
  | p :: l, c, k + 1, h => by
    have := picks_each M told l (pick M told c p).2 k (by simpa using h)
    simpa only [picks, List.getD_cons_succ] using this
theorem picks_ok {M : ImgM.Mdl} {T : Nat → Int → Option Ver.Shape} (hC : Certs M T) (told : Bool) : ∀ (l : List (Int × Int)) {c : Ma}, c.Ok M T → (picks M told l c).2.Ok M T
  | [], c, h => h
  | p :: l, c, h => picks_ok hC told l (h.pick hC told p)
end Go.Proofs.Ytjehflelkpacfaa.Vm
namespace Go.Proofs.Ytjehflelkpacfaa.Vw
open Go.RowKit Go.Proofs.Ytjehflelkpacfaa.Img
set_option linter.unusedVariables false
set_option linter.unusedSimpArgs false
attribute [local irreducible] Run Cod End OpT Still RunQ RunS RunT Fn PutOk
def sumTo (l : List (Int × Nat)) (k : Nat) : Nat := ((l.take k).map (·.2)).sum
theorem sumTo_succ (l : List (Int × Nat)) {k : Nat} (hk : k < l.length) : sumTo l (k + 1) = sumTo l k + (l.getD k default).2 := by
  unfold sumTo
  rw [List.take_succ_eq_append_getElem hk, List.map_append, List.sum_append, List.getD_eq_getElem?_getD, List.getElem?_eq_getElem hk]
  simp
theorem sum_take_le : ∀ (l : List (Int × Nat)) (k : Nat), sumTo l k ≤ (l.map (·.2)).sum
  | [], k => by simp [sumTo]
  | a :: l, 0 => by simp [sumTo]
  | a :: l, k + 1 => by
    have := sum_take_le l k
    unfold sumTo at this ⊢
    simp only [List.take_succ_cons, List.map_cons, List.sum_cons]
    omega
attribute [local irreducible] Ver.verify Vm.wrong Vm.picks
set_option maxRecDepth 100000 in
set_option maxHeartbeats 2000000 in
theorem counts_is (m : ML) (hwf : m.Wf) (ps : PkL) : Fn Try.prog 4 #[m.val, ps.val] [md m, pkR ps] [] (σ := Unit) (fun _ => True) (fun _ => .bool true) (fun _ => []) := by
  refine Fn.enter (args := [m.val, ps.val]) Try.func4 rfl _ Try.ntmps4 rfl (by simp [md_excl, rd_excl]) (fun w S => ?_)
  (try conv => rhs; simp only [List.cons_append, List.nil_append])
  repeat (first | refine go (k := ?_) | (refine goB (k := ?_); intro b) | (refine goA (k := ?_); intro ao cap))
  obtain ⟨mb, rfl⟩ : ∃ x, x = b := ⟨_, rfl⟩
  (apply Run.op; exact rfl; refine OpT.call0_ (spec := alive10_is) (k := ?_); intro s hs; (try conv => rhs; simp only [List.cons_append, List.nil_append]))
  repeat (first | refine go (k := ?_) | (refine goB (k := ?_); intro b) | (refine goA (k := ?_); intro ao cap))
  ((first | (apply Run.op; exact rfl) | refine Run.yes_ (h := ?_)); refine OpT.call0_ (spec := run_is m hwf ps) (r := (fun w => Reads.md (by (repeat (first | exact Take.head | apply Take.tail))) (Reads.rd (by (repeat (first | exact Take.head | apply Take.tail))) .nil))) (k := ?_); intro s hs; (try conv => rhs; simp only [List.cons_append, List.nil_append]))
  obtain ⟨r, rfl⟩ : ∃ x, x = s := ⟨_, rfl⟩
  obtain ⟨W, hW⟩ : ∃ W, W = Vm.wrong m.mdl ps.l.length := ⟨_, rfl⟩
  unfold RunIs at hs
  rw [← hW] at hs ⊢
  by_cases h0 : ¬ W = 0
  · rw [if_neg h0] at hs
    subst hs
    repeat (first | refine go (k := ?_) | (refine goB (k := ?_); intro b) | (refine goA (k := ?_); intro ao cap))
    (refine End.done1_ (()) (he := by (first | exact rfl | (refine congrArg (Value.int _) ?_; omega) | (refine congrArg (Value.int _) ?_; dsimp only; omega))) (hp := ?_))
    trivial
  have h0 := Classical.not_not.1 h0
  subst h0
  rw [if_pos rfl] at hs
  obtain ⟨hv, hp4⟩ := wrong_zero hW.symm
  obtain ⟨T, hC⟩ := certs_ml hwf hv
  have hok := Vm.picks_ok hC false ps.l (Vm.Ma.Ok.init hC)
  have hcn := Vm.picks_cnt m.mdl false ps.l (Vm.Ma.init m.mdl)
  have hea := Vm.picks_each m.mdl false ps.l (Vm.Ma.init m.mdl)
  have hpl := Vm.picks_len m.mdl false ps.l (Vm.Ma.init m.mdl)
  have hrn : r.w.n = (Vm.picks m.mdl false ps.l (Vm.Ma.init m.mdl)).2.n := hs.w.n
  have hn20 := hok.n
  rw [← hs.l] at hcn hea hpl
  rw [← hrn] at hcn hn20
  have hi0 : (Vm.Ma.init m.mdl).n = 0 := rfl
  have hall : sumTo r.l r.l.length = (r.l.map (·.2)).sum := by unfold sumTo; rw [List.take_length]
  clear hs hok
  rw [hi0, ← hall, Nat.zero_add] at hcn
  repeat (first | refine go (k := ?_) | (refine goB (k := ?_); intro b) | (refine goA (k := ?_); intro ao cap))
  refine Cod.only ((fun k => [old w S, pkR ps, blk b r.w.cells 31, arr r.o r.l.length r.c 41 ddC r.l]) 0) (by (repeat (first | exact Takes.nil | exact Take.head | apply Take.tail | apply Takes.cons))) ?_
  apply Cod.loop (σ := Nat) (fun k => k ≤ r.l.length) (fun k => [(1, ps.val), (5, ptr b), (6, .slice r.o r.l.length r.c), (8, .int .i64 (sumTo r.l k : Int)), (25, .slice r.o r.l.length r.c), (26, .int .i64 (r.l.length : Int)), (27, .int .i64 (k : Int))]) (fun k => [old w S, pkR ps, blk b r.w.cells 31, arr r.o r.l.length r.c 41 ddC r.l]) (fun k => r.l.length - k) 0
  rotate_left
  exact sb
  exact tks
  intro k hk K1 hK1
  (try conv => rhs; simp only [List.cons_append, List.nil_append])
  rotate_left
  · exact Nat.zero_le _
  by_cases hkn : k < r.l.length
  · obtain ⟨g1, g2⟩ := hea k (by omega)
    have hsn := sumTo_succ r.l hkn
    have hle : sumTo r.l (k + 1) ≤ 20000 := by
      have := sum_take_le r.l (k + 1)
      omega
    by_cases hd : (r.l.getD k default).1 = 0
    · obtain ⟨g3, g4⟩ := g1 hd
      clear g1 g2
      repeat (first | refine go (k := ?_) | (refine goB (k := ?_); intro b) | (refine goA (k := ?_); intro ao cap))
      refine End.round0_ hK1 (k + 1) ?_ ?_
      · omega
      · omega
    · have g5 := g2 hd
      clear g1 g2
      repeat (first | refine go (k := ?_) | (refine goB (k := ?_); intro b) | (refine goA (k := ?_); intro ao cap))
      refine End.round0_ hK1 (k + 1) ?_ ?_
      · omega
      · omega
  · obtain rfl : k = r.l.length := by omega
    clear hK1
    repeat (first | refine go (k := ?_) | (refine goB (k := ?_); intro b) | (refine goA (k := ?_); intro ao cap))
    (refine End.done1_ (()) (he := by exact bool_eq (decide_eq_true (by omega))) (hp := ?_))
    trivial
end Go.Proofs.Ytjehflelkpacfaa.Vw
