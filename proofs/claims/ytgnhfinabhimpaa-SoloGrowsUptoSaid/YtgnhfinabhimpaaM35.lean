/- yieldref9's comparisons, walked: of what is alike; a report of one's own becomes one that is only read. -/
import Derived.Test.YtgnhfinabhimpaaM34
import Derived.WalkKit
namespace Go.Proofs.Ytgnhfinabhimpaa.Vw
open Go.RowKit Go.Proofs.Ytgnhfinabhimpaa.Img
set_option linter.unusedVariables false
set_option linter.unusedSimpArgs false
attribute [local irreducible] Run Cod End OpT Still RunQ RunS RunT Fn PutOk
abbrev rdRow (r : Rw) : Chunk := rd r.o r.l.length r.c i64c r.l
set_option maxRecDepth 100000 in
theorem same9_is (a b : Rw) (h : a.l = b.l) : Fn Try.prog 20 #[.slice a.o a.l.length a.c, .slice b.o b.l.length b.c] [rdRow a, rdRow b] [] (σ := Unit) (fun _ => True) (fun _ => .bool true) (fun _ => []) := by
  obtain ⟨ao, ac, l⟩ := a
  obtain ⟨bo, bc, l'⟩ := b
  dsimp only at h ⊢
  subst h
  refine Fn.enter (args := [.slice ao l.length ac, .slice bo l.length bc]) Try.func20 rfl _ Try.ntmps20 rfl (by simp [rd_excl, md_excl]) (fun w S => ?_)
  (try conv => rhs; simp only [List.cons_append, List.nil_append])
  apply Cod.fact (l.length ≤ 9223372036854775807) (fun w hm => (rd_holds.1 (hm.has (c := rd ao l.length ac i64c l) (by (repeat (first | exact Take.head | apply Take.tail))))).1.2.1)
  intro hn
  repeat (first | refine go (k := ?_) | (refine goB (k := ?_); intro b) | (refine goA (k := ?_); intro ao cap))
  refine Cod.only ((fun k => [old w S, rd ao l.length ac i64c l, rd bo l.length bc i64c l]) 0) (by (repeat (first | exact Takes.nil | exact Take.head | apply Take.tail | apply Takes.cons))) ?_
  apply Cod.loop (σ := Nat) (fun k => k ≤ l.length) (fun k => [(0, .slice ao l.length ac), (1, .slice bo l.length bc), (12, .int .i64 (l.length : Int)), (13, .int .i64 (k : Int))]) (fun k => [old w S, rd ao l.length ac i64c l, rd bo l.length bc i64c l]) (fun k => l.length - k) 0
  rotate_left
  exact sb
  exact tks
  intro k hk K1 hK1
  (try conv => rhs; simp only [List.cons_append, List.nil_append])
  rotate_left
  · exact Nat.zero_le _
  by_cases hkn : k < l.length
  · repeat (first | refine go (k := ?_) | (refine goB (k := ?_); intro b) | (refine goA (k := ?_); intro ao cap))
    refine End.round0_ hK1 (k + 1) ?_ ?_
    · omega
    · omega
  · repeat (first | refine go (k := ?_) | (refine goB (k := ?_); intro b) | (refine goA (k := ?_); intro ao cap))
    (refine End.done1_ (()) (he := by (first | exact rfl | (refine congrArg (Value.int _) ?_; omega) | (refine congrArg (Value.int _) ?_; dsimp only; omega))) (hp := ?_))
    trivial
set_option maxRecDepth 100000 in
theorem begins_is (a b : Rw) (h : a.l <+: b.l) : Fn Try.prog 10 #[.slice a.o a.l.length a.c, .slice b.o b.l.length b.c] [rdRow a, rdRow b] [] (σ := Unit) (fun _ => True) (fun _ => .bool true) (fun _ => []) := by
  obtain ⟨a0, ac, l⟩ := a
  obtain ⟨b0, bc, l'⟩ := b
  dsimp only at h ⊢
  have hle := h.length_le
  have ht : l'.take l.length = l := (List.prefix_iff_eq_take.1 h).symm
  refine Fn.enter (args := [.slice a0 l.length ac, .slice b0 l'.length bc]) Try.func10 rfl _ Try.ntmps10 rfl (by simp [rd_excl, md_excl]) (fun w S => ?_)
  (try conv => rhs; simp only [List.cons_append, List.nil_append])
  repeat (first | refine go (k := ?_) | (refine goB (k := ?_); intro b) | (refine goA (k := ?_); intro ao cap))
  rw [ht]
  (first | (apply Run.op; exact rfl) | refine Run.yes_ (h := ?_)); refine OpT.call0_ (spec := same9_is ⟨a0, ac, l⟩ ⟨ao, cap, l⟩ rfl) (k := ?_); intro s hs; (try conv => rhs; simp only [List.cons_append, List.nil_append])
  repeat (first | refine go (k := ?_) | (refine goB (k := ?_); intro b) | (refine goA (k := ?_); intro ao cap))
  (refine End.done1_ (()) (he := by (first | exact rfl | (refine congrArg (Value.int _) ?_; omega) | (refine congrArg (Value.int _) ?_; dsimp only; omega))) (hp := ?_))
  trivial
set_option maxRecDepth 100000 in
theorem sameAll_is (f g : FL) (h : f.ws = g.ws) : Fn Try.prog 21 #[f.val, g.val] [fd f, fd g] [] (σ := Unit) (fun _ => True) (fun _ => .bool true) (fun _ => []) := by
  have hl : g.l.length = f.l.length := by have := congrArg List.length h; simpa using this.symm
  have hr : ∀ k, (g.l.getD k default).l = (f.l.getD k default).l := fun k => by rw [← getD_ws, ← getD_ws, ← (show f.l.map (·.l) = g.l.map (·.l) from h)]
  refine Fn.enter (args := [f.val, g.val]) Try.func21 rfl _ Try.ntmps21 rfl (by simp [fd_excl]) (fun w S => ?_)
  (try conv => rhs; simp only [List.cons_append, List.nil_append])
  apply Cod.fact (f.l.length ≤ 9223372036854775807 ∧ ∀ k, k < f.l.length → (f.l.getD k default).l.length ≤ 9223372036854775807) (fun w hm => (fd_holds.1 (hm.has (by (repeat (first | exact Take.head | apply Take.tail))))).small)
  intro hfs
  apply Cod.imp (fun w hm => Mem.fdOut (f := f) (by (repeat (first | exact Take.head | apply Take.tail))) hm)
  apply Cod.imp (fun w hm => Mem.fdOut (f := g) (by (repeat (first | exact Take.head | apply Take.tail))) hm)
  repeat (first | refine go (k := ?_) | (refine goB (k := ?_); intro b) | (refine goA (k := ?_); intro ao cap))
  refine Cod.only ((fun k => [old w S, fd f, fd g, rd f.o f.l.length f.c rwC f.l, rd g.o g.l.length g.c rwC g.l]) 0) (by (repeat (first | exact Takes.nil | exact Take.head | apply Take.tail | apply Takes.cons))) ?_
  apply Cod.loop (σ := Nat) (fun k => k ≤ f.l.length) (fun k => [(0, f.val), (1, g.val), (12, .int .i64 (f.l.length : Int)), (13, .int .i64 (k : Int))]) (fun k => [old w S, fd f, fd g, rd f.o f.l.length f.c rwC f.l, rd g.o g.l.length g.c rwC g.l]) (fun k => f.l.length - k) 0
  rotate_left
  exact sb
  exact tks
  intro k hk K1 hK1
  (try conv => rhs; simp only [List.cons_append, List.nil_append])
  rotate_left
  · exact Nat.zero_le _
  by_cases hkn : k < f.l.length
  · apply Cod.imp (fun w hm => Mem.fdRow (f := f) (k := k) hkn (by (repeat (first | exact Take.head | apply Take.tail))) hm)
    apply Cod.imp (fun w hm => Mem.fdRow (f := g) (k := k) (by omega) (by (repeat (first | exact Take.head | apply Take.tail))) hm)
    repeat (first | refine go (k := ?_) | (refine goB (k := ?_); intro b) | (refine goA (k := ?_); intro ao cap))
    (apply Run.op; exact rfl; refine OpT.call0_ (spec := same9_is (f.l.getD k default) (g.l.getD k default) (hr k).symm) (k := ?_); intro s hs; (try conv => rhs; simp only [List.cons_append, List.nil_append]))
    repeat (first | refine go (k := ?_) | (refine goB (k := ?_); intro b) | (refine goA (k := ?_); intro ao cap))
    refine End.round0_ hK1 (k + 1) ?_ ?_
    · omega
    · omega
  · repeat (first | refine go (k := ?_) | (refine goB (k := ?_); intro b) | (refine goA (k := ?_); intro ao cap))
    (refine End.done1_ (()) (he := by (first | exact rfl | (refine congrArg (Value.int _) ?_; omega) | (refine congrArg (Value.int _) ?_; dsimp only; omega))) (hp := ?_))
    trivial
/-- a report that is only read -/
def RpL.fl (r : RpL) : FL := ⟨r.so, r.sc, r.sent⟩
abbrev RpL.rds (r : RpL) : List Chunk := [rd r.oo r.out.length r.oc i64c r.out, fd r.fl, rd r.ko r.took.length r.kc natC r.took]
theorem rd_own {w : World} {L F : List Chunk} {α : Type} {iα : Inhabited α} {ao : Option Addr} {n cap : Nat} {e : TypeId} {f : α → List Value} {ef : Enc f} {l : List α} (t : Takes [arr ao n cap e f l] L F) (h : Mem w L) : Mem w (rd ao n cap f l :: F) := by
  have ht := h.takes t
  have a1 := arr_holds.1 (ht.all _ (.head _))
  exact Mem.toRead t h (rd_holds.2 ⟨a1.1.row Enc.pos, a1.2⟩) rd_excl (fun b hb => ⟨_, .head _, arr_foot.2 ⟨(rd_foot.1 hb).1, Nat.lt_of_lt_of_le (rd_foot.1 hb).2 a1.1.le⟩⟩)
theorem fd_own {w : World} {L F : List Chunk} {f : FL} {t : TypeId} {e : TypeId} (tk : Takes [arr f.o f.l.length f.c e rwC f.l, bag (f.l.map (rowM t))] L F) (h : Mem w L) : Mem w (fd f :: F) := by
  have ht := h.takes tk
  have a1 := arr_holds.1 (ht.all _ (.head _))
  have a2 := bag_holds.1 (ht.all _ (.tail _ (.head _)))
  have hrow : ∀ r ∈ f.l, (rowM t r).holds w := fun r hr => a2.1.all _ (List.mem_map.2 ⟨r, hr, rfl⟩)
  refine Mem.toRead tk h (fd_holds.2 ⟨a1.1.row Enc.pos, fun r hr => (arr_holds.1 (hrow r hr)).1.row Enc.pos⟩) fd_excl (fun b hb => ?_)
  rcases fd_foot.1 hb with ⟨h1, h2⟩ | ⟨r, hr, h1, h2⟩
  · exact ⟨_, .head _, arr_foot.2 ⟨h1, Nat.lt_of_lt_of_le h2 a1.1.le⟩⟩
  · exact ⟨_, .tail _ (.head _), bag_foot.2 ⟨_, List.mem_map.2 ⟨r, hr, rfl⟩, arr_foot.2 ⟨h1, Nat.lt_of_lt_of_le h2 (arr_holds.1 (hrow r hr)).1.le⟩⟩⟩
theorem rep_own {w : World} {L F : List Chunk} (r : RpL) (t : Takes r.mem L F) (h : Mem w L) : Mem w (r.rds ++ F) := by
  have h1 : Mem w (r.mem ++ F) := h.takes t
  have h2 := rd_own (α := Int) (ao := r.oo) (n := r.out.length) (cap := r.oc) (e := 2) (f := i64c) (l := r.out) (L := r.mem ++ F) (by exact .cons .head .nil) h1
  have h3 := fd_own (f := r.fl) (t := 2) (e := 38) (by exact .cons (.tail .head) (.cons (.tail .head) .nil)) h2
  have h4 := rd_own (α := Nat) (ao := r.ko) (n := r.took.length) (cap := r.kc) (e := 3) (f := natC) (l := r.took) (by exact .cons (.tail (.tail .head)) .nil) h3
  have p : (rd r.ko r.took.length r.kc natC r.took :: fd r.fl :: rd r.oo r.out.length r.oc i64c r.out :: F).Perm (r.rds ++ F) := by
    simp only [RpL.rds, List.cons_append, List.nil_append]
    exact ((List.Perm.swap _ _ _).trans (List.Perm.cons _ (List.Perm.swap _ _ _))).trans ((List.Perm.swap _ _ _))
  exact h4.perm p
end Go.Proofs.Ytgnhfinabhimpaa.Vw

/- yieldref9.SameReport and yieldlaw9.alive, walked. -/
namespace Go.Proofs.Ytgnhfinabhimpaa.Vw
open Go.RowKit Go.Proofs.Ytgnhfinabhimpaa.Img
set_option linter.unusedVariables false
set_option linter.unusedSimpArgs false
attribute [local irreducible] Run Cod End OpT Still RunQ RunS RunT Fn PutOk
/-- two reports of the same -/
structure RpL.Eq (r s : RpL) : Prop where
  st : r.st = s.st
  bx : r.bx = s.bx
  tr : r.tr = s.tr
  out : r.out = s.out
  sent : r.fl.ws = s.fl.ws
  took : r.took = s.took
  steps : r.steps = s.steps
theorem RpL.Is.eq {r s : RpL} {x : Nat × (Vm.Tk × Vm.Ls)} (h : r.Is x) (k : s.Is x) : r.Eq s :=
  ⟨h.st.trans k.st.symm, h.bx.trans k.bx.symm, h.tr.trans k.tr.symm, h.out.trans k.out.symm, h.sent.trans k.sent.symm, h.took.trans k.took.symm, h.steps.trans k.steps.symm⟩
abbrev RpL.row (r : RpL) : Rw := ⟨r.oo, r.oc, r.out⟩
set_option maxRecDepth 100000 in
set_option maxHeartbeats 1000000 in
theorem sameRep_is (r q : RpL) (h : r.Eq q) : Fn Try.prog 11 #[.agg r.cells.toArray, .agg q.cells.toArray] (r.rds ++ q.rds) [] (σ := Unit) (fun _ => True) (fun _ => .bool true) (fun _ => []) := by
  obtain ⟨e1, e2, e3, e4, e5, e6, e7⟩ := h
  have e8 : q.sent.length = r.sent.length := by have := congrArg List.length e5; simpa [RpL.fl] using this.symm
  have e9 : r.took.length = q.took.length := congrArg List.length e6
  refine Fn.enter (args := [.agg r.cells.toArray, .agg q.cells.toArray]) Try.func11 rfl _ Try.ntmps11 rfl (by simp [fd_excl, rd_excl]) (fun w S => ?_)
  (try conv => rhs; simp only [List.cons_append, List.nil_append])
  apply Cod.fact (r.took.length ≤ 9223372036854775807) (fun w hm => (rd_holds.1 (hm.has (c := rd r.ko r.took.length r.kc natC r.took) (by (repeat (first | exact Take.head | apply Take.tail))))).1.2.1)
  intro h2
  repeat (first | refine go (k := ?_) | (refine goB (k := ?_); intro b) | (refine goA (k := ?_); intro ao cap))
  (first | (apply Run.op; exact rfl) | refine Run.yes_ (h := ?_)); refine OpT.call0_ (spec := same9_is r.row q.row e4) (k := ?_); intro s hs; (try conv => rhs; simp only [List.cons_append, List.nil_append])
  repeat (first | refine go (k := ?_) | (refine goB (k := ?_); intro b) | (refine goA (k := ?_); intro ao cap))
  ((first | (apply Run.op; exact rfl) | refine Run.yes_ (h := ?_)); refine OpT.call0_ (spec := sameAll_is r.fl q.fl e5) (r := (fun w => Reads.any (by (repeat (first | exact Take.head | apply Take.tail))) fd_excl (Reads.any (by (repeat (first | exact Take.head | apply Take.tail))) fd_excl (.nil)))) (k := ?_); intro s hs; (try conv => rhs; simp only [List.cons_append, List.nil_append]))
  repeat (first | refine go (k := ?_) | (refine goB (k := ?_); intro b) | (refine goA (k := ?_); intro ao cap))
  obtain ⟨bb, rfl⟩ : ∃ x, x = b := ⟨_, rfl⟩
  obtain ⟨ba, rfl⟩ : ∃ x, x = b := ⟨_, rfl⟩
  refine Cod.only ((fun k => [old w S, rd r.ko r.took.length r.kc natC r.took, rd q.ko q.took.length q.kc natC q.took, blk ba r.cells 40, blk bb q.cells 40]) 0) (by (repeat (first | exact Takes.nil | exact Take.head | apply Take.tail | apply Takes.cons))) ?_
  apply Cod.loop (σ := Nat) (fun k => k ≤ r.took.length) (fun k => [(2, ptr ba), (3, ptr bb), (59, .int .i64 (r.took.length : Int)), (60, .int .i64 (k : Int))]) (fun k => [old w S, rd r.ko r.took.length r.kc natC r.took, rd q.ko q.took.length q.kc natC q.took, blk ba r.cells 40, blk bb q.cells 40]) (fun k => r.took.length - k) 0
  rotate_left
  exact sb
  exact tks
  intro k hk K1 hK1
  (try conv => rhs; simp only [List.cons_append, List.nil_append])
  rotate_left
  · exact Nat.zero_le _
  by_cases hkn : k < r.took.length
  · have hkk : r.took.getD k default = q.took.getD k default := by rw [e6]
    repeat (first | refine go (k := ?_) | (refine goB (k := ?_); intro b) | (refine goA (k := ?_); intro ao cap))
    refine End.round0_ hK1 (k + 1) ?_ ?_
    · omega
    · omega
  · repeat (first | refine go (k := ?_) | (refine goB (k := ?_); intro b) | (refine goA (k := ?_); intro ao cap))
    (refine End.done1_ (()) (he := by (first | exact rfl | (refine congrArg (Value.int _) ?_; omega) | (refine congrArg (Value.int _) ?_; dsimp only; omega))) (hp := ?_))
    trivial
end Go.Proofs.Ytgnhfinabhimpaa.Vw

/- yieldlaw9.alive's answer, in plain Lean. -/
namespace Go.Proofs.Ytgnhfinabhimpaa.Vm
set_option linter.unusedVariables false
def al9 : List ImgM.Ins := [⟨1, 0, 7⟩, ⟨28, 0, 0⟩, ⟨25, 0, 0⟩]
def al9M : ImgM.Mdl := ⟨[], [⟨4, 0, [], 0, 0, al9⟩]⟩
theorem al9_tasks : tasks al9M = [0] := by decide
theorem al9_err : soloErr al9M 0 [] 9 = 0 := by
  have h : Ver.verify al9M = .ok := by kernel_rfl
  unfold soloErr
  rw [h, al9_tasks]
  rfl
theorem al9_solo : (solo al9M 0 [] 9).1 = 3 ∧ (solo al9M 0 [] 9).2.1.st = 4 ∧ (solo al9M 0 [] 9).2.1.out = [7] := by
  refine ⟨?_, ?_, ?_⟩
  · kernel_rfl
  · kernel_rfl
  · kernel_rfl
end Go.Proofs.Ytgnhfinabhimpaa.Vm

/- Solo's laws, in plain Lean: with more steps a task goes on; with longer feeds it says no less; what is right runs. -/
namespace Go.Proofs.Ytgnhfinabhimpaa.Vm
set_option linter.unusedVariables false
set_option linter.unusedSimpArgs false
set_option linter.unusedSectionVars false
open ImgM Ver Opt
section
variable {ν : Type} {V : Env ν} {M : Mdl}
theorem goN_stop : ∀ (n : Nat) (r : Tk × ν), (goN V M n r).1 < n → ∀ d, goN V M (n + d) r = goN V M n r
  | 0, r, h, d => absurd h (Nat.lt_irrefl 0 |> fun h0 h => absurd h (Nat.not_lt_zero _))
  | n + 1, r, h, d => by
    rw [show n + 1 + d = (n + d) + 1 by omega]
    unfold goN at h ⊢
    by_cases hs : (step V M r).1 = true
    · rw [if_pos hs] at h
      rw [if_pos hs, if_pos hs, goN_stop n _ (by simpa using h) d]
    · rw [if_neg hs, if_neg hs]
theorem goN_add : ∀ (n : Nat) (r : Tk × ν), (goN V M n r).1 = n → ∀ d, goN V M (n + d) r = (n + (goN V M d (goN V M n r).2).1, (goN V M d (goN V M n r).2).2)
  | 0, r, h, d => by simp [goN]
  | n + 1, r, h, d => by
    rw [show n + 1 + d = (n + d) + 1 by omega]
    by_cases hs : (step V M r).1 = true
    · have h2 : (goN V M n (step V M r).2).1 = n := by
        unfold goN at h
        rw [if_pos hs] at h
        simpa using h
      have e1 : goN V M (n + 1) r = ((goN V M n (step V M r).2).1 + 1, (goN V M n (step V M r).2).2) := by
        rw [goN, if_pos hs]
      have e2 : goN V M (n + d + 1) r = ((goN V M (n + d) (step V M r).2).1 + 1, (goN V M (n + d) (step V M r).2).2) := by
        rw [goN, if_pos hs]
      rw [e1, e2, goN_add n _ h2 d]
      refine Prod.ext ?_ rfl
      dsimp only
      omega
    · unfold goN at h
      rw [if_neg hs] at h
      simp at h
/-- what is looked at stays so -/
theorem step_looked (r : Tk × ν) : look V M (step V M r).2 = (step V M r).2 := by
  by_cases h : (look V M r).1.st = 1
  · rw [step_yes V M h]; exact look_look V M _
  · rw [step_no V M h]; exact look_look V M _
theorem goN_looked : ∀ (n : Nat) (r : Tk × ν), look V M r = r → look V M (goN V M n r).2 = (goN V M n r).2
  | 0, r, h => h
  | n + 1, r, h => by
    unfold goN
    split
    · exact goN_looked n _ (step_looked r)
    · exact step_looked r
/-- it ends ahead of its last step just if it can't go on -/
theorem goN_end : ∀ (n : Nat) (r : Tk × ν), (goN V M n r).1 < n → (look V M (goN V M n r).2).1.st ≠ 1
  | 0, r, h => absurd h (Nat.not_lt_zero _)
  | n + 1, r, h => by
    unfold goN at h ⊢
    by_cases hs : (step V M r).1 = true
    · rw [if_pos hs] at h ⊢
      exact goN_end n _ (by simpa using h)
    · rw [if_neg hs]
      intro h1
      by_cases h2 : (look V M r).1.st = 1
      · rw [step_yes V M h2] at hs; exact hs rfl
      · rw [step_no V M h2] at h1
        dsimp only at h1
        rw [look_look] at h1
        exact h2 h1
/-- what grows with a step grows with many -/
theorem goN_mono {R : Tk × ν → Tk × ν → Prop} (hr : ∀ r, R r r) (ht : ∀ a b c, R a b → R b c → R a c) (hs : ∀ r, R r (step V M r).2) : ∀ (n : Nat) (r : Tk × ν), R r (goN V M n r).2
  | 0, r => hr r
  | n + 1, r => by
    unfold goN
    split
    · exact ht _ _ _ (hs r) (goN_mono hr ht hs n _)
    · exact hs r
end
/-- what was put out, what was sent: the beginning of it -/
structure Beg (r s : Tk × Ls) : Prop where
  out : r.1.out <+: s.1.out
  len : r.2.sent.length = s.2.sent.length
  sent : ∀ b, r.2.sent.getD b [] <+: s.2.sent.getD b []
theorem Beg.refl (r : Tk × Ls) : Beg r r := ⟨List.prefix_refl _, rfl, fun b => List.prefix_refl _⟩
theorem Beg.trans {a b c : Tk × Ls} (h : Beg a b) (k : Beg b c) : Beg a c := ⟨h.out.trans k.out, h.len.trans k.len, fun x => (h.sent x).trans (k.sent x)⟩
theorem play_beg (F : List (List Int)) (s : Ls) (e : Ev) : s.sent.length = (play (lists F) s e).sent.length ∧ ∀ b, s.sent.getD b [] <+: (play (lists F) s e).sent.getD b [] := by
  unfold play
  split
  · refine ⟨by simp [lists], fun b => ?_⟩
    show _ <+: (s.sent.set e.2.1.toNat (s.sent.getD e.2.1.toNat [] ++ [e.2.2])).getD b []
    by_cases h : e.2.1.toNat < s.sent.length
    · rw [getD_setL h]
      split
      · rename_i e'; subst e'; exact List.prefix_append _ _
      · exact List.prefix_refl _
    · rw [List.set_eq_of_length_le (by omega)]; exact List.prefix_refl _
  split
  · exact ⟨rfl, fun b => List.prefix_refl _⟩
  · exact ⟨rfl, fun b => List.prefix_refl _⟩
theorem plays_beg (F : List (List Int)) : ∀ (l : List Ev) (s : Ls), s.sent.length = (l.foldl (play (lists F)) s).sent.length ∧ ∀ b, s.sent.getD b [] <+: (l.foldl (play (lists F)) s).sent.getD b []
  | [], s => ⟨rfl, fun b => List.prefix_refl _⟩
  | e :: l, s => by
    obtain ⟨h1, h2⟩ := play_beg F s e
    obtain ⟨g1, g2⟩ := plays_beg F l (play (lists F) s e)
    exact ⟨h1.trans g1, fun b => (h2 b).trans (g2 b)⟩
theorem step_beg (M : Mdl) (F : List (List Int)) (r : Tk × Ls) : Beg r (step (lists F) M r).2 := by
  by_cases h : (look (lists F) M r).1.st = 1
  · rw [step_yes _ M h]
    obtain ⟨h1, h2⟩ := plays_beg F (lstep M (inp (lists F) M r) (look (lists F) M r).1).2 r.2
    refine ⟨?_, by rw [look_snd]; exact h1, fun b => by rw [look_snd]; exact h2 b⟩
    rw [(look_out _ M _).1]
    show _ <+: (lstep _ _ _).1.out
    rw [(lstep_did M (x := inp (lists F) M r) (t := (look (lists F) M r).1) (by omega)).out]
    show _ <+: (look (lists F) M r).1.out ++ _
    rw [(look_out _ M _).1]
    exact List.prefix_append _ _
  · rw [step_no _ M h]
    exact ⟨by rw [(look_out _ M _).1]; exact List.prefix_refl _, by rw [look_snd], fun b => by rw [look_snd]; exact List.prefix_refl _⟩
theorem goN_beg (M : Mdl) (F : List (List Int)) (n : Nat) (r : Tk × Ls) : Beg r (goN (lists F) M n r).2 := goN_mono Beg.refl (fun _ _ _ h k => h.trans k) (step_beg M F) n r
/-- STEP BY STEP -/
theorem solo_further (M : Mdl) (u : Nat) (F : List (List Int)) {n m : Nat} (h : n ≤ m) :
    ((solo M u F n).1 < n → solo M u F m = solo M u F n) ∧ ((solo M u F n).1 ≤ (solo M u F m).1 ∧ Beg (solo M u F n).2 (solo M u F m).2) := by
  obtain ⟨d, rfl⟩ := Nat.exists_eq_add_of_le h
  have hle := goN_le (V := lists F) (M := M) n (solo0 M u F)
  unfold solo
  by_cases hlt : (goN (lists F) M n (solo0 M u F)).1 < n
  · rw [goN_stop n _ hlt d]
    exact ⟨fun _ => rfl, Nat.le_refl _, Beg.refl _⟩
  · have he : (goN (lists F) M n (solo0 M u F)).1 = n := by omega
    refine ⟨fun h' => absurd h' hlt, ?_⟩
    rw [goN_add n _ he d, he]
    exact ⟨Nat.le_add_right _ _, goN_beg M F d _⟩
/-- alike, but how they stand -/
def Alk (t t' : Tk) : Prop := t = t' ∨ (t.st ≤ 3 ∧ ∃ a b, a ≤ 3 ∧ t' = { t with st := a, bx := b })
theorem look_alk {ν : Type} (V : Env ν) (M : Mdl) {t t' : Tk} (h : Alk t t') (s : ν) : look V M (t, s) = look V M (t', s) := by
  rcases h with rfl | ⟨h3, a, b, ha, rfl⟩
  · rfl
  · unfold look
    rw [if_pos (show (t, s).1.st ≤ 3 from h3), if_pos (show (({ t with st := a, bx := b } : Tk), s).1.st ≤ 3 from ha)]
    rfl
theorem alk_look {ν ν' : Type} (V : Env ν) (V' : Env ν') (M : Mdl) (t : Tk) (s : ν) (s' : ν') : Alk (look V M (t, s)).1 (look V' M (t, s')).1 := by
  by_cases h3 : t.st ≤ 3
  · have key : ∀ {ν : Type} (V : Env ν) (s : ν), ∃ a b, a ≤ 3 ∧ (look V M (t, s)).1 = { t with st := a, bx := b } := fun V s => by
      unfold look waits
      rw [if_pos (show (t, s).1.st ≤ 3 from h3)]
      split
      · exact ⟨2, _, by omega, rfl⟩
      split
      · exact ⟨3, _, by omega, rfl⟩
      · exact ⟨1, _, by omega, rfl⟩
    obtain ⟨a, b, ha, e⟩ := key V s
    obtain ⟨a', b', ha', e'⟩ := key V' s'
    rw [e, e']
    exact .inr ⟨ha, a', b', ha', rfl⟩
  · have key : ∀ {ν : Type} (V : Env ν) (s : ν), look V M (t, s) = (t, s) := fun V s => by
      unfold look
      rw [if_neg (show ¬ (t, s).1.st ≤ 3 from h3)]
    rw [key, key]
    exact .inl rfl
/-- longer feeds -/
structure Longer (M : Mdl) (F G : List (List Int)) : Prop where
  pre : ∀ b, b < M.boxes.length → F.getD b [] <+: G.getD b []
theorem look_ready {ν : Type} {V : Env ν} {M : Mdl} {r : Tk × ν} (h : (look V M r).1.st = 1) :
    r.1.st ≤ 3 ∧ ((insT M r.1).op = 26 → V.full r.2 (insT M r.1).a.toNat = false) ∧ ((insT M r.1).op = 27 → V.empty r.2 (insT M r.1).a.toNat = false) := by
  by_cases h3 : r.1.st ≤ 3
  · refine ⟨h3, ?_⟩
    unfold look waits at h
    rw [if_pos h3] at h
    by_cases c1 : (insT M r.1).op = 26 ∧ V.full r.2 (insT M r.1).a.toNat = true
    · rw [if_pos c1] at h; cases h
    rw [if_neg c1] at h
    by_cases c2 : (insT M r.1).op = 27 ∧ V.empty r.2 (insT M r.1).a.toNat = true
    · rw [if_pos c2] at h; cases h
    refine ⟨fun ho => ?_, fun ho => ?_⟩
    · cases hx : V.full r.2 (insT M r.1).a.toNat with
      | false => rfl
      | true => exact absurd ⟨ho, hx⟩ c1
    · cases hx : V.empty r.2 (insT M r.1).a.toNat with
      | false => rfl
      | true => exact absurd ⟨ho, hx⟩ c2
  · unfold look at h
    rw [if_neg h3] at h
    omega
theorem look_one {ν : Type} {V : Env ν} {M : Mdl} {r : Tk × ν} (h3 : r.1.st ≤ 3) (h26 : (insT M r.1).op = 26 → V.full r.2 (insT M r.1).a.toNat = false) (h27 : (insT M r.1).op = 27 → V.empty r.2 (insT M r.1).a.toNat = false) :
    look V M r = ({ r.1 with st := 1, bx := 0 }, r.2) := by
  unfold look waits
  rw [if_pos h3, if_neg (fun h => by rw [h26 h.1] at h; exact absurd h.2 (by simp)), if_neg (fun h => by rw [h27 h.1] at h; exact absurd h.2 (by simp))]
theorem take_longer {M : Mdl} {F G : List (List Int)} (hl : Longer M F G) {s : Ls} (hK : LsK M F s) {b : Nat} (hb : b < M.boxes.length) (he : (lists F).empty s b = false) : (lists G).empty s b = false ∧ (lists G).take s b = (lists F).take s b := by
  have hlt : s.took.getD b 0 < (F.getD b []).length := by
    have := hK.le b hb
    have he' : decide (s.took.getD b 0 = (F.getD b []).length) = false := he
    rw [decide_eq_false_iff_not] at he'
    omega
  obtain ⟨x, hx⟩ := hl.pre b hb
  refine ⟨?_, ?_⟩
  · show decide (s.took.getD b 0 = (G.getD b []).length) = false
    rw [decide_eq_false_iff_not, ← hx, List.length_append]; omega
  · show ((G.getD b []).getD (s.took.getD b 0) 0, _) = ((F.getD b []).getD (s.took.getD b 0) 0, _)
    rw [← hx]
    generalize F.getD b [] = l at *
    generalize s.took.getD b 0 = k at *
    rw [List.getD_eq_getElem?_getD, List.getElem?_append_left hlt, ← List.getD_eq_getElem?_getD]
theorem plays_eq {F G : List (List Int)} : ∀ (l : List Ev) (s : Ls), (∀ e ∈ l, e.1 ≠ 3) → l.foldl (play (lists F)) s = l.foldl (play (lists G)) s
  | [], s, _ => rfl
  | e :: l, s, h => by
    have h3 := h e List.mem_cons_self
    simp only [List.foldl_cons]
    have e1 : play (lists F) s e = play (lists G) s e := by unfold play; rw [if_neg h3, if_neg h3]; rfl
    rw [e1]
    exact plays_eq l _ (fun e he => h e (List.mem_cons_of_mem _ he))
theorem playsTook_eq (F G : List (List Int)) : ∀ (l : List Ev) (s : Ls), l.foldl (play (lists F)) s = l.foldl (play (lists G)) s
  | [], s => rfl
  | e :: l, s => by
    simp only [List.foldl_cons]
    rw [show play (lists F) s e = play (lists G) s e from rfl]
    exact playsTook_eq F G l _
section
variable {M : Mdl} {T : Nat → Int → Option Shape} {F G : List (List Int)} (hC : Certs M T) (hF : Fed M F) (hl : Longer M F G)
include hC hF hl
/-- a step that can be done with the shorter feeds is done with the longer ones -/
theorem step_longer {t t' : Tk} {s : Ls} (hg : Good M T (LsK M F) (t, s)) (ha : Alk t t') (hs : (step (lists F) M (t, s)).1 = true) :
    (step (lists G) M (t', s)).1 = true ∧ Alk (step (lists F) M (t, s)).2.1 (step (lists G) M (t', s)).2.1 ∧ (step (lists G) M (t', s)).2.2 = (step (lists F) M (t, s)).2.2 := by
  have h1 : (look (lists F) M (t, s)).1.st = 1 := Classical.byContradiction fun h => by rw [step_no _ M h] at hs; cases hs
  obtain ⟨h3, h26, h27⟩ := look_ready h1
  obtain ⟨ch, hok⟩ : ∃ ch, Ok M T t ch := by
    rcases hg.1 with h | h | h
    · exact absurd (show t.st = 5 from h) (by have : t.st ≤ 3 := h3; omega)
    · exact absurd (show t.st = 4 from h) (by have : t.st ≤ 3 := h3; omega)
    · exact h.2
  obtain ⟨fs0, ws0, q, p, st, hh, loc, op, a⟩ := hok.at_
  obtain ⟨st', h', hr⟩ := a.here hC
  have hbox : (insT M t).op = 27 → (insT M t).a.toNat < M.boxes.length := fun h => by
    have := hr.ok.box (.inr h)
    omega
  have g27 : (insT M t).op = 27 → (lists G).empty s (insT M t).a.toNat = false := fun h => (take_longer hl hg.2 (hbox h) (h27 h)).1
  have e1 := look_one h3 h26 h27
  have e2 : look (lists G) M (t, s) = ({ t with st := 1, bx := 0 }, s) := look_one (r := (t, s)) h3 (fun _ => rfl) g27
  have e3 : look (lists G) M (t', s) = ({ t with st := 1, bx := 0 }, s) := (look_alk _ M ha s).symm.trans e2
  have hi : insT M t' = insT M t := by
    rcases ha with rfl | ⟨-, a, b, -, rfl⟩ <;> rfl
  have hin : inp (lists G) M (t', s) = inp (lists F) M (t, s) := by
    unfold inp
    dsimp only
    rw [hi]
    split
    · rename_i h
      rw [(take_longer hl hg.2 (hbox h) (h27 h)).2]
    · rfl
  rw [step_yes _ M h1, step_yes (lists G) M (r := (t', s)) (by rw [e3]), hin, e1, e3]
  dsimp only
  generalize lstep M (inp (lists F) M (t, s)) { t with st := 1, bx := 0 } = r
  refine ⟨rfl, alk_look _ _ M _ _ _, ?_⟩
  rw [look_snd, look_snd]
  exact playsTook_eq G F _ _
/-- WHO IS FED MORE SAYS NO LESS -/
theorem goN_longer : ∀ (n : Nat) {t t' : Tk} {s : Ls}, Good M T (LsK M F) (t, s) → Alk t t' → (goN (lists F) M n (t, s)).1 ≤ (goN (lists G) M n (t', s)).1 ∧ Beg (goN (lists F) M n (t, s)).2 (goN (lists G) M n (t', s)).2
  | 0, t, t', s, hg, ha => by
    refine ⟨Nat.le_refl _, ?_, rfl, fun b => List.prefix_refl _⟩
    rcases ha with rfl | ⟨-, a, b, -, rfl⟩
    · exact List.prefix_refl _
    · exact List.prefix_refl _
  | n + 1, t, t', s, hg, ha => by
    by_cases hs : (step (lists F) M (t, s)).1 = true
    · obtain ⟨h1, h2, h3⟩ := step_longer hC hF hl hg ha hs
      unfold goN
      rw [if_pos hs, if_pos h1]
      have hg2 := step_good hC (lists_ok hF) hg
      have ih := goN_longer n (t := (step (lists F) M (t, s)).2.1) (t' := (step (lists G) M (t', s)).2.1) (s := (step (lists F) M (t, s)).2.2) hg2 h2
      have e : (step (lists G) M (t', s)).2 = ((step (lists G) M (t', s)).2.1, (step (lists F) M (t, s)).2.2) := Prod.ext rfl h3
      rw [e]
      exact ⟨Nat.succ_le_succ ih.1, ih.2⟩
    · have hz : goN (lists F) M (n + 1) (t, s) = (0, (step (lists F) M (t, s)).2) := by rw [goN, if_neg hs]
      rw [hz]
      refine ⟨Nat.zero_le _, ?_⟩
      have hn : (look (lists F) M (t, s)).1.st ≠ 1 := fun h => by rw [step_yes _ M h] at hs; exact hs rfl
      rw [step_no _ M hn]
      have hb := goN_beg M G (n + 1) (t', s)
      refine Beg.trans ⟨?_, by rw [look_snd], fun b => by rw [look_snd]; exact List.prefix_refl _⟩ hb
      rw [(look_out _ M _).1]
      rcases ha with rfl | ⟨-, a, b, -, rfl⟩
      · exact List.prefix_refl _
      · exact List.prefix_refl _
theorem solo_grows {u : Nat} (hu : u < M.units.length) (hk : (unt M u).kind = 4) (hlen : F.length = G.length) (n : Nat) : (solo M u F n).1 ≤ (solo M u G n).1 ∧ Beg (solo M u F n).2 (solo M u G n).2 := by
  unfold solo solo0
  have hg : Good M T (LsK M F) (new M u, Ls.new F.length) := ⟨.inr (.inr ⟨show (1 : Int) ≤ 3 by decide, [0], new_ok hC hu hk⟩), new_K M F hF⟩
  have hgl := look_good (V := lists F) hg
  have ha := alk_look (lists F) (lists G) M (new M u) (Ls.new F.length) (Ls.new F.length)
  have e1 : look (lists F) M (new M u, Ls.new F.length) = ((look (lists F) M (new M u, Ls.new F.length)).1, Ls.new F.length) := Prod.ext rfl (look_snd _ M _)
  have e2 : look (lists G) M (new M u, Ls.new G.length) = ((look (lists G) M (new M u, Ls.new F.length)).1, Ls.new F.length) := by rw [← hlen]; exact Prod.ext rfl (look_snd _ M _)
  rw [e1] at hgl
  rw [e1, e2]
  exact goN_longer hC hF hl n hgl ha
end
/-- WHAT IS VERIFIED RUNS -/
structure Goes (M : Mdl) (F : List (List Int)) (n : Nat) (r : Nat × (Tk × Ls)) : Prop where
  steps : r.1 ≤ n
  sent : r.2.2.sent.length = M.boxes.length
  took : r.2.2.took.length = M.boxes.length
  le : ∀ b, b < M.boxes.length → r.2.2.took.getD b 0 ≤ (F.getD b []).length
  typ : ∀ b, b < M.boxes.length → Typed (M.boxes.getD b default).1 (r.2.2.sent.getD b [])
  st : (r.2.1.st = 3 ∧ 0 ≤ r.2.1.bx ∧ r.2.1.bx.toNat < M.boxes.length ∧ r.2.2.took.getD r.2.1.bx.toNat 0 = (F.getD r.2.1.bx.toNat []).length) ∨ (r.2.1.st = 1 ∧ r.1 = n) ∨ r.2.1.st = 4 ∨ r.2.1.st = 5
theorem solo_goes {M : Mdl} {T : Nat → Int → Option Shape} {F : List (List Int)} (hC : Certs M T) (hF : Fed M F) {u : Nat} (hu : u < M.units.length) (hk : (unt M u).kind = 4) (n : Nat) : Goes M F n (solo M u F n) := by
  have hg : Good M T (LsK M F) (new M u, Ls.new F.length) := ⟨.inr (.inr ⟨show (1 : Int) ≤ 3 by decide, [0], new_ok hC hu hk⟩), new_K M F hF⟩
  have hg2 : Good M T (LsK M F) (solo M u F n).2 := goN_good hC (lists_ok hF) n (look_good (V := lists F) hg)
  have hlk : look (lists F) M (solo M u F n).2 = (solo M u F n).2 := goN_looked n _ (look_look _ M _)
  have hend : (solo M u F n).1 < n → (look (lists F) M (solo M u F n).2).1.st ≠ 1 := goN_end n _
  have hle : (solo M u F n).1 ≤ n := goN_le n _
  generalize solo M u F n = r at *
  obtain ⟨k, t, s⟩ := r
  dsimp only at *
  refine ⟨hle, hg2.2.sent, hg2.2.took, hg2.2.le, hg2.2.typ, ?_⟩
  dsimp only
  rcases hg2.1 with h | h | ⟨h3, ch, hok⟩
  · exact .inr (.inr (.inr h))
  · exact .inr (.inr (.inl h))
  · obtain ⟨fs0, ws0, q, p, st, hh, loc, op, a⟩ := hok.at_
    obtain ⟨st', h', hr⟩ := a.here hC
    have h3 : t.st ≤ 3 := h3
    have hr : Here M T q p (insT M t) st hh st' h' := hr
    unfold look waits at hlk
    rw [if_pos (show (t, s).1.st ≤ 3 from h3), if_neg (fun h => absurd h.2 (by simp [lists]))] at hlk
    by_cases c2 : (insT M t).op = 27 ∧ (lists F).empty s (insT M t).a.toNat = true
    · rw [if_pos c2] at hlk
      have e := congrArg (·.1) hlk
      dsimp only at e
      have hb := hr.ok.box (.inr c2.1)
      left
      rw [← e]
      have c3 : decide (s.took.getD (insT M t).a.toNat 0 = (F.getD (insT M t).a.toNat []).length) = true := c2.2
      rw [decide_eq_true_eq] at c3
      exact ⟨rfl, hb.1, by show (insT M t).a.toNat < _; omega, c3⟩
    · have hl2 : look (lists F) M (t, s) = ({ t with st := 1, bx := 0 }, s) := by
        unfold look waits
        rw [if_pos (show (t, s).1.st ≤ 3 from h3), if_neg (fun h => absurd h.2 (by simp [lists])), if_neg c2]
      rw [if_neg c2] at hlk
      have e := congrArg (·.1.st) hlk
      dsimp only at e
      right; left
      refine ⟨e.symm, ?_⟩
      refine Nat.le_antisymm hle (Nat.not_lt.1 fun hlt => ?_)
      exact hend hlt (by rw [hl2])
end Go.Proofs.Ytgnhfinabhimpaa.Vm

/- yieldlaw9.alive and SoloFurther, walked. -/
namespace Go.Proofs.Ytgnhfinabhimpaa.Vw
open Go.RowKit Go.Proofs.Ytgnhfinabhimpaa.Img
set_option linter.unusedVariables false
set_option linter.unusedSimpArgs false
attribute [local irreducible] Run Cod End OpT Still RunQ RunS RunT Fn PutOk
theorem al9_in : ∀ i ∈ Vm.al9, ImgM.In64 i.op ∧ ImgM.In64 i.a ∧ ImgM.In64 i.n := by
  intro i hi
  simp [Vm.al9] at hi
  rcases hi with rfl | rfl | rfl <;> simp [ImgM.In64]
theorem fd_nil {w : World} {L : List Chunk} (h : Mem w L) : Mem w (fd ⟨none, 0, []⟩ :: L) :=
  Mem.toRead (pre := []) (F := L) .nil h (fd_holds.2 ⟨⟨by simp, by simp, none, 0, rfl, Nat.le_refl _, fun h => by simp at h⟩, fun r hr => by simp at hr⟩) fd_excl (fun b hb => by
    rcases fd_foot.1 hb with ⟨-, h⟩ | ⟨r, hr, -⟩
    · simp at h
    · simp at hr)
theorem soloOk {m : ML} {f : FL} {task most : Int} {r : RpL} (h : IsSolo m f task most r) (he : Vm.soloErr m.mdl task f.ws most = 0) : r.Is (Vm.solo m.mdl (unitOf m task) f.ws most.toNat) := by
  unfold IsSolo at h
  rwa [if_pos he] at h
attribute [local irreducible] Vm.soloErr Vm.solo Ver.verify
set_option maxRecDepth 100000 in
theorem alive9_is : Fn Try.prog 7 #[] [] [] (σ := Unit) (fun _ => True) (fun _ => .bool true) (fun _ => []) := by
  refine Fn.enter (args := []) Try.func7 rfl _ Try.ntmps7 rfl (by simp [rd_excl, md_excl]) (fun w S => ?_)
  (try conv => rhs; simp only [List.cons_append, List.nil_append])
  repeat (first | refine go (k := ?_) | (refine goB (k := ?_); intro b) | (refine goA (k := ?_); intro ao cap))
  obtain ⟨mb, rfl⟩ : ∃ x, x = b := ⟨_, rfl⟩
  obtain ⟨ub, rfl⟩ : ∃ x, x = b := ⟨_, rfl⟩
  obtain ⟨cb, rfl⟩ : ∃ x, x = b := ⟨_, rfl⟩
  apply Run.imp' (fun w hm => Mem.toArr (b := ub) (e := 31) (f := ucell) (n := 1) hm (by (repeat (first | exact Take.head | apply Take.tail))) [taskU cb Vm.al9] rfl rfl (by unfold maxLen; simp))
  apply Run.imp' (fun w hm => Mem.toArr (b := cb) (e := 49) (f := insC) (n := 3) hm (by (repeat (first | exact Take.head | apply Take.tail))) Vm.al9 rfl rfl (by unfold maxLen; simp))
  apply Run.imp' (fun w hm => taskM_mem (cb, ub) Vm.al9 (by (repeat (first | exact Takes.nil | exact Take.head | apply Take.tail | apply Takes.cons))) hm)
  apply Run.imp' (fun w hm => fd_nil hm)
  have hsp := solo_is (taskM (cb, ub) Vm.al9) (taskM_wf _ _ al9_in) ⟨none, 0, []⟩ (by simp) 0 9
  have he : Vm.soloErr (taskM (cb, ub) Vm.al9).mdl 0 (FL.ws ⟨none, 0, []⟩) 9 = 0 := Vm.al9_err
  rw [he] at hsp
  ((first | (apply Run.op; exact rfl) | refine Run.yes_ (h := ?_)); refine OpT.call0_ (spec := hsp) (r := (fun w => Reads.md (by (repeat (first | exact Take.head | apply Take.tail))) (Reads.any (by (repeat (first | exact Take.head | apply Take.tail))) fd_excl .nil))) (k := ?_); intro s hs; (try conv => rhs; simp only [List.cons_append, List.nil_append]))
  have hI := soloOk hs he
  have hu : unitOf (taskM (cb, ub) Vm.al9) 0 = 0 := by
    have h : Vm.tasks (taskM (cb, ub) Vm.al9).mdl = [0] := Vm.al9_tasks
    unfold unitOf; rw [h]; rfl
  rw [hu] at hI
  have hs9 := Vm.al9_solo
  have e1 : s.st = 4 := hI.st.trans hs9.2.1
  have e2 : s.steps = 3 := hI.steps.trans hs9.1
  have e3 : s.out = [7] := hI.out.trans hs9.2.2
  have e4 : s.out.length = 1 := by rw [e3]; rfl
  have e5 : s.out.getD 0 default = 7 := by rw [e3]; rfl
  clear hI hs9 e3
  repeat (first | refine go (k := ?_) | (refine goB (k := ?_); intro b) | (refine goA (k := ?_); intro ao cap))
  (refine Run.yes_ (h := ?_); refine OpT.val_ (h := by (apply Still.at_; exact rfl; exact rfl; (first | (apply Rdb.arr; focus ((repeat (first | exact Take.head | apply Take.tail)); done)) | (apply Rdb.rd; focus ((repeat (first | exact Take.head | apply Take.tail)); done)) | (apply Rdb.md_units; focus ((repeat (first | exact Take.head | apply Take.tail)); done)) | (apply Rdb.md_boxes; focus ((repeat (first | exact Take.head | apply Take.tail)); done)) | (apply Rdb.md_code; (focus ((repeat (first | exact Take.head | apply Take.tail)); done)); (focus (first | assumption | omega))) | (apply Rdb.md_locals; (focus ((repeat (first | exact Take.head | apply Take.tail)); done)); (focus (first | assumption | omega))) | (apply Rdb.old; (focus assumption); (focus ((repeat (first | exact Take.head | apply Take.tail)); done)))); exact rfl; exact rfl; exact rfl; exact ix_zero; omega)) (k := ?_))
  repeat (first | refine go (k := ?_) | (refine goB (k := ?_); intro b) | (refine goA (k := ?_); intro ao cap))
  (refine End.done1_ (()) (he := by exact bool_eq (decide_eq_true e5)) (hp := ?_))
  trivial
end Go.Proofs.Ytgnhfinabhimpaa.Vw
