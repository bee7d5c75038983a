/- yieldlaw9.SoloFurther, walked. -/
import Derived.Test.YtgnhfinabhimpaaM35
import Derived.ProofKit
import Derived.OpenShut
import Derived.JoinedCond
import Derived.SizedLaws
import Derived.Deep.Slices
import Derived.Carry
namespace Go.Proofs.Ytgnhfinabhimpaa.Vw
open Go.RowKit Go.Proofs.Ytgnhfinabhimpaa.Img
set_option linter.unusedVariables false
set_option linter.unusedSimpArgs false
attribute [local irreducible] Run Cod End OpT Still RunQ RunS RunT Fn PutOk
structure SoloGood (m : ML) (f : FL) (task most : Int) : Prop where
  ver : Ver.verify m.mdl = .ok
  t0 : 0 ≤ task
  tl : task < ((Vm.tasks m.mdl).length : Int)
  m0 : 0 ≤ most
  m5 : most ≤ 5000
  len : f.l.length = m.bx.length
  fed : ∀ k, k < f.l.length → rowBad m f k = false
theorem solo_good {m : ML} {f : FL} {task most : Int} (h : Vm.soloErr m.mdl task f.ws most = 0) : SoloGood m f task most := by
  by_cases hv : Ver.verify m.mdl = .ok
  · rw [soloErr_eq hv] at h
    by_cases h3 : task < 0 ∨ ((Vm.tasks m.mdl).length : Int) ≤ task ∨ most < 0 ∨ 5000 < most
    · rw [if_pos h3] at h; cases h
    rw [if_neg h3] at h
    by_cases h5 : f.l.length ≠ m.bx.length
    · rw [if_pos h5] at h; cases h
    rw [if_neg h5] at h
    by_cases h9 : (List.range f.l.length).any (rowBad m f) = true
    · rw [if_pos h9] at h; cases h
    refine ⟨hv, by omega, by omega, by omega, by omega, by omega, fun k hk => ?_⟩
    have h9 : (List.range f.l.length).any (rowBad m f) = false := by simpa using h9
    rw [List.any_eq_false] at h9
    have := h9 k (List.mem_range.2 hk)
    simpa using this
  · have he : (Ver.verify m.mdl).err ≠ 0 := fun h => hv (Ver.verify_eq h)
    unfold Vm.soloErr at h
    rw [if_pos he] at h
    exact absurd h he
theorem sent_len {m : ML} (hwf : m.Wf) {f : FL} {task most : Int} (h : SoloGood m f task most) (h64 : ∀ l ∈ f.ws, ∀ v ∈ l, ImgM.In64 v) : (Vm.solo m.mdl (unitOf m task) f.ws most.toNat).2.2.sent.length = m.bx.length := by
  obtain ⟨T, hC⟩ := certs_ml hwf h.ver
  have h1 := h.t0
  have h2 := h.tl
  obtain ⟨hu1, hu2⟩ := tasks_mem (m := m) (k := task.toNat) (by omega)
  exact (Vm.solo_goes hC (fed_of h.len h64 h.fed) (u := unitOf m task) (by rw [show m.mdl.units.length = m.us.length by simp]; exact hu1) (by unfold Vm.unt; rw [ML.unit_at]; exact hu2) most.toNat).sent
attribute [local irreducible] Vm.soloErr Vm.solo Ver.verify
theorem RpL.row_pre {a b : RpL} {x y : Nat × (Vm.Tk × Vm.Ls)} (ha : a.Is x) (hb : b.Is y) (h : Vm.Beg x.2 y.2) : a.out <+: b.out ∧ b.sent.length = a.sent.length ∧ ∀ k, (a.sent.getD k default).l <+: (b.sent.getD k default).l := by
  refine ⟨by rw [ha.out, hb.out]; exact h.out, ?_, fun k => ?_⟩
  · have h1 := congrArg List.length ha.sent
    have h2 := congrArg List.length hb.sent
    have h3 := h.len
    simp only [List.length_map] at h1 h2
    omega
  · rw [← getD_ws, ← getD_ws, ha.sent, hb.sent]
    exact h.sent k
set_option maxRecDepth 100000 in
set_option maxHeartbeats 2000000 in
theorem further_is (m : ML) (hwf : m.Wf) (f : FL) (h64 : ∀ l ∈ f.ws, ∀ v ∈ l, ImgM.In64 v) (task most more : Int) : Fn Try.prog 5 #[m.val, .int .i64 task, f.val, .int .i64 most, .int .i64 more] [md m, fd f] [] (σ := Unit) (fun _ => True) (fun _ => .bool true) (fun _ => []) := by
  refine Fn.enter (args := [m.val, .int .i64 task, f.val, .int .i64 most, .int .i64 more]) Try.func5 rfl _ Try.ntmps5 rfl (by simp [fd_excl, md_excl]) (fun w S => ?_)
  (try conv => rhs; simp only [List.cons_append, List.nil_append])
  repeat (first | refine go (k := ?_) | (refine goB (k := ?_); intro b) | (refine goA (k := ?_); intro ao cap))
  obtain ⟨mb, rfl⟩ : ∃ x, x = b := ⟨_, rfl⟩
  (apply Run.op; exact rfl; refine OpT.call0_ (spec := alive9_is) (k := ?_); intro s hs; (try conv => rhs; simp only [List.cons_append, List.nil_append]))
  by_cases hlt : more < most
  · repeat (first | refine go (k := ?_) | (refine goB (k := ?_); intro b) | (refine goA (k := ?_); intro ao cap))
    (refine End.done1_ (()) (he := by (first | exact rfl | (refine congrArg (Value.int _) ?_; omega) | (refine congrArg (Value.int _) ?_; dsimp only; omega))) (hp := ?_))
    trivial
  repeat (first | refine go (k := ?_) | (refine goB (k := ?_); intro b) | (refine goA (k := ?_); intro ao cap))
  ((first | (apply Run.op; exact rfl) | refine Run.yes_ (h := ?_)); refine OpT.call0_ (spec := solo_is m hwf f h64 task most) (r := (fun w => Reads.md (by (repeat (first | exact Take.head | apply Take.tail))) (Reads.any (by (repeat (first | exact Take.head | apply Take.tail))) fd_excl .nil))) (k := ?_); intro s hs; (try conv => rhs; simp only [List.cons_append, List.nil_append]))
  obtain ⟨a, rfl⟩ : ∃ x, x = s := ⟨_, rfl⟩
  have ha := hs
  repeat (first | refine go (k := ?_) | (refine goB (k := ?_); intro b) | (refine goA (k := ?_); intro ao cap))
  obtain ⟨ab, rfl⟩ : ∃ x, x = b := ⟨_, rfl⟩
  ((first | (apply Run.op; exact rfl) | refine Run.yes_ (h := ?_)); refine OpT.call0_ (spec := solo_is m hwf f h64 task more) (r := (fun w => Reads.md (by (repeat (first | exact Take.head | apply Take.tail))) (Reads.any (by (repeat (first | exact Take.head | apply Take.tail))) fd_excl .nil))) (k := ?_); intro s hs; (try conv => rhs; simp only [List.cons_append, List.nil_append]))
  obtain ⟨c, rfl⟩ : ∃ x, x = s := ⟨_, rfl⟩
  have hc := hs
  obtain ⟨e1, he1⟩ : ∃ e, e = Vm.soloErr m.mdl task f.ws most := ⟨_, rfl⟩
  obtain ⟨e2, he2⟩ : ∃ e, e = Vm.soloErr m.mdl task f.ws more := ⟨_, rfl⟩
  rw [← he1, ← he2]
  by_cases c1 : ¬ e1 = 0
  · repeat (first | refine go (k := ?_) | (refine goB (k := ?_); intro b) | (refine goA (k := ?_); intro ao cap))
    (refine End.done1_ (()) (he := by (first | exact rfl | (refine congrArg (Value.int _) ?_; omega) | (refine congrArg (Value.int _) ?_; dsimp only; omega))) (hp := ?_))
    trivial
  have c1 := Classical.not_not.1 c1
  by_cases c2 : ¬ e2 = 0
  · repeat (first | refine go (k := ?_) | (refine goB (k := ?_); intro b) | (refine goA (k := ?_); intro ao cap))
    (refine End.done1_ (()) (he := by (first | exact rfl | (refine congrArg (Value.int _) ?_; omega) | (refine congrArg (Value.int _) ?_; dsimp only; omega))) (hp := ?_))
    trivial
  have c2 := Classical.not_not.1 c2
  subst c1 c2
  have hg := solo_good he1.symm
  have hI1 := soloOk ha he1.symm
  have hI2 := soloOk hc he2.symm
  obtain ⟨g1, g2, g3⟩ := Vm.solo_further m.mdl (unitOf m task) f.ws (n := most.toNat) (m := more.toNat) (by omega)
  obtain ⟨p1, p2, p3⟩ := RpL.row_pre hI1 hI2 g3
  have s1 : (a.steps : Int) < most → a.Eq c := fun h => by
    have := g1 (by rw [← hI1.steps]; have := hg.m0; omega)
    rw [this] at hI2
    exact hI1.eq hI2
  have s2 : a.steps ≤ c.steps := by rw [hI1.steps, hI2.steps]; exact g2
  have al : a.sent.length = m.bx.length := by
    have h1 := congrArg List.length hI1.sent
    rw [List.length_map, sent_len hwf hg h64] at h1
    exact h1
  clear hI1 hI2 g1 g2 g3 ha hc
  apply Run.imp' (fun w hm => rep_own a (by (repeat (first | exact Takes.nil | exact Take.head | apply Take.tail | apply Takes.cons))) hm)
  apply Run.imp' (fun w hm => rep_own c (by (repeat (first | exact Takes.nil | exact Take.head | apply Take.tail | apply Takes.cons))) hm)
  (try conv => rhs; simp only [List.cons_append, List.nil_append])
  have hb30 : m.bx.length ≤ 30 := (formed (Ver.verify_iff.1 hg.ver).form).boxes
  have hal : a.sent.length = m.bx.length := al
  by_cases hst : (a.steps : Int) < most
  · have hE := s1 hst
    repeat (first | refine go (k := ?_) | (refine goB (k := ?_); intro b) | (refine goA (k := ?_); intro ao cap))
    ((first | (apply Run.op; exact rfl) | refine Run.yes_ (h := ?_)); refine OpT.call0_ (spec := sameRep_is a c hE) (r := (fun w => Reads.rd (by (repeat (first | exact Take.head | apply Take.tail))) (Reads.any (by (repeat (first | exact Take.head | apply Take.tail))) fd_excl (Reads.rd (by (repeat (first | exact Take.head | apply Take.tail))) (Reads.rd (by (repeat (first | exact Take.head | apply Take.tail))) (Reads.any (by (repeat (first | exact Take.head | apply Take.tail))) fd_excl (Reads.rd (by (repeat (first | exact Take.head | apply Take.tail))) .nil))))))) (k := ?_); intro s hs; (try conv => rhs; simp only [List.cons_append, List.nil_append]))
    repeat (first | refine go (k := ?_) | (refine goB (k := ?_); intro b) | (refine goA (k := ?_); intro ao cap))
    (refine End.done1_ (()) (he := by (first | exact rfl | (refine congrArg (Value.int _) ?_; omega) | (refine congrArg (Value.int _) ?_; dsimp only; omega))) (hp := ?_))
    trivial
  · repeat (first | refine go (k := ?_) | (refine goB (k := ?_); intro b) | (refine goA (k := ?_); intro ao cap))
    (first | (apply Run.op; exact rfl) | refine Run.yes_ (h := ?_)); refine OpT.call0_ (spec := begins_is a.row c.row p1) (k := ?_); intro s hs; (try conv => rhs; simp only [List.cons_append, List.nil_append])
    repeat (first | refine go (k := ?_) | (refine goB (k := ?_); intro b) | (refine goA (k := ?_); intro ao cap))
    obtain ⟨cb, rfl⟩ : ∃ x, x = b := ⟨_, rfl⟩
    apply Cod.imp (fun w hm => Mem.fdOut (f := a.fl) (by (repeat (first | exact Take.head | apply Take.tail))) hm)
    apply Cod.imp (fun w hm => Mem.fdOut (f := c.fl) (by (repeat (first | exact Take.head | apply Take.tail))) hm)
    refine Cod.only ((fun k => [old w S, fd a.fl, fd c.fl, rd a.so a.sent.length a.sc rwC a.sent, rd c.so c.sent.length c.sc rwC c.sent, blk ab a.cells 40, blk cb c.cells 40]) 0) (by (repeat (first | exact Takes.nil | exact Take.head | apply Take.tail | apply Takes.cons))) ?_
    apply Cod.loop (σ := Nat) (fun k => k ≤ a.sent.length) (fun k => [(11, ptr ab), (13, ptr cb), (65, .int .i64 (a.sent.length : Int)), (66, .int .i64 (k : Int))]) (fun k => [old w S, fd a.fl, fd c.fl, rd a.so a.sent.length a.sc rwC a.sent, rd c.so c.sent.length c.sc rwC c.sent, blk ab a.cells 40, blk cb c.cells 40]) (fun k => a.sent.length - k) 0
    rotate_left
    exact sb
    exact tks
    intro k hk K1 hK1
    (try conv => rhs; simp only [List.cons_append, List.nil_append])
    rotate_left
    · exact Nat.zero_le _
    by_cases hkn : k < a.sent.length
    · apply Cod.imp (fun w hm => Mem.fdRow (f := a.fl) (k := k) hkn (by (repeat (first | exact Take.head | apply Take.tail))) hm)
      apply Cod.imp (fun w hm => Mem.fdRow (f := c.fl) (k := k) (by show k < c.sent.length; omega) (by (repeat (first | exact Take.head | apply Take.tail))) hm)
      repeat (first | refine go (k := ?_) | (refine goB (k := ?_); intro b) | (refine goA (k := ?_); intro ao cap))
      (apply Run.op; exact rfl; refine OpT.call0_ (spec := begins_is (a.sent.getD k default) (c.sent.getD k default) (p3 k)) (k := ?_); intro s hs; (try conv => rhs; simp only [List.cons_append, List.nil_append]))
      repeat (first | refine go (k := ?_) | (refine goB (k := ?_); intro b) | (refine goA (k := ?_); intro ao cap))
      refine End.round0_ hK1 (k + 1) ?_ ?_
      · omega
      · omega
    · repeat (first | refine go (k := ?_) | (refine goB (k := ?_); intro b) | (refine goA (k := ?_); intro ao cap))
      (refine End.done1_ (()) (he := by (first | exact rfl | (refine congrArg (Value.int _) ?_; omega) | (refine congrArg (Value.int _) ?_; dsimp only; omega))) (hp := ?_))
      trivial
end Go.Proofs.Ytgnhfinabhimpaa.Vw

/- yieldlaw9.SoloGrows, walked. -/
namespace Go.Proofs.Ytgnhfinabhimpaa.Vw
open Go.RowKit Go.Proofs.Ytgnhfinabhimpaa.Img
set_option linter.unusedVariables false
set_option linter.unusedSimpArgs false
attribute [local irreducible] Run Cod End OpT Still RunQ RunS RunT Fn PutOk
attribute [local irreducible] Vm.soloErr Vm.solo Ver.verify
/-- each feed, and more behind it -/
def both (f g : FL) (k : Nat) : List Int := (f.l.getD k default).l ++ (g.l.getD k default).l
set_option maxRecDepth 100000 in
set_option maxHeartbeats 2000000 in
theorem grows_is (m : ML) (hwf : m.Wf) (f g : FL) (h64 : ∀ l ∈ f.ws, ∀ v ∈ l, ImgM.In64 v) (g64 : ∀ l ∈ g.ws, ∀ v ∈ l, ImgM.In64 v) (hfb : f.l.length ≤ 1048576 ∧ ∀ k, (f.l.getD k default).l.length ≤ 1048576) (hgb : ∀ k, (g.l.getD k default).l.length ≤ 1048576) (task most : Int) :
    Fn Try.prog 4 #[m.val, .int .i64 task, f.val, g.val, .int .i64 most] [md m, fd f, fd g] [] (σ := Unit) (fun _ => True) (fun _ => .bool true) (fun _ => []) := by
  obtain ⟨hf1, hf2⟩ := hfb
  refine Fn.enter (args := [m.val, .int .i64 task, f.val, g.val, .int .i64 most]) Try.func4 rfl _ Try.ntmps4 rfl (by simp [fd_excl, md_excl]) (fun w S => ?_)
  (try conv => rhs; simp only [List.cons_append, List.nil_append])
  apply Cod.fact (g.l.length ≤ 9223372036854775807) (fun w hm => (fd_holds.1 (hm.has (c := fd g) (by (repeat (first | exact Take.head | apply Take.tail))))).small.1)
  intro hgs
  repeat (first | refine go (k := ?_) | (refine goB (k := ?_); intro b) | (refine goA (k := ?_); intro ao cap))
  obtain ⟨mb, rfl⟩ : ∃ x, x = b := ⟨_, rfl⟩
  (apply Run.op; exact rfl; refine OpT.call0_ (spec := alive9_is) (k := ?_); intro s hs; (try conv => rhs; simp only [List.cons_append, List.nil_append]))
  by_cases hne : ¬ (g.l.length : Int) = (f.l.length : Int)
  · repeat (first | refine go (k := ?_) | (refine goB (k := ?_); intro b) | (refine goA (k := ?_); intro ao cap))
    (refine End.done1_ (()) (he := by (first | exact rfl | (refine congrArg (Value.int _) ?_; omega) | (refine congrArg (Value.int _) ?_; dsimp only; omega))) (hp := ?_))
    trivial
  have hgf : g.l.length = f.l.length := by omega
  repeat (first | refine go (k := ?_) | (refine goB (k := ?_); intro b) | (refine goA (k := ?_); intro ao cap))
  apply Cod.imp (fun w hm => Mem.fdOut (f := f) (by (repeat (first | exact Take.head | apply Take.tail))) hm)
  apply Cod.imp (fun w hm => Mem.fdOut (f := g) (by (repeat (first | exact Take.head | apply Take.tail))) hm)
  apply Cod.imp (fun w hm => hm.nilArr 38 rwC)
  apply Cod.imp (fun w hm => hm.bagNil)
  refine Cod.only ((fun z => [old w S, md m, fd f, fd g, rd f.o f.l.length f.c rwC f.l, rd g.o g.l.length g.c rwC g.l, blk mb (mdV m) 25, arr z.2.1 z.1 z.2.2.1 38 rwC z.2.2.2, bag (z.2.2.2.map (rowM 2))]) (0, none, 0, [])) (by (repeat (first | exact Takes.nil | exact Take.head | apply Take.tail | apply Takes.cons))) ?_
  apply Cod.loop (σ := Nat × Option Addr × Nat × List Rw) (fun z => z.1 ≤ f.l.length ∧ z.2.2.2.length = z.1 ∧ ∀ k, k < z.1 → (z.2.2.2.getD k default).l = both f g k) (fun z => [(1, .int .i64 task), (2, f.val), (3, g.val), (4, .int .i64 most), (5, ptr mb), (11, .slice z.2.1 z.1 z.2.2.1), (26, .int .i64 (f.l.length : Int)), (27, .int .i64 (z.1 : Int))]) (fun z => [old w S, md m, fd f, fd g, rd f.o f.l.length f.c rwC f.l, rd g.o g.l.length g.c rwC g.l, blk mb (mdV m) 25, arr z.2.1 z.1 z.2.2.1 38 rwC z.2.2.2, bag (z.2.2.2.map (rowM 2))]) (fun z => f.l.length - z.1) (0, none, 0, [])
  rotate_left
  exact sb
  exact tks
  intro z hz K1 hK1
  (try conv => rhs; simp only [List.cons_append, List.nil_append])
  rotate_left
  · exact ⟨Nat.zero_le _, rfl, fun k hk => by omega⟩
  obtain ⟨q, ao, ac, rows⟩ := z
  obtain ⟨z1, z2, z3⟩ := hz
  dsimp only at z1 z2 z3 hK1 ⊢
  by_cases hq : q < f.l.length
  · have hl1 := hf2 q
    have hl2 := hgb q
    obtain ⟨ra, ha⟩ : ∃ a, a = f.l.getD q default := ⟨_, rfl⟩
    obtain ⟨rb, hb⟩ : ∃ b, b = g.l.getD q default := ⟨_, rfl⟩
    rw [← ha] at hl1
    rw [← hb] at hl2
    apply Cod.imp (fun w hm => Mem.fdRow (f := f) (k := q) hq (by (repeat (first | exact Take.head | apply Take.tail))) hm)
    apply Cod.imp (fun w hm => Mem.fdRow (f := g) (k := q) (by omega) (by (repeat (first | exact Take.head | apply Take.tail))) hm)
    repeat (first | refine go (k := ?_) | (refine goB (k := ?_); intro b) | (refine goA (k := ?_); intro ao cap))
    rw [← ha, ← hb]
    apply Cod.draw 99 ([rd f.o f.l.length f.c rwC f.l, rd g.o g.l.length g.c rwC g.l]) (by kernel_rfl) 15 rfl
    refine RunT.takeN_ 0 (h := ?_)
    refine RunT.takeN_ 2 (h := ?_)
    refine RunT.takeN_ 3 (h := ?_)
    refine RunT.takeN_ 4 (h := ?_)
    refine RunT.takeN_ 5 (h := ?_)
    refine RunT.takeN_ 7 (h := ?_)
    refine RunT.takeN_ 8 (h := ?_)
    refine RunT.takeN_ 9 (h := ?_)
    refine RunT.takeN_ 10 (h := ?_)
    rw [← ha, ← hb]
    (refine RunT.one_ 1 (h := ?_); (first | refine OpT.val_ (k := ?_) | (refine OpT.alloc_ (k := ?_); intro b) | (refine OpT.box_ (k := ?_); intro b) | refine OpT.store_ (k := ?_) | (refine OpT.buildSlice_ (k := ?_); intro b) | (refine OpT.buildSlice0_ (k := ?_); intro b) | (refine OpT.append1_ (k := ?_); intro ao cap) | (refine OpT.cutA0_ (k := ?_); intro ao cap) | (refine OpT.cutR0_ (k := ?_); intro ao cap) | (refine OpT.cutA1_ (k := ?_); intro ao cap) | (refine OpT.cutA_ (k := ?_); intro ao cap) | (refine OpT.cutR_ (k := ?_); intro ao cap)); refine And.intro gud ?_)
    refine RunT.imp (fun w hm => hm.toArr (iα := inferInstance) (ef := inferInstance) (e := 2) (f := i64c) (n := 0) .head ([] : List Int) rfl rfl (by unfold maxLen; simp)) ?_
    (refine RunT.one_ 6 (h := ?_); refine OpT.appendS_ (k := ?_); intro ao1 ac1; refine And.intro gud ?_)
    simp only [Nat.zero_add, List.nil_append]
    (refine RunT.one_ 11 (h := ?_); refine OpT.appendS_ (k := ?_); intro ao2 ac2; refine And.intro gud ?_)
    rw [← List.length_append]
    (refine RunT.one_ 12 (h := ?_); (first | refine OpT.val_ (k := ?_) | (refine OpT.alloc_ (k := ?_); intro b) | (refine OpT.box_ (k := ?_); intro b) | refine OpT.store_ (k := ?_) | (refine OpT.buildSlice_ (k := ?_); intro b) | (refine OpT.buildSlice0_ (k := ?_); intro b) | (refine OpT.append1_ (k := ?_); intro ao cap) | (refine OpT.cutA0_ (k := ?_); intro ao cap) | (refine OpT.cutR0_ (k := ?_); intro ao cap) | (refine OpT.cutA1_ (k := ?_); intro ao cap) | (refine OpT.cutA_ (k := ?_); intro ao cap) | (refine OpT.cutR_ (k := ?_); intro ao cap)); refine And.intro gud ?_)
    (refine RunT.one_ 13 (h := ?_); refine OpT.append1_ (a := (⟨ao2, ac2, ra.l ++ rb.l⟩ : Rw)) (k := ?_); intro ao cap; refine And.intro gud ?_; (try conv => rhs; simp only [List.cons_append, List.nil_append]))
    refine RunT.takeN_ 14 (h := ?_)
    (apply RunT.done; kernel_rfl)
    repeat (first | refine go (k := ?_) | (refine goB (k := ?_); intro b) | (refine goA (k := ?_); intro ao cap))
    have hrw : (rowM 2 ⟨ao2, ac2, ra.l ++ rb.l⟩).excl = true := arr_excl
    apply End.imp (fun w hm => Mem.bagAdd (ds := [rowM 2 ⟨ao2, ac2, ra.l ++ rb.l⟩]) hm (by (repeat (first | exact Take.head | apply Take.tail))) (by (repeat (first | exact Takes.nil | exact Take.head | apply Take.tail | apply Takes.cons))) (fun c hc => by simp at hc; subst hc; exact hrw))
    have hmp : rows.map (rowM 2) ++ [rowM 2 ⟨ao2, ac2, ra.l ++ rb.l⟩] = (rows ++ [(⟨ao2, ac2, ra.l ++ rb.l⟩ : Rw)]).map (rowM 2) := by simp
    rw [hmp]
    refine End.round0_ hK1 (q + 1, ao, cap, rows ++ [⟨ao2, ac2, ra.l ++ rb.l⟩]) ?_ ?_
    · refine ⟨by dsimp only; omega, by simp [z2], fun k hk => ?_⟩
      by_cases hkq : k < q
      · rw [show (rows ++ [(⟨ao2, ac2, ra.l ++ rb.l⟩ : Rw)]).getD k default = rows.getD k default by simp only [List.getD_eq_getElem?_getD]; rw [List.getElem?_append_left (by omega)]]
        exact z3 k hkq
      · obtain rfl : k = q := by dsimp only at hk; omega
        rw [show (rows ++ [(⟨ao2, ac2, ra.l ++ rb.l⟩ : Rw)]).getD k default = ⟨ao2, ac2, ra.l ++ rb.l⟩ by rw [← z2]; exact getD_split rows [] _]
        unfold both; rw [← ha, ← hb]
    · dsimp only; omega
  · obtain rfl : q = f.l.length := by omega
    obtain ⟨G, hG⟩ : ∃ G : FL, G = ⟨ao, ac, rows⟩ := ⟨_, rfl⟩
    have eo : ao = G.o := by rw [hG]
    have ec : ac = G.c := by rw [hG]
    have er : rows = G.l := by rw [hG]
    have el : f.l.length = G.l.length := by rw [hG]; exact z2.symm
    have hGk : ∀ k, k < f.l.length → (G.l.getD k default).l = both f g k := by rw [hG]; exact z3
    have hG64 : ∀ l ∈ G.ws, ∀ v ∈ l, ImgM.In64 v := fun l hl v hv => by
      obtain ⟨r, hr, rfl⟩ := List.mem_map.1 hl
      obtain ⟨k, hk, rfl⟩ := List.getElem_of_mem hr
      have h1 := hGk k (by omega)
      rw [show G.l.getD k default = G.l[k] by simp [List.getD_eq_getElem?_getD, List.getElem?_eq_getElem hk]] at h1
      rw [h1] at hv
      unfold both at hv
      rcases List.mem_append.1 hv with hv | hv
      · exact h64 _ (List.mem_map.2 ⟨_, rw_mem (show k < f.l.length by omega), rfl⟩) v hv
      · exact g64 _ (List.mem_map.2 ⟨_, rw_mem (show k < g.l.length by omega), rfl⟩) v hv
    have hGpre : ∀ k, k < f.l.length → f.ws.getD k [] <+: G.ws.getD k [] := fun k hk => by
      rw [getD_ws, getD_ws, hGk k hk]
      exact List.prefix_append _ _
    clear hG z3 hK1
    subst eo ec er
    apply Cod.imp (fun w hm => fd_own (f := G) (t := 2) (e := 38) (by rw [el]; (repeat (first | exact Takes.nil | exact Take.head | apply Take.tail | apply Takes.cons))) hm)
    rw [el]
    rw [el] at z2 z1 hf1 hgf hGk hGpre
    repeat (first | refine go (k := ?_) | (refine goB (k := ?_); intro b) | (refine goA (k := ?_); intro ao cap))
    ((first | (apply Run.op; exact rfl) | refine Run.yes_ (h := ?_)); refine OpT.call0_ (spec := solo_is m hwf f h64 task most) (r := (fun w => Reads.md (by (repeat (first | exact Take.head | apply Take.tail))) (Reads.any (by (repeat (first | exact Take.head | apply Take.tail))) fd_excl .nil))) (k := ?_); intro s hs; (try conv => rhs; simp only [List.cons_append, List.nil_append]))
    obtain ⟨a, rfl⟩ : ∃ x, x = s := ⟨_, rfl⟩
    have ha := hs
    repeat (first | refine go (k := ?_) | (refine goB (k := ?_); intro b) | (refine goA (k := ?_); intro ao cap))
    obtain ⟨ab, rfl⟩ : ∃ x, x = b := ⟨_, rfl⟩
    ((first | (apply Run.op; exact rfl) | refine Run.yes_ (h := ?_)); refine OpT.call0_ (spec := solo_is m hwf G hG64 task most) (r := (fun w => Reads.md (by (repeat (first | exact Take.head | apply Take.tail))) (Reads.any (by (repeat (first | exact Take.head | apply Take.tail))) fd_excl .nil))) (k := ?_); intro s hs; (try conv => rhs; simp only [List.cons_append, List.nil_append]))
    obtain ⟨c, rfl⟩ : ∃ x, x = s := ⟨_, rfl⟩
    have hc := hs
    obtain ⟨e1, he1⟩ : ∃ e, e = Vm.soloErr m.mdl task f.ws most := ⟨_, rfl⟩
    obtain ⟨e2, he2⟩ : ∃ e, e = Vm.soloErr m.mdl task G.ws most := ⟨_, rfl⟩
    rw [← he1, ← he2]
    by_cases c1 : ¬ e1 = 0
    · repeat (first | refine go (k := ?_) | (refine goB (k := ?_); intro b) | (refine goA (k := ?_); intro ao cap))
      (refine End.done1_ (()) (he := by (first | exact rfl | (refine congrArg (Value.int _) ?_; omega) | (refine congrArg (Value.int _) ?_; dsimp only; omega))) (hp := ?_))
      trivial
    have c1 := Classical.not_not.1 c1
    by_cases c2 : ¬ e2 = 0
    · repeat (first | refine go (k := ?_) | (refine goB (k := ?_); intro b) | (refine goA (k := ?_); intro ao cap))
      (refine End.done1_ (()) (he := by (first | exact rfl | (refine congrArg (Value.int _) ?_; omega) | (refine congrArg (Value.int _) ?_; dsimp only; omega))) (hp := ?_))
      trivial
    have c2 := Classical.not_not.1 c2
    subst c1 c2
    have hg := solo_good he1.symm
    have hI1 := soloOk ha he1.symm
    have hI2 := soloOk hc he2.symm
    obtain ⟨T, hC⟩ := certs_ml hwf hg.ver
    have ht1 := hg.t0
    have ht2 := hg.tl
    obtain ⟨hu1, hu2⟩ := tasks_mem (m := m) (k := task.toNat) (by omega)
    have hlen2 := hg.len
    obtain ⟨g2, g3⟩ := Vm.solo_grows hC (fed_of hg.len h64 hg.fed) (G := G.ws) ⟨fun k hk => hGpre k (by have : k < m.bx.length := hk; omega)⟩ (u := unitOf m task) (by rw [show m.mdl.units.length = m.us.length by simp]; exact hu1) (by unfold Vm.unt; rw [ML.unit_at]; exact hu2) (by simp [el]) most.toNat
    obtain ⟨p1, p2, p3⟩ := RpL.row_pre hI1 hI2 g3
    have s2 : a.steps ≤ c.steps := by rw [hI1.steps, hI2.steps]; exact g2
    have hal : a.sent.length = m.bx.length := by
      have h1 := congrArg List.length hI1.sent
      rw [List.length_map, sent_len hwf hg h64] at h1
      exact h1
    have hb30 : m.bx.length ≤ 30 := (formed (Ver.verify_iff.1 hg.ver).form).boxes
    clear hI1 hI2 g2 g3 ha hc ht1 ht2
    apply Run.imp' (fun w hm => rep_own a (by (repeat (first | exact Takes.nil | exact Take.head | apply Take.tail | apply Takes.cons))) hm)
    apply Run.imp' (fun w hm => rep_own c (by (repeat (first | exact Takes.nil | exact Take.head | apply Take.tail | apply Takes.cons))) hm)
    (try conv => rhs; simp only [List.cons_append, List.nil_append])
    repeat (first | refine go (k := ?_) | (refine goB (k := ?_); intro b) | (refine goA (k := ?_); intro ao cap))
    (apply Run.op; exact rfl; refine OpT.call0_ (spec := begins_is a.row c.row p1) (k := ?_); intro s hs; (try conv => rhs; simp only [List.cons_append, List.nil_append]))
    repeat (first | refine go (k := ?_) | (refine goB (k := ?_); intro b) | (refine goA (k := ?_); intro ao cap))
    obtain ⟨cb, rfl⟩ : ∃ x, x = b := ⟨_, rfl⟩
    apply Cod.imp (fun w hm => Mem.fdOut (f := a.fl) (by (repeat (first | exact Take.head | apply Take.tail))) hm)
    apply Cod.imp (fun w hm => Mem.fdOut (f := c.fl) (by (repeat (first | exact Take.head | apply Take.tail))) hm)
    refine Cod.only ((fun k => [old w S, fd a.fl, fd c.fl, rd a.so a.sent.length a.sc rwC a.sent, rd c.so c.sent.length c.sc rwC c.sent, blk ab a.cells 40, blk cb c.cells 40]) 0) (by (repeat (first | exact Takes.nil | exact Take.head | apply Take.tail | apply Takes.cons))) ?_
    apply Cod.loop (σ := Nat) (fun k => k ≤ a.sent.length) (fun k => [(13, ptr ab), (15, ptr cb), (91, .int .i64 (a.sent.length : Int)), (92, .int .i64 (k : Int))]) (fun k => [old w S, fd a.fl, fd c.fl, rd a.so a.sent.length a.sc rwC a.sent, rd c.so c.sent.length c.sc rwC c.sent, blk ab a.cells 40, blk cb c.cells 40]) (fun k => a.sent.length - k) 0
    rotate_left
    exact sb
    exact tks
    intro k hk K1 hK1
    (try conv => rhs; simp only [List.cons_append, List.nil_append])
    rotate_left
    · exact Nat.zero_le _
    by_cases hkn : k < a.sent.length
    · apply Cod.imp (fun w hm => Mem.fdRow (f := a.fl) (k := k) hkn (by (repeat (first | exact Take.head | apply Take.tail))) hm)
      apply Cod.imp (fun w hm => Mem.fdRow (f := c.fl) (k := k) (by show k < c.sent.length; omega) (by (repeat (first | exact Take.head | apply Take.tail))) hm)
      repeat (first | refine go (k := ?_) | (refine goB (k := ?_); intro b) | (refine goA (k := ?_); intro ao cap))
      (apply Run.op; exact rfl; refine OpT.call0_ (spec := begins_is (a.sent.getD k default) (c.sent.getD k default) (p3 k)) (k := ?_); intro s hs; (try conv => rhs; simp only [List.cons_append, List.nil_append]))
      repeat (first | refine go (k := ?_) | (refine goB (k := ?_); intro b) | (refine goA (k := ?_); intro ao cap))
      refine End.round0_ hK1 (k + 1) ?_ ?_
      · omega
      · omega
    · repeat (first | refine go (k := ?_) | (refine goB (k := ?_); intro b) | (refine goA (k := ?_); intro ao cap))
      (refine End.done1_ (()) (he := by (first | exact rfl | (refine congrArg (Value.int _) ?_; omega) | (refine congrArg (Value.int _) ?_; dsimp only; omega))) (hp := ?_))
      trivial
end Go.Proofs.Ytgnhfinabhimpaa.Vw

/- How the arguments' data are read: a slice's cells out of its reading ('read_slice'); what a law owes at its end ('law_post'). Of whatever program. -/
namespace Go.Proofs.Ytgnhfinabhimpaa
open Go.RowKit Go.ChangeShapes Go.WideShapes Go.ChangeAt
set_option linter.unusedVariables false

section
variable {H : Type} {enc : TypeId × Value → H} {P : Program} {w : World}

abbrev Trd (enc : TypeId × Value → H) (P : Program) (w : World) (fuel : Nat) (t : TypeId) (cs : List Value) (x : DataW H × List MemPlace) : Prop :=
  DataW.trod enc P w 0 (fun _ => true) true fuel t cs = some x

/-- every weight of a datum is within the reach -/
def Fits (P : Program) (t : TypeId) (d : DataW H) : Prop := ∀ n ∈ d.weights P t, n ≤ reachBytes

theorem fits_all {e : TypeId} : ∀ {l : List (DataW H)}, (∀ n ∈ DataW.weightsAll P e l, n ≤ reachBytes) → ∀ d ∈ l, Fits P e d
  | [], _, d, hd => by cases hd
  | x :: r, h, d, hd => by
    simp only [DataW.weightsAll, List.mem_append] at h
    rcases List.mem_cons.1 hd with rfl | hd
    · exact fun n hn => h n (.inl hn)
    · exact fits_all (fun n hn => h n (.inr hn)) d hd

theorem fits_each {ts : List TypeId} {ds : List (DataW H)} (h : ∀ n ∈ DataW.weightsEach P ts ds, n ≤ reachBytes) {j : Nat} {t : TypeId} {d : DataW H} (ht : ts[j]? = some t) (hd : ds[j]? = some d) : Fits P t d :=
  fun n hn => h n (DataW.weights_mem_each ht hd n hn)

/-- A SLICE, READ: its elements' cells are those of a list, if each element's are those of a thing. -/
theorem read_slice {α : Type} [Inhabited α] {t e : TypeId} {size : Nat} (f : α → List Value) (Q : α → Prop) (ht : P.underlying t = some (.slice e)) (hc : P.cellsOf e = size) (hs : 0 < size)
    (hel : ∀ fuel cs x, Trd enc P w fuel e cs x → Fits P e x.1 → cs.length = size → ∃ a, cs = f a ∧ Q a)
    {fuel : Nat} {cs : List Value} {x : DataW H × List MemPlace} (h : Trd enc P w fuel t cs x) (hf : Fits P t x.1) :
    ∃ (v : Value) (l : List α), cs = [v] ∧ Row w v size l.length (l.flatMap f) ∧ (∀ a ∈ l, Q a) ∧ l.length * P.bytesOf e ≤ reachBytes ∧ (∀ b, v.ownBlock = some b → 0 < l.length → b < w.heap.size) := by
  rcases Deep.open_slice ht h with ⟨rfl, rfl⟩ | ⟨a, len, cap, m, n, D, Pl, rfl, hb, hl, hm, hmm, rfl, hx⟩
  · exact ⟨_, [], rfl, ⟨by simp, Nat.zero_le _, none, 0, rfl, Nat.le_refl _, fun h => by simp at h⟩, by simp, by simp, fun b h => by cases h⟩
  · simp only [if_true] at hmm
    subst hmm
    have hw := hf
    simp only [Fits, DataW.weights, ht, List.mem_cons, List.mem_append] at hw
    have hel' : ∀ i, i < len → ∃ y : α, (∀ j, j < size → w.cell? (a.add (i * size + j)) = (f y)[j]?) ∧ (f y).length = size ∧ Q y := by
      intro i hi
      obtain ⟨cs', h1, h2⟩ := hx i (by omega)
      rw [hc] at h1
      obtain ⟨-, h3, h4⟩ := World.cells?_some h1
      obtain ⟨y, rfl, hq⟩ := hel n cs' (D i, Pl i) h2 (fits_all (fun n hn => hw n (.inr (.inl hn))) (D i) (List.mem_map.2 ⟨i, by simpa using hi, rfl⟩)) h3
      refine ⟨y, fun j hj => ?_, h3, hq⟩
      rw [← Deep.add_add]
      exact h4 j hj
    obtain ⟨F, hF⟩ := Deep.choose_lt hel'
    refine ⟨_, (List.range len).map F, rfl, ?_, ?_, ?_, ?_⟩
    · have hlen : ∀ m, m ≤ len → (((List.range m).map F).flatMap f).length = m * size := by
        intro m hm
        induction m with
        | zero => simp
        | succ m ih =>
          rw [List.range_succ, List.map_append, List.flatMap_append, List.length_append, ih (by omega)]
          simp [(hF m (by omega)).2.1, Nat.add_mul]
      have hget : ∀ m, m ≤ len → ∀ j, j < m * size → w.cell? (a.add j) = (((List.range m).map F).flatMap f)[j]? := by
        intro m hm
        induction m with
        | zero => intro j hj; simp at hj
        | succ m ih =>
          intro j hj
          rw [List.range_succ, List.map_append, List.flatMap_append]
          by_cases hjm : j < m * size
          · rw [List.getElem?_append_left (by rw [hlen m (by omega)]; exact hjm)]
            exact ih (by omega) j hjm
          · rw [List.getElem?_append_right (by rw [hlen m (by omega)]; omega), hlen m (by omega)]
            have := (hF m (by omega)).1 (j - m * size) (by rw [Nat.add_mul] at hj; omega)
            rw [show m * size + (j - m * size) = j by omega] at this
            simpa using this
      refine ⟨by simp only [List.length_map, List.length_range]; exact hlen len (Nat.le_refl _), by simp; omega, some a, m, by simp, by simpa using hl, fun hpos => ?_⟩
      simp only [List.length_map, List.length_range] at hpos ⊢
      have h0 := hget len (Nat.le_refl _) 0 (Nat.mul_pos hpos hs)
      have hsome : (w.cell? (a.add 0)).isSome = true := by
        rw [h0, List.getElem?_eq_getElem (by rw [hlen len (Nat.le_refl _)]; exact Nat.mul_pos hpos hs)]; rfl
      obtain ⟨b, off, spot⟩ := a
      have hspot : spot = none := by
        cases spot with
        | none => rfl
        | some s =>
          unfold World.cell? Addr.add at hsome
          split at hsome <;> simp_all
      subst hspot
      exact ⟨b, off, rfl, fun j hj => by rw [← Addr.add_lit]; exact hget len (Nat.le_refl _) j hj⟩
    · intro y hy
      obtain ⟨i, hi, rfl⟩ := List.mem_map.1 hy
      exact (hF i (by simpa using hi)).2.2
    · have := hw _ (.inl rfl)
      simp only [List.length_map, List.length_range] at this ⊢
      refine Nat.le_trans (Nat.mul_le_mul_right _ ?_) this
      omega
    · intro b hb' hpos
      simp only [List.length_map, List.length_range] at hpos
      simp [Value.ownBlock] at hb'
      subst hb'
      obtain ⟨y, hy1, hy2, -⟩ := hel' 0 hpos
      have := hy1 0 hs
      rw [List.getElem?_eq_getElem (by omega)] at this
      have hlt := World.block_lt_of_cell? w _ this
      have e1 : (a.add (0 * size + 0)).block = a.block := by unfold Addr.add; split <;> rfl
      rwa [e1] at hlt

theorem wf_i64 {n : Int} (h : (Lit.int .i64 n).wf = true) : -9223372036854775808 ≤ n ∧ n ≤ 9223372036854775807 := by
  simpa [Lit.wf, IntKind.min, IntKind.max, IntKind.signed, IntKind.bits] using h
theorem wf_u8 {n : Int} (h : (Lit.int .u8 n).wf = true) : 0 ≤ n ∧ n ≤ 255 := by
  simpa [Lit.wf, IntKind.min, IntKind.max, IntKind.signed, IntKind.bits] using h

/-- an int64 or int element -/
theorem el_i64 {e : TypeId} (he : P.underlying e = some (.int .i64)) : ∀ fuel cs (x : DataW H × List MemPlace), Trd enc P w fuel e cs x → Fits P e x.1 → cs.length = 1 → ∃ n : Int, cs = [.int .i64 n] ∧ (-9223372036854775808 ≤ n ∧ n ≤ 9223372036854775807) := by
  intro fuel cs x h _ _
  obtain ⟨n, rfl, _, hw⟩ := DataW.trod_int he h
  exact ⟨n, rfl, wf_i64 hw⟩

/-- what a law owes at its end: true, and nothing of old memory has turned -/
theorem law_post {f : Func} {s : ChangeSpec} {W W' : World} {args : Array Value} {ds gs : List (DataW H)} {before : List MemPlace} {tb : TypeId}
    (hl : laidOutB P = true) (hr : ∀ t ∈ f.params.toList, P.readableRec t = true ∧ t < P.types.size) (hrt : f.resultTypes = #[tb]) (htb : P.underlying tb = some .bool) (hsv : s.vars = [])
    (hW : DataW.Whole enc P f.params.toList s.vars false W args.toList ds gs before) (hfn : (s.fn H (ds ++ gs)) = { results := [.lit (.bool true)], args := ds }) (hb : Below W.heap.size W W') :
    s.post enc P f false true false false W args (.bool true) W' := by
  have hlt := hW.lt
  have hW0 := hW
  obtain ⟨p, q, hA, hV, rfl, hfz, hnd⟩ := hW
  rw [hsv] at hV
  obtain ⟨rfl, rfl⟩ := trodVars_none hV
  have key : ∀ (ts : List TypeId) (vs : List Value) (ds : List (DataW H)) (p : List MemPlace), (∀ t ∈ ts, P.readableRec t = true ∧ t < P.types.size) → (∀ x ∈ p, x.block < W.heap.size) →
      DataW.TrodAll enc P W 0 (fun _ => true) true ts vs ds p → DataW.TrodAll enc P W' 0 (fun b => decide (b < W.heap.size)) true ts vs ds p := by
    intro ts
    induction ts with
    | nil => intro vs ds p _ _ h; cases vs <;> cases ds <;> simp_all [DataW.TrodAll]
    | cons t ts ih =>
      intro vs ds p h1 h2 h
      cases vs with
      | nil => simp [DataW.TrodAll] at h
      | cons v vs =>
        cases ds with
        | nil => simp [DataW.TrodAll] at h
        | cons d ds =>
          obtain ⟨p1, p2, h3, h4, rfl⟩ := h
          have ht := h1 t (by simp)
          exact ⟨p1, p2, Below.trod hl ht.1 ht.2 h3 hb (fun x hx => h2 x (by simp [hx])), ih vs ds p2 (fun t ht => h1 t (by simp [ht])) (fun x hx => h2 x (by simp [hx])) h4, rfl⟩
  refine ⟨ds, [], _, [], p, [], hW0, ?_, ?_, ?_, hb.frame _, fun h => by cases h⟩
  · rw [hfn, hrt]
    exact trodAll_mk1 (shut_bool htb true)
  · rw [hfn]
    exact key _ _ _ _ hr (fun x hx => hlt x (by simp [hx])) hA
  · rw [hfn, hsv]
    rfl
end
end Go.Proofs.Ytgnhfinabhimpaa
