/- yieldref9's comparisons, walked: of what is alike; a report of one's own becomes one that is only read. -/
import Derived.Test.YtfeajpghabjaaaaM36
import Derived.ProofKit
import Derived.OpenShut
import Derived.JoinedCond
import Derived.SizedLaws
import Derived.Deep.Slices
import Derived.Carry
import Derived.Test.YtfeajpghabjaaaaRows
import Derived.Deep.Strs
import Derived.ChangeSame
import Derived.Lib.SmallJoins
namespace Go.Proofs.Ytfeajpghabjaaaa.Vw
open Go.RowKit Go.Proofs.Ytfeajpghabjaaaa.Img
set_option linter.unusedVariables false
set_option linter.unusedSimpArgs false
attribute [local irreducible] Run Cod End OpT Still RunQ RunS RunT Fn PutOk
abbrev rdRow (r : Rw) : Chunk := rd r.o r.l.length r.c i64c r.l
set_option maxRecDepth 100000 in
theorem same9_is (a b : Rw) (h : a.l = b.l) : Fn Try.prog 29 #[.slice a.o a.l.length a.c, .slice b.o b.l.length b.c] [rdRow a, rdRow b] [] (σ := Unit) (fun _ => True) (fun _ => .bool true) (fun _ => []) := by
  obtain ⟨ao, ac, l⟩ := a
  obtain ⟨bo, bc, l'⟩ := b
  dsimp only at h ⊢
  subst h
  refine Fn.enter (args := [.slice ao l.length ac, .slice bo l.length bc]) Try.func29 rfl _ Try.ntmps29 rfl (by simp [rd_excl, md_excl]) (fun w S => ?_)
  (try conv => rhs; simp only [List.cons_append, List.nil_append])
  apply Cod.fact (l.length ≤ 9223372036854775807) (fun w hm => (rd_holds.1 (hm.has (c := rd ao l.length ac i64c l) (by (repeat (first | exact Take.head | apply Take.tail))))).1.2.1)
  intro hn
  repeat (first | refine go (k := ?_) | (refine goB (k := ?_); intro b) | (refine goA (k := ?_); intro ao cap))
  refine Cod.only ((fun k => [old w S, rd ao l.length ac i64c l, rd bo l.length bc i64c l]) 0) (by (repeat (first | exact Takes.nil | exact Take.head | apply Take.tail | apply Takes.cons))) ?_
  apply Cod.loop (σ := Nat) (fun k => k ≤ l.length) (fun k => [(0, .slice ao l.length ac), (1, .slice bo l.length bc), (12, .int .i64 (l.length : Int)), (13, .int .i64 (k : Int))]) (fun k => [old w S, rd ao l.length ac i64c l, rd bo l.length bc i64c l]) (fun k => l.length - k) 0
  rotate_left
  exact sb
  exact tks
  intro k hk K1 hK1
  (try conv => rhs; simp only [List.cons_append, List.nil_append])
  rotate_left
  · exact Nat.zero_le _
  by_cases hkn : k < l.length
  · repeat (first | refine go (k := ?_) | (refine goB (k := ?_); intro b) | (refine goA (k := ?_); intro ao cap))
    refine End.round0_ hK1 (k + 1) ?_ ?_
    · omega
    · omega
  · repeat (first | refine go (k := ?_) | (refine goB (k := ?_); intro b) | (refine goA (k := ?_); intro ao cap))
    (refine End.done1_ (()) (he := by (first | exact rfl | (refine congrArg (Value.int _) ?_; omega) | (refine congrArg (Value.int _) ?_; dsimp only; omega))) (hp := ?_))
    trivial
set_option maxRecDepth 100000 in
theorem sameAll_is (f g : FL) (h : f.ws = g.ws) : Fn Try.prog 30 #[f.val, g.val] [fd f, fd g] [] (σ := Unit) (fun _ => True) (fun _ => .bool true) (fun _ => []) := by
  have hl : g.l.length = f.l.length := by have := congrArg List.length h; simpa using this.symm
  have hr : ∀ k, (g.l.getD k default).l = (f.l.getD k default).l := fun k => by rw [← getD_ws, ← getD_ws, ← (show f.l.map (·.l) = g.l.map (·.l) from h)]
  refine Fn.enter (args := [f.val, g.val]) Try.func30 rfl _ Try.ntmps30 rfl (by simp [fd_excl]) (fun w S => ?_)
  (try conv => rhs; simp only [List.cons_append, List.nil_append])
  apply Cod.fact (f.l.length ≤ 9223372036854775807 ∧ ∀ k, k < f.l.length → (f.l.getD k default).l.length ≤ 9223372036854775807) (fun w hm => (fd_holds.1 (hm.has (by (repeat (first | exact Take.head | apply Take.tail))))).small)
  intro hfs
  apply Cod.imp (fun w hm => Mem.fdOut (f := f) (by (repeat (first | exact Take.head | apply Take.tail))) hm)
  apply Cod.imp (fun w hm => Mem.fdOut (f := g) (by (repeat (first | exact Take.head | apply Take.tail))) hm)
  repeat (first | refine go (k := ?_) | (refine goB (k := ?_); intro b) | (refine goA (k := ?_); intro ao cap))
  refine Cod.only ((fun k => [old w S, fd f, fd g, rd f.o f.l.length f.c rwC f.l, rd g.o g.l.length g.c rwC g.l]) 0) (by (repeat (first | exact Takes.nil | exact Take.head | apply Take.tail | apply Takes.cons))) ?_
  apply Cod.loop (σ := Nat) (fun k => k ≤ f.l.length) (fun k => [(0, f.val), (1, g.val), (12, .int .i64 (f.l.length : Int)), (13, .int .i64 (k : Int))]) (fun k => [old w S, fd f, fd g, rd f.o f.l.length f.c rwC f.l, rd g.o g.l.length g.c rwC g.l]) (fun k => f.l.length - k) 0
  rotate_left
  exact sb
  exact tks
  intro k hk K1 hK1
  (try conv => rhs; simp only [List.cons_append, List.nil_append])
  rotate_left
  · exact Nat.zero_le _
  by_cases hkn : k < f.l.length
  · apply Cod.imp (fun w hm => Mem.fdRow (f := f) (k := k) hkn (by (repeat (first | exact Take.head | apply Take.tail))) hm)
    apply Cod.imp (fun w hm => Mem.fdRow (f := g) (k := k) (by omega) (by (repeat (first | exact Take.head | apply Take.tail))) hm)
    repeat (first | refine go (k := ?_) | (refine goB (k := ?_); intro b) | (refine goA (k := ?_); intro ao cap))
    (apply Run.op; exact rfl; refine OpT.call0_ (spec := same9_is (f.l.getD k default) (g.l.getD k default) (hr k).symm) (k := ?_); intro s hs; (try conv => rhs; simp only [List.cons_append, List.nil_append]))
    repeat (first | refine go (k := ?_) | (refine goB (k := ?_); intro b) | (refine goA (k := ?_); intro ao cap))
    refine End.round0_ hK1 (k + 1) ?_ ?_
    · omega
    · omega
  · repeat (first | refine go (k := ?_) | (refine goB (k := ?_); intro b) | (refine goA (k := ?_); intro ao cap))
    (refine End.done1_ (()) (he := by (first | exact rfl | (refine congrArg (Value.int _) ?_; omega) | (refine congrArg (Value.int _) ?_; dsimp only; omega))) (hp := ?_))
    trivial
/-- a report that is only read -/
def RpL.fl (r : RpL) : FL := ⟨r.so, r.sc, r.sent⟩
abbrev RpL.rds (r : RpL) : List Chunk := [rd r.oo r.out.length r.oc i64c r.out, fd r.fl, rd r.ko r.took.length r.kc natC r.took]
theorem rd_own {w : World} {L F : List Chunk} {α : Type} {iα : Inhabited α} {ao : Option Addr} {n cap : Nat} {e : TypeId} {f : α → List Value} {ef : Enc f} {l : List α} (t : Takes [arr ao n cap e f l] L F) (h : Mem w L) : Mem w (rd ao n cap f l :: F) := by
  have ht := h.takes t
  have a1 := arr_holds.1 (ht.all _ (.head _))
  exact Mem.toRead t h (rd_holds.2 ⟨a1.1.row Enc.pos, a1.2⟩) rd_excl (fun b hb => ⟨_, .head _, arr_foot.2 ⟨(rd_foot.1 hb).1, Nat.lt_of_lt_of_le (rd_foot.1 hb).2 a1.1.le⟩⟩)
theorem fd_own {w : World} {L F : List Chunk} {f : FL} {t : TypeId} {e : TypeId} (tk : Takes [arr f.o f.l.length f.c e rwC f.l, bag (f.l.map (rowM t))] L F) (h : Mem w L) : Mem w (fd f :: F) := by
  have ht := h.takes tk
  have a1 := arr_holds.1 (ht.all _ (.head _))
  have a2 := bag_holds.1 (ht.all _ (.tail _ (.head _)))
  have hrow : ∀ r ∈ f.l, (rowM t r).holds w := fun r hr => a2.1.all _ (List.mem_map.2 ⟨r, hr, rfl⟩)
  refine Mem.toRead tk h (fd_holds.2 ⟨a1.1.row Enc.pos, fun r hr => (arr_holds.1 (hrow r hr)).1.row Enc.pos⟩) fd_excl (fun b hb => ?_)
  rcases fd_foot.1 hb with ⟨h1, h2⟩ | ⟨r, hr, h1, h2⟩
  · exact ⟨_, .head _, arr_foot.2 ⟨h1, Nat.lt_of_lt_of_le h2 a1.1.le⟩⟩
  · exact ⟨_, .tail _ (.head _), bag_foot.2 ⟨_, List.mem_map.2 ⟨r, hr, rfl⟩, arr_foot.2 ⟨h1, Nat.lt_of_lt_of_le h2 (arr_holds.1 (hrow r hr)).1.le⟩⟩⟩
theorem rep_own {w : World} {L F : List Chunk} (r : RpL) (t : Takes r.mem L F) (h : Mem w L) : Mem w (r.rds ++ F) := by
  have h1 : Mem w (r.mem ++ F) := h.takes t
  have h2 := rd_own (α := Int) (ao := r.oo) (n := r.out.length) (cap := r.oc) (e := 2) (f := i64c) (l := r.out) (L := r.mem ++ F) (by exact .cons .head .nil) h1
  have h3 := fd_own (f := r.fl) (t := 2) (e := 41) (by exact .cons (.tail .head) (.cons (.tail .head) .nil)) h2
  have h4 := rd_own (α := Nat) (ao := r.ko) (n := r.took.length) (cap := r.kc) (e := 3) (f := natC) (l := r.took) (by exact .cons (.tail (.tail .head)) .nil) h3
  have p : (rd r.ko r.took.length r.kc natC r.took :: fd r.fl :: rd r.oo r.out.length r.oc i64c r.out :: F).Perm (r.rds ++ F) := by
    simp only [RpL.rds, List.cons_append, List.nil_append]
    exact ((List.Perm.swap _ _ _).trans (List.Perm.cons _ (List.Perm.swap _ _ _))).trans ((List.Perm.swap _ _ _))
  exact h4.perm p
end Go.Proofs.Ytfeajpghabjaaaa.Vw

/- yieldref9.SameReport and yieldlaw9.alive, walked. -/
namespace Go.Proofs.Ytfeajpghabjaaaa.Vw
open Go.RowKit Go.Proofs.Ytfeajpghabjaaaa.Img
set_option linter.unusedVariables false
set_option linter.unusedSimpArgs false
attribute [local irreducible] Run Cod End OpT Still RunQ RunS RunT Fn PutOk
/-- two reports of the same -/
structure RpL.Eq (r s : RpL) : Prop where
  st : r.st = s.st
  bx : r.bx = s.bx
  tr : r.tr = s.tr
  out : r.out = s.out
  sent : r.fl.ws = s.fl.ws
  took : r.took = s.took
  steps : r.steps = s.steps
theorem RpL.Is.eq {r s : RpL} {x : Nat × (Vm.Tk × Vm.Ls)} (h : r.Is x) (k : s.Is x) : r.Eq s :=
  ⟨h.st.trans k.st.symm, h.bx.trans k.bx.symm, h.tr.trans k.tr.symm, h.out.trans k.out.symm, h.sent.trans k.sent.symm, h.took.trans k.took.symm, h.steps.trans k.steps.symm⟩
abbrev RpL.row (r : RpL) : Rw := ⟨r.oo, r.oc, r.out⟩
set_option maxRecDepth 100000 in
set_option maxHeartbeats 1000000 in
theorem sameRep_is (r q : RpL) (h : r.Eq q) : Fn Try.prog 15 #[.agg r.cells.toArray, .agg q.cells.toArray] (r.rds ++ q.rds) [] (σ := Unit) (fun _ => True) (fun _ => .bool true) (fun _ => []) := by
  obtain ⟨e1, e2, e3, e4, e5, e6, e7⟩ := h
  have e8 : q.sent.length = r.sent.length := by have := congrArg List.length e5; simpa [RpL.fl] using this.symm
  have e9 : r.took.length = q.took.length := congrArg List.length e6
  refine Fn.enter (args := [.agg r.cells.toArray, .agg q.cells.toArray]) Try.func15 rfl _ Try.ntmps15 rfl (by simp [fd_excl, rd_excl]) (fun w S => ?_)
  (try conv => rhs; simp only [List.cons_append, List.nil_append])
  apply Cod.fact (r.took.length ≤ 9223372036854775807) (fun w hm => (rd_holds.1 (hm.has (c := rd r.ko r.took.length r.kc natC r.took) (by (repeat (first | exact Take.head | apply Take.tail))))).1.2.1)
  intro h2
  repeat (first | refine go (k := ?_) | (refine goB (k := ?_); intro b) | (refine goA (k := ?_); intro ao cap))
  (first | (apply Run.op; exact rfl) | refine Run.yes_ (h := ?_)); refine OpT.call0_ (spec := same9_is r.row q.row e4) (k := ?_); intro s hs; (try conv => rhs; simp only [List.cons_append, List.nil_append])
  repeat (first | refine go (k := ?_) | (refine goB (k := ?_); intro b) | (refine goA (k := ?_); intro ao cap))
  ((first | (apply Run.op; exact rfl) | refine Run.yes_ (h := ?_)); refine OpT.call0_ (spec := sameAll_is r.fl q.fl e5) (r := (fun w => Reads.any (by (repeat (first | exact Take.head | apply Take.tail))) fd_excl (Reads.any (by (repeat (first | exact Take.head | apply Take.tail))) fd_excl (.nil)))) (k := ?_); intro s hs; (try conv => rhs; simp only [List.cons_append, List.nil_append]))
  repeat (first | refine go (k := ?_) | (refine goB (k := ?_); intro b) | (refine goA (k := ?_); intro ao cap))
  obtain ⟨bb, rfl⟩ : ∃ x, x = b := ⟨_, rfl⟩
  obtain ⟨ba, rfl⟩ : ∃ x, x = b := ⟨_, rfl⟩
  refine Cod.only ((fun k => [old w S, rd r.ko r.took.length r.kc natC r.took, rd q.ko q.took.length q.kc natC q.took, blk ba r.cells 43, blk bb q.cells 43]) 0) (by (repeat (first | exact Takes.nil | exact Take.head | apply Take.tail | apply Takes.cons))) ?_
  apply Cod.loop (σ := Nat) (fun k => k ≤ r.took.length) (fun k => [(2, ptr ba), (3, ptr bb), (59, .int .i64 (r.took.length : Int)), (60, .int .i64 (k : Int))]) (fun k => [old w S, rd r.ko r.took.length r.kc natC r.took, rd q.ko q.took.length q.kc natC q.took, blk ba r.cells 43, blk bb q.cells 43]) (fun k => r.took.length - k) 0
  rotate_left
  exact sb
  exact tks
  intro k hk K1 hK1
  (try conv => rhs; simp only [List.cons_append, List.nil_append])
  rotate_left
  · exact Nat.zero_le _
  by_cases hkn : k < r.took.length
  · have hkk : r.took.getD k default = q.took.getD k default := by rw [e6]
    repeat (first | refine go (k := ?_) | (refine goB (k := ?_); intro b) | (refine goA (k := ?_); intro ao cap))
    refine End.round0_ hK1 (k + 1) ?_ ?_
    · omega
    · omega
  · repeat (first | refine go (k := ?_) | (refine goB (k := ?_); intro b) | (refine goA (k := ?_); intro ao cap))
    (refine End.done1_ (()) (he := by (first | exact rfl | (refine congrArg (Value.int _) ?_; omega) | (refine congrArg (Value.int _) ?_; dsimp only; omega))) (hp := ?_))
    trivial
end Go.Proofs.Ytfeajpghabjaaaa.Vw

/- yieldlaw14.OptSame, walked. -/
namespace Go.Proofs.Ytfeajpghabjaaaa.Vw
open Go.RowKit Go.Proofs.Ytfeajpghabjaaaa.Img
set_option linter.unusedVariables false
set_option linter.unusedSimpArgs false
theorem solo14_good {m : ML} {f : FL} {task most : Int} (hv : Ver.verify m.mdl = .ok) (h : Vm.soloErr m.mdl task f.ws most = 0) : 0 ≤ task ∧ task < ((Vm.tasks m.mdl).length : Int) ∧ f.l.length = m.bx.length ∧ ∀ k, k < f.l.length → rowBad m f k = false := by
  rw [soloErr_eq hv] at h
  by_cases h3 : task < 0 ∨ ((Vm.tasks m.mdl).length : Int) ≤ task ∨ most < 0 ∨ 5000 < most
  · rw [if_pos h3] at h; cases h
  rw [if_neg h3] at h
  by_cases h5 : f.l.length ≠ m.bx.length
  · rw [if_pos h5] at h; cases h
  rw [if_neg h5] at h
  by_cases h9 : (List.range f.l.length).any (rowBad m f) = true
  · rw [if_pos h9] at h; cases h
  refine ⟨by omega, by omega, by omega, fun k hk => ?_⟩
  have h9 : (List.range f.l.length).any (rowBad m f) = false := by simpa using h9
  rw [List.any_eq_false] at h9
  have := h9 k (List.mem_range.2 hk)
  simpa using this
theorem opt_solo {m n : ML} (hwf : m.Wf) (hv : Ver.verify m.mdl = .ok) (hn : n.mdl = Opt.mdl m.mdl) {f : FL} (h64 : ∀ l ∈ f.ws, ∀ v ∈ l, ImgM.In64 v) {task most : Int} {a b : RpL} (he : Vm.soloErr m.mdl task f.ws most = 0) (he2 : Vm.soloErr n.mdl task f.ws most = 0)
    (ha : IsSolo m f task most a) (hb : IsSolo n f task most b) (h1 : ¬ a.st = 1) (h4 : ¬ a.tr = 4) : b.steps ≤ a.steps ∧ a.Eq { b with steps := a.steps } := by
  unfold IsSolo at ha hb
  rw [if_pos he] at ha
  rw [if_pos he2] at hb
  have hun : unitOf n task = unitOf m task := by unfold unitOf; rw [hn, Vm.tasks_mdl]
  rw [hun, hn] at hb
  obtain ⟨g1, g2, g3, g4⟩ := solo14_good hv he
  have hR := Ver.verify_iff.1 hv
  have hF := formed hR.form
  obtain ⟨hu1, hu2⟩ := tasks_mem (m := m) (k := task.toNat) (by omega)
  have hk := Vm.solo_mdl (M := m.mdl) hv (fun k hk => by rw [ML.unit_at]; exact hF.good hwf (by simpa using hk))
    (fun k hk i hi => by
      have e : Vm.unt m.mdl k = (m.us.getD k default).u := m.unit_at k
      rw [e] at hi
      have := ((hwf.us _ (ML.uat_mem (by simpa using hk))).code i hi).2
      exact ⟨this.2, this.1⟩)
    (F := f.ws) (fed_of g3 h64 g4) (u := unitOf m task) (by rw [show m.mdl.units.length = m.us.length by simp]; exact hu1) (by unfold Vm.unt; rw [ML.unit_at]; exact hu2) most.toNat (by rw [← ha.st]; exact h1) (by rw [← ha.tr]; exact h4)
  obtain ⟨k1, k2, k3, k4, k5, k6⟩ := hk
  refine ⟨by rw [hb.steps, ha.steps]; exact k1, ?_, ?_, ?_, ?_, ?_, ?_, rfl⟩
  · show a.st = b.st
    rw [ha.st, hb.st, k3]
  · show a.bx = b.bx
    rw [ha.bx, hb.bx, k4]
  · show a.tr = b.tr
    rw [ha.tr, hb.tr, k5]
  · show a.out = b.out
    rw [ha.out, hb.out, k6]
  · show a.sent.map (·.l) = b.sent.map (·.l)
    rw [ha.sent, hb.sent, k2]
  · show a.took = b.took
    rw [ha.took, hb.took, k2]
attribute [local irreducible] Run Cod End OpT Still RunQ RunS RunT Fn PutOk
attribute [local irreducible] Ver.verify Opt.mdl Opt.code Vm.soloErr Vm.solo
set_option maxRecDepth 100000 in
set_option maxHeartbeats 2000000 in
theorem same14_is (m : ML) (hwf : m.Wf) (f : FL) (h64 : ∀ l ∈ f.ws, ∀ v ∈ l, ImgM.In64 v) (task most : Int) : Fn Try.prog 7 #[m.val, .int .i64 task, f.val, .int .i64 most] [md m, fd f] [] (σ := Unit) (fun _ => True) (fun _ => .bool true) (fun _ => []) := by
  refine Fn.enter (args := [m.val, .int .i64 task, f.val, .int .i64 most]) Try.func7 rfl _ Try.ntmps7 rfl (by simp [fd_excl, md_excl]) (fun w S => ?_)
  (try conv => rhs; simp only [List.cons_append, List.nil_append])
  apply Cod.fact m.Small (fun w hm => (md_holds.1 (hm.has tk)).small)
  intro hsm
  repeat (first | refine go (k := ?_) | (refine goB (k := ?_); intro b) | (refine goA (k := ?_); intro ao cap))
  (apply Run.op; exact rfl; refine OpT.call0_ (spec := alive14_is) (k := ?_); intro s hs; (try conv => rhs; simp only [List.cons_append, List.nil_append]))
  repeat (first | refine go (k := ?_) | (refine goB (k := ?_); intro b) | (refine goA (k := ?_); intro ao cap))
  ((first | (apply Run.op; exact rfl) | refine Run.yes_ (h := ?_)); refine OpT.call0_ (spec := module_is m hwf) (r := (fun w => Reads.md (by (repeat (first | exact Take.head | apply Take.tail))) .nil)) (k := ?_); intro s hs; (try conv => rhs; simp only [List.cons_append, List.nil_append]))
  obtain ⟨n, rfl⟩ : ∃ x, x = s := ⟨_, rfl⟩
  unfold ModOk at hs
  by_cases hv : Ver.verify m.mdl = .ok
  · rw [if_pos hv] at hs
    have hnwf := opt_wf hwf hv hs
    rw [hv]
    apply Run.imp (fun w hm => own_md n (by (repeat (first | exact Takes.nil | exact Take.head | apply Take.tail | apply Takes.cons))) hm)
    have hG : ∀ k, k < m.mdl.units.length → Ver.Good m.mdl (m.mdl.units.getD k default) := fun k hk => by
      rw [ML.unit_at]
      exact (formed (Ver.verify_iff.1 hv).form).good hwf (by simpa using hk)
    have hee : Vm.soloErr n.mdl task f.ws most = Vm.soloErr m.mdl task f.ws most := by
      rw [hs]; exact Vm.err_mdl hv hG task f.ws most
    repeat (first | refine go (k := ?_) | (refine goB (k := ?_); intro b) | (refine goA (k := ?_); intro ao cap))
    ((first | (apply Run.op; exact rfl) | refine Run.yes_ (h := ?_)); refine OpT.call0_ (spec := solo_is m hwf f h64 task most) (r := (fun w => Reads.md (by (repeat (first | exact Take.head | apply Take.tail))) (Reads.any (by (repeat (first | exact Take.head | apply Take.tail))) fd_excl .nil))) (k := ?_); intro s hs; (try conv => rhs; simp only [List.cons_append, List.nil_append]))
    obtain ⟨x, rfl⟩ : ∃ x, x = s := ⟨_, rfl⟩
    rename IsSolo m f task most x => ha
    repeat (first | refine go (k := ?_) | (refine goB (k := ?_); intro b) | (refine goA (k := ?_); intro ao cap))
    ((first | (apply Run.op; exact rfl) | refine Run.yes_ (h := ?_)); refine OpT.call0_ (spec := solo_is n hnwf f h64 task most) (r := (fun w => Reads.md (by (repeat (first | exact Take.head | apply Take.tail))) (Reads.any (by (repeat (first | exact Take.head | apply Take.tail))) fd_excl .nil))) (k := ?_); intro s hs; (try conv => rhs; simp only [List.cons_append, List.nil_append]))
    obtain ⟨y, rfl⟩ : ∃ x, x = s := ⟨_, rfl⟩
    rename IsSolo n f task most y => hb
    have hk := fun h1 h2 h3 h4 => opt_solo hwf hv hs h64 h1 h2 ha hb h3 h4
    rw [hee] at hk ⊢
    clear ha hb hee hG
    generalize Vm.soloErr m.mdl task f.ws most = e1 at *
    by_cases c1 : ¬ e1 = 0
    · repeat (first | refine go (k := ?_) | (refine goB (k := ?_); intro b) | (refine goA (k := ?_); intro ao cap))
      (refine End.done1_ (()) (he := by (first | exact rfl | (refine congrArg (Value.int _) ?_; omega) | (refine congrArg (Value.int _) ?_; dsimp only; omega))) (hp := ?_))
      trivial
    have hk := hk (Classical.not_not.1 c1) (Classical.not_not.1 c1)
    by_cases c2 : x.st = 1
    · repeat (first | refine go (k := ?_) | (refine goB (k := ?_); intro b) | (refine goA (k := ?_); intro ao cap))
      (refine End.done1_ (()) (he := by (first | exact rfl | (refine congrArg (Value.int _) ?_; omega) | (refine congrArg (Value.int _) ?_; dsimp only; omega))) (hp := ?_))
      trivial
    by_cases c3 : x.tr = 4
    · repeat (first | refine go (k := ?_) | (refine goB (k := ?_); intro b) | (refine goA (k := ?_); intro ao cap))
      (refine End.done1_ (()) (he := by (first | exact rfl | (refine congrArg (Value.int _) ?_; omega) | (refine congrArg (Value.int _) ?_; dsimp only; omega))) (hp := ?_))
      trivial
    obtain ⟨k1, k2⟩ := hk c2 c3
    repeat (first | refine go (k := ?_) | (refine goB (k := ?_); intro b) | (refine goA (k := ?_); intro ao cap))
    apply Run.imp' (fun w hm => rep_own x (by (repeat (first | exact Takes.nil | exact Take.head | apply Take.tail | apply Takes.cons))) hm)
    apply Run.imp' (fun w hm => rep_own y (by (repeat (first | exact Takes.nil | exact Take.head | apply Take.tail | apply Takes.cons))) hm)
    (try conv => rhs; simp only [List.cons_append, List.nil_append])
    ((first | (apply Run.op; exact rfl) | refine Run.yes_ (h := ?_)); refine OpT.call0_ (spec := sameRep_is x { y with steps := x.steps } k2) (r := (fun w => Reads.rd (by (repeat (first | exact Take.head | apply Take.tail))) (Reads.any (by (repeat (first | exact Take.head | apply Take.tail))) fd_excl (Reads.rd (by (repeat (first | exact Take.head | apply Take.tail))) (Reads.rd (by (repeat (first | exact Take.head | apply Take.tail))) (Reads.any (by (repeat (first | exact Take.head | apply Take.tail))) fd_excl (Reads.rd (by (repeat (first | exact Take.head | apply Take.tail))) .nil))))))) (k := ?_); intro s hs; (try conv => rhs; simp only [List.cons_append, List.nil_append]))
    repeat (first | refine go (k := ?_) | (refine goB (k := ?_); intro b) | (refine goA (k := ?_); intro ao cap))
    (refine End.done1_ (()) (he := by (first | exact rfl | (refine congrArg (Value.int _) ?_; omega) | (refine congrArg (Value.int _) ?_; dsimp only; omega))) (hp := ?_))
    trivial
  · rw [if_neg hv] at hs
    have he : (Ver.verify m.mdl).err ≠ 0 := fun h => hv (Ver.verify_eq h)
    generalize hV : Ver.verify m.mdl = V at *
    repeat (first | refine go (k := ?_) | (refine goB (k := ?_); intro b) | (refine goA (k := ?_); intro ao cap))
    (refine End.done1_ (()) (he := by (first | exact rfl | (refine congrArg (Value.int _) ?_; omega) | (refine congrArg (Value.int _) ?_; dsimp only; omega))) (hp := ?_))
    trivial
end Go.Proofs.Ytfeajpghabjaaaa.Vw

/- How the arguments' data are read: a slice's cells out of its reading ('read_slice'); what a law owes at its end ('law_post'). Of whatever program. -/
namespace Go.Proofs.Ytfeajpghabjaaaa
open Go.RowKit Go.ChangeShapes Go.WideShapes Go.ChangeAt
set_option linter.unusedVariables false

section
variable {H : Type} {enc : TypeId × Value → H} {P : Program} {w : World}

abbrev Trd (enc : TypeId × Value → H) (P : Program) (w : World) (fuel : Nat) (t : TypeId) (cs : List Value) (x : DataW H × List MemPlace) : Prop :=
  DataW.trod enc P w 0 (fun _ => true) true fuel t cs = some x

/-- every weight of a datum is within the reach -/
def Fits (P : Program) (t : TypeId) (d : DataW H) : Prop := ∀ n ∈ d.weights P t, n ≤ reachBytes

theorem fits_all {e : TypeId} : ∀ {l : List (DataW H)}, (∀ n ∈ DataW.weightsAll P e l, n ≤ reachBytes) → ∀ d ∈ l, Fits P e d
  | [], _, d, hd => by cases hd
  | x :: r, h, d, hd => by
    simp only [DataW.weightsAll, List.mem_append] at h
    rcases List.mem_cons.1 hd with rfl | hd
    · exact fun n hn => h n (.inl hn)
    · exact fits_all (fun n hn => h n (.inr hn)) d hd

theorem fits_each {ts : List TypeId} {ds : List (DataW H)} (h : ∀ n ∈ DataW.weightsEach P ts ds, n ≤ reachBytes) {j : Nat} {t : TypeId} {d : DataW H} (ht : ts[j]? = some t) (hd : ds[j]? = some d) : Fits P t d :=
  fun n hn => h n (DataW.weights_mem_each ht hd n hn)

/-- A SLICE, READ: its elements' cells are those of a list, if each element's are those of a thing. -/
theorem read_slice {α : Type} [Inhabited α] {t e : TypeId} {size : Nat} (f : α → List Value) (Q : α → Prop) (ht : P.underlying t = some (.slice e)) (hc : P.cellsOf e = size) (hs : 0 < size)
    (hel : ∀ fuel cs x, Trd enc P w fuel e cs x → Fits P e x.1 → cs.length = size → ∃ a, cs = f a ∧ Q a)
    {fuel : Nat} {cs : List Value} {x : DataW H × List MemPlace} (h : Trd enc P w fuel t cs x) (hf : Fits P t x.1) :
    ∃ (v : Value) (l : List α), cs = [v] ∧ Row w v size l.length (l.flatMap f) ∧ (∀ a ∈ l, Q a) ∧ l.length * P.bytesOf e ≤ reachBytes ∧ (∀ b, v.ownBlock = some b → 0 < l.length → b < w.heap.size) := by
  rcases Deep.open_slice ht h with ⟨rfl, rfl⟩ | ⟨a, len, cap, m, n, D, Pl, rfl, hb, hl, hm, hmm, rfl, hx⟩
  · exact ⟨_, [], rfl, ⟨by simp, Nat.zero_le _, none, 0, rfl, Nat.le_refl _, fun h => by simp at h⟩, by simp, by simp, fun b h => by cases h⟩
  · simp only [if_true] at hmm
    subst hmm
    have hw := hf
    simp only [Fits, DataW.weights, ht, List.mem_cons, List.mem_append] at hw
    have hel' : ∀ i, i < len → ∃ y : α, (∀ j, j < size → w.cell? (a.add (i * size + j)) = (f y)[j]?) ∧ (f y).length = size ∧ Q y := by
      intro i hi
      obtain ⟨cs', h1, h2⟩ := hx i (by omega)
      rw [hc] at h1
      obtain ⟨-, h3, h4⟩ := World.cells?_some h1
      obtain ⟨y, rfl, hq⟩ := hel n cs' (D i, Pl i) h2 (fits_all (fun n hn => hw n (.inr (.inl hn))) (D i) (List.mem_map.2 ⟨i, by simpa using hi, rfl⟩)) h3
      refine ⟨y, fun j hj => ?_, h3, hq⟩
      rw [← Deep.add_add]
      exact h4 j hj
    obtain ⟨F, hF⟩ := Deep.choose_lt hel'
    refine ⟨_, (List.range len).map F, rfl, ?_, ?_, ?_, ?_⟩
    · have hlen : ∀ m, m ≤ len → (((List.range m).map F).flatMap f).length = m * size := by
        intro m hm
        induction m with
        | zero => simp
        | succ m ih =>
          rw [List.range_succ, List.map_append, List.flatMap_append, List.length_append, ih (by omega)]
          simp [(hF m (by omega)).2.1, Nat.add_mul]
      have hget : ∀ m, m ≤ len → ∀ j, j < m * size → w.cell? (a.add j) = (((List.range m).map F).flatMap f)[j]? := by
        intro m hm
        induction m with
        | zero => intro j hj; simp at hj
        | succ m ih =>
          intro j hj
          rw [List.range_succ, List.map_append, List.flatMap_append]
          by_cases hjm : j < m * size
          · rw [List.getElem?_append_left (by rw [hlen m (by omega)]; exact hjm)]
            exact ih (by omega) j hjm
          · rw [List.getElem?_append_right (by rw [hlen m (by omega)]; omega), hlen m (by omega)]
            have := (hF m (by omega)).1 (j - m * size) (by rw [Nat.add_mul] at hj; omega)
            rw [show m * size + (j - m * size) = j by omega] at this
            simpa using this
      refine ⟨by simp only [List.length_map, List.length_range]; exact hlen len (Nat.le_refl _), by simp; omega, some a, m, by simp, by simpa using hl, fun hpos => ?_⟩
      simp only [List.length_map, List.length_range] at hpos ⊢
      have h0 := hget len (Nat.le_refl _) 0 (Nat.mul_pos hpos hs)
      have hsome : (w.cell? (a.add 0)).isSome = true := by
        rw [h0, List.getElem?_eq_getElem (by rw [hlen len (Nat.le_refl _)]; exact Nat.mul_pos hpos hs)]; rfl
      obtain ⟨b, off, spot⟩ := a
      have hspot : spot = none := by
        cases spot with
        | none => rfl
        | some s =>
          unfold World.cell? Addr.add at hsome
          split at hsome <;> simp_all
      subst hspot
      exact ⟨b, off, rfl, fun j hj => by rw [← Addr.add_lit]; exact hget len (Nat.le_refl _) j hj⟩
    · intro y hy
      obtain ⟨i, hi, rfl⟩ := List.mem_map.1 hy
      exact (hF i (by simpa using hi)).2.2
    · have := hw _ (.inl rfl)
      simp only [List.length_map, List.length_range] at this ⊢
      refine Nat.le_trans (Nat.mul_le_mul_right _ ?_) this
      omega
    · intro b hb' hpos
      simp only [List.length_map, List.length_range] at hpos
      simp [Value.ownBlock] at hb'
      subst hb'
      obtain ⟨y, hy1, hy2, -⟩ := hel' 0 hpos
      have := hy1 0 hs
      rw [List.getElem?_eq_getElem (by omega)] at this
      have hlt := World.block_lt_of_cell? w _ this
      have e1 : (a.add (0 * size + 0)).block = a.block := by unfold Addr.add; split <;> rfl
      rwa [e1] at hlt

theorem wf_i64 {n : Int} (h : (Lit.int .i64 n).wf = true) : -9223372036854775808 ≤ n ∧ n ≤ 9223372036854775807 := by
  simpa [Lit.wf, IntKind.min, IntKind.max, IntKind.signed, IntKind.bits] using h
/-- what a law owes at its end: true, and nothing of old memory has turned -/
theorem law_post {f : Func} {s : ChangeSpec} {W W' : World} {args : Array Value} {ds gs : List (DataW H)} {before : List MemPlace} {tb : TypeId}
    (hl : laidOutB P = true) (hr : ∀ t ∈ f.params.toList, P.readableRec t = true ∧ t < P.types.size) (hrt : f.resultTypes = #[tb]) (htb : P.underlying tb = some .bool) (hsv : s.vars = [])
    (hW : DataW.Whole enc P f.params.toList s.vars false W args.toList ds gs before) (hfn : (s.fn H (ds ++ gs)) = { results := [.lit (.bool true)], args := ds }) (hb : Below W.heap.size W W') :
    s.post enc P f false true false false W args (.bool true) W' := by
  have hlt := hW.lt
  have hW0 := hW
  obtain ⟨p, q, hA, hV, rfl, hfz, hnd⟩ := hW
  rw [hsv] at hV
  obtain ⟨rfl, rfl⟩ := trodVars_none hV
  have key : ∀ (ts : List TypeId) (vs : List Value) (ds : List (DataW H)) (p : List MemPlace), (∀ t ∈ ts, P.readableRec t = true ∧ t < P.types.size) → (∀ x ∈ p, x.block < W.heap.size) →
      DataW.TrodAll enc P W 0 (fun _ => true) true ts vs ds p → DataW.TrodAll enc P W' 0 (fun b => decide (b < W.heap.size)) true ts vs ds p := by
    intro ts
    induction ts with
    | nil => intro vs ds p _ _ h; cases vs <;> cases ds <;> simp_all [DataW.TrodAll]
    | cons t ts ih =>
      intro vs ds p h1 h2 h
      cases vs with
      | nil => simp [DataW.TrodAll] at h
      | cons v vs =>
        cases ds with
        | nil => simp [DataW.TrodAll] at h
        | cons d ds =>
          obtain ⟨p1, p2, h3, h4, rfl⟩ := h
          have ht := h1 t (by simp)
          exact ⟨p1, p2, Below.trod hl ht.1 ht.2 h3 hb (fun x hx => h2 x (by simp [hx])), ih vs ds p2 (fun t ht => h1 t (by simp [ht])) (fun x hx => h2 x (by simp [hx])) h4, rfl⟩
  refine ⟨ds, [], _, [], p, [], hW0, ?_, ?_, ?_, hb.frame _, fun h => by cases h⟩
  · rw [hfn, hrt]
    exact trodAll_mk1 (shut_bool htb true)
  · rw [hfn]
    exact key _ _ _ _ hr (fun x hx => hlt x (by simp [hx])) hA
  · rw [hfn, hsv]
    rfl
end
end Go.Proofs.Ytfeajpghabjaaaa

/- How a module is read as an argument, of whatever bulk. -/
namespace Go.Proofs.Ytfeajpghabjaaaa
open Go.RowKit Go.ChangeShapes Go.WideShapes Go.ChangeAt
set_option linter.unusedVariables false

section
variable {H : Type} {enc : TypeId × Value → H} {P : Program} {w : World}

theorem bulk_one (d : DataW H) : 1 ≤ Rows.uptoBulk d := by
  cases d with
  | lit l => cases l <;> simp [Rows.uptoBulk]
  | nil => simp [Rows.uptoBulk]
  | ptr d => simp [Rows.uptoBulk]
  | slice elems spare => simp [Rows.uptoBulk]
  | agg parts => simp [Rows.uptoBulk]
  | iface t d => simp [Rows.uptoBulk]
  | map entries => simp [Rows.uptoBulk]
  | held h => simp [Rows.uptoBulk]

theorem bulk_sum (D : Nat → DataW H) (c : Nat → Nat) (n : Nat) (h : ∀ i, i < n → c i ≤ Rows.uptoBulk (D i)) : ((List.range n).map c).sum ≤ Rows.uptoBulkAll ((List.range n).map D) := by
  have key : ∀ (l : List Nat), (∀ i ∈ l, c i ≤ Rows.uptoBulk (D i)) → (l.map c).sum ≤ Rows.uptoBulkAll (l.map D) := by
    intro l
    induction l with
    | nil => intro _; simp [Rows.uptoBulkAll]
    | cons a r ih =>
      intro hl
      have h1 := hl a (by simp)
      have h2 := ih (fun i hi => hl i (by simp [hi]))
      simp only [List.map_cons, List.sum_cons, Rows.uptoBulkAll]
      omega
  exact key _ (fun i hi => h i (by simpa using hi))

/-- A SLICE, READ, of bounded bulk -/
theorem read_sliceU {α : Type} [Inhabited α] {t e : TypeId} {size : Nat} (f : α → List Value) (Q : α → Prop) (c : α → Nat) (ht : P.underlying t = some (.slice e)) (hc : P.cellsOf e = size) (hs : 0 < size)
    (hel : ∀ fuel cs x, Trd enc P w fuel e cs x → cs.length = size → ∃ a, cs = f a ∧ Q a ∧ c a ≤ Rows.uptoBulk x.1)
    {fuel : Nat} {cs : List Value} {x : DataW H × List MemPlace} (h : Trd enc P w fuel t cs x) :
    ∃ (v : Value) (l : List α), cs = [v] ∧ Row w v size l.length (l.flatMap f) ∧ (∀ a ∈ l, Q a) ∧ (l.map c).sum + 1 ≤ Rows.uptoBulk x.1 := by
  rcases Deep.open_slice ht h with ⟨rfl, rfl⟩ | ⟨a, len, cap, m, n, D, Pl, rfl, hb, hl, hm, hmm, rfl, hx⟩
  · exact ⟨_, [], rfl, ⟨by simp, Nat.zero_le _, none, 0, rfl, Nat.le_refl _, fun h => by simp at h⟩, by simp, by simp [Rows.uptoBulk]⟩
  · simp only [if_true] at hmm
    subst hmm
    have hel' : ∀ i, i < len → ∃ y : α, (∀ j, j < size → w.cell? (a.add (i * size + j)) = (f y)[j]?) ∧ (f y).length = size ∧ Q y ∧ c y ≤ Rows.uptoBulk (D i) := by
      intro i hi
      obtain ⟨cs', h1, h2⟩ := hx i (by omega)
      rw [hc] at h1
      obtain ⟨-, h3, h4⟩ := World.cells?_some h1
      obtain ⟨y, rfl, hq, hcy⟩ := hel n cs' (D i, Pl i) h2 h3
      refine ⟨y, fun j hj => ?_, h3, hq, hcy⟩
      rw [← Deep.add_add]
      exact h4 j hj
    obtain ⟨F, hF⟩ := Deep.choose_lt hel'
    refine ⟨_, (List.range len).map F, rfl, ?_, ?_, ?_⟩
    · have hlen : ∀ m, m ≤ len → (((List.range m).map F).flatMap f).length = m * size := by
        intro m hm
        induction m with
        | zero => simp
        | succ m ih =>
          rw [List.range_succ, List.map_append, List.flatMap_append, List.length_append, ih (by omega)]
          simp [(hF m (by omega)).2.1, Nat.add_mul]
      have hget : ∀ m, m ≤ len → ∀ j, j < m * size → w.cell? (a.add j) = (((List.range m).map F).flatMap f)[j]? := by
        intro m hm
        induction m with
        | zero => intro j hj; simp at hj
        | succ m ih =>
          intro j hj
          rw [List.range_succ, List.map_append, List.flatMap_append]
          by_cases hjm : j < m * size
          · rw [List.getElem?_append_left (by rw [hlen m (by omega)]; exact hjm)]
            exact ih (by omega) j hjm
          · rw [List.getElem?_append_right (by rw [hlen m (by omega)]; omega), hlen m (by omega)]
            have := (hF m (by omega)).1 (j - m * size) (by rw [Nat.add_mul] at hj; omega)
            rw [show m * size + (j - m * size) = j by omega] at this
            simpa using this
      refine ⟨by simp only [List.length_map, List.length_range]; exact hlen len (Nat.le_refl _), by simp; omega, some a, m, by simp, by simpa using hl, fun hpos => ?_⟩
      simp only [List.length_map, List.length_range] at hpos ⊢
      have h0 := hget len (Nat.le_refl _) 0 (Nat.mul_pos hpos hs)
      have hsome : (w.cell? (a.add 0)).isSome = true := by
        rw [h0, List.getElem?_eq_getElem (by rw [hlen len (Nat.le_refl _)]; exact Nat.mul_pos hpos hs)]; rfl
      obtain ⟨b, off, spot⟩ := a
      have hspot : spot = none := by
        cases spot with
        | none => rfl
        | some s =>
          unfold World.cell? Addr.add at hsome
          split at hsome <;> simp_all
      subst hspot
      exact ⟨b, off, rfl, fun j hj => by rw [← Addr.add_lit]; exact hget len (Nat.le_refl _) j hj⟩
    · intro y hy
      obtain ⟨i, hi, rfl⟩ := List.mem_map.1 hy
      exact (hF i (by simpa using hi)).2.2.1
    · have := bulk_sum D (fun i => c (F i)) len (fun i hi => (hF i hi).2.2.2)
      simp only [Rows.uptoBulk, List.map_map]
      have e : (List.map (c ∘ F) (List.range len)) = List.map (fun i => c (F i)) (List.range len) := rfl
      rw [e]
      omega

/-- an int or int64 element -/
theorem el_i64U {e : TypeId} (he : P.underlying e = some (.int .i64)) : ∀ fuel cs (x : DataW H × List MemPlace), Trd enc P w fuel e cs x → cs.length = 1 → ∃ n : Int, cs = [.int .i64 n] ∧ ImgM.In64 n ∧ 1 ≤ Rows.uptoBulk x.1 := by
  intro fuel cs x h _
  obtain ⟨n, rfl, _, hw⟩ := DataW.trod_int he h
  exact ⟨n, rfl, wf_i64 hw, bulk_one _⟩
theorem trod_struct6 {t : TypeId} {f0 f1 f2 f3 f4 f5 : Field} {fuel : Nat} {cs : List Value} {x : DataW H × List MemPlace} (ht : P.underlying t = some (.struct #[f0, f1, f2, f3, f4, f5])) (h : Trd enc P w fuel t cs x) :
    ∃ y0 y1 y2 y3 y4 y5 n, x.1 = .agg [y0.1, y1.1, y2.1, y3.1, y4.1, y5.1] ∧ cs.length = P.cellsOf t ∧ Trd enc P w n f0.type ((cs.drop f0.offset).take (P.cellsOf f0.type)) y0 ∧
      Trd enc P w n f1.type ((cs.drop f1.offset).take (P.cellsOf f1.type)) y1 ∧ Trd enc P w n f2.type ((cs.drop f2.offset).take (P.cellsOf f2.type)) y2 ∧ Trd enc P w n f3.type ((cs.drop f3.offset).take (P.cellsOf f3.type)) y3 ∧
      Trd enc P w n f4.type ((cs.drop f4.offset).take (P.cellsOf f4.type)) y4 ∧ Trd enc P w n f5.type ((cs.drop f5.offset).take (P.cellsOf f5.type)) y5 := by
  obtain ⟨xs, n, _, rfl, hl, hlen, hf⟩ := DataW.trod_struct ht h
  match xs, hlen with
  | [y0, y1, y2, y3, y4, y5], _ => exact ⟨y0, y1, y2, y3, y4, y5, n, by simp, hl, by simpa using hf 0 f0 rfl, by simpa using hf 1 f1 rfl, by simpa using hf 2 f2 rfl, by simpa using hf 3 f3 rfl, by simpa using hf 4 f4 rfl, by simpa using hf 5 f5 rfl⟩
end

section
variable {H : Type} {enc : TypeId × Value → H} {w : World}
open Img

theorem cells_int : Try.prog.cellsOf 3 = 1 := by kernel_rfl
theorem cells_i64 : Try.prog.cellsOf 2 = 1 := by kernel_rfl
theorem cells_ints : Try.prog.cellsOf 35 = 1 := by kernel_rfl
theorem cells_code : Try.prog.cellsOf 36 = 1 := by kernel_rfl
theorem cells_ins : Try.prog.cellsOf 57 = 3 := by kernel_rfl
theorem cells_box : Try.prog.cellsOf 50 = 2 := by kernel_rfl
theorem cells_unt : Try.prog.cellsOf 38 = 6 := by kernel_rfl
theorem cells_mod : Try.prog.cellsOf 25 = 2 := by kernel_rfl

set_option maxRecDepth 100000 in
theorem el_box : ∀ fuel cs (x : DataW H × List MemPlace), Trd enc Try.prog w fuel 50 cs x → cs.length = 2 → ∃ b : Int × Int, cs = boxC b ∧ (ImgM.In64 b.1 ∧ ImgM.In64 b.2) ∧ 2 ≤ Rows.uptoBulk x.1 := by
  intro fuel cs x h hlen
  obtain ⟨y0, y1, n, rfl, _, hy0, hy1⟩ := trod_struct2 Try.underlying50 h
  match cs, hlen with
  | [c0, c1], _ =>
    have e0 : ([c0, c1].drop 0).take (Try.prog.cellsOf 3) = [c0] := by rw [cells_int]; rfl
    have e1 : ([c0, c1].drop 1).take (Try.prog.cellsOf 3) = [c1] := by rw [cells_int]; rfl
    simp only [e0, e1] at hy0 hy1
    obtain ⟨a, ha, wa, ba⟩ := el_i64U Try.underlying3 _ _ _ hy0 rfl
    obtain ⟨b, hb, wb, bb⟩ := el_i64U Try.underlying3 _ _ _ hy1 rfl
    simp at ha hb
    exact ⟨(a, b), by rw [ha, hb]; rfl, ⟨wa, wb⟩, by simp only [Rows.uptoBulk, Rows.uptoBulkAll]; omega⟩

set_option maxRecDepth 100000 in
theorem el_ins : ∀ fuel cs (x : DataW H × List MemPlace), Trd enc Try.prog w fuel 57 cs x → cs.length = 3 → ∃ i : ImgM.Ins, cs = insC i ∧ (ImgM.In64 i.op ∧ ImgM.In64 i.a ∧ ImgM.In64 i.n) ∧ 3 ≤ Rows.uptoBulk x.1 := by
  intro fuel cs x h hlen
  obtain ⟨y0, y1, y2, n, rfl, _, hy0, hy1, hy2⟩ := Go.Deep.trod_struct3 Try.underlying57 h
  match cs, hlen with
  | [c0, c1, c2], _ =>
    have e0 : ([c0, c1, c2].drop 0).take (Try.prog.cellsOf 3) = [c0] := by rw [cells_int]; rfl
    have e1 : ([c0, c1, c2].drop 1).take (Try.prog.cellsOf 3) = [c1] := by rw [cells_int]; rfl
    have e2 : ([c0, c1, c2].drop 2).take (Try.prog.cellsOf 2) = [c2] := by rw [cells_i64]; rfl
    simp only [e0, e1, e2] at hy0 hy1 hy2
    obtain ⟨a, ha, wa, ba⟩ := el_i64U Try.underlying3 _ _ _ hy0 rfl
    obtain ⟨b, hb, wb, bb⟩ := el_i64U Try.underlying3 _ _ _ hy1 rfl
    obtain ⟨c, hc, wc, bc⟩ := el_i64U Try.underlying2 _ _ _ hy2 rfl
    simp at ha hb hc
    exact ⟨⟨a, b, c⟩, by rw [ha, hb, hc]; rfl, ⟨wa, wb, wc⟩, by simp only [Rows.uptoBulk, Rows.uptoBulkAll]; omega⟩

/-- a unit, and where its slices lie -/
def UcIs (w : World) (x : UC) : Prop :=
  Row w (.slice x.lo x.u.locals.length x.lc) (sz i64c) x.u.locals.length (x.u.locals.flatMap i64c) ∧ Row w (.slice x.co x.u.code.length x.cc) (sz insC) x.u.code.length (x.u.code.flatMap insC) ∧ UWf x.u
set_option maxRecDepth 100000 in
theorem el_uc : ∀ fuel cs (x : DataW H × List MemPlace), Trd enc Try.prog w fuel 38 cs x → cs.length = 6 → ∃ y : UC, cs = ucell y ∧ UcIs w y ∧ 0 ≤ Rows.uptoBulk x.1 := by
  intro fuel cs x h hlen
  obtain ⟨y0, y1, y2, y3, y4, y5, n, hx, _, hy0, hy1, hy2, hy3, hy4, hy5⟩ := trod_struct6 Try.underlying38 h
  match cs, hlen with
  | [c0, c1, c2, c3, c4, c5], _ =>
    have e0 : ([c0, c1, c2, c3, c4, c5].drop 0).take (Try.prog.cellsOf 3) = [c0] := by rw [cells_int]; rfl
    have e1 : ([c0, c1, c2, c3, c4, c5].drop 1).take (Try.prog.cellsOf 3) = [c1] := by rw [cells_int]; rfl
    have e2 : ([c0, c1, c2, c3, c4, c5].drop 2).take (Try.prog.cellsOf 35) = [c2] := by rw [cells_ints]; rfl
    have e3 : ([c0, c1, c2, c3, c4, c5].drop 3).take (Try.prog.cellsOf 3) = [c3] := by rw [cells_int]; rfl
    have e4 : ([c0, c1, c2, c3, c4, c5].drop 4).take (Try.prog.cellsOf 3) = [c4] := by rw [cells_int]; rfl
    have e5 : ([c0, c1, c2, c3, c4, c5].drop 5).take (Try.prog.cellsOf 36) = [c5] := by rw [cells_code]; rfl
    simp only [e0, e1, e2, e3, e4, e5] at hy0 hy1 hy2 hy3 hy4 hy5
    obtain ⟨a, ha, wa, ba⟩ := el_i64U Try.underlying3 _ _ _ hy0 rfl
    obtain ⟨b, hb, wb, bb⟩ := el_i64U Try.underlying3 _ _ _ hy1 rfl
    obtain ⟨c, hc, wc, bc⟩ := el_i64U Try.underlying3 _ _ _ hy3 rfl
    obtain ⟨d, hd, wd, bd⟩ := el_i64U Try.underlying3 _ _ _ hy4 rfl
    obtain ⟨lv, ls, hlv, hl1, hl2, hl3⟩ := read_sliceU i64c ImgM.In64 (fun _ => 1) Try.underlying35 cells_int (by decide) (el_i64U Try.underlying3) hy2
    obtain ⟨cv, is, hcv, hc1, hc2, hc3⟩ := read_sliceU insC _ (fun _ => 3) Try.underlying36 cells_ins (by decide) el_ins hy5
    simp only [List.cons.injEq, and_true] at ha hb hc hd hlv hcv
    subst ha hb hc hd hlv hcv
    obtain ⟨-, -, lo, lc, rfl, -⟩ := id hl1
    obtain ⟨-, -, co, cc, rfl, -⟩ := id hc1
    exact ⟨⟨⟨a, b, ls, c, d, is⟩, lo, lc, co, cc⟩, rfl, ⟨hl1, hc1, ⟨wa, wb, hl2, wc, wd, hc2⟩⟩, Nat.zero_le _⟩
set_option maxRecDepth 100000 in
/-- A MODULE, READ. -/
theorem read_md {base : Nat} {v : Value} (hok : Value.okWide Try.prog w .any base 25 v) {d : DataW H} {p : List MemPlace} (h : DataW.Trod enc Try.prog w 0 (fun _ => true) true 25 v d p) :
    ∃ m : ML, v = m.val ∧ MdAt w m ∧ m.Wf := by
  obtain ⟨c0, c1, y0, y1, k, rfl, rfl, rfl, hy0, hy1⟩ := Go.Joins.open_agg2 Try.underlying25 (by kernel_rfl) cells_mod hok h
  obtain ⟨bv, bs, hbv, hb1, hb2, hb3⟩ := read_sliceU boxC _ (fun _ => 2) Try.underlying22 cells_box (by decide) el_box hy0
  obtain ⟨uv, us, huv, hu1, hu2, hu3⟩ := read_sliceU ucell (UcIs w) (fun _ => 0) Try.underlying23 cells_unt (by decide) el_uc hy1
  simp only [List.cons.injEq, and_true] at hbv huv
  subst hbv huv
  obtain ⟨-, -, bo, bc, rfl, -⟩ := id hb1
  obtain ⟨-, -, uo, uc, rfl, -⟩ := id hu1
  exact ⟨⟨bs, bo, bc, us, uo, uc⟩, rfl, ⟨hb1, hu1, fun x hx => (hu2 x hx).1, fun x hx => (hu2 x hx).2.1⟩, ⟨hb2, fun x hx => (hu2 x hx).2.2⟩⟩
end
end Go.Proofs.Ytfeajpghabjaaaa

/- How rows of words are read as an argument. -/
namespace Go.Proofs.Ytfeajpghabjaaaa
open Go.RowKit Go.ChangeShapes Go.WideShapes Go.ChangeAt
set_option linter.unusedVariables false
section
variable {H : Type} {enc : TypeId × Value → H} {P : Program} {w : World} {base : Nat} {spare : Nat → Bool} {held : Bool}
end
section
variable {H : Type} {enc : TypeId × Value → H} {w : World}
theorem cells_rows : Try.prog.cellsOf 41 = 1 := by kernel_rfl
/-- a row, and where it lies -/
def RwIs (w : World) (r : Rw) : Prop := Row w (.slice r.o r.l.length r.c) (sz i64c) r.l.length (r.l.flatMap i64c) ∧ ∀ v ∈ r.l, ImgM.In64 v
theorem el_row : ∀ fuel cs (x : DataW H × List MemPlace), Trd enc Try.prog w fuel 41 cs x → cs.length = 1 → ∃ r : Rw, cs = rwC r ∧ RwIs w r ∧ 0 ≤ Rows.uptoBulk x.1 := by
  intro fuel cs x h hlen
  obtain ⟨v, l, hv, h1, h2, h3⟩ := read_sliceU i64c ImgM.In64 (fun _ => 1) Try.underlying41 cells_i64 (by decide) (el_i64U Try.underlying2) h
  obtain ⟨-, -, ao, cap, rfl, -⟩ := id h1
  exact ⟨⟨ao, cap, l⟩, hv, ⟨h1, h2⟩, Nat.zero_le _⟩
set_option maxRecDepth 100000 in
/-- ROWS, READ. -/
theorem read_fd {base : Nat} {v : Value} (hok : Value.okWide Try.prog w .any base 40 v) {d : DataW H} {p : List MemPlace} (h : DataW.Trod enc Try.prog w 0 (fun _ => true) true 40 v d p) :
    ∃ f : FL, v = f.val ∧ FdAt w f ∧ ∀ l ∈ f.ws, ∀ v ∈ l, ImgM.In64 v := by
  obtain ⟨fuel, h⟩ := h
  obtain ⟨v', l, hv, h1, h2, -⟩ := read_sliceU rwC (RwIs w) (fun _ => 0) Try.underlying40 cells_rows (by decide) el_row h
  obtain ⟨a, n, c, rfl⟩ := okWide_slice Try.underlying40 hok
  have e : Value.slice a n c = v' := by simpa [Value.cells] using hv
  obtain ⟨-, -, ao, cap, rfl, -⟩ := id h1
  refine ⟨⟨ao, cap, l⟩, e, ⟨h1, fun r hr => (h2 r hr).1⟩, fun x hx y hy => ?_⟩
  obtain ⟨r, hr, rfl⟩ := List.mem_map.1 hx
  exact (h2 r hr).2 y hy
end
end Go.Proofs.Ytfeajpghabjaaaa
