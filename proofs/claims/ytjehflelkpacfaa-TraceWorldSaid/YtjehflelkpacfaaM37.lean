/- SchedKahn, walked. -/
import Derived.Test.YtjehflelkpacfaaM36
namespace Go.Proofs.Ytjehflelkpacfaa.Vw
open Go.RowKit Go.Proofs.Ytjehflelkpacfaa.Img
set_option linter.unusedVariables false
set_option linter.unusedSimpArgs false
attribute [local irreducible] Run Cod End OpT Still RunQ RunS RunT Fn PutOk
section
variable {M : ImgM.Mdl} {ps : List (Int × Int)} {q : Int}
end
attribute [local irreducible] Ver.verify Vm.wrong Vm.picks Vm.setErr Vm.settled
end Go.Proofs.Ytjehflelkpacfaa.Vw

/- How each task stands at rest. Plain Lean. -/
namespace Go.Proofs.Ytjehflelkpacfaa.Vm
open ImgM Ver Opt
set_option linter.unusedVariables false
set_option linter.unusedSimpArgs false
section
variable {x : Int} {M : Mdl}
end
end Go.Proofs.Ytjehflelkpacfaa.Vm

/- SchedRest, walked. -/
namespace Go.Proofs.Ytjehflelkpacfaa.Vw
open Go.RowKit Go.Proofs.Ytjehflelkpacfaa.Img
set_option linter.unusedVariables false
set_option linter.unusedSimpArgs false
attribute [local irreducible] Run Cod End OpT Still RunQ RunS RunT Fn PutOk
def RdL (m : ML) (r : WoL) (k : Nat) : Prop :=
  ((r.ends.getD k default).st = 4 ∧ (r.ends.getD k default).bx = 0 ∧ (r.ends.getD k default).tr = 0) ∨ ((r.ends.getD k default).st = 5 ∧ (r.ends.getD k default).bx = 0 ∧ (r.ends.getD k default).tr ≠ 0) ∨
  ∃ b : Nat, b < m.bx.length ∧ (r.ends.getD k default).bx = (b : Int) ∧ (((r.ends.getD k default).st = 2 ∧ ((r.rows.getD b default).l.length : Int) = (m.bx.getD b default).2) ∨ ((r.ends.getD k default).st = 3 ∧ (r.rows.getD b default).l.length = 0))
structure RestL (m : ML) (r : WoL) : Prop where
  len : r.rows.length = m.bx.length
  fit : ∀ b, b < m.bx.length → ((r.rows.getD b default).l.length : Int) ≤ (m.bx.getD b default).2
  ends : ∀ k, k < r.ends.length → RdL m r k
theorem en_at {r : WoL} {c : Vm.Ma} (h : r.ends.map enOf = c.ts.map tkOf) {k : Nat} (hk : k < r.ends.length) : k < c.ts.length ∧ enOf (r.ends.getD k default) = tkOf (c.ts.getD k default) := by
  have hl := congrArg List.length h
  simp only [List.length_map] at hl
  refine ⟨by omega, ?_⟩
  have h1 : (r.ends.map enOf)[k]? = (c.ts.map tkOf)[k]? := by rw [h]
  rw [List.getElem?_map, List.getElem?_map, List.getElem?_eq_getElem hk, List.getElem?_eq_getElem (show k < c.ts.length by omega)] at h1
  rw [List.getD_eq_getElem?_getD, List.getD_eq_getElem?_getD, List.getElem?_eq_getElem hk, List.getElem?_eq_getElem (show k < c.ts.length by omega)]
  simpa using h1
attribute [local irreducible] Ver.verify Vm.wrong Vm.picks Vm.setErr Vm.settled
end Go.Proofs.Ytjehflelkpacfaa.Vw

/- What a task's events say of it. Plain Lean. -/
namespace Go.Proofs.Ytjehflelkpacfaa.Vm
open ImgM Ver Opt
set_option linter.unusedVariables false
set_option linter.unusedSimpArgs false
def No45 (l : List Ev) : Prop := ∀ e ∈ l, e.1 ≠ 4 ∧ e.1 ≠ 5
theorem No45.app {l r : List Ev} (h : No45 l) (k : No45 r) : No45 (l ++ r) := fun e he => by
  rcases List.mem_append.1 he with he | he
  · exact h e he
  · exact k e he
/-- a task as its events tell -/
def Wrld (t : Tk) (l : List Ev) : Prop := t.out = outs l ∧ ((t.st = 1 ∧ No45 l) ∨ (t.st = 5 ∧ ∃ p, l = p ++ [(5, 0, t.tr)] ∧ No45 p) ∨ (t.st = 4 ∧ ∃ p, l = p ++ [(4, 0, 0)] ∧ No45 p))
section
variable {M : Mdl} {T : List Tk} {cap : Nat → Nat} {n : Nat} {ys : Nat → List Int} {us : List (List Int)}
theorem wrld_step {t : Tk} {l : List Ev} (h : Wrld t l) (hs : t.st = 1) (x : Int) : Wrld (loc1 M x t).1 (l ++ (loc1 M x t).2) := by
  obtain ⟨ho, hd⟩ := h
  have hn : No45 l := by
    rcases hd with ⟨-, h⟩ | ⟨h, -⟩ | ⟨h, -⟩
    · exact h
    · omega
    · omega
  have hD := lstep_did M (x := x) (t := t) (by omega)
  have hout : (lstep M x t).1.out = t.out ++ outs (lstep M x t).2 := hD.out
  have e2 : (loc1 M x t).2 = (lstep M x t).2 := rfl
  have e1 : (loc1 M x t).1 = nrm (lstep M x t).1 := rfl
  refine ⟨?_, ?_⟩
  · rw [e1, e2, show (nrm (lstep M x t).1).out = (lstep M x t).1.out from by unfold nrm; split <;> rfl, hout, ho, outs_app]
  rw [e1, e2]
  have hmv : (mvd t).st = t.st := rfl
  rcases hD.ex with ⟨t1, l1, h1, g1, -, -, h5⟩ | ⟨-, h1, h2, -⟩
  · have hn1 : No45 l1 := by
      rcases h5 with ⟨rfl, -, -⟩ | ⟨-, rfl⟩ | ⟨-, rfl⟩ | ⟨-, rfl⟩ | ⟨-, rfl⟩
      · exact fun e he => by cases he
      all_goals (intro e he; simp at he; subst he; simp)
    rcases h1 with ⟨a1, a2, -, -⟩ | ⟨a1, a2, -⟩
    · refine .inl ⟨?_, by rw [a1]; exact hn.app hn1⟩
      unfold nrm
      rw [if_pos (by rw [a2, g1, hmv]; omega)]
    · refine .inr (.inl ⟨?_, l ++ l1, ?_, hn.app hn1⟩)
      · unfold nrm; rw [if_neg (by omega)]; exact a2
      · have : nrm (lstep M x t).1 = (lstep M x t).1 := by unfold nrm; rw [if_neg (by omega)]
        rw [this, a1, List.append_assoc]
  · refine .inr (.inr ⟨?_, l, by rw [h1], hn⟩)
    unfold nrm; rw [if_neg (by omega)]; exact h2
theorem wrld_runs (h : Runs M cap T n ys us) {k : Nat} (h0 : Wrld (T.getD k default) []) : ∀ (q p : List Int), ys k = p ++ q → Wrld (ltk M (T.getD k default) p) (lev M (T.getD k default) p) → Wrld (ltk M (T.getD k default) (p ++ q)) (lev M (T.getD k default) (p ++ q))
  | [], p, e, hp => by rw [List.append_nil]; exact hp
  | x :: q, p, e, hp => by
    have h1 := h.st k p q x e
    have h2 := wrld_step (M := M) hp h1 x
    have := wrld_runs h h0 q (p ++ [x]) (by rw [e]; simp) (by rw [ltk_snoc, lev_snoc]; exact h2)
    rw [List.append_assoc] at this
    exact this
end
/-- ALL THAT IS SEEN WAS DONE -/
theorem trace_world {M : Mdl} {told : Bool} {c : Ma} {xs : Nat → List Int} (hS : Stood M told c xs) {k : Nat} (hk : k < (tks0 M).length) : Wrld (nrm (c.ts.getD k default)) (lev M ((tks0 M).getD k default) (xs k)) := by
  have h0 : Wrld ((tks0 M).getD k default) [] := by
    rw [tks0_at hk]
    exact ⟨rfl, .inl ⟨rfl, fun e he => by cases he⟩⟩
  have := wrld_runs hS.runs h0 (xs k) [] rfl h0
  rw [hS.tk k hk]
  exact this
end Go.Proofs.Ytjehflelkpacfaa.Vm

/- A task's end, as its events, one after the other, tell. Plain Lean. -/
namespace Go.Proofs.Ytjehflelkpacfaa.Vm
open ImgM Ver Opt
set_option linter.unusedVariables false
set_option linter.unusedSimpArgs false
/-- the last of the first j -/
def lsE (l : List (Nat × Ev)) (j : Nat) : Nat × Ev := if j = 0 then (0, 0, 0, 0) else l.getD (j - 1) default
theorem lsE_zero (l : List (Nat × Ev)) : lsE l 0 = (0, 0, 0, 0) := rfl
theorem lsE_succ (l : List (Nat × Ev)) (j : Nat) : lsE l (j + 1) = l.getD j default := rfl
def outTo (l : List (Nat × Ev)) (j : Nat) : List Int := outs ((l.take j).map (·.2))
theorem outTo_zero (l : List (Nat × Ev)) : outTo l 0 = [] := rfl
theorem outTo_succ (l : List (Nat × Ev)) {j : Nat} (hj : j < l.length) : outTo l (j + 1) = outTo l j ++ if (l.getD j default).2.1 = 1 then [(l.getD j default).2.2.2] else [] := by
  unfold outTo
  rw [List.take_succ_eq_append_getElem hj, List.map_append, outs_app, List.getD_eq_getElem?_getD, List.getElem?_eq_getElem hj]
  congr 1
  simp only [List.map_cons, List.map_nil, outs, List.filterMap_cons, List.filterMap_nil, Option.getD_some]
  by_cases h : (l[j]).2.1 = 1
  · rw [if_pos h, if_pos h]
  · rw [if_neg h, if_neg h]
theorem outTo_le (l : List (Nat × Ev)) (j : Nat) : (outTo l j).length ≤ j := by
  have h1 := outs_len ((l.take j).map (·.2))
  unfold outTo
  simp only [List.length_map, List.length_take] at h1
  omega
structure EndsT (l : List (Nat × Ev)) (st tr : Int) (out : List Int) : Prop where
  mid : ∀ j, j < l.length → ¬ (lsE l j).2.1 = 4 ∧ ¬ (lsE l j).2.1 = 5
  out : outTo l l.length = out
  l4 : (lsE l l.length).2.1 = 4 ↔ st = 4
  l5 : (lsE l l.length).2.1 = 5 ↔ st = 5
  tr : st = 5 → (lsE l l.length).2.2.2 = tr
theorem nrm_outT (t : Tk) : (nrm t).out = t.out ∧ (nrm t).tr = t.tr := by unfold nrm; split <;> exact ⟨rfl, rfl⟩
theorem nrm_st45 {t : Tk} : ((nrm t).st = 4 ↔ t.st = 4) ∧ ((nrm t).st = 5 ↔ t.st = 5) := by
  unfold nrm
  split
  · dsimp only; omega
  · exact ⟨Iff.rfl, Iff.rfl⟩
theorem getD_snd (l : List (Nat × Ev)) (j : Nat) : (l.getD j default).2 = (l.map (·.2)).getD j default := by
  simp only [List.getD_eq_getElem?_getD, List.getElem?_map]
  cases l[j]? <;> rfl
theorem lsE_end {l : List (Nat × Ev)} {p : List Ev} {e : Ev} (h : l.map (·.2) = p ++ [e]) : (lsE l l.length).2 = e ∧ ∀ j, j < l.length → (lsE l j).2 ∈ (0, 0, 0) :: p := by
  have hl := congrArg List.length h
  simp only [List.length_map, List.length_append, List.length_singleton] at hl
  refine ⟨?_, fun j hj => ?_⟩
  · rw [hl, lsE_succ, getD_snd, h]; simp [List.getD_eq_getElem?_getD]
  · cases j with
    | zero => exact List.mem_cons_self
    | succ j =>
      rw [lsE_succ, getD_snd, h, List.getD_eq_getElem?_getD, List.getElem?_append_left (by omega), List.getElem?_eq_getElem (by omega)]
      exact List.mem_cons_of_mem _ (List.getElem_mem _)
theorem ends_wrld {l : List (Nat × Ev)} {t : Tk} (h : Wrld (nrm t) (l.map (·.2))) : EndsT l t.st t.tr t.out := by
  obtain ⟨ho, hd⟩ := h
  obtain ⟨o1, o2⟩ := nrm_outT t
  obtain ⟨s4, s5⟩ := nrm_st45 (t := t)
  have hout : outTo l l.length = t.out := by unfold outTo; rw [List.take_length, ← o1, ho]
  have z : ((0, 0, 0) : Ev).1 ≠ 4 ∧ ((0, 0, 0) : Ev).1 ≠ 5 := by decide
  have mem0 : ∀ {p : List Ev}, No45 p → ∀ e ∈ ((0, 0, 0) : Ev) :: p, ¬ e.1 = 4 ∧ ¬ e.1 = 5 := fun hp e he => by
    rcases List.mem_cons.1 he with rfl | he
    · exact z
    · exact hp e he
  rcases hd with ⟨h1, hn⟩ | ⟨h1, p, hp, hn⟩ | ⟨h1, p, hp, hn⟩
  · have all : ∀ j, ¬ (lsE l j).2.1 = 4 ∧ ¬ (lsE l j).2.1 = 5 := fun j => by
      cases j with
      | zero => exact z
      | succ j =>
        rw [lsE_succ]
        by_cases hj : j < l.length
        · exact hn _ (List.mem_map.2 ⟨_, by rw [List.getD_eq_getElem?_getD, List.getElem?_eq_getElem hj]; exact List.getElem_mem hj, rfl⟩)
        · rw [List.getD_eq_getElem?_getD, List.getElem?_eq_none (by omega)]; exact z
    have n4 : ¬ t.st = 4 := fun h => by have := s4.2 h; omega
    have n5 : ¬ t.st = 5 := fun h => by have := s5.2 h; omega
    exact ⟨fun j _ => all j, hout, ⟨fun h => absurd h (all _).1, fun h => absurd h n4⟩, ⟨fun h => absurd h (all _).2, fun h => absurd h n5⟩, fun h => absurd h n5⟩
  · obtain ⟨e1, e2⟩ := lsE_end hp
    have t5 := s5.1 h1
    refine ⟨fun j hj => mem0 hn _ (e2 j hj), hout, ?_, ?_, fun _ => ?_⟩
    · rw [e1]; constructor
      · intro h; cases h
      · intro h; omega
    · rw [e1]; exact ⟨fun _ => t5, fun _ => rfl⟩
    · rw [e1]; exact o2
  · obtain ⟨e1, e2⟩ := lsE_end hp
    have t4 := s4.1 h1
    refine ⟨fun j hj => mem0 hn _ (e2 j hj), hout, ?_, ?_, fun h => by omega⟩
    · rw [e1]; exact ⟨fun _ => t4, fun _ => rfl⟩
    · rw [e1]; constructor
      · intro h; cases h
      · intro h; omega
/-- ALL THAT IS SEEN WAS DONE -/
theorem trace_ends {M : Mdl} (ps : List (Int × Int)) {k : Nat} (hk : k < (((Vm.picks M false ps (Ma.init M)).2.looked M).ts).length) :
    EndsT (ofTask (Vm.picks M true ps (Ma.init M)).2.bs.log k) ((((Vm.picks M false ps (Ma.init M)).2.looked M).ts).getD k default).st ((((Vm.picks M false ps (Ma.init M)).2.looked M).ts).getD k default).tr ((((Vm.picks M false ps (Ma.init M)).2.looked M).ts).getD k default).out := by
  obtain ⟨xs, hS⟩ := Stood.pickds ps (Stood.init M true)
  have hT := Told.picks (M := M) ps (c := Ma.init M) (c' := Ma.init M) ⟨rfl, rfl, rfl⟩
  have hk1 : k < (Vm.picks M false ps (Ma.init M)).2.ts.length := by simpa [Ma.looked] using hk
  have hk2 : k < (tks0 M).length := by rw [← hS.len, hT.ts]; exact hk1
  have hW := trace_world hS hk2
  have hl := (hS.log rfl).1 k
  rw [if_pos hk2] at hl
  refine ends_wrld ?_
  rw [show (ofTask (Vm.picks M true ps (Ma.init M)).2.bs.log k).map (·.2) = lev M ((tks0 M).getD k default) (xs k) from hl, looked_at hk1, nrm_look, ← hT.ts]
  exact hW
end Go.Proofs.Ytjehflelkpacfaa.Vm

/- TraceWorld, walked. -/
namespace Go.Proofs.Ytjehflelkpacfaa.Vw
open Go.RowKit Go.Proofs.Ytjehflelkpacfaa.Img
set_option linter.unusedVariables false
set_option linter.unusedSimpArgs false
theorem tw_ends {m : ML} {ps : List (Int × Int)} {a : TrL} {r : RunL} (h1 : Vm.wrong m.mdl ps.length = 0) (ha : TrIs m ps a) (hr : RunIs m ps r) :
    ∀ k, k < r.w.ends.length → Vm.EndsT (ofTo a.l (k : Int) a.l.length) (r.w.ends.getD k default).st (r.w.ends.getD k default).tr (r.w.ends.getD k default).out := fun k hk => by
  unfold TrIs at ha
  unfold RunIs at hr
  rw [if_pos h1] at ha hr
  obtain ⟨g1, g2⟩ := en_at hr.w.ends hk
  simp only [enOf, tkOf, Prod.mk.injEq] at g2
  rw [ofTo_all, ha, g2.1, g2.2.2.1, g2.2.2.2]
  exact Vm.trace_ends ps g1
attribute [local irreducible] Run Cod End OpT Still RunQ RunS RunT Fn PutOk
attribute [local irreducible] Ver.verify Vm.wrong Vm.picks ofTo Vm.outTo Vm.lsE
set_option maxRecDepth 100000 in
set_option maxHeartbeats 4000000 in
theorem traceWorld_is (m : ML) (hwf : m.Wf) (ps : PkL) : Fn Try.prog 8 #[m.val, ps.val] [md m, pkR ps] [] (σ := Unit) (fun _ => True) (fun _ => .bool true) (fun _ => []) := by
  refine Fn.enter (args := [m.val, ps.val]) Try.func8 rfl _ Try.ntmps8 rfl (by simp [md_excl, rd_excl]) (fun w S => ?_)
  (try conv => rhs; simp only [List.cons_append, List.nil_append])
  repeat (first | refine go (k := ?_) | (refine goB (k := ?_); intro b) | (refine goA (k := ?_); intro ao cap))
  obtain ⟨mb, rfl⟩ : ∃ x, x = b := ⟨_, rfl⟩
  (apply Run.op; exact rfl; refine OpT.call0_ (spec := alive10_is) (k := ?_); intro s hs; (try conv => rhs; simp only [List.cons_append, List.nil_append]))
  repeat (first | refine go (k := ?_) | (refine goB (k := ?_); intro b) | (refine goA (k := ?_); intro ao cap))
  ((first | (apply Run.op; exact rfl) | refine Run.yes_ (h := ?_)); refine OpT.call0_ (spec := trace_is m hwf ps) (r := (fun w => Reads.md (by (repeat (first | exact Take.head | apply Take.tail))) (Reads.rd (by (repeat (first | exact Take.head | apply Take.tail))) .nil))) (k := ?_); intro s hs; (try conv => rhs; simp only [List.cons_append, List.nil_append]))
  obtain ⟨v, rfl⟩ : ∃ x, x = s := ⟨_, rfl⟩
  have ha := hs
  repeat (first | refine go (k := ?_) | (refine goB (k := ?_); intro b) | (refine goA (k := ?_); intro ao cap))
  ((first | (apply Run.op; exact rfl) | refine Run.yes_ (h := ?_)); refine OpT.call0_ (spec := run_is m hwf ps) (r := (fun w => Reads.md (by (repeat (first | exact Take.head | apply Take.tail))) (Reads.rd (by (repeat (first | exact Take.head | apply Take.tail))) .nil))) (k := ?_); intro s hs; (try conv => rhs; simp only [List.cons_append, List.nil_append]))
  obtain ⟨r, rfl⟩ : ∃ x, x = s := ⟨_, rfl⟩
  have hb := hs
  have hk := fun h1 => tw_ends h1 ha hb
  have hsm := tr_small hwf ha
  clear hs ha hb
  generalize Vm.wrong m.mdl ps.l.length = W at *
  by_cases g1 : ¬ W = 0
  · repeat (first | refine go (k := ?_) | (refine goB (k := ?_); intro b) | (refine goA (k := ?_); intro ao cap))
    (refine End.done1_ (()) (he := by exact bool_eq (decide_eq_true rfl)) (hp := ?_))
    trivial
  have hk := hk (Classical.not_not.1 g1)
  repeat (first | refine go (k := ?_) | (refine goB (k := ?_); intro b) | (refine goA (k := ?_); intro ao cap))
  obtain ⟨wb, rfl⟩ : ∃ x, x = b := ⟨_, rfl⟩
  apply Cod.imp (fun w hm => wo_own r.w (by (repeat (first | exact Takes.nil | exact Take.head | apply Take.tail | apply Takes.cons))) hm)
  (try conv => rhs; simp only [List.cons_append, List.nil_append])
  apply Cod.fact (r.w.ends.length ≤ 9223372036854775807) (fun w hm => (ed_holds.1 (hm.has (c := ed r.w.el) (by (repeat (first | exact Take.head | apply Take.tail))))).out.2.1)
  intro hfs
  apply Cod.imp (fun w hm => Mem.edOut (f := r.w.el) (by (repeat (first | exact Take.head | apply Take.tail))) hm)
  refine Cod.only ((fun k => [old w S, ed r.w.el, rd r.w.eo r.w.ends.length r.w.ec enC r.w.ends, arr v.o v.l.length v.c 50 evC v.l]) 0) (by (repeat (first | exact Takes.nil | exact Take.head | apply Take.tail | apply Takes.cons))) ?_
  apply Cod.loop (σ := Nat) (fun k => k ≤ r.w.ends.length) (fun k => [(5, v.val), (7, ptr wb), (41, .slice r.w.eo r.w.ends.length r.w.ec), (42, .int .i64 (r.w.ends.length : Int)), (43, .int .i64 (k : Int))]) (fun k => [old w S, ed r.w.el, rd r.w.eo r.w.ends.length r.w.ec enC r.w.ends, arr v.o v.l.length v.c 50 evC v.l]) (fun k => r.w.ends.length - k) 0
  rotate_left
  exact sb
  exact tks
  intro k hkk K1 hK1
  (try conv => rhs; simp only [List.cons_append, List.nil_append])
  rotate_left
  · exact Nat.zero_le _
  by_cases hkn : k < r.w.ends.length
  · obtain ⟨d1, d2, d3, d4, d5⟩ := hk k hkn
    apply Cod.imp (fun w hm => Mem.edRow (f := r.w.el) (k := k) hkn (by (repeat (first | exact Take.head | apply Take.tail))) hm)
    dsimp only
    repeat (first | refine go (k := ?_) | (refine goB (k := ?_); intro b) | (refine goA (k := ?_); intro ao cap))
    obtain ⟨lb, rfl⟩ : ∃ x, x = b := ⟨_, rfl⟩
    obtain ⟨eb, rfl⟩ : ∃ x, x = b := ⟨_, rfl⟩
    ((first | (apply Run.op; exact rfl) | refine Run.yes_ (h := ?_)); refine OpT.call0_ (spec := of_is v hsm (k : Int)) (r := (fun w => Reads.arr (by (repeat (first | exact Take.head | apply Take.tail))) .nil)) (k := ?_); intro s hs; (try conv => rhs; simp only [List.cons_append, List.nil_append]))
    obtain ⟨L, rfl⟩ : ∃ x, x = s := ⟨_, rfl⟩
    have hLl : L.l.length ≤ 1000000 := by rw [hs]; have := ofTo_le v.l (k : Int) v.l.length; omega
    rw [← hs] at d1 d2 d3 d4 d5
    clear hs
    repeat (first | refine go (k := ?_) | (refine goB (k := ?_); intro b) | (refine goA (k := ?_); intro ao cap))
    apply Cod.imp (fun w hm => (show Mem w (blk lb [.int .i64 ((Vm.lsE L.l 0).1 : Int), .int .i64 (Vm.lsE L.l 0).2.1, .int .i64 (Vm.lsE L.l 0).2.2.1, .int .i64 (Vm.lsE L.l 0).2.2.2] 50 :: _) by rw [Vm.lsE_zero]; exact hm.take (by (repeat (first | exact Take.head | apply Take.tail)))))
    apply Cod.imp (fun w hm => Mem.nilArr' hm 2 i64c (l := Vm.outTo L.l 0) (Vm.outTo_zero _))
    have hz0 : (Vm.outTo L.l 0).length = 0 := by rw [Vm.outTo_zero]; rfl
    refine Cod.only ((fun z => [old w S, ed r.w.el, rd r.w.eo r.w.ends.length r.w.ec enC r.w.ends, rd (r.w.ends.getD k default).oo (r.w.ends.getD k default).out.length (r.w.ends.getD k default).oc i64c (r.w.ends.getD k default).out, arr v.o v.l.length v.c 50 evC v.l, arr L.o L.l.length L.c 50 evC L.l, blk eb [.int .i64 (r.w.ends.getD k default).st, .int .i64 (r.w.ends.getD k default).bx, .int .i64 (r.w.ends.getD k default).tr, .slice (r.w.ends.getD k default).oo (r.w.ends.getD k default).out.length (r.w.ends.getD k default).oc] 56, blk lb [.int .i64 ((Vm.lsE L.l z.1).1 : Int), .int .i64 (Vm.lsE L.l z.1).2.1, .int .i64 (Vm.lsE L.l z.1).2.2.1, .int .i64 (Vm.lsE L.l z.1).2.2.2] 50, arr z.2.1 z.2.2.2 z.2.2.1 2 i64c (Vm.outTo L.l z.1)]) (0, none, 0, 0)) (by (repeat (first | exact Takes.nil | exact Take.head | apply Take.tail | apply Takes.cons))) ?_
    apply Cod.loop (σ := Nat × Option Addr × Nat × Nat) (fun z => z.1 ≤ L.l.length ∧ z.2.2.2 = (Vm.outTo L.l z.1).length) (fun z => [(5, v.val), (7, ptr wb), (11, ptr eb), (12, .slice z.2.1 z.2.2.2 z.2.2.1), (13, ptr lb), (41, .slice r.w.eo r.w.ends.length r.w.ec), (42, .int .i64 (r.w.ends.length : Int)), (43, .int .i64 (k : Int)), (51, L.val), (52, .int .i64 (L.l.length : Int)), (53, .int .i64 (z.1 : Int))]) (fun z => [old w S, ed r.w.el, rd r.w.eo r.w.ends.length r.w.ec enC r.w.ends, rd (r.w.ends.getD k default).oo (r.w.ends.getD k default).out.length (r.w.ends.getD k default).oc i64c (r.w.ends.getD k default).out, arr v.o v.l.length v.c 50 evC v.l, arr L.o L.l.length L.c 50 evC L.l, blk eb [.int .i64 (r.w.ends.getD k default).st, .int .i64 (r.w.ends.getD k default).bx, .int .i64 (r.w.ends.getD k default).tr, .slice (r.w.ends.getD k default).oo (r.w.ends.getD k default).out.length (r.w.ends.getD k default).oc] 56, blk lb [.int .i64 ((Vm.lsE L.l z.1).1 : Int), .int .i64 (Vm.lsE L.l z.1).2.1, .int .i64 (Vm.lsE L.l z.1).2.2.1, .int .i64 (Vm.lsE L.l z.1).2.2.2] 50, arr z.2.1 z.2.2.2 z.2.2.1 2 i64c (Vm.outTo L.l z.1)]) (fun z => L.l.length - z.1) (0, none, 0, 0)
    rotate_left
    exact sb
    exact tks
    intro z hz1 K2 hK2
    (try conv => rhs; simp only [List.cons_append, List.nil_append])
    rotate_left
    · exact ⟨Nat.zero_le _, hz0.symm⟩
    obtain ⟨j, qo, qc, qn⟩ := z
    obtain ⟨hj, hqn⟩ := hz1
    dsimp only at hj hqn hK2 ⊢
    have hgl := Vm.outTo_le L.l j
    by_cases hjn : j < L.l.length
    · obtain ⟨n4, n5⟩ := d1 j hjn
      have hsn := Vm.outTo_succ L.l hjn
      by_cases hd : (L.l.getD j default).2.1 = 1
      · rw [if_pos hd] at hsn
        have hln := congrArg List.length hsn
        rw [List.length_append, List.length_singleton] at hln
        repeat (first | refine go (k := ?_) | (refine goB (k := ?_); intro b) | (refine goA (k := ?_); intro ao cap))
        rw [← hsn, ← Vm.lsE_succ]
        refine End.round0_ hK2 (j + 1, ao, cap, qn + 1) ?_ ?_
        · exact ⟨by dsimp only; omega, by dsimp only; omega⟩
        · dsimp only; omega
      · rw [if_neg hd, List.append_nil] at hsn
        repeat (first | refine go (k := ?_) | (refine goB (k := ?_); intro b) | (refine goA (k := ?_); intro ao cap))
        rw [← hsn, ← Vm.lsE_succ]
        refine End.round0_ hK2 (j + 1, qo, qc, qn) ?_ ?_
        · exact ⟨by dsimp only; omega, by dsimp only; rw [hsn]; exact hqn⟩
        · dsimp only; omega
    · obtain rfl : j = L.l.length := by omega
      clear hK2
      rw [d2] at hqn ⊢
      subst hqn
      obtain ⟨E, hE⟩ : ∃ E, E = Vm.lsE L.l L.l.length := ⟨_, rfl⟩
      rw [← hE] at d3 d4 d5 ⊢
      obtain ⟨t, ht⟩ : ∃ t, t = r.w.ends.getD k default := ⟨_, rfl⟩
      rw [← ht] at d3 d4 d5 ⊢
      repeat (first | refine go (k := ?_) | (refine goB (k := ?_); intro b) | (refine goA (k := ?_); intro ao cap))
      ((first | (apply Run.op; exact rfl) | refine Run.yes_ (h := ?_)); refine OpT.call0_ (spec := same9_is ⟨qo, qc, t.out⟩ ⟨t.oo, t.oc, t.out⟩ rfl) (r := (fun w => Reads.arr (by (repeat (first | exact Take.head | apply Take.tail))) (Reads.rd (by (repeat (first | exact Take.head | apply Take.tail))) .nil))) (k := ?_); intro s hs; (try conv => rhs; simp only [List.cons_append, List.nil_append]))
      have hb4 : (!(decide (t.st = 4) == decide (E.2.1 = 4))) = false := by
        rw [decide_eq_decide.2 d3]; cases decide (t.st = 4) <;> rfl
      have hb5 : (!(decide (t.st = 5) == decide (E.2.1 = 5))) = false := by
        rw [decide_eq_decide.2 d4]; cases decide (t.st = 5) <;> rfl
      by_cases hs5 : t.st = 5
      · have htr := d5 hs5
        repeat (first | refine go (k := ?_) | (refine goB (k := ?_); intro b) | (refine goA (k := ?_); intro ao cap))
        refine End.round0_ hK1 (k + 1) ?_ ?_
        · omega
        · omega
      · repeat (first | refine go (k := ?_) | (refine goB (k := ?_); intro b) | (refine goA (k := ?_); intro ao cap))
        refine End.round0_ hK1 (k + 1) ?_ ?_
        · omega
        · omega
  · repeat (first | refine go (k := ?_) | (refine goB (k := ?_); intro b) | (refine goA (k := ?_); intro ao cap))
    (refine End.done1_ (()) (he := by (first | exact rfl | (refine congrArg (Value.int _) ?_; omega) | (refine congrArg (Value.int _) ?_; dsimp only; omega))) (hp := ?_))
    trivial
end Go.Proofs.Ytjehflelkpacfaa.Vw
