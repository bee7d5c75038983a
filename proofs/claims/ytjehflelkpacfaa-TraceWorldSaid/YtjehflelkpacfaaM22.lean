/- A right module's task keeps what is known: a step, many steps, the beginning. Plain Lean. -/
import Derived.Test.YtjehflelkpacfaaM21
namespace Go.Proofs.Ytjehflelkpacfaa.Vm
set_option linter.unusedVariables false
set_option linter.unusedSimpArgs false
set_option linter.unusedSectionVars false
open ImgM Ver Opt

section
variable {M : Mdl} {T : Nat → Int → Option Shape} {ν : Type} {V : Env ν} {K : ν → Prop} (hC : Certs M T) (hV : EnvOk V M K)
include hC hV
theorem exec_res {t : Tk} {ch : List Nat} (hok : Ok M T t ch) {s : ν} (hK : K s) (hw : ((insT M t).op = 26 → V.full s (insT M t).a.toNat = false) ∧ ((insT M t).op = 27 → V.empty s (insT M t).a.toNat = false)) :
    Res M T K (exec V M (insT M t) (setPc ((topF (cur t)).pc + 1) t, s)) := by
  obtain ⟨fs0, ws0, q, p, st, hh, loc, op, a⟩ := hok.at_
  obtain ⟨st', h', hr⟩ := a.here hC
  have e : (topF (cur t)).pc = p := by rw [a.top]
  rw [e]
  have ho := hr.ok.op
  by_cases h1 : (insT M t).op = 1 ∨ (insT M t).op = 2 ∨ (insT M t).op = 3
  · exact exec_push hC hV hok a hr hK h1
  by_cases h2 : (insT M t).op = 4 ∨ (insT M t).op = 5 ∨ (insT M t).op = 6 ∨ (insT M t).op = 7 ∨ (insT M t).op = 22 ∨ (insT M t).op = 26 ∨ (insT M t).op = 28
  · exact exec_pop hC hV hok a hr hK h2 hw.1
  by_cases h3 : 8 ≤ (insT M t).op ∧ (insT M t).op ≤ 20
  · exact exec_two hC hV hok a hr hK h3
  by_cases h4 : (insT M t).op = 21 ∨ (insT M t).op = 27
  · exact exec_more hC hV hok a hr hK h4 hw.2
  by_cases h5 : (insT M t).op = 23
  · exact exec_call hC hV hok a hr hK h5
  by_cases h6 : (insT M t).op = 24
  · exact exec_ret hC hV hok a hr hK h6
  by_cases h7 : (insT M t).op = 25
  · exact exec_end hC hV hok a hr hK h7
  by_cases h8 : (insT M t).op = 29
  · exact exec_start hC hV hok a hr hK h8
  by_cases h9 : (insT M t).op = 30
  · exact exec_resume hC hV hok a hr hK h9
  by_cases h10 : (insT M t).op = 31
  · exact exec_yield hC hV hok a hr hK h10
  have h11 : (insT M t).op = 32 := by omega
  exact exec_alive hC hV hok a hr hK h11
/-- how a task stands: trapped, at its end, or where all is known -/
def Good (M : Mdl) (T : Nat → Int → Option Shape) (K : ν → Prop) (r : Tk × ν) : Prop := (r.1.st = 5 ∨ r.1.st = 4 ∨ (r.1.st ≤ 3 ∧ ∃ ch, Ok M T r.1 ch)) ∧ K r.2
omit hC hV in
theorem Ok.st {t : Tk} {ch : List Nat} (h : Ok M T t ch) (n b : Int) : Ok M T { t with st := n, bx := b } ch := ⟨h.now, h.few, h.nodup, h.mem, h.going, h.chain, h.root, h.top, h.wait, h.fresh, h.held, h.lens, h.kinds, h.sts⟩
omit hC hV in
theorem look_good {r : Tk × ν} (h : Good M T K r) : Good M T K (look V M r) := by
  unfold look
  by_cases h3 : r.1.st ≤ 3
  · rw [if_pos h3]
    obtain ⟨h1, h2⟩ := h
    have hok : ∃ ch, Ok M T r.1 ch := by
      rcases h1 with h | h | h
      · omega
      · omega
      · exact h.2
    obtain ⟨ch, hok⟩ := hok
    unfold waits
    split
    · exact ⟨.inr (.inr ⟨by simp, ch, hok.st _ _⟩), h2⟩
    split
    · exact ⟨.inr (.inr ⟨by simp, ch, hok.st _ _⟩), h2⟩
    · exact ⟨.inr (.inr ⟨by simp, ch, hok.st _ _⟩), h2⟩
  · rw [if_neg h3]; exact h
/-- an instruction leaves alone how it stands, but traps and ends -/
theorem push_st (v : Int) (s : Tk × ν) : (push V v s).1.st = s.1.st ∨ (push V v s).1.st = 5 := by
  unfold push
  split
  · unfold trap; split
    · exact .inl rfl
    · exact .inr rfl
  · exact .inl rfl
theorem trap_st (n : Int) (s : Tk × ν) : (trap V n s).1.st = s.1.st ∨ (trap V n s).1.st = 5 := by
  unfold trap; split
  · exact .inl rfl
  · exact .inr rfl
theorem pushN_st : ∀ (n : Nat) (s : Tk × ν), (pushN V n s).1.st = s.1.st ∨ (pushN V n s).1.st = 5
  | 0, s => .inl rfl
  | n + 1, s => by
    unfold pushN
    rcases pushN_st n (push V 0 s) with h | h
    · rw [h]; exact push_st hC hV 0 s
    · exact .inr h
/-- how it stands: as it did, trapped, or at its end -/
def StP (n : Int) (r : Tk × ν) : Prop := r.1.st = n ∨ r.1.st = 5 ∨ r.1.st = 4
omit hC hV in
theorem StP.ite {n : Int} {c : Prop} [Decidable c] {a b : Tk × ν} (h1 : StP n a) (h2 : StP n b) : StP n (if c then a else b) := by split <;> assumption
theorem exec_st (i : Ins) (s : Tk × ν) : StP s.1.st (exec V M i s) := by
  have hp : ∀ v (r : Tk × ν), r.1.st = s.1.st → StP s.1.st (push V v r) := fun v r e => by
    rcases push_st hC hV v r with h | h
    · exact .inl (h.trans e)
    · exact .inr (.inl h)
  have ht : ∀ v (r : Tk × ν), r.1.st = s.1.st → StP s.1.st (trap V v r) := fun v r e => by
    rcases trap_st hC hV v r with h | h
    · exact .inl (h.trans e)
    · exact .inr (.inl h)
  have hn : ∀ n (r : Tk × ν), r.1.st = s.1.st → StP s.1.st (pushN V n r) := fun n r e => by
    rcases pushN_st hC hV n r with h | h
    · exact .inl (h.trans e)
    · exact .inr (.inl h)
  have he : StP s.1.st (endU V s) := by
    unfold endU
    cases (cur s.1).up with
    | none => exact .inr (.inr rfl)
    | some j => exact hp _ _ rfl
  unfold exec callU ret startU resumeU yieldU aliveU
  dsimp only
  repeat' (first | exact he | exact hp _ _ rfl | exact ht _ _ rfl | exact hn _ _ rfl | refine StP.ite ?_ ?_ | exact .inl rfl | (refine .inl ?_; show (if _ then _ else _ : Tk).st = _; split <;> rfl))
theorem step_good {r : Tk × ν} (h : Good M T K r) : Good M T K (step V M r).2 := by
  unfold step
  have hl := look_good (V := V) h
  generalize hL : look V M r = r1 at *
  simp only
  split
  · exact hl
  · rename_i hst
    have hst1 : r1.1.st = 1 := Classical.byContradiction hst
    obtain ⟨h1, hK⟩ := hl
    have hok : ∃ ch, Ok M T r1.1 ch := by
      rcases h1 with h | h | h
      · omega
      · omega
      · exact h.2
    obtain ⟨ch, hok⟩ := hok
    have hw : ((insT M r1.1).op = 26 → V.full r1.2 (insT M r1.1).a.toNat = false) ∧ ((insT M r1.1).op = 27 → V.empty r1.2 (insT M r1.1).a.toNat = false) := by
      have hr3 : r.1.st ≤ 3 := by
        refine Int.not_lt.1 fun hlt => ?_
        unfold look at hL
        rw [if_neg (by omega)] at hL
        subst hL
        omega
      unfold look at hL
      rw [if_pos hr3] at hL
      have hi : insT M r1.1 = insT M r.1 ∧ r1.2 = r.2 := by
        rw [← hL]
        unfold waits
        split
        · exact ⟨rfl, rfl⟩
        split
        · exact ⟨rfl, rfl⟩
        · exact ⟨rfl, rfl⟩
      rw [hi.1, hi.2]
      unfold waits at hL
      by_cases c1 : (insT M r.1).op = 26 ∧ V.full r.2 (insT M r.1).a.toNat = true
      · rw [if_pos c1] at hL; subst hL; simp at hst1
      · rw [if_neg c1] at hL
        by_cases c2 : (insT M r.1).op = 27 ∧ V.empty r.2 (insT M r.1).a.toNat = true
        · rw [if_pos c2] at hL; subst hL; simp at hst1
        · refine ⟨fun ho => ?_, fun ho => ?_⟩
          · cases hx : V.full r.2 (insT M r.1).a.toNat with
            | false => rfl
            | true => exact absurd ⟨ho, hx⟩ c1
          · cases hx : V.empty r.2 (insT M r.1).a.toNat with
            | false => rfl
            | true => exact absurd ⟨ho, hx⟩ c2
    have hres := exec_res hC hV hok hK hw
    have hest := exec_st hC hV (insT M r1.1) (setPc ((topF (cur r1.1)).pc + 1) r1.1, r1.2)
    refine look_good (V := V) ⟨?_, hres.2⟩
    rcases hres.1 with h | h | h
    · exact .inl h
    · exact .inr (.inl h)
    · rcases hest with e | e | e
      · refine .inr (.inr ⟨?_, h⟩)
        rw [e]
        show r1.1.st ≤ 3
        omega
      · exact .inl e
      · exact .inr (.inl e)
end
/-- a task ahead of its first instruction -/
theorem new_ok {M : Mdl} {T : Nat → Int → Option Shape} (hC : Certs M T) {u : Nat} (hu : u < M.units.length) (hk : (unt M u).kind = 4) : Ok M T (new M u) [0] := by
  have hh := head_facts (unt_head hC hu)
  have hp : (unt M u).params.toNat = 0 := by
    have h := unt_head hC hu
    unfold Ver.head at h
    by_cases e1 : (unt M u).kind ≠ 2 ∧ (unt M u).kind ≠ 3 ∧ (unt M u).kind ≠ 4
    · rw [if_pos e1] at h; cases h
    rw [if_neg e1] at h
    by_cases e2 : 200 < (unt M u).locals.length ∨ (unt M u).params < 0 ∨ 6 < (unt M u).params ∨ ((unt M u).locals.length : Int) < (unt M u).params ∨ ((unt M u).kind = 4 ∧ 0 < (unt M u).params)
    · rw [if_pos e2] at h; cases h
    omega
  have hco : ∀ k, k < (new M u).cs.length → k = 0 := fun k h => by simp [new] at h; omega
  have hco0 : co (new M u) 0 = { begin M u [] with st := 2 } := rfl
  have hst : Stk M T (gsOf (new M u)) [⟨u, 0, 0⟩] (begin M u []).ws [] := by
    refine .one (start_seg hC hu (a := []) ?_ (by simp [begin]) (fun j hj => by omega) (fun v hv => ?_))
    · rw [hp]; exact .nil
    · simp only [begin, List.mem_map] at hv
      obtain ⟨j, -, rfl⟩ := hv
      simp [In64]
  refine ⟨rfl, by simp [new], by simp, fun k hk => by simp at hk; subst hk; simp [new], fun k hk' => ?_, fun i k h => ?_, fun i k h _ => ?_, hst, fun i d k h1 h2 => ?_, fun k hk' h0 => ?_, fun k hk' h0 => ?_, fun k hk' => ?_, fun k hk' => ?_, fun k hk' => ?_⟩
  · obtain rfl := hco k hk'; rw [hco0]; simp
  · cases i with
    | zero => simp at h; subst h; rfl
    | succ i => simp at h
  · cases i with
    | zero => simp at h; exact h.symm
    | succ i => simp at h
  · simp at h2
  · obtain rfl := hco k hk'; rw [hco0] at h0; cases h0
  · obtain rfl := hco k hk'; rw [hco0] at h0; cases h0
  · obtain rfl := hco k hk'; rw [hco0]
    refine ⟨?_, by simp [begin]⟩
    show (begin M u []).ws.length ≤ 400
    simp [begin]; omega
  · obtain rfl := hco k hk'; rw [hco0]
    exact ⟨hu, by rw [if_pos rfl]; exact hk⟩
  · obtain rfl := hco k hk'; rw [hco0]; simp
end Go.Proofs.Ytjehflelkpacfaa.Vm

/- What pushing, popping and trapping make of a task in memory is what they make of the plain one. -/
namespace Go.Proofs.Ytjehflelkpacfaa.Vw
open Go.RowKit Go.Proofs.Ytjehflelkpacfaa.Img
set_option linter.unusedVariables false
set_option linter.unusedSimpArgs false
section
variable {E : EnvM} {s : SL E}
abbrev SL.put (s : SL E) (q : Sk × Int × Int × E.μ) : SL E := { s with cur := { s.cur with sk := q.1 }, st := q.2.1, tr := q.2.2.1, e := q.2.2.2 }
abbrev SL.sk (s : SL E) (k : Sk) : SL E := { s with cur := { s.cur with sk := k } }
abbrev SL.thr (s : SL E) (st tr : Int) (e : E.μ) : SL E := { s with st := st, tr := tr, e := e }
theorem SL.Wf.thr (h : s.Wf) {st tr : Int} {e : E.μ} (he : E.ok e) : (s.thr st tr e).Wf := ⟨h.now, h.len, h.few, h.at_, h.up, h.upl, h.sk, he⟩
theorem trapped {n : Int} {q : Int × Int × E.μ} (h : s.Wf) (t : Trapped E n s.st s.tr s.e q) : (s.thr q.1 q.2.1 q.2.2).Wf ∧ (s.thr q.1 q.2.1 q.2.2).two = Vm.trap E.V n s.two := by
  by_cases h5 : s.st = 5
  · have e := t.old h5
    subst e
    refine ⟨h, ?_⟩
    unfold Vm.trap
    rw [if_pos (show s.two.1.st = 5 from h5)]
  · obtain ⟨h1, h2, h3, h4⟩ := t.new h5
    refine ⟨h.thr h3, ?_⟩
    unfold Vm.trap
    rw [if_neg (show ¬ s.two.1.st = 5 from h5)]
    show (SL.tk _, E.abs q.2.2) = _
    rw [h4, h1, h2]
    rfl
theorem SL.Wf.wsLen (h : s.Wf) : (Vm.cur s.two.1).ws.length = s.cur.sk.live := by
  show (Vm.cur s.tk).ws.length = _
  rw [h.cur]
  exact Sk.len h.curOk
theorem SL.Wf.skTo (h : s.Wf) {k : Sk} {xs : List Int} (t : SkTo s.cur.sk k xs) : (s.sk k).Wf ∧ (s.sk k).tk = Vm.setCur s.tk { Vm.cur s.tk with ws := xs } := by
  refine ⟨h.setCur rfl rfl rfl t.ok, ?_⟩
  rw [SL.tk_cur, h.cur]
  show Vm.setCur s.tk ⟨s.cur.st, s.cur.up, s.cur.fr, k.ws⟩ = _
  rw [t.ws]
  rfl
theorem pushed {v : Int} {q : Sk × Int × Int × E.μ} (h : s.Wf) (t : Pushed E v s.cur.sk s.st s.tr s.e q) : (s.put q).Wf ∧ (s.put q).two = Vm.push E.V v s.two := by
  obtain ⟨k, st, tr, e⟩ := q
  unfold Vm.push
  by_cases h4 : s.cur.sk.live = 400
  · obtain ⟨e1, e2⟩ := t.full h4
    simp only at e1 e2
    subst e1
    rw [if_pos (by rw [h.wsLen]; exact h4)]
    exact trapped h e2
  · obtain ⟨e1, e2⟩ := t.room h4
    simp only [Prod.mk.injEq] at e1 e2
    obtain ⟨rfl, rfl, rfl⟩ := e2
    rw [if_neg (by rw [h.wsLen]; exact h4)]
    obtain ⟨g1, g2⟩ := h.skTo e1
    refine ⟨g1, ?_⟩
    show ((s.sk k).tk, E.abs s.e) = _
    rw [g2, h.cur]
    show _ = (Vm.setCur s.tk { Vm.cur s.tk with ws := (Vm.cur s.tk).ws ++ [v] }, E.abs s.e)
    rw [h.cur]
    rfl
theorem popped {n : Nat} {k : Sk} (h : s.Wf) (t : SkTo s.cur.sk k (s.cur.sk.ws.take (s.cur.sk.live - n))) : (s.sk k).Wf ∧ (s.sk k).tk = Vm.drop n s.tk := by
  obtain ⟨g1, g2⟩ := h.skTo t
  refine ⟨g1, ?_⟩
  rw [g2]
  unfold Vm.drop
  have := h.wsLen
  have e : (Vm.cur s.tk).ws.length = s.cur.sk.live := this
  rw [e, h.cur]
  rfl
theorem SL.Wf.last (h : s.Wf) : Vm.last s.tk = s.cur.sk.ws.getD (s.cur.sk.live - 1) 0 := by
  unfold Vm.last
  have e : (Vm.cur s.tk).ws.length = s.cur.sk.live := h.wsLen
  rw [e, h.cur]
  rfl
theorem SL.Wf.topF (h : s.Wf) : Vm.topF (Vm.cur s.tk) = s.cur.fr.getD (s.cur.fr.length - 1) default := by
  rw [h.cur]; rfl
end
end Go.Proofs.Ytjehflelkpacfaa.Vw

/- A unit called, walked. -/
namespace Go.Proofs.Ytjehflelkpacfaa.Vw
open Go.RowKit Go.Proofs.Ytjehflelkpacfaa.Img
set_option linter.unusedVariables false
set_option linter.unusedSimpArgs false
attribute [local irreducible] Run Cod End OpT Still RunQ RunS RunT Fn PutOk
variable {E : EnvM}
/-- what a function of a task leaves: the task as the plain law says -/
structure Gives (s : SL E) (r : Vm.Tk × E.ν) (s' : SL E) : Prop where
  wf : s'.Wf
  two : s'.two = r
/-- the cells of a task, but how it stands -/
abbrev SL.F (p : Pl) (s : SL E) : TF := ⟨p.tb, p.mb, .slice s.co s.bs.length s.ccap, s.cur.cb, s.bx, .slice s.oo s.out.length s.oc⟩
theorem pushN_last {ν : Type} (V : Vm.Env ν) : ∀ (n : Nat) (s : Vm.Tk × ν), Vm.pushN V (n + 1) s = Vm.push V 0 (Vm.pushN V n s)
  | 0, s => rfl
  | n + 1, s => by
    rw [Vm.pushN, pushN_last V n]
    rfl
set_option maxRecDepth 100000 in
set_option maxHeartbeats 1000000 in
theorem call_is (p : Pl) (z : SL E) (hz : z.Wf) (hsz : E.size (E.abs z.e) ≤ 1000000) (u : Nat) (hu : u < p.m.us.length) (hp : 0 ≤ (p.m.us.getD u default).u.params) (hpl : (p.m.us.getD u default).u.params.toNat ≤ z.cur.sk.live) (hpL : (p.m.us.getD u default).u.params.toNat ≤ (p.m.us.getD u default).u.locals.length) (hl : (p.m.us.getD u default).u.locals.length ≤ 200) (hf : z.cur.fr.length ≤ 40) :
    Fn Try.prog 64 #[ptr p.tb, .int .i64 (u : Int)] [md p.m, E.rc] (TM p z) (σ := SL E) (Gives z (Vm.callU E.V p.m.mdl u z.two)) (fun _ => .tuple #[]) (fun z' => TM p z') := by
  obtain ⟨g1, g2, g3⟩ := id hz.curOk
  have he : E.okk z.e := ⟨hz.env, by omega⟩
  have hcl : (Vm.cur z.two.1).fr.length = z.cur.fr.length := by
    show (Vm.cur z.tk).fr.length = _
    rw [hz.cur]; rfl
  obtain ⟨n, hn⟩ : ∃ n, n = (p.m.us.getD u default).u.locals.length - (p.m.us.getD u default).u.params.toNat := ⟨_, rfl⟩
  obtain ⟨bse, hbse⟩ : ∃ n, n = z.cur.sk.live - (p.m.us.getD u default).u.params.toNat := ⟨_, rfl⟩
  have w1 : IntKind.i64.wrap ((z.cur.sk.live : Int) - (p.m.us.getD u default).u.params) = (bse : Int) := by rw [wrap_i64_in (by omega)]; omega
  have w2 : IntKind.i64.wrap (((p.m.us.getD u default).u.locals.length : Int) - (p.m.us.getD u default).u.params) = (n : Int) := by rw [wrap_i64_in (by omega)]; omega
  refine Fn.enter (args := [ptr p.tb, .int .i64 (u : Int)]) Try.func64 rfl _ Try.ntmps64 rfl (by simp [rd_excl, md_excl]) (fun w S => ?_)
  (try conv => rhs; simp only [List.cons_append, List.nil_append])
  repeat (first | refine go (k := ?_) | (refine goB (k := ?_); intro b) | (refine goA (k := ?_); intro ao cap))
  apply Cod.draw 10 ([ccM z.cur, md p.m]) (by kernel_rfl) 11 rfl
  refine RunT.takeR_ 0 (h := ?_)
  refine RunT.takeR_ 1 (h := ?_)
  refine RunT.takeR_ 2 (h := ?_)
  refine RunT.takeR_ 3 (h := ?_)
  refine RunT.takeR_ 5 (h := ?_)
  refine RunT.takeR_ 6 (h := ?_)
  refine RunT.takeR_ 7 (h := ?_)
  refine RunT.takeR_ 8 (h := ?_)
  (refine RunT.one_ 4 (h := ?_); refine OpT.call0_ (spec := live_is z.cur.sk) (k := ?_); intro s hs; refine And.intro gud ?_; (try conv => rhs; simp only [List.cons_append, List.nil_append]))
  refine RunT.takeR_ 9 (h := ?_)
  refine RunT.one_ 10 (h := OpT.val_ (k := And.intro gud ?_))
  (apply RunT.done; kernel_rfl)
  by_cases h40 : z.cur.fr.length = 40
  · repeat (first | refine go (k := ?_) | (refine goB (k := ?_); intro b) | (refine goA (k := ?_); intro ao cap))
    ((first | (apply Run.op; exact rfl) | refine Run.yes_ (h := ?_)); refine OpT.call0_ (spec := trap_is E (z.F p) z.st z.tr z.e he 4) (r := fun w => Reads.any (by (repeat (first | exact Take.head | apply Take.tail))) E.rexcl .nil) (k := ?_); intro s hs; (try conv => rhs; simp only [List.cons_append, List.nil_append]))
    repeat (first | refine go (k := ?_) | (refine goB (k := ?_); intro b) | (refine goA (k := ?_); intro ao cap))
    obtain ⟨t1, t2⟩ := trapped hz hs
    (refine End.done0_ ((z.thr s.1 s.2.1 s.2.2)) (hp := ?_))
    refine ⟨t1, t2.trans ?_⟩
    unfold Vm.callU
    rw [if_pos (hcl.trans h40)]
  · repeat (first | refine go (k := ?_) | (refine goB (k := ?_); intro b) | (refine goA (k := ?_); intro ao cap))
    (apply Run.op; exact rfl; refine OpT.append1_ (a := (⟨u, 0, bse⟩ : Vm.Fr)) (k := ?_); intro ao cap)
    obtain ⟨z1, hz1⟩ : ∃ z1 : SL E, z1 = { z with cur := { z.cur with fo := ao, fc := cap, fr := z.cur.fr ++ [⟨u, 0, bse⟩] } } := ⟨_, rfl⟩
    have hw1 : z1.Wf := by rw [hz1]; exact hz.setCur rfl rfl rfl hz.curOk
    repeat (first | refine go (k := ?_) | (refine goB (k := ?_); intro b) | (refine goA (k := ?_); intro ao cap))
    apply Cod.loop (σ := Nat × (Sk × Int × Int × E.μ)) (fun s => s.1 ≤ n ∧ (z1.put s.2).Wf ∧ (z1.put s.2).two = Vm.pushN E.V s.1 z1.two) (fun s => [(0, ptr p.tb), (59, .int .i64 (n : Int)), (60, .int .i64 (s.1 : Int))]) (fun s => old w S :: E.rc :: E.tc (z.F p) s.2.2.1 s.2.2.2.1 :: moM p :: csM z :: ouM z :: bagM (z.oth.eraseIdx z.now) :: E.mem s.2.2.2.2 :: cc z.cur.cb (z.cur.st : Int) (ptrO z.cur.upb) (.slice ao (z.cur.fr.length + 1) cap) s.2.1.sb :: arr ao (z.cur.fr.length + 1) cap 112 frC (z.cur.fr ++ [⟨u, 0, bse⟩]) :: skM s.2.1) (fun s => n - s.1) (0, z.cur.sk, z.st, z.tr, z.e)
    rotate_left
    exact sb
    exact tks
    intro s hs K hK
    (try conv => rhs; simp only [List.cons_append, List.nil_append])
    rotate_left
    · refine ⟨Nat.zero_le _, ?_, ?_⟩
      · rw [hz1] at hw1 ⊢; exact hw1
      · rw [hz1]; rfl
    obtain ⟨i, k, st, tr, e⟩ := s
    obtain ⟨hi, hw, h2⟩ := hs
    simp only at hi hw h2 hK ⊢
    by_cases hin : i < n
    · have hkk : E.okk e := ⟨hw.env, by
        have h5 := pushN_size E i z1.two
        rw [← h2] at h5
        have h6 : E.size (E.abs e) ≤ E.size (E.abs z1.e) + i := h5
        have h7 : z1.e = z.e := by rw [hz1]
        rw [h7] at h6
        omega⟩
      repeat (first | refine go (k := ?_) | (refine goB (k := ?_); intro b) | (refine goA (k := ?_); intro ao cap))
      ((first | (apply Run.op; exact rfl) | refine Run.yes_ (h := ?_)); refine OpT.call0_ (spec := push_is' E (z.F p) st tr e hkk (z.cur.st : Int) (ptrO z.cur.upb) (.slice ao (z.cur.fr.length + 1) cap) k hw.curOk 0) (r := fun w => Reads.any (by (repeat (first | exact Take.head | apply Take.tail))) E.rexcl .nil) (k := ?_); intro s hs; (try conv => rhs; simp only [List.cons_append, List.nil_append]))
      obtain ⟨t1, t2⟩ := pushed hw hs
      repeat (first | refine go (k := ?_) | (refine goB (k := ?_); intro b) | (refine goA (k := ?_); intro ao cap))
      refine End.round_ hK (i + 1, s) ?_ ?_
      · refine ⟨hin, t1, ?_⟩
        rw [pushN_last, ← h2]
        exact t2
      · simp only; omega
    · obtain rfl : i = n := by omega
      repeat (first | refine go (k := ?_) | (refine goB (k := ?_); intro b) | (refine goA (k := ?_); intro ao cap))
      subst hz1
      (refine End.done0'_ (SL.put { z with cur := { z.cur with fo := ao, fc := cap, fr := z.cur.fr ++ [⟨u, 0, bse⟩] } } (k, st, tr, e)) (ht := by (repeat (first | exact Takes.nil | exact Take.head | (refine Take.blkEq ?_; (focus (first | rfl | (simp; done) | (simp; omega) | omega | (simp [*]; done)))) | (refine Take.arrEq ?_ ?_; (focus (first | rfl | (simp; done) | (simp; omega) | omega | (simp [*]; done))); (focus (first | rfl | (simp; done) | (simp; omega) | omega | (simp [*]; done)))) | apply Take.tail | apply Takes.cons))) (hp := ?_))
      refine ⟨hw, h2.trans ?_⟩
      unfold Vm.callU
      rw [if_neg (fun h => h40 (hcl.symm.trans h))]
      have e1 : (Vm.unt p.m.mdl u).locals.length - (Vm.unt p.m.mdl u).params.toNat = i := by unfold Vm.unt; rw [ML.unit_at]; exact hn.symm
      have e2 : (Vm.cur z.tk).ws.length - (Vm.unt p.m.mdl u).params.toNat = bse := by rw [show (Vm.cur z.tk).ws.length = z.cur.sk.live from hz.wsLen]; unfold Vm.unt; rw [ML.unit_at]; exact hbse.symm
      show _ = Vm.pushN E.V _ (Vm.setCur z.tk { Vm.cur z.tk with fr := (Vm.cur z.tk).fr ++ [⟨u, 0, (Vm.cur z.tk).ws.length - (Vm.unt p.m.mdl u).params.toNat⟩] }, E.abs z.e)
      rw [e1, e2, hz.cur]
      unfold SL.two
      rw [SL.tk_cur]
      rfl
end Go.Proofs.Ytjehflelkpacfaa.Vw

/- Another thread goes on. -/
namespace Go.Proofs.Ytjehflelkpacfaa.Vw
open Go.RowKit Go.Proofs.Ytjehflelkpacfaa.Img
set_option linter.unusedVariables false
set_option linter.unusedSimpArgs false
theorem Run.imp' {P : Program} {ops : Array Oper} {Q : Exit → Act → World → Prop} {N : Nat} {l : List Oper} {E : Env} {L L' : List Chunk} (t : ∀ w, Mem w L → Mem w L') (h : Run P ops Q N l E L') : Run P ops Q N l E L := fun a w hs hm => h a w hs (t w hm)
theorem getD_eraseIdx_perm {α : Type} [Inhabited α] : ∀ {l : List α} {k : Nat}, k < l.length → l.Perm (l.getD k default :: l.eraseIdx k)
  | a :: l, 0, _ => List.Perm.refl _
  | a :: l, k + 1, h => by
    have ih := getD_eraseIdx_perm (l := l) (k := k) (by simpa using h)
    exact (List.Perm.cons a ih).trans (List.Perm.swap _ _ _)
theorem flat_perm (l : List CoL) {k : Nat} (h : k < l.length) : (l.flatMap coM).Perm (coM (l.getD k default) ++ (l.eraseIdx k).flatMap coM) := by
  have := (getD_eraseIdx_perm h).flatMap_right coM
  simpa only [List.flatMap_cons] using this
theorem eraseIdx_set_same {α : Type} (l : List α) (k : Nat) (a : α) : (l.set k a).eraseIdx k = l.eraseIdx k := List.eraseIdx_set_eq
theorem getD_set_ne {l : List CoL} {j k : Nat} {c : CoL} (h : j ≠ k) : (l.set j c).getD k default = l.getD k default := by
  simp only [List.getD_eq_getElem?_getD]
  rw [List.getElem?_set_ne h]
theorem getD_set_eq {l : List CoL} {k : Nat} {c : CoL} (h : k < l.length) : (l.set k c).getD k default = c := by
  simp only [List.getD_eq_getElem?_getD]
  rw [List.getElem?_set_self h]; rfl
theorem coM_excl (c : CoL) : ∀ d ∈ coM c, d.excl = true := by
  unfold coM
  simp [blk_excl, arr_excl]
/-- thread c goes into the bag, thread k comes out -/
theorem Mem.swap {w : World} {L L' F : List Chunk} {l : List CoL} {c : CoL} {j k : Nat} (h : Mem w L) (t : Take (bagM (l.eraseIdx j)) L L') (t2 : Takes (coM c) L' F) (hj : j < l.length) (hk : k < l.length) (hne : j ≠ k) : Mem w (coM (l.getD k default) ++ (bagM ((l.set j c).eraseIdx k) :: F)) := by
  have h1 : Mem w (bag ((l.set j c).flatMap coM) :: F) := by
    refine Mem.bagIn (es := (l.eraseIdx j).flatMap coM) (ds := coM c) h t t2 ?_ (coM_excl c)
    have := flat_perm (l.set j c) (k := j) (by simpa using hj)
    rwa [getD_set_eq hj, eraseIdx_set_same] at this
  have h2 := Mem.bagOut (ds := coM (l.getD k default)) (es := ((l.set j c).eraseIdx k).flatMap coM) h1 .head (by
    have := flat_perm (l.set j c) (k := k) (by simpa using hk)
    rwa [getD_set_ne hne] at this)
  exact h2
section
variable {E : EnvM} {s : SL E}
/-- thread j at work; what was at work is c -/
abbrev SL.go (s : SL E) (c : CoL) (j : Nat) (d : CoL) : SL E := { s with oth := s.oth.set s.now c, now := j, cur := d }
theorem SL.go_all (s : SL E) (c d : CoL) (j : Nat) : (s.go c j d).all = (s.oth.set s.now c).set j d := rfl
theorem SL.Wf.oth (h : s.Wf) {j : Nat} (hj : s.now ≠ j) : s.all.getD j default = s.oth.getD j default := getD_set_ne hj
theorem SL.go_tk (s : SL E) (c d : CoL) (j : Nat) : (s.go c j d).tk = { Vm.setC (Vm.setCur s.tk c.abs) j d.abs with now := j } := by
  unfold SL.tk Vm.setCur Vm.setC SL.all
  simp only [List.map_set, List.set_set]
theorem SL.Wf.go (h : s.Wf) {c d : CoL} {j : Nat} (hj : j < s.oth.length) (hne : s.now ≠ j) (hc : c.cb = s.cur.cb ∧ c.sk.Ok ∧ c.upb = c.up.map (fun j => s.bs.getD j 0) ∧ ∀ i, c.up = some i → i < s.oth.length)
    (hd : d.cb = (s.oth.getD j default).cb ∧ d.sk.Ok ∧ d.upb = d.up.map (fun j => s.bs.getD j 0) ∧ ∀ i, d.up = some i → i < s.oth.length) : (s.go c j d).Wf := by
  have hmem : ∀ x ∈ (s.go c j d).all, x = c ∨ x = d ∨ x ∈ s.all := fun x hx => by
    rw [SL.go_all] at hx
    obtain ⟨i, hi, e⟩ := List.mem_iff_getElem.1 hx
    rw [List.getElem_set] at e
    split at e
    · exact .inr (.inl e.symm)
    rw [List.getElem_set] at e
    split at e
    · exact .inl e.symm
    · rename_i hne'
      right; right
      rw [← e]
      unfold SL.all
      refine List.mem_iff_getElem.2 ⟨i, by simpa using hi, ?_⟩
      rw [List.getElem_set_ne hne']
  refine ⟨by simpa using hj, by simpa using h.len, by simpa using h.few, fun i hi => ?_, fun x hx => ?_, fun x hx i hi => ?_, fun x hx => ?_, h.env⟩
  · have hi : i < s.oth.length := by simpa using hi
    rw [SL.go_all]
    by_cases hij : j = i
    · subst hij
      rw [getD_set_eq (by simpa using hi), hd.1, ← h.at_ j hi, h.oth hne]
    · rw [getD_set_ne hij]
      by_cases hin : s.now = i
      · subst hin
        rw [getD_set_eq hi, hc.1, ← h.at_ _ hi, h.curGet]
      · rw [getD_set_ne hin, ← h.at_ i hi, h.oth hin]
  · rcases hmem x hx with rfl | rfl | hx
    · exact hc.2.2.1
    · exact hd.2.2.1
    · exact h.up x hx
  · show i < (s.oth.set _ _).length
    rw [List.length_set]
    rcases hmem x hx with rfl | rfl | hx
    · exact hc.2.2.2 i hi
    · exact hd.2.2.2 i hi
    · exact h.upl x hx i hi
  · rcases hmem x hx with rfl | rfl | hx
    · exact hc.2.1
    · exact hd.2.1
    · exact h.sk x hx
theorem SL.go_tk' (s : SL E) (c : CoL) {j : Nat} (hj : j < s.oth.length) (hne : s.now ≠ j) : (s.go c j (s.oth.getD j default)).tk = { Vm.setCur s.tk c.abs with now := j } := by
  unfold SL.tk Vm.setCur Vm.setC
  rw [SL.go_all]
  have e : (s.oth.set s.now c).set j (s.oth.getD j default) = s.oth.set s.now c := by
    refine List.ext_getElem (by simp) fun i h1 h2 => ?_
    rw [List.getElem_set]
    split
    · rename_i h
      subst h
      rw [List.getElem_set_ne hne, List.getD_eq_getElem?_getD, List.getElem?_eq_getElem hj]
      rfl
    · rfl
  rw [e]
  unfold SL.all
  simp only [List.map_set, List.set_set]
theorem Mem.swap1 {w : World} {L L' F : List Chunk} {l : List CoL} (c : CoL) {j k : Nat} (h : Mem w L) (t : Take (bagM (l.eraseIdx j)) L L') (t2 : Takes (coM c) L' F) (hj : j < l.length) (hk : k < l.length) (hne : j ≠ k) :
    Mem w (ccM (l.getD k default) :: frM (l.getD k default) :: blk (l.getD k default).sk.sb (skC (l.getD k default).sk) 141 :: arr (some ⟨(l.getD k default).sk.lb, 0, none⟩) (l.getD k default).sk.l.length (l.getD k default).sk.l.length 2 i64c (l.getD k default).sk.l :: bagM ((l.set j c).eraseIdx k) :: F) := Mem.swap h t t2 hj hk hne
theorem Mem.back1 {w : World} {L L' F : List Chunk} {l : List CoL} (c : CoL) {j k : Nat} (h : Mem w L) (t : Take (bagM ((l.set j c).eraseIdx k)) L L') (t2 : Takes (coM (l.getD k default)) L' F) (hj : j < l.length) (hk : k < l.length) (hne : j ≠ k) :
    Mem w (ccM c :: frM c :: blk c.sk.sb (skC c.sk) 141 :: arr (some ⟨c.sk.lb, 0, none⟩) c.sk.l.length c.sk.l.length 2 i64c c.sk.l :: bagM (l.eraseIdx j) :: F) := by
  have h1 := Mem.swap1 (l := l.set j c) (l.getD k default) h t t2 (by simpa using hk) (by simpa using hj) (fun e => hne e.symm)
  have e2 : ((l.set j c).set k (l.getD k default)) = l.set j c := by
    refine List.ext_getElem (by simp) fun i h1 h2 => ?_
    rw [List.getElem_set]
    split
    · rename_i h
      subst h
      rw [List.getElem_set_ne hne, List.getD_eq_getElem?_getD, List.getElem?_eq_getElem hk]
      rfl
    · rfl
  rw [getD_set_eq hj, e2, eraseIdx_set_same] at h1
  exact h1
theorem SL.Wf.bsGet (h : s.Wf) {j : Nat} (hj : j < s.oth.length) (hne : s.now ≠ j) : s.bs.getD j 0 = (s.oth.getD j default).cb := by rw [← h.at_ j hj, h.oth hne]
theorem SL.Wf.othMem (h : s.Wf) {j : Nat} (hj : j < s.oth.length) (hne : s.now ≠ j) : s.oth.getD j default ∈ s.all := by
  rw [← h.oth hne]
  exact getD_mem (by rw [s.allLen]; exact hj)
end
end Go.Proofs.Ytjehflelkpacfaa.Vw

/- A thread's end; a thread resumed: walked. -/
namespace Go.Proofs.Ytjehflelkpacfaa.Vw
open Go.RowKit Go.Proofs.Ytjehflelkpacfaa.Img
set_option linter.unusedVariables false
set_option linter.unusedSimpArgs false
attribute [local irreducible] Run Cod End OpT Still RunQ RunS RunT Fn PutOk
variable {E : EnvM}
set_option maxRecDepth 100000 in
set_option maxHeartbeats 1000000 in
theorem end_is (p : Pl) (z : SL E) (hz : z.Wf) (hsz : E.size (E.abs z.e) ≤ 1000000) (hj : ∀ j, z.cur.up = some j → z.now ≠ j) :
    Fn Try.prog 65 #[ptr p.tb] [E.rc] (TM p z) (σ := SL E) (Gives z (Vm.endU E.V z.two)) (fun _ => .tuple #[]) (fun z' => TM p z') := by
  have he : E.okk z.e := ⟨hz.env, by omega⟩
  have hub := hz.up _ hz.curMem
  have hcur := hz.cur
  cases hup : z.cur.up with
  | none =>
    rw [hup] at hub
    have hcc : ccM z.cur = cc z.cur.cb (z.cur.st : Int) (.pointer none) (.slice z.cur.fo z.cur.fr.length z.cur.fc) z.cur.sk.sb := by unfold ccM; rw [hub]; rfl
    refine Fn.enter (args := [ptr p.tb]) Try.func65 rfl _ Try.ntmps65 rfl (by simp [rd_excl, md_excl]) (fun w S => ?_)
    (try conv => rhs; simp only [List.cons_append, List.nil_append])
    unfold TM
    rw [hcc]
    repeat (first | refine go (k := ?_) | (refine goB (k := ?_); intro b) | (refine goA (k := ?_); intro ao cap))
    ((first | (apply Run.op; exact rfl) | refine Run.yes_ (h := ?_)); refine OpT.call0_ (spec := tell_is E (z.F p) 4 z.tr z.e he 4 0 0) (r := fun w => Reads.any (by (repeat (first | exact Take.head | apply Take.tail))) E.rexcl .nil) (k := ?_); intro s hs; (try conv => rhs; simp only [List.cons_append, List.nil_append]))
    obtain ⟨k1, k2⟩ := hs
    repeat (first | refine go (k := ?_) | (refine goB (k := ?_); intro b) | (refine goA (k := ?_); intro ao cap))
    have hw1 : ({ z with cur := { z.cur with st := 3, upb := none } } : SL E).Wf := hz.setCur rfl rfl (by rw [hub]; rfl) hz.curOk
    (refine End.done0_ (({ z with cur := { z.cur with st := 3, upb := none }, st := 4, e := s } : SL E)) (hp := ?_))
    refine ⟨hw1.thr (st := 4) (tr := z.tr) k1, ?_⟩
    unfold Vm.endU
    have e1 : (Vm.cur z.two.1).up = none := (congrArg Vm.Co.up hcur).trans hup
    rw [e1]
    show (SL.tk _, E.abs s) = ({ Vm.setCur z.tk { Vm.cur z.tk with st := 3 } with st := 4 }, E.V.tell (E.abs z.e) (4, 0, 0))
    rw [k2, hcur]
    have e2 := SL.tk_cur z { z.cur with st := 3, upb := none }
    have e3 : (CoL.abs { z.cur with st := 3, upb := none }) = ({ z.cur.abs with st := 3 } : Vm.Co) := rfl
    rw [e3] at e2
    rw [← e2]
    rfl
  | some j =>
    rw [hup] at hub
    have hne := hj j hup
    have hlt := hz.upl _ hz.curMem j hup
    have hcc : ccM z.cur = cc z.cur.cb (z.cur.st : Int) (ptr (z.bs.getD j 0)) (.slice z.cur.fo z.cur.fr.length z.cur.fc) z.cur.sk.sb := by unfold ccM; rw [hub]; rfl
    refine Fn.enter (args := [ptr p.tb]) Try.func65 rfl _ Try.ntmps65 rfl (by simp [rd_excl, md_excl]) (fun w S => ?_)
    (try conv => rhs; simp only [List.cons_append, List.nil_append])
    unfold TM
    rw [hcc]
    repeat (first | refine go (k := ?_) | (refine goB (k := ?_); intro b) | (refine goA (k := ?_); intro ao cap))
    rw [hz.bsGet hlt hne]
    apply Run.imp' (fun w hm => Mem.swap1 { z.cur with st := 3, up := none, upb := none } hm (by (repeat (first | exact Take.head | apply Take.tail))) (by (repeat (first | exact Takes.nil | exact Take.head | apply Take.tail | apply Takes.cons))) hz.now hlt hne)
    have hd := hz.othMem hlt hne
    have hw1 : (z.go { z.cur with st := 3, up := none, upb := none } j (z.oth.getD j default)).Wf := hz.go hlt hne ⟨rfl, hz.curOk, rfl, fun i h => by simp at h⟩ ⟨rfl, hz.sk _ hd, hz.up _ hd, hz.upl _ hd⟩
    ((first | (apply Run.op; exact rfl) | refine Run.yes_ (h := ?_)); refine OpT.call0_ (spec := push_is' E (SL.F p (z.go { z.cur with st := 3, up := none, upb := none } j (z.oth.getD j default))) z.st z.tr z.e he ((z.oth.getD j default).st : Int) (ptrO (z.oth.getD j default).upb) (.slice (z.oth.getD j default).fo (z.oth.getD j default).fr.length (z.oth.getD j default).fc) (z.oth.getD j default).sk (hz.sk _ hd) 0) (r := fun w => Reads.any (by (repeat (first | exact Take.head | apply Take.tail))) E.rexcl .nil) (k := ?_); intro s hs; (try conv => rhs; simp only [List.cons_append, List.nil_append]))
    obtain ⟨t1, t2⟩ := pushed hw1 hs
    repeat (first | refine go (k := ?_) | (refine goB (k := ?_); intro b) | (refine goA (k := ?_); intro ao cap))
    (refine End.done0'_ (((z.go { z.cur with st := 3, up := none, upb := none } j (z.oth.getD j default)).put s)) (hp := ?_))
    refine ⟨t1, t2.trans ?_⟩
    unfold Vm.endU
    have e1 : (Vm.cur z.two.1).up = some j := (congrArg Vm.Co.up hcur).trans hup
    rw [e1]
    show Vm.push E.V 0 (SL.tk _, E.abs z.e) = Vm.push E.V 0 ({ Vm.setCur z.tk { Vm.cur z.tk with st := 3, up := none } with now := j }, E.abs z.e)
    rw [SL.go_tk' z _ hlt hne, hcur]
    rfl
/-- what a thread's resumption does, the two words taken -/
def resR {ν : Type} (V : Vm.Env ν) (k : Nat) (v : Int) (s : Vm.Tk × ν) : Vm.Tk × ν :=
  if (s.1.cs.getD k default).st = 3 then Vm.trap V 2 s
  else if (s.1.cs.getD k default).st = 2 then Vm.trap V 3 s
  else if (s.1.cs.getD k default).st = 0 then ({ Vm.setC s.1 k { s.1.cs.getD k default with st := 2, up := some s.1.now } with now := k }, s.2)
  else Vm.push V v ({ Vm.setC s.1 k { s.1.cs.getD k default with st := 2, up := some s.1.now } with now := k }, s.2)
theorem resumeU_eq {ν : Type} (V : Vm.Env ν) (s : Vm.Tk × ν) : Vm.resumeU V s = resR V (Vm.last (Vm.drop 1 s.1)).toNat (Vm.last s.1) (Vm.drop 1 (Vm.drop 1 s.1), s.2) := rfl
theorem SL.Wf.csGet {z : SL E} (hz : z.Wf) {k : Nat} (hk : k < z.oth.length) : z.tk.cs.getD k default = (z.all.getD k default).abs := getD_map0 _ _ (by rw [z.allLen]; exact hk)
set_option maxRecDepth 100000 in
set_option maxHeartbeats 1000000 in
theorem resume_is (p : Pl) (z : SL E) (hz : z.Wf) (hsz : E.size (E.abs z.e) ≤ 1000000) (k : Nat) (hk : k < z.oth.length) (v : Int) (hg : z.cur.st = 2) (hst : (z.oth.getD k default).st ≤ 3 ∨ k = z.now) :
    Fn Try.prog 67 #[ptr p.tb, ptr (z.bs.getD k 0), .int .i64 v] [E.rc] (TM p z) (σ := SL E) (Gives z (resR E.V k v z.two)) (fun _ => .tuple #[]) (fun z' => TM p z') := by
  have he : E.okk z.e := ⟨hz.env, by omega⟩
  by_cases hkn : k = z.now
  · subst hkn
    rw [← hz.curCb]
    refine Fn.enter (args := [ptr p.tb, ptr z.cur.cb, .int .i64 v]) Try.func67 rfl _ Try.ntmps67 rfl (by simp [rd_excl, md_excl]) (fun w S => ?_)
    (try conv => rhs; simp only [List.cons_append, List.nil_append])
    repeat (first | refine go (k := ?_) | (refine goB (k := ?_); intro b) | (refine goA (k := ?_); intro ao cap))
    ((first | (apply Run.op; exact rfl) | refine Run.yes_ (h := ?_)); refine OpT.call0_ (spec := trap_is E (z.F p) z.st z.tr z.e he 3) (r := fun w => Reads.any (by (repeat (first | exact Take.head | apply Take.tail))) E.rexcl .nil) (k := ?_); intro s hs; (try conv => rhs; simp only [List.cons_append, List.nil_append]))
    repeat (first | refine go (k := ?_) | (refine goB (k := ?_); intro b) | (refine goA (k := ?_); intro ao cap))
    obtain ⟨t1, t2⟩ := trapped hz hs
    (refine End.done0_ ((z.thr s.1 s.2.1 s.2.2)) (hp := ?_))
    refine ⟨t1, t2.trans ?_⟩
    unfold resR
    have e1 : z.two.1.cs.getD z.now default = z.cur.abs := by rw [show z.two.1 = z.tk from rfl, hz.csGet hk, hz.curGet]
    rw [e1, if_neg (by show ¬ z.cur.st = 3; omega), if_pos (show z.cur.abs.st = 2 from hg)]
  · have hne : z.now ≠ k := fun h => hkn h.symm
    have hst3 : (z.oth.getD k default).st ≤ 3 := hst.resolve_right hkn
    rw [hz.bsGet hk hne]
    have e1 : z.two.1.cs.getD k default = (z.oth.getD k default).abs := by rw [show z.two.1 = z.tk from rfl, hz.csGet hk, hz.oth hne]
    have hdm := hz.othMem hk hne
    have hcd : (CoL.abs (z.oth.getD k default)).st = (z.oth.getD k default).st := rfl
    refine Fn.enter (args := [ptr p.tb, ptr (z.oth.getD k default).cb, .int .i64 v]) Try.func67 rfl _ Try.ntmps67 rfl (by simp [rd_excl, md_excl]) (fun w S => ?_)
    (try conv => rhs; simp only [List.cons_append, List.nil_append])
    apply Cod.imp (fun w hm => Mem.swap1 z.cur hm (by (repeat (first | exact Take.head | apply Take.tail))) (by (repeat (first | exact Takes.nil | exact Take.head | apply Take.tail | apply Takes.cons))) hz.now hk hne)
    obtain ⟨d, hd⟩ : ∃ d, d = z.oth.getD k default := ⟨_, rfl⟩
    rw [← hd] at e1 hdm hcd hst3 ⊢
    have hback : ∀ {w : World} {L L' F : List Chunk}, Take (bagM ((z.oth.set z.now z.cur).eraseIdx k)) L L' → Takes (coM d) L' F → Mem w L → Mem w (ccM z.cur :: frM z.cur :: blk z.cur.sk.sb (skC z.cur.sk) 141 :: arr (some ⟨z.cur.sk.lb, 0, none⟩) z.cur.sk.l.length z.cur.sk.l.length 2 i64c z.cur.sk.l :: bagM (z.oth.eraseIdx z.now) :: F) := fun t t2 hm => by
      rw [hd] at t2
      exact Mem.back1 z.cur hm t t2 hz.now hk hne
    have hself : Vm.setCur z.tk z.cur.abs = z.tk := (SL.tk_cur z z.cur).symm
    have hw1 : (z.go z.cur k { d with st := 2, up := some z.now, upb := some z.cur.cb }).Wf := hz.go hk hne ⟨rfl, hz.curOk, hz.up _ hz.curMem, hz.upl _ hz.curMem⟩ ⟨by rw [hd], (hz.sk d hdm : d.sk.Ok), by rw [hz.curCb]; rfl, fun i h => by simp at h; subst h; exact hz.now⟩
    have htk : (z.go z.cur k { d with st := 2, up := some z.now, upb := some z.cur.cb }).tk = { Vm.setC z.tk k { d.abs with st := 2, up := some z.now } with now := k } := by
      rw [SL.go_tk, hself]; rfl
    by_cases h3 : d.st = 3
    · repeat (first | refine go (k := ?_) | (refine goB (k := ?_); intro b) | (refine goA (k := ?_); intro ao cap))
      ((first | (apply Run.op; exact rfl) | refine Run.yes_ (h := ?_)); refine OpT.call0_ (spec := trap_is E (z.F p) z.st z.tr z.e he 2) (r := fun w => Reads.any (by (repeat (first | exact Take.head | apply Take.tail))) E.rexcl .nil) (k := ?_); intro s hs; (try conv => rhs; simp only [List.cons_append, List.nil_append]))
      repeat (first | refine go (k := ?_) | (refine goB (k := ?_); intro b) | (refine goA (k := ?_); intro ao cap))
      obtain ⟨t1, t2⟩ := trapped hz hs
      apply End.imp (fun w hm => hback (by (repeat (first | exact Take.head | apply Take.tail))) (by (repeat (first | exact Takes.nil | exact Take.head | apply Take.tail | apply Takes.cons))) hm)
      (refine End.done0_ ((z.thr s.1 s.2.1 s.2.2)) (hp := ?_))
      refine ⟨t1, t2.trans ?_⟩
      unfold resR
      rw [e1, if_pos (show d.abs.st = 3 from h3)]
    · by_cases h2 : d.st = 2
      · repeat (first | refine go (k := ?_) | (refine goB (k := ?_); intro b) | (refine goA (k := ?_); intro ao cap))
        ((first | (apply Run.op; exact rfl) | refine Run.yes_ (h := ?_)); refine OpT.call0_ (spec := trap_is E (z.F p) z.st z.tr z.e he 3) (r := fun w => Reads.any (by (repeat (first | exact Take.head | apply Take.tail))) E.rexcl .nil) (k := ?_); intro s hs; (try conv => rhs; simp only [List.cons_append, List.nil_append]))
        repeat (first | refine go (k := ?_) | (refine goB (k := ?_); intro b) | (refine goA (k := ?_); intro ao cap))
        obtain ⟨t1, t2⟩ := trapped hz hs
        apply End.imp (fun w hm => hback (by (repeat (first | exact Take.head | apply Take.tail))) (by (repeat (first | exact Takes.nil | exact Take.head | apply Take.tail | apply Takes.cons))) hm)
        (refine End.done0_ ((z.thr s.1 s.2.1 s.2.2)) (hp := ?_))
        refine ⟨t1, t2.trans ?_⟩
        unfold resR
        rw [e1, if_neg (show ¬ d.abs.st = 3 from h3), if_pos (show d.abs.st = 2 from h2)]
      · by_cases h0 : d.st = 0
        · repeat (first | refine go (k := ?_) | (refine goB (k := ?_); intro b) | (refine goA (k := ?_); intro ao cap))
          (refine End.done0'_ ((z.go z.cur k { d with st := 2, up := some z.now, upb := some z.cur.cb })) (hp := ?_))
          refine ⟨hw1, ?_⟩
          unfold resR
          rw [e1, if_neg (show ¬ d.abs.st = 3 from h3), if_neg (show ¬ d.abs.st = 2 from h2), if_pos (show d.abs.st = 0 from h0)]
          show (SL.tk _, E.abs z.e) = _
          rw [htk]
          rfl
        · repeat (first | refine go (k := ?_) | (refine goB (k := ?_); intro b) | (refine goA (k := ?_); intro ao cap))
          ((first | (apply Run.op; exact rfl) | refine Run.yes_ (h := ?_)); refine OpT.call0_ (spec := push_is' E (SL.F p (z.go z.cur k { d with st := 2, up := some z.now, upb := some z.cur.cb })) z.st z.tr z.e he 2 (ptr z.cur.cb) (.slice d.fo d.fr.length d.fc) d.sk (hz.sk _ hdm) v) (r := fun w => Reads.any (by (repeat (first | exact Take.head | apply Take.tail))) E.rexcl .nil) (k := ?_); intro s hs; (try conv => rhs; simp only [List.cons_append, List.nil_append]))
          obtain ⟨t1, t2⟩ := pushed hw1 hs
          repeat (first | refine go (k := ?_) | (refine goB (k := ?_); intro b) | (refine goA (k := ?_); intro ao cap))
          (refine End.done0'_ (((z.go z.cur k { d with st := 2, up := some z.now, upb := some z.cur.cb }).put s)) (hp := ?_))
          refine ⟨t1, t2.trans ?_⟩
          unfold resR
          rw [e1, if_neg (show ¬ d.abs.st = 3 from h3), if_neg (show ¬ d.abs.st = 2 from h2), if_neg (show ¬ d.abs.st = 0 from h0)]
          show Vm.push E.V v (SL.tk _, E.abs z.e) = _
          rw [htk]
          rfl
end Go.Proofs.Ytjehflelkpacfaa.Vw
