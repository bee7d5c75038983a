/- A right module's task keeps what is known: a step, many steps, the beginning. Plain Lean. -/
import Derived.Test.YtfeajpghabjaaaaM25
namespace Go.Proofs.Ytfeajpghabjaaaa.Vm
set_option linter.unusedVariables false
set_option linter.unusedSimpArgs false
set_option linter.unusedSectionVars false
open ImgM Ver Opt

section
variable {M : Mdl} {T : Nat → Int → Option Shape} {ν : Type} {V : Env ν} {K : ν → Prop} (hC : Certs M T) (hV : EnvOk V M K)
include hC hV
theorem exec_res {t : Tk} {ch : List Nat} (hok : Ok M T t ch) {s : ν} (hK : K s) (hw : ((insT M t).op = 26 → V.full s (insT M t).a.toNat = false) ∧ ((insT M t).op = 27 → V.empty s (insT M t).a.toNat = false)) :
    Res M T K (exec V M (insT M t) (setPc ((topF (cur t)).pc + 1) t, s)) := by
  obtain ⟨fs0, ws0, q, p, st, hh, loc, op, a⟩ := hok.at_
  obtain ⟨st', h', hr⟩ := a.here hC
  have e : (topF (cur t)).pc = p := by rw [a.top]
  rw [e]
  have ho := hr.ok.op
  by_cases h1 : (insT M t).op = 1 ∨ (insT M t).op = 2 ∨ (insT M t).op = 3
  · exact exec_push hC hV hok a hr hK h1
  by_cases h2 : (insT M t).op = 4 ∨ (insT M t).op = 5 ∨ (insT M t).op = 6 ∨ (insT M t).op = 7 ∨ (insT M t).op = 22 ∨ (insT M t).op = 26 ∨ (insT M t).op = 28
  · exact exec_pop hC hV hok a hr hK h2 hw.1
  by_cases h3 : 8 ≤ (insT M t).op ∧ (insT M t).op ≤ 20
  · exact exec_two hC hV hok a hr hK h3
  by_cases h4 : (insT M t).op = 21 ∨ (insT M t).op = 27
  · exact exec_more hC hV hok a hr hK h4 hw.2
  by_cases h5 : (insT M t).op = 23
  · exact exec_call hC hV hok a hr hK h5
  by_cases h6 : (insT M t).op = 24
  · exact exec_ret hC hV hok a hr hK h6
  by_cases h7 : (insT M t).op = 25
  · exact exec_end hC hV hok a hr hK h7
  by_cases h8 : (insT M t).op = 29
  · exact exec_start hC hV hok a hr hK h8
  by_cases h9 : (insT M t).op = 30
  · exact exec_resume hC hV hok a hr hK h9
  by_cases h10 : (insT M t).op = 31
  · exact exec_yield hC hV hok a hr hK h10
  have h11 : (insT M t).op = 32 := by omega
  exact exec_alive hC hV hok a hr hK h11
/-- how a task stands: trapped, at its end, or where all is known -/
def Good (M : Mdl) (T : Nat → Int → Option Shape) (K : ν → Prop) (r : Tk × ν) : Prop := (r.1.st = 5 ∨ r.1.st = 4 ∨ (r.1.st ≤ 3 ∧ ∃ ch, Ok M T r.1 ch)) ∧ K r.2
omit hC hV in
theorem Ok.st {t : Tk} {ch : List Nat} (h : Ok M T t ch) (n b : Int) : Ok M T { t with st := n, bx := b } ch := ⟨h.now, h.few, h.nodup, h.mem, h.going, h.chain, h.root, h.top, h.wait, h.fresh, h.held, h.lens, h.kinds, h.sts⟩
omit hC hV in
theorem look_good {r : Tk × ν} (h : Good M T K r) : Good M T K (look V M r) := by
  unfold look
  by_cases h3 : r.1.st ≤ 3
  · rw [if_pos h3]
    obtain ⟨h1, h2⟩ := h
    have hok : ∃ ch, Ok M T r.1 ch := by
      rcases h1 with h | h | h
      · omega
      · omega
      · exact h.2
    obtain ⟨ch, hok⟩ := hok
    unfold waits
    split
    · exact ⟨.inr (.inr ⟨by simp, ch, hok.st _ _⟩), h2⟩
    split
    · exact ⟨.inr (.inr ⟨by simp, ch, hok.st _ _⟩), h2⟩
    · exact ⟨.inr (.inr ⟨by simp, ch, hok.st _ _⟩), h2⟩
  · rw [if_neg h3]; exact h
/-- an instruction leaves alone how it stands, but traps and ends -/
theorem push_st (v : Int) (s : Tk × ν) : (push V v s).1.st = s.1.st ∨ (push V v s).1.st = 5 := by
  unfold push
  split
  · unfold trap; split
    · exact .inl rfl
    · exact .inr rfl
  · exact .inl rfl
theorem trap_st (n : Int) (s : Tk × ν) : (trap V n s).1.st = s.1.st ∨ (trap V n s).1.st = 5 := by
  unfold trap; split
  · exact .inl rfl
  · exact .inr rfl
theorem pushN_st : ∀ (n : Nat) (s : Tk × ν), (pushN V n s).1.st = s.1.st ∨ (pushN V n s).1.st = 5
  | 0, s => .inl rfl
  | n + 1, s => by
    unfold pushN
    rcases pushN_st n (push V 0 s) with h | h
    · rw [h]; exact push_st hC hV 0 s
    · exact .inr h
/-- how it stands: as it did, trapped, or at its end -/
def StP (n : Int) (r : Tk × ν) : Prop := r.1.st = n ∨ r.1.st = 5 ∨ r.1.st = 4
omit hC hV in
theorem StP.ite {n : Int} {c : Prop} [Decidable c] {a b : Tk × ν} (h1 : StP n a) (h2 : StP n b) : StP n (if c then a else b) := by split <;> assumption
theorem exec_st (i : Ins) (s : Tk × ν) : StP s.1.st (exec V M i s) := by
  have hp : ∀ v (r : Tk × ν), r.1.st = s.1.st → StP s.1.st (push V v r) := fun v r e => by
    rcases push_st hC hV v r with h | h
    · exact .inl (h.trans e)
    · exact .inr (.inl h)
  have ht : ∀ v (r : Tk × ν), r.1.st = s.1.st → StP s.1.st (trap V v r) := fun v r e => by
    rcases trap_st hC hV v r with h | h
    · exact .inl (h.trans e)
    · exact .inr (.inl h)
  have hn : ∀ n (r : Tk × ν), r.1.st = s.1.st → StP s.1.st (pushN V n r) := fun n r e => by
    rcases pushN_st hC hV n r with h | h
    · exact .inl (h.trans e)
    · exact .inr (.inl h)
  have he : StP s.1.st (endU V s) := by
    unfold endU
    cases (cur s.1).up with
    | none => exact .inr (.inr rfl)
    | some j => exact hp _ _ rfl
  unfold exec callU ret startU resumeU yieldU aliveU
  dsimp only
  repeat' (first | exact he | exact hp _ _ rfl | exact ht _ _ rfl | exact hn _ _ rfl | refine StP.ite ?_ ?_ | exact .inl rfl | (refine .inl ?_; show (if _ then _ else _ : Tk).st = _; split <;> rfl))
theorem step_good {r : Tk × ν} (h : Good M T K r) : Good M T K (step V M r).2 := by
  unfold step
  have hl := look_good (V := V) h
  generalize hL : look V M r = r1 at *
  simp only
  split
  · exact hl
  · rename_i hst
    have hst1 : r1.1.st = 1 := Classical.byContradiction hst
    obtain ⟨h1, hK⟩ := hl
    have hok : ∃ ch, Ok M T r1.1 ch := by
      rcases h1 with h | h | h
      · omega
      · omega
      · exact h.2
    obtain ⟨ch, hok⟩ := hok
    have hw : ((insT M r1.1).op = 26 → V.full r1.2 (insT M r1.1).a.toNat = false) ∧ ((insT M r1.1).op = 27 → V.empty r1.2 (insT M r1.1).a.toNat = false) := by
      have hr3 : r.1.st ≤ 3 := by
        refine Int.not_lt.1 fun hlt => ?_
        unfold look at hL
        rw [if_neg (by omega)] at hL
        subst hL
        omega
      unfold look at hL
      rw [if_pos hr3] at hL
      have hi : insT M r1.1 = insT M r.1 ∧ r1.2 = r.2 := by
        rw [← hL]
        unfold waits
        split
        · exact ⟨rfl, rfl⟩
        split
        · exact ⟨rfl, rfl⟩
        · exact ⟨rfl, rfl⟩
      rw [hi.1, hi.2]
      unfold waits at hL
      by_cases c1 : (insT M r.1).op = 26 ∧ V.full r.2 (insT M r.1).a.toNat = true
      · rw [if_pos c1] at hL; subst hL; simp at hst1
      · rw [if_neg c1] at hL
        by_cases c2 : (insT M r.1).op = 27 ∧ V.empty r.2 (insT M r.1).a.toNat = true
        · rw [if_pos c2] at hL; subst hL; simp at hst1
        · refine ⟨fun ho => ?_, fun ho => ?_⟩
          · cases hx : V.full r.2 (insT M r.1).a.toNat with
            | false => rfl
            | true => exact absurd ⟨ho, hx⟩ c1
          · cases hx : V.empty r.2 (insT M r.1).a.toNat with
            | false => rfl
            | true => exact absurd ⟨ho, hx⟩ c2
    have hres := exec_res hC hV hok hK hw
    have hest := exec_st hC hV (insT M r1.1) (setPc ((topF (cur r1.1)).pc + 1) r1.1, r1.2)
    refine look_good (V := V) ⟨?_, hres.2⟩
    rcases hres.1 with h | h | h
    · exact .inl h
    · exact .inr (.inl h)
    · rcases hest with e | e | e
      · refine .inr (.inr ⟨?_, h⟩)
        rw [e]
        show r1.1.st ≤ 3
        omega
      · exact .inl e
      · exact .inr (.inl e)
end
/-- a task ahead of its first instruction -/
theorem new_ok {M : Mdl} {T : Nat → Int → Option Shape} (hC : Certs M T) {u : Nat} (hu : u < M.units.length) (hk : (unt M u).kind = 4) : Ok M T (new M u) [0] := by
  have hh := head_facts (unt_head hC hu)
  have hp : (unt M u).params.toNat = 0 := by
    have h := unt_head hC hu
    unfold Ver.head at h
    by_cases e1 : (unt M u).kind ≠ 2 ∧ (unt M u).kind ≠ 3 ∧ (unt M u).kind ≠ 4
    · rw [if_pos e1] at h; cases h
    rw [if_neg e1] at h
    by_cases e2 : 200 < (unt M u).locals.length ∨ (unt M u).params < 0 ∨ 6 < (unt M u).params ∨ ((unt M u).locals.length : Int) < (unt M u).params ∨ ((unt M u).kind = 4 ∧ 0 < (unt M u).params)
    · rw [if_pos e2] at h; cases h
    omega
  have hco : ∀ k, k < (new M u).cs.length → k = 0 := fun k h => by simp [new] at h; omega
  have hco0 : co (new M u) 0 = { begin M u [] with st := 2 } := rfl
  have hst : Stk M T (gsOf (new M u)) [⟨u, 0, 0⟩] (begin M u []).ws [] := by
    refine .one (start_seg hC hu (a := []) ?_ (by simp [begin]) (fun j hj => by omega) (fun v hv => ?_))
    · rw [hp]; exact .nil
    · simp only [begin, List.mem_map] at hv
      obtain ⟨j, -, rfl⟩ := hv
      simp [In64]
  refine ⟨rfl, by simp [new], by simp, fun k hk => by simp at hk; subst hk; simp [new], fun k hk' => ?_, fun i k h => ?_, fun i k h _ => ?_, hst, fun i d k h1 h2 => ?_, fun k hk' h0 => ?_, fun k hk' h0 => ?_, fun k hk' => ?_, fun k hk' => ?_, fun k hk' => ?_⟩
  · obtain rfl := hco k hk'; rw [hco0]; simp
  · cases i with
    | zero => simp at h; subst h; rfl
    | succ i => simp at h
  · cases i with
    | zero => simp at h; exact h.symm
    | succ i => simp at h
  · simp at h2
  · obtain rfl := hco k hk'; rw [hco0] at h0; cases h0
  · obtain rfl := hco k hk'; rw [hco0] at h0; cases h0
  · obtain rfl := hco k hk'; rw [hco0]
    refine ⟨?_, by simp [begin]⟩
    show (begin M u []).ws.length ≤ 400
    simp [begin]; omega
  · obtain rfl := hco k hk'; rw [hco0]
    exact ⟨hu, by rw [if_pos rfl]; exact hk⟩
  · obtain rfl := hco k hk'; rw [hco0]; simp
end Go.Proofs.Ytfeajpghabjaaaa.Vm

/- Solo's boxes keep their types; what a task puts out, sends and takes only grows. Plain Lean. -/
namespace Go.Proofs.Ytfeajpghabjaaaa.Vm
set_option linter.unusedVariables false
set_option linter.unusedSimpArgs false
open ImgM Ver Opt

/-- a right module's typings -/
theorem certs_ok {M : Mdl} (h : verify M = .ok) (hG : ∀ k, k < M.units.length → Ver.Good M (M.units.getD k default)) (h64 : ∀ k, k < M.units.length → ∀ i ∈ (unt M k).code, In64 i.n ∧ In64 i.a) : ∃ T, Certs M T := by
  have hR := verify_iff.1 h
  have hF := hR.form
  have key : ∀ k, ∃ τ, k < M.units.length → Cert M (unt M k) τ ∧ ∀ p s, τ p = some s → s.1.length ≤ 300 ∧ s.2.length = (unt M k).locals.length := fun k => by
    by_cases hk : k < M.units.length
    · obtain ⟨g1, g2⟩ := hF.units _ (uAt_mem hk)
      have hh : (M.units.getD k default).params.toNat ≤ (M.units.getD k default).locals.length := by
        have g1' : head M (M.units.getD k default) = 0 := g1
        unfold head at g1'
        generalize M.units.getD k default = u at *
        by_cases e1 : u.kind ≠ 2 ∧ u.kind ≠ 3 ∧ u.kind ≠ 4
        · rw [if_pos e1] at g1'; cases g1'
        rw [if_neg e1] at g1'
        by_cases e2 : 200 < u.locals.length ∨ u.params < 0 ∨ 6 < u.params ∨ (u.locals.length : Int) < u.params ∨ (u.kind = 4 ∧ 0 < u.params)
        · rw [if_pos e2] at g1'; cases g1'
        omega
      obtain ⟨τ, h1, h2⟩ := cert_of_code (hG k hk) hh (head_len g1).1 (hR.code k hk)
      exact ⟨τ, fun _ => ⟨h1, h2⟩⟩
    · exact ⟨fun _ => none, fun h => absurd h hk⟩
  refine ⟨fun k => Classical.choose (key k), hF, h64, fun q hq => (Classical.choose_spec (key q) hq).1, fun q p s hq hs => ((Classical.choose_spec (key q) hq).2 p s hs).2⟩
/-- words of a box's type -/
def Typed (t : Int) (l : List Int) : Prop := t = 2 → ∀ v ∈ l, v = 0 ∨ v = 1
structure LsK (M : Mdl) (F : List (List Int)) (s : Ls) : Prop where
  took : s.took.length = M.boxes.length
  sent : s.sent.length = M.boxes.length
  le : ∀ b, b < M.boxes.length → s.took.getD b 0 ≤ (F.getD b []).length
  typ : ∀ b, b < M.boxes.length → Typed (M.boxes.getD b default).1 (s.sent.getD b [])
/-- feeds of the boxes' types -/
structure Fed (M : Mdl) (F : List (List Int)) : Prop where
  len : F.length = M.boxes.length
  in64 : ∀ l ∈ F, ∀ v ∈ l, In64 v
  typ : ∀ b, b < M.boxes.length → Typed (M.boxes.getD b default).1 (F.getD b [])
theorem getD_setL {l : List (List Int)} {k j : Nat} {v : List Int} (hk : k < l.length) : (l.set k v).getD j [] = if k = j then v else l.getD j [] := by
  simp only [List.getD_eq_getElem?_getD, List.getElem?_set]
  by_cases h : k = j
  · subst h; simp [hk]
  · simp [h]
theorem getD_setN {l : List Nat} {k j : Nat} {v : Nat} (hk : k < l.length) : (l.set k v).getD j 0 = if k = j then v else l.getD j 0 := by
  simp only [List.getD_eq_getElem?_getD, List.getElem?_set]
  by_cases h : k = j
  · subst h; simp [hk]
  · simp [h]
theorem feed_mem {l : List Int} {k : Nat} (h : k < l.length) : l.getD k 0 ∈ l := by
  rw [List.getD_eq_getElem?_getD, List.getElem?_eq_getElem h]; exact List.getElem_mem h
theorem feeds_mem {l : List (List Int)} {k : Nat} (h : k < l.length) : l.getD k [] ∈ l := by
  rw [List.getD_eq_getElem?_getD, List.getElem?_eq_getElem h]; exact List.getElem_mem h
theorem lists_ok {M : Mdl} {F : List (List Int)} (hF : Fed M F) : EnvOk (lists F) M (LsK M F) := by
  refine ⟨fun s b hK hb he => ?_, fun s b v hK hb _ hv ht => ?_, fun s e hK => hK⟩
  · have hlt : s.took.getD b 0 < (F.getD b []).length := by
      have := hK.le b hb
      have he' : decide (s.took.getD b 0 = (F.getD b []).length) = false := he
      rw [decide_eq_false_iff_not] at he'
      omega
    have hm := feed_mem hlt
    refine ⟨⟨by simp [lists, hK.took], hK.sent, fun j hj => ?_, hK.typ⟩, hF.in64 _ (feeds_mem (by rw [hF.len]; exact hb)) _ hm, fun h2 => hF.typ b hb h2 _ hm⟩
    show (s.took.set b (s.took.getD b 0 + 1)).getD j 0 ≤ _
    rw [getD_setN (by rw [hK.took]; exact hb)]
    split
    · rename_i e; subst e; omega
    · exact hK.le j hj
  · refine ⟨hK.took, by simp [lists, hK.sent], hK.le, fun j hj => ?_⟩
    show Typed _ ((s.sent.set b (s.sent.getD b [] ++ [v])).getD j [])
    rw [getD_setL (by rw [hK.sent]; exact hb)]
    split
    · rename_i e; subst e
      intro h2 x hx
      rcases List.mem_append.1 hx with hx | hx
      · exact hK.typ b hb h2 x hx
      · simp at hx; subst hx; exact ht h2
    · exact hK.typ j hj
theorem getD_rep {α : Type} (n k : Nat) (a : α) : (List.replicate n a).getD k a = a := by
  rw [List.getD_eq_getElem?_getD, List.getElem?_replicate]
  split <;> rfl
theorem new_K (M : Mdl) (F : List (List Int)) (hF : Fed M F) : LsK M F (Ls.new F.length) := by
  refine ⟨by simp [Ls.new, hF.len], by simp [Ls.new, hF.len], fun b hb => ?_, fun b hb => ?_⟩
  · show (List.replicate _ 0).getD b 0 ≤ _
    rw [getD_rep]; exact Nat.zero_le _
  · show Typed _ ((List.replicate _ []).getD b [])
    rw [getD_rep]; intro _ v hv; cases hv
section
variable {M : Mdl} {T : Nat → Int → Option Shape} {ν : Type} {V : Env ν} {K : ν → Prop}
theorem goN_le : ∀ (n : Nat) (r : Tk × ν), (goN V M n r).1 ≤ n
  | 0, r => Nat.le_refl _
  | n + 1, r => by
    unfold goN
    split
    · have := goN_le n (step V M r).2
      simp only; omega
    · exact Nat.zero_le _
end
end Go.Proofs.Ytfeajpghabjaaaa.Vm

/- Solo's laws, in plain Lean: with more steps a task goes on; with longer feeds it says no less; what is right runs. -/
namespace Go.Proofs.Ytfeajpghabjaaaa.Vm
set_option linter.unusedVariables false
set_option linter.unusedSimpArgs false
set_option linter.unusedSectionVars false
open ImgM Ver Opt
section
variable {ν : Type} {V : Env ν} {M : Mdl}
end
/-- what was put out, what was sent: the beginning of it -/
structure Beg (r s : Tk × Ls) : Prop where
  out : r.1.out <+: s.1.out
  len : r.2.sent.length = s.2.sent.length
  sent : ∀ b, r.2.sent.getD b [] <+: s.2.sent.getD b []
theorem Beg.refl (r : Tk × Ls) : Beg r r := ⟨List.prefix_refl _, rfl, fun b => List.prefix_refl _⟩
theorem Beg.trans {a b c : Tk × Ls} (h : Beg a b) (k : Beg b c) : Beg a c := ⟨h.out.trans k.out, h.len.trans k.len, fun x => (h.sent x).trans (k.sent x)⟩
/-- longer feeds -/
structure Longer (M : Mdl) (F G : List (List Int)) : Prop where
  pre : ∀ b, b < M.boxes.length → F.getD b [] <+: G.getD b []
section
variable {M : Mdl} {T : Nat → Int → Option Shape} {F G : List (List Int)} (hC : Certs M T) (hF : Fed M F) (hl : Longer M F G)
include hC hF hl
end
/-- WHAT IS VERIFIED RUNS -/
structure Goes (M : Mdl) (F : List (List Int)) (n : Nat) (r : Nat × (Tk × Ls)) : Prop where
  steps : r.1 ≤ n
  sent : r.2.2.sent.length = M.boxes.length
  took : r.2.2.took.length = M.boxes.length
  le : ∀ b, b < M.boxes.length → r.2.2.took.getD b 0 ≤ (F.getD b []).length
  typ : ∀ b, b < M.boxes.length → Typed (M.boxes.getD b default).1 (r.2.2.sent.getD b [])
  st : (r.2.1.st = 3 ∧ 0 ≤ r.2.1.bx ∧ r.2.1.bx.toNat < M.boxes.length ∧ r.2.2.took.getD r.2.1.bx.toNat 0 = (F.getD r.2.1.bx.toNat []).length) ∨ (r.2.1.st = 1 ∧ r.1 = n) ∨ r.2.1.st = 4 ∨ r.2.1.st = 5
end Go.Proofs.Ytfeajpghabjaaaa.Vm

/- Kahn's theorem for tasks that speak through boxes, each of which has one sender and one receiver. Plain Lean. -/
namespace Go.Proofs.Ytfeajpghabjaaaa.Vm
set_option linter.unusedVariables false
set_option linter.unusedSimpArgs false
set_option linter.unusedSectionVars false
open ImgM Ver Opt
/-- a task, but how it waits -/
def nrm (t : Tk) : Tk := if t.st ≤ 3 then { t with st := 1, bx := 0 } else t
/-- what was sent to a box, what was received from it -/
def snd (b : Nat) (l : List Ev) : List Int := l.filterMap fun e => if e.1 = 2 ∧ e.2.1 = (b : Int) then some e.2.2 else none
def rcv (b : Nat) (l : List Ev) : List Int := l.filterMap fun e => if e.1 = 3 ∧ e.2.1 = (b : Int) then some e.2.2 else none
theorem snd_app (b : Nat) (l r : List Ev) : snd b (l ++ r) = snd b l ++ snd b r := List.filterMap_append ..
theorem rcv_app (b : Nat) (l r : List Ev) : rcv b (l ++ r) = rcv b l ++ rcv b r := List.filterMap_append ..
/-- what an event does to the boxes -/
def wplay (ws : List (List Int)) (e : Ev) : List (List Int) := if e.1 = 2 then ws.set e.2.1.toNat (ws.getD e.2.1.toNat [] ++ [e.2.2]) else if e.1 = 3 then ws.set e.2.1.toNat (ws.getD e.2.1.toNat []).tail else ws
section
variable (M : Mdl)
/-- a step of a task's own -/
def loc1 (x : Int) (t : Tk) : Tk × List Ev := (nrm (lstep M x t).1, (lstep M x t).2)
/-- a task, and its events, after what it was given -/
def ltk (t : Tk) (xs : List Int) : Tk := xs.foldl (fun t x => (loc1 M x t).1) t
def lev : Tk → List Int → List Ev
  | _, [] => []
  | t, x :: xs => (loc1 M x t).2 ++ lev (loc1 M x t).1 xs
/-- which box an instruction is about -/
abbrev bxOf (t : Tk) : Nat := (insT M t).a.toNat
/-- a task can go on -/
structure Can (cap : Nat → Nat) (t : Tk) (ws : List (List Int)) : Prop where
  st : t.st = 1
  send : (insT M t).op = 26 → (ws.getD (bxOf M t) []).length ≠ cap (bxOf M t)
  recv : (insT M t).op = 27 → (ws.getD (bxOf M t) []).length ≠ 0
/-- what it receives -/
def xin (t : Tk) (ws : List (List Int)) : Int := if (insT M t).op = 27 then (ws.getD (bxOf M t) []).headD 0 else 0
/-- histories: what each task was given, and what lies in the boxes then, after n steps -/
inductive Runs (cap : Nat → Nat) (T : List Tk) : Nat → (Nat → List Int) → List (List Int) → Prop
  | nil : Runs cap T 0 (fun _ => []) (List.replicate M.boxes.length [])
  | step {n k : Nat} {xs : Nat → List Int} {ws : List (List Int)} (h : Runs cap T n xs ws) (hk : k < T.length) (hc : Can M cap (ltk M (T.getD k default) (xs k)) ws) :
      Runs cap T (n + 1) (fun j => if j = k then xs k ++ [xin M (ltk M (T.getD k default) (xs k)) ws] else xs j) ((loc1 M (xin M (ltk M (T.getD k default) (xs k)) ws) (ltk M (T.getD k default) (xs k))).2.foldl wplay ws)
end
theorem snd_trap (b : Nat) (n : Int) : snd b [(5, 0, n)] = [] := by simp [snd]
theorem rcv_trap (b : Nat) (n : Int) : rcv b [(5, 0, n)] = [] := by simp [rcv]
theorem play_trap (ws : List (List Int)) (n : Int) : [((5 : Int), (0 : Int), n)].foldl wplay ws = ws := by simp [wplay]
/-- what a step does to the boxes -/
structure BoxDo (i : Ins) (x : Int) (l : List Ev) : Prop where
  ex : (i.op = 26 ∧ ∃ v, (∀ b, snd b l = if i.a = (b : Int) then [v] else []) ∧ (∀ b, rcv b l = []) ∧ ∀ ws, l.foldl wplay ws = ws.set i.a.toNat (ws.getD i.a.toNat [] ++ [v])) ∨
    (i.op = 27 ∧ (∀ b, snd b l = []) ∧ (∀ b, rcv b l = if i.a = (b : Int) then [x] else []) ∧ ∀ ws, l.foldl wplay ws = ws.set i.a.toNat (ws.getD i.a.toNat []).tail) ∨
    (i.op ≠ 26 ∧ i.op ≠ 27 ∧ (∀ b, snd b l = []) ∧ (∀ b, rcv b l = []) ∧ ∀ ws, l.foldl wplay ws = ws)
theorem Did.box {i : Ins} {x : Int} {t : Tk} {r : Tk × List Ev} (h : Did i x t r) : BoxDo i x r.2 := by
  refine ⟨?_⟩
  rcases h.ex with ⟨t1, l1, h1, h2, h3, h4, h5⟩ | ⟨ho, h1, -⟩
  · have key : ∀ l, (l = l1 ∨ ∃ n, l = l1 ++ [(5, 0, n)]) → (∀ b, snd b l = snd b l1) ∧ (∀ b, rcv b l = rcv b l1) ∧ ∀ ws, l.foldl wplay ws = l1.foldl wplay ws := by
      rintro l (rfl | ⟨n, rfl⟩)
      · exact ⟨fun b => rfl, fun b => rfl, fun ws => rfl⟩
      · exact ⟨fun b => by rw [snd_app, snd_trap, List.append_nil], fun b => by rw [rcv_app, rcv_trap, List.append_nil], fun ws => by rw [List.foldl_append, play_trap]⟩
    obtain ⟨k1, k2, k3⟩ := key r.2 (by
      rcases h1 with ⟨e, -⟩ | ⟨e, -⟩
      · exact .inl e
      · exact .inr ⟨_, e⟩)
    rcases h5 with ⟨rfl, ha, hb⟩ | ⟨ho, rfl⟩ | ⟨ho, rfl⟩ | ⟨ho, rfl⟩ | ⟨ho, rfl⟩
    · exact .inr (.inr ⟨ha, hb, fun b => k1 b, fun b => k2 b, fun ws => k3 ws⟩)
    · refine .inl ⟨ho, last t, fun b => ?_, fun b => ?_, fun ws => ?_⟩
      · rw [k1]; by_cases h : i.a = (b : Int) <;> simp [snd, h]
      · rw [k2]; simp [rcv]
      · rw [k3]; simp [wplay]
    · refine .inr (.inl ⟨ho, fun b => ?_, fun b => ?_, fun ws => ?_⟩)
      · rw [k1]; simp [snd]
      · rw [k2]; by_cases h : i.a = (b : Int) <;> simp [rcv, h]
      · rw [k3]; simp [wplay]
    · refine .inr (.inr ⟨by omega, by omega, fun b => ?_, fun b => ?_, fun ws => ?_⟩)
      · rw [k1]; simp [snd]
      · rw [k2]; simp [rcv]
      · rw [k3]; simp [wplay]
    · refine .inr (.inr ⟨by omega, by omega, fun b => ?_, fun b => ?_, fun ws => ?_⟩)
      · rw [k1]; simp [snd]
      · rw [k2]; simp [rcv]
      · rw [k3]; simp [wplay]
  · refine .inr (.inr ⟨by omega, by omega, fun b => ?_, fun b => ?_, fun ws => ?_⟩)
    · rw [h1]; simp [snd]
    · rw [h1]; simp [rcv]
    · rw [h1]; simp [wplay]
/-- each box has one who sends and one who receives; boxes are there -/
structure Owns (M : Mdl) (T : List Tk) (s r : Nat → Nat) : Prop where
  snd : ∀ {cap : Nat → Nat} {n : Nat} {xs : Nat → List Int} {ws : List (List Int)}, Runs M cap T n xs ws → ∀ k, k < T.length → ∀ b, k ≠ s b → snd b (lev M (T.getD k default) (xs k)) = []
  rcv : ∀ {cap : Nat → Nat} {n : Nat} {xs : Nat → List Int} {ws : List (List Int)}, Runs M cap T n xs ws → ∀ k, k < T.length → ∀ b, k ≠ r b → rcv b (lev M (T.getD k default) (xs k)) = []
  rng : ∀ {cap : Nat → Nat} {n : Nat} {xs : Nat → List Int} {ws : List (List Int)}, Runs M cap T n xs ws → ∀ k, k < T.length → (ltk M (T.getD k default) (xs k)).st = 1 → ((insT M (ltk M (T.getD k default) (xs k))).op = 26 ∨ (insT M (ltk M (T.getD k default) (xs k))).op = 27) → 0 ≤ (insT M (ltk M (T.getD k default) (xs k))).a ∧ bxOf M (ltk M (T.getD k default) (xs k)) < M.boxes.length
section
variable {M : Mdl} {T : List Tk} {s r : Nat → Nat} {cap : Nat → Nat} {n : Nat} {xs : Nat → List Int} {ws : List (List Int)}
theorem upd_same (xs : Nat → List Int) (k : Nat) (l : List Int) : (fun j => if j = k then l else xs j) k = l := by simp
theorem upd_ne (xs : Nat → List Int) {k j : Nat} (l : List Int) (h : j ≠ k) : (fun j => if j = k then l else xs j) j = xs j := by simp [h]
theorem Runs.none (h : Runs M cap T n xs ws) : ∀ k, T.length ≤ k → xs k = [] := by
  induction h with
  | nil => intro k _; rfl
  | step h hk hc ih =>
    intro j hj
    rw [upd_ne _ _ (by omega)]
    exact ih j hj
theorem Runs.sum (h : Runs M cap T n xs ws) : n = ((List.range T.length).map fun k => (xs k).length).sum := by
  induction h with
  | nil =>
    have : ∀ l : List Nat, (l.map fun _ => ([] : List Int).length).sum = 0 := fun l => by induction l <;> simp_all
    exact (this _).symm
  | @step n k xs ws h hk hc ih =>
    have key : ∀ (m : Nat) (l : List Int) , l.length = (xs k).length + 1 → ((List.range m).map fun j => ((fun j => if j = k then l else xs j) j).length).sum = ((List.range m).map fun j => (xs j).length).sum + if k < m then 1 else 0 := fun m l hl => by
      induction m with
      | zero => simp
      | succ m ih =>
        rw [List.range_succ, List.map_append, List.map_append, List.sum_append, List.sum_append, ih]
        simp only [List.map_cons, List.map_nil, List.sum_cons, List.sum_nil]
        by_cases hm : m = k
        · subst hm
          rw [if_pos rfl, hl, if_neg (by omega), if_pos (by omega)]; omega
        · rw [if_neg hm]
          by_cases hkm : k < m
          · rw [if_pos hkm, if_pos (by omega)]; omega
          · rw [if_neg hkm, if_neg (by omega)]; omega
    rw [key _ _ (by simp), if_pos hk, ← ih]
/-- what is given where nothing is received is nothing -/
theorem Runs.zero (h : Runs M cap T n xs ws) : ∀ k (p q : List Int) (x : Int), xs k = p ++ x :: q → (insT M (ltk M (T.getD k default) p)).op ≠ 27 → x = 0 := by
  induction h with
  | nil => intro k p q x hx; simp at hx
  | @step n j xs ws h hk hc ih =>
    intro k p q x hx ho
    by_cases hkj : k = j
    · subst hkj
      rw [upd_same] at hx
      rcases List.eq_nil_or_concat q with rfl | ⟨q', y, rfl⟩
      · obtain ⟨rfl, e⟩ := List.append_inj' hx rfl
        simp only [List.cons.injEq, and_true] at e
        rw [← e]; unfold xin; rw [if_neg ho]
      · rw [show p ++ x :: q'.concat y = (p ++ x :: q') ++ [y] by simp] at hx
        obtain ⟨e, -⟩ := List.append_inj' hx rfl
        exact ih k p q' x e ho
    · rw [upd_ne _ _ hkj] at hx
      exact ih k p q x hx ho
/-- each step could be done when it was -/
theorem Runs.st (h : Runs M cap T n xs ws) : ∀ k (p q : List Int) (x : Int), xs k = p ++ x :: q → (ltk M (T.getD k default) p).st = 1 := by
  induction h with
  | nil => intro k p q x hx; simp at hx
  | @step n j xs ws h hk hc ih =>
    intro k p q x hx
    by_cases hkj : k = j
    · subst hkj
      rw [upd_same] at hx
      rcases List.eq_nil_or_concat q with rfl | ⟨q', y, rfl⟩
      · obtain ⟨rfl, e⟩ := List.append_inj' hx rfl
        exact hc.st
      · rw [show p ++ x :: q'.concat y = (p ++ x :: q') ++ [y] by simp] at hx
        obtain ⟨e, -⟩ := List.append_inj' hx rfl
        exact ih k p q' x e
    · rw [upd_ne _ _ hkj] at hx
      exact ih k p q x hx
variable {cap2 : Nat → Nat} {m : Nat} {ys : Nat → List Int} {us : List (List Int)}
end
end Go.Proofs.Ytfeajpghabjaaaa.Vm

/- Shorter code does the same, one pass of package opt: each task's steps, one after the other. Plain Lean. -/
namespace Go.Proofs.Ytfeajpghabjaaaa.Vm
open ImgM Ver Opt
set_option linter.unusedVariables false
set_option linter.unusedSimpArgs false
/-- where a place of a unit's code is after a pass -/
def plc (l : List Ins) (p : Nat) : Nat := if p < l.length then ((pass0 l).wh.getD p 0).toNat else (Opt.pass l).1.length + (p - l.length)
/-- a piece begins here, or the code has ended -/
def Bd (l : List Ins) (p : Nat) : Prop := l.length ≤ p ∨ ∃ A C, bs l = A ++ p :: C
theorem plc_at {l : List Ins} {A C : List Nat} {p : Nat} (h : bs l = A ++ p :: C) : plc l p = (A.flatMap (em l)).length := by
  have hp := (bs_next h).1
  unfold plc
  rw [if_pos hp, pass0_wh h, Int.toNat_natCast]
theorem plc_end (l : List Ins) : plc l l.length = (Opt.pass l).1.length := by
  unfold plc
  rw [if_neg (Nat.lt_irrefl _), Nat.sub_self, Nat.add_zero]
theorem plc_zero (l : List Ins) : plc l 0 = 0 := by
  by_cases h : 0 < l.length
  · obtain ⟨C, hC⟩ := bs_zero h
    rw [plc_at (A := []) hC]; rfl
  · obtain rfl : l = [] := List.eq_nil_of_length_eq_zero (by omega)
    rfl
theorem Bd.zero (l : List Ins) : Bd l 0 := by
  by_cases h : 0 < l.length
  · obtain ⟨C, hC⟩ := bs_zero h
    exact .inr ⟨[], C, hC⟩
  · exact .inl (by omega)
theorem Bd.next {l : List Ins} {A C : List Nat} {q : Nat} (h : bs l = A ++ q :: C) : Bd l (nx l q) ∧ plc l (nx l q) = plc l q + (em l q).length := by
  obtain ⟨h1, h2⟩ := bs_next h
  have hs : bs l = (A ++ [q]) ++ C := by rw [h]; simp
  have hl : ((A ++ [q]).flatMap (em l)).length = plc l q + (em l q).length := by
    rw [plc_at h, List.flatMap_append, List.length_append]; simp
  rcases h2 with ⟨e, rfl⟩ | ⟨e, C', rfl⟩
  · refine ⟨.inl (by omega), ?_⟩
    rw [e, plc_end, pass_length, hs, List.append_nil, hl]
  · exact ⟨.inr ⟨_, _, hs⟩, by rw [plc_at hs, hl]⟩
theorem pass_on {l : List Ins} {A C : List Nat} {q : Nat} {i : Ins} (h : bs l = A ++ q :: C) (hi : em l q = [i]) : (Opt.pass l).1.getD (plc l q) default = reloc (pass0 l).wh i := by
  refine pass_at ?_
  rw [h, plc_at h, List.flatMap_append, List.getElem?_append_right (Nat.le_refl _), Nat.sub_self, List.flatMap_cons, hi]; rfl
theorem reloc_default (wh : List Int) : reloc wh default = default := reloc_no rfl
theorem pass_off {l : List Ins} {q : Nat} (h : l.length ≤ q) : (Opt.pass l).1.getD (plc l q) default = default := by
  unfold plc
  rw [if_neg (by omega), List.getD_eq_getElem?_getD, List.getElem?_eq_none (by omega)]; rfl
theorem plc_off {l : List Ins} {q : Nat} (h : l.length ≤ q) : plc l (q + 1) = plc l q + 1 := by
  unfold plc
  rw [if_neg (by omega), if_neg (by omega)]; omega
/-- where code jumps to -/
theorem plc_jump {l : List Ins} {a : Int} (ht : tgt l a = true) (h0 : 0 ≤ a) (h1 : a < (l.length : Int)) : Bd l a.toNat ∧ (whr l a).toNat = plc l a.toNat := by
  obtain ⟨n, rfl⟩ := Int.eq_ofNat_of_zero_le h0
  obtain ⟨A, C, hb⟩ := bs_tgt (l := l) (a := n) (by omega) ht
  rw [Int.toNat_natCast]
  refine ⟨.inr ⟨A, C, hb⟩, ?_⟩
  unfold whr plc
  rw [Int.toNat_natCast, if_pos (by omega)]
/-- all units with one pass -/
def pasM (M : Mdl) : Mdl := ⟨M.boxes, M.units.map fun u => withC u (Opt.pass u.code).1⟩
theorem unt_pas (M : Mdl) (k : Nat) : unt (pasM M) k = withC (unt M k) (Opt.pass (unt M k).code).1 := by
  unfold unt pasM
  simp only [List.getD_eq_getElem?_getD, List.getElem?_map]
  cases M.units[k]? <;> rfl
section
variable (M : Mdl)
def plF (f : Fr) : Fr := { f with pc := plc (unt M f.unit).code f.pc }
def plC (c : Co) : Co := { c with fr := c.fr.map (plF M) }
def plT (t : Tk) : Tk := { t with cs := t.cs.map (plC M) }
abbrev plS {ν : Type} (s : Tk × ν) : Tk × ν := (plT M s.1, s.2)
theorem plF_default : plF M default = default := by
  show (⟨0, plc _ 0, 0⟩ : Fr) = ⟨0, 0, 0⟩
  rw [plc_zero]
theorem getD_map' {α β : Type} (f : α → β) (l : List α) (k : Nat) (d : α) : (l.map f).getD k (f d) = f (l.getD k d) := by
  simp only [List.getD_eq_getElem?_getD, List.getElem?_map]
  cases l[k]? <;> rfl
theorem co_sm (t : Tk) (k : Nat) : (plT M t).cs.getD k default = plC M (t.cs.getD k default) := getD_map' (plC M) t.cs k default
theorem cur_sm (t : Tk) : cur (plT M t) = plC M (cur t) := co_sm M t t.now
theorem top_sm (c : Co) : topF (plC M c) = plF M (topF c) := by
  unfold topF plC
  dsimp only
  rw [List.length_map]
  have := getD_map' (plF M) c.fr (c.fr.length - 1) default
  rwa [plF_default] at this
theorem setC_sm (t : Tk) (k : Nat) (c : Co) : setC (plT M t) k (plC M c) = plT M (setC t k c) := by
  unfold setC plT
  dsimp only
  rw [List.map_set]
theorem setCur_sm (t : Tk) (c : Co) : setCur (plT M t) (plC M c) = plT M (setCur t c) := setC_sm M t t.now c
theorem setTop_sm (c : Co) (f : Fr) : setTop (plC M c) (plF M f) = plC M (setTop c f) := by
  unfold setTop plC
  dsimp only
  rw [List.map_set, List.length_map]
theorem setPc_sm (p p' : Nat) (t : Tk) (h : p' = plc (unt M (topF (cur t)).unit).code p) : setPc p' (plT M t) = plT M (setPc p t) := by
  unfold setPc
  rw [cur_sm, top_sm]
  have : ({ plF M (topF (cur t)) with pc := p' } : Fr) = plF M { topF (cur t) with pc := p } := by rw [h]; rfl
  rw [this, setTop_sm, setCur_sm]
section
variable {ν : Type} (V : Env ν)
theorem trap_sm (n : Int) (s : Tk × ν) : trap V n (plS M s) = plS M (trap V n s) := by
  unfold trap
  by_cases h : s.1.st = 5
  · rw [if_pos h, if_pos (show (plS M s).1.st = 5 from h)]
  · rw [if_neg h, if_neg (show ¬ (plS M s).1.st = 5 from h)]; rfl
theorem push_sm (v : Int) (s : Tk × ν) : push V v (plS M s) = plS M (push V v s) := by
  unfold push
  rw [show cur (plS M s).1 = plC M (cur s.1) from cur_sm M s.1]
  by_cases h : (cur s.1).ws.length = 400
  · rw [if_pos h, if_pos (show (plC M (cur s.1)).ws.length = 400 from h)]; exact trap_sm M V 4 s
  · rw [if_neg h, if_neg (show ¬ (plC M (cur s.1)).ws.length = 400 from h)]
    exact Prod.ext (setCur_sm M s.1 { cur s.1 with ws := (cur s.1).ws ++ [v] }) rfl
theorem last_sm (t : Tk) : last (plT M t) = last t := by unfold last; rw [cur_sm]; rfl
theorem drop_sm (n : Nat) (t : Tk) : Vm.drop n (plT M t) = plT M (Vm.drop n t) := by
  unfold Vm.drop
  rw [cur_sm]
  exact setCur_sm M t { cur t with ws := (cur t).ws.take ((cur t).ws.length - n) }
theorem pushN_sm : ∀ (n : Nat) (s : Tk × ν), pushN V n (plS M s) = plS M (pushN V n s)
  | 0, s => rfl
  | n + 1, s => by unfold pushN; rw [push_sm, pushN_sm n]
theorem begin_sm (k : Nat) (a : List Int) : begin (pasM M) k a = plC M (begin M k a) := by
  unfold begin plC
  rw [unt_pas]
  show (⟨0, none, [⟨k, 0, 0⟩], _⟩ : Co) = ⟨0, none, [⟨k, plc _ 0, 0⟩], _⟩
  rw [plc_zero]; rfl
theorem callU_sm (k : Nat) (s : Tk × ν) : callU V (pasM M) k (plS M s) = plS M (callU V M k s) := by
  unfold callU
  rw [unt_pas, show cur (plS M s).1 = plC M (cur s.1) from cur_sm M s.1]
  have hl : (plC M (cur s.1)).fr.length = (cur s.1).fr.length := List.length_map _
  rw [hl]
  by_cases h : (cur s.1).fr.length = 40
  · rw [if_pos h, if_pos h]; exact trap_sm M V 4 s
  · rw [if_neg h, if_neg h]
    refine Eq.trans ?_ (pushN_sm M V _ _)
    refine congrArg (pushN V _) (Prod.ext ?_ rfl)
    refine Eq.trans ?_ (setCur_sm M s.1 { cur s.1 with fr := (cur s.1).fr ++ [⟨k, 0, (cur s.1).ws.length - (unt M k).params.toNat⟩] })
    refine congrArg (setCur (plT M s.1)) ?_
    unfold plC
    dsimp only
    rw [List.map_append, List.map_singleton]
    have : plF M ⟨k, 0, (cur s.1).ws.length - (unt M k).params.toNat⟩ = ⟨k, 0, (cur s.1).ws.length - (unt M k).params.toNat⟩ := by unfold plF; rw [plc_zero]
    rw [this]; rfl
theorem ret_sm (s : Tk × ν) : ret V (plS M s) = plS M (ret V s) := by
  unfold ret
  rw [show cur (plS M s).1 = plC M (cur s.1) from cur_sm M s.1, top_sm, show last (plS M s).1 = last s.1 from last_sm M s.1]
  refine Eq.trans ?_ (push_sm M V _ _)
  refine congrArg (push V _) (Prod.ext ?_ rfl)
  refine Eq.trans ?_ (setCur_sm M s.1 { cur s.1 with fr := (cur s.1).fr.take ((cur s.1).fr.length - 1), ws := ((cur s.1).ws.take ((cur s.1).ws.length - 1)).take (topF (cur s.1)).base })
  refine congrArg (setCur (plT M s.1)) ?_
  unfold plC
  dsimp only
  rw [List.map_take, List.length_map]; rfl
theorem endU_sm (s : Tk × ν) : endU V (plS M s) = plS M (endU V s) := by
  unfold endU
  rw [show cur (plS M s).1 = plC M (cur s.1) from cur_sm M s.1]
  have hu : (plC M (cur s.1)).up = (cur s.1).up := rfl
  rw [hu]
  cases h : (cur s.1).up with
  | none =>
    dsimp only
    refine Prod.ext ?_ rfl
    show ({ setCur (plT M s.1) { plC M (cur s.1) with st := 3 } with st := 4 } : Tk) = plT M { setCur s.1 { cur s.1 with st := 3 } with st := 4 }
    rw [show ({ plC M (cur s.1) with st := 3 } : Co) = plC M { cur s.1 with st := 3 } from rfl, setCur_sm]; rfl
  | some j =>
    dsimp only
    refine Eq.trans ?_ (push_sm M V _ _)
    refine congrArg (push V _) (Prod.ext ?_ rfl)
    show ({ setCur (plT M s.1) { plC M (cur s.1) with st := 3, up := none } with now := j } : Tk) = plT M { setCur s.1 { cur s.1 with st := 3, up := none } with now := j }
    rw [show ({ plC M (cur s.1) with st := 3, up := none } : Co) = plC M { cur s.1 with st := 3, up := none } from rfl, setCur_sm]; rfl
theorem startU_sm (k : Nat) (s : Tk × ν) : startU V (pasM M) k (plS M s) = plS M (startU V M k s) := by
  unfold startU
  rw [unt_pas, show cur (plS M s).1 = plC M (cur s.1) from cur_sm M s.1]
  dsimp only
  rw [begin_sm]
  have hp : (withC (unt M k) (Opt.pass (unt M k).code).1).params = (unt M k).params := rfl
  have hw : (plC M (cur s.1)).ws = (cur s.1).ws := rfl
  rw [hp, hw, show Vm.drop (unt M k).params.toNat (plT M s.1) = plT M (Vm.drop (unt M k).params.toNat s.1) from drop_sm M _ s.1]
  generalize Vm.drop (unt M k).params.toNat s.1 = t
  have hl : (plT M t).cs.length = t.cs.length := List.length_map _
  rw [hl]
  by_cases h : 30 < t.cs.length
  · rw [if_pos h, if_pos h]; exact trap_sm M V 5 (t, s.2)
  · rw [if_neg h, if_neg h]
    refine Eq.trans ?_ (push_sm M V _ _)
    refine congrArg (push V _) (Prod.ext ?_ rfl)
    show ({ plT M t with cs := (plT M t).cs ++ [plC M (begin M k ((cur s.1).ws.drop ((cur s.1).ws.length - (unt M k).params.toNat)))] } : Tk) = plT M { t with cs := t.cs ++ [begin M k ((cur s.1).ws.drop ((cur s.1).ws.length - (unt M k).params.toNat))] }
    unfold plT
    dsimp only
    rw [List.map_append, List.map_singleton]
theorem resumeU_sm (s : Tk × ν) : resumeU V (plS M s) = plS M (resumeU V s) := by
  unfold resumeU
  rw [show last (plS M s).1 = last s.1 from last_sm M s.1, show Vm.drop 1 (plS M s).1 = plT M (Vm.drop 1 s.1) from drop_sm M 1 s.1]
  dsimp only
  rw [last_sm, drop_sm]
  generalize Vm.drop 1 (Vm.drop 1 s.1) = t
  generalize (last (Vm.drop 1 s.1)).toNat = k
  rw [co_sm]
  have hst : (plC M (t.cs.getD k default)).st = (t.cs.getD k default).st := rfl
  rw [hst]
  by_cases h3 : (t.cs.getD k default).st = 3
  · rw [if_pos h3, if_pos h3]; exact trap_sm M V 2 (t, s.2)
  rw [if_neg h3, if_neg h3]
  by_cases h2 : (t.cs.getD k default).st = 2
  · rw [if_pos h2, if_pos h2]; exact trap_sm M V 3 (t, s.2)
  rw [if_neg h2, if_neg h2]
  have e : ({ setC (plT M t) k { plC M (t.cs.getD k default) with st := 2, up := some (plT M t).now } with now := k } : Tk) = plT M { setC t k { t.cs.getD k default with st := 2, up := some t.now } with now := k } := by
    rw [show ({ plC M (t.cs.getD k default) with st := 2, up := some (plT M t).now } : Co) = plC M { t.cs.getD k default with st := 2, up := some t.now } from rfl, setC_sm]; rfl
  rw [e]
  by_cases h0 : (t.cs.getD k default).st = 0
  · rw [if_pos h0, if_pos h0]
  · rw [if_neg h0, if_neg h0]; exact push_sm M V _ (_, s.2)
theorem yieldU_sm (s : Tk × ν) : yieldU V (plS M s) = plS M (yieldU V s) := by
  unfold yieldU
  rw [show last (plS M s).1 = last s.1 from last_sm M s.1, show Vm.drop 1 (plS M s).1 = plT M (Vm.drop 1 s.1) from drop_sm M 1 s.1]
  generalize Vm.drop 1 s.1 = t
  dsimp only
  rw [cur_sm]
  have e : ({ setCur (plT M t) { plC M (cur t) with st := 1, up := none } with now := (plC M (cur t)).up.getD 0 } : Tk) = plT M { setCur t { cur t with st := 1, up := none } with now := (cur t).up.getD 0 } := by
    rw [show ({ plC M (cur t) with st := 1, up := none } : Co) = plC M { cur t with st := 1, up := none } from rfl, setCur_sm]; rfl
  rw [e]
  exact push_sm M V _ (_, s.2)
theorem aliveU_sm (s : Tk × ν) : aliveU V (plS M s) = plS M (aliveU V s) := by
  unfold aliveU
  rw [show last (plS M s).1 = last s.1 from last_sm M s.1, show Vm.drop 1 (plS M s).1 = plT M (Vm.drop 1 s.1) from drop_sm M 1 s.1]
  dsimp only
  rw [co_sm]
  have hst : (plC M ((Vm.drop 1 s.1).cs.getD (last s.1).toNat default)).st = ((Vm.drop 1 s.1).cs.getD (last s.1).toNat default).st := rfl
  rw [hst]
  exact push_sm M V _ (_, s.2)
/-- an instruction that is no jump -/
theorem exec_sm (i : Ins) (hj : i.op ≠ 21 ∧ i.op ≠ 22) (s : Tk × ν) : exec V (pasM M) i (plS M s) = plS M (exec V M i s) := by
  have hd : Vm.drop 1 (plS M s).1 = plT M (Vm.drop 1 s.1) := drop_sm M 1 s.1
  have hla : last (plS M s).1 = last s.1 := last_sm M s.1
  have hc : cur (plS M s).1 = plC M (cur s.1) := cur_sm M s.1
  unfold exec
  dsimp only
  rw [show Vm.drop 1 (plT M s.1) = plT M (Vm.drop 1 s.1) from hd, show last (plT M s.1) = last s.1 from hla, show cur (plT M s.1) = plC M (cur s.1) from hc, top_sm]
  by_cases h1 : i.op = 1
  · rw [if_pos h1, if_pos h1]; exact push_sm M V _ s
  rw [if_neg h1, if_neg h1]
  by_cases h2 : i.op = 2
  · rw [if_pos h2, if_pos h2]; exact push_sm M V _ s
  rw [if_neg h2, if_neg h2]
  by_cases h3 : i.op = 3
  · rw [if_pos h3, if_pos h3]; exact push_sm M V _ s
  rw [if_neg h3, if_neg h3]
  by_cases h4 : i.op = 4
  · rw [if_pos h4, if_pos h4, cur_sm, top_sm]
    refine Prod.ext ?_ rfl
    exact setCur_sm M (Vm.drop 1 s.1) { cur (Vm.drop 1 s.1) with ws := (cur (Vm.drop 1 s.1)).ws.set ((topF (cur (Vm.drop 1 s.1))).base + i.a.toNat) (last s.1) }
  rw [if_neg h4, if_neg h4]
  by_cases h5 : i.op = 5
  · rw [if_pos h5, if_pos h5]
  rw [if_neg h5, if_neg h5]
  by_cases h6 : i.op = 6
  · rw [if_pos h6, if_pos h6]; exact push_sm M V _ (_, s.2)
  rw [if_neg h6, if_neg h6]
  by_cases h7 : i.op = 7
  · rw [if_pos h7, if_pos h7]; exact push_sm M V _ (_, s.2)
  rw [if_neg h7, if_neg h7]
  by_cases h8 : 8 ≤ i.op ∧ i.op ≤ 20
  · rw [if_pos h8, if_pos h8, drop_sm, last_sm]
    by_cases h0 : (i.op = 11 ∨ i.op = 12) ∧ last s.1 = 0
    · rw [if_pos h0, if_pos h0]; exact trap_sm M V 1 (_, s.2)
    · rw [if_neg h0, if_neg h0]; exact push_sm M V _ (_, s.2)
  rw [if_neg h8, if_neg h8, if_neg hj.1, if_neg hj.1, if_neg hj.2, if_neg hj.2]
  by_cases h26 : i.op = 26
  · rw [if_pos h26, if_pos h26]
  rw [if_neg h26, if_neg h26]
  by_cases h27 : i.op = 27
  · rw [if_pos h27, if_pos h27]; exact push_sm M V _ (s.1, V.tell (V.take s.2 i.a.toNat).2 (3, i.a, (V.take s.2 i.a.toNat).1))
  rw [if_neg h27, if_neg h27]
  by_cases h28 : i.op = 28
  · rw [if_pos h28, if_pos h28]; rfl
  rw [if_neg h28, if_neg h28]
  by_cases h23 : i.op = 23
  · rw [if_pos h23, if_pos h23]; exact callU_sm M V _ s
  rw [if_neg h23, if_neg h23]
  by_cases h24 : i.op = 24
  · rw [if_pos h24, if_pos h24]; exact ret_sm M V s
  rw [if_neg h24, if_neg h24]
  by_cases h25 : i.op = 25
  · rw [if_pos h25, if_pos h25]; exact endU_sm M V s
  rw [if_neg h25, if_neg h25]
  by_cases h29 : i.op = 29
  · rw [if_pos h29, if_pos h29]; exact startU_sm M V _ s
  rw [if_neg h29, if_neg h29]
  by_cases h30 : i.op = 30
  · rw [if_pos h30, if_pos h30]; exact resumeU_sm M V s
  rw [if_neg h30, if_neg h30]
  by_cases h31 : i.op = 31
  · rw [if_pos h31, if_pos h31]; exact yieldU_sm M V s
  rw [if_neg h31, if_neg h31]
  by_cases h32 : i.op = 32
  · rw [if_pos h32, if_pos h32]; exact aliveU_sm M V s
  rw [if_neg h32, if_neg h32]
end
end
end Go.Proofs.Ytfeajpghabjaaaa.Vm
