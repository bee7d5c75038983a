/- A step of a right module's task, walked whole. -/
import Derived.Test.YtjehflelkpacfaaM27
namespace Go.Proofs.Ytjehflelkpacfaa.Vw
open Go.RowKit Go.Proofs.Ytjehflelkpacfaa.Img
set_option linter.unusedVariables false
set_option linter.unusedSimpArgs false
attribute [local irreducible] Run Cod End OpT Still RunQ RunS RunT Fn PutOk
section
variable {E : EnvM} {m : ML} {T : Nat → Int → Option Ver.Shape} {K : E.ν → Prop}
theorem good_stands {z : SL E} (hC : Vm.Certs m.mdl T) (hz : z.Wf) (hb : E.boxes = m.bx.length) (hg : Vm.Good m.mdl T K z.two) (h3 : z.st ≤ 3) : Stands m z := by
  rcases hg.1 with h | h | h
  · exact absurd (show z.st = 5 from h) (by omega)
  · exact absurd (show z.st = 4 from h) (by omega)
  · obtain ⟨ch, hok⟩ := h.2
    exact stands_of hC hz hok hb
theorem look_task (p : Pl) (z : SL E) (hC : Vm.Certs p.m.mdl T) (hz : z.Wf) (hb : E.boxes = p.m.bx.length) (hg : Vm.Good p.m.mdl T K z.two) :
    Fn Try.prog 33 #[ptr p.tb] [md p.m, E.rc] [tkM p z, moM p, ccM z.cur, frM z.cur, E.mem z.e] (σ := Unit) (fun _ => True) (fun _ => .tuple #[]) (fun _ => [tkM p (z.look p.m), moM p, ccM z.cur, frM z.cur, E.mem z.e]) :=
  look_is p z hz (good_stands hC hz hb hg)
theorem step_task (p : Pl) (z : SL E) (hC : Vm.Certs p.m.mdl T) (hV : Vm.EnvOk E.V p.m.mdl K) (hz : z.Wf) (hb : E.boxes = p.m.bx.length) (hg : Vm.Good p.m.mdl T K z.two) (ho : z.out.length ≤ 1000000) (hsz : E.size (E.abs z.e) ≤ 1000000) :
    Fn Try.prog 34 #[ptr p.tb] [md p.m, E.rc] (TM p z) (σ := SL E) (Gives z (Vm.step E.V p.m.mdl z.two).2) (fun _ => .bool (Vm.step E.V p.m.mdl z.two).1) (fun z' => TM p z') := by
  by_cases h1 : (z.look p.m).st = 1
  · have h3 : z.st ≤ 3 := by
      refine Int.not_lt.1 fun h => ?_
      have h1' : (if z.st ≤ 3 then wst E (insL p.m z) (E.abs z.e) else z.st) = 1 := h1
      rw [if_neg (by omega)] at h1'
      omega
    have h1' : wst E (insL p.m z) (E.abs z.e) = 1 := by
      have h1' : (if z.st ≤ 3 then wst E (insL p.m z) (E.abs z.e) else z.st) = 1 := h1
      rwa [if_pos h3] at h1'
    have hw : ((insL p.m z).op = 26 → E.V.full (E.abs z.e) (insL p.m z).a.toNat = false) ∧ ((insL p.m z).op = 27 → E.V.empty (E.abs z.e) (insL p.m z).a.toNat = false) := by
      unfold wst at h1'
      refine ⟨fun ho => ?_, fun ho => ?_⟩
      · cases hx : E.V.full (E.abs z.e) (insL p.m z).a.toNat with
        | false => rfl
        | true => rw [if_pos ⟨ho, hx⟩] at h1'; cases h1'
      · rw [if_neg (by omega)] at h1'
        cases hx : E.V.empty (E.abs z.e) (insL p.m z).a.toNat with
        | false => rfl
        | true => rw [if_pos ⟨ho, hx⟩] at h1'; cases h1'
    obtain ⟨ch, hok⟩ : ∃ ch, Vm.Ok p.m.mdl T z.tk ch := by
      rcases hg.1 with h | h | h
      · exact absurd (show z.st = 5 from h) (by omega)
      · exact absurd (show z.st = 4 from h) (by omega)
      · exact h.2
    obtain ⟨hc, hpc⟩ := canS_of hC hz hok hb ho hsz hw
    have hs := stands_of hC hz hok hb
    have hlook : (z.look p.m).two = ((z.look p.m).tk, E.abs z.e) := rfl
    have hokl : Vm.Ok p.m.mdl T (z.look p.m).tk ch := hok.st _ _
    have hi : Vm.insT p.m.mdl (z.look p.m).tk = insL p.m z := (hz.look p.m).ins p.m
    have hres := Vm.exec_res hC hV hokl (s := E.abs z.e) hg.2 (by rw [hi]; exact hw)
    rw [hi, ← hz.moved_two] at hres
    have ha : After p.m (z.moved p.m) (insL p.m z) := fun z2 hz2 e h3 => by
      rw [← e] at hres
      rcases hres.1 with h | h | ⟨ch', h⟩
      · exact absurd (show z2.st = 5 from h) (by omega)
      · exact absurd (show z2.st = 4 from h) (by omega)
      · exact stands_of hC hz2 h hb
    have ho := hc.op
    by_cases c1 : (insL p.m z).op = 1 ∨ (insL p.m z).op = 2
    · exact step1_is p z hz hs h1 hpc hc ha c1
    by_cases c2 : (insL p.m z).op = 5 ∨ (insL p.m z).op = 6 ∨ (insL p.m z).op = 7
    · exact step2_is p z hz hs h1 hpc hc ha c2
    by_cases c3 : 8 ≤ (insL p.m z).op ∧ (insL p.m z).op ≤ 20
    · exact step3_is p z hz hs h1 hpc hc ha c3
    by_cases c4 : (insL p.m z).op = 21
    · exact step4_is p z hz hs h1 hpc hc ha c4
    by_cases c5 : (insL p.m z).op = 22
    · exact step5_is p z hz hs h1 hpc hc ha c5
    by_cases c6 : (insL p.m z).op = 28
    · exact step6_is p z hz hs h1 hpc hc ha c6
    by_cases c7 : (insL p.m z).op = 26
    · exact step7_is p z hz hs h1 hpc hc ha c7
    by_cases c8 : (insL p.m z).op = 27
    · exact step8_is p z hz hs h1 hpc hc ha c8
    by_cases c9 : (insL p.m z).op = 3
    · exact step9_is p z hz hs h1 hpc hc ha c9
    by_cases c10 : (insL p.m z).op = 4
    · exact step10_is p z hz hs h1 hpc hc ha c10
    exact step11_is p z hz hs h1 hpc hc ha (by omega)
  · exact step0_is p z hz (good_stands hC hz hb hg) h1
end
/-- a new task's thread, going -/
structure Born (u n : Nat) (c : CoL) : Prop where
  st : c.st = 2
  up : c.up = none
  upb : c.upb = none
  fr : c.fr = [⟨u, 0, 0⟩]
  ok : c.sk.Ok
  ws : c.sk.ws = List.replicate n 0
set_option maxRecDepth 100000 in
theorem new_is (mb : Nat) (m : ML) (u : Nat) (hu : u < m.us.length) (t : TypeId) (rv : Value) (hl : (m.us.getD u default).u.locals.length ≤ 200) :
    Fn Try.prog 32 #[ptr mb, .int .i64 (u : Int), .iface t rv] [md m] [blk mb (mdV m) 25] (σ := Nat × Nat × CoL)
      (fun s => Born u (m.us.getD u default).u.locals.length s.2.2) (fun s => ptr s.1) (fun s => [blk s.1 (tcl mb (.iface t rv) (.slice (some ⟨s.2.1, 0, none⟩) 1 1) s.2.2.cb 1 0 0 (.slice none 0 0) .nilFunc) 88, blk mb (mdV m) 25, arr (some ⟨s.2.1, 0, none⟩) 1 1 86 ptrC [s.2.2.cb], arr none 0 0 2 i64c ([] : List Int), bagM [], ccM s.2.2, frM s.2.2, blk s.2.2.sk.sb (skC s.2.2.sk) 141, arr (some ⟨s.2.2.sk.lb, 0, none⟩) s.2.2.sk.l.length s.2.2.sk.l.length 2 i64c s.2.2.sk.l]) := by
  refine Fn.enter (args := [ptr mb, .int .i64 (u : Int), .iface t rv]) Try.func32 rfl _ Try.ntmps32 rfl (by simp [rd_excl, md_excl]) (fun w S => ?_)
  (try conv => rhs; simp only [List.cons_append, List.nil_append])
  repeat (first | refine go (k := ?_) | (refine goB (k := ?_); intro b) | (refine goA (k := ?_); intro ao cap))
  obtain ⟨tb, rfl⟩ : ∃ x, x = b := ⟨_, rfl⟩
  apply Run.imp' (fun w hm => hm.nilArr 2 i64c)
  (apply Run.op; exact rfl; refine OpT.call0_ (spec := begin_is tb mb m _ u hu none 0 [] hl (by simp)) (k := ?_); intro s hs; (try conv => rhs; simp only [List.cons_append, List.nil_append]))
  obtain ⟨c, rfl⟩ : ∃ x, x = s := ⟨_, rfl⟩
  have hst := hs.st
  repeat (first | refine go (k := ?_) | (refine goB (k := ?_); intro b) | (refine goA (k := ?_); intro ao cap))
  obtain ⟨ob, rfl⟩ : ∃ x, x = b := ⟨_, rfl⟩
  apply End.imp (fun w hm => Mem.toArr (b := ob) (e := 86) (f := ptrC) (n := 1) hm (by (repeat (first | exact Take.head | apply Take.tail))) [c.cb] rfl rfl (by unfold maxLen; simp))
  apply End.imp (fun w hm => hm.bagNil)
  refine End.done1_ ((tb, ob, { c with st := 2 }) : Nat × Nat × CoL) (he := by rfl) (hp := ⟨rfl, hs.up, hs.upb, hs.fr, hs.ok, hs.ws.trans ?_⟩)
  refine List.ext_getElem (by simp) fun i h1 h2 => ?_
  simp
end Go.Proofs.Ytjehflelkpacfaa.Vw

/- What Solo computes: a task by itself, boxes as lists without an end. Plain Lean. -/
namespace Go.Proofs.Ytjehflelkpacfaa.Vm
set_option linter.unusedVariables false
open ImgM Ver Opt
/-- what was taken of each box, what was sent to each -/
structure Ls where
  took : List Nat
  sent : List (List Int)
deriving DecidableEq
def lists (F : List (List Int)) : Env Ls where
  full _ _ := false
  empty s b := decide (s.took.getD b 0 = (F.getD b []).length)
  put s b v := { s with sent := s.sent.set b (s.sent.getD b [] ++ [v]) }
  take s b := ((F.getD b []).getD (s.took.getD b 0) 0, { s with took := s.took.set b (s.took.getD b 0 + 1) })
  tell s _ := s
def Ls.new (n : Nat) : Ls := ⟨List.replicate n 0, List.replicate n []⟩
/-- as many steps as may be, as long as one can be done -/
def goN {ν : Type} (V : Env ν) (M : Mdl) : Nat → Tk × ν → Nat × (Tk × ν)
  | 0, s => (0, s)
  | n + 1, s => if (step V M s).1 then ((goN V M n (step V M s).2).1 + 1, (goN V M n (step V M s).2).2) else (0, (step V M s).2)
/-- the units that are tasks -/
def tasks (M : Mdl) : List Nat := (List.range M.units.length).filter fun k => decide ((M.units.getD k default).kind = 4)
end Go.Proofs.Ytjehflelkpacfaa.Vm

/- A new task, as it lies in memory. -/
namespace Go.Proofs.Ytjehflelkpacfaa.Vw
open Go.RowKit Go.Proofs.Ytjehflelkpacfaa.Img
set_option linter.unusedVariables false
set_option linter.unusedSimpArgs false
abbrev SL.born (E : EnvM) (ob : Nat) (c : CoL) (e : E.μ) : SL E := ⟨some ⟨ob, 0, none⟩, 1, [c.cb], [c], 0, c, 1, 0, 0, none, 0, [], e⟩
theorem tasks_mem {m : ML} {k : Nat} (h : k < (Vm.tasks m.mdl).length) : (Vm.tasks m.mdl).getD k 0 < m.us.length ∧ (m.uat ((Vm.tasks m.mdl).getD k 0)).u.kind = 4 := by
  have hm : (Vm.tasks m.mdl).getD k 0 ∈ Vm.tasks m.mdl := by
    rw [List.getD_eq_getElem?_getD, List.getElem?_eq_getElem h]; exact List.getElem_mem h
  generalize (Vm.tasks m.mdl).getD k 0 = u at *
  unfold Vm.tasks at hm
  rw [List.mem_filter, List.mem_range, decide_eq_true_eq, ML.unit_at] at hm
  exact ⟨by simpa using hm.1, hm.2⟩
end Go.Proofs.Ytjehflelkpacfaa.Vw

/- What an instruction does hangs on the task alone, and on what it receives; what it does elsewhere are its events. Plain Lean. -/
namespace Go.Proofs.Ytjehflelkpacfaa.Vm
set_option linter.unusedVariables false
set_option linter.unusedSimpArgs false
set_option linter.unusedSectionVars false
open ImgM Ver Opt
abbrev Ev := Int × Int × Int
/-- who remembers what is told, and gives x -/
def rec (x : Int) : Env (List Ev) where
  full _ _ := false
  empty _ _ := false
  put s _ _ := s
  take s _ := (x, s)
  tell s e := s ++ [e]
section
variable {ν : Type} (V : Env ν) (M : Mdl)
/-- an event takes place -/
def play (s : ν) (e : Ev) : ν := if e.1 = 2 then V.tell (V.put s e.2.1.toNat e.2.2) e else if e.1 = 3 then V.tell (V.take s e.2.1.toNat).2 e else V.tell s e
def loc (x : Int) (i : Ins) (t : Tk) : Tk × List Ev := exec (rec x) M i (t, [])
abbrev pl (s : ν) (r : Tk × List Ev) : Tk × ν := (r.1, r.2.foldl (play V) s)
variable (x : Int) (s : ν)
theorem pl_told (t : Tk) (l : List Ev) (e : Ev) (h2 : e.1 ≠ 2) (h3 : e.1 ≠ 3) : pl V s (t, l ++ [e]) = (t, V.tell (l.foldl (play V) s) e) := by
  unfold pl
  simp only [List.foldl_append, List.foldl_cons, List.foldl_nil]
  rw [show play V (l.foldl (play V) s) e = V.tell (l.foldl (play V) s) e by unfold play; rw [if_neg h2, if_neg h3]]
theorem trap_pl (n : Int) (r : Tk × List Ev) : trap V n (pl V s r) = pl V s (trap (rec x) n r) := by
  obtain ⟨t, l⟩ := r
  unfold trap
  by_cases h : t.st = 5
  · rw [if_pos (show (pl V s (t, l)).1.st = 5 from h), if_pos (show (t, l).1.st = 5 from h)]
  · rw [if_neg (show ¬ (pl V s (t, l)).1.st = 5 from h), if_neg (show ¬ (t, l).1.st = 5 from h)]
    exact (pl_told V s _ l (5, 0, n) (by simp) (by simp)).symm
theorem push_pl (v : Int) (r : Tk × List Ev) : push V v (pl V s r) = pl V s (push (rec x) v r) := by
  unfold push
  by_cases h : (cur r.1).ws.length = 400
  · rw [if_pos (show (cur (pl V s r).1).ws.length = 400 from h), if_pos h]; exact trap_pl V x s 4 r
  · rw [if_neg (show ¬ (cur (pl V s r).1).ws.length = 400 from h), if_neg h]
theorem pushN_pl : ∀ (n : Nat) (r : Tk × List Ev), pushN V n (pl V s r) = pl V s (pushN (rec x) n r)
  | 0, r => rfl
  | n + 1, r => by
    unfold pushN
    rw [push_pl V x s 0 r]
    exact pushN_pl n _
theorem pl_ite {c : Prop} [Decidable c] {a b : Tk × ν} {a' b' : Tk × List Ev} (h1 : a = pl V s a') (h2 : b = pl V s b') : (if c then a else b) = pl V s (if c then a' else b') := by
  split
  · exact h1
  · exact h2
theorem exec_pl (i : Ins) (t : Tk) (hx : i.op = 27 → x = (V.take s i.a.toNat).1) : exec V M i (t, s) = pl V s (loc M x i t) := by
  have e0 : ∀ t : Tk, (t, s) = pl V s (t, []) := fun _ => rfl
  have tl : ∀ (t : Tk) (e : Ev), e.1 ≠ 2 → e.1 ≠ 3 → (t, V.tell s e) = pl V s (t, [e]) := fun t e h2 h3 => (pl_told V s t [] e h2 h3).symm
  unfold loc exec
  dsimp only
  refine pl_ite V s (push_pl V x s _ (_, [])) ?_
  refine pl_ite V s (push_pl V x s _ (_, [])) ?_
  refine pl_ite V s (push_pl V x s _ (_, [])) ?_
  refine pl_ite V s rfl ?_
  refine pl_ite V s rfl ?_
  refine pl_ite V s (push_pl V x s _ (_, [])) ?_
  refine pl_ite V s (push_pl V x s _ (_, [])) ?_
  refine pl_ite V s (pl_ite V s (trap_pl V x s _ (_, [])) (push_pl V x s _ (_, []))) ?_
  refine pl_ite V s rfl ?_
  refine pl_ite V s rfl ?_
  refine pl_ite V s rfl ?_
  by_cases h27 : i.op = 27
  · rw [if_pos h27, if_pos h27]
    have hx := hx h27
    have e : ((t, V.tell (V.take s i.a.toNat).2 (3, i.a, (V.take s i.a.toNat).1)) : Tk × ν) = pl V s (t, [] ++ [(3, i.a, x)]) := by
      rw [← hx]; rfl
    rw [e, ← hx]
    exact push_pl V x s _ (t, [] ++ [(3, i.a, x)])
  rw [if_neg h27, if_neg h27]
  refine pl_ite V s (tl _ _ (by simp) (by simp)) ?_
  refine pl_ite V s ?_ ?_
  · unfold callU
    refine pl_ite V s (trap_pl V x s _ (_, [])) (pushN_pl V x s _ (_, []))
  refine pl_ite V s ?_ ?_
  · exact push_pl V x s _ (_, [])
  refine pl_ite V s ?_ ?_
  · unfold endU
    dsimp only
    cases (cur t).up with
    | none => exact tl _ _ (by simp) (by simp)
    | some j => exact push_pl V x s _ (_, [])
  refine pl_ite V s ?_ ?_
  · unfold startU
    dsimp only
    refine pl_ite V s (trap_pl V x s _ (_, [])) ?_
    rw [tl _ _ (by simp) (by simp)]
    exact push_pl V x s _ (_, [_])
  refine pl_ite V s ?_ ?_
  · unfold resumeU
    dsimp only
    refine pl_ite V s (trap_pl V x s _ (_, [])) ?_
    refine pl_ite V s (trap_pl V x s _ (_, [])) ?_
    exact pl_ite V s rfl (push_pl V x s _ (_, []))
  refine pl_ite V s ?_ ?_
  · exact push_pl V x s _ (_, [])
  exact pl_ite V s (push_pl V x s _ (_, [])) rfl
end
/-- what was put out -/
def outs (l : List Ev) : List Int := l.filterMap fun e => if e.1 = 1 then some e.2.2 else none
theorem outs_app (a b : List Ev) : outs (a ++ b) = outs a ++ outs b := List.filterMap_append ..
/-- as it stood, or trapped -/
def Psh (t : Tk) (l : List Ev) (r : Tk × List Ev) : Prop :=
  (r.2 = l ∧ r.1.st = t.st ∧ r.1.tr = t.tr ∧ r.1.out = t.out) ∨ (r.2 = l ++ [(5, 0, r.1.tr)] ∧ r.1.st = 5 ∧ r.1.out = t.out)
theorem Psh.ite {t : Tk} {l : List Ev} {c : Prop} [Decidable c] {a b : Tk × List Ev} (h1 : Psh t l a) (h2 : Psh t l b) : Psh t l (if c then a else b) := by split <;> assumption
section
variable {x : Int}
theorem trap_psh (n : Int) (r : Tk × List Ev) (h : r.1.st ≠ 5) : Psh r.1 r.2 (trap (rec x) n r) := by
  unfold trap
  rw [if_neg h]
  exact .inr ⟨rfl, rfl, rfl⟩
theorem push_psh (v : Int) (r : Tk × List Ev) (h : r.1.st ≠ 5) : Psh r.1 r.2 (push (rec x) v r) := by
  unfold push
  split
  · exact trap_psh _ r h
  · exact .inl ⟨rfl, rfl, rfl, rfl⟩
theorem push_t {v : Int} {r : Tk × List Ev} (h : r.1.st = 5) : (push (rec x) v r).2 = r.2 ∧ (push (rec x) v r).1.st = 5 ∧ (push (rec x) v r).1.tr = r.1.tr ∧ (push (rec x) v r).1.out = r.1.out := by
  unfold push
  split
  · unfold trap; rw [if_pos h]; exact ⟨rfl, h, rfl, rfl⟩
  · exact ⟨rfl, h, rfl, rfl⟩
theorem pushN_t : ∀ (n : Nat) {r : Tk × List Ev}, r.1.st = 5 → (pushN (rec x) n r).2 = r.2 ∧ (pushN (rec x) n r).1.st = 5 ∧ (pushN (rec x) n r).1.tr = r.1.tr ∧ (pushN (rec x) n r).1.out = r.1.out
  | 0, r, h => ⟨rfl, h, rfl, rfl⟩
  | n + 1, r, h => by
    unfold pushN
    obtain ⟨h1, h2, h3, h4⟩ := push_t (x := x) (v := 0) h
    obtain ⟨g1, g2, g3, g4⟩ := pushN_t n h2
    exact ⟨g1.trans h1, g2, g3.trans h3, g4.trans h4⟩
theorem pushN_psh : ∀ (n : Nat) (r : Tk × List Ev), r.1.st ≠ 5 → Psh r.1 r.2 (pushN (rec x) n r)
  | 0, r, h => .inl ⟨rfl, rfl, rfl, rfl⟩
  | n + 1, r, h => by
    unfold pushN
    rcases push_psh (x := x) 0 r h with ⟨h1, h2, h3, h4⟩ | ⟨h1, h2, h3⟩
    · rcases pushN_psh n (push (rec x) 0 r) (by rw [h2]; exact h) with ⟨g1, g2, g3, g4⟩ | ⟨g1, g2, g3⟩
      · exact .inl ⟨g1.trans h1, g2.trans h2, g3.trans h3, g4.trans h4⟩
      · exact .inr ⟨by rw [g1, h1], g2, g3.trans h4⟩
    · obtain ⟨g1, g2, g3, g4⟩ := pushN_t (x := x) n h2
      exact .inr ⟨by rw [g1, h1, g3], g2, g4.trans h3⟩
/-- what comes of an instruction: its events ahead of a trap, what it puts out, where it stands -/
structure Did (i : Ins) (x : Int) (t : Tk) (r : Tk × List Ev) : Prop where
  ex : (∃ t1 l1, Psh t1 l1 r ∧ t1.st = t.st ∧ t1.tr = t.tr ∧ t1.out = t.out ++ outs l1 ∧ (l1 = [] ∧ i.op ≠ 26 ∧ i.op ≠ 27 ∨ i.op = 26 ∧ l1 = [(2, i.a, last t)] ∨ i.op = 27 ∧ l1 = [(3, i.a, x)] ∨ i.op = 28 ∧ l1 = [(1, 0, last t)] ∨ i.op = 29 ∧ l1 = [(6, 0, (i.a.toNat : Int))])) ∨ (i.op = 25 ∧ r.2 = [(4, 0, 0)] ∧ r.1.st = 4 ∧ r.1.tr = t.tr ∧ r.1.out = t.out)
theorem loc_did (M : Mdl) (x : Int) (i : Ins) (t : Tk) (h5 : t.st ≠ 5) : Did i x t (loc M x i t) := by
  have nil : ∀ {r : Tk × List Ev} {t1 : Tk}, Psh t1 [] r → t1.st = t.st → t1.tr = t.tr → t1.out = t.out → i.op ≠ 26 → i.op ≠ 27 → Did i x t r := fun {r t1} h1 h2 h3 h4 h6 h7 =>
    ⟨.inl ⟨t1, [], h1, h2, h3, by rw [h4]; simp [outs], .inl ⟨rfl, h6, h7⟩⟩⟩
  have pn : ∀ (v : Int) (t1 : Tk), t1.st = t.st → t1.tr = t.tr → t1.out = t.out → i.op ≠ 26 → i.op ≠ 27 → Did i x t (push (rec x) v (t1, [])) := fun v t1 h2 h3 h4 h6 h7 =>
    nil (push_psh v (t1, []) (by show t1.st ≠ 5; rw [h2]; exact h5)) h2 h3 h4 h6 h7
  have tn : ∀ (n : Int) (t1 : Tk), t1.st = t.st → t1.tr = t.tr → t1.out = t.out → i.op ≠ 26 → i.op ≠ 27 → Did i x t (trap (rec x) n (t1, [])) := fun v t1 h2 h3 h4 h6 h7 =>
    nil (trap_psh v (t1, []) (by show t1.st ≠ 5; rw [h2]; exact h5)) h2 h3 h4 h6 h7
  have sn : ∀ (t1 : Tk), t1.st = t.st → t1.tr = t.tr → t1.out = t.out → i.op ≠ 26 → i.op ≠ 27 → Did i x t (t1, []) := fun t1 h2 h3 h4 h6 h7 =>
    nil (.inl ⟨rfl, rfl, rfl, rfl⟩) h2 h3 h4 h6 h7
  unfold loc exec
  dsimp only
  by_cases h1 : i.op = 1
  · rw [if_pos h1]; exact pn _ _ rfl rfl rfl (by omega) (by omega)
  rw [if_neg h1]
  by_cases h1 : i.op = 2
  · rw [if_pos h1]; exact pn _ _ rfl rfl rfl (by omega) (by omega)
  rw [if_neg h1]
  by_cases h1 : i.op = 3
  · rw [if_pos h1]; exact pn _ _ rfl rfl rfl (by omega) (by omega)
  rw [if_neg h1]
  by_cases h1 : i.op = 4
  · rw [if_pos h1]; exact sn _ rfl rfl rfl (by omega) (by omega)
  rw [if_neg h1]
  by_cases h1 : i.op = 5
  · rw [if_pos h1]; exact sn _ rfl rfl rfl (by omega) (by omega)
  rw [if_neg h1]
  by_cases h1 : i.op = 6
  · rw [if_pos h1]; exact pn _ _ rfl rfl rfl (by omega) (by omega)
  rw [if_neg h1]
  by_cases h1 : i.op = 7
  · rw [if_pos h1]; exact pn _ _ rfl rfl rfl (by omega) (by omega)
  rw [if_neg h1]
  by_cases h1 : 8 ≤ i.op ∧ i.op ≤ 20
  · rw [if_pos h1]
    split
    · exact tn _ _ rfl rfl rfl (by omega) (by omega)
    · exact pn _ _ rfl rfl rfl (by omega) (by omega)
  rw [if_neg h1]
  by_cases h1 : i.op = 21
  · rw [if_pos h1]; exact sn _ rfl rfl rfl (by omega) (by omega)
  rw [if_neg h1]
  by_cases h1 : i.op = 22
  · rw [if_pos h1]
    split
    · exact sn _ rfl rfl rfl (by omega) (by omega)
    · exact sn _ rfl rfl rfl (by omega) (by omega)
  rw [if_neg h1]
  by_cases h1 : i.op = 26
  · rw [if_pos h1]
    exact ⟨.inl ⟨drop 1 t, [(2, i.a, last t)], .inl ⟨rfl, rfl, rfl, rfl⟩, rfl, rfl, by simp [outs, drop, setCur, setC], .inr (.inl ⟨h1, rfl⟩)⟩⟩
  rw [if_neg h1]
  by_cases h1 : i.op = 27
  · rw [if_pos h1]
    exact ⟨.inl ⟨t, [(3, i.a, x)], push_psh x (t, [(3, i.a, x)]) h5, rfl, rfl, by simp [outs], .inr (.inr (.inl ⟨h1, rfl⟩))⟩⟩
  rw [if_neg h1]
  by_cases h1 : i.op = 28
  · rw [if_pos h1]
    exact ⟨.inl ⟨{ drop 1 t with out := (drop 1 t).out ++ [last t] }, [(1, 0, last t)], .inl ⟨rfl, rfl, rfl, rfl⟩, rfl, rfl, by simp [outs, drop, setCur, setC], .inr (.inr (.inr (.inl ⟨h1, rfl⟩)))⟩⟩
  rw [if_neg h1]
  by_cases h1 : i.op = 23
  · rw [if_pos h1]
    unfold callU
    split
    · exact tn _ _ rfl rfl rfl (by omega) (by omega)
    · refine nil (pushN_psh _ (_, []) ?_) rfl rfl rfl (by omega) (by omega)
      exact h5
  rw [if_neg h1]
  by_cases h1 : i.op = 24
  · rw [if_pos h1]; exact pn _ _ rfl rfl rfl (by omega) (by omega)
  rw [if_neg h1]
  by_cases h1 : i.op = 25
  · rw [if_pos h1]
    unfold endU
    dsimp only
    cases (cur t).up with
    | none => exact ⟨.inr ⟨h1, rfl, rfl, rfl, rfl⟩⟩
    | some j => exact pn _ _ rfl rfl rfl (by omega) (by omega)
  rw [if_neg h1]
  by_cases h1 : i.op = 29
  · rw [if_pos h1]
    unfold startU
    dsimp only
    split
    · exact tn _ _ rfl rfl rfl (by omega) (by omega)
    · exact ⟨.inl ⟨{ drop (unt M i.a.toNat).params.toNat t with cs := (drop (unt M i.a.toNat).params.toNat t).cs ++ [begin M i.a.toNat ((cur t).ws.drop ((cur t).ws.length - (unt M i.a.toNat).params.toNat))] }, [(6, 0, (i.a.toNat : Int))], push_psh _ (_, [(6, 0, (i.a.toNat : Int))]) h5, rfl, rfl, by simp [outs, drop, setCur, setC], .inr (.inr (.inr (.inr ⟨h1, rfl⟩)))⟩⟩
  rw [if_neg h1]
  by_cases h1 : i.op = 30
  · rw [if_pos h1]
    unfold resumeU
    dsimp only
    split
    · exact tn _ _ rfl rfl rfl (by omega) (by omega)
    split
    · exact tn _ _ rfl rfl rfl (by omega) (by omega)
    split
    · exact sn _ rfl rfl rfl (by omega) (by omega)
    · exact pn _ _ rfl rfl rfl (by omega) (by omega)
  rw [if_neg h1]
  by_cases h1 : i.op = 31
  · rw [if_pos h1]; exact pn _ _ rfl rfl rfl (by omega) (by omega)
  rw [if_neg h1]
  by_cases h1' : i.op = 32
  · rw [if_pos h1']; exact pn _ _ rfl rfl rfl (by omega) (by omega)
  rw [if_neg h1']
  exact sn _ rfl rfl rfl (by assumption) (by assumption)
end
end Go.Proofs.Ytjehflelkpacfaa.Vm

/- A step's events; what grows with steps. Plain Lean. -/
namespace Go.Proofs.Ytjehflelkpacfaa.Vm
set_option linter.unusedVariables false
set_option linter.unusedSimpArgs false
set_option linter.unusedSectionVars false
open ImgM Ver Opt
/-- the place moved on -/
def mvd (t : Tk) : Tk := setPc ((topF (cur t)).pc + 1) t
def lstep (M : Mdl) (x : Int) (t : Tk) : Tk × List Ev := loc M x (insT M t) (mvd t)
section
variable {ν : Type} (V : Env ν) (M : Mdl)
/-- what would be received -/
def inp (r : Tk × ν) : Int := if (insT M r.1).op = 27 then (V.take r.2 (insT M r.1).a.toNat).1 else 0
theorem look_snd (r : Tk × ν) : (look V M r).2 = r.2 := by
  unfold look waits
  split
  · split
    · rfl
    split <;> rfl
  · rfl
/-- looked at: as it was, but how it stands -/
theorem look_fst (r : Tk × ν) : ∃ a b, (look V M r).1 = { r.1 with st := a, bx := b } := by
  unfold look waits
  split
  · split
    · exact ⟨_, _, rfl⟩
    split <;> exact ⟨_, _, rfl⟩
  · exact ⟨r.1.st, r.1.bx, rfl⟩
theorem look_ins (r : Tk × ν) : insT M (look V M r).1 = insT M r.1 := by
  obtain ⟨a, b, h⟩ := look_fst V M r
  rw [h]; rfl
theorem look_out (r : Tk × ν) : (look V M r).1.out = r.1.out ∧ (look V M r).1.tr = r.1.tr := by
  obtain ⟨a, b, h⟩ := look_fst V M r
  rw [h]; exact ⟨rfl, rfl⟩
/-- looked at twice -/
theorem look_look (r : Tk × ν) : look V M (look V M r) = look V M r := by
  by_cases h : r.1.st ≤ 3
  · have e : ∀ (a b : Int), a ≤ 3 → look V M ({ r.1 with st := a, bx := b }, r.2) = look V M r := fun a b ha => by
      unfold look
      rw [if_pos (show ({ r.1 with st := a, bx := b } : Tk).st ≤ 3 from ha), if_pos h]
      rfl
    have h2 : ∃ a b, a ≤ 3 ∧ look V M r = ({ r.1 with st := a, bx := b }, r.2) := by
      unfold look waits
      rw [if_pos h]
      split
      · exact ⟨2, _, by omega, rfl⟩
      split
      · exact ⟨3, _, by omega, rfl⟩
      · exact ⟨1, _, by omega, rfl⟩
    obtain ⟨a, b, ha, hl⟩ := h2
    rw [hl, e a b ha, hl]
  · have : look V M r = r := by unfold look; rw [if_neg h]
    rw [this, this]
theorem step_no {r : Tk × ν} (h : (look V M r).1.st ≠ 1) : step V M r = (false, look V M r) := by unfold step; exact if_pos h
theorem step_yes {r : Tk × ν} (h : (look V M r).1.st = 1) : step V M r = (true, look V M (pl V r.2 (lstep M (inp V M r) (look V M r).1))) := by
  unfold step
  dsimp only
  rw [if_neg (fun h' => h' h)]
  unfold lstep
  rw [look_ins]
  have e : ((setPc ((topF (cur (look V M r).1)).pc + 1) (look V M r).1, (look V M r).2) : Tk × ν) = (mvd (look V M r).1, r.2) := by rw [look_snd]; rfl
  rw [e, exec_pl V M (inp V M r) r.2 (insT M r.1) _ (fun h => by unfold inp; rw [if_pos h])]
/-- a step's events -/
def evs (r : Tk × ν) : List Ev := if (look V M r).1.st = 1 then (lstep M (inp V M r) (look V M r).1).2 else []
theorem lstep_did {x : Int} {t : Tk} (h : t.st ≠ 5) : Did (insT M t) x (mvd t) (lstep M x t) := loc_did M x _ _ h
end
section
variable {i : Ins} {x : Int} {t : Tk} {r : Tk × List Ev}
theorem outs_one {k a v : Int} (h : k ≠ 1) : outs [(k, a, v)] = [] := by unfold outs; simp [h]
theorem outs_of1 {i : Ins} {x : Int} {t : Tk} {l1 : List Ev} (h : l1 = [] ∧ i.op ≠ 26 ∧ i.op ≠ 27 ∨ i.op = 26 ∧ l1 = [(2, i.a, last t)] ∨ i.op = 27 ∧ l1 = [(3, i.a, x)] ∨ i.op = 28 ∧ l1 = [(1, 0, last t)] ∨ i.op = 29 ∧ l1 = [(6, 0, (i.a.toNat : Int))]) : l1.length ≤ 1 := by
  rcases h with h | h | h | h | h
  · rw [h.1]; simp
  all_goals (rw [h.2]; simp)
theorem Did.len (h : Did i x t r) : r.2.length ≤ 2 := by
  rcases h.ex with ⟨t1, l1, h1, h2, h3, h4, h5⟩ | ⟨-, h1, -⟩
  · have hl := outs_of1 h5
    rcases h1 with ⟨e, -⟩ | ⟨e, -⟩
    · rw [e]; omega
    · rw [e]; simp; omega
  · rw [h1]; simp
theorem Did.out (h : Did i x t r) : r.1.out = t.out ++ outs r.2 := by
  rcases h.ex with ⟨t1, l1, h1, h2, h3, h4, h5⟩ | ⟨-, h1, -, -, h2⟩
  · rcases h1 with ⟨e, -, -, e2⟩ | ⟨e, -, e2⟩
    · rw [e, e2, h4]
    · rw [e, e2, h4, outs_app, outs_one (by omega), List.append_nil]
  · rw [h1, h2, outs_one (by omega), List.append_nil]
theorem outs_len : ∀ l : List Ev, (outs l).length ≤ l.length := fun l => List.length_filterMap_le _ l
end
section
variable {ν : Type} {V : Env ν} {M : Mdl} {sz : ν → Nat} (sPut : ∀ v b x, sz (V.put v b x) ≤ sz v + 1) (sTake : ∀ v b, sz (V.take v b).2 ≤ sz v + 1) (sTell : ∀ v x, sz (V.tell v x) ≤ sz v + 1)
include sPut sTake sTell
theorem play_size (s : ν) (e : Ev) : sz (play V s e) ≤ sz s + 2 := by
  unfold play
  split
  · have := sTell (V.put s e.2.1.toNat e.2.2) e
    have := sPut s e.2.1.toNat e.2.2
    omega
  split
  · have := sTell (V.take s e.2.1.toNat).2 e
    have := sTake s e.2.1.toNat
    omega
  · have := sTell s e; omega
theorem plays_size : ∀ (l : List Ev) (s : ν), sz (l.foldl (play V) s) ≤ sz s + 2 * l.length
  | [], s => by simp
  | e :: l, s => by
    have h1 := plays_size l (play V s e)
    have h2 := play_size sPut sTake sTell s e
    simp only [List.foldl_cons, List.length_cons]
    omega
theorem step_size (r : Tk × ν) : sz (step V M r).2.2 ≤ sz r.2 + 4 := by
  by_cases h : (look V M r).1.st = 1
  · rw [step_yes V M h, look_snd]
    have h1 := plays_size sPut sTake sTell (lstep M (inp V M r) (look V M r).1).2 r.2
    have h2 := (lstep_did M (x := inp V M r) (t := (look V M r).1) (by omega)).len
    show sz (List.foldl (play V) r.2 _) ≤ _
    omega
  · rw [step_no V M h, look_snd]; omega
end
section
variable {ν : Type} {V : Env ν} {M : Mdl}
theorem step_out (r : Tk × ν) : (step V M r).2.1.out = r.1.out ++ outs (evs V M r) := by
  unfold evs
  by_cases h : (look V M r).1.st = 1
  · rw [if_pos h, step_yes V M h, (look_out V M _).1]
    show (lstep _ _ _).1.out = _
    rw [(lstep_did M (x := inp V M r) (t := (look V M r).1) (by omega)).out]
    show (look V M r).1.out ++ _ = _
    rw [(look_out V M r).1]
  · rw [if_neg h, step_no V M h, (look_out V M r).1]; simp [outs]
theorem evs_len (r : Tk × ν) : (evs V M r).length ≤ 2 := by
  unfold evs
  split
  · rename_i h
    exact (lstep_did M (x := inp V M r) (t := (look V M r).1) (by omega)).len
  · simp
theorem step_outLen (r : Tk × ν) : (step V M r).2.1.out.length ≤ r.1.out.length + 2 := by
  rw [step_out, List.length_append]
  have := outs_len (evs V M r)
  have := evs_len (V := V) (M := M) r
  omega
end
end Go.Proofs.Ytjehflelkpacfaa.Vm

/- What package sched computes: all tasks of a module, as they are picked; boxes with their places. Plain Lean. -/
namespace Go.Proofs.Ytjehflelkpacfaa.Vm
set_option linter.unusedVariables false
set_option linter.unusedSimpArgs false
open ImgM Ver Opt
/-- what lies in the boxes; what was told, of which task -/
structure Bs where
  ws : List (List Int)
  log : List (Nat × Ev)
def capN (M : Mdl) (b : Nat) : Nat := (M.boxes.getD b default).2.toNat
/-- boxes with their places; 'told': whose doings are told, if any are -/
def bxs (M : Mdl) (told : Option Nat) : Env Bs where
  full s b := decide ((s.ws.getD b []).length = capN M b)
  empty s b := decide ((s.ws.getD b []).length = 0)
  put s b v := { s with ws := s.ws.set b (s.ws.getD b [] ++ [v]) }
  take s b := ((s.ws.getD b []).headD 0, { s with ws := s.ws.set b (s.ws.getD b []).tail })
  tell s e := match told with
    | none => s
    | some k => { s with log := s.log ++ [(k, e)] }
/-- all tasks at work -/
structure Ma where
  ts : List Tk
  bs : Bs
  n : Nat
def Ma.init (M : Mdl) : Ma := ⟨(tasks M).map (Vm.new M), ⟨List.replicate M.boxes.length [], []⟩, 0⟩
def tOf (told : Bool) (k : Nat) : Option Nat := if told then some k else none
def Ma.at_ (c : Ma) (k : Nat) : Tk × Bs := (c.ts.getD k default, c.bs)
/-- a pick of one task, which has so many steps behind it all: what was wrong with it, how many steps it took, how it stands then -/
def pick1 {ν : Type} (V : Env ν) (M : Mdl) (n : Nat) (q : Int) (r : Tk × ν) : (Int × Nat) × (Tk × ν) :=
  if q < 1 ∨ 10000 < q then ((5, 0), r)
  else if (look V M r).1.st ≠ 1 then ((11, 0), look V M r)
  else (if (goN V M (min q.toNat (20000 - n)) (look V M r)).1 = 0 then (10, 0) else (0, (goN V M (min q.toNat (20000 - n)) (look V M r)).1), (goN V M (min q.toNat (20000 - n)) (look V M r)).2)
/-- a pick, done -/
def pick (M : Mdl) (told : Bool) (c : Ma) (p : Int × Int) : (Int × Nat) × Ma :=
  if p.1 < 0 ∨ (c.ts.length : Int) ≤ p.1 then ((3, 0), c)
  else
    let r := pick1 (bxs M (tOf told p.1.toNat)) M c.n p.2 (c.at_ p.1.toNat)
    (r.1, ⟨c.ts.set p.1.toNat r.2.1, r.2.2, c.n + r.1.2⟩)
/-- all picks, one after the other -/
def picks (M : Mdl) (told : Bool) : List (Int × Int) → Ma → List (Int × Nat) × Ma
  | [], c => ([], c)
  | p :: l, c => ((pick M told c p).1 :: (picks M told l (pick M told c p).2).1, (picks M told l (pick M told c p).2).2)
/-- all tasks looked at -/
def Ma.looked (M : Mdl) (c : Ma) : Ma := ⟨c.ts.map fun t => (look (bxs M none) M (t, c.bs)).1, c.bs, c.n⟩
/-- the numbers of tasks that can go on -/
def Ma.ready (c : Ma) : List Nat := (List.range c.ts.length).filter fun k => decide ((c.ts.getD k default).st = 1)
/-- the first behind the last one; the first at all, if none is behind it -/
def nextOf (l : List Nat) (last : Int) : Nat := (l.find? fun k : Nat => decide (last < (k : Int))).getD (l.headD 0)
/-- as long as a task can go on; each round takes a step at least -/
def settle (M : Mdl) (q : Int) : Nat → Int → Ma → Option Ma
  | 0, _, c => none
  | n + 1, last, c =>
    let c := c.looked M
    if c.ready = [] then some c
    else
      let r := pick M false c ((nextOf c.ready last : Int), q)
      if r.1.1 ≠ 0 then none else settle M q n (nextOf c.ready last) r.2
/-- the last one of the picks that was done -/
def lastOf (l : List (Int × Int)) (d : List (Int × Nat)) : Int := ((l.zip d).filter fun x => decide (x.2.1 = 0)).foldl (fun _ x => x.1.1) (-1)
def wrong (M : Mdl) (n : Nat) : Int := if (verify M).err ≠ 0 then (verify M).err else if 400 < n then 5 else 0
end Go.Proofs.Ytjehflelkpacfaa.Vm

/- Solo's boxes keep their types; what a task puts out, sends and takes only grows. Plain Lean. -/
namespace Go.Proofs.Ytjehflelkpacfaa.Vm
set_option linter.unusedVariables false
set_option linter.unusedSimpArgs false
open ImgM Ver Opt

/-- a right module's typings -/
theorem certs_ok {M : Mdl} (h : verify M = .ok) (hG : ∀ k, k < M.units.length → Ver.Good M (M.units.getD k default)) (h64 : ∀ k, k < M.units.length → ∀ i ∈ (unt M k).code, In64 i.n ∧ In64 i.a) : ∃ T, Certs M T := by
  have hR := verify_iff.1 h
  have hF := hR.form
  have key : ∀ k, ∃ τ, k < M.units.length → Cert M (unt M k) τ ∧ ∀ p s, τ p = some s → s.1.length ≤ 300 ∧ s.2.length = (unt M k).locals.length := fun k => by
    by_cases hk : k < M.units.length
    · obtain ⟨g1, g2⟩ := hF.units _ (uAt_mem hk)
      have hh : (M.units.getD k default).params.toNat ≤ (M.units.getD k default).locals.length := by
        have g1' : head M (M.units.getD k default) = 0 := g1
        unfold head at g1'
        generalize M.units.getD k default = u at *
        by_cases e1 : u.kind ≠ 2 ∧ u.kind ≠ 3 ∧ u.kind ≠ 4
        · rw [if_pos e1] at g1'; cases g1'
        rw [if_neg e1] at g1'
        by_cases e2 : 200 < u.locals.length ∨ u.params < 0 ∨ 6 < u.params ∨ (u.locals.length : Int) < u.params ∨ (u.kind = 4 ∧ 0 < u.params)
        · rw [if_pos e2] at g1'; cases g1'
        omega
      obtain ⟨τ, h1, h2⟩ := cert_of_code (hG k hk) hh (head_len g1).1 (hR.code k hk)
      exact ⟨τ, fun _ => ⟨h1, h2⟩⟩
    · exact ⟨fun _ => none, fun h => absurd h hk⟩
  refine ⟨fun k => Classical.choose (key k), hF, h64, fun q hq => (Classical.choose_spec (key q) hq).1, fun q p s hq hs => ((Classical.choose_spec (key q) hq).2 p s hs).2⟩
/-- words of a box's type -/
def Typed (t : Int) (l : List Int) : Prop := t = 2 → ∀ v ∈ l, v = 0 ∨ v = 1
structure LsK (M : Mdl) (F : List (List Int)) (s : Ls) : Prop where
  took : s.took.length = M.boxes.length
  sent : s.sent.length = M.boxes.length
  le : ∀ b, b < M.boxes.length → s.took.getD b 0 ≤ (F.getD b []).length
  typ : ∀ b, b < M.boxes.length → Typed (M.boxes.getD b default).1 (s.sent.getD b [])
/-- feeds of the boxes' types -/
structure Fed (M : Mdl) (F : List (List Int)) : Prop where
  len : F.length = M.boxes.length
  in64 : ∀ l ∈ F, ∀ v ∈ l, In64 v
  typ : ∀ b, b < M.boxes.length → Typed (M.boxes.getD b default).1 (F.getD b [])
theorem getD_setL {l : List (List Int)} {k j : Nat} {v : List Int} (hk : k < l.length) : (l.set k v).getD j [] = if k = j then v else l.getD j [] := by
  simp only [List.getD_eq_getElem?_getD, List.getElem?_set]
  by_cases h : k = j
  · subst h; simp [hk]
  · simp [h]
theorem getD_rep {α : Type} (n k : Nat) (a : α) : (List.replicate n a).getD k a = a := by
  rw [List.getD_eq_getElem?_getD, List.getElem?_replicate]
  split <;> rfl
section
variable {M : Mdl} {T : Nat → Int → Option Shape} {ν : Type} {V : Env ν} {K : ν → Prop}
theorem goN_good (hC : Certs M T) (hV : EnvOk V M K) : ∀ (n : Nat) {r : Tk × ν}, Good M T K r → Good M T K (goN V M n r).2
  | 0, r, h => h
  | n + 1, r, h => by
    unfold goN
    have hs := step_good hC hV h
    split
    · exact goN_good hC hV n hs
    · exact hs
theorem goN_le : ∀ (n : Nat) (r : Tk × ν), (goN V M n r).1 ≤ n
  | 0, r => Nat.le_refl _
  | n + 1, r => by
    unfold goN
    split
    · have := goN_le n (step V M r).2
      simp only; omega
    · exact Nat.zero_le _
end
end Go.Proofs.Ytjehflelkpacfaa.Vm
