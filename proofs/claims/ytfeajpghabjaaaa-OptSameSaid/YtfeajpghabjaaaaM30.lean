/- Solo's boxes as what a task speaks to; the units that are tasks, walked. -/
import Derived.Test.YtfeajpghabjaaaaM29
namespace Go.Proofs.Ytfeajpghabjaaaa.Vw
open Go.RowKit Go.Proofs.Ytfeajpghabjaaaa.Img
set_option linter.unusedVariables false
set_option linter.unusedSimpArgs false
attribute [local irreducible] Run Cod End OpT Still RunQ RunS RunT Fn PutOk
@[reducible] def lsEnv (p : LsP) (f : FL) : EnvM where
  μ := LsE
  ν := Vm.Ls
  V := Vm.lists f.ws
  abs := LsE.abs
  ok := LsOk f
  mem := lsM p f
  size s := Vm.total s.sent
  sPut s b v := Vm.total_put s.sent b v
  sTake s b := Nat.le_succ _
  sTell s e := Nat.le_succ _
  excl := lsM_excl p f
  rc := fd f
  rexcl := fd_excl
  T := 65
  rv := ptr p.lb
  told := none
  boxes := f.l.length
  fFull := 124
  fEmpty := 123
  fPut := 125
  fTake := 126
  mFull := finds (ptr := true) (by kernel_rfl) (finds_ptr Try.underlying65)
  mEmpty := finds (ptr := true) (by kernel_rfl) (finds_ptr Try.underlying65)
  mPut := finds (ptr := true) (by kernel_rfl) (finds_ptr Try.underlying65)
  mTake := finds (ptr := true) (by kernel_rfl) (finds_ptr Try.underlying65)
  bFull := by kernel_rfl
  bEmpty := by kernel_rfl
  bPut := by kernel_rfl
  bTake := by kernel_rfl
  full e b he hb := lsFull_is p f e b
  empty e b he hb := lsEmpty_is p f e he b hb
  put e b v he hb _ hs := lsPut_is p f e he b hb v hs
  take e b he hb hne := lsTake_is p f e he b hb (fun h => by
    have hne' : decide (e.took.getD b 0 = (f.ws.getD b []).length) = false := hne
    rw [getD_ws, decide_eq_false_iff_not] at hne'
    exact hne' h)
  tell v x := rfl
theorem certs_ml {m : ML} (hwf : m.Wf) (hV : Ver.verify m.mdl = .ok) : ∃ T, Vm.Certs m.mdl T := by
  have hF := formed (Ver.verify_iff.1 hV).form
  refine Vm.certs_ok hV (fun k hk => ?_) (fun k hk i hi => ?_)
  · rw [ML.unit_at]; exact hF.good hwf (by simpa using hk)
  · unfold Vm.unt at hi
    rw [ML.unit_at] at hi
    have := (hwf.us _ (ML.uat_mem (m := m) (by simpa using hk))).code i hi
    exact ⟨this.2.2, this.2.1⟩
def isT (m : ML) (k : Nat) : Bool := decide ((m.mdl.units.getD k default).kind = 4)
theorem tasks_eq (m : ML) : Vm.tasks m.mdl = (List.range m.us.length).filter (isT m) := by
  unfold Vm.tasks
  simp only [ML.mdl, List.length_map]
  rfl
theorem tasks_succ (m : ML) (k : Nat) : (List.range (k + 1)).filter (isT m) = (List.range k).filter (isT m) ++ if (m.us.getD k default).u.kind = 4 then [k] else [] := by
  rw [List.range_succ, List.filter_append]
  congr 1
  have e : isT m k = decide ((m.us.getD k default).u.kind = 4) := by unfold isT; rw [ML.unit_at]
  simp only [List.filter_cons, List.filter_nil, e]
  by_cases h : (m.us.getD k default).u.kind = 4 <;> simp only [h, decide_true, decide_false, if_true, if_false, Bool.false_eq_true]
theorem tasks_len (m : ML) (k : Nat) : ((List.range k).filter (isT m)).length ≤ k := by
  have := List.length_filter_le (isT m) (List.range k)
  simpa using this
set_option maxRecDepth 100000 in
theorem tasks_is (mb : Nat) (m : ML) (hu : m.us.length ≤ 1000) : Fn Try.prog 25 #[ptr mb] [md m] [blk mb (mdV m) 25] (σ := Option Addr × Nat) (fun _ => True) (fun s => .slice s.1 (Vm.tasks m.mdl).length s.2) (fun s => [arr s.1 (Vm.tasks m.mdl).length s.2 3 natC (Vm.tasks m.mdl), blk mb (mdV m) 25]) := by
  rw [tasks_eq]
  refine Fn.enter (args := [ptr mb]) Try.func25 rfl _ Try.ntmps25 rfl (by simp [rd_excl, md_excl]) (fun w S => ?_)
  (try conv => rhs; simp only [List.cons_append, List.nil_append])
  repeat (first | refine go (k := ?_) | (refine goB (k := ?_); intro b) | (refine goA (k := ?_); intro ao cap))
  apply Cod.imp (fun w hm => hm.nilArr 3 natC)
  refine Cod.only ((fun z => [old w S, md m, blk mb (mdV m) 25, arr z.2.1 ((List.range z.1).filter (isT m)).length z.2.2 3 natC ((List.range z.1).filter (isT m))]) (0, none, 0)) (by (repeat (first | exact Takes.nil | exact Take.head | apply Take.tail | apply Takes.cons))) ?_
  apply Cod.loop (σ := Nat × Option Addr × Nat) (fun z => z.1 ≤ m.us.length) (fun z => [(0, ptr mb), (3, .slice z.2.1 ((List.range z.1).filter (isT m)).length z.2.2), (9, .slice m.uo m.us.length m.uc), (10, .int .i64 (m.us.length : Int)), (11, .int .i64 (z.1 : Int))]) (fun z => [old w S, md m, blk mb (mdV m) 25, arr z.2.1 ((List.range z.1).filter (isT m)).length z.2.2 3 natC ((List.range z.1).filter (isT m))]) (fun z => m.us.length - z.1) (0, none, 0)
  rotate_left
  exact sb
  exact tks
  intro z hz K1 hK1
  (try conv => rhs; simp only [List.cons_append, List.nil_append])
  rotate_left
  · exact Nat.zero_le _
  obtain ⟨q, ao, ac⟩ := z
  simp only at hz hK1 ⊢
  have htl := tasks_len m q
  by_cases hq : q < m.us.length
  · have hsn := tasks_succ m q
    by_cases h4 : (m.us.getD q default).u.kind = 4
    · rw [if_pos h4] at hsn
      have hsl : ((List.range (q + 1)).filter (isT m)).length = ((List.range q).filter (isT m)).length + 1 := by rw [hsn]; simp
      repeat (first | refine go (k := ?_) | (refine goB (k := ?_); intro b) | (refine goA (k := ?_); intro ao cap))
      rw [← hsn, ← hsl]
      refine End.round0_ hK1 (q + 1, ao, cap) ?_ ?_
      · simp only; omega
      · simp only; omega
    · rw [if_neg h4, List.append_nil] at hsn
      repeat (first | refine go (k := ?_) | (refine goB (k := ?_); intro b) | (refine goA (k := ?_); intro ao cap))
      rw [← hsn]
      refine End.round0_ hK1 (q + 1, ao, ac) ?_ ?_
      · simp only; omega
      · simp only; omega
  · obtain rfl : q = m.us.length := by omega
    repeat (first | refine go (k := ?_) | (refine goB (k := ?_); intro b) | (refine goA (k := ?_); intro ao cap))
    (refine End.done1_ ((ao, ac)) (he := by (first | exact rfl | (refine congrArg (Value.int _) ?_; omega) | (refine congrArg (Value.int _) ?_; dsimp only; omega))) (hp := ?_))
    trivial
end Go.Proofs.Ytfeajpghabjaaaa.Vw

/- A task that waits, walked. -/
namespace Go.Proofs.Ytfeajpghabjaaaa.Vw
open Go.RowKit Go.Proofs.Ytfeajpghabjaaaa.Img
set_option linter.unusedVariables false
set_option linter.unusedSimpArgs false
attribute [local irreducible] Run Cod End OpT Still RunQ RunS RunT Fn PutOk
variable (E : EnvM)
def wst (i : ImgM.Ins) (v : E.ν) : Int := if i.op = 26 ∧ E.V.full v i.a.toNat = true then 2 else if i.op = 27 ∧ E.V.empty v i.a.toNat = true then 3 else 1
def wbx (i : ImgM.Ins) (v : E.ν) : Int := if i.op = 26 ∧ E.V.full v i.a.toNat = true then i.a else if i.op = 27 ∧ E.V.empty v i.a.toNat = true then i.a else 0
set_option maxRecDepth 100000 in
theorem waits_is (F : TF) (st tr : Int) (e : E.μ) (he : E.ok e) (i : ImgM.Ins) (hb : i.op = 26 ∨ i.op = 27 → 0 ≤ i.a ∧ i.a.toNat < E.boxes) : Fn Try.prog 49 #[ptr F.tb, insV i] [E.rc] [E.tc F st tr, E.mem e] (σ := Unit) (fun _ => True) (fun _ => .bool (!decide (wst E i (E.abs e) = 1))) (fun _ => [E.tc ⟨F.tb, F.mb, F.cos, F.cb, wbx E i (E.abs e), F.out⟩ (wst E i (E.abs e)) tr, E.mem e]) := by
  refine Fn.enter (args := [ptr F.tb, insV i]) Try.func49 rfl _ Try.ntmps49 rfl (by simp [rd_excl, md_excl]) (fun w S => ?_)
  (try conv => rhs; simp only [List.cons_append, List.nil_append])
  by_cases h26 : i.op = 26
  · obtain ⟨ha, hlt⟩ := hb (.inl h26)
    have hf := E.full e i.a.toNat he hlt
    rw [Int.toNat_of_nonneg ha] at hf
    repeat (first | refine go (k := ?_) | (refine goB (k := ?_); intro b) | (refine goA (k := ?_); intro ao cap))
    ((first | (apply Run.op; exact rfl) | refine Run.yes_ (h := ?_)); refine OpT.callM_ (E.mFull) (E.bFull) (hf) (r := fun w => Reads.any (by (repeat (first | exact Take.head | apply Take.tail))) E.rexcl .nil) (k := ?_); intro s hs; (try conv => rhs; simp only [List.cons_append, List.nil_append]))
    cases hv : E.V.full (E.abs e) i.a.toNat with
    | true =>
      have e1 : wst E i (E.abs e) = 2 := by unfold wst; rw [if_pos ⟨h26, hv⟩]
      have e2 : wbx E i (E.abs e) = i.a := by unfold wbx; rw [if_pos ⟨h26, hv⟩]
      rw [e1, e2]
      repeat (first | refine go (k := ?_) | (refine goB (k := ?_); intro b) | (refine goA (k := ?_); intro ao cap))
      apply Cod.draw 9 ([blk b (insC i) 57]) (by kernel_rfl) 10 rfl
      refine RunT.takeR_ 0 (h := ?_)
      refine RunT.takeR_ 1 (h := ?_)
      refine RunT.takeR_ 2 (h := ?_)
      refine RunT.takeR_ 3 (h := ?_)
      refine RunT.takeR_ 4 (h := ?_)
      refine RunT.takeR_ 5 (h := ?_)
      (refine RunT.one_ 6 (h := ?_); (first | refine OpT.val_ (k := ?_) | (refine OpT.alloc_ (k := ?_); intro b) | (refine OpT.box_ (k := ?_); intro b) | refine OpT.store_ (k := ?_) | (refine OpT.buildSlice_ (k := ?_); intro b) | (refine OpT.buildSlice0_ (k := ?_); intro b) | (refine OpT.append1_ (k := ?_); intro ao cap) | (refine OpT.cutA0_ (k := ?_); intro ao cap) | (refine OpT.cutR0_ (k := ?_); intro ao cap) | (refine OpT.cutA1_ (k := ?_); intro ao cap) | (refine OpT.cutA_ (k := ?_); intro ao cap) | (refine OpT.cutR_ (k := ?_); intro ao cap)); refine And.intro gud ?_)
      refine RunT.takeR_ 7 (h := ?_)
      refine RunT.takeR_ 8 (h := ?_)
      (refine RunT.one_ 9 (h := ?_); (first | refine OpT.val_ (k := ?_) | (refine OpT.alloc_ (k := ?_); intro b) | (refine OpT.box_ (k := ?_); intro b) | refine OpT.store_ (k := ?_) | (refine OpT.buildSlice_ (k := ?_); intro b) | (refine OpT.buildSlice0_ (k := ?_); intro b) | (refine OpT.append1_ (k := ?_); intro ao cap) | (refine OpT.cutA0_ (k := ?_); intro ao cap) | (refine OpT.cutR0_ (k := ?_); intro ao cap) | (refine OpT.cutA1_ (k := ?_); intro ao cap) | (refine OpT.cutA_ (k := ?_); intro ao cap) | (refine OpT.cutR_ (k := ?_); intro ao cap)); refine And.intro gud ?_)
      (apply RunT.done; kernel_rfl)
      repeat (first | refine go (k := ?_) | (refine goB (k := ?_); intro b) | (refine goA (k := ?_); intro ao cap))
      (refine End.done1_ (()) (he := by (first | exact rfl | (refine congrArg (Value.int _) ?_; omega) | (refine congrArg (Value.int _) ?_; dsimp only; omega))) (hp := ?_))
      trivial
    | false =>
      have e1 : wst E i (E.abs e) = 1 := by unfold wst; rw [if_neg (by rw [hv]; simp), if_neg (by omega)]
      have e2 : wbx E i (E.abs e) = 0 := by unfold wbx; rw [if_neg (by rw [hv]; simp), if_neg (by omega)]
      rw [e1, e2]
      repeat (first | refine go (k := ?_) | (refine goB (k := ?_); intro b) | (refine goA (k := ?_); intro ao cap))
      (refine End.done1_ (()) (he := by (first | exact rfl | (refine congrArg (Value.int _) ?_; omega) | (refine congrArg (Value.int _) ?_; dsimp only; omega))) (hp := ?_))
      trivial
  · by_cases h27 : i.op = 27
    · obtain ⟨ha, hlt⟩ := hb (.inr h27)
      have hf := E.empty e i.a.toNat he hlt
      rw [Int.toNat_of_nonneg ha] at hf
      repeat (first | refine go (k := ?_) | (refine goB (k := ?_); intro b) | (refine goA (k := ?_); intro ao cap))
      ((first | (apply Run.op; exact rfl) | refine Run.yes_ (h := ?_)); refine OpT.callM_ (E.mEmpty) (E.bEmpty) (hf) (r := fun w => Reads.any (by (repeat (first | exact Take.head | apply Take.tail))) E.rexcl .nil) (k := ?_); intro s hs; (try conv => rhs; simp only [List.cons_append, List.nil_append]))
      cases hv : E.V.empty (E.abs e) i.a.toNat with
      | true =>
        have e1 : wst E i (E.abs e) = 3 := by unfold wst; rw [if_neg (by omega), if_pos ⟨h27, hv⟩]
        have e2 : wbx E i (E.abs e) = i.a := by unfold wbx; rw [if_neg (by omega), if_pos ⟨h27, hv⟩]
        rw [e1, e2]
        repeat (first | refine go (k := ?_) | (refine goB (k := ?_); intro b) | (refine goA (k := ?_); intro ao cap))
        apply Cod.draw 9 ([blk b (insC i) 57]) (by kernel_rfl) 10 rfl
        refine RunT.takeR_ 0 (h := ?_)
        refine RunT.takeR_ 1 (h := ?_)
        refine RunT.takeR_ 2 (h := ?_)
        refine RunT.takeR_ 3 (h := ?_)
        refine RunT.takeR_ 4 (h := ?_)
        refine RunT.takeR_ 5 (h := ?_)
        (refine RunT.one_ 6 (h := ?_); (first | refine OpT.val_ (k := ?_) | (refine OpT.alloc_ (k := ?_); intro b) | (refine OpT.box_ (k := ?_); intro b) | refine OpT.store_ (k := ?_) | (refine OpT.buildSlice_ (k := ?_); intro b) | (refine OpT.buildSlice0_ (k := ?_); intro b) | (refine OpT.append1_ (k := ?_); intro ao cap) | (refine OpT.cutA0_ (k := ?_); intro ao cap) | (refine OpT.cutR0_ (k := ?_); intro ao cap) | (refine OpT.cutA1_ (k := ?_); intro ao cap) | (refine OpT.cutA_ (k := ?_); intro ao cap) | (refine OpT.cutR_ (k := ?_); intro ao cap)); refine And.intro gud ?_)
        refine RunT.takeR_ 7 (h := ?_)
        refine RunT.takeR_ 8 (h := ?_)
        (refine RunT.one_ 9 (h := ?_); (first | refine OpT.val_ (k := ?_) | (refine OpT.alloc_ (k := ?_); intro b) | (refine OpT.box_ (k := ?_); intro b) | refine OpT.store_ (k := ?_) | (refine OpT.buildSlice_ (k := ?_); intro b) | (refine OpT.buildSlice0_ (k := ?_); intro b) | (refine OpT.append1_ (k := ?_); intro ao cap) | (refine OpT.cutA0_ (k := ?_); intro ao cap) | (refine OpT.cutR0_ (k := ?_); intro ao cap) | (refine OpT.cutA1_ (k := ?_); intro ao cap) | (refine OpT.cutA_ (k := ?_); intro ao cap) | (refine OpT.cutR_ (k := ?_); intro ao cap)); refine And.intro gud ?_)
        (apply RunT.done; kernel_rfl)
        repeat (first | refine go (k := ?_) | (refine goB (k := ?_); intro b) | (refine goA (k := ?_); intro ao cap))
        (refine End.done1_ (()) (he := by (first | exact rfl | (refine congrArg (Value.int _) ?_; omega) | (refine congrArg (Value.int _) ?_; dsimp only; omega))) (hp := ?_))
        trivial
      | false =>
        have e1 : wst E i (E.abs e) = 1 := by unfold wst; rw [if_neg (by omega), if_neg (by rw [hv]; simp)]
        have e2 : wbx E i (E.abs e) = 0 := by unfold wbx; rw [if_neg (by omega), if_neg (by rw [hv]; simp)]
        rw [e1, e2]
        repeat (first | refine go (k := ?_) | (refine goB (k := ?_); intro b) | (refine goA (k := ?_); intro ao cap))
        (refine End.done1_ (()) (he := by (first | exact rfl | (refine congrArg (Value.int _) ?_; omega) | (refine congrArg (Value.int _) ?_; dsimp only; omega))) (hp := ?_))
        trivial
    · have e1 : wst E i (E.abs e) = 1 := by unfold wst; rw [if_neg (by omega), if_neg (by omega)]
      have e2 : wbx E i (E.abs e) = 0 := by unfold wbx; rw [if_neg (by omega), if_neg (by omega)]
      rw [e1, e2]
      repeat (first | refine go (k := ?_) | (refine goB (k := ?_); intro b) | (refine goA (k := ?_); intro ao cap))
      (refine End.done1_ (()) (he := by (first | exact rfl | (refine congrArg (Value.int _) ?_; omega) | (refine congrArg (Value.int _) ?_; dsimp only; omega))) (hp := ?_))
      trivial
end Go.Proofs.Ytfeajpghabjaaaa.Vw

/- A task looked at, walked. -/
namespace Go.Proofs.Ytfeajpghabjaaaa.Vw
open Go.RowKit Go.Proofs.Ytfeajpghabjaaaa.Img
set_option linter.unusedVariables false
set_option linter.unusedSimpArgs false
attribute [local irreducible] Run Cod End OpT Still RunQ RunS RunT Fn PutOk
variable {E : EnvM}
abbrev SL.f (s : SL E) : Vm.Fr := s.cur.fr.getD (s.cur.fr.length - 1) default
abbrev insL (m : ML) (s : SL E) : ImgM.Ins := (m.us.getD s.f.unit default).u.code.getD s.f.pc default
/-- what must be known where a task stands, to find its instruction -/
structure Stands (m : ML) (s : SL E) : Prop where
  fr : s.cur.fr ≠ []
  few : s.cur.fr.length ≤ 40
  unit : s.f.unit < m.us.length
  pc : s.f.pc < (m.us.getD s.f.unit default).u.code.length
  box : (insL m s).op = 26 ∨ (insL m s).op = 27 → 0 ≤ (insL m s).a ∧ (insL m s).a.toNat < E.boxes
set_option maxRecDepth 100000 in
theorem look_is' (p : Pl) (s : SL E) (he : E.ok s.e) (st bx : Int) (h4 : 3 < s.st → st = s.st ∧ bx = s.bx) (h3 : s.st ≤ 3 → Stands p.m s ∧ st = wst E (insL p.m s) (E.abs s.e) ∧ bx = wbx E (insL p.m s) (E.abs s.e)) :
    Fn Try.prog 27 #[ptr p.tb] [md p.m, E.rc] [tkM p s, moM p, ccM s.cur, frM s.cur, E.mem s.e] (σ := Unit) (fun _ => True) (fun _ => .tuple #[]) (fun _ => [tkM p { s with st := st, bx := bx }, moM p, ccM s.cur, frM s.cur, E.mem s.e]) := by
  refine Fn.enter (args := [ptr p.tb]) Try.func27 rfl _ Try.ntmps27 rfl (by simp [rd_excl, md_excl]) (fun w S => ?_)
  (try conv => rhs; simp only [List.cons_append, List.nil_append])
  by_cases hst : s.st ≤ 3
  · obtain ⟨hs0, e1, e2⟩ := h3 hst
    obtain ⟨g1, g2, g3, g4, g5⟩ := hs0
    have hl : 0 < s.cur.fr.length := List.length_pos_iff.2 g1
    have w1 : IntKind.i64.wrap ((s.cur.fr.length : Int) - 1) = ((s.cur.fr.length - 1 : Nat) : Int) := by rw [wrap_i64_in (by omega)]; omega
    repeat (first | refine go (k := ?_) | (refine goB (k := ?_); intro b) | (refine goA (k := ?_); intro ao cap))
    ((first | (apply Run.op; exact rfl) | refine Run.yes_ (h := ?_)); refine OpT.call0_ (spec := waits_is E ⟨p.tb, p.mb, .slice s.co s.bs.length s.ccap, s.cur.cb, s.bx, .slice s.oo s.out.length s.oc⟩ s.st s.tr s.e he (insL p.m s) g5) (r := fun w => Reads.any (by (repeat (first | exact Take.head | apply Take.tail))) E.rexcl .nil) (k := ?_); intro s hs; (try conv => rhs; simp only [List.cons_append, List.nil_append]))
    rw [e1, e2]
    repeat (first | refine go (k := ?_) | (refine goB (k := ?_); intro b) | (refine goA (k := ?_); intro ao cap))
    (refine End.done0'_ (()) (hp := ?_))
    trivial
  · obtain ⟨e1, e2⟩ := h4 (by omega)
    rw [e1, e2]
    repeat (first | refine go (k := ?_) | (refine goB (k := ?_); intro b) | (refine goA (k := ?_); intro ao cap))
    (refine End.done0'_ (()) (hp := ?_))
    trivial
end Go.Proofs.Ytfeajpghabjaaaa.Vw

/- A thread begun, walked. -/
namespace Go.Proofs.Ytfeajpghabjaaaa.Vw
open Go.RowKit Go.Proofs.Ytfeajpghabjaaaa.Img
set_option linter.unusedVariables false
set_option linter.unusedSimpArgs false
attribute [local irreducible] Run Cod End OpT Still RunQ RunS RunT Fn PutOk
/-- a thread that has begun -/
structure Begun (u : Nat) (ws : List Int) (c : CoL) : Prop where
  st : c.st = 0
  up : c.up = none
  upb : c.upb = none
  fr : c.fr = [⟨u, 0, 0⟩]
  ok : c.sk.Ok
  ws : c.sk.ws = ws
set_option maxRecDepth 100000 in
theorem begin_is (tb mb : Nat) (m : ML) (rest : List Value) (u : Nat) (hu : u < m.us.length) (ao : Option Addr) (cap : Nat) (a : List Int) (hl : (m.us.getD u default).u.locals.length ≤ 200) (ha : a.length ≤ 400) :
    Fn Try.prog 48 #[ptr tb, .int .i64 (u : Int), .slice ao a.length cap] [md m, rd ao a.length cap i64c a] [blk tb (ptr mb :: rest) 76, blk mb (mdV m) 25] (σ := CoL)
      (Begun u ((List.range (m.us.getD u default).u.locals.length).map fun i => a.getD i 0)) (fun c => ptr c.cb) (fun c => [ccM c, frM c, blk c.sk.sb (skC c.sk) 151, arr (some ⟨c.sk.lb, 0, none⟩) c.sk.l.length c.sk.l.length 2 i64c c.sk.l, blk tb (ptr mb :: rest) 76, blk mb (mdV m) 25]) := by
  refine Fn.enter (args := [ptr tb, .int .i64 (u : Int), .slice ao a.length cap]) Try.func48 rfl _ Try.ntmps48 rfl (by simp [rd_excl, md_excl]) (fun w S => ?_)
  (try conv => rhs; simp only [List.cons_append, List.nil_append])
  repeat (first | refine go (k := ?_) | (refine goB (k := ?_); intro b) | (refine goA (k := ?_); intro ao cap))
  (apply Run.op; exact rfl; refine OpT.call0_ (spec := new_stk) (k := ?_); intro s hs; (try conv => rhs; simp only [List.cons_append, List.nil_append]))
  obtain ⟨hk0, hw0, hl0⟩ := hs
  repeat (first | refine go (k := ?_) | (refine goB (k := ?_); intro b) | (refine goA (k := ?_); intro ao cap))
  obtain ⟨cb, rfl⟩ : ∃ x, x = b := ⟨_, rfl⟩
  obtain ⟨fb, rfl⟩ : ∃ x, x = b := ⟨_, rfl⟩
  obtain ⟨k0, rfl⟩ : ∃ x, x = s := ⟨_, rfl⟩
  obtain ⟨n, hn⟩ : ∃ n, n = (m.us.getD u default).u.locals.length := ⟨_, rfl⟩
  rw [← hn] at hl ⊢
  apply Cod.loop (σ := Nat × Sk) (fun s => s.1 ≤ n ∧ s.2.Ok ∧ s.2.sb = k0.sb ∧ s.2.ws = (List.range s.1).map fun i => a.getD i 0) (fun s => [(0, ptr tb), (1, .int .i64 (u : Int)), (2, .slice ao a.length cap), (7, ptr cb), (27, .int .i64 (n : Int)), (28, .int .i64 (s.1 : Int))]) (fun s => old w S :: rd ao a.length cap i64c a :: blk tb (ptr mb :: rest) 76 :: blk mb (mdV m) 25 :: blk cb (ccl 0 (.pointer none) (.slice (some ⟨fb, 0, none⟩) 1 1) k0.sb) 104 :: blk fb (frC ⟨u, 0, 0⟩) 107 :: skM s.2) (fun s => n - s.1) (0, k0)
  rotate_left
  exact sb
  exact tks
  intro s hs K hK
  (try conv => rhs; simp only [List.cons_append, List.nil_append])
  rotate_left
  · exact ⟨Nat.zero_le _, hk0, rfl, by simp [hw0]⟩
  obtain ⟨i, k⟩ := s
  obtain ⟨hi, hk, hsb, hws⟩ := hs
  simp only at hi hk hsb hws hK ⊢
  have hlen : k.live = i := by
    have h := Sk.len hk
    rw [hws] at h
    simpa using h.symm
  have hst : ∀ (v : Int) (k' : Sk), v = a.getD i 0 → (if k.live = 400 then k' = k else SkTo k k' (k.ws ++ [v])) → i < n → (i + 1 ≤ n ∧ k'.Ok ∧ k'.sb = k0.sb ∧ k'.ws = (List.range (i + 1)).map fun i => a.getD i 0) := fun v k' hv h hi' => by
    rw [if_neg (by omega)] at h
    refine ⟨hi', h.ok, h.sb.trans hsb, ?_⟩
    rw [h.ws, hws, List.range_succ, List.map_append, hv]
    rfl
  rw [← hsb]
  by_cases hin : i < n
  · by_cases hia : i < a.length
    · repeat (first | refine go (k := ?_) | (refine goB (k := ?_); intro b) | (refine goA (k := ?_); intro ao cap))
      (apply Run.op; exact rfl; refine OpT.call0_ (spec := push_stk k hk (a.getD i default)) (k := ?_); intro s hs; (try conv => rhs; simp only [List.cons_append, List.nil_append]))
      have hh := hst _ _ rfl hs hin
      have hsb2 : k.sb = s.sb := by rw [hsb, hh.2.2.1]
      repeat (first | refine go (k := ?_) | (refine goB (k := ?_); intro b) | (refine goA (k := ?_); intro ao cap))
      rw [hsb]
      refine End.round_ hK (i + 1, s) ?_ ?_
      · exact hh
      · simp only; omega
    · repeat (first | refine go (k := ?_) | (refine goB (k := ?_); intro b) | (refine goA (k := ?_); intro ao cap))
      (apply Run.op; exact rfl; refine OpT.call0_ (spec := push_stk k hk 0) (k := ?_); intro s hs; (try conv => rhs; simp only [List.cons_append, List.nil_append]))
      have hh := hst _ _ (by rw [List.getD_eq_getElem?_getD, List.getElem?_eq_none (by omega)]; rfl) hs hin
      repeat (first | refine go (k := ?_) | (refine goB (k := ?_); intro b) | (refine goA (k := ?_); intro ao cap))
      rw [hsb]
      refine End.round_ hK (i + 1, s) ?_ ?_
      · exact hh
      · simp only; omega
  · obtain rfl : i = n := by omega
    repeat (first | refine go (k := ?_) | (refine goB (k := ?_); intro b) | (refine goA (k := ?_); intro ao cap))
    apply End.imp (fun w hm => Mem.toArr (b := fb) (e := 107) (f := frC) (n := 1) hm (by (repeat (first | exact Take.head | apply Take.tail))) [⟨u, 0, 0⟩] rfl rfl (by unfold maxLen; simp))
    refine End.done1_ (⟨cb, 0, none, none, some ⟨fb, 0, none⟩, 1, [⟨u, 0, 0⟩], k⟩ : CoL) (he := by rfl) (hp := ⟨rfl, rfl, rfl, rfl, hk, hws⟩)
end Go.Proofs.Ytfeajpghabjaaaa.Vw

/- What pushing, popping and trapping make of a task in memory is what they make of the plain one. -/
namespace Go.Proofs.Ytfeajpghabjaaaa.Vw
open Go.RowKit Go.Proofs.Ytfeajpghabjaaaa.Img
set_option linter.unusedVariables false
set_option linter.unusedSimpArgs false
section
variable {E : EnvM} {s : SL E}
abbrev SL.put (s : SL E) (q : Sk × Int × Int × E.μ) : SL E := { s with cur := { s.cur with sk := q.1 }, st := q.2.1, tr := q.2.2.1, e := q.2.2.2 }
abbrev SL.sk (s : SL E) (k : Sk) : SL E := { s with cur := { s.cur with sk := k } }
abbrev SL.thr (s : SL E) (st tr : Int) (e : E.μ) : SL E := { s with st := st, tr := tr, e := e }
theorem SL.Wf.thr (h : s.Wf) {st tr : Int} {e : E.μ} (he : E.ok e) : (s.thr st tr e).Wf := ⟨h.now, h.len, h.few, h.at_, h.up, h.upl, h.sk, he⟩
theorem trapped {n : Int} {q : Int × Int × E.μ} (h : s.Wf) (t : Trapped E n s.st s.tr s.e q) : (s.thr q.1 q.2.1 q.2.2).Wf ∧ (s.thr q.1 q.2.1 q.2.2).two = Vm.trap E.V n s.two := by
  by_cases h5 : s.st = 5
  · have e := t.old h5
    subst e
    refine ⟨h, ?_⟩
    unfold Vm.trap
    rw [if_pos (show s.two.1.st = 5 from h5)]
  · obtain ⟨h1, h2, h3, h4⟩ := t.new h5
    refine ⟨h.thr h3, ?_⟩
    unfold Vm.trap
    rw [if_neg (show ¬ s.two.1.st = 5 from h5)]
    show (SL.tk _, E.abs q.2.2) = _
    rw [h4, h1, h2]
    rfl
theorem SL.Wf.wsLen (h : s.Wf) : (Vm.cur s.two.1).ws.length = s.cur.sk.live := by
  show (Vm.cur s.tk).ws.length = _
  rw [h.cur]
  exact Sk.len h.curOk
theorem SL.Wf.skTo (h : s.Wf) {k : Sk} {xs : List Int} (t : SkTo s.cur.sk k xs) : (s.sk k).Wf ∧ (s.sk k).tk = Vm.setCur s.tk { Vm.cur s.tk with ws := xs } := by
  refine ⟨h.setCur rfl rfl rfl t.ok, ?_⟩
  rw [SL.tk_cur, h.cur]
  show Vm.setCur s.tk ⟨s.cur.st, s.cur.up, s.cur.fr, k.ws⟩ = _
  rw [t.ws]
  rfl
theorem pushed {v : Int} {q : Sk × Int × Int × E.μ} (h : s.Wf) (t : Pushed E v s.cur.sk s.st s.tr s.e q) : (s.put q).Wf ∧ (s.put q).two = Vm.push E.V v s.two := by
  obtain ⟨k, st, tr, e⟩ := q
  unfold Vm.push
  by_cases h4 : s.cur.sk.live = 400
  · obtain ⟨e1, e2⟩ := t.full h4
    simp only at e1 e2
    subst e1
    rw [if_pos (by rw [h.wsLen]; exact h4)]
    exact trapped h e2
  · obtain ⟨e1, e2⟩ := t.room h4
    simp only [Prod.mk.injEq] at e1 e2
    obtain ⟨rfl, rfl, rfl⟩ := e2
    rw [if_neg (by rw [h.wsLen]; exact h4)]
    obtain ⟨g1, g2⟩ := h.skTo e1
    refine ⟨g1, ?_⟩
    show ((s.sk k).tk, E.abs s.e) = _
    rw [g2, h.cur]
    show _ = (Vm.setCur s.tk { Vm.cur s.tk with ws := (Vm.cur s.tk).ws ++ [v] }, E.abs s.e)
    rw [h.cur]
    rfl
theorem popped {n : Nat} {k : Sk} (h : s.Wf) (t : SkTo s.cur.sk k (s.cur.sk.ws.take (s.cur.sk.live - n))) : (s.sk k).Wf ∧ (s.sk k).tk = Vm.drop n s.tk := by
  obtain ⟨g1, g2⟩ := h.skTo t
  refine ⟨g1, ?_⟩
  rw [g2]
  unfold Vm.drop
  have := h.wsLen
  have e : (Vm.cur s.tk).ws.length = s.cur.sk.live := this
  rw [e, h.cur]
  rfl
theorem SL.Wf.last (h : s.Wf) : Vm.last s.tk = s.cur.sk.ws.getD (s.cur.sk.live - 1) 0 := by
  unfold Vm.last
  have e : (Vm.cur s.tk).ws.length = s.cur.sk.live := h.wsLen
  rw [e, h.cur]
  rfl
theorem SL.Wf.topF (h : s.Wf) : Vm.topF (Vm.cur s.tk) = s.cur.fr.getD (s.cur.fr.length - 1) default := by
  rw [h.cur]; rfl
end
end Go.Proofs.Ytfeajpghabjaaaa.Vw

/- A unit called, walked. -/
namespace Go.Proofs.Ytfeajpghabjaaaa.Vw
open Go.RowKit Go.Proofs.Ytfeajpghabjaaaa.Img
set_option linter.unusedVariables false
set_option linter.unusedSimpArgs false
attribute [local irreducible] Run Cod End OpT Still RunQ RunS RunT Fn PutOk
variable {E : EnvM}
/-- what a function of a task leaves: the task as the plain law says -/
structure Gives (s : SL E) (r : Vm.Tk × E.ν) (s' : SL E) : Prop where
  wf : s'.Wf
  two : s'.two = r
/-- the cells of a task, but how it stands -/
abbrev SL.F (p : Pl) (s : SL E) : TF := ⟨p.tb, p.mb, .slice s.co s.bs.length s.ccap, s.cur.cb, s.bx, .slice s.oo s.out.length s.oc⟩
theorem pushN_last {ν : Type} (V : Vm.Env ν) : ∀ (n : Nat) (s : Vm.Tk × ν), Vm.pushN V (n + 1) s = Vm.push V 0 (Vm.pushN V n s)
  | 0, s => rfl
  | n + 1, s => by
    rw [Vm.pushN, pushN_last V n]
    rfl
set_option maxRecDepth 100000 in
set_option maxHeartbeats 1000000 in
theorem call_is (p : Pl) (z : SL E) (hz : z.Wf) (hsz : E.size (E.abs z.e) ≤ 1000000) (u : Nat) (hu : u < p.m.us.length) (hp : 0 ≤ (p.m.us.getD u default).u.params) (hpl : (p.m.us.getD u default).u.params.toNat ≤ z.cur.sk.live) (hpL : (p.m.us.getD u default).u.params.toNat ≤ (p.m.us.getD u default).u.locals.length) (hl : (p.m.us.getD u default).u.locals.length ≤ 200) (hf : z.cur.fr.length ≤ 40) :
    Fn Try.prog 91 #[ptr p.tb, .int .i64 (u : Int)] [md p.m, E.rc] (TM p z) (σ := SL E) (Gives z (Vm.callU E.V p.m.mdl u z.two)) (fun _ => .tuple #[]) (fun z' => TM p z') := by
  obtain ⟨g1, g2, g3⟩ := id hz.curOk
  have he : E.okk z.e := ⟨hz.env, by omega⟩
  have hcl : (Vm.cur z.two.1).fr.length = z.cur.fr.length := by
    show (Vm.cur z.tk).fr.length = _
    rw [hz.cur]; rfl
  obtain ⟨n, hn⟩ : ∃ n, n = (p.m.us.getD u default).u.locals.length - (p.m.us.getD u default).u.params.toNat := ⟨_, rfl⟩
  obtain ⟨bse, hbse⟩ : ∃ n, n = z.cur.sk.live - (p.m.us.getD u default).u.params.toNat := ⟨_, rfl⟩
  have w1 : IntKind.i64.wrap ((z.cur.sk.live : Int) - (p.m.us.getD u default).u.params) = (bse : Int) := by rw [wrap_i64_in (by omega)]; omega
  have w2 : IntKind.i64.wrap (((p.m.us.getD u default).u.locals.length : Int) - (p.m.us.getD u default).u.params) = (n : Int) := by rw [wrap_i64_in (by omega)]; omega
  refine Fn.enter (args := [ptr p.tb, .int .i64 (u : Int)]) Try.func91 rfl _ Try.ntmps91 rfl (by simp [rd_excl, md_excl]) (fun w S => ?_)
  (try conv => rhs; simp only [List.cons_append, List.nil_append])
  repeat (first | refine go (k := ?_) | (refine goB (k := ?_); intro b) | (refine goA (k := ?_); intro ao cap))
  apply Cod.draw 10 ([ccM z.cur, md p.m]) (by kernel_rfl) 11 rfl
  refine RunT.takeR_ 0 (h := ?_)
  refine RunT.takeR_ 1 (h := ?_)
  refine RunT.takeR_ 2 (h := ?_)
  refine RunT.takeR_ 3 (h := ?_)
  refine RunT.takeR_ 5 (h := ?_)
  refine RunT.takeR_ 6 (h := ?_)
  refine RunT.takeR_ 7 (h := ?_)
  refine RunT.takeR_ 8 (h := ?_)
  (refine RunT.one_ 4 (h := ?_); refine OpT.call0_ (spec := live_is z.cur.sk) (k := ?_); intro s hs; refine And.intro gud ?_; (try conv => rhs; simp only [List.cons_append, List.nil_append]))
  refine RunT.takeR_ 9 (h := ?_)
  refine RunT.one_ 10 (h := OpT.val_ (k := And.intro gud ?_))
  (apply RunT.done; kernel_rfl)
  by_cases h40 : z.cur.fr.length = 40
  · repeat (first | refine go (k := ?_) | (refine goB (k := ?_); intro b) | (refine goA (k := ?_); intro ao cap))
    ((first | (apply Run.op; exact rfl) | refine Run.yes_ (h := ?_)); refine OpT.call0_ (spec := trap_is E (z.F p) z.st z.tr z.e he 4) (r := fun w => Reads.any (by (repeat (first | exact Take.head | apply Take.tail))) E.rexcl .nil) (k := ?_); intro s hs; (try conv => rhs; simp only [List.cons_append, List.nil_append]))
    repeat (first | refine go (k := ?_) | (refine goB (k := ?_); intro b) | (refine goA (k := ?_); intro ao cap))
    obtain ⟨t1, t2⟩ := trapped hz hs
    (refine End.done0_ ((z.thr s.1 s.2.1 s.2.2)) (hp := ?_))
    refine ⟨t1, t2.trans ?_⟩
    unfold Vm.callU
    rw [if_pos (hcl.trans h40)]
  · repeat (first | refine go (k := ?_) | (refine goB (k := ?_); intro b) | (refine goA (k := ?_); intro ao cap))
    (apply Run.op; exact rfl; refine OpT.append1_ (a := (⟨u, 0, bse⟩ : Vm.Fr)) (k := ?_); intro ao cap)
    obtain ⟨z1, hz1⟩ : ∃ z1 : SL E, z1 = { z with cur := { z.cur with fo := ao, fc := cap, fr := z.cur.fr ++ [⟨u, 0, bse⟩] } } := ⟨_, rfl⟩
    have hw1 : z1.Wf := by rw [hz1]; exact hz.setCur rfl rfl rfl hz.curOk
    repeat (first | refine go (k := ?_) | (refine goB (k := ?_); intro b) | (refine goA (k := ?_); intro ao cap))
    apply Cod.loop (σ := Nat × (Sk × Int × Int × E.μ)) (fun s => s.1 ≤ n ∧ (z1.put s.2).Wf ∧ (z1.put s.2).two = Vm.pushN E.V s.1 z1.two) (fun s => [(0, ptr p.tb), (59, .int .i64 (n : Int)), (60, .int .i64 (s.1 : Int))]) (fun s => old w S :: E.rc :: E.tc (z.F p) s.2.2.1 s.2.2.2.1 :: moM p :: csM z :: ouM z :: bagM (z.oth.eraseIdx z.now) :: E.mem s.2.2.2.2 :: cc z.cur.cb (z.cur.st : Int) (ptrO z.cur.upb) (.slice ao (z.cur.fr.length + 1) cap) s.2.1.sb :: arr ao (z.cur.fr.length + 1) cap 107 frC (z.cur.fr ++ [⟨u, 0, bse⟩]) :: skM s.2.1) (fun s => n - s.1) (0, z.cur.sk, z.st, z.tr, z.e)
    rotate_left
    exact sb
    exact tks
    intro s hs K hK
    (try conv => rhs; simp only [List.cons_append, List.nil_append])
    rotate_left
    · refine ⟨Nat.zero_le _, ?_, ?_⟩
      · rw [hz1] at hw1 ⊢; exact hw1
      · rw [hz1]; rfl
    obtain ⟨i, k, st, tr, e⟩ := s
    obtain ⟨hi, hw, h2⟩ := hs
    simp only at hi hw h2 hK ⊢
    by_cases hin : i < n
    · have hkk : E.okk e := ⟨hw.env, by
        have h5 := pushN_size E i z1.two
        rw [← h2] at h5
        have h6 : E.size (E.abs e) ≤ E.size (E.abs z1.e) + i := h5
        have h7 : z1.e = z.e := by rw [hz1]
        rw [h7] at h6
        omega⟩
      repeat (first | refine go (k := ?_) | (refine goB (k := ?_); intro b) | (refine goA (k := ?_); intro ao cap))
      ((first | (apply Run.op; exact rfl) | refine Run.yes_ (h := ?_)); refine OpT.call0_ (spec := push_is' E (z.F p) st tr e hkk (z.cur.st : Int) (ptrO z.cur.upb) (.slice ao (z.cur.fr.length + 1) cap) k hw.curOk 0) (r := fun w => Reads.any (by (repeat (first | exact Take.head | apply Take.tail))) E.rexcl .nil) (k := ?_); intro s hs; (try conv => rhs; simp only [List.cons_append, List.nil_append]))
      obtain ⟨t1, t2⟩ := pushed hw hs
      repeat (first | refine go (k := ?_) | (refine goB (k := ?_); intro b) | (refine goA (k := ?_); intro ao cap))
      refine End.round_ hK (i + 1, s) ?_ ?_
      · refine ⟨hin, t1, ?_⟩
        rw [pushN_last, ← h2]
        exact t2
      · simp only; omega
    · obtain rfl : i = n := by omega
      repeat (first | refine go (k := ?_) | (refine goB (k := ?_); intro b) | (refine goA (k := ?_); intro ao cap))
      subst hz1
      (refine End.done0'_ (SL.put { z with cur := { z.cur with fo := ao, fc := cap, fr := z.cur.fr ++ [⟨u, 0, bse⟩] } } (k, st, tr, e)) (ht := by (repeat (first | exact Takes.nil | exact Take.head | (refine Take.blkEq ?_; (focus (first | rfl | (simp; done) | (simp; omega) | omega | (simp [*]; done)))) | (refine Take.arrEq ?_ ?_; (focus (first | rfl | (simp; done) | (simp; omega) | omega | (simp [*]; done))); (focus (first | rfl | (simp; done) | (simp; omega) | omega | (simp [*]; done)))) | apply Take.tail | apply Takes.cons))) (hp := ?_))
      refine ⟨hw, h2.trans ?_⟩
      unfold Vm.callU
      rw [if_neg (fun h => h40 (hcl.symm.trans h))]
      have e1 : (Vm.unt p.m.mdl u).locals.length - (Vm.unt p.m.mdl u).params.toNat = i := by unfold Vm.unt; rw [ML.unit_at]; exact hn.symm
      have e2 : (Vm.cur z.tk).ws.length - (Vm.unt p.m.mdl u).params.toNat = bse := by rw [show (Vm.cur z.tk).ws.length = z.cur.sk.live from hz.wsLen]; unfold Vm.unt; rw [ML.unit_at]; exact hbse.symm
      show _ = Vm.pushN E.V _ (Vm.setCur z.tk { Vm.cur z.tk with fr := (Vm.cur z.tk).fr ++ [⟨u, 0, (Vm.cur z.tk).ws.length - (Vm.unt p.m.mdl u).params.toNat⟩] }, E.abs z.e)
      rw [e1, e2, hz.cur]
      unfold SL.two
      rw [SL.tk_cur]
      rfl
end Go.Proofs.Ytfeajpghabjaaaa.Vw

/- Another thread goes on. -/
namespace Go.Proofs.Ytfeajpghabjaaaa.Vw
open Go.RowKit Go.Proofs.Ytfeajpghabjaaaa.Img
set_option linter.unusedVariables false
set_option linter.unusedSimpArgs false
theorem Run.imp' {P : Program} {ops : Array Oper} {Q : Exit → Act → World → Prop} {N : Nat} {l : List Oper} {E : Env} {L L' : List Chunk} (t : ∀ w, Mem w L → Mem w L') (h : Run P ops Q N l E L') : Run P ops Q N l E L := fun a w hs hm => h a w hs (t w hm)
theorem getD_eraseIdx_perm {α : Type} [Inhabited α] : ∀ {l : List α} {k : Nat}, k < l.length → l.Perm (l.getD k default :: l.eraseIdx k)
  | a :: l, 0, _ => List.Perm.refl _
  | a :: l, k + 1, h => by
    have ih := getD_eraseIdx_perm (l := l) (k := k) (by simpa using h)
    exact (List.Perm.cons a ih).trans (List.Perm.swap _ _ _)
theorem flat_perm (l : List CoL) {k : Nat} (h : k < l.length) : (l.flatMap coM).Perm (coM (l.getD k default) ++ (l.eraseIdx k).flatMap coM) := by
  have := (getD_eraseIdx_perm h).flatMap_right coM
  simpa only [List.flatMap_cons] using this
theorem eraseIdx_set_same {α : Type} (l : List α) (k : Nat) (a : α) : (l.set k a).eraseIdx k = l.eraseIdx k := List.eraseIdx_set_eq
theorem getD_set_ne {l : List CoL} {j k : Nat} {c : CoL} (h : j ≠ k) : (l.set j c).getD k default = l.getD k default := by
  simp only [List.getD_eq_getElem?_getD]
  rw [List.getElem?_set_ne h]
theorem getD_set_eq {l : List CoL} {k : Nat} {c : CoL} (h : k < l.length) : (l.set k c).getD k default = c := by
  simp only [List.getD_eq_getElem?_getD]
  rw [List.getElem?_set_self h]; rfl
theorem coM_excl (c : CoL) : ∀ d ∈ coM c, d.excl = true := by
  unfold coM
  simp [blk_excl, arr_excl]
/-- thread c goes into the bag, thread k comes out -/
theorem Mem.swap {w : World} {L L' F : List Chunk} {l : List CoL} {c : CoL} {j k : Nat} (h : Mem w L) (t : Take (bagM (l.eraseIdx j)) L L') (t2 : Takes (coM c) L' F) (hj : j < l.length) (hk : k < l.length) (hne : j ≠ k) : Mem w (coM (l.getD k default) ++ (bagM ((l.set j c).eraseIdx k) :: F)) := by
  have h1 : Mem w (bag ((l.set j c).flatMap coM) :: F) := by
    refine Mem.bagIn (es := (l.eraseIdx j).flatMap coM) (ds := coM c) h t t2 ?_ (coM_excl c)
    have := flat_perm (l.set j c) (k := j) (by simpa using hj)
    rwa [getD_set_eq hj, eraseIdx_set_same] at this
  have h2 := Mem.bagOut (ds := coM (l.getD k default)) (es := ((l.set j c).eraseIdx k).flatMap coM) h1 .head (by
    have := flat_perm (l.set j c) (k := k) (by simpa using hk)
    rwa [getD_set_ne hne] at this)
  exact h2
section
variable {E : EnvM} {s : SL E}
/-- thread j at work; what was at work is c -/
abbrev SL.go (s : SL E) (c : CoL) (j : Nat) (d : CoL) : SL E := { s with oth := s.oth.set s.now c, now := j, cur := d }
theorem SL.go_all (s : SL E) (c d : CoL) (j : Nat) : (s.go c j d).all = (s.oth.set s.now c).set j d := rfl
theorem SL.Wf.oth (h : s.Wf) {j : Nat} (hj : s.now ≠ j) : s.all.getD j default = s.oth.getD j default := getD_set_ne hj
theorem SL.go_tk (s : SL E) (c d : CoL) (j : Nat) : (s.go c j d).tk = { Vm.setC (Vm.setCur s.tk c.abs) j d.abs with now := j } := by
  unfold SL.tk Vm.setCur Vm.setC SL.all
  simp only [List.map_set, List.set_set]
theorem SL.Wf.go (h : s.Wf) {c d : CoL} {j : Nat} (hj : j < s.oth.length) (hne : s.now ≠ j) (hc : c.cb = s.cur.cb ∧ c.sk.Ok ∧ c.upb = c.up.map (fun j => s.bs.getD j 0) ∧ ∀ i, c.up = some i → i < s.oth.length)
    (hd : d.cb = (s.oth.getD j default).cb ∧ d.sk.Ok ∧ d.upb = d.up.map (fun j => s.bs.getD j 0) ∧ ∀ i, d.up = some i → i < s.oth.length) : (s.go c j d).Wf := by
  have hmem : ∀ x ∈ (s.go c j d).all, x = c ∨ x = d ∨ x ∈ s.all := fun x hx => by
    rw [SL.go_all] at hx
    obtain ⟨i, hi, e⟩ := List.mem_iff_getElem.1 hx
    rw [List.getElem_set] at e
    split at e
    · exact .inr (.inl e.symm)
    rw [List.getElem_set] at e
    split at e
    · exact .inl e.symm
    · rename_i hne'
      right; right
      rw [← e]
      unfold SL.all
      refine List.mem_iff_getElem.2 ⟨i, by simpa using hi, ?_⟩
      rw [List.getElem_set_ne hne']
  refine ⟨by simpa using hj, by simpa using h.len, by simpa using h.few, fun i hi => ?_, fun x hx => ?_, fun x hx i hi => ?_, fun x hx => ?_, h.env⟩
  · have hi : i < s.oth.length := by simpa using hi
    rw [SL.go_all]
    by_cases hij : j = i
    · subst hij
      rw [getD_set_eq (by simpa using hi), hd.1, ← h.at_ j hi, h.oth hne]
    · rw [getD_set_ne hij]
      by_cases hin : s.now = i
      · subst hin
        rw [getD_set_eq hi, hc.1, ← h.at_ _ hi, h.curGet]
      · rw [getD_set_ne hin, ← h.at_ i hi, h.oth hin]
  · rcases hmem x hx with rfl | rfl | hx
    · exact hc.2.2.1
    · exact hd.2.2.1
    · exact h.up x hx
  · show i < (s.oth.set _ _).length
    rw [List.length_set]
    rcases hmem x hx with rfl | rfl | hx
    · exact hc.2.2.2 i hi
    · exact hd.2.2.2 i hi
    · exact h.upl x hx i hi
  · rcases hmem x hx with rfl | rfl | hx
    · exact hc.2.1
    · exact hd.2.1
    · exact h.sk x hx
theorem SL.go_tk' (s : SL E) (c : CoL) {j : Nat} (hj : j < s.oth.length) (hne : s.now ≠ j) : (s.go c j (s.oth.getD j default)).tk = { Vm.setCur s.tk c.abs with now := j } := by
  unfold SL.tk Vm.setCur Vm.setC
  rw [SL.go_all]
  have e : (s.oth.set s.now c).set j (s.oth.getD j default) = s.oth.set s.now c := by
    refine List.ext_getElem (by simp) fun i h1 h2 => ?_
    rw [List.getElem_set]
    split
    · rename_i h
      subst h
      rw [List.getElem_set_ne hne, List.getD_eq_getElem?_getD, List.getElem?_eq_getElem hj]
      rfl
    · rfl
  rw [e]
  unfold SL.all
  simp only [List.map_set, List.set_set]
theorem Mem.swap1 {w : World} {L L' F : List Chunk} {l : List CoL} (c : CoL) {j k : Nat} (h : Mem w L) (t : Take (bagM (l.eraseIdx j)) L L') (t2 : Takes (coM c) L' F) (hj : j < l.length) (hk : k < l.length) (hne : j ≠ k) :
    Mem w (ccM (l.getD k default) :: frM (l.getD k default) :: blk (l.getD k default).sk.sb (skC (l.getD k default).sk) 151 :: arr (some ⟨(l.getD k default).sk.lb, 0, none⟩) (l.getD k default).sk.l.length (l.getD k default).sk.l.length 2 i64c (l.getD k default).sk.l :: bagM ((l.set j c).eraseIdx k) :: F) := Mem.swap h t t2 hj hk hne
theorem Mem.back1 {w : World} {L L' F : List Chunk} {l : List CoL} (c : CoL) {j k : Nat} (h : Mem w L) (t : Take (bagM ((l.set j c).eraseIdx k)) L L') (t2 : Takes (coM (l.getD k default)) L' F) (hj : j < l.length) (hk : k < l.length) (hne : j ≠ k) :
    Mem w (ccM c :: frM c :: blk c.sk.sb (skC c.sk) 151 :: arr (some ⟨c.sk.lb, 0, none⟩) c.sk.l.length c.sk.l.length 2 i64c c.sk.l :: bagM (l.eraseIdx j) :: F) := by
  have h1 := Mem.swap1 (l := l.set j c) (l.getD k default) h t t2 (by simpa using hk) (by simpa using hj) (fun e => hne e.symm)
  have e2 : ((l.set j c).set k (l.getD k default)) = l.set j c := by
    refine List.ext_getElem (by simp) fun i h1 h2 => ?_
    rw [List.getElem_set]
    split
    · rename_i h
      subst h
      rw [List.getElem_set_ne hne, List.getD_eq_getElem?_getD, List.getElem?_eq_getElem hk]
      rfl
    · rfl
  rw [getD_set_eq hj, e2, eraseIdx_set_same] at h1
  exact h1
theorem SL.Wf.bsGet (h : s.Wf) {j : Nat} (hj : j < s.oth.length) (hne : s.now ≠ j) : s.bs.getD j 0 = (s.oth.getD j default).cb := by rw [← h.at_ j hj, h.oth hne]
theorem SL.Wf.othMem (h : s.Wf) {j : Nat} (hj : j < s.oth.length) (hne : s.now ≠ j) : s.oth.getD j default ∈ s.all := by
  rw [← h.oth hne]
  exact getD_mem (by rw [s.allLen]; exact hj)
end
end Go.Proofs.Ytfeajpghabjaaaa.Vw
