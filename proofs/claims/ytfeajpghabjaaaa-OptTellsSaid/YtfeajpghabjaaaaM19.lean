/- verify's flow, walked: an instruction. -/
import Derived.Test.YtfeajpghabjaaaaM18
namespace Go.Proofs.Ytfeajpghabjaaaa.Vw
open Go.RowKit Go.Proofs.Ytfeajpghabjaaaa.Img
set_option linter.unusedVariables false
set_option linter.unusedSimpArgs false
set_option linter.unusedSectionVars false
attribute [local irreducible] Run Cod End OpT Still RunQ RunS RunT Fn PutOk

section
variable (fb cb ab mb : Nat) (m : ML) (r : FR) (z : FS) (q : Nat) (hq : q < m.us.length) (hl : z.st.length ≤ 300) (hst : ∀ t ∈ z.st, ImgM.In64 t)
/-- what 'step' does -/
abbrev StepFn (i : ImgM.Ins) : Prop := Fn Try.prog 42 #[ptr fb, insV i] [md m] (fa fb cb ab (up m q) r z ++ ck cb mb m) (σ := FR × FS) (fun s => flow s.1 s.2 = (Ver.step m.mdl (m.us.getD q default).u i (flow r z)).2) (fun _ => .bool (Ver.step m.mdl (m.us.getD q default).u i (flow r z)).1) (fun s => fa fb cb ab (up m q) s.1 s.2 ++ ck cb mb m)
include hl hst hq

set_option maxRecDepth 100000 in
theorem step_1 (a n : Int) : StepFn fb cb ab mb m r z q ⟨1, a, n⟩ := by
  obtain ⟨F, hF⟩ : ∃ F, F = Ver.push 1 (flow r z) := ⟨_, rfl⟩
  have e : Ver.step m.mdl (m.us.getD q default).u ⟨1, a, n⟩ (flow r z) = (true, F) := by
    unfold Ver.step; dsimp only; (repeat rw [if_neg (by omega)]); rw [if_pos (by omega)]; rw [hF]
  unfold StepFn
  rw [e]
  clear e
  refine Fn.enter (args := [ptr fb, .agg #[.int .i64 1, .int .i64 a, .int .i64 n]]) Try.func42 rfl _ Try.ntmps42 rfl (by simp [rd_excl, md_excl]) (fun w S => ?_)
  (try conv => rhs; simp only [List.cons_append, List.nil_append])
  (try conv => rhs; simp only [List.cons_append, List.nil_append])
  repeat (first | refine go (k := ?_) | (refine goB (k := ?_); intro b) | (refine goA (k := ?_); intro ao cap))
  ((first | (apply Run.op; exact rfl) | refine Run.yes_ (h := ?_)); refine OpT.call0_ (spec := push_is fb cb ab (up m q) r z 1 (by omega)) (t := by (repeat (first | exact Takes.nil | exact Take.head | (refine Take.blkEq ?_; (focus (first | rfl | (simp; done) | (simp; omega) | omega | (simp [*]; done)))) | (refine Take.arrEq ?_ ?_; (focus (first | rfl | (simp; done) | (simp; omega) | omega | (simp [*]; done))); (focus (first | rfl | (simp; done) | (simp; omega) | omega | (simp [*]; done)))) | apply Take.tail | apply Takes.cons))) (k := ?_); intro s hs; (try conv => rhs; simp only [List.cons_append, List.nil_append]))
  repeat (first | refine go (k := ?_) | (refine goB (k := ?_); intro b) | (refine goA (k := ?_); intro ao cap))
  (refine End.done1_ ((r, s)) (he := by (first | exact rfl | (refine congrArg (Value.int _) ?_; omega) | (refine congrArg (Value.int _) ?_; dsimp only; omega))) (hp := ?_))
  simp only
  rw [hF, hs]

set_option maxRecDepth 100000 in
theorem step_2 (a n : Int) : StepFn fb cb ab mb m r z q ⟨2, a, n⟩ := by
  obtain ⟨F, hF⟩ : ∃ F, F = Ver.push 2 (flow r z) := ⟨_, rfl⟩
  have e : Ver.step m.mdl (m.us.getD q default).u ⟨2, a, n⟩ (flow r z) = (true, F) := by
    unfold Ver.step; dsimp only; (repeat rw [if_neg (by omega)]); rw [if_pos (by omega)]; rw [hF]
  unfold StepFn
  rw [e]
  clear e
  refine Fn.enter (args := [ptr fb, .agg #[.int .i64 2, .int .i64 a, .int .i64 n]]) Try.func42 rfl _ Try.ntmps42 rfl (by simp [rd_excl, md_excl]) (fun w S => ?_)
  (try conv => rhs; simp only [List.cons_append, List.nil_append])
  (try conv => rhs; simp only [List.cons_append, List.nil_append])
  repeat (first | refine go (k := ?_) | (refine goB (k := ?_); intro b) | (refine goA (k := ?_); intro ao cap))
  ((first | (apply Run.op; exact rfl) | refine Run.yes_ (h := ?_)); refine OpT.call0_ (spec := push_is fb cb ab (up m q) r z 2 (by omega)) (t := by (repeat (first | exact Takes.nil | exact Take.head | (refine Take.blkEq ?_; (focus (first | rfl | (simp; done) | (simp; omega) | omega | (simp [*]; done)))) | (refine Take.arrEq ?_ ?_; (focus (first | rfl | (simp; done) | (simp; omega) | omega | (simp [*]; done))); (focus (first | rfl | (simp; done) | (simp; omega) | omega | (simp [*]; done)))) | apply Take.tail | apply Takes.cons))) (k := ?_); intro s hs; (try conv => rhs; simp only [List.cons_append, List.nil_append]))
  repeat (first | refine go (k := ?_) | (refine goB (k := ?_); intro b) | (refine goA (k := ?_); intro ao cap))
  (refine End.done1_ ((r, s)) (he := by (first | exact rfl | (refine congrArg (Value.int _) ?_; omega) | (refine congrArg (Value.int _) ?_; dsimp only; omega))) (hp := ?_))
  simp only
  rw [hF, hs]

set_option maxRecDepth 100000 in
theorem step_3 (k : Nat) (n : Int) (hk : k < (m.us.getD q default).u.locals.length) (hh : r.has.length = (m.us.getD q default).u.locals.length) : StepFn fb cb ab mb m r z q ⟨3, k, n⟩ := by
  obtain ⟨F, hF⟩ : ∃ F, F = Ver.push ((m.us.getD q default).u.locals.getD k default) (if r.has.getD k default then flow r z else Ver.fail 11 (flow r z)) := ⟨_, rfl⟩
  have e : Ver.step m.mdl (m.us.getD q default).u ⟨3, k, n⟩ (flow r z) = (true, F) := by
    unfold Ver.step; dsimp only; (repeat rw [if_neg (by omega)]); rw [if_pos (by omega)]; rw [Int.toNat_natCast]; rw [hF]; rfl
  unfold StepFn
  rw [e]
  clear e
  refine Fn.enter (args := [ptr fb, .agg #[.int .i64 3, .int .i64 k, .int .i64 n]]) Try.func42 rfl _ Try.ntmps42 rfl (by simp [rd_excl, md_excl]) (fun w S => ?_)
  (try conv => rhs; simp only [List.cons_append, List.nil_append])
  (try conv => rhs; simp only [List.cons_append, List.nil_append])
  cases hb : r.has.getD k default with
  | true =>
    rw [hb, if_pos rfl] at hF
    repeat (first | refine go (k := ?_) | (refine goB (k := ?_); intro b) | (refine goA (k := ?_); intro ao cap))
    ((first | (apply Run.op; exact rfl) | refine Run.yes_ (h := ?_)); refine OpT.call0_ (spec := push_is fb cb ab (up m q) r z ((m.us.getD q default).u.locals.getD k default) (by omega)) (t := by (repeat (first | exact Takes.nil | exact Take.head | (refine Take.blkEq ?_; (focus (first | rfl | (simp; done) | (simp; omega) | omega | (simp [*]; done)))) | (refine Take.arrEq ?_ ?_; (focus (first | rfl | (simp; done) | (simp; omega) | omega | (simp [*]; done))); (focus (first | rfl | (simp; done) | (simp; omega) | omega | (simp [*]; done)))) | apply Take.tail | apply Takes.cons))) (k := ?_); intro s hs; (try conv => rhs; simp only [List.cons_append, List.nil_append]))
    repeat (first | refine go (k := ?_) | (refine goB (k := ?_); intro b) | (refine goA (k := ?_); intro ao cap))
    (refine End.done1_ ((r, s)) (he := by (first | exact rfl | (refine congrArg (Value.int _) ?_; omega) | (refine congrArg (Value.int _) ?_; dsimp only; omega))) (hp := ?_))
    exact hs.trans hF.symm
  | false =>
    rw [hb, if_neg (by decide)] at hF
    repeat (first | refine go (k := ?_) | (refine goB (k := ?_); intro b) | (refine goA (k := ?_); intro ao cap))
    ((first | (apply Run.op; exact rfl) | refine Run.yes_ (h := ?_)); refine OpT.call0_ (spec := fail_is fb cb ab (up m q) r z 11) (t := by (repeat (first | exact Takes.nil | exact Take.head | (refine Take.blkEq ?_; (focus (first | rfl | (simp; done) | (simp; omega) | omega | (simp [*]; done)))) | (refine Take.arrEq ?_ ?_; (focus (first | rfl | (simp; done) | (simp; omega) | omega | (simp [*]; done))); (focus (first | rfl | (simp; done) | (simp; omega) | omega | (simp [*]; done)))) | apply Take.tail | apply Takes.cons))) (k := ?_); intro s hs; (try conv => rhs; simp only [List.cons_append, List.nil_append]))
    repeat (first | refine go (k := ?_) | (refine goB (k := ?_); intro b) | (refine goA (k := ?_); intro ao cap))
    ((first | (apply Run.op; exact rfl) | refine Run.yes_ (h := ?_)); refine OpT.call0_ (spec := push_is fb cb ab (up m q) r (failE 11 z) ((m.us.getD q default).u.locals.getD k default) (by show z.st.length ≤ 1000; omega)) (t := by (repeat (first | exact Takes.nil | exact Take.head | (refine Take.blkEq ?_; (focus (first | rfl | (simp; done) | (simp; omega) | omega | (simp [*]; done)))) | (refine Take.arrEq ?_ ?_; (focus (first | rfl | (simp; done) | (simp; omega) | omega | (simp [*]; done))); (focus (first | rfl | (simp; done) | (simp; omega) | omega | (simp [*]; done)))) | apply Take.tail | apply Takes.cons))) (k := ?_); intro s hs; (try conv => rhs; simp only [List.cons_append, List.nil_append]))
    repeat (first | refine go (k := ?_) | (refine goB (k := ?_); intro b) | (refine goA (k := ?_); intro ao cap))
    (refine End.done1_ ((r, s)) (he := by (first | exact rfl | (refine congrArg (Value.int _) ?_; omega) | (refine congrArg (Value.int _) ?_; dsimp only; omega))) (hp := ?_))
    rw [hF, ← flow_fail]
    exact hs

set_option maxRecDepth 100000 in
theorem step_4 (k : Nat) (n : Int) (hk : k < (m.us.getD q default).u.locals.length) (hh : r.has.length = (m.us.getD q default).u.locals.length) : StepFn fb cb ab mb m r z q ⟨4, k, n⟩ := by
  obtain ⟨F, hF⟩ : ∃ F, F = { Ver.want [(m.us.getD q default).u.locals.getD k default] (flow r z) with has := (Ver.want [(m.us.getD q default).u.locals.getD k default] (flow r z)).has.set k true } := ⟨_, rfl⟩
  have e : Ver.step m.mdl (m.us.getD q default).u ⟨4, k, n⟩ (flow r z) = (true, F) := by
    unfold Ver.step; dsimp only; (repeat rw [if_neg (by omega)]); rw [if_pos (by omega)]; rw [Int.toNat_natCast]; rw [hF]; rfl
  unfold StepFn
  rw [e]
  clear e
  refine Fn.enter (args := [ptr fb, .agg #[.int .i64 4, .int .i64 k, .int .i64 n]]) Try.func42 rfl _ Try.ntmps42 rfl (by simp [rd_excl, md_excl]) (fun w S => ?_)
  (try conv => rhs; simp only [List.cons_append, List.nil_append])
  (try conv => rhs; simp only [List.cons_append, List.nil_append])
  repeat (first | refine go (k := ?_) | (refine goB (k := ?_); intro b) | (refine goA (k := ?_); intro ao cap))
  apply Cod.draw 13 ([md m, blk fb (fcells cb ab (up m q) r z) 93, blk b [.int .i64 4, .int .i64 (k : Int), .int .i64 n] 57]) (by kernel_rfl) 14 rfl
  refine RunT.takeR_ 0 (h := ?_)
  refine RunT.takeR_ 1 (h := ?_)
  refine RunT.takeR_ 2 (h := ?_)
  refine RunT.takeR_ 3 (h := ?_)
  refine RunT.takeR_ 4 (h := ?_)
  refine RunT.takeR_ 5 (h := ?_)
  refine RunT.takeR_ 6 (h := ?_)
  refine RunT.takeR_ 7 (h := ?_)
  refine RunT.takeR_ 8 (h := ?_)
  refine RunT.takeR_ 9 (h := ?_)
  refine RunT.takeR_ 10 (h := ?_)
  refine RunT.takeR_ 11 (h := ?_)
  (refine RunT.one_ 12 (h := ?_); (first | refine OpT.val_ (k := ?_) | (refine OpT.alloc_ (k := ?_); intro b) | (refine OpT.box_ (k := ?_); intro b) | refine OpT.store_ (k := ?_) | (refine OpT.buildSlice_ (k := ?_); intro b) | (refine OpT.buildSlice0_ (k := ?_); intro b) | (refine OpT.append1_ (k := ?_); intro ao cap) | (refine OpT.cutA0_ (k := ?_); intro ao cap) | (refine OpT.cutR0_ (k := ?_); intro ao cap) | (refine OpT.cutA1_ (k := ?_); intro ao cap) | (refine OpT.cutA_ (k := ?_); intro ao cap) | (refine OpT.cutR_ (k := ?_); intro ao cap)); refine And.intro gud ?_)
  (refine RunT.one_ 13 (h := ?_); refine OpT.call0_ (spec := want_is fb cb ab (up m q) r z _ 1 _ [(m.us.getD q default).u.locals.getD k default] rfl (by omega) (by omega)) (k := ?_); intro s hs; refine And.intro gud ?_; (try conv => rhs; simp only [List.cons_append, List.nil_append]))
  (apply RunT.done; kernel_rfl)
  repeat (first | refine go (k := ?_) | (refine goB (k := ?_); intro b) | (refine goA (k := ?_); intro ao cap))
  apply Run.op (by exact rfl)
  refine OpT.storeE_ (a' := true) (k := ?_)
  repeat (first | refine go (k := ?_) | (refine goB (k := ?_); intro b) | (refine goA (k := ?_); intro ao cap))
  (refine End.done1_ (({ r with has := r.has.set k true }, s)) (he := by (first | exact rfl | (refine congrArg (Value.int _) ?_; omega) | (refine congrArg (Value.int _) ?_; dsimp only; omega))) (ht := by (repeat (first | exact Takes.nil | exact Take.head | (refine Take.blkEq ?_; (focus (first | rfl | (simp; done) | (simp; omega) | omega | (simp [*]; done)))) | (refine Take.arrEq ?_ ?_; (focus (first | rfl | (simp; done) | (simp; omega) | omega | (simp [*]; done))); (focus (first | rfl | (simp; done) | (simp; omega) | omega | (simp [*]; done)))) | apply Take.tail | apply Takes.cons))) (hp := ?_))
  simp only
  have h1 := congrArg Ver.Flow.stack hs
  have h2 := congrArg Ver.Flow.err hs
  have h3 := congrArg Ver.Flow.has hs
  have h4 := congrArg Ver.Flow.at_ hs
  have h5 := congrArg Ver.Flow.todo hs
  rw [hF, ← hs]
  rfl

set_option maxRecDepth 100000 in
theorem step_5 (a n : Int) : StepFn fb cb ab mb m r z q ⟨5, a, n⟩ := by
  obtain ⟨F, hF⟩ : ∃ F, F = (Ver.pop (flow r z)).2 := ⟨_, rfl⟩
  have e : Ver.step m.mdl (m.us.getD q default).u ⟨5, a, n⟩ (flow r z) = (true, F) := by
    unfold Ver.step; dsimp only; (repeat rw [if_neg (by omega)]); rw [if_pos (by omega)]; rw [hF]
  unfold StepFn
  rw [e]
  clear e
  refine Fn.enter (args := [ptr fb, .agg #[.int .i64 5, .int .i64 a, .int .i64 n]]) Try.func42 rfl _ Try.ntmps42 rfl (by simp [rd_excl, md_excl]) (fun w S => ?_)
  (try conv => rhs; simp only [List.cons_append, List.nil_append])
  (try conv => rhs; simp only [List.cons_append, List.nil_append])
  repeat (first | refine go (k := ?_) | (refine goB (k := ?_); intro b) | (refine goA (k := ?_); intro ao cap))
  ((first | (apply Run.op; exact rfl) | refine Run.yes_ (h := ?_)); refine OpT.call0_ (spec := pop_is fb cb ab (up m q) r z (by omega)) (t := by (repeat (first | exact Takes.nil | exact Take.head | (refine Take.blkEq ?_; (focus (first | rfl | (simp; done) | (simp; omega) | omega | (simp [*]; done)))) | (refine Take.arrEq ?_ ?_; (focus (first | rfl | (simp; done) | (simp; omega) | omega | (simp [*]; done))); (focus (first | rfl | (simp; done) | (simp; omega) | omega | (simp [*]; done)))) | apply Take.tail | apply Takes.cons))) (k := ?_); intro s hs; (try conv => rhs; simp only [List.cons_append, List.nil_append]))
  repeat (first | refine go (k := ?_) | (refine goB (k := ?_); intro b) | (refine goA (k := ?_); intro ao cap))
  (refine End.done1_ ((r, s)) (he := by (first | exact rfl | (refine congrArg (Value.int _) ?_; omega) | (refine congrArg (Value.int _) ?_; dsimp only; omega))) (hp := ?_))
  simp only
  rw [hF, hs]

set_option maxRecDepth 100000 in
theorem step_6 (a n : Int) : StepFn fb cb ab mb m r z q ⟨6, a, n⟩ := by
  obtain ⟨F, hF⟩ : ∃ F, F = Ver.push 1 (Ver.want [1] (flow r z)) := ⟨_, rfl⟩
  have e : Ver.step m.mdl (m.us.getD q default).u ⟨6, a, n⟩ (flow r z) = (true, F) := by
    unfold Ver.step; dsimp only; (repeat rw [if_neg (by omega)]); rw [if_pos (by omega)]; rw [hF]
  unfold StepFn
  rw [e]
  clear e
  refine Fn.enter (args := [ptr fb, .agg #[.int .i64 6, .int .i64 a, .int .i64 n]]) Try.func42 rfl _ Try.ntmps42 rfl (by simp [rd_excl, md_excl]) (fun w S => ?_)
  (try conv => rhs; simp only [List.cons_append, List.nil_append])
  (try conv => rhs; simp only [List.cons_append, List.nil_append])
  repeat (first | refine go (k := ?_) | (refine goB (k := ?_); intro b) | (refine goA (k := ?_); intro ao cap))
  ((first | (apply Run.op; exact rfl) | refine Run.yes_ (h := ?_)); refine OpT.call0_ (spec := want_is fb cb ab (up m q) r z _ 1 _ [1] rfl (by omega) (by omega)) (t := by (repeat (first | exact Takes.nil | exact Take.head | (refine Take.blkEq ?_; (focus (first | rfl | (simp; done) | (simp; omega) | omega | (simp [*]; done)))) | (refine Take.arrEq ?_ ?_; (focus (first | rfl | (simp; done) | (simp; omega) | omega | (simp [*]; done))); (focus (first | rfl | (simp; done) | (simp; omega) | omega | (simp [*]; done)))) | apply Take.tail | apply Takes.cons))) (k := ?_); intro s hs; (try conv => rhs; simp only [List.cons_append, List.nil_append]))
  obtain ⟨y, rfl⟩ : ∃ y, y = s := ⟨_, rfl⟩
  have hy := hs
  have hyl : y.st.length ≤ 300 := len_of hs (Nat.le_trans (want_le _ _) (show (flow r z).stack.length ≤ 300 from hl))
  clear hs
  repeat (first | refine go (k := ?_) | (refine goB (k := ?_); intro b) | (refine goA (k := ?_); intro ao cap))
  ((first | (apply Run.op; exact rfl) | refine Run.yes_ (h := ?_)); refine OpT.call0_ (spec := push_is fb cb ab (up m q) r y 1 (by omega)) (t := by (repeat (first | exact Takes.nil | exact Take.head | (refine Take.blkEq ?_; (focus (first | rfl | (simp; done) | (simp; omega) | omega | (simp [*]; done)))) | (refine Take.arrEq ?_ ?_; (focus (first | rfl | (simp; done) | (simp; omega) | omega | (simp [*]; done))); (focus (first | rfl | (simp; done) | (simp; omega) | omega | (simp [*]; done)))) | apply Take.tail | apply Takes.cons))) (k := ?_); intro s hs; (try conv => rhs; simp only [List.cons_append, List.nil_append]))
  repeat (first | refine go (k := ?_) | (refine goB (k := ?_); intro b) | (refine goA (k := ?_); intro ao cap))
  (refine End.done1_ ((r, s)) (he := by (first | exact rfl | (refine congrArg (Value.int _) ?_; omega) | (refine congrArg (Value.int _) ?_; dsimp only; omega))) (hp := ?_))
  simp only
  rw [hF, hs, hy]

set_option maxRecDepth 100000 in
theorem step_7 (a n : Int) : StepFn fb cb ab mb m r z q ⟨7, a, n⟩ := by
  obtain ⟨F, hF⟩ : ∃ F, F = Ver.push 2 (Ver.want [2] (flow r z)) := ⟨_, rfl⟩
  have e : Ver.step m.mdl (m.us.getD q default).u ⟨7, a, n⟩ (flow r z) = (true, F) := by
    unfold Ver.step; dsimp only; (repeat rw [if_neg (by omega)]); rw [if_pos (by omega)]; rw [hF]
  unfold StepFn
  rw [e]
  clear e
  refine Fn.enter (args := [ptr fb, .agg #[.int .i64 7, .int .i64 a, .int .i64 n]]) Try.func42 rfl _ Try.ntmps42 rfl (by simp [rd_excl, md_excl]) (fun w S => ?_)
  (try conv => rhs; simp only [List.cons_append, List.nil_append])
  (try conv => rhs; simp only [List.cons_append, List.nil_append])
  repeat (first | refine go (k := ?_) | (refine goB (k := ?_); intro b) | (refine goA (k := ?_); intro ao cap))
  ((first | (apply Run.op; exact rfl) | refine Run.yes_ (h := ?_)); refine OpT.call0_ (spec := want_is fb cb ab (up m q) r z _ 1 _ [2] rfl (by omega) (by omega)) (t := by (repeat (first | exact Takes.nil | exact Take.head | (refine Take.blkEq ?_; (focus (first | rfl | (simp; done) | (simp; omega) | omega | (simp [*]; done)))) | (refine Take.arrEq ?_ ?_; (focus (first | rfl | (simp; done) | (simp; omega) | omega | (simp [*]; done))); (focus (first | rfl | (simp; done) | (simp; omega) | omega | (simp [*]; done)))) | apply Take.tail | apply Takes.cons))) (k := ?_); intro s hs; (try conv => rhs; simp only [List.cons_append, List.nil_append]))
  obtain ⟨y, rfl⟩ : ∃ y, y = s := ⟨_, rfl⟩
  have hy := hs
  have hyl : y.st.length ≤ 300 := len_of hs (Nat.le_trans (want_le _ _) (show (flow r z).stack.length ≤ 300 from hl))
  clear hs
  repeat (first | refine go (k := ?_) | (refine goB (k := ?_); intro b) | (refine goA (k := ?_); intro ao cap))
  ((first | (apply Run.op; exact rfl) | refine Run.yes_ (h := ?_)); refine OpT.call0_ (spec := push_is fb cb ab (up m q) r y 2 (by omega)) (t := by (repeat (first | exact Takes.nil | exact Take.head | (refine Take.blkEq ?_; (focus (first | rfl | (simp; done) | (simp; omega) | omega | (simp [*]; done)))) | (refine Take.arrEq ?_ ?_; (focus (first | rfl | (simp; done) | (simp; omega) | omega | (simp [*]; done))); (focus (first | rfl | (simp; done) | (simp; omega) | omega | (simp [*]; done)))) | apply Take.tail | apply Takes.cons))) (k := ?_); intro s hs; (try conv => rhs; simp only [List.cons_append, List.nil_append]))
  repeat (first | refine go (k := ?_) | (refine goB (k := ?_); intro b) | (refine goA (k := ?_); intro ao cap))
  (refine End.done1_ ((r, s)) (he := by (first | exact rfl | (refine congrArg (Value.int _) ?_; omega) | (refine congrArg (Value.int _) ?_; dsimp only; omega))) (hp := ?_))
  simp only
  rw [hF, hs, hy]

set_option maxRecDepth 100000 in
theorem step_8 (op a n : Int) (hop : 8 ≤ op ∧ op ≤ 12) : StepFn fb cb ab mb m r z q ⟨op, a, n⟩ := by
  obtain ⟨F, hF⟩ : ∃ F, F = Ver.push 1 (Ver.want [1, 1] (flow r z)) := ⟨_, rfl⟩
  have e : Ver.step m.mdl (m.us.getD q default).u ⟨op, a, n⟩ (flow r z) = (true, F) := by
    unfold Ver.step; dsimp only; (repeat rw [if_neg (by omega)]); rw [if_pos (by omega)]; rw [hF]
  unfold StepFn
  rw [e]
  clear e
  refine Fn.enter (args := [ptr fb, .agg #[.int .i64 op, .int .i64 a, .int .i64 n]]) Try.func42 rfl _ Try.ntmps42 rfl (by simp [rd_excl, md_excl]) (fun w S => ?_)
  (try conv => rhs; simp only [List.cons_append, List.nil_append])
  (try conv => rhs; simp only [List.cons_append, List.nil_append])
  repeat (first | refine go (k := ?_) | (refine goB (k := ?_); intro b) | (refine goA (k := ?_); intro ao cap))
  ((first | (apply Run.op; exact rfl) | refine Run.yes_ (h := ?_)); refine OpT.call0_ (spec := want_is fb cb ab (up m q) r z _ 2 _ [1, 1] rfl (by omega) (by omega)) (t := by (repeat (first | exact Takes.nil | exact Take.head | (refine Take.blkEq ?_; (focus (first | rfl | (simp; done) | (simp; omega) | omega | (simp [*]; done)))) | (refine Take.arrEq ?_ ?_; (focus (first | rfl | (simp; done) | (simp; omega) | omega | (simp [*]; done))); (focus (first | rfl | (simp; done) | (simp; omega) | omega | (simp [*]; done)))) | apply Take.tail | apply Takes.cons))) (k := ?_); intro s hs; (try conv => rhs; simp only [List.cons_append, List.nil_append]))
  obtain ⟨y, rfl⟩ : ∃ y, y = s := ⟨_, rfl⟩
  have hy := hs
  have hyl : y.st.length ≤ 300 := len_of hs (Nat.le_trans (want_le _ _) (show (flow r z).stack.length ≤ 300 from hl))
  clear hs
  repeat (first | refine go (k := ?_) | (refine goB (k := ?_); intro b) | (refine goA (k := ?_); intro ao cap))
  ((first | (apply Run.op; exact rfl) | refine Run.yes_ (h := ?_)); refine OpT.call0_ (spec := push_is fb cb ab (up m q) r y 1 (by omega)) (t := by (repeat (first | exact Takes.nil | exact Take.head | (refine Take.blkEq ?_; (focus (first | rfl | (simp; done) | (simp; omega) | omega | (simp [*]; done)))) | (refine Take.arrEq ?_ ?_; (focus (first | rfl | (simp; done) | (simp; omega) | omega | (simp [*]; done))); (focus (first | rfl | (simp; done) | (simp; omega) | omega | (simp [*]; done)))) | apply Take.tail | apply Takes.cons))) (k := ?_); intro s hs; (try conv => rhs; simp only [List.cons_append, List.nil_append]))
  repeat (first | refine go (k := ?_) | (refine goB (k := ?_); intro b) | (refine goA (k := ?_); intro ao cap))
  (refine End.done1_ ((r, s)) (he := by (first | exact rfl | (refine congrArg (Value.int _) ?_; omega) | (refine congrArg (Value.int _) ?_; dsimp only; omega))) (hp := ?_))
  simp only
  rw [hF, hs, hy]

set_option maxRecDepth 100000 in
theorem step_15 (op a n : Int) (hop : 15 ≤ op ∧ op ≤ 18) : StepFn fb cb ab mb m r z q ⟨op, a, n⟩ := by
  obtain ⟨F, hF⟩ : ∃ F, F = Ver.push 2 (Ver.want [1, 1] (flow r z)) := ⟨_, rfl⟩
  have e : Ver.step m.mdl (m.us.getD q default).u ⟨op, a, n⟩ (flow r z) = (true, F) := by
    unfold Ver.step; dsimp only; (repeat rw [if_neg (by omega)]); rw [if_pos (by omega)]; rw [hF]
  unfold StepFn
  rw [e]
  clear e
  refine Fn.enter (args := [ptr fb, .agg #[.int .i64 op, .int .i64 a, .int .i64 n]]) Try.func42 rfl _ Try.ntmps42 rfl (by simp [rd_excl, md_excl]) (fun w S => ?_)
  (try conv => rhs; simp only [List.cons_append, List.nil_append])
  (try conv => rhs; simp only [List.cons_append, List.nil_append])
  repeat (first | refine go (k := ?_) | (refine goB (k := ?_); intro b) | (refine goA (k := ?_); intro ao cap))
  ((first | (apply Run.op; exact rfl) | refine Run.yes_ (h := ?_)); refine OpT.call0_ (spec := want_is fb cb ab (up m q) r z _ 2 _ [1, 1] rfl (by omega) (by omega)) (t := by (repeat (first | exact Takes.nil | exact Take.head | (refine Take.blkEq ?_; (focus (first | rfl | (simp; done) | (simp; omega) | omega | (simp [*]; done)))) | (refine Take.arrEq ?_ ?_; (focus (first | rfl | (simp; done) | (simp; omega) | omega | (simp [*]; done))); (focus (first | rfl | (simp; done) | (simp; omega) | omega | (simp [*]; done)))) | apply Take.tail | apply Takes.cons))) (k := ?_); intro s hs; (try conv => rhs; simp only [List.cons_append, List.nil_append]))
  obtain ⟨y, rfl⟩ : ∃ y, y = s := ⟨_, rfl⟩
  have hy := hs
  have hyl : y.st.length ≤ 300 := len_of hs (Nat.le_trans (want_le _ _) (show (flow r z).stack.length ≤ 300 from hl))
  clear hs
  repeat (first | refine go (k := ?_) | (refine goB (k := ?_); intro b) | (refine goA (k := ?_); intro ao cap))
  ((first | (apply Run.op; exact rfl) | refine Run.yes_ (h := ?_)); refine OpT.call0_ (spec := push_is fb cb ab (up m q) r y 2 (by omega)) (t := by (repeat (first | exact Takes.nil | exact Take.head | (refine Take.blkEq ?_; (focus (first | rfl | (simp; done) | (simp; omega) | omega | (simp [*]; done)))) | (refine Take.arrEq ?_ ?_; (focus (first | rfl | (simp; done) | (simp; omega) | omega | (simp [*]; done))); (focus (first | rfl | (simp; done) | (simp; omega) | omega | (simp [*]; done)))) | apply Take.tail | apply Takes.cons))) (k := ?_); intro s hs; (try conv => rhs; simp only [List.cons_append, List.nil_append]))
  repeat (first | refine go (k := ?_) | (refine goB (k := ?_); intro b) | (refine goA (k := ?_); intro ao cap))
  (refine End.done1_ ((r, s)) (he := by (first | exact rfl | (refine congrArg (Value.int _) ?_; omega) | (refine congrArg (Value.int _) ?_; dsimp only; omega))) (hp := ?_))
  simp only
  rw [hF, hs, hy]

set_option maxRecDepth 100000 in
theorem step_19 (a n : Int) : StepFn fb cb ab mb m r z q ⟨19, a, n⟩ := by
  obtain ⟨F, hF⟩ : ∃ F, F = Ver.push 2 (Ver.want [2, 2] (flow r z)) := ⟨_, rfl⟩
  have e : Ver.step m.mdl (m.us.getD q default).u ⟨19, a, n⟩ (flow r z) = (true, F) := by
    unfold Ver.step; dsimp only; (repeat rw [if_neg (by omega)]); rw [if_pos (by omega)]; rw [hF]
  unfold StepFn
  rw [e]
  clear e
  refine Fn.enter (args := [ptr fb, .agg #[.int .i64 19, .int .i64 a, .int .i64 n]]) Try.func42 rfl _ Try.ntmps42 rfl (by simp [rd_excl, md_excl]) (fun w S => ?_)
  (try conv => rhs; simp only [List.cons_append, List.nil_append])
  (try conv => rhs; simp only [List.cons_append, List.nil_append])
  repeat (first | refine go (k := ?_) | (refine goB (k := ?_); intro b) | (refine goA (k := ?_); intro ao cap))
  ((first | (apply Run.op; exact rfl) | refine Run.yes_ (h := ?_)); refine OpT.call0_ (spec := want_is fb cb ab (up m q) r z _ 2 _ [2, 2] rfl (by omega) (by omega)) (t := by (repeat (first | exact Takes.nil | exact Take.head | (refine Take.blkEq ?_; (focus (first | rfl | (simp; done) | (simp; omega) | omega | (simp [*]; done)))) | (refine Take.arrEq ?_ ?_; (focus (first | rfl | (simp; done) | (simp; omega) | omega | (simp [*]; done))); (focus (first | rfl | (simp; done) | (simp; omega) | omega | (simp [*]; done)))) | apply Take.tail | apply Takes.cons))) (k := ?_); intro s hs; (try conv => rhs; simp only [List.cons_append, List.nil_append]))
  obtain ⟨y, rfl⟩ : ∃ y, y = s := ⟨_, rfl⟩
  have hy := hs
  have hyl : y.st.length ≤ 300 := len_of hs (Nat.le_trans (want_le _ _) (show (flow r z).stack.length ≤ 300 from hl))
  clear hs
  repeat (first | refine go (k := ?_) | (refine goB (k := ?_); intro b) | (refine goA (k := ?_); intro ao cap))
  ((first | (apply Run.op; exact rfl) | refine Run.yes_ (h := ?_)); refine OpT.call0_ (spec := push_is fb cb ab (up m q) r y 2 (by omega)) (t := by (repeat (first | exact Takes.nil | exact Take.head | (refine Take.blkEq ?_; (focus (first | rfl | (simp; done) | (simp; omega) | omega | (simp [*]; done)))) | (refine Take.arrEq ?_ ?_; (focus (first | rfl | (simp; done) | (simp; omega) | omega | (simp [*]; done))); (focus (first | rfl | (simp; done) | (simp; omega) | omega | (simp [*]; done)))) | apply Take.tail | apply Takes.cons))) (k := ?_); intro s hs; (try conv => rhs; simp only [List.cons_append, List.nil_append]))
  repeat (first | refine go (k := ?_) | (refine goB (k := ?_); intro b) | (refine goA (k := ?_); intro ao cap))
  (refine End.done1_ ((r, s)) (he := by (first | exact rfl | (refine congrArg (Value.int _) ?_; omega) | (refine congrArg (Value.int _) ?_; dsimp only; omega))) (hp := ?_))
  simp only
  rw [hF, hs, hy]

set_option maxRecDepth 100000 in
theorem step_20 (a n : Int) : StepFn fb cb ab mb m r z q ⟨20, a, n⟩ := by
  obtain ⟨F, hF⟩ : ∃ F, F = Ver.push 2 (Ver.want [2, 2] (flow r z)) := ⟨_, rfl⟩
  have e : Ver.step m.mdl (m.us.getD q default).u ⟨20, a, n⟩ (flow r z) = (true, F) := by
    unfold Ver.step; dsimp only; (repeat rw [if_neg (by omega)]); rw [if_pos (by omega)]; rw [hF]
  unfold StepFn
  rw [e]
  clear e
  refine Fn.enter (args := [ptr fb, .agg #[.int .i64 20, .int .i64 a, .int .i64 n]]) Try.func42 rfl _ Try.ntmps42 rfl (by simp [rd_excl, md_excl]) (fun w S => ?_)
  (try conv => rhs; simp only [List.cons_append, List.nil_append])
  (try conv => rhs; simp only [List.cons_append, List.nil_append])
  repeat (first | refine go (k := ?_) | (refine goB (k := ?_); intro b) | (refine goA (k := ?_); intro ao cap))
  ((first | (apply Run.op; exact rfl) | refine Run.yes_ (h := ?_)); refine OpT.call0_ (spec := want_is fb cb ab (up m q) r z _ 2 _ [2, 2] rfl (by omega) (by omega)) (t := by (repeat (first | exact Takes.nil | exact Take.head | (refine Take.blkEq ?_; (focus (first | rfl | (simp; done) | (simp; omega) | omega | (simp [*]; done)))) | (refine Take.arrEq ?_ ?_; (focus (first | rfl | (simp; done) | (simp; omega) | omega | (simp [*]; done))); (focus (first | rfl | (simp; done) | (simp; omega) | omega | (simp [*]; done)))) | apply Take.tail | apply Takes.cons))) (k := ?_); intro s hs; (try conv => rhs; simp only [List.cons_append, List.nil_append]))
  obtain ⟨y, rfl⟩ : ∃ y, y = s := ⟨_, rfl⟩
  have hy := hs
  have hyl : y.st.length ≤ 300 := len_of hs (Nat.le_trans (want_le _ _) (show (flow r z).stack.length ≤ 300 from hl))
  clear hs
  repeat (first | refine go (k := ?_) | (refine goB (k := ?_); intro b) | (refine goA (k := ?_); intro ao cap))
  ((first | (apply Run.op; exact rfl) | refine Run.yes_ (h := ?_)); refine OpT.call0_ (spec := push_is fb cb ab (up m q) r y 2 (by omega)) (t := by (repeat (first | exact Takes.nil | exact Take.head | (refine Take.blkEq ?_; (focus (first | rfl | (simp; done) | (simp; omega) | omega | (simp [*]; done)))) | (refine Take.arrEq ?_ ?_; (focus (first | rfl | (simp; done) | (simp; omega) | omega | (simp [*]; done))); (focus (first | rfl | (simp; done) | (simp; omega) | omega | (simp [*]; done)))) | apply Take.tail | apply Takes.cons))) (k := ?_); intro s hs; (try conv => rhs; simp only [List.cons_append, List.nil_append]))
  repeat (first | refine go (k := ?_) | (refine goB (k := ?_); intro b) | (refine goA (k := ?_); intro ao cap))
  (refine End.done1_ ((r, s)) (he := by (first | exact rfl | (refine congrArg (Value.int _) ?_; omega) | (refine congrArg (Value.int _) ?_; dsimp only; omega))) (hp := ?_))
  simp only
  rw [hF, hs, hy]

set_option maxRecDepth 100000 in
theorem step_13 (a n : Int) : StepFn fb cb ab mb m r z q ⟨13, a, n⟩ := by
  obtain ⟨F, hF⟩ : ∃ F, F = Ver.push 2 (Ver.want [(Ver.pop (flow r z)).1] (if (Ver.pop (flow r z)).1 ≠ 1 ∧ (Ver.pop (flow r z)).1 ≠ 2 then Ver.fail 9 (Ver.pop (flow r z)).2 else (Ver.pop (flow r z)).2)) := ⟨_, rfl⟩
  have e : Ver.step m.mdl (m.us.getD q default).u ⟨13, a, n⟩ (flow r z) = (true, F) := by
    unfold Ver.step; dsimp only; (repeat rw [if_neg (by omega)]); rw [if_pos (by omega)]; rw [hF]
  unfold StepFn
  rw [e]
  clear e
  refine Fn.enter (args := [ptr fb, .agg #[.int .i64 13, .int .i64 a, .int .i64 n]]) Try.func42 rfl _ Try.ntmps42 rfl (by simp [rd_excl, md_excl]) (fun w S => ?_)
  (try conv => rhs; simp only [List.cons_append, List.nil_append])
  (try conv => rhs; simp only [List.cons_append, List.nil_append])
  repeat (first | refine go (k := ?_) | (refine goB (k := ?_); intro b) | (refine goA (k := ?_); intro ao cap))
  ((first | (apply Run.op; exact rfl) | refine Run.yes_ (h := ?_)); refine OpT.call0_ (spec := pop_is fb cb ab (up m q) r z (by omega)) (t := by (repeat (first | exact Takes.nil | exact Take.head | (refine Take.blkEq ?_; (focus (first | rfl | (simp; done) | (simp; omega) | omega | (simp [*]; done)))) | (refine Take.arrEq ?_ ?_; (focus (first | rfl | (simp; done) | (simp; omega) | omega | (simp [*]; done))); (focus (first | rfl | (simp; done) | (simp; omega) | omega | (simp [*]; done)))) | apply Take.tail | apply Takes.cons))) (k := ?_); intro s hs; (try conv => rhs; simp only [List.cons_append, List.nil_append]))
  obtain ⟨y, rfl⟩ : ∃ y, y = s := ⟨_, rfl⟩
  have hyl : y.st.length ≤ 300 := len_of hs (Nat.le_trans (pop_le _) (show (flow r z).stack.length ≤ 300 from hl))
  rw [← hs] at hF
  generalize (Ver.pop (flow r z)).1 = v at *
  clear hs
  by_cases hv : v ≠ 1 ∧ v ≠ 2
  · rw [if_pos hv] at hF
    obtain ⟨hv1, hv2⟩ := hv
    repeat (first | refine go (k := ?_) | (refine goB (k := ?_); intro b) | (refine goA (k := ?_); intro ao cap))
    ((first | (apply Run.op; exact rfl) | refine Run.yes_ (h := ?_)); refine OpT.call0_ (spec := fail_is fb cb ab (up m q) r y 9) (t := by (repeat (first | exact Takes.nil | exact Take.head | (refine Take.blkEq ?_; (focus (first | rfl | (simp; done) | (simp; omega) | omega | (simp [*]; done)))) | (refine Take.arrEq ?_ ?_; (focus (first | rfl | (simp; done) | (simp; omega) | omega | (simp [*]; done))); (focus (first | rfl | (simp; done) | (simp; omega) | omega | (simp [*]; done)))) | apply Take.tail | apply Takes.cons))) (k := ?_); intro s hs; (try conv => rhs; simp only [List.cons_append, List.nil_append]))
    repeat (first | refine go (k := ?_) | (refine goB (k := ?_); intro b) | (refine goA (k := ?_); intro ao cap))
    ((first | (apply Run.op; exact rfl) | refine Run.yes_ (h := ?_)); refine OpT.call0_ (spec := want_is fb cb ab (up m q) r (failE 9 y) _ 1 _ [v] rfl (by omega) (by show y.st.length ≤ 1000; omega)) (t := by (repeat (first | exact Takes.nil | exact Take.head | (refine Take.blkEq ?_; (focus (first | rfl | (simp; done) | (simp; omega) | omega | (simp [*]; done)))) | (refine Take.arrEq ?_ ?_; (focus (first | rfl | (simp; done) | (simp; omega) | omega | (simp [*]; done))); (focus (first | rfl | (simp; done) | (simp; omega) | omega | (simp [*]; done)))) | apply Take.tail | apply Takes.cons))) (k := ?_); intro s hs; (try conv => rhs; simp only [List.cons_append, List.nil_append]))
    obtain ⟨x, rfl⟩ : ∃ x, x = s := ⟨_, rfl⟩
    have hx := hs
    have hxl : x.st.length ≤ 300 := len_of hs (Nat.le_trans (want_le _ _) hyl)
    rw [flow_fail] at hx
    clear hs
    repeat (first | refine go (k := ?_) | (refine goB (k := ?_); intro b) | (refine goA (k := ?_); intro ao cap))
    ((first | (apply Run.op; exact rfl) | refine Run.yes_ (h := ?_)); refine OpT.call0_ (spec := push_is fb cb ab (up m q) r x 2 (by omega)) (t := by (repeat (first | exact Takes.nil | exact Take.head | (refine Take.blkEq ?_; (focus (first | rfl | (simp; done) | (simp; omega) | omega | (simp [*]; done)))) | (refine Take.arrEq ?_ ?_; (focus (first | rfl | (simp; done) | (simp; omega) | omega | (simp [*]; done))); (focus (first | rfl | (simp; done) | (simp; omega) | omega | (simp [*]; done)))) | apply Take.tail | apply Takes.cons))) (k := ?_); intro s hs; (try conv => rhs; simp only [List.cons_append, List.nil_append]))
    repeat (first | refine go (k := ?_) | (refine goB (k := ?_); intro b) | (refine goA (k := ?_); intro ao cap))
    (refine End.done1_ ((r, s)) (he := by (first | exact rfl | (refine congrArg (Value.int _) ?_; omega) | (refine congrArg (Value.int _) ?_; dsimp only; omega))) (hp := ?_))
    simp only
    rw [hF, hs, hx]
  · rw [if_neg hv] at hF
    by_cases hv1 : v = 1
    · repeat (first | refine go (k := ?_) | (refine goB (k := ?_); intro b) | (refine goA (k := ?_); intro ao cap))
      ((first | (apply Run.op; exact rfl) | refine Run.yes_ (h := ?_)); refine OpT.call0_ (spec := want_is fb cb ab (up m q) r y _ 1 _ [v] rfl (by omega) (by omega)) (t := by (repeat (first | exact Takes.nil | exact Take.head | (refine Take.blkEq ?_; (focus (first | rfl | (simp; done) | (simp; omega) | omega | (simp [*]; done)))) | (refine Take.arrEq ?_ ?_; (focus (first | rfl | (simp; done) | (simp; omega) | omega | (simp [*]; done))); (focus (first | rfl | (simp; done) | (simp; omega) | omega | (simp [*]; done)))) | apply Take.tail | apply Takes.cons))) (k := ?_); intro s hs; (try conv => rhs; simp only [List.cons_append, List.nil_append]))
      obtain ⟨x, rfl⟩ : ∃ x, x = s := ⟨_, rfl⟩
      have hx := hs
      have hxl : x.st.length ≤ 300 := len_of hs (Nat.le_trans (want_le _ _) hyl)
      clear hs
      repeat (first | refine go (k := ?_) | (refine goB (k := ?_); intro b) | (refine goA (k := ?_); intro ao cap))
      ((first | (apply Run.op; exact rfl) | refine Run.yes_ (h := ?_)); refine OpT.call0_ (spec := push_is fb cb ab (up m q) r x 2 (by omega)) (t := by (repeat (first | exact Takes.nil | exact Take.head | (refine Take.blkEq ?_; (focus (first | rfl | (simp; done) | (simp; omega) | omega | (simp [*]; done)))) | (refine Take.arrEq ?_ ?_; (focus (first | rfl | (simp; done) | (simp; omega) | omega | (simp [*]; done))); (focus (first | rfl | (simp; done) | (simp; omega) | omega | (simp [*]; done)))) | apply Take.tail | apply Takes.cons))) (k := ?_); intro s hs; (try conv => rhs; simp only [List.cons_append, List.nil_append]))
      repeat (first | refine go (k := ?_) | (refine goB (k := ?_); intro b) | (refine goA (k := ?_); intro ao cap))
      (refine End.done1_ ((r, s)) (he := by (first | exact rfl | (refine congrArg (Value.int _) ?_; omega) | (refine congrArg (Value.int _) ?_; dsimp only; omega))) (hp := ?_))
      simp only
      rw [hF, hs, hx]
    · have hv2 : v = 2 := by omega
      repeat (first | refine go (k := ?_) | (refine goB (k := ?_); intro b) | (refine goA (k := ?_); intro ao cap))
      ((first | (apply Run.op; exact rfl) | refine Run.yes_ (h := ?_)); refine OpT.call0_ (spec := want_is fb cb ab (up m q) r y _ 1 _ [v] rfl (by omega) (by omega)) (t := by (repeat (first | exact Takes.nil | exact Take.head | (refine Take.blkEq ?_; (focus (first | rfl | (simp; done) | (simp; omega) | omega | (simp [*]; done)))) | (refine Take.arrEq ?_ ?_; (focus (first | rfl | (simp; done) | (simp; omega) | omega | (simp [*]; done))); (focus (first | rfl | (simp; done) | (simp; omega) | omega | (simp [*]; done)))) | apply Take.tail | apply Takes.cons))) (k := ?_); intro s hs; (try conv => rhs; simp only [List.cons_append, List.nil_append]))
      obtain ⟨x, rfl⟩ : ∃ x, x = s := ⟨_, rfl⟩
      have hx := hs
      have hxl : x.st.length ≤ 300 := len_of hs (Nat.le_trans (want_le _ _) hyl)
      clear hs
      repeat (first | refine go (k := ?_) | (refine goB (k := ?_); intro b) | (refine goA (k := ?_); intro ao cap))
      ((first | (apply Run.op; exact rfl) | refine Run.yes_ (h := ?_)); refine OpT.call0_ (spec := push_is fb cb ab (up m q) r x 2 (by omega)) (t := by (repeat (first | exact Takes.nil | exact Take.head | (refine Take.blkEq ?_; (focus (first | rfl | (simp; done) | (simp; omega) | omega | (simp [*]; done)))) | (refine Take.arrEq ?_ ?_; (focus (first | rfl | (simp; done) | (simp; omega) | omega | (simp [*]; done))); (focus (first | rfl | (simp; done) | (simp; omega) | omega | (simp [*]; done)))) | apply Take.tail | apply Takes.cons))) (k := ?_); intro s hs; (try conv => rhs; simp only [List.cons_append, List.nil_append]))
      repeat (first | refine go (k := ?_) | (refine goB (k := ?_); intro b) | (refine goA (k := ?_); intro ao cap))
      (refine End.done1_ ((r, s)) (he := by (first | exact rfl | (refine congrArg (Value.int _) ?_; omega) | (refine congrArg (Value.int _) ?_; dsimp only; omega))) (hp := ?_))
      simp only
      rw [hF, hs, hx]

set_option maxRecDepth 100000 in
theorem step_14 (a n : Int) : StepFn fb cb ab mb m r z q ⟨14, a, n⟩ := by
  obtain ⟨F, hF⟩ : ∃ F, F = Ver.push 2 (Ver.want [(Ver.pop (flow r z)).1] (if (Ver.pop (flow r z)).1 ≠ 1 ∧ (Ver.pop (flow r z)).1 ≠ 2 then Ver.fail 9 (Ver.pop (flow r z)).2 else (Ver.pop (flow r z)).2)) := ⟨_, rfl⟩
  have e : Ver.step m.mdl (m.us.getD q default).u ⟨14, a, n⟩ (flow r z) = (true, F) := by
    unfold Ver.step; dsimp only; (repeat rw [if_neg (by omega)]); rw [if_pos (by omega)]; rw [hF]
  unfold StepFn
  rw [e]
  clear e
  refine Fn.enter (args := [ptr fb, .agg #[.int .i64 14, .int .i64 a, .int .i64 n]]) Try.func42 rfl _ Try.ntmps42 rfl (by simp [rd_excl, md_excl]) (fun w S => ?_)
  (try conv => rhs; simp only [List.cons_append, List.nil_append])
  (try conv => rhs; simp only [List.cons_append, List.nil_append])
  repeat (first | refine go (k := ?_) | (refine goB (k := ?_); intro b) | (refine goA (k := ?_); intro ao cap))
  ((first | (apply Run.op; exact rfl) | refine Run.yes_ (h := ?_)); refine OpT.call0_ (spec := pop_is fb cb ab (up m q) r z (by omega)) (t := by (repeat (first | exact Takes.nil | exact Take.head | (refine Take.blkEq ?_; (focus (first | rfl | (simp; done) | (simp; omega) | omega | (simp [*]; done)))) | (refine Take.arrEq ?_ ?_; (focus (first | rfl | (simp; done) | (simp; omega) | omega | (simp [*]; done))); (focus (first | rfl | (simp; done) | (simp; omega) | omega | (simp [*]; done)))) | apply Take.tail | apply Takes.cons))) (k := ?_); intro s hs; (try conv => rhs; simp only [List.cons_append, List.nil_append]))
  obtain ⟨y, rfl⟩ : ∃ y, y = s := ⟨_, rfl⟩
  have hyl : y.st.length ≤ 300 := len_of hs (Nat.le_trans (pop_le _) (show (flow r z).stack.length ≤ 300 from hl))
  rw [← hs] at hF
  generalize (Ver.pop (flow r z)).1 = v at *
  clear hs
  by_cases hv : v ≠ 1 ∧ v ≠ 2
  · rw [if_pos hv] at hF
    obtain ⟨hv1, hv2⟩ := hv
    repeat (first | refine go (k := ?_) | (refine goB (k := ?_); intro b) | (refine goA (k := ?_); intro ao cap))
    ((first | (apply Run.op; exact rfl) | refine Run.yes_ (h := ?_)); refine OpT.call0_ (spec := fail_is fb cb ab (up m q) r y 9) (t := by (repeat (first | exact Takes.nil | exact Take.head | (refine Take.blkEq ?_; (focus (first | rfl | (simp; done) | (simp; omega) | omega | (simp [*]; done)))) | (refine Take.arrEq ?_ ?_; (focus (first | rfl | (simp; done) | (simp; omega) | omega | (simp [*]; done))); (focus (first | rfl | (simp; done) | (simp; omega) | omega | (simp [*]; done)))) | apply Take.tail | apply Takes.cons))) (k := ?_); intro s hs; (try conv => rhs; simp only [List.cons_append, List.nil_append]))
    repeat (first | refine go (k := ?_) | (refine goB (k := ?_); intro b) | (refine goA (k := ?_); intro ao cap))
    ((first | (apply Run.op; exact rfl) | refine Run.yes_ (h := ?_)); refine OpT.call0_ (spec := want_is fb cb ab (up m q) r (failE 9 y) _ 1 _ [v] rfl (by omega) (by show y.st.length ≤ 1000; omega)) (t := by (repeat (first | exact Takes.nil | exact Take.head | (refine Take.blkEq ?_; (focus (first | rfl | (simp; done) | (simp; omega) | omega | (simp [*]; done)))) | (refine Take.arrEq ?_ ?_; (focus (first | rfl | (simp; done) | (simp; omega) | omega | (simp [*]; done))); (focus (first | rfl | (simp; done) | (simp; omega) | omega | (simp [*]; done)))) | apply Take.tail | apply Takes.cons))) (k := ?_); intro s hs; (try conv => rhs; simp only [List.cons_append, List.nil_append]))
    obtain ⟨x, rfl⟩ : ∃ x, x = s := ⟨_, rfl⟩
    have hx := hs
    have hxl : x.st.length ≤ 300 := len_of hs (Nat.le_trans (want_le _ _) hyl)
    rw [flow_fail] at hx
    clear hs
    repeat (first | refine go (k := ?_) | (refine goB (k := ?_); intro b) | (refine goA (k := ?_); intro ao cap))
    ((first | (apply Run.op; exact rfl) | refine Run.yes_ (h := ?_)); refine OpT.call0_ (spec := push_is fb cb ab (up m q) r x 2 (by omega)) (t := by (repeat (first | exact Takes.nil | exact Take.head | (refine Take.blkEq ?_; (focus (first | rfl | (simp; done) | (simp; omega) | omega | (simp [*]; done)))) | (refine Take.arrEq ?_ ?_; (focus (first | rfl | (simp; done) | (simp; omega) | omega | (simp [*]; done))); (focus (first | rfl | (simp; done) | (simp; omega) | omega | (simp [*]; done)))) | apply Take.tail | apply Takes.cons))) (k := ?_); intro s hs; (try conv => rhs; simp only [List.cons_append, List.nil_append]))
    repeat (first | refine go (k := ?_) | (refine goB (k := ?_); intro b) | (refine goA (k := ?_); intro ao cap))
    (refine End.done1_ ((r, s)) (he := by (first | exact rfl | (refine congrArg (Value.int _) ?_; omega) | (refine congrArg (Value.int _) ?_; dsimp only; omega))) (hp := ?_))
    simp only
    rw [hF, hs, hx]
  · rw [if_neg hv] at hF
    by_cases hv1 : v = 1
    · repeat (first | refine go (k := ?_) | (refine goB (k := ?_); intro b) | (refine goA (k := ?_); intro ao cap))
      ((first | (apply Run.op; exact rfl) | refine Run.yes_ (h := ?_)); refine OpT.call0_ (spec := want_is fb cb ab (up m q) r y _ 1 _ [v] rfl (by omega) (by omega)) (t := by (repeat (first | exact Takes.nil | exact Take.head | (refine Take.blkEq ?_; (focus (first | rfl | (simp; done) | (simp; omega) | omega | (simp [*]; done)))) | (refine Take.arrEq ?_ ?_; (focus (first | rfl | (simp; done) | (simp; omega) | omega | (simp [*]; done))); (focus (first | rfl | (simp; done) | (simp; omega) | omega | (simp [*]; done)))) | apply Take.tail | apply Takes.cons))) (k := ?_); intro s hs; (try conv => rhs; simp only [List.cons_append, List.nil_append]))
      obtain ⟨x, rfl⟩ : ∃ x, x = s := ⟨_, rfl⟩
      have hx := hs
      have hxl : x.st.length ≤ 300 := len_of hs (Nat.le_trans (want_le _ _) hyl)
      clear hs
      repeat (first | refine go (k := ?_) | (refine goB (k := ?_); intro b) | (refine goA (k := ?_); intro ao cap))
      ((first | (apply Run.op; exact rfl) | refine Run.yes_ (h := ?_)); refine OpT.call0_ (spec := push_is fb cb ab (up m q) r x 2 (by omega)) (t := by (repeat (first | exact Takes.nil | exact Take.head | (refine Take.blkEq ?_; (focus (first | rfl | (simp; done) | (simp; omega) | omega | (simp [*]; done)))) | (refine Take.arrEq ?_ ?_; (focus (first | rfl | (simp; done) | (simp; omega) | omega | (simp [*]; done))); (focus (first | rfl | (simp; done) | (simp; omega) | omega | (simp [*]; done)))) | apply Take.tail | apply Takes.cons))) (k := ?_); intro s hs; (try conv => rhs; simp only [List.cons_append, List.nil_append]))
      repeat (first | refine go (k := ?_) | (refine goB (k := ?_); intro b) | (refine goA (k := ?_); intro ao cap))
      (refine End.done1_ ((r, s)) (he := by (first | exact rfl | (refine congrArg (Value.int _) ?_; omega) | (refine congrArg (Value.int _) ?_; dsimp only; omega))) (hp := ?_))
      simp only
      rw [hF, hs, hx]
    · have hv2 : v = 2 := by omega
      repeat (first | refine go (k := ?_) | (refine goB (k := ?_); intro b) | (refine goA (k := ?_); intro ao cap))
      ((first | (apply Run.op; exact rfl) | refine Run.yes_ (h := ?_)); refine OpT.call0_ (spec := want_is fb cb ab (up m q) r y _ 1 _ [v] rfl (by omega) (by omega)) (t := by (repeat (first | exact Takes.nil | exact Take.head | (refine Take.blkEq ?_; (focus (first | rfl | (simp; done) | (simp; omega) | omega | (simp [*]; done)))) | (refine Take.arrEq ?_ ?_; (focus (first | rfl | (simp; done) | (simp; omega) | omega | (simp [*]; done))); (focus (first | rfl | (simp; done) | (simp; omega) | omega | (simp [*]; done)))) | apply Take.tail | apply Takes.cons))) (k := ?_); intro s hs; (try conv => rhs; simp only [List.cons_append, List.nil_append]))
      obtain ⟨x, rfl⟩ : ∃ x, x = s := ⟨_, rfl⟩
      have hx := hs
      have hxl : x.st.length ≤ 300 := len_of hs (Nat.le_trans (want_le _ _) hyl)
      clear hs
      repeat (first | refine go (k := ?_) | (refine goB (k := ?_); intro b) | (refine goA (k := ?_); intro ao cap))
      ((first | (apply Run.op; exact rfl) | refine Run.yes_ (h := ?_)); refine OpT.call0_ (spec := push_is fb cb ab (up m q) r x 2 (by omega)) (t := by (repeat (first | exact Takes.nil | exact Take.head | (refine Take.blkEq ?_; (focus (first | rfl | (simp; done) | (simp; omega) | omega | (simp [*]; done)))) | (refine Take.arrEq ?_ ?_; (focus (first | rfl | (simp; done) | (simp; omega) | omega | (simp [*]; done))); (focus (first | rfl | (simp; done) | (simp; omega) | omega | (simp [*]; done)))) | apply Take.tail | apply Takes.cons))) (k := ?_); intro s hs; (try conv => rhs; simp only [List.cons_append, List.nil_append]))
      repeat (first | refine go (k := ?_) | (refine goB (k := ?_); intro b) | (refine goA (k := ?_); intro ao cap))
      (refine End.done1_ ((r, s)) (he := by (first | exact rfl | (refine congrArg (Value.int _) ?_; omega) | (refine congrArg (Value.int _) ?_; dsimp only; omega))) (hp := ?_))
      simp only
      rw [hF, hs, hx]

set_option maxRecDepth 100000 in
theorem step_21 (a n : Int) (hh : r.has.length ≤ 1000) (hto : r.todo.length ≤ 1000000000) (hent : ∀ x, mfind r.ents a = some x → x.st.length ≤ 1000 ∧ x.hs.length = r.has.length) : StepFn fb cb ab mb m r z q ⟨21, a, n⟩ := by
  obtain ⟨F, hF⟩ : ∃ F, F = Ver.to (m.us.getD q default).u.code.length a (flow r z) := ⟨_, rfl⟩
  have e : Ver.step m.mdl (m.us.getD q default).u ⟨21, a, n⟩ (flow r z) = (false, F) := by
    unfold Ver.step; dsimp only; (repeat rw [if_neg (by omega)]); rw [if_pos (by omega)]; rw [hF]
  unfold StepFn
  rw [e]
  clear e
  refine Fn.enter (args := [ptr fb, .agg #[.int .i64 21, .int .i64 a, .int .i64 n]]) Try.func42 rfl _ Try.ntmps42 rfl (by simp [rd_excl, md_excl]) (fun w S => ?_)
  (try conv => rhs; simp only [List.cons_append, List.nil_append])
  (try conv => rhs; simp only [List.cons_append, List.nil_append])
  repeat (first | refine go (k := ?_) | (refine goB (k := ?_); intro b) | (refine goA (k := ?_); intro ao cap))
  ((first | (apply Run.op; exact rfl) | refine Run.yes_ (h := ?_)); refine OpT.call0_ (spec := to_is fb cb ab m q hq r z a (by omega) hh hto hent) (t := by (repeat (first | exact Takes.nil | exact Take.head | (refine Take.blkEq ?_; (focus (first | rfl | (simp; done) | (simp; omega) | omega | (simp [*]; done)))) | (refine Take.arrEq ?_ ?_; (focus (first | rfl | (simp; done) | (simp; omega) | omega | (simp [*]; done))); (focus (first | rfl | (simp; done) | (simp; omega) | omega | (simp [*]; done)))) | apply Take.tail | apply Takes.cons))) (k := ?_); intro s hs; (try conv => rhs; simp only [List.cons_append, List.nil_append]))
  repeat (first | refine go (k := ?_) | (refine goB (k := ?_); intro b) | (refine goA (k := ?_); intro ao cap))
  (refine End.done1_ (s) (he := by (first | exact rfl | (refine congrArg (Value.int _) ?_; omega) | (refine congrArg (Value.int _) ?_; dsimp only; omega))) (hp := ?_))
  exact hs.trans hF.symm

set_option maxRecDepth 100000 in
theorem step_22 (a n : Int) (hh : r.has.length ≤ 1000) (hto : r.todo.length ≤ 1000000000) (hent : ∀ x, mfind r.ents a = some x → x.st.length ≤ 1000 ∧ x.hs.length = r.has.length) : StepFn fb cb ab mb m r z q ⟨22, a, n⟩ := by
  obtain ⟨F, hF⟩ : ∃ F, F = Ver.to (m.us.getD q default).u.code.length a (Ver.want [2] (flow r z)) := ⟨_, rfl⟩
  have e : Ver.step m.mdl (m.us.getD q default).u ⟨22, a, n⟩ (flow r z) = (true, F) := by
    unfold Ver.step; dsimp only; (repeat rw [if_neg (by omega)]); rw [if_pos (by omega)]; rw [hF]
  unfold StepFn
  rw [e]
  clear e
  refine Fn.enter (args := [ptr fb, .agg #[.int .i64 22, .int .i64 a, .int .i64 n]]) Try.func42 rfl _ Try.ntmps42 rfl (by simp [rd_excl, md_excl]) (fun w S => ?_)
  (try conv => rhs; simp only [List.cons_append, List.nil_append])
  (try conv => rhs; simp only [List.cons_append, List.nil_append])
  repeat (first | refine go (k := ?_) | (refine goB (k := ?_); intro b) | (refine goA (k := ?_); intro ao cap))
  ((first | (apply Run.op; exact rfl) | refine Run.yes_ (h := ?_)); refine OpT.call0_ (spec := want_is fb cb ab (up m q) r z _ 1 _ [2] rfl (by omega) (by omega)) (t := by (repeat (first | exact Takes.nil | exact Take.head | (refine Take.blkEq ?_; (focus (first | rfl | (simp; done) | (simp; omega) | omega | (simp [*]; done)))) | (refine Take.arrEq ?_ ?_; (focus (first | rfl | (simp; done) | (simp; omega) | omega | (simp [*]; done))); (focus (first | rfl | (simp; done) | (simp; omega) | omega | (simp [*]; done)))) | apply Take.tail | apply Takes.cons))) (k := ?_); intro s hs; (try conv => rhs; simp only [List.cons_append, List.nil_append]))
  obtain ⟨y, rfl⟩ : ∃ y, y = s := ⟨_, rfl⟩
  have hy := hs
  have hyl : y.st.length ≤ 300 := len_of hs (Nat.le_trans (want_le _ _) (show (flow r z).stack.length ≤ 300 from hl))
  clear hs
  repeat (first | refine go (k := ?_) | (refine goB (k := ?_); intro b) | (refine goA (k := ?_); intro ao cap))
  ((first | (apply Run.op; exact rfl) | refine Run.yes_ (h := ?_)); refine OpT.call0_ (spec := to_is fb cb ab m q hq r y a (by omega) hh hto hent) (t := by (repeat (first | exact Takes.nil | exact Take.head | (refine Take.blkEq ?_; (focus (first | rfl | (simp; done) | (simp; omega) | omega | (simp [*]; done)))) | (refine Take.arrEq ?_ ?_; (focus (first | rfl | (simp; done) | (simp; omega) | omega | (simp [*]; done))); (focus (first | rfl | (simp; done) | (simp; omega) | omega | (simp [*]; done)))) | apply Take.tail | apply Takes.cons))) (k := ?_); intro s hs; (try conv => rhs; simp only [List.cons_append, List.nil_append]))
  repeat (first | refine go (k := ?_) | (refine goB (k := ?_); intro b) | (refine goA (k := ?_); intro ao cap))
  (refine End.done1_ (s) (he := by (first | exact rfl | (refine congrArg (Value.int _) ?_; omega) | (refine congrArg (Value.int _) ?_; dsimp only; omega))) (hp := ?_))
  rw [hF, ← hy]
  exact hs

set_option maxRecDepth 100000 in
theorem step_23 (op a n : Int) (hop : 23 ≤ op) (hsp : SpecFn fb cb ab mb m r z q ⟨op, a, n⟩) : StepFn fb cb ab mb m r z q ⟨op, a, n⟩ := by
  have e : Ver.step m.mdl (m.us.getD q default).u ⟨op, a, n⟩ (flow r z) = Ver.special m.mdl (m.us.getD q default).u ⟨op, a, n⟩ (flow r z) := by
    unfold Ver.step; dsimp only; (repeat rw [if_neg (by omega)])
  unfold StepFn
  unfold SpecFn at hsp
  rw [e]
  clear e
  generalize Ver.special m.mdl (m.us.getD q default).u ⟨op, a, n⟩ (flow r z) = F at *
  refine Fn.enter (args := [ptr fb, .agg #[.int .i64 op, .int .i64 a, .int .i64 n]]) Try.func42 rfl _ Try.ntmps42 rfl (by simp [rd_excl, md_excl]) (fun w S => ?_)
  (try conv => rhs; simp only [List.cons_append, List.nil_append])
  (try conv => rhs; simp only [List.cons_append, List.nil_append])
  repeat (first | refine go (k := ?_) | (refine goB (k := ?_); intro b) | (refine goA (k := ?_); intro ao cap))
  ((first | (apply Run.op; exact rfl) | refine Run.yes_ (h := ?_)); refine OpT.call0_ (spec := hsp) (t := by (repeat (first | exact Takes.nil | exact Take.head | (refine Take.blkEq ?_; (focus (first | rfl | (simp; done) | (simp; omega) | omega | (simp [*]; done)))) | (refine Take.arrEq ?_ ?_; (focus (first | rfl | (simp; done) | (simp; omega) | omega | (simp [*]; done))); (focus (first | rfl | (simp; done) | (simp; omega) | omega | (simp [*]; done)))) | apply Take.tail | apply Takes.cons))) (k := ?_); intro s hs; (try conv => rhs; simp only [List.cons_append, List.nil_append]))
  repeat (first | refine go (k := ?_) | (refine goB (k := ?_); intro b) | (refine goA (k := ?_); intro ao cap))
  (refine End.done1_ ((r, s)) (he := by (first | exact rfl | (refine congrArg (Value.int _) ?_; omega) | (refine congrArg (Value.int _) ?_; dsimp only; omega))) (hp := ?_))
  exact hs
end
end Go.Proofs.Ytfeajpghabjaaaa.Vw
