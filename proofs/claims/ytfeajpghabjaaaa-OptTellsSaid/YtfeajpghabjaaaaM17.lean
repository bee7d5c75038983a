/- verify's flow, walked: what has to do with other units, and boxes. -/
import Derived.Test.YtfeajpghabjaaaaM16
namespace Go.Proofs.Ytfeajpghabjaaaa.Vw
open Go.RowKit Go.Proofs.Ytfeajpghabjaaaa.Img
set_option linter.unusedVariables false
set_option linter.unusedSimpArgs false
set_option linter.unusedSectionVars false
attribute [local irreducible] Run Cod End OpT Still RunQ RunS RunT Fn PutOk

theorem len_of {r : FR} {s : FS} {g : Ver.Flow} (h : flow r s = g) {N : Nat} (hg : g.stack.length ≤ N) : s.st.length ≤ N := by
  have : s.st = g.stack := congrArg Ver.Flow.stack h
  rw [this]; exact hg
theorem fail_len (e : Int) (f : Ver.Flow) : (Ver.fail e f).stack.length = f.stack.length := by unfold Ver.fail; split <;> rfl
theorem args_le (M : ImgM.Mdl) (k : Int) (f : Ver.Flow) : (Ver.args M k f).stack.length ≤ f.stack.length := want_le _ _
theorem isUnit_ok {M : ImgM.Mdl} {i kind : Int} (h : Ver.isUnit M i kind = true) : ∃ k : Nat, i = (k : Int) ∧ k < M.units.length ∧ (M.units.getD k default).kind = kind := by
  simp only [Ver.isUnit, Bool.and_eq_true, decide_eq_true_eq] at h
  obtain ⟨⟨h1, h2⟩, h3⟩ := h
  exact ⟨i.toNat, by omega, by omega, h3⟩
theorem gen_le (M : ImgM.Mdl) (f : Ver.Flow) {N : Nat} (h : f.stack.length ≤ N) : (Ver.gen M f).2.stack.length ≤ N := by
  have := pop_le f
  unfold Ver.gen
  split
  · simp only; omega
  split
  · simp only [fail_len]; omega
  · simp only; omega
theorem pop_sub (f : Ver.Flow) : ∀ t ∈ (Ver.pop f).2.stack, t ∈ f.stack := by
  unfold Ver.pop
  split
  · unfold Ver.fail; split <;> exact fun t h => h
  · exact fun t h => List.mem_of_mem_take h
theorem gen_ok (M : ImgM.Mdl) (f : Ver.Flow) : ∀ k, (Ver.gen M f).1 = some k → ∃ j : Nat, k = (j : Int) ∧ j < M.units.length := by
  unfold Ver.gen
  split
  · intro k h; cases h
  split
  · intro k h; cases h
  · intro k h
    rename_i h2
    simp only [Option.some.injEq] at h
    subst h
    have h3 : Ver.handle M (Ver.pop f).1 = true := by simpa using h2
    simp only [Ver.handle, Bool.and_eq_true] at h3
    obtain ⟨j, h4, h5, -⟩ := isUnit_ok h3.2
    exact ⟨j, h4, h5⟩
/-- a slot, otherwise said -/
theorem Run.look {P : Program} {ops : Array Oper} {Q : Exit → Act → World → Prop} {N d : Nat} {l : List Oper} {E : Env} {L : List Chunk} {v v' : Value} (h : Proofs.Ytfeajpghabjaaaa.look E d = some v) (e : v = v') (k : Run P ops Q N l ((d, v') :: E) L) : Run P ops Q N l E L := by
  subst e
  unfold Run at k ⊢
  exact fun a w hs hm => k a w (hs.sub' h) hm
section
variable (fb cb ab mb : Nat) (m : ML) (r : FR) (z : FS) (q : Nat) (hq : q < m.us.length) (hl : z.st.length ≤ 300) (hst : ∀ t ∈ z.st, ImgM.In64 t)
/-- what 'special' does -/
abbrev SpecFn (i : ImgM.Ins) : Prop := Fn Try.prog 82 #[ptr fb, insV i] [md m] (fm fb cb ab (up m q) r z ++ ck cb mb m) (fun z' => flow r z' = (Ver.special m.mdl (m.us.getD q default).u i (flow r z)).2) (fun _ => .bool (Ver.special m.mdl (m.us.getD q default).u i (flow r z)).1) (fun z' => fm fb cb ab (up m q) r z' ++ ck cb mb m)

include hl hst hq
set_option maxRecDepth 100000 in
theorem special_23 (k : Nat) (n : Int) (hk : k < m.us.length) (hh : Ver.head m.mdl (m.us.getD k default).u = 0) : SpecFn fb cb ab mb m r z q ⟨23, k, n⟩ := by
  have e : Ver.special m.mdl (m.us.getD q default).u ⟨23, k, n⟩ (flow r z) = (true, Ver.push (m.us.getD k default).u.result (Ver.args m.mdl k (flow r z))) := by
    unfold Ver.special; rw [if_pos rfl, Int.toNat_natCast, ML.unit_at]
  unfold SpecFn
  rw [e]
  refine Fn.enter (args := [ptr fb, .agg #[.int .i64 23, .int .i64 (k : Int), .int .i64 n]]) Try.func82 rfl _ Try.ntmps82 rfl (by simp [rd_excl, md_excl]) (fun w S => ?_)
  (try conv => rhs; simp only [List.cons_append, List.nil_append])
  (try conv => rhs; simp only [List.cons_append, List.nil_append])
  repeat (first | refine go (k := ?_) | (refine goB (k := ?_); intro b) | (refine goA (k := ?_); intro ao cap))
  ((first | (apply Run.op; exact rfl) | refine Run.yes_ (h := ?_)); refine OpT.call0_ (spec := args_is fb cb ab mb (up m q) m r z (by omega) k hk hh) (t := by (repeat (first | exact Takes.nil | exact Take.head | (refine Take.blkEq ?_; (focus (first | rfl | (simp; done) | (simp; omega) | omega | (simp [*]; done)))) | (refine Take.arrEq ?_ ?_; (focus (first | rfl | (simp; done) | (simp; omega) | omega | (simp [*]; done))); (focus (first | rfl | (simp; done) | (simp; omega) | omega | (simp [*]; done)))) | apply Take.tail | apply Takes.cons))) (k := ?_); intro s hs; (try conv => rhs; simp only [List.cons_append, List.nil_append]))
  obtain ⟨y, rfl⟩ : ∃ y, y = s := ⟨_, rfl⟩
  have hy := hs
  have hyl := len_of hs (Nat.le_trans (args_le _ _ _) (show (flow r z).stack.length ≤ 300 from hl))
  repeat (first | refine go (k := ?_) | (refine goB (k := ?_); intro b) | (refine goA (k := ?_); intro ao cap))
  ((first | (apply Run.op; exact rfl) | refine Run.yes_ (h := ?_)); refine OpT.call0_ (spec := push_is fb cb ab (up m q) r y (m.us.getD k default).u.result (by omega)) (t := by (repeat (first | exact Takes.nil | exact Take.head | (refine Take.blkEq ?_; (focus (first | rfl | (simp; done) | (simp; omega) | omega | (simp [*]; done)))) | (refine Take.arrEq ?_ ?_; (focus (first | rfl | (simp; done) | (simp; omega) | omega | (simp [*]; done))); (focus (first | rfl | (simp; done) | (simp; omega) | omega | (simp [*]; done)))) | apply Take.tail | apply Takes.cons))) (k := ?_); intro s hs; (try conv => rhs; simp only [List.cons_append, List.nil_append]))
  repeat (first | refine go (k := ?_) | (refine goB (k := ?_); intro b) | (refine goA (k := ?_); intro ao cap))
  (refine End.done1_ (s) (he := by (first | exact rfl | (refine congrArg (Value.int _) ?_; omega) | (refine congrArg (Value.int _) ?_; dsimp only; omega))) (hp := ?_))
  simp only
  rw [hs, hy]

set_option maxRecDepth 100000 in
theorem special_29 (k : Nat) (n : Int) (hk : k < m.us.length) (hu30 : m.us.length ≤ 30) (hh : Ver.head m.mdl (m.us.getD k default).u = 0) : SpecFn fb cb ab mb m r z q ⟨29, k, n⟩ := by
  have e : Ver.special m.mdl (m.us.getD q default).u ⟨29, k, n⟩ (flow r z) = (true, Ver.push (10 + (k : Int)) (Ver.args m.mdl k (flow r z))) := by
    unfold Ver.special; dsimp only; (repeat rw [if_neg (by decide)]); rw [if_pos rfl]
  unfold SpecFn
  rw [e]
  refine Fn.enter (args := [ptr fb, .agg #[.int .i64 29, .int .i64 (k : Int), .int .i64 n]]) Try.func82 rfl _ Try.ntmps82 rfl (by simp [rd_excl, md_excl]) (fun w S => ?_)
  (try conv => rhs; simp only [List.cons_append, List.nil_append])
  (try conv => rhs; simp only [List.cons_append, List.nil_append])
  apply Cod.fact m.Small (fun w hm => (md_holds.1 (hm.has tk)).small) 
  intro hsm
  have hsu : (k : Int) ≤ 1000000 := by omega
  repeat (first | refine go (k := ?_) | (refine goB (k := ?_); intro b) | (refine goA (k := ?_); intro ao cap))
  ((first | (apply Run.op; exact rfl) | refine Run.yes_ (h := ?_)); refine OpT.call0_ (spec := args_is fb cb ab mb (up m q) m r z (by omega) k hk hh) (t := by (repeat (first | exact Takes.nil | exact Take.head | (refine Take.blkEq ?_; (focus (first | rfl | (simp; done) | (simp; omega) | omega | (simp [*]; done)))) | (refine Take.arrEq ?_ ?_; (focus (first | rfl | (simp; done) | (simp; omega) | omega | (simp [*]; done))); (focus (first | rfl | (simp; done) | (simp; omega) | omega | (simp [*]; done)))) | apply Take.tail | apply Takes.cons))) (k := ?_); intro s hs; (try conv => rhs; simp only [List.cons_append, List.nil_append]))
  obtain ⟨y, rfl⟩ : ∃ y, y = s := ⟨_, rfl⟩
  have hy := hs
  have hyl := len_of hs (Nat.le_trans (args_le _ _ _) (show (flow r z).stack.length ≤ 300 from hl))
  repeat (first | refine go (k := ?_) | (refine goB (k := ?_); intro b) | (refine goA (k := ?_); intro ao cap))
  ((first | (apply Run.op; exact rfl) | refine Run.yes_ (h := ?_)); refine OpT.call0_ (spec := push_is fb cb ab (up m q) r y (10 + (k : Int)) (by omega)) (t := by (repeat (first | exact Takes.nil | exact Take.head | (refine Take.blkEq ?_; (focus (first | rfl | (simp; done) | (simp; omega) | omega | (simp [*]; done)))) | (refine Take.arrEq ?_ ?_; (focus (first | rfl | (simp; done) | (simp; omega) | omega | (simp [*]; done))); (focus (first | rfl | (simp; done) | (simp; omega) | omega | (simp [*]; done)))) | apply Take.tail | apply Takes.cons))) (k := ?_); intro s hs; (try conv => rhs; simp only [List.cons_append, List.nil_append]))
  repeat (first | refine go (k := ?_) | (refine goB (k := ?_); intro b) | (refine goA (k := ?_); intro ao cap))
  (refine End.done1_ (s) (he := by (first | exact rfl | (refine congrArg (Value.int _) ?_; omega) | (refine congrArg (Value.int _) ?_; dsimp only; omega))) (hp := ?_))
  simp only
  rw [hs, hy]

set_option maxRecDepth 100000 in
theorem special_24 (a n : Int) : SpecFn fb cb ab mb m r z q ⟨24, a, n⟩ := by
  have e : Ver.special m.mdl (m.us.getD q default).u ⟨24, a, n⟩ (flow r z) = (false, Ver.done (Ver.want [(m.us.getD q default).u.result] (if (m.us.getD q default).u.kind ≠ 2 then Ver.fail 8 (flow r z) else flow r z))) := by
    unfold Ver.special; dsimp only; (repeat rw [if_neg (by decide)]); rw [if_pos rfl]
  unfold SpecFn
  rw [e]
  by_cases hkd : (m.us.getD q default).u.kind = 2
  · rw [if_neg (fun h => h hkd)]
    refine Fn.enter (args := [ptr fb, .agg #[.int .i64 24, .int .i64 a, .int .i64 n]]) Try.func82 rfl _ Try.ntmps82 rfl (by simp [rd_excl, md_excl]) (fun w S => ?_)
    (try conv => rhs; simp only [List.cons_append, List.nil_append])
    (try conv => rhs; simp only [List.cons_append, List.nil_append])
    repeat (first | refine go (k := ?_) | (refine goB (k := ?_); intro b) | (refine goA (k := ?_); intro ao cap))
    ((first | (apply Run.op; exact rfl) | refine Run.yes_ (h := ?_)); refine OpT.call0_ (spec := want_is fb cb ab (up m q) r z _ 1 _ [(m.us.getD q default).u.result] rfl (by omega) (by omega)) (t := by (repeat (first | exact Takes.nil | exact Take.head | (refine Take.blkEq ?_; (focus (first | rfl | (simp; done) | (simp; omega) | omega | (simp [*]; done)))) | (refine Take.arrEq ?_ ?_; (focus (first | rfl | (simp; done) | (simp; omega) | omega | (simp [*]; done))); (focus (first | rfl | (simp; done) | (simp; omega) | omega | (simp [*]; done)))) | apply Take.tail | apply Takes.cons))) (k := ?_); intro s hs; (try conv => rhs; simp only [List.cons_append, List.nil_append]))
    obtain ⟨y, rfl⟩ : ∃ y, y = s := ⟨_, rfl⟩
    have hy := hs
    have hyl := len_of hs (Nat.le_trans (want_le _ _) (show (flow r z).stack.length ≤ 300 from hl))
    repeat (first | refine go (k := ?_) | (refine goB (k := ?_); intro b) | (refine goA (k := ?_); intro ao cap))
    ((first | (apply Run.op; exact rfl) | refine Run.yes_ (h := ?_)); refine OpT.call0_ (spec := done_is fb cb ab (up m q) r y (by omega)) (t := by (repeat (first | exact Takes.nil | exact Take.head | (refine Take.blkEq ?_; (focus (first | rfl | (simp; done) | (simp; omega) | omega | (simp [*]; done)))) | (refine Take.arrEq ?_ ?_; (focus (first | rfl | (simp; done) | (simp; omega) | omega | (simp [*]; done))); (focus (first | rfl | (simp; done) | (simp; omega) | omega | (simp [*]; done)))) | apply Take.tail | apply Takes.cons))) (k := ?_); intro s hs; (try conv => rhs; simp only [List.cons_append, List.nil_append]))
    repeat (first | refine go (k := ?_) | (refine goB (k := ?_); intro b) | (refine goA (k := ?_); intro ao cap))
    (refine End.done1_ (s) (he := by (first | exact rfl | (refine congrArg (Value.int _) ?_; omega) | (refine congrArg (Value.int _) ?_; dsimp only; omega))) (hp := ?_))
    simp only
    rw [hs, hy]
  · rw [if_pos hkd]
    refine Fn.enter (args := [ptr fb, .agg #[.int .i64 24, .int .i64 a, .int .i64 n]]) Try.func82 rfl _ Try.ntmps82 rfl (by simp [rd_excl, md_excl]) (fun w S => ?_)
    (try conv => rhs; simp only [List.cons_append, List.nil_append])
    (try conv => rhs; simp only [List.cons_append, List.nil_append])
    repeat (first | refine go (k := ?_) | (refine goB (k := ?_); intro b) | (refine goA (k := ?_); intro ao cap))
    ((first | (apply Run.op; exact rfl) | refine Run.yes_ (h := ?_)); refine OpT.call0_ (spec := fail_is fb cb ab (up m q) r z 8) (t := by (repeat (first | exact Takes.nil | exact Take.head | (refine Take.blkEq ?_; (focus (first | rfl | (simp; done) | (simp; omega) | omega | (simp [*]; done)))) | (refine Take.arrEq ?_ ?_; (focus (first | rfl | (simp; done) | (simp; omega) | omega | (simp [*]; done))); (focus (first | rfl | (simp; done) | (simp; omega) | omega | (simp [*]; done)))) | apply Take.tail | apply Takes.cons))) (k := ?_); intro s hs; (try conv => rhs; simp only [List.cons_append, List.nil_append]))
    repeat (first | refine go (k := ?_) | (refine goB (k := ?_); intro b) | (refine goA (k := ?_); intro ao cap))
    ((first | (apply Run.op; exact rfl) | refine Run.yes_ (h := ?_)); refine OpT.call0_ (spec := want_is fb cb ab (up m q) r (failE 8 z) _ 1 _ [(m.us.getD q default).u.result] rfl (by omega) (by show z.st.length ≤ 1000; omega)) (t := by (repeat (first | exact Takes.nil | exact Take.head | (refine Take.blkEq ?_; (focus (first | rfl | (simp; done) | (simp; omega) | omega | (simp [*]; done)))) | (refine Take.arrEq ?_ ?_; (focus (first | rfl | (simp; done) | (simp; omega) | omega | (simp [*]; done))); (focus (first | rfl | (simp; done) | (simp; omega) | omega | (simp [*]; done)))) | apply Take.tail | apply Takes.cons))) (k := ?_); intro s hs; (try conv => rhs; simp only [List.cons_append, List.nil_append]))
    obtain ⟨y, rfl⟩ : ∃ y, y = s := ⟨_, rfl⟩
    have hy := hs
    have hyl := len_of hs (Nat.le_trans (want_le _ _) (show (flow r z).stack.length ≤ 300 from hl))
    rw [flow_fail] at hy
    repeat (first | refine go (k := ?_) | (refine goB (k := ?_); intro b) | (refine goA (k := ?_); intro ao cap))
    ((first | (apply Run.op; exact rfl) | refine Run.yes_ (h := ?_)); refine OpT.call0_ (spec := done_is fb cb ab (up m q) r y (by omega)) (t := by (repeat (first | exact Takes.nil | exact Take.head | (refine Take.blkEq ?_; (focus (first | rfl | (simp; done) | (simp; omega) | omega | (simp [*]; done)))) | (refine Take.arrEq ?_ ?_; (focus (first | rfl | (simp; done) | (simp; omega) | omega | (simp [*]; done))); (focus (first | rfl | (simp; done) | (simp; omega) | omega | (simp [*]; done)))) | apply Take.tail | apply Takes.cons))) (k := ?_); intro s hs; (try conv => rhs; simp only [List.cons_append, List.nil_append]))
    repeat (first | refine go (k := ?_) | (refine goB (k := ?_); intro b) | (refine goA (k := ?_); intro ao cap))
    (refine End.done1_ (s) (he := by (first | exact rfl | (refine congrArg (Value.int _) ?_; omega) | (refine congrArg (Value.int _) ?_; dsimp only; omega))) (hp := ?_))
    simp only
    rw [hs, hy]

set_option maxRecDepth 100000 in
theorem special_25 (a n : Int) : SpecFn fb cb ab mb m r z q ⟨25, a, n⟩ := by
  have e : Ver.special m.mdl (m.us.getD q default).u ⟨25, a, n⟩ (flow r z) = (false, Ver.done (if (m.us.getD q default).u.kind = 2 then Ver.fail 8 (flow r z) else flow r z)) := by
    unfold Ver.special; dsimp only; (repeat rw [if_neg (by decide)]); rw [if_pos rfl]
  unfold SpecFn
  rw [e]
  by_cases hkd : (m.us.getD q default).u.kind = 2
  · rw [if_pos hkd]
    refine Fn.enter (args := [ptr fb, .agg #[.int .i64 25, .int .i64 a, .int .i64 n]]) Try.func82 rfl _ Try.ntmps82 rfl (by simp [rd_excl, md_excl]) (fun w S => ?_)
    (try conv => rhs; simp only [List.cons_append, List.nil_append])
    (try conv => rhs; simp only [List.cons_append, List.nil_append])
    repeat (first | refine go (k := ?_) | (refine goB (k := ?_); intro b) | (refine goA (k := ?_); intro ao cap))
    ((first | (apply Run.op; exact rfl) | refine Run.yes_ (h := ?_)); refine OpT.call0_ (spec := fail_is fb cb ab (up m q) r z 8) (t := by (repeat (first | exact Takes.nil | exact Take.head | (refine Take.blkEq ?_; (focus (first | rfl | (simp; done) | (simp; omega) | omega | (simp [*]; done)))) | (refine Take.arrEq ?_ ?_; (focus (first | rfl | (simp; done) | (simp; omega) | omega | (simp [*]; done))); (focus (first | rfl | (simp; done) | (simp; omega) | omega | (simp [*]; done)))) | apply Take.tail | apply Takes.cons))) (k := ?_); intro s hs; (try conv => rhs; simp only [List.cons_append, List.nil_append]))
    repeat (first | refine go (k := ?_) | (refine goB (k := ?_); intro b) | (refine goA (k := ?_); intro ao cap))
    ((first | (apply Run.op; exact rfl) | refine Run.yes_ (h := ?_)); refine OpT.call0_ (spec := done_is fb cb ab (up m q) r (failE 8 z) (by show z.st.length ≤ 1000; omega)) (t := by (repeat (first | exact Takes.nil | exact Take.head | (refine Take.blkEq ?_; (focus (first | rfl | (simp; done) | (simp; omega) | omega | (simp [*]; done)))) | (refine Take.arrEq ?_ ?_; (focus (first | rfl | (simp; done) | (simp; omega) | omega | (simp [*]; done))); (focus (first | rfl | (simp; done) | (simp; omega) | omega | (simp [*]; done)))) | apply Take.tail | apply Takes.cons))) (k := ?_); intro s hs; (try conv => rhs; simp only [List.cons_append, List.nil_append]))
    repeat (first | refine go (k := ?_) | (refine goB (k := ?_); intro b) | (refine goA (k := ?_); intro ao cap))
    (refine End.done1_ (s) (he := by (first | exact rfl | (refine congrArg (Value.int _) ?_; omega) | (refine congrArg (Value.int _) ?_; dsimp only; omega))) (hp := ?_))
    simp only
    rw [hs, flow_fail]
  · rw [if_neg hkd]
    refine Fn.enter (args := [ptr fb, .agg #[.int .i64 25, .int .i64 a, .int .i64 n]]) Try.func82 rfl _ Try.ntmps82 rfl (by simp [rd_excl, md_excl]) (fun w S => ?_)
    (try conv => rhs; simp only [List.cons_append, List.nil_append])
    (try conv => rhs; simp only [List.cons_append, List.nil_append])
    repeat (first | refine go (k := ?_) | (refine goB (k := ?_); intro b) | (refine goA (k := ?_); intro ao cap))
    ((first | (apply Run.op; exact rfl) | refine Run.yes_ (h := ?_)); refine OpT.call0_ (spec := done_is fb cb ab (up m q) r z (by omega)) (t := by (repeat (first | exact Takes.nil | exact Take.head | (refine Take.blkEq ?_; (focus (first | rfl | (simp; done) | (simp; omega) | omega | (simp [*]; done)))) | (refine Take.arrEq ?_ ?_; (focus (first | rfl | (simp; done) | (simp; omega) | omega | (simp [*]; done))); (focus (first | rfl | (simp; done) | (simp; omega) | omega | (simp [*]; done)))) | apply Take.tail | apply Takes.cons))) (k := ?_); intro s hs; (try conv => rhs; simp only [List.cons_append, List.nil_append]))
    repeat (first | refine go (k := ?_) | (refine goB (k := ?_); intro b) | (refine goA (k := ?_); intro ao cap))
    (refine End.done1_ (s) (he := by (first | exact rfl | (refine congrArg (Value.int _) ?_; omega) | (refine congrArg (Value.int _) ?_; dsimp only; omega))) (hp := ?_))
    exact hs

set_option maxRecDepth 100000 in
theorem special_28 (a n : Int) : SpecFn fb cb ab mb m r z q ⟨28, a, n⟩ := by
  have e : Ver.special m.mdl (m.us.getD q default).u ⟨28, a, n⟩ (flow r z) = (true, if (Ver.pop (flow r z)).2.err = 0 ∧ Ver.plain (Ver.pop (flow r z)).1 = false then Ver.fail 9 (Ver.pop (flow r z)).2 else (Ver.pop (flow r z)).2) := by
    unfold Ver.special; dsimp only; (repeat rw [if_neg (by decide)]); rw [if_pos rfl]
  unfold SpecFn
  rw [e]
  refine Fn.enter (args := [ptr fb, .agg #[.int .i64 28, .int .i64 a, .int .i64 n]]) Try.func82 rfl _ Try.ntmps82 rfl (by simp [rd_excl, md_excl]) (fun w S => ?_)
  (try conv => rhs; simp only [List.cons_append, List.nil_append])
  (try conv => rhs; simp only [List.cons_append, List.nil_append])
  repeat (first | refine go (k := ?_) | (refine goB (k := ?_); intro b) | (refine goA (k := ?_); intro ao cap))
  ((first | (apply Run.op; exact rfl) | refine Run.yes_ (h := ?_)); refine OpT.call0_ (spec := pop_is fb cb ab (up m q) r z (by omega)) (t := by (repeat (first | exact Takes.nil | exact Take.head | (refine Take.blkEq ?_; (focus (first | rfl | (simp; done) | (simp; omega) | omega | (simp [*]; done)))) | (refine Take.arrEq ?_ ?_; (focus (first | rfl | (simp; done) | (simp; omega) | omega | (simp [*]; done))); (focus (first | rfl | (simp; done) | (simp; omega) | omega | (simp [*]; done)))) | apply Take.tail | apply Takes.cons))) (k := ?_); intro s hs; (try conv => rhs; simp only [List.cons_append, List.nil_append]))
  obtain ⟨y, rfl⟩ : ∃ y, y = s := ⟨_, rfl⟩
  rw [← hs]
  generalize (Ver.pop (flow r z)).1 = t at *
  clear hs e
  by_cases he : y.err = 0
  · cases hp : Ver.plain t with
    | true =>
      rw [if_neg (fun h => by cases h.2)]
      repeat (first | ((first | (apply Run.op; exact rfl) | refine Run.yes_ (h := ?_)); refine OpT.call0_ (spec := plain_is _) (k := ?_); intro s hs; (try conv => rhs; simp only [List.cons_append, List.nil_append])) | refine go (k := ?_) | (refine goB (k := ?_); intro b) | (refine goA (k := ?_); intro ao cap))
      (refine End.done1_ (y) (he := by (first | exact rfl | (refine congrArg (Value.int _) ?_; omega) | (refine congrArg (Value.int _) ?_; dsimp only; omega))) (hp := ?_))
      rfl
    | false =>
      rw [if_pos ⟨he, rfl⟩]
      repeat (first | ((first | (apply Run.op; exact rfl) | refine Run.yes_ (h := ?_)); refine OpT.call0_ (spec := plain_is _) (k := ?_); intro s hs; (try conv => rhs; simp only [List.cons_append, List.nil_append])) | refine go (k := ?_) | (refine goB (k := ?_); intro b) | (refine goA (k := ?_); intro ao cap))
      ((first | (apply Run.op; exact rfl) | refine Run.yes_ (h := ?_)); refine OpT.call0_ (spec := fail_is fb cb ab (up m q) r y 9) (t := by (repeat (first | exact Takes.nil | exact Take.head | (refine Take.blkEq ?_; (focus (first | rfl | (simp; done) | (simp; omega) | omega | (simp [*]; done)))) | (refine Take.arrEq ?_ ?_; (focus (first | rfl | (simp; done) | (simp; omega) | omega | (simp [*]; done))); (focus (first | rfl | (simp; done) | (simp; omega) | omega | (simp [*]; done)))) | apply Take.tail | apply Takes.cons))) (k := ?_); intro s hs; (try conv => rhs; simp only [List.cons_append, List.nil_append]))
      repeat (first | refine go (k := ?_) | (refine goB (k := ?_); intro b) | (refine goA (k := ?_); intro ao cap))
      (refine End.done1_ (failE 9 y) (he := by (first | exact rfl | (refine congrArg (Value.int _) ?_; omega) | (refine congrArg (Value.int _) ?_; dsimp only; omega))) (hp := ?_))
      exact flow_fail r y 9
  · rw [if_neg (fun h => he h.1)]
    repeat (first | refine go (k := ?_) | (refine goB (k := ?_); intro b) | (refine goA (k := ?_); intro ao cap))
    (refine End.done1_ (y) (he := by (first | exact rfl | (refine congrArg (Value.int _) ?_; omega) | (refine congrArg (Value.int _) ?_; dsimp only; omega))) (hp := ?_))
    rfl

set_option maxRecDepth 100000 in
theorem special_31 (a n : Int) : SpecFn fb cb ab mb m r z q ⟨31, a, n⟩ := by
  have e : Ver.special m.mdl (m.us.getD q default).u ⟨31, a, n⟩ (flow r z) = (true, Ver.push (m.us.getD q default).u.takes (Ver.want [(m.us.getD q default).u.result] (if (m.us.getD q default).u.kind ≠ 3 then Ver.fail 8 (flow r z) else flow r z))) := by
    unfold Ver.special; dsimp only; (repeat rw [if_neg (by decide)]); rw [if_pos rfl]
  unfold SpecFn
  rw [e]
  by_cases hkd : (m.us.getD q default).u.kind = 3
  · rw [if_neg (fun h => h hkd)]
    refine Fn.enter (args := [ptr fb, .agg #[.int .i64 31, .int .i64 a, .int .i64 n]]) Try.func82 rfl _ Try.ntmps82 rfl (by simp [rd_excl, md_excl]) (fun w S => ?_)
    (try conv => rhs; simp only [List.cons_append, List.nil_append])
    (try conv => rhs; simp only [List.cons_append, List.nil_append])
    repeat (first | refine go (k := ?_) | (refine goB (k := ?_); intro b) | (refine goA (k := ?_); intro ao cap))
    ((first | (apply Run.op; exact rfl) | refine Run.yes_ (h := ?_)); refine OpT.call0_ (spec := want_is fb cb ab (up m q) r z _ 1 _ [(m.us.getD q default).u.result] rfl (by omega) (by omega)) (t := by (repeat (first | exact Takes.nil | exact Take.head | (refine Take.blkEq ?_; (focus (first | rfl | (simp; done) | (simp; omega) | omega | (simp [*]; done)))) | (refine Take.arrEq ?_ ?_; (focus (first | rfl | (simp; done) | (simp; omega) | omega | (simp [*]; done))); (focus (first | rfl | (simp; done) | (simp; omega) | omega | (simp [*]; done)))) | apply Take.tail | apply Takes.cons))) (k := ?_); intro s hs; (try conv => rhs; simp only [List.cons_append, List.nil_append]))
    obtain ⟨y, rfl⟩ : ∃ y, y = s := ⟨_, rfl⟩
    have hy := hs
    have hyl := len_of hs (Nat.le_trans (want_le _ _) (show (flow r z).stack.length ≤ 300 from hl))
    repeat (first | refine go (k := ?_) | (refine goB (k := ?_); intro b) | (refine goA (k := ?_); intro ao cap))
    ((first | (apply Run.op; exact rfl) | refine Run.yes_ (h := ?_)); refine OpT.call0_ (spec := push_is fb cb ab (up m q) r y (m.us.getD q default).u.takes (by omega)) (t := by (repeat (first | exact Takes.nil | exact Take.head | (refine Take.blkEq ?_; (focus (first | rfl | (simp; done) | (simp; omega) | omega | (simp [*]; done)))) | (refine Take.arrEq ?_ ?_; (focus (first | rfl | (simp; done) | (simp; omega) | omega | (simp [*]; done))); (focus (first | rfl | (simp; done) | (simp; omega) | omega | (simp [*]; done)))) | apply Take.tail | apply Takes.cons))) (k := ?_); intro s hs; (try conv => rhs; simp only [List.cons_append, List.nil_append]))
    repeat (first | refine go (k := ?_) | (refine goB (k := ?_); intro b) | (refine goA (k := ?_); intro ao cap))
    (refine End.done1_ (s) (he := by (first | exact rfl | (refine congrArg (Value.int _) ?_; omega) | (refine congrArg (Value.int _) ?_; dsimp only; omega))) (hp := ?_))
    simp only
    rw [hs, hy]
  · rw [if_pos hkd]
    refine Fn.enter (args := [ptr fb, .agg #[.int .i64 31, .int .i64 a, .int .i64 n]]) Try.func82 rfl _ Try.ntmps82 rfl (by simp [rd_excl, md_excl]) (fun w S => ?_)
    (try conv => rhs; simp only [List.cons_append, List.nil_append])
    (try conv => rhs; simp only [List.cons_append, List.nil_append])
    repeat (first | refine go (k := ?_) | (refine goB (k := ?_); intro b) | (refine goA (k := ?_); intro ao cap))
    ((first | (apply Run.op; exact rfl) | refine Run.yes_ (h := ?_)); refine OpT.call0_ (spec := fail_is fb cb ab (up m q) r z 8) (t := by (repeat (first | exact Takes.nil | exact Take.head | (refine Take.blkEq ?_; (focus (first | rfl | (simp; done) | (simp; omega) | omega | (simp [*]; done)))) | (refine Take.arrEq ?_ ?_; (focus (first | rfl | (simp; done) | (simp; omega) | omega | (simp [*]; done))); (focus (first | rfl | (simp; done) | (simp; omega) | omega | (simp [*]; done)))) | apply Take.tail | apply Takes.cons))) (k := ?_); intro s hs; (try conv => rhs; simp only [List.cons_append, List.nil_append]))
    repeat (first | refine go (k := ?_) | (refine goB (k := ?_); intro b) | (refine goA (k := ?_); intro ao cap))
    ((first | (apply Run.op; exact rfl) | refine Run.yes_ (h := ?_)); refine OpT.call0_ (spec := want_is fb cb ab (up m q) r (failE 8 z) _ 1 _ [(m.us.getD q default).u.result] rfl (by omega) (by show z.st.length ≤ 1000; omega)) (t := by (repeat (first | exact Takes.nil | exact Take.head | (refine Take.blkEq ?_; (focus (first | rfl | (simp; done) | (simp; omega) | omega | (simp [*]; done)))) | (refine Take.arrEq ?_ ?_; (focus (first | rfl | (simp; done) | (simp; omega) | omega | (simp [*]; done))); (focus (first | rfl | (simp; done) | (simp; omega) | omega | (simp [*]; done)))) | apply Take.tail | apply Takes.cons))) (k := ?_); intro s hs; (try conv => rhs; simp only [List.cons_append, List.nil_append]))
    obtain ⟨y, rfl⟩ : ∃ y, y = s := ⟨_, rfl⟩
    have hy := hs
    have hyl := len_of hs (Nat.le_trans (want_le _ _) (show (flow r z).stack.length ≤ 300 from hl))
    rw [flow_fail] at hy
    repeat (first | refine go (k := ?_) | (refine goB (k := ?_); intro b) | (refine goA (k := ?_); intro ao cap))
    ((first | (apply Run.op; exact rfl) | refine Run.yes_ (h := ?_)); refine OpT.call0_ (spec := push_is fb cb ab (up m q) r y (m.us.getD q default).u.takes (by omega)) (t := by (repeat (first | exact Takes.nil | exact Take.head | (refine Take.blkEq ?_; (focus (first | rfl | (simp; done) | (simp; omega) | omega | (simp [*]; done)))) | (refine Take.arrEq ?_ ?_; (focus (first | rfl | (simp; done) | (simp; omega) | omega | (simp [*]; done))); (focus (first | rfl | (simp; done) | (simp; omega) | omega | (simp [*]; done)))) | apply Take.tail | apply Takes.cons))) (k := ?_); intro s hs; (try conv => rhs; simp only [List.cons_append, List.nil_append]))
    repeat (first | refine go (k := ?_) | (refine goB (k := ?_); intro b) | (refine goA (k := ?_); intro ao cap))
    (refine End.done1_ (s) (he := by (first | exact rfl | (refine congrArg (Value.int _) ?_; omega) | (refine congrArg (Value.int _) ?_; dsimp only; omega))) (hp := ?_))
    simp only
    rw [hs, hy]

set_option maxRecDepth 100000 in
theorem special_32 (a n : Int) : SpecFn fb cb ab mb m r z q ⟨32, a, n⟩ := by
  have e : Ver.special m.mdl (m.us.getD q default).u ⟨32, a, n⟩ (flow r z) = (true, Ver.push 2 (Ver.gen m.mdl (flow r z)).2) := by
    unfold Ver.special; dsimp only; (repeat rw [if_neg (by decide)]); rw [if_pos rfl]
  unfold SpecFn
  rw [e]
  refine Fn.enter (args := [ptr fb, .agg #[.int .i64 32, .int .i64 a, .int .i64 n]]) Try.func82 rfl _ Try.ntmps82 rfl (by simp [rd_excl, md_excl]) (fun w S => ?_)
  (try conv => rhs; simp only [List.cons_append, List.nil_append])
  (try conv => rhs; simp only [List.cons_append, List.nil_append])
  repeat (first | refine go (k := ?_) | (refine goB (k := ?_); intro b) | (refine goA (k := ?_); intro ao cap))
  ((first | (apply Run.op; exact rfl) | refine Run.yes_ (h := ?_)); refine OpT.call0_ (spec := gen_is fb cb ab mb (up m q) m r z (by omega) hst) (t := by (repeat (first | exact Takes.nil | exact Take.head | (refine Take.blkEq ?_; (focus (first | rfl | (simp; done) | (simp; omega) | omega | (simp [*]; done)))) | (refine Take.arrEq ?_ ?_; (focus (first | rfl | (simp; done) | (simp; omega) | omega | (simp [*]; done))); (focus (first | rfl | (simp; done) | (simp; omega) | omega | (simp [*]; done)))) | apply Take.tail | apply Takes.cons))) (k := ?_); intro s hs; (try conv => rhs; simp only [List.cons_append, List.nil_append]))
  obtain ⟨y, rfl⟩ : ∃ y, y = s := ⟨_, rfl⟩
  have hy := hs
  have hyl := len_of hs (gen_le _ _ (show (flow r z).stack.length ≤ 300 from hl))
  repeat (first | refine go (k := ?_) | (refine goB (k := ?_); intro b) | (refine goA (k := ?_); intro ao cap))
  ((first | (apply Run.op; exact rfl) | refine Run.yes_ (h := ?_)); refine OpT.call0_ (spec := push_is fb cb ab (up m q) r y 2 (by omega)) (t := by (repeat (first | exact Takes.nil | exact Take.head | (refine Take.blkEq ?_; (focus (first | rfl | (simp; done) | (simp; omega) | omega | (simp [*]; done)))) | (refine Take.arrEq ?_ ?_; (focus (first | rfl | (simp; done) | (simp; omega) | omega | (simp [*]; done))); (focus (first | rfl | (simp; done) | (simp; omega) | omega | (simp [*]; done)))) | apply Take.tail | apply Takes.cons))) (k := ?_); intro s hs; (try conv => rhs; simp only [List.cons_append, List.nil_append]))
  repeat (first | refine go (k := ?_) | (refine goB (k := ?_); intro b) | (refine goA (k := ?_); intro ao cap))
  (refine End.done1_ (s) (he := by (first | exact rfl | (refine congrArg (Value.int _) ?_; omega) | (refine congrArg (Value.int _) ?_; dsimp only; omega))) (hp := ?_))
  simp only
  rw [hs, hy]

set_option maxRecDepth 100000 in
theorem special_26 (k : Nat) (n : Int) (hk : k < m.bx.length) : SpecFn fb cb ab mb m r z q ⟨26, k, n⟩ := by
  have e : Ver.special m.mdl (m.us.getD q default).u ⟨26, k, n⟩ (flow r z) = (true, Ver.want [(m.bx.getD k default).1] (flow r z)) := by
    unfold Ver.special; dsimp only; (repeat rw [if_neg (by decide)]); rw [if_pos rfl]; rw [Int.toNat_natCast]
  unfold SpecFn
  rw [e]
  refine Fn.enter (args := [ptr fb, .agg #[.int .i64 26, .int .i64 (k : Int), .int .i64 n]]) Try.func82 rfl _ Try.ntmps82 rfl (by simp [rd_excl, md_excl]) (fun w S => ?_)
  (try conv => rhs; simp only [List.cons_append, List.nil_append])
  (try conv => rhs; simp only [List.cons_append, List.nil_append])
  repeat (first | refine go (k := ?_) | (refine goB (k := ?_); intro b) | (refine goA (k := ?_); intro ao cap))
  apply Cod.draw 17 ([md m, blk fb (fcells cb ab (up m q) r z) 93, blk cb [.pointer (some ⟨mb, 0, none⟩)] 61, blk mb [.slice m.bo m.bx.length m.bc, .slice m.uo m.us.length m.uc] 25, blk b [.int .i64 26, .int .i64 (k : Int), .int .i64 n] 57]) (by kernel_rfl) 18 rfl
  refine RunT.takeR_ 0 (h := ?_)
  refine RunT.takeR_ 1 (h := ?_)
  refine RunT.takeR_ 2 (h := ?_)
  refine RunT.takeR_ 3 (h := ?_)
  refine RunT.takeR_ 4 (h := ?_)
  refine RunT.takeR_ 5 (h := ?_)
  refine RunT.takeR_ 6 (h := ?_)
  refine RunT.takeR_ 7 (h := ?_)
  refine RunT.takeR_ 8 (h := ?_)
  refine RunT.takeR_ 9 (h := ?_)
  refine RunT.takeR_ 10 (h := ?_)
  refine RunT.takeR_ 11 (h := ?_)
  refine RunT.takeR_ 12 (h := ?_)
  refine RunT.takeR_ 13 (h := ?_)
  refine RunT.takeR_ 14 (h := ?_)
  refine RunT.takeR_ 15 (h := ?_)
  (refine RunT.one_ 16 (h := ?_); (first | refine OpT.val_ (k := ?_) | (refine OpT.alloc_ (k := ?_); intro b) | (refine OpT.box_ (k := ?_); intro b) | refine OpT.store_ (k := ?_) | (refine OpT.buildSlice_ (k := ?_); intro b) | (refine OpT.buildSlice0_ (k := ?_); intro b) | (refine OpT.append1_ (k := ?_); intro ao cap) | (refine OpT.cutA0_ (k := ?_); intro ao cap) | (refine OpT.cutR0_ (k := ?_); intro ao cap) | (refine OpT.cutA1_ (k := ?_); intro ao cap) | (refine OpT.cutA_ (k := ?_); intro ao cap) | (refine OpT.cutR_ (k := ?_); intro ao cap)); refine And.intro gud ?_)
  (refine RunT.one_ 17 (h := ?_); refine OpT.call0_ (spec := want_is fb cb ab (up m q) r z _ 1 _ [(m.bx.getD k default).1] rfl (by omega) (by omega)) (k := ?_); intro s hs; refine And.intro gud ?_; (try conv => rhs; simp only [List.cons_append, List.nil_append]))
  (apply RunT.done; kernel_rfl)
  repeat (first | refine go (k := ?_) | (refine goB (k := ?_); intro b) | (refine goA (k := ?_); intro ao cap))
  (refine End.done1_ (s) (he := by (first | exact rfl | (refine congrArg (Value.int _) ?_; omega) | (refine congrArg (Value.int _) ?_; dsimp only; omega))) (hp := ?_))
  exact hs

set_option maxRecDepth 100000 in
theorem special_27 (k : Nat) (n : Int) (hk : k < m.bx.length) : SpecFn fb cb ab mb m r z q ⟨27, k, n⟩ := by
  have e : Ver.special m.mdl (m.us.getD q default).u ⟨27, k, n⟩ (flow r z) = (true, Ver.push (m.bx.getD k default).1 (flow r z)) := by
    unfold Ver.special; dsimp only; (repeat rw [if_neg (by decide)]); rw [if_pos rfl]; rw [Int.toNat_natCast]
  unfold SpecFn
  rw [e]
  refine Fn.enter (args := [ptr fb, .agg #[.int .i64 27, .int .i64 (k : Int), .int .i64 n]]) Try.func82 rfl _ Try.ntmps82 rfl (by simp [rd_excl, md_excl]) (fun w S => ?_)
  (try conv => rhs; simp only [List.cons_append, List.nil_append])
  (try conv => rhs; simp only [List.cons_append, List.nil_append])
  repeat (first | refine go (k := ?_) | (refine goB (k := ?_); intro b) | (refine goA (k := ?_); intro ao cap))
  ((first | (apply Run.op; exact rfl) | refine Run.yes_ (h := ?_)); refine OpT.call0_ (spec := push_is fb cb ab (up m q) r z (m.bx.getD k default).1 (by omega)) (t := by (repeat (first | exact Takes.nil | exact Take.head | (refine Take.blkEq ?_; (focus (first | rfl | (simp; done) | (simp; omega) | omega | (simp [*]; done)))) | (refine Take.arrEq ?_ ?_; (focus (first | rfl | (simp; done) | (simp; omega) | omega | (simp [*]; done))); (focus (first | rfl | (simp; done) | (simp; omega) | omega | (simp [*]; done)))) | apply Take.tail | apply Takes.cons))) (k := ?_); intro s hs; (try conv => rhs; simp only [List.cons_append, List.nil_append]))
  repeat (first | refine go (k := ?_) | (refine goB (k := ?_); intro b) | (refine goA (k := ?_); intro ao cap))
  (refine End.done1_ (s) (he := by (first | exact rfl | (refine congrArg (Value.int _) ?_; omega) | (refine congrArg (Value.int _) ?_; dsimp only; omega))) (hp := ?_))
  exact hs

set_option maxRecDepth 100000 in
theorem special_30 (a n : Int) : SpecFn fb cb ab mb m r z q ⟨30, a, n⟩ := by
  obtain ⟨F, hF⟩ : ∃ F, F = (match Ver.gen m.mdl (Ver.pop (flow r z)).2 with
    | (none, g) => g
    | (some k, g) => Ver.push (m.mdl.units.getD k.toNat default).result (if (Ver.pop (flow r z)).1 ≠ (m.mdl.units.getD k.toNat default).takes then Ver.fail 9 g else g)) := ⟨_, rfl⟩
  have e : Ver.special m.mdl (m.us.getD q default).u ⟨30, a, n⟩ (flow r z) = (true, F) := by
    unfold Ver.special; dsimp only; (repeat rw [if_neg (by decide)]); rw [if_pos rfl, hF]; rfl
  unfold SpecFn
  rw [e]
  clear e
  refine Fn.enter (args := [ptr fb, .agg #[.int .i64 30, .int .i64 a, .int .i64 n]]) Try.func82 rfl _ Try.ntmps82 rfl (by simp [rd_excl, md_excl]) (fun w S => ?_)
  (try conv => rhs; simp only [List.cons_append, List.nil_append])
  (try conv => rhs; simp only [List.cons_append, List.nil_append])
  apply Cod.fact (∀ k, k < m.us.length → (place (sz ucell) m.uo k 0).isSome = true) (fun w hm k hk => (Rdb.md_units tk).place hm hk 0)
  intro hpl
  repeat (first | refine go (k := ?_) | (refine goB (k := ?_); intro b) | (refine goA (k := ?_); intro ao cap))
  ((first | (apply Run.op; exact rfl) | refine Run.yes_ (h := ?_)); refine OpT.call0_ (spec := pop_is fb cb ab (up m q) r z (by omega)) (t := by (repeat (first | exact Takes.nil | exact Take.head | (refine Take.blkEq ?_; (focus (first | rfl | (simp; done) | (simp; omega) | omega | (simp [*]; done)))) | (refine Take.arrEq ?_ ?_; (focus (first | rfl | (simp; done) | (simp; omega) | omega | (simp [*]; done))); (focus (first | rfl | (simp; done) | (simp; omega) | omega | (simp [*]; done)))) | apply Take.tail | apply Takes.cons))) (k := ?_); intro s hs; (try conv => rhs; simp only [List.cons_append, List.nil_append]))
  obtain ⟨y, rfl⟩ : ∃ y, y = s := ⟨_, rfl⟩
  have hyl := len_of hs (Nat.le_trans (pop_le _) (show (flow r z).stack.length ≤ 300 from hl))
  have hyt : ∀ t ∈ y.st, ImgM.In64 t := fun t ht => hst t (pop_sub _ _ (by rw [← hs]; exact ht))
  rw [← hs] at hF
  generalize (Ver.pop (flow r z)).1 = v at *
  clear hs
  repeat (first | refine go (k := ?_) | (refine goB (k := ?_); intro b) | (refine goA (k := ?_); intro ao cap))
  ((first | (apply Run.op; exact rfl) | refine Run.yes_ (h := ?_)); refine OpT.call0_ (spec := gen_is fb cb ab mb (up m q) m r y (by omega) hyt) (t := by (repeat (first | exact Takes.nil | exact Take.head | (refine Take.blkEq ?_; (focus (first | rfl | (simp; done) | (simp; omega) | omega | (simp [*]; done)))) | (refine Take.arrEq ?_ ?_; (focus (first | rfl | (simp; done) | (simp; omega) | omega | (simp [*]; done))); (focus (first | rfl | (simp; done) | (simp; omega) | omega | (simp [*]; done)))) | apply Take.tail | apply Takes.cons))) (k := ?_); intro s hs; (try conv => rhs; simp only [List.cons_append, List.nil_append]))
  obtain ⟨x, rfl⟩ : ∃ x, x = s := ⟨_, rfl⟩
  have hxl := len_of hs (gen_le m.mdl (flow r y) hyl)
  have hgk := gen_ok m.mdl (flow r y)
  generalize hg : Ver.gen m.mdl (flow r y) = G at *
  obtain ⟨o, g⟩ := G
  simp only at hs hgk hxl hF
  subst hs
  cases o with
  | none =>
    simp only at hF
    repeat (first | refine go (k := ?_) | (refine goB (k := ?_); intro b) | (refine goA (k := ?_); intro ao cap))
    (refine End.done1_ (x) (he := by (first | exact rfl | (refine congrArg (Value.int _) ?_; omega) | (refine congrArg (Value.int _) ?_; dsimp only; omega))) (hp := ?_))
    exact hF.symm
  | some k =>
    obtain ⟨j, rfl, hj⟩ := hgk k rfl
    have hj' : j < m.us.length := by simpa using hj
    have hpj := hpl j hj'
    have hF2 : F = Ver.push (m.us.getD j default).u.result (if v ≠ (m.us.getD j default).u.takes then Ver.fail 9 (flow r x) else flow r x) := by
      rw [hF]
      simp only [Int.toNat_natCast, getD_u]
    clear hF
    have hF := hF2
    clear hF2
    have hgv : genV m (some ((j : Nat) : Int)) = up m j := by simp only [genV, Int.toNat_natCast]
    apply Run.look (d := 130) (by exact rfl) hgv
    by_cases hv : v = (m.us.getD j default).u.takes
    · rw [if_neg (fun h => h hv)] at hF
      repeat (first | refine go (k := ?_) | (refine goB (k := ?_); intro b) | (refine goA (k := ?_); intro ao cap))
      ((first | (apply Run.op; exact rfl) | refine Run.yes_ (h := ?_)); refine OpT.call0_ (spec := push_is fb cb ab (up m q) r x (m.us.getD j default).u.result (by omega)) (t := by (repeat (first | exact Takes.nil | exact Take.head | (refine Take.blkEq ?_; (focus (first | rfl | (simp; done) | (simp; omega) | omega | (simp [*]; done)))) | (refine Take.arrEq ?_ ?_; (focus (first | rfl | (simp; done) | (simp; omega) | omega | (simp [*]; done))); (focus (first | rfl | (simp; done) | (simp; omega) | omega | (simp [*]; done)))) | apply Take.tail | apply Takes.cons))) (k := ?_); intro s hs; (try conv => rhs; simp only [List.cons_append, List.nil_append]))
      repeat (first | refine go (k := ?_) | (refine goB (k := ?_); intro b) | (refine goA (k := ?_); intro ao cap))
      (refine End.done1_ (s) (he := by (first | exact rfl | (refine congrArg (Value.int _) ?_; omega) | (refine congrArg (Value.int _) ?_; dsimp only; omega))) (hp := ?_))
      exact hs.trans hF.symm
    · rw [if_pos hv] at hF
      repeat (first | refine go (k := ?_) | (refine goB (k := ?_); intro b) | (refine goA (k := ?_); intro ao cap))
      ((first | (apply Run.op; exact rfl) | refine Run.yes_ (h := ?_)); refine OpT.call0_ (spec := fail_is fb cb ab (up m q) r x 9) (t := by (repeat (first | exact Takes.nil | exact Take.head | (refine Take.blkEq ?_; (focus (first | rfl | (simp; done) | (simp; omega) | omega | (simp [*]; done)))) | (refine Take.arrEq ?_ ?_; (focus (first | rfl | (simp; done) | (simp; omega) | omega | (simp [*]; done))); (focus (first | rfl | (simp; done) | (simp; omega) | omega | (simp [*]; done)))) | apply Take.tail | apply Takes.cons))) (k := ?_); intro s hs; (try conv => rhs; simp only [List.cons_append, List.nil_append]))
      repeat (first | refine go (k := ?_) | (refine goB (k := ?_); intro b) | (refine goA (k := ?_); intro ao cap))
      ((first | (apply Run.op; exact rfl) | refine Run.yes_ (h := ?_)); refine OpT.call0_ (spec := push_is fb cb ab (up m q) r (failE 9 x) (m.us.getD j default).u.result (by show x.st.length ≤ 1000; omega)) (t := by (repeat (first | exact Takes.nil | exact Take.head | (refine Take.blkEq ?_; (focus (first | rfl | (simp; done) | (simp; omega) | omega | (simp [*]; done)))) | (refine Take.arrEq ?_ ?_; (focus (first | rfl | (simp; done) | (simp; omega) | omega | (simp [*]; done))); (focus (first | rfl | (simp; done) | (simp; omega) | omega | (simp [*]; done)))) | apply Take.tail | apply Takes.cons))) (k := ?_); intro s hs; (try conv => rhs; simp only [List.cons_append, List.nil_append]))
      repeat (first | refine go (k := ?_) | (refine goB (k := ?_); intro b) | (refine goA (k := ?_); intro ao cap))
      (refine End.done1_ (s) (he := by (first | exact rfl | (refine congrArg (Value.int _) ?_; omega) | (refine congrArg (Value.int _) ?_; dsimp only; omega))) (hp := ?_))
      rw [hF, ← flow_fail]
      exact hs
end
end Go.Proofs.Ytfeajpghabjaaaa.Vw
