/- verify's flow, walked: what is done with the stack. -/
import Derived.Test.YtfeajpghabjaaaaM15
namespace Go.Proofs.Ytfeajpghabjaaaa.Vw
open Go.RowKit Go.Proofs.Ytfeajpghabjaaaa.Img
set_option linter.unusedVariables false
set_option linter.unusedSimpArgs false
attribute [local irreducible] Run Cod End OpT Still RunQ RunS RunT Fn PutOk

/-- what is known at an instruction, and where it lies -/
structure SH where
  st : List Int
  so : Option Addr
  sc : Nat
  hs : List Bool
  ho : Option Addr
  hc : Nat
instance : Inhabited SH := ⟨⟨[], none, 0, [], none, 0⟩⟩
def shV (x : SH) : Value := .agg #[.slice x.so x.st.length x.sc, .slice x.ho x.hs.length x.hc]
/-- a flow's stack, and its fault -/
structure FS where
  st : List Int
  so : Option Addr
  sc : Nat
  err : Int
/-- the rest of a flow -/
structure FR where
  ents : List (Int × SH)
  todo : List Int
  to_ : Option Addr
  tc : Nat
  has : List Bool
  ho : Option Addr
  hc : Nat
def FR.at_ (r : FR) : List (Int × Ver.Shape) := r.ents.map fun p => (p.1, (p.2.st, p.2.hs))
def flow (r : FR) (s : FS) : Ver.Flow := ⟨r.at_, r.todo, s.st, r.has, s.err⟩
abbrev fcells (cb ab : Nat) (u : Value) (r : FR) (s : FS) : List Value :=
  [.pointer (some ⟨cb, 0, none⟩), u, .map (some ab), .slice r.to_ r.todo.length r.tc, .slice s.so s.st.length s.sc, .slice r.ho r.has.length r.hc, .int .i64 s.err]
/-- a flow's variable, and its stack -/
abbrev fm (fb cb ab : Nat) (u : Value) (r : FR) (s : FS) : List Chunk := [blk fb (fcells cb ab u r s) 93, arr s.so s.st.length s.sc 3 i64c s.st]

/-- 'fail' -/
abbrev errE (e e0 : Int) : Int := if e0 = 0 then e else e0
abbrev failE (e : Int) (s : FS) : FS := ⟨s.st, s.so, s.sc, errE e s.err⟩
theorem flow_fail (r : FR) (s : FS) (e : Int) : flow r (failE e s) = Ver.fail e (flow r s) := by
  unfold Ver.fail flow
  by_cases h : s.err = 0 <;> simp [h]
set_option maxRecDepth 100000 in
theorem fail_is' (fb cb ab : Nat) (u : Value) (r : FR) (z : FS) (e E : Int) (hE : errE e z.err = E) : Fn Try.prog 76 #[ptr fb, .int .i64 e] [] [blk fb (fcells cb ab u r z) 93] (σ := Unit) (fun _ => True) (fun _ => .tuple #[]) (fun _ => [blk fb (fcells cb ab u r ⟨z.st, z.so, z.sc, E⟩) 93]) := by
  by_cases h0 : z.err = 0
  · obtain rfl : E = e := by rw [← hE]; exact if_pos h0
    refine Fn.enter (args := [ptr fb, .int .i64 E]) Try.func76 rfl _ Try.ntmps76 rfl (by simp [rd_excl, md_excl]) (fun w S => ?_)
    (try conv => rhs; simp only [List.cons_append, List.nil_append])
    repeat (first | refine go (k := ?_) | (refine goB (k := ?_); intro b) | (refine goA (k := ?_); intro ao cap))
    (refine End.done0'_ (()) (hp := ?_))
    trivial
  · obtain rfl : E = z.err := by rw [← hE]; exact if_neg h0
    refine Fn.enter (args := [ptr fb, .int .i64 e]) Try.func76 rfl _ Try.ntmps76 rfl (by simp [rd_excl, md_excl]) (fun w S => ?_)
    (try conv => rhs; simp only [List.cons_append, List.nil_append])
    repeat (first | refine go (k := ?_) | (refine goB (k := ?_); intro b) | (refine goA (k := ?_); intro ao cap))
    (refine End.done0'_ (()) (hp := ?_))
    trivial
theorem fail_is (fb cb ab : Nat) (u : Value) (r : FR) (z : FS) (e : Int) : Fn Try.prog 76 #[ptr fb, .int .i64 e] [] [blk fb (fcells cb ab u r z) 93] (σ := Unit) (fun _ => True) (fun _ => .tuple #[]) (fun _ => [blk fb (fcells cb ab u r (failE e z)) 93]) := fail_is' fb cb ab u r z e _ rfl

set_option maxRecDepth 100000 in
theorem pop_is (fb cb ab : Nat) (u : Value) (r : FR) (z : FS) (hl : z.st.length ≤ 1000) : Fn Try.prog 81 #[ptr fb] [] (fm fb cb ab u r z) (fun z' => flow r z' = (Ver.pop (flow r z)).2) (fun _ => .int .i64 (Ver.pop (flow r z)).1) (fun z' => fm fb cb ab u r z') := by
  by_cases h0 : z.st.length = 0
  · have hp : Ver.pop (flow r z) = (0, Ver.fail 12 (flow r z)) := by unfold Ver.pop; exact if_pos h0
    rw [hp]
    refine Fn.enter (args := [ptr fb]) Try.func81 rfl _ Try.ntmps81 rfl (by simp [rd_excl, md_excl]) (fun w S => ?_)
    (try conv => rhs; simp only [List.cons_append, List.nil_append])
    repeat (first | refine go (k := ?_) | (refine goB (k := ?_); intro b) | (refine goA (k := ?_); intro ao cap))
    (apply Run.op; exact rfl; refine OpT.call0_ (spec := fail_is fb cb ab u r z 12) (k := ?_); intro s hs; (try conv => rhs; simp only [List.cons_append, List.nil_append]))
    repeat (first | refine go (k := ?_) | (refine goB (k := ?_); intro b) | (refine goA (k := ?_); intro ao cap))
    (refine End.done1_ ((failE 12 z)) (he := by (first | exact rfl | (refine congrArg (Value.int _) ?_; omega) | (refine congrArg (Value.int _) ?_; dsimp only; omega))) (hp := ?_))
    exact flow_fail r z 12
  · have hp : Ver.pop (flow r z) = (z.st.getD (z.st.length - 1) default, { flow r z with stack := z.st.take (z.st.length - 1) }) := by unfold Ver.pop; exact if_neg h0
    rw [hp]
    have hn : IntKind.i64.wrap ((z.st.length : Int) - 1) = ((z.st.length - 1 : Nat) : Int) := by rw [wrap_i64_in (by omega)]; omega
    have hlen : (z.st.take (z.st.length - 1)).length = z.st.length - 1 := by simp
    refine Fn.enter (args := [ptr fb]) Try.func81 rfl _ Try.ntmps81 rfl (by simp [rd_excl, md_excl]) (fun w S => ?_)
    (try conv => rhs; simp only [List.cons_append, List.nil_append])
    repeat (first | refine go (k := ?_) | (refine goB (k := ?_); intro b) | (refine goA (k := ?_); intro ao cap))
    (refine End.done1_ ((⟨z.st.take (z.st.length - 1), ao, cap, z.err⟩ : FS)) (he := by (first | exact rfl | (refine congrArg (Value.int _) ?_; omega) | (refine congrArg (Value.int _) ?_; dsimp only; omega))) (ht := by (repeat (first | exact Takes.nil | exact Take.head | (refine Take.blkEq ?_; (focus (first | rfl | (simp; done) | (simp; omega) | omega | (simp [*]; done)))) | (refine Take.arrEq ?_ ?_; (focus (first | rfl | (simp; done) | (simp; omega) | omega | (simp [*]; done))); (focus (first | rfl | (simp; done) | (simp; omega) | omega | (simp [*]; done)))) | apply Take.tail | apply Takes.cons))) (hp := ?_))
    rfl

set_option maxRecDepth 100000 in
theorem push_is (fb cb ab : Nat) (u : Value) (r : FR) (z : FS) (t : Int) (hl : z.st.length ≤ 1000) : Fn Try.prog 79 #[ptr fb, .int .i64 t] [] (fm fb cb ab u r z) (fun z' => flow r z' = Ver.push t (flow r z)) (fun _ => .tuple #[]) (fun z' => fm fb cb ab u r z') := by
  by_cases h0 : 300 < z.st.length + 1
  · have hp : Ver.push t (flow r z) = Ver.fail 4 { flow r z with stack := z.st ++ [t] } := by unfold Ver.push; exact if_pos h0
    rw [hp]
    refine Fn.enter (args := [ptr fb, .int .i64 t]) Try.func79 rfl _ Try.ntmps79 rfl (by simp [rd_excl, md_excl]) (fun w S => ?_)
    (try conv => rhs; simp only [List.cons_append, List.nil_append])
    repeat (first | refine go (k := ?_) | (refine goB (k := ?_); intro b) | (refine goA (k := ?_); intro ao cap))
    ((first | (apply Run.op; exact rfl) | refine Run.yes_ (h := ?_)); refine OpT.call0_ (spec := fail_is fb cb ab u r ⟨z.st ++ [t], ao, cap, z.err⟩ 4) (t := by (repeat (first | exact Takes.nil | exact Take.head | (refine Take.blkEq ?_; (focus (first | rfl | (simp; done) | (simp; omega) | omega | (simp [*]; done)))) | (refine Take.arrEq ?_ ?_; (focus (first | rfl | (simp; done) | (simp; omega) | omega | (simp [*]; done))); (focus (first | rfl | (simp; done) | (simp; omega) | omega | (simp [*]; done)))) | apply Take.tail | apply Takes.cons))) (k := ?_); intro s hs; (try conv => rhs; simp only [List.cons_append, List.nil_append]))
    repeat (first | refine go (k := ?_) | (refine goB (k := ?_); intro b) | (refine goA (k := ?_); intro ao cap))
    (refine End.done0'_ (failE 4 ⟨z.st ++ [t], ao, cap, z.err⟩) (ht := by (repeat (first | exact Takes.nil | exact Take.head | (refine Take.blkEq ?_; (focus (first | rfl | (simp; done) | (simp; omega) | omega | (simp [*]; done)))) | (refine Take.arrEq ?_ ?_; (focus (first | rfl | (simp; done) | (simp; omega) | omega | (simp [*]; done))); (focus (first | rfl | (simp; done) | (simp; omega) | omega | (simp [*]; done)))) | apply Take.tail | apply Takes.cons))) (hp := ?_))
    exact flow_fail r ⟨z.st ++ [t], ao, cap, z.err⟩ 4
  · have hp : Ver.push t (flow r z) = { flow r z with stack := z.st ++ [t] } := by unfold Ver.push; exact if_neg h0
    rw [hp]
    refine Fn.enter (args := [ptr fb, .int .i64 t]) Try.func79 rfl _ Try.ntmps79 rfl (by simp [rd_excl, md_excl]) (fun w S => ?_)
    (try conv => rhs; simp only [List.cons_append, List.nil_append])
    repeat (first | refine go (k := ?_) | (refine goB (k := ?_); intro b) | (refine goA (k := ?_); intro ao cap))
    (refine End.done0'_ ((⟨z.st ++ [t], ao, cap, z.err⟩ : FS)) (ht := by (repeat (first | exact Takes.nil | exact Take.head | (refine Take.blkEq ?_; (focus (first | rfl | (simp; done) | (simp; omega) | omega | (simp [*]; done)))) | (refine Take.arrEq ?_ ?_; (focus (first | rfl | (simp; done) | (simp; omega) | omega | (simp [*]; done))); (focus (first | rfl | (simp; done) | (simp; omega) | omega | (simp [*]; done)))) | apply Take.tail | apply Takes.cons))) (hp := ?_))
    rfl

set_option maxRecDepth 100000 in
theorem done_is (fb cb ab : Nat) (u : Value) (r : FR) (z : FS) (hl : z.st.length ≤ 1000) : Fn Try.prog 101 #[ptr fb] [] (fm fb cb ab u r z) (fun z' => flow r z' = Ver.done (flow r z)) (fun _ => .bool false) (fun z' => fm fb cb ab u r z') := by
  by_cases h0 : z.st.length = 0
  · have hp : Ver.done (flow r z) = flow r z := by unfold Ver.done; exact if_pos h0
    rw [hp]
    refine Fn.enter (args := [ptr fb]) Try.func101 rfl _ Try.ntmps101 rfl (by simp [rd_excl, md_excl]) (fun w S => ?_)
    (try conv => rhs; simp only [List.cons_append, List.nil_append])
    repeat (first | refine go (k := ?_) | (refine goB (k := ?_); intro b) | (refine goA (k := ?_); intro ao cap))
    (refine End.done1_ (z) (he := by (first | exact rfl | (refine congrArg (Value.int _) ?_; omega) | (refine congrArg (Value.int _) ?_; dsimp only; omega))) (hp := ?_))
    rfl
  · have hp : Ver.done (flow r z) = Ver.fail 12 (flow r z) := by unfold Ver.done; exact if_neg h0
    rw [hp]
    refine Fn.enter (args := [ptr fb]) Try.func101 rfl _ Try.ntmps101 rfl (by simp [rd_excl, md_excl]) (fun w S => ?_)
    (try conv => rhs; simp only [List.cons_append, List.nil_append])
    repeat (first | refine go (k := ?_) | (refine goB (k := ?_); intro b) | (refine goA (k := ?_); intro ao cap))
    (apply Run.op; exact rfl; refine OpT.call0_ (spec := fail_is fb cb ab u r z 12) (k := ?_); intro s hs; (try conv => rhs; simp only [List.cons_append, List.nil_append]))
    repeat (first | refine go (k := ?_) | (refine goB (k := ?_); intro b) | (refine goA (k := ?_); intro ao cap))
    (refine End.done1_ (failE 12 z) (he := by (first | exact rfl | (refine congrArg (Value.int _) ?_; omega) | (refine congrArg (Value.int _) ?_; dsimp only; omega))) (hp := ?_))
    exact flow_fail r z 12

theorem pop_le (f : Ver.Flow) : (Ver.pop f).2.stack.length ≤ f.stack.length := by
  unfold Ver.pop Ver.fail
  split
  · split <;> simp
  · simp
theorem want1_le (t : Int) (f : Ver.Flow) : (Ver.want1 t f).stack.length ≤ f.stack.length := by
  have := pop_le f
  unfold Ver.want1
  split
  · unfold Ver.fail; split <;> exact this
  · exact this
theorem want_le (l : List Int) (f : Ver.Flow) : (Ver.want l f).stack.length ≤ f.stack.length := by
  induction l with
  | nil => exact Nat.le_refl _
  | cons t r ih => exact Nat.le_trans (want1_le t _) ih
set_option maxRecDepth 100000 in
theorem want_is (fb cb ab : Nat) (u : Value) (r : FR) (z : FS) (ao : Option Addr) (n cap : Nat) (l : List Int) (hn : l.length = n) (hn2 : n ≤ 1000) (hl : z.st.length ≤ 1000) :
    Fn Try.prog 80 #[ptr fb, .slice ao n cap] [rd ao n cap i64c l] (fm fb cb ab u r z) (fun z' => flow r z' = Ver.want l (flow r z)) (fun _ => .tuple #[]) (fun z' => fm fb cb ab u r z') := by
  refine Fn.enter (args := [ptr fb, .slice ao n cap]) Try.func80 rfl _ Try.ntmps80 rfl (by simp [rd_excl, md_excl]) (fun w S => ?_)
  (try conv => rhs; simp only [List.cons_append, List.nil_append])
  repeat (first | refine go (k := ?_) | (refine goB (k := ?_); intro b) | (refine goA (k := ?_); intro ao cap))
  apply Cod.loop (σ := Nat × FS) (fun s => s.1 ≤ n ∧ flow r s.2 = Ver.want (l.drop s.1) (flow r z)) (fun s => [(0, ptr fb), (1, .slice ao n cap), (4, .int .i64 ((s.1 : Int) - 1))]) (fun s => old w S :: rd ao n cap i64c l :: fm fb cb ab u r s.2) (fun s => s.1) (n, z)
  rotate_left
  exact sb
  exact tks
  intro s hs K hK
  (try conv => rhs; simp only [List.cons_append, List.nil_append])
  rotate_left
  · exact ⟨Nat.le_refl _, by rw [List.drop_of_length_le (by simp only; omega)]; rfl⟩
  obtain ⟨k, y⟩ := s
  obtain ⟨hk, hy⟩ := hs
  simp only at hk hy hK ⊢
  have hyl : y.st.length ≤ 1000 := by
    have h1 := want_le (l.drop k) (flow r z)
    rw [← hy] at h1
    exact Nat.le_trans h1 hl
  by_cases hk0 : k = 0
  · subst hk0
    repeat (first | refine go (k := ?_) | (refine goB (k := ?_); intro b) | (refine goA (k := ?_); intro ao cap))
    (refine End.done0'_ (y) (hp := ?_))
    exact hy
  · obtain ⟨j, rfl⟩ : ∃ j, k = j + 1 := ⟨k - 1, by omega⟩
    have hd : Ver.want (l.drop j) (flow r z) = Ver.want1 (l.getD j default) (flow r y) := by rw [drop_cons (by omega), hy]; rfl
    have hj : (((j + 1 : Nat) : Int) - 1) = (j : Int) := by omega
    rw [hj]
    repeat (first | refine go (k := ?_) | (refine goB (k := ?_); intro b) | (refine goA (k := ?_); intro ao cap))
    (apply Run.op; exact rfl; refine OpT.call0_ (spec := pop_is fb cb ab u r y hyl) (k := ?_); intro s hs; (try conv => rhs; simp only [List.cons_append, List.nil_append]))
    by_cases hv : (Ver.pop (flow r y)).1 = l.getD j default
    · repeat (first | refine go (k := ?_) | (refine goB (k := ?_); intro b) | (refine goA (k := ?_); intro ao cap))
      refine End.round_ hK (j, s) ?_ ?_
      · refine ⟨by simp only; omega, ?_⟩
        rw [hd, Ver.want1, if_neg (fun h => h hv)]
        exact hs
      · simp only; omega
    · repeat (first | refine go (k := ?_) | (refine goB (k := ?_); intro b) | (refine goA (k := ?_); intro ao cap))
      obtain ⟨y', rfl⟩ : ∃ y', y' = s := ⟨_, rfl⟩
      have hy1 := hs
      (apply Run.op; exact rfl; refine OpT.call0_ (spec := fail_is fb cb ab u r y' 9) (k := ?_); intro s hs; (try conv => rhs; simp only [List.cons_append, List.nil_append]))
      repeat (first | refine go (k := ?_) | (refine goB (k := ?_); intro b) | (refine goA (k := ?_); intro ao cap))
      refine End.round_ hK (j, failE 9 y') ?_ ?_
      · refine ⟨by simp only; omega, ?_⟩
        rw [hd, Ver.want1, if_pos hv, flow_fail, hy1]
      · simp only; omega

/-- what a module's form gives -/
structure Ok (M : ImgM.Mdl) : Prop where
  boxes : M.boxes.length ≤ 30
  units : M.units.length ≤ 30
  head : ∀ k, k < M.units.length → Ver.head M (M.units.getD k default) = 0
  instr : ∀ k, k < M.units.length → ∀ i ∈ (M.units.getD k default).code, Ver.instr M (M.units.getD k default) i = 0
theorem head_ok {M : ImgM.Mdl} {u : ImgM.Unt} (h : Ver.head M u = 0) : u.locals.length ≤ 200 ∧ 0 ≤ u.params ∧ u.params ≤ 6 ∧ u.params ≤ u.locals.length ∧ 1 ≤ u.code.length ∧ u.code.length ≤ 4000 := by
  unfold Ver.head at h
  split at h
  · cases h
  split at h
  · cases h
  split at h
  · cases h
  omega

set_option maxRecDepth 100000 in
theorem args_is (fb cb ab mb : Nat) (u : Value) (m : ML) (r : FR) (z : FS) (hl : z.st.length ≤ 1000) (k : Nat) (hk : k < m.us.length) (hh : Ver.head m.mdl (m.us.getD k default).u = 0) :
    Fn Try.prog 100 #[ptr fb, .int .i64 (k : Int)] [md m] (fm fb cb ab u r z ++ ck cb mb m) (fun z' => flow r z' = Ver.args m.mdl k (flow r z)) (fun _ => up m k) (fun z' => fm fb cb ab u r z' ++ ck cb mb m) := by
  obtain ⟨h1, h2, h3, h4, h5, h6⟩ := head_ok hh
  have ha : Ver.args m.mdl k (flow r z) = Ver.want ((m.us.getD k default).u.locals.take (m.us.getD k default).u.params.toNat) (flow r z) := by
    unfold Ver.args
    rw [Int.toNat_natCast, ML.unit_at]
  rw [ha]
  refine Fn.enter (args := [ptr fb, .int .i64 (k : Int)]) Try.func100 rfl _ Try.ntmps100 rfl (by simp [rd_excl, md_excl]) (fun w S => ?_)
  (try conv => rhs; simp only [List.cons_append, List.nil_append])
  (try conv => rhs; simp only [List.cons_append, List.nil_append])
  repeat (first | refine go (k := ?_) | (refine goB (k := ?_); intro b) | (refine goA (k := ?_); intro ao cap))
  apply Cod.draw 10 ([md m, blk fb (fcells cb ab u r z) 93, blk cb [.pointer (some ⟨mb, 0, none⟩)] 61, blk mb [.slice m.bo m.bx.length m.bc, .slice m.uo m.us.length m.uc] 25]) (by kernel_rfl) 11 rfl
  refine RunT.takeR_ 0 (h := ?_)
  refine RunT.takeR_ 1 (h := ?_)
  refine RunT.takeR_ 2 (h := ?_)
  refine RunT.takeR_ 3 (h := ?_)
  refine RunT.takeR_ 4 (h := ?_)
  refine RunT.takeR_ 5 (h := ?_)
  refine RunT.takeR_ 6 (h := ?_)
  refine RunT.takeR_ 7 (h := ?_)
  refine RunT.takeR_ 8 (h := ?_)
  (refine RunT.one_ 9 (h := ?_); refine OpT.cutMdL_ (m := m) (k := k) (kk := ?_); intro ao cap; refine And.intro gud ?_; (try conv => rhs; simp only [List.cons_append, List.nil_append]))
  (refine RunT.one_ 10 (h := ?_); refine OpT.call0_ (spec := want_is fb cb ab u r z ao _ cap ((m.us.getD k default).u.locals.take (m.us.getD k default).u.params.toNat) (List.length_take_of_le (by omega)) (by omega) hl) (k := ?_); intro s hs; refine And.intro gud ?_; (try conv => rhs; simp only [List.cons_append, List.nil_append]))
  (apply RunT.done; kernel_rfl)
  repeat (first | refine go (k := ?_) | (refine goB (k := ?_); intro b) | (refine goA (k := ?_); intro ao cap))
  (refine End.done1_ (s) (he := by (first | exact rfl | (refine congrArg (Value.int _) ?_; omega) | (refine congrArg (Value.int _) ?_; dsimp only; omega))) (hp := ?_))
  exact hs
end Go.Proofs.Ytfeajpghabjaaaa.Vw

/- verify's flow, walked: copies, generators. -/
namespace Go.Proofs.Ytfeajpghabjaaaa.Vw
open Go.RowKit Go.Proofs.Ytfeajpghabjaaaa.Img
set_option linter.unusedVariables false
set_option linter.unusedSimpArgs false
attribute [local irreducible] Run Cod End OpT Still RunQ RunS RunT Fn PutOk

set_option maxRecDepth 100000 in
theorem copied_is (x : SH) (h1 : x.st.length ≤ 1000000) (h2 : x.hs.length ≤ 1000000) : Fn Try.prog 41 #[shV x] [rd x.so x.st.length x.sc i64c x.st, rd x.ho x.hs.length x.hc boolc x.hs] [] (fun y : SH => y.st = x.st ∧ y.hs = x.hs) shV (fun y => [arr y.so y.st.length y.sc 3 i64c y.st, arr y.ho y.hs.length y.hc 4 boolc y.hs]) := by
  refine Fn.enter (args := [shV x]) Try.func41 rfl _ Try.ntmps41 rfl (by simp [rd_excl, md_excl]) (fun w S => ?_)
  (try conv => rhs; simp only [List.cons_append, List.nil_append])
  repeat (first | refine go (k := ?_) | (refine goB (k := ?_); intro b) | (refine goA (k := ?_); intro ao cap))
  rename_i b1
  apply Cod.draw 7 ([blk b1 [.slice x.so x.st.length x.sc, .slice x.ho x.hs.length x.hc] 91]) (by kernel_rfl) 8 rfl
  refine RunT.takeR_ 0 (h := ?_)
  refine RunT.takeR_ 1 (h := ?_)
  refine RunT.takeR_ 3 (h := ?_)
  refine RunT.takeR_ 4 (h := ?_)
  (refine RunT.one_ 2 (h := ?_); refine OpT.call0_ (spec := cloneI_is x.so x.st.length x.sc x.st rfl (by omega)) (k := ?_); intro s hs; refine And.intro gud ?_; (try conv => rhs; simp only [List.cons_append, List.nil_append]))
  obtain ⟨ao, ac⟩ := s
  (refine RunT.one_ 5 (h := ?_); refine OpT.call0_ (spec := cloneB_is x.ho x.hs.length x.hc x.hs rfl (by omega)) (k := ?_); intro s hs; refine And.intro gud ?_; (try conv => rhs; simp only [List.cons_append, List.nil_append]))
  obtain ⟨bo, bc⟩ := s
  refine RunT.takeR_ 6 (h := ?_)
  (refine RunT.one_ 7 (h := ?_); (first | refine OpT.val_ (k := ?_) | (refine OpT.alloc_ (k := ?_); intro b) | (refine OpT.box_ (k := ?_); intro b) | refine OpT.store_ (k := ?_) | (refine OpT.buildSlice_ (k := ?_); intro b) | (refine OpT.buildSlice0_ (k := ?_); intro b) | (refine OpT.append1_ (k := ?_); intro ao cap) | (refine OpT.cutA0_ (k := ?_); intro ao cap) | (refine OpT.cutR0_ (k := ?_); intro ao cap) | (refine OpT.cutA1_ (k := ?_); intro ao cap) | (refine OpT.cutA_ (k := ?_); intro ao cap) | (refine OpT.cutR_ (k := ?_); intro ao cap)); refine And.intro gud ?_)
  (apply RunT.done; kernel_rfl)
  repeat (first | refine go (k := ?_) | (refine goB (k := ?_); intro b) | (refine goA (k := ?_); intro ao cap))
  (refine End.doneC1_ ((⟨x.st, ao, ac, x.hs, bo, bc⟩ : SH)) (he := by rfl) (hp := ?_))
  exact ⟨rfl, rfl⟩

theorem pop_mem (f : Ver.Flow) (h : ∀ t ∈ f.stack, ImgM.In64 t) : ImgM.In64 (Ver.pop f).1 := by
  unfold Ver.pop
  split
  · unfold ImgM.In64; simp only; omega
  · refine h _ ?_
    rw [List.getD_eq_getElem?_getD, List.getElem?_eq_getElem (by omega)]
    exact List.getElem_mem _
def genV (m : ML) : Option Int → Value
  | none => .pointer none
  | some k => up m k.toNat
set_option maxRecDepth 100000 in
theorem gen_is (fb cb ab mb : Nat) (u : Value) (m : ML) (r : FR) (z : FS) (hl : z.st.length ≤ 1000) (ht : ∀ t ∈ z.st, ImgM.In64 t) :
    Fn Try.prog 102 #[ptr fb] [md m] (fm fb cb ab u r z ++ ck cb mb m) (fun z' => flow r z' = (Ver.gen m.mdl (flow r z)).2) (fun _ => genV m (Ver.gen m.mdl (flow r z)).1) (fun z' => fm fb cb ab u r z' ++ ck cb mb m) := by
  refine Fn.enter (args := [ptr fb]) Try.func102 rfl _ Try.ntmps102 rfl (by simp [rd_excl, md_excl]) (fun w S => ?_)
  (try conv => rhs; simp only [List.cons_append, List.nil_append])
  (try conv => rhs; simp only [List.cons_append, List.nil_append])
  repeat (first | refine go (k := ?_) | (refine goB (k := ?_); intro b) | (refine goA (k := ?_); intro ao cap))
  (apply Run.op; exact rfl; refine OpT.call0_ (spec := pop_is fb cb ab u r z hl) (k := ?_); intro s hs; (try conv => rhs; simp only [List.cons_append, List.nil_append]))
  have ht' := pop_mem (flow r z) ht
  generalize hp : (Ver.pop (flow r z)).1 = t at *
  have hg : Ver.gen m.mdl (flow r z) = if s.err ≠ 0 then (none, flow r s) else if Ver.handle m.mdl t = false then (none, Ver.fail 9 (flow r s)) else (some (t - 10), flow r s) := by
    unfold Ver.gen
    rw [← hs, hp]
    rfl
  obtain ⟨y, rfl⟩ : ∃ y, y = s := ⟨_, rfl⟩
  clear hs
  by_cases he : y.err = 0
  · rw [if_neg (fun h => h he)] at hg
    repeat (first | refine go (k := ?_) | (refine goB (k := ?_); intro b) | (refine goA (k := ?_); intro ao cap))
    (apply Run.op; exact rfl; refine OpT.call0_ (spec := handle_is cb mb m t ht') (k := ?_); intro s hs; (try conv => rhs; simp only [List.cons_append, List.nil_append]))
    cases hh : Ver.handle m.mdl t with
    | false =>
      rw [hh, if_pos rfl] at hg
      rw [hg]
      repeat (first | refine go (k := ?_) | (refine goB (k := ?_); intro b) | (refine goA (k := ?_); intro ao cap))
      (apply Run.op; exact rfl; refine OpT.call0_ (spec := fail_is fb cb ab u r y 9) (k := ?_); intro s hs; (try conv => rhs; simp only [List.cons_append, List.nil_append]))
      repeat (first | refine go (k := ?_) | (refine goB (k := ?_); intro b) | (refine goA (k := ?_); intro ao cap))
      (refine End.done1_ (failE 9 y) (he := by (first | exact rfl | (refine congrArg (Value.int _) ?_; omega) | (refine congrArg (Value.int _) ?_; dsimp only; omega))) (hp := ?_))
      exact flow_fail r y 9
    | true =>
      rw [hh, if_neg (by decide)] at hg
      rw [hg]
      unfold ImgM.In64 at ht'
      have hh' := hh
      simp only [Ver.handle, Ver.isUnit, Bool.and_eq_true, decide_eq_true_eq, List.length_map] at hh'
      obtain ⟨g1, ⟨g2, g3⟩, g4⟩ := hh'
      clear g4
      repeat (first | refine go (k := ?_) | (refine goB (k := ?_); intro b) | (refine goA (k := ?_); intro ao cap))
      (refine End.done1_ (y) (he := by rfl) (hp := ?_))
      rfl
  · rw [if_pos he] at hg
    rw [hg]
    repeat (first | refine go (k := ?_) | (refine goB (k := ?_); intro b) | (refine goA (k := ?_); intro ao cap))
    (refine End.done1_ (y) (he := by (first | exact rfl | (refine congrArg (Value.int _) ?_; omega) | (refine congrArg (Value.int _) ?_; dsimp only; omega))) (hp := ?_))
    rfl
end Go.Proofs.Ytfeajpghabjaaaa.Vw
