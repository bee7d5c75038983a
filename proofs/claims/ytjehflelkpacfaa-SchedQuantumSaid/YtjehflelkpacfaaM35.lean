/- SchedQuantum, walked. -/
import Derived.Test.YtjehflelkpacfaaM34
namespace Go.Proofs.Ytjehflelkpacfaa.Vw
open Go.RowKit Go.Proofs.Ytjehflelkpacfaa.Img
set_option linter.unusedVariables false
set_option linter.unusedSimpArgs false
attribute [local irreducible] Run Cod End OpT Still RunQ RunS RunT Fn PutOk
theorem wrong_len {M : ImgM.Mdl} {n n' : Nat} (h : n ≤ 400) (h' : n' ≤ 400) : Vm.wrong M n = Vm.wrong M n' := by
  unfold Vm.wrong
  rw [if_neg (show ¬ 400 < n by omega), if_neg (show ¬ 400 < n' by omega)]
theorem picks_quantum (m : ML) (ps : List (Int × Int)) (t one two : Int) (h1 : 1 ≤ one) (h2 : 1 ≤ two) (h3 : one ≤ 1000) (h4 : two ≤ 1000) : (Vm.picks m.mdl false (ps ++ [(t, one), (t, two)]) (Vm.Ma.init m.mdl)).2 = (Vm.picks m.mdl false (ps ++ [(t, one + two)]) (Vm.Ma.init m.mdl)).2 := by
  rw [Vm.picks_app, Vm.picks_app]
  simp only [Vm.picks]
  exact Vm.pick_quantum _ t one two h1 h2 h3 h4
attribute [local irreducible] Ver.verify Vm.wrong Vm.picks
set_option maxRecDepth 100000 in
set_option maxHeartbeats 2000000 in
theorem quantum_is (m : ML) (hwf : m.Wf) (ps : PkL) (hps : ps.l.length * 16 ≤ 140737488351232) (t one two : Int) : Fn Try.prog 3 #[m.val, ps.val, .int .i64 t, .int .i64 one, .int .i64 two] [md m, pkR ps] [] (σ := Unit) (fun _ => True) (fun _ => .bool true) (fun _ => []) := by
  refine Fn.enter (args := [m.val, ps.val, .int .i64 t, .int .i64 one, .int .i64 two]) Try.func3 rfl _ Try.ntmps3 rfl (by simp [md_excl, rd_excl]) (fun w S => ?_)
  (try conv => rhs; simp only [List.cons_append, List.nil_append])
  repeat (first | refine go (k := ?_) | (refine goB (k := ?_); intro b) | (refine goA (k := ?_); intro ao cap))
  obtain ⟨mb, rfl⟩ : ∃ x, x = b := ⟨_, rfl⟩
  (apply Run.op; exact rfl; refine OpT.call0_ (spec := alive10_is) (k := ?_); intro s hs; (try conv => rhs; simp only [List.cons_append, List.nil_append]))
  by_cases c1 : one < 1
  · repeat (first | refine go (k := ?_) | (refine goB (k := ?_); intro b) | (refine goA (k := ?_); intro ao cap))
    (refine End.done1_ (()) (he := by (first | exact rfl | (refine congrArg (Value.int _) ?_; omega) | (refine congrArg (Value.int _) ?_; dsimp only; omega))) (hp := ?_))
    trivial
  by_cases c2 : two < 1
  · repeat (first | refine go (k := ?_) | (refine goB (k := ?_); intro b) | (refine goA (k := ?_); intro ao cap))
    (refine End.done1_ (()) (he := by (first | exact rfl | (refine congrArg (Value.int _) ?_; omega) | (refine congrArg (Value.int _) ?_; dsimp only; omega))) (hp := ?_))
    trivial
  by_cases c3 : 1000 < one
  · repeat (first | refine go (k := ?_) | (refine goB (k := ?_); intro b) | (refine goA (k := ?_); intro ao cap))
    (refine End.done1_ (()) (he := by (first | exact rfl | (refine congrArg (Value.int _) ?_; omega) | (refine congrArg (Value.int _) ?_; dsimp only; omega))) (hp := ?_))
    trivial
  by_cases c4 : 1000 < two
  · repeat (first | refine go (k := ?_) | (refine goB (k := ?_); intro b) | (refine goA (k := ?_); intro ao cap))
    (refine End.done1_ (()) (he := by (first | exact rfl | (refine congrArg (Value.int _) ?_; omega) | (refine congrArg (Value.int _) ?_; dsimp only; omega))) (hp := ?_))
    trivial
  by_cases c5 : 400 < (ps.l.length : Int) + 2
  · repeat (first | refine go (k := ?_) | (refine goB (k := ?_); intro b) | (refine goA (k := ?_); intro ao cap))
    (refine End.done1_ (()) (he := by (first | exact rfl | (refine congrArg (Value.int _) ?_; omega) | (refine congrArg (Value.int _) ?_; dsimp only; omega))) (hp := ?_))
    trivial
  have hps4 : ps.l.length + 2 ≤ 400 := by omega
  repeat (first | refine go (k := ?_) | (refine goB (k := ?_); intro b) | (refine goA (k := ?_); intro ao cap))
  -- REGIONS
  refine Cod.nxtCut (σ := RunL × Nat) (fun s => RunIs m (ps.l ++ [(t, one), (t, two)]) s.1) (fun s => [(5, ptr mb), (1, ps.val), (2, .int .i64 t), (3, .int .i64 one), (4, .int .i64 two), (11, ptr s.2), (13, .int .i64 (Vm.wrong m.mdl (ps.l ++ [(t, one), (t, two)]).length))]) (fun s => [old w S, md m, pkR ps, blk mb (mdV m) 25, blk s.2 s.1.w.cells 31] ++ s.1.w.mem) ?_ ?_
  · intro K5 hK5
    apply Cod.draw 20 ([blk mb (mdV m) 25]) (by kernel_rfl) 21 rfl
    refine RunT.takeR_ 0 (h := ?_)
    refine RunT.takeR_ 2 (h := ?_)
    refine RunT.takeR_ 4 (h := ?_)
    refine RunT.takeR_ 5 (h := ?_)
    refine RunT.takeR_ 6 (h := ?_)
    refine RunT.takeR_ 7 (h := ?_)
    refine RunT.takeR_ 8 (h := ?_)
    refine RunT.takeR_ 9 (h := ?_)
    refine RunT.meet (σ := Nat × Option Addr × Nat × Nat) (fun s => [(5, ptr mb), (1, ps.val), (2, .int .i64 t), (3, .int .i64 one), (4, .int .i64 two), (40, m.val), (43, .slice s.2.1 ps.l.length s.2.2.1), (50, .slice (some ⟨s.2.2.2, 0, none⟩) 2 2), (11, ptr s.1)]) (fun s => [blk s.1 [.slice none 0 0, .slice none 0 0, .int .i64 0] 31, arr s.2.1 ps.l.length s.2.2.1 37 pkC ps.l, arr (some ⟨s.2.2.2, 0, none⟩) 2 2 37 pkC [(t, one), (t, two)], blk mb (mdV m) 25, old w S, md m, pkR ps]) 9 #[true, true, true, true, true, true, true, true, true, true, true, false, false, false, false, false, false, true, false, false, false] ?_ ?_
    · rintro ⟨rb, ao, cap, pb⟩
      dsimp only
      refine RunT.one 11 (by kernel_rfl) (by exact rfl) (by exact rfl) ?_
      refine OpT.appendS_ (l2 := [(t, one), (t, two)]) (k := ?_)
      intro a2 c2
      refine And.intro gud ?_
      have hle : ps.l.length + 2 = (ps.l ++ [(t, one), (t, two)]).length := by simp
      rw [hle]
      refine RunT.one 12 (by kernel_rfl) (by exact rfl) (by exact rfl) ?_
      refine OpT.call0_ (spec := run_is m hwf ⟨a2, c2, ps.l ++ [(t, one), (t, two)]⟩) (k := ?_)
      intro s hs
      refine And.intro gud ?_
      (try conv => rhs; simp only [List.cons_append, List.nil_append])
      obtain ⟨r, rfl⟩ : ∃ x, x = s := ⟨_, rfl⟩
      refine RunT.takeR_ 13 (h := ?_)
      refine RunT.takeR_ 14 (h := ?_)
      refine RunT.takeR_ 15 (h := ?_)
      refine RunT.takeR_ 16 (h := ?_)
      (refine RunT.one_ 18 (h := ?_); (first | refine OpT.val_ (k := ?_) | (refine OpT.alloc_ (k := ?_); intro b) | (refine OpT.box_ (k := ?_); intro b) | refine OpT.store_ (k := ?_) | (refine OpT.buildSlice_ (k := ?_); intro b) | (refine OpT.buildSlice0_ (k := ?_); intro b) | (refine OpT.append1_ (k := ?_); intro ao cap) | (refine OpT.cutA0_ (k := ?_); intro ao cap) | (refine OpT.cutR0_ (k := ?_); intro ao cap) | (refine OpT.cutA1_ (k := ?_); intro ao cap) | (refine OpT.cutA_ (k := ?_); intro ao cap) | (refine OpT.cutR_ (k := ?_); intro ao cap)); refine And.intro gud ?_)
      (refine RunT.one_ 19 (h := ?_); (first | refine OpT.val_ (k := ?_) | (refine OpT.alloc_ (k := ?_); intro b) | (refine OpT.box_ (k := ?_); intro b) | refine OpT.store_ (k := ?_) | (refine OpT.buildSlice_ (k := ?_); intro b) | (refine OpT.buildSlice0_ (k := ?_); intro b) | (refine OpT.append1_ (k := ?_); intro ao cap) | (refine OpT.cutA0_ (k := ?_); intro ao cap) | (refine OpT.cutR0_ (k := ?_); intro ao cap) | (refine OpT.cutA1_ (k := ?_); intro ao cap) | (refine OpT.cutA_ (k := ?_); intro ao cap) | (refine OpT.cutR_ (k := ?_); intro ao cap)); refine And.intro gud ?_)
      (refine RunT.one_ 20 (h := ?_); (first | refine OpT.val_ (k := ?_) | (refine OpT.alloc_ (k := ?_); intro b) | (refine OpT.box_ (k := ?_); intro b) | refine OpT.store_ (k := ?_) | (refine OpT.buildSlice_ (k := ?_); intro b) | (refine OpT.buildSlice0_ (k := ?_); intro b) | (refine OpT.append1_ (k := ?_); intro ao cap) | (refine OpT.cutA0_ (k := ?_); intro ao cap) | (refine OpT.cutR0_ (k := ?_); intro ao cap) | (refine OpT.cutA1_ (k := ?_); intro ao cap) | (refine OpT.cutA_ (k := ?_); intro ao cap) | (refine OpT.cutR_ (k := ?_); intro ao cap)); refine And.intro gud ?_)
      (apply RunT.done; kernel_rfl)
      refine End.some_ hK5 (r, rb) ?_
      exact hs
    intro J1
    refine RunT.meet (σ := Option Addr × Nat × Nat) (fun s => [(5, ptr mb), (1, ps.val), (2, .int .i64 t), (3, .int .i64 one), (4, .int .i64 two), (40, m.val), (43, .slice s.1 ps.l.length s.2.1), (50, .slice (some ⟨s.2.2, 0, none⟩) 2 2)]) (fun s => [arr s.1 ps.l.length s.2.1 37 pkC ps.l, arr (some ⟨s.2.2, 0, none⟩) 2 2 37 pkC [(t, one), (t, two)], blk mb (mdV m) 25, old w S, md m, pkR ps]) 10 #[true, true, true, true, true, true, true, true, true, true, true, false, false, false, false, false, false, false, false, false, false] ?_ ?_
    · rintro ⟨ao, cap, pb⟩
      dsimp only
      refine RunT.two 11 17 (by kernel_rfl) (by exact rfl) (by exact rfl) (by exact rfl) (by exact rfl) ?_ ?_
      · refine OpT.appendS_ (l2 := [(t, one), (t, two)]) (k := ?_)
        intro a2 c2
        refine And.intro gud ?_
        have hle : ps.l.length + 2 = (ps.l ++ [(t, one), (t, two)]).length := by simp
        rw [hle]
        refine RunT.two 12 17 (by kernel_rfl) (by exact rfl) (by exact rfl) (by exact rfl) (by exact rfl) ?_ ?_
        · refine OpT.call0_ (spec := run_is m hwf ⟨a2, c2, ps.l ++ [(t, one), (t, two)]⟩) (k := ?_)
          intro s hs
          refine And.intro gud ?_
          (try conv => rhs; simp only [List.cons_append, List.nil_append])
          obtain ⟨r, rfl⟩ : ∃ x, x = s := ⟨_, rfl⟩
          refine RunT.takeR_ 13 (h := ?_)
          refine RunT.takeR_ 14 (h := ?_)
          refine RunT.takeR_ 15 (h := ?_)
          refine RunT.takeR_ 16 (h := ?_)
          (refine RunT.one_ 17 (h := ?_); (first | refine OpT.val_ (k := ?_) | (refine OpT.alloc_ (k := ?_); intro b) | (refine OpT.box_ (k := ?_); intro b) | refine OpT.store_ (k := ?_) | (refine OpT.buildSlice_ (k := ?_); intro b) | (refine OpT.buildSlice0_ (k := ?_); intro b) | (refine OpT.append1_ (k := ?_); intro ao cap) | (refine OpT.cutA0_ (k := ?_); intro ao cap) | (refine OpT.cutR0_ (k := ?_); intro ao cap) | (refine OpT.cutA1_ (k := ?_); intro ao cap) | (refine OpT.cutA_ (k := ?_); intro ao cap) | (refine OpT.cutR_ (k := ?_); intro ao cap)); refine And.intro gud ?_)
          obtain ⟨rb, rfl⟩ : ∃ x, x = b := ⟨_, rfl⟩
          (refine RunT.one_ 18 (h := ?_); (first | refine OpT.val_ (k := ?_) | (refine OpT.alloc_ (k := ?_); intro b) | (refine OpT.box_ (k := ?_); intro b) | refine OpT.store_ (k := ?_) | (refine OpT.buildSlice_ (k := ?_); intro b) | (refine OpT.buildSlice0_ (k := ?_); intro b) | (refine OpT.append1_ (k := ?_); intro ao cap) | (refine OpT.cutA0_ (k := ?_); intro ao cap) | (refine OpT.cutR0_ (k := ?_); intro ao cap) | (refine OpT.cutA1_ (k := ?_); intro ao cap) | (refine OpT.cutA_ (k := ?_); intro ao cap) | (refine OpT.cutR_ (k := ?_); intro ao cap)); refine And.intro gud ?_)
          (refine RunT.one_ 19 (h := ?_); (first | refine OpT.val_ (k := ?_) | (refine OpT.alloc_ (k := ?_); intro b) | (refine OpT.box_ (k := ?_); intro b) | refine OpT.store_ (k := ?_) | (refine OpT.buildSlice_ (k := ?_); intro b) | (refine OpT.buildSlice0_ (k := ?_); intro b) | (refine OpT.append1_ (k := ?_); intro ao cap) | (refine OpT.cutA0_ (k := ?_); intro ao cap) | (refine OpT.cutR0_ (k := ?_); intro ao cap) | (refine OpT.cutA1_ (k := ?_); intro ao cap) | (refine OpT.cutA_ (k := ?_); intro ao cap) | (refine OpT.cutR_ (k := ?_); intro ao cap)); refine And.intro gud ?_)
          (refine RunT.one_ 20 (h := ?_); (first | refine OpT.val_ (k := ?_) | (refine OpT.alloc_ (k := ?_); intro b) | (refine OpT.box_ (k := ?_); intro b) | refine OpT.store_ (k := ?_) | (refine OpT.buildSlice_ (k := ?_); intro b) | (refine OpT.buildSlice0_ (k := ?_); intro b) | (refine OpT.append1_ (k := ?_); intro ao cap) | (refine OpT.cutA0_ (k := ?_); intro ao cap) | (refine OpT.cutR0_ (k := ?_); intro ao cap) | (refine OpT.cutA1_ (k := ?_); intro ao cap) | (refine OpT.cutA_ (k := ?_); intro ao cap) | (refine OpT.cutR_ (k := ?_); intro ao cap)); refine And.intro gud ?_)
          (apply RunT.done; kernel_rfl)
          refine End.some_ hK5 (r, rb) ?_
          exact hs
        · refine OpT.alloc_ (k := ?_)
          intro rb
          refine And.intro gud ?_
          refine RunT.one 12 (by kernel_rfl) (by exact rfl) (by exact rfl) ?_
          refine OpT.call0_ (spec := run_is m hwf ⟨a2, c2, ps.l ++ [(t, one), (t, two)]⟩) (k := ?_)
          intro s hs
          refine And.intro gud ?_
          (try conv => rhs; simp only [List.cons_append, List.nil_append])
          obtain ⟨r, rfl⟩ : ∃ x, x = s := ⟨_, rfl⟩
          refine RunT.takeR_ 13 (h := ?_)
          refine RunT.takeR_ 14 (h := ?_)
          refine RunT.takeR_ 15 (h := ?_)
          refine RunT.takeR_ 16 (h := ?_)
          (refine RunT.one_ 18 (h := ?_); (first | refine OpT.val_ (k := ?_) | (refine OpT.alloc_ (k := ?_); intro b) | (refine OpT.box_ (k := ?_); intro b) | refine OpT.store_ (k := ?_) | (refine OpT.buildSlice_ (k := ?_); intro b) | (refine OpT.buildSlice0_ (k := ?_); intro b) | (refine OpT.append1_ (k := ?_); intro ao cap) | (refine OpT.cutA0_ (k := ?_); intro ao cap) | (refine OpT.cutR0_ (k := ?_); intro ao cap) | (refine OpT.cutA1_ (k := ?_); intro ao cap) | (refine OpT.cutA_ (k := ?_); intro ao cap) | (refine OpT.cutR_ (k := ?_); intro ao cap)); refine And.intro gud ?_)
          (refine RunT.one_ 19 (h := ?_); (first | refine OpT.val_ (k := ?_) | (refine OpT.alloc_ (k := ?_); intro b) | (refine OpT.box_ (k := ?_); intro b) | refine OpT.store_ (k := ?_) | (refine OpT.buildSlice_ (k := ?_); intro b) | (refine OpT.buildSlice0_ (k := ?_); intro b) | (refine OpT.append1_ (k := ?_); intro ao cap) | (refine OpT.cutA0_ (k := ?_); intro ao cap) | (refine OpT.cutR0_ (k := ?_); intro ao cap) | (refine OpT.cutA1_ (k := ?_); intro ao cap) | (refine OpT.cutA_ (k := ?_); intro ao cap) | (refine OpT.cutR_ (k := ?_); intro ao cap)); refine And.intro gud ?_)
          (refine RunT.one_ 20 (h := ?_); (first | refine OpT.val_ (k := ?_) | (refine OpT.alloc_ (k := ?_); intro b) | (refine OpT.box_ (k := ?_); intro b) | refine OpT.store_ (k := ?_) | (refine OpT.buildSlice_ (k := ?_); intro b) | (refine OpT.buildSlice0_ (k := ?_); intro b) | (refine OpT.append1_ (k := ?_); intro ao cap) | (refine OpT.cutA0_ (k := ?_); intro ao cap) | (refine OpT.cutR0_ (k := ?_); intro ao cap) | (refine OpT.cutA1_ (k := ?_); intro ao cap) | (refine OpT.cutA_ (k := ?_); intro ao cap) | (refine OpT.cutR_ (k := ?_); intro ao cap)); refine And.intro gud ?_)
          (apply RunT.done; kernel_rfl)
          refine End.some_ hK5 (r, rb) ?_
          exact hs
      · refine OpT.alloc_ (k := ?_)
        intro rb
        refine And.intro gud ?_
        exact J1 (rb, ao, cap, pb) (by kernel_rfl) (by (repeat (first | exact Sub.nil | (apply Sub.cons; (focus (exact rfl))) | (apply Sub.cons'; (focus (exact rfl)); (focus (first | exact rfl | (refine congrArg (Value.int _) ?_; omega) | (refine congrArg (Value.int _) ?_; dsimp only; omega))))))) (by (repeat (first | exact Takes.nil | exact Take.head | apply Take.tail | apply Takes.cons)))
    intro J0
    refine RunT.three 1 10 17 (by kernel_rfl) (by exact rfl) (by exact rfl) (by exact rfl) (by exact rfl) (by exact rfl) (by exact rfl) ?_ ?_ ?_
    · refine OpT.buildSlice0_ (k := ?_)
      intro zb
      refine And.intro gud ?_
      refine RunT.imp (fun w hm => hm.toArr (iα := inferInstance) (ef := inferInstance) (b := zb) (e := 37) (f := pkC) (n := 0) (by (repeat (first | exact Take.head | apply Take.tail))) ([] : List (Int × Int)) rfl rfl (by unfold maxLen; simp)) ?_
      refine RunT.three 3 10 17 (by kernel_rfl) (by exact rfl) (by exact rfl) (by exact rfl) (by exact rfl) (by exact rfl) (by exact rfl) ?_ ?_ ?_
      · refine OpT.appendS_ (l2 := ps.l) (k := ?_)
        intro ao cap
        refine And.intro gud ?_
        simp only [Nat.zero_add, List.nil_append]
        refine RunT.two 10 17 (by kernel_rfl) (by exact rfl) (by exact rfl) (by exact rfl) (by exact rfl) ?_ ?_
        · refine OpT.buildSlice_ (k := ?_)
          intro pb
          refine And.intro gud ?_
          refine RunT.imp (fun w hm => hm.toArr (iα := inferInstance) (ef := inferInstance) (b := pb) (e := 37) (f := pkC) (n := 2) (by (repeat (first | exact Take.head | apply Take.tail))) ([(t, one), (t, two)] : List (Int × Int)) rfl rfl (by unfold maxLen; simp)) ?_
          exact J0 (ao, cap, pb) (by kernel_rfl) (by (repeat (first | exact Sub.nil | (apply Sub.cons; (focus (exact rfl))) | (apply Sub.cons'; (focus (exact rfl)); (focus (first | exact rfl | (refine congrArg (Value.int _) ?_; omega) | (refine congrArg (Value.int _) ?_; dsimp only; omega))))))) (by (repeat (first | exact Takes.nil | exact Take.head | apply Take.tail | apply Takes.cons)))
        · refine OpT.alloc_ (k := ?_)
          intro rb
          refine And.intro gud ?_
          refine RunT.one 10 (by kernel_rfl) (by exact rfl) (by exact rfl) ?_
          refine OpT.buildSlice_ (k := ?_)
          intro pb
          refine And.intro gud ?_
          refine RunT.imp (fun w hm => hm.toArr (iα := inferInstance) (ef := inferInstance) (b := pb) (e := 37) (f := pkC) (n := 2) (by (repeat (first | exact Take.head | apply Take.tail))) ([(t, one), (t, two)] : List (Int × Int)) rfl rfl (by unfold maxLen; simp)) ?_
          exact J1 (rb, ao, cap, pb) (by kernel_rfl) (by (repeat (first | exact Sub.nil | (apply Sub.cons; (focus (exact rfl))) | (apply Sub.cons'; (focus (exact rfl)); (focus (first | exact rfl | (refine congrArg (Value.int _) ?_; omega) | (refine congrArg (Value.int _) ?_; dsimp only; omega))))))) (by (repeat (first | exact Takes.nil | exact Take.head | apply Take.tail | apply Takes.cons)))
      · refine OpT.buildSlice_ (k := ?_)
        intro pb
        refine And.intro gud ?_
        refine RunT.imp (fun w hm => hm.toArr (iα := inferInstance) (ef := inferInstance) (b := pb) (e := 37) (f := pkC) (n := 2) (by (repeat (first | exact Take.head | apply Take.tail))) ([(t, one), (t, two)] : List (Int × Int)) rfl rfl (by unfold maxLen; simp)) ?_
        refine RunT.two 3 17 (by kernel_rfl) (by exact rfl) (by exact rfl) (by exact rfl) (by exact rfl) ?_ ?_
        · refine OpT.appendS_ (l2 := ps.l) (k := ?_)
          intro ao cap
          refine And.intro gud ?_
          simp only [Nat.zero_add, List.nil_append]
          exact J0 (ao, cap, pb) (by kernel_rfl) (by (repeat (first | exact Sub.nil | (apply Sub.cons; (focus (exact rfl))) | (apply Sub.cons'; (focus (exact rfl)); (focus (first | exact rfl | (refine congrArg (Value.int _) ?_; omega) | (refine congrArg (Value.int _) ?_; dsimp only; omega))))))) (by (repeat (first | exact Takes.nil | exact Take.head | apply Take.tail | apply Takes.cons)))
        · refine OpT.alloc_ (k := ?_)
          intro rb
          refine And.intro gud ?_
          refine RunT.one 3 (by kernel_rfl) (by exact rfl) (by exact rfl) ?_
          refine OpT.appendS_ (l2 := ps.l) (k := ?_)
          intro ao cap
          refine And.intro gud ?_
          simp only [Nat.zero_add, List.nil_append]
          exact J1 (rb, ao, cap, pb) (by kernel_rfl) (by (repeat (first | exact Sub.nil | (apply Sub.cons; (focus (exact rfl))) | (apply Sub.cons'; (focus (exact rfl)); (focus (first | exact rfl | (refine congrArg (Value.int _) ?_; omega) | (refine congrArg (Value.int _) ?_; dsimp only; omega))))))) (by (repeat (first | exact Takes.nil | exact Take.head | apply Take.tail | apply Takes.cons)))
      · refine OpT.alloc_ (k := ?_)
        intro rb
        refine And.intro gud ?_
        refine RunT.two 3 10 (by kernel_rfl) (by exact rfl) (by exact rfl) (by exact rfl) (by exact rfl) ?_ ?_
        · refine OpT.appendS_ (l2 := ps.l) (k := ?_)
          intro ao cap
          refine And.intro gud ?_
          simp only [Nat.zero_add, List.nil_append]
          refine RunT.one 10 (by kernel_rfl) (by exact rfl) (by exact rfl) ?_
          refine OpT.buildSlice_ (k := ?_)
          intro pb
          refine And.intro gud ?_
          refine RunT.imp (fun w hm => hm.toArr (iα := inferInstance) (ef := inferInstance) (b := pb) (e := 37) (f := pkC) (n := 2) (by (repeat (first | exact Take.head | apply Take.tail))) ([(t, one), (t, two)] : List (Int × Int)) rfl rfl (by unfold maxLen; simp)) ?_
          exact J1 (rb, ao, cap, pb) (by kernel_rfl) (by (repeat (first | exact Sub.nil | (apply Sub.cons; (focus (exact rfl))) | (apply Sub.cons'; (focus (exact rfl)); (focus (first | exact rfl | (refine congrArg (Value.int _) ?_; omega) | (refine congrArg (Value.int _) ?_; dsimp only; omega))))))) (by (repeat (first | exact Takes.nil | exact Take.head | apply Take.tail | apply Takes.cons)))
        · refine OpT.buildSlice_ (k := ?_)
          intro pb
          refine And.intro gud ?_
          refine RunT.imp (fun w hm => hm.toArr (iα := inferInstance) (ef := inferInstance) (b := pb) (e := 37) (f := pkC) (n := 2) (by (repeat (first | exact Take.head | apply Take.tail))) ([(t, one), (t, two)] : List (Int × Int)) rfl rfl (by unfold maxLen; simp)) ?_
          refine RunT.one 3 (by kernel_rfl) (by exact rfl) (by exact rfl) ?_
          refine OpT.appendS_ (l2 := ps.l) (k := ?_)
          intro ao cap
          refine And.intro gud ?_
          simp only [Nat.zero_add, List.nil_append]
          exact J1 (rb, ao, cap, pb) (by kernel_rfl) (by (repeat (first | exact Sub.nil | (apply Sub.cons; (focus (exact rfl))) | (apply Sub.cons'; (focus (exact rfl)); (focus (first | exact rfl | (refine congrArg (Value.int _) ?_; omega) | (refine congrArg (Value.int _) ?_; dsimp only; omega))))))) (by (repeat (first | exact Takes.nil | exact Take.head | apply Take.tail | apply Takes.cons)))
    · refine OpT.buildSlice_ (k := ?_)
      intro pb
      refine And.intro gud ?_
      refine RunT.imp (fun w hm => hm.toArr (iα := inferInstance) (ef := inferInstance) (b := pb) (e := 37) (f := pkC) (n := 2) (by (repeat (first | exact Take.head | apply Take.tail))) ([(t, one), (t, two)] : List (Int × Int)) rfl rfl (by unfold maxLen; simp)) ?_
      refine RunT.two 1 17 (by kernel_rfl) (by exact rfl) (by exact rfl) (by exact rfl) (by exact rfl) ?_ ?_
      · refine OpT.buildSlice0_ (k := ?_)
        intro zb
        refine And.intro gud ?_
        refine RunT.imp (fun w hm => hm.toArr (iα := inferInstance) (ef := inferInstance) (b := zb) (e := 37) (f := pkC) (n := 0) (by (repeat (first | exact Take.head | apply Take.tail))) ([] : List (Int × Int)) rfl rfl (by unfold maxLen; simp)) ?_
        refine RunT.two 3 17 (by kernel_rfl) (by exact rfl) (by exact rfl) (by exact rfl) (by exact rfl) ?_ ?_
        · refine OpT.appendS_ (l2 := ps.l) (k := ?_)
          intro ao cap
          refine And.intro gud ?_
          simp only [Nat.zero_add, List.nil_append]
          exact J0 (ao, cap, pb) (by kernel_rfl) (by (repeat (first | exact Sub.nil | (apply Sub.cons; (focus (exact rfl))) | (apply Sub.cons'; (focus (exact rfl)); (focus (first | exact rfl | (refine congrArg (Value.int _) ?_; omega) | (refine congrArg (Value.int _) ?_; dsimp only; omega))))))) (by (repeat (first | exact Takes.nil | exact Take.head | apply Take.tail | apply Takes.cons)))
        · refine OpT.alloc_ (k := ?_)
          intro rb
          refine And.intro gud ?_
          refine RunT.one 3 (by kernel_rfl) (by exact rfl) (by exact rfl) ?_
          refine OpT.appendS_ (l2 := ps.l) (k := ?_)
          intro ao cap
          refine And.intro gud ?_
          simp only [Nat.zero_add, List.nil_append]
          exact J1 (rb, ao, cap, pb) (by kernel_rfl) (by (repeat (first | exact Sub.nil | (apply Sub.cons; (focus (exact rfl))) | (apply Sub.cons'; (focus (exact rfl)); (focus (first | exact rfl | (refine congrArg (Value.int _) ?_; omega) | (refine congrArg (Value.int _) ?_; dsimp only; omega))))))) (by (repeat (first | exact Takes.nil | exact Take.head | apply Take.tail | apply Takes.cons)))
      · refine OpT.alloc_ (k := ?_)
        intro rb
        refine And.intro gud ?_
        refine RunT.one 1 (by kernel_rfl) (by exact rfl) (by exact rfl) ?_
        refine OpT.buildSlice0_ (k := ?_)
        intro zb
        refine And.intro gud ?_
        refine RunT.imp (fun w hm => hm.toArr (iα := inferInstance) (ef := inferInstance) (b := zb) (e := 37) (f := pkC) (n := 0) (by (repeat (first | exact Take.head | apply Take.tail))) ([] : List (Int × Int)) rfl rfl (by unfold maxLen; simp)) ?_
        refine RunT.one 3 (by kernel_rfl) (by exact rfl) (by exact rfl) ?_
        refine OpT.appendS_ (l2 := ps.l) (k := ?_)
        intro ao cap
        refine And.intro gud ?_
        simp only [Nat.zero_add, List.nil_append]
        exact J1 (rb, ao, cap, pb) (by kernel_rfl) (by (repeat (first | exact Sub.nil | (apply Sub.cons; (focus (exact rfl))) | (apply Sub.cons'; (focus (exact rfl)); (focus (first | exact rfl | (refine congrArg (Value.int _) ?_; omega) | (refine congrArg (Value.int _) ?_; dsimp only; omega))))))) (by (repeat (first | exact Takes.nil | exact Take.head | apply Take.tail | apply Takes.cons)))
    · refine OpT.alloc_ (k := ?_)
      intro rb
      refine And.intro gud ?_
      refine RunT.two 1 10 (by kernel_rfl) (by exact rfl) (by exact rfl) (by exact rfl) (by exact rfl) ?_ ?_
      · refine OpT.buildSlice0_ (k := ?_)
        intro zb
        refine And.intro gud ?_
        refine RunT.imp (fun w hm => hm.toArr (iα := inferInstance) (ef := inferInstance) (b := zb) (e := 37) (f := pkC) (n := 0) (by (repeat (first | exact Take.head | apply Take.tail))) ([] : List (Int × Int)) rfl rfl (by unfold maxLen; simp)) ?_
        refine RunT.two 3 10 (by kernel_rfl) (by exact rfl) (by exact rfl) (by exact rfl) (by exact rfl) ?_ ?_
        · refine OpT.appendS_ (l2 := ps.l) (k := ?_)
          intro ao cap
          refine And.intro gud ?_
          simp only [Nat.zero_add, List.nil_append]
          refine RunT.one 10 (by kernel_rfl) (by exact rfl) (by exact rfl) ?_
          refine OpT.buildSlice_ (k := ?_)
          intro pb
          refine And.intro gud ?_
          refine RunT.imp (fun w hm => hm.toArr (iα := inferInstance) (ef := inferInstance) (b := pb) (e := 37) (f := pkC) (n := 2) (by (repeat (first | exact Take.head | apply Take.tail))) ([(t, one), (t, two)] : List (Int × Int)) rfl rfl (by unfold maxLen; simp)) ?_
          exact J1 (rb, ao, cap, pb) (by kernel_rfl) (by (repeat (first | exact Sub.nil | (apply Sub.cons; (focus (exact rfl))) | (apply Sub.cons'; (focus (exact rfl)); (focus (first | exact rfl | (refine congrArg (Value.int _) ?_; omega) | (refine congrArg (Value.int _) ?_; dsimp only; omega))))))) (by (repeat (first | exact Takes.nil | exact Take.head | apply Take.tail | apply Takes.cons)))
        · refine OpT.buildSlice_ (k := ?_)
          intro pb
          refine And.intro gud ?_
          refine RunT.imp (fun w hm => hm.toArr (iα := inferInstance) (ef := inferInstance) (b := pb) (e := 37) (f := pkC) (n := 2) (by (repeat (first | exact Take.head | apply Take.tail))) ([(t, one), (t, two)] : List (Int × Int)) rfl rfl (by unfold maxLen; simp)) ?_
          refine RunT.one 3 (by kernel_rfl) (by exact rfl) (by exact rfl) ?_
          refine OpT.appendS_ (l2 := ps.l) (k := ?_)
          intro ao cap
          refine And.intro gud ?_
          simp only [Nat.zero_add, List.nil_append]
          exact J1 (rb, ao, cap, pb) (by kernel_rfl) (by (repeat (first | exact Sub.nil | (apply Sub.cons; (focus (exact rfl))) | (apply Sub.cons'; (focus (exact rfl)); (focus (first | exact rfl | (refine congrArg (Value.int _) ?_; omega) | (refine congrArg (Value.int _) ?_; dsimp only; omega))))))) (by (repeat (first | exact Takes.nil | exact Take.head | apply Take.tail | apply Takes.cons)))
      · refine OpT.buildSlice_ (k := ?_)
        intro pb
        refine And.intro gud ?_
        refine RunT.imp (fun w hm => hm.toArr (iα := inferInstance) (ef := inferInstance) (b := pb) (e := 37) (f := pkC) (n := 2) (by (repeat (first | exact Take.head | apply Take.tail))) ([(t, one), (t, two)] : List (Int × Int)) rfl rfl (by unfold maxLen; simp)) ?_
        refine RunT.one 1 (by kernel_rfl) (by exact rfl) (by exact rfl) ?_
        refine OpT.buildSlice0_ (k := ?_)
        intro zb
        refine And.intro gud ?_
        refine RunT.imp (fun w hm => hm.toArr (iα := inferInstance) (ef := inferInstance) (b := zb) (e := 37) (f := pkC) (n := 0) (by (repeat (first | exact Take.head | apply Take.tail))) ([] : List (Int × Int)) rfl rfl (by unfold maxLen; simp)) ?_
        refine RunT.one 3 (by kernel_rfl) (by exact rfl) (by exact rfl) ?_
        refine OpT.appendS_ (l2 := ps.l) (k := ?_)
        intro ao cap
        refine And.intro gud ?_
        simp only [Nat.zero_add, List.nil_append]
        exact J1 (rb, ao, cap, pb) (by kernel_rfl) (by (repeat (first | exact Sub.nil | (apply Sub.cons; (focus (exact rfl))) | (apply Sub.cons'; (focus (exact rfl)); (focus (first | exact rfl | (refine congrArg (Value.int _) ?_; omega) | (refine congrArg (Value.int _) ?_; dsimp only; omega))))))) (by (repeat (first | exact Takes.nil | exact Take.head | apply Take.tail | apply Takes.cons)))
  rintro ⟨a, wb⟩ ha
  dsimp only at ha ⊢
  (try conv => rhs; simp only [List.cons_append, List.nil_append])
  apply Cod.imp (fun w hm => Mem.pack (cs := a.w.mem) (hm.takes (show Takes a.w.mem _ _ by (repeat (first | exact Takes.nil | exact Take.head | apply Take.tail | apply Takes.cons)))) (by simp [arr_excl, bag_excl]))
  repeat (first | refine go (k := ?_) | (refine goB (k := ?_); intro b) | (refine goA (k := ?_); intro ao cap))
  refine Cod.nxtCut (σ := RunL × Nat) (fun s => RunIs m (ps.l ++ [(t, one + two)]) s.1) (fun s => [(11, ptr wb), (13, .int .i64 (Vm.wrong m.mdl (ps.l ++ [(t, one), (t, two)]).length)), (14, ptr s.2), (16, .int .i64 (Vm.wrong m.mdl (ps.l ++ [(t, one + two)]).length))]) (fun s => [old w S, blk wb a.w.cells 31, bag a.w.mem, blk s.2 s.1.w.cells 31] ++ s.1.w.mem) ?_ ?_
  · intro K6 hK6
    apply Cod.draw 19 ([blk mb (mdV m) 25]) (by kernel_rfl) 20 rfl
    refine RunT.takeR_ 0 (h := ?_)
    refine RunT.takeR_ 2 (h := ?_)
    refine RunT.takeR_ 4 (h := ?_)
    refine RunT.takeR_ 5 (h := ?_)
    refine RunT.takeR_ 6 (h := ?_)
    refine RunT.takeR_ 7 (h := ?_)
    refine RunT.takeR_ 8 (h := ?_)
    refine RunT.meet (σ := Nat × Option Addr × Nat × Nat) (fun s => [(5, ptr mb), (1, ps.val), (2, .int .i64 t), (3, .int .i64 one), (4, .int .i64 two), (11, ptr wb), (13, .int .i64 (Vm.wrong m.mdl (ps.l ++ [(t, one), (t, two)]).length)), (57, m.val), (60, .slice s.2.1 ps.l.length s.2.2.1), (66, .slice (some ⟨s.2.2.2, 0, none⟩) 1 1), (14, ptr s.1)]) (fun s => [blk s.1 [.slice none 0 0, .slice none 0 0, .int .i64 0] 31, arr s.2.1 ps.l.length s.2.2.1 37 pkC ps.l, arr (some ⟨s.2.2.2, 0, none⟩) 1 1 37 pkC [(t, one + two)], blk mb (mdV m) 25, old w S, md m, pkR ps, blk wb a.w.cells 31, bag a.w.mem]) 9 #[true, true, true, true, true, true, true, true, true, true, false, false, false, false, false, false, true, false, false, false] ?_ ?_
    · rintro ⟨rb, ao, cap, pb⟩
      dsimp only
      refine RunT.one 10 (by kernel_rfl) (by exact rfl) (by exact rfl) ?_
      refine OpT.appendS_ (l2 := [(t, one + two)]) (k := ?_)
      intro a2 c2
      refine And.intro gud ?_
      have hle : ps.l.length + 1 = (ps.l ++ [(t, one + two)]).length := by simp
      rw [hle]
      refine RunT.one 11 (by kernel_rfl) (by exact rfl) (by exact rfl) ?_
      refine OpT.call0_ (spec := run_is m hwf ⟨a2, c2, ps.l ++ [(t, one + two)]⟩) (k := ?_)
      intro s hs
      refine And.intro gud ?_
      (try conv => rhs; simp only [List.cons_append, List.nil_append])
      obtain ⟨r, rfl⟩ : ∃ x, x = s := ⟨_, rfl⟩
      refine RunT.takeR_ 12 (h := ?_)
      refine RunT.takeR_ 13 (h := ?_)
      refine RunT.takeR_ 14 (h := ?_)
      refine RunT.takeR_ 15 (h := ?_)
      (refine RunT.one_ 17 (h := ?_); (first | refine OpT.val_ (k := ?_) | (refine OpT.alloc_ (k := ?_); intro b) | (refine OpT.box_ (k := ?_); intro b) | refine OpT.store_ (k := ?_) | (refine OpT.buildSlice_ (k := ?_); intro b) | (refine OpT.buildSlice0_ (k := ?_); intro b) | (refine OpT.append1_ (k := ?_); intro ao cap) | (refine OpT.cutA0_ (k := ?_); intro ao cap) | (refine OpT.cutR0_ (k := ?_); intro ao cap) | (refine OpT.cutA1_ (k := ?_); intro ao cap) | (refine OpT.cutA_ (k := ?_); intro ao cap) | (refine OpT.cutR_ (k := ?_); intro ao cap)); refine And.intro gud ?_)
      (refine RunT.one_ 18 (h := ?_); (first | refine OpT.val_ (k := ?_) | (refine OpT.alloc_ (k := ?_); intro b) | (refine OpT.box_ (k := ?_); intro b) | refine OpT.store_ (k := ?_) | (refine OpT.buildSlice_ (k := ?_); intro b) | (refine OpT.buildSlice0_ (k := ?_); intro b) | (refine OpT.append1_ (k := ?_); intro ao cap) | (refine OpT.cutA0_ (k := ?_); intro ao cap) | (refine OpT.cutR0_ (k := ?_); intro ao cap) | (refine OpT.cutA1_ (k := ?_); intro ao cap) | (refine OpT.cutA_ (k := ?_); intro ao cap) | (refine OpT.cutR_ (k := ?_); intro ao cap)); refine And.intro gud ?_)
      (refine RunT.one_ 19 (h := ?_); (first | refine OpT.val_ (k := ?_) | (refine OpT.alloc_ (k := ?_); intro b) | (refine OpT.box_ (k := ?_); intro b) | refine OpT.store_ (k := ?_) | (refine OpT.buildSlice_ (k := ?_); intro b) | (refine OpT.buildSlice0_ (k := ?_); intro b) | (refine OpT.append1_ (k := ?_); intro ao cap) | (refine OpT.cutA0_ (k := ?_); intro ao cap) | (refine OpT.cutR0_ (k := ?_); intro ao cap) | (refine OpT.cutA1_ (k := ?_); intro ao cap) | (refine OpT.cutA_ (k := ?_); intro ao cap) | (refine OpT.cutR_ (k := ?_); intro ao cap)); refine And.intro gud ?_)
      (apply RunT.done; kernel_rfl)
      refine End.some_ hK6 (r, rb) ?_
      exact hs
    intro J1
    refine RunT.meet (σ := Option Addr × Nat × Nat) (fun s => [(5, ptr mb), (1, ps.val), (2, .int .i64 t), (3, .int .i64 one), (4, .int .i64 two), (11, ptr wb), (13, .int .i64 (Vm.wrong m.mdl (ps.l ++ [(t, one), (t, two)]).length)), (57, m.val), (60, .slice s.1 ps.l.length s.2.1), (66, .slice (some ⟨s.2.2, 0, none⟩) 1 1)]) (fun s => [arr s.1 ps.l.length s.2.1 37 pkC ps.l, arr (some ⟨s.2.2, 0, none⟩) 1 1 37 pkC [(t, one + two)], blk mb (mdV m) 25, old w S, md m, pkR ps, blk wb a.w.cells 31, bag a.w.mem]) 10 #[true, true, true, true, true, true, true, true, true, true, false, false, false, false, false, false, false, false, false, false] ?_ ?_
    · rintro ⟨ao, cap, pb⟩
      dsimp only
      refine RunT.two 10 16 (by kernel_rfl) (by exact rfl) (by exact rfl) (by exact rfl) (by exact rfl) ?_ ?_
      · refine OpT.appendS_ (l2 := [(t, one + two)]) (k := ?_)
        intro a2 c2
        refine And.intro gud ?_
        have hle : ps.l.length + 1 = (ps.l ++ [(t, one + two)]).length := by simp
        rw [hle]
        refine RunT.two 11 16 (by kernel_rfl) (by exact rfl) (by exact rfl) (by exact rfl) (by exact rfl) ?_ ?_
        · refine OpT.call0_ (spec := run_is m hwf ⟨a2, c2, ps.l ++ [(t, one + two)]⟩) (k := ?_)
          intro s hs
          refine And.intro gud ?_
          (try conv => rhs; simp only [List.cons_append, List.nil_append])
          obtain ⟨r, rfl⟩ : ∃ x, x = s := ⟨_, rfl⟩
          refine RunT.takeR_ 12 (h := ?_)
          refine RunT.takeR_ 13 (h := ?_)
          refine RunT.takeR_ 14 (h := ?_)
          refine RunT.takeR_ 15 (h := ?_)
          (refine RunT.one_ 16 (h := ?_); (first | refine OpT.val_ (k := ?_) | (refine OpT.alloc_ (k := ?_); intro b) | (refine OpT.box_ (k := ?_); intro b) | refine OpT.store_ (k := ?_) | (refine OpT.buildSlice_ (k := ?_); intro b) | (refine OpT.buildSlice0_ (k := ?_); intro b) | (refine OpT.append1_ (k := ?_); intro ao cap) | (refine OpT.cutA0_ (k := ?_); intro ao cap) | (refine OpT.cutR0_ (k := ?_); intro ao cap) | (refine OpT.cutA1_ (k := ?_); intro ao cap) | (refine OpT.cutA_ (k := ?_); intro ao cap) | (refine OpT.cutR_ (k := ?_); intro ao cap)); refine And.intro gud ?_)
          obtain ⟨rb, rfl⟩ : ∃ x, x = b := ⟨_, rfl⟩
          (refine RunT.one_ 17 (h := ?_); (first | refine OpT.val_ (k := ?_) | (refine OpT.alloc_ (k := ?_); intro b) | (refine OpT.box_ (k := ?_); intro b) | refine OpT.store_ (k := ?_) | (refine OpT.buildSlice_ (k := ?_); intro b) | (refine OpT.buildSlice0_ (k := ?_); intro b) | (refine OpT.append1_ (k := ?_); intro ao cap) | (refine OpT.cutA0_ (k := ?_); intro ao cap) | (refine OpT.cutR0_ (k := ?_); intro ao cap) | (refine OpT.cutA1_ (k := ?_); intro ao cap) | (refine OpT.cutA_ (k := ?_); intro ao cap) | (refine OpT.cutR_ (k := ?_); intro ao cap)); refine And.intro gud ?_)
          (refine RunT.one_ 18 (h := ?_); (first | refine OpT.val_ (k := ?_) | (refine OpT.alloc_ (k := ?_); intro b) | (refine OpT.box_ (k := ?_); intro b) | refine OpT.store_ (k := ?_) | (refine OpT.buildSlice_ (k := ?_); intro b) | (refine OpT.buildSlice0_ (k := ?_); intro b) | (refine OpT.append1_ (k := ?_); intro ao cap) | (refine OpT.cutA0_ (k := ?_); intro ao cap) | (refine OpT.cutR0_ (k := ?_); intro ao cap) | (refine OpT.cutA1_ (k := ?_); intro ao cap) | (refine OpT.cutA_ (k := ?_); intro ao cap) | (refine OpT.cutR_ (k := ?_); intro ao cap)); refine And.intro gud ?_)
          (refine RunT.one_ 19 (h := ?_); (first | refine OpT.val_ (k := ?_) | (refine OpT.alloc_ (k := ?_); intro b) | (refine OpT.box_ (k := ?_); intro b) | refine OpT.store_ (k := ?_) | (refine OpT.buildSlice_ (k := ?_); intro b) | (refine OpT.buildSlice0_ (k := ?_); intro b) | (refine OpT.append1_ (k := ?_); intro ao cap) | (refine OpT.cutA0_ (k := ?_); intro ao cap) | (refine OpT.cutR0_ (k := ?_); intro ao cap) | (refine OpT.cutA1_ (k := ?_); intro ao cap) | (refine OpT.cutA_ (k := ?_); intro ao cap) | (refine OpT.cutR_ (k := ?_); intro ao cap)); refine And.intro gud ?_)
          (apply RunT.done; kernel_rfl)
          refine End.some_ hK6 (r, rb) ?_
          exact hs
        · refine OpT.alloc_ (k := ?_)
          intro rb
          refine And.intro gud ?_
          refine RunT.one 11 (by kernel_rfl) (by exact rfl) (by exact rfl) ?_
          refine OpT.call0_ (spec := run_is m hwf ⟨a2, c2, ps.l ++ [(t, one + two)]⟩) (k := ?_)
          intro s hs
          refine And.intro gud ?_
          (try conv => rhs; simp only [List.cons_append, List.nil_append])
          obtain ⟨r, rfl⟩ : ∃ x, x = s := ⟨_, rfl⟩
          refine RunT.takeR_ 12 (h := ?_)
          refine RunT.takeR_ 13 (h := ?_)
          refine RunT.takeR_ 14 (h := ?_)
          refine RunT.takeR_ 15 (h := ?_)
          (refine RunT.one_ 17 (h := ?_); (first | refine OpT.val_ (k := ?_) | (refine OpT.alloc_ (k := ?_); intro b) | (refine OpT.box_ (k := ?_); intro b) | refine OpT.store_ (k := ?_) | (refine OpT.buildSlice_ (k := ?_); intro b) | (refine OpT.buildSlice0_ (k := ?_); intro b) | (refine OpT.append1_ (k := ?_); intro ao cap) | (refine OpT.cutA0_ (k := ?_); intro ao cap) | (refine OpT.cutR0_ (k := ?_); intro ao cap) | (refine OpT.cutA1_ (k := ?_); intro ao cap) | (refine OpT.cutA_ (k := ?_); intro ao cap) | (refine OpT.cutR_ (k := ?_); intro ao cap)); refine And.intro gud ?_)
          (refine RunT.one_ 18 (h := ?_); (first | refine OpT.val_ (k := ?_) | (refine OpT.alloc_ (k := ?_); intro b) | (refine OpT.box_ (k := ?_); intro b) | refine OpT.store_ (k := ?_) | (refine OpT.buildSlice_ (k := ?_); intro b) | (refine OpT.buildSlice0_ (k := ?_); intro b) | (refine OpT.append1_ (k := ?_); intro ao cap) | (refine OpT.cutA0_ (k := ?_); intro ao cap) | (refine OpT.cutR0_ (k := ?_); intro ao cap) | (refine OpT.cutA1_ (k := ?_); intro ao cap) | (refine OpT.cutA_ (k := ?_); intro ao cap) | (refine OpT.cutR_ (k := ?_); intro ao cap)); refine And.intro gud ?_)
          (refine RunT.one_ 19 (h := ?_); (first | refine OpT.val_ (k := ?_) | (refine OpT.alloc_ (k := ?_); intro b) | (refine OpT.box_ (k := ?_); intro b) | refine OpT.store_ (k := ?_) | (refine OpT.buildSlice_ (k := ?_); intro b) | (refine OpT.buildSlice0_ (k := ?_); intro b) | (refine OpT.append1_ (k := ?_); intro ao cap) | (refine OpT.cutA0_ (k := ?_); intro ao cap) | (refine OpT.cutR0_ (k := ?_); intro ao cap) | (refine OpT.cutA1_ (k := ?_); intro ao cap) | (refine OpT.cutA_ (k := ?_); intro ao cap) | (refine OpT.cutR_ (k := ?_); intro ao cap)); refine And.intro gud ?_)
          (apply RunT.done; kernel_rfl)
          refine End.some_ hK6 (r, rb) ?_
          exact hs
      · refine OpT.alloc_ (k := ?_)
        intro rb
        refine And.intro gud ?_
        exact J1 (rb, ao, cap, pb) (by kernel_rfl) (by (repeat (first | exact Sub.nil | (apply Sub.cons; (focus (exact rfl))) | (apply Sub.cons'; (focus (exact rfl)); (focus (first | exact rfl | (refine congrArg (Value.int _) ?_; omega) | (refine congrArg (Value.int _) ?_; dsimp only; omega))))))) (by (repeat (first | exact Takes.nil | exact Take.head | apply Take.tail | apply Takes.cons)))
    intro J0
    refine RunT.three 1 9 16 (by kernel_rfl) (by exact rfl) (by exact rfl) (by exact rfl) (by exact rfl) (by exact rfl) (by exact rfl) ?_ ?_ ?_
    · refine OpT.buildSlice0_ (k := ?_)
      intro zb
      refine And.intro gud ?_
      refine RunT.imp (fun w hm => hm.toArr (iα := inferInstance) (ef := inferInstance) (b := zb) (e := 37) (f := pkC) (n := 0) (by (repeat (first | exact Take.head | apply Take.tail))) ([] : List (Int × Int)) rfl rfl (by unfold maxLen; simp)) ?_
      refine RunT.three 3 9 16 (by kernel_rfl) (by exact rfl) (by exact rfl) (by exact rfl) (by exact rfl) (by exact rfl) (by exact rfl) ?_ ?_ ?_
      · refine OpT.appendS_ (l2 := ps.l) (k := ?_)
        intro ao cap
        refine And.intro gud ?_
        simp only [Nat.zero_add, List.nil_append]
        refine RunT.two 9 16 (by kernel_rfl) (by exact rfl) (by exact rfl) (by exact rfl) (by exact rfl) ?_ ?_
        · refine OpT.buildSlice_ (k := ?_)
          intro pb
          refine And.intro gud ?_
          refine RunT.imp (fun w hm => hm.toArr (iα := inferInstance) (ef := inferInstance) (b := pb) (e := 37) (f := pkC) (n := 1) (by (repeat (first | exact Take.head | apply Take.tail))) ([(t, one + two)] : List (Int × Int)) rfl rfl (by unfold maxLen; simp)) ?_
          exact J0 (ao, cap, pb) (by kernel_rfl) (by (repeat (first | exact Sub.nil | (apply Sub.cons; (focus (exact rfl))) | (apply Sub.cons'; (focus (exact rfl)); (focus (first | exact rfl | (refine congrArg (Value.int _) ?_; omega) | (refine congrArg (Value.int _) ?_; dsimp only; omega))))))) (by (repeat (first | exact Takes.nil | exact Take.head | apply Take.tail | apply Takes.cons)))
        · refine OpT.alloc_ (k := ?_)
          intro rb
          refine And.intro gud ?_
          refine RunT.one 9 (by kernel_rfl) (by exact rfl) (by exact rfl) ?_
          refine OpT.buildSlice_ (k := ?_)
          intro pb
          refine And.intro gud ?_
          refine RunT.imp (fun w hm => hm.toArr (iα := inferInstance) (ef := inferInstance) (b := pb) (e := 37) (f := pkC) (n := 1) (by (repeat (first | exact Take.head | apply Take.tail))) ([(t, one + two)] : List (Int × Int)) rfl rfl (by unfold maxLen; simp)) ?_
          exact J1 (rb, ao, cap, pb) (by kernel_rfl) (by (repeat (first | exact Sub.nil | (apply Sub.cons; (focus (exact rfl))) | (apply Sub.cons'; (focus (exact rfl)); (focus (first | exact rfl | (refine congrArg (Value.int _) ?_; omega) | (refine congrArg (Value.int _) ?_; dsimp only; omega))))))) (by (repeat (first | exact Takes.nil | exact Take.head | apply Take.tail | apply Takes.cons)))
      · refine OpT.buildSlice_ (k := ?_)
        intro pb
        refine And.intro gud ?_
        refine RunT.imp (fun w hm => hm.toArr (iα := inferInstance) (ef := inferInstance) (b := pb) (e := 37) (f := pkC) (n := 1) (by (repeat (first | exact Take.head | apply Take.tail))) ([(t, one + two)] : List (Int × Int)) rfl rfl (by unfold maxLen; simp)) ?_
        refine RunT.two 3 16 (by kernel_rfl) (by exact rfl) (by exact rfl) (by exact rfl) (by exact rfl) ?_ ?_
        · refine OpT.appendS_ (l2 := ps.l) (k := ?_)
          intro ao cap
          refine And.intro gud ?_
          simp only [Nat.zero_add, List.nil_append]
          exact J0 (ao, cap, pb) (by kernel_rfl) (by (repeat (first | exact Sub.nil | (apply Sub.cons; (focus (exact rfl))) | (apply Sub.cons'; (focus (exact rfl)); (focus (first | exact rfl | (refine congrArg (Value.int _) ?_; omega) | (refine congrArg (Value.int _) ?_; dsimp only; omega))))))) (by (repeat (first | exact Takes.nil | exact Take.head | apply Take.tail | apply Takes.cons)))
        · refine OpT.alloc_ (k := ?_)
          intro rb
          refine And.intro gud ?_
          refine RunT.one 3 (by kernel_rfl) (by exact rfl) (by exact rfl) ?_
          refine OpT.appendS_ (l2 := ps.l) (k := ?_)
          intro ao cap
          refine And.intro gud ?_
          simp only [Nat.zero_add, List.nil_append]
          exact J1 (rb, ao, cap, pb) (by kernel_rfl) (by (repeat (first | exact Sub.nil | (apply Sub.cons; (focus (exact rfl))) | (apply Sub.cons'; (focus (exact rfl)); (focus (first | exact rfl | (refine congrArg (Value.int _) ?_; omega) | (refine congrArg (Value.int _) ?_; dsimp only; omega))))))) (by (repeat (first | exact Takes.nil | exact Take.head | apply Take.tail | apply Takes.cons)))
      · refine OpT.alloc_ (k := ?_)
        intro rb
        refine And.intro gud ?_
        refine RunT.two 3 9 (by kernel_rfl) (by exact rfl) (by exact rfl) (by exact rfl) (by exact rfl) ?_ ?_
        · refine OpT.appendS_ (l2 := ps.l) (k := ?_)
          intro ao cap
          refine And.intro gud ?_
          simp only [Nat.zero_add, List.nil_append]
          refine RunT.one 9 (by kernel_rfl) (by exact rfl) (by exact rfl) ?_
          refine OpT.buildSlice_ (k := ?_)
          intro pb
          refine And.intro gud ?_
          refine RunT.imp (fun w hm => hm.toArr (iα := inferInstance) (ef := inferInstance) (b := pb) (e := 37) (f := pkC) (n := 1) (by (repeat (first | exact Take.head | apply Take.tail))) ([(t, one + two)] : List (Int × Int)) rfl rfl (by unfold maxLen; simp)) ?_
          exact J1 (rb, ao, cap, pb) (by kernel_rfl) (by (repeat (first | exact Sub.nil | (apply Sub.cons; (focus (exact rfl))) | (apply Sub.cons'; (focus (exact rfl)); (focus (first | exact rfl | (refine congrArg (Value.int _) ?_; omega) | (refine congrArg (Value.int _) ?_; dsimp only; omega))))))) (by (repeat (first | exact Takes.nil | exact Take.head | apply Take.tail | apply Takes.cons)))
        · refine OpT.buildSlice_ (k := ?_)
          intro pb
          refine And.intro gud ?_
          refine RunT.imp (fun w hm => hm.toArr (iα := inferInstance) (ef := inferInstance) (b := pb) (e := 37) (f := pkC) (n := 1) (by (repeat (first | exact Take.head | apply Take.tail))) ([(t, one + two)] : List (Int × Int)) rfl rfl (by unfold maxLen; simp)) ?_
          refine RunT.one 3 (by kernel_rfl) (by exact rfl) (by exact rfl) ?_
          refine OpT.appendS_ (l2 := ps.l) (k := ?_)
          intro ao cap
          refine And.intro gud ?_
          simp only [Nat.zero_add, List.nil_append]
          exact J1 (rb, ao, cap, pb) (by kernel_rfl) (by (repeat (first | exact Sub.nil | (apply Sub.cons; (focus (exact rfl))) | (apply Sub.cons'; (focus (exact rfl)); (focus (first | exact rfl | (refine congrArg (Value.int _) ?_; omega) | (refine congrArg (Value.int _) ?_; dsimp only; omega))))))) (by (repeat (first | exact Takes.nil | exact Take.head | apply Take.tail | apply Takes.cons)))
    · refine OpT.buildSlice_ (k := ?_)
      intro pb
      refine And.intro gud ?_
      refine RunT.imp (fun w hm => hm.toArr (iα := inferInstance) (ef := inferInstance) (b := pb) (e := 37) (f := pkC) (n := 1) (by (repeat (first | exact Take.head | apply Take.tail))) ([(t, one + two)] : List (Int × Int)) rfl rfl (by unfold maxLen; simp)) ?_
      refine RunT.two 1 16 (by kernel_rfl) (by exact rfl) (by exact rfl) (by exact rfl) (by exact rfl) ?_ ?_
      · refine OpT.buildSlice0_ (k := ?_)
        intro zb
        refine And.intro gud ?_
        refine RunT.imp (fun w hm => hm.toArr (iα := inferInstance) (ef := inferInstance) (b := zb) (e := 37) (f := pkC) (n := 0) (by (repeat (first | exact Take.head | apply Take.tail))) ([] : List (Int × Int)) rfl rfl (by unfold maxLen; simp)) ?_
        refine RunT.two 3 16 (by kernel_rfl) (by exact rfl) (by exact rfl) (by exact rfl) (by exact rfl) ?_ ?_
        · refine OpT.appendS_ (l2 := ps.l) (k := ?_)
          intro ao cap
          refine And.intro gud ?_
          simp only [Nat.zero_add, List.nil_append]
          exact J0 (ao, cap, pb) (by kernel_rfl) (by (repeat (first | exact Sub.nil | (apply Sub.cons; (focus (exact rfl))) | (apply Sub.cons'; (focus (exact rfl)); (focus (first | exact rfl | (refine congrArg (Value.int _) ?_; omega) | (refine congrArg (Value.int _) ?_; dsimp only; omega))))))) (by (repeat (first | exact Takes.nil | exact Take.head | apply Take.tail | apply Takes.cons)))
        · refine OpT.alloc_ (k := ?_)
          intro rb
          refine And.intro gud ?_
          refine RunT.one 3 (by kernel_rfl) (by exact rfl) (by exact rfl) ?_
          refine OpT.appendS_ (l2 := ps.l) (k := ?_)
          intro ao cap
          refine And.intro gud ?_
          simp only [Nat.zero_add, List.nil_append]
          exact J1 (rb, ao, cap, pb) (by kernel_rfl) (by (repeat (first | exact Sub.nil | (apply Sub.cons; (focus (exact rfl))) | (apply Sub.cons'; (focus (exact rfl)); (focus (first | exact rfl | (refine congrArg (Value.int _) ?_; omega) | (refine congrArg (Value.int _) ?_; dsimp only; omega))))))) (by (repeat (first | exact Takes.nil | exact Take.head | apply Take.tail | apply Takes.cons)))
      · refine OpT.alloc_ (k := ?_)
        intro rb
        refine And.intro gud ?_
        refine RunT.one 1 (by kernel_rfl) (by exact rfl) (by exact rfl) ?_
        refine OpT.buildSlice0_ (k := ?_)
        intro zb
        refine And.intro gud ?_
        refine RunT.imp (fun w hm => hm.toArr (iα := inferInstance) (ef := inferInstance) (b := zb) (e := 37) (f := pkC) (n := 0) (by (repeat (first | exact Take.head | apply Take.tail))) ([] : List (Int × Int)) rfl rfl (by unfold maxLen; simp)) ?_
        refine RunT.one 3 (by kernel_rfl) (by exact rfl) (by exact rfl) ?_
        refine OpT.appendS_ (l2 := ps.l) (k := ?_)
        intro ao cap
        refine And.intro gud ?_
        simp only [Nat.zero_add, List.nil_append]
        exact J1 (rb, ao, cap, pb) (by kernel_rfl) (by (repeat (first | exact Sub.nil | (apply Sub.cons; (focus (exact rfl))) | (apply Sub.cons'; (focus (exact rfl)); (focus (first | exact rfl | (refine congrArg (Value.int _) ?_; omega) | (refine congrArg (Value.int _) ?_; dsimp only; omega))))))) (by (repeat (first | exact Takes.nil | exact Take.head | apply Take.tail | apply Takes.cons)))
    · refine OpT.alloc_ (k := ?_)
      intro rb
      refine And.intro gud ?_
      refine RunT.two 1 9 (by kernel_rfl) (by exact rfl) (by exact rfl) (by exact rfl) (by exact rfl) ?_ ?_
      · refine OpT.buildSlice0_ (k := ?_)
        intro zb
        refine And.intro gud ?_
        refine RunT.imp (fun w hm => hm.toArr (iα := inferInstance) (ef := inferInstance) (b := zb) (e := 37) (f := pkC) (n := 0) (by (repeat (first | exact Take.head | apply Take.tail))) ([] : List (Int × Int)) rfl rfl (by unfold maxLen; simp)) ?_
        refine RunT.two 3 9 (by kernel_rfl) (by exact rfl) (by exact rfl) (by exact rfl) (by exact rfl) ?_ ?_
        · refine OpT.appendS_ (l2 := ps.l) (k := ?_)
          intro ao cap
          refine And.intro gud ?_
          simp only [Nat.zero_add, List.nil_append]
          refine RunT.one 9 (by kernel_rfl) (by exact rfl) (by exact rfl) ?_
          refine OpT.buildSlice_ (k := ?_)
          intro pb
          refine And.intro gud ?_
          refine RunT.imp (fun w hm => hm.toArr (iα := inferInstance) (ef := inferInstance) (b := pb) (e := 37) (f := pkC) (n := 1) (by (repeat (first | exact Take.head | apply Take.tail))) ([(t, one + two)] : List (Int × Int)) rfl rfl (by unfold maxLen; simp)) ?_
          exact J1 (rb, ao, cap, pb) (by kernel_rfl) (by (repeat (first | exact Sub.nil | (apply Sub.cons; (focus (exact rfl))) | (apply Sub.cons'; (focus (exact rfl)); (focus (first | exact rfl | (refine congrArg (Value.int _) ?_; omega) | (refine congrArg (Value.int _) ?_; dsimp only; omega))))))) (by (repeat (first | exact Takes.nil | exact Take.head | apply Take.tail | apply Takes.cons)))
        · refine OpT.buildSlice_ (k := ?_)
          intro pb
          refine And.intro gud ?_
          refine RunT.imp (fun w hm => hm.toArr (iα := inferInstance) (ef := inferInstance) (b := pb) (e := 37) (f := pkC) (n := 1) (by (repeat (first | exact Take.head | apply Take.tail))) ([(t, one + two)] : List (Int × Int)) rfl rfl (by unfold maxLen; simp)) ?_
          refine RunT.one 3 (by kernel_rfl) (by exact rfl) (by exact rfl) ?_
          refine OpT.appendS_ (l2 := ps.l) (k := ?_)
          intro ao cap
          refine And.intro gud ?_
          simp only [Nat.zero_add, List.nil_append]
          exact J1 (rb, ao, cap, pb) (by kernel_rfl) (by (repeat (first | exact Sub.nil | (apply Sub.cons; (focus (exact rfl))) | (apply Sub.cons'; (focus (exact rfl)); (focus (first | exact rfl | (refine congrArg (Value.int _) ?_; omega) | (refine congrArg (Value.int _) ?_; dsimp only; omega))))))) (by (repeat (first | exact Takes.nil | exact Take.head | apply Take.tail | apply Takes.cons)))
      · refine OpT.buildSlice_ (k := ?_)
        intro pb
        refine And.intro gud ?_
        refine RunT.imp (fun w hm => hm.toArr (iα := inferInstance) (ef := inferInstance) (b := pb) (e := 37) (f := pkC) (n := 1) (by (repeat (first | exact Take.head | apply Take.tail))) ([(t, one + two)] : List (Int × Int)) rfl rfl (by unfold maxLen; simp)) ?_
        refine RunT.one 1 (by kernel_rfl) (by exact rfl) (by exact rfl) ?_
        refine OpT.buildSlice0_ (k := ?_)
        intro zb
        refine And.intro gud ?_
        refine RunT.imp (fun w hm => hm.toArr (iα := inferInstance) (ef := inferInstance) (b := zb) (e := 37) (f := pkC) (n := 0) (by (repeat (first | exact Take.head | apply Take.tail))) ([] : List (Int × Int)) rfl rfl (by unfold maxLen; simp)) ?_
        refine RunT.one 3 (by kernel_rfl) (by exact rfl) (by exact rfl) ?_
        refine OpT.appendS_ (l2 := ps.l) (k := ?_)
        intro ao cap
        refine And.intro gud ?_
        simp only [Nat.zero_add, List.nil_append]
        exact J1 (rb, ao, cap, pb) (by kernel_rfl) (by (repeat (first | exact Sub.nil | (apply Sub.cons; (focus (exact rfl))) | (apply Sub.cons'; (focus (exact rfl)); (focus (first | exact rfl | (refine congrArg (Value.int _) ?_; omega) | (refine congrArg (Value.int _) ?_; dsimp only; omega))))))) (by (repeat (first | exact Takes.nil | exact Take.head | apply Take.tail | apply Takes.cons)))
  rintro ⟨v, vb⟩ hv
  dsimp only at hv ⊢
  have hl : Vm.wrong m.mdl (ps.l ++ [(t, one), (t, two)]).length = Vm.wrong m.mdl (ps.l ++ [(t, one + two)]).length := wrong_len (by simp; omega) (by simp; omega)
  have hE : a.w.Eq v.w := by
    unfold RunIs at ha hv
    by_cases h : Vm.wrong m.mdl (ps.l ++ [(t, one), (t, two)]).length = 0
    · rw [if_pos h] at ha
      rw [if_pos (by rw [← hl]; exact h)] at hv
      have h1 := ha.w
      rw [picks_quantum m ps.l t one two (by omega) (by omega) (by omega) (by omega)] at h1
      exact h1.eq hv.w
    · rw [if_neg h] at ha
      rw [if_neg (by rw [← hl]; exact h)] at hv
      subst ha hv
      exact ⟨rfl, rfl, rfl⟩
  rw [hl]
  clear ha hv hl
  apply Cod.imp (fun w hm => Mem.unpack (hm.take (show Take (bag a.w.mem) _ _ by (repeat (first | exact Take.head | apply Take.tail)))))
  (try conv => rhs; simp only [List.cons_append, List.nil_append])
  apply Cod.imp (fun w hm => wo_own a.w (by (repeat (first | exact Takes.nil | exact Take.head | apply Take.tail | apply Takes.cons))) hm)
  apply Cod.imp (fun w hm => wo_own v.w (by (repeat (first | exact Takes.nil | exact Take.head | apply Take.tail | apply Takes.cons))) hm)
  (try conv => rhs; simp only [List.cons_append, List.nil_append])
  repeat (first | refine go (k := ?_) | (refine goB (k := ?_); intro b) | (refine goA (k := ?_); intro ao cap))
  ((first | (apply Run.op; exact rfl) | refine Run.yes_ (h := ?_)); refine OpT.call0_ (spec := same10_is a.w v.w hE) (r := (fun w => Reads.any (by (repeat (first | exact Take.head | apply Take.tail))) ed_excl (Reads.any (by (repeat (first | exact Take.head | apply Take.tail))) fd_excl (Reads.any (by (repeat (first | exact Take.head | apply Take.tail))) ed_excl (Reads.any (by (repeat (first | exact Take.head | apply Take.tail))) fd_excl .nil))))) (k := ?_); intro s hs; (try conv => rhs; simp only [List.cons_append, List.nil_append]))
  repeat (first | refine go (k := ?_) | (refine goB (k := ?_); intro b) | (refine goA (k := ?_); intro ao cap))
  (refine End.done1_ (()) (he := by (first | exact rfl | (refine congrArg (Value.int _) ?_; omega) | (refine congrArg (Value.int _) ?_; dsimp only; omega))) (hp := ?_))
  trivial
end Go.Proofs.Ytjehflelkpacfaa.Vw
