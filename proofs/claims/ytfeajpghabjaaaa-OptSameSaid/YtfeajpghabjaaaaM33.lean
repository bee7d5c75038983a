/- A step's operations, walked. -/
import Derived.Test.YtfeajpghabjaaaaM32
namespace Go.Proofs.Ytfeajpghabjaaaa.Vw
open Go.RowKit Go.Proofs.Ytfeajpghabjaaaa.Img
set_option linter.unusedVariables false
set_option linter.unusedSimpArgs false
attribute [local irreducible] Run Cod End OpT Still RunQ RunS RunT Fn PutOk
variable {E : EnvM}
set_option maxRecDepth 100000 in
set_option maxHeartbeats 2000000 in
theorem step2_is (p : Pl) (z : SL E) (hz : z.Wf) (hs : Stands p.m z) (h1 : (z.look p.m).st = 1) (hpc : z.f.pc ≤ 100000) (hc : CanS p.m (z.moved p.m) (insL p.m z)) (ha : After p.m (z.moved p.m) (insL p.m z)) (hop : (insL p.m z).op = 5 ∨ (insL p.m z).op = 6 ∨ (insL p.m z).op = 7) :
    Fn Try.prog 28 #[ptr p.tb] [md p.m, E.rc] (TM p z) (σ := SL E) (Gives z (Vm.step E.V p.m.mdl z.two).2) (fun _ => .bool (Vm.step E.V p.m.mdl z.two).1) (fun z' => TM p z') := by
  obtain ⟨g1, g2, g3, g4, g5⟩ := id hs
  have hl : 0 < z.cur.fr.length := List.length_pos_iff.2 g1
  have w1 : IntKind.i64.wrap ((z.cur.fr.length : Int) - 1) = ((z.cur.fr.length - 1 : Nat) : Int) := by rw [wrap_i64_in (by omega)]; omega
  have w2 : IntKind.i64.wrap ((z.f.pc : Int) + 1) = ((z.f.pc + 1 : Nat) : Int) := by rw [wrap_i64_in (by omega)]; omega
  refine Fn.enter (args := [ptr p.tb]) Try.func28 rfl _ Try.ntmps28 rfl (by simp [rd_excl, md_excl]) (fun w S => ?_)
  (try conv => rhs; simp only [List.cons_append, List.nil_append])
  repeat (first | refine go (k := ?_) | (refine goB (k := ?_); intro b) | (refine goA (k := ?_); intro ao cap))
  ((first | (apply Run.op; exact rfl) | refine Run.yes_ (h := ?_)); refine OpT.call0_ (spec := look_is p z hz (fun _ => hs)) (r := fun w => Reads.md (by (repeat (first | exact Take.head | apply Take.tail))) (Reads.any (by (repeat (first | exact Take.head | apply Take.tail))) E.rexcl .nil)) (k := ?_); intro s hs; (try conv => rhs; simp only [List.cons_append, List.nil_append]))
  repeat (first | refine go (k := ?_) | (refine goB (k := ?_); intro b) | (refine goA (k := ?_); intro ao cap))
  apply Cod.draw 21 ([tkM p (z.look p.m), moM p, frM z.cur, md p.m]) (by kernel_rfl) 22 rfl
  refine RunT.takeR_ 0 (h := ?_)
  refine RunT.takeR_ 1 (h := ?_)
  refine RunT.takeR_ 2 (h := ?_)
  refine RunT.takeR_ 3 (h := ?_)
  refine RunT.takeR_ 4 (h := ?_)
  refine RunT.takeR_ 5 (h := ?_)
  refine RunT.takeR_ 6 (h := ?_)
  refine RunT.takeR_ 7 (h := ?_)
  refine RunT.takeR_ 8 (h := ?_)
  refine RunT.takeR_ 9 (h := ?_)
  refine RunT.takeR_ 10 (h := ?_)
  refine RunT.takeR_ 11 (h := ?_)
  refine RunT.takeR_ 12 (h := ?_)
  refine RunT.takeR_ 13 (h := ?_)
  refine RunT.takeR_ 14 (h := ?_)
  refine RunT.takeR_ 15 (h := ?_)
  refine RunT.takeR_ 16 (h := ?_)
  refine RunT.takeR_ 17 (h := ?_)
  refine RunT.takeR_ 18 (h := ?_)
  refine RunT.takeR_ 19 (h := ?_)
  (refine RunT.one_ 20 (h := ?_); (first | refine OpT.val_ (k := ?_) | (refine OpT.alloc_ (k := ?_); intro b) | (refine OpT.box_ (k := ?_); intro b) | refine OpT.store_ (k := ?_) | (refine OpT.buildSlice_ (k := ?_); intro b) | (refine OpT.buildSlice0_ (k := ?_); intro b) | (refine OpT.append1_ (k := ?_); intro ao cap) | (refine OpT.cutA0_ (k := ?_); intro ao cap) | (refine OpT.cutR0_ (k := ?_); intro ao cap) | (refine OpT.cutA1_ (k := ?_); intro ao cap) | (refine OpT.cutA_ (k := ?_); intro ao cap) | (refine OpT.cutR_ (k := ?_); intro ao cap)); refine And.intro gud ?_)
  (refine RunT.one_ 21 (h := ?_); (first | refine OpT.val_ (k := ?_) | (refine OpT.alloc_ (k := ?_); intro b) | (refine OpT.box_ (k := ?_); intro b) | refine OpT.store_ (k := ?_) | (refine OpT.buildSlice_ (k := ?_); intro b) | (refine OpT.buildSlice0_ (k := ?_); intro b) | (refine OpT.append1_ (k := ?_); intro ao cap) | (refine OpT.cutA0_ (k := ?_); intro ao cap) | (refine OpT.cutR0_ (k := ?_); intro ao cap) | (refine OpT.cutA1_ (k := ?_); intro ao cap) | (refine OpT.cutA_ (k := ?_); intro ao cap) | (refine OpT.cutR_ (k := ?_); intro ao cap)); refine And.intro gud ?_)
  (apply RunT.done; kernel_rfl)
  repeat (first | refine go (k := ?_) | (refine goB (k := ?_); intro b) | (refine goA (k := ?_); intro ao cap))
  (apply Run.op; exact rfl; refine OpT.storeE_ (f := frC) (l := z.cur.fr) (i := z.cur.fr.length - 1) (off := 1) (vs := [.int .i64 ((z.f.pc + 1 : Nat) : Int)]) (a' := (⟨z.f.unit, z.f.pc + 1, z.f.base⟩ : Vm.Fr)) (k := ?_))
  apply Run.nil
  apply End.seqN
  obtain ⟨ib, rfl⟩ : ∃ x, x = b := ⟨_, rfl⟩
  refine Cod.sub [(0, ptr p.tb), (2, .bool false), (3, .pointer (place (sz frC) z.cur.fo (z.cur.fr.length - 1) 0)), (4, ptr ib)] (by (repeat (first | exact Sub.nil | (apply Sub.cons; (focus (exact rfl))) | (apply Sub.cons'; (focus (exact rfl)); (focus (first | exact rfl | (refine congrArg (Value.int _) ?_; omega) | (refine congrArg (Value.int _) ?_; dsimp only; omega))))))) ?_
  have hln : z.cur.fr.length = (z.cur.fr.set (z.cur.fr.length - 1) (⟨z.f.unit, z.f.pc + 1, z.f.base⟩ : Vm.Fr)).length := by rw [List.length_set]
  refine Cod.only (old w S :: md p.m :: E.rc :: blk ib (insC (insL p.m z)) 57 :: TM p (z.moved p.m)) (by (repeat (first | exact Takes.nil | exact Take.head | (refine Take.blkEq ?_; (focus (first | rfl | (simp; done) | (simp; omega) | omega | (simp [*]; done)))) | (refine Take.arrEq ?_ ?_; (focus (first | rfl | (simp; done) | (simp; omega) | omega | (simp [*]; done))); (focus (first | rfl | (simp; done) | (simp; omega) | omega | (simp [*]; done)))) | apply Take.tail | apply Takes.cons))) ?_
  have hpl : place (sz frC) z.cur.fo (z.cur.fr.length - 1) 0 = place (sz frC) (z.moved p.m).cur.fo ((z.moved p.m).cur.fr.length - 1) 0 := by rw [show (z.moved p.m).cur.fr.length = z.cur.fr.length from List.length_set]
  rw [hpl]
  have hstep := hz.step_two p.m h1
  rw [hstep]
  have hz1 := hz.moved p.m
  obtain ⟨i, hi⟩ : ∃ i, i = insL p.m z := ⟨_, rfl⟩
  obtain ⟨z1, hz1e⟩ : ∃ z1, z1 = z.moved p.m := ⟨_, rfl⟩
  rw [← hi, ← hz1e] at hc ha ⊢
  rw [← hz1e] at hz1
  rw [← hi] at hop
  have c1 := hc.some (by omega)
  repeat (first | refine go (k := ?_) | (refine goB (k := ?_); intro b) | (refine goA (k := ?_); intro ao cap))
  rcases hop with hop | hop | hop
  · repeat (first | refine go (k := ?_) | (refine goB (k := ?_); intro b) | (refine goA (k := ?_); intro ao cap))
    (apply Run.op; exact rfl; refine OpT.call0_ (spec := pop_is' (z1.F p) z1.st z1.tr (z1.cur.st : Int) (ptrO z1.cur.upb) (.slice z1.cur.fo z1.cur.fr.length z1.cur.fc) E.mailV (toldV E.told) z1.cur.sk hz1.curOk c1) (k := ?_); intro s hs; (try conv => rhs; simp only [List.cons_append, List.nil_append]))
    obtain ⟨k1, rfl⟩ : ∃ x, x = s := ⟨_, rfl⟩
    obtain ⟨t1, t2⟩ := popped hz1 hs
    have t3 : (z1.sk k1).two = Vm.exec E.V p.m.mdl i z1.two := by
      unfold Vm.exec; simp [hop]; exact congrArg (fun t => (t, E.abs z1.e)) t2
    repeat (first | refine go (k := ?_) | (refine goB (k := ?_); intro b) | (refine goA (k := ?_); intro ao cap))
    ((first | (apply Run.op; exact rfl) | refine Run.yes_ (h := ?_)); refine OpT.call0_ (spec := look_is p (z1.sk k1) t1 (ha (z1.sk k1) t1 t3)) (r := fun w => Reads.md (by (repeat (first | exact Take.head | apply Take.tail))) (Reads.any (by (repeat (first | exact Take.head | apply Take.tail))) E.rexcl .nil)) (k := ?_); intro s hs; (try conv => rhs; simp only [List.cons_append, List.nil_append]))
    repeat (first | refine go (k := ?_) | (refine goB (k := ?_); intro b) | (refine goA (k := ?_); intro ao cap))
    (refine End.done1_ ((SL.look (z1.sk k1) p.m)) (he := by (first | exact rfl | (refine congrArg (Value.int _) ?_; omega) | (refine congrArg (Value.int _) ?_; dsimp only; omega))) (hp := ?_))
    exact ⟨t1.look p.m, (t1.look_two p.m).trans (by rw [t3])⟩
  · repeat (first | refine go (k := ?_) | (refine goB (k := ?_); intro b) | (refine goA (k := ?_); intro ao cap))
    (apply Run.op; exact rfl; refine OpT.call0_ (spec := pop_is' (z1.F p) z1.st z1.tr (z1.cur.st : Int) (ptrO z1.cur.upb) (.slice z1.cur.fo z1.cur.fr.length z1.cur.fc) E.mailV (toldV E.told) z1.cur.sk hz1.curOk c1) (k := ?_); intro s hs; (try conv => rhs; simp only [List.cons_append, List.nil_append]))
    obtain ⟨k1, rfl⟩ : ∃ x, x = s := ⟨_, rfl⟩
    obtain ⟨p1, p2⟩ := popped hz1 hs
    have hks := p1.curOk
    repeat (first | refine go (k := ?_) | (refine goB (k := ?_); intro b) | (refine goA (k := ?_); intro ao cap))
    ((first | (apply Run.op; exact rfl) | refine Run.yes_ (h := ?_)); refine OpT.call0_ (spec := push_is' E (z1.F p) z1.st z1.tr z1.e (hc.okk hz1) (z1.cur.st : Int) (ptrO z1.cur.upb) (.slice z1.cur.fo z1.cur.fr.length z1.cur.fc) k1 hks (IntKind.i64.wrap (0 - z1.top 1))) (r := fun w => Reads.any (by (repeat (first | exact Take.head | apply Take.tail))) E.rexcl .nil) (k := ?_); intro s hs; (try conv => rhs; simp only [List.cons_append, List.nil_append]))
    obtain ⟨q, rfl⟩ : ∃ x, x = s := ⟨_, rfl⟩
    obtain ⟨t1, t2⟩ := pushed p1 hs
    have t3 : ((z1.sk k1).put q).two = Vm.exec E.V p.m.mdl i z1.two := by
      rw [t2]
      unfold Vm.exec; simp [hop]
      show Vm.push E.V _ ((z1.sk k1).tk, E.abs z1.e) = Vm.push E.V (IntKind.i64.wrap (-(Vm.last z1.tk))) (Vm.drop 1 z1.tk, E.abs z1.e)
      rw [p2, hz1.last]
      try simp
    repeat (first | refine go (k := ?_) | (refine goB (k := ?_); intro b) | (refine goA (k := ?_); intro ao cap))
    ((first | (apply Run.op; exact rfl) | refine Run.yes_ (h := ?_)); refine OpT.call0_ (spec := look_is p ((z1.sk k1).put q) t1 (ha ((z1.sk k1).put q) t1 t3)) (r := fun w => Reads.md (by (repeat (first | exact Take.head | apply Take.tail))) (Reads.any (by (repeat (first | exact Take.head | apply Take.tail))) E.rexcl .nil)) (k := ?_); intro s hs; (try conv => rhs; simp only [List.cons_append, List.nil_append]))
    repeat (first | refine go (k := ?_) | (refine goB (k := ?_); intro b) | (refine goA (k := ?_); intro ao cap))
    (refine End.done1_ ((SL.look ((z1.sk k1).put q) p.m)) (he := by (first | exact rfl | (refine congrArg (Value.int _) ?_; omega) | (refine congrArg (Value.int _) ?_; dsimp only; omega))) (hp := ?_))
    exact ⟨t1.look p.m, (t1.look_two p.m).trans (by rw [t3])⟩
  · repeat (first | refine go (k := ?_) | (refine goB (k := ?_); intro b) | (refine goA (k := ?_); intro ao cap))
    (apply Run.op; exact rfl; refine OpT.call0_ (spec := pop_is' (z1.F p) z1.st z1.tr (z1.cur.st : Int) (ptrO z1.cur.upb) (.slice z1.cur.fo z1.cur.fr.length z1.cur.fc) E.mailV (toldV E.told) z1.cur.sk hz1.curOk c1) (k := ?_); intro s hs; (try conv => rhs; simp only [List.cons_append, List.nil_append]))
    obtain ⟨k1, rfl⟩ : ∃ x, x = s := ⟨_, rfl⟩
    obtain ⟨p1, p2⟩ := popped hz1 hs
    have hks := p1.curOk
    repeat (first | refine go (k := ?_) | (refine goB (k := ?_); intro b) | (refine goA (k := ?_); intro ao cap))
    ((first | (apply Run.op; exact rfl) | refine Run.yes_ (h := ?_)); refine OpT.call0_ (spec := push_is' E (z1.F p) z1.st z1.tr z1.e (hc.okk hz1) (z1.cur.st : Int) (ptrO z1.cur.upb) (.slice z1.cur.fo z1.cur.fr.length z1.cur.fc) k1 hks (IntKind.i64.wrap (1 - z1.top 1))) (r := fun w => Reads.any (by (repeat (first | exact Take.head | apply Take.tail))) E.rexcl .nil) (k := ?_); intro s hs; (try conv => rhs; simp only [List.cons_append, List.nil_append]))
    obtain ⟨q, rfl⟩ : ∃ x, x = s := ⟨_, rfl⟩
    obtain ⟨t1, t2⟩ := pushed p1 hs
    have t3 : ((z1.sk k1).put q).two = Vm.exec E.V p.m.mdl i z1.two := by
      rw [t2]
      unfold Vm.exec; simp [hop]
      show Vm.push E.V _ ((z1.sk k1).tk, E.abs z1.e) = Vm.push E.V (IntKind.i64.wrap (1 - Vm.last z1.tk)) (Vm.drop 1 z1.tk, E.abs z1.e)
      rw [p2, hz1.last]
      try simp
    repeat (first | refine go (k := ?_) | (refine goB (k := ?_); intro b) | (refine goA (k := ?_); intro ao cap))
    ((first | (apply Run.op; exact rfl) | refine Run.yes_ (h := ?_)); refine OpT.call0_ (spec := look_is p ((z1.sk k1).put q) t1 (ha ((z1.sk k1).put q) t1 t3)) (r := fun w => Reads.md (by (repeat (first | exact Take.head | apply Take.tail))) (Reads.any (by (repeat (first | exact Take.head | apply Take.tail))) E.rexcl .nil)) (k := ?_); intro s hs; (try conv => rhs; simp only [List.cons_append, List.nil_append]))
    repeat (first | refine go (k := ?_) | (refine goB (k := ?_); intro b) | (refine goA (k := ?_); intro ao cap))
    (refine End.done1_ ((SL.look ((z1.sk k1).put q) p.m)) (he := by (first | exact rfl | (refine congrArg (Value.int _) ?_; omega) | (refine congrArg (Value.int _) ?_; dsimp only; omega))) (hp := ?_))
    exact ⟨t1.look p.m, (t1.look_two p.m).trans (by rw [t3])⟩
end Go.Proofs.Ytfeajpghabjaaaa.Vw

/- A step's operations, walked. -/
namespace Go.Proofs.Ytfeajpghabjaaaa.Vw
open Go.RowKit Go.Proofs.Ytfeajpghabjaaaa.Img
set_option linter.unusedVariables false
set_option linter.unusedSimpArgs false
attribute [local irreducible] Run Cod End OpT Still RunQ RunS RunT Fn PutOk
variable {E : EnvM}
set_option maxRecDepth 100000 in
set_option maxHeartbeats 2000000 in
theorem step3_is (p : Pl) (z : SL E) (hz : z.Wf) (hs : Stands p.m z) (h1 : (z.look p.m).st = 1) (hpc : z.f.pc ≤ 100000) (hc : CanS p.m (z.moved p.m) (insL p.m z)) (ha : After p.m (z.moved p.m) (insL p.m z)) (hop : 8 ≤ (insL p.m z).op ∧ (insL p.m z).op ≤ 20) :
    Fn Try.prog 28 #[ptr p.tb] [md p.m, E.rc] (TM p z) (σ := SL E) (Gives z (Vm.step E.V p.m.mdl z.two).2) (fun _ => .bool (Vm.step E.V p.m.mdl z.two).1) (fun z' => TM p z') := by
  obtain ⟨g1, g2, g3, g4, g5⟩ := id hs
  have hl : 0 < z.cur.fr.length := List.length_pos_iff.2 g1
  have w1 : IntKind.i64.wrap ((z.cur.fr.length : Int) - 1) = ((z.cur.fr.length - 1 : Nat) : Int) := by rw [wrap_i64_in (by omega)]; omega
  have w2 : IntKind.i64.wrap ((z.f.pc : Int) + 1) = ((z.f.pc + 1 : Nat) : Int) := by rw [wrap_i64_in (by omega)]; omega
  refine Fn.enter (args := [ptr p.tb]) Try.func28 rfl _ Try.ntmps28 rfl (by simp [rd_excl, md_excl]) (fun w S => ?_)
  (try conv => rhs; simp only [List.cons_append, List.nil_append])
  repeat (first | refine go (k := ?_) | (refine goB (k := ?_); intro b) | (refine goA (k := ?_); intro ao cap))
  ((first | (apply Run.op; exact rfl) | refine Run.yes_ (h := ?_)); refine OpT.call0_ (spec := look_is p z hz (fun _ => hs)) (r := fun w => Reads.md (by (repeat (first | exact Take.head | apply Take.tail))) (Reads.any (by (repeat (first | exact Take.head | apply Take.tail))) E.rexcl .nil)) (k := ?_); intro s hs; (try conv => rhs; simp only [List.cons_append, List.nil_append]))
  repeat (first | refine go (k := ?_) | (refine goB (k := ?_); intro b) | (refine goA (k := ?_); intro ao cap))
  apply Cod.draw 21 ([tkM p (z.look p.m), moM p, frM z.cur, md p.m]) (by kernel_rfl) 22 rfl
  refine RunT.takeR_ 0 (h := ?_)
  refine RunT.takeR_ 1 (h := ?_)
  refine RunT.takeR_ 2 (h := ?_)
  refine RunT.takeR_ 3 (h := ?_)
  refine RunT.takeR_ 4 (h := ?_)
  refine RunT.takeR_ 5 (h := ?_)
  refine RunT.takeR_ 6 (h := ?_)
  refine RunT.takeR_ 7 (h := ?_)
  refine RunT.takeR_ 8 (h := ?_)
  refine RunT.takeR_ 9 (h := ?_)
  refine RunT.takeR_ 10 (h := ?_)
  refine RunT.takeR_ 11 (h := ?_)
  refine RunT.takeR_ 12 (h := ?_)
  refine RunT.takeR_ 13 (h := ?_)
  refine RunT.takeR_ 14 (h := ?_)
  refine RunT.takeR_ 15 (h := ?_)
  refine RunT.takeR_ 16 (h := ?_)
  refine RunT.takeR_ 17 (h := ?_)
  refine RunT.takeR_ 18 (h := ?_)
  refine RunT.takeR_ 19 (h := ?_)
  (refine RunT.one_ 20 (h := ?_); (first | refine OpT.val_ (k := ?_) | (refine OpT.alloc_ (k := ?_); intro b) | (refine OpT.box_ (k := ?_); intro b) | refine OpT.store_ (k := ?_) | (refine OpT.buildSlice_ (k := ?_); intro b) | (refine OpT.buildSlice0_ (k := ?_); intro b) | (refine OpT.append1_ (k := ?_); intro ao cap) | (refine OpT.cutA0_ (k := ?_); intro ao cap) | (refine OpT.cutR0_ (k := ?_); intro ao cap) | (refine OpT.cutA1_ (k := ?_); intro ao cap) | (refine OpT.cutA_ (k := ?_); intro ao cap) | (refine OpT.cutR_ (k := ?_); intro ao cap)); refine And.intro gud ?_)
  (refine RunT.one_ 21 (h := ?_); (first | refine OpT.val_ (k := ?_) | (refine OpT.alloc_ (k := ?_); intro b) | (refine OpT.box_ (k := ?_); intro b) | refine OpT.store_ (k := ?_) | (refine OpT.buildSlice_ (k := ?_); intro b) | (refine OpT.buildSlice0_ (k := ?_); intro b) | (refine OpT.append1_ (k := ?_); intro ao cap) | (refine OpT.cutA0_ (k := ?_); intro ao cap) | (refine OpT.cutR0_ (k := ?_); intro ao cap) | (refine OpT.cutA1_ (k := ?_); intro ao cap) | (refine OpT.cutA_ (k := ?_); intro ao cap) | (refine OpT.cutR_ (k := ?_); intro ao cap)); refine And.intro gud ?_)
  (apply RunT.done; kernel_rfl)
  repeat (first | refine go (k := ?_) | (refine goB (k := ?_); intro b) | (refine goA (k := ?_); intro ao cap))
  (apply Run.op; exact rfl; refine OpT.storeE_ (f := frC) (l := z.cur.fr) (i := z.cur.fr.length - 1) (off := 1) (vs := [.int .i64 ((z.f.pc + 1 : Nat) : Int)]) (a' := (⟨z.f.unit, z.f.pc + 1, z.f.base⟩ : Vm.Fr)) (k := ?_))
  apply Run.nil
  apply End.seqN
  obtain ⟨ib, rfl⟩ : ∃ x, x = b := ⟨_, rfl⟩
  refine Cod.sub [(0, ptr p.tb), (2, .bool false), (3, .pointer (place (sz frC) z.cur.fo (z.cur.fr.length - 1) 0)), (4, ptr ib)] (by (repeat (first | exact Sub.nil | (apply Sub.cons; (focus (exact rfl))) | (apply Sub.cons'; (focus (exact rfl)); (focus (first | exact rfl | (refine congrArg (Value.int _) ?_; omega) | (refine congrArg (Value.int _) ?_; dsimp only; omega))))))) ?_
  have hln : z.cur.fr.length = (z.cur.fr.set (z.cur.fr.length - 1) (⟨z.f.unit, z.f.pc + 1, z.f.base⟩ : Vm.Fr)).length := by rw [List.length_set]
  refine Cod.only (old w S :: md p.m :: E.rc :: blk ib (insC (insL p.m z)) 57 :: TM p (z.moved p.m)) (by (repeat (first | exact Takes.nil | exact Take.head | (refine Take.blkEq ?_; (focus (first | rfl | (simp; done) | (simp; omega) | omega | (simp [*]; done)))) | (refine Take.arrEq ?_ ?_; (focus (first | rfl | (simp; done) | (simp; omega) | omega | (simp [*]; done))); (focus (first | rfl | (simp; done) | (simp; omega) | omega | (simp [*]; done)))) | apply Take.tail | apply Takes.cons))) ?_
  have hpl : place (sz frC) z.cur.fo (z.cur.fr.length - 1) 0 = place (sz frC) (z.moved p.m).cur.fo ((z.moved p.m).cur.fr.length - 1) 0 := by rw [show (z.moved p.m).cur.fr.length = z.cur.fr.length from List.length_set]
  rw [hpl]
  have hstep := hz.step_two p.m h1
  rw [hstep]
  have hz1 := hz.moved p.m
  obtain ⟨i, hi⟩ : ∃ i, i = insL p.m z := ⟨_, rfl⟩
  obtain ⟨z1, hz1e⟩ : ∃ z1, z1 = z.moved p.m := ⟨_, rfl⟩
  rw [← hi, ← hz1e] at hc ha ⊢
  rw [← hz1e] at hz1
  rw [← hi] at hop
  obtain ⟨c1, c2, c3⟩ := hc.two hop
  repeat (first | refine go (k := ?_) | (refine goB (k := ?_); intro b) | (refine goA (k := ?_); intro ao cap))
  (apply Run.op; exact rfl; refine OpT.call0_ (spec := pop_is' (z1.F p) z1.st z1.tr (z1.cur.st : Int) (ptrO z1.cur.upb) (.slice z1.cur.fo z1.cur.fr.length z1.cur.fc) E.mailV (toldV E.told) z1.cur.sk hz1.curOk (by omega)) (k := ?_); intro s hs; (try conv => rhs; simp only [List.cons_append, List.nil_append]))
  obtain ⟨k1, rfl⟩ : ∃ x, x = s := ⟨_, rfl⟩
  have ht := hs
  obtain ⟨p1, p2⟩ := popped hz1 hs
  have hlv : k1.live = z1.cur.sk.live - 1 := by have h := ht.live; have h2 := Sk.len hz1.curOk; rw [List.length_take] at h; omega
  have hv2 : k1.ws.getD (k1.live - 1) 0 = z1.top 2 := by
    rw [ht.ws, hlv]
    show (z1.cur.sk.ws.take (z1.cur.sk.live - 1)).getD (z1.cur.sk.live - 1 - 1) 0 = z1.cur.sk.ws.getD (z1.cur.sk.live - 2) 0
    rw [List.getD_eq_getElem?_getD, List.getD_eq_getElem?_getD, List.getElem?_take, if_pos (by omega), Nat.sub_sub]
  repeat (first | refine go (k := ?_) | (refine goB (k := ?_); intro b) | (refine goA (k := ?_); intro ao cap))
  (apply Run.op; exact rfl; refine OpT.call0_ (spec := pop_is' (z1.F p) z1.st z1.tr (z1.cur.st : Int) (ptrO z1.cur.upb) (.slice z1.cur.fo z1.cur.fr.length z1.cur.fc) E.mailV (toldV E.told) k1 p1.curOk (by omega)) (k := ?_); intro s hs; (try conv => rhs; simp only [List.cons_append, List.nil_append]))
  obtain ⟨k2, rfl⟩ : ∃ x, x = s := ⟨_, rfl⟩
  obtain ⟨p3, p4⟩ := popped p1 hs
  rw [hv2]
  have hl2 : Vm.last (Vm.drop 1 z1.tk) = z1.top 2 := by rw [← p2, p1.last]; exact hv2
  have hdd : Vm.drop 1 (Vm.drop 1 z1.tk) = ((z1.sk k1).sk k2).tk := by rw [p4, p2]
  have htrap : i.op = 11 ∨ i.op = 12 → z1.cur.sk.ws.getD (z1.cur.sk.live - 1) 0 = 0 → Vm.trap E.V 1 ((z1.sk k1).sk k2).two = Vm.exec E.V p.m.mdl i z1.two := fun h hb => by
    have hl1 : Vm.last z1.two.1 = 0 := hz1.last.trans hb
    unfold Vm.exec
    dsimp only
    rw [if_neg (by omega), if_neg (by omega), if_neg (by omega), if_neg (by omega), if_neg (by omega), if_neg (by omega), if_neg (by omega), if_pos hop, if_pos ⟨h, hl1⟩]
    show Vm.trap E.V 1 (((z1.sk k1).sk k2).tk, E.abs z1.e) = Vm.trap E.V 1 (Vm.drop 1 (Vm.drop 1 z1.tk), E.abs z1.e)
    rw [hdd]
  have hpush : (i.op = 11 ∨ i.op = 12 → z1.top 1 ≠ 0) → Vm.push E.V (Opt.two2 i.op (z1.top 2) (z1.top 1)) ((z1.sk k1).sk k2).two = Vm.exec E.V p.m.mdl i z1.two := fun h => by
    have hl1 : Vm.last z1.two.1 = z1.top 1 := hz1.last
    unfold Vm.exec
    dsimp only
    rw [if_neg (by omega), if_neg (by omega), if_neg (by omega), if_neg (by omega), if_neg (by omega), if_neg (by omega), if_neg (by omega), if_pos hop, if_neg (fun x => h x.1 (hl1.symm.trans x.2))]
    show Vm.push E.V _ (((z1.sk k1).sk k2).tk, E.abs z1.e) = Vm.push E.V (Opt.two2 i.op (Vm.last (Vm.drop 1 z1.tk)) (Vm.last z1.tk)) (Vm.drop 1 (Vm.drop 1 z1.tk), E.abs z1.e)
    rw [hdd, hl2, hz1.last]
  by_cases hb : z1.cur.sk.ws.getD (z1.cur.sk.live - 1) 0 = 0
  · by_cases e11 : i.op = 11
    · repeat (first | refine go (k := ?_) | (refine goB (k := ?_); intro b) | (refine goA (k := ?_); intro ao cap))
      ((first | (apply Run.op; exact rfl) | refine Run.yes_ (h := ?_)); refine OpT.call0_ (spec := trap_is E (z1.F p) z1.st z1.tr z1.e (hc.okk hz1) 1) (r := fun w => Reads.any (by (repeat (first | exact Take.head | apply Take.tail))) E.rexcl .nil) (k := ?_); intro s hs; (try conv => rhs; simp only [List.cons_append, List.nil_append]))
      obtain ⟨q, rfl⟩ : ∃ x, x = s := ⟨_, rfl⟩
      obtain ⟨t1, t2⟩ := trapped p3 hs
      have t3 : (((z1.sk k1).sk k2).thr q.1 q.2.1 q.2.2).two = Vm.exec E.V p.m.mdl i z1.two := t2.trans (htrap (by omega) hb)
      repeat (first | refine go (k := ?_) | (refine goB (k := ?_); intro b) | (refine goA (k := ?_); intro ao cap))
      ((first | (apply Run.op; exact rfl) | refine Run.yes_ (h := ?_)); refine OpT.call0_ (spec := look_is p (((z1.sk k1).sk k2).thr q.1 q.2.1 q.2.2) t1 (ha (((z1.sk k1).sk k2).thr q.1 q.2.1 q.2.2) t1 t3)) (r := fun w => Reads.md (by (repeat (first | exact Take.head | apply Take.tail))) (Reads.any (by (repeat (first | exact Take.head | apply Take.tail))) E.rexcl .nil)) (k := ?_); intro s hs; (try conv => rhs; simp only [List.cons_append, List.nil_append]))
      repeat (first | refine go (k := ?_) | (refine goB (k := ?_); intro b) | (refine goA (k := ?_); intro ao cap))
      (refine End.done1_ ((SL.look (((z1.sk k1).sk k2).thr q.1 q.2.1 q.2.2) p.m)) (he := by (first | exact rfl | (refine congrArg (Value.int _) ?_; omega) | (refine congrArg (Value.int _) ?_; dsimp only; omega))) (hp := ?_))
      exact ⟨t1.look p.m, (t1.look_two p.m).trans (by rw [t3])⟩
    · by_cases e12 : i.op = 12
      · repeat (first | refine go (k := ?_) | (refine goB (k := ?_); intro b) | (refine goA (k := ?_); intro ao cap))
        ((first | (apply Run.op; exact rfl) | refine Run.yes_ (h := ?_)); refine OpT.call0_ (spec := trap_is E (z1.F p) z1.st z1.tr z1.e (hc.okk hz1) 1) (r := fun w => Reads.any (by (repeat (first | exact Take.head | apply Take.tail))) E.rexcl .nil) (k := ?_); intro s hs; (try conv => rhs; simp only [List.cons_append, List.nil_append]))
        obtain ⟨q, rfl⟩ : ∃ x, x = s := ⟨_, rfl⟩
        obtain ⟨t1, t2⟩ := trapped p3 hs
        have t3 : (((z1.sk k1).sk k2).thr q.1 q.2.1 q.2.2).two = Vm.exec E.V p.m.mdl i z1.two := t2.trans (htrap (by omega) hb)
        repeat (first | refine go (k := ?_) | (refine goB (k := ?_); intro b) | (refine goA (k := ?_); intro ao cap))
        ((first | (apply Run.op; exact rfl) | refine Run.yes_ (h := ?_)); refine OpT.call0_ (spec := look_is p (((z1.sk k1).sk k2).thr q.1 q.2.1 q.2.2) t1 (ha (((z1.sk k1).sk k2).thr q.1 q.2.1 q.2.2) t1 t3)) (r := fun w => Reads.md (by (repeat (first | exact Take.head | apply Take.tail))) (Reads.any (by (repeat (first | exact Take.head | apply Take.tail))) E.rexcl .nil)) (k := ?_); intro s hs; (try conv => rhs; simp only [List.cons_append, List.nil_append]))
        repeat (first | refine go (k := ?_) | (refine goB (k := ?_); intro b) | (refine goA (k := ?_); intro ao cap))
        (refine End.done1_ ((SL.look (((z1.sk k1).sk k2).thr q.1 q.2.1 q.2.2) p.m)) (he := by (first | exact rfl | (refine congrArg (Value.int _) ?_; omega) | (refine congrArg (Value.int _) ?_; dsimp only; omega))) (hp := ?_))
        exact ⟨t1.look p.m, (t1.look_two p.m).trans (by rw [t3])⟩
      · have hne : i.op = 11 ∨ i.op = 12 → z1.top 1 ≠ 0 := fun h => by omega
        repeat (first | refine go (k := ?_) | (refine goB (k := ?_); intro b) | (refine goA (k := ?_); intro ao cap))
        (apply Run.op; exact rfl; refine OpT.call0_ (spec := two2_is i.op (z1.top 2) (z1.top 1) c3 c2 (fun h => hne h)) (k := ?_); intro s hs; (try conv => rhs; simp only [List.cons_append, List.nil_append]))
        repeat (first | refine go (k := ?_) | (refine goB (k := ?_); intro b) | (refine goA (k := ?_); intro ao cap))
        ((first | (apply Run.op; exact rfl) | refine Run.yes_ (h := ?_)); refine OpT.call0_ (spec := push_is' E (z1.F p) z1.st z1.tr z1.e (hc.okk hz1) (z1.cur.st : Int) (ptrO z1.cur.upb) (.slice z1.cur.fo z1.cur.fr.length z1.cur.fc) k2 p3.curOk (Opt.two2 i.op (z1.top 2) (z1.top 1))) (r := fun w => Reads.any (by (repeat (first | exact Take.head | apply Take.tail))) E.rexcl .nil) (k := ?_); intro s hs; (try conv => rhs; simp only [List.cons_append, List.nil_append]))
        obtain ⟨q, rfl⟩ : ∃ x, x = s := ⟨_, rfl⟩
        obtain ⟨t1, t2⟩ := pushed p3 hs
        have t3 : (((z1.sk k1).sk k2).put q).two = Vm.exec E.V p.m.mdl i z1.two := t2.trans (hpush hne)
        repeat (first | refine go (k := ?_) | (refine goB (k := ?_); intro b) | (refine goA (k := ?_); intro ao cap))
        ((first | (apply Run.op; exact rfl) | refine Run.yes_ (h := ?_)); refine OpT.call0_ (spec := look_is p (((z1.sk k1).sk k2).put q) t1 (ha (((z1.sk k1).sk k2).put q) t1 t3)) (r := fun w => Reads.md (by (repeat (first | exact Take.head | apply Take.tail))) (Reads.any (by (repeat (first | exact Take.head | apply Take.tail))) E.rexcl .nil)) (k := ?_); intro s hs; (try conv => rhs; simp only [List.cons_append, List.nil_append]))
        repeat (first | refine go (k := ?_) | (refine goB (k := ?_); intro b) | (refine goA (k := ?_); intro ao cap))
        (refine End.done1_ ((SL.look (((z1.sk k1).sk k2).put q) p.m)) (he := by (first | exact rfl | (refine congrArg (Value.int _) ?_; omega) | (refine congrArg (Value.int _) ?_; dsimp only; omega))) (hp := ?_))
        exact ⟨t1.look p.m, (t1.look_two p.m).trans (by rw [t3])⟩
  · have hne : i.op = 11 ∨ i.op = 12 → z1.top 1 ≠ 0 := fun h => hb
    by_cases e11 : i.op = 11
    · repeat (first | refine go (k := ?_) | (refine goB (k := ?_); intro b) | (refine goA (k := ?_); intro ao cap))
      (apply Run.op; exact rfl; refine OpT.call0_ (spec := two2_is i.op (z1.top 2) (z1.top 1) c3 c2 (fun h => hne h)) (k := ?_); intro s hs; (try conv => rhs; simp only [List.cons_append, List.nil_append]))
      repeat (first | refine go (k := ?_) | (refine goB (k := ?_); intro b) | (refine goA (k := ?_); intro ao cap))
      ((first | (apply Run.op; exact rfl) | refine Run.yes_ (h := ?_)); refine OpT.call0_ (spec := push_is' E (z1.F p) z1.st z1.tr z1.e (hc.okk hz1) (z1.cur.st : Int) (ptrO z1.cur.upb) (.slice z1.cur.fo z1.cur.fr.length z1.cur.fc) k2 p3.curOk (Opt.two2 i.op (z1.top 2) (z1.top 1))) (r := fun w => Reads.any (by (repeat (first | exact Take.head | apply Take.tail))) E.rexcl .nil) (k := ?_); intro s hs; (try conv => rhs; simp only [List.cons_append, List.nil_append]))
      obtain ⟨q, rfl⟩ : ∃ x, x = s := ⟨_, rfl⟩
      obtain ⟨t1, t2⟩ := pushed p3 hs
      have t3 : (((z1.sk k1).sk k2).put q).two = Vm.exec E.V p.m.mdl i z1.two := t2.trans (hpush hne)
      repeat (first | refine go (k := ?_) | (refine goB (k := ?_); intro b) | (refine goA (k := ?_); intro ao cap))
      ((first | (apply Run.op; exact rfl) | refine Run.yes_ (h := ?_)); refine OpT.call0_ (spec := look_is p (((z1.sk k1).sk k2).put q) t1 (ha (((z1.sk k1).sk k2).put q) t1 t3)) (r := fun w => Reads.md (by (repeat (first | exact Take.head | apply Take.tail))) (Reads.any (by (repeat (first | exact Take.head | apply Take.tail))) E.rexcl .nil)) (k := ?_); intro s hs; (try conv => rhs; simp only [List.cons_append, List.nil_append]))
      repeat (first | refine go (k := ?_) | (refine goB (k := ?_); intro b) | (refine goA (k := ?_); intro ao cap))
      (refine End.done1_ ((SL.look (((z1.sk k1).sk k2).put q) p.m)) (he := by (first | exact rfl | (refine congrArg (Value.int _) ?_; omega) | (refine congrArg (Value.int _) ?_; dsimp only; omega))) (hp := ?_))
      exact ⟨t1.look p.m, (t1.look_two p.m).trans (by rw [t3])⟩
    · by_cases e12 : i.op = 12
      · repeat (first | refine go (k := ?_) | (refine goB (k := ?_); intro b) | (refine goA (k := ?_); intro ao cap))
        (apply Run.op; exact rfl; refine OpT.call0_ (spec := two2_is i.op (z1.top 2) (z1.top 1) c3 c2 (fun h => hne h)) (k := ?_); intro s hs; (try conv => rhs; simp only [List.cons_append, List.nil_append]))
        repeat (first | refine go (k := ?_) | (refine goB (k := ?_); intro b) | (refine goA (k := ?_); intro ao cap))
        ((first | (apply Run.op; exact rfl) | refine Run.yes_ (h := ?_)); refine OpT.call0_ (spec := push_is' E (z1.F p) z1.st z1.tr z1.e (hc.okk hz1) (z1.cur.st : Int) (ptrO z1.cur.upb) (.slice z1.cur.fo z1.cur.fr.length z1.cur.fc) k2 p3.curOk (Opt.two2 i.op (z1.top 2) (z1.top 1))) (r := fun w => Reads.any (by (repeat (first | exact Take.head | apply Take.tail))) E.rexcl .nil) (k := ?_); intro s hs; (try conv => rhs; simp only [List.cons_append, List.nil_append]))
        obtain ⟨q, rfl⟩ : ∃ x, x = s := ⟨_, rfl⟩
        obtain ⟨t1, t2⟩ := pushed p3 hs
        have t3 : (((z1.sk k1).sk k2).put q).two = Vm.exec E.V p.m.mdl i z1.two := t2.trans (hpush hne)
        repeat (first | refine go (k := ?_) | (refine goB (k := ?_); intro b) | (refine goA (k := ?_); intro ao cap))
        ((first | (apply Run.op; exact rfl) | refine Run.yes_ (h := ?_)); refine OpT.call0_ (spec := look_is p (((z1.sk k1).sk k2).put q) t1 (ha (((z1.sk k1).sk k2).put q) t1 t3)) (r := fun w => Reads.md (by (repeat (first | exact Take.head | apply Take.tail))) (Reads.any (by (repeat (first | exact Take.head | apply Take.tail))) E.rexcl .nil)) (k := ?_); intro s hs; (try conv => rhs; simp only [List.cons_append, List.nil_append]))
        repeat (first | refine go (k := ?_) | (refine goB (k := ?_); intro b) | (refine goA (k := ?_); intro ao cap))
        (refine End.done1_ ((SL.look (((z1.sk k1).sk k2).put q) p.m)) (he := by (first | exact rfl | (refine congrArg (Value.int _) ?_; omega) | (refine congrArg (Value.int _) ?_; dsimp only; omega))) (hp := ?_))
        exact ⟨t1.look p.m, (t1.look_two p.m).trans (by rw [t3])⟩
      · repeat (first | refine go (k := ?_) | (refine goB (k := ?_); intro b) | (refine goA (k := ?_); intro ao cap))
        (apply Run.op; exact rfl; refine OpT.call0_ (spec := two2_is i.op (z1.top 2) (z1.top 1) c3 c2 (fun h => hne h)) (k := ?_); intro s hs; (try conv => rhs; simp only [List.cons_append, List.nil_append]))
        repeat (first | refine go (k := ?_) | (refine goB (k := ?_); intro b) | (refine goA (k := ?_); intro ao cap))
        ((first | (apply Run.op; exact rfl) | refine Run.yes_ (h := ?_)); refine OpT.call0_ (spec := push_is' E (z1.F p) z1.st z1.tr z1.e (hc.okk hz1) (z1.cur.st : Int) (ptrO z1.cur.upb) (.slice z1.cur.fo z1.cur.fr.length z1.cur.fc) k2 p3.curOk (Opt.two2 i.op (z1.top 2) (z1.top 1))) (r := fun w => Reads.any (by (repeat (first | exact Take.head | apply Take.tail))) E.rexcl .nil) (k := ?_); intro s hs; (try conv => rhs; simp only [List.cons_append, List.nil_append]))
        obtain ⟨q, rfl⟩ : ∃ x, x = s := ⟨_, rfl⟩
        obtain ⟨t1, t2⟩ := pushed p3 hs
        have t3 : (((z1.sk k1).sk k2).put q).two = Vm.exec E.V p.m.mdl i z1.two := t2.trans (hpush hne)
        repeat (first | refine go (k := ?_) | (refine goB (k := ?_); intro b) | (refine goA (k := ?_); intro ao cap))
        ((first | (apply Run.op; exact rfl) | refine Run.yes_ (h := ?_)); refine OpT.call0_ (spec := look_is p (((z1.sk k1).sk k2).put q) t1 (ha (((z1.sk k1).sk k2).put q) t1 t3)) (r := fun w => Reads.md (by (repeat (first | exact Take.head | apply Take.tail))) (Reads.any (by (repeat (first | exact Take.head | apply Take.tail))) E.rexcl .nil)) (k := ?_); intro s hs; (try conv => rhs; simp only [List.cons_append, List.nil_append]))
        repeat (first | refine go (k := ?_) | (refine goB (k := ?_); intro b) | (refine goA (k := ?_); intro ao cap))
        (refine End.done1_ ((SL.look (((z1.sk k1).sk k2).put q) p.m)) (he := by (first | exact rfl | (refine congrArg (Value.int _) ?_; omega) | (refine congrArg (Value.int _) ?_; dsimp only; omega))) (hp := ?_))
        exact ⟨t1.look p.m, (t1.look_two p.m).trans (by rw [t3])⟩
end Go.Proofs.Ytfeajpghabjaaaa.Vw

/- A step's operations, walked. -/
namespace Go.Proofs.Ytfeajpghabjaaaa.Vw
open Go.RowKit Go.Proofs.Ytfeajpghabjaaaa.Img
set_option linter.unusedVariables false
set_option linter.unusedSimpArgs false
attribute [local irreducible] Run Cod End OpT Still RunQ RunS RunT Fn PutOk
variable {E : EnvM}
/-- the place set -/
abbrev SL.at_ (z : SL E) (n : Nat) : SL E := { z with cur := { z.cur with fr := z.cur.fr.set (z.cur.fr.length - 1) ⟨z.f.unit, n, z.f.base⟩ } }
theorem SL.Wf.setAt {z : SL E} (hz : z.Wf) (n : Nat) : (z.at_ n).Wf ∧ (z.at_ n).tk = Vm.setPc n z.tk := by
  refine ⟨hz.setCur rfl rfl rfl hz.curOk, ?_⟩
  unfold Vm.setPc Vm.setTop
  rw [hz.topF, hz.cur]
  exact SL.tk_cur z _
set_option maxRecDepth 100000 in
set_option maxHeartbeats 2000000 in
theorem step4_is (p : Pl) (z : SL E) (hz : z.Wf) (hs : Stands p.m z) (h1 : (z.look p.m).st = 1) (hpc : z.f.pc ≤ 100000) (hc : CanS p.m (z.moved p.m) (insL p.m z)) (ha : After p.m (z.moved p.m) (insL p.m z)) (hop : (insL p.m z).op = 21) :
    Fn Try.prog 28 #[ptr p.tb] [md p.m, E.rc] (TM p z) (σ := SL E) (Gives z (Vm.step E.V p.m.mdl z.two).2) (fun _ => .bool (Vm.step E.V p.m.mdl z.two).1) (fun z' => TM p z') := by
  obtain ⟨g1, g2, g3, g4, g5⟩ := id hs
  have hl : 0 < z.cur.fr.length := List.length_pos_iff.2 g1
  have w1 : IntKind.i64.wrap ((z.cur.fr.length : Int) - 1) = ((z.cur.fr.length - 1 : Nat) : Int) := by rw [wrap_i64_in (by omega)]; omega
  have w2 : IntKind.i64.wrap ((z.f.pc : Int) + 1) = ((z.f.pc + 1 : Nat) : Int) := by rw [wrap_i64_in (by omega)]; omega
  refine Fn.enter (args := [ptr p.tb]) Try.func28 rfl _ Try.ntmps28 rfl (by simp [rd_excl, md_excl]) (fun w S => ?_)
  (try conv => rhs; simp only [List.cons_append, List.nil_append])
  repeat (first | refine go (k := ?_) | (refine goB (k := ?_); intro b) | (refine goA (k := ?_); intro ao cap))
  ((first | (apply Run.op; exact rfl) | refine Run.yes_ (h := ?_)); refine OpT.call0_ (spec := look_is p z hz (fun _ => hs)) (r := fun w => Reads.md (by (repeat (first | exact Take.head | apply Take.tail))) (Reads.any (by (repeat (first | exact Take.head | apply Take.tail))) E.rexcl .nil)) (k := ?_); intro s hs; (try conv => rhs; simp only [List.cons_append, List.nil_append]))
  repeat (first | refine go (k := ?_) | (refine goB (k := ?_); intro b) | (refine goA (k := ?_); intro ao cap))
  apply Cod.draw 21 ([tkM p (z.look p.m), moM p, frM z.cur, md p.m]) (by kernel_rfl) 22 rfl
  refine RunT.takeR_ 0 (h := ?_)
  refine RunT.takeR_ 1 (h := ?_)
  refine RunT.takeR_ 2 (h := ?_)
  refine RunT.takeR_ 3 (h := ?_)
  refine RunT.takeR_ 4 (h := ?_)
  refine RunT.takeR_ 5 (h := ?_)
  refine RunT.takeR_ 6 (h := ?_)
  refine RunT.takeR_ 7 (h := ?_)
  refine RunT.takeR_ 8 (h := ?_)
  refine RunT.takeR_ 9 (h := ?_)
  refine RunT.takeR_ 10 (h := ?_)
  refine RunT.takeR_ 11 (h := ?_)
  refine RunT.takeR_ 12 (h := ?_)
  refine RunT.takeR_ 13 (h := ?_)
  refine RunT.takeR_ 14 (h := ?_)
  refine RunT.takeR_ 15 (h := ?_)
  refine RunT.takeR_ 16 (h := ?_)
  refine RunT.takeR_ 17 (h := ?_)
  refine RunT.takeR_ 18 (h := ?_)
  refine RunT.takeR_ 19 (h := ?_)
  (refine RunT.one_ 20 (h := ?_); (first | refine OpT.val_ (k := ?_) | (refine OpT.alloc_ (k := ?_); intro b) | (refine OpT.box_ (k := ?_); intro b) | refine OpT.store_ (k := ?_) | (refine OpT.buildSlice_ (k := ?_); intro b) | (refine OpT.buildSlice0_ (k := ?_); intro b) | (refine OpT.append1_ (k := ?_); intro ao cap) | (refine OpT.cutA0_ (k := ?_); intro ao cap) | (refine OpT.cutR0_ (k := ?_); intro ao cap) | (refine OpT.cutA1_ (k := ?_); intro ao cap) | (refine OpT.cutA_ (k := ?_); intro ao cap) | (refine OpT.cutR_ (k := ?_); intro ao cap)); refine And.intro gud ?_)
  (refine RunT.one_ 21 (h := ?_); (first | refine OpT.val_ (k := ?_) | (refine OpT.alloc_ (k := ?_); intro b) | (refine OpT.box_ (k := ?_); intro b) | refine OpT.store_ (k := ?_) | (refine OpT.buildSlice_ (k := ?_); intro b) | (refine OpT.buildSlice0_ (k := ?_); intro b) | (refine OpT.append1_ (k := ?_); intro ao cap) | (refine OpT.cutA0_ (k := ?_); intro ao cap) | (refine OpT.cutR0_ (k := ?_); intro ao cap) | (refine OpT.cutA1_ (k := ?_); intro ao cap) | (refine OpT.cutA_ (k := ?_); intro ao cap) | (refine OpT.cutR_ (k := ?_); intro ao cap)); refine And.intro gud ?_)
  (apply RunT.done; kernel_rfl)
  repeat (first | refine go (k := ?_) | (refine goB (k := ?_); intro b) | (refine goA (k := ?_); intro ao cap))
  (apply Run.op; exact rfl; refine OpT.storeE_ (f := frC) (l := z.cur.fr) (i := z.cur.fr.length - 1) (off := 1) (vs := [.int .i64 ((z.f.pc + 1 : Nat) : Int)]) (a' := (⟨z.f.unit, z.f.pc + 1, z.f.base⟩ : Vm.Fr)) (k := ?_))
  apply Run.nil
  apply End.seqN
  obtain ⟨ib, rfl⟩ : ∃ x, x = b := ⟨_, rfl⟩
  refine Cod.sub [(0, ptr p.tb), (2, .bool false), (3, .pointer (place (sz frC) z.cur.fo (z.cur.fr.length - 1) 0)), (4, ptr ib)] (by (repeat (first | exact Sub.nil | (apply Sub.cons; (focus (exact rfl))) | (apply Sub.cons'; (focus (exact rfl)); (focus (first | exact rfl | (refine congrArg (Value.int _) ?_; omega) | (refine congrArg (Value.int _) ?_; dsimp only; omega))))))) ?_
  have hln : z.cur.fr.length = (z.cur.fr.set (z.cur.fr.length - 1) (⟨z.f.unit, z.f.pc + 1, z.f.base⟩ : Vm.Fr)).length := by rw [List.length_set]
  refine Cod.only (old w S :: md p.m :: E.rc :: blk ib (insC (insL p.m z)) 57 :: TM p (z.moved p.m)) (by (repeat (first | exact Takes.nil | exact Take.head | (refine Take.blkEq ?_; (focus (first | rfl | (simp; done) | (simp; omega) | omega | (simp [*]; done)))) | (refine Take.arrEq ?_ ?_; (focus (first | rfl | (simp; done) | (simp; omega) | omega | (simp [*]; done))); (focus (first | rfl | (simp; done) | (simp; omega) | omega | (simp [*]; done)))) | apply Take.tail | apply Takes.cons))) ?_
  have hpl : place (sz frC) z.cur.fo (z.cur.fr.length - 1) 0 = place (sz frC) (z.moved p.m).cur.fo ((z.moved p.m).cur.fr.length - 1) 0 := by rw [show (z.moved p.m).cur.fr.length = z.cur.fr.length from List.length_set]
  rw [hpl]
  have hstep := hz.step_two p.m h1
  rw [hstep]
  have hz1 := hz.moved p.m
  obtain ⟨i, hi⟩ : ∃ i, i = insL p.m z := ⟨_, rfl⟩
  obtain ⟨z1, hz1e⟩ : ∃ z1, z1 = z.moved p.m := ⟨_, rfl⟩
  rw [← hi, ← hz1e] at hc ha ⊢
  rw [← hz1e] at hz1
  rw [← hi] at hop
  have a0 := hc.jump (.inl hop)
  obtain ⟨n, hn⟩ := Int.eq_ofNat_of_zero_le a0
  have hn' : i.a = (n : Int) := hn
  have hfl : z1.cur.fr.length = z.cur.fr.length := by rw [hz1e]; exact List.length_set
  repeat (first | refine go (k := ?_) | (refine goB (k := ?_); intro b) | (refine goA (k := ?_); intro ao cap))
  rw [hn']
  (apply Run.op; exact rfl; refine OpT.storeE_ (f := frC) (l := z1.cur.fr) (i := z1.cur.fr.length - 1) (off := 1) (vs := [.int .i64 (n : Int)]) (a' := (⟨z1.f.unit, n, z1.f.base⟩ : Vm.Fr)) (k := ?_))
  repeat (first | refine go (k := ?_) | (refine goB (k := ?_); intro b) | (refine goA (k := ?_); intro ao cap))
  obtain ⟨t1, t2⟩ := hz1.setAt n
  refine Run.only' (old w S :: md p.m :: E.rc :: TM p (z1.at_ n)) (by (repeat (first | exact Takes.nil | exact Take.head | (refine Take.blkEq ?_; (focus (first | rfl | (simp; done) | (simp; omega) | omega | (simp [*]; done)))) | (refine Take.arrEq ?_ ?_; (focus (first | rfl | (simp; done) | (simp; omega) | omega | (simp [*]; done))); (focus (first | rfl | (simp; done) | (simp; omega) | omega | (simp [*]; done)))) | apply Take.tail | apply Takes.cons))) ?_
  have t3 : (z1.at_ n).two = Vm.exec E.V p.m.mdl i z1.two := by
    have e : i.a.toNat = n := by rw [hn']; rfl
    unfold Vm.exec; simp [hop, e]; exact congrArg (fun t => (t, E.abs z1.e)) t2
  repeat (first | refine go (k := ?_) | (refine goB (k := ?_); intro b) | (refine goA (k := ?_); intro ao cap))
  ((first | (apply Run.op; exact rfl) | refine Run.yes_ (h := ?_)); refine OpT.call0_ (spec := look_is p (z1.at_ n) t1 (ha (z1.at_ n) t1 t3)) (r := fun w => Reads.md (by (repeat (first | exact Take.head | apply Take.tail))) (Reads.any (by (repeat (first | exact Take.head | apply Take.tail))) E.rexcl .nil)) (k := ?_); intro s hs; (try conv => rhs; simp only [List.cons_append, List.nil_append]))
  repeat (first | refine go (k := ?_) | (refine goB (k := ?_); intro b) | (refine goA (k := ?_); intro ao cap))
  (refine End.done1_ ((SL.look (z1.at_ n) p.m)) (he := by (first | exact rfl | (refine congrArg (Value.int _) ?_; omega) | (refine congrArg (Value.int _) ?_; dsimp only; omega))) (hp := ?_))
  exact ⟨t1.look p.m, (t1.look_two p.m).trans (by rw [t3])⟩
end Go.Proofs.Ytfeajpghabjaaaa.Vw
