/- A step's operations, walked. -/
import Derived.Test.YtfeajpghabjaaaaM33
namespace Go.Proofs.Ytfeajpghabjaaaa.Vw
open Go.RowKit Go.Proofs.Ytfeajpghabjaaaa.Img
set_option linter.unusedVariables false
set_option linter.unusedSimpArgs false
attribute [local irreducible] Run Cod End OpT Still RunQ RunS RunT Fn PutOk
variable {E : EnvM}
set_option maxRecDepth 100000 in
set_option maxHeartbeats 2000000 in
theorem step5_is (p : Pl) (z : SL E) (hz : z.Wf) (hs : Stands p.m z) (h1 : (z.look p.m).st = 1) (hpc : z.f.pc ≤ 100000) (hc : CanS p.m (z.moved p.m) (insL p.m z)) (ha : After p.m (z.moved p.m) (insL p.m z)) (hop : (insL p.m z).op = 22) :
    Fn Try.prog 28 #[ptr p.tb] [md p.m, E.rc] (TM p z) (σ := SL E) (Gives z (Vm.step E.V p.m.mdl z.two).2) (fun _ => .bool (Vm.step E.V p.m.mdl z.two).1) (fun z' => TM p z') := by
  obtain ⟨g1, g2, g3, g4, g5⟩ := id hs
  have hl : 0 < z.cur.fr.length := List.length_pos_iff.2 g1
  have w1 : IntKind.i64.wrap ((z.cur.fr.length : Int) - 1) = ((z.cur.fr.length - 1 : Nat) : Int) := by rw [wrap_i64_in (by omega)]; omega
  have w2 : IntKind.i64.wrap ((z.f.pc : Int) + 1) = ((z.f.pc + 1 : Nat) : Int) := by rw [wrap_i64_in (by omega)]; omega
  refine Fn.enter (args := [ptr p.tb]) Try.func28 rfl _ Try.ntmps28 rfl (by simp [rd_excl, md_excl]) (fun w S => ?_)
  (try conv => rhs; simp only [List.cons_append, List.nil_append])
  repeat (first | refine go (k := ?_) | (refine goB (k := ?_); intro b) | (refine goA (k := ?_); intro ao cap))
  ((first | (apply Run.op; exact rfl) | refine Run.yes_ (h := ?_)); refine OpT.call0_ (spec := look_is p z hz (fun _ => hs)) (r := fun w => Reads.md (by (repeat (first | exact Take.head | apply Take.tail))) (Reads.any (by (repeat (first | exact Take.head | apply Take.tail))) E.rexcl .nil)) (k := ?_); intro s hs; (try conv => rhs; simp only [List.cons_append, List.nil_append]))
  repeat (first | refine go (k := ?_) | (refine goB (k := ?_); intro b) | (refine goA (k := ?_); intro ao cap))
  apply Cod.draw 21 ([tkM p (z.look p.m), moM p, frM z.cur, md p.m]) (by kernel_rfl) 22 rfl
  refine RunT.takeR_ 0 (h := ?_)
  refine RunT.takeR_ 1 (h := ?_)
  refine RunT.takeR_ 2 (h := ?_)
  refine RunT.takeR_ 3 (h := ?_)
  refine RunT.takeR_ 4 (h := ?_)
  refine RunT.takeR_ 5 (h := ?_)
  refine RunT.takeR_ 6 (h := ?_)
  refine RunT.takeR_ 7 (h := ?_)
  refine RunT.takeR_ 8 (h := ?_)
  refine RunT.takeR_ 9 (h := ?_)
  refine RunT.takeR_ 10 (h := ?_)
  refine RunT.takeR_ 11 (h := ?_)
  refine RunT.takeR_ 12 (h := ?_)
  refine RunT.takeR_ 13 (h := ?_)
  refine RunT.takeR_ 14 (h := ?_)
  refine RunT.takeR_ 15 (h := ?_)
  refine RunT.takeR_ 16 (h := ?_)
  refine RunT.takeR_ 17 (h := ?_)
  refine RunT.takeR_ 18 (h := ?_)
  refine RunT.takeR_ 19 (h := ?_)
  (refine RunT.one_ 20 (h := ?_); (first | refine OpT.val_ (k := ?_) | (refine OpT.alloc_ (k := ?_); intro b) | (refine OpT.box_ (k := ?_); intro b) | refine OpT.store_ (k := ?_) | (refine OpT.buildSlice_ (k := ?_); intro b) | (refine OpT.buildSlice0_ (k := ?_); intro b) | (refine OpT.append1_ (k := ?_); intro ao cap) | (refine OpT.cutA0_ (k := ?_); intro ao cap) | (refine OpT.cutR0_ (k := ?_); intro ao cap) | (refine OpT.cutA1_ (k := ?_); intro ao cap) | (refine OpT.cutA_ (k := ?_); intro ao cap) | (refine OpT.cutR_ (k := ?_); intro ao cap)); refine And.intro gud ?_)
  (refine RunT.one_ 21 (h := ?_); (first | refine OpT.val_ (k := ?_) | (refine OpT.alloc_ (k := ?_); intro b) | (refine OpT.box_ (k := ?_); intro b) | refine OpT.store_ (k := ?_) | (refine OpT.buildSlice_ (k := ?_); intro b) | (refine OpT.buildSlice0_ (k := ?_); intro b) | (refine OpT.append1_ (k := ?_); intro ao cap) | (refine OpT.cutA0_ (k := ?_); intro ao cap) | (refine OpT.cutR0_ (k := ?_); intro ao cap) | (refine OpT.cutA1_ (k := ?_); intro ao cap) | (refine OpT.cutA_ (k := ?_); intro ao cap) | (refine OpT.cutR_ (k := ?_); intro ao cap)); refine And.intro gud ?_)
  (apply RunT.done; kernel_rfl)
  repeat (first | refine go (k := ?_) | (refine goB (k := ?_); intro b) | (refine goA (k := ?_); intro ao cap))
  (apply Run.op; exact rfl; refine OpT.storeE_ (f := frC) (l := z.cur.fr) (i := z.cur.fr.length - 1) (off := 1) (vs := [.int .i64 ((z.f.pc + 1 : Nat) : Int)]) (a' := (⟨z.f.unit, z.f.pc + 1, z.f.base⟩ : Vm.Fr)) (k := ?_))
  apply Run.nil
  apply End.seqN
  obtain ⟨ib, rfl⟩ : ∃ x, x = b := ⟨_, rfl⟩
  refine Cod.sub [(0, ptr p.tb), (2, .bool false), (3, .pointer (place (sz frC) z.cur.fo (z.cur.fr.length - 1) 0)), (4, ptr ib)] (by (repeat (first | exact Sub.nil | (apply Sub.cons; (focus (exact rfl))) | (apply Sub.cons'; (focus (exact rfl)); (focus (first | exact rfl | (refine congrArg (Value.int _) ?_; omega) | (refine congrArg (Value.int _) ?_; dsimp only; omega))))))) ?_
  have hln : z.cur.fr.length = (z.cur.fr.set (z.cur.fr.length - 1) (⟨z.f.unit, z.f.pc + 1, z.f.base⟩ : Vm.Fr)).length := by rw [List.length_set]
  refine Cod.only (old w S :: md p.m :: E.rc :: blk ib (insC (insL p.m z)) 57 :: TM p (z.moved p.m)) (by (repeat (first | exact Takes.nil | exact Take.head | (refine Take.blkEq ?_; (focus (first | rfl | (simp; done) | (simp; omega) | omega | (simp [*]; done)))) | (refine Take.arrEq ?_ ?_; (focus (first | rfl | (simp; done) | (simp; omega) | omega | (simp [*]; done))); (focus (first | rfl | (simp; done) | (simp; omega) | omega | (simp [*]; done)))) | apply Take.tail | apply Takes.cons))) ?_
  have hpl : place (sz frC) z.cur.fo (z.cur.fr.length - 1) 0 = place (sz frC) (z.moved p.m).cur.fo ((z.moved p.m).cur.fr.length - 1) 0 := by rw [show (z.moved p.m).cur.fr.length = z.cur.fr.length from List.length_set]
  rw [hpl]
  have hstep := hz.step_two p.m h1
  rw [hstep]
  have hz1 := hz.moved p.m
  obtain ⟨i, hi⟩ : ∃ i, i = insL p.m z := ⟨_, rfl⟩
  obtain ⟨z1, hz1e⟩ : ∃ z1, z1 = z.moved p.m := ⟨_, rfl⟩
  rw [← hi, ← hz1e] at hc ha ⊢
  rw [← hz1e] at hz1
  rw [← hi] at hop
  have a0 := hc.jump (.inr hop)
  have c1 := hc.some (by omega)
  obtain ⟨n, hn⟩ := Int.eq_ofNat_of_zero_le a0
  have hn' : i.a = (n : Int) := hn
  have hfl : z1.cur.fr.length = z.cur.fr.length := by rw [hz1e]; exact List.length_set
  have e : i.a.toNat = n := by rw [hn']; rfl
  repeat (first | refine go (k := ?_) | (refine goB (k := ?_); intro b) | (refine goA (k := ?_); intro ao cap))
  (apply Run.op; exact rfl; refine OpT.call0_ (spec := pop_is' (z1.F p) z1.st z1.tr (z1.cur.st : Int) (ptrO z1.cur.upb) (.slice z1.cur.fo z1.cur.fr.length z1.cur.fc) E.mailV (toldV E.told) z1.cur.sk hz1.curOk c1) (k := ?_); intro s hs; (try conv => rhs; simp only [List.cons_append, List.nil_append]))
  obtain ⟨k1, rfl⟩ : ∃ x, x = s := ⟨_, rfl⟩
  obtain ⟨p1, p2⟩ := popped hz1 hs
  have hla : Vm.last z1.tk = z1.top 1 := hz1.last
  by_cases h0 : z1.cur.sk.ws.getD (z1.cur.sk.live - 1) 0 = 0
  · repeat (first | refine go (k := ?_) | (refine goB (k := ?_); intro b) | (refine goA (k := ?_); intro ao cap))
    rw [hn']
    (apply Run.op; exact rfl; refine OpT.storeE_ (f := frC) (l := z1.cur.fr) (i := z1.cur.fr.length - 1) (off := 1) (vs := [.int .i64 (n : Int)]) (a' := (⟨z1.f.unit, n, z1.f.base⟩ : Vm.Fr)) (k := ?_))
    repeat (first | refine go (k := ?_) | (refine goB (k := ?_); intro b) | (refine goA (k := ?_); intro ao cap))
    obtain ⟨t1, t2⟩ := p1.setAt n
    refine Run.only' (old w S :: md p.m :: E.rc :: TM p ((z1.sk k1).at_ n)) (by (repeat (first | exact Takes.nil | exact Take.head | (refine Take.blkEq ?_; (focus (first | rfl | (simp; done) | (simp; omega) | omega | (simp [*]; done)))) | (refine Take.arrEq ?_ ?_; (focus (first | rfl | (simp; done) | (simp; omega) | omega | (simp [*]; done))); (focus (first | rfl | (simp; done) | (simp; omega) | omega | (simp [*]; done)))) | apply Take.tail | apply Takes.cons))) ?_
    have t3 : ((z1.sk k1).at_ n).two = Vm.exec E.V p.m.mdl i z1.two := by
      have hl0 : Vm.last z1.two.1 = 0 := hz1.last.trans h0
      unfold Vm.exec; simp [hop, e, hl0]; exact congrArg (fun t => (t, E.abs z1.e)) (t2.trans (by rw [p2]; rfl))
    repeat (first | refine go (k := ?_) | (refine goB (k := ?_); intro b) | (refine goA (k := ?_); intro ao cap))
    ((first | (apply Run.op; exact rfl) | refine Run.yes_ (h := ?_)); refine OpT.call0_ (spec := look_is p ((z1.sk k1).at_ n) t1 (ha ((z1.sk k1).at_ n) t1 t3)) (r := fun w => Reads.md (by (repeat (first | exact Take.head | apply Take.tail))) (Reads.any (by (repeat (first | exact Take.head | apply Take.tail))) E.rexcl .nil)) (k := ?_); intro s hs; (try conv => rhs; simp only [List.cons_append, List.nil_append]))
    repeat (first | refine go (k := ?_) | (refine goB (k := ?_); intro b) | (refine goA (k := ?_); intro ao cap))
    (refine End.done1_ ((SL.look ((z1.sk k1).at_ n) p.m)) (he := by (first | exact rfl | (refine congrArg (Value.int _) ?_; omega) | (refine congrArg (Value.int _) ?_; dsimp only; omega))) (hp := ?_))
    exact ⟨t1.look p.m, (t1.look_two p.m).trans (by rw [t3])⟩
  · repeat (first | refine go (k := ?_) | (refine goB (k := ?_); intro b) | (refine goA (k := ?_); intro ao cap))
    have t3 : (z1.sk k1).two = Vm.exec E.V p.m.mdl i z1.two := by
      have hl0 : Vm.last z1.two.1 ≠ 0 := fun h => h0 (hz1.last.symm.trans h)
      unfold Vm.exec; simp [hop, hl0]; exact congrArg (fun t => (t, E.abs z1.e)) p2
    repeat (first | refine go (k := ?_) | (refine goB (k := ?_); intro b) | (refine goA (k := ?_); intro ao cap))
    ((first | (apply Run.op; exact rfl) | refine Run.yes_ (h := ?_)); refine OpT.call0_ (spec := look_is p (z1.sk k1) p1 (ha (z1.sk k1) p1 t3)) (r := fun w => Reads.md (by (repeat (first | exact Take.head | apply Take.tail))) (Reads.any (by (repeat (first | exact Take.head | apply Take.tail))) E.rexcl .nil)) (k := ?_); intro s hs; (try conv => rhs; simp only [List.cons_append, List.nil_append]))
    repeat (first | refine go (k := ?_) | (refine goB (k := ?_); intro b) | (refine goA (k := ?_); intro ao cap))
    (refine End.done1_ ((SL.look (z1.sk k1) p.m)) (he := by (first | exact rfl | (refine congrArg (Value.int _) ?_; omega) | (refine congrArg (Value.int _) ?_; dsimp only; omega))) (hp := ?_))
    exact ⟨p1.look p.m, (p1.look_two p.m).trans (by rw [t3])⟩
set_option maxRecDepth 100000 in
set_option maxHeartbeats 2000000 in
theorem step6_is (p : Pl) (z : SL E) (hz : z.Wf) (hs : Stands p.m z) (h1 : (z.look p.m).st = 1) (hpc : z.f.pc ≤ 100000) (hc : CanS p.m (z.moved p.m) (insL p.m z)) (ha : After p.m (z.moved p.m) (insL p.m z)) (hop : (insL p.m z).op = 28) :
    Fn Try.prog 28 #[ptr p.tb] [md p.m, E.rc] (TM p z) (σ := SL E) (Gives z (Vm.step E.V p.m.mdl z.two).2) (fun _ => .bool (Vm.step E.V p.m.mdl z.two).1) (fun z' => TM p z') := by
  obtain ⟨g1, g2, g3, g4, g5⟩ := id hs
  have hl : 0 < z.cur.fr.length := List.length_pos_iff.2 g1
  have w1 : IntKind.i64.wrap ((z.cur.fr.length : Int) - 1) = ((z.cur.fr.length - 1 : Nat) : Int) := by rw [wrap_i64_in (by omega)]; omega
  have w2 : IntKind.i64.wrap ((z.f.pc : Int) + 1) = ((z.f.pc + 1 : Nat) : Int) := by rw [wrap_i64_in (by omega)]; omega
  refine Fn.enter (args := [ptr p.tb]) Try.func28 rfl _ Try.ntmps28 rfl (by simp [rd_excl, md_excl]) (fun w S => ?_)
  (try conv => rhs; simp only [List.cons_append, List.nil_append])
  repeat (first | refine go (k := ?_) | (refine goB (k := ?_); intro b) | (refine goA (k := ?_); intro ao cap))
  ((first | (apply Run.op; exact rfl) | refine Run.yes_ (h := ?_)); refine OpT.call0_ (spec := look_is p z hz (fun _ => hs)) (r := fun w => Reads.md (by (repeat (first | exact Take.head | apply Take.tail))) (Reads.any (by (repeat (first | exact Take.head | apply Take.tail))) E.rexcl .nil)) (k := ?_); intro s hs; (try conv => rhs; simp only [List.cons_append, List.nil_append]))
  repeat (first | refine go (k := ?_) | (refine goB (k := ?_); intro b) | (refine goA (k := ?_); intro ao cap))
  apply Cod.draw 21 ([tkM p (z.look p.m), moM p, frM z.cur, md p.m]) (by kernel_rfl) 22 rfl
  refine RunT.takeR_ 0 (h := ?_)
  refine RunT.takeR_ 1 (h := ?_)
  refine RunT.takeR_ 2 (h := ?_)
  refine RunT.takeR_ 3 (h := ?_)
  refine RunT.takeR_ 4 (h := ?_)
  refine RunT.takeR_ 5 (h := ?_)
  refine RunT.takeR_ 6 (h := ?_)
  refine RunT.takeR_ 7 (h := ?_)
  refine RunT.takeR_ 8 (h := ?_)
  refine RunT.takeR_ 9 (h := ?_)
  refine RunT.takeR_ 10 (h := ?_)
  refine RunT.takeR_ 11 (h := ?_)
  refine RunT.takeR_ 12 (h := ?_)
  refine RunT.takeR_ 13 (h := ?_)
  refine RunT.takeR_ 14 (h := ?_)
  refine RunT.takeR_ 15 (h := ?_)
  refine RunT.takeR_ 16 (h := ?_)
  refine RunT.takeR_ 17 (h := ?_)
  refine RunT.takeR_ 18 (h := ?_)
  refine RunT.takeR_ 19 (h := ?_)
  (refine RunT.one_ 20 (h := ?_); (first | refine OpT.val_ (k := ?_) | (refine OpT.alloc_ (k := ?_); intro b) | (refine OpT.box_ (k := ?_); intro b) | refine OpT.store_ (k := ?_) | (refine OpT.buildSlice_ (k := ?_); intro b) | (refine OpT.buildSlice0_ (k := ?_); intro b) | (refine OpT.append1_ (k := ?_); intro ao cap) | (refine OpT.cutA0_ (k := ?_); intro ao cap) | (refine OpT.cutR0_ (k := ?_); intro ao cap) | (refine OpT.cutA1_ (k := ?_); intro ao cap) | (refine OpT.cutA_ (k := ?_); intro ao cap) | (refine OpT.cutR_ (k := ?_); intro ao cap)); refine And.intro gud ?_)
  (refine RunT.one_ 21 (h := ?_); (first | refine OpT.val_ (k := ?_) | (refine OpT.alloc_ (k := ?_); intro b) | (refine OpT.box_ (k := ?_); intro b) | refine OpT.store_ (k := ?_) | (refine OpT.buildSlice_ (k := ?_); intro b) | (refine OpT.buildSlice0_ (k := ?_); intro b) | (refine OpT.append1_ (k := ?_); intro ao cap) | (refine OpT.cutA0_ (k := ?_); intro ao cap) | (refine OpT.cutR0_ (k := ?_); intro ao cap) | (refine OpT.cutA1_ (k := ?_); intro ao cap) | (refine OpT.cutA_ (k := ?_); intro ao cap) | (refine OpT.cutR_ (k := ?_); intro ao cap)); refine And.intro gud ?_)
  (apply RunT.done; kernel_rfl)
  repeat (first | refine go (k := ?_) | (refine goB (k := ?_); intro b) | (refine goA (k := ?_); intro ao cap))
  (apply Run.op; exact rfl; refine OpT.storeE_ (f := frC) (l := z.cur.fr) (i := z.cur.fr.length - 1) (off := 1) (vs := [.int .i64 ((z.f.pc + 1 : Nat) : Int)]) (a' := (⟨z.f.unit, z.f.pc + 1, z.f.base⟩ : Vm.Fr)) (k := ?_))
  apply Run.nil
  apply End.seqN
  obtain ⟨ib, rfl⟩ : ∃ x, x = b := ⟨_, rfl⟩
  refine Cod.sub [(0, ptr p.tb), (2, .bool false), (3, .pointer (place (sz frC) z.cur.fo (z.cur.fr.length - 1) 0)), (4, ptr ib)] (by (repeat (first | exact Sub.nil | (apply Sub.cons; (focus (exact rfl))) | (apply Sub.cons'; (focus (exact rfl)); (focus (first | exact rfl | (refine congrArg (Value.int _) ?_; omega) | (refine congrArg (Value.int _) ?_; dsimp only; omega))))))) ?_
  have hln : z.cur.fr.length = (z.cur.fr.set (z.cur.fr.length - 1) (⟨z.f.unit, z.f.pc + 1, z.f.base⟩ : Vm.Fr)).length := by rw [List.length_set]
  refine Cod.only (old w S :: md p.m :: E.rc :: blk ib (insC (insL p.m z)) 57 :: TM p (z.moved p.m)) (by (repeat (first | exact Takes.nil | exact Take.head | (refine Take.blkEq ?_; (focus (first | rfl | (simp; done) | (simp; omega) | omega | (simp [*]; done)))) | (refine Take.arrEq ?_ ?_; (focus (first | rfl | (simp; done) | (simp; omega) | omega | (simp [*]; done))); (focus (first | rfl | (simp; done) | (simp; omega) | omega | (simp [*]; done)))) | apply Take.tail | apply Takes.cons))) ?_
  have hpl : place (sz frC) z.cur.fo (z.cur.fr.length - 1) 0 = place (sz frC) (z.moved p.m).cur.fo ((z.moved p.m).cur.fr.length - 1) 0 := by rw [show (z.moved p.m).cur.fr.length = z.cur.fr.length from List.length_set]
  rw [hpl]
  have hstep := hz.step_two p.m h1
  rw [hstep]
  have hz1 := hz.moved p.m
  obtain ⟨i, hi⟩ : ∃ i, i = insL p.m z := ⟨_, rfl⟩
  obtain ⟨z1, hz1e⟩ : ∃ z1, z1 = z.moved p.m := ⟨_, rfl⟩
  rw [← hi, ← hz1e] at hc ha ⊢
  rw [← hz1e] at hz1
  rw [← hi] at hop
  have c1 := hc.some (by omega)
  repeat (first | refine go (k := ?_) | (refine goB (k := ?_); intro b) | (refine goA (k := ?_); intro ao cap))
  (apply Run.op; exact rfl; refine OpT.call0_ (spec := pop_is' (z1.F p) z1.st z1.tr (z1.cur.st : Int) (ptrO z1.cur.upb) (.slice z1.cur.fo z1.cur.fr.length z1.cur.fc) E.mailV (toldV E.told) z1.cur.sk hz1.curOk c1) (k := ?_); intro s hs; (try conv => rhs; simp only [List.cons_append, List.nil_append]))
  obtain ⟨k1, rfl⟩ : ∃ x, x = s := ⟨_, rfl⟩
  obtain ⟨p1, p2⟩ := popped hz1 hs
  have c2 := hc.outs hop
  repeat (first | refine go (k := ?_) | (refine goB (k := ?_); intro b) | (refine goA (k := ?_); intro ao cap))
  have hoL : (z1.out ++ [z1.top 1]).length = z1.out.length + 1 := by simp
  have hla : Vm.last z1.tk = z1.top 1 := hz1.last
  ((first | (apply Run.op; exact rfl) | refine Run.yes_ (h := ?_)); refine OpT.call0_ (spec := tell_is E ⟨p.tb, p.mb, .slice z1.co z1.bs.length z1.ccap, z1.cur.cb, z1.bx, .slice ao (z1.out.length + 1) cap⟩ z1.st z1.tr z1.e (hc.okk hz1) 1 0 (z1.top 1)) (r := fun w => Reads.any (by (repeat (first | exact Take.head | apply Take.tail))) E.rexcl .nil) (k := ?_); intro s hs; (try conv => rhs; simp only [List.cons_append, List.nil_append]))
  obtain ⟨e2, rfl⟩ : ∃ x, x = s := ⟨_, rfl⟩
  have t1 : ({ z1.sk k1 with oo := ao, oc := cap, out := z1.out ++ [z1.top 1], e := e2 } : SL E).Wf := ⟨p1.now, p1.len, p1.few, p1.at_, p1.up, p1.upl, p1.sk, hs.1⟩
  have t3 : ({ z1.sk k1 with oo := ao, oc := cap, out := z1.out ++ [z1.top 1], e := e2 } : SL E).two = Vm.exec E.V p.m.mdl i z1.two := by
    have hla' : Vm.last z1.two.1 = z1.top 1 := hz1.last
    unfold Vm.exec; simp only [hop, hla']
    refine Prod.ext ?_ hs.2
    show SL.tk { z1.sk k1 with oo := ao, oc := cap, out := z1.out ++ [z1.top 1], e := e2 } = { Vm.drop 1 z1.tk with out := (Vm.drop 1 z1.tk).out ++ [z1.top 1] }
    rw [← p2]; rfl
  rw [← hoL]
  repeat (first | refine go (k := ?_) | (refine goB (k := ?_); intro b) | (refine goA (k := ?_); intro ao cap))
  ((first | (apply Run.op; exact rfl) | refine Run.yes_ (h := ?_)); refine OpT.call0_ (spec := look_is p ({ z1.sk k1 with oo := ao, oc := cap, out := z1.out ++ [z1.top 1], e := e2 }) t1 (ha ({ z1.sk k1 with oo := ao, oc := cap, out := z1.out ++ [z1.top 1], e := e2 }) t1 t3)) (r := fun w => Reads.md (by (repeat (first | exact Take.head | apply Take.tail))) (Reads.any (by (repeat (first | exact Take.head | apply Take.tail))) E.rexcl .nil)) (k := ?_); intro s hs; (try conv => rhs; simp only [List.cons_append, List.nil_append]))
  repeat (first | refine go (k := ?_) | (refine goB (k := ?_); intro b) | (refine goA (k := ?_); intro ao cap))
  (refine End.done1_ ((SL.look ({ z1.sk k1 with oo := ao, oc := cap, out := z1.out ++ [z1.top 1], e := e2 }) p.m)) (he := by (first | exact rfl | (refine congrArg (Value.int _) ?_; omega) | (refine congrArg (Value.int _) ?_; dsimp only; omega))) (hp := ?_))
  exact ⟨t1.look p.m, (t1.look_two p.m).trans (by rw [t3])⟩
end Go.Proofs.Ytfeajpghabjaaaa.Vw

/- A step's operations, walked: sending and receiving. -/
namespace Go.Proofs.Ytfeajpghabjaaaa.Vw
open Go.RowKit Go.Proofs.Ytfeajpghabjaaaa.Img
set_option linter.unusedVariables false
set_option linter.unusedSimpArgs false
attribute [local irreducible] Run Cod End OpT Still RunQ RunS RunT Fn PutOk
variable {E : EnvM}
set_option maxRecDepth 100000 in
set_option maxHeartbeats 2000000 in
theorem step7_is (p : Pl) (z : SL E) (hz : z.Wf) (hs : Stands p.m z) (h1 : (z.look p.m).st = 1) (hpc : z.f.pc ≤ 100000) (hc : CanS p.m (z.moved p.m) (insL p.m z)) (ha : After p.m (z.moved p.m) (insL p.m z)) (hop : (insL p.m z).op = 26) :
    Fn Try.prog 28 #[ptr p.tb] [md p.m, E.rc] (TM p z) (σ := SL E) (Gives z (Vm.step E.V p.m.mdl z.two).2) (fun _ => .bool (Vm.step E.V p.m.mdl z.two).1) (fun z' => TM p z') := by
  obtain ⟨g1, g2, g3, g4, g5⟩ := id hs
  have hl : 0 < z.cur.fr.length := List.length_pos_iff.2 g1
  have w1 : IntKind.i64.wrap ((z.cur.fr.length : Int) - 1) = ((z.cur.fr.length - 1 : Nat) : Int) := by rw [wrap_i64_in (by omega)]; omega
  have w2 : IntKind.i64.wrap ((z.f.pc : Int) + 1) = ((z.f.pc + 1 : Nat) : Int) := by rw [wrap_i64_in (by omega)]; omega
  refine Fn.enter (args := [ptr p.tb]) Try.func28 rfl _ Try.ntmps28 rfl (by simp [rd_excl, md_excl]) (fun w S => ?_)
  (try conv => rhs; simp only [List.cons_append, List.nil_append])
  repeat (first | refine go (k := ?_) | (refine goB (k := ?_); intro b) | (refine goA (k := ?_); intro ao cap))
  ((first | (apply Run.op; exact rfl) | refine Run.yes_ (h := ?_)); refine OpT.call0_ (spec := look_is p z hz (fun _ => hs)) (r := fun w => Reads.md (by (repeat (first | exact Take.head | apply Take.tail))) (Reads.any (by (repeat (first | exact Take.head | apply Take.tail))) E.rexcl .nil)) (k := ?_); intro s hs; (try conv => rhs; simp only [List.cons_append, List.nil_append]))
  repeat (first | refine go (k := ?_) | (refine goB (k := ?_); intro b) | (refine goA (k := ?_); intro ao cap))
  apply Cod.draw 21 ([tkM p (z.look p.m), moM p, frM z.cur, md p.m]) (by kernel_rfl) 22 rfl
  refine RunT.takeR_ 0 (h := ?_)
  refine RunT.takeR_ 1 (h := ?_)
  refine RunT.takeR_ 2 (h := ?_)
  refine RunT.takeR_ 3 (h := ?_)
  refine RunT.takeR_ 4 (h := ?_)
  refine RunT.takeR_ 5 (h := ?_)
  refine RunT.takeR_ 6 (h := ?_)
  refine RunT.takeR_ 7 (h := ?_)
  refine RunT.takeR_ 8 (h := ?_)
  refine RunT.takeR_ 9 (h := ?_)
  refine RunT.takeR_ 10 (h := ?_)
  refine RunT.takeR_ 11 (h := ?_)
  refine RunT.takeR_ 12 (h := ?_)
  refine RunT.takeR_ 13 (h := ?_)
  refine RunT.takeR_ 14 (h := ?_)
  refine RunT.takeR_ 15 (h := ?_)
  refine RunT.takeR_ 16 (h := ?_)
  refine RunT.takeR_ 17 (h := ?_)
  refine RunT.takeR_ 18 (h := ?_)
  refine RunT.takeR_ 19 (h := ?_)
  (refine RunT.one_ 20 (h := ?_); (first | refine OpT.val_ (k := ?_) | (refine OpT.alloc_ (k := ?_); intro b) | (refine OpT.box_ (k := ?_); intro b) | refine OpT.store_ (k := ?_) | (refine OpT.buildSlice_ (k := ?_); intro b) | (refine OpT.buildSlice0_ (k := ?_); intro b) | (refine OpT.append1_ (k := ?_); intro ao cap) | (refine OpT.cutA0_ (k := ?_); intro ao cap) | (refine OpT.cutR0_ (k := ?_); intro ao cap) | (refine OpT.cutA1_ (k := ?_); intro ao cap) | (refine OpT.cutA_ (k := ?_); intro ao cap) | (refine OpT.cutR_ (k := ?_); intro ao cap)); refine And.intro gud ?_)
  (refine RunT.one_ 21 (h := ?_); (first | refine OpT.val_ (k := ?_) | (refine OpT.alloc_ (k := ?_); intro b) | (refine OpT.box_ (k := ?_); intro b) | refine OpT.store_ (k := ?_) | (refine OpT.buildSlice_ (k := ?_); intro b) | (refine OpT.buildSlice0_ (k := ?_); intro b) | (refine OpT.append1_ (k := ?_); intro ao cap) | (refine OpT.cutA0_ (k := ?_); intro ao cap) | (refine OpT.cutR0_ (k := ?_); intro ao cap) | (refine OpT.cutA1_ (k := ?_); intro ao cap) | (refine OpT.cutA_ (k := ?_); intro ao cap) | (refine OpT.cutR_ (k := ?_); intro ao cap)); refine And.intro gud ?_)
  (apply RunT.done; kernel_rfl)
  repeat (first | refine go (k := ?_) | (refine goB (k := ?_); intro b) | (refine goA (k := ?_); intro ao cap))
  (apply Run.op; exact rfl; refine OpT.storeE_ (f := frC) (l := z.cur.fr) (i := z.cur.fr.length - 1) (off := 1) (vs := [.int .i64 ((z.f.pc + 1 : Nat) : Int)]) (a' := (⟨z.f.unit, z.f.pc + 1, z.f.base⟩ : Vm.Fr)) (k := ?_))
  apply Run.nil
  apply End.seqN
  obtain ⟨ib, rfl⟩ : ∃ x, x = b := ⟨_, rfl⟩
  refine Cod.sub [(0, ptr p.tb), (2, .bool false), (3, .pointer (place (sz frC) z.cur.fo (z.cur.fr.length - 1) 0)), (4, ptr ib)] (by (repeat (first | exact Sub.nil | (apply Sub.cons; (focus (exact rfl))) | (apply Sub.cons'; (focus (exact rfl)); (focus (first | exact rfl | (refine congrArg (Value.int _) ?_; omega) | (refine congrArg (Value.int _) ?_; dsimp only; omega))))))) ?_
  have hln : z.cur.fr.length = (z.cur.fr.set (z.cur.fr.length - 1) (⟨z.f.unit, z.f.pc + 1, z.f.base⟩ : Vm.Fr)).length := by rw [List.length_set]
  refine Cod.only (old w S :: md p.m :: E.rc :: blk ib (insC (insL p.m z)) 57 :: TM p (z.moved p.m)) (by (repeat (first | exact Takes.nil | exact Take.head | (refine Take.blkEq ?_; (focus (first | rfl | (simp; done) | (simp; omega) | omega | (simp [*]; done)))) | (refine Take.arrEq ?_ ?_; (focus (first | rfl | (simp; done) | (simp; omega) | omega | (simp [*]; done))); (focus (first | rfl | (simp; done) | (simp; omega) | omega | (simp [*]; done)))) | apply Take.tail | apply Takes.cons))) ?_
  have hpl : place (sz frC) z.cur.fo (z.cur.fr.length - 1) 0 = place (sz frC) (z.moved p.m).cur.fo ((z.moved p.m).cur.fr.length - 1) 0 := by rw [show (z.moved p.m).cur.fr.length = z.cur.fr.length from List.length_set]
  rw [hpl]
  have hstep := hz.step_two p.m h1
  rw [hstep]
  have hz1 := hz.moved p.m
  obtain ⟨i, hi⟩ : ∃ i, i = insL p.m z := ⟨_, rfl⟩
  obtain ⟨z1, hz1e⟩ : ∃ z1, z1 = z.moved p.m := ⟨_, rfl⟩
  rw [← hi, ← hz1e] at hc ha ⊢
  rw [← hz1e] at hz1
  rw [← hi] at hop
  have c1 := hc.some (by omega)
  obtain ⟨s1, s2, s3⟩ := hc.send hop
  have hput := E.put z1.e i.a.toNat (z1.top 1) hz1.env s2 s3 (by have := hc.size; omega)
  rw [Int.toNat_of_nonneg s1] at hput
  repeat (first | refine go (k := ?_) | (refine goB (k := ?_); intro b) | (refine goA (k := ?_); intro ao cap))
  (apply Run.op; exact rfl; refine OpT.call0_ (spec := pop_is' (z1.F p) z1.st z1.tr (z1.cur.st : Int) (ptrO z1.cur.upb) (.slice z1.cur.fo z1.cur.fr.length z1.cur.fc) E.mailV (toldV E.told) z1.cur.sk hz1.curOk c1) (k := ?_); intro s hs; (try conv => rhs; simp only [List.cons_append, List.nil_append]))
  obtain ⟨k1, rfl⟩ : ∃ x, x = s := ⟨_, rfl⟩
  obtain ⟨p1, p2⟩ := popped hz1 hs
  repeat (first | refine go (k := ?_) | (refine goB (k := ?_); intro b) | (refine goA (k := ?_); intro ao cap))
  ((first | (apply Run.op; exact rfl) | refine Run.yes_ (h := ?_)); refine OpT.callM_ (E.mPut) (E.bPut) (hput) (r := fun w => Reads.any (by (repeat (first | exact Take.head | apply Take.tail))) E.rexcl .nil) (k := ?_); intro s hs; (try conv => rhs; simp only [List.cons_append, List.nil_append]))
  obtain ⟨e1, rfl⟩ : ∃ x, x = s := ⟨_, rfl⟩
  obtain ⟨q1, q2⟩ := hs
  repeat (first | refine go (k := ?_) | (refine goB (k := ?_); intro b) | (refine goA (k := ?_); intro ao cap))
  ((first | (apply Run.op; exact rfl) | refine Run.yes_ (h := ?_)); refine OpT.call0_ (spec := tell_is E (z1.F p) z1.st z1.tr e1 ⟨q1, by rw [q2]; have h5 := E.sPut (E.abs z1.e) i.a.toNat (z1.top 1); have h6 := hc.size; omega⟩ 2 i.a (z1.top 1)) (r := fun w => Reads.any (by (repeat (first | exact Take.head | apply Take.tail))) E.rexcl .nil) (k := ?_); intro s hs; (try conv => rhs; simp only [List.cons_append, List.nil_append]))
  obtain ⟨e2, rfl⟩ : ∃ x, x = s := ⟨_, rfl⟩
  have t1 : ({ z1.sk k1 with e := e2 } : SL E).Wf := ⟨p1.now, p1.len, p1.few, p1.at_, p1.up, p1.upl, p1.sk, hs.1⟩
  have t3 : ({ z1.sk k1 with e := e2 } : SL E).two = Vm.exec E.V p.m.mdl i z1.two := by
    have hla' : Vm.last z1.two.1 = z1.top 1 := hz1.last
    unfold Vm.exec; simp only [hop, hla']
    refine Prod.ext ?_ (hs.2.trans (by rw [q2]; rfl))
    exact p2
  repeat (first | refine go (k := ?_) | (refine goB (k := ?_); intro b) | (refine goA (k := ?_); intro ao cap))
  ((first | (apply Run.op; exact rfl) | refine Run.yes_ (h := ?_)); refine OpT.call0_ (spec := look_is p ({ z1.sk k1 with e := e2 }) t1 (ha ({ z1.sk k1 with e := e2 }) t1 t3)) (r := fun w => Reads.md (by (repeat (first | exact Take.head | apply Take.tail))) (Reads.any (by (repeat (first | exact Take.head | apply Take.tail))) E.rexcl .nil)) (k := ?_); intro s hs; (try conv => rhs; simp only [List.cons_append, List.nil_append]))
  repeat (first | refine go (k := ?_) | (refine goB (k := ?_); intro b) | (refine goA (k := ?_); intro ao cap))
  (refine End.done1_ ((SL.look ({ z1.sk k1 with e := e2 }) p.m)) (he := by (first | exact rfl | (refine congrArg (Value.int _) ?_; omega) | (refine congrArg (Value.int _) ?_; dsimp only; omega))) (hp := ?_))
  exact ⟨t1.look p.m, (t1.look_two p.m).trans (by rw [t3])⟩
set_option maxRecDepth 100000 in
set_option maxHeartbeats 2000000 in
theorem step8_is (p : Pl) (z : SL E) (hz : z.Wf) (hs : Stands p.m z) (h1 : (z.look p.m).st = 1) (hpc : z.f.pc ≤ 100000) (hc : CanS p.m (z.moved p.m) (insL p.m z)) (ha : After p.m (z.moved p.m) (insL p.m z)) (hop : (insL p.m z).op = 27) :
    Fn Try.prog 28 #[ptr p.tb] [md p.m, E.rc] (TM p z) (σ := SL E) (Gives z (Vm.step E.V p.m.mdl z.two).2) (fun _ => .bool (Vm.step E.V p.m.mdl z.two).1) (fun z' => TM p z') := by
  obtain ⟨g1, g2, g3, g4, g5⟩ := id hs
  have hl : 0 < z.cur.fr.length := List.length_pos_iff.2 g1
  have w1 : IntKind.i64.wrap ((z.cur.fr.length : Int) - 1) = ((z.cur.fr.length - 1 : Nat) : Int) := by rw [wrap_i64_in (by omega)]; omega
  have w2 : IntKind.i64.wrap ((z.f.pc : Int) + 1) = ((z.f.pc + 1 : Nat) : Int) := by rw [wrap_i64_in (by omega)]; omega
  refine Fn.enter (args := [ptr p.tb]) Try.func28 rfl _ Try.ntmps28 rfl (by simp [rd_excl, md_excl]) (fun w S => ?_)
  (try conv => rhs; simp only [List.cons_append, List.nil_append])
  repeat (first | refine go (k := ?_) | (refine goB (k := ?_); intro b) | (refine goA (k := ?_); intro ao cap))
  ((first | (apply Run.op; exact rfl) | refine Run.yes_ (h := ?_)); refine OpT.call0_ (spec := look_is p z hz (fun _ => hs)) (r := fun w => Reads.md (by (repeat (first | exact Take.head | apply Take.tail))) (Reads.any (by (repeat (first | exact Take.head | apply Take.tail))) E.rexcl .nil)) (k := ?_); intro s hs; (try conv => rhs; simp only [List.cons_append, List.nil_append]))
  repeat (first | refine go (k := ?_) | (refine goB (k := ?_); intro b) | (refine goA (k := ?_); intro ao cap))
  apply Cod.draw 21 ([tkM p (z.look p.m), moM p, frM z.cur, md p.m]) (by kernel_rfl) 22 rfl
  refine RunT.takeR_ 0 (h := ?_)
  refine RunT.takeR_ 1 (h := ?_)
  refine RunT.takeR_ 2 (h := ?_)
  refine RunT.takeR_ 3 (h := ?_)
  refine RunT.takeR_ 4 (h := ?_)
  refine RunT.takeR_ 5 (h := ?_)
  refine RunT.takeR_ 6 (h := ?_)
  refine RunT.takeR_ 7 (h := ?_)
  refine RunT.takeR_ 8 (h := ?_)
  refine RunT.takeR_ 9 (h := ?_)
  refine RunT.takeR_ 10 (h := ?_)
  refine RunT.takeR_ 11 (h := ?_)
  refine RunT.takeR_ 12 (h := ?_)
  refine RunT.takeR_ 13 (h := ?_)
  refine RunT.takeR_ 14 (h := ?_)
  refine RunT.takeR_ 15 (h := ?_)
  refine RunT.takeR_ 16 (h := ?_)
  refine RunT.takeR_ 17 (h := ?_)
  refine RunT.takeR_ 18 (h := ?_)
  refine RunT.takeR_ 19 (h := ?_)
  (refine RunT.one_ 20 (h := ?_); (first | refine OpT.val_ (k := ?_) | (refine OpT.alloc_ (k := ?_); intro b) | (refine OpT.box_ (k := ?_); intro b) | refine OpT.store_ (k := ?_) | (refine OpT.buildSlice_ (k := ?_); intro b) | (refine OpT.buildSlice0_ (k := ?_); intro b) | (refine OpT.append1_ (k := ?_); intro ao cap) | (refine OpT.cutA0_ (k := ?_); intro ao cap) | (refine OpT.cutR0_ (k := ?_); intro ao cap) | (refine OpT.cutA1_ (k := ?_); intro ao cap) | (refine OpT.cutA_ (k := ?_); intro ao cap) | (refine OpT.cutR_ (k := ?_); intro ao cap)); refine And.intro gud ?_)
  (refine RunT.one_ 21 (h := ?_); (first | refine OpT.val_ (k := ?_) | (refine OpT.alloc_ (k := ?_); intro b) | (refine OpT.box_ (k := ?_); intro b) | refine OpT.store_ (k := ?_) | (refine OpT.buildSlice_ (k := ?_); intro b) | (refine OpT.buildSlice0_ (k := ?_); intro b) | (refine OpT.append1_ (k := ?_); intro ao cap) | (refine OpT.cutA0_ (k := ?_); intro ao cap) | (refine OpT.cutR0_ (k := ?_); intro ao cap) | (refine OpT.cutA1_ (k := ?_); intro ao cap) | (refine OpT.cutA_ (k := ?_); intro ao cap) | (refine OpT.cutR_ (k := ?_); intro ao cap)); refine And.intro gud ?_)
  (apply RunT.done; kernel_rfl)
  repeat (first | refine go (k := ?_) | (refine goB (k := ?_); intro b) | (refine goA (k := ?_); intro ao cap))
  (apply Run.op; exact rfl; refine OpT.storeE_ (f := frC) (l := z.cur.fr) (i := z.cur.fr.length - 1) (off := 1) (vs := [.int .i64 ((z.f.pc + 1 : Nat) : Int)]) (a' := (⟨z.f.unit, z.f.pc + 1, z.f.base⟩ : Vm.Fr)) (k := ?_))
  apply Run.nil
  apply End.seqN
  obtain ⟨ib, rfl⟩ : ∃ x, x = b := ⟨_, rfl⟩
  refine Cod.sub [(0, ptr p.tb), (2, .bool false), (3, .pointer (place (sz frC) z.cur.fo (z.cur.fr.length - 1) 0)), (4, ptr ib)] (by (repeat (first | exact Sub.nil | (apply Sub.cons; (focus (exact rfl))) | (apply Sub.cons'; (focus (exact rfl)); (focus (first | exact rfl | (refine congrArg (Value.int _) ?_; omega) | (refine congrArg (Value.int _) ?_; dsimp only; omega))))))) ?_
  have hln : z.cur.fr.length = (z.cur.fr.set (z.cur.fr.length - 1) (⟨z.f.unit, z.f.pc + 1, z.f.base⟩ : Vm.Fr)).length := by rw [List.length_set]
  refine Cod.only (old w S :: md p.m :: E.rc :: blk ib (insC (insL p.m z)) 57 :: TM p (z.moved p.m)) (by (repeat (first | exact Takes.nil | exact Take.head | (refine Take.blkEq ?_; (focus (first | rfl | (simp; done) | (simp; omega) | omega | (simp [*]; done)))) | (refine Take.arrEq ?_ ?_; (focus (first | rfl | (simp; done) | (simp; omega) | omega | (simp [*]; done))); (focus (first | rfl | (simp; done) | (simp; omega) | omega | (simp [*]; done)))) | apply Take.tail | apply Takes.cons))) ?_
  have hpl : place (sz frC) z.cur.fo (z.cur.fr.length - 1) 0 = place (sz frC) (z.moved p.m).cur.fo ((z.moved p.m).cur.fr.length - 1) 0 := by rw [show (z.moved p.m).cur.fr.length = z.cur.fr.length from List.length_set]
  rw [hpl]
  have hstep := hz.step_two p.m h1
  rw [hstep]
  have hz1 := hz.moved p.m
  obtain ⟨i, hi⟩ : ∃ i, i = insL p.m z := ⟨_, rfl⟩
  obtain ⟨z1, hz1e⟩ : ∃ z1, z1 = z.moved p.m := ⟨_, rfl⟩
  rw [← hi, ← hz1e] at hc ha ⊢
  rw [← hz1e] at hz1
  rw [← hi] at hop
  obtain ⟨s1, s2, s3⟩ := hc.recv hop
  have htk := E.take z1.e i.a.toNat hz1.env s2 s3
  rw [Int.toNat_of_nonneg s1] at htk
  repeat (first | refine go (k := ?_) | (refine goB (k := ?_); intro b) | (refine goA (k := ?_); intro ao cap))
  ((first | (apply Run.op; exact rfl) | refine Run.yes_ (h := ?_)); refine OpT.callM_ (E.mTake) (E.bTake) (htk) (r := fun w => Reads.any (by (repeat (first | exact Take.head | apply Take.tail))) E.rexcl .nil) (k := ?_); intro s hs; (try conv => rhs; simp only [List.cons_append, List.nil_append]))
  obtain ⟨e1, rfl⟩ : ∃ x, x = s := ⟨_, rfl⟩
  obtain ⟨q1, q2⟩ := hs
  repeat (first | refine go (k := ?_) | (refine goB (k := ?_); intro b) | (refine goA (k := ?_); intro ao cap))
  ((first | (apply Run.op; exact rfl) | refine Run.yes_ (h := ?_)); refine OpT.call0_ (spec := tell_is E (z1.F p) z1.st z1.tr e1 ⟨q1, by rw [q2]; have h5 := E.sTake (E.abs z1.e) i.a.toNat; have h6 := hc.size; omega⟩ 3 i.a (E.V.take (E.abs z1.e) i.a.toNat).1) (r := fun w => Reads.any (by (repeat (first | exact Take.head | apply Take.tail))) E.rexcl .nil) (k := ?_); intro s hs; (try conv => rhs; simp only [List.cons_append, List.nil_append]))
  obtain ⟨e2, rfl⟩ : ∃ x, x = s := ⟨_, rfl⟩
  have p1 : ({ z1 with e := e2 } : SL E).Wf := ⟨hz1.now, hz1.len, hz1.few, hz1.at_, hz1.up, hz1.upl, hz1.sk, hs.1⟩
  have hs2 := hs
  repeat (first | refine go (k := ?_) | (refine goB (k := ?_); intro b) | (refine goA (k := ?_); intro ao cap))
  ((first | (apply Run.op; exact rfl) | refine Run.yes_ (h := ?_)); refine OpT.call0_ (spec := push_is' E (z1.F p) z1.st z1.tr e2 ⟨hs.1, by rw [hs.2, q2]; have h5 := E.sTake (E.abs z1.e) i.a.toNat; have h6 := E.sTell (E.V.take (E.abs z1.e) i.a.toNat).2 (3, i.a, (E.V.take (E.abs z1.e) i.a.toNat).1); have h7 := hc.size; omega⟩ (z1.cur.st : Int) (ptrO z1.cur.upb) (.slice z1.cur.fo z1.cur.fr.length z1.cur.fc) z1.cur.sk hz1.curOk (E.V.take (E.abs z1.e) i.a.toNat).1) (r := fun w => Reads.any (by (repeat (first | exact Take.head | apply Take.tail))) E.rexcl .nil) (k := ?_); intro s hs; (try conv => rhs; simp only [List.cons_append, List.nil_append]))
  obtain ⟨q, rfl⟩ : ∃ x, x = s := ⟨_, rfl⟩
  obtain ⟨t1, t2⟩ := pushed p1 hs
  have t3 : (({ z1 with e := e2 } : SL E).put q).two = Vm.exec E.V p.m.mdl i z1.two := by
    rw [t2]
    unfold Vm.exec; simp only [hop]
    show Vm.push E.V _ (z1.tk, E.abs e2) = _
    rw [hs2.2, q2]
    rfl
  repeat (first | refine go (k := ?_) | (refine goB (k := ?_); intro b) | (refine goA (k := ?_); intro ao cap))
  ((first | (apply Run.op; exact rfl) | refine Run.yes_ (h := ?_)); refine OpT.call0_ (spec := look_is p (({ z1 with e := e2 } : SL E).put q) t1 (ha (({ z1 with e := e2 } : SL E).put q) t1 t3)) (r := fun w => Reads.md (by (repeat (first | exact Take.head | apply Take.tail))) (Reads.any (by (repeat (first | exact Take.head | apply Take.tail))) E.rexcl .nil)) (k := ?_); intro s hs; (try conv => rhs; simp only [List.cons_append, List.nil_append]))
  repeat (first | refine go (k := ?_) | (refine goB (k := ?_); intro b) | (refine goA (k := ?_); intro ao cap))
  (refine End.done1_ ((SL.look (({ z1 with e := e2 } : SL E).put q) p.m)) (he := by (first | exact rfl | (refine congrArg (Value.int _) ?_; omega) | (refine congrArg (Value.int _) ?_; dsimp only; omega))) (hp := ?_))
  exact ⟨t1.look p.m, (t1.look_two p.m).trans (by rw [t3])⟩
end Go.Proofs.Ytfeajpghabjaaaa.Vw
