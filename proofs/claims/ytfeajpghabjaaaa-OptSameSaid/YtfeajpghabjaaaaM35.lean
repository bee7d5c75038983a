/- A step's operations, walked: loading and storing, and what has to do with other units. -/
import Derived.Test.YtfeajpghabjaaaaM34
namespace Go.Proofs.Ytfeajpghabjaaaa.Vw
open Go.RowKit Go.Proofs.Ytfeajpghabjaaaa.Img
set_option linter.unusedVariables false
set_option linter.unusedSimpArgs false
attribute [local irreducible] Run Cod End OpT Still RunQ RunS RunT Fn PutOk
variable {E : EnvM}
set_option maxRecDepth 100000 in
set_option maxHeartbeats 2000000 in
theorem step9_is (p : Pl) (z : SL E) (hz : z.Wf) (hs : Stands p.m z) (h1 : (z.look p.m).st = 1) (hpc : z.f.pc ≤ 100000) (hc : CanS p.m (z.moved p.m) (insL p.m z)) (ha : After p.m (z.moved p.m) (insL p.m z)) (hop : (insL p.m z).op = 3) :
    Fn Try.prog 28 #[ptr p.tb] [md p.m, E.rc] (TM p z) (σ := SL E) (Gives z (Vm.step E.V p.m.mdl z.two).2) (fun _ => .bool (Vm.step E.V p.m.mdl z.two).1) (fun z' => TM p z') := by
  obtain ⟨g1, g2, g3, g4, g5⟩ := id hs
  have hl : 0 < z.cur.fr.length := List.length_pos_iff.2 g1
  have w1 : IntKind.i64.wrap ((z.cur.fr.length : Int) - 1) = ((z.cur.fr.length - 1 : Nat) : Int) := by rw [wrap_i64_in (by omega)]; omega
  have w2 : IntKind.i64.wrap ((z.f.pc : Int) + 1) = ((z.f.pc + 1 : Nat) : Int) := by rw [wrap_i64_in (by omega)]; omega
  refine Fn.enter (args := [ptr p.tb]) Try.func28 rfl _ Try.ntmps28 rfl (by simp [rd_excl, md_excl]) (fun w S => ?_)
  (try conv => rhs; simp only [List.cons_append, List.nil_append])
  repeat (first | refine go (k := ?_) | (refine goB (k := ?_); intro b) | (refine goA (k := ?_); intro ao cap))
  ((first | (apply Run.op; exact rfl) | refine Run.yes_ (h := ?_)); refine OpT.call0_ (spec := look_is p z hz (fun _ => hs)) (r := fun w => Reads.md (by (repeat (first | exact Take.head | apply Take.tail))) (Reads.any (by (repeat (first | exact Take.head | apply Take.tail))) E.rexcl .nil)) (k := ?_); intro s hs; (try conv => rhs; simp only [List.cons_append, List.nil_append]))
  repeat (first | refine go (k := ?_) | (refine goB (k := ?_); intro b) | (refine goA (k := ?_); intro ao cap))
  apply Cod.draw 21 ([tkM p (z.look p.m), moM p, frM z.cur, md p.m]) (by kernel_rfl) 22 rfl
  refine RunT.takeR_ 0 (h := ?_)
  refine RunT.takeR_ 1 (h := ?_)
  refine RunT.takeR_ 2 (h := ?_)
  refine RunT.takeR_ 3 (h := ?_)
  refine RunT.takeR_ 4 (h := ?_)
  refine RunT.takeR_ 5 (h := ?_)
  refine RunT.takeR_ 6 (h := ?_)
  refine RunT.takeR_ 7 (h := ?_)
  refine RunT.takeR_ 8 (h := ?_)
  refine RunT.takeR_ 9 (h := ?_)
  refine RunT.takeR_ 10 (h := ?_)
  refine RunT.takeR_ 11 (h := ?_)
  refine RunT.takeR_ 12 (h := ?_)
  refine RunT.takeR_ 13 (h := ?_)
  refine RunT.takeR_ 14 (h := ?_)
  refine RunT.takeR_ 15 (h := ?_)
  refine RunT.takeR_ 16 (h := ?_)
  refine RunT.takeR_ 17 (h := ?_)
  refine RunT.takeR_ 18 (h := ?_)
  refine RunT.takeR_ 19 (h := ?_)
  (refine RunT.one_ 20 (h := ?_); (first | refine OpT.val_ (k := ?_) | (refine OpT.alloc_ (k := ?_); intro b) | (refine OpT.box_ (k := ?_); intro b) | refine OpT.store_ (k := ?_) | (refine OpT.buildSlice_ (k := ?_); intro b) | (refine OpT.buildSlice0_ (k := ?_); intro b) | (refine OpT.append1_ (k := ?_); intro ao cap) | (refine OpT.cutA0_ (k := ?_); intro ao cap) | (refine OpT.cutR0_ (k := ?_); intro ao cap) | (refine OpT.cutA1_ (k := ?_); intro ao cap) | (refine OpT.cutA_ (k := ?_); intro ao cap) | (refine OpT.cutR_ (k := ?_); intro ao cap)); refine And.intro gud ?_)
  (refine RunT.one_ 21 (h := ?_); (first | refine OpT.val_ (k := ?_) | (refine OpT.alloc_ (k := ?_); intro b) | (refine OpT.box_ (k := ?_); intro b) | refine OpT.store_ (k := ?_) | (refine OpT.buildSlice_ (k := ?_); intro b) | (refine OpT.buildSlice0_ (k := ?_); intro b) | (refine OpT.append1_ (k := ?_); intro ao cap) | (refine OpT.cutA0_ (k := ?_); intro ao cap) | (refine OpT.cutR0_ (k := ?_); intro ao cap) | (refine OpT.cutA1_ (k := ?_); intro ao cap) | (refine OpT.cutA_ (k := ?_); intro ao cap) | (refine OpT.cutR_ (k := ?_); intro ao cap)); refine And.intro gud ?_)
  (apply RunT.done; kernel_rfl)
  repeat (first | refine go (k := ?_) | (refine goB (k := ?_); intro b) | (refine goA (k := ?_); intro ao cap))
  (apply Run.op; exact rfl; refine OpT.storeE_ (f := frC) (l := z.cur.fr) (i := z.cur.fr.length - 1) (off := 1) (vs := [.int .i64 ((z.f.pc + 1 : Nat) : Int)]) (a' := (⟨z.f.unit, z.f.pc + 1, z.f.base⟩ : Vm.Fr)) (k := ?_))
  apply Run.nil
  apply End.seqN
  obtain ⟨ib, rfl⟩ : ∃ x, x = b := ⟨_, rfl⟩
  refine Cod.sub [(0, ptr p.tb), (2, .bool false), (3, .pointer (place (sz frC) z.cur.fo (z.cur.fr.length - 1) 0)), (4, ptr ib)] (by (repeat (first | exact Sub.nil | (apply Sub.cons; (focus (exact rfl))) | (apply Sub.cons'; (focus (exact rfl)); (focus (first | exact rfl | (refine congrArg (Value.int _) ?_; omega) | (refine congrArg (Value.int _) ?_; dsimp only; omega))))))) ?_
  have hln : z.cur.fr.length = (z.cur.fr.set (z.cur.fr.length - 1) (⟨z.f.unit, z.f.pc + 1, z.f.base⟩ : Vm.Fr)).length := by rw [List.length_set]
  refine Cod.only (old w S :: md p.m :: E.rc :: blk ib (insC (insL p.m z)) 57 :: TM p (z.moved p.m)) (by (repeat (first | exact Takes.nil | exact Take.head | (refine Take.blkEq ?_; (focus (first | rfl | (simp; done) | (simp; omega) | omega | (simp [*]; done)))) | (refine Take.arrEq ?_ ?_; (focus (first | rfl | (simp; done) | (simp; omega) | omega | (simp [*]; done))); (focus (first | rfl | (simp; done) | (simp; omega) | omega | (simp [*]; done)))) | apply Take.tail | apply Takes.cons))) ?_
  have hpl : place (sz frC) z.cur.fo (z.cur.fr.length - 1) 0 = place (sz frC) (z.moved p.m).cur.fo ((z.moved p.m).cur.fr.length - 1) 0 := by rw [show (z.moved p.m).cur.fr.length = z.cur.fr.length from List.length_set]
  rw [hpl]
  have hstep := hz.step_two p.m h1
  rw [hstep]
  have hz1 := hz.moved p.m
  obtain ⟨i, hi⟩ : ∃ i, i = insL p.m z := ⟨_, rfl⟩
  obtain ⟨z1, hz1e⟩ : ∃ z1, z1 = z.moved p.m := ⟨_, rfl⟩
  rw [← hi, ← hz1e] at hc ha ⊢
  rw [← hz1e] at hz1
  rw [← hi] at hop
  obtain ⟨s1, s2⟩ := hc.load hop
  have hk := hz1.curOk
  obtain ⟨n, hn⟩ := Int.eq_ofNat_of_zero_le s1
  have hn' : i.a = (n : Int) := hn
  have hnn : i.a.toNat = n := by rw [hn']; rfl
  rw [hnn] at s2
  have g6 := hk.live
  have g7 := hk.hi
  have hfl : z1.cur.fr.length = z.cur.fr.length := by rw [hz1e]; exact List.length_set
  have w3 : IntKind.i64.wrap ((z1.f.base : Int) + i.a) = ((z1.f.base + n : Nat) : Int) := by rw [hn', wrap_i64_in (by omega)]; omega
  repeat (first | refine go (k := ?_) | (refine goB (k := ?_); intro b) | (refine goA (k := ?_); intro ao cap))
  apply Cod.draw 18 ([tkM p z1, ccM z1.cur, frM z1.cur, blk ib (insC i) 57]) (by kernel_rfl) 19 rfl
  refine RunT.takeR_ 0 (h := ?_)
  refine RunT.takeR_ 1 (h := ?_)
  refine RunT.takeR_ 2 (h := ?_)
  refine RunT.takeR_ 3 (h := ?_)
  refine RunT.takeR_ 4 (h := ?_)
  refine RunT.takeR_ 5 (h := ?_)
  refine RunT.takeR_ 6 (h := ?_)
  refine RunT.takeR_ 7 (h := ?_)
  refine RunT.takeR_ 8 (h := ?_)
  refine RunT.takeR_ 9 (h := ?_)
  refine RunT.takeR_ 10 (h := ?_)
  refine RunT.takeR_ 11 (h := ?_)
  refine RunT.takeR_ 12 (h := ?_)
  refine RunT.takeR_ 13 (h := ?_)
  refine RunT.takeR_ 14 (h := ?_)
  (refine RunT.one_ 15 (h := ?_); refine OpT.call0_ (spec := at_is z1.cur.sk (z1.f.base + n) (by omega) g7) (k := ?_); intro s hs; refine And.intro gud ?_; (try conv => rhs; simp only [List.cons_append, List.nil_append]))
  (refine RunT.one_ 16 (h := ?_); (first | refine OpT.val_ (k := ?_) | (refine OpT.alloc_ (k := ?_); intro b) | (refine OpT.box_ (k := ?_); intro b) | refine OpT.store_ (k := ?_) | (refine OpT.buildSlice_ (k := ?_); intro b) | (refine OpT.buildSlice0_ (k := ?_); intro b) | (refine OpT.append1_ (k := ?_); intro ao cap) | (refine OpT.cutA0_ (k := ?_); intro ao cap) | (refine OpT.cutR0_ (k := ?_); intro ao cap) | (refine OpT.cutA1_ (k := ?_); intro ao cap) | (refine OpT.cutA_ (k := ?_); intro ao cap) | (refine OpT.cutR_ (k := ?_); intro ao cap)); refine And.intro gud ?_)
  (refine RunT.one_ 17 (h := ?_); (first | refine OpT.val_ (k := ?_) | (refine OpT.alloc_ (k := ?_); intro b) | (refine OpT.box_ (k := ?_); intro b) | refine OpT.store_ (k := ?_) | (refine OpT.buildSlice_ (k := ?_); intro b) | (refine OpT.buildSlice0_ (k := ?_); intro b) | (refine OpT.append1_ (k := ?_); intro ao cap) | (refine OpT.cutA0_ (k := ?_); intro ao cap) | (refine OpT.cutR0_ (k := ?_); intro ao cap) | (refine OpT.cutA1_ (k := ?_); intro ao cap) | (refine OpT.cutA_ (k := ?_); intro ao cap) | (refine OpT.cutR_ (k := ?_); intro ao cap)); refine And.intro gud ?_)
  have hv : z1.cur.sk.l.getD (z1.f.base + n) default = z1.cur.sk.ws.getD (z1.f.base + n) 0 := by
    rw [List.getD_eq_getElem?_getD, List.getD_eq_getElem?_getD, List.getElem?_take, if_pos (by omega)]; rfl
  rw [hv]
  (refine RunT.one_ 18 (h := ?_); refine OpT.call0_ (spec := push_is' E (z1.F p) z1.st z1.tr z1.e (hc.okk hz1) (z1.cur.st : Int) (ptrO z1.cur.upb) (.slice z1.cur.fo z1.cur.fr.length z1.cur.fc) z1.cur.sk hz1.curOk (z1.cur.sk.ws.getD (z1.f.base + n) 0)) (r := fun w => Reads.any (by (repeat (first | exact Take.head | apply Take.tail))) E.rexcl .nil) (k := ?_); intro s hs; refine And.intro gud ?_; (try conv => rhs; simp only [List.cons_append, List.nil_append]))
  (apply RunT.done; kernel_rfl)
  obtain ⟨q, rfl⟩ : ∃ x, x = s := ⟨_, rfl⟩
  obtain ⟨t1, t2⟩ := pushed hz1 hs
  have t3 : (z1.put q).two = Vm.exec E.V p.m.mdl i z1.two := by
    rw [t2]
    unfold Vm.exec; simp only [hop, hnn]
    show _ = Vm.push E.V ((Vm.cur z1.tk).ws.getD ((Vm.topF (Vm.cur z1.tk)).base + n) 0) z1.two
    rw [hz1.topF, hz1.cur]
    rfl
  repeat (first | refine go (k := ?_) | (refine goB (k := ?_); intro b) | (refine goA (k := ?_); intro ao cap))
  ((first | (apply Run.op; exact rfl) | refine Run.yes_ (h := ?_)); refine OpT.call0_ (spec := look_is p (z1.put q) t1 (ha (z1.put q) t1 t3)) (r := fun w => Reads.md (by (repeat (first | exact Take.head | apply Take.tail))) (Reads.any (by (repeat (first | exact Take.head | apply Take.tail))) E.rexcl .nil)) (k := ?_); intro s hs; (try conv => rhs; simp only [List.cons_append, List.nil_append]))
  repeat (first | refine go (k := ?_) | (refine goB (k := ?_); intro b) | (refine goA (k := ?_); intro ao cap))
  (refine End.done1_ ((SL.look (z1.put q) p.m)) (he := by (first | exact rfl | (refine congrArg (Value.int _) ?_; omega) | (refine congrArg (Value.int _) ?_; dsimp only; omega))) (hp := ?_))
  exact ⟨t1.look p.m, (t1.look_two p.m).trans (by rw [t3])⟩
set_option maxRecDepth 100000 in
set_option maxHeartbeats 2000000 in
theorem step10_is (p : Pl) (z : SL E) (hz : z.Wf) (hs : Stands p.m z) (h1 : (z.look p.m).st = 1) (hpc : z.f.pc ≤ 100000) (hc : CanS p.m (z.moved p.m) (insL p.m z)) (ha : After p.m (z.moved p.m) (insL p.m z)) (hop : (insL p.m z).op = 4) :
    Fn Try.prog 28 #[ptr p.tb] [md p.m, E.rc] (TM p z) (σ := SL E) (Gives z (Vm.step E.V p.m.mdl z.two).2) (fun _ => .bool (Vm.step E.V p.m.mdl z.two).1) (fun z' => TM p z') := by
  obtain ⟨g1, g2, g3, g4, g5⟩ := id hs
  have hl : 0 < z.cur.fr.length := List.length_pos_iff.2 g1
  have w1 : IntKind.i64.wrap ((z.cur.fr.length : Int) - 1) = ((z.cur.fr.length - 1 : Nat) : Int) := by rw [wrap_i64_in (by omega)]; omega
  have w2 : IntKind.i64.wrap ((z.f.pc : Int) + 1) = ((z.f.pc + 1 : Nat) : Int) := by rw [wrap_i64_in (by omega)]; omega
  refine Fn.enter (args := [ptr p.tb]) Try.func28 rfl _ Try.ntmps28 rfl (by simp [rd_excl, md_excl]) (fun w S => ?_)
  (try conv => rhs; simp only [List.cons_append, List.nil_append])
  repeat (first | refine go (k := ?_) | (refine goB (k := ?_); intro b) | (refine goA (k := ?_); intro ao cap))
  ((first | (apply Run.op; exact rfl) | refine Run.yes_ (h := ?_)); refine OpT.call0_ (spec := look_is p z hz (fun _ => hs)) (r := fun w => Reads.md (by (repeat (first | exact Take.head | apply Take.tail))) (Reads.any (by (repeat (first | exact Take.head | apply Take.tail))) E.rexcl .nil)) (k := ?_); intro s hs; (try conv => rhs; simp only [List.cons_append, List.nil_append]))
  repeat (first | refine go (k := ?_) | (refine goB (k := ?_); intro b) | (refine goA (k := ?_); intro ao cap))
  apply Cod.draw 21 ([tkM p (z.look p.m), moM p, frM z.cur, md p.m]) (by kernel_rfl) 22 rfl
  refine RunT.takeR_ 0 (h := ?_)
  refine RunT.takeR_ 1 (h := ?_)
  refine RunT.takeR_ 2 (h := ?_)
  refine RunT.takeR_ 3 (h := ?_)
  refine RunT.takeR_ 4 (h := ?_)
  refine RunT.takeR_ 5 (h := ?_)
  refine RunT.takeR_ 6 (h := ?_)
  refine RunT.takeR_ 7 (h := ?_)
  refine RunT.takeR_ 8 (h := ?_)
  refine RunT.takeR_ 9 (h := ?_)
  refine RunT.takeR_ 10 (h := ?_)
  refine RunT.takeR_ 11 (h := ?_)
  refine RunT.takeR_ 12 (h := ?_)
  refine RunT.takeR_ 13 (h := ?_)
  refine RunT.takeR_ 14 (h := ?_)
  refine RunT.takeR_ 15 (h := ?_)
  refine RunT.takeR_ 16 (h := ?_)
  refine RunT.takeR_ 17 (h := ?_)
  refine RunT.takeR_ 18 (h := ?_)
  refine RunT.takeR_ 19 (h := ?_)
  (refine RunT.one_ 20 (h := ?_); (first | refine OpT.val_ (k := ?_) | (refine OpT.alloc_ (k := ?_); intro b) | (refine OpT.box_ (k := ?_); intro b) | refine OpT.store_ (k := ?_) | (refine OpT.buildSlice_ (k := ?_); intro b) | (refine OpT.buildSlice0_ (k := ?_); intro b) | (refine OpT.append1_ (k := ?_); intro ao cap) | (refine OpT.cutA0_ (k := ?_); intro ao cap) | (refine OpT.cutR0_ (k := ?_); intro ao cap) | (refine OpT.cutA1_ (k := ?_); intro ao cap) | (refine OpT.cutA_ (k := ?_); intro ao cap) | (refine OpT.cutR_ (k := ?_); intro ao cap)); refine And.intro gud ?_)
  (refine RunT.one_ 21 (h := ?_); (first | refine OpT.val_ (k := ?_) | (refine OpT.alloc_ (k := ?_); intro b) | (refine OpT.box_ (k := ?_); intro b) | refine OpT.store_ (k := ?_) | (refine OpT.buildSlice_ (k := ?_); intro b) | (refine OpT.buildSlice0_ (k := ?_); intro b) | (refine OpT.append1_ (k := ?_); intro ao cap) | (refine OpT.cutA0_ (k := ?_); intro ao cap) | (refine OpT.cutR0_ (k := ?_); intro ao cap) | (refine OpT.cutA1_ (k := ?_); intro ao cap) | (refine OpT.cutA_ (k := ?_); intro ao cap) | (refine OpT.cutR_ (k := ?_); intro ao cap)); refine And.intro gud ?_)
  (apply RunT.done; kernel_rfl)
  repeat (first | refine go (k := ?_) | (refine goB (k := ?_); intro b) | (refine goA (k := ?_); intro ao cap))
  (apply Run.op; exact rfl; refine OpT.storeE_ (f := frC) (l := z.cur.fr) (i := z.cur.fr.length - 1) (off := 1) (vs := [.int .i64 ((z.f.pc + 1 : Nat) : Int)]) (a' := (⟨z.f.unit, z.f.pc + 1, z.f.base⟩ : Vm.Fr)) (k := ?_))
  apply Run.nil
  apply End.seqN
  obtain ⟨ib, rfl⟩ : ∃ x, x = b := ⟨_, rfl⟩
  refine Cod.sub [(0, ptr p.tb), (2, .bool false), (3, .pointer (place (sz frC) z.cur.fo (z.cur.fr.length - 1) 0)), (4, ptr ib)] (by (repeat (first | exact Sub.nil | (apply Sub.cons; (focus (exact rfl))) | (apply Sub.cons'; (focus (exact rfl)); (focus (first | exact rfl | (refine congrArg (Value.int _) ?_; omega) | (refine congrArg (Value.int _) ?_; dsimp only; omega))))))) ?_
  have hln : z.cur.fr.length = (z.cur.fr.set (z.cur.fr.length - 1) (⟨z.f.unit, z.f.pc + 1, z.f.base⟩ : Vm.Fr)).length := by rw [List.length_set]
  refine Cod.only (old w S :: md p.m :: E.rc :: blk ib (insC (insL p.m z)) 57 :: TM p (z.moved p.m)) (by (repeat (first | exact Takes.nil | exact Take.head | (refine Take.blkEq ?_; (focus (first | rfl | (simp; done) | (simp; omega) | omega | (simp [*]; done)))) | (refine Take.arrEq ?_ ?_; (focus (first | rfl | (simp; done) | (simp; omega) | omega | (simp [*]; done))); (focus (first | rfl | (simp; done) | (simp; omega) | omega | (simp [*]; done)))) | apply Take.tail | apply Takes.cons))) ?_
  have hpl : place (sz frC) z.cur.fo (z.cur.fr.length - 1) 0 = place (sz frC) (z.moved p.m).cur.fo ((z.moved p.m).cur.fr.length - 1) 0 := by rw [show (z.moved p.m).cur.fr.length = z.cur.fr.length from List.length_set]
  rw [hpl]
  have hstep := hz.step_two p.m h1
  rw [hstep]
  have hz1 := hz.moved p.m
  obtain ⟨i, hi⟩ : ∃ i, i = insL p.m z := ⟨_, rfl⟩
  obtain ⟨z1, hz1e⟩ : ∃ z1, z1 = z.moved p.m := ⟨_, rfl⟩
  rw [← hi, ← hz1e] at hc ha ⊢
  rw [← hz1e] at hz1
  rw [← hi] at hop
  have c1 := hc.some (by omega)
  obtain ⟨s1, s2⟩ := hc.store hop
  obtain ⟨n, hn⟩ := Int.eq_ofNat_of_zero_le s1
  have hn' : i.a = (n : Int) := hn
  have hnn : i.a.toNat = n := by rw [hn']; rfl
  rw [hnn] at s2
  have hfl : z1.cur.fr.length = z.cur.fr.length := by rw [hz1e]; exact List.length_set
  have g6 := hz1.curOk.live
  have g7 := hz1.curOk.hi
  have w3 : IntKind.i64.wrap ((z1.f.base : Int) + i.a) = ((z1.f.base + n : Nat) : Int) := by rw [hn', wrap_i64_in (by omega)]; omega
  repeat (first | refine go (k := ?_) | (refine goB (k := ?_); intro b) | (refine goA (k := ?_); intro ao cap))
  (apply Run.op; exact rfl; refine OpT.call0_ (spec := pop_is' (z1.F p) z1.st z1.tr (z1.cur.st : Int) (ptrO z1.cur.upb) (.slice z1.cur.fo z1.cur.fr.length z1.cur.fc) E.mailV (toldV E.told) z1.cur.sk hz1.curOk c1) (k := ?_); intro s hs; (try conv => rhs; simp only [List.cons_append, List.nil_append]))
  obtain ⟨k1, rfl⟩ : ∃ x, x = s := ⟨_, rfl⟩
  have ht := hs
  obtain ⟨p1, p2⟩ := popped hz1 hs
  have hlv : k1.live = z1.cur.sk.live - 1 := by have h := ht.live; have h2 := Sk.len hz1.curOk; rw [List.length_take] at h; omega
  have g8 : k1.live ≤ k1.l.length := p1.curOk.live
  have g9 : k1.l.length ≤ 400 := p1.curOk.hi
  have g10 : 8 ≤ k1.l.length := p1.curOk.lo
  repeat (first | refine go (k := ?_) | (refine goB (k := ?_); intro b) | (refine goA (k := ?_); intro ao cap))
  apply Cod.draw 17 ([tkM p (z1.sk k1), ccM (z1.sk k1).cur, frM z1.cur, blk ib (insC i) 57]) (by kernel_rfl) 18 rfl
  refine RunT.takeR_ 0 (h := ?_)
  refine RunT.takeR_ 1 (h := ?_)
  refine RunT.takeR_ 2 (h := ?_)
  refine RunT.takeR_ 3 (h := ?_)
  refine RunT.takeR_ 4 (h := ?_)
  refine RunT.takeR_ 5 (h := ?_)
  refine RunT.takeR_ 6 (h := ?_)
  refine RunT.takeR_ 7 (h := ?_)
  refine RunT.takeR_ 8 (h := ?_)
  refine RunT.takeR_ 9 (h := ?_)
  refine RunT.takeR_ 10 (h := ?_)
  refine RunT.takeR_ 11 (h := ?_)
  refine RunT.takeR_ 12 (h := ?_)
  refine RunT.takeR_ 13 (h := ?_)
  refine RunT.takeR_ 15 (h := ?_)
  (refine RunT.one_ 14 (h := ?_); refine OpT.call0_ (spec := at_is k1 (z1.f.base + n) (by omega) g9) (k := ?_); intro s hs; refine And.intro gud ?_; (try conv => rhs; simp only [List.cons_append, List.nil_append]))
  (refine RunT.one_ 16 (h := ?_); (first | refine OpT.val_ (k := ?_) | (refine OpT.alloc_ (k := ?_); intro b) | (refine OpT.box_ (k := ?_); intro b) | refine OpT.store_ (k := ?_) | (refine OpT.buildSlice_ (k := ?_); intro b) | (refine OpT.buildSlice0_ (k := ?_); intro b) | (refine OpT.append1_ (k := ?_); intro ao cap) | (refine OpT.cutA0_ (k := ?_); intro ao cap) | (refine OpT.cutR0_ (k := ?_); intro ao cap) | (refine OpT.cutA1_ (k := ?_); intro ao cap) | (refine OpT.cutA_ (k := ?_); intro ao cap) | (refine OpT.cutR_ (k := ?_); intro ao cap)); refine And.intro gud ?_)
  (refine RunT.one_ 17 (h := ?_); refine OpT.storeE_ (f := i64c) (l := k1.l) (i := z1.f.base + n) (off := 0) (vs := [.int .i64 (z1.top 1)]) (a' := z1.top 1) (k := ?_); refine And.intro gud ?_)
  (apply RunT.done; kernel_rfl)
  have hsl : (k1.l.set (z1.f.base + n) (z1.top 1)).length = k1.l.length := List.length_set
  obtain ⟨k2, hk2e⟩ : ∃ k2 : Sk, k2 = ⟨k1.sb, k1.lb, k1.l.set (z1.f.base + n) (z1.top 1), k1.live⟩ := ⟨_, rfl⟩
  have hk2 : k2.Ok := by rw [hk2e]; exact ⟨by rw [hsl]; exact g8, by rw [hsl]; exact g10, by rw [hsl]; exact g9⟩
  have q1 : k1.sb = k2.sb := by rw [hk2e]
  have q2 : skC k1 = skC k2 := by rw [hk2e]; simp
  have q3 : arr (some ⟨k1.lb, 0, none⟩) k1.l.length k1.l.length 2 i64c (k1.l.set (z1.f.base + n) (z1.top 1)) = arr (some ⟨k2.lb, 0, none⟩) k2.l.length k2.l.length 2 i64c k2.l := by rw [hk2e]; simp
  rw [q2, q3, q1]
  have t1 : ((z1.sk k1).sk k2).Wf := p1.setCur rfl rfl rfl hk2
  have t3 : ((z1.sk k1).sk k2).two = Vm.exec E.V p.m.mdl i z1.two := by
    have hla' : Vm.last z1.two.1 = z1.top 1 := hz1.last
    unfold Vm.exec; simp only [hop, hla', hnn]
    refine Prod.ext ?_ rfl
    show SL.tk _ = Vm.setCur (Vm.drop 1 z1.tk) { Vm.cur (Vm.drop 1 z1.tk) with ws := (Vm.cur (Vm.drop 1 z1.tk)).ws.set ((Vm.topF (Vm.cur (Vm.drop 1 z1.tk))).base + n) (z1.top 1) }
    rw [← p2, p1.topF, p1.cur, SL.tk_cur, hk2e]
    congr 1
    show (⟨_, _, _, (k1.l.set (z1.f.base + n) (z1.top 1)).take k1.live⟩ : Vm.Co) = ⟨_, _, _, (k1.l.take k1.live).set (z1.f.base + n) (z1.top 1)⟩
    rw [List.take_set]
    rfl
  repeat (first | refine go (k := ?_) | (refine goB (k := ?_); intro b) | (refine goA (k := ?_); intro ao cap))
  ((first | (apply Run.op; exact rfl) | refine Run.yes_ (h := ?_)); refine OpT.call0_ (spec := look_is p ((z1.sk k1).sk k2) t1 (ha ((z1.sk k1).sk k2) t1 t3)) (r := fun w => Reads.md (by (repeat (first | exact Take.head | apply Take.tail))) (Reads.any (by (repeat (first | exact Take.head | apply Take.tail))) E.rexcl .nil)) (k := ?_); intro s hs; (try conv => rhs; simp only [List.cons_append, List.nil_append]))
  repeat (first | refine go (k := ?_) | (refine goB (k := ?_); intro b) | (refine goA (k := ?_); intro ao cap))
  (refine End.done1_ ((SL.look ((z1.sk k1).sk k2) p.m)) (he := by (first | exact rfl | (refine congrArg (Value.int _) ?_; omega) | (refine congrArg (Value.int _) ?_; dsimp only; omega))) (hp := ?_))
  exact ⟨t1.look p.m, (t1.look_two p.m).trans (by rw [t3])⟩
set_option maxRecDepth 100000 in
set_option maxHeartbeats 2000000 in
theorem step11_is (p : Pl) (z : SL E) (hz : z.Wf) (hs : Stands p.m z) (h1 : (z.look p.m).st = 1) (hpc : z.f.pc ≤ 100000) (hc : CanS p.m (z.moved p.m) (insL p.m z)) (ha : After p.m (z.moved p.m) (insL p.m z)) (hop : (insL p.m z).op = 23 ∨ (insL p.m z).op = 24 ∨ (insL p.m z).op = 25 ∨ (29 ≤ (insL p.m z).op ∧ (insL p.m z).op ≤ 32)) :
    Fn Try.prog 28 #[ptr p.tb] [md p.m, E.rc] (TM p z) (σ := SL E) (Gives z (Vm.step E.V p.m.mdl z.two).2) (fun _ => .bool (Vm.step E.V p.m.mdl z.two).1) (fun z' => TM p z') := by
  obtain ⟨g1, g2, g3, g4, g5⟩ := id hs
  have hl : 0 < z.cur.fr.length := List.length_pos_iff.2 g1
  have w1 : IntKind.i64.wrap ((z.cur.fr.length : Int) - 1) = ((z.cur.fr.length - 1 : Nat) : Int) := by rw [wrap_i64_in (by omega)]; omega
  have w2 : IntKind.i64.wrap ((z.f.pc : Int) + 1) = ((z.f.pc + 1 : Nat) : Int) := by rw [wrap_i64_in (by omega)]; omega
  refine Fn.enter (args := [ptr p.tb]) Try.func28 rfl _ Try.ntmps28 rfl (by simp [rd_excl, md_excl]) (fun w S => ?_)
  (try conv => rhs; simp only [List.cons_append, List.nil_append])
  repeat (first | refine go (k := ?_) | (refine goB (k := ?_); intro b) | (refine goA (k := ?_); intro ao cap))
  ((first | (apply Run.op; exact rfl) | refine Run.yes_ (h := ?_)); refine OpT.call0_ (spec := look_is p z hz (fun _ => hs)) (r := fun w => Reads.md (by (repeat (first | exact Take.head | apply Take.tail))) (Reads.any (by (repeat (first | exact Take.head | apply Take.tail))) E.rexcl .nil)) (k := ?_); intro s hs; (try conv => rhs; simp only [List.cons_append, List.nil_append]))
  repeat (first | refine go (k := ?_) | (refine goB (k := ?_); intro b) | (refine goA (k := ?_); intro ao cap))
  apply Cod.draw 21 ([tkM p (z.look p.m), moM p, frM z.cur, md p.m]) (by kernel_rfl) 22 rfl
  refine RunT.takeR_ 0 (h := ?_)
  refine RunT.takeR_ 1 (h := ?_)
  refine RunT.takeR_ 2 (h := ?_)
  refine RunT.takeR_ 3 (h := ?_)
  refine RunT.takeR_ 4 (h := ?_)
  refine RunT.takeR_ 5 (h := ?_)
  refine RunT.takeR_ 6 (h := ?_)
  refine RunT.takeR_ 7 (h := ?_)
  refine RunT.takeR_ 8 (h := ?_)
  refine RunT.takeR_ 9 (h := ?_)
  refine RunT.takeR_ 10 (h := ?_)
  refine RunT.takeR_ 11 (h := ?_)
  refine RunT.takeR_ 12 (h := ?_)
  refine RunT.takeR_ 13 (h := ?_)
  refine RunT.takeR_ 14 (h := ?_)
  refine RunT.takeR_ 15 (h := ?_)
  refine RunT.takeR_ 16 (h := ?_)
  refine RunT.takeR_ 17 (h := ?_)
  refine RunT.takeR_ 18 (h := ?_)
  refine RunT.takeR_ 19 (h := ?_)
  (refine RunT.one_ 20 (h := ?_); (first | refine OpT.val_ (k := ?_) | (refine OpT.alloc_ (k := ?_); intro b) | (refine OpT.box_ (k := ?_); intro b) | refine OpT.store_ (k := ?_) | (refine OpT.buildSlice_ (k := ?_); intro b) | (refine OpT.buildSlice0_ (k := ?_); intro b) | (refine OpT.append1_ (k := ?_); intro ao cap) | (refine OpT.cutA0_ (k := ?_); intro ao cap) | (refine OpT.cutR0_ (k := ?_); intro ao cap) | (refine OpT.cutA1_ (k := ?_); intro ao cap) | (refine OpT.cutA_ (k := ?_); intro ao cap) | (refine OpT.cutR_ (k := ?_); intro ao cap)); refine And.intro gud ?_)
  (refine RunT.one_ 21 (h := ?_); (first | refine OpT.val_ (k := ?_) | (refine OpT.alloc_ (k := ?_); intro b) | (refine OpT.box_ (k := ?_); intro b) | refine OpT.store_ (k := ?_) | (refine OpT.buildSlice_ (k := ?_); intro b) | (refine OpT.buildSlice0_ (k := ?_); intro b) | (refine OpT.append1_ (k := ?_); intro ao cap) | (refine OpT.cutA0_ (k := ?_); intro ao cap) | (refine OpT.cutR0_ (k := ?_); intro ao cap) | (refine OpT.cutA1_ (k := ?_); intro ao cap) | (refine OpT.cutA_ (k := ?_); intro ao cap) | (refine OpT.cutR_ (k := ?_); intro ao cap)); refine And.intro gud ?_)
  (apply RunT.done; kernel_rfl)
  repeat (first | refine go (k := ?_) | (refine goB (k := ?_); intro b) | (refine goA (k := ?_); intro ao cap))
  (apply Run.op; exact rfl; refine OpT.storeE_ (f := frC) (l := z.cur.fr) (i := z.cur.fr.length - 1) (off := 1) (vs := [.int .i64 ((z.f.pc + 1 : Nat) : Int)]) (a' := (⟨z.f.unit, z.f.pc + 1, z.f.base⟩ : Vm.Fr)) (k := ?_))
  apply Run.nil
  apply End.seqN
  obtain ⟨ib, rfl⟩ : ∃ x, x = b := ⟨_, rfl⟩
  refine Cod.sub [(0, ptr p.tb), (2, .bool false), (3, .pointer (place (sz frC) z.cur.fo (z.cur.fr.length - 1) 0)), (4, ptr ib)] (by (repeat (first | exact Sub.nil | (apply Sub.cons; (focus (exact rfl))) | (apply Sub.cons'; (focus (exact rfl)); (focus (first | exact rfl | (refine congrArg (Value.int _) ?_; omega) | (refine congrArg (Value.int _) ?_; dsimp only; omega))))))) ?_
  have hln : z.cur.fr.length = (z.cur.fr.set (z.cur.fr.length - 1) (⟨z.f.unit, z.f.pc + 1, z.f.base⟩ : Vm.Fr)).length := by rw [List.length_set]
  refine Cod.only (old w S :: md p.m :: E.rc :: blk ib (insC (insL p.m z)) 57 :: TM p (z.moved p.m)) (by (repeat (first | exact Takes.nil | exact Take.head | (refine Take.blkEq ?_; (focus (first | rfl | (simp; done) | (simp; omega) | omega | (simp [*]; done)))) | (refine Take.arrEq ?_ ?_; (focus (first | rfl | (simp; done) | (simp; omega) | omega | (simp [*]; done))); (focus (first | rfl | (simp; done) | (simp; omega) | omega | (simp [*]; done)))) | apply Take.tail | apply Takes.cons))) ?_
  have hpl : place (sz frC) z.cur.fo (z.cur.fr.length - 1) 0 = place (sz frC) (z.moved p.m).cur.fo ((z.moved p.m).cur.fr.length - 1) 0 := by rw [show (z.moved p.m).cur.fr.length = z.cur.fr.length from List.length_set]
  rw [hpl]
  have hstep := hz.step_two p.m h1
  rw [hstep]
  have hz1 := hz.moved p.m
  obtain ⟨i, hi⟩ : ∃ i, i = insL p.m z := ⟨_, rfl⟩
  obtain ⟨z1, hz1e⟩ : ∃ z1, z1 = z.moved p.m := ⟨_, rfl⟩
  rw [← hi, ← hz1e] at hc ha ⊢
  rw [← hz1e] at hz1
  rw [← hi] at hop
  by_cases h20 : i.op ≤ 20
  · omega
  repeat (first | refine go (k := ?_) | (refine goB (k := ?_); intro b) | (refine goA (k := ?_); intro ao cap))
  ((first | (apply Run.op; exact rfl) | refine Run.yes_ (h := ?_)); refine OpT.call0_ (spec := units_is p z1 hz1 i hc.units hop) (r := fun w => Reads.md (by (repeat (first | exact Take.head | apply Take.tail))) (Reads.any (by (repeat (first | exact Take.head | apply Take.tail))) E.rexcl .nil)) (k := ?_); intro s hs; (try conv => rhs; simp only [List.cons_append, List.nil_append]))
  obtain ⟨z2, rfl⟩ : ∃ x, x = s := ⟨_, rfl⟩
  have t1 := hs.wf
  have t3 := hs.two
  repeat (first | refine go (k := ?_) | (refine goB (k := ?_); intro b) | (refine goA (k := ?_); intro ao cap))
  ((first | (apply Run.op; exact rfl) | refine Run.yes_ (h := ?_)); refine OpT.call0_ (spec := look_is p (z2) t1 (ha (z2) t1 t3)) (r := fun w => Reads.md (by (repeat (first | exact Take.head | apply Take.tail))) (Reads.any (by (repeat (first | exact Take.head | apply Take.tail))) E.rexcl .nil)) (k := ?_); intro s hs; (try conv => rhs; simp only [List.cons_append, List.nil_append]))
  repeat (first | refine go (k := ?_) | (refine goB (k := ?_); intro b) | (refine goA (k := ?_); intro ao cap))
  (refine End.done1_ ((SL.look (z2) p.m)) (he := by (first | exact rfl | (refine congrArg (Value.int _) ?_; omega) | (refine congrArg (Value.int _) ?_; dsimp only; omega))) (hp := ?_))
  exact ⟨t1.look p.m, (t1.look_two p.m).trans (by rw [t3])⟩
end Go.Proofs.Ytfeajpghabjaaaa.Vw

/- What must be known that a step can be walked comes of a right module's invariant. -/
namespace Go.Proofs.Ytfeajpghabjaaaa.Vw
open Go.RowKit Go.Proofs.Ytfeajpghabjaaaa.Img
set_option linter.unusedVariables false
set_option linter.unusedSimpArgs false
section
variable {E : EnvM} {z : SL E} {m : ML} {T : Nat → Int → Option Ver.Shape} {ch : List Nat}
theorem mdl_len (m : ML) : m.mdl.units.length = m.us.length := List.length_map _
theorem unt_uat (m : ML) (k : Nat) : Vm.unt m.mdl k = (m.us.getD k default).u := m.unit_at k
theorem fr_snoc {l fs0 : List Vm.Fr} {f : Vm.Fr} (h : l = fs0 ++ [f]) : l ≠ [] := by rw [h]; simp
theorem stands_of (hC : Vm.Certs m.mdl T) (hz : z.Wf) (hok : Vm.Ok m.mdl T z.tk ch) (hb : E.boxes = m.bx.length) : Stands m z := by
  obtain ⟨fs0, ws0, q, p, st, hh, loc, op, a⟩ := hok.at_
  obtain ⟨st', h', hr⟩ := a.here hC
  have hfr : z.cur.fr = fs0 ++ [⟨q, p, ws0.length⟩] := by have := a.fr; rw [hz.cur] at this; exact this
  have hf : z.f = ⟨q, p, ws0.length⟩ := hz.topF.symm.trans a.top
  have hln := (hok.lens _ hok.nowlt).2
  rw [← Vm.cur_co, hz.cur] at hln
  have hq : q < m.us.length := by rw [← mdl_len]; exact a.hq
  have hi : Vm.insT m.mdl z.tk = insL m z := hz.ins m
  refine ⟨fr_snoc hfr, hln, by rw [hf]; exact hq, ?_, fun h => ?_⟩
  · rw [hf, ← unt_uat]; exact hr.lt
  · rw [← hi] at h ⊢
    have := hr.ok.box h
    have e : (m.mdl.boxes.length : Int) = (m.bx.length : Int) := rfl
    omega
/-- a unit that is called or started, known by its number -/
theorem canU_of {q : Int} {k : Int} (hC : Vm.Certs m.mdl T) (h : Ver.isUnit m.mdl q k = true) : 0 ≤ q ∧ q.toNat < m.us.length ∧ 0 ≤ (m.us.getD q.toNat default).u.params ∧ (m.us.getD q.toNat default).u.params.toNat ≤ (m.us.getD q.toNat default).u.locals.length ∧ (m.us.getD q.toNat default).u.locals.length ≤ 200 := by
  unfold Ver.isUnit at h
  simp only [Bool.and_eq_true, decide_eq_true_eq] at h
  obtain ⟨⟨h1, h2⟩, -⟩ := h
  rw [mdl_len] at h2
  have hlt : q.toNat < m.us.length := by omega
  have hh := Vm.unt_head hC (k := q.toNat) (by rw [mdl_len]; exact hlt)
  have hf := Vm.head_facts hh
  rw [unt_uat] at hh hf
  have hp : 0 ≤ (m.us.getD q.toNat default).u.params := by
    unfold Ver.head at hh
    split at hh
    · cases hh
    split at hh
    · cases hh
    omega
  exact ⟨h1, hlt, hp, hf.1, hf.2.1⟩
theorem snoc1 {a b c : List Int} {v : Int} {n : Nat} (hn : (a ++ (b ++ (c ++ [v]))).length = n) : (a ++ (b ++ (c ++ [v]))).getD (n - 1) 0 = v := by
  subst hn
  have e : a ++ (b ++ (c ++ [v])) = (a ++ (b ++ c)) ++ [v] := by simp
  rw [e]
  exact Vm.snoc_getZ _ _
theorem snoc2 {a b c : List Int} {x y : Int} {n : Nat} (hn : (a ++ (b ++ (c ++ [x, y]))).length = n) : (a ++ (b ++ (c ++ [x, y]))).getD (n - 2) 0 = x := by
  subst hn
  have e : a ++ (b ++ (c ++ [x, y])) = (a ++ (b ++ c)) ++ [x, y] := by simp
  rw [e, List.getD_eq_getElem?_getD, List.getElem?_append_right (by simp; omega)]
  have e2 : (a ++ (b ++ c) ++ [x, y]).length - 2 - (a ++ (b ++ c)).length = 0 := by simp only [List.length_append, List.length_cons, List.length_nil]; omega
  rw [e2]
  rfl
theorem canS_of (hC : Vm.Certs m.mdl T) (hz : z.Wf) (hok : Vm.Ok m.mdl T z.tk ch) (hb : E.boxes = m.bx.length) (ho : z.out.length ≤ 1000000) (hsz : E.size (E.abs z.e) ≤ 1000000)
    (hw : ((insL m z).op = 26 → E.V.full (E.abs z.e) (insL m z).a.toNat = false) ∧ ((insL m z).op = 27 → E.V.empty (E.abs z.e) (insL m z).a.toNat = false)) : CanS m (z.moved m) (insL m z) ∧ z.f.pc ≤ 100000 := by
  obtain ⟨fs0, ws0, q, p, st, hh, loc, op, a⟩ := hok.at_
  obtain ⟨st', h', hr⟩ := a.here hC
  have hn := hok.nowlt
  have hfr : z.cur.fr = fs0 ++ [⟨q, p, ws0.length⟩] := by have := a.fr; rw [hz.cur] at this; exact this
  have hws : z.cur.sk.ws = ws0 ++ (loc ++ op) := by have := a.ws; rw [hz.cur] at this; exact this
  have hf : z.f = ⟨q, p, ws0.length⟩ := hz.topF.symm.trans a.top
  have hf1 : (z.moved m).f = ⟨q, p + 1, ws0.length⟩ := by
    show (z.cur.fr.set (z.cur.fr.length - 1) _).getD ((z.cur.fr.set (z.cur.fr.length - 1) _).length - 1) default = _
    rw [hf, hfr, Vm.snoc_set]
    exact Vm.snoc_get _ _
  have hln := (hok.lens _ hn).2
  rw [← Vm.cur_co, hz.cur] at hln
  have hln : z.cur.fr.length ≤ 40 := hln
  have hi : Vm.insT m.mdl z.tk = insL m z := hz.ins m
  rw [hi] at hr
  generalize insL m z = i at *
  have hlive : ws0.length + (loc.length + op.length) = z.cur.sk.live := by
    have := Sk.len hz.curOk
    rw [hws] at this
    simpa using this
  have hll := a.loc.len
  have hol := a.op.len
  have hio := hr.ok
  have hfl : (z.moved m).cur.fr.length = z.cur.fr.length := List.length_set
  have hne : (z.moved m).cur.fr ≠ [] := by
    intro h
    have h2 : (z.moved m).cur.fr.length = 0 := by rw [h]; rfl
    rw [hfl, hfr] at h2
    simp at h2
  have hcs : z.tk.cs.length = z.oth.length := by show (z.all.map CoL.abs).length = _; rw [List.length_map, z.allLen]
  have hsn : z.tk.now = z.now := rfl
  have hk1 : (z.moved m).top 1 = (ws0 ++ (loc ++ op)).getD (z.cur.sk.live - 1) 0 := by show z.cur.sk.ws.getD _ _ = _; rw [hws]
  have hk2 : (z.moved m).top 2 = (ws0 ++ (loc ++ op)).getD (z.cur.sk.live - 2) 0 := by show z.cur.sk.ws.getD _ _ = _; rw [hws]
  have hlen : (ws0 ++ (loc ++ op)).length = z.cur.sk.live := by simpa using hlive
  have hchain := hok.chain 0 z.now hok.now
  have hcur0 : Vm.co z.tk z.now = z.cur.abs := by rw [← hz.cur]; rfl
  rw [hcur0] at hchain
  have hup : z.cur.up = ch[1]? := hchain
  refine ⟨⟨fun h => ?_, fun h => ?_, fun h => ?_, fun h => ?_, fun h => (hio.jump h).1, fun h => ?_, fun h => ?_, hsz, fun _ => ho, ⟨fun h => ?_, fun h => ?_, fun h => ?_, fun h => ?_, fun h => ?_, hsz, fun h => ?_⟩, hio.op, hr.in64.2⟩, ?_⟩
  · show 0 < z.cur.sk.live
    have : 0 < op.length := by
      rw [← hol]
      cases hr.does with
      | _ => first | (exfalso; omega) | (simp; done)
    omega
  · show 2 ≤ z.cur.sk.live ∧ _ ∧ _
    have hk : ∃ s1 t1 t2, st = s1 ++ [t1, t2] := by
      cases hr.does with
      | arith s1 _ _ => exact ⟨s1, 1, 1, rfl⟩
      | eq s1 _ ty _ _ => exact ⟨s1, ty, ty, rfl⟩
      | cmp s1 _ _ => exact ⟨s1, 1, 1, rfl⟩
      | logic s1 _ _ => exact ⟨s1, 2, 2, rfl⟩
      | _ => exfalso; omega
    obtain ⟨s1, t1, t2, e⟩ := hk
    have ht := a.op
    rw [e] at ht
    obtain ⟨op1, y, e1, g1, g2⟩ := ht.split
    obtain ⟨x, y, rfl, hx, hy⟩ := g2.un2
    subst e1
    refine ⟨by simp at hlive; omega, ?_, ?_⟩
    · rw [hk1]
      have := snoc1 (a := ws0) (b := loc) (c := op1 ++ [x]) (v := y) (n := z.cur.sk.live) (by simpa using hlive)
      rw [List.append_assoc] at this
      rw [show [x] ++ [y] = [x, y] from rfl] at this
      rw [this]; exact hy.1
    · rw [hk2, snoc2 hlen]; exact hx.1
  · have h1 := hio.loc (.inl h)
    rw [hf1]
    refine ⟨h1.1, ?_⟩
    show ws0.length + i.a.toNat < z.cur.sk.live
    omega
  · have h1 := hio.loc (.inr h)
    rw [hf1]
    refine ⟨h1.1, ?_⟩
    show ws0.length + i.a.toNat < z.cur.sk.live - 1
    have : 0 < op.length := by
      rw [← hol]
      cases hr.does with
      | store _ _ _ => simp
      | _ => exfalso; omega
    omega
  · have h1 := hio.box (.inl h)
    have e : (m.mdl.boxes.length : Int) = (m.bx.length : Int) := rfl
    exact ⟨h1.1, by omega, hw.1 h⟩
  · have h1 := hio.box (.inr h)
    have e : (m.mdl.boxes.length : Int) = (m.bx.length : Int) := rfl
    exact ⟨h1.1, by omega, hw.2 h⟩
  · have hk : ∃ k, Ver.isUnit m.mdl i.a k = true := by
      rcases h with h | h
      · exact ⟨_, hio.call h⟩
      · exact ⟨_, hio.start h⟩
    obtain ⟨k, hk⟩ := hk
    obtain ⟨c1, c2, c3, c4, c5⟩ := canU_of hC hk
    refine ⟨c1, c2, c3, ?_, c4, c5, by rw [hfl]; exact hln⟩
    show _ ≤ z.cur.sk.live
    have hp : (Vm.unt m.mdl i.a.toNat).params.toNat ≤ op.length := by
      have hle : (Vm.unt m.mdl i.a.toNat).params.toNat ≤ (Vm.unt m.mdl i.a.toNat).locals.length := by rw [unt_uat]; exact c4
      have key : ∀ (s : List Int) (u : ImgM.Unt), u.params.toNat ≤ u.locals.length → u.params.toNat ≤ (s ++ u.locals.take u.params.toNat).length := fun s u h => by
        rw [List.length_append, List.length_take]; omega
      rw [← hol]
      cases hr.does with
      | call _ _ _ => exact key _ _ hle
      | start _ _ _ => exact key _ _ hle
      | _ => exfalso; omega
    rw [unt_uat] at hp
    omega
  · have h1 : op.length = 1 := by
      rw [← hol]
      cases hr.does with
      | ret _ _ _ => rfl
      | _ => exfalso; omega
    refine ⟨?_, hne, by rw [hfl]; exact hln, ?_⟩
    · show 0 < z.cur.sk.live; omega
    · rw [hf1]
      show ws0.length ≤ z.cur.sk.live - 1
      omega
  · intro j hj
    have hj' : z.cur.up = some j := hj
    rw [hup] at hj'
    exact hok.ne1 hj'
  · have hk : ∃ s1 g t, st = s1 ++ [10 + g, t] ∧ Ver.handle m.mdl (10 + g) = true := by
      cases hr.does with
      | resume s1 _ g _ hg => exact ⟨s1, g, _, rfl, hg⟩
      | _ => exfalso; omega
    obtain ⟨s1, g, t2, e, hg⟩ := hk
    have ht := a.op
    rw [e] at ht
    obtain ⟨op1, y, e1, g1, g2⟩ := ht.split
    obtain ⟨x, y, rfl, hx, hy⟩ := g2.un2
    subst e1
    have hg0 : 10 ≤ 10 + g := by
      unfold Ver.handle at hg
      rw [Bool.and_eq_true, decide_eq_true_eq] at hg
      exact hg.1
    obtain ⟨k, rfl, hk, hgk, hk0⟩ := hx.2.2 hg0
    rw [Vm.gsOf_len, hcs] at hk
    have e2 : (z.moved m).top 2 = (k : Int) := by rw [hk2, snoc2 hlen]
    rw [e2]
    refine ⟨by show 2 ≤ z.cur.sk.live; simp at hlive; omega, by omega, by rw [Int.toNat_natCast]; exact hk, ?_, ?_⟩
    · have hin : z.tk.now ∈ ch := List.mem_of_getElem? hok.now
      have := (hok.going _ hn).2 hin
      rw [hsn, hcur0] at this
      exact this
    · rw [Int.toNat_natCast]
      by_cases hkn : z.now = k
      · right; exact hkn.symm
      · left
        have h3 := hok.sts k (by rw [hcs]; exact hk)
        have e3 : Vm.co z.tk k = (z.oth.getD k default).abs := by
          rw [← hz.oth hkn]
          exact getD_map0 _ _ (by rw [z.allLen]; exact hk)
        rw [e3] at h3
        exact h3
  · have hk : ∃ s1 t, st = s1 ++ [t] ∧ (Vm.unt m.mdl q).kind = 3 := by
      cases hr.does with
      | yield s1 _ _ hk => exact ⟨s1, _, rfl, hk⟩
      | _ => exfalso; omega
    obtain ⟨s1, t, e, hk3⟩ := hk
    have hb0 := hok.kinds _ hn
    rw [← Vm.cur_co] at hb0
    have hbot := Vm.alone_bot hok a (by omega)
    have hn0 : z.tk.now ≠ 0 := fun e => by rw [hbot, if_pos e, hk3] at hb0; omega
    refine ⟨?_, ?_⟩
    · show 0 < z.cur.sk.live
      rw [e] at hol; simp at hol; omega
    · cases hj : ch[1]? with
      | none => exact absurd (hok.root 0 z.tk.now hok.now hj) hn0
      | some j => exact ⟨j, by show z.cur.up = _; rw [hup, hj], hok.ne1 hj⟩
  · have hk : ∃ s1 g, st = s1 ++ [10 + g] ∧ Ver.handle m.mdl (10 + g) = true := by
      cases hr.does with
      | alive s1 _ g _ hg => exact ⟨s1, g, rfl, hg⟩
      | _ => exfalso; omega
    obtain ⟨s1, g, e, hg⟩ := hk
    have ht := a.op
    rw [e] at ht
    obtain ⟨op1, y, e1, g1, g2⟩ := ht.split
    obtain ⟨x, rfl, hx⟩ := g2.un1
    subst e1
    have hg0 : 10 ≤ 10 + g := by
      unfold Ver.handle at hg
      rw [Bool.and_eq_true, decide_eq_true_eq] at hg
      exact hg.1
    obtain ⟨k, rfl, hk, hgk, hk0⟩ := hx.2.2 hg0
    rw [Vm.gsOf_len, hcs] at hk
    have e2 : (z.moved m).top 1 = (k : Int) := by rw [hk1, snoc1 hlen]
    rw [e2]
    exact ⟨by show 0 < z.cur.sk.live; simp at hlive; omega, by omega, by rw [Int.toNat_natCast]; exact hk⟩
  · rw [hf]
    show p ≤ 100000
    have hh := Vm.unt_head hC a.hq
    have hlt := hr.lt
    unfold Ver.head at hh
    split at hh
    · cases hh
    split at hh
    · cases hh
    split at hh
    · cases hh
    omega
end
end Go.Proofs.Ytfeajpghabjaaaa.Vw
