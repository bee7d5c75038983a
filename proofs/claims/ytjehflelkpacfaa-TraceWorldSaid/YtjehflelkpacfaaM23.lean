/- What has to do with other units, walked. -/
import Derived.Test.YtjehflelkpacfaaM22
namespace Go.Proofs.Ytjehflelkpacfaa.Vw
open Go.RowKit Go.Proofs.Ytjehflelkpacfaa.Img
set_option linter.unusedVariables false
set_option linter.unusedSimpArgs false
attribute [local irreducible] Run Cod End OpT Still RunQ RunS RunT Fn PutOk
variable {E : EnvM}
/-- a unit that may be called, or started -/
structure CanU (m : ML) (z : SL E) (i : ImgM.Ins) : Prop where
  a0 : 0 ≤ i.a
  lt : i.a.toNat < m.us.length
  p0 : 0 ≤ (m.us.getD i.a.toNat default).u.params
  pl : (m.us.getD i.a.toNat default).u.params.toNat ≤ z.cur.sk.live
  pL : (m.us.getD i.a.toNat default).u.params.toNat ≤ (m.us.getD i.a.toNat default).u.locals.length
  few : (m.us.getD i.a.toNat default).u.locals.length ≤ 200
  fr : z.cur.fr.length ≤ 40
abbrev SL.top (z : SL E) (n : Nat) : Int := z.cur.sk.ws.getD (z.cur.sk.live - n) 0
/-- what must be known that an instruction that has to do with other units can be done -/
structure CanI (m : ML) (z : SL E) (i : ImgM.Ins) : Prop where
  call : i.op = 23 ∨ i.op = 29 → CanU m z i
  ret : i.op = 24 → 0 < z.cur.sk.live ∧ z.cur.fr ≠ [] ∧ z.cur.fr.length ≤ 40 ∧ z.f.base ≤ z.cur.sk.live - 1
  fin : i.op = 25 → ∀ j, z.cur.up = some j → z.now ≠ j
  res : i.op = 30 → 2 ≤ z.cur.sk.live ∧ 0 ≤ z.top 2 ∧ (z.top 2).toNat < z.oth.length ∧ z.cur.st = 2 ∧ ((z.oth.getD (z.top 2).toNat default).st ≤ 3 ∨ (z.top 2).toNat = z.now)
  yld : i.op = 31 → 0 < z.cur.sk.live ∧ ∃ j, z.cur.up = some j ∧ z.now ≠ j
  size : E.size (E.abs z.e) ≤ 1000000
  alv : i.op = 32 → 0 < z.cur.sk.live ∧ 0 ≤ z.top 1 ∧ (z.top 1).toNat < z.oth.length
set_option maxRecDepth 100000 in
set_option maxHeartbeats 1000000 in
theorem units1_is (p : Pl) (z : SL E) (hz : z.Wf) (i : ImgM.Ins) (hi : CanI p.m z i) (h1 : i.op = 23 ∨ i.op = 24 ∨ i.op = 25) :
    Fn Try.prog 47 #[ptr p.tb, insV i] [md p.m, E.rc] (TM p z) (σ := SL E) (Gives z (Vm.exec E.V p.m.mdl i z.two)) (fun _ => .tuple #[]) (fun z' => TM p z') := by
  have he : E.okk z.e := ⟨hz.env, by have := hi.size; omega⟩
  refine Fn.enter (args := [ptr p.tb, insV i]) Try.func47 rfl _ Try.ntmps47 rfl (by simp [rd_excl, md_excl]) (fun w S => ?_)
  (try conv => rhs; simp only [List.cons_append, List.nil_append])
  rcases h1 with h1 | h1 | h1
  · obtain ⟨c1, c2, c3, c4, c5, c6, c7⟩ := hi.call (.inl h1)
    have hc := call_is p z hz hi.size i.a.toNat c2 c3 c4 c5 c6 c7
    rw [Int.toNat_of_nonneg c1] at hc
    repeat (first | refine go (k := ?_) | (refine goB (k := ?_); intro b) | (refine goA (k := ?_); intro ao cap))
    ((first | (apply Run.op; exact rfl) | refine Run.yes_ (h := ?_)); refine OpT.call0_ (spec := hc) (r := fun w => Reads.md (by (repeat (first | exact Take.head | apply Take.tail))) (Reads.any (by (repeat (first | exact Take.head | apply Take.tail))) E.rexcl .nil)) (k := ?_); intro s hs; (try conv => rhs; simp only [List.cons_append, List.nil_append]))
    repeat (first | refine go (k := ?_) | (refine goB (k := ?_); intro b) | (refine goA (k := ?_); intro ao cap))
    (refine End.done0'_ (s) (hp := ?_))
    refine ⟨hs.wf, hs.two.trans ?_⟩
    unfold Vm.exec
    simp [h1]
  · obtain ⟨c1, c2, c3, c4⟩ := hi.ret h1
    have hl : 0 < z.cur.fr.length := List.length_pos_iff.2 c2
    have w1 : IntKind.i64.wrap ((z.cur.fr.length : Int) - 1) = ((z.cur.fr.length - 1 : Nat) : Int) := by rw [wrap_i64_in (by omega)]; omega
    repeat (first | refine go (k := ?_) | (refine goB (k := ?_); intro b) | (refine goA (k := ?_); intro ao cap))
    (apply Run.op; exact rfl; refine OpT.call0_ (spec := pop_is' (z.F p) z.st z.tr (z.cur.st : Int) (ptrO z.cur.upb) (.slice z.cur.fo z.cur.fr.length z.cur.fc) E.mailV (toldV E.told) z.cur.sk hz.curOk c1) (k := ?_); intro s hs; (try conv => rhs; simp only [List.cons_append, List.nil_append]))
    obtain ⟨k1, rfl⟩ : ∃ x, x = s := ⟨_, rfl⟩
    have ht := hs
    have hlv : k1.live = z.cur.sk.live - 1 := by have h := ht.live; have h2 := Sk.len hz.curOk; rw [List.length_take] at h; omega
    have w3 : IntKind.i64.wrap ((k1.live : Int) - (z.f.base : Int)) = ((k1.live - z.f.base : Nat) : Int) := by have := ht.ok.live; have := ht.ok.hi; rw [wrap_i64_in (by omega)]; omega
    repeat (first | refine go (k := ?_) | (refine goB (k := ?_); intro b) | (refine goA (k := ?_); intro ao cap))
    apply Cod.draw 13 ([cc z.cur.cb (z.cur.st : Int) (ptrO z.cur.upb) (.slice z.cur.fo z.cur.fr.length z.cur.fc) k1.sb, frM z.cur]) (by kernel_rfl) 14 rfl
    refine RunT.takeR_ 0 (h := ?_)
    refine RunT.takeR_ 1 (h := ?_)
    refine RunT.takeR_ 2 (h := ?_)
    refine RunT.takeR_ 3 (h := ?_)
    refine RunT.takeR_ 4 (h := ?_)
    refine RunT.takeR_ 5 (h := ?_)
    refine RunT.takeR_ 6 (h := ?_)
    refine RunT.takeR_ 7 (h := ?_)
    refine RunT.takeR_ 8 (h := ?_)
    refine RunT.takeR_ 9 (h := ?_)
    refine RunT.takeR_ 10 (h := ?_)
    refine RunT.takeR_ 11 (h := ?_)
    (refine RunT.one_ 12 (h := ?_); (first | refine OpT.val_ (k := ?_) | (refine OpT.alloc_ (k := ?_); intro b) | (refine OpT.box_ (k := ?_); intro b) | refine OpT.store_ (k := ?_) | (refine OpT.buildSlice_ (k := ?_); intro b) | (refine OpT.buildSlice0_ (k := ?_); intro b) | (refine OpT.append1_ (k := ?_); intro ao cap) | (refine OpT.cutA0_ (k := ?_); intro ao cap) | (refine OpT.cutR0_ (k := ?_); intro ao cap) | (refine OpT.cutA1_ (k := ?_); intro ao cap) | (refine OpT.cutA_ (k := ?_); intro ao cap) | (refine OpT.cutR_ (k := ?_); intro ao cap)); refine And.intro gud ?_)
    (refine RunT.one_ 13 (h := ?_); (first | refine OpT.val_ (k := ?_) | (refine OpT.alloc_ (k := ?_); intro b) | (refine OpT.box_ (k := ?_); intro b) | refine OpT.store_ (k := ?_) | (refine OpT.buildSlice_ (k := ?_); intro b) | (refine OpT.buildSlice0_ (k := ?_); intro b) | (refine OpT.append1_ (k := ?_); intro ao cap) | (refine OpT.cutA0_ (k := ?_); intro ao cap) | (refine OpT.cutR0_ (k := ?_); intro ao cap) | (refine OpT.cutA1_ (k := ?_); intro ao cap) | (refine OpT.cutA_ (k := ?_); intro ao cap) | (refine OpT.cutR_ (k := ?_); intro ao cap)); refine And.intro gud ?_)
    (apply RunT.done; kernel_rfl)
    obtain ⟨fb, rfl⟩ : ∃ x, x = b := ⟨_, rfl⟩
    repeat (first | refine go (k := ?_) | (refine goB (k := ?_); intro b) | (refine goA (k := ?_); intro ao cap))
    apply Cod.draw 14 ([cc z.cur.cb (z.cur.st : Int) (ptrO z.cur.upb) (.slice z.cur.fo z.cur.fr.length z.cur.fc) k1.sb]) (by kernel_rfl) 15 rfl
    refine RunT.takeR_ 0 (h := ?_)
    refine RunT.takeR_ 1 (h := ?_)
    refine RunT.takeR_ 2 (h := ?_)
    refine RunT.takeR_ 3 (h := ?_)
    refine RunT.takeR_ 4 (h := ?_)
    refine RunT.takeR_ 5 (h := ?_)
    refine RunT.takeR_ 6 (h := ?_)
    refine RunT.takeR_ 7 (h := ?_)
    refine RunT.takeR_ 8 (h := ?_)
    refine RunT.takeR_ 9 (h := ?_)
    refine RunT.takeR_ 10 (h := ?_)
    (refine RunT.one_ 11 (h := ?_); (first | refine OpT.val_ (k := ?_) | (refine OpT.alloc_ (k := ?_); intro b) | (refine OpT.box_ (k := ?_); intro b) | refine OpT.store_ (k := ?_) | (refine OpT.buildSlice_ (k := ?_); intro b) | (refine OpT.buildSlice0_ (k := ?_); intro b) | (refine OpT.append1_ (k := ?_); intro ao cap) | (refine OpT.cutA0_ (k := ?_); intro ao cap) | (refine OpT.cutR0_ (k := ?_); intro ao cap) | (refine OpT.cutA1_ (k := ?_); intro ao cap) | (refine OpT.cutA_ (k := ?_); intro ao cap) | (refine OpT.cutR_ (k := ?_); intro ao cap)); refine And.intro gud ?_)
    refine RunT.takeR_ 12 (h := ?_)
    refine RunT.takeR_ 13 (h := ?_)
    (refine RunT.one_ 14 (h := ?_); (first | refine OpT.val_ (k := ?_) | (refine OpT.alloc_ (k := ?_); intro b) | (refine OpT.box_ (k := ?_); intro b) | refine OpT.store_ (k := ?_) | (refine OpT.buildSlice_ (k := ?_); intro b) | (refine OpT.buildSlice0_ (k := ?_); intro b) | (refine OpT.append1_ (k := ?_); intro ao cap) | (refine OpT.cutA0_ (k := ?_); intro ao cap) | (refine OpT.cutR0_ (k := ?_); intro ao cap) | (refine OpT.cutA1_ (k := ?_); intro ao cap) | (refine OpT.cutA_ (k := ?_); intro ao cap) | (refine OpT.cutR_ (k := ?_); intro ao cap)); refine And.intro gud ?_)
    (apply RunT.done; kernel_rfl)
    repeat (first | refine go (k := ?_) | (refine goB (k := ?_); intro b) | (refine goA (k := ?_); intro ao cap))
    apply Cod.draw 12 ([cc z.cur.cb (z.cur.st : Int) (ptrO z.cur.upb) (.slice ao (z.cur.fr.length - 1) cap) k1.sb, blk fb (frC z.f) 112]) (by kernel_rfl) 13 rfl
    refine RunT.takeR_ 0 (h := ?_)
    refine RunT.takeR_ 1 (h := ?_)
    refine RunT.takeR_ 2 (h := ?_)
    refine RunT.takeR_ 3 (h := ?_)
    refine RunT.takeR_ 4 (h := ?_)
    refine RunT.takeR_ 5 (h := ?_)
    refine RunT.takeR_ 6 (h := ?_)
    refine RunT.takeR_ 7 (h := ?_)
    refine RunT.takeR_ 9 (h := ?_)
    refine RunT.takeR_ 10 (h := ?_)
    (refine RunT.one_ 8 (h := ?_); refine OpT.call0_ (spec := live_is k1) (k := ?_); intro s hs; refine And.intro gud ?_; (try conv => rhs; simp only [List.cons_append, List.nil_append]))
    refine RunT.takeR_ 11 (h := ?_)
    (refine RunT.one_ 12 (h := ?_); refine OpT.call0_ (spec := pop_stk k1 ht.ok (k1.live - z.f.base) (by omega)) (k := ?_); intro s hs; refine And.intro gud ?_; (try conv => rhs; simp only [List.cons_append, List.nil_append]))
    (apply RunT.done; kernel_rfl)
    obtain ⟨k2, rfl⟩ : ∃ x, x = s := ⟨_, rfl⟩
    have ht2 := hs
    have ht3 : SkTo z.cur.sk k2 ((z.cur.sk.ws.take (z.cur.sk.live - 1)).take z.f.base) := ⟨ht2.ok, ht2.sb.trans ht.sb, by rw [ht2.ws, ht.ws]; congr 1; omega, by have h := ht2.live; rw [ht.ws] at h; rw [h]; congr 2; omega⟩
    have hsb : k1.sb = k2.sb := ht2.sb.symm
    rw [hsb]
    repeat (first | refine go (k := ?_) | (refine goB (k := ?_); intro b) | (refine goA (k := ?_); intro ao cap))
    have hw2 : ({ z with cur := { z.cur with fo := ao, fc := cap, fr := z.cur.fr.take (z.cur.fr.length - 1), sk := k2 } } : SL E).Wf := hz.setCur rfl rfl rfl ht3.ok
    ((first | (apply Run.op; exact rfl) | refine Run.yes_ (h := ?_)); refine OpT.call0_ (spec := push_is' E (z.F p) z.st z.tr z.e he (z.cur.st : Int) (ptrO z.cur.upb) (.slice ao (z.cur.fr.length - 1) cap) k2 ht3.ok (z.top 1)) (r := fun w => Reads.any (by (repeat (first | exact Take.head | apply Take.tail))) E.rexcl .nil) (k := ?_); intro s hs; (try conv => rhs; simp only [List.cons_append, List.nil_append]))
    obtain ⟨t1, t2⟩ := pushed hw2 hs
    repeat (first | refine go (k := ?_) | (refine goB (k := ?_); intro b) | (refine goA (k := ?_); intro ao cap))
    (refine End.done0'_ ((SL.put { z with cur := { z.cur with fo := ao, fc := cap, fr := z.cur.fr.take (z.cur.fr.length - 1), sk := k2 } } s)) (ht := by (repeat (first | exact Takes.nil | exact Take.head | (refine Take.blkEq ?_; (focus (first | rfl | (simp; done) | (simp; omega) | omega | (simp [*]; done)))) | (refine Take.arrEq ?_ ?_; (focus (first | rfl | (simp; done) | (simp; omega) | omega | (simp [*]; done))); (focus (first | rfl | (simp; done) | (simp; omega) | omega | (simp [*]; done)))) | apply Take.tail | apply Takes.cons))) (hp := ?_))
    refine ⟨t1, t2.trans ?_⟩
    have e0 : Vm.exec E.V p.m.mdl i z.two = Vm.ret E.V z.two := by unfold Vm.exec; simp [h1]
    rw [e0]
    have e3 : CoL.abs { z.cur with fo := ao, fc := cap, fr := z.cur.fr.take (z.cur.fr.length - 1), sk := k2 } = ({ z.cur.abs with fr := z.cur.abs.fr.take (z.cur.abs.fr.length - 1), ws := (z.cur.abs.ws.take (z.cur.abs.ws.length - 1)).take (Vm.topF z.cur.abs).base } : Vm.Co) := by
      show (⟨z.cur.st, z.cur.up, _, k2.ws⟩ : Vm.Co) = ⟨_, _, _, (z.cur.sk.ws.take (z.cur.sk.ws.length - 1)).take z.f.base⟩
      rw [ht3.ws, show z.cur.sk.ws.length = z.cur.sk.live from Sk.len hz.curOk]
      rfl
    unfold Vm.ret
    show Vm.push E.V (z.top 1) (SL.tk _, E.abs z.e) = Vm.push E.V (Vm.last z.tk) (Vm.setCur z.tk { Vm.cur z.tk with fr := (Vm.cur z.tk).fr.take ((Vm.cur z.tk).fr.length - 1), ws := ((Vm.cur z.tk).ws.take ((Vm.cur z.tk).ws.length - 1)).take (Vm.topF (Vm.cur z.tk)).base }, E.abs z.e)
    rw [hz.last, SL.tk_cur, hz.cur, e3]
  · have hc := end_is p z hz hi.size (hi.fin h1)
    repeat (first | refine go (k := ?_) | (refine goB (k := ?_); intro b) | (refine goA (k := ?_); intro ao cap))
    ((first | (apply Run.op; exact rfl) | refine Run.yes_ (h := ?_)); refine OpT.call0_ (spec := hc) (r := fun w => Reads.any (by (repeat (first | exact Take.head | apply Take.tail))) E.rexcl .nil) (k := ?_); intro s hs; (try conv => rhs; simp only [List.cons_append, List.nil_append]))
    repeat (first | refine go (k := ?_) | (refine goB (k := ?_); intro b) | (refine goA (k := ?_); intro ao cap))
    (refine End.done0'_ (s) (hp := ?_))
    refine ⟨hs.wf, hs.two.trans ?_⟩
    unfold Vm.exec
    simp [h1]
end Go.Proofs.Ytjehflelkpacfaa.Vw

/- What has to do with other threads, walked: yield, resume, alive. -/
namespace Go.Proofs.Ytjehflelkpacfaa.Vw
open Go.RowKit Go.Proofs.Ytjehflelkpacfaa.Img
set_option linter.unusedVariables false
set_option linter.unusedSimpArgs false
attribute [local irreducible] Run Cod End OpT Still RunQ RunS RunT Fn PutOk
variable {E : EnvM}
set_option maxRecDepth 100000 in
set_option maxHeartbeats 1000000 in
theorem units2_is (p : Pl) (z : SL E) (hz : z.Wf) (i : ImgM.Ins) (hi : CanI p.m z i) (h1 : i.op = 31) :
    Fn Try.prog 47 #[ptr p.tb, insV i] [md p.m, E.rc] (TM p z) (σ := SL E) (Gives z (Vm.exec E.V p.m.mdl i z.two)) (fun _ => .tuple #[]) (fun z' => TM p z') := by
  have he : E.okk z.e := ⟨hz.env, by have := hi.size; omega⟩
  have e0 : Vm.exec E.V p.m.mdl i z.two = Vm.yieldU E.V z.two := by unfold Vm.exec; simp [h1]
  rw [e0]
  obtain ⟨c1, j, hup, hne⟩ := hi.yld h1
  have hub := hz.up _ hz.curMem
  rw [hup] at hub
  have hlt := hz.upl _ hz.curMem j hup
  have hcc : ccM z.cur = cc z.cur.cb (z.cur.st : Int) (ptr (z.bs.getD j 0)) (.slice z.cur.fo z.cur.fr.length z.cur.fc) z.cur.sk.sb := by unfold ccM; rw [hub]; rfl
  refine Fn.enter (args := [ptr p.tb, insV i]) Try.func47 rfl _ Try.ntmps47 rfl (by simp [rd_excl, md_excl]) (fun w S => ?_)
  (try conv => rhs; simp only [List.cons_append, List.nil_append])
  unfold TM
  rw [hcc]
  repeat (first | refine go (k := ?_) | (refine goB (k := ?_); intro b) | (refine goA (k := ?_); intro ao cap))
  (apply Run.op; exact rfl; refine OpT.call0_ (spec := pop_is' (z.F p) z.st z.tr (z.cur.st : Int) (ptr (z.bs.getD j 0)) (.slice z.cur.fo z.cur.fr.length z.cur.fc) E.mailV (toldV E.told) z.cur.sk hz.curOk c1) (k := ?_); intro s hs; (try conv => rhs; simp only [List.cons_append, List.nil_append]))
  obtain ⟨k1, rfl⟩ : ∃ x, x = s := ⟨_, rfl⟩
  have ht := hs
  repeat (first | refine go (k := ?_) | (refine goB (k := ?_); intro b) | (refine goA (k := ?_); intro ao cap))
  rw [hz.bsGet hlt hne]
  apply Run.imp' (fun w hm => Mem.swap1 { z.cur with st := 1, up := none, upb := none, sk := k1 } hm (by (repeat (first | exact Take.head | apply Take.tail))) (by (repeat (first | exact Takes.nil | exact Take.head | apply Take.tail | apply Takes.cons))) hz.now hlt hne)
  have hd := hz.othMem hlt hne
  have hw1 : (z.go { z.cur with st := 1, up := none, upb := none, sk := k1 } j (z.oth.getD j default)).Wf := hz.go hlt hne ⟨rfl, ht.ok, rfl, fun i h => by simp at h⟩ ⟨rfl, hz.sk _ hd, hz.up _ hd, hz.upl _ hd⟩
  ((first | (apply Run.op; exact rfl) | refine Run.yes_ (h := ?_)); refine OpT.call0_ (spec := push_is' E (SL.F p (z.go { z.cur with st := 1, up := none, upb := none, sk := k1 } j (z.oth.getD j default))) z.st z.tr z.e he ((z.oth.getD j default).st : Int) (ptrO (z.oth.getD j default).upb) (.slice (z.oth.getD j default).fo (z.oth.getD j default).fr.length (z.oth.getD j default).fc) (z.oth.getD j default).sk (hz.sk _ hd) (z.top 1)) (r := fun w => Reads.any (by (repeat (first | exact Take.head | apply Take.tail))) E.rexcl .nil) (k := ?_); intro s hs; (try conv => rhs; simp only [List.cons_append, List.nil_append]))
  obtain ⟨t1, t2⟩ := pushed hw1 hs
  repeat (first | refine go (k := ?_) | (refine goB (k := ?_); intro b) | (refine goA (k := ?_); intro ao cap))
  (refine End.done0'_ (((z.go { z.cur with st := 1, up := none, upb := none, sk := k1 } j (z.oth.getD j default)).put s)) (hp := ?_))
  refine ⟨t1, t2.trans ?_⟩
  obtain ⟨p1, p2⟩ := popped hz ht
  unfold Vm.yieldU
  have e4 : Vm.cur (Vm.drop 1 z.tk) = ({ z.cur with sk := k1 } : CoL).abs := by rw [← p2]; exact p1.cur
  show Vm.push E.V (z.top 1) (SL.tk _, E.abs z.e) = Vm.push E.V (Vm.last z.tk) ({ Vm.setCur (Vm.drop 1 z.tk) { Vm.cur (Vm.drop 1 z.tk) with st := 1, up := none } with now := (Vm.cur (Vm.drop 1 z.tk)).up.getD 0 }, E.abs z.e)
  rw [hz.last, SL.go_tk' z _ hlt hne, e4, ← p2, show (z.sk k1).tk = Vm.setCur z.tk (CoL.abs { z.cur with sk := k1 }) from SL.tk_cur z _, Vm.set_set, show (CoL.abs { z.cur with sk := k1 }).up = some j from hup]
  rfl
set_option maxRecDepth 100000 in
set_option maxHeartbeats 1000000 in
theorem units3_is (p : Pl) (z : SL E) (hz : z.Wf) (i : ImgM.Ins) (hi : CanI p.m z i) (h1 : i.op = 30) :
    Fn Try.prog 47 #[ptr p.tb, insV i] [md p.m, E.rc] (TM p z) (σ := SL E) (Gives z (Vm.exec E.V p.m.mdl i z.two)) (fun _ => .tuple #[]) (fun z' => TM p z') := by
  have he : E.okk z.e := ⟨hz.env, by have := hi.size; omega⟩
  have e0 : Vm.exec E.V p.m.mdl i z.two = Vm.resumeU E.V z.two := by unfold Vm.exec; simp [h1]
  rw [e0]
  obtain ⟨c1, c2, c3, c4, c5⟩ := hi.res h1
  obtain ⟨q, hq⟩ := Int.eq_ofNat_of_zero_le c2
  rw [hq] at c3 c5
  simp only [Int.toNat_natCast, Int.ofNat_eq_natCast] at c3 c5 hq
  refine Fn.enter (args := [ptr p.tb, insV i]) Try.func47 rfl _ Try.ntmps47 rfl (by simp [rd_excl, md_excl]) (fun w S => ?_)
  (try conv => rhs; simp only [List.cons_append, List.nil_append])
  repeat (first | refine go (k := ?_) | (refine goB (k := ?_); intro b) | (refine goA (k := ?_); intro ao cap))
  apply Cod.draw 11 ([tkM p z, csM z]) (by kernel_rfl) 12 rfl
  refine RunT.takeR_ 0 (h := ?_)
  refine RunT.takeR_ 6 (h := ?_)
  refine RunT.takeR_ 2 (h := ?_)
  refine RunT.takeR_ 3 (h := ?_)
  refine RunT.takeR_ 4 (h := ?_)
  refine RunT.takeR_ 5 (h := ?_)
  (refine RunT.one_ 1 (h := ?_); refine OpT.call0_ (spec := pop_is' (z.F p) z.st z.tr (z.cur.st : Int) (ptrO z.cur.upb) (.slice z.cur.fo z.cur.fr.length z.cur.fc) E.mailV (toldV E.told) z.cur.sk hz.curOk (by omega)) (k := ?_); intro s hs; refine And.intro gud ?_; (try conv => rhs; simp only [List.cons_append, List.nil_append]))
  obtain ⟨k1, rfl⟩ : ∃ x, x = s := ⟨_, rfl⟩
  have ht := hs
  have hlv : k1.live = z.cur.sk.live - 1 := by have h := ht.live; have h2 := Sk.len hz.curOk; rw [List.length_take] at h; omega
  (refine RunT.one_ 7 (h := ?_); refine OpT.call0_ (spec := pop_is' (z.F p) z.st z.tr (z.cur.st : Int) (ptrO z.cur.upb) (.slice z.cur.fo z.cur.fr.length z.cur.fc) E.mailV (toldV E.told) k1 ht.ok (by omega)) (k := ?_); intro s hs; refine And.intro gud ?_; (try conv => rhs; simp only [List.cons_append, List.nil_append]))
  obtain ⟨k2, rfl⟩ : ∃ x, x = s := ⟨_, rfl⟩
  have ht2 := hs
  have hv2 : k1.ws.getD (k1.live - 1) 0 = (q : Int) := by
    rw [← hq, ht.ws, hlv]
    show (z.cur.sk.ws.take (z.cur.sk.live - 1)).getD (z.cur.sk.live - 1 - 1) 0 = z.cur.sk.ws.getD (z.cur.sk.live - 2) 0
    rw [List.getD_eq_getElem?_getD, List.getD_eq_getElem?_getD, List.getElem?_take, if_pos (by omega), Nat.sub_sub]
  rw [hv2]
  have hqb : q < z.bs.length := by rw [hz.len]; exact c3
  refine RunT.takeR_ 8 (h := ?_)
  refine RunT.takeR_ 9 (h := ?_)
  refine RunT.takeR_ 10 (h := ?_)
  refine RunT.one_ 11 (h := OpT.val_ (k := And.intro gud ?_))
  (apply RunT.done; kernel_rfl)
  obtain ⟨p1, p2⟩ := popped hz ht
  obtain ⟨p3, p4⟩ := popped p1 ht2
  have hr := resume_is p (z.sk k2) p3 hi.size q c3 (z.top 1) c4 c5
  repeat (first | refine go (k := ?_) | (refine goB (k := ?_); intro b) | (refine goA (k := ?_); intro ao cap))
  ((first | (apply Run.op; exact rfl) | refine Run.yes_ (h := ?_)); refine OpT.call0_ (spec := hr) (r := fun w => Reads.any (by (repeat (first | exact Take.head | apply Take.tail))) E.rexcl .nil) (k := ?_); intro s hs; (try conv => rhs; simp only [List.cons_append, List.nil_append]))
  repeat (first | refine go (k := ?_) | (refine goB (k := ?_); intro b) | (refine goA (k := ?_); intro ao cap))
  (refine End.done0'_ (s) (hp := ?_))
  refine ⟨hs.wf, hs.two.trans ?_⟩
  rw [resumeU_eq]
  show resR E.V q (z.top 1) ((z.sk k2).tk, E.abs z.e) = resR E.V (Vm.last (Vm.drop 1 z.tk)).toNat (Vm.last z.tk) (Vm.drop 1 (Vm.drop 1 z.tk), E.abs z.e)
  rw [← p2, hz.last, p1.last, ← p4]
  show _ = resR E.V (k1.ws.getD (k1.live - 1) 0).toNat _ _
  rw [hv2]
  rfl
end Go.Proofs.Ytjehflelkpacfaa.Vw

/- Whether a thread is alive, walked. -/
namespace Go.Proofs.Ytjehflelkpacfaa.Vw
open Go.RowKit Go.Proofs.Ytjehflelkpacfaa.Img
set_option linter.unusedVariables false
set_option linter.unusedSimpArgs false
attribute [local irreducible] Run Cod End OpT Still RunQ RunS RunT Fn PutOk
variable {E : EnvM}
theorem out_perm {s t : List CoL} {d : CoL} : ((s ++ d :: t).flatMap coM).Perm (coM d ++ (s ++ t).flatMap coM) := by
  have := (List.perm_middle (a := d) (l₁ := s) (l₂ := t)).flatMap_right coM
  simpa only [List.flatMap_cons] using this
theorem Mem.out {w : World} {L L' : List Chunk} {l s t : List CoL} {d : CoL} (h : Mem w L) (tk : Take (bagM l) L L') (e : l = s ++ d :: t) : Mem w (ccM d :: frM d :: blk d.sk.sb (skC d.sk) 141 :: arr (some ⟨d.sk.lb, 0, none⟩) d.sk.l.length d.sk.l.length 2 i64c d.sk.l :: bagM (s ++ t) :: L') := by
  subst e
  exact Mem.bagOut (ds := coM d) (es := (s ++ t).flatMap coM) h tk out_perm
theorem Mem.in_ {w : World} {L L' F : List Chunk} {l s t : List CoL} {d : CoL} (h : Mem w L) (tk : Take (bagM (s ++ t)) L L') (t2 : Takes (coM d) L' F) (e : l = s ++ d :: t) : Mem w (bagM l :: F) := by
  subst e
  exact Mem.bagIn (es := (s ++ t).flatMap coM) (ds := coM d) h tk t2 out_perm (coM_excl d)
theorem SL.Wf.inBag {z : SL E} (hz : z.Wf) {q : Nat} (hq : q < z.oth.length) (hne : z.now ≠ q) : ∃ s t, z.oth.eraseIdx z.now = s ++ z.oth.getD q default :: t := by
  refine List.append_of_mem ?_
  rw [List.mem_eraseIdx_iff_getElem?]
  refine ⟨q, fun e => hne e.symm, ?_⟩
  rw [List.getElem?_eq_getElem hq, List.getD_eq_getElem?_getD, List.getElem?_eq_getElem hq]
  rfl
set_option maxRecDepth 100000 in
set_option maxHeartbeats 1000000 in
theorem units4_is (p : Pl) (z : SL E) (hz : z.Wf) (i : ImgM.Ins) (hi : CanI p.m z i) (h1 : i.op = 32) :
    Fn Try.prog 47 #[ptr p.tb, insV i] [md p.m, E.rc] (TM p z) (σ := SL E) (Gives z (Vm.exec E.V p.m.mdl i z.two)) (fun _ => .tuple #[]) (fun z' => TM p z') := by
  have he : E.okk z.e := ⟨hz.env, by have := hi.size; omega⟩
  have e0 : Vm.exec E.V p.m.mdl i z.two = Vm.aliveU E.V z.two := by unfold Vm.exec; simp [h1]
  rw [e0]
  obtain ⟨c1, c2, c3⟩ := hi.alv h1
  obtain ⟨q, hq⟩ := Int.eq_ofNat_of_zero_le c2
  rw [hq] at c3
  simp only [Int.toNat_natCast, Int.ofNat_eq_natCast] at c3 hq
  have hqb : q < z.bs.length := by rw [hz.len]; exact c3
  have hq' : z.cur.sk.ws.getD (z.cur.sk.live - 1) 0 = (q : Int) := hq
  have hend : ∀ (k1 : Sk), SkTo z.cur.sk k1 (z.cur.sk.ws.take (z.cur.sk.live - 1)) → Vm.aliveU E.V z.two = Vm.push E.V (Opt.yes (!decide ((z.all.getD q default).st = 3))) (z.sk k1).two := fun k1 ht => by
    obtain ⟨p1, p2⟩ := popped hz ht
    unfold Vm.aliveU
    show Vm.push E.V (Opt.yes (!decide (((Vm.drop 1 z.tk).cs.getD (Vm.last z.tk).toNat default).st = 3))) (Vm.drop 1 z.tk, E.abs z.e) = _
    rw [← p2, hz.last, hq', Int.toNat_natCast, p1.csGet c3]
    have e5 : ((z.sk k1).all.getD q default).abs.st = (z.all.getD q default).st := by
      by_cases hqn : z.now = q
      · subst hqn
        rw [hz.curGet, p1.curGet]; rfl
      · rw [hz.oth hqn, p1.oth hqn]; rfl
    rw [e5]
    rfl
  refine Fn.enter (args := [ptr p.tb, insV i]) Try.func47 rfl _ Try.ntmps47 rfl (by simp [rd_excl, md_excl]) (fun w S => ?_)
  (try conv => rhs; simp only [List.cons_append, List.nil_append])
  repeat (first | refine go (k := ?_) | (refine goB (k := ?_); intro b) | (refine goA (k := ?_); intro ao cap))
  by_cases hqn : z.now = q
  · apply Cod.draw 14 ([tkM p z, csM z]) (by kernel_rfl) 15 rfl
    refine RunT.takeR_ 0 (h := ?_)
    refine RunT.takeR_ 1 (h := ?_)
    refine RunT.takeR_ 2 (h := ?_)
    refine RunT.takeR_ 3 (h := ?_)
    refine RunT.takeR_ 4 (h := ?_)
    refine RunT.takeR_ 5 (h := ?_)
    (refine RunT.one_ 6 (h := ?_); refine OpT.call0_ (spec := pop_is' (z.F p) z.st z.tr (z.cur.st : Int) (ptrO z.cur.upb) (.slice z.cur.fo z.cur.fr.length z.cur.fc) E.mailV (toldV E.told) z.cur.sk hz.curOk c1) (k := ?_); intro s hs; refine And.intro gud ?_; (try conv => rhs; simp only [List.cons_append, List.nil_append]))
    obtain ⟨k1, rfl⟩ : ∃ x, x = s := ⟨_, rfl⟩
    have ht := hs
    rw [hq']
    (refine RunT.one_ 7 (h := ?_); (first | refine OpT.val_ (k := ?_) | (refine OpT.alloc_ (k := ?_); intro b) | (refine OpT.box_ (k := ?_); intro b) | refine OpT.store_ (k := ?_) | (refine OpT.buildSlice_ (k := ?_); intro b) | (refine OpT.buildSlice0_ (k := ?_); intro b) | (refine OpT.append1_ (k := ?_); intro ao cap) | (refine OpT.cutA0_ (k := ?_); intro ao cap) | (refine OpT.cutR0_ (k := ?_); intro ao cap) | (refine OpT.cutA1_ (k := ?_); intro ao cap) | (refine OpT.cutA_ (k := ?_); intro ao cap) | (refine OpT.cutR_ (k := ?_); intro ao cap)); refine And.intro gud ?_)
    (refine RunT.one_ 8 (h := ?_); (first | refine OpT.val_ (k := ?_) | (refine OpT.alloc_ (k := ?_); intro b) | (refine OpT.box_ (k := ?_); intro b) | refine OpT.store_ (k := ?_) | (refine OpT.buildSlice_ (k := ?_); intro b) | (refine OpT.buildSlice0_ (k := ?_); intro b) | (refine OpT.append1_ (k := ?_); intro ao cap) | (refine OpT.cutA0_ (k := ?_); intro ao cap) | (refine OpT.cutR0_ (k := ?_); intro ao cap) | (refine OpT.cutA1_ (k := ?_); intro ao cap) | (refine OpT.cutA_ (k := ?_); intro ao cap) | (refine OpT.cutR_ (k := ?_); intro ao cap)); refine And.intro gud ?_)
    have hcb : z.bs.getD q default = z.cur.cb := by rw [hz.curCb, hqn]; rfl
    rw [hcb]
    (refine RunT.one_ 9 (h := ?_); (first | refine OpT.val_ (k := ?_) | (refine OpT.alloc_ (k := ?_); intro b) | (refine OpT.box_ (k := ?_); intro b) | refine OpT.store_ (k := ?_) | (refine OpT.buildSlice_ (k := ?_); intro b) | (refine OpT.buildSlice0_ (k := ?_); intro b) | (refine OpT.append1_ (k := ?_); intro ao cap) | (refine OpT.cutA0_ (k := ?_); intro ao cap) | (refine OpT.cutR0_ (k := ?_); intro ao cap) | (refine OpT.cutA1_ (k := ?_); intro ao cap) | (refine OpT.cutA_ (k := ?_); intro ao cap) | (refine OpT.cutR_ (k := ?_); intro ao cap)); refine And.intro gud ?_)
    (refine RunT.one_ 10 (h := ?_); (first | refine OpT.val_ (k := ?_) | (refine OpT.alloc_ (k := ?_); intro b) | (refine OpT.box_ (k := ?_); intro b) | refine OpT.store_ (k := ?_) | (refine OpT.buildSlice_ (k := ?_); intro b) | (refine OpT.buildSlice0_ (k := ?_); intro b) | (refine OpT.append1_ (k := ?_); intro ao cap) | (refine OpT.cutA0_ (k := ?_); intro ao cap) | (refine OpT.cutR0_ (k := ?_); intro ao cap) | (refine OpT.cutA1_ (k := ?_); intro ao cap) | (refine OpT.cutA_ (k := ?_); intro ao cap) | (refine OpT.cutR_ (k := ?_); intro ao cap)); refine And.intro gud ?_)
    (refine RunT.one_ 11 (h := ?_); (first | refine OpT.val_ (k := ?_) | (refine OpT.alloc_ (k := ?_); intro b) | (refine OpT.box_ (k := ?_); intro b) | refine OpT.store_ (k := ?_) | (refine OpT.buildSlice_ (k := ?_); intro b) | (refine OpT.buildSlice0_ (k := ?_); intro b) | (refine OpT.append1_ (k := ?_); intro ao cap) | (refine OpT.cutA0_ (k := ?_); intro ao cap) | (refine OpT.cutR0_ (k := ?_); intro ao cap) | (refine OpT.cutA1_ (k := ?_); intro ao cap) | (refine OpT.cutA_ (k := ?_); intro ao cap) | (refine OpT.cutR_ (k := ?_); intro ao cap)); refine And.intro gud ?_)
    (refine RunT.one_ 12 (h := ?_); (first | refine OpT.val_ (k := ?_) | (refine OpT.alloc_ (k := ?_); intro b) | (refine OpT.box_ (k := ?_); intro b) | refine OpT.store_ (k := ?_) | (refine OpT.buildSlice_ (k := ?_); intro b) | (refine OpT.buildSlice0_ (k := ?_); intro b) | (refine OpT.append1_ (k := ?_); intro ao cap) | (refine OpT.cutA0_ (k := ?_); intro ao cap) | (refine OpT.cutR0_ (k := ?_); intro ao cap) | (refine OpT.cutA1_ (k := ?_); intro ao cap) | (refine OpT.cutA_ (k := ?_); intro ao cap) | (refine OpT.cutR_ (k := ?_); intro ao cap)); refine And.intro gud ?_)
    (refine RunT.one_ 13 (h := ?_); refine OpT.call0_ (spec := truth_is _) (k := ?_); intro s hs; refine And.intro gud ?_; (try conv => rhs; simp only [List.cons_append, List.nil_append]))
    rw [show decide ((z.cur.st : Int) = 3) = decide (z.cur.st = 3) from decide_eq_decide.2 (by omega)]
    (refine RunT.one_ 14 (h := ?_); refine OpT.call0_ (spec := push_is' E (z.F p) z.st z.tr z.e he (z.cur.st : Int) (ptrO z.cur.upb) (.slice z.cur.fo z.cur.fr.length z.cur.fc) k1 ht.ok (Opt.yes (!decide (z.cur.st = 3)))) (r := fun w => Reads.any (by (repeat (first | exact Take.head | apply Take.tail))) E.rexcl .nil) (k := ?_); intro s hs; refine And.intro gud ?_; (try conv => rhs; simp only [List.cons_append, List.nil_append]))
    (apply RunT.done; kernel_rfl)
    obtain ⟨p1, p2⟩ := popped hz ht
    obtain ⟨t1, t2⟩ := pushed p1 hs
    repeat (first | refine go (k := ?_) | (refine goB (k := ?_); intro b) | (refine goA (k := ?_); intro ao cap))
    (refine End.done0'_ (((z.sk k1).put s)) (hp := ?_))
    refine ⟨t1, t2.trans ?_⟩
    rw [hend k1 ht, ← hqn, hz.curGet]
  · obtain ⟨ls, lt, hb⟩ := hz.inBag c3 hqn
    apply Cod.imp (fun w hm => Mem.out hm (by (repeat (first | exact Take.head | apply Take.tail))) hb)
    obtain ⟨d, hd⟩ : ∃ d, d = z.oth.getD q default := ⟨_, rfl⟩
    have hcb : z.bs.getD q default = d.cb := by rw [hd]; exact hz.bsGet c3 hqn
    rw [← hd] at hb ⊢
    apply Cod.draw 14 ([tkM p z, csM z]) (by kernel_rfl) 15 rfl
    refine RunT.takeR_ 0 (h := ?_)
    refine RunT.takeR_ 1 (h := ?_)
    refine RunT.takeR_ 2 (h := ?_)
    refine RunT.takeR_ 3 (h := ?_)
    refine RunT.takeR_ 4 (h := ?_)
    refine RunT.takeR_ 5 (h := ?_)
    (refine RunT.one_ 6 (h := ?_); refine OpT.call0_ (spec := pop_is' (z.F p) z.st z.tr (z.cur.st : Int) (ptrO z.cur.upb) (.slice z.cur.fo z.cur.fr.length z.cur.fc) E.mailV (toldV E.told) z.cur.sk hz.curOk c1) (k := ?_); intro s hs; refine And.intro gud ?_; (try conv => rhs; simp only [List.cons_append, List.nil_append]))
    obtain ⟨k1, rfl⟩ : ∃ x, x = s := ⟨_, rfl⟩
    have ht := hs
    rw [hq']
    (refine RunT.one_ 7 (h := ?_); (first | refine OpT.val_ (k := ?_) | (refine OpT.alloc_ (k := ?_); intro b) | (refine OpT.box_ (k := ?_); intro b) | refine OpT.store_ (k := ?_) | (refine OpT.buildSlice_ (k := ?_); intro b) | (refine OpT.buildSlice0_ (k := ?_); intro b) | (refine OpT.append1_ (k := ?_); intro ao cap) | (refine OpT.cutA0_ (k := ?_); intro ao cap) | (refine OpT.cutR0_ (k := ?_); intro ao cap) | (refine OpT.cutA1_ (k := ?_); intro ao cap) | (refine OpT.cutA_ (k := ?_); intro ao cap) | (refine OpT.cutR_ (k := ?_); intro ao cap)); refine And.intro gud ?_)
    (refine RunT.one_ 8 (h := ?_); (first | refine OpT.val_ (k := ?_) | (refine OpT.alloc_ (k := ?_); intro b) | (refine OpT.box_ (k := ?_); intro b) | refine OpT.store_ (k := ?_) | (refine OpT.buildSlice_ (k := ?_); intro b) | (refine OpT.buildSlice0_ (k := ?_); intro b) | (refine OpT.append1_ (k := ?_); intro ao cap) | (refine OpT.cutA0_ (k := ?_); intro ao cap) | (refine OpT.cutR0_ (k := ?_); intro ao cap) | (refine OpT.cutA1_ (k := ?_); intro ao cap) | (refine OpT.cutA_ (k := ?_); intro ao cap) | (refine OpT.cutR_ (k := ?_); intro ao cap)); refine And.intro gud ?_)
    rw [hcb]
    (refine RunT.one_ 9 (h := ?_); (first | refine OpT.val_ (k := ?_) | (refine OpT.alloc_ (k := ?_); intro b) | (refine OpT.box_ (k := ?_); intro b) | refine OpT.store_ (k := ?_) | (refine OpT.buildSlice_ (k := ?_); intro b) | (refine OpT.buildSlice0_ (k := ?_); intro b) | (refine OpT.append1_ (k := ?_); intro ao cap) | (refine OpT.cutA0_ (k := ?_); intro ao cap) | (refine OpT.cutR0_ (k := ?_); intro ao cap) | (refine OpT.cutA1_ (k := ?_); intro ao cap) | (refine OpT.cutA_ (k := ?_); intro ao cap) | (refine OpT.cutR_ (k := ?_); intro ao cap)); refine And.intro gud ?_)
    (refine RunT.one_ 10 (h := ?_); (first | refine OpT.val_ (k := ?_) | (refine OpT.alloc_ (k := ?_); intro b) | (refine OpT.box_ (k := ?_); intro b) | refine OpT.store_ (k := ?_) | (refine OpT.buildSlice_ (k := ?_); intro b) | (refine OpT.buildSlice0_ (k := ?_); intro b) | (refine OpT.append1_ (k := ?_); intro ao cap) | (refine OpT.cutA0_ (k := ?_); intro ao cap) | (refine OpT.cutR0_ (k := ?_); intro ao cap) | (refine OpT.cutA1_ (k := ?_); intro ao cap) | (refine OpT.cutA_ (k := ?_); intro ao cap) | (refine OpT.cutR_ (k := ?_); intro ao cap)); refine And.intro gud ?_)
    (refine RunT.one_ 11 (h := ?_); (first | refine OpT.val_ (k := ?_) | (refine OpT.alloc_ (k := ?_); intro b) | (refine OpT.box_ (k := ?_); intro b) | refine OpT.store_ (k := ?_) | (refine OpT.buildSlice_ (k := ?_); intro b) | (refine OpT.buildSlice0_ (k := ?_); intro b) | (refine OpT.append1_ (k := ?_); intro ao cap) | (refine OpT.cutA0_ (k := ?_); intro ao cap) | (refine OpT.cutR0_ (k := ?_); intro ao cap) | (refine OpT.cutA1_ (k := ?_); intro ao cap) | (refine OpT.cutA_ (k := ?_); intro ao cap) | (refine OpT.cutR_ (k := ?_); intro ao cap)); refine And.intro gud ?_)
    (refine RunT.one_ 12 (h := ?_); (first | refine OpT.val_ (k := ?_) | (refine OpT.alloc_ (k := ?_); intro b) | (refine OpT.box_ (k := ?_); intro b) | refine OpT.store_ (k := ?_) | (refine OpT.buildSlice_ (k := ?_); intro b) | (refine OpT.buildSlice0_ (k := ?_); intro b) | (refine OpT.append1_ (k := ?_); intro ao cap) | (refine OpT.cutA0_ (k := ?_); intro ao cap) | (refine OpT.cutR0_ (k := ?_); intro ao cap) | (refine OpT.cutA1_ (k := ?_); intro ao cap) | (refine OpT.cutA_ (k := ?_); intro ao cap) | (refine OpT.cutR_ (k := ?_); intro ao cap)); refine And.intro gud ?_)
    (refine RunT.one_ 13 (h := ?_); refine OpT.call0_ (spec := truth_is _) (k := ?_); intro s hs; refine And.intro gud ?_; (try conv => rhs; simp only [List.cons_append, List.nil_append]))
    rw [show decide ((d.st : Int) = 3) = decide (d.st = 3) from decide_eq_decide.2 (by omega)]
    (refine RunT.one_ 14 (h := ?_); refine OpT.call0_ (spec := push_is' E (z.F p) z.st z.tr z.e he (z.cur.st : Int) (ptrO z.cur.upb) (.slice z.cur.fo z.cur.fr.length z.cur.fc) k1 ht.ok (Opt.yes (!decide (d.st = 3)))) (r := fun w => Reads.any (by (repeat (first | exact Take.head | apply Take.tail))) E.rexcl .nil) (k := ?_); intro s hs; refine And.intro gud ?_; (try conv => rhs; simp only [List.cons_append, List.nil_append]))
    (apply RunT.done; kernel_rfl)
    obtain ⟨p1, p2⟩ := popped hz ht
    obtain ⟨t1, t2⟩ := pushed p1 hs
    repeat (first | refine go (k := ?_) | (refine goB (k := ?_); intro b) | (refine goA (k := ?_); intro ao cap))
    apply End.imp (fun w hm => Mem.in_ hm (by (repeat (first | exact Take.head | apply Take.tail))) (by (repeat (first | exact Takes.nil | exact Take.head | apply Take.tail | apply Takes.cons))) hb)
    (refine End.done0'_ (((z.sk k1).put s)) (hp := ?_))
    refine ⟨t1, t2.trans ?_⟩
    rw [hend k1 ht, hz.oth hqn, hd]
end Go.Proofs.Ytjehflelkpacfaa.Vw
