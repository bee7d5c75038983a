/- A thread's end; a thread resumed: walked. -/
import Derived.Test.YtfeajpghabjaaaaM30
namespace Go.Proofs.Ytfeajpghabjaaaa.Vw
open Go.RowKit Go.Proofs.Ytfeajpghabjaaaa.Img
set_option linter.unusedVariables false
set_option linter.unusedSimpArgs false
attribute [local irreducible] Run Cod End OpT Still RunQ RunS RunT Fn PutOk
variable {E : EnvM}
set_option maxRecDepth 100000 in
set_option maxHeartbeats 1000000 in
theorem end_is (p : Pl) (z : SL E) (hz : z.Wf) (hsz : E.size (E.abs z.e) ≤ 1000000) (hj : ∀ j, z.cur.up = some j → z.now ≠ j) :
    Fn Try.prog 92 #[ptr p.tb] [E.rc] (TM p z) (σ := SL E) (Gives z (Vm.endU E.V z.two)) (fun _ => .tuple #[]) (fun z' => TM p z') := by
  have he : E.okk z.e := ⟨hz.env, by omega⟩
  have hub := hz.up _ hz.curMem
  have hcur := hz.cur
  cases hup : z.cur.up with
  | none =>
    rw [hup] at hub
    have hcc : ccM z.cur = cc z.cur.cb (z.cur.st : Int) (.pointer none) (.slice z.cur.fo z.cur.fr.length z.cur.fc) z.cur.sk.sb := by unfold ccM; rw [hub]; rfl
    refine Fn.enter (args := [ptr p.tb]) Try.func92 rfl _ Try.ntmps92 rfl (by simp [rd_excl, md_excl]) (fun w S => ?_)
    (try conv => rhs; simp only [List.cons_append, List.nil_append])
    unfold TM
    rw [hcc]
    repeat (first | refine go (k := ?_) | (refine goB (k := ?_); intro b) | (refine goA (k := ?_); intro ao cap))
    ((first | (apply Run.op; exact rfl) | refine Run.yes_ (h := ?_)); refine OpT.call0_ (spec := tell_is E (z.F p) 4 z.tr z.e he 4 0 0) (r := fun w => Reads.any (by (repeat (first | exact Take.head | apply Take.tail))) E.rexcl .nil) (k := ?_); intro s hs; (try conv => rhs; simp only [List.cons_append, List.nil_append]))
    obtain ⟨k1, k2⟩ := hs
    repeat (first | refine go (k := ?_) | (refine goB (k := ?_); intro b) | (refine goA (k := ?_); intro ao cap))
    have hw1 : ({ z with cur := { z.cur with st := 3, upb := none } } : SL E).Wf := hz.setCur rfl rfl (by rw [hub]; rfl) hz.curOk
    (refine End.done0_ (({ z with cur := { z.cur with st := 3, upb := none }, st := 4, e := s } : SL E)) (hp := ?_))
    refine ⟨hw1.thr (st := 4) (tr := z.tr) k1, ?_⟩
    unfold Vm.endU
    have e1 : (Vm.cur z.two.1).up = none := (congrArg Vm.Co.up hcur).trans hup
    rw [e1]
    show (SL.tk _, E.abs s) = ({ Vm.setCur z.tk { Vm.cur z.tk with st := 3 } with st := 4 }, E.V.tell (E.abs z.e) (4, 0, 0))
    rw [k2, hcur]
    have e2 := SL.tk_cur z { z.cur with st := 3, upb := none }
    have e3 : (CoL.abs { z.cur with st := 3, upb := none }) = ({ z.cur.abs with st := 3 } : Vm.Co) := rfl
    rw [e3] at e2
    rw [← e2]
    rfl
  | some j =>
    rw [hup] at hub
    have hne := hj j hup
    have hlt := hz.upl _ hz.curMem j hup
    have hcc : ccM z.cur = cc z.cur.cb (z.cur.st : Int) (ptr (z.bs.getD j 0)) (.slice z.cur.fo z.cur.fr.length z.cur.fc) z.cur.sk.sb := by unfold ccM; rw [hub]; rfl
    refine Fn.enter (args := [ptr p.tb]) Try.func92 rfl _ Try.ntmps92 rfl (by simp [rd_excl, md_excl]) (fun w S => ?_)
    (try conv => rhs; simp only [List.cons_append, List.nil_append])
    unfold TM
    rw [hcc]
    repeat (first | refine go (k := ?_) | (refine goB (k := ?_); intro b) | (refine goA (k := ?_); intro ao cap))
    rw [hz.bsGet hlt hne]
    apply Run.imp' (fun w hm => Mem.swap1 { z.cur with st := 3, up := none, upb := none } hm (by (repeat (first | exact Take.head | apply Take.tail))) (by (repeat (first | exact Takes.nil | exact Take.head | apply Take.tail | apply Takes.cons))) hz.now hlt hne)
    have hd := hz.othMem hlt hne
    have hw1 : (z.go { z.cur with st := 3, up := none, upb := none } j (z.oth.getD j default)).Wf := hz.go hlt hne ⟨rfl, hz.curOk, rfl, fun i h => by simp at h⟩ ⟨rfl, hz.sk _ hd, hz.up _ hd, hz.upl _ hd⟩
    ((first | (apply Run.op; exact rfl) | refine Run.yes_ (h := ?_)); refine OpT.call0_ (spec := push_is' E (SL.F p (z.go { z.cur with st := 3, up := none, upb := none } j (z.oth.getD j default))) z.st z.tr z.e he ((z.oth.getD j default).st : Int) (ptrO (z.oth.getD j default).upb) (.slice (z.oth.getD j default).fo (z.oth.getD j default).fr.length (z.oth.getD j default).fc) (z.oth.getD j default).sk (hz.sk _ hd) 0) (r := fun w => Reads.any (by (repeat (first | exact Take.head | apply Take.tail))) E.rexcl .nil) (k := ?_); intro s hs; (try conv => rhs; simp only [List.cons_append, List.nil_append]))
    obtain ⟨t1, t2⟩ := pushed hw1 hs
    repeat (first | refine go (k := ?_) | (refine goB (k := ?_); intro b) | (refine goA (k := ?_); intro ao cap))
    (refine End.done0'_ (((z.go { z.cur with st := 3, up := none, upb := none } j (z.oth.getD j default)).put s)) (hp := ?_))
    refine ⟨t1, t2.trans ?_⟩
    unfold Vm.endU
    have e1 : (Vm.cur z.two.1).up = some j := (congrArg Vm.Co.up hcur).trans hup
    rw [e1]
    show Vm.push E.V 0 (SL.tk _, E.abs z.e) = Vm.push E.V 0 ({ Vm.setCur z.tk { Vm.cur z.tk with st := 3, up := none } with now := j }, E.abs z.e)
    rw [SL.go_tk' z _ hlt hne, hcur]
    rfl
/-- what a thread's resumption does, the two words taken -/
def resR {ν : Type} (V : Vm.Env ν) (k : Nat) (v : Int) (s : Vm.Tk × ν) : Vm.Tk × ν :=
  if (s.1.cs.getD k default).st = 3 then Vm.trap V 2 s
  else if (s.1.cs.getD k default).st = 2 then Vm.trap V 3 s
  else if (s.1.cs.getD k default).st = 0 then ({ Vm.setC s.1 k { s.1.cs.getD k default with st := 2, up := some s.1.now } with now := k }, s.2)
  else Vm.push V v ({ Vm.setC s.1 k { s.1.cs.getD k default with st := 2, up := some s.1.now } with now := k }, s.2)
theorem resumeU_eq {ν : Type} (V : Vm.Env ν) (s : Vm.Tk × ν) : Vm.resumeU V s = resR V (Vm.last (Vm.drop 1 s.1)).toNat (Vm.last s.1) (Vm.drop 1 (Vm.drop 1 s.1), s.2) := rfl
theorem SL.Wf.csGet {z : SL E} (hz : z.Wf) {k : Nat} (hk : k < z.oth.length) : z.tk.cs.getD k default = (z.all.getD k default).abs := getD_map0 _ _ (by rw [z.allLen]; exact hk)
set_option maxRecDepth 100000 in
set_option maxHeartbeats 1000000 in
theorem resume_is (p : Pl) (z : SL E) (hz : z.Wf) (hsz : E.size (E.abs z.e) ≤ 1000000) (k : Nat) (hk : k < z.oth.length) (v : Int) (hg : z.cur.st = 2) (hst : (z.oth.getD k default).st ≤ 3 ∨ k = z.now) :
    Fn Try.prog 94 #[ptr p.tb, ptr (z.bs.getD k 0), .int .i64 v] [E.rc] (TM p z) (σ := SL E) (Gives z (resR E.V k v z.two)) (fun _ => .tuple #[]) (fun z' => TM p z') := by
  have he : E.okk z.e := ⟨hz.env, by omega⟩
  by_cases hkn : k = z.now
  · subst hkn
    rw [← hz.curCb]
    refine Fn.enter (args := [ptr p.tb, ptr z.cur.cb, .int .i64 v]) Try.func94 rfl _ Try.ntmps94 rfl (by simp [rd_excl, md_excl]) (fun w S => ?_)
    (try conv => rhs; simp only [List.cons_append, List.nil_append])
    repeat (first | refine go (k := ?_) | (refine goB (k := ?_); intro b) | (refine goA (k := ?_); intro ao cap))
    ((first | (apply Run.op; exact rfl) | refine Run.yes_ (h := ?_)); refine OpT.call0_ (spec := trap_is E (z.F p) z.st z.tr z.e he 3) (r := fun w => Reads.any (by (repeat (first | exact Take.head | apply Take.tail))) E.rexcl .nil) (k := ?_); intro s hs; (try conv => rhs; simp only [List.cons_append, List.nil_append]))
    repeat (first | refine go (k := ?_) | (refine goB (k := ?_); intro b) | (refine goA (k := ?_); intro ao cap))
    obtain ⟨t1, t2⟩ := trapped hz hs
    (refine End.done0_ ((z.thr s.1 s.2.1 s.2.2)) (hp := ?_))
    refine ⟨t1, t2.trans ?_⟩
    unfold resR
    have e1 : z.two.1.cs.getD z.now default = z.cur.abs := by rw [show z.two.1 = z.tk from rfl, hz.csGet hk, hz.curGet]
    rw [e1, if_neg (by show ¬ z.cur.st = 3; omega), if_pos (show z.cur.abs.st = 2 from hg)]
  · have hne : z.now ≠ k := fun h => hkn h.symm
    have hst3 : (z.oth.getD k default).st ≤ 3 := hst.resolve_right hkn
    rw [hz.bsGet hk hne]
    have e1 : z.two.1.cs.getD k default = (z.oth.getD k default).abs := by rw [show z.two.1 = z.tk from rfl, hz.csGet hk, hz.oth hne]
    have hdm := hz.othMem hk hne
    have hcd : (CoL.abs (z.oth.getD k default)).st = (z.oth.getD k default).st := rfl
    refine Fn.enter (args := [ptr p.tb, ptr (z.oth.getD k default).cb, .int .i64 v]) Try.func94 rfl _ Try.ntmps94 rfl (by simp [rd_excl, md_excl]) (fun w S => ?_)
    (try conv => rhs; simp only [List.cons_append, List.nil_append])
    apply Cod.imp (fun w hm => Mem.swap1 z.cur hm (by (repeat (first | exact Take.head | apply Take.tail))) (by (repeat (first | exact Takes.nil | exact Take.head | apply Take.tail | apply Takes.cons))) hz.now hk hne)
    obtain ⟨d, hd⟩ : ∃ d, d = z.oth.getD k default := ⟨_, rfl⟩
    rw [← hd] at e1 hdm hcd hst3 ⊢
    have hback : ∀ {w : World} {L L' F : List Chunk}, Take (bagM ((z.oth.set z.now z.cur).eraseIdx k)) L L' → Takes (coM d) L' F → Mem w L → Mem w (ccM z.cur :: frM z.cur :: blk z.cur.sk.sb (skC z.cur.sk) 151 :: arr (some ⟨z.cur.sk.lb, 0, none⟩) z.cur.sk.l.length z.cur.sk.l.length 2 i64c z.cur.sk.l :: bagM (z.oth.eraseIdx z.now) :: F) := fun t t2 hm => by
      rw [hd] at t2
      exact Mem.back1 z.cur hm t t2 hz.now hk hne
    have hself : Vm.setCur z.tk z.cur.abs = z.tk := (SL.tk_cur z z.cur).symm
    have hw1 : (z.go z.cur k { d with st := 2, up := some z.now, upb := some z.cur.cb }).Wf := hz.go hk hne ⟨rfl, hz.curOk, hz.up _ hz.curMem, hz.upl _ hz.curMem⟩ ⟨by rw [hd], (hz.sk d hdm : d.sk.Ok), by rw [hz.curCb]; rfl, fun i h => by simp at h; subst h; exact hz.now⟩
    have htk : (z.go z.cur k { d with st := 2, up := some z.now, upb := some z.cur.cb }).tk = { Vm.setC z.tk k { d.abs with st := 2, up := some z.now } with now := k } := by
      rw [SL.go_tk, hself]; rfl
    by_cases h3 : d.st = 3
    · repeat (first | refine go (k := ?_) | (refine goB (k := ?_); intro b) | (refine goA (k := ?_); intro ao cap))
      ((first | (apply Run.op; exact rfl) | refine Run.yes_ (h := ?_)); refine OpT.call0_ (spec := trap_is E (z.F p) z.st z.tr z.e he 2) (r := fun w => Reads.any (by (repeat (first | exact Take.head | apply Take.tail))) E.rexcl .nil) (k := ?_); intro s hs; (try conv => rhs; simp only [List.cons_append, List.nil_append]))
      repeat (first | refine go (k := ?_) | (refine goB (k := ?_); intro b) | (refine goA (k := ?_); intro ao cap))
      obtain ⟨t1, t2⟩ := trapped hz hs
      apply End.imp (fun w hm => hback (by (repeat (first | exact Take.head | apply Take.tail))) (by (repeat (first | exact Takes.nil | exact Take.head | apply Take.tail | apply Takes.cons))) hm)
      (refine End.done0_ ((z.thr s.1 s.2.1 s.2.2)) (hp := ?_))
      refine ⟨t1, t2.trans ?_⟩
      unfold resR
      rw [e1, if_pos (show d.abs.st = 3 from h3)]
    · by_cases h2 : d.st = 2
      · repeat (first | refine go (k := ?_) | (refine goB (k := ?_); intro b) | (refine goA (k := ?_); intro ao cap))
        ((first | (apply Run.op; exact rfl) | refine Run.yes_ (h := ?_)); refine OpT.call0_ (spec := trap_is E (z.F p) z.st z.tr z.e he 3) (r := fun w => Reads.any (by (repeat (first | exact Take.head | apply Take.tail))) E.rexcl .nil) (k := ?_); intro s hs; (try conv => rhs; simp only [List.cons_append, List.nil_append]))
        repeat (first | refine go (k := ?_) | (refine goB (k := ?_); intro b) | (refine goA (k := ?_); intro ao cap))
        obtain ⟨t1, t2⟩ := trapped hz hs
        apply End.imp (fun w hm => hback (by (repeat (first | exact Take.head | apply Take.tail))) (by (repeat (first | exact Takes.nil | exact Take.head | apply Take.tail | apply Takes.cons))) hm)
        (refine End.done0_ ((z.thr s.1 s.2.1 s.2.2)) (hp := ?_))
        refine ⟨t1, t2.trans ?_⟩
        unfold resR
        rw [e1, if_neg (show ¬ d.abs.st = 3 from h3), if_pos (show d.abs.st = 2 from h2)]
      · by_cases h0 : d.st = 0
        · repeat (first | refine go (k := ?_) | (refine goB (k := ?_); intro b) | (refine goA (k := ?_); intro ao cap))
          (refine End.done0'_ ((z.go z.cur k { d with st := 2, up := some z.now, upb := some z.cur.cb })) (hp := ?_))
          refine ⟨hw1, ?_⟩
          unfold resR
          rw [e1, if_neg (show ¬ d.abs.st = 3 from h3), if_neg (show ¬ d.abs.st = 2 from h2), if_pos (show d.abs.st = 0 from h0)]
          show (SL.tk _, E.abs z.e) = _
          rw [htk]
          rfl
        · repeat (first | refine go (k := ?_) | (refine goB (k := ?_); intro b) | (refine goA (k := ?_); intro ao cap))
          ((first | (apply Run.op; exact rfl) | refine Run.yes_ (h := ?_)); refine OpT.call0_ (spec := push_is' E (SL.F p (z.go z.cur k { d with st := 2, up := some z.now, upb := some z.cur.cb })) z.st z.tr z.e he 2 (ptr z.cur.cb) (.slice d.fo d.fr.length d.fc) d.sk (hz.sk _ hdm) v) (r := fun w => Reads.any (by (repeat (first | exact Take.head | apply Take.tail))) E.rexcl .nil) (k := ?_); intro s hs; (try conv => rhs; simp only [List.cons_append, List.nil_append]))
          obtain ⟨t1, t2⟩ := pushed hw1 hs
          repeat (first | refine go (k := ?_) | (refine goB (k := ?_); intro b) | (refine goA (k := ?_); intro ao cap))
          (refine End.done0'_ (((z.go z.cur k { d with st := 2, up := some z.now, upb := some z.cur.cb }).put s)) (hp := ?_))
          refine ⟨t1, t2.trans ?_⟩
          unfold resR
          rw [e1, if_neg (show ¬ d.abs.st = 3 from h3), if_neg (show ¬ d.abs.st = 2 from h2), if_neg (show ¬ d.abs.st = 0 from h0)]
          show Vm.push E.V v (SL.tk _, E.abs z.e) = _
          rw [htk]
          rfl
end Go.Proofs.Ytfeajpghabjaaaa.Vw

/- What has to do with other units, walked. -/
namespace Go.Proofs.Ytfeajpghabjaaaa.Vw
open Go.RowKit Go.Proofs.Ytfeajpghabjaaaa.Img
set_option linter.unusedVariables false
set_option linter.unusedSimpArgs false
attribute [local irreducible] Run Cod End OpT Still RunQ RunS RunT Fn PutOk
variable {E : EnvM}
/-- a unit that may be called, or started -/
structure CanU (m : ML) (z : SL E) (i : ImgM.Ins) : Prop where
  a0 : 0 ≤ i.a
  lt : i.a.toNat < m.us.length
  p0 : 0 ≤ (m.us.getD i.a.toNat default).u.params
  pl : (m.us.getD i.a.toNat default).u.params.toNat ≤ z.cur.sk.live
  pL : (m.us.getD i.a.toNat default).u.params.toNat ≤ (m.us.getD i.a.toNat default).u.locals.length
  few : (m.us.getD i.a.toNat default).u.locals.length ≤ 200
  fr : z.cur.fr.length ≤ 40
abbrev SL.top (z : SL E) (n : Nat) : Int := z.cur.sk.ws.getD (z.cur.sk.live - n) 0
/-- what must be known that an instruction that has to do with other units can be done -/
structure CanI (m : ML) (z : SL E) (i : ImgM.Ins) : Prop where
  call : i.op = 23 ∨ i.op = 29 → CanU m z i
  ret : i.op = 24 → 0 < z.cur.sk.live ∧ z.cur.fr ≠ [] ∧ z.cur.fr.length ≤ 40 ∧ z.f.base ≤ z.cur.sk.live - 1
  fin : i.op = 25 → ∀ j, z.cur.up = some j → z.now ≠ j
  res : i.op = 30 → 2 ≤ z.cur.sk.live ∧ 0 ≤ z.top 2 ∧ (z.top 2).toNat < z.oth.length ∧ z.cur.st = 2 ∧ ((z.oth.getD (z.top 2).toNat default).st ≤ 3 ∨ (z.top 2).toNat = z.now)
  yld : i.op = 31 → 0 < z.cur.sk.live ∧ ∃ j, z.cur.up = some j ∧ z.now ≠ j
  size : E.size (E.abs z.e) ≤ 1000000
  alv : i.op = 32 → 0 < z.cur.sk.live ∧ 0 ≤ z.top 1 ∧ (z.top 1).toNat < z.oth.length
set_option maxRecDepth 100000 in
set_option maxHeartbeats 1000000 in
theorem units1_is (p : Pl) (z : SL E) (hz : z.Wf) (i : ImgM.Ins) (hi : CanI p.m z i) (h1 : i.op = 23 ∨ i.op = 24 ∨ i.op = 25) :
    Fn Try.prog 56 #[ptr p.tb, insV i] [md p.m, E.rc] (TM p z) (σ := SL E) (Gives z (Vm.exec E.V p.m.mdl i z.two)) (fun _ => .tuple #[]) (fun z' => TM p z') := by
  have he : E.okk z.e := ⟨hz.env, by have := hi.size; omega⟩
  refine Fn.enter (args := [ptr p.tb, insV i]) Try.func56 rfl _ Try.ntmps56 rfl (by simp [rd_excl, md_excl]) (fun w S => ?_)
  (try conv => rhs; simp only [List.cons_append, List.nil_append])
  rcases h1 with h1 | h1 | h1
  · obtain ⟨c1, c2, c3, c4, c5, c6, c7⟩ := hi.call (.inl h1)
    have hc := call_is p z hz hi.size i.a.toNat c2 c3 c4 c5 c6 c7
    rw [Int.toNat_of_nonneg c1] at hc
    repeat (first | refine go (k := ?_) | (refine goB (k := ?_); intro b) | (refine goA (k := ?_); intro ao cap))
    ((first | (apply Run.op; exact rfl) | refine Run.yes_ (h := ?_)); refine OpT.call0_ (spec := hc) (r := fun w => Reads.md (by (repeat (first | exact Take.head | apply Take.tail))) (Reads.any (by (repeat (first | exact Take.head | apply Take.tail))) E.rexcl .nil)) (k := ?_); intro s hs; (try conv => rhs; simp only [List.cons_append, List.nil_append]))
    repeat (first | refine go (k := ?_) | (refine goB (k := ?_); intro b) | (refine goA (k := ?_); intro ao cap))
    (refine End.done0'_ (s) (hp := ?_))
    refine ⟨hs.wf, hs.two.trans ?_⟩
    unfold Vm.exec
    simp [h1]
  · obtain ⟨c1, c2, c3, c4⟩ := hi.ret h1
    have hl : 0 < z.cur.fr.length := List.length_pos_iff.2 c2
    have w1 : IntKind.i64.wrap ((z.cur.fr.length : Int) - 1) = ((z.cur.fr.length - 1 : Nat) : Int) := by rw [wrap_i64_in (by omega)]; omega
    repeat (first | refine go (k := ?_) | (refine goB (k := ?_); intro b) | (refine goA (k := ?_); intro ao cap))
    (apply Run.op; exact rfl; refine OpT.call0_ (spec := pop_is' (z.F p) z.st z.tr (z.cur.st : Int) (ptrO z.cur.upb) (.slice z.cur.fo z.cur.fr.length z.cur.fc) E.mailV (toldV E.told) z.cur.sk hz.curOk c1) (k := ?_); intro s hs; (try conv => rhs; simp only [List.cons_append, List.nil_append]))
    obtain ⟨k1, rfl⟩ : ∃ x, x = s := ⟨_, rfl⟩
    have ht := hs
    have hlv : k1.live = z.cur.sk.live - 1 := by have h := ht.live; have h2 := Sk.len hz.curOk; rw [List.length_take] at h; omega
    have w3 : IntKind.i64.wrap ((k1.live : Int) - (z.f.base : Int)) = ((k1.live - z.f.base : Nat) : Int) := by have := ht.ok.live; have := ht.ok.hi; rw [wrap_i64_in (by omega)]; omega
    repeat (first | refine go (k := ?_) | (refine goB (k := ?_); intro b) | (refine goA (k := ?_); intro ao cap))
    apply Cod.draw 13 ([cc z.cur.cb (z.cur.st : Int) (ptrO z.cur.upb) (.slice z.cur.fo z.cur.fr.length z.cur.fc) k1.sb, frM z.cur]) (by kernel_rfl) 14 rfl
    refine RunT.takeR_ 0 (h := ?_)
    refine RunT.takeR_ 1 (h := ?_)
    refine RunT.takeR_ 2 (h := ?_)
    refine RunT.takeR_ 3 (h := ?_)
    refine RunT.takeR_ 4 (h := ?_)
    refine RunT.takeR_ 5 (h := ?_)
    refine RunT.takeR_ 6 (h := ?_)
    refine RunT.takeR_ 7 (h := ?_)
    refine RunT.takeR_ 8 (h := ?_)
    refine RunT.takeR_ 9 (h := ?_)
    refine RunT.takeR_ 10 (h := ?_)
    refine RunT.takeR_ 11 (h := ?_)
    (refine RunT.one_ 12 (h := ?_); (first | refine OpT.val_ (k := ?_) | (refine OpT.alloc_ (k := ?_); intro b) | (refine OpT.box_ (k := ?_); intro b) | refine OpT.store_ (k := ?_) | (refine OpT.buildSlice_ (k := ?_); intro b) | (refine OpT.buildSlice0_ (k := ?_); intro b) | (refine OpT.append1_ (k := ?_); intro ao cap) | (refine OpT.cutA0_ (k := ?_); intro ao cap) | (refine OpT.cutR0_ (k := ?_); intro ao cap) | (refine OpT.cutA1_ (k := ?_); intro ao cap) | (refine OpT.cutA_ (k := ?_); intro ao cap) | (refine OpT.cutR_ (k := ?_); intro ao cap)); refine And.intro gud ?_)
    (refine RunT.one_ 13 (h := ?_); (first | refine OpT.val_ (k := ?_) | (refine OpT.alloc_ (k := ?_); intro b) | (refine OpT.box_ (k := ?_); intro b) | refine OpT.store_ (k := ?_) | (refine OpT.buildSlice_ (k := ?_); intro b) | (refine OpT.buildSlice0_ (k := ?_); intro b) | (refine OpT.append1_ (k := ?_); intro ao cap) | (refine OpT.cutA0_ (k := ?_); intro ao cap) | (refine OpT.cutR0_ (k := ?_); intro ao cap) | (refine OpT.cutA1_ (k := ?_); intro ao cap) | (refine OpT.cutA_ (k := ?_); intro ao cap) | (refine OpT.cutR_ (k := ?_); intro ao cap)); refine And.intro gud ?_)
    (apply RunT.done; kernel_rfl)
    obtain ⟨fb, rfl⟩ : ∃ x, x = b := ⟨_, rfl⟩
    repeat (first | refine go (k := ?_) | (refine goB (k := ?_); intro b) | (refine goA (k := ?_); intro ao cap))
    apply Cod.draw 14 ([cc z.cur.cb (z.cur.st : Int) (ptrO z.cur.upb) (.slice z.cur.fo z.cur.fr.length z.cur.fc) k1.sb]) (by kernel_rfl) 15 rfl
    refine RunT.takeR_ 0 (h := ?_)
    refine RunT.takeR_ 1 (h := ?_)
    refine RunT.takeR_ 2 (h := ?_)
    refine RunT.takeR_ 3 (h := ?_)
    refine RunT.takeR_ 4 (h := ?_)
    refine RunT.takeR_ 5 (h := ?_)
    refine RunT.takeR_ 6 (h := ?_)
    refine RunT.takeR_ 7 (h := ?_)
    refine RunT.takeR_ 8 (h := ?_)
    refine RunT.takeR_ 9 (h := ?_)
    refine RunT.takeR_ 10 (h := ?_)
    (refine RunT.one_ 11 (h := ?_); (first | refine OpT.val_ (k := ?_) | (refine OpT.alloc_ (k := ?_); intro b) | (refine OpT.box_ (k := ?_); intro b) | refine OpT.store_ (k := ?_) | (refine OpT.buildSlice_ (k := ?_); intro b) | (refine OpT.buildSlice0_ (k := ?_); intro b) | (refine OpT.append1_ (k := ?_); intro ao cap) | (refine OpT.cutA0_ (k := ?_); intro ao cap) | (refine OpT.cutR0_ (k := ?_); intro ao cap) | (refine OpT.cutA1_ (k := ?_); intro ao cap) | (refine OpT.cutA_ (k := ?_); intro ao cap) | (refine OpT.cutR_ (k := ?_); intro ao cap)); refine And.intro gud ?_)
    refine RunT.takeR_ 12 (h := ?_)
    refine RunT.takeR_ 13 (h := ?_)
    (refine RunT.one_ 14 (h := ?_); (first | refine OpT.val_ (k := ?_) | (refine OpT.alloc_ (k := ?_); intro b) | (refine OpT.box_ (k := ?_); intro b) | refine OpT.store_ (k := ?_) | (refine OpT.buildSlice_ (k := ?_); intro b) | (refine OpT.buildSlice0_ (k := ?_); intro b) | (refine OpT.append1_ (k := ?_); intro ao cap) | (refine OpT.cutA0_ (k := ?_); intro ao cap) | (refine OpT.cutR0_ (k := ?_); intro ao cap) | (refine OpT.cutA1_ (k := ?_); intro ao cap) | (refine OpT.cutA_ (k := ?_); intro ao cap) | (refine OpT.cutR_ (k := ?_); intro ao cap)); refine And.intro gud ?_)
    (apply RunT.done; kernel_rfl)
    repeat (first | refine go (k := ?_) | (refine goB (k := ?_); intro b) | (refine goA (k := ?_); intro ao cap))
    apply Cod.draw 12 ([cc z.cur.cb (z.cur.st : Int) (ptrO z.cur.upb) (.slice ao (z.cur.fr.length - 1) cap) k1.sb, blk fb (frC z.f) 107]) (by kernel_rfl) 13 rfl
    refine RunT.takeR_ 0 (h := ?_)
    refine RunT.takeR_ 1 (h := ?_)
    refine RunT.takeR_ 2 (h := ?_)
    refine RunT.takeR_ 3 (h := ?_)
    refine RunT.takeR_ 4 (h := ?_)
    refine RunT.takeR_ 5 (h := ?_)
    refine RunT.takeR_ 6 (h := ?_)
    refine RunT.takeR_ 7 (h := ?_)
    refine RunT.takeR_ 9 (h := ?_)
    refine RunT.takeR_ 10 (h := ?_)
    (refine RunT.one_ 8 (h := ?_); refine OpT.call0_ (spec := live_is k1) (k := ?_); intro s hs; refine And.intro gud ?_; (try conv => rhs; simp only [List.cons_append, List.nil_append]))
    refine RunT.takeR_ 11 (h := ?_)
    (refine RunT.one_ 12 (h := ?_); refine OpT.call0_ (spec := pop_stk k1 ht.ok (k1.live - z.f.base) (by omega)) (k := ?_); intro s hs; refine And.intro gud ?_; (try conv => rhs; simp only [List.cons_append, List.nil_append]))
    (apply RunT.done; kernel_rfl)
    obtain ⟨k2, rfl⟩ : ∃ x, x = s := ⟨_, rfl⟩
    have ht2 := hs
    have ht3 : SkTo z.cur.sk k2 ((z.cur.sk.ws.take (z.cur.sk.live - 1)).take z.f.base) := ⟨ht2.ok, ht2.sb.trans ht.sb, by rw [ht2.ws, ht.ws]; congr 1; omega, by have h := ht2.live; rw [ht.ws] at h; rw [h]; congr 2; omega⟩
    have hsb : k1.sb = k2.sb := ht2.sb.symm
    rw [hsb]
    repeat (first | refine go (k := ?_) | (refine goB (k := ?_); intro b) | (refine goA (k := ?_); intro ao cap))
    have hw2 : ({ z with cur := { z.cur with fo := ao, fc := cap, fr := z.cur.fr.take (z.cur.fr.length - 1), sk := k2 } } : SL E).Wf := hz.setCur rfl rfl rfl ht3.ok
    ((first | (apply Run.op; exact rfl) | refine Run.yes_ (h := ?_)); refine OpT.call0_ (spec := push_is' E (z.F p) z.st z.tr z.e he (z.cur.st : Int) (ptrO z.cur.upb) (.slice ao (z.cur.fr.length - 1) cap) k2 ht3.ok (z.top 1)) (r := fun w => Reads.any (by (repeat (first | exact Take.head | apply Take.tail))) E.rexcl .nil) (k := ?_); intro s hs; (try conv => rhs; simp only [List.cons_append, List.nil_append]))
    obtain ⟨t1, t2⟩ := pushed hw2 hs
    repeat (first | refine go (k := ?_) | (refine goB (k := ?_); intro b) | (refine goA (k := ?_); intro ao cap))
    (refine End.done0'_ ((SL.put { z with cur := { z.cur with fo := ao, fc := cap, fr := z.cur.fr.take (z.cur.fr.length - 1), sk := k2 } } s)) (ht := by (repeat (first | exact Takes.nil | exact Take.head | (refine Take.blkEq ?_; (focus (first | rfl | (simp; done) | (simp; omega) | omega | (simp [*]; done)))) | (refine Take.arrEq ?_ ?_; (focus (first | rfl | (simp; done) | (simp; omega) | omega | (simp [*]; done))); (focus (first | rfl | (simp; done) | (simp; omega) | omega | (simp [*]; done)))) | apply Take.tail | apply Takes.cons))) (hp := ?_))
    refine ⟨t1, t2.trans ?_⟩
    have e0 : Vm.exec E.V p.m.mdl i z.two = Vm.ret E.V z.two := by unfold Vm.exec; simp [h1]
    rw [e0]
    have e3 : CoL.abs { z.cur with fo := ao, fc := cap, fr := z.cur.fr.take (z.cur.fr.length - 1), sk := k2 } = ({ z.cur.abs with fr := z.cur.abs.fr.take (z.cur.abs.fr.length - 1), ws := (z.cur.abs.ws.take (z.cur.abs.ws.length - 1)).take (Vm.topF z.cur.abs).base } : Vm.Co) := by
      show (⟨z.cur.st, z.cur.up, _, k2.ws⟩ : Vm.Co) = ⟨_, _, _, (z.cur.sk.ws.take (z.cur.sk.ws.length - 1)).take z.f.base⟩
      rw [ht3.ws, show z.cur.sk.ws.length = z.cur.sk.live from Sk.len hz.curOk]
      rfl
    unfold Vm.ret
    show Vm.push E.V (z.top 1) (SL.tk _, E.abs z.e) = Vm.push E.V (Vm.last z.tk) (Vm.setCur z.tk { Vm.cur z.tk with fr := (Vm.cur z.tk).fr.take ((Vm.cur z.tk).fr.length - 1), ws := ((Vm.cur z.tk).ws.take ((Vm.cur z.tk).ws.length - 1)).take (Vm.topF (Vm.cur z.tk)).base }, E.abs z.e)
    rw [hz.last, SL.tk_cur, hz.cur, e3]
  · have hc := end_is p z hz hi.size (hi.fin h1)
    repeat (first | refine go (k := ?_) | (refine goB (k := ?_); intro b) | (refine goA (k := ?_); intro ao cap))
    ((first | (apply Run.op; exact rfl) | refine Run.yes_ (h := ?_)); refine OpT.call0_ (spec := hc) (r := fun w => Reads.any (by (repeat (first | exact Take.head | apply Take.tail))) E.rexcl .nil) (k := ?_); intro s hs; (try conv => rhs; simp only [List.cons_append, List.nil_append]))
    repeat (first | refine go (k := ?_) | (refine goB (k := ?_); intro b) | (refine goA (k := ?_); intro ao cap))
    (refine End.done0'_ (s) (hp := ?_))
    refine ⟨hs.wf, hs.two.trans ?_⟩
    unfold Vm.exec
    simp [h1]
end Go.Proofs.Ytfeajpghabjaaaa.Vw

/- What has to do with other threads, walked: yield, resume, alive. -/
namespace Go.Proofs.Ytfeajpghabjaaaa.Vw
open Go.RowKit Go.Proofs.Ytfeajpghabjaaaa.Img
set_option linter.unusedVariables false
set_option linter.unusedSimpArgs false
attribute [local irreducible] Run Cod End OpT Still RunQ RunS RunT Fn PutOk
variable {E : EnvM}
set_option maxRecDepth 100000 in
set_option maxHeartbeats 1000000 in
theorem units2_is (p : Pl) (z : SL E) (hz : z.Wf) (i : ImgM.Ins) (hi : CanI p.m z i) (h1 : i.op = 31) :
    Fn Try.prog 56 #[ptr p.tb, insV i] [md p.m, E.rc] (TM p z) (σ := SL E) (Gives z (Vm.exec E.V p.m.mdl i z.two)) (fun _ => .tuple #[]) (fun z' => TM p z') := by
  have he : E.okk z.e := ⟨hz.env, by have := hi.size; omega⟩
  have e0 : Vm.exec E.V p.m.mdl i z.two = Vm.yieldU E.V z.two := by unfold Vm.exec; simp [h1]
  rw [e0]
  obtain ⟨c1, j, hup, hne⟩ := hi.yld h1
  have hub := hz.up _ hz.curMem
  rw [hup] at hub
  have hlt := hz.upl _ hz.curMem j hup
  have hcc : ccM z.cur = cc z.cur.cb (z.cur.st : Int) (ptr (z.bs.getD j 0)) (.slice z.cur.fo z.cur.fr.length z.cur.fc) z.cur.sk.sb := by unfold ccM; rw [hub]; rfl
  refine Fn.enter (args := [ptr p.tb, insV i]) Try.func56 rfl _ Try.ntmps56 rfl (by simp [rd_excl, md_excl]) (fun w S => ?_)
  (try conv => rhs; simp only [List.cons_append, List.nil_append])
  unfold TM
  rw [hcc]
  repeat (first | refine go (k := ?_) | (refine goB (k := ?_); intro b) | (refine goA (k := ?_); intro ao cap))
  (apply Run.op; exact rfl; refine OpT.call0_ (spec := pop_is' (z.F p) z.st z.tr (z.cur.st : Int) (ptr (z.bs.getD j 0)) (.slice z.cur.fo z.cur.fr.length z.cur.fc) E.mailV (toldV E.told) z.cur.sk hz.curOk c1) (k := ?_); intro s hs; (try conv => rhs; simp only [List.cons_append, List.nil_append]))
  obtain ⟨k1, rfl⟩ : ∃ x, x = s := ⟨_, rfl⟩
  have ht := hs
  repeat (first | refine go (k := ?_) | (refine goB (k := ?_); intro b) | (refine goA (k := ?_); intro ao cap))
  rw [hz.bsGet hlt hne]
  apply Run.imp' (fun w hm => Mem.swap1 { z.cur with st := 1, up := none, upb := none, sk := k1 } hm (by (repeat (first | exact Take.head | apply Take.tail))) (by (repeat (first | exact Takes.nil | exact Take.head | apply Take.tail | apply Takes.cons))) hz.now hlt hne)
  have hd := hz.othMem hlt hne
  have hw1 : (z.go { z.cur with st := 1, up := none, upb := none, sk := k1 } j (z.oth.getD j default)).Wf := hz.go hlt hne ⟨rfl, ht.ok, rfl, fun i h => by simp at h⟩ ⟨rfl, hz.sk _ hd, hz.up _ hd, hz.upl _ hd⟩
  ((first | (apply Run.op; exact rfl) | refine Run.yes_ (h := ?_)); refine OpT.call0_ (spec := push_is' E (SL.F p (z.go { z.cur with st := 1, up := none, upb := none, sk := k1 } j (z.oth.getD j default))) z.st z.tr z.e he ((z.oth.getD j default).st : Int) (ptrO (z.oth.getD j default).upb) (.slice (z.oth.getD j default).fo (z.oth.getD j default).fr.length (z.oth.getD j default).fc) (z.oth.getD j default).sk (hz.sk _ hd) (z.top 1)) (r := fun w => Reads.any (by (repeat (first | exact Take.head | apply Take.tail))) E.rexcl .nil) (k := ?_); intro s hs; (try conv => rhs; simp only [List.cons_append, List.nil_append]))
  obtain ⟨t1, t2⟩ := pushed hw1 hs
  repeat (first | refine go (k := ?_) | (refine goB (k := ?_); intro b) | (refine goA (k := ?_); intro ao cap))
  (refine End.done0'_ (((z.go { z.cur with st := 1, up := none, upb := none, sk := k1 } j (z.oth.getD j default)).put s)) (hp := ?_))
  refine ⟨t1, t2.trans ?_⟩
  obtain ⟨p1, p2⟩ := popped hz ht
  unfold Vm.yieldU
  have e4 : Vm.cur (Vm.drop 1 z.tk) = ({ z.cur with sk := k1 } : CoL).abs := by rw [← p2]; exact p1.cur
  show Vm.push E.V (z.top 1) (SL.tk _, E.abs z.e) = Vm.push E.V (Vm.last z.tk) ({ Vm.setCur (Vm.drop 1 z.tk) { Vm.cur (Vm.drop 1 z.tk) with st := 1, up := none } with now := (Vm.cur (Vm.drop 1 z.tk)).up.getD 0 }, E.abs z.e)
  rw [hz.last, SL.go_tk' z _ hlt hne, e4, ← p2, show (z.sk k1).tk = Vm.setCur z.tk (CoL.abs { z.cur with sk := k1 }) from SL.tk_cur z _, Vm.set_set, show (CoL.abs { z.cur with sk := k1 }).up = some j from hup]
  rfl
set_option maxRecDepth 100000 in
set_option maxHeartbeats 1000000 in
theorem units3_is (p : Pl) (z : SL E) (hz : z.Wf) (i : ImgM.Ins) (hi : CanI p.m z i) (h1 : i.op = 30) :
    Fn Try.prog 56 #[ptr p.tb, insV i] [md p.m, E.rc] (TM p z) (σ := SL E) (Gives z (Vm.exec E.V p.m.mdl i z.two)) (fun _ => .tuple #[]) (fun z' => TM p z') := by
  have he : E.okk z.e := ⟨hz.env, by have := hi.size; omega⟩
  have e0 : Vm.exec E.V p.m.mdl i z.two = Vm.resumeU E.V z.two := by unfold Vm.exec; simp [h1]
  rw [e0]
  obtain ⟨c1, c2, c3, c4, c5⟩ := hi.res h1
  obtain ⟨q, hq⟩ := Int.eq_ofNat_of_zero_le c2
  rw [hq] at c3 c5
  simp only [Int.toNat_natCast, Int.ofNat_eq_natCast] at c3 c5 hq
  refine Fn.enter (args := [ptr p.tb, insV i]) Try.func56 rfl _ Try.ntmps56 rfl (by simp [rd_excl, md_excl]) (fun w S => ?_)
  (try conv => rhs; simp only [List.cons_append, List.nil_append])
  repeat (first | refine go (k := ?_) | (refine goB (k := ?_); intro b) | (refine goA (k := ?_); intro ao cap))
  apply Cod.draw 11 ([tkM p z, csM z]) (by kernel_rfl) 12 rfl
  refine RunT.takeR_ 0 (h := ?_)
  refine RunT.takeR_ 6 (h := ?_)
  refine RunT.takeR_ 2 (h := ?_)
  refine RunT.takeR_ 3 (h := ?_)
  refine RunT.takeR_ 4 (h := ?_)
  refine RunT.takeR_ 5 (h := ?_)
  (refine RunT.one_ 1 (h := ?_); refine OpT.call0_ (spec := pop_is' (z.F p) z.st z.tr (z.cur.st : Int) (ptrO z.cur.upb) (.slice z.cur.fo z.cur.fr.length z.cur.fc) E.mailV (toldV E.told) z.cur.sk hz.curOk (by omega)) (k := ?_); intro s hs; refine And.intro gud ?_; (try conv => rhs; simp only [List.cons_append, List.nil_append]))
  obtain ⟨k1, rfl⟩ : ∃ x, x = s := ⟨_, rfl⟩
  have ht := hs
  have hlv : k1.live = z.cur.sk.live - 1 := by have h := ht.live; have h2 := Sk.len hz.curOk; rw [List.length_take] at h; omega
  (refine RunT.one_ 7 (h := ?_); refine OpT.call0_ (spec := pop_is' (z.F p) z.st z.tr (z.cur.st : Int) (ptrO z.cur.upb) (.slice z.cur.fo z.cur.fr.length z.cur.fc) E.mailV (toldV E.told) k1 ht.ok (by omega)) (k := ?_); intro s hs; refine And.intro gud ?_; (try conv => rhs; simp only [List.cons_append, List.nil_append]))
  obtain ⟨k2, rfl⟩ : ∃ x, x = s := ⟨_, rfl⟩
  have ht2 := hs
  have hv2 : k1.ws.getD (k1.live - 1) 0 = (q : Int) := by
    rw [← hq, ht.ws, hlv]
    show (z.cur.sk.ws.take (z.cur.sk.live - 1)).getD (z.cur.sk.live - 1 - 1) 0 = z.cur.sk.ws.getD (z.cur.sk.live - 2) 0
    rw [List.getD_eq_getElem?_getD, List.getD_eq_getElem?_getD, List.getElem?_take, if_pos (by omega), Nat.sub_sub]
  rw [hv2]
  have hqb : q < z.bs.length := by rw [hz.len]; exact c3
  refine RunT.takeR_ 8 (h := ?_)
  refine RunT.takeR_ 9 (h := ?_)
  refine RunT.takeR_ 10 (h := ?_)
  refine RunT.one_ 11 (h := OpT.val_ (k := And.intro gud ?_))
  (apply RunT.done; kernel_rfl)
  obtain ⟨p1, p2⟩ := popped hz ht
  obtain ⟨p3, p4⟩ := popped p1 ht2
  have hr := resume_is p (z.sk k2) p3 hi.size q c3 (z.top 1) c4 c5
  repeat (first | refine go (k := ?_) | (refine goB (k := ?_); intro b) | (refine goA (k := ?_); intro ao cap))
  ((first | (apply Run.op; exact rfl) | refine Run.yes_ (h := ?_)); refine OpT.call0_ (spec := hr) (r := fun w => Reads.any (by (repeat (first | exact Take.head | apply Take.tail))) E.rexcl .nil) (k := ?_); intro s hs; (try conv => rhs; simp only [List.cons_append, List.nil_append]))
  repeat (first | refine go (k := ?_) | (refine goB (k := ?_); intro b) | (refine goA (k := ?_); intro ao cap))
  (refine End.done0'_ (s) (hp := ?_))
  refine ⟨hs.wf, hs.two.trans ?_⟩
  rw [resumeU_eq]
  show resR E.V q (z.top 1) ((z.sk k2).tk, E.abs z.e) = resR E.V (Vm.last (Vm.drop 1 z.tk)).toNat (Vm.last z.tk) (Vm.drop 1 (Vm.drop 1 z.tk), E.abs z.e)
  rw [← p2, hz.last, p1.last, ← p4]
  show _ = resR E.V (k1.ws.getD (k1.live - 1) 0).toNat _ _
  rw [hv2]
  rfl
end Go.Proofs.Ytfeajpghabjaaaa.Vw
