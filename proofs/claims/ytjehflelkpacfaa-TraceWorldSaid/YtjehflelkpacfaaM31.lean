/- All tasks and boxes of a module, laid, walked. -/
import Derived.Test.YtjehflelkpacfaaM30
namespace Go.Proofs.Ytjehflelkpacfaa.Vw
open Go.RowKit Go.Proofs.Ytjehflelkpacfaa.Img
set_option linter.unusedVariables false
set_option linter.unusedSimpArgs false
attribute [local irreducible] Run Cod End OpT Still RunQ RunS RunT Fn PutOk
abbrev TkL.born (tb ob : Nat) (c : CoL) : TkL := ⟨tb, some ⟨ob, 0, none⟩, 1, [c.cb], [c], 0, c, 1, 0, 0, none, 0, []⟩
theorem born_tk {m : ML} {u : Nat} {c : CoL} (h : Born u (m.us.getD u default).u.locals.length c) (tb ob : Nat) : (TkL.born tb ob c).Wf ∧ (TkL.born tb ob c).tk = Vm.new m.mdl u := by
  have hall : (TkL.born tb ob c).all = [c] := rfl
  refine ⟨⟨Nat.zero_lt_one, rfl, by simp, fun i hi => ?_, fun d hd => ?_, fun d hd j hj => ?_, fun d hd => ?_⟩, ?_⟩
  · have : i = 0 := by simpa using hi
    subst this; rfl
  · rw [hall] at hd; simp at hd; subst hd
    rw [h.up, h.upb]; rfl
  · rw [hall] at hd; simp at hd; subst hd
    rw [h.up] at hj; cases hj
  · rw [hall] at hd; simp at hd; subst hd
    exact h.ok
  · unfold TkL.tk Vm.new
    rw [hall]
    simp only [List.map_cons, List.map_nil]
    congr 2
    unfold CoL.abs Vm.begin
    rw [h.st, h.up, h.fr, h.ws]
    have e1 : (Vm.unt m.mdl u).locals.length = (m.us.getD u default).u.locals.length := by unfold Vm.unt; rw [ML.unit_at]
    simp only [Vm.Co.mk.injEq, List.cons.injEq, and_true, true_and]
    rw [e1]
    refine List.ext_getElem (by simp) fun i h1 h2 => ?_
    simp
/-- all that begin lays -/
structure BegL where
  xb : Nat
  bo : Option Addr
  bc : Nat
  rs : List Ring
  to : Option Addr
  tc : Nat
  ts : List TkL
structure BegL.Ok (m : ML) (s : BegL) : Prop where
  rlen : s.rs.length = m.bx.length
  ring : ∀ b, b < m.bx.length → (s.rs.getD b default).Ok ∧ (s.rs.getD b default).l.length = Vm.capN m.mdl b ∧ (s.rs.getD b default).n = 0
  ts : s.ts.map TkL.tk = (Vm.tasks m.mdl).map (Vm.new m.mdl)
  wf : ∀ t ∈ s.ts, t.Wf
abbrev bxV (bo : Option Addr) (n bc : Nat) : Value := .iface 78 (.slice bo n bc)
abbrev BegL.mem (m : ML) (mb : Nat) (s : BegL) : List Chunk := [blk s.xb (maC s.to s.ts.length s.tc s.bo s.rs.length s.bc 0) 80, blk mb (mdV m) 25, arr s.to s.ts.length s.tc 81 ptrC (s.ts.map (·.tb)), arr s.bo s.rs.length s.bc 93 ptrC (s.rs.map (·.bb)), bag (s.rs.flatMap rgM), tksM mb (bxV s.bo s.rs.length s.bc) (fun _ => .nilFunc) s.ts]
set_option maxRecDepth 100000 in
set_option maxHeartbeats 2000000 in
theorem begin2_is (mb : Nat) (m : ML) (hb30 : m.bx.length ≤ 30) (hu30 : m.us.length ≤ 30) (hcap : ∀ b, b < m.bx.length → 1 ≤ (m.bx.getD b default).2 ∧ (m.bx.getD b default).2 ≤ 20) (hloc : ∀ k, k < m.us.length → (m.us.getD k default).u.locals.length ≤ 200) :
    Fn Try.prog 23 #[ptr mb] [md m] [blk mb (mdV m) 25] (σ := BegL) (BegL.Ok m) (fun s => ptr s.xb) (BegL.mem m mb) := by
  have htl : (Vm.tasks m.mdl).length ≤ 30 := by
    rw [tasks_eq]; have := tasks_len m m.us.length; omega
  refine Fn.enter (args := [ptr mb]) Try.func23 rfl _ Try.ntmps23 rfl (by simp [rd_excl, md_excl]) (fun w S => ?_)
  (try conv => rhs; simp only [List.cons_append, List.nil_append])
  repeat (first | refine go (k := ?_) | (refine goB (k := ?_); intro b) | (refine goA (k := ?_); intro ao cap))
  obtain ⟨xb, rfl⟩ : ∃ x, x = b := ⟨_, rfl⟩
  apply Cod.imp (fun w hm => (hm.nilArr 93 ptrC).bagNil)
  refine Cod.only ((fun z => [old w S, md m, blk mb (mdV m) 25, blk xb (maC none 0 0 z.2.1 z.1 z.2.2.1 0) 80, arr z.2.1 z.1 z.2.2.1 93 ptrC (z.2.2.2.map (·.bb)), bag (z.2.2.2.flatMap rgM)]) (0, none, 0, [])) (by (repeat (first | exact Takes.nil | exact Take.head | apply Take.tail | apply Takes.cons))) ?_
  apply Cod.loop (σ := Nat × Option Addr × Nat × List Ring) (fun z => z.1 ≤ m.bx.length ∧ z.2.2.2.length = z.1 ∧ ∀ b, b < z.1 → (z.2.2.2.getD b default).Ok ∧ (z.2.2.2.getD b default).l.length = Vm.capN m.mdl b ∧ (z.2.2.2.getD b default).n = 0) (fun z => [(0, ptr mb), (3, ptr xb), (13, .slice m.bo m.bx.length m.bc), (14, .int .i64 (m.bx.length : Int)), (15, .int .i64 (z.1 : Int))]) (fun z => [old w S, md m, blk mb (mdV m) 25, blk xb (maC none 0 0 z.2.1 z.1 z.2.2.1 0) 80, arr z.2.1 z.1 z.2.2.1 93 ptrC (z.2.2.2.map (·.bb)), bag (z.2.2.2.flatMap rgM)]) (fun z => m.bx.length - z.1) (0, none, 0, [])
  rotate_left
  exact sb
  exact tks
  intro z hz K1 hK1
  (try conv => rhs; simp only [List.cons_append, List.nil_append])
  rotate_left
  · exact ⟨Nat.zero_le _, rfl, fun b hb => by omega⟩
  obtain ⟨q, bo, bc, rs⟩ := z
  obtain ⟨z1, z2, z3⟩ := hz
  dsimp only at z1 z2 z3 hK1 ⊢
  by_cases hq : q < m.bx.length
  · obtain ⟨c1, c2⟩ := hcap q hq
    have hcn : (m.bx.getD q default).2 = ((Vm.capN m.mdl q : Nat) : Int) := by unfold Vm.capN; exact (Int.toNat_of_nonneg (by omega)).symm
    have hc20 : Vm.capN m.mdl q ≤ 20 := by omega
    have hc1 : 1 ≤ Vm.capN m.mdl q := by omega
    repeat (first | refine go (k := ?_) | (refine goB (k := ?_); intro b) | (refine goA (k := ?_); intro ao cap))
    obtain ⟨ib, rfl⟩ : ∃ x, x = b := ⟨_, rfl⟩
    rw [hcn]
    apply Cod.draw 12 ([blk xb (maC none 0 0 bo q bc 0) 80, blk ib [.int .i64 (m.bx.getD q default).1, .int .i64 ((Vm.capN m.mdl q : Nat) : Int)] 53]) (by kernel_rfl) 13 rfl
    refine RunT.takeR_ 0 (h := ?_)
    refine RunT.takeR_ 1 (h := ?_)
    refine RunT.takeR_ 2 (h := ?_)
    refine RunT.takeR_ 3 (h := ?_)
    refine RunT.takeR_ 4 (h := ?_)
    refine RunT.takeR_ 5 (h := ?_)
    refine RunT.takeR_ 6 (h := ?_)
    (refine RunT.one_ 7 (h := ?_); refine OpT.call0_ (spec := new_rg (Vm.capN m.mdl q) hc20) (k := ?_); intro s hs; refine And.intro gud ?_; (try conv => rhs; simp only [List.cons_append, List.nil_append]))
    obtain ⟨nb, lb⟩ := s
    dsimp only
    (refine RunT.one_ 8 (h := ?_); (first | refine OpT.val_ (k := ?_) | (refine OpT.alloc_ (k := ?_); intro b) | (refine OpT.box_ (k := ?_); intro b) | refine OpT.store_ (k := ?_) | (refine OpT.buildSlice_ (k := ?_); intro b) | (refine OpT.buildSlice0_ (k := ?_); intro b) | (refine OpT.append1_ (k := ?_); intro ao cap) | (refine OpT.cutA0_ (k := ?_); intro ao cap) | (refine OpT.cutR0_ (k := ?_); intro ao cap) | (refine OpT.cutA1_ (k := ?_); intro ao cap) | (refine OpT.cutA_ (k := ?_); intro ao cap) | (refine OpT.cutR_ (k := ?_); intro ao cap)); refine And.intro gud ?_)
    (refine RunT.one_ 9 (h := ?_); refine OpT.append1_ (a := nb) (k := ?_); intro ao cap; refine And.intro gud ?_; (try conv => rhs; simp only [List.cons_append, List.nil_append]))
    refine RunT.takeR_ 10 (h := ?_)
    refine RunT.takeR_ 11 (h := ?_)
    (refine RunT.one_ 12 (h := ?_); (first | refine OpT.val_ (k := ?_) | (refine OpT.alloc_ (k := ?_); intro b) | (refine OpT.box_ (k := ?_); intro b) | refine OpT.store_ (k := ?_) | (refine OpT.buildSlice_ (k := ?_); intro b) | (refine OpT.buildSlice0_ (k := ?_); intro b) | (refine OpT.append1_ (k := ?_); intro ao cap) | (refine OpT.cutA0_ (k := ?_); intro ao cap) | (refine OpT.cutR0_ (k := ?_); intro ao cap) | (refine OpT.cutA1_ (k := ?_); intro ao cap) | (refine OpT.cutA_ (k := ?_); intro ao cap) | (refine OpT.cutR_ (k := ?_); intro ao cap)); refine And.intro gud ?_)
    (apply RunT.done; kernel_rfl)
    repeat (first | refine go (k := ?_) | (refine goB (k := ?_); intro b) | (refine goA (k := ?_); intro ao cap))
    obtain ⟨R, hR⟩ : ∃ R : Ring, R = ⟨nb, lb, List.replicate (Vm.capN m.mdl q) 0, 0, 0⟩ := ⟨_, rfl⟩
    have hRok : R.Ok ∧ R.l.length = Vm.capN m.mdl q ∧ R.n = 0 := by rw [hR]; exact ⟨⟨Nat.zero_le _, by simp; omega, by simp; omega⟩, by simp, rfl⟩
    apply End.imp (fun w hm => Mem.bagAdd (ds := rgM R) hm (by (repeat (first | exact Take.head | apply Take.tail))) (by rw [hR]; (repeat (first | exact Takes.nil | exact Take.head | apply Take.tail | apply Takes.cons))) (rgM_excl R))
    have hfl : rs.flatMap rgM ++ rgM R = (rs ++ [R]).flatMap rgM := by simp
    have hmp : rs.map (·.bb) ++ [nb] = (rs ++ [R]).map (·.bb) := by rw [hR]; simp
    rw [hfl, hmp]
    refine End.round0_ hK1 (q + 1, ao, cap, rs ++ [R]) ?_ ?_
    · refine ⟨by dsimp only; omega, by simp [z2], fun b hb => ?_⟩
      by_cases hbq : b < q
      · rw [show (rs ++ [R]).getD b default = rs.getD b default by simp only [List.getD_eq_getElem?_getD]; rw [List.getElem?_append_left (by omega)]]
        exact z3 b hbq
      · obtain rfl : b = q := by dsimp only at hb; omega
        rw [show (rs ++ [R]).getD b default = R by rw [← z2]; exact getD_split rs [] _]
        exact hRok
    · dsimp only; omega
  · obtain rfl : q = m.bx.length := by omega
    clear hK1
    repeat (first | refine go (k := ?_) | (refine goB (k := ?_); intro b) | (refine goA (k := ?_); intro ao cap))
    (apply Run.op; exact rfl; refine OpT.call0_ (spec := tasks_is mb m (by omega)) (k := ?_); intro s hs; (try conv => rhs; simp only [List.cons_append, List.nil_append]))
    obtain ⟨ko, kc⟩ := s
    dsimp only
    repeat (first | refine go (k := ?_) | (refine goB (k := ?_); intro b) | (refine goA (k := ?_); intro ao cap))
    apply Cod.imp (fun w hm => (hm.nilArr 81 ptrC).bagNil)
    refine Cod.only ((fun z => [old w S, md m, blk mb (mdV m) 25, arr ko (Vm.tasks m.mdl).length kc 3 natC (Vm.tasks m.mdl), blk xb (maC z.2.1 z.1 z.2.2.1 bo m.bx.length bc 0) 80, arr bo m.bx.length bc 93 ptrC (rs.map (·.bb)), bag (rs.flatMap rgM), arr z.2.1 z.1 z.2.2.1 81 ptrC (z.2.2.2.map (·.tb)), tksM mb (bxV bo m.bx.length bc) (fun _ => .nilFunc) z.2.2.2]) (0, none, 0, [])) (by (repeat (first | exact Takes.nil | exact Take.head | apply Take.tail | apply Takes.cons))) ?_
    apply Cod.loop (σ := Nat × Option Addr × Nat × List TkL) (fun z => z.1 ≤ (Vm.tasks m.mdl).length ∧ z.2.2.2.length = z.1 ∧ z.2.2.2.map TkL.tk = ((Vm.tasks m.mdl).take z.1).map (Vm.new m.mdl) ∧ ∀ t ∈ z.2.2.2, t.Wf) (fun z => [(0, ptr mb), (3, ptr xb), (33, .slice ko (Vm.tasks m.mdl).length kc), (34, .int .i64 ((Vm.tasks m.mdl).length : Int)), (35, .int .i64 (z.1 : Int))]) (fun z => [old w S, md m, blk mb (mdV m) 25, arr ko (Vm.tasks m.mdl).length kc 3 natC (Vm.tasks m.mdl), blk xb (maC z.2.1 z.1 z.2.2.1 bo m.bx.length bc 0) 80, arr bo m.bx.length bc 93 ptrC (rs.map (·.bb)), bag (rs.flatMap rgM), arr z.2.1 z.1 z.2.2.1 81 ptrC (z.2.2.2.map (·.tb)), tksM mb (bxV bo m.bx.length bc) (fun _ => .nilFunc) z.2.2.2]) (fun z => (Vm.tasks m.mdl).length - z.1) (0, none, 0, [])
    rotate_left
    exact sb
    exact tks
    intro z hz K1 hK1
    (try conv => rhs; simp only [List.cons_append, List.nil_append])
    rotate_left
    · exact ⟨Nat.zero_le _, rfl, rfl, by simp⟩
    obtain ⟨q, to, tc, ts⟩ := z
    obtain ⟨y1, y2, y3, y4⟩ := hz
    dsimp only at y1 y2 y3 y4 hK1 ⊢
    by_cases hq : q < (Vm.tasks m.mdl).length
    · obtain ⟨hu1, hu2⟩ := tasks_mem (m := m) (k := q) hq
      have hgd : (Vm.tasks m.mdl).getD q default = (Vm.tasks m.mdl).getD q 0 := rfl
      obtain ⟨u, hu⟩ : ∃ u, u = (Vm.tasks m.mdl).getD q 0 := ⟨_, rfl⟩
      rw [← hu] at hgd hu1 hu2
      have hul := hloc u hu1
      repeat (first | refine go (k := ?_) | (refine goB (k := ?_); intro b) | (refine goA (k := ?_); intro ao cap))
      rw [hgd]
      apply Cod.draw 17 ([blk xb (maC to q tc bo m.bx.length bc 0) 80]) (by kernel_rfl) 18 rfl
      refine RunT.takeR_ 0 (h := ?_)
      refine RunT.takeR_ 1 (h := ?_)
      refine RunT.takeR_ 2 (h := ?_)
      refine RunT.takeR_ 3 (h := ?_)
      refine RunT.takeR_ 4 (h := ?_)
      refine RunT.takeR_ 5 (h := ?_)
      refine RunT.takeR_ 6 (h := ?_)
      refine RunT.takeR_ 7 (h := ?_)
      refine RunT.takeR_ 8 (h := ?_)
      refine RunT.takeR_ 9 (h := ?_)
      refine RunT.takeR_ 10 (h := ?_)
      refine RunT.takeR_ 11 (hy := by exact Still.mkIfaceS (t := 0) rfl rfl) (h := ?_)
      (refine RunT.one_ 12 (h := ?_); refine OpT.call0_ (spec := new_is mb m u hu1 78 (.slice bo m.bx.length bc) hul) (k := ?_); intro s hs; refine And.intro gud ?_; (try conv => rhs; simp only [List.cons_append, List.nil_append]))
      obtain ⟨tb, ob, c⟩ := s
      dsimp only at hs ⊢
      (refine RunT.one_ 13 (h := ?_); (first | refine OpT.val_ (k := ?_) | (refine OpT.alloc_ (k := ?_); intro b) | (refine OpT.box_ (k := ?_); intro b) | refine OpT.store_ (k := ?_) | (refine OpT.buildSlice_ (k := ?_); intro b) | (refine OpT.buildSlice0_ (k := ?_); intro b) | (refine OpT.append1_ (k := ?_); intro ao cap) | (refine OpT.cutA0_ (k := ?_); intro ao cap) | (refine OpT.cutR0_ (k := ?_); intro ao cap) | (refine OpT.cutA1_ (k := ?_); intro ao cap) | (refine OpT.cutA_ (k := ?_); intro ao cap) | (refine OpT.cutR_ (k := ?_); intro ao cap)); refine And.intro gud ?_)
      (refine RunT.one_ 14 (h := ?_); refine OpT.append1_ (a := tb) (k := ?_); intro ao cap; refine And.intro gud ?_; (try conv => rhs; simp only [List.cons_append, List.nil_append]))
      refine RunT.takeR_ 15 (h := ?_)
      refine RunT.takeR_ 16 (h := ?_)
      (refine RunT.one_ 17 (h := ?_); (first | refine OpT.val_ (k := ?_) | (refine OpT.alloc_ (k := ?_); intro b) | (refine OpT.box_ (k := ?_); intro b) | refine OpT.store_ (k := ?_) | (refine OpT.buildSlice_ (k := ?_); intro b) | (refine OpT.buildSlice0_ (k := ?_); intro b) | (refine OpT.append1_ (k := ?_); intro ao cap) | (refine OpT.cutA0_ (k := ?_); intro ao cap) | (refine OpT.cutR0_ (k := ?_); intro ao cap) | (refine OpT.cutA1_ (k := ?_); intro ao cap) | (refine OpT.cutA_ (k := ?_); intro ao cap) | (refine OpT.cutR_ (k := ?_); intro ao cap)); refine And.intro gud ?_)
      (apply RunT.done; kernel_rfl)
      repeat (first | refine go (k := ?_) | (refine goB (k := ?_); intro b) | (refine goA (k := ?_); intro ao cap))
      obtain ⟨w1, w2⟩ := born_tk (m := m) hs tb ob
      apply End.imp (fun w hm => Mem.tkAdd (t := TkL.born tb ob c) hm (by (repeat (first | exact Take.head | apply Take.tail))) (by (repeat (first | exact Takes.nil | exact Take.head | apply Take.tail | apply Takes.cons))))
      have hmp : ts.map (·.tb) ++ [tb] = (ts ++ [TkL.born tb ob c]).map (·.tb) := by simp
      rw [hmp]
      refine End.round0_ hK1 (q + 1, ao, cap, ts ++ [TkL.born tb ob c]) ?_ ?_
      · refine ⟨by dsimp only; omega, by simp [y2], ?_, fun t ht => ?_⟩
        · dsimp only
          rw [List.map_append, y3, List.take_succ_eq_append_getElem hq, List.map_append]
          congr 1
          simp only [List.map_cons, List.map_nil]
          rw [w2, hu, List.getD_eq_getElem?_getD, List.getElem?_eq_getElem hq]; rfl
        · rcases List.mem_append.1 ht with ht | ht
          · exact y4 t ht
          · simp at ht; subst ht; exact w1
      · dsimp only; omega
    · obtain rfl : q = (Vm.tasks m.mdl).length := by omega
      repeat (first | refine go (k := ?_) | (refine goB (k := ?_); intro b) | (refine goA (k := ?_); intro ao cap))
      obtain ⟨B, hB⟩ : ∃ B : BegL, B = ⟨xb, bo, bc, rs, to, tc, ts⟩ := ⟨_, rfl⟩
      refine End.done1_ B (he := by rw [hB]) (ht := by (subst hB; simp only [BegL.mem, y2, z2]; exact tks)) (hp := ?_) (hx := by simp [blk_excl, arr_excl, bag_excl, tksM_excl])
      subst hB
      exact ⟨z2, z3, by rw [y3, List.take_of_length_le (Nat.le_refl _)], y4⟩
end Go.Proofs.Ytjehflelkpacfaa.Vw

/- Solo's laws, in plain Lean: with more steps a task goes on; with longer feeds it says no less; what is right runs. -/
namespace Go.Proofs.Ytjehflelkpacfaa.Vm
set_option linter.unusedVariables false
set_option linter.unusedSimpArgs false
set_option linter.unusedSectionVars false
open ImgM Ver Opt
section
variable {ν : Type} {V : Env ν} {M : Mdl}
end
/-- what was put out, what was sent: the beginning of it -/
structure Beg (r s : Tk × Ls) : Prop where
  out : r.1.out <+: s.1.out
  len : r.2.sent.length = s.2.sent.length
  sent : ∀ b, r.2.sent.getD b [] <+: s.2.sent.getD b []
theorem Beg.refl (r : Tk × Ls) : Beg r r := ⟨List.prefix_refl _, rfl, fun b => List.prefix_refl _⟩
theorem Beg.trans {a b c : Tk × Ls} (h : Beg a b) (k : Beg b c) : Beg a c := ⟨h.out.trans k.out, h.len.trans k.len, fun x => (h.sent x).trans (k.sent x)⟩
/-- alike, but how they stand -/
def Alk (t t' : Tk) : Prop := t = t' ∨ (t.st ≤ 3 ∧ ∃ a b, a ≤ 3 ∧ t' = { t with st := a, bx := b })
theorem look_alk {ν : Type} (V : Env ν) (M : Mdl) {t t' : Tk} (h : Alk t t') (s : ν) : look V M (t, s) = look V M (t', s) := by
  rcases h with rfl | ⟨h3, a, b, ha, rfl⟩
  · rfl
  · unfold look
    rw [if_pos (show (t, s).1.st ≤ 3 from h3), if_pos (show (({ t with st := a, bx := b } : Tk), s).1.st ≤ 3 from ha)]
    rfl
/-- longer feeds -/
structure Longer (M : Mdl) (F G : List (List Int)) : Prop where
  pre : ∀ b, b < M.boxes.length → F.getD b [] <+: G.getD b []
theorem look_ready {ν : Type} {V : Env ν} {M : Mdl} {r : Tk × ν} (h : (look V M r).1.st = 1) :
    r.1.st ≤ 3 ∧ ((insT M r.1).op = 26 → V.full r.2 (insT M r.1).a.toNat = false) ∧ ((insT M r.1).op = 27 → V.empty r.2 (insT M r.1).a.toNat = false) := by
  by_cases h3 : r.1.st ≤ 3
  · refine ⟨h3, ?_⟩
    unfold look waits at h
    rw [if_pos h3] at h
    by_cases c1 : (insT M r.1).op = 26 ∧ V.full r.2 (insT M r.1).a.toNat = true
    · rw [if_pos c1] at h; cases h
    rw [if_neg c1] at h
    by_cases c2 : (insT M r.1).op = 27 ∧ V.empty r.2 (insT M r.1).a.toNat = true
    · rw [if_pos c2] at h; cases h
    refine ⟨fun ho => ?_, fun ho => ?_⟩
    · cases hx : V.full r.2 (insT M r.1).a.toNat with
      | false => rfl
      | true => exact absurd ⟨ho, hx⟩ c1
    · cases hx : V.empty r.2 (insT M r.1).a.toNat with
      | false => rfl
      | true => exact absurd ⟨ho, hx⟩ c2
  · unfold look at h
    rw [if_neg h3] at h
    omega
theorem look_one {ν : Type} {V : Env ν} {M : Mdl} {r : Tk × ν} (h3 : r.1.st ≤ 3) (h26 : (insT M r.1).op = 26 → V.full r.2 (insT M r.1).a.toNat = false) (h27 : (insT M r.1).op = 27 → V.empty r.2 (insT M r.1).a.toNat = false) :
    look V M r = ({ r.1 with st := 1, bx := 0 }, r.2) := by
  unfold look waits
  rw [if_pos h3, if_neg (fun h => by rw [h26 h.1] at h; exact absurd h.2 (by simp)), if_neg (fun h => by rw [h27 h.1] at h; exact absurd h.2 (by simp))]
section
variable {M : Mdl} {T : Nat → Int → Option Shape} {F G : List (List Int)} (hC : Certs M T) (hF : Fed M F) (hl : Longer M F G)
include hC hF hl
end
/-- WHAT IS VERIFIED RUNS -/
structure Goes (M : Mdl) (F : List (List Int)) (n : Nat) (r : Nat × (Tk × Ls)) : Prop where
  steps : r.1 ≤ n
  sent : r.2.2.sent.length = M.boxes.length
  took : r.2.2.took.length = M.boxes.length
  le : ∀ b, b < M.boxes.length → r.2.2.took.getD b 0 ≤ (F.getD b []).length
  typ : ∀ b, b < M.boxes.length → Typed (M.boxes.getD b default).1 (r.2.2.sent.getD b [])
  st : (r.2.1.st = 3 ∧ 0 ≤ r.2.1.bx ∧ r.2.1.bx.toNat < M.boxes.length ∧ r.2.2.took.getD r.2.1.bx.toNat 0 = (F.getD r.2.1.bx.toNat []).length) ∨ (r.2.1.st = 1 ∧ r.1 = n) ∨ r.2.1.st = 4 ∨ r.2.1.st = 5
end Go.Proofs.Ytjehflelkpacfaa.Vm

/- Kahn's theorem for tasks that speak through boxes, each of which has one sender and one receiver. Plain Lean. -/
namespace Go.Proofs.Ytjehflelkpacfaa.Vm
set_option linter.unusedVariables false
set_option linter.unusedSimpArgs false
set_option linter.unusedSectionVars false
open ImgM Ver Opt
/-- a task, but how it waits -/
def nrm (t : Tk) : Tk := if t.st ≤ 3 then { t with st := 1, bx := 0 } else t
/-- what was sent to a box, what was received from it -/
def snd (b : Nat) (l : List Ev) : List Int := l.filterMap fun e => if e.1 = 2 ∧ e.2.1 = (b : Int) then some e.2.2 else none
def rcv (b : Nat) (l : List Ev) : List Int := l.filterMap fun e => if e.1 = 3 ∧ e.2.1 = (b : Int) then some e.2.2 else none
theorem snd_app (b : Nat) (l r : List Ev) : snd b (l ++ r) = snd b l ++ snd b r := List.filterMap_append ..
theorem rcv_app (b : Nat) (l r : List Ev) : rcv b (l ++ r) = rcv b l ++ rcv b r := List.filterMap_append ..
/-- what an event does to the boxes -/
def wplay (ws : List (List Int)) (e : Ev) : List (List Int) := if e.1 = 2 then ws.set e.2.1.toNat (ws.getD e.2.1.toNat [] ++ [e.2.2]) else if e.1 = 3 then ws.set e.2.1.toNat (ws.getD e.2.1.toNat []).tail else ws
section
variable (M : Mdl)
/-- a step of a task's own -/
def loc1 (x : Int) (t : Tk) : Tk × List Ev := (nrm (lstep M x t).1, (lstep M x t).2)
/-- a task, and its events, after what it was given -/
def ltk (t : Tk) (xs : List Int) : Tk := xs.foldl (fun t x => (loc1 M x t).1) t
def lev : Tk → List Int → List Ev
  | _, [] => []
  | t, x :: xs => (loc1 M x t).2 ++ lev (loc1 M x t).1 xs
theorem ltk_app (t : Tk) (xs ys : List Int) : ltk M t (xs ++ ys) = ltk M (ltk M t xs) ys := List.foldl_append ..
theorem lev_app : ∀ (t : Tk) (xs ys : List Int), lev M t (xs ++ ys) = lev M t xs ++ lev M (ltk M t xs) ys
  | t, [], ys => rfl
  | t, x :: xs, ys => by
    show (loc1 M x t).2 ++ lev M (loc1 M x t).1 (xs ++ ys) = (loc1 M x t).2 ++ lev M (loc1 M x t).1 xs ++ lev M (ltk M (loc1 M x t).1 xs) ys
    rw [lev_app, List.append_assoc]
theorem ltk_snoc (t : Tk) (xs : List Int) (x : Int) : ltk M t (xs ++ [x]) = (loc1 M x (ltk M t xs)).1 := by rw [ltk_app]; rfl
theorem lev_snoc (t : Tk) (xs : List Int) (x : Int) : lev M t (xs ++ [x]) = lev M t xs ++ (loc1 M x (ltk M t xs)).2 := by
  rw [lev_app]
  show _ ++ ((loc1 M x _).2 ++ []) = _
  rw [List.append_nil]
/-- which box an instruction is about -/
abbrev bxOf (t : Tk) : Nat := (insT M t).a.toNat
/-- a task can go on -/
structure Can (cap : Nat → Nat) (t : Tk) (ws : List (List Int)) : Prop where
  st : t.st = 1
  send : (insT M t).op = 26 → (ws.getD (bxOf M t) []).length ≠ cap (bxOf M t)
  recv : (insT M t).op = 27 → (ws.getD (bxOf M t) []).length ≠ 0
/-- what it receives -/
def xin (t : Tk) (ws : List (List Int)) : Int := if (insT M t).op = 27 then (ws.getD (bxOf M t) []).headD 0 else 0
/-- histories: what each task was given, and what lies in the boxes then, after n steps -/
inductive Runs (cap : Nat → Nat) (T : List Tk) : Nat → (Nat → List Int) → List (List Int) → Prop
  | nil : Runs cap T 0 (fun _ => []) (List.replicate M.boxes.length [])
  | step {n k : Nat} {xs : Nat → List Int} {ws : List (List Int)} (h : Runs cap T n xs ws) (hk : k < T.length) (hc : Can M cap (ltk M (T.getD k default) (xs k)) ws) :
      Runs cap T (n + 1) (fun j => if j = k then xs k ++ [xin M (ltk M (T.getD k default) (xs k)) ws] else xs j) ((loc1 M (xin M (ltk M (T.getD k default) (xs k)) ws) (ltk M (T.getD k default) (xs k))).2.foldl wplay ws)
end
theorem snd_trap (b : Nat) (n : Int) : snd b [(5, 0, n)] = [] := by simp [snd]
theorem rcv_trap (b : Nat) (n : Int) : rcv b [(5, 0, n)] = [] := by simp [rcv]
theorem play_trap (ws : List (List Int)) (n : Int) : [((5 : Int), (0 : Int), n)].foldl wplay ws = ws := by simp [wplay]
/-- what a step does to the boxes -/
structure BoxDo (i : Ins) (x : Int) (l : List Ev) : Prop where
  ex : (i.op = 26 ∧ ∃ v, (∀ b, snd b l = if i.a = (b : Int) then [v] else []) ∧ (∀ b, rcv b l = []) ∧ ∀ ws, l.foldl wplay ws = ws.set i.a.toNat (ws.getD i.a.toNat [] ++ [v])) ∨
    (i.op = 27 ∧ (∀ b, snd b l = []) ∧ (∀ b, rcv b l = if i.a = (b : Int) then [x] else []) ∧ ∀ ws, l.foldl wplay ws = ws.set i.a.toNat (ws.getD i.a.toNat []).tail) ∨
    (i.op ≠ 26 ∧ i.op ≠ 27 ∧ (∀ b, snd b l = []) ∧ (∀ b, rcv b l = []) ∧ ∀ ws, l.foldl wplay ws = ws)
theorem Did.box {i : Ins} {x : Int} {t : Tk} {r : Tk × List Ev} (h : Did i x t r) : BoxDo i x r.2 := by
  refine ⟨?_⟩
  rcases h.ex with ⟨t1, l1, h1, h2, h3, h4, h5⟩ | ⟨ho, h1, -⟩
  · have key : ∀ l, (l = l1 ∨ ∃ n, l = l1 ++ [(5, 0, n)]) → (∀ b, snd b l = snd b l1) ∧ (∀ b, rcv b l = rcv b l1) ∧ ∀ ws, l.foldl wplay ws = l1.foldl wplay ws := by
      rintro l (rfl | ⟨n, rfl⟩)
      · exact ⟨fun b => rfl, fun b => rfl, fun ws => rfl⟩
      · exact ⟨fun b => by rw [snd_app, snd_trap, List.append_nil], fun b => by rw [rcv_app, rcv_trap, List.append_nil], fun ws => by rw [List.foldl_append, play_trap]⟩
    obtain ⟨k1, k2, k3⟩ := key r.2 (by
      rcases h1 with ⟨e, -⟩ | ⟨e, -⟩
      · exact .inl e
      · exact .inr ⟨_, e⟩)
    rcases h5 with ⟨rfl, ha, hb⟩ | ⟨ho, rfl⟩ | ⟨ho, rfl⟩ | ⟨ho, rfl⟩ | ⟨ho, rfl⟩
    · exact .inr (.inr ⟨ha, hb, fun b => k1 b, fun b => k2 b, fun ws => k3 ws⟩)
    · refine .inl ⟨ho, last t, fun b => ?_, fun b => ?_, fun ws => ?_⟩
      · rw [k1]; by_cases h : i.a = (b : Int) <;> simp [snd, h]
      · rw [k2]; simp [rcv]
      · rw [k3]; simp [wplay]
    · refine .inr (.inl ⟨ho, fun b => ?_, fun b => ?_, fun ws => ?_⟩)
      · rw [k1]; simp [snd]
      · rw [k2]; by_cases h : i.a = (b : Int) <;> simp [rcv, h]
      · rw [k3]; simp [wplay]
    · refine .inr (.inr ⟨by omega, by omega, fun b => ?_, fun b => ?_, fun ws => ?_⟩)
      · rw [k1]; simp [snd]
      · rw [k2]; simp [rcv]
      · rw [k3]; simp [wplay]
    · refine .inr (.inr ⟨by omega, by omega, fun b => ?_, fun b => ?_, fun ws => ?_⟩)
      · rw [k1]; simp [snd]
      · rw [k2]; simp [rcv]
      · rw [k3]; simp [wplay]
  · refine .inr (.inr ⟨by omega, by omega, fun b => ?_, fun b => ?_, fun ws => ?_⟩)
    · rw [h1]; simp [snd]
    · rw [h1]; simp [rcv]
    · rw [h1]; simp [wplay]
theorem loc1_box {M : Mdl} {x : Int} {t : Tk} (h : t.st = 1) : BoxDo (insT M t) x (loc1 M x t).2 := (lstep_did M (x := x) (t := t) (by omega)).box
theorem mid_eq {α : Type} {p q q' : List α} {x y : α} (h : p ++ x :: q <+: p ++ y :: q' ∨ p ++ y :: q' <+: p ++ x :: q) : x = y := by
  rcases h with ⟨r, h⟩ | ⟨r, h⟩
  · rw [List.append_assoc] at h
    have := List.append_cancel_left h
    simp at this
    exact this.1
  · rw [List.append_assoc] at h
    have := List.append_cancel_left h
    simp at this
    exact this.1.symm
theorem pre_snd {b : Nat} {l r : List Ev} (h : l <+: r) : snd b l <+: snd b r := by
  obtain ⟨x, rfl⟩ := h
  rw [snd_app]; exact List.prefix_append _ _
theorem pre_lev {M : Mdl} {t : Tk} {xs ys : List Int} (h : xs <+: ys) : lev M t xs <+: lev M t ys := by
  obtain ⟨x, rfl⟩ := h
  rw [lev_app]; exact List.prefix_append _ _
/-- each box has one who sends and one who receives; boxes are there -/
structure Owns (M : Mdl) (T : List Tk) (s r : Nat → Nat) : Prop where
  snd : ∀ {cap : Nat → Nat} {n : Nat} {xs : Nat → List Int} {ws : List (List Int)}, Runs M cap T n xs ws → ∀ k, k < T.length → ∀ b, k ≠ s b → snd b (lev M (T.getD k default) (xs k)) = []
  rcv : ∀ {cap : Nat → Nat} {n : Nat} {xs : Nat → List Int} {ws : List (List Int)}, Runs M cap T n xs ws → ∀ k, k < T.length → ∀ b, k ≠ r b → rcv b (lev M (T.getD k default) (xs k)) = []
  rng : ∀ {cap : Nat → Nat} {n : Nat} {xs : Nat → List Int} {ws : List (List Int)}, Runs M cap T n xs ws → ∀ k, k < T.length → (ltk M (T.getD k default) (xs k)).st = 1 → ((insT M (ltk M (T.getD k default) (xs k))).op = 26 ∨ (insT M (ltk M (T.getD k default) (xs k))).op = 27) → 0 ≤ (insT M (ltk M (T.getD k default) (xs k))).a ∧ bxOf M (ltk M (T.getD k default) (xs k)) < M.boxes.length
section
variable {M : Mdl} {T : List Tk} {s r : Nat → Nat} {cap : Nat → Nat} {n : Nat} {xs : Nat → List Int} {ws : List (List Int)}
theorem upd_same (xs : Nat → List Int) (k : Nat) (l : List Int) : (fun j => if j = k then l else xs j) k = l := by simp
theorem upd_ne (xs : Nat → List Int) {k j : Nat} (l : List Int) (h : j ≠ k) : (fun j => if j = k then l else xs j) j = xs j := by simp [h]
theorem Runs.none (h : Runs M cap T n xs ws) : ∀ k, T.length ≤ k → xs k = [] := by
  induction h with
  | nil => intro k _; rfl
  | step h hk hc ih =>
    intro j hj
    rw [upd_ne _ _ (by omega)]
    exact ih j hj
theorem Runs.sum (h : Runs M cap T n xs ws) : n = ((List.range T.length).map fun k => (xs k).length).sum := by
  induction h with
  | nil =>
    have : ∀ l : List Nat, (l.map fun _ => ([] : List Int).length).sum = 0 := fun l => by induction l <;> simp_all
    exact (this _).symm
  | @step n k xs ws h hk hc ih =>
    have key : ∀ (m : Nat) (l : List Int) , l.length = (xs k).length + 1 → ((List.range m).map fun j => ((fun j => if j = k then l else xs j) j).length).sum = ((List.range m).map fun j => (xs j).length).sum + if k < m then 1 else 0 := fun m l hl => by
      induction m with
      | zero => simp
      | succ m ih =>
        rw [List.range_succ, List.map_append, List.map_append, List.sum_append, List.sum_append, ih]
        simp only [List.map_cons, List.map_nil, List.sum_cons, List.sum_nil]
        by_cases hm : m = k
        · subst hm
          rw [if_pos rfl, hl, if_neg (by omega), if_pos (by omega)]; omega
        · rw [if_neg hm]
          by_cases hkm : k < m
          · rw [if_pos hkm, if_pos (by omega)]; omega
          · rw [if_neg hkm, if_neg (by omega)]; omega
    rw [key _ _ (by simp), if_pos hk, ← ih]
theorem Runs.wlen (h : Runs M cap T n xs ws) : ws.length = M.boxes.length := by
  induction h with
  | nil => simp
  | @step n k xs ws h hk hc ih =>
    have hb := (loc1_box (M := M) (x := xin M (ltk M (T.getD k default) (xs k)) ws) hc.st).ex
    rcases hb with ⟨-, v, -, -, h3⟩ | ⟨-, -, -, h3⟩ | ⟨-, -, -, -, h3⟩
    · rw [h3, List.length_set]; exact ih
    · rw [h3, List.length_set]; exact ih
    · rw [h3]; exact ih
/-- what was sent is what was received, and what is in the box -/
theorem Runs.fifo (ho : Owns M T s r) (h : Runs M cap T n xs ws) : ∀ b, b < M.boxes.length → snd b (lev M (T.getD (s b) default) (xs (s b))) = rcv b (lev M (T.getD (r b) default) (xs (r b))) ++ ws.getD b [] := by
  induction h with
  | nil =>
    intro b hb
    show snd b (lev M _ []) = rcv b (lev M _ []) ++ (List.replicate M.boxes.length []).getD b []
    rw [getD_rep]; rfl
  | @step n k xs ws h hk hc ih =>
    intro b hb
    have hwl := h.wlen
    have hr' := Runs.step h hk hc
    generalize ht : ltk M (T.getD k default) (xs k) = t at *
    generalize hx : xin M t ws = x at *
    have hbd := (loc1_box (M := M) (x := x) hc.st).ex
    have hlev : lev M (T.getD k default) (xs k ++ [x]) = lev M (T.getD k default) (xs k) ++ (loc1 M x t).2 := by rw [lev_snoc, ht]
    have hS : ∀ (A : List Int), snd b (loc1 M x t).2 = A → (A ≠ [] → k = s b) → snd b (lev M (T.getD (s b) default) ((fun j => if j = k then xs k ++ [x] else xs j) (s b))) = snd b (lev M (T.getD (s b) default) (xs (s b))) ++ A := fun A hA hne => by
      by_cases he : s b = k
      · rw [he, upd_same, hlev, snd_app, hA]
      · rw [upd_ne _ _ he]
        by_cases hA0 : A = []
        · rw [hA0, List.append_nil]
        · exact absurd (hne hA0).symm he
    have hR : ∀ (A : List Int), rcv b (loc1 M x t).2 = A → (A ≠ [] → k = r b) → rcv b (lev M (T.getD (r b) default) ((fun j => if j = k then xs k ++ [x] else xs j) (r b))) = rcv b (lev M (T.getD (r b) default) (xs (r b))) ++ A := fun A hA hne => by
      by_cases he : r b = k
      · rw [he, upd_same, hlev, rcv_app, hA]
      · rw [upd_ne _ _ he]
        by_cases hA0 : A = []
        · rw [hA0, List.append_nil]
        · exact absurd (hne hA0).symm he
    have hs1 : snd b (loc1 M x t).2 ≠ [] → k = s b := fun hne => Classical.byContradiction fun hk' => by
      have := ho.snd hr' k hk b hk'
      rw [if_pos rfl, hlev, snd_app] at this
      exact hne (List.append_eq_nil_iff.1 this).2
    have hr1 : rcv b (loc1 M x t).2 ≠ [] → k = r b := fun hne => Classical.byContradiction fun hk' => by
      have := ho.rcv hr' k hk b hk'
      rw [if_pos rfl, hlev, rcv_app] at this
      exact hne (List.append_eq_nil_iff.1 this).2
    have hrng := ho.rng h k hk
    rw [ht] at hrng
    have hrng := hrng hc.st
    rw [hS _ rfl hs1, hR _ rfl hr1, ih b hb]
    rcases hbd with ⟨o, v, h1, h2, h3⟩ | ⟨o, h1, h2, h3⟩ | ⟨o, o', h1, h2, h3⟩
    · obtain ⟨a1, a2⟩ := hrng (.inl o)
      have a2 : (insT M t).a.toNat < M.boxes.length := a2
      rw [h1, h2, h3, getD_setL (by omega)]
      by_cases hab : (insT M t).a = (b : Int)
      · have : (insT M t).a.toNat = b := by omega
        rw [if_pos hab, if_pos this, this]
        simp
      · have : ¬ (insT M t).a.toNat = b := by omega
        rw [if_neg hab, if_neg this]
        simp
    · obtain ⟨a1, a2⟩ := hrng (.inr o)
      have a2 : (insT M t).a.toNat < M.boxes.length := a2
      rw [h1, h2, h3, getD_setL (by omega)]
      by_cases hab : (insT M t).a = (b : Int)
      · have hb' : (insT M t).a.toNat = b := by omega
        rw [if_pos hab, if_pos hb', hb']
        have hne := hc.recv o
        have hxe : x = (ws.getD b []).headD 0 := by
          rw [← hx]; unfold xin; rw [if_pos o]
          show (ws.getD (insT M t).a.toNat []).headD 0 = _
          rw [hb']
        have hne' : (ws.getD b []).length ≠ 0 := by
          have : (ws.getD (insT M t).a.toNat []).length ≠ 0 := hne
          rwa [hb'] at this
        cases hw : ws.getD b [] with
        | nil => rw [hw] at hne'; exact absurd rfl hne'
        | cons y q =>
          rw [hw] at hxe
          rw [hxe]; simp
      · have : ¬ (insT M t).a.toNat = b := by omega
        rw [if_neg hab, if_neg this]
        simp
    · rw [h1, h2, h3]; simp
/-- no box has more than its places -/
theorem Runs.fit (ho : Owns M T s r) (h : Runs M cap T n xs ws) : ∀ b, b < M.boxes.length → (ws.getD b []).length ≤ cap b := by
  induction h with
  | nil => intro b hb; rw [getD_rep]; exact Nat.zero_le _
  | @step n k xs ws h hk hc ih =>
    intro b hb
    have hwl := h.wlen
    have hrng := ho.rng h k hk hc.st
    have hbd := (loc1_box (M := M) (x := xin M (ltk M (T.getD k default) (xs k)) ws) hc.st).ex
    have hib := ih b hb
    rcases hbd with ⟨o, v, h1, h2, h3⟩ | ⟨o, h1, h2, h3⟩ | ⟨o, o', h1, h2, h3⟩
    · obtain ⟨a1, a2⟩ := hrng (.inl o)
      have a2 : (insT M (ltk M (T.getD k default) (xs k))).a.toNat < M.boxes.length := a2
      have hs := hc.send o
      rw [h3, getD_setL (by omega)]
      split
      · rename_i e
        have hs' : (ws.getD (insT M (ltk M (T.getD k default) (xs k))).a.toNat []).length ≠ cap (insT M (ltk M (T.getD k default) (xs k))).a.toNat := hs
        rw [e] at hs' ⊢
        simp only [List.length_append, List.length_singleton]
        omega
      · exact hib
    · obtain ⟨a1, a2⟩ := hrng (.inr o)
      have a2 : (insT M (ltk M (T.getD k default) (xs k))).a.toNat < M.boxes.length := a2
      rw [h3, getD_setL (by omega)]
      split
      · rename_i e
        rw [e, List.length_tail]; omega
      · exact hib
    · rw [h3]; exact hib
/-- what is given where nothing is received is nothing -/
theorem Runs.zero (h : Runs M cap T n xs ws) : ∀ k (p q : List Int) (x : Int), xs k = p ++ x :: q → (insT M (ltk M (T.getD k default) p)).op ≠ 27 → x = 0 := by
  induction h with
  | nil => intro k p q x hx; simp at hx
  | @step n j xs ws h hk hc ih =>
    intro k p q x hx ho
    by_cases hkj : k = j
    · subst hkj
      rw [upd_same] at hx
      rcases List.eq_nil_or_concat q with rfl | ⟨q', y, rfl⟩
      · obtain ⟨rfl, e⟩ := List.append_inj' hx rfl
        simp only [List.cons.injEq, and_true] at e
        rw [← e]; unfold xin; rw [if_neg ho]
      · rw [show p ++ x :: q'.concat y = (p ++ x :: q') ++ [y] by simp] at hx
        obtain ⟨e, -⟩ := List.append_inj' hx rfl
        exact ih k p q' x e ho
    · rw [upd_ne _ _ hkj] at hx
      exact ih k p q x hx ho
/-- each step could be done when it was -/
theorem Runs.st (h : Runs M cap T n xs ws) : ∀ k (p q : List Int) (x : Int), xs k = p ++ x :: q → (ltk M (T.getD k default) p).st = 1 := by
  induction h with
  | nil => intro k p q x hx; simp at hx
  | @step n j xs ws h hk hc ih =>
    intro k p q x hx
    by_cases hkj : k = j
    · subst hkj
      rw [upd_same] at hx
      rcases List.eq_nil_or_concat q with rfl | ⟨q', y, rfl⟩
      · obtain ⟨rfl, e⟩ := List.append_inj' hx rfl
        exact hc.st
      · rw [show p ++ x :: q'.concat y = (p ++ x :: q') ++ [y] by simp] at hx
        obtain ⟨e, -⟩ := List.append_inj' hx rfl
        exact ih k p q' x e
    · rw [upd_ne _ _ hkj] at hx
      exact ih k p q x hx
variable {cap2 : Nat → Nat} {m : Nat} {ys : Nat → List Int} {us : List (List Int)}
/-- KAHN: by whatever steps, a task is given the same, one way perhaps more than the other way -/
theorem kahn (ho : Owns M T s r) (hx : Runs M cap T n xs ws) (hy : Runs M cap2 T m ys us) : ∀ k, xs k <+: ys k ∨ ys k <+: xs k := by
  induction hx with
  | nil => intro k; exact .inl (List.nil_prefix)
  | @step n j xs ws h hk hc ih =>
    intro k
    by_cases hkj : k = j
    · subst hkj
      dsimp only
      rw [if_pos rfl]
      rcases ih k with hp | hp
      · obtain ⟨rest, hrest⟩ := hp
        cases rest with
        | nil => right; rw [← hrest, List.append_nil]; exact List.prefix_append _ _
        | cons y rest =>
          left
          have hxy : xin M (ltk M (T.getD k default) (xs k)) ws = y := by
            by_cases o : (insT M (ltk M (T.getD k default) (xs k))).op = 27
            · obtain ⟨a1, a2⟩ := ho.rng h k hk hc.st (.inr o)
              generalize ht : ltk M (T.getD k default) (xs k) = t at *
              have hab : (insT M t).a = ((bxOf M t : Nat) : Int) := by simp only [bxOf]; omega
              have hbx : ∀ x, rcv (bxOf M t) (loc1 M x t).2 = [x] := fun x => by
                rcases (loc1_box (M := M) (x := x) hc.st).ex with ⟨o', -⟩ | ⟨-, -, h2, -⟩ | ⟨-, o', -⟩
                · omega
                · rw [h2, if_pos hab]
                · omega
              have hks : k = r (bxOf M t) := Classical.byContradiction fun hne => by
                have := ho.rcv hy k hk (bxOf M t) hne
                rw [← hrest, show xs k ++ y :: rest = (xs k ++ [y]) ++ rest by simp, lev_app, lev_snoc, rcv_app, rcv_app, ht, hbx] at this
                simp at this
              have f1 := h.fifo ho (bxOf M t) a2
              have f2 := hy.fifo ho (bxOf M t) a2
              rw [← hks] at f1 f2
              rw [← hrest, show xs k ++ y :: rest = (xs k ++ [y]) ++ rest by simp, lev_app, lev_snoc, rcv_app, rcv_app, ht, hbx] at f2
              have hne := hc.recv o
              have hxe : xin M t ws = (ws.getD (bxOf M t) []).headD 0 := by unfold xin; rw [if_pos o]
              cases hw : ws.getD (bxOf M t) [] with
              | nil => rw [hw] at hne; exact absurd rfl hne
              | cons z q =>
                rw [hw] at f1 hxe
                rw [hxe]
                show z = y
                rw [List.append_assoc, List.append_assoc, List.cons_append, List.nil_append] at f2
                refine mid_eq ?_ (p := rcv (bxOf M t) (lev M (T.getD k default) (xs k))) (q := q) (q' := rcv (bxOf M t) (lev M (ltk M (T.getD k default) (xs k ++ [y])) rest) ++ us.getD (bxOf M t) [])
                rw [← f1, ← f2]
                rcases ih (s (bxOf M t)) with hp | hp
                · exact .inl (pre_snd (pre_lev hp))
                · exact .inr (pre_snd (pre_lev hp))
            · have : y = 0 := hy.zero k (xs k) rest y hrest.symm o
              rw [this]; unfold xin; rw [if_neg o]
          rw [hxy]
          exact ⟨rest, by rw [← hrest]; simp⟩
      · exact .inr (hp.trans (List.prefix_append _ _))
    · dsimp only
      rw [if_neg hkj]; exact ih k
/-- nobody can go on -/
def Rest (M : Mdl) (cap : Nat → Nat) (T : List Tk) (xs : Nat → List Int) (ws : List (List Int)) : Prop := ∀ k, k < T.length → ¬ Can M cap (ltk M (T.getD k default) (xs k)) ws
end
end Go.Proofs.Ytjehflelkpacfaa.Vm
