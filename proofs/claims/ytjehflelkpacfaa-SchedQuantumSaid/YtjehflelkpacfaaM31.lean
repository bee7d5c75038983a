/- All tasks and boxes of a module, laid, walked. -/
import Derived.Test.YtjehflelkpacfaaM30
namespace Go.Proofs.Ytjehflelkpacfaa.Vw
open Go.RowKit Go.Proofs.Ytjehflelkpacfaa.Img
set_option linter.unusedVariables false
set_option linter.unusedSimpArgs false
attribute [local irreducible] Run Cod End OpT Still RunQ RunS RunT Fn PutOk
abbrev TkL.born (tb ob : Nat) (c : CoL) : TkL := ⟨tb, some ⟨ob, 0, none⟩, 1, [c.cb], [c], 0, c, 1, 0, 0, none, 0, []⟩
theorem born_tk {m : ML} {u : Nat} {c : CoL} (h : Born u (m.us.getD u default).u.locals.length c) (tb ob : Nat) : (TkL.born tb ob c).Wf ∧ (TkL.born tb ob c).tk = Vm.new m.mdl u := by
  have hall : (TkL.born tb ob c).all = [c] := rfl
  refine ⟨⟨Nat.zero_lt_one, rfl, by simp, fun i hi => ?_, fun d hd => ?_, fun d hd j hj => ?_, fun d hd => ?_⟩, ?_⟩
  · have : i = 0 := by simpa using hi
    subst this; rfl
  · rw [hall] at hd; simp at hd; subst hd
    rw [h.up, h.upb]; rfl
  · rw [hall] at hd; simp at hd; subst hd
    rw [h.up] at hj; cases hj
  · rw [hall] at hd; simp at hd; subst hd
    exact h.ok
  · unfold TkL.tk Vm.new
    rw [hall]
    simp only [List.map_cons, List.map_nil]
    congr 2
    unfold CoL.abs Vm.begin
    rw [h.st, h.up, h.fr, h.ws]
    have e1 : (Vm.unt m.mdl u).locals.length = (m.us.getD u default).u.locals.length := by unfold Vm.unt; rw [ML.unit_at]
    simp only [Vm.Co.mk.injEq, List.cons.injEq, and_true, true_and]
    rw [e1]
    refine List.ext_getElem (by simp) fun i h1 h2 => ?_
    simp
/-- all that begin lays -/
structure BegL where
  xb : Nat
  bo : Option Addr
  bc : Nat
  rs : List Ring
  to : Option Addr
  tc : Nat
  ts : List TkL
structure BegL.Ok (m : ML) (s : BegL) : Prop where
  rlen : s.rs.length = m.bx.length
  ring : ∀ b, b < m.bx.length → (s.rs.getD b default).Ok ∧ (s.rs.getD b default).l.length = Vm.capN m.mdl b ∧ (s.rs.getD b default).n = 0
  ts : s.ts.map TkL.tk = (Vm.tasks m.mdl).map (Vm.new m.mdl)
  wf : ∀ t ∈ s.ts, t.Wf
abbrev bxV (bo : Option Addr) (n bc : Nat) : Value := .iface 78 (.slice bo n bc)
abbrev BegL.mem (m : ML) (mb : Nat) (s : BegL) : List Chunk := [blk s.xb (maC s.to s.ts.length s.tc s.bo s.rs.length s.bc 0) 80, blk mb (mdV m) 25, arr s.to s.ts.length s.tc 81 ptrC (s.ts.map (·.tb)), arr s.bo s.rs.length s.bc 93 ptrC (s.rs.map (·.bb)), bag (s.rs.flatMap rgM), tksM mb (bxV s.bo s.rs.length s.bc) (fun _ => .nilFunc) s.ts]
set_option maxRecDepth 100000 in
set_option maxHeartbeats 2000000 in
theorem begin2_is (mb : Nat) (m : ML) (hb30 : m.bx.length ≤ 30) (hu30 : m.us.length ≤ 30) (hcap : ∀ b, b < m.bx.length → 1 ≤ (m.bx.getD b default).2 ∧ (m.bx.getD b default).2 ≤ 20) (hloc : ∀ k, k < m.us.length → (m.us.getD k default).u.locals.length ≤ 200) :
    Fn Try.prog 23 #[ptr mb] [md m] [blk mb (mdV m) 25] (σ := BegL) (BegL.Ok m) (fun s => ptr s.xb) (BegL.mem m mb) := by
  have htl : (Vm.tasks m.mdl).length ≤ 30 := by
    rw [tasks_eq]; have := tasks_len m m.us.length; omega
  refine Fn.enter (args := [ptr mb]) Try.func23 rfl _ Try.ntmps23 rfl (by simp [rd_excl, md_excl]) (fun w S => ?_)
  (try conv => rhs; simp only [List.cons_append, List.nil_append])
  repeat (first | refine go (k := ?_) | (refine goB (k := ?_); intro b) | (refine goA (k := ?_); intro ao cap))
  obtain ⟨xb, rfl⟩ : ∃ x, x = b := ⟨_, rfl⟩
  apply Cod.imp (fun w hm => (hm.nilArr 93 ptrC).bagNil)
  refine Cod.only ((fun z => [old w S, md m, blk mb (mdV m) 25, blk xb (maC none 0 0 z.2.1 z.1 z.2.2.1 0) 80, arr z.2.1 z.1 z.2.2.1 93 ptrC (z.2.2.2.map (·.bb)), bag (z.2.2.2.flatMap rgM)]) (0, none, 0, [])) (by (repeat (first | exact Takes.nil | exact Take.head | apply Take.tail | apply Takes.cons))) ?_
  apply Cod.loop (σ := Nat × Option Addr × Nat × List Ring) (fun z => z.1 ≤ m.bx.length ∧ z.2.2.2.length = z.1 ∧ ∀ b, b < z.1 → (z.2.2.2.getD b default).Ok ∧ (z.2.2.2.getD b default).l.length = Vm.capN m.mdl b ∧ (z.2.2.2.getD b default).n = 0) (fun z => [(0, ptr mb), (3, ptr xb), (13, .slice m.bo m.bx.length m.bc), (14, .int .i64 (m.bx.length : Int)), (15, .int .i64 (z.1 : Int))]) (fun z => [old w S, md m, blk mb (mdV m) 25, blk xb (maC none 0 0 z.2.1 z.1 z.2.2.1 0) 80, arr z.2.1 z.1 z.2.2.1 93 ptrC (z.2.2.2.map (·.bb)), bag (z.2.2.2.flatMap rgM)]) (fun z => m.bx.length - z.1) (0, none, 0, [])
  rotate_left
  exact sb
  exact tks
  intro z hz K1 hK1
  (try conv => rhs; simp only [List.cons_append, List.nil_append])
  rotate_left
  · exact ⟨Nat.zero_le _, rfl, fun b hb => by omega⟩
  obtain ⟨q, bo, bc, rs⟩ := z
  obtain ⟨z1, z2, z3⟩ := hz
  dsimp only at z1 z2 z3 hK1 ⊢
  by_cases hq : q < m.bx.length
  · obtain ⟨c1, c2⟩ := hcap q hq
    have hcn : (m.bx.getD q default).2 = ((Vm.capN m.mdl q : Nat) : Int) := by unfold Vm.capN; exact (Int.toNat_of_nonneg (by omega)).symm
    have hc20 : Vm.capN m.mdl q ≤ 20 := by omega
    have hc1 : 1 ≤ Vm.capN m.mdl q := by omega
    repeat (first | refine go (k := ?_) | (refine goB (k := ?_); intro b) | (refine goA (k := ?_); intro ao cap))
    obtain ⟨ib, rfl⟩ : ∃ x, x = b := ⟨_, rfl⟩
    rw [hcn]
    apply Cod.draw 12 ([blk xb (maC none 0 0 bo q bc 0) 80, blk ib [.int .i64 (m.bx.getD q default).1, .int .i64 ((Vm.capN m.mdl q : Nat) : Int)] 53]) (by kernel_rfl) 13 rfl
    refine RunT.takeR_ 0 (h := ?_)
    refine RunT.takeR_ 1 (h := ?_)
    refine RunT.takeR_ 2 (h := ?_)
    refine RunT.takeR_ 3 (h := ?_)
    refine RunT.takeR_ 4 (h := ?_)
    refine RunT.takeR_ 5 (h := ?_)
    refine RunT.takeR_ 6 (h := ?_)
    (refine RunT.one_ 7 (h := ?_); refine OpT.call0_ (spec := new_rg (Vm.capN m.mdl q) hc20) (k := ?_); intro s hs; refine And.intro gud ?_; (try conv => rhs; simp only [List.cons_append, List.nil_append]))
    obtain ⟨nb, lb⟩ := s
    dsimp only
    (refine RunT.one_ 8 (h := ?_); (first | refine OpT.val_ (k := ?_) | (refine OpT.alloc_ (k := ?_); intro b) | (refine OpT.box_ (k := ?_); intro b) | refine OpT.store_ (k := ?_) | (refine OpT.buildSlice_ (k := ?_); intro b) | (refine OpT.buildSlice0_ (k := ?_); intro b) | (refine OpT.append1_ (k := ?_); intro ao cap) | (refine OpT.cutA0_ (k := ?_); intro ao cap) | (refine OpT.cutR0_ (k := ?_); intro ao cap) | (refine OpT.cutA1_ (k := ?_); intro ao cap) | (refine OpT.cutA_ (k := ?_); intro ao cap) | (refine OpT.cutR_ (k := ?_); intro ao cap)); refine And.intro gud ?_)
    (refine RunT.one_ 9 (h := ?_); refine OpT.append1_ (a := nb) (k := ?_); intro ao cap; refine And.intro gud ?_; (try conv => rhs; simp only [List.cons_append, List.nil_append]))
    refine RunT.takeR_ 10 (h := ?_)
    refine RunT.takeR_ 11 (h := ?_)
    (refine RunT.one_ 12 (h := ?_); (first | refine OpT.val_ (k := ?_) | (refine OpT.alloc_ (k := ?_); intro b) | (refine OpT.box_ (k := ?_); intro b) | refine OpT.store_ (k := ?_) | (refine OpT.buildSlice_ (k := ?_); intro b) | (refine OpT.buildSlice0_ (k := ?_); intro b) | (refine OpT.append1_ (k := ?_); intro ao cap) | (refine OpT.cutA0_ (k := ?_); intro ao cap) | (refine OpT.cutR0_ (k := ?_); intro ao cap) | (refine OpT.cutA1_ (k := ?_); intro ao cap) | (refine OpT.cutA_ (k := ?_); intro ao cap) | (refine OpT.cutR_ (k := ?_); intro ao cap)); refine And.intro gud ?_)
    (apply RunT.done; kernel_rfl)
    repeat (first | refine go (k := ?_) | (refine goB (k := ?_); intro b) | (refine goA (k := ?_); intro ao cap))
    obtain ⟨R, hR⟩ : ∃ R : Ring, R = ⟨nb, lb, List.replicate (Vm.capN m.mdl q) 0, 0, 0⟩ := ⟨_, rfl⟩
    have hRok : R.Ok ∧ R.l.length = Vm.capN m.mdl q ∧ R.n = 0 := by rw [hR]; exact ⟨⟨Nat.zero_le _, by simp; omega, by simp; omega⟩, by simp, rfl⟩
    apply End.imp (fun w hm => Mem.bagAdd (ds := rgM R) hm (by (repeat (first | exact Take.head | apply Take.tail))) (by rw [hR]; (repeat (first | exact Takes.nil | exact Take.head | apply Take.tail | apply Takes.cons))) (rgM_excl R))
    have hfl : rs.flatMap rgM ++ rgM R = (rs ++ [R]).flatMap rgM := by simp
    have hmp : rs.map (·.bb) ++ [nb] = (rs ++ [R]).map (·.bb) := by rw [hR]; simp
    rw [hfl, hmp]
    refine End.round0_ hK1 (q + 1, ao, cap, rs ++ [R]) ?_ ?_
    · refine ⟨by dsimp only; omega, by simp [z2], fun b hb => ?_⟩
      by_cases hbq : b < q
      · rw [show (rs ++ [R]).getD b default = rs.getD b default by simp only [List.getD_eq_getElem?_getD]; rw [List.getElem?_append_left (by omega)]]
        exact z3 b hbq
      · obtain rfl : b = q := by dsimp only at hb; omega
        rw [show (rs ++ [R]).getD b default = R by rw [← z2]; exact getD_split rs [] _]
        exact hRok
    · dsimp only; omega
  · obtain rfl : q = m.bx.length := by omega
    clear hK1
    repeat (first | refine go (k := ?_) | (refine goB (k := ?_); intro b) | (refine goA (k := ?_); intro ao cap))
    (apply Run.op; exact rfl; refine OpT.call0_ (spec := tasks_is mb m (by omega)) (k := ?_); intro s hs; (try conv => rhs; simp only [List.cons_append, List.nil_append]))
    obtain ⟨ko, kc⟩ := s
    dsimp only
    repeat (first | refine go (k := ?_) | (refine goB (k := ?_); intro b) | (refine goA (k := ?_); intro ao cap))
    apply Cod.imp (fun w hm => (hm.nilArr 81 ptrC).bagNil)
    refine Cod.only ((fun z => [old w S, md m, blk mb (mdV m) 25, arr ko (Vm.tasks m.mdl).length kc 3 natC (Vm.tasks m.mdl), blk xb (maC z.2.1 z.1 z.2.2.1 bo m.bx.length bc 0) 80, arr bo m.bx.length bc 93 ptrC (rs.map (·.bb)), bag (rs.flatMap rgM), arr z.2.1 z.1 z.2.2.1 81 ptrC (z.2.2.2.map (·.tb)), tksM mb (bxV bo m.bx.length bc) (fun _ => .nilFunc) z.2.2.2]) (0, none, 0, [])) (by (repeat (first | exact Takes.nil | exact Take.head | apply Take.tail | apply Takes.cons))) ?_
    apply Cod.loop (σ := Nat × Option Addr × Nat × List TkL) (fun z => z.1 ≤ (Vm.tasks m.mdl).length ∧ z.2.2.2.length = z.1 ∧ z.2.2.2.map TkL.tk = ((Vm.tasks m.mdl).take z.1).map (Vm.new m.mdl) ∧ ∀ t ∈ z.2.2.2, t.Wf) (fun z => [(0, ptr mb), (3, ptr xb), (33, .slice ko (Vm.tasks m.mdl).length kc), (34, .int .i64 ((Vm.tasks m.mdl).length : Int)), (35, .int .i64 (z.1 : Int))]) (fun z => [old w S, md m, blk mb (mdV m) 25, arr ko (Vm.tasks m.mdl).length kc 3 natC (Vm.tasks m.mdl), blk xb (maC z.2.1 z.1 z.2.2.1 bo m.bx.length bc 0) 80, arr bo m.bx.length bc 93 ptrC (rs.map (·.bb)), bag (rs.flatMap rgM), arr z.2.1 z.1 z.2.2.1 81 ptrC (z.2.2.2.map (·.tb)), tksM mb (bxV bo m.bx.length bc) (fun _ => .nilFunc) z.2.2.2]) (fun z => (Vm.tasks m.mdl).length - z.1) (0, none, 0, [])
    rotate_left
    exact sb
    exact tks
    intro z hz K1 hK1
    (try conv => rhs; simp only [List.cons_append, List.nil_append])
    rotate_left
    · exact ⟨Nat.zero_le _, rfl, rfl, by simp⟩
    obtain ⟨q, to, tc, ts⟩ := z
    obtain ⟨y1, y2, y3, y4⟩ := hz
    dsimp only at y1 y2 y3 y4 hK1 ⊢
    by_cases hq : q < (Vm.tasks m.mdl).length
    · obtain ⟨hu1, hu2⟩ := tasks_mem (m := m) (k := q) hq
      have hgd : (Vm.tasks m.mdl).getD q default = (Vm.tasks m.mdl).getD q 0 := rfl
      obtain ⟨u, hu⟩ : ∃ u, u = (Vm.tasks m.mdl).getD q 0 := ⟨_, rfl⟩
      rw [← hu] at hgd hu1 hu2
      have hul := hloc u hu1
      repeat (first | refine go (k := ?_) | (refine goB (k := ?_); intro b) | (refine goA (k := ?_); intro ao cap))
      rw [hgd]
      apply Cod.draw 17 ([blk xb (maC to q tc bo m.bx.length bc 0) 80]) (by kernel_rfl) 18 rfl
      refine RunT.takeR_ 0 (h := ?_)
      refine RunT.takeR_ 1 (h := ?_)
      refine RunT.takeR_ 2 (h := ?_)
      refine RunT.takeR_ 3 (h := ?_)
      refine RunT.takeR_ 4 (h := ?_)
      refine RunT.takeR_ 5 (h := ?_)
      refine RunT.takeR_ 6 (h := ?_)
      refine RunT.takeR_ 7 (h := ?_)
      refine RunT.takeR_ 8 (h := ?_)
      refine RunT.takeR_ 9 (h := ?_)
      refine RunT.takeR_ 10 (h := ?_)
      refine RunT.takeR_ 11 (hy := by exact Still.mkIfaceS (t := 0) rfl rfl) (h := ?_)
      (refine RunT.one_ 12 (h := ?_); refine OpT.call0_ (spec := new_is mb m u hu1 78 (.slice bo m.bx.length bc) hul) (k := ?_); intro s hs; refine And.intro gud ?_; (try conv => rhs; simp only [List.cons_append, List.nil_append]))
      obtain ⟨tb, ob, c⟩ := s
      dsimp only at hs ⊢
      (refine RunT.one_ 13 (h := ?_); (first | refine OpT.val_ (k := ?_) | (refine OpT.alloc_ (k := ?_); intro b) | (refine OpT.box_ (k := ?_); intro b) | refine OpT.store_ (k := ?_) | (refine OpT.buildSlice_ (k := ?_); intro b) | (refine OpT.buildSlice0_ (k := ?_); intro b) | (refine OpT.append1_ (k := ?_); intro ao cap) | (refine OpT.cutA0_ (k := ?_); intro ao cap) | (refine OpT.cutR0_ (k := ?_); intro ao cap) | (refine OpT.cutA1_ (k := ?_); intro ao cap) | (refine OpT.cutA_ (k := ?_); intro ao cap) | (refine OpT.cutR_ (k := ?_); intro ao cap)); refine And.intro gud ?_)
      (refine RunT.one_ 14 (h := ?_); refine OpT.append1_ (a := tb) (k := ?_); intro ao cap; refine And.intro gud ?_; (try conv => rhs; simp only [List.cons_append, List.nil_append]))
      refine RunT.takeR_ 15 (h := ?_)
      refine RunT.takeR_ 16 (h := ?_)
      (refine RunT.one_ 17 (h := ?_); (first | refine OpT.val_ (k := ?_) | (refine OpT.alloc_ (k := ?_); intro b) | (refine OpT.box_ (k := ?_); intro b) | refine OpT.store_ (k := ?_) | (refine OpT.buildSlice_ (k := ?_); intro b) | (refine OpT.buildSlice0_ (k := ?_); intro b) | (refine OpT.append1_ (k := ?_); intro ao cap) | (refine OpT.cutA0_ (k := ?_); intro ao cap) | (refine OpT.cutR0_ (k := ?_); intro ao cap) | (refine OpT.cutA1_ (k := ?_); intro ao cap) | (refine OpT.cutA_ (k := ?_); intro ao cap) | (refine OpT.cutR_ (k := ?_); intro ao cap)); refine And.intro gud ?_)
      (apply RunT.done; kernel_rfl)
      repeat (first | refine go (k := ?_) | (refine goB (k := ?_); intro b) | (refine goA (k := ?_); intro ao cap))
      obtain ⟨w1, w2⟩ := born_tk (m := m) hs tb ob
      apply End.imp (fun w hm => Mem.tkAdd (t := TkL.born tb ob c) hm (by (repeat (first | exact Take.head | apply Take.tail))) (by (repeat (first | exact Takes.nil | exact Take.head | apply Take.tail | apply Takes.cons))))
      have hmp : ts.map (·.tb) ++ [tb] = (ts ++ [TkL.born tb ob c]).map (·.tb) := by simp
      rw [hmp]
      refine End.round0_ hK1 (q + 1, ao, cap, ts ++ [TkL.born tb ob c]) ?_ ?_
      · refine ⟨by dsimp only; omega, by simp [y2], ?_, fun t ht => ?_⟩
        · dsimp only
          rw [List.map_append, y3, List.take_succ_eq_append_getElem hq, List.map_append]
          congr 1
          simp only [List.map_cons, List.map_nil]
          rw [w2, hu, List.getD_eq_getElem?_getD, List.getElem?_eq_getElem hq]; rfl
        · rcases List.mem_append.1 ht with ht | ht
          · exact y4 t ht
          · simp at ht; subst ht; exact w1
      · dsimp only; omega
    · obtain rfl : q = (Vm.tasks m.mdl).length := by omega
      repeat (first | refine go (k := ?_) | (refine goB (k := ?_); intro b) | (refine goA (k := ?_); intro ao cap))
      obtain ⟨B, hB⟩ : ∃ B : BegL, B = ⟨xb, bo, bc, rs, to, tc, ts⟩ := ⟨_, rfl⟩
      refine End.done1_ B (he := by rw [hB]) (ht := by (subst hB; simp only [BegL.mem, y2, z2]; exact tks)) (hp := ?_) (hx := by simp [blk_excl, arr_excl, bag_excl, tksM_excl])
      subst hB
      exact ⟨z2, z3, by rw [y3, List.take_of_length_le (Nat.le_refl _)], y4⟩
end Go.Proofs.Ytjehflelkpacfaa.Vw

/- Solo's laws, in plain Lean: with more steps a task goes on; with longer feeds it says no less; what is right runs. -/
namespace Go.Proofs.Ytjehflelkpacfaa.Vm
set_option linter.unusedVariables false
set_option linter.unusedSimpArgs false
set_option linter.unusedSectionVars false
open ImgM Ver Opt
section
variable {ν : Type} {V : Env ν} {M : Mdl}
theorem goN_stop : ∀ (n : Nat) (r : Tk × ν), (goN V M n r).1 < n → ∀ d, goN V M (n + d) r = goN V M n r
  | 0, r, h, d => absurd h (Nat.lt_irrefl 0 |> fun h0 h => absurd h (Nat.not_lt_zero _))
  | n + 1, r, h, d => by
    rw [show n + 1 + d = (n + d) + 1 by omega]
    unfold goN at h ⊢
    by_cases hs : (step V M r).1 = true
    · rw [if_pos hs] at h
      rw [if_pos hs, if_pos hs, goN_stop n _ (by simpa using h) d]
    · rw [if_neg hs, if_neg hs]
theorem goN_add : ∀ (n : Nat) (r : Tk × ν), (goN V M n r).1 = n → ∀ d, goN V M (n + d) r = (n + (goN V M d (goN V M n r).2).1, (goN V M d (goN V M n r).2).2)
  | 0, r, h, d => by simp [goN]
  | n + 1, r, h, d => by
    rw [show n + 1 + d = (n + d) + 1 by omega]
    by_cases hs : (step V M r).1 = true
    · have h2 : (goN V M n (step V M r).2).1 = n := by
        unfold goN at h
        rw [if_pos hs] at h
        simpa using h
      have e1 : goN V M (n + 1) r = ((goN V M n (step V M r).2).1 + 1, (goN V M n (step V M r).2).2) := by
        rw [goN, if_pos hs]
      have e2 : goN V M (n + d + 1) r = ((goN V M (n + d) (step V M r).2).1 + 1, (goN V M (n + d) (step V M r).2).2) := by
        rw [goN, if_pos hs]
      rw [e1, e2, goN_add n _ h2 d]
      refine Prod.ext ?_ rfl
      dsimp only
      omega
    · unfold goN at h
      rw [if_neg hs] at h
      simp at h
/-- what is looked at stays so -/
theorem step_looked (r : Tk × ν) : look V M (step V M r).2 = (step V M r).2 := by
  by_cases h : (look V M r).1.st = 1
  · rw [step_yes V M h]; exact look_look V M _
  · rw [step_no V M h]; exact look_look V M _
theorem goN_looked : ∀ (n : Nat) (r : Tk × ν), look V M r = r → look V M (goN V M n r).2 = (goN V M n r).2
  | 0, r, h => h
  | n + 1, r, h => by
    unfold goN
    split
    · exact goN_looked n _ (step_looked r)
    · exact step_looked r
/-- it ends ahead of its last step just if it can't go on -/
theorem goN_end : ∀ (n : Nat) (r : Tk × ν), (goN V M n r).1 < n → (look V M (goN V M n r).2).1.st ≠ 1
  | 0, r, h => absurd h (Nat.not_lt_zero _)
  | n + 1, r, h => by
    unfold goN at h ⊢
    by_cases hs : (step V M r).1 = true
    · rw [if_pos hs] at h ⊢
      exact goN_end n _ (by simpa using h)
    · rw [if_neg hs]
      intro h1
      by_cases h2 : (look V M r).1.st = 1
      · rw [step_yes V M h2] at hs; exact hs rfl
      · rw [step_no V M h2] at h1
        dsimp only at h1
        rw [look_look] at h1
        exact h2 h1
end
/-- what was put out, what was sent: the beginning of it -/
structure Beg (r s : Tk × Ls) : Prop where
  out : r.1.out <+: s.1.out
  len : r.2.sent.length = s.2.sent.length
  sent : ∀ b, r.2.sent.getD b [] <+: s.2.sent.getD b []
theorem Beg.refl (r : Tk × Ls) : Beg r r := ⟨List.prefix_refl _, rfl, fun b => List.prefix_refl _⟩
theorem Beg.trans {a b c : Tk × Ls} (h : Beg a b) (k : Beg b c) : Beg a c := ⟨h.out.trans k.out, h.len.trans k.len, fun x => (h.sent x).trans (k.sent x)⟩
/-- alike, but how they stand -/
def Alk (t t' : Tk) : Prop := t = t' ∨ (t.st ≤ 3 ∧ ∃ a b, a ≤ 3 ∧ t' = { t with st := a, bx := b })
theorem look_alk {ν : Type} (V : Env ν) (M : Mdl) {t t' : Tk} (h : Alk t t') (s : ν) : look V M (t, s) = look V M (t', s) := by
  rcases h with rfl | ⟨h3, a, b, ha, rfl⟩
  · rfl
  · unfold look
    rw [if_pos (show (t, s).1.st ≤ 3 from h3), if_pos (show (({ t with st := a, bx := b } : Tk), s).1.st ≤ 3 from ha)]
    rfl
/-- longer feeds -/
structure Longer (M : Mdl) (F G : List (List Int)) : Prop where
  pre : ∀ b, b < M.boxes.length → F.getD b [] <+: G.getD b []
section
variable {M : Mdl} {T : Nat → Int → Option Shape} {F G : List (List Int)} (hC : Certs M T) (hF : Fed M F) (hl : Longer M F G)
include hC hF hl
end
/-- WHAT IS VERIFIED RUNS -/
structure Goes (M : Mdl) (F : List (List Int)) (n : Nat) (r : Nat × (Tk × Ls)) : Prop where
  steps : r.1 ≤ n
  sent : r.2.2.sent.length = M.boxes.length
  took : r.2.2.took.length = M.boxes.length
  le : ∀ b, b < M.boxes.length → r.2.2.took.getD b 0 ≤ (F.getD b []).length
  typ : ∀ b, b < M.boxes.length → Typed (M.boxes.getD b default).1 (r.2.2.sent.getD b [])
  st : (r.2.1.st = 3 ∧ 0 ≤ r.2.1.bx ∧ r.2.1.bx.toNat < M.boxes.length ∧ r.2.2.took.getD r.2.1.bx.toNat 0 = (F.getD r.2.1.bx.toNat []).length) ∨ (r.2.1.st = 1 ∧ r.1 = n) ∨ r.2.1.st = 4 ∨ r.2.1.st = 5
end Go.Proofs.Ytjehflelkpacfaa.Vm

/- Kahn's theorem for tasks that speak through boxes, each of which has one sender and one receiver. Plain Lean. -/
namespace Go.Proofs.Ytjehflelkpacfaa.Vm
set_option linter.unusedVariables false
set_option linter.unusedSimpArgs false
set_option linter.unusedSectionVars false
open ImgM Ver Opt
/-- a task, but how it waits -/
def nrm (t : Tk) : Tk := if t.st ≤ 3 then { t with st := 1, bx := 0 } else t
/-- what was sent to a box, what was received from it -/
def snd (b : Nat) (l : List Ev) : List Int := l.filterMap fun e => if e.1 = 2 ∧ e.2.1 = (b : Int) then some e.2.2 else none
def rcv (b : Nat) (l : List Ev) : List Int := l.filterMap fun e => if e.1 = 3 ∧ e.2.1 = (b : Int) then some e.2.2 else none
theorem snd_app (b : Nat) (l r : List Ev) : snd b (l ++ r) = snd b l ++ snd b r := List.filterMap_append ..
theorem rcv_app (b : Nat) (l r : List Ev) : rcv b (l ++ r) = rcv b l ++ rcv b r := List.filterMap_append ..
/-- what an event does to the boxes -/
def wplay (ws : List (List Int)) (e : Ev) : List (List Int) := if e.1 = 2 then ws.set e.2.1.toNat (ws.getD e.2.1.toNat [] ++ [e.2.2]) else if e.1 = 3 then ws.set e.2.1.toNat (ws.getD e.2.1.toNat []).tail else ws
section
variable (M : Mdl)
/-- a step of a task's own -/
def loc1 (x : Int) (t : Tk) : Tk × List Ev := (nrm (lstep M x t).1, (lstep M x t).2)
/-- a task, and its events, after what it was given -/
def ltk (t : Tk) (xs : List Int) : Tk := xs.foldl (fun t x => (loc1 M x t).1) t
def lev : Tk → List Int → List Ev
  | _, [] => []
  | t, x :: xs => (loc1 M x t).2 ++ lev (loc1 M x t).1 xs
/-- which box an instruction is about -/
abbrev bxOf (t : Tk) : Nat := (insT M t).a.toNat
/-- a task can go on -/
structure Can (cap : Nat → Nat) (t : Tk) (ws : List (List Int)) : Prop where
  st : t.st = 1
  send : (insT M t).op = 26 → (ws.getD (bxOf M t) []).length ≠ cap (bxOf M t)
  recv : (insT M t).op = 27 → (ws.getD (bxOf M t) []).length ≠ 0
/-- what it receives -/
def xin (t : Tk) (ws : List (List Int)) : Int := if (insT M t).op = 27 then (ws.getD (bxOf M t) []).headD 0 else 0
/-- histories: what each task was given, and what lies in the boxes then, after n steps -/
inductive Runs (cap : Nat → Nat) (T : List Tk) : Nat → (Nat → List Int) → List (List Int) → Prop
  | nil : Runs cap T 0 (fun _ => []) (List.replicate M.boxes.length [])
  | step {n k : Nat} {xs : Nat → List Int} {ws : List (List Int)} (h : Runs cap T n xs ws) (hk : k < T.length) (hc : Can M cap (ltk M (T.getD k default) (xs k)) ws) :
      Runs cap T (n + 1) (fun j => if j = k then xs k ++ [xin M (ltk M (T.getD k default) (xs k)) ws] else xs j) ((loc1 M (xin M (ltk M (T.getD k default) (xs k)) ws) (ltk M (T.getD k default) (xs k))).2.foldl wplay ws)
end
theorem snd_trap (b : Nat) (n : Int) : snd b [(5, 0, n)] = [] := by simp [snd]
theorem rcv_trap (b : Nat) (n : Int) : rcv b [(5, 0, n)] = [] := by simp [rcv]
theorem play_trap (ws : List (List Int)) (n : Int) : [((5 : Int), (0 : Int), n)].foldl wplay ws = ws := by simp [wplay]
/-- what a step does to the boxes -/
structure BoxDo (i : Ins) (x : Int) (l : List Ev) : Prop where
  ex : (i.op = 26 ∧ ∃ v, (∀ b, snd b l = if i.a = (b : Int) then [v] else []) ∧ (∀ b, rcv b l = []) ∧ ∀ ws, l.foldl wplay ws = ws.set i.a.toNat (ws.getD i.a.toNat [] ++ [v])) ∨
    (i.op = 27 ∧ (∀ b, snd b l = []) ∧ (∀ b, rcv b l = if i.a = (b : Int) then [x] else []) ∧ ∀ ws, l.foldl wplay ws = ws.set i.a.toNat (ws.getD i.a.toNat []).tail) ∨
    (i.op ≠ 26 ∧ i.op ≠ 27 ∧ (∀ b, snd b l = []) ∧ (∀ b, rcv b l = []) ∧ ∀ ws, l.foldl wplay ws = ws)
theorem Did.box {i : Ins} {x : Int} {t : Tk} {r : Tk × List Ev} (h : Did i x t r) : BoxDo i x r.2 := by
  refine ⟨?_⟩
  rcases h.ex with ⟨t1, l1, h1, h2, h3, h4, h5⟩ | ⟨ho, h1, -⟩
  · have key : ∀ l, (l = l1 ∨ ∃ n, l = l1 ++ [(5, 0, n)]) → (∀ b, snd b l = snd b l1) ∧ (∀ b, rcv b l = rcv b l1) ∧ ∀ ws, l.foldl wplay ws = l1.foldl wplay ws := by
      rintro l (rfl | ⟨n, rfl⟩)
      · exact ⟨fun b => rfl, fun b => rfl, fun ws => rfl⟩
      · exact ⟨fun b => by rw [snd_app, snd_trap, List.append_nil], fun b => by rw [rcv_app, rcv_trap, List.append_nil], fun ws => by rw [List.foldl_append, play_trap]⟩
    obtain ⟨k1, k2, k3⟩ := key r.2 (by
      rcases h1 with ⟨e, -⟩ | ⟨e, -⟩
      · exact .inl e
      · exact .inr ⟨_, e⟩)
    rcases h5 with ⟨rfl, ha, hb⟩ | ⟨ho, rfl⟩ | ⟨ho, rfl⟩ | ⟨ho, rfl⟩ | ⟨ho, rfl⟩
    · exact .inr (.inr ⟨ha, hb, fun b => k1 b, fun b => k2 b, fun ws => k3 ws⟩)
    · refine .inl ⟨ho, last t, fun b => ?_, fun b => ?_, fun ws => ?_⟩
      · rw [k1]; by_cases h : i.a = (b : Int) <;> simp [snd, h]
      · rw [k2]; simp [rcv]
      · rw [k3]; simp [wplay]
    · refine .inr (.inl ⟨ho, fun b => ?_, fun b => ?_, fun ws => ?_⟩)
      · rw [k1]; simp [snd]
      · rw [k2]; by_cases h : i.a = (b : Int) <;> simp [rcv, h]
      · rw [k3]; simp [wplay]
    · refine .inr (.inr ⟨by omega, by omega, fun b => ?_, fun b => ?_, fun ws => ?_⟩)
      · rw [k1]; simp [snd]
      · rw [k2]; simp [rcv]
      · rw [k3]; simp [wplay]
    · refine .inr (.inr ⟨by omega, by omega, fun b => ?_, fun b => ?_, fun ws => ?_⟩)
      · rw [k1]; simp [snd]
      · rw [k2]; simp [rcv]
      · rw [k3]; simp [wplay]
  · refine .inr (.inr ⟨by omega, by omega, fun b => ?_, fun b => ?_, fun ws => ?_⟩)
    · rw [h1]; simp [snd]
    · rw [h1]; simp [rcv]
    · rw [h1]; simp [wplay]
/-- each box has one who sends and one who receives; boxes are there -/
structure Owns (M : Mdl) (T : List Tk) (s r : Nat → Nat) : Prop where
  snd : ∀ {cap : Nat → Nat} {n : Nat} {xs : Nat → List Int} {ws : List (List Int)}, Runs M cap T n xs ws → ∀ k, k < T.length → ∀ b, k ≠ s b → snd b (lev M (T.getD k default) (xs k)) = []
  rcv : ∀ {cap : Nat → Nat} {n : Nat} {xs : Nat → List Int} {ws : List (List Int)}, Runs M cap T n xs ws → ∀ k, k < T.length → ∀ b, k ≠ r b → rcv b (lev M (T.getD k default) (xs k)) = []
  rng : ∀ {cap : Nat → Nat} {n : Nat} {xs : Nat → List Int} {ws : List (List Int)}, Runs M cap T n xs ws → ∀ k, k < T.length → (ltk M (T.getD k default) (xs k)).st = 1 → ((insT M (ltk M (T.getD k default) (xs k))).op = 26 ∨ (insT M (ltk M (T.getD k default) (xs k))).op = 27) → 0 ≤ (insT M (ltk M (T.getD k default) (xs k))).a ∧ bxOf M (ltk M (T.getD k default) (xs k)) < M.boxes.length
section
variable {M : Mdl} {T : List Tk} {s r : Nat → Nat} {cap : Nat → Nat} {n : Nat} {xs : Nat → List Int} {ws : List (List Int)}
theorem upd_same (xs : Nat → List Int) (k : Nat) (l : List Int) : (fun j => if j = k then l else xs j) k = l := by simp
theorem upd_ne (xs : Nat → List Int) {k j : Nat} (l : List Int) (h : j ≠ k) : (fun j => if j = k then l else xs j) j = xs j := by simp [h]
theorem Runs.none (h : Runs M cap T n xs ws) : ∀ k, T.length ≤ k → xs k = [] := by
  induction h with
  | nil => intro k _; rfl
  | step h hk hc ih =>
    intro j hj
    rw [upd_ne _ _ (by omega)]
    exact ih j hj
theorem Runs.sum (h : Runs M cap T n xs ws) : n = ((List.range T.length).map fun k => (xs k).length).sum := by
  induction h with
  | nil =>
    have : ∀ l : List Nat, (l.map fun _ => ([] : List Int).length).sum = 0 := fun l => by induction l <;> simp_all
    exact (this _).symm
  | @step n k xs ws h hk hc ih =>
    have key : ∀ (m : Nat) (l : List Int) , l.length = (xs k).length + 1 → ((List.range m).map fun j => ((fun j => if j = k then l else xs j) j).length).sum = ((List.range m).map fun j => (xs j).length).sum + if k < m then 1 else 0 := fun m l hl => by
      induction m with
      | zero => simp
      | succ m ih =>
        rw [List.range_succ, List.map_append, List.map_append, List.sum_append, List.sum_append, ih]
        simp only [List.map_cons, List.map_nil, List.sum_cons, List.sum_nil]
        by_cases hm : m = k
        · subst hm
          rw [if_pos rfl, hl, if_neg (by omega), if_pos (by omega)]; omega
        · rw [if_neg hm]
          by_cases hkm : k < m
          · rw [if_pos hkm, if_pos (by omega)]; omega
          · rw [if_neg hkm, if_neg (by omega)]; omega
    rw [key _ _ (by simp), if_pos hk, ← ih]
/-- what is given where nothing is received is nothing -/
theorem Runs.zero (h : Runs M cap T n xs ws) : ∀ k (p q : List Int) (x : Int), xs k = p ++ x :: q → (insT M (ltk M (T.getD k default) p)).op ≠ 27 → x = 0 := by
  induction h with
  | nil => intro k p q x hx; simp at hx
  | @step n j xs ws h hk hc ih =>
    intro k p q x hx ho
    by_cases hkj : k = j
    · subst hkj
      rw [upd_same] at hx
      rcases List.eq_nil_or_concat q with rfl | ⟨q', y, rfl⟩
      · obtain ⟨rfl, e⟩ := List.append_inj' hx rfl
        simp only [List.cons.injEq, and_true] at e
        rw [← e]; unfold xin; rw [if_neg ho]
      · rw [show p ++ x :: q'.concat y = (p ++ x :: q') ++ [y] by simp] at hx
        obtain ⟨e, -⟩ := List.append_inj' hx rfl
        exact ih k p q' x e ho
    · rw [upd_ne _ _ hkj] at hx
      exact ih k p q x hx ho
/-- each step could be done when it was -/
theorem Runs.st (h : Runs M cap T n xs ws) : ∀ k (p q : List Int) (x : Int), xs k = p ++ x :: q → (ltk M (T.getD k default) p).st = 1 := by
  induction h with
  | nil => intro k p q x hx; simp at hx
  | @step n j xs ws h hk hc ih =>
    intro k p q x hx
    by_cases hkj : k = j
    · subst hkj
      rw [upd_same] at hx
      rcases List.eq_nil_or_concat q with rfl | ⟨q', y, rfl⟩
      · obtain ⟨rfl, e⟩ := List.append_inj' hx rfl
        exact hc.st
      · rw [show p ++ x :: q'.concat y = (p ++ x :: q') ++ [y] by simp] at hx
        obtain ⟨e, -⟩ := List.append_inj' hx rfl
        exact ih k p q' x e
    · rw [upd_ne _ _ hkj] at hx
      exact ih k p q x hx
variable {cap2 : Nat → Nat} {m : Nat} {ys : Nat → List Int} {us : List (List Int)}
end
end Go.Proofs.Ytjehflelkpacfaa.Vm

/- In a right module each box has one who sends and one who receives. Plain Lean. -/
namespace Go.Proofs.Ytjehflelkpacfaa.Vm
set_option linter.unusedVariables false
set_option linter.unusedSimpArgs false
set_option linter.unusedSectionVars false
open ImgM Ver Opt
/-! what code calls or starts is come to -/
/-! the units at work are come to -/
def Fin (R : Int → Prop) (t : Tk) : Prop := ∀ c ∈ t.cs, ∀ f ∈ c.fr, R (f.unit : Int)
section
variable {R : Int → Prop}
theorem Fin.cur {t : Tk} (h : Fin R t) : ∀ f ∈ (Vm.cur t).fr, R (f.unit : Int) := by
  intro f hf
  unfold Vm.cur at hf
  rw [List.getD_eq_getElem?_getD] at hf
  cases hc : t.cs[t.now]? with
  | none => rw [hc] at hf; cases hf
  | some c => rw [hc] at hf; exact h c (List.mem_of_getElem? hc) f hf
theorem Fin.co {t : Tk} (h : Fin R t) (k : Nat) : ∀ f ∈ (t.cs.getD k default).fr, R (f.unit : Int) := by
  intro f hf
  rw [List.getD_eq_getElem?_getD] at hf
  cases hc : t.cs[k]? with
  | none => rw [hc] at hf; cases hf
  | some c => rw [hc] at hf; exact h c (List.mem_of_getElem? hc) f hf
theorem Fin.setC {t : Tk} (h : Fin R t) (k : Nat) {c : Co} (hc : ∀ f ∈ c.fr, R (f.unit : Int)) : Fin R (Vm.setC t k c) := by
  intro d hd f hf
  rcases List.mem_or_eq_of_mem_set hd with hd | rfl
  · exact h d hd f hf
  · exact hc f hf
theorem Fin.setCur {t : Tk} (h : Fin R t) {c : Co} (hc : ∀ f ∈ c.fr, R (f.unit : Int)) : Fin R (Vm.setCur t c) := h.setC _ hc
theorem Fin.drop {t : Tk} (h : Fin R t) (n : Nat) : Fin R (Vm.drop n t) := h.setCur h.cur
theorem Fin.same {t t' : Tk} (h : Fin R t) (e : t'.cs = t.cs) : Fin R t' := by unfold Fin; rw [e]; exact h
theorem Fin.setPc {t : Tk} (h : Fin R t) (p : Nat) : Fin R (Vm.setPc p t) := by
  refine h.setCur fun f hf => ?_
  unfold setTop at hf
  dsimp only at hf
  by_cases h0 : (Vm.cur t).fr = []
  · rw [h0] at hf; cases hf
  · rcases List.mem_or_eq_of_mem_set hf with hf | rfl
    · exact h.cur f hf
    · refine h.cur (topF (Vm.cur t)) ?_
      unfold topF
      have hl : 0 < (Vm.cur t).fr.length := List.length_pos_iff.2 h0
      rw [List.getD_eq_getElem?_getD, List.getElem?_eq_getElem (by omega)]
      exact List.getElem_mem _
section
variable {x : Int} {M : Mdl}
end
end
/-! boxes as an environment -/
def bx0 (cap : Nat → Nat) : Env (List (List Int)) where
  full s b := decide ((s.getD b []).length = cap b)
  empty s b := decide ((s.getD b []).length = 0)
  put s b v := s.set b (s.getD b [] ++ [v])
  take s b := ((s.getD b []).headD 0, s.set b (s.getD b []).tail)
  tell s _ := s
structure WK (M : Mdl) (ws : List (List Int)) : Prop where
  len : ws.length = M.boxes.length
  in64 : ∀ b, ∀ v ∈ ws.getD b [], In64 v
  typ : ∀ b, b < M.boxes.length → Typed (M.boxes.getD b default).1 (ws.getD b [])
theorem head_mem {l : List Int} (h : l.length ≠ 0) : l.headD 0 ∈ l := by
  cases l with
  | nil => exact absurd rfl h
  | cons a r => exact List.mem_cons_self
theorem bx0_ok (M : Mdl) (cap : Nat → Nat) : EnvOk (bx0 cap) M (WK M) := by
  refine ⟨fun s b hK hb he => ?_, fun s b v hK hb _ hv ht => ?_, fun s e hK => hK⟩
  · have he' : decide ((s.getD b []).length = 0) = false := he
    rw [decide_eq_false_iff_not] at he'
    have hm := head_mem he'
    refine ⟨⟨by simp [bx0, hK.len], fun j v hv => ?_, fun j hj h2 v hv => ?_⟩, hK.in64 b _ hm, fun h2 => hK.typ b hb h2 _ hm⟩
    · have hv' : v ∈ (s.set b (s.getD b []).tail).getD j [] := hv
      rw [getD_setL (by rw [hK.len]; exact hb)] at hv'
      split at hv'
      · exact hK.in64 b v (List.mem_of_mem_tail hv')
      · exact hK.in64 j v hv'
    · have hv' : v ∈ (s.set b (s.getD b []).tail).getD j [] := hv
      rw [getD_setL (by rw [hK.len]; exact hb)] at hv'
      split at hv'
      · rename_i e; subst e; exact hK.typ b hb h2 v (List.mem_of_mem_tail hv')
      · exact hK.typ j hj h2 v hv'
  · refine ⟨by simp [bx0, hK.len], fun j w hw => ?_, fun j hj h2 w hw => ?_⟩
    · have hw' : w ∈ (s.set b (s.getD b [] ++ [v])).getD j [] := hw
      rw [getD_setL (by rw [hK.len]; exact hb)] at hw'
      split at hw'
      · rcases List.mem_append.1 hw' with h | h
        · exact hK.in64 b w h
        · simp at h; subst h; exact hv
      · exact hK.in64 j w hw'
    · have hw' : w ∈ (s.set b (s.getD b [] ++ [v])).getD j [] := hw
      rw [getD_setL (by rw [hK.len]; exact hb)] at hw'
      split at hw'
      · rename_i e; subst e
        rcases List.mem_append.1 hw' with h | h
        · exact hK.typ b hb h2 w h
        · simp at h; subst h; exact ht h2
      · exact hK.typ j hj h2 w hw'
theorem WK.nil (M : Mdl) : WK M (List.replicate M.boxes.length []) :=
  ⟨by simp, (fun b v hv => by rw [getD_rep] at hv; cases hv), (fun b hb h2 v hv => by rw [getD_rep] at hv; cases hv)⟩
section
variable {M : Mdl} {T : Nat → Int → Option Shape} (hC : Certs M T) {L : List Nat} (hL : ∀ u ∈ L, u < M.units.length ∧ (unt M u).kind = 4)
include hC hL
end
theorem tasks_ok (M : Mdl) : ∀ u ∈ tasks M, u < M.units.length ∧ (unt M u).kind = 4 := fun u hu => by
  unfold tasks at hu
  rw [List.mem_filter, List.mem_range, decide_eq_true_eq] at hu
  exact hu
end Go.Proofs.Ytjehflelkpacfaa.Vm

/- All tasks of a right module, as they are picked: what is known of them. Plain Lean. -/
namespace Go.Proofs.Ytjehflelkpacfaa.Vm
set_option linter.unusedVariables false
set_option linter.unusedSimpArgs false
set_option linter.unusedSectionVars false
open ImgM Ver Opt
def KB (M : Mdl) (s : Bs) : Prop := WK M s.ws
theorem bxs_ok (M : Mdl) (k : Option Nat) : EnvOk (bxs M k) M (KB M) := by
  have h0 := bx0_ok M (capN M)
  refine ⟨fun s b hK hb he => h0.take s.ws b hK hb he, fun s b v hK hb hf hv ht => h0.put s.ws b v hK hb hf hv ht, fun s e hK => ?_⟩
  cases k with
  | none => exact hK
  | some k => exact hK
/-- what is known of all tasks -/
structure Ma.Ok (M : Mdl) (T : Nat → Int → Option Shape) (c : Ma) : Prop where
  good : ∀ t ∈ c.ts, Good M T (KB M) (t, c.bs)
  out : ∀ t ∈ c.ts, t.out.length ≤ 2 * c.n
  log : c.bs.log.length ≤ 4 * c.n
  n : c.n ≤ 20000
theorem Good.with_ {M : Mdl} {T : Nat → Int → Option Shape} {ν : Type} {K : ν → Prop} {t : Tk} {s s' : ν} (h : Good M T K (t, s)) (hs : K s') : Good M T K (t, s') := ⟨h.1, hs⟩
theorem Ma.Ok.init {M : Mdl} {T : Nat → Int → Option Shape} (hC : Certs M T) : (Ma.init M).Ok M T := by
  refine ⟨fun t ht => ?_, fun t ht => ?_, Nat.zero_le _, Nat.zero_le _⟩
  · obtain ⟨u, hu, rfl⟩ := List.mem_map.1 ht
    obtain ⟨h1, h2⟩ := tasks_ok M u hu
    exact ⟨.inr (.inr ⟨show (1 : Int) ≤ 3 by decide, [0], new_ok hC h1 h2⟩), WK.nil M⟩
  · obtain ⟨u, hu, rfl⟩ := List.mem_map.1 ht
    exact Nat.zero_le _
section
variable {M : Mdl} {T : Nat → Int → Option Shape}
theorem goN_size {k : Option Nat} : ∀ (n : Nat) (r : Tk × Bs), (goN (bxs M k) M n r).2.1.out.length ≤ r.1.out.length + 2 * (goN (bxs M k) M n r).1 ∧ (goN (bxs M k) M n r).2.2.log.length ≤ r.2.log.length + 4 * (goN (bxs M k) M n r).1
  | 0, r => by simp [goN]
  | n + 1, r => by
    have hsz := step_size (M := M) (V := bxs M k) (sz := fun s : Bs => s.log.length) (fun v b x => Nat.le_succ _) (fun v b => Nat.le_succ _) (fun v x => by
      cases k with
      | none => exact Nat.le_succ _
      | some k => show (v.log ++ [(k, x)]).length ≤ v.log.length + 1; simp) r
    have ho := step_outLen (V := bxs M k) (M := M) r
    obtain ⟨h1, h2⟩ := goN_size (k := k) n (step (bxs M k) M r).2
    unfold goN
    by_cases hs : (step (bxs M k) M r).1 = true
    · rw [if_pos hs]
      dsimp only at hsz ⊢
      omega
    · rw [if_neg hs]
      have hn : (look (bxs M k) M r).1.st ≠ 1 := fun h => by rw [step_yes _ M h] at hs; exact hs rfl
      rw [step_no _ M hn, look_snd, (look_out _ M r).1]
      dsimp only
      omega
/-- what a pick of a task makes -/
structure Pkd (M : Mdl) (T : Nat → Int → Option Shape) (n : Nat) (r : Tk × Bs) (p : (Int × Nat) × (Tk × Bs)) : Prop where
  good : Good M T (KB M) p.2
  out : p.2.1.out.length ≤ r.1.out.length + 2 * p.1.2
  log : p.2.2.log.length ≤ r.2.log.length + 4 * p.1.2
  n : n + p.1.2 ≤ 20000
theorem pick1_ok (hC : Certs M T) {k : Option Nat} {n : Nat} {q : Int} {r : Tk × Bs} (hn : n ≤ 20000) (h : Good M T (KB M) r) : Pkd M T n r (pick1 (bxs M k) M n q r) := by
  unfold pick1
  by_cases h1 : q < 1 ∨ 10000 < q
  · rw [if_pos h1]; exact ⟨h, Nat.le_refl _, Nat.le_refl _, hn⟩
  rw [if_neg h1]
  by_cases h2 : (look (bxs M k) M r).1.st ≠ 1
  · rw [if_pos h2]
    exact ⟨look_good h, by rw [(look_out _ M r).1]; exact Nat.le_refl _, by rw [look_snd]; exact Nat.le_refl _, hn⟩
  rw [if_neg h2]
  have hg := goN_good hC (bxs_ok M k) (min q.toNat (20000 - n)) (look_good (V := bxs M k) h)
  have hsz := goN_size (M := M) (k := k) (min q.toNat (20000 - n)) (look (bxs M k) M r)
  have hle := goN_le (V := bxs M k) (M := M) (min q.toNat (20000 - n)) (look (bxs M k) M r)
  rw [(look_out _ M r).1, look_snd] at hsz
  generalize goN (bxs M k) M (min q.toNat (20000 - n)) (look (bxs M k) M r) = g at *
  have e : (if g.1 = 0 then ((10 : Int), 0) else (0, g.1)).2 = g.1 := by
    split
    · rename_i h; exact h.symm
    · rfl
  refine ⟨hg, ?_, ?_, ?_⟩
  · dsimp only; rw [e]; exact hsz.1
  · dsimp only; rw [e]; exact hsz.2
  · dsimp only; rw [e]; omega
theorem Ma.Ok.at_ {c : Ma} (h : c.Ok M T) {k : Nat} (hk : k < c.ts.length) : c.ts.getD k default ∈ c.ts := by
  rw [List.getD_eq_getElem?_getD, List.getElem?_eq_getElem hk]; exact List.getElem_mem _
/-- with a task picked all is known again -/
theorem Ma.Ok.put {c : Ma} (h : c.Ok M T) {k : Nat} (hk : k < c.ts.length) {p : (Int × Nat) × (Tk × Bs)} (hp : Pkd M T c.n (c.at_ k) p) : (⟨c.ts.set k p.2.1, p.2.2, c.n + p.1.2⟩ : Ma).Ok M T := by
  refine ⟨fun t ht => ?_, fun t ht => ?_, ?_, hp.n⟩
  · rcases List.mem_or_eq_of_mem_set ht with ht | rfl
    · exact (h.good t ht).with_ hp.good.2
    · exact hp.good
  · rcases List.mem_or_eq_of_mem_set ht with ht | rfl
    · have := h.out t ht
      dsimp only; omega
    · have h1 := hp.out
      have h2 := h.out _ (h.at_ hk)
      have h3 : (c.at_ k).1.out.length ≤ 2 * c.n := h2
      dsimp only; omega
  · have h1 := hp.log
    have h2 := h.log
    have h3 : (c.at_ k).2.log.length ≤ 4 * c.n := h2
    dsimp only; omega
theorem Ma.Ok.pick (hC : Certs M T) {c : Ma} (h : c.Ok M T) (told : Bool) (p : Int × Int) : (Vm.pick M told c p).2.Ok M T := by
  unfold Vm.pick
  by_cases h1 : p.1 < 0 ∨ (c.ts.length : Int) ≤ p.1
  · rw [if_pos h1]; exact h
  · rw [if_neg h1]
    have hk : p.1.toNat < c.ts.length := by omega
    exact h.put hk (pick1_ok hC h.n (h.good _ (h.at_ hk)))
theorem Ma.Ok.looked {c : Ma} (h : c.Ok M T) : (c.looked M).Ok M T := by
  refine ⟨fun t ht => ?_, fun t ht => ?_, h.log, h.n⟩
  · obtain ⟨t0, h0, rfl⟩ := List.mem_map.1 ht
    have := look_good (V := bxs M none) (h.good t0 h0)
    have e : look (bxs M none) M (t0, c.bs) = ((look (bxs M none) M (t0, c.bs)).1, c.bs) := Prod.ext rfl (look_snd _ M _)
    rw [e] at this
    exact this
  · obtain ⟨t0, h0, rfl⟩ := List.mem_map.1 ht
    rw [(look_out _ M _).1]
    exact h.out t0 h0
end
end Go.Proofs.Ytjehflelkpacfaa.Vm
