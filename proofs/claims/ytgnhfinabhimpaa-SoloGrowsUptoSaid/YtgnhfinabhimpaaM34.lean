/- Solo, walked: what is asked. -/
import Derived.Test.YtgnhfinabhimpaaM33
import Derived.Laws.StructEq
namespace Go.Proofs.Ytgnhfinabhimpaa.Vw
open Go.RowKit Go.Proofs.Ytgnhfinabhimpaa.Img
set_option linter.unusedVariables false
set_option linter.unusedSimpArgs false
attribute [local irreducible] Run Cod End OpT Still RunQ RunS RunT Fn PutOk
/-- a report, and where it lies -/
structure RpL where
  st : Int
  bx : Int
  tr : Int
  oo : Option Addr
  oc : Nat
  out : List Int
  so : Option Addr
  sc : Nat
  sent : List Rw
  ko : Option Addr
  kc : Nat
  took : List Nat
  steps : Nat
abbrev RpL.cells (r : RpL) : List Value := [.int .i64 r.st, .int .i64 r.bx, .int .i64 r.tr, .slice r.oo r.out.length r.oc, .slice r.so r.sent.length r.sc, .slice r.ko r.took.length r.kc, .int .i64 (r.steps : Int)]
abbrev RpL.mem (r : RpL) : List Chunk := [arr r.oo r.out.length r.oc 2 i64c r.out, arr r.so r.sent.length r.sc 38 rwC r.sent, bag (r.sent.map (rowM 2)), arr r.ko r.took.length r.kc 3 natC r.took]
def RpL.zero : RpL := ⟨0, 0, 0, none, 0, [], none, 0, [], none, 0, [], 0⟩
/-- a report is what the plain run comes to -/
structure RpL.Is (r : RpL) (s : Nat × (Vm.Tk × Vm.Ls)) : Prop where
  st : r.st = s.2.1.st
  bx : r.bx = s.2.1.bx
  tr : r.tr = s.2.1.tr
  out : r.out = s.2.1.out
  sent : r.sent.map (·.l) = s.2.2.sent
  took : r.took = s.2.2.took
  steps : r.steps = s.1
def unitOf (m : ML) (task : Int) : Nat := (Vm.tasks m.mdl).getD task.toNat 0
/-- what Solo answers -/
def IsSolo (m : ML) (f : FL) (task most : Int) (r : RpL) : Prop :=
  if Vm.soloErr m.mdl task f.ws most = 0 then r.Is (Vm.solo m.mdl (unitOf m task) f.ws most.toNat) else r = RpL.zero
theorem Mem.rowsNil {w : World} {L : List Chunk} (t : TypeId) (n : Nat) (h : Mem w L) : Mem w (bag ((List.replicate n (⟨none, 0, []⟩ : Rw)).map (rowM t)) :: L) := by
  have key : ∀ n : Nat, Mem w ((List.replicate n (⟨none, 0, []⟩ : Rw)).map (rowM t) ++ L) := fun n => by
    induction n with
    | zero => exact h
    | succ n ih => rw [List.replicate_succ, List.map_cons]; exact ih.nilArr t i64c
  exact (key n).pack (fun c hc => by
    obtain ⟨r, -, rfl⟩ := List.mem_map.1 hc
    exact arr_excl)
/-- which word of the feeds is none of its box's type -/
def rowBad (m : ML) (f : FL) (k : Nat) : Bool := (f.l.getD k default).l.any (Vm.badW (m.bx.getD k default).1)
/-- the feeds are of the boxes' types -/
theorem fed_of {m : ML} {f : FL} (h5 : f.l.length = m.bx.length) (h64 : ∀ l ∈ f.ws, ∀ v ∈ l, ImgM.In64 v) (hg : ∀ k, k < f.l.length → rowBad m f k = false) : Vm.Fed m.mdl f.ws := by
  refine ⟨by simpa using h5, h64, fun b hb h2 v hv => ?_⟩
  have := hg b (by rw [h5]; exact hb)
  rw [getD_ws] at hv
  unfold rowBad at this
  rw [List.any_eq_false] at this
  have := this v hv
  unfold Vm.badW at this
  have h2' : (m.bx.getD b default).1 = 2 := h2
  rw [h2'] at this
  simp only [decide_true, Bool.true_and, Bool.and_eq_true, decide_eq_true_eq] at this
  omega
theorem lsNew_ok (f : FL) : LsOk f ⟨List.replicate f.l.length 0, List.replicate f.l.length ⟨none, 0, []⟩⟩ := ⟨by simp, by simp, fun b hb => by rw [Vm.getD_rep]; exact Nat.zero_le _⟩
theorem lsNew_abs (f : FL) : LsE.abs ⟨List.replicate f.l.length 0, List.replicate f.l.length ⟨none, 0, []⟩⟩ = Vm.Ls.new f.ws.length := by
  unfold LsE.abs Vm.Ls.new
  simp
theorem rng_any {n : Nat} {p : Nat → Bool} (h : ∀ k, k < n → p k = false) : (List.range n).any p = false := by
  rw [List.any_eq_false]
  intro k hk
  rw [List.mem_range] at hk
  rw [h k hk]; simp
theorem anyW {l : List Int} {p : Int → Bool} {k : Nat} (h : k < l.length) (hp : p (l.getD k default) = true) : l.any p = true := by
  rw [List.any_eq_true]
  refine ⟨_, ?_, hp⟩
  rw [List.getD_eq_getElem?_getD, List.getElem?_eq_getElem h]; exact List.getElem_mem h
theorem badAny {m : ML} {f : FL} : ((List.range f.ws.length).any fun i => (f.ws.getD i []).any (Vm.badW (m.mdl.boxes.getD i default).1)) = (List.range f.l.length).any (rowBad m f) := by
  simp only [FL.ws, List.length_map]
  congr 1
  funext i
  rw [getD_ws]; rfl
theorem soloErr_eq {m : ML} {f : FL} {task most : Int} (hv : Ver.verify m.mdl = .ok) : Vm.soloErr m.mdl task f.ws most = if task < 0 ∨ ((Vm.tasks m.mdl).length : Int) ≤ task ∨ most < 0 ∨ 5000 < most then 3
  else if f.l.length ≠ m.bx.length then 5 else if (List.range f.l.length).any (rowBad m f) then 9 else 0 := by
  unfold Vm.soloErr
  rw [if_neg (by rw [hv]; exact fun h => h rfl), badAny, show f.ws.length = f.l.length by simp]
set_option maxRecDepth 100000 in
set_option maxHeartbeats 4000000 in
theorem solo_is (m : ML) (hwf : m.Wf) (f : FL) (h64 : ∀ l ∈ f.ws, ∀ v ∈ l, ImgM.In64 v) (task most : Int) :
    Fn Try.prog 9 #[m.val, .int .i64 task, f.val, .int .i64 most] [md m, fd f] [] (σ := RpL) (IsSolo m f task most) (fun r => .tuple #[.agg r.cells.toArray, .int .i64 (Vm.soloErr m.mdl task f.ws most)]) RpL.mem := by
  obtain ⟨er, her⟩ : ∃ er, er = Vm.soloErr m.mdl task f.ws most := ⟨_, rfl⟩
  rw [← her]
  have hbad : er ≠ 0 → IsSolo m f task most RpL.zero := fun h => by unfold IsSolo; rw [if_neg (by rw [← her]; exact h)]
  refine Fn.enter (args := [m.val, .int .i64 task, f.val, .int .i64 most]) Try.func9 rfl _ Try.ntmps9 rfl (by simp [fd_excl, md_excl]) (fun w S => ?_)
  (try conv => rhs; simp only [List.cons_append, List.nil_append])
  apply Cod.fact m.Small (fun w hm => (md_holds.1 (hm.has (by (repeat (first | exact Take.head | apply Take.tail))))).small)
  intro hsm
  apply Cod.fact (f.l.length ≤ 9223372036854775807 ∧ ∀ k, k < f.l.length → (f.l.getD k default).l.length ≤ 9223372036854775807) (fun w hm => (fd_holds.1 (hm.has (by (repeat (first | exact Take.head | apply Take.tail))))).small)
  intro hfs
  repeat (first | refine go (k := ?_) | (refine goB (k := ?_); intro b) | (refine goA (k := ?_); intro ao cap))
  obtain ⟨rb, rfl⟩ : ∃ x, x = b := ⟨_, rfl⟩
  (apply Run.op; exact rfl; refine OpT.call0_ (spec := verify_is m hwf) (k := ?_); intro s hs; (try conv => rhs; simp only [List.cons_append, List.nil_append]))
  by_cases hv : Ver.verify m.mdl = .ok
  · rw [hv]
    have her0 := her
    rw [soloErr_eq hv] at her
    have hF := formed (Ver.verify_iff.1 hv).form
    have hu30 := hF.units
    have hb30 := hF.boxes
    repeat (first | refine go (k := ?_) | (refine goB (k := ?_); intro b) | (refine goA (k := ?_); intro ao cap))
    obtain ⟨wb, rfl⟩ : ∃ x, x = b := ⟨_, rfl⟩
    obtain ⟨mb, rfl⟩ : ∃ x, x = b := ⟨_, rfl⟩
    (apply Run.op; exact rfl; refine OpT.call0_ (spec := tasks_is mb m (by omega)) (k := ?_); intro s hs; (try conv => rhs; simp only [List.cons_append, List.nil_append]))
    obtain ⟨ko, kc⟩ := s
    have htl : (Vm.tasks m.mdl).length ≤ 30 := by
      rw [tasks_eq]; have := tasks_len m m.us.length; omega
    by_cases h3 : task < 0 ∨ ((Vm.tasks m.mdl).length : Int) ≤ task ∨ most < 0 ∨ 5000 < most
    · rw [if_pos h3] at her
      subst her
      by_cases c1 : task < 0
      · repeat (first | refine go (k := ?_) | (refine goB (k := ?_); intro b) | (refine goA (k := ?_); intro ao cap))
        apply End.imp (fun w hm => (((hm.bagNil).nilArr 2 i64c).nilArr 38 rwC).nilArr 3 natC)
        (refine End.doneC2_ (RpL.zero) (he := by (first | exact rfl | (refine congrArg (Value.int _) ?_; omega) | (refine congrArg (Value.int _) ?_; dsimp only; omega))) (hp := ?_))
        exact hbad (by omega)
      by_cases c2 : ((Vm.tasks m.mdl).length : Int) ≤ task
      · repeat (first | refine go (k := ?_) | (refine goB (k := ?_); intro b) | (refine goA (k := ?_); intro ao cap))
        apply End.imp (fun w hm => (((hm.bagNil).nilArr 2 i64c).nilArr 38 rwC).nilArr 3 natC)
        (refine End.doneC2_ (RpL.zero) (he := by (first | exact rfl | (refine congrArg (Value.int _) ?_; omega) | (refine congrArg (Value.int _) ?_; dsimp only; omega))) (hp := ?_))
        exact hbad (by omega)
      by_cases c3 : most < 0
      · repeat (first | refine go (k := ?_) | (refine goB (k := ?_); intro b) | (refine goA (k := ?_); intro ao cap))
        apply End.imp (fun w hm => (((hm.bagNil).nilArr 2 i64c).nilArr 38 rwC).nilArr 3 natC)
        (refine End.doneC2_ (RpL.zero) (he := by (first | exact rfl | (refine congrArg (Value.int _) ?_; omega) | (refine congrArg (Value.int _) ?_; dsimp only; omega))) (hp := ?_))
        exact hbad (by omega)
      have c4 : 5000 < most := by omega
      repeat (first | refine go (k := ?_) | (refine goB (k := ?_); intro b) | (refine goA (k := ?_); intro ao cap))
      apply End.imp (fun w hm => (((hm.bagNil).nilArr 2 i64c).nilArr 38 rwC).nilArr 3 natC)
      (refine End.doneC2_ (RpL.zero) (he := by (first | exact rfl | (refine congrArg (Value.int _) ?_; omega) | (refine congrArg (Value.int _) ?_; dsimp only; omega))) (hp := ?_))
      exact hbad (by omega)
    rw [if_neg h3] at her
    have c1 : ¬ task < 0 := fun h => h3 (.inl h)
    have c2 : ¬ ((Vm.tasks m.mdl).length : Int) ≤ task := fun h => h3 (.inr (.inl h))
    have c3 : ¬ most < 0 := fun h => h3 (.inr (.inr (.inl h)))
    have c4 : ¬ 5000 < most := fun h => h3 (.inr (.inr (.inr h)))
    by_cases h5 : f.l.length ≠ m.bx.length
    · rw [if_pos h5] at her
      subst her
      repeat (first | refine go (k := ?_) | (refine goB (k := ?_); intro b) | (refine goA (k := ?_); intro ao cap))
      apply End.imp (fun w hm => (((hm.bagNil).nilArr 2 i64c).nilArr 38 rwC).nilArr 3 natC)
      (refine End.doneC2_ (RpL.zero) (he := by (first | exact rfl | (refine congrArg (Value.int _) ?_; omega) | (refine congrArg (Value.int _) ?_; dsimp only; omega))) (hp := ?_))
      exact hbad (by omega)
    rw [if_neg h5] at her
    have h5 : f.l.length = m.bx.length := Classical.not_not.1 h5
    repeat (first | refine go (k := ?_) | (refine goB (k := ?_); intro b) | (refine goA (k := ?_); intro ao cap))
    apply Cod.imp (fun w hm => Mem.fdOut (by (repeat (first | exact Take.head | apply Take.tail))) hm)
    refine Cod.only ((fun k => [old w S, md m, fd f, rd f.o f.l.length f.c rwC f.l, blk mb (mdV m) 25, blk rb RpL.zero.cells 40, arr ko (Vm.tasks m.mdl).length kc 3 natC (Vm.tasks m.mdl)]) 0) (by (repeat (first | exact Takes.nil | exact Take.head | apply Take.tail | apply Takes.cons))) ?_
    apply Cod.loop (σ := Nat) (fun k => k ≤ f.l.length ∧ ∀ j, j < k → rowBad m f j = false) (fun k => [(1, .int .i64 task), (2, f.val), (3, .int .i64 most), (4, ptr mb), (8, ptr rb), (9, .int .i64 0), (11, .slice ko (Vm.tasks m.mdl).length kc), (52, f.val), (53, .int .i64 (f.l.length : Int)), (54, .int .i64 (k : Int))]) (fun k => [old w S, md m, fd f, rd f.o f.l.length f.c rwC f.l, blk mb (mdV m) 25, blk rb RpL.zero.cells 40, arr ko (Vm.tasks m.mdl).length kc 3 natC (Vm.tasks m.mdl)]) (fun k => f.l.length - k) 0
    rotate_left
    exact sb
    exact tks
    intro k hk K1 hK1
    (try conv => rhs; simp only [List.cons_append, List.nil_append])
    rotate_left
    · exact ⟨Nat.zero_le _, fun j hj => by omega⟩
    obtain ⟨hk, hgood⟩ := hk
    by_cases hkn : k < f.l.length
    · apply Cod.imp (fun w hm => Mem.fdRow hkn (by (repeat (first | exact Take.head | apply Take.tail))) hm)
      have hkl := hfs.2 k hkn
      obtain ⟨r, hr⟩ : ∃ r, r = f.l.getD k default := ⟨_, rfl⟩
      rw [← hr] at hkl ⊢
      have hbd : rowBad m f k = r.l.any (Vm.badW (m.bx.getD k default).1) := by unfold rowBad; rw [← hr]
      repeat (first | refine go (k := ?_) | (refine goB (k := ?_); intro b) | (refine goA (k := ?_); intro ao cap))
      simp only [← hr]
      refine Cod.only ((fun j => [old w S, md m, fd f, rd f.o f.l.length f.c rwC f.l, rd r.o r.l.length r.c i64c r.l, blk mb (mdV m) 25, blk rb RpL.zero.cells 40, arr ko (Vm.tasks m.mdl).length kc 3 natC (Vm.tasks m.mdl)]) 0) (by (repeat (first | exact Takes.nil | exact Take.head | apply Take.tail | apply Takes.cons))) ?_
      apply Cod.loop (σ := Nat) (fun j => j ≤ r.l.length ∧ ∀ i, i < j → Vm.badW (m.bx.getD k default).1 (r.l.getD i default) = false) (fun j => [(1, .int .i64 task), (2, f.val), (3, .int .i64 most), (4, ptr mb), (8, ptr rb), (9, .int .i64 0), (11, .slice ko (Vm.tasks m.mdl).length kc), (12, .int .i64 (k : Int)), (52, f.val), (53, .int .i64 (f.l.length : Int)), (54, .int .i64 (k : Int)), (59, .slice r.o r.l.length r.c), (60, .int .i64 (r.l.length : Int)), (61, .int .i64 (j : Int))]) (fun j => [old w S, md m, fd f, rd f.o f.l.length f.c rwC f.l, rd r.o r.l.length r.c i64c r.l, blk mb (mdV m) 25, blk rb RpL.zero.cells 40, arr ko (Vm.tasks m.mdl).length kc 3 natC (Vm.tasks m.mdl)]) (fun j => r.l.length - j) 0
      rotate_left
      exact sb
      exact tks
      intro j hj K2 hK2
      (try conv => rhs; simp only [List.cons_append, List.nil_append])
      rotate_left
      · exact ⟨Nat.zero_le _, fun i hi => by omega⟩
      obtain ⟨hj, hg2⟩ := hj
      by_cases hjn : j < r.l.length
      · by_cases hbw : Vm.badW (m.bx.getD k default).1 (r.l.getD j default) = true
        · have hb9 : rowBad m f k = true := by rw [hbd]; exact anyW hjn hbw
          have hany : (List.range f.l.length).any (rowBad m f) = true := List.any_eq_true.2 ⟨k, List.mem_range.2 hkn, hb9⟩
          rw [if_pos hany] at her
          subst her
          unfold Vm.badW at hbw
          rw [Bool.and_eq_true, Bool.and_eq_true, decide_eq_true_eq, decide_eq_true_eq, decide_eq_true_eq] at hbw
          obtain ⟨b1, b2, b3⟩ := hbw
          repeat (first | refine go (k := ?_) | (refine goB (k := ?_); intro b) | (refine goA (k := ?_); intro ao cap))
          apply End.imp (fun w hm => (((hm.bagNil).nilArr 2 i64c).nilArr 38 rwC).nilArr 3 natC)
          (refine End.doneC2_ (RpL.zero) (he := by (first | exact rfl | (refine congrArg (Value.int _) ?_; omega) | (refine congrArg (Value.int _) ?_; dsimp only; omega))) (hp := ?_))
          exact hbad (by omega)
        · have hbw : Vm.badW (m.bx.getD k default).1 (r.l.getD j default) = false := by simpa using hbw
          have hnx : ∀ i, i < j + 1 → Vm.badW (m.bx.getD k default).1 (r.l.getD i default) = false := fun i hi => by
            by_cases e : i = j
            · subst e; exact hbw
            · exact hg2 i (by omega)
          have hbw' := hbw
          unfold Vm.badW at hbw'
          by_cases b1 : (m.bx.getD k default).1 = 2
          · by_cases b2 : r.l.getD j default = 0
            · repeat (first | refine go (k := ?_) | (refine goB (k := ?_); intro b) | (refine goA (k := ?_); intro ao cap))
              refine End.round0_ hK2 (j + 1) ?_ ?_
              · exact ⟨by omega, hnx⟩
              · omega
            · have b3 : r.l.getD j default = 1 := by
                simp only [b1, decide_true, Bool.true_and, Bool.and_eq_false_iff, decide_eq_false_iff_not, Classical.not_not] at hbw'
                rcases hbw' with h | h
                · exact absurd h b2
                · exact h
              repeat (first | refine go (k := ?_) | (refine goB (k := ?_); intro b) | (refine goA (k := ?_); intro ao cap))
              refine End.round0_ hK2 (j + 1) ?_ ?_
              · exact ⟨by omega, hnx⟩
              · omega
          · repeat (first | refine go (k := ?_) | (refine goB (k := ?_); intro b) | (refine goA (k := ?_); intro ao cap))
            refine End.round0_ hK2 (j + 1) ?_ ?_
            · exact ⟨by omega, hnx⟩
            · omega
      · repeat (first | refine go (k := ?_) | (refine goB (k := ?_); intro b) | (refine goA (k := ?_); intro ao cap))
        refine End.round0_ hK1 (k + 1) ?_ ?_
        · refine ⟨by omega, fun i hi => ?_⟩
          by_cases e : i = k
          · subst e
            rw [hbd, List.any_eq_false]
            intro v hv
            obtain ⟨q, hq, rfl⟩ := List.getElem_of_mem hv
            have := hg2 q (by omega)
            rw [show r.l.getD q default = r.l[q] by simp [List.getD_eq_getElem?_getD, List.getElem?_eq_getElem hq]] at this
            simpa using this
          · exact hgood i (by omega)
        · omega
    · have hany : (List.range f.l.length).any (rowBad m f) = false := rng_any (fun i hi => hgood i (by omega))
      rw [hany] at her
      simp only [Bool.false_eq_true, if_false] at her
      subst her
      obtain ⟨tn, rfl⟩ := Int.eq_ofNat_of_zero_le (show 0 ≤ task by omega)
      obtain ⟨mn, rfl⟩ := Int.eq_ofNat_of_zero_le (show 0 ≤ most by omega)
      repeat (first | refine go (k := ?_) | (refine goB (k := ?_); intro b) | (refine goA (k := ?_); intro ao cap))
      refine cutN0 (σ := LsP) (fun _ => True) (fun p => [(1, .int .i64 (tn : Int)), (3, .int .i64 (mn : Int)), (4, ptr mb), (8, ptr rb), (9, .int .i64 0), (11, .slice ko (Vm.tasks m.mdl).length kc), (16, ptr p.lb)]) (fun p => [old w S, md m, fd f, blk mb (mdV m) 25, blk rb RpL.zero.cells 40, arr ko (Vm.tasks m.mdl).length kc 3 natC (Vm.tasks m.mdl), blk p.lb (lsV p f) 59, arr (some ⟨p.tb, 0, none⟩) f.l.length f.l.length 3 natC (List.replicate f.l.length 0), arr (some ⟨p.sb, 0, none⟩) f.l.length f.l.length 38 rwC (List.replicate f.l.length ⟨none, 0, []⟩)]) ?_ ?_
      · intro P hP
        repeat (first | refine go (k := ?_) | (refine goB (k := ?_); intro b) | (refine goA (k := ?_); intro ao cap))
        (apply Run.op; exact rfl; refine OpT.val_ (h := by exact Still.mkIface (t := 0) rfl rfl) (k := ?_))
        obtain ⟨T, hC⟩ := certs_ml hwf hv
        have hfed := fed_of h5 h64 (fun i hi => hgood i (by omega))
        have hEV := Vm.lists_ok hfed
        obtain ⟨hu1, hu2⟩ := tasks_mem (m := m) (k := tn) (by omega)
        have hgd : (Vm.tasks m.mdl).getD tn default = (Vm.tasks m.mdl).getD tn 0 := rfl
        rw [hgd]
        have hul : unitOf m (tn : Int) = (Vm.tasks m.mdl).getD tn 0 := rfl
        generalize (Vm.tasks m.mdl).getD tn 0 = u at *
        obtain ⟨q1, q2, q3, q4, q5, q6⟩ := head_ok (hF.head u hu1)
        (apply Run.op; exact rfl; refine OpT.call0_ (spec := new_is mb m u hu1 57 (ptr P.lb) q1) (k := ?_); intro s hs; (try conv => rhs; simp only [List.cons_append, List.nil_append]))
        obtain ⟨tb, ob, c⟩ := s
        dsimp only at hs ⊢
        repeat (first | refine go (k := ?_) | (refine goB (k := ?_); intro b) | (refine goA (k := ?_); intro ao cap))
        apply Run.imp' (fun w hm => Mem.rowsNil 2 f.l.length hm)
        apply Run.imp' (fun w hm => Mem.lsIn (p := P) (f := f) (e := ⟨List.replicate f.l.length 0, List.replicate f.l.length ⟨none, 0, []⟩⟩) hm (by (repeat (first | exact Takes.nil | exact Take.head | apply Take.tail | apply Takes.cons))))
        obtain ⟨z0, hz0⟩ : ∃ z0 : SL (lsEnv P f), z0 = SL.born (lsEnv P f) ob c ⟨List.replicate f.l.length 0, List.replicate f.l.length ⟨none, 0, []⟩⟩ := ⟨_, rfl⟩
        have hzw : z0.Wf := by rw [hz0]; exact born_wf hs ob _ (lsNew_ok f)
        have hz2 : z0.two = (Vm.new m.mdl u, Vm.Ls.new f.ws.length) := by rw [hz0, born_two (m := m) hs ob]; exact congrArg _ (lsNew_abs f)
        have hzg : Vm.Good m.mdl T (Vm.LsK m.mdl f.ws) z0.two := by rw [hz2]; exact new_good hC hu1 hu2 (Vm.new_K _ _ hfed)
        refine Run.only' (old w S :: md m :: fd f :: blk rb RpL.zero.cells 40 :: TM ⟨tb, mb, m⟩ z0) (by subst hz0; (repeat (first | exact Takes.nil | exact Take.head | apply Take.tail | apply Takes.cons))) ?_
        ((first | (apply Run.op; exact rfl) | refine Run.yes_ (h := ?_)); refine OpT.call0_ (spec := look_task ⟨tb, mb, m⟩ z0 hC hzw h5 hzg) (r := fun w => Reads.md (by (repeat (first | exact Take.head | apply Take.tail))) (Reads.any (by (repeat (first | exact Take.head | apply Take.tail))) fd_excl .nil)) (k := ?_); intro s hs; (try conv => rhs; simp only [List.cons_append, List.nil_append]))
        repeat (first | refine go (k := ?_) | (refine goB (k := ?_); intro b) | (refine goA (k := ?_); intro ao cap))
        have hsolo : Vm.solo m.mdl u f.ws mn = Vm.goN (Vm.lists f.ws) m.mdl mn (z0.look m).two := by
          unfold Vm.solo Vm.solo0
          rw [hzw.look_two, hz2]
        refine cutN (σ := Nat × SL (lsEnv P f)) (fun q => q.2.Wf ∧ Vm.solo m.mdl u f.ws mn = (q.1, q.2.two)) (fun q => [(8, ptr rb), (9, .int .i64 0), (16, ptr P.lb), (17, ptr tb), (18, .int .i64 (q.1 : Int))]) (fun q => old w S :: md m :: fd f :: blk rb RpL.zero.cells 40 :: TM ⟨tb, mb, m⟩ q.2) ?_ ?_
        · rintro ⟨k, z⟩ ⟨hzw', hsol⟩
          apply Cod.imp (fun w hm => Mem.lsOut hm (by (repeat (first | exact Take.head | apply Take.tail))))
          (try conv => rhs; simp only [List.cons_append, List.nil_append])
          obtain ⟨e1, e2, e3⟩ : LsOk f z.e := hzw'.env
          dsimp only at hsol ⊢
          repeat (first | refine go (k := ?_) | (refine goB (k := ?_); intro b) | (refine goA (k := ?_); intro ao cap))
          obtain ⟨R, hR⟩ : ∃ R : RpL, R = ⟨z.st, z.bx, z.tr, z.oo, z.oc, z.out, some ⟨P.sb, 0, none⟩, f.l.length, z.e.sent, some ⟨P.tb, 0, none⟩, f.l.length, z.e.took, k⟩ := ⟨_, rfl⟩
          refine End.doneC2_ R (he := ?_) (hF := by (subst hR; simp only [RpL.mem, e1, e2]; exact tks)) (hp := ?_)
          · subst hR; simp only [RpL.cells, e1, e2]
          · unfold IsSolo
            rw [← her0, if_pos rfl, hul, Int.toNat_natCast, hsol]
            subst hR
            exact ⟨rfl, rfl, rfl, rfl, rfl, rfl, rfl⟩
        intro K3 hK3
        refine Cod.only ((fun q => old w S :: md m :: fd f :: blk rb RpL.zero.cells 40 :: TM ⟨tb, mb, m⟩ q.2) (0, z0.look m)) (by (repeat (first | exact Takes.nil | exact Take.head | apply Take.tail | apply Takes.cons))) ?_
        apply Cod.loop (σ := Nat × SL (lsEnv P f)) (fun q => q.1 ≤ mn ∧ q.2.Wf ∧ Vm.Good m.mdl T (Vm.LsK m.mdl f.ws) q.2.two ∧ q.2.out.length ≤ 2 * q.1 ∧ Vm.total ((lsEnv P f).abs q.2.e).sent ≤ 4 * q.1 ∧ Vm.solo m.mdl u f.ws mn = ((Vm.goN (Vm.lists f.ws) m.mdl (mn - q.1) q.2.two).1 + q.1, (Vm.goN (Vm.lists f.ws) m.mdl (mn - q.1) q.2.two).2)) (fun q => [(3, .int .i64 (mn : Int)), (8, ptr rb), (9, .int .i64 0), (16, ptr P.lb), (17, ptr tb), (18, .int .i64 (q.1 : Int))]) (fun q => old w S :: md m :: fd f :: blk rb RpL.zero.cells 40 :: TM ⟨tb, mb, m⟩ q.2) (fun q => mn - q.1) (0, z0.look m)
        rotate_left
        exact sb
        exact tks
        intro q hq K1 hK1
        (try conv => rhs; simp only [List.cons_append, List.nil_append])
        rotate_left
        · refine ⟨Nat.zero_le _, hzw.look m, by rw [hzw.look_two]; exact Vm.look_good hzg, ?_, ?_, ?_⟩
          · show z0.out.length ≤ 0
            rw [hz0]; exact Nat.le_refl 0
          · show Vm.total (LsE.abs z0.e).sent ≤ 0
            rw [hz0]
            show Vm.total ((List.replicate f.l.length (⟨none, 0, []⟩ : Rw)).map (·.l)) ≤ 0
            rw [List.map_replicate]
            unfold Vm.total
            rw [List.map_replicate, List.sum_replicate_nat]; simp
          · rw [hsolo]; simp
        obtain ⟨k, z⟩ := q
        obtain ⟨r1, r2, r3, r4, r5, r6⟩ := hq
        dsimp only at r1 r2 r3 r4 r5 r6 hK1 ⊢
        by_cases hkm : k < mn
        · repeat (first | refine go (k := ?_) | (refine goB (k := ?_); intro b) | (refine goA (k := ?_); intro ao cap))
          ((first | (apply Run.op; exact rfl) | refine Run.yes_ (h := ?_)); refine OpT.call0_ (spec := step_task ⟨tb, mb, m⟩ z hC hEV r2 h5 r3 (by omega) (Nat.le_trans (show (lsEnv P f).size ((lsEnv P f).abs z.e) ≤ 4 * k from r5) (by omega))) (r := fun w => Reads.md (by (repeat (first | exact Take.head | apply Take.tail))) (Reads.any (by (repeat (first | exact Take.head | apply Take.tail))) fd_excl .nil)) (k := ?_); intro s hs; (try conv => rhs; simp only [List.cons_append, List.nil_append]))
          obtain ⟨z', rfl⟩ : ∃ x, x = s := ⟨_, rfl⟩
          obtain ⟨s1, s2⟩ := hs
          have hmk : mn - k = (mn - (k + 1)) + 1 := by omega
          rw [hmk] at r6
          unfold Vm.goN at r6
          by_cases hb : (Vm.step (lsEnv P f).V (⟨tb, mb, m⟩ : Pl).m.mdl z.two).1 = true
          · rw [hb]
            rw [if_pos (show (Vm.step (Vm.lists f.ws) m.mdl z.two).1 = true from hb)] at r6
            repeat (first | refine go (k := ?_) | (refine goB (k := ?_); intro b) | (refine goA (k := ?_); intro ao cap))
            refine End.round0_ hK1 (k + 1, z') ?_ ?_
            · refine ⟨by omega, s1, by rw [s2]; exact Vm.step_good hC hEV r3, ?_, ?_, ?_⟩
              · have h1 := Vm.step_outLen (V := Vm.lists f.ws) (M := m.mdl) z.two
                have h2 : z'.out = (Vm.step (Vm.lists f.ws) m.mdl z.two).2.1.out := congrArg (fun r => r.1.out) s2
                rw [h2]
                have h3 : z.two.1.out.length ≤ 2 * k := r4
                dsimp only
                omega
              · have h1 := Vm.step_size (sz := fun s : Vm.Ls => Vm.total s.sent) (V := Vm.lists f.ws) (M := m.mdl) (fun v b x => Vm.total_put v.sent b x) (fun v b => Nat.le_succ _) (fun v x => Nat.le_succ _) z.two
                have h2 : (lsEnv P f).abs z'.e = (Vm.step (Vm.lists f.ws) m.mdl z.two).2.2 := congrArg (fun r => r.2) s2
                have h3 : Vm.total z.two.2.sent ≤ 4 * k := r5
                show Vm.total ((lsEnv P f).abs z'.e).sent ≤ 4 * (k + 1)
                rw [h2]
                omega
              · rw [r6, s2]
                refine Prod.ext ?_ rfl
                dsimp only
                omega
            · dsimp only; omega
          · have hb : (Vm.step (lsEnv P f).V (⟨tb, mb, m⟩ : Pl).m.mdl z.two).1 = false := by simpa using hb
            rw [hb]
            rw [if_neg (show ¬ (Vm.step (Vm.lists f.ws) m.mdl z.two).1 = true by rw [show (Vm.step (Vm.lists f.ws) m.mdl z.two).1 = false from hb]; simp)] at r6
            repeat (first | refine go (k := ?_) | (refine goB (k := ?_); intro b) | (refine goA (k := ?_); intro ao cap))
            refine End.some_ hK3 (k, z') ?_
            exact ⟨s1, by rw [r6, s2]; exact Prod.ext (by simp) rfl⟩
        · repeat (first | refine go (k := ?_) | (refine goB (k := ?_); intro b) | (refine goA (k := ?_); intro ao cap))
          refine End.some_ hK3 (k, z) ?_
          refine ⟨r2, ?_⟩
          rw [r6, show mn - k = 0 by omega]
          exact Prod.ext (by simp [Vm.goN]) rfl
      · intro K2 hK2
        apply Cod.draw 99 ([]) (by kernel_rfl) 10 rfl
        refine RunT.takeN_ 0 (h := ?_)
        refine RunT.takeN_ 1 (h := ?_)
        refine RunT.takeN_ 2 (h := ?_)
        refine RunT.takeN_ 4 (h := ?_)
        refine RunT.takeN_ 5 (h := ?_)
        refine RunT.two_ 3 6 (h := ?_) (h' := ?_)
        · refine OpT.makeSlice_ (f := natC) (iα := inferInstance) (ef := inferInstance) (z := 0) (n := f.l.length) (k := ?_)
          intro tb
          refine And.intro gud ?_
          (refine RunT.one_ 6 (h := ?_); refine OpT.makeSlice_ (f := rwC) (iα := inferInstance) (ef := inferInstance) (z := ⟨none, 0, []⟩) (n := f.l.length) (k := ?_))
          intro sb
          refine And.intro gud ?_
          refine RunT.takeN_ 7 (h := ?_)
          (refine RunT.one_ 8 (h := ?_); (first | refine OpT.val_ (k := ?_) | (refine OpT.alloc_ (k := ?_); intro b) | (refine OpT.box_ (k := ?_); intro b) | refine OpT.store_ (k := ?_) | (refine OpT.buildSlice_ (k := ?_); intro b) | (refine OpT.buildSlice0_ (k := ?_); intro b) | (refine OpT.append1_ (k := ?_); intro ao cap) | (refine OpT.cutA0_ (k := ?_); intro ao cap) | (refine OpT.cutR0_ (k := ?_); intro ao cap) | (refine OpT.cutA1_ (k := ?_); intro ao cap) | (refine OpT.cutA_ (k := ?_); intro ao cap) | (refine OpT.cutR_ (k := ?_); intro ao cap)); refine And.intro gud ?_)
          refine RunT.takeN_ 9 (h := ?_)
          (apply RunT.done; kernel_rfl)
          refine End.some_ hK2 ⟨b, tb, sb⟩ ?_
          trivial
        · refine OpT.makeSlice_ (f := rwC) (iα := inferInstance) (ef := inferInstance) (z := ⟨none, 0, []⟩) (n := f.l.length) (k := ?_)
          intro sb
          refine And.intro gud ?_
          (refine RunT.one_ 3 (h := ?_); refine OpT.makeSlice_ (f := natC) (iα := inferInstance) (ef := inferInstance) (z := 0) (n := f.l.length) (k := ?_))
          intro tb
          refine And.intro gud ?_
          refine RunT.takeN_ 7 (h := ?_)
          (refine RunT.one_ 8 (h := ?_); (first | refine OpT.val_ (k := ?_) | (refine OpT.alloc_ (k := ?_); intro b) | (refine OpT.box_ (k := ?_); intro b) | refine OpT.store_ (k := ?_) | (refine OpT.buildSlice_ (k := ?_); intro b) | (refine OpT.buildSlice0_ (k := ?_); intro b) | (refine OpT.append1_ (k := ?_); intro ao cap) | (refine OpT.cutA0_ (k := ?_); intro ao cap) | (refine OpT.cutR0_ (k := ?_); intro ao cap) | (refine OpT.cutA1_ (k := ?_); intro ao cap) | (refine OpT.cutA_ (k := ?_); intro ao cap) | (refine OpT.cutR_ (k := ?_); intro ao cap)); refine And.intro gud ?_)
          refine RunT.takeN_ 9 (h := ?_)
          (apply RunT.done; kernel_rfl)
          refine End.some_ hK2 ⟨b, tb, sb⟩ ?_
          trivial
  · have he : (Ver.verify m.mdl).err ≠ 0 := fun h => hv (Ver.verify_eq h)
    have her2 : er = (Ver.verify m.mdl).err := by rw [her]; unfold Vm.soloErr; rw [if_pos he]
    generalize Ver.verify m.mdl = V at *
    repeat (first | refine go (k := ?_) | (refine goB (k := ?_); intro b) | (refine goA (k := ?_); intro ao cap))
    obtain ⟨wb, rfl⟩ : ∃ x, x = b := ⟨_, rfl⟩
    apply Cod.draw 9 ([blk wb [.int .i64 V.err, .int .i64 V.unit, .int .i64 V.at_] 34]) (by kernel_rfl) 5 rfl
    refine RunT.takeN_ 0 (h := ?_)
    refine RunT.takeN_ 1 (h := ?_)
    refine RunT.takeN_ 2 (h := ?_)
    (refine RunT.one_ 3 (h := ?_); (first | refine OpT.val_ (k := ?_) | (refine OpT.alloc_ (k := ?_); intro b) | (refine OpT.box_ (k := ?_); intro b) | refine OpT.store_ (k := ?_) | (refine OpT.buildSlice_ (k := ?_); intro b) | (refine OpT.buildSlice0_ (k := ?_); intro b) | (refine OpT.append1_ (k := ?_); intro ao cap) | (refine OpT.cutA0_ (k := ?_); intro ao cap) | (refine OpT.cutR0_ (k := ?_); intro ao cap) | (refine OpT.cutA1_ (k := ?_); intro ao cap) | (refine OpT.cutA_ (k := ?_); intro ao cap) | (refine OpT.cutR_ (k := ?_); intro ao cap)); refine And.intro gud ?_)
    refine RunT.takeN_ 4 (h := ?_)
    (apply RunT.done; kernel_rfl)
    repeat (first | refine go (k := ?_) | (refine goB (k := ?_); intro b) | (refine goA (k := ?_); intro ao cap))
    apply End.imp (fun w hm => (((hm.bagNil).nilArr 2 i64c).nilArr 38 rwC).nilArr 3 natC)
    (refine End.doneC2_ (RpL.zero) (he := by (rw [her2]; rfl)) (hp := ?_))
    exact hbad (by rw [her2]; exact he)
end Go.Proofs.Ytgnhfinabhimpaa.Vw

/- == of two places of faults; one's own as a thing that is only read. -/
namespace Go.Proofs.Ytgnhfinabhimpaa.Vw
open Go.RowKit Go.Proofs.Ytgnhfinabhimpaa.Img
set_option linter.unusedVariables false
set_option linter.unusedSimpArgs false
/-- what is one's own, or is read, as one thing that is only read -/
theorem Mem.toRead {w : World} {pre L F : List Chunk} {c : Chunk} (t : Takes pre L F) (h : Mem w L) (hc : c.holds w) (hx : c.excl = false) (hf : ∀ b, c.foot b → ∃ d ∈ pre, d.foot b) : Mem w (c :: F) :=
  Mem.step (post := [c]) (S := Nil) (h.takes t) (Keeps.refl _ _) (fun b h => False.elim h) (by simpa using hc) (by simp) (fun d hd b hb => by
    simp at hd; subst hd
    obtain ⟨e, e1, e2⟩ := hf b hb
    exact .inl ⟨e, e1, ⟨fun h => absurd h (by rw [hx]; decide), e2⟩⟩)

theorem run_whereIn (x y : Ver.Where) (w : World) : (Op.equalIn 10000 34 (whereV x) (whereV y)).run Try.prog w = .ok (decide (x = y)) w := by
  have u3 := Try.underlying3
  have a3 := Try.isAgg3
  have z3 := Try.sizeOf3
  have u4 := Try.underlying32
  have a4 := Try.isAgg32
  have hS : Try.prog.underlying 34 = some (.struct (Try.prog.fieldsOf 34)) := by kernel_rfl
  have hp : Try.prog.stoodInHeld 34 = false := by kernel_rfl
  obtain ⟨a, b, c⟩ := x
  obtain ⟨d, e, f⟩ := y
  simp only [whereV, whereC]
  rw [show (10000 : Nat) = 9999 + 1 from rfl, run_equalIn_agg w 9999 34 _ _ hS hp]
  simp only [Program.fieldsOf, Try.underlying34]
  go_simp
  by_cases h1 : a = d <;> by_cases h2 : b = e <;> by_cases h3 : c = f <;> simp [h1, h2, h3]
section
variable {N : Nat} {E : Env} {L : List Chunk} {dst : Option Tmp} {ty : TypeId} {pos : String} {aft : Array Edge} {g : Option (Nat × Bool)}
theorem Still.eqlW {x y : Operand} {a b : Ver.Where} {v v' : Value} {r : Bool} (hx : ev E x = some v) (hy : ev E y = some v') (h1 : v = whereV a) (h2 : v' = whereV b) (hr : decide (a = b) = r) : Still Try.prog N ⟨dst, .binOp .eql 34 x y 34, ty, pos, aft, g⟩ E L (.bool r) := fun A w hs _ => by
  subst h1 h2 hr
  have hg := run_eqGuard_agg (P := Try.prog) w .eql 34 x y (whereC a).toArray (whereC b).toArray (by kernel_rfl)
  simp [execOp, hs.ev hx, hs.ev hy, hg, run_eql_struct, run_whereIn]
theorem Still.neqW {x y : Operand} {a b : Ver.Where} {v v' : Value} {r : Bool} (hx : ev E x = some v) (hy : ev E y = some v') (h1 : v = whereV a) (h2 : v' = whereV b) (hr : (!decide (a = b)) = r) : Still Try.prog N ⟨dst, .binOp .neq 34 x y 34, ty, pos, aft, g⟩ E L (.bool r) := fun A w hs _ => by
  subst h1 h2 hr
  have hg := run_eqGuard_agg (P := Try.prog) w .neq 34 x y (whereC a).toArray (whereC b).toArray (by kernel_rfl)
  simp [execOp, hs.ev hx, hs.ev hy, hg, run_neq_struct, run_whereIn]
end
/-- what lies behind units' slices, the call's own -/
def innerU (us : List UC) : List Chunk := us.flatMap fun x => [arr x.lo x.u.locals.length x.lc 3 i64c x.u.locals, arr x.co x.u.code.length x.cc 49 insC x.u.code]
theorem innerU_snoc (us : List UC) (x : UC) : innerU (us ++ [x]) = innerU us ++ [arr x.lo x.u.locals.length x.lc 3 i64c x.u.locals, arr x.co x.u.code.length x.cc 49 insC x.u.code] := by simp [innerU]
theorem Mem.unitAdd {w : World} {L L' F : List Chunk} (us : List UC) (x : UC) (h : Mem w L) (t : Take (bag (innerU us)) L L')
    (t2 : Takes [arr x.lo x.u.locals.length x.lc 3 i64c x.u.locals, arr x.co x.u.code.length x.cc 49 insC x.u.code] L' F) : Mem w (bag (innerU (us ++ [x])) :: F) := by
  rw [innerU_snoc]
  exact h.bagAdd t t2 (by simp [arr_excl])
/-- a module of one's own -/
abbrev ownM (n : ML) : List Chunk := [arr n.bo n.bx.length n.bc 37 boxC n.bx, arr n.uo n.us.length n.uc 31 ucell n.us, bag (innerU n.us)]
/-- .. is one that is only read -/
theorem own_md {w : World} {L F : List Chunk} (n : ML) (t : Takes (ownM n) L F) (h : Mem w L) : Mem w (md n :: F) := by
  have ht := h.takes t
  have a1 := arr_holds.1 (ht.all _ (.head _))
  have a2 := arr_holds.1 (ht.all _ (.tail _ (.head _)))
  have a3 := bag_holds.1 (ht.all _ (.tail _ (.tail _ (.head _))))
  have l1 := a1.1.le
  have l2 := a2.1.le
  have hin : ∀ x ∈ n.us, (arr x.lo x.u.locals.length x.lc 3 i64c x.u.locals).holds w ∧ (arr x.co x.u.code.length x.cc 49 insC x.u.code).holds w := fun x hx =>
    ⟨a3.1.all _ (List.mem_flatMap.2 ⟨x, hx, .head _⟩), a3.1.all _ (List.mem_flatMap.2 ⟨x, hx, .tail _ (.head _)⟩)⟩
  refine Mem.toRead t h (md_holds.2 ⟨a1.1.row Enc.pos, a2.1.row Enc.pos, fun x hx => (arr_holds.1 (hin x hx).1).1.row Enc.pos, fun x hx => (arr_holds.1 (hin x hx).2).1.row Enc.pos⟩) md_excl (fun b hb => ?_)
  rw [md_foot] at hb
  rcases hb with ⟨h, h0⟩ | ⟨h, h0⟩ | ⟨x, hx, ⟨h, h0⟩ | ⟨h, h0⟩⟩
  · exact ⟨_, .head _, arr_foot.2 ⟨h, by omega⟩⟩
  · exact ⟨_, .tail _ (.head _), arr_foot.2 ⟨h, by omega⟩⟩
  · have := (arr_holds.1 (hin x hx).1).1.le
    exact ⟨_, .tail _ (.tail _ (.head _)), bag_foot.2 ⟨_, List.mem_flatMap.2 ⟨x, hx, .head _⟩, arr_foot.2 ⟨h, by omega⟩⟩⟩
  · have := (arr_holds.1 (hin x hx).2).1.le
    exact ⟨_, .tail _ (.tail _ (.head _)), bag_foot.2 ⟨_, List.mem_flatMap.2 ⟨x, hx, .tail _ (.head _)⟩, arr_foot.2 ⟨h, by omega⟩⟩⟩
/-- a module of one task, where its unit and its code lie -/
def taskU (cb : Nat) (c : List ImgM.Ins) : UC := ⟨⟨4, 0, [], 0, 0, c⟩, none, 0, some ⟨cb, 0, none⟩, c.length⟩
def taskM (s : Nat × Nat) (c : List ImgM.Ins) : ML := ⟨[], none, 0, [taskU s.1 c], some ⟨s.2, 0, none⟩, 1⟩
theorem taskM_mem {w : World} {L F : List Chunk} (s : Nat × Nat) (c : List ImgM.Ins) (t : Takes [arr (some ⟨s.2, 0, none⟩) 1 1 31 ucell [taskU s.1 c], arr (some ⟨s.1, 0, none⟩) c.length c.length 49 insC c] L F) (h : Mem w L) : Mem w (md (taskM s c) :: F) := by
  have ht := h.takes t
  have a1 := arr_holds.1 (ht.all _ (.head _))
  have a2 := arr_holds.1 (ht.all _ (.tail _ (.head _)))
  refine Mem.toRead t h (md_holds.2 ⟨⟨by simp [taskM], by simp [taskM], none, 0, rfl, Nat.le_refl _, fun h => by simp [taskM] at h⟩, a1.1.row Enc.pos, fun x hx => ?_, fun x hx => ?_⟩) md_excl (fun b hb => ?_)
  · simp [taskM] at hx; subst hx
    exact ⟨by simp [taskU], by simp [taskU], none, 0, rfl, Nat.le_refl _, fun h => by simp [taskU] at h⟩
  · simp [taskM] at hx; subst hx
    exact a2.1.row Enc.pos
  · rw [md_foot] at hb
    rcases hb with ⟨h, h0⟩ | ⟨h, h0⟩ | ⟨x, hx, ⟨h, h0⟩ | ⟨h, h0⟩⟩
    · simp [taskM] at h0
    · exact ⟨_, .head _, arr_foot.2 ⟨h, by decide⟩⟩
    · simp [taskM] at hx; subst hx
      simp [taskU] at h0
    · simp [taskM] at hx; subst hx
      exact ⟨_, .tail _ (.head _), arr_foot.2 ⟨h, h0⟩⟩
theorem taskM_wf (s : Nat × Nat) (c : List ImgM.Ins) (h : ∀ i ∈ c, ImgM.In64 i.op ∧ ImgM.In64 i.a ∧ ImgM.In64 i.n) : (taskM s c).Wf := by
  refine ⟨fun b hb => by simp [taskM] at hb, fun x hx => ?_⟩
  simp [taskM] at hx; subst hx
  exact ⟨by simp [taskU, ImgM.In64], by simp [taskU, ImgM.In64], fun t ht => by simp [taskU] at ht, by simp [taskU, ImgM.In64], by simp [taskU, ImgM.In64], h⟩
end Go.Proofs.Ytgnhfinabhimpaa.Vw
