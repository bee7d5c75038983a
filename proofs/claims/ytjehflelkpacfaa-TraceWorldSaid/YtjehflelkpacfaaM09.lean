/- Package stacks, walked by the new rules: pushing, popping, all words, a new one. -/
import Derived.Test.YtjehflelkpacfaaM08
namespace Go.Proofs.Ytjehflelkpacfaa.Vw
open Go.RowKit Go.Proofs.Ytjehflelkpacfaa.Img
set_option linter.unusedVariables false
set_option linter.unusedSimpArgs false
attribute [local irreducible] Run Cod End OpT Still RunQ RunS RunT Fn PutOk
/-- the same stack, with other words -/
structure SkTo (k k' : Sk) (xs : List Int) : Prop where
  ok : k'.Ok
  sb : k'.sb = k.sb
  ws : k'.ws = xs
  live : k'.live = xs.length
theorem take_app_len {a b : List Int} {n : Nat} (h : a.length = n) : (a ++ b).take n = a := by subst h; simp
theorem Sk.len {k : Sk} (h : k.Ok) : k.ws.length = k.live := by
  have := h.live
  simp; omega
set_option maxRecDepth 100000 in
set_option maxHeartbeats 1000000 in
theorem push_stk (k : Sk) (hk : k.Ok) (v : Int) : Fn Try.prog 60 #[ptr k.sb, .int .i64 v] [] (skM k) (σ := Sk) (fun k' => if k.live = 400 then k' = k else SkTo k k' (k.ws ++ [v])) (fun _ => .bool (!decide (k.live = 400))) (fun k' => skM k') := by
  have hwl := Sk.len hk
  obtain ⟨g1, g2, g3⟩ := id hk
  refine Fn.enter (args := [ptr k.sb, .int .i64 v]) Try.func60 rfl _ Try.ntmps60 rfl (by simp [rd_excl, md_excl]) (fun w S => ?_)
  (try conv => rhs; simp only [List.cons_append, List.nil_append])
  by_cases h4 : k.live = 400
  · repeat (first | refine go (k := ?_) | (refine goB (k := ?_); intro b) | (refine goA (k := ?_); intro ao cap))
    refine End.done1_ k (he := by rw [decide_eq_true h4]; rfl) (hp := ?_)
    rw [if_pos h4]
  · refine Cod.imp (L' := old w S :: skM k) (fun w hm => hm) ?_
    have key : ∀ (k2 : Sk), k2.Ok → k2.sb = k.sb → k2.ws = k.ws → k2.live = k.live → k2.live < k2.l.length → SkTo k { k2 with l := k2.l.set k2.live v, live := k2.live + 1 } (k.ws ++ [v]) := fun k2 a1 a2 a3 a4 a5 => by
      obtain ⟨b1, b2, b3⟩ := a1
      refine ⟨⟨by simp; omega, by simpa using b2, by simpa using b3⟩, a2, ?_, by simp; omega⟩
      show (k2.l.set k2.live v).take (k2.live + 1) = k.ws ++ [v]
      rw [← a3]
      have hl : (k2.l.set k2.live v).length = k2.l.length := by simp
      rw [List.take_succ_eq_append_getElem (by omega), List.getElem_set_self]
      congr 1
      rw [List.take_set_of_le (Nat.le_refl _)]
    by_cases hf : k.live = k.l.length
    · have hmin : (if (400 : Int) < 2 * (k.l.length : Int) then 400 else 2 * (k.l.length : Int)) = ((min (2 * k.l.length) 400 : Nat) : Int) := by split <;> omega
      repeat (first | refine go (k := ?_) | (refine goB (k := ?_); intro b) | (refine goA (k := ?_); intro ao cap))
      apply Cod.draw 12 ([blk k.sb (skC k) 141]) (by kernel_rfl) 13 rfl
      refine RunT.takeR_ 0 (h := ?_)
      refine RunT.takeR_ 1 (h := ?_)
      refine RunT.takeR_ 2 (h := ?_)
      refine RunT.takeR_ 3 (h := ?_)
      refine RunT.takeR_ 4 (h := ?_)
      refine RunT.takeR_ 5 (h := ?_)
      refine RunT.takeR_ 6 (h := ?_)
      refine RunT.takeR_ 7 (h := ?_)
      refine RunT.takeR_ 8 (h := ?_)
      refine RunT.takeR_ 9 (h := ?_)
      refine RunT.takeR_ 10 (h := ?_)
      refine RunT.takeR_ 11 (hy := by exact Still.imin rfl rfl hmin) (h := ?_)
      (refine RunT.one_ 12 (h := ?_); refine OpT.call0_ (spec := sized_is k hk (min (2 * k.l.length) 400) (by omega) (by omega) (by omega)) (k := ?_); intro s hs; refine And.intro gud ?_; (try conv => rhs; simp only [List.cons_append, List.nil_append]))
      obtain ⟨k2, e2⟩ : ∃ k2 : Sk, k2 = ⟨k.sb, s, k.ws ++ List.replicate (min (2 * k.l.length) 400 - k.live) 0, k.live⟩ := ⟨_, rfl⟩
      have hk2l : k2.l.length = min (2 * k.l.length) 400 := by rw [e2]; simp at hwl ⊢; omega
      have hk2 := key k2 ⟨by rw [hk2l, e2]; simp only; omega, by omega, by omega⟩ (by rw [e2]) (by rw [e2]; exact take_app_len hwl) (by rw [e2]) (by rw [hk2l, e2]; simp only; omega)
      have hlv : k2.live < k2.l.length := by rw [hk2l, e2]; simp only; omega
      rw [← e2]
      have e2b : s = k2.lb := by rw [e2]
      have e2l : k.ws ++ List.replicate (min (2 * k.l.length) 400 - k.live) 0 = k2.l := by rw [e2]
      rw [e2b, e2l]
      have hsb : k.sb = k2.sb := by rw [e2]
      have hok2 : k2.live ≤ 400 := by rw [e2]; simp only; omega
      rw [hsb]
      (apply RunT.done; kernel_rfl)
      repeat (first | refine go (k := ?_) | (refine goB (k := ?_); intro b) | (refine goA (k := ?_); intro ao cap))
      (apply Run.op; exact rfl; refine OpT.storeE_ (f := i64c) (l := k2.l) (i := k2.live) (off := 0) (vs := [.int .i64 v]) (a' := v) (k := ?_))
      repeat (first | refine go (k := ?_) | (refine goB (k := ?_); intro b) | (refine goA (k := ?_); intro ao cap))
      have hle : (k2.l.set k2.live v).length = k2.l.length := List.length_set
      refine End.done1_ ({ k2 with l := k2.l.set k2.live v, live := k2.live + 1 } : Sk) (he := by rw [decide_eq_false h4]; rfl) (ht := by (simp only [skM, skC, hle]; exact tks)) (hp := ?_)
      rw [if_neg h4]
      exact hk2
    · have hk2 := key k hk rfl rfl rfl (by omega)
      repeat (first | refine go (k := ?_) | (refine goB (k := ?_); intro b) | (refine goA (k := ?_); intro ao cap))
      (apply Run.op; exact rfl; refine OpT.storeE_ (f := i64c) (l := k.l) (i := k.live) (off := 0) (vs := [.int .i64 v]) (a' := v) (k := ?_))
      repeat (first | refine go (k := ?_) | (refine goB (k := ?_); intro b) | (refine goA (k := ?_); intro ao cap))
      have hle : (k.l.set k.live v).length = k.l.length := List.length_set
      refine End.done1_ ({ k with l := k.l.set k.live v, live := k.live + 1 } : Sk) (he := by rw [decide_eq_false h4]; rfl) (ht := by (simp only [skM, skC, hle]; exact tks)) (hp := ?_)
      rw [if_neg h4]
      exact hk2
end Go.Proofs.Ytjehflelkpacfaa.Vw

/- Package stacks, walked by the new rules: popping, all words, a new one. -/
namespace Go.Proofs.Ytjehflelkpacfaa.Vw
open Go.RowKit Go.Proofs.Ytjehflelkpacfaa.Img
set_option linter.unusedVariables false
set_option linter.unusedSimpArgs false
attribute [local irreducible] Run Cod End OpT Still RunQ RunS RunT Fn PutOk
set_option maxRecDepth 100000 in
set_option maxHeartbeats 1000000 in
theorem pop_stk (k : Sk) (hk : k.Ok) (n : Nat) (hn : n ≤ k.live) : Fn Try.prog 62 #[ptr k.sb, .int .i64 (n : Int)] [] (skM k) (σ := Sk) (fun k' => SkTo k k' (k.ws.take (k.live - n))) (fun _ => .tuple #[]) (fun k' => skM k') := by
  have hwl := Sk.len hk
  obtain ⟨g1, g2, g3⟩ := id hk
  have q4 : IntKind.i64.wrap ((k.l.length : Int).tdiv 4) = ((k.l.length / 4 : Nat) : Int) := by rw [Int.tdiv_eq_ediv_of_nonneg (by omega), wrap_i64_in (by omega)]; omega
  have q2 : IntKind.i64.wrap ((k.l.length : Int).tdiv 2) = ((k.l.length / 2 : Nat) : Int) := by rw [Int.tdiv_eq_ediv_of_nonneg (by omega), wrap_i64_in (by omega)]; omega
  have s1 : IntKind.i64.wrap ((k.live : Int) - (n : Int)) = ((k.live - n : Nat) : Int) := by rw [wrap_i64_in (by omega)]; omega
  obtain ⟨k1, e1⟩ : ∃ k1 : Sk, k1 = ⟨k.sb, k.lb, k.l, k.live - n⟩ := ⟨_, rfl⟩
  have hk1 : SkTo k k1 (k.ws.take (k.live - n)) := ⟨by rw [e1]; exact ⟨by simp only; omega, g2, g3⟩, by rw [e1], by rw [e1]; simp only [Sk.ws, List.take_take]; congr 1; omega, by rw [e1]; simp; omega⟩
  have hl1 : k1.l.length = k.l.length := by rw [e1]
  have hv1 : k1.live = k.live - n := by rw [e1]
  refine Fn.enter (args := [ptr k.sb, .int .i64 (n : Int)]) Try.func62 rfl _ Try.ntmps62 rfl (by simp [rd_excl, md_excl]) (fun w S => ?_)
  (try conv => rhs; simp only [List.cons_append, List.nil_append])
  by_cases h4 : k.live - n ≤ k.l.length / 4
  · by_cases h8 : 8 < k.l.length
    · have hmax : (if ((k.l.length / 2 : Nat) : Int) < 8 then 8 else ((k.l.length / 2 : Nat) : Int)) = ((max (k.l.length / 2) 8 : Nat) : Int) := by split <;> omega
      repeat (first | refine go (k := ?_) | (refine goB (k := ?_); intro b) | (refine goA (k := ?_); intro ao cap))
      apply Cod.draw 12 ([blk k.sb [.slice (some ⟨k.lb, 0, none⟩) k.l.length k.l.length, .int .i64 ((k.live - n : Nat) : Int), .int .i64 8, .int .i64 400] 141]) (by kernel_rfl) 13 rfl
      refine RunT.takeR_ 0 (h := ?_)
      refine RunT.takeR_ 1 (h := ?_)
      refine RunT.takeR_ 2 (h := ?_)
      refine RunT.takeR_ 3 (h := ?_)
      refine RunT.takeR_ 4 (h := ?_)
      refine RunT.takeR_ 5 (h := ?_)
      refine RunT.takeR_ 6 (h := ?_)
      refine RunT.takeR_ 7 (h := ?_)
      refine RunT.takeR_ 8 (h := ?_)
      refine RunT.takeR_ 9 (h := ?_)
      refine RunT.takeR_ 10 (h := ?_)
      refine RunT.takeR_ 11 (hy := by exact Still.imax rfl rfl hmax) (h := ?_)
      have e2 : k1.sb = k.sb := by rw [e1]
      have e3 : k1.lb = k.lb := by rw [e1]
      have e4 : k1.l = k.l := by rw [e1]
      rw [← hv1, ← e2, ← e3, ← e4]
      (refine RunT.one_ 12 (h := ?_); refine OpT.call0_ (spec := sized_is k1 hk1.ok (max (k1.l.length / 2) 8) (by omega) (by omega) (by omega)) (k := ?_); intro s hs; refine And.intro gud ?_; (try conv => rhs; simp only [List.cons_append, List.nil_append]))
      (apply RunT.done; kernel_rfl)
      repeat (first | refine go (k := ?_) | (refine goB (k := ?_); intro b) | (refine goA (k := ?_); intro ao cap))
      have hlen : k1.ws.length = k1.live := Sk.len hk1.ok
      refine End.done0'_ (⟨k1.sb, s, k1.ws ++ List.replicate (max (k1.l.length / 2) 8 - k1.live) 0, k1.live⟩ : Sk) (hp := ?_)
      rw [← hv1] at hk1
      exact ⟨⟨by simp; omega, by simp; omega, by simp; omega⟩, hk1.sb, by rw [← hk1.ws]; exact take_app_len hlen, hk1.live⟩
    · repeat (first | refine go (k := ?_) | (refine goB (k := ?_); intro b) | (refine goA (k := ?_); intro ao cap))
      refine End.done0'_ (⟨k.sb, k.lb, k.l, k.live - n⟩ : Sk) (hp := ?_)
      rw [← e1]; exact hk1
  · repeat (first | refine go (k := ?_) | (refine goB (k := ?_); intro b) | (refine goA (k := ?_); intro ao cap))
    refine End.done0'_ (⟨k.sb, k.lb, k.l, k.live - n⟩ : Sk) (hp := ?_)
    rw [← e1]; exact hk1
set_option maxRecDepth 100000 in
theorem words_stk (k : Sk) (hk : k.Ok) : Fn Try.prog 83 #[ptr k.sb] [] (skM k) (σ := Option Addr × Nat) (fun _ => True) (fun s => .slice s.1 k.live s.2) (fun s => arr s.1 k.live s.2 2 i64c k.ws :: skM k) := by
  have hwl := Sk.len hk
  obtain ⟨g1, g2, g3⟩ := id hk
  refine Fn.enter (args := [ptr k.sb]) Try.func83 rfl _ Try.ntmps83 rfl (by simp [rd_excl, md_excl]) (fun w S => ?_)
  (try conv => rhs; simp only [List.cons_append, List.nil_append])
  apply Cod.seqN
  apply Cod.region
  (apply Run.op; exact rfl; refine OpT.val_ (k := ?_))
  apply Run.nil
  apply End.seqN
  apply Cod.seqN
  apply Cod.imp (fun w hm => hm.nilArr 2 i64c)
  apply Cod.draw 9 (skM k) (by kernel_rfl) 11 rfl
  refine RunT.takeR_ 0 (h := ?_)
  refine RunT.takeR_ 1 (h := ?_)
  refine RunT.takeR_ 2 (h := ?_)
  refine RunT.takeR_ 3 (h := ?_)
  refine RunT.takeR_ 4 (h := ?_)
  refine RunT.takeR_ 5 (h := ?_)
  refine RunT.takeR_ 6 (h := ?_)
  refine RunT.takeR_ 7 (h := ?_)
  refine RunT.one_ 8 (h := ?_)
  refine OpT.cutV_ (f := i64c) (e := 2) (l := k.l) (k := ?_)
  intro ao' cap' hcut
  refine And.intro gud ?_
  refine RunT.one_ 9 (h := ?_)
  refine OpT.appendS_ (l := []) (l2 := k.ws) (hr := hcut _ (by (first | (apply Rdb.arr; focus ((repeat (first | exact Take.head | apply Take.tail)); done)) | (apply Rdb.rd; focus ((repeat (first | exact Take.head | apply Take.tail)); done)) | (apply Rdb.md_units; focus ((repeat (first | exact Take.head | apply Take.tail)); done)) | (apply Rdb.md_boxes; focus ((repeat (first | exact Take.head | apply Take.tail)); done)) | (apply Rdb.md_code; (focus ((repeat (first | exact Take.head | apply Take.tail)); done)); (focus (first | assumption | omega))) | (apply Rdb.md_locals; (focus ((repeat (first | exact Take.head | apply Take.tail)); done)); (focus (first | assumption | omega))) | (apply Rdb.old; (focus assumption); (focus ((repeat (first | exact Take.head | apply Take.tail)); done)))))) (k := ?_)
  intro ao2 cap2
  refine And.intro gud ?_
  rw [show 0 + (k.live - 0) = k.live by omega, List.nil_append]
  refine RunT.one_ 10 (h := OpT.val_ (k := And.intro gud ?_))
  (apply RunT.done; kernel_rfl)
  repeat (first | refine go (k := ?_) | (refine goB (k := ?_); intro b) | (refine goA (k := ?_); intro ao cap))
  refine End.done1_ (ao2, cap2) (he := by rfl) (hp := trivial)
set_option maxRecDepth 100000 in
theorem new_stk : Fn Try.prog 59 #[.int .i64 8, .int .i64 400] [] [] (σ := Sk) (fun k => k.Ok ∧ k.ws = [] ∧ k.live = 0) (fun k => ptr k.sb) (fun k => skM k) := by
  refine Fn.enter (args := [.int .i64 8, .int .i64 400]) Try.func59 rfl _ Try.ntmps59 rfl (by simp [rd_excl, md_excl]) (fun w S => ?_)
  (try conv => rhs; simp only [List.cons_append, List.nil_append])
  repeat (first | refine go (k := ?_) | (refine goB (k := ?_); intro b) | (refine goA (k := ?_); intro ao cap))
  apply Run.op (by exact rfl)
  refine OpT.makeSlice_ (f := i64c) (iα := inferInstance) (ef := inferInstance) (z := 0) (n := 8) (k := ?_)
  intro nb
  repeat (first | refine go (k := ?_) | (refine goB (k := ?_); intro b) | (refine goA (k := ?_); intro ao cap))
  refine End.done1_ (⟨b, nb, List.replicate 8 0, 0⟩ : Sk) (he := by rfl) (hp := ?_)
  exact ⟨⟨by simp, by simp, by simp⟩, rfl, rfl⟩
end Go.Proofs.Ytjehflelkpacfaa.Vw

/- Rules for walks: a method called through an interface value; a function value against nil. Of whatever program. -/
namespace Go.Proofs.Ytjehflelkpacfaa
open Go
set_option linter.unusedVariables false
set_option linter.unusedSimpArgs false
set_option linter.unusedSectionVars false
section
variable {P : Program} {Q : Exit → Act → World → Prop} {N : Nat} {E : Env} {L L' : List Chunk}
variable {dst : Option Tmp} {ty : TypeId} {pos : String} {aft : Array Edge} {g : Option (Nat × Bool)}
/-- what a type's method of a name is: function f, handed the value as it is -/
def Finds (P : Program) (T : TypeId) (rv : Value) (name : String) (f : FuncId) : Prop := ∀ w, (method (P.types.size + Made.depth) T rv name).run P w = .ok (f, rv) w
theorem OpT.callM {σ : Type} {x : Operand} {name : String} {args : List Operand} {tys : Array TypeId} {T : TypeId} {rv : Value} {f : FuncId} {vs : List Value}
    {R pre F : List Chunk} {post : σ → Prop} {val : σ → Value} {mem : σ → List Chunk} {C : Env → List Chunk → Prop}
    (hx : ev E x = some (.iface T rv)) (hv : Evs E args vs) (hm : Finds P T rv name f) (hc : callB P f = true) (hd : fitsB N dst = true)
    (spec : Fn P f (rv :: vs).toArray R pre post val mem) (t : Takes pre L F) (r : ∀ w, Reads w R F) (k : ∀ s, post s → C (upd dst (val s) E) (mem s ++ F)) :
    OpT P Q N ⟨dst, .call ⟨.invoke x name, args.toArray, tys⟩, ty, pos, aft, g⟩ E L C := by
  intro K hK a w hs hM
  have hr : (execOp a.eval ⟨dst, .call ⟨.invoke x name, args.toArray, tys⟩, ty, pos, aft, g⟩).run P w = .ok (.enter f (rv :: vs).toArray) w := by
    have e : args.toArray.map a.eval = vs.toArray := by rw [← hs.evs hv]; simp
    have e2 : #[Value.iface T rv] ++ vs.toArray = (Value.iface T rv :: vs).toArray := by simp
    have e3 : (Value.iface T rv :: vs).toArray.extract 1 (Value.iface T rv :: vs).toArray.size = vs.toArray := by simp
    have e4 : (Value.iface T rv :: vs).toArray[0]? = some (Value.iface T rv) := by simp
    have hm' := hm w
    simp only [execOp, resolve, hs.ev hx, e, e2, Sem.run_bind, Sem.run_pure, Result.andThen_ok, invoke, e4, e3, callMethod, run_program, hm']
    rw [run_callFunc hc]
    simp
  unfold Oper.wp
  rw [hr, Oper.upon_enter]
  refine (spec w ((hM.takes t).reads (r w))).mono ?_
  rintro e w' ⟨s, hp, rfl, hx, hm'⟩
  exact hK _ _ (k s hp) _ _ (hs.put _ hd) ((hM.takes t).frame hm' hx)
theorem Still.mkIfaceS {xT t : TypeId} {x : Operand} {v : Value} {s b : Nat} {z : List Value} {e : TypeId} [Tabbed P] (hx : ev E x = some v) (ht : tyOf P xT = some ⟨.slice e, s, b, z⟩) :
    Still P N ⟨dst, .makeInterface xT x, ty, pos, aft, g⟩ E L (.iface xT v) := fun A w hs _ => by
  have := (tyOk ht).slice
  simp [execOp, hs.ev hx, Instr.makeInterface, run_underlying this]
theorem OpT.callM_ {σ : Type} {x : Operand} {name : String} {args : List Operand} {tys : Array TypeId} {T : TypeId} {rv : Value} {f : FuncId} {vs : List Value}
    {R pre F : List Chunk} {post : σ → Prop} {val : σ → Value} {mem : σ → List Chunk} {C : Env → List Chunk → Prop}
    (hm : Finds P T rv name f) (hc : callB P f = true) (spec : Fn P f (rv :: vs).toArray R pre post val mem) 
    (hx : ev E x = some (.iface T rv) := by exact rfl) (hv : Evs E args vs := by exact evz) (hd : fitsB N dst = true := by exact rfl)
    (t : Takes pre L F := by exact tks) (r : ∀ w, Reads w R F := by intro w; exact rds) (k : ∀ s, post s → C (upd dst (val s) E) (mem s ++ F)) :
    OpT P Q N ⟨dst, .call ⟨.invoke x name, args.toArray, tys⟩, ty, pos, aft, g⟩ E L C := OpT.callM hx hv hm hc hd spec t r k
end
end Go.Proofs.Ytjehflelkpacfaa

/- Steps of what package verify computes, one by one: plain Lean. -/
namespace Go.Proofs.Ytjehflelkpacfaa.Ver
set_option linter.unusedVariables false
open ImgM

theorem boxes_1 {i : Nat} {b : Int × Int} {r} (h : plain b.1 = false) : boxes i (b :: r) = ⟨9, 0, i⟩ := by unfold boxes; rw [if_pos h]
theorem boxes_2 {i : Nat} {b : Int × Int} {r} (h : plain b.1 = true) (h2 : b.2 < 1 ∨ 20 < b.2) : boxes i (b :: r) = ⟨3, 0, i⟩ := by unfold boxes; rw [if_neg (by rw [h]; decide), if_pos h2]
theorem boxes_3 {i : Nat} {b : Int × Int} {r} (h : plain b.1 = true) (h2 : ¬(b.2 < 1 ∨ 20 < b.2)) : boxes i (b :: r) = boxes (i + 1) r := by
  conv => lhs; unfold boxes
  rw [if_neg (by rw [h]; decide), if_neg h2]
theorem instrs_1 {M : Mdl} {u : Unt} {k j : Nat} {i : Ins} {r} (h : ¬ instr M u i = 0) : instrs M u k j (i :: r) = ⟨instr M u i, k, j⟩ := by unfold instrs; rw [if_pos h]
theorem instrs_2 {M : Mdl} {u : Unt} {k j : Nat} {i : Ins} {r} (h : instr M u i = 0) : instrs M u k j (i :: r) = instrs M u k (j + 1) r := by
  conv => lhs; unfold instrs
  rw [if_neg (fun h' => h' h)]
theorem unit_1 {M : Mdl} {k : Nat} {u : Unt} (h : ¬ head M u = 0) : unit M k u = ⟨head M u, k, 0⟩ := by unfold unit; rw [if_pos h]
theorem unit_2 {M : Mdl} {k : Nat} {u : Unt} (h : head M u = 0) : unit M k u = instrs M u k 0 u.code := by unfold unit; rw [if_neg (fun h' => h' h)]
theorem units_1 {M : Mdl} {k : Nat} {u : Unt} {r} (h : ¬ (unit M k u).err = 0) : units M k (u :: r) = unit M k u := by unfold units; rw [if_pos h]
theorem units_2 {M : Mdl} {k : Nat} {u : Unt} {r} (h : (unit M k u).err = 0) : units M k (u :: r) = units M (k + 1) r := by
  conv => lhs; unfold units
  rw [if_neg (fun h' => h' h)]
theorem form_1 {M : Mdl} (h : 30 < M.boxes.length ∨ 30 < M.units.length) : form M = ⟨5, 0, 0⟩ := by unfold form; rw [if_pos h]
theorem form_2 {M : Mdl} {w : Where} (h : ¬(30 < M.boxes.length ∨ 30 < M.units.length)) (hb : boxes 0 M.boxes = w) (he : ¬ w.err = 0) : form M = w := by unfold form; rw [if_neg h, hb, if_pos he]
theorem form_3 {M : Mdl} {w : Where} (h : ¬(30 < M.boxes.length ∨ 30 < M.units.length)) (hb : (boxes 0 M.boxes).err = 0) (hu : units M 0 M.units = w) (he : ¬ w.err = 0) : form M = w := by
  unfold form; rw [if_neg h, if_neg (fun h' => h' hb), hu, if_pos he]
theorem form_4 {M : Mdl} (h : ¬(30 < M.boxes.length ∨ 30 < M.units.length)) (hb : (boxes 0 M.boxes).err = 0) (hu : (units M 0 M.units).err = 0) (ht : (M.units.filter (fun u => decide (u.kind = 4))).length = 0) : form M = ⟨6, 0, 0⟩ := by
  unfold form; rw [if_neg h, if_neg (fun h' => h' hb), if_neg (fun h' => h' hu), if_pos ht]
theorem form_5 {M : Mdl} (h : ¬(30 < M.boxes.length ∨ 30 < M.units.length)) (hb : (boxes 0 M.boxes).err = 0) (hu : (units M 0 M.units).err = 0) (ht : ¬ (M.units.filter (fun u => decide (u.kind = 4))).length = 0) : form M = ⟨0, 0, 0⟩ := by
  unfold form; rw [if_neg h, if_neg (fun h' => h' hb), if_neg (fun h' => h' hu), if_neg ht]; rfl
theorem tasks_snoc {l : List Unt} {u : Unt} {t : Nat} (ht : t = (l.filter (fun u => decide (u.kind = 4))).length) : ((l ++ [u]).filter (fun u => decide (u.kind = 4))).length = if u.kind = 4 then t + 1 else t := by
  rw [List.filter_append, List.length_append, ← ht]
  by_cases h : u.kind = 4 <;> simp [h]
end Go.Proofs.Ytjehflelkpacfaa.Ver

/- What package verify computes: what a unit's flow keeps, and that it comes to an end. Plain Lean. -/
namespace Go.Proofs.Ytjehflelkpacfaa.Ver
set_option linter.unusedVariables false
set_option linter.unusedSimpArgs false
open ImgM

/-- the stack and the fault apart the same -/
structure Same (f g : Flow) : Prop where
  at_ : g.at_ = f.at_
  todo : g.todo = f.todo
  has : g.has = f.has
theorem Same.refl (f : Flow) : Same f f := ⟨rfl, rfl, rfl⟩
theorem Same.trans {f g h : Flow} (a : Same f g) (b : Same g h) : Same f h := ⟨b.at_.trans a.at_, b.todo.trans a.todo, b.has.trans a.has⟩
/-- the stack grows by one at most, and if it is too large there is a fault; what is on it are numbers of 64 bits; a fault stays -/
structure Kept (N : Nat) (f g : Flow) : Prop where
  same : Same f g
  len : g.stack.length ≤ N
  ty : (∀ t ∈ f.stack, In64 t) → ∀ t ∈ g.stack, In64 t
  err : ¬ f.err = 0 → g.err = f.err

theorem fail_kept (e : Int) (f : Flow) : Kept f.stack.length f (fail e f) := by
  unfold fail
  split
  · exact ⟨⟨rfl, rfl, rfl⟩, Nat.le_refl _, fun h => h, fun h => absurd ‹f.err = 0› h⟩
  · exact ⟨⟨rfl, rfl, rfl⟩, Nat.le_refl _, fun h => h, fun _ => rfl⟩
theorem fail_err (e : Int) (he : ¬ e = 0) (f : Flow) : ¬ (fail e f).err = 0 := by
  unfold fail
  split
  · exact he
  · assumption
theorem Kept.refl (f : Flow) : Kept f.stack.length f f := ⟨Same.refl f, Nat.le_refl _, fun h => h, fun _ => rfl⟩
theorem Kept.le {N M : Nat} {f g : Flow} (h : Kept N f g) (hm : N ≤ M) : Kept M f g := ⟨h.same, Nat.le_trans h.len hm, h.ty, h.err⟩
theorem Kept.trans {N M : Nat} {f g h : Flow} (a : Kept N f g) (b : Kept M g h) : Kept M f h :=
  ⟨a.same.trans b.same, b.len, fun t => b.ty (a.ty t), fun e => (b.err (by rw [a.err e]; exact e)).trans (a.err e)⟩
theorem pop_kept (f : Flow) : Kept f.stack.length f (pop f).2 := by
  unfold pop
  split
  · exact fail_kept _ _
  · exact ⟨⟨rfl, rfl, rfl⟩, by simp, fun h t ht => h t (List.mem_of_mem_take ht), fun _ => rfl⟩
theorem want1_kept (t : Int) (f : Flow) : Kept f.stack.length f (want1 t f) := by
  have h := pop_kept f
  unfold want1
  split
  · exact (h.trans (fail_kept 9 _)).le h.len
  · exact h
theorem want_kept (l : List Int) (f : Flow) : Kept f.stack.length f (want l f) := by
  induction l with
  | nil => exact Kept.refl f
  | cons t r ih => exact (ih.trans (want1_kept t _)).le ih.len
theorem push_kept (t : Int) (f : Flow) (ht : In64 t) : Kept (f.stack.length + 1) f (push t f) := by
  unfold push
  split
  · have h := fail_kept 4 { f with stack := f.stack ++ [t] }
    refine ⟨⟨h.same.at_, h.same.todo, h.same.has⟩, by have := h.len; simpa using this, fun hf => h.ty (fun u hu => ?_), h.err⟩
    rcases List.mem_append.1 hu with hu | hu
    · exact hf u hu
    · simp at hu; rw [hu]; exact ht
  · refine ⟨⟨rfl, rfl, rfl⟩, by simp, fun hf u hu => ?_, fun _ => rfl⟩
    rcases List.mem_append.1 hu with hu | hu
    · exact hf u hu
    · simp at hu; rw [hu]; exact ht
theorem push_ok (t : Int) (f : Flow) (h : (push t f).err = 0) : (push t f).stack.length ≤ 300 := by
  unfold push at h ⊢
  split
  · rename_i h1
    rw [if_pos h1] at h
    exact absurd h (fail_err 4 (by decide) _)
  · simp; omega
theorem args_kept (M : Mdl) (k : Int) (f : Flow) : Kept f.stack.length f (args M k f) := want_kept _ _
theorem gen_kept (M : Mdl) (f : Flow) : Kept f.stack.length f (gen M f).2 := by
  have h := pop_kept f
  unfold gen
  split
  · exact h
  split
  · exact (h.trans (fail_kept 9 _)).le h.len
  · exact h
theorem done_kept (f : Flow) : Kept f.stack.length f (done f) := by
  unfold done
  split
  · exact Kept.refl f
  · exact fail_kept _ _

/-- what a unit's code needs of its module -/
structure Good (M : Mdl) (u : Unt) : Prop where
  units : ∀ k, k < M.units.length → In64 (M.units.getD k default).result ∧ In64 (M.units.getD k default).takes
  boxes : ∀ k, k < M.boxes.length → In64 (M.boxes.getD k default).1
  locals : ∀ t ∈ u.locals, In64 t
  result : In64 u.result
  takes : In64 u.takes
  few : M.units.length ≤ 30
  code : ∀ i ∈ u.code, instr M u i = 0
theorem rng_eq {b : Bool} (h : rng b = 0) : b = true := by
  unfold rng at h
  split at h
  · assumption
  · cases h
theorem unit_eq {M : Mdl} {i kind : Int} (h : isUnit M i kind = true) : 0 ≤ i ∧ i < (M.units.length : Int) ∧ (M.units.getD i.toNat default).kind = kind := by
  simp only [isUnit, Bool.and_eq_true, decide_eq_true_eq] at h
  exact ⟨h.1.1, h.1.2, h.2⟩
/-- what an instruction's form says -/
structure InsOk (M : Mdl) (u : Unt) (i : Ins) : Prop where
  op : 1 ≤ i.op ∧ i.op ≤ 32
  loc : i.op = 3 ∨ i.op = 4 → 0 ≤ i.a ∧ i.a < (u.locals.length : Int)
  jump : i.op = 21 ∨ i.op = 22 → 0 ≤ i.a ∧ i.a < (u.code.length : Int)
  call : i.op = 23 → isUnit M i.a 2 = true
  start : i.op = 29 → isUnit M i.a 3 = true
  box : i.op = 26 ∨ i.op = 27 → 0 ≤ i.a ∧ i.a < (M.boxes.length : Int)
theorem instr_ok {M : Mdl} {u : Unt} {i : Ins} (h : instr M u i = 0) : InsOk M u i := by
  unfold instr at h
  by_cases h1 : i.op = 2
  · exact ⟨by omega, by omega, by omega, by omega, by omega, by omega⟩
  rw [if_neg h1] at h
  by_cases h2 : i.op = 3 ∨ i.op = 4
  · rw [if_pos h2] at h
    have := rng_eq h
    simp only [Bool.and_eq_true, decide_eq_true_eq] at this
    exact ⟨by omega, fun _ => this, by omega, by omega, by omega, by omega⟩
  rw [if_neg h2] at h
  by_cases h3 : i.op = 21 ∨ i.op = 22
  · rw [if_pos h3] at h
    have := rng_eq h
    simp only [Bool.and_eq_true, decide_eq_true_eq] at this
    exact ⟨by omega, by omega, fun _ => this, by omega, by omega, by omega⟩
  rw [if_neg h3] at h
  by_cases h4 : i.op = 23
  · rw [if_pos h4] at h
    exact ⟨by omega, by omega, by omega, fun _ => rng_eq h, by omega, by omega⟩
  rw [if_neg h4] at h
  by_cases h5 : i.op = 29
  · rw [if_pos h5] at h
    exact ⟨by omega, by omega, by omega, by omega, fun _ => rng_eq h, by omega⟩
  rw [if_neg h5] at h
  by_cases h6 : i.op = 26 ∨ i.op = 27
  · rw [if_pos h6] at h
    have := rng_eq h
    simp only [Bool.and_eq_true, decide_eq_true_eq] at this
    exact ⟨by omega, by omega, by omega, by omega, by omega, fun _ => this⟩
  rw [if_neg h6] at h
  by_cases h7 : i.op < 1 ∨ 32 < i.op
  · rw [if_pos h7] at h; cases h
  · exact ⟨by omega, by omega, by omega, by omega, by omega, by omega⟩

theorem getD_in {l : List Int} {k : Nat} (h : ∀ t ∈ l, In64 t) : In64 (l.getD k 0) := by
  rw [List.getD_eq_getElem?_getD]
  rcases Nat.lt_or_ge k l.length with hk | hk
  · rw [List.getElem?_eq_getElem hk]; exact h _ (List.getElem_mem _)
  · rw [List.getElem?_eq_none hk]; unfold In64; simp
theorem in1 : In64 1 := by unfold In64; omega
theorem in2 : In64 2 := by unfold In64; omega

/-- what a step that goes nowhere keeps -/
structure Stp (f g : Flow) : Prop where
  kept : Kept (f.stack.length + 1) f g
  ok : g.err = 0 → f.stack.length ≤ 300 → g.stack.length ≤ 300
theorem Stp.of {f g : Flow} (h : Kept f.stack.length f g) : Stp f g := ⟨h.le (Nat.le_succ _), fun _ hl => Nat.le_trans h.len hl⟩
theorem Stp.push {f g : Flow} (h : Kept f.stack.length f g) (t : Int) (ht : In64 t) : Stp f (push t g) :=
  ⟨(h.trans (push_kept t g ht)).le (Nat.succ_le_succ h.len), fun he _ => push_ok t g he⟩
theorem Kept.fail {f g : Flow} (h : Kept f.stack.length f g) (e : Int) : Kept f.stack.length f (fail e g) := (h.trans (fail_kept e g)).le h.len
theorem Kept.ite {f : Flow} {c : Prop} [Decidable c] {a b : Flow} (ha : Kept f.stack.length f a) (hb : Kept f.stack.length f b) : Kept f.stack.length f (if c then a else b) := by split <;> assumption
theorem Kept.want {f g : Flow} (h : Kept f.stack.length f g) (l : List Int) : Kept f.stack.length f (want l g) := (h.trans (want_kept l g)).le h.len
theorem Kept.done {f g : Flow} (h : Kept f.stack.length f g) : Kept f.stack.length f (done g) := (h.trans (done_kept g)).le h.len

theorem special_stp {M : Mdl} {u : Unt} (hg : Good M u) {i : Ins} (hi : InsOk M u i) (f : Flow) : Stp f (special M u i f).2 := by
  unfold special
  by_cases h1 : i.op = 23
  · rw [if_pos h1]
    obtain ⟨g1, g2, g3⟩ := unit_eq (hi.call h1)
    exact Stp.push (args_kept M _ f) _ (hg.units i.a.toNat (by omega)).1
  rw [if_neg h1]
  by_cases h2 : i.op = 29
  · rw [if_pos h2]
    obtain ⟨g1, g2, g3⟩ := unit_eq (hi.start h2)
    have := hg.few
    exact Stp.push (args_kept M _ f) _ (by unfold In64; omega)
  rw [if_neg h2]
  by_cases h3 : i.op = 24
  · rw [if_pos h3]; exact Stp.of (((Kept.refl f).fail 8 |>.ite (Kept.refl f)).want _ |>.done)
  rw [if_neg h3]
  by_cases h4 : i.op = 25
  · rw [if_pos h4]; exact Stp.of (((Kept.refl f).fail 8 |>.ite (Kept.refl f)).done)
  rw [if_neg h4]
  by_cases h5 : i.op = 26
  · rw [if_pos h5]; exact Stp.of ((Kept.refl f).want _)
  rw [if_neg h5]
  by_cases h6 : i.op = 27
  · rw [if_pos h6]
    have := hi.box (.inr h6)
    exact Stp.push (Kept.refl f) _ (hg.boxes i.a.toNat (by omega))
  rw [if_neg h6]
  by_cases h7 : i.op = 28
  · rw [if_pos h7]; exact Stp.of ((pop_kept f).fail 9 |>.ite (pop_kept f))
  rw [if_neg h7]
  by_cases h8 : i.op = 30
  · rw [if_pos h8]
    have hk := (pop_kept f).trans (gen_kept M (pop f).2)
    have hk' := hk.le (pop_kept f).len
    have hu : ∀ k, (gen M (pop f).2).1 = some k → 0 ≤ k ∧ k < (M.units.length : Int) := by
      unfold gen
      split
      · intro k h; cases h
      split
      · intro k h; cases h
      · intro k h
        rename_i h2
        simp only [Option.some.injEq] at h
        subst h
        have h3 : handle M (pop (pop f).2).1 = true := by simpa using h2
        simp only [handle, Bool.and_eq_true] at h3
        obtain ⟨q1, q2, -⟩ := unit_eq h3.2
        exact ⟨q1, q2⟩
    generalize gen M (pop f).2 = G at *
    obtain ⟨o, g⟩ := G
    cases o with
    | none => exact Stp.of hk'
    | some k =>
      have := hu k rfl
      exact Stp.push ((hk'.fail 9).ite hk') _ (hg.units k.toNat (by omega)).1
  rw [if_neg h8]
  by_cases h9 : i.op = 31
  · rw [if_pos h9]
    exact Stp.push (((Kept.refl f).fail 8 |>.ite (Kept.refl f)).want _) _ hg.takes
  rw [if_neg h9]
  by_cases h10 : i.op = 32
  · rw [if_pos h10]; exact Stp.push (gen_kept M f) _ in2
  rw [if_neg h10]
  exact Stp.of (Kept.refl f)

/-- what a step does, jumps apart -/
inductive StepIs (M : Mdl) (u : Unt) (i : Ins) (f : Flow) : Bool × Flow → Prop
  | plain {b : Bool} {g : Flow} : i.op ≠ 4 → i.op ≠ 21 → i.op ≠ 22 → Stp f g → StepIs M u i f (b, g)
  | store {g : Flow} : i.op = 4 → Kept f.stack.length f g → StepIs M u i f (true, { g with has := g.has.set i.a.toNat true })
  | jump : i.op = 21 → StepIs M u i f (false, to u.code.length i.a f)
  | els : i.op = 22 → StepIs M u i f (true, to u.code.length i.a (want [2] f))
theorem step_is {M : Mdl} {u : Unt} (hg : Good M u) {i : Ins} (hi : InsOk M u i) (f : Flow) : StepIs M u i f (step M u i f) := by
  unfold step
  by_cases h1 : i.op = 1
  · rw [if_pos h1]; exact .plain (by omega) (by omega) (by omega) (Stp.push (Kept.refl f) _ in1)
  rw [if_neg h1]
  by_cases h2 : i.op = 2
  · rw [if_pos h2]; exact .plain (by omega) (by omega) (by omega) (Stp.push (Kept.refl f) _ in2)
  rw [if_neg h2]
  by_cases h3 : i.op = 3
  · rw [if_pos h3]; exact .plain (by omega) (by omega) (by omega) (Stp.push (by split; exact Kept.refl f; exact (Kept.refl f).fail 11) _ (getD_in hg.locals))
  rw [if_neg h3]
  by_cases h4 : i.op = 4
  · rw [if_pos h4]; exact .store h4 ((Kept.refl f).want _)
  rw [if_neg h4]
  by_cases h5 : i.op = 5
  · rw [if_pos h5]; exact .plain (by omega) (by omega) (by omega) (Stp.of (pop_kept f))
  rw [if_neg h5]
  by_cases h6 : i.op = 6
  · rw [if_pos h6]; exact .plain (by omega) (by omega) (by omega) (Stp.push ((Kept.refl f).want _) _ in1)
  rw [if_neg h6]
  by_cases h7 : i.op = 7
  · rw [if_pos h7]; exact .plain (by omega) (by omega) (by omega) (Stp.push ((Kept.refl f).want _) _ in2)
  rw [if_neg h7]
  by_cases h8 : 8 ≤ i.op ∧ i.op ≤ 12
  · rw [if_pos h8]; exact .plain (by omega) (by omega) (by omega) (Stp.push ((Kept.refl f).want _) _ in1)
  rw [if_neg h8]
  by_cases h9 : i.op = 13 ∨ i.op = 14
  · rw [if_pos h9]; exact .plain (by omega) (by omega) (by omega) (Stp.push (((pop_kept f).fail 9 |>.ite (pop_kept f)).want _) _ in2)
  rw [if_neg h9]
  by_cases h10 : 15 ≤ i.op ∧ i.op ≤ 18
  · rw [if_pos h10]; exact .plain (by omega) (by omega) (by omega) (Stp.push ((Kept.refl f).want _) _ in2)
  rw [if_neg h10]
  by_cases h11 : i.op = 19 ∨ i.op = 20
  · rw [if_pos h11]; exact .plain (by omega) (by omega) (by omega) (Stp.push ((Kept.refl f).want _) _ in2)
  rw [if_neg h11]
  by_cases h12 : i.op = 21
  · rw [if_pos h12]; exact .jump h12
  rw [if_neg h12]
  by_cases h13 : i.op = 22
  · rw [if_pos h13]; exact .els h13
  rw [if_neg h13]
  have := special_stp hg hi f
  generalize special M u i f = G at *
  obtain ⟨b, g⟩ := G
  exact .plain h4 h12 h13 this
end Go.Proofs.Ytjehflelkpacfaa.Ver

/- What package verify computes: a unit's flow comes to an end. Plain Lean. -/
namespace Go.Proofs.Ytjehflelkpacfaa.Ver
set_option linter.unusedVariables false
set_option linter.unusedSimpArgs false
open ImgM

theorem find_nil (k : Int) : find [] k = none := rfl
theorem find_cons (p : Int × Shape) (l : List (Int × Shape)) (k : Int) : find (p :: l) k = if p.1 = k then some p.2 else find l k := by
  unfold find
  by_cases h : p.1 = k <;> simp [h]
theorem find_app (l : List (Int × Shape)) (p q : Int) (s : Shape) (h : find l p = none) : find (l ++ [(p, s)]) q = if p = q then some s else find l q := by
  induction l with
  | nil => simp [find_cons, find_nil]
  | cons a l ih =>
    rw [find_cons] at h
    by_cases ha : a.1 = p
    · rw [if_pos ha] at h; cases h
    · rw [if_neg ha] at h
      rw [List.cons_append, find_cons, find_cons, ih h]
      by_cases haq : a.1 = q
      · have : ¬ p = q := fun h => ha (by rw [haq, h])
        rw [if_pos haq, if_neg this, if_pos haq]
      · rw [if_neg haq, if_neg haq]
theorem find_put (l : List (Int × Shape)) (p q : Int) (s s0 : Shape) (h : find l p = some s0) : find (put l p s) q = if p = q then some s else find l q := by
  induction l with
  | nil => cases h
  | cons a l ih =>
    rw [find_cons] at h
    unfold put
    by_cases ha : a.1 = p
    · rw [if_pos ha, find_cons, find_cons]
      by_cases hpq : p = q
      · rw [if_pos (by rw [ha]; exact hpq), if_pos hpq]
      · rw [if_neg (by simp only; rw [ha]; exact hpq), if_neg hpq, if_neg (by rw [ha]; exact hpq)]
    · rw [if_neg ha] at h
      rw [if_neg ha, find_cons, find_cons, ih h]
      by_cases haq : a.1 = q
      · have : ¬ p = q := fun h => ha (by rw [haq, h])
        rw [if_pos haq, if_neg this, if_pos haq]
      · rw [if_neg haq, if_neg haq]

theorem meet_length : ∀ (a b : List Bool), a.length = b.length → (meet a b).length = a.length
  | [], [], _ => rfl
  | [], _ :: _, h => by cases h
  | _ :: _, [], h => by cases h
  | x :: a, y :: b, h => by simp [meet, meet_length a b (by simpa using h)]
theorem meet_count : ∀ (a b : List Bool), a.length = b.length → (meet a b).count true ≤ a.count true ∧ (¬ meet a b = a → (meet a b).count true < a.count true)
  | [], [], _ => ⟨Nat.le_refl _, fun h => absurd rfl h⟩
  | [], _ :: _, h => by cases h
  | _ :: _, [], h => by cases h
  | x :: a, y :: b, h => by
    obtain ⟨h1, h2⟩ := meet_count a b (by simpa using h)
    unfold meet
    cases x <;> cases y <;> simp only [Bool.and_true, Bool.and_false, Bool.true_and, Bool.false_and, List.count_cons, beq_self_eq_true, if_true]
    · exact ⟨by simpa using h1, fun hn => by have := h2 (fun e => hn (by rw [e])); simpa using this⟩
    · exact ⟨by simpa using h1, fun hn => by have := h2 (fun e => hn (by rw [e])); simpa using this⟩
    · refine ⟨by simp; omega, fun _ => by simp; omega⟩
    · exact ⟨by omega, fun hn => by have := h2 (fun e => hn (by rw [e])); omega⟩

/-- how much may still come about at a place -/
def weight (L : Nat) : Option Shape → Nat
  | none => L + 1
  | some s => s.2.count true
def room (n L : Nat) (l : List (Int × Shape)) : Nat := ((List.range n).map fun (p : Nat) => weight L (find l (p : Int))).sum
theorem room_nil (n L : Nat) : room n L [] = n * (L + 1) := by
  unfold room
  simp only [find_nil, weight]
  induction n with
  | zero => simp
  | succ n ih => rw [List.range_succ, List.map_append, List.sum_append, ih]; simp [Nat.add_mul]
theorem sum_le (g h : Nat → Nat) : ∀ (l : List Nat), (∀ p, g p ≤ h p) → (l.map g).sum ≤ (l.map h).sum
  | [], _ => Nat.le_refl _
  | a :: l, hle => by
    simp only [List.map_cons, List.sum_cons]
    have := sum_le g h l hle
    have := hle a
    omega
theorem sum_lt (g h : Nat → Nat) (p0 : Nat) (hlt : g p0 < h p0) : ∀ (l : List Nat), (∀ p, g p ≤ h p) → p0 ∈ l → (l.map g).sum < (l.map h).sum
  | [], _, hp => by cases hp
  | a :: l, hle, hp => by
    simp only [List.map_cons, List.sum_cons]
    have h1 := hle a
    have h2 := sum_le g h l hle
    rcases List.mem_cons.1 hp with rfl | hp
    · omega
    · have := sum_lt g h p0 hlt l hle hp
      omega
/-- what holds of a flow at all times; n: how many instructions; L: how many locals -/
structure Inv (n L : Nat) (f : Flow) : Prop where
  has : f.has.length = L
  ent : ∀ p s, find f.at_ p = some s → s.1.length ≤ 300 ∧ (∀ t ∈ s.1, In64 t) ∧ s.2.length = L
  todo : ∀ p ∈ f.todo, 0 ≤ p ∧ p < (n : Int) ∧ (find f.at_ p).isSome = true
theorem Inv.same {n L : Nat} {f g : Flow} (h : Inv n L f) (s : Same f g) : Inv n L g :=
  ⟨by rw [s.has]; exact h.has, by rw [s.at_]; exact h.ent, by rw [s.todo, s.at_]; exact h.todo⟩
/-- what going to a place does -/
structure Went (n L : Nat) (f g : Flow) : Prop where
  inv : Inv n L g
  stack : g.stack = f.stack
  has : g.has = f.has
  err : ¬ f.err = 0 → g.err = f.err
  mu : g.todo.length + room n L g.at_ ≤ f.todo.length + room n L f.at_
  old : ∀ p, (find f.at_ p).isSome = true → (find g.at_ p).isSome = true
theorem Went.refl {n L : Nat} {f : Flow} (h : Inv n L f) : Went n L f f := ⟨h, rfl, rfl, fun _ => rfl, Nat.le_refl _, fun _ h => h⟩
theorem fail_went {n L : Nat} {f : Flow} (h : Inv n L f) (e : Int) : Went n L f (fail e f) := by
  have k := fail_kept e f
  have hst : (fail e f).stack = f.stack := by unfold fail; split <;> rfl
  exact ⟨h.same k.same, hst, k.same.has, k.err, by rw [k.same.todo, k.same.at_]; exact Nat.le_refl _, fun p hp => by rw [k.same.at_]; exact hp⟩
theorem to_went {n L : Nat} {f : Flow} (h : Inv n L f) {p : Int} (h0 : 0 ≤ p) (hn : p ≤ (n : Int)) (hs : f.err = 0 → f.stack.length ≤ 300) (ht : ∀ t ∈ f.stack, In64 t) : Went n L f (to n p f) := by
  unfold to
  by_cases he : ¬ f.err = 0
  · rw [if_pos he]; exact Went.refl h
  have he : f.err = 0 := Decidable.not_not.1 he
  rw [if_neg (fun h => h he)]
  by_cases hp : p = (n : Int)
  · rw [if_pos hp]; exact fail_went h 3
  rw [if_neg hp]
  have hmem : p.toNat ∈ List.range n := List.mem_range.2 (by omega)
  have hcast : ((p.toNat : Nat) : Int) = p := by omega
  cases hf : find f.at_ p with
  | none =>
    simp only
    have hfa := fun q => find_app f.at_ p q (f.stack, f.has) hf
    have hcnt : f.has.count true ≤ L := by rw [← h.has]; exact List.count_le_length
    refine ⟨⟨h.has, fun q s hq => ?_, fun q hq => ?_⟩, rfl, rfl, fun h => absurd he h, ?_, fun q hq => ?_⟩
    · simp only at hq
      rw [hfa] at hq
      by_cases hpq : p = q
      · rw [if_pos hpq] at hq
        cases hq
        exact ⟨hs he, ht, h.has⟩
      · rw [if_neg hpq] at hq; exact h.ent q s hq
    · simp only at hq ⊢
      rw [hfa]
      by_cases hpq : p = q
      · subst hpq; rw [if_pos rfl]; exact ⟨h0, by omega, rfl⟩
      · rw [if_neg hpq]
        rcases List.mem_append.1 hq with hq | hq
        · exact h.todo q hq
        · simp at hq; exact absurd hq.symm hpq
    · simp only
      have := sum_lt (fun q => weight L (find (f.at_ ++ [(p, (f.stack, f.has))]) (q : Int))) (fun q => weight L (find f.at_ (q : Int))) p.toNat (by
        (try simp only)
        rw [hfa, hcast, if_pos rfl, hf]
        simp only [weight]; omega) (List.range n) (fun q => by
        (try simp only)
        rw [hfa]
        split
        · rename_i hpq; rw [← hpq, hf]; simp only [weight]; omega
        · exact Nat.le_refl _) hmem
      unfold room
      simp only [List.length_append, List.length_cons, List.length_nil]
      omega
    · simp only
      rw [hfa]; split
      · rfl
      · exact hq
  | some s =>
    simp only
    obtain ⟨g1, g2, g3⟩ := h.ent p s hf
    by_cases hst : ¬ s.1 = f.stack
    · rw [if_pos hst]; exact fail_went h 8
    have hst : s.1 = f.stack := Decidable.not_not.1 hst
    rw [if_neg (fun h => h hst)]
    by_cases hm : meet s.2 f.has = s.2
    · rw [if_pos hm]; exact Went.refl h
    rw [if_neg hm]
    have hfp := fun q => find_put f.at_ p q (s.1, meet s.2 f.has) s hf
    have hlen := meet_length s.2 f.has (by rw [g3, h.has])
    obtain ⟨m1, m2⟩ := meet_count s.2 f.has (by rw [g3, h.has])
    have m3 := m2 hm
    refine ⟨⟨h.has, fun q s' hq => ?_, fun q hq => ?_⟩, rfl, rfl, fun h => absurd he h, ?_, fun q hq => ?_⟩
    · simp only at hq
      rw [hfp] at hq
      by_cases hpq : p = q
      · rw [if_pos hpq] at hq
        cases hq
        exact ⟨g1, g2, by simp only; rw [hlen]; exact g3⟩
      · rw [if_neg hpq] at hq; exact h.ent q s' hq
    · simp only at hq ⊢
      rw [hfp]
      by_cases hpq : p = q
      · subst hpq; rw [if_pos rfl]; exact ⟨h0, by omega, rfl⟩
      · rw [if_neg hpq]
        rcases List.mem_append.1 hq with hq | hq
        · exact h.todo q hq
        · simp at hq; exact absurd hq.symm hpq
    · simp only
      have := sum_lt (fun q => weight L (find (put f.at_ p (s.1, meet s.2 f.has)) (q : Int))) (fun q => weight L (find f.at_ (q : Int))) p.toNat (by
        (try simp only)
        rw [hfp, hcast, if_pos rfl, hf]
        simp only [weight]; omega) (List.range n) (fun q => by
        (try simp only)
        rw [hfp]
        split
        · rename_i hpq; rw [← hpq, hf]; simp only [weight]; omega
        · exact Nat.le_refl _) hmem
      unfold room
      simp only [List.length_append, List.length_cons, List.length_nil]
      omega
    · simp only
      rw [hfp]; split
      · rfl
      · exact hq
/-- what a step, or a round, does to a flow -/
structure Gone (n L : Nat) (f g : Flow) : Prop where
  inv : Inv n L g
  len : g.stack.length ≤ 301
  ok : g.err = 0 → g.stack.length ≤ 300
  ty : ∀ t ∈ g.stack, In64 t
  mu : g.todo.length + room n L g.at_ ≤ f.todo.length + room n L f.at_
theorem step_gone {M : Mdl} {u : Unt} (hg : Good M u) {i : Ins} (hi : InsOk M u i) {f : Flow} {n L : Nat} (hn : n = u.code.length) (hL : L = u.locals.length) (h : Inv n L f) (hl : f.stack.length ≤ 300) (ht : ∀ t ∈ f.stack, In64 t) : Gone n L f (step M u i f).2 := by
  have hs := step_is hg hi f
  generalize step M u i f = G at *
  cases hs with
  | @plain b g h1 h2 h3 hk =>
    exact ⟨h.same hk.kept.same, Nat.le_trans hk.kept.len (by omega), fun he => hk.ok he hl, hk.kept.ty ht, by rw [hk.kept.same.todo, hk.kept.same.at_]; exact Nat.le_refl _⟩
  | @store g h1 hk =>
    have := h.same hk.same
    exact ⟨⟨by simp only [List.length_set]; exact this.has, this.ent, this.todo⟩, Nat.le_trans hk.len (by omega), fun _ => Nat.le_trans hk.len hl, hk.ty ht, by simp only; rw [hk.same.todo, hk.same.at_]; exact Nat.le_refl _⟩
  | jump h1 =>
    have hj := hi.jump (.inl h1)
    have hw := to_went (p := i.a) h (by omega) (by omega) (fun _ => hl) ht
    rw [← hn]
    exact ⟨hw.inv, by simp only [hw.stack]; omega, fun _ => by simp only [hw.stack]; omega, by simp only [hw.stack]; exact ht, hw.mu⟩
  | els h1 =>
    have hj := hi.jump (.inr h1)
    have hk := want_kept [2] f
    have hw := to_went (p := i.a) (h.same hk.same) (by omega) (by omega) (fun _ => Nat.le_trans hk.len hl) (hk.ty ht)
    have hl2 := Nat.le_trans hk.len hl
    rw [← hn]
    exact ⟨hw.inv, by simp only [hw.stack]; omega, fun _ => by simp only [hw.stack]; omega, by simp only [hw.stack]; exact hk.ty ht, by
      have := hw.mu
      rw [hk.same.todo, hk.same.at_] at this
      exact this⟩
end Go.Proofs.Ytjehflelkpacfaa.Ver
