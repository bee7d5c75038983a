/- yieldref6.Same of two modules that are alike, walked. -/
import Derived.Test.YtfeajpghabjaaaaM23
import Derived.ProofKit
import Derived.OpenShut
import Derived.JoinedCond
import Derived.SizedLaws
import Derived.Deep.Slices
import Derived.Carry
namespace Go.Proofs.Ytfeajpghabjaaaa.Vw
open Go.RowKit Go.Proofs.Ytfeajpghabjaaaa.Img
set_option linter.unusedVariables false
set_option linter.unusedSimpArgs false
theorem run_insIn (x : ImgM.Ins) (w : World) : (Op.equalIn 10000 57 (.agg (insC x).toArray) (.agg (insC x).toArray)).run Try.prog w = .ok true w := by
  have u3 := Try.underlying3
  have a3 := Try.isAgg3
  have z3 := Try.sizeOf3
  have u4 := Try.underlying2
  have a4 := Try.isAgg2
  have hS : Try.prog.underlying 57 = some (.struct (Try.prog.fieldsOf 57)) := by kernel_rfl
  have hp : Try.prog.stoodInHeld 57 = false := by kernel_rfl
  obtain ⟨a, b, c⟩ := x
  simp only [insC]
  rw [show (10000 : Nat) = 9999 + 1 from rfl, run_equalIn_agg w 9999 57 _ _ hS hp]
  simp only [Program.fieldsOf, Try.underlying57]
  go_simp
theorem run_boxIn (x : Int × Int) (w : World) : (Op.equalIn 10000 50 (.agg (boxC x).toArray) (.agg (boxC x).toArray)).run Try.prog w = .ok true w := by
  have u3 := Try.underlying3
  have a3 := Try.isAgg3
  have z3 := Try.sizeOf3
  have hS : Try.prog.underlying 50 = some (.struct (Try.prog.fieldsOf 50)) := by kernel_rfl
  have hp : Try.prog.stoodInHeld 50 = false := by kernel_rfl
  obtain ⟨a, b⟩ := x
  simp only [boxC]
  rw [show (10000 : Nat) = 9999 + 1 from rfl, run_equalIn_agg w 9999 50 _ _ hS hp]
  simp only [Program.fieldsOf, Try.underlying50]
  go_simp
section
variable {N : Nat} {E : Env} {L : List Chunk} {dst : Option Tmp} {ty : TypeId} {pos : String} {aft : Array Edge} {g : Option (Nat × Bool)}
theorem Still.neqIns {x y : Operand} {a : ImgM.Ins} {v v' : Value} (hx : ev E x = some v) (hy : ev E y = some v') (h1 : v = .agg (insC a).toArray) (h2 : v' = .agg (insC a).toArray) : Still Try.prog N ⟨dst, .binOp .neq 57 x y 57, ty, pos, aft, g⟩ E L (.bool false) := fun A w hs _ => by
  subst h1 h2
  have hg := run_eqGuard_agg (P := Try.prog) w .neq 57 x y (insC a).toArray (insC a).toArray (by kernel_rfl)
  simp [execOp, hs.ev hx, hs.ev hy, hg, run_neq_struct, run_insIn]
theorem Still.neqBox {x y : Operand} {a : Int × Int} {v v' : Value} (hx : ev E x = some v) (hy : ev E y = some v') (h1 : v = .agg (boxC a).toArray) (h2 : v' = .agg (boxC a).toArray) : Still Try.prog N ⟨dst, .binOp .neq 50 x y 50, ty, pos, aft, g⟩ E L (.bool false) := fun A w hs _ => by
  subst h1 h2
  have hg := run_eqGuard_agg (P := Try.prog) w .neq 50 x y (boxC a).toArray (boxC a).toArray (by kernel_rfl)
  simp [execOp, hs.ev hx, hs.ev hy, hg, run_neq_struct, run_boxIn]
end
attribute [local irreducible] Run Cod End OpT Still RunQ RunS RunT Fn PutOk
set_option maxRecDepth 100000 in
theorem sameInts_is (ao bo : Option Addr) (n ac bc : Nat) (l : List Int) (hn : l.length = n) (hm : n ≤ 1000000000) : Fn Try.prog 21 #[.slice ao n ac, .slice bo n bc] [rd ao n ac i64c l, rd bo n bc i64c l] [] (σ := Unit) (fun _ => True) (fun _ => .bool true) (fun _ => []) := by
  refine Fn.enter (args := [.slice ao n ac, .slice bo n bc]) Try.func21 rfl _ Try.ntmps21 rfl (by simp [rd_excl, md_excl]) (fun w S => ?_)
  (try conv => rhs; simp only [List.cons_append, List.nil_append])
  repeat (first | refine go (k := ?_) | (refine goB (k := ?_); intro b) | (refine goA (k := ?_); intro ao cap))
  apply Cod.loop (σ := Nat) (fun k => k ≤ n) (fun k => [(0, .slice ao n ac), (1, .slice bo n bc), (12, .int .i64 (n : Int)), (13, .int .i64 (k : Int))]) (fun k => [old w S, rd ao n ac i64c l, rd bo n bc i64c l]) (fun k => n - k) 0
  rotate_left
  exact sb
  exact tks
  intro k hk K1 hK1
  (try conv => rhs; simp only [List.cons_append, List.nil_append])
  rotate_left
  · exact Nat.zero_le _
  by_cases hkn : k < n
  · repeat (first | refine go (k := ?_) | (refine goB (k := ?_); intro b) | (refine goA (k := ?_); intro ao cap))
    refine End.round0_ hK1 (k + 1) ?_ ?_
    · omega
    · omega
  · repeat (first | refine go (k := ?_) | (refine goB (k := ?_); intro b) | (refine goA (k := ?_); intro ao cap))
    (refine End.done1_ (()) (he := by (first | exact rfl | (refine congrArg (Value.int _) ?_; omega) | (refine congrArg (Value.int _) ?_; dsimp only; omega))) (hp := ?_))
    trivial

theorem md_unit {w : World} {L L' : List Chunk} {m : ML} {k : Nat} (hk : k < m.us.length) {u : ImgM.Unt} (hu : (m.us.getD k default).u = u) (t : Take (md m) L L') (h : Mem w L) : Mem w (rd (m.us.getD k default).lo u.locals.length (m.us.getD k default).lc i64c u.locals :: rd (m.us.getD k default).co u.code.length (m.us.getD k default).cc insC u.code :: L) := by
  subst hu
  have h1 := h.dup t (c' := rd (m.us.getD k default).co (m.us.getD k default).u.code.length (m.us.getD k default).cc insC (m.us.getD k default).u.code) rd_excl (rd_holds.2 ⟨(md_holds.1 (h.has t)).code _ (ML.uat_mem hk), rfl⟩) (fun b hb => md_foot.2 (.inr (.inr ⟨_, ML.uat_mem hk, .inr (rd_foot.1 hb)⟩))) md_excl
  exact h1.dup (.tail t) (c' := rd (m.us.getD k default).lo (m.us.getD k default).u.locals.length (m.us.getD k default).lc i64c (m.us.getD k default).u.locals) rd_excl (rd_holds.2 ⟨(md_holds.1 (h.has t)).locals _ (ML.uat_mem hk), rfl⟩) (fun b hb => md_foot.2 (.inr (.inr ⟨_, ML.uat_mem hk, .inl (rd_foot.1 hb)⟩))) md_excl
abbrev uc6 (x : UC) (u : ImgM.Unt) : List Value := [.int .i64 u.kind, .int .i64 u.params, .slice x.lo u.locals.length x.lc, .int .i64 u.result, .int .i64 u.takes, .slice x.co u.code.length x.cc]
set_option maxRecDepth 100000 in
set_option maxHeartbeats 2000000 in
theorem same_is (m1 m2 : ML) (h : m1.mdl = m2.mdl) (hwa : m1.bx.length ≤ 1000 ∧ m1.us.length ≤ 1000 ∧ ∀ k, k < m1.us.length → (m1.us.getD k default).u.locals.length ≤ 1000000 ∧ (m1.us.getD k default).u.code.length ≤ 1000000) : Fn Try.prog 10 #[m1.val, m2.val] [md m1, md m2] [] (σ := Unit) (fun _ => True) (fun _ => .bool true) (fun _ => []) := by
  obtain ⟨h1, h2, h3⟩ := hwa
  have e1 : m2.bx = m1.bx := (congrArg ImgM.Mdl.boxes h).symm
  have e2 : m1.us.map (·.u) = m2.us.map (·.u) := congrArg ImgM.Mdl.units h
  have e3 : m2.us.length = m1.us.length := by have := congrArg List.length e2; simpa using this.symm
  have e4 : ∀ k, (m2.us.getD k default).u = (m1.us.getD k default).u := fun k => by rw [← getD_u, ← getD_u, e2]
  clear h e2
  refine Fn.enter (args := [m1.val, m2.val]) Try.func10 rfl _ Try.ntmps10 rfl (by simp [rd_excl, md_excl]) (fun w S => ?_)
  (try conv => rhs; simp only [List.cons_append, List.nil_append])
  refine Cod.imp (fun w hm => hm.dup (c := md m2) (c' := rd m2.bo m2.bx.length m2.bc boxC m2.bx) tk rd_excl (rd_holds.2 ⟨(md_holds.1 (hm.has tk)).boxes, rfl⟩) (fun b hb => md_foot.2 (.inl (rd_foot.1 hb))) md_excl) ?_
  have hvb : m2.val = .agg #[.slice m2.bo m1.bx.length m2.bc, .slice m2.uo m2.us.length m2.uc] := by show Value.agg _ = _; rw [e1]
  rw [hvb, e1]
  repeat (first | refine go (k := ?_) | (refine goB (k := ?_); intro b) | (refine goA (k := ?_); intro ao cap))
  obtain ⟨b2, rfl⟩ : ∃ x, x = b := ⟨_, rfl⟩
  obtain ⟨b1, rfl⟩ : ∃ x, x = b := ⟨_, rfl⟩
  apply Cod.loop (σ := Nat) (fun k => k ≤ m1.bx.length) (fun k => [(2, ptr b1), (3, ptr b2), (28, .int .i64 (m1.bx.length : Int)), (29, .int .i64 (k : Int))]) (fun k => [old w S, md m1, md m2, blk b1 [.slice m1.bo m1.bx.length m1.bc, .slice m1.uo m1.us.length m1.uc] 25, blk b2 [.slice m2.bo m1.bx.length m2.bc, .slice m2.uo m2.us.length m2.uc] 25, rd m2.bo m1.bx.length m2.bc boxC m1.bx]) (fun k => m1.bx.length - k) 0
  rotate_left
  exact sb
  exact tks
  intro k hk K1 hK1
  (try conv => rhs; simp only [List.cons_append, List.nil_append])
  rotate_left
  · exact Nat.zero_le _
  by_cases hkn : k < m1.bx.length
  · repeat (first | refine go (k := ?_) | (refine goB (k := ?_); intro b) | (refine goA (k := ?_); intro ao cap))
    refine RunQ.val_ (h := by exact Still.neqBox (a := m1.bx.getD k default) rfl rfl rfl rfl) (k := ?_)
    repeat (first | refine go (k := ?_) | (refine goB (k := ?_); intro b) | (refine goA (k := ?_); intro ao cap))
    refine End.round0_ hK1 (k + 1) ?_ ?_
    · omega
    · omega
  · clear hK1
    repeat (first | refine go (k := ?_) | (refine goB (k := ?_); intro b) | (refine goA (k := ?_); intro ao cap))
    refine Cod.only ((fun k => [old w S, md m1, md m2, blk b1 [.slice m1.bo m1.bx.length m1.bc, .slice m1.uo m1.us.length m1.uc] 25, blk b2 [.slice m2.bo m1.bx.length m2.bc, .slice m2.uo m2.us.length m2.uc] 25]) 0) (by (repeat (first | exact Takes.nil | exact Take.head | apply Take.tail | apply Takes.cons))) ?_
    apply Cod.loop (σ := Nat) (fun k => k ≤ m1.us.length) (fun k => [(2, ptr b1), (3, ptr b2), (46, .int .i64 (m1.us.length : Int)), (47, .int .i64 (k : Int))]) (fun k => [old w S, md m1, md m2, blk b1 [.slice m1.bo m1.bx.length m1.bc, .slice m1.uo m1.us.length m1.uc] 25, blk b2 [.slice m2.bo m1.bx.length m2.bc, .slice m2.uo m2.us.length m2.uc] 25]) (fun k => m1.us.length - k) 0
    rotate_left
    exact sb
    exact tks
    intro q hq K1 hK1
    (try conv => rhs; simp only [List.cons_append, List.nil_append])
    rotate_left
    · exact Nat.zero_le _
    by_cases hqn : q < m1.us.length
    · have hu := e4 q
      obtain ⟨h31, h32⟩ := h3 q hqn
      refine Cod.imp (fun w hm => md_unit (m := m2) (k := q) (by omega) hu tk hm) ?_
      generalize hU : (m1.us.getD q default).u = u at *
      refine Cod.imp (fun w hm => md_unit (m := m1) (k := q) hqn hU tk hm) ?_
      repeat (first | refine go (k := ?_) | (refine goB (k := ?_); intro b) | (refine goA (k := ?_); intro ao cap))
      refine cutN0 (σ := Nat × Nat) (fun _ => True) (fun s => [(2, ptr b1), (3, ptr b2), (46, .int .i64 (m1.us.length : Int)), (47, .int .i64 (q : Int)), (7, ptr s.1), (8, ptr s.2)]) (fun s => [old w S, md m1, md m2, blk b1 [.slice m1.bo m1.bx.length m1.bc, .slice m1.uo m1.us.length m1.uc] 25, blk b2 [.slice m2.bo m1.bx.length m2.bc, .slice m2.uo m2.us.length m2.uc] 25, rd (m1.us.getD q default).lo u.locals.length (m1.us.getD q default).lc i64c u.locals, rd (m1.us.getD q default).co u.code.length (m1.us.getD q default).cc insC u.code, rd (m2.us.getD q default).lo u.locals.length (m2.us.getD q default).lc i64c u.locals, rd (m2.us.getD q default).co u.code.length (m2.us.getD q default).cc insC u.code, blk s.1 (uc6 (m1.us.getD q default) u) 38, blk s.2 (uc6 (m2.us.getD q default) u) 38]) ?_ ?_
      · rintro ⟨xb, yb⟩ -
        dsimp only
        repeat (first | refine go (k := ?_) | (refine goB (k := ?_); intro b) | (refine goA (k := ?_); intro ao cap))
        (first | (apply Run.op; exact rfl) | refine Run.yes_ (h := ?_)); refine OpT.call0_ (spec := sameInts_is (m1.us.getD q default).lo (m2.us.getD q default).lo u.locals.length (m1.us.getD q default).lc (m2.us.getD q default).lc u.locals rfl (by omega)) (k := ?_); intro s hs; (try conv => rhs; simp only [List.cons_append, List.nil_append])
        repeat (first | refine go (k := ?_) | (refine goB (k := ?_); intro b) | (refine goA (k := ?_); intro ao cap))
        refine Cod.only ((fun k => [old w S, md m1, md m2, blk b1 [.slice m1.bo m1.bx.length m1.bc, .slice m1.uo m1.us.length m1.uc] 25, blk b2 [.slice m2.bo m1.bx.length m2.bc, .slice m2.uo m2.us.length m2.uc] 25, rd (m1.us.getD q default).lo u.locals.length (m1.us.getD q default).lc i64c u.locals, rd (m1.us.getD q default).co u.code.length (m1.us.getD q default).cc insC u.code, rd (m2.us.getD q default).lo u.locals.length (m2.us.getD q default).lc i64c u.locals, rd (m2.us.getD q default).co u.code.length (m2.us.getD q default).cc insC u.code, blk xb (uc6 (m1.us.getD q default) u) 38, blk yb (uc6 (m2.us.getD q default) u) 38]) 0) (by (repeat (first | exact Takes.nil | exact Take.head | apply Take.tail | apply Takes.cons))) ?_
        apply Cod.loop (σ := Nat) (fun k => k ≤ u.code.length) (fun k => [(2, ptr b1), (3, ptr b2), (46, .int .i64 (m1.us.length : Int)), (47, .int .i64 (q : Int)), (7, ptr xb), (8, ptr yb), (105, .int .i64 (u.code.length : Int)), (106, .int .i64 (k : Int))]) (fun k => [old w S, md m1, md m2, blk b1 [.slice m1.bo m1.bx.length m1.bc, .slice m1.uo m1.us.length m1.uc] 25, blk b2 [.slice m2.bo m1.bx.length m2.bc, .slice m2.uo m2.us.length m2.uc] 25, rd (m1.us.getD q default).lo u.locals.length (m1.us.getD q default).lc i64c u.locals, rd (m1.us.getD q default).co u.code.length (m1.us.getD q default).cc insC u.code, rd (m2.us.getD q default).lo u.locals.length (m2.us.getD q default).lc i64c u.locals, rd (m2.us.getD q default).co u.code.length (m2.us.getD q default).cc insC u.code, blk xb (uc6 (m1.us.getD q default) u) 38, blk yb (uc6 (m2.us.getD q default) u) 38]) (fun k => u.code.length - k) 0
        rotate_left
        exact sb
        exact tks
        intro k hk K2 hK2
        (try conv => rhs; simp only [List.cons_append, List.nil_append])
        rotate_left
        · exact Nat.zero_le _
        by_cases hkn : k < u.code.length
        · repeat (first | refine go (k := ?_) | (refine goB (k := ?_); intro b) | (refine goA (k := ?_); intro ao cap))
          refine RunQ.val_ (h := by exact Still.neqIns (a := u.code.getD k default) rfl rfl rfl rfl) (k := ?_)
          repeat (first | refine go (k := ?_) | (refine goB (k := ?_); intro b) | (refine goA (k := ?_); intro ao cap))
          refine End.round0_ hK2 (k + 1) ?_ ?_
          · omega
          · omega
        · repeat (first | refine go (k := ?_) | (refine goB (k := ?_); intro b) | (refine goA (k := ?_); intro ao cap))
          refine End.round0_ hK1 (q + 1) ?_ ?_
          · omega
          · omega
      · intro K hK
        apply Cod.draw 13 ([old w S, md m1, md m2, blk b1 [.slice m1.bo m1.bx.length m1.bc, .slice m1.uo m1.us.length m1.uc] 25, blk b2 [.slice m2.bo m1.bx.length m2.bc, .slice m2.uo m2.us.length m2.uc] 25]) (by kernel_rfl) 14 rfl
        refine RunT.takeR_ 0 (h := ?_)
        refine RunT.takeR_ 1 (h := ?_)
        refine RunT.takeR_ 2 (h := ?_)
        refine RunT.takeR_ 3 (h := ?_)
        refine RunT.takeR_ 4 (h := ?_)
        refine RunT.takeR_ 5 (h := ?_)
        refine RunT.takeR_ 6 (h := ?_)
        refine RunT.takeR_ 7 (h := ?_)
        refine RunT.takeR_ 8 (h := ?_)
        refine RunT.takeR_ 9 (h := ?_)
        simp only [hu, hU]
        refine RunT.two_ 10 11 (h := ?_) (h' := ?_)
        · refine OpT.alloc_ (k := ?_)
          intro xb
          refine And.intro gud ?_
          refine RunT.one_ 11 (h := ?_)
          refine OpT.alloc_ (k := ?_)
          intro yb
          refine And.intro gud ?_
          (refine RunT.one_ 12 (h := ?_); (first | refine OpT.val_ (k := ?_) | (refine OpT.alloc_ (k := ?_); intro b) | (refine OpT.box_ (k := ?_); intro b) | refine OpT.store_ (k := ?_) | (refine OpT.buildSlice_ (k := ?_); intro b) | (refine OpT.buildSlice0_ (k := ?_); intro b) | (refine OpT.append1_ (k := ?_); intro ao cap) | (refine OpT.cutA0_ (k := ?_); intro ao cap) | (refine OpT.cutR0_ (k := ?_); intro ao cap) | (refine OpT.cutA1_ (k := ?_); intro ao cap) | (refine OpT.cutA_ (k := ?_); intro ao cap) | (refine OpT.cutR_ (k := ?_); intro ao cap)); refine And.intro gud ?_)
          (refine RunT.one_ 13 (h := ?_); (first | refine OpT.val_ (k := ?_) | (refine OpT.alloc_ (k := ?_); intro b) | (refine OpT.box_ (k := ?_); intro b) | refine OpT.store_ (k := ?_) | (refine OpT.buildSlice_ (k := ?_); intro b) | (refine OpT.buildSlice0_ (k := ?_); intro b) | (refine OpT.append1_ (k := ?_); intro ao cap) | (refine OpT.cutA0_ (k := ?_); intro ao cap) | (refine OpT.cutR0_ (k := ?_); intro ao cap) | (refine OpT.cutA1_ (k := ?_); intro ao cap) | (refine OpT.cutA_ (k := ?_); intro ao cap) | (refine OpT.cutR_ (k := ?_); intro ao cap)); refine And.intro gud ?_)
          (apply RunT.done; kernel_rfl)
          repeat (first | refine go (k := ?_) | (refine goB (k := ?_); intro b) | (refine goA (k := ?_); intro ao cap))
          refine End.some_ hK (xb, yb) ?_
          trivial
        · refine OpT.alloc_ (k := ?_)
          intro yb
          refine And.intro gud ?_
          refine RunT.one_ 10 (h := ?_)
          refine OpT.alloc_ (k := ?_)
          intro xb
          refine And.intro gud ?_
          (refine RunT.one_ 12 (h := ?_); (first | refine OpT.val_ (k := ?_) | (refine OpT.alloc_ (k := ?_); intro b) | (refine OpT.box_ (k := ?_); intro b) | refine OpT.store_ (k := ?_) | (refine OpT.buildSlice_ (k := ?_); intro b) | (refine OpT.buildSlice0_ (k := ?_); intro b) | (refine OpT.append1_ (k := ?_); intro ao cap) | (refine OpT.cutA0_ (k := ?_); intro ao cap) | (refine OpT.cutR0_ (k := ?_); intro ao cap) | (refine OpT.cutA1_ (k := ?_); intro ao cap) | (refine OpT.cutA_ (k := ?_); intro ao cap) | (refine OpT.cutR_ (k := ?_); intro ao cap)); refine And.intro gud ?_)
          (refine RunT.one_ 13 (h := ?_); (first | refine OpT.val_ (k := ?_) | (refine OpT.alloc_ (k := ?_); intro b) | (refine OpT.box_ (k := ?_); intro b) | refine OpT.store_ (k := ?_) | (refine OpT.buildSlice_ (k := ?_); intro b) | (refine OpT.buildSlice0_ (k := ?_); intro b) | (refine OpT.append1_ (k := ?_); intro ao cap) | (refine OpT.cutA0_ (k := ?_); intro ao cap) | (refine OpT.cutR0_ (k := ?_); intro ao cap) | (refine OpT.cutA1_ (k := ?_); intro ao cap) | (refine OpT.cutA_ (k := ?_); intro ao cap) | (refine OpT.cutR_ (k := ?_); intro ao cap)); refine And.intro gud ?_)
          (apply RunT.done; kernel_rfl)
          repeat (first | refine go (k := ?_) | (refine goB (k := ?_); intro b) | (refine goA (k := ?_); intro ao cap))
          refine End.some_ hK (xb, yb) ?_
          trivial
    · repeat (first | refine go (k := ?_) | (refine goB (k := ?_); intro b) | (refine goA (k := ?_); intro ao cap))
      (refine End.done1_ (()) (he := by (first | exact rfl | (refine congrArg (Value.int _) ?_; omega) | (refine congrArg (Value.int _) ?_; dsimp only; omega))) (hp := ?_))
      trivial
end Go.Proofs.Ytfeajpghabjaaaa.Vw

/- yieldlaw14.OptOnce, OptKeeps, walked. -/
namespace Go.Proofs.Ytfeajpghabjaaaa.Vw
open Go.RowKit Go.Proofs.Ytfeajpghabjaaaa.Img
set_option linter.unusedVariables false
set_option linter.unusedSimpArgs false
/-- a unit without its code -/
def bareX (x : UC) : UC := ⟨{ x.u with code := [] }, x.lo, x.lc, none, 0⟩
def bareM (m : ML) (ao : Option Addr) (ac : Nat) : ML := ⟨m.bx, m.bo, m.bc, m.us.map bareX, ao, ac⟩
theorem bare_md {w : World} {L F : List Chunk} {m : ML} {ao : Option Addr} {ac : Nat} (t : Takes [arr ao m.us.length ac 38 ucell (m.us.map bareX), md m] L F) (h : Mem w L) : Mem w (md (bareM m ao ac) :: F) := by
  have ht := h.takes t
  have a1 := arr_holds.1 (ht.all _ (.head _))
  have a2 := md_holds.1 (ht.all _ (.tail _ (.head _)))
  have l1 := a1.1.le
  have r1 := a1.1.row Enc.pos
  rw [show m.us.length = (m.us.map bareX).length by simp] at r1
  refine Mem.toRead t h (md_holds.2 ⟨a2.boxes, r1, fun x hx => ?_, fun x hx => ?_⟩) md_excl (fun b hb => ?_)
  · obtain ⟨y, hy, rfl⟩ := List.mem_map.1 (show x ∈ m.us.map bareX from hx)
    exact a2.locals y hy
  · obtain ⟨y, hy, rfl⟩ := List.mem_map.1 (show x ∈ m.us.map bareX from hx)
    exact ⟨by simp [bareX], by simp [bareX], none, 0, rfl, Nat.le_refl _, fun h => by simp [bareX] at h⟩
  · rw [md_foot] at hb
    rcases hb with ⟨h, h0⟩ | ⟨h, h0⟩ | ⟨x, hx, ⟨h, h0⟩ | ⟨h, h0⟩⟩
    · exact ⟨_, .tail _ (.head _), md_foot.2 (.inl ⟨h, h0⟩)⟩
    · have e : (bareM m ao ac).us.length = m.us.length := by simp [bareM]
      rw [e] at h h0
      exact ⟨_, .head _, arr_foot.2 ⟨h, by omega⟩⟩
    · obtain ⟨y, hy, rfl⟩ := List.mem_map.1 (show x ∈ m.us.map bareX from hx)
      exact ⟨_, .tail _ (.head _), md_foot.2 (.inr (.inr ⟨y, hy, .inl ⟨h, h0⟩⟩))⟩
    · obtain ⟨y, hy, rfl⟩ := List.mem_map.1 (show x ∈ m.us.map bareX from hx)
      simp [bareX] at h0
attribute [local irreducible] Run Cod End OpT Still RunQ RunS RunT Fn PutOk
attribute [local irreducible] Ver.verify Opt.mdl Opt.code
set_option maxRecDepth 100000 in
set_option maxHeartbeats 1000000 in
theorem bare_is (m : ML) (hu30 : m.us.length ≤ 1000) : Fn Try.prog 13 #[m.val] [md m] [] (σ := Option Addr × Nat) (fun _ => True) (fun s => .agg #[.slice m.bo m.bx.length m.bc, .slice s.1 m.us.length s.2]) (fun s => [arr s.1 m.us.length s.2 38 ucell (m.us.map bareX)]) := by
  refine Fn.enter (args := [m.val]) Try.func13 rfl _ Try.ntmps13 rfl (by simp [rd_excl, md_excl]) (fun w S => ?_)
  (try conv => rhs; simp only [List.cons_append, List.nil_append])
  repeat (first | refine go (k := ?_) | (refine goB (k := ?_); intro b) | (refine goA (k := ?_); intro ao cap))
  obtain ⟨ob, rfl⟩ : ∃ x, x = b := ⟨_, rfl⟩
  obtain ⟨rb, rfl⟩ : ∃ x, x = b := ⟨_, rfl⟩
  apply Cod.imp (fun w hm => hm.nilArr 38 ucell)
  refine Cod.only ((fun z => [old w S, md m, blk ob [.slice m.bo m.bx.length m.bc, .slice z.2.1 z.1 z.2.2] 25, arr z.2.1 z.1 z.2.2 38 ucell ((m.us.take z.1).map bareX), blk rb [.slice none 0 0, .slice none 0 0] 25]) (0, none, 0)) (by (repeat (first | exact Takes.nil | exact Take.head | apply Take.tail | apply Takes.cons))) ?_
  apply Cod.loop (σ := Nat × Option Addr × Nat) (fun z => z.1 ≤ m.us.length) (fun z => [(2, ptr rb), (3, ptr ob), (10, .slice m.uo m.us.length m.uc), (11, .int .i64 (m.us.length : Int)), (12, .int .i64 (z.1 : Int))]) (fun z => [old w S, md m, blk ob [.slice m.bo m.bx.length m.bc, .slice z.2.1 z.1 z.2.2] 25, arr z.2.1 z.1 z.2.2 38 ucell ((m.us.take z.1).map bareX), blk rb [.slice none 0 0, .slice none 0 0] 25]) (fun z => m.us.length - z.1) (0, none, 0)
  rotate_left
  exact sb
  exact tks
  intro z hz K1 hK1
  (try conv => rhs; simp only [List.cons_append, List.nil_append])
  rotate_left
  · exact Nat.zero_le _
  obtain ⟨q, ao, ac⟩ := z
  simp only at hz hK1 ⊢
  by_cases hq : q < m.us.length
  · have hsn : (m.us.take q).map bareX ++ [bareX (m.us.getD q default)] = (m.us.take (q + 1)).map bareX := by rw [take_snoc hq, List.map_append]; rfl
    repeat (first | refine go (k := ?_) | (refine goB (k := ?_); intro b) | (refine goA (k := ?_); intro ao cap))
    (apply Run.op; exact rfl; refine OpT.append1_ (a := bareX (m.us.getD q default)) (k := ?_); intro ao1 cap1)
    rw [hsn]
    repeat (first | refine go (k := ?_) | (refine goB (k := ?_); intro b) | (refine goA (k := ?_); intro ao cap))
    refine End.round0_ hK1 (q + 1, ao1, cap1) ?_ ?_
    · simp only; omega
    · simp only; omega
  · obtain rfl : q = m.us.length := by omega
    rw [List.take_of_length_le (Nat.le_refl _)]
    repeat (first | refine go (k := ?_) | (refine goB (k := ?_); intro b) | (refine goA (k := ?_); intro ao cap))
    (refine End.doneC1_ ((ao, ac)) (he := by (first | exact rfl | (refine congrArg (Value.int _) ?_; omega) | (refine congrArg (Value.int _) ?_; dsimp only; omega))) (hp := ?_))
    trivial
set_option maxRecDepth 100000 in
set_option maxHeartbeats 2000000 in
theorem keeps_is (m : ML) (hwf : m.Wf) : Fn Try.prog 6 #[m.val] [md m] [] (σ := Unit) (fun _ => True) (fun _ => .bool true) (fun _ => []) := by
  refine Fn.enter (args := [m.val]) Try.func6 rfl _ Try.ntmps6 rfl (by simp [rd_excl, md_excl]) (fun w S => ?_)
  (try conv => rhs; simp only [List.cons_append, List.nil_append])
  apply Cod.fact m.Small (fun w hm => (md_holds.1 (hm.has tk)).small)
  intro hsm
  repeat (first | refine go (k := ?_) | (refine goB (k := ?_); intro b) | (refine goA (k := ?_); intro ao cap))
  (apply Run.op; exact rfl; refine OpT.call0_ (spec := alive14_is) (k := ?_); intro s hs; (try conv => rhs; simp only [List.cons_append, List.nil_append]))
  repeat (first | refine go (k := ?_) | (refine goB (k := ?_); intro b) | (refine goA (k := ?_); intro ao cap))
  (apply Run.op; exact rfl; refine OpT.call0_ (spec := module_is m hwf) (k := ?_); intro s hs; (try conv => rhs; simp only [List.cons_append, List.nil_append]))
  obtain ⟨n, rfl⟩ : ∃ x, x = s := ⟨_, rfl⟩
  unfold ModOk at hs
  by_cases hv : Ver.verify m.mdl = .ok
  · rw [if_pos hv] at hs
    have hF := formed (Ver.verify_iff.1 hv).form
    have hu30 := hF.units
    have hb30 := hF.boxes
    have e1 : n.bx = m.bx := by
      have := congrArg ImgM.Mdl.boxes hs
      unfold Opt.mdl at this
      exact this
    have e2 : n.us.map (·.u) = m.us.map (fun x => Opt.unit x.u) := by
      have := congrArg ImgM.Mdl.units hs
      unfold Opt.mdl at this
      simp only [ML.mdl, List.map_map] at this
      exact this
    have e3 : n.us.length = m.us.length := by simpa using congrArg List.length e2
    have hbare : ∀ {a a2 : Option Addr} {c c2 : Nat}, (bareM m a c).mdl = (bareM n a2 c2).mdl := by
      intro a a2 c c2
      simp only [bareM, ML.mdl, ImgM.Mdl.mk.injEq, List.map_map]
      refine ⟨e1.symm, ?_⟩
      have : n.us.map (fun x => ({ x.u with code := [] } : ImgM.Unt)) = m.us.map (fun x => ({ x.u with code := [] } : ImgM.Unt)) := by
        have := congrArg (List.map (fun u : ImgM.Unt => ({ u with code := [] } : ImgM.Unt))) e2
        simp only [List.map_map] at this
        exact this
      exact this.symm
    have hlens : ∀ {a : Option Addr} {c k : Nat}, k < (bareM m a c).us.length → ((bareM m a c).us.getD k default).u.locals.length ≤ 1000000 ∧ ((bareM m a c).us.getD k default).u.code.length ≤ 1000000 := by
      intro a c k hk
      have hk' : k < m.us.length := by simpa [bareM] using hk
      have e : (bareM m a c).us.getD k default = bareX (m.us.getD k default) := by
        show (m.us.map bareX).getD k default = _
        simp only [List.getD_eq_getElem?_getD, List.getElem?_map, List.getElem?_eq_getElem hk', Option.map_some, Option.getD_some]
      rw [e]
      obtain ⟨q1, q2, q3, q4, q5, q6⟩ := head_ok (hF.head k hk')
      exact ⟨by show (m.us.getD k default).u.locals.length ≤ _; omega, Nat.zero_le _⟩
    rw [hv]
    apply Run.imp (fun w hm => own_md n (by (repeat (first | exact Takes.nil | exact Take.head | apply Take.tail | apply Takes.cons))) hm)
    repeat (first | refine go (k := ?_) | (refine goB (k := ?_); intro b) | (refine goA (k := ?_); intro ao cap))
    obtain ⟨wb, rfl⟩ : ∃ x, x = b := ⟨_, rfl⟩
    obtain ⟨nb, rfl⟩ : ∃ x, x = b := ⟨_, rfl⟩
    obtain ⟨mb, rfl⟩ : ∃ x, x = b := ⟨_, rfl⟩
    apply Cod.draw 6 ([blk mb [.slice m.bo m.bx.length m.bc, .slice m.uo m.us.length m.uc] 25, blk nb [.slice n.bo n.bx.length n.bc, .slice n.uo n.us.length n.uc] 25]) (by kernel_rfl) 8 rfl
    refine RunT.takeR_ 0 (h := ?_)
    refine RunT.takeR_ 1 (h := ?_)
    refine RunT.takeR_ 3 (h := ?_)
    refine RunT.takeR_ 4 (h := ?_)
    (refine RunT.one_ 2 (h := ?_); refine OpT.call0_ (spec := bare_is m (by omega)) (k := ?_); intro s hs; refine And.intro gud ?_; (try conv => rhs; simp only [List.cons_append, List.nil_append]))
    obtain ⟨ao1, ac1⟩ := s
    (refine RunT.one_ 5 (h := ?_); refine OpT.call0_ (spec := bare_is n (by omega)) (k := ?_); intro s hs; refine And.intro gud ?_; (try conv => rhs; simp only [List.cons_append, List.nil_append]))
    obtain ⟨ao2, ac2⟩ := s
    refine RunT.imp (fun w hm => bare_md (m := m) (ao := ao1) (ac := ac1) (by (repeat (first | exact Takes.nil | exact Take.head | apply Take.tail | apply Takes.cons))) hm) ?_
    refine RunT.imp (fun w hm => bare_md (m := n) (ao := ao2) (ac := ac2) (by (repeat (first | exact Takes.nil | exact Take.head | apply Take.tail | apply Takes.cons))) hm) ?_
    have hbl1 : (bareM m ao1 ac1).us.length = m.us.length := by simp [bareM]
    have hbl2 : (bareM n ao2 ac2).us.length = n.us.length := by simp [bareM]
    rw [← hbl1, ← hbl2]
    (refine RunT.one_ 6 (h := ?_); refine OpT.call0_ (spec := same_is (bareM m ao1 ac1) (bareM n ao2 ac2) hbare ⟨by show m.bx.length ≤ _; omega, by omega, fun k hk => hlens hk⟩) (k := ?_); intro s hs; refine And.intro gud ?_; (try conv => rhs; simp only [List.cons_append, List.nil_append]))
    refine RunT.take0_ 7 (h := ?_)
    (apply RunT.done; kernel_rfl)
    repeat (first | refine go (k := ?_) | (refine goB (k := ?_); intro b) | (refine goA (k := ?_); intro ao cap))
    (refine End.done1_ (()) (he := by (first | exact rfl | (refine congrArg (Value.int _) ?_; omega) | (refine congrArg (Value.int _) ?_; dsimp only; omega))) (hp := ?_))
    trivial
  · rw [if_neg hv] at hs
    have he : (Ver.verify m.mdl).err ≠ 0 := fun h => hv (Ver.verify_eq h)
    generalize hV : Ver.verify m.mdl = V at *
    repeat (first | refine go (k := ?_) | (refine goB (k := ?_); intro b) | (refine goA (k := ?_); intro ao cap))
    (refine End.done1_ (()) (he := by (first | exact rfl | (refine congrArg (Value.int _) ?_; omega) | (refine congrArg (Value.int _) ?_; dsimp only; omega))) (hp := ?_))
    trivial
set_option maxRecDepth 100000 in
set_option maxHeartbeats 2000000 in
theorem once_is (m : ML) (hwf : m.Wf) : Fn Try.prog 5 #[m.val] [md m] [] (σ := Unit) (fun _ => True) (fun _ => .bool true) (fun _ => []) := by
  refine Fn.enter (args := [m.val]) Try.func5 rfl _ Try.ntmps5 rfl (by simp [rd_excl, md_excl]) (fun w S => ?_)
  (try conv => rhs; simp only [List.cons_append, List.nil_append])
  apply Cod.fact m.Small (fun w hm => (md_holds.1 (hm.has tk)).small)
  intro hsm
  repeat (first | refine go (k := ?_) | (refine goB (k := ?_); intro b) | (refine goA (k := ?_); intro ao cap))
  (apply Run.op; exact rfl; refine OpT.call0_ (spec := alive14_is) (k := ?_); intro s hs; (try conv => rhs; simp only [List.cons_append, List.nil_append]))
  repeat (first | refine go (k := ?_) | (refine goB (k := ?_); intro b) | (refine goA (k := ?_); intro ao cap))
  (apply Run.op; exact rfl; refine OpT.call0_ (spec := module_is m hwf) (k := ?_); intro s hs; (try conv => rhs; simp only [List.cons_append, List.nil_append]))
  obtain ⟨n, rfl⟩ : ∃ x, x = s := ⟨_, rfl⟩
  unfold ModOk at hs
  by_cases hv : Ver.verify m.mdl = .ok
  · rw [if_pos hv] at hs
    have hnm := hs
    have hnwf := opt_wf hwf hv hs
    have hok := opt_ok hwf hv
    have hon := opt_once hwf hv
    rw [← hs] at hok hon
    rw [hv]
    apply Run.imp (fun w hm => own_md n (by (repeat (first | exact Takes.nil | exact Take.head | apply Take.tail | apply Takes.cons))) hm)
    repeat (first | refine go (k := ?_) | (refine goB (k := ?_); intro b) | (refine goA (k := ?_); intro ao cap))
    (apply Run.op; exact rfl; refine OpT.call0_ (spec := module_is n hnwf) (k := ?_); intro s hs; (try conv => rhs; simp only [List.cons_append, List.nil_append]))
    obtain ⟨o, rfl⟩ : ∃ x, x = s := ⟨_, rfl⟩
    unfold ModOk at hs
    rw [if_pos hok] at hs
    have hF := formed (Ver.verify_iff.1 hv).form
    have hu30 := hF.units
    have hb30 := hF.boxes
    have e1 : n.bx = m.bx := by
      have := congrArg ImgM.Mdl.boxes hnm
      unfold Opt.mdl at this
      exact this
    have e2 : n.us.map (·.u) = m.us.map (fun x => Opt.unit x.u) := by
      have := congrArg ImgM.Mdl.units hnm
      unfold Opt.mdl at this
      simp only [ML.mdl, List.map_map] at this
      exact this
    have e3 : n.us.length = m.us.length := by simpa using congrArg List.length e2
    have hsame : n.mdl = o.mdl := by rw [hs, hon]
    have e4 : ∀ k, k < m.us.length → (n.us.getD k default).u = Opt.unit (m.us.getD k default).u := fun k hk => by
      rw [← getD_u, e2]
      simp only [List.getD_eq_getElem?_getD, List.getElem?_map, List.getElem?_eq_getElem hk, Option.map_some, Option.getD_some]
    have hFn := formed (Ver.verify_iff.1 hok).form
    have hlens : ∀ k, k < n.us.length → (n.us.getD k default).u.locals.length ≤ 1000000 ∧ (n.us.getD k default).u.code.length ≤ 1000000 := fun k hk => by
      obtain ⟨q1, q2, q3, q4, q5, q6⟩ := head_ok (hFn.head k hk)
      exact ⟨by omega, by omega⟩
    rw [hok]
    apply Run.imp (fun w hm => own_md o (by (repeat (first | exact Takes.nil | exact Take.head | apply Take.tail | apply Takes.cons))) hm)
    repeat (first | refine go (k := ?_) | (refine goB (k := ?_); intro b) | (refine goA (k := ?_); intro ao cap))
    (first | (apply Run.op; exact rfl) | refine Run.yes_ (h := ?_)); refine OpT.call0_ (spec := same_is n o hsame ⟨by rw [e1]; omega, by omega, hlens⟩) (k := ?_); intro s hs; (try conv => rhs; simp only [List.cons_append, List.nil_append])
    repeat (first | refine go (k := ?_) | (refine goB (k := ?_); intro b) | (refine goA (k := ?_); intro ao cap))
    obtain ⟨ob, rfl⟩ : ∃ x, x = b := ⟨_, rfl⟩
    obtain ⟨wb, rfl⟩ : ∃ x, x = b := ⟨_, rfl⟩
    obtain ⟨nb, rfl⟩ : ∃ x, x = b := ⟨_, rfl⟩
    obtain ⟨mb, rfl⟩ : ∃ x, x = b := ⟨_, rfl⟩
    refine Cod.only ((fun k => [old w S, md m, md n, blk mb [.slice m.bo m.bx.length m.bc, .slice m.uo m.us.length m.uc] 25, blk nb [.slice n.bo n.bx.length n.bc, .slice n.uo n.us.length n.uc] 25]) 0) (by (repeat (first | exact Takes.nil | exact Take.head | apply Take.tail | apply Takes.cons))) ?_
    apply Cod.loop (σ := Nat) (fun k => k ≤ m.us.length) (fun k => [(1, ptr mb), (3, ptr nb), (42, .int .i64 (m.us.length : Int)), (43, .int .i64 (k : Int))]) (fun k => [old w S, md m, md n, blk mb [.slice m.bo m.bx.length m.bc, .slice m.uo m.us.length m.uc] 25, blk nb [.slice n.bo n.bx.length n.bc, .slice n.uo n.us.length n.uc] 25]) (fun k => m.us.length - k) 0
    rotate_left
    exact sb
    exact tks
    intro k hk K1 hK1
    (try conv => rhs; simp only [List.cons_append, List.nil_append])
    rotate_left
    · exact Nat.zero_le _
    by_cases hkn : k < m.us.length
    · have hk4 := e4 k hkn
      have hkn' : k < n.us.length := by omega
      have hc1 : (n.us.getD k default).u.code.length ≤ (m.us.getD k default).u.code.length := by
        rw [hk4]; exact Opt.code_len _
      have hc2 := (Opt.head_len (hFn.head k hkn')).1
      repeat (first | refine go (k := ?_) | (refine goB (k := ?_); intro b) | (refine goA (k := ?_); intro ao cap))
      refine End.round0_ hK1 (k + 1) ?_ ?_
      · omega
      · omega
    · repeat (first | refine go (k := ?_) | (refine goB (k := ?_); intro b) | (refine goA (k := ?_); intro ao cap))
      (refine End.done1_ (()) (he := by (first | exact rfl | (refine congrArg (Value.int _) ?_; omega) | (refine congrArg (Value.int _) ?_; dsimp only; omega))) (hp := ?_))
      trivial
  · rw [if_neg hv] at hs
    have he : (Ver.verify m.mdl).err ≠ 0 := fun h => hv (Ver.verify_eq h)
    generalize hV : Ver.verify m.mdl = V at *
    repeat (first | refine go (k := ?_) | (refine goB (k := ?_); intro b) | (refine goA (k := ?_); intro ao cap))
    (refine End.done1_ (()) (he := by (first | exact rfl | (refine congrArg (Value.int _) ?_; omega) | (refine congrArg (Value.int _) ?_; dsimp only; omega))) (hp := ?_))
    trivial
end Go.Proofs.Ytfeajpghabjaaaa.Vw

/- How the arguments' data are read: a slice's cells out of its reading ('read_slice'); what a law owes at its end ('law_post'). Of whatever program. -/
namespace Go.Proofs.Ytfeajpghabjaaaa
open Go.RowKit Go.ChangeShapes Go.WideShapes Go.ChangeAt
set_option linter.unusedVariables false

section
variable {H : Type} {enc : TypeId × Value → H} {P : Program} {w : World}

abbrev Trd (enc : TypeId × Value → H) (P : Program) (w : World) (fuel : Nat) (t : TypeId) (cs : List Value) (x : DataW H × List MemPlace) : Prop :=
  DataW.trod enc P w 0 (fun _ => true) true fuel t cs = some x

/-- every weight of a datum is within the reach -/
def Fits (P : Program) (t : TypeId) (d : DataW H) : Prop := ∀ n ∈ d.weights P t, n ≤ reachBytes

theorem fits_all {e : TypeId} : ∀ {l : List (DataW H)}, (∀ n ∈ DataW.weightsAll P e l, n ≤ reachBytes) → ∀ d ∈ l, Fits P e d
  | [], _, d, hd => by cases hd
  | x :: r, h, d, hd => by
    simp only [DataW.weightsAll, List.mem_append] at h
    rcases List.mem_cons.1 hd with rfl | hd
    · exact fun n hn => h n (.inl hn)
    · exact fits_all (fun n hn => h n (.inr hn)) d hd

theorem fits_each {ts : List TypeId} {ds : List (DataW H)} (h : ∀ n ∈ DataW.weightsEach P ts ds, n ≤ reachBytes) {j : Nat} {t : TypeId} {d : DataW H} (ht : ts[j]? = some t) (hd : ds[j]? = some d) : Fits P t d :=
  fun n hn => h n (DataW.weights_mem_each ht hd n hn)

/-- A SLICE, READ: its elements' cells are those of a list, if each element's are those of a thing. -/
theorem read_slice {α : Type} [Inhabited α] {t e : TypeId} {size : Nat} (f : α → List Value) (Q : α → Prop) (ht : P.underlying t = some (.slice e)) (hc : P.cellsOf e = size) (hs : 0 < size)
    (hel : ∀ fuel cs x, Trd enc P w fuel e cs x → Fits P e x.1 → cs.length = size → ∃ a, cs = f a ∧ Q a)
    {fuel : Nat} {cs : List Value} {x : DataW H × List MemPlace} (h : Trd enc P w fuel t cs x) (hf : Fits P t x.1) :
    ∃ (v : Value) (l : List α), cs = [v] ∧ Row w v size l.length (l.flatMap f) ∧ (∀ a ∈ l, Q a) ∧ l.length * P.bytesOf e ≤ reachBytes ∧ (∀ b, v.ownBlock = some b → 0 < l.length → b < w.heap.size) := by
  rcases Deep.open_slice ht h with ⟨rfl, rfl⟩ | ⟨a, len, cap, m, n, D, Pl, rfl, hb, hl, hm, hmm, rfl, hx⟩
  · exact ⟨_, [], rfl, ⟨by simp, Nat.zero_le _, none, 0, rfl, Nat.le_refl _, fun h => by simp at h⟩, by simp, by simp, fun b h => by cases h⟩
  · simp only [if_true] at hmm
    subst hmm
    have hw := hf
    simp only [Fits, DataW.weights, ht, List.mem_cons, List.mem_append] at hw
    have hel' : ∀ i, i < len → ∃ y : α, (∀ j, j < size → w.cell? (a.add (i * size + j)) = (f y)[j]?) ∧ (f y).length = size ∧ Q y := by
      intro i hi
      obtain ⟨cs', h1, h2⟩ := hx i (by omega)
      rw [hc] at h1
      obtain ⟨-, h3, h4⟩ := World.cells?_some h1
      obtain ⟨y, rfl, hq⟩ := hel n cs' (D i, Pl i) h2 (fits_all (fun n hn => hw n (.inr (.inl hn))) (D i) (List.mem_map.2 ⟨i, by simpa using hi, rfl⟩)) h3
      refine ⟨y, fun j hj => ?_, h3, hq⟩
      rw [← Deep.add_add]
      exact h4 j hj
    obtain ⟨F, hF⟩ := Deep.choose_lt hel'
    refine ⟨_, (List.range len).map F, rfl, ?_, ?_, ?_, ?_⟩
    · have hlen : ∀ m, m ≤ len → (((List.range m).map F).flatMap f).length = m * size := by
        intro m hm
        induction m with
        | zero => simp
        | succ m ih =>
          rw [List.range_succ, List.map_append, List.flatMap_append, List.length_append, ih (by omega)]
          simp [(hF m (by omega)).2.1, Nat.add_mul]
      have hget : ∀ m, m ≤ len → ∀ j, j < m * size → w.cell? (a.add j) = (((List.range m).map F).flatMap f)[j]? := by
        intro m hm
        induction m with
        | zero => intro j hj; simp at hj
        | succ m ih =>
          intro j hj
          rw [List.range_succ, List.map_append, List.flatMap_append]
          by_cases hjm : j < m * size
          · rw [List.getElem?_append_left (by rw [hlen m (by omega)]; exact hjm)]
            exact ih (by omega) j hjm
          · rw [List.getElem?_append_right (by rw [hlen m (by omega)]; omega), hlen m (by omega)]
            have := (hF m (by omega)).1 (j - m * size) (by rw [Nat.add_mul] at hj; omega)
            rw [show m * size + (j - m * size) = j by omega] at this
            simpa using this
      refine ⟨by simp only [List.length_map, List.length_range]; exact hlen len (Nat.le_refl _), by simp; omega, some a, m, by simp, by simpa using hl, fun hpos => ?_⟩
      simp only [List.length_map, List.length_range] at hpos ⊢
      have h0 := hget len (Nat.le_refl _) 0 (Nat.mul_pos hpos hs)
      have hsome : (w.cell? (a.add 0)).isSome = true := by
        rw [h0, List.getElem?_eq_getElem (by rw [hlen len (Nat.le_refl _)]; exact Nat.mul_pos hpos hs)]; rfl
      obtain ⟨b, off, spot⟩ := a
      have hspot : spot = none := by
        cases spot with
        | none => rfl
        | some s =>
          unfold World.cell? Addr.add at hsome
          split at hsome <;> simp_all
      subst hspot
      exact ⟨b, off, rfl, fun j hj => by rw [← Addr.add_lit]; exact hget len (Nat.le_refl _) j hj⟩
    · intro y hy
      obtain ⟨i, hi, rfl⟩ := List.mem_map.1 hy
      exact (hF i (by simpa using hi)).2.2
    · have := hw _ (.inl rfl)
      simp only [List.length_map, List.length_range] at this ⊢
      refine Nat.le_trans (Nat.mul_le_mul_right _ ?_) this
      omega
    · intro b hb' hpos
      simp only [List.length_map, List.length_range] at hpos
      simp [Value.ownBlock] at hb'
      subst hb'
      obtain ⟨y, hy1, hy2, -⟩ := hel' 0 hpos
      have := hy1 0 hs
      rw [List.getElem?_eq_getElem (by omega)] at this
      have hlt := World.block_lt_of_cell? w _ this
      have e1 : (a.add (0 * size + 0)).block = a.block := by unfold Addr.add; split <;> rfl
      rwa [e1] at hlt

theorem wf_i64 {n : Int} (h : (Lit.int .i64 n).wf = true) : -9223372036854775808 ≤ n ∧ n ≤ 9223372036854775807 := by
  simpa [Lit.wf, IntKind.min, IntKind.max, IntKind.signed, IntKind.bits] using h
theorem wf_u8 {n : Int} (h : (Lit.int .u8 n).wf = true) : 0 ≤ n ∧ n ≤ 255 := by
  simpa [Lit.wf, IntKind.min, IntKind.max, IntKind.signed, IntKind.bits] using h

/-- an int64 or int element -/
theorem el_i64 {e : TypeId} (he : P.underlying e = some (.int .i64)) : ∀ fuel cs (x : DataW H × List MemPlace), Trd enc P w fuel e cs x → Fits P e x.1 → cs.length = 1 → ∃ n : Int, cs = [.int .i64 n] ∧ (-9223372036854775808 ≤ n ∧ n ≤ 9223372036854775807) := by
  intro fuel cs x h _ _
  obtain ⟨n, rfl, _, hw⟩ := DataW.trod_int he h
  exact ⟨n, rfl, wf_i64 hw⟩

/-- what a law owes at its end: true, and nothing of old memory has turned -/
theorem law_post {f : Func} {s : ChangeSpec} {W W' : World} {args : Array Value} {ds gs : List (DataW H)} {before : List MemPlace} {tb : TypeId}
    (hl : laidOutB P = true) (hr : ∀ t ∈ f.params.toList, P.readableRec t = true ∧ t < P.types.size) (hrt : f.resultTypes = #[tb]) (htb : P.underlying tb = some .bool) (hsv : s.vars = [])
    (hW : DataW.Whole enc P f.params.toList s.vars false W args.toList ds gs before) (hfn : (s.fn H (ds ++ gs)) = { results := [.lit (.bool true)], args := ds }) (hb : Below W.heap.size W W') :
    s.post enc P f false true false false W args (.bool true) W' := by
  have hlt := hW.lt
  have hW0 := hW
  obtain ⟨p, q, hA, hV, rfl, hfz, hnd⟩ := hW
  rw [hsv] at hV
  obtain ⟨rfl, rfl⟩ := trodVars_none hV
  have key : ∀ (ts : List TypeId) (vs : List Value) (ds : List (DataW H)) (p : List MemPlace), (∀ t ∈ ts, P.readableRec t = true ∧ t < P.types.size) → (∀ x ∈ p, x.block < W.heap.size) →
      DataW.TrodAll enc P W 0 (fun _ => true) true ts vs ds p → DataW.TrodAll enc P W' 0 (fun b => decide (b < W.heap.size)) true ts vs ds p := by
    intro ts
    induction ts with
    | nil => intro vs ds p _ _ h; cases vs <;> cases ds <;> simp_all [DataW.TrodAll]
    | cons t ts ih =>
      intro vs ds p h1 h2 h
      cases vs with
      | nil => simp [DataW.TrodAll] at h
      | cons v vs =>
        cases ds with
        | nil => simp [DataW.TrodAll] at h
        | cons d ds =>
          obtain ⟨p1, p2, h3, h4, rfl⟩ := h
          have ht := h1 t (by simp)
          exact ⟨p1, p2, Below.trod hl ht.1 ht.2 h3 hb (fun x hx => h2 x (by simp [hx])), ih vs ds p2 (fun t ht => h1 t (by simp [ht])) (fun x hx => h2 x (by simp [hx])) h4, rfl⟩
  refine ⟨ds, [], _, [], p, [], hW0, ?_, ?_, ?_, hb.frame _, fun h => by cases h⟩
  · rw [hfn, hrt]
    exact trodAll_mk1 (shut_bool htb true)
  · rw [hfn]
    exact key _ _ _ _ hr (fun x hx => hlt x (by simp [hx])) hA
  · rw [hfn, hsv]
    rfl
end
end Go.Proofs.Ytfeajpghabjaaaa
