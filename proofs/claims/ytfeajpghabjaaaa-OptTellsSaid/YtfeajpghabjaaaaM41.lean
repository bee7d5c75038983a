/- yieldref6.Same of two modules that are alike, walked. -/
import Derived.Test.YtfeajpghabjaaaaM40
import Derived.ProofKit
import Derived.OpenShut
import Derived.JoinedCond
import Derived.SizedLaws
import Derived.Deep.Slices
import Derived.Carry
import Derived.Test.YtfeajpghabjaaaaRows
import Derived.Deep.Strs
import Derived.ChangeSame
import Derived.Lib.SmallJoins
namespace Go.Proofs.Ytfeajpghabjaaaa.Vw
open Go.RowKit Go.Proofs.Ytfeajpghabjaaaa.Img
set_option linter.unusedVariables false
set_option linter.unusedSimpArgs false
theorem run_insIn (x : ImgM.Ins) (w : World) : (Op.equalIn 10000 57 (.agg (insC x).toArray) (.agg (insC x).toArray)).run Try.prog w = .ok true w := by
  have u3 := Try.underlying3
  have a3 := Try.isAgg3
  have z3 := Try.sizeOf3
  have u4 := Try.underlying2
  have a4 := Try.isAgg2
  have hS : Try.prog.underlying 57 = some (.struct (Try.prog.fieldsOf 57)) := by kernel_rfl
  have hp : Try.prog.stoodInHeld 57 = false := by kernel_rfl
  obtain ⟨a, b, c⟩ := x
  simp only [insC]
  rw [show (10000 : Nat) = 9999 + 1 from rfl, run_equalIn_agg w 9999 57 _ _ hS hp]
  simp only [Program.fieldsOf, Try.underlying57]
  go_simp
theorem run_boxIn (x : Int × Int) (w : World) : (Op.equalIn 10000 50 (.agg (boxC x).toArray) (.agg (boxC x).toArray)).run Try.prog w = .ok true w := by
  have u3 := Try.underlying3
  have a3 := Try.isAgg3
  have z3 := Try.sizeOf3
  have hS : Try.prog.underlying 50 = some (.struct (Try.prog.fieldsOf 50)) := by kernel_rfl
  have hp : Try.prog.stoodInHeld 50 = false := by kernel_rfl
  obtain ⟨a, b⟩ := x
  simp only [boxC]
  rw [show (10000 : Nat) = 9999 + 1 from rfl, run_equalIn_agg w 9999 50 _ _ hS hp]
  simp only [Program.fieldsOf, Try.underlying50]
  go_simp
section
variable {N : Nat} {E : Env} {L : List Chunk} {dst : Option Tmp} {ty : TypeId} {pos : String} {aft : Array Edge} {g : Option (Nat × Bool)}
theorem Still.neqIns {x y : Operand} {a : ImgM.Ins} {v v' : Value} (hx : ev E x = some v) (hy : ev E y = some v') (h1 : v = .agg (insC a).toArray) (h2 : v' = .agg (insC a).toArray) : Still Try.prog N ⟨dst, .binOp .neq 57 x y 57, ty, pos, aft, g⟩ E L (.bool false) := fun A w hs _ => by
  subst h1 h2
  have hg := run_eqGuard_agg (P := Try.prog) w .neq 57 x y (insC a).toArray (insC a).toArray (by kernel_rfl)
  simp [execOp, hs.ev hx, hs.ev hy, hg, run_neq_struct, run_insIn]
theorem Still.neqBox {x y : Operand} {a : Int × Int} {v v' : Value} (hx : ev E x = some v) (hy : ev E y = some v') (h1 : v = .agg (boxC a).toArray) (h2 : v' = .agg (boxC a).toArray) : Still Try.prog N ⟨dst, .binOp .neq 50 x y 50, ty, pos, aft, g⟩ E L (.bool false) := fun A w hs _ => by
  subst h1 h2
  have hg := run_eqGuard_agg (P := Try.prog) w .neq 50 x y (boxC a).toArray (boxC a).toArray (by kernel_rfl)
  simp [execOp, hs.ev hx, hs.ev hy, hg, run_neq_struct, run_boxIn]
end
attribute [local irreducible] Run Cod End OpT Still RunQ RunS RunT Fn PutOk
set_option maxRecDepth 100000 in
theorem sameInts_is (ao bo : Option Addr) (n ac bc : Nat) (l : List Int) (hn : l.length = n) (hm : n ≤ 1000000000) : Fn Try.prog 21 #[.slice ao n ac, .slice bo n bc] [rd ao n ac i64c l, rd bo n bc i64c l] [] (σ := Unit) (fun _ => True) (fun _ => .bool true) (fun _ => []) := by
  refine Fn.enter (args := [.slice ao n ac, .slice bo n bc]) Try.func21 rfl _ Try.ntmps21 rfl (by simp [rd_excl, md_excl]) (fun w S => ?_)
  (try conv => rhs; simp only [List.cons_append, List.nil_append])
  repeat (first | refine go (k := ?_) | (refine goB (k := ?_); intro b) | (refine goA (k := ?_); intro ao cap))
  apply Cod.loop (σ := Nat) (fun k => k ≤ n) (fun k => [(0, .slice ao n ac), (1, .slice bo n bc), (12, .int .i64 (n : Int)), (13, .int .i64 (k : Int))]) (fun k => [old w S, rd ao n ac i64c l, rd bo n bc i64c l]) (fun k => n - k) 0
  rotate_left
  exact sb
  exact tks
  intro k hk K1 hK1
  (try conv => rhs; simp only [List.cons_append, List.nil_append])
  rotate_left
  · exact Nat.zero_le _
  by_cases hkn : k < n
  · repeat (first | refine go (k := ?_) | (refine goB (k := ?_); intro b) | (refine goA (k := ?_); intro ao cap))
    refine End.round0_ hK1 (k + 1) ?_ ?_
    · omega
    · omega
  · repeat (first | refine go (k := ?_) | (refine goB (k := ?_); intro b) | (refine goA (k := ?_); intro ao cap))
    (refine End.done1_ (()) (he := by (first | exact rfl | (refine congrArg (Value.int _) ?_; omega) | (refine congrArg (Value.int _) ?_; dsimp only; omega))) (hp := ?_))
    trivial

theorem md_unit {w : World} {L L' : List Chunk} {m : ML} {k : Nat} (hk : k < m.us.length) {u : ImgM.Unt} (hu : (m.us.getD k default).u = u) (t : Take (md m) L L') (h : Mem w L) : Mem w (rd (m.us.getD k default).lo u.locals.length (m.us.getD k default).lc i64c u.locals :: rd (m.us.getD k default).co u.code.length (m.us.getD k default).cc insC u.code :: L) := by
  subst hu
  have h1 := h.dup t (c' := rd (m.us.getD k default).co (m.us.getD k default).u.code.length (m.us.getD k default).cc insC (m.us.getD k default).u.code) rd_excl (rd_holds.2 ⟨(md_holds.1 (h.has t)).code _ (ML.uat_mem hk), rfl⟩) (fun b hb => md_foot.2 (.inr (.inr ⟨_, ML.uat_mem hk, .inr (rd_foot.1 hb)⟩))) md_excl
  exact h1.dup (.tail t) (c' := rd (m.us.getD k default).lo (m.us.getD k default).u.locals.length (m.us.getD k default).lc i64c (m.us.getD k default).u.locals) rd_excl (rd_holds.2 ⟨(md_holds.1 (h.has t)).locals _ (ML.uat_mem hk), rfl⟩) (fun b hb => md_foot.2 (.inr (.inr ⟨_, ML.uat_mem hk, .inl (rd_foot.1 hb)⟩))) md_excl
abbrev uc6 (x : UC) (u : ImgM.Unt) : List Value := [.int .i64 u.kind, .int .i64 u.params, .slice x.lo u.locals.length x.lc, .int .i64 u.result, .int .i64 u.takes, .slice x.co u.code.length x.cc]
set_option maxRecDepth 100000 in
set_option maxHeartbeats 2000000 in
theorem same_is (m1 m2 : ML) (h : m1.mdl = m2.mdl) (hwa : m1.bx.length ≤ 1000 ∧ m1.us.length ≤ 1000 ∧ ∀ k, k < m1.us.length → (m1.us.getD k default).u.locals.length ≤ 1000000 ∧ (m1.us.getD k default).u.code.length ≤ 1000000) : Fn Try.prog 10 #[m1.val, m2.val] [md m1, md m2] [] (σ := Unit) (fun _ => True) (fun _ => .bool true) (fun _ => []) := by
  obtain ⟨h1, h2, h3⟩ := hwa
  have e1 : m2.bx = m1.bx := (congrArg ImgM.Mdl.boxes h).symm
  have e2 : m1.us.map (·.u) = m2.us.map (·.u) := congrArg ImgM.Mdl.units h
  have e3 : m2.us.length = m1.us.length := by have := congrArg List.length e2; simpa using this.symm
  have e4 : ∀ k, (m2.us.getD k default).u = (m1.us.getD k default).u := fun k => by rw [← getD_u, ← getD_u, e2]
  clear h e2
  refine Fn.enter (args := [m1.val, m2.val]) Try.func10 rfl _ Try.ntmps10 rfl (by simp [rd_excl, md_excl]) (fun w S => ?_)
  (try conv => rhs; simp only [List.cons_append, List.nil_append])
  refine Cod.imp (fun w hm => hm.dup (c := md m2) (c' := rd m2.bo m2.bx.length m2.bc boxC m2.bx) tk rd_excl (rd_holds.2 ⟨(md_holds.1 (hm.has tk)).boxes, rfl⟩) (fun b hb => md_foot.2 (.inl (rd_foot.1 hb))) md_excl) ?_
  have hvb : m2.val = .agg #[.slice m2.bo m1.bx.length m2.bc, .slice m2.uo m2.us.length m2.uc] := by show Value.agg _ = _; rw [e1]
  rw [hvb, e1]
  repeat (first | refine go (k := ?_) | (refine goB (k := ?_); intro b) | (refine goA (k := ?_); intro ao cap))
  obtain ⟨b2, rfl⟩ : ∃ x, x = b := ⟨_, rfl⟩
  obtain ⟨b1, rfl⟩ : ∃ x, x = b := ⟨_, rfl⟩
  apply Cod.loop (σ := Nat) (fun k => k ≤ m1.bx.length) (fun k => [(2, ptr b1), (3, ptr b2), (28, .int .i64 (m1.bx.length : Int)), (29, .int .i64 (k : Int))]) (fun k => [old w S, md m1, md m2, blk b1 [.slice m1.bo m1.bx.length m1.bc, .slice m1.uo m1.us.length m1.uc] 25, blk b2 [.slice m2.bo m1.bx.length m2.bc, .slice m2.uo m2.us.length m2.uc] 25, rd m2.bo m1.bx.length m2.bc boxC m1.bx]) (fun k => m1.bx.length - k) 0
  rotate_left
  exact sb
  exact tks
  intro k hk K1 hK1
  (try conv => rhs; simp only [List.cons_append, List.nil_append])
  rotate_left
  · exact Nat.zero_le _
  by_cases hkn : k < m1.bx.length
  · repeat (first | refine go (k := ?_) | (refine goB (k := ?_); intro b) | (refine goA (k := ?_); intro ao cap))
    refine RunQ.val_ (h := by exact Still.neqBox (a := m1.bx.getD k default) rfl rfl rfl rfl) (k := ?_)
    repeat (first | refine go (k := ?_) | (refine goB (k := ?_); intro b) | (refine goA (k := ?_); intro ao cap))
    refine End.round0_ hK1 (k + 1) ?_ ?_
    · omega
    · omega
  · clear hK1
    repeat (first | refine go (k := ?_) | (refine goB (k := ?_); intro b) | (refine goA (k := ?_); intro ao cap))
    refine Cod.only ((fun k => [old w S, md m1, md m2, blk b1 [.slice m1.bo m1.bx.length m1.bc, .slice m1.uo m1.us.length m1.uc] 25, blk b2 [.slice m2.bo m1.bx.length m2.bc, .slice m2.uo m2.us.length m2.uc] 25]) 0) (by (repeat (first | exact Takes.nil | exact Take.head | apply Take.tail | apply Takes.cons))) ?_
    apply Cod.loop (σ := Nat) (fun k => k ≤ m1.us.length) (fun k => [(2, ptr b1), (3, ptr b2), (46, .int .i64 (m1.us.length : Int)), (47, .int .i64 (k : Int))]) (fun k => [old w S, md m1, md m2, blk b1 [.slice m1.bo m1.bx.length m1.bc, .slice m1.uo m1.us.length m1.uc] 25, blk b2 [.slice m2.bo m1.bx.length m2.bc, .slice m2.uo m2.us.length m2.uc] 25]) (fun k => m1.us.length - k) 0
    rotate_left
    exact sb
    exact tks
    intro q hq K1 hK1
    (try conv => rhs; simp only [List.cons_append, List.nil_append])
    rotate_left
    · exact Nat.zero_le _
    by_cases hqn : q < m1.us.length
    · have hu := e4 q
      obtain ⟨h31, h32⟩ := h3 q hqn
      refine Cod.imp (fun w hm => md_unit (m := m2) (k := q) (by omega) hu tk hm) ?_
      generalize hU : (m1.us.getD q default).u = u at *
      refine Cod.imp (fun w hm => md_unit (m := m1) (k := q) hqn hU tk hm) ?_
      repeat (first | refine go (k := ?_) | (refine goB (k := ?_); intro b) | (refine goA (k := ?_); intro ao cap))
      refine cutN0 (σ := Nat × Nat) (fun _ => True) (fun s => [(2, ptr b1), (3, ptr b2), (46, .int .i64 (m1.us.length : Int)), (47, .int .i64 (q : Int)), (7, ptr s.1), (8, ptr s.2)]) (fun s => [old w S, md m1, md m2, blk b1 [.slice m1.bo m1.bx.length m1.bc, .slice m1.uo m1.us.length m1.uc] 25, blk b2 [.slice m2.bo m1.bx.length m2.bc, .slice m2.uo m2.us.length m2.uc] 25, rd (m1.us.getD q default).lo u.locals.length (m1.us.getD q default).lc i64c u.locals, rd (m1.us.getD q default).co u.code.length (m1.us.getD q default).cc insC u.code, rd (m2.us.getD q default).lo u.locals.length (m2.us.getD q default).lc i64c u.locals, rd (m2.us.getD q default).co u.code.length (m2.us.getD q default).cc insC u.code, blk s.1 (uc6 (m1.us.getD q default) u) 38, blk s.2 (uc6 (m2.us.getD q default) u) 38]) ?_ ?_
      · rintro ⟨xb, yb⟩ -
        dsimp only
        repeat (first | refine go (k := ?_) | (refine goB (k := ?_); intro b) | (refine goA (k := ?_); intro ao cap))
        (first | (apply Run.op; exact rfl) | refine Run.yes_ (h := ?_)); refine OpT.call0_ (spec := sameInts_is (m1.us.getD q default).lo (m2.us.getD q default).lo u.locals.length (m1.us.getD q default).lc (m2.us.getD q default).lc u.locals rfl (by omega)) (k := ?_); intro s hs; (try conv => rhs; simp only [List.cons_append, List.nil_append])
        repeat (first | refine go (k := ?_) | (refine goB (k := ?_); intro b) | (refine goA (k := ?_); intro ao cap))
        refine Cod.only ((fun k => [old w S, md m1, md m2, blk b1 [.slice m1.bo m1.bx.length m1.bc, .slice m1.uo m1.us.length m1.uc] 25, blk b2 [.slice m2.bo m1.bx.length m2.bc, .slice m2.uo m2.us.length m2.uc] 25, rd (m1.us.getD q default).lo u.locals.length (m1.us.getD q default).lc i64c u.locals, rd (m1.us.getD q default).co u.code.length (m1.us.getD q default).cc insC u.code, rd (m2.us.getD q default).lo u.locals.length (m2.us.getD q default).lc i64c u.locals, rd (m2.us.getD q default).co u.code.length (m2.us.getD q default).cc insC u.code, blk xb (uc6 (m1.us.getD q default) u) 38, blk yb (uc6 (m2.us.getD q default) u) 38]) 0) (by (repeat (first | exact Takes.nil | exact Take.head | apply Take.tail | apply Takes.cons))) ?_
        apply Cod.loop (σ := Nat) (fun k => k ≤ u.code.length) (fun k => [(2, ptr b1), (3, ptr b2), (46, .int .i64 (m1.us.length : Int)), (47, .int .i64 (q : Int)), (7, ptr xb), (8, ptr yb), (105, .int .i64 (u.code.length : Int)), (106, .int .i64 (k : Int))]) (fun k => [old w S, md m1, md m2, blk b1 [.slice m1.bo m1.bx.length m1.bc, .slice m1.uo m1.us.length m1.uc] 25, blk b2 [.slice m2.bo m1.bx.length m2.bc, .slice m2.uo m2.us.length m2.uc] 25, rd (m1.us.getD q default).lo u.locals.length (m1.us.getD q default).lc i64c u.locals, rd (m1.us.getD q default).co u.code.length (m1.us.getD q default).cc insC u.code, rd (m2.us.getD q default).lo u.locals.length (m2.us.getD q default).lc i64c u.locals, rd (m2.us.getD q default).co u.code.length (m2.us.getD q default).cc insC u.code, blk xb (uc6 (m1.us.getD q default) u) 38, blk yb (uc6 (m2.us.getD q default) u) 38]) (fun k => u.code.length - k) 0
        rotate_left
        exact sb
        exact tks
        intro k hk K2 hK2
        (try conv => rhs; simp only [List.cons_append, List.nil_append])
        rotate_left
        · exact Nat.zero_le _
        by_cases hkn : k < u.code.length
        · repeat (first | refine go (k := ?_) | (refine goB (k := ?_); intro b) | (refine goA (k := ?_); intro ao cap))
          refine RunQ.val_ (h := by exact Still.neqIns (a := u.code.getD k default) rfl rfl rfl rfl) (k := ?_)
          repeat (first | refine go (k := ?_) | (refine goB (k := ?_); intro b) | (refine goA (k := ?_); intro ao cap))
          refine End.round0_ hK2 (k + 1) ?_ ?_
          · omega
          · omega
        · repeat (first | refine go (k := ?_) | (refine goB (k := ?_); intro b) | (refine goA (k := ?_); intro ao cap))
          refine End.round0_ hK1 (q + 1) ?_ ?_
          · omega
          · omega
      · intro K hK
        apply Cod.draw 13 ([old w S, md m1, md m2, blk b1 [.slice m1.bo m1.bx.length m1.bc, .slice m1.uo m1.us.length m1.uc] 25, blk b2 [.slice m2.bo m1.bx.length m2.bc, .slice m2.uo m2.us.length m2.uc] 25]) (by kernel_rfl) 14 rfl
        refine RunT.takeR_ 0 (h := ?_)
        refine RunT.takeR_ 1 (h := ?_)
        refine RunT.takeR_ 2 (h := ?_)
        refine RunT.takeR_ 3 (h := ?_)
        refine RunT.takeR_ 4 (h := ?_)
        refine RunT.takeR_ 5 (h := ?_)
        refine RunT.takeR_ 6 (h := ?_)
        refine RunT.takeR_ 7 (h := ?_)
        refine RunT.takeR_ 8 (h := ?_)
        refine RunT.takeR_ 9 (h := ?_)
        simp only [hu, hU]
        refine RunT.two_ 10 11 (h := ?_) (h' := ?_)
        · refine OpT.alloc_ (k := ?_)
          intro xb
          refine And.intro gud ?_
          refine RunT.one_ 11 (h := ?_)
          refine OpT.alloc_ (k := ?_)
          intro yb
          refine And.intro gud ?_
          (refine RunT.one_ 12 (h := ?_); (first | refine OpT.val_ (k := ?_) | (refine OpT.alloc_ (k := ?_); intro b) | (refine OpT.box_ (k := ?_); intro b) | refine OpT.store_ (k := ?_) | (refine OpT.buildSlice_ (k := ?_); intro b) | (refine OpT.buildSlice0_ (k := ?_); intro b) | (refine OpT.append1_ (k := ?_); intro ao cap) | (refine OpT.cutA0_ (k := ?_); intro ao cap) | (refine OpT.cutR0_ (k := ?_); intro ao cap) | (refine OpT.cutA1_ (k := ?_); intro ao cap) | (refine OpT.cutA_ (k := ?_); intro ao cap) | (refine OpT.cutR_ (k := ?_); intro ao cap)); refine And.intro gud ?_)
          (refine RunT.one_ 13 (h := ?_); (first | refine OpT.val_ (k := ?_) | (refine OpT.alloc_ (k := ?_); intro b) | (refine OpT.box_ (k := ?_); intro b) | refine OpT.store_ (k := ?_) | (refine OpT.buildSlice_ (k := ?_); intro b) | (refine OpT.buildSlice0_ (k := ?_); intro b) | (refine OpT.append1_ (k := ?_); intro ao cap) | (refine OpT.cutA0_ (k := ?_); intro ao cap) | (refine OpT.cutR0_ (k := ?_); intro ao cap) | (refine OpT.cutA1_ (k := ?_); intro ao cap) | (refine OpT.cutA_ (k := ?_); intro ao cap) | (refine OpT.cutR_ (k := ?_); intro ao cap)); refine And.intro gud ?_)
          (apply RunT.done; kernel_rfl)
          repeat (first | refine go (k := ?_) | (refine goB (k := ?_); intro b) | (refine goA (k := ?_); intro ao cap))
          refine End.some_ hK (xb, yb) ?_
          trivial
        · refine OpT.alloc_ (k := ?_)
          intro yb
          refine And.intro gud ?_
          refine RunT.one_ 10 (h := ?_)
          refine OpT.alloc_ (k := ?_)
          intro xb
          refine And.intro gud ?_
          (refine RunT.one_ 12 (h := ?_); (first | refine OpT.val_ (k := ?_) | (refine OpT.alloc_ (k := ?_); intro b) | (refine OpT.box_ (k := ?_); intro b) | refine OpT.store_ (k := ?_) | (refine OpT.buildSlice_ (k := ?_); intro b) | (refine OpT.buildSlice0_ (k := ?_); intro b) | (refine OpT.append1_ (k := ?_); intro ao cap) | (refine OpT.cutA0_ (k := ?_); intro ao cap) | (refine OpT.cutR0_ (k := ?_); intro ao cap) | (refine OpT.cutA1_ (k := ?_); intro ao cap) | (refine OpT.cutA_ (k := ?_); intro ao cap) | (refine OpT.cutR_ (k := ?_); intro ao cap)); refine And.intro gud ?_)
          (refine RunT.one_ 13 (h := ?_); (first | refine OpT.val_ (k := ?_) | (refine OpT.alloc_ (k := ?_); intro b) | (refine OpT.box_ (k := ?_); intro b) | refine OpT.store_ (k := ?_) | (refine OpT.buildSlice_ (k := ?_); intro b) | (refine OpT.buildSlice0_ (k := ?_); intro b) | (refine OpT.append1_ (k := ?_); intro ao cap) | (refine OpT.cutA0_ (k := ?_); intro ao cap) | (refine OpT.cutR0_ (k := ?_); intro ao cap) | (refine OpT.cutA1_ (k := ?_); intro ao cap) | (refine OpT.cutA_ (k := ?_); intro ao cap) | (refine OpT.cutR_ (k := ?_); intro ao cap)); refine And.intro gud ?_)
          (apply RunT.done; kernel_rfl)
          repeat (first | refine go (k := ?_) | (refine goB (k := ?_); intro b) | (refine goA (k := ?_); intro ao cap))
          refine End.some_ hK (xb, yb) ?_
          trivial
    · repeat (first | refine go (k := ?_) | (refine goB (k := ?_); intro b) | (refine goA (k := ?_); intro ao cap))
      (refine End.done1_ (()) (he := by (first | exact rfl | (refine congrArg (Value.int _) ?_; omega) | (refine congrArg (Value.int _) ?_; dsimp only; omega))) (hp := ?_))
      trivial
end Go.Proofs.Ytfeajpghabjaaaa.Vw

/- yieldlaw14.OptTells, walked. -/
namespace Go.Proofs.Ytfeajpghabjaaaa.Vw
open Go.RowKit Go.Proofs.Ytfeajpghabjaaaa.Img
set_option linter.unusedVariables false
set_option linter.unusedSimpArgs false
theorem none_md {w : World} {L F : List Chunk} (t : Takes [arr none 0 0 38 ucell [], bag (innerC [])] L F) (h : Mem w L) : Mem w (md ⟨[], none, 0, [], none, 0⟩ :: F) := by
  have ht := h.takes t
  have a1 := arr_holds.1 (ht.all _ (.head _))
  refine Mem.toRead t h (md_holds.2 ⟨⟨by simp, by simp, none, 0, rfl, Nat.le_refl _, fun h => by simp at h⟩, a1.1.row Enc.pos, (fun x hx => by cases hx), (fun x hx => by cases hx)⟩) md_excl (fun b hb => ?_)
  rw [md_foot] at hb
  rcases hb with ⟨h, h0⟩ | ⟨h, h0⟩ | ⟨x, hx, h⟩
  · simp at h0
  · simp at h0
  · cases hx
attribute [local irreducible] Run Cod End OpT Still RunQ RunS RunT Fn PutOk
attribute [local irreducible] Ver.verify Opt.mdl Opt.code
set_option maxRecDepth 100000 in
set_option maxHeartbeats 2000000 in
theorem tells14_is (m : ML) (hwf : m.Wf) : Fn Try.prog 3 #[m.val] [md m] [] (σ := Unit) (fun _ => True) (fun _ => .bool true) (fun _ => []) := by
  refine Fn.enter (args := [m.val]) Try.func3 rfl _ Try.ntmps3 rfl (by simp [rd_excl, md_excl]) (fun w S => ?_)
  (try conv => rhs; simp only [List.cons_append, List.nil_append])
  apply Cod.fact m.Small (fun w hm => (md_holds.1 (hm.has tk)).small)
  intro hsm
  repeat (first | refine go (k := ?_) | (refine goB (k := ?_); intro b) | (refine goA (k := ?_); intro ao cap))
  (apply Run.op; exact rfl; refine OpT.call0_ (spec := module_is m hwf) (k := ?_); intro s hs; (try conv => rhs; simp only [List.cons_append, List.nil_append]))
  obtain ⟨n, rfl⟩ : ∃ x, x = s := ⟨_, rfl⟩
  have hn := hs
  clear hs
  apply Run.imp (fun w hm => own_md n (by (repeat (first | exact Takes.nil | exact Take.head | apply Take.tail | apply Takes.cons))) hm)
  repeat (first | refine go (k := ?_) | (refine goB (k := ?_); intro b) | (refine goA (k := ?_); intro ao cap))
  (apply Run.op; exact rfl; refine OpT.call0_ (spec := module14_is m hwf) (k := ?_); intro s hs; (try conv => rhs; simp only [List.cons_append, List.nil_append]))
  obtain ⟨o, rfl⟩ : ∃ x, x = s := ⟨_, rfl⟩
  have ho := hs
  clear hs
  unfold ModOk at hn
  unfold ModOk14 at ho
  by_cases hv : Ver.verify m.mdl = .ok
  · rw [if_pos hv] at hn ho
    have hF := formed (Ver.verify_iff.1 hv).form
    have hu30 := hF.units
    have hb30 := hF.boxes
    have e1 : n.bx = m.bx := by
      have := congrArg ImgM.Mdl.boxes hn
      unfold Opt.mdl at this
      exact this
    have e2 : n.us.map (·.u) = m.us.map (fun x => Opt.unit x.u) := by
      have := congrArg ImgM.Mdl.units hn
      unfold Opt.mdl at this
      simp only [ML.mdl, List.map_map] at this
      exact this
    have e3 : n.us.length = m.us.length := by simpa using congrArg List.length e2
    have hok := opt_ok hwf hv
    rw [← hn] at hok
    have hFn := formed (Ver.verify_iff.1 hok).form
    have hlens : ∀ k, k < n.us.length → (n.us.getD k default).u.locals.length ≤ 1000000 ∧ (n.us.getD k default).u.code.length ≤ 1000000 := fun k hk => by
      obtain ⟨q1, q2, q3, q4, q5, q6⟩ := head_ok (hFn.head k hk)
      exact ⟨by omega, by omega⟩
    have hsame : n.mdl = o.mdl := by rw [hn, ho.mdl]
    apply Run.imp (fun w hm => share_md ho (by (repeat (first | exact Takes.nil | exact Take.head | apply Take.tail | apply Takes.cons))) hm)
    repeat (first | refine go (k := ?_) | (refine goB (k := ?_); intro b) | (refine goA (k := ?_); intro ao cap))
    (apply Run.op; exact rfl; refine OpT.val_ (h := by exact Still.eqlW (a := Ver.verify m.mdl) (b := Ver.verify m.mdl) (r := true) rfl rfl rfl rfl (decide_eq_true rfl)) (k := ?_))
    repeat (first | refine go (k := ?_) | (refine goB (k := ?_); intro b) | (refine goA (k := ?_); intro ao cap))
    (first | (apply Run.op; exact rfl) | refine Run.yes_ (h := ?_)); refine OpT.call0_ (spec := same_is n o hsame ⟨by rw [e1]; omega, by omega, hlens⟩) (k := ?_); intro s hs; (try conv => rhs; simp only [List.cons_append, List.nil_append])
    repeat (first | refine go (k := ?_) | (refine goB (k := ?_); intro b) | (refine goA (k := ?_); intro ao cap))
    (refine End.done1_ (()) (he := by (first | exact rfl | (refine congrArg (Value.int _) ?_; omega) | (refine congrArg (Value.int _) ?_; dsimp only; omega))) (hp := ?_))
    trivial
  · rw [if_neg hv] at hn ho
    obtain ⟨h1, h2⟩ := hn
    subst ho
    have hsame : n.mdl = (⟨[], none, 0, [], none, 0⟩ : ML).mdl := by simp only [ML.mdl, h1, h2]
    have hl1 : n.bx.length = 0 := by rw [h1]; rfl
    have hl2 : n.us.length = 0 := by rw [h2]; rfl
    apply Run.imp (fun w hm => none_md (by (repeat (first | exact Takes.nil | exact Take.head | apply Take.tail | apply Takes.cons))) hm)
    repeat (first | refine go (k := ?_) | (refine goB (k := ?_); intro b) | (refine goA (k := ?_); intro ao cap))
    (apply Run.op; exact rfl; refine OpT.val_ (h := by exact Still.eqlW (a := Ver.verify m.mdl) (b := Ver.verify m.mdl) (r := true) rfl rfl rfl rfl (decide_eq_true rfl)) (k := ?_))
    repeat (first | refine go (k := ?_) | (refine goB (k := ?_); intro b) | (refine goA (k := ?_); intro ao cap))
    (first | (apply Run.op; exact rfl) | refine Run.yes_ (h := ?_)); refine OpT.call0_ (spec := same_is n ⟨[], none, 0, [], none, 0⟩ hsame ⟨by omega, by omega, fun k hk => by omega⟩) (k := ?_); intro s hs; (try conv => rhs; simp only [List.cons_append, List.nil_append])
    repeat (first | refine go (k := ?_) | (refine goB (k := ?_); intro b) | (refine goA (k := ?_); intro ao cap))
    (refine End.done1_ (()) (he := by (first | exact rfl | (refine congrArg (Value.int _) ?_; omega) | (refine congrArg (Value.int _) ?_; dsimp only; omega))) (hp := ?_))
    trivial
end Go.Proofs.Ytfeajpghabjaaaa.Vw

/- How the arguments' data are read: a slice's cells out of its reading ('read_slice'); what a law owes at its end ('law_post'). Of whatever program. -/
namespace Go.Proofs.Ytfeajpghabjaaaa
open Go.RowKit Go.ChangeShapes Go.WideShapes Go.ChangeAt
set_option linter.unusedVariables false

section
variable {H : Type} {enc : TypeId × Value → H} {P : Program} {w : World}

abbrev Trd (enc : TypeId × Value → H) (P : Program) (w : World) (fuel : Nat) (t : TypeId) (cs : List Value) (x : DataW H × List MemPlace) : Prop :=
  DataW.trod enc P w 0 (fun _ => true) true fuel t cs = some x

/-- every weight of a datum is within the reach -/
def Fits (P : Program) (t : TypeId) (d : DataW H) : Prop := ∀ n ∈ d.weights P t, n ≤ reachBytes

theorem fits_all {e : TypeId} : ∀ {l : List (DataW H)}, (∀ n ∈ DataW.weightsAll P e l, n ≤ reachBytes) → ∀ d ∈ l, Fits P e d
  | [], _, d, hd => by cases hd
  | x :: r, h, d, hd => by
    simp only [DataW.weightsAll, List.mem_append] at h
    rcases List.mem_cons.1 hd with rfl | hd
    · exact fun n hn => h n (.inl hn)
    · exact fits_all (fun n hn => h n (.inr hn)) d hd

theorem fits_each {ts : List TypeId} {ds : List (DataW H)} (h : ∀ n ∈ DataW.weightsEach P ts ds, n ≤ reachBytes) {j : Nat} {t : TypeId} {d : DataW H} (ht : ts[j]? = some t) (hd : ds[j]? = some d) : Fits P t d :=
  fun n hn => h n (DataW.weights_mem_each ht hd n hn)

/-- A SLICE, READ: its elements' cells are those of a list, if each element's are those of a thing. -/
theorem read_slice {α : Type} [Inhabited α] {t e : TypeId} {size : Nat} (f : α → List Value) (Q : α → Prop) (ht : P.underlying t = some (.slice e)) (hc : P.cellsOf e = size) (hs : 0 < size)
    (hel : ∀ fuel cs x, Trd enc P w fuel e cs x → Fits P e x.1 → cs.length = size → ∃ a, cs = f a ∧ Q a)
    {fuel : Nat} {cs : List Value} {x : DataW H × List MemPlace} (h : Trd enc P w fuel t cs x) (hf : Fits P t x.1) :
    ∃ (v : Value) (l : List α), cs = [v] ∧ Row w v size l.length (l.flatMap f) ∧ (∀ a ∈ l, Q a) ∧ l.length * P.bytesOf e ≤ reachBytes ∧ (∀ b, v.ownBlock = some b → 0 < l.length → b < w.heap.size) := by
  rcases Deep.open_slice ht h with ⟨rfl, rfl⟩ | ⟨a, len, cap, m, n, D, Pl, rfl, hb, hl, hm, hmm, rfl, hx⟩
  · exact ⟨_, [], rfl, ⟨by simp, Nat.zero_le _, none, 0, rfl, Nat.le_refl _, fun h => by simp at h⟩, by simp, by simp, fun b h => by cases h⟩
  · simp only [if_true] at hmm
    subst hmm
    have hw := hf
    simp only [Fits, DataW.weights, ht, List.mem_cons, List.mem_append] at hw
    have hel' : ∀ i, i < len → ∃ y : α, (∀ j, j < size → w.cell? (a.add (i * size + j)) = (f y)[j]?) ∧ (f y).length = size ∧ Q y := by
      intro i hi
      obtain ⟨cs', h1, h2⟩ := hx i (by omega)
      rw [hc] at h1
      obtain ⟨-, h3, h4⟩ := World.cells?_some h1
      obtain ⟨y, rfl, hq⟩ := hel n cs' (D i, Pl i) h2 (fits_all (fun n hn => hw n (.inr (.inl hn))) (D i) (List.mem_map.2 ⟨i, by simpa using hi, rfl⟩)) h3
      refine ⟨y, fun j hj => ?_, h3, hq⟩
      rw [← Deep.add_add]
      exact h4 j hj
    obtain ⟨F, hF⟩ := Deep.choose_lt hel'
    refine ⟨_, (List.range len).map F, rfl, ?_, ?_, ?_, ?_⟩
    · have hlen : ∀ m, m ≤ len → (((List.range m).map F).flatMap f).length = m * size := by
        intro m hm
        induction m with
        | zero => simp
        | succ m ih =>
          rw [List.range_succ, List.map_append, List.flatMap_append, List.length_append, ih (by omega)]
          simp [(hF m (by omega)).2.1, Nat.add_mul]
      have hget : ∀ m, m ≤ len → ∀ j, j < m * size → w.cell? (a.add j) = (((List.range m).map F).flatMap f)[j]? := by
        intro m hm
        induction m with
        | zero => intro j hj; simp at hj
        | succ m ih =>
          intro j hj
          rw [List.range_succ, List.map_append, List.flatMap_append]
          by_cases hjm : j < m * size
          · rw [List.getElem?_append_left (by rw [hlen m (by omega)]; exact hjm)]
            exact ih (by omega) j hjm
          · rw [List.getElem?_append_right (by rw [hlen m (by omega)]; omega), hlen m (by omega)]
            have := (hF m (by omega)).1 (j - m * size) (by rw [Nat.add_mul] at hj; omega)
            rw [show m * size + (j - m * size) = j by omega] at this
            simpa using this
      refine ⟨by simp only [List.length_map, List.length_range]; exact hlen len (Nat.le_refl _), by simp; omega, some a, m, by simp, by simpa using hl, fun hpos => ?_⟩
      simp only [List.length_map, List.length_range] at hpos ⊢
      have h0 := hget len (Nat.le_refl _) 0 (Nat.mul_pos hpos hs)
      have hsome : (w.cell? (a.add 0)).isSome = true := by
        rw [h0, List.getElem?_eq_getElem (by rw [hlen len (Nat.le_refl _)]; exact Nat.mul_pos hpos hs)]; rfl
      obtain ⟨b, off, spot⟩ := a
      have hspot : spot = none := by
        cases spot with
        | none => rfl
        | some s =>
          unfold World.cell? Addr.add at hsome
          split at hsome <;> simp_all
      subst hspot
      exact ⟨b, off, rfl, fun j hj => by rw [← Addr.add_lit]; exact hget len (Nat.le_refl _) j hj⟩
    · intro y hy
      obtain ⟨i, hi, rfl⟩ := List.mem_map.1 hy
      exact (hF i (by simpa using hi)).2.2
    · have := hw _ (.inl rfl)
      simp only [List.length_map, List.length_range] at this ⊢
      refine Nat.le_trans (Nat.mul_le_mul_right _ ?_) this
      omega
    · intro b hb' hpos
      simp only [List.length_map, List.length_range] at hpos
      simp [Value.ownBlock] at hb'
      subst hb'
      obtain ⟨y, hy1, hy2, -⟩ := hel' 0 hpos
      have := hy1 0 hs
      rw [List.getElem?_eq_getElem (by omega)] at this
      have hlt := World.block_lt_of_cell? w _ this
      have e1 : (a.add (0 * size + 0)).block = a.block := by unfold Addr.add; split <;> rfl
      rwa [e1] at hlt

theorem wf_i64 {n : Int} (h : (Lit.int .i64 n).wf = true) : -9223372036854775808 ≤ n ∧ n ≤ 9223372036854775807 := by
  simpa [Lit.wf, IntKind.min, IntKind.max, IntKind.signed, IntKind.bits] using h
/-- what a law owes at its end: true, and nothing of old memory has turned -/
theorem law_post {f : Func} {s : ChangeSpec} {W W' : World} {args : Array Value} {ds gs : List (DataW H)} {before : List MemPlace} {tb : TypeId}
    (hl : laidOutB P = true) (hr : ∀ t ∈ f.params.toList, P.readableRec t = true ∧ t < P.types.size) (hrt : f.resultTypes = #[tb]) (htb : P.underlying tb = some .bool) (hsv : s.vars = [])
    (hW : DataW.Whole enc P f.params.toList s.vars false W args.toList ds gs before) (hfn : (s.fn H (ds ++ gs)) = { results := [.lit (.bool true)], args := ds }) (hb : Below W.heap.size W W') :
    s.post enc P f false true false false W args (.bool true) W' := by
  have hlt := hW.lt
  have hW0 := hW
  obtain ⟨p, q, hA, hV, rfl, hfz, hnd⟩ := hW
  rw [hsv] at hV
  obtain ⟨rfl, rfl⟩ := trodVars_none hV
  have key : ∀ (ts : List TypeId) (vs : List Value) (ds : List (DataW H)) (p : List MemPlace), (∀ t ∈ ts, P.readableRec t = true ∧ t < P.types.size) → (∀ x ∈ p, x.block < W.heap.size) →
      DataW.TrodAll enc P W 0 (fun _ => true) true ts vs ds p → DataW.TrodAll enc P W' 0 (fun b => decide (b < W.heap.size)) true ts vs ds p := by
    intro ts
    induction ts with
    | nil => intro vs ds p _ _ h; cases vs <;> cases ds <;> simp_all [DataW.TrodAll]
    | cons t ts ih =>
      intro vs ds p h1 h2 h
      cases vs with
      | nil => simp [DataW.TrodAll] at h
      | cons v vs =>
        cases ds with
        | nil => simp [DataW.TrodAll] at h
        | cons d ds =>
          obtain ⟨p1, p2, h3, h4, rfl⟩ := h
          have ht := h1 t (by simp)
          exact ⟨p1, p2, Below.trod hl ht.1 ht.2 h3 hb (fun x hx => h2 x (by simp [hx])), ih vs ds p2 (fun t ht => h1 t (by simp [ht])) (fun x hx => h2 x (by simp [hx])) h4, rfl⟩
  refine ⟨ds, [], _, [], p, [], hW0, ?_, ?_, ?_, hb.frame _, fun h => by cases h⟩
  · rw [hfn, hrt]
    exact trodAll_mk1 (shut_bool htb true)
  · rw [hfn]
    exact key _ _ _ _ hr (fun x hx => hlt x (by simp [hx])) hA
  · rw [hfn, hsv]
    rfl
end
end Go.Proofs.Ytfeajpghabjaaaa

/- How a module is read as an argument, of whatever bulk. -/
namespace Go.Proofs.Ytfeajpghabjaaaa
open Go.RowKit Go.ChangeShapes Go.WideShapes Go.ChangeAt
set_option linter.unusedVariables false

section
variable {H : Type} {enc : TypeId × Value → H} {P : Program} {w : World}

theorem bulk_one (d : DataW H) : 1 ≤ Rows.uptoBulk d := by
  cases d with
  | lit l => cases l <;> simp [Rows.uptoBulk]
  | nil => simp [Rows.uptoBulk]
  | ptr d => simp [Rows.uptoBulk]
  | slice elems spare => simp [Rows.uptoBulk]
  | agg parts => simp [Rows.uptoBulk]
  | iface t d => simp [Rows.uptoBulk]
  | map entries => simp [Rows.uptoBulk]
  | held h => simp [Rows.uptoBulk]

theorem bulk_sum (D : Nat → DataW H) (c : Nat → Nat) (n : Nat) (h : ∀ i, i < n → c i ≤ Rows.uptoBulk (D i)) : ((List.range n).map c).sum ≤ Rows.uptoBulkAll ((List.range n).map D) := by
  have key : ∀ (l : List Nat), (∀ i ∈ l, c i ≤ Rows.uptoBulk (D i)) → (l.map c).sum ≤ Rows.uptoBulkAll (l.map D) := by
    intro l
    induction l with
    | nil => intro _; simp [Rows.uptoBulkAll]
    | cons a r ih =>
      intro hl
      have h1 := hl a (by simp)
      have h2 := ih (fun i hi => hl i (by simp [hi]))
      simp only [List.map_cons, List.sum_cons, Rows.uptoBulkAll]
      omega
  exact key _ (fun i hi => h i (by simpa using hi))

/-- A SLICE, READ, of bounded bulk -/
theorem read_sliceU {α : Type} [Inhabited α] {t e : TypeId} {size : Nat} (f : α → List Value) (Q : α → Prop) (c : α → Nat) (ht : P.underlying t = some (.slice e)) (hc : P.cellsOf e = size) (hs : 0 < size)
    (hel : ∀ fuel cs x, Trd enc P w fuel e cs x → cs.length = size → ∃ a, cs = f a ∧ Q a ∧ c a ≤ Rows.uptoBulk x.1)
    {fuel : Nat} {cs : List Value} {x : DataW H × List MemPlace} (h : Trd enc P w fuel t cs x) :
    ∃ (v : Value) (l : List α), cs = [v] ∧ Row w v size l.length (l.flatMap f) ∧ (∀ a ∈ l, Q a) ∧ (l.map c).sum + 1 ≤ Rows.uptoBulk x.1 := by
  rcases Deep.open_slice ht h with ⟨rfl, rfl⟩ | ⟨a, len, cap, m, n, D, Pl, rfl, hb, hl, hm, hmm, rfl, hx⟩
  · exact ⟨_, [], rfl, ⟨by simp, Nat.zero_le _, none, 0, rfl, Nat.le_refl _, fun h => by simp at h⟩, by simp, by simp [Rows.uptoBulk]⟩
  · simp only [if_true] at hmm
    subst hmm
    have hel' : ∀ i, i < len → ∃ y : α, (∀ j, j < size → w.cell? (a.add (i * size + j)) = (f y)[j]?) ∧ (f y).length = size ∧ Q y ∧ c y ≤ Rows.uptoBulk (D i) := by
      intro i hi
      obtain ⟨cs', h1, h2⟩ := hx i (by omega)
      rw [hc] at h1
      obtain ⟨-, h3, h4⟩ := World.cells?_some h1
      obtain ⟨y, rfl, hq, hcy⟩ := hel n cs' (D i, Pl i) h2 h3
      refine ⟨y, fun j hj => ?_, h3, hq, hcy⟩
      rw [← Deep.add_add]
      exact h4 j hj
    obtain ⟨F, hF⟩ := Deep.choose_lt hel'
    refine ⟨_, (List.range len).map F, rfl, ?_, ?_, ?_⟩
    · have hlen : ∀ m, m ≤ len → (((List.range m).map F).flatMap f).length = m * size := by
        intro m hm
        induction m with
        | zero => simp
        | succ m ih =>
          rw [List.range_succ, List.map_append, List.flatMap_append, List.length_append, ih (by omega)]
          simp [(hF m (by omega)).2.1, Nat.add_mul]
      have hget : ∀ m, m ≤ len → ∀ j, j < m * size → w.cell? (a.add j) = (((List.range m).map F).flatMap f)[j]? := by
        intro m hm
        induction m with
        | zero => intro j hj; simp at hj
        | succ m ih =>
          intro j hj
          rw [List.range_succ, List.map_append, List.flatMap_append]
          by_cases hjm : j < m * size
          · rw [List.getElem?_append_left (by rw [hlen m (by omega)]; exact hjm)]
            exact ih (by omega) j hjm
          · rw [List.getElem?_append_right (by rw [hlen m (by omega)]; omega), hlen m (by omega)]
            have := (hF m (by omega)).1 (j - m * size) (by rw [Nat.add_mul] at hj; omega)
            rw [show m * size + (j - m * size) = j by omega] at this
            simpa using this
      refine ⟨by simp only [List.length_map, List.length_range]; exact hlen len (Nat.le_refl _), by simp; omega, some a, m, by simp, by simpa using hl, fun hpos => ?_⟩
      simp only [List.length_map, List.length_range] at hpos ⊢
      have h0 := hget len (Nat.le_refl _) 0 (Nat.mul_pos hpos hs)
      have hsome : (w.cell? (a.add 0)).isSome = true := by
        rw [h0, List.getElem?_eq_getElem (by rw [hlen len (Nat.le_refl _)]; exact Nat.mul_pos hpos hs)]; rfl
      obtain ⟨b, off, spot⟩ := a
      have hspot : spot = none := by
        cases spot with
        | none => rfl
        | some s =>
          unfold World.cell? Addr.add at hsome
          split at hsome <;> simp_all
      subst hspot
      exact ⟨b, off, rfl, fun j hj => by rw [← Addr.add_lit]; exact hget len (Nat.le_refl _) j hj⟩
    · intro y hy
      obtain ⟨i, hi, rfl⟩ := List.mem_map.1 hy
      exact (hF i (by simpa using hi)).2.2.1
    · have := bulk_sum D (fun i => c (F i)) len (fun i hi => (hF i hi).2.2.2)
      simp only [Rows.uptoBulk, List.map_map]
      have e : (List.map (c ∘ F) (List.range len)) = List.map (fun i => c (F i)) (List.range len) := rfl
      rw [e]
      omega

/-- an int or int64 element -/
theorem el_i64U {e : TypeId} (he : P.underlying e = some (.int .i64)) : ∀ fuel cs (x : DataW H × List MemPlace), Trd enc P w fuel e cs x → cs.length = 1 → ∃ n : Int, cs = [.int .i64 n] ∧ ImgM.In64 n ∧ 1 ≤ Rows.uptoBulk x.1 := by
  intro fuel cs x h _
  obtain ⟨n, rfl, _, hw⟩ := DataW.trod_int he h
  exact ⟨n, rfl, wf_i64 hw, bulk_one _⟩
theorem trod_struct6 {t : TypeId} {f0 f1 f2 f3 f4 f5 : Field} {fuel : Nat} {cs : List Value} {x : DataW H × List MemPlace} (ht : P.underlying t = some (.struct #[f0, f1, f2, f3, f4, f5])) (h : Trd enc P w fuel t cs x) :
    ∃ y0 y1 y2 y3 y4 y5 n, x.1 = .agg [y0.1, y1.1, y2.1, y3.1, y4.1, y5.1] ∧ cs.length = P.cellsOf t ∧ Trd enc P w n f0.type ((cs.drop f0.offset).take (P.cellsOf f0.type)) y0 ∧
      Trd enc P w n f1.type ((cs.drop f1.offset).take (P.cellsOf f1.type)) y1 ∧ Trd enc P w n f2.type ((cs.drop f2.offset).take (P.cellsOf f2.type)) y2 ∧ Trd enc P w n f3.type ((cs.drop f3.offset).take (P.cellsOf f3.type)) y3 ∧
      Trd enc P w n f4.type ((cs.drop f4.offset).take (P.cellsOf f4.type)) y4 ∧ Trd enc P w n f5.type ((cs.drop f5.offset).take (P.cellsOf f5.type)) y5 := by
  obtain ⟨xs, n, _, rfl, hl, hlen, hf⟩ := DataW.trod_struct ht h
  match xs, hlen with
  | [y0, y1, y2, y3, y4, y5], _ => exact ⟨y0, y1, y2, y3, y4, y5, n, by simp, hl, by simpa using hf 0 f0 rfl, by simpa using hf 1 f1 rfl, by simpa using hf 2 f2 rfl, by simpa using hf 3 f3 rfl, by simpa using hf 4 f4 rfl, by simpa using hf 5 f5 rfl⟩
end

section
variable {H : Type} {enc : TypeId × Value → H} {w : World}
open Img

theorem cells_int : Try.prog.cellsOf 3 = 1 := by kernel_rfl
theorem cells_i64 : Try.prog.cellsOf 2 = 1 := by kernel_rfl
theorem cells_ints : Try.prog.cellsOf 35 = 1 := by kernel_rfl
theorem cells_code : Try.prog.cellsOf 36 = 1 := by kernel_rfl
theorem cells_ins : Try.prog.cellsOf 57 = 3 := by kernel_rfl
theorem cells_box : Try.prog.cellsOf 50 = 2 := by kernel_rfl
theorem cells_unt : Try.prog.cellsOf 38 = 6 := by kernel_rfl
theorem cells_mod : Try.prog.cellsOf 25 = 2 := by kernel_rfl

set_option maxRecDepth 100000 in
theorem el_box : ∀ fuel cs (x : DataW H × List MemPlace), Trd enc Try.prog w fuel 50 cs x → cs.length = 2 → ∃ b : Int × Int, cs = boxC b ∧ (ImgM.In64 b.1 ∧ ImgM.In64 b.2) ∧ 2 ≤ Rows.uptoBulk x.1 := by
  intro fuel cs x h hlen
  obtain ⟨y0, y1, n, rfl, _, hy0, hy1⟩ := trod_struct2 Try.underlying50 h
  match cs, hlen with
  | [c0, c1], _ =>
    have e0 : ([c0, c1].drop 0).take (Try.prog.cellsOf 3) = [c0] := by rw [cells_int]; rfl
    have e1 : ([c0, c1].drop 1).take (Try.prog.cellsOf 3) = [c1] := by rw [cells_int]; rfl
    simp only [e0, e1] at hy0 hy1
    obtain ⟨a, ha, wa, ba⟩ := el_i64U Try.underlying3 _ _ _ hy0 rfl
    obtain ⟨b, hb, wb, bb⟩ := el_i64U Try.underlying3 _ _ _ hy1 rfl
    simp at ha hb
    exact ⟨(a, b), by rw [ha, hb]; rfl, ⟨wa, wb⟩, by simp only [Rows.uptoBulk, Rows.uptoBulkAll]; omega⟩

set_option maxRecDepth 100000 in
theorem el_ins : ∀ fuel cs (x : DataW H × List MemPlace), Trd enc Try.prog w fuel 57 cs x → cs.length = 3 → ∃ i : ImgM.Ins, cs = insC i ∧ (ImgM.In64 i.op ∧ ImgM.In64 i.a ∧ ImgM.In64 i.n) ∧ 3 ≤ Rows.uptoBulk x.1 := by
  intro fuel cs x h hlen
  obtain ⟨y0, y1, y2, n, rfl, _, hy0, hy1, hy2⟩ := Go.Deep.trod_struct3 Try.underlying57 h
  match cs, hlen with
  | [c0, c1, c2], _ =>
    have e0 : ([c0, c1, c2].drop 0).take (Try.prog.cellsOf 3) = [c0] := by rw [cells_int]; rfl
    have e1 : ([c0, c1, c2].drop 1).take (Try.prog.cellsOf 3) = [c1] := by rw [cells_int]; rfl
    have e2 : ([c0, c1, c2].drop 2).take (Try.prog.cellsOf 2) = [c2] := by rw [cells_i64]; rfl
    simp only [e0, e1, e2] at hy0 hy1 hy2
    obtain ⟨a, ha, wa, ba⟩ := el_i64U Try.underlying3 _ _ _ hy0 rfl
    obtain ⟨b, hb, wb, bb⟩ := el_i64U Try.underlying3 _ _ _ hy1 rfl
    obtain ⟨c, hc, wc, bc⟩ := el_i64U Try.underlying2 _ _ _ hy2 rfl
    simp at ha hb hc
    exact ⟨⟨a, b, c⟩, by rw [ha, hb, hc]; rfl, ⟨wa, wb, wc⟩, by simp only [Rows.uptoBulk, Rows.uptoBulkAll]; omega⟩

/-- a unit, and where its slices lie -/
def UcIs (w : World) (x : UC) : Prop :=
  Row w (.slice x.lo x.u.locals.length x.lc) (sz i64c) x.u.locals.length (x.u.locals.flatMap i64c) ∧ Row w (.slice x.co x.u.code.length x.cc) (sz insC) x.u.code.length (x.u.code.flatMap insC) ∧ UWf x.u
set_option maxRecDepth 100000 in
theorem el_uc : ∀ fuel cs (x : DataW H × List MemPlace), Trd enc Try.prog w fuel 38 cs x → cs.length = 6 → ∃ y : UC, cs = ucell y ∧ UcIs w y ∧ 0 ≤ Rows.uptoBulk x.1 := by
  intro fuel cs x h hlen
  obtain ⟨y0, y1, y2, y3, y4, y5, n, hx, _, hy0, hy1, hy2, hy3, hy4, hy5⟩ := trod_struct6 Try.underlying38 h
  match cs, hlen with
  | [c0, c1, c2, c3, c4, c5], _ =>
    have e0 : ([c0, c1, c2, c3, c4, c5].drop 0).take (Try.prog.cellsOf 3) = [c0] := by rw [cells_int]; rfl
    have e1 : ([c0, c1, c2, c3, c4, c5].drop 1).take (Try.prog.cellsOf 3) = [c1] := by rw [cells_int]; rfl
    have e2 : ([c0, c1, c2, c3, c4, c5].drop 2).take (Try.prog.cellsOf 35) = [c2] := by rw [cells_ints]; rfl
    have e3 : ([c0, c1, c2, c3, c4, c5].drop 3).take (Try.prog.cellsOf 3) = [c3] := by rw [cells_int]; rfl
    have e4 : ([c0, c1, c2, c3, c4, c5].drop 4).take (Try.prog.cellsOf 3) = [c4] := by rw [cells_int]; rfl
    have e5 : ([c0, c1, c2, c3, c4, c5].drop 5).take (Try.prog.cellsOf 36) = [c5] := by rw [cells_code]; rfl
    simp only [e0, e1, e2, e3, e4, e5] at hy0 hy1 hy2 hy3 hy4 hy5
    obtain ⟨a, ha, wa, ba⟩ := el_i64U Try.underlying3 _ _ _ hy0 rfl
    obtain ⟨b, hb, wb, bb⟩ := el_i64U Try.underlying3 _ _ _ hy1 rfl
    obtain ⟨c, hc, wc, bc⟩ := el_i64U Try.underlying3 _ _ _ hy3 rfl
    obtain ⟨d, hd, wd, bd⟩ := el_i64U Try.underlying3 _ _ _ hy4 rfl
    obtain ⟨lv, ls, hlv, hl1, hl2, hl3⟩ := read_sliceU i64c ImgM.In64 (fun _ => 1) Try.underlying35 cells_int (by decide) (el_i64U Try.underlying3) hy2
    obtain ⟨cv, is, hcv, hc1, hc2, hc3⟩ := read_sliceU insC _ (fun _ => 3) Try.underlying36 cells_ins (by decide) el_ins hy5
    simp only [List.cons.injEq, and_true] at ha hb hc hd hlv hcv
    subst ha hb hc hd hlv hcv
    obtain ⟨-, -, lo, lc, rfl, -⟩ := id hl1
    obtain ⟨-, -, co, cc, rfl, -⟩ := id hc1
    exact ⟨⟨⟨a, b, ls, c, d, is⟩, lo, lc, co, cc⟩, rfl, ⟨hl1, hc1, ⟨wa, wb, hl2, wc, wd, hc2⟩⟩, Nat.zero_le _⟩
set_option maxRecDepth 100000 in
/-- A MODULE, READ. -/
theorem read_md {base : Nat} {v : Value} (hok : Value.okWide Try.prog w .any base 25 v) {d : DataW H} {p : List MemPlace} (h : DataW.Trod enc Try.prog w 0 (fun _ => true) true 25 v d p) :
    ∃ m : ML, v = m.val ∧ MdAt w m ∧ m.Wf := by
  obtain ⟨c0, c1, y0, y1, k, rfl, rfl, rfl, hy0, hy1⟩ := Go.Joins.open_agg2 Try.underlying25 (by kernel_rfl) cells_mod hok h
  obtain ⟨bv, bs, hbv, hb1, hb2, hb3⟩ := read_sliceU boxC _ (fun _ => 2) Try.underlying22 cells_box (by decide) el_box hy0
  obtain ⟨uv, us, huv, hu1, hu2, hu3⟩ := read_sliceU ucell (UcIs w) (fun _ => 0) Try.underlying23 cells_unt (by decide) el_uc hy1
  simp only [List.cons.injEq, and_true] at hbv huv
  subst hbv huv
  obtain ⟨-, -, bo, bc, rfl, -⟩ := id hb1
  obtain ⟨-, -, uo, uc, rfl, -⟩ := id hu1
  exact ⟨⟨bs, bo, bc, us, uo, uc⟩, rfl, ⟨hb1, hu1, fun x hx => (hu2 x hx).1, fun x hx => (hu2 x hx).2.1⟩, ⟨hb2, fun x hx => (hu2 x hx).2.2⟩⟩
end
end Go.Proofs.Ytfeajpghabjaaaa
