/- More rules for walks, each with what closes its premises written into it: guarded operations of regions that draw. -/
import Derived.Test.YtjehflelkpacfaaM07
import Derived.Laws.IdiomCopy
import Derived.Test.YtjehflelkpacfaaChecked
namespace Go.Proofs.Ytjehflelkpacfaa
open Go
set_option linter.unusedVariables false
set_option linter.unusedSectionVars false
section
variable {P : Program} [Tabbed P] {ops : Array Oper} {Q : Exit → Act → World → Prop} {N e : Nat} {LT : List Chunk} {fuel : Nat} {listed : Array Bool} {E : Env} {L F : List Chunk}
end
end Go.Proofs.Ytjehflelkpacfaa

/- copy(dst, src) of 64-bit numbers, into a slice of the call's own. Of whatever program. -/
namespace Go.Proofs.Ytjehflelkpacfaa
open Go Go.RowKit
set_option linter.unusedVariables false
set_option linter.unusedSectionVars false
section
variable {P : Program} [Tabbed P] {Q : Exit → Act → World → Prop} {N : Nat} {E : Env} {L L' : List Chunk}
variable {dst : Option Tmp} {ty : TypeId} {pos : String} {aft : Array Edge} {g : Option (Nat × Bool)}
theorem OpT.copyZ {t e : TypeId} {x y : Operand} {ao xo : Option Addr} {n cap m c s' b' s2 b2 : Nat} {d2 : TyD} {z' z2 : List Value} {l l2 : List Int} {C : Env → List Chunk → Prop}
    (hx : ev E x = some (.slice ao n cap)) (hy : ev E y = some (.slice xo m c)) (ht : tyOf P t = some ⟨.slice e, s', b', z'⟩) (he : tyOf P e = some ⟨d2, s2, b2, z2⟩) (hs2 : s2 = 1) (hm : Take (arr ao n cap e i64c l) L L') (hr : Rdb L' xo m c i64c l2) (hmn : m ≤ n) (hd : fitsB N dst = true)
    (k : C (upd dst (.int .i64 (m : Int)) E) (arr ao n cap e i64c (l2 ++ l.drop m) :: L')) : OpT P Q N ⟨dst, .call ⟨.builtin .copy, #[x, y], #[t, t]⟩, ty, pos, aft, g⟩ E L C := fun K hK A w hS hM => by
  have hM' := hM.take hm
  obtain ⟨hown, hln⟩ := arr_holds.1 (hM.has hm)
  obtain ⟨hrow, hl2⟩ := hr w (hM'.sub (List.sublist_cons_self _ _))
  obtain ⟨xi, z, h3, h4, -⟩ := (tyOk he).info
  have hi : (P.info? e).map (·.size) = some 1 := by rw [h3]; simp [h4, hs2]
  have hmx := hrow.2.1
  subst hs2
  by_cases h0 : m = 0
  · subst h0
    have hrun := run_copy_none (P := P) w t t ty e ao xo n cap 0 c (tyOk ht).slice hi (by simp)
    obtain rfl : l2 = [] := List.eq_nil_of_length_eq_zero hl2
    unfold Oper.wp
    have hr' : (execOp A.eval ⟨dst, .call ⟨.builtin .copy, #[x, y], #[t, t]⟩, ty, pos, aft, g⟩).run P w = .ok (.value (goInt 0)) w := by
      simp only [execOp, resolve, invoke, builtin, Sem.run_bind, Sem.run_pure, Result.andThen_ok, List.map_toArray, List.map_cons, List.map_nil, hS.ev hx, hS.ev hy, hrun]
    rw [hr']
    refine hK _ _ k _ _ (hS.put _ hd) ?_
    simpa using hM'
  · have hcap0 : 0 < cap := by have := hown.le; omega
    have hown1 := hown.own hcap0
    obtain ⟨q1, ao', cap', q2, q3, q4, q5, q6⟩ := id hown1
    simp only [Value.slice.injEq] at q2
    obtain ⟨rfl, -, rfl⟩ := q2
    cases ao with
    | none => exact absurd (q5 rfl) (by omega)
    | some ad =>
    obtain ⟨sp, -, cur, q8, q9, q10⟩ := q6 _ rfl
    obtain ⟨gb, o, sq⟩ := ad
    simp only at sp q8 q9 q10
    subst sp
    obtain ⟨-, -, xo', c', p2, p3, p4⟩ := hrow
    simp only [Value.slice.injEq] at p2
    obtain ⟨rfl, -, rfl⟩ := p2
    obtain ⟨sb, so, rfl, p5⟩ := p4 (by omega)
    have hcs : (l2.flatMap i64c).length = m := by rw [flatMap_len]; simp [hl2, sz, i64c]
    have hsz : sz i64c = 1 := rfl
    rw [hsz] at q9 q10 p5
    simp only [Nat.mul_one] at q9 q10 p5
    have hrun := run_copy_cells (P := P) w t t ty e gb o n cap ⟨sb, so, none⟩ m c (l2.flatMap i64c) (tyOk ht).slice hi (by rw [hcs]; exact (Nat.min_eq_left hmn).symm)
      (fun j v hj => by
        have hjl := (List.getElem?_eq_some_iff.1 hj).1
        rw [Addr.add_lit', p5 j (by omega)]
        exact hj)
      (fun j hj => by rw [hcs] at hj; rw [q8.cell]; have : o + j < cur.size := Nat.lt_of_lt_of_le (by omega) q9; simp [this]) (fun j hj => q8.free _) (fun v hv => one_all i64c l2 v hv)
    unfold Oper.wp
    have hr' : (execOp A.eval ⟨dst, .call ⟨.builtin .copy, #[x, y], #[t, t]⟩, ty, pos, aft, g⟩).run P w = .ok (.value (goInt (l2.flatMap i64c).length)) (w.setCells gb o (l2.flatMap i64c)) := by
      simp only [execOp, resolve, invoke, builtin, Sem.run_bind, Sem.run_pure, Result.andThen_ok, List.map_toArray, List.map_cons, List.map_nil, hS.ev hx, hS.ev hy, hrun]
    rw [hr', hcs]
    have hb2 := q8.setCells (l2.flatMap i64c) o (by omega)
    refine hK _ _ k _ _ (hS.put _ hd) (hM'.turn (Keeps.setCells (S := fun c => c = gb) _ _ (Keeps.refl _ _) (fun _ => rfl)) arr_excl (fun c hc _ => arr_foot.2 ⟨by rw [hc]; rfl, hcap0⟩) (arr_holds.2 ⟨Own0.of ?_, by simp; omega⟩) (fun c hc => .inl (arr_foot.2 (arr_foot.1 hc))))
    refine ⟨by rw [flatMap_len, List.length_append, List.length_drop, hl2, hln]; congr 1; omega, _, cap, rfl, q3, q4, (fun h => by cases h), fun ad had => ?_⟩
    cases had
    refine ⟨rfl, Nat.zero_le _, _, hb2, ?_, ?_⟩
    · simp only [List.size_toArray, List.length_append, List.length_take, List.length_drop, Array.length_toList, hsz, hcs]
      omega
    · simp only [hsz, Nat.mul_one]
      rw [List.flatMap_append]
      have e1 : (l.drop m).flatMap i64c = ((cur.toList.drop o).take n).drop m := by
        rw [q10]
        have := flatMap_drop (f := i64c) l m
        rw [← this, hsz, Nat.mul_one]
      rw [e1]
      have hcl : o ≤ cur.toList.length := by simp; omega
      rw [List.append_assoc]
      rw [show List.drop o (cur.toList.take o ++ (l2.flatMap i64c ++ cur.toList.drop (o + (l2.flatMap i64c).length))) = l2.flatMap i64c ++ cur.toList.drop (o + (l2.flatMap i64c).length) by
        rw [List.drop_append_of_le_length (by simp; omega), List.drop_of_length_le (by simp; omega)]; rfl]
      rw [List.take_append, hcs, List.take_of_length_le (by omega)]
      congr 1
      rw [List.drop_take, List.drop_drop]
theorem OpT.copyZ_ {t e : TypeId} {x y : Operand} {ao xo : Option Addr} {n cap m c s' b' s2 b2 : Nat} {d2 : TyD} {z' z2 : List Value} {l l2 : List Int} {C : Env → List Chunk → Prop}
    (hx : ev E x = some (.slice ao n cap) := by exact rfl) (hy : ev E y = some (.slice xo m c) := by exact rfl) (ht : tyOf P t = some ⟨.slice e, s', b', z'⟩ := by exact rfl) (he : tyOf P e = some ⟨d2, s2, b2, z2⟩ := by exact rfl) (hs2 : s2 = 1 := by exact rfl) (hm : Take (arr ao n cap e i64c l) L L' := by ((repeat (first | exact Take.head | apply Take.tail)); first | done | fail)) (hr : Rdb L' xo m c i64c l2 := by (first | (apply Rdb.arr; focus ((repeat (first | exact Take.head | apply Take.tail)); done)) | (apply Rdb.rd; focus ((repeat (first | exact Take.head | apply Take.tail)); done)) | (apply Rdb.md_units; focus ((repeat (first | exact Take.head | apply Take.tail)); done)) | (apply Rdb.md_boxes; focus ((repeat (first | exact Take.head | apply Take.tail)); done)) | (apply Rdb.md_code; (focus ((repeat (first | exact Take.head | apply Take.tail)); done)); (focus (first | assumption | omega))) | (apply Rdb.md_locals; (focus ((repeat (first | exact Take.head | apply Take.tail)); done)); (focus (first | assumption | omega))) | (apply Rdb.old; (focus assumption); (focus ((repeat (first | exact Take.head | apply Take.tail)); done))))) (hmn : m ≤ n := by omega) (hd : fitsB N dst = true := by exact rfl)
    (k : C (upd dst (.int .i64 (m : Int)) E) (arr ao n cap e i64c (l2 ++ l.drop m) :: L')) : OpT P Q N ⟨dst, .call ⟨.builtin .copy, #[x, y], #[t, t]⟩, ty, pos, aft, g⟩ E L C := OpT.copyZ hx hy ht he hs2 hm hr hmn hd k
section
variable {α : Type} {iα : Inhabited α} {ao : Option Addr} {n cap : Nat} {e : TypeId} {f : α → List Value} {ef : Enc f} {l : List α}
/-- a slice of what stands, cut: what is told of it as long as that stands -/
theorem OpT.cutV {t : TypeId} {s' b' s2 b2 lo hi : Nat} {d2 : TyD} {z' z2 : List Value} {x : Operand} {ol oh : Option Operand} {C : Env → List Chunk → Prop} (hx : ev E x = some (.slice ao n cap)) (ht : tyOf P t = some ⟨.slice e, s', b', z'⟩) (he : tyOf P e = some ⟨d2, s2, b2, z2⟩)
    (hr : Rdb L ao n cap f l) (hs2 : s2 = sz f) (hb : Bnd E n ol oh lo hi) (h1 : lo ≤ hi) (h2 : hi ≤ n) (hd : fitsB N dst = true)
    (k : ∀ ao' cap', (∀ L'' : List Chunk, Rdb L'' ao n cap f l → Rdb L'' ao' (hi - lo) cap' f ((l.take hi).drop lo)) → C (upd dst (.slice ao' (hi - lo) cap') E) L) : OpT P Q N ⟨dst, .slice t x ol oh none, ty, pos, aft, g⟩ E L C := fun K hK A w hS hM => by
  obtain ⟨hrow, hln⟩ := hr w hM
  have hcap : n ≤ cap := by
    obtain ⟨-, -, ao', cap', g2, g3, -⟩ := hrow
    simp only [Value.slice.injEq] at g2
    obtain ⟨-, -, rfl⟩ := g2
    exact g3
  unfold Oper.wp
  rw [run_cut hS hx ht he hb h1 (by omega) w]
  subst hs2
  exact hK _ _ (k _ _ (fun L'' hr' w' hM' => ⟨Row.sub (hr' w' hM').1 (hr' w' hM').2 h1 h2, by simp; omega⟩)) _ _ (hS.put _ hd) hM
end
theorem Still.imin {x y : Operand} {k : IntKind} {a b z : Int} {tt : TypeId} (hx : ev E x = some (.int k a)) (hy : ev E y = some (.int k b)) (hz : (if b < a then b else a) = z) : Still P N ⟨dst, .call ⟨.builtin .min, #[x, y], #[tt, tt]⟩, ty, pos, aft, g⟩ E L (.int k z) := fun A w hs _ => by
  subst hz
  simp [execOp, resolve, invoke, builtin, hs.ev hx, hs.ev hy, Builtin.min_, Builtin.min2]
theorem Still.imax {x y : Operand} {k : IntKind} {a b z : Int} {tt : TypeId} (hx : ev E x = some (.int k a)) (hy : ev E y = some (.int k b)) (hz : (if a < b then b else a) = z) : Still P N ⟨dst, .call ⟨.builtin .max, #[x, y], #[tt, tt]⟩, ty, pos, aft, g⟩ E L (.int k z) := fun A w hs _ => by
  subst hz
  simp [execOp, resolve, invoke, builtin, hs.ev hx, hs.ev hy, Builtin.max_, Builtin.max2]
theorem OpT.cutV_ {α : Type} {iα : Inhabited α} {ao : Option Addr} {n cap : Nat} {e : TypeId} {f : α → List Value} {ef : Enc f} {l : List α} {t : TypeId} {s' b' s2 b2 lo hi : Nat} {d2 : TyD} {z' z2 : List Value} {x : Operand} {ol oh : Option Operand} {C : Env → List Chunk → Prop} (hx : ev E x = some (.slice ao n cap) := by exact rfl) (ht : tyOf P t = some ⟨.slice e, s', b', z'⟩ := by exact rfl) (he : tyOf P e = some ⟨d2, s2, b2, z2⟩ := by exact rfl)
    (hr : Rdb L ao n cap f l := by (first | (apply Rdb.arr; focus ((repeat (first | exact Take.head | apply Take.tail)); done)) | (apply Rdb.rd; focus ((repeat (first | exact Take.head | apply Take.tail)); done)) | (apply Rdb.md_units; focus ((repeat (first | exact Take.head | apply Take.tail)); done)) | (apply Rdb.md_boxes; focus ((repeat (first | exact Take.head | apply Take.tail)); done)) | (apply Rdb.md_code; (focus ((repeat (first | exact Take.head | apply Take.tail)); done)); (focus (first | assumption | omega))) | (apply Rdb.md_locals; (focus ((repeat (first | exact Take.head | apply Take.tail)); done)); (focus (first | assumption | omega))) | (apply Rdb.old; (focus assumption); (focus ((repeat (first | exact Take.head | apply Take.tail)); done))))) (hs2 : s2 = sz f := by exact rfl) (hb : Bnd E n ol oh lo hi := by (first | exact Bnd.all | (apply Bnd.lo; exact rfl; (first | exact ix_succ _ | exact (rfl : (0 : Int) = ((0 : Nat) : Int)) | exact rfl | (refine (Int.toNat_of_nonneg ?_).symm; omega))) | (apply Bnd.hi; exact rfl; (first | exact ix_succ _ | exact (rfl : (0 : Int) = ((0 : Nat) : Int)) | exact rfl | (refine (Int.toNat_of_nonneg ?_).symm; omega))) | (apply Bnd.both; exact rfl; (first | exact ix_succ _ | exact (rfl : (0 : Int) = ((0 : Nat) : Int)) | exact rfl | (refine (Int.toNat_of_nonneg ?_).symm; omega)); exact rfl; (first | exact ix_succ _ | exact (rfl : (0 : Int) = ((0 : Nat) : Int)) | exact rfl | (refine (Int.toNat_of_nonneg ?_).symm; omega))))) (h1 : lo ≤ hi := by omega) (h2 : hi ≤ n := by omega) (hd : fitsB N dst = true := by exact rfl)
    (k : ∀ ao' cap', (∀ L'' : List Chunk, Rdb L'' ao n cap f l → Rdb L'' ao' (hi - lo) cap' f ((l.take hi).drop lo)) → C (upd dst (.slice ao' (hi - lo) cap') E) L) : OpT P Q N ⟨dst, .slice t x ol oh none, ty, pos, aft, g⟩ E L C := OpT.cutV hx ht he hr hs2 hb h1 h2 hd k
end
end Go.Proofs.Ytjehflelkpacfaa

/- The program's types, as far as the walks ask for them. Printed by a program of mine out of the seat's translation. -/
namespace Go.Proofs.Ytjehflelkpacfaa
open Go

def tab : List (TypeId × TyI) := [
  (1, ⟨.other, 1, 8, [.nilFunc]⟩),
  (2, ⟨.int .i64, 1, 8, [.int .i64 0]⟩),
  (3, ⟨.int .i64, 1, 8, [.int .i64 0]⟩),
  (4, ⟨.bool, 1, 1, [.bool false]⟩),
  (5, ⟨.int .u8, 1, 1, [.int .u8 0]⟩),
  (9, ⟨.string, 1, 16, [.string ⟨#[]⟩]⟩),
  (12, ⟨.int .u64, 1, 8, [.int .u64 0]⟩),
  (15, ⟨.pointer 161, 1, 8, [.pointer none]⟩),
  (16, ⟨.pointer 164, 1, 8, [.pointer none]⟩),
  (17, ⟨.pointer 173, 1, 8, [.pointer none]⟩),
  (20, ⟨.other, 1, 16, [.nilIface]⟩),
  (21, ⟨.int .i32, 1, 4, [.int .i32 0]⟩),
  (22, ⟨.slice 53, 1, 24, [.slice none 0 0]⟩),
  (23, ⟨.slice 68, 1, 24, [.slice none 0 0]⟩),
  (24, ⟨.struct [(0, 22), (1, 23)], 2, 48, [.slice none 0 0, .slice none 0 0]⟩),
  (25, ⟨.struct [(0, 22), (1, 23)], 2, 48, [.slice none 0 0, .slice none 0 0]⟩),
  (26, ⟨.slice 37, 1, 24, [.slice none 0 0]⟩),
  (27, ⟨.other, 1, 8, [.nilFunc]⟩),
  (28, ⟨.slice 56, 1, 24, [.slice none 0 0]⟩),
  (29, ⟨.slice 51, 1, 24, [.slice none 0 0]⟩),
  (30, ⟨.struct [(0, 28), (1, 29), (2, 3)], 3, 56, [.slice none 0 0, .slice none 0 0, .int .i64 0]⟩),
  (31, ⟨.struct [(0, 28), (1, 29), (2, 3)], 3, 56, [.slice none 0 0, .slice none 0 0, .int .i64 0]⟩),
  (32, ⟨.slice 41, 1, 24, [.slice none 0 0]⟩),
  (33, ⟨.int .i64, 1, 8, [.int .i64 0]⟩),
  (35, ⟨.other, 1, 8, [.nilFunc]⟩),
  (36, ⟨.struct [(0, 3), (1, 3)], 2, 16, [.int .i64 0, .int .i64 0]⟩),
  (37, ⟨.struct [(0, 3), (1, 3)], 2, 16, [.int .i64 0, .int .i64 0]⟩),
  (38, ⟨.other, 1, 8, [.nilFunc]⟩),
  (39, ⟨.other, 1, 8, [.nilFunc]⟩),
  (40, ⟨.struct [(0, 33), (1, 3)], 2, 16, [.int .i64 0, .int .i64 0]⟩),
  (41, ⟨.struct [(0, 33), (1, 3)], 2, 16, [.int .i64 0, .int .i64 0]⟩),
  (42, ⟨.other, 1, 8, [.nilFunc]⟩),
  (43, ⟨.slice 50, 1, 24, [.slice none 0 0]⟩),
  (45, ⟨.other, 1, 8, [.nilFunc]⟩),
  (46, ⟨.other, 1, 8, [.nilFunc]⟩),
  (47, ⟨.other, 1, 8, [.nilFunc]⟩),
  (48, ⟨.other, 1, 8, [.nilFunc]⟩),
  (49, ⟨.struct [(0, 3), (1, 3), (2, 3), (3, 2)], 4, 32, [.int .i64 0, .int .i64 0, .int .i64 0, .int .i64 0]⟩),
  (50, ⟨.struct [(0, 3), (1, 3), (2, 3), (3, 2)], 4, 32, [.int .i64 0, .int .i64 0, .int .i64 0, .int .i64 0]⟩),
  (51, ⟨.slice 2, 1, 24, [.slice none 0 0]⟩),
  (52, ⟨.struct [(0, 3), (1, 3)], 2, 16, [.int .i64 0, .int .i64 0]⟩),
  (53, ⟨.struct [(0, 3), (1, 3)], 2, 16, [.int .i64 0, .int .i64 0]⟩),
  (54, ⟨.other, 1, 8, [.nilFunc]⟩),
  (55, ⟨.struct [(0, 3), (1, 3), (2, 3), (3, 51)], 4, 48, [.int .i64 0, .int .i64 0, .int .i64 0, .slice none 0 0]⟩),
  (56, ⟨.struct [(0, 3), (1, 3), (2, 3), (3, 51)], 4, 48, [.int .i64 0, .int .i64 0, .int .i64 0, .slice none 0 0]⟩),
  (57, ⟨.other, 1, 8, [.nilFunc]⟩),
  (59, ⟨.other, 1, 8, [.nilFunc]⟩),
  (60, ⟨.other, 1, 8, [.nilFunc]⟩),
  (61, ⟨.other, 1, 8, [.nilFunc]⟩),
  (62, ⟨.other, 1, 8, [.nilFunc]⟩),
  (63, ⟨.struct [(0, 3), (1, 3), (2, 2)], 3, 24, [.int .i64 0, .int .i64 0, .int .i64 0]⟩),
  (64, ⟨.struct [(0, 3), (1, 3), (2, 2)], 3, 24, [.int .i64 0, .int .i64 0, .int .i64 0]⟩),
  (65, ⟨.slice 64, 1, 24, [.slice none 0 0]⟩),
  (66, ⟨.slice 3, 1, 24, [.slice none 0 0]⟩),
  (67, ⟨.struct [(0, 3), (1, 3), (2, 66), (3, 3), (4, 3), (5, 65)], 6, 80, [.int .i64 0, .int .i64 0, .slice none 0 0, .int .i64 0, .int .i64 0, .slice none 0 0]⟩),
  (68, ⟨.struct [(0, 3), (1, 3), (2, 66), (3, 3), (4, 3), (5, 65)], 6, 80, [.int .i64 0, .int .i64 0, .slice none 0 0, .int .i64 0, .int .i64 0, .slice none 0 0]⟩),
  (69, ⟨.other, 1, 8, [.nilFunc]⟩),
  (70, ⟨.pointer 80, 1, 8, [.pointer none]⟩),
  (71, ⟨.other, 1, 8, [.nilFunc]⟩),
  (72, ⟨.pointer 25, 1, 8, [.pointer none]⟩),
  (73, ⟨.other, 1, 8, [.nilFunc]⟩),
  (74, ⟨.other, 1, 8, [.nilFunc]⟩),
  (75, ⟨.other, 1, 8, [.nilFunc]⟩),
  (76, ⟨.slice 81, 1, 24, [.slice none 0 0]⟩),
  (77, ⟨.slice 93, 1, 24, [.slice none 0 0]⟩),
  (78, ⟨.slice 93, 1, 24, [.slice none 0 0]⟩),
  (79, ⟨.struct [(0, 76), (1, 78), (2, 3)], 3, 56, [.slice none 0 0, .slice none 0 0, .int .i64 0]⟩),
  (80, ⟨.struct [(0, 76), (1, 78), (2, 3)], 3, 56, [.slice none 0 0, .slice none 0 0, .int .i64 0]⟩),
  (81, ⟨.pointer 88, 1, 8, [.pointer none]⟩),
  (82, ⟨.other, 1, 8, [.nilFunc]⟩),
  (83, ⟨.other, 1, 16, [.nilIface]⟩),
  (84, ⟨.other, 1, 16, [.nilIface]⟩),
  (85, ⟨.slice 86, 1, 24, [.slice none 0 0]⟩),
  (86, ⟨.pointer 109, 1, 8, [.pointer none]⟩),
  (87, ⟨.struct [(0, 72), (1, 84), (2, 85), (3, 86), (4, 3), (5, 3), (6, 3), (7, 51), (8, 82)], 9, 112, [.pointer none, .nilIface, .slice none 0 0, .pointer none, .int .i64 0, .int .i64 0, .int .i64 0, .slice none 0 0, .nilFunc]⟩),
  (88, ⟨.struct [(0, 72), (1, 84), (2, 85), (3, 86), (4, 3), (5, 3), (6, 3), (7, 51), (8, 82)], 9, 112, [.pointer none, .nilIface, .slice none 0 0, .pointer none, .int .i64 0, .int .i64 0, .int .i64 0, .slice none 0 0, .nilFunc]⟩),
  (89, ⟨.other, 1, 8, [.nilFunc]⟩),
  (90, ⟨.struct [(0, 33), (1, 3), (2, 3)], 3, 24, [.int .i64 0, .int .i64 0, .int .i64 0]⟩),
  (91, ⟨.struct [(0, 33), (1, 3), (2, 3)], 3, 24, [.int .i64 0, .int .i64 0, .int .i64 0]⟩),
  (92, ⟨.other, 1, 8, [.nilFunc]⟩),
  (93, ⟨.pointer 104, 1, 8, [.pointer none]⟩),
  (94, ⟨.other, 1, 8, [.nilFunc]⟩),
  (95, ⟨.other, 1, 8, [.nilFunc]⟩),
  (96, ⟨.other, 1, 8, [.nilFunc]⟩),
  (97, ⟨.other, 1, 8, [.nilFunc]⟩),
  (98, ⟨.pointer 100, 1, 8, [.pointer none]⟩),
  (99, ⟨.struct [(0, 72)], 1, 8, [.pointer none]⟩),
  (100, ⟨.struct [(0, 72)], 1, 8, [.pointer none]⟩),
  (101, ⟨.other, 1, 8, [.nilFunc]⟩),
  (102, ⟨.other, 1, 8, [.nilFunc]⟩),
  (103, ⟨.struct [(0, 51), (1, 3), (2, 3)], 3, 40, [.slice none 0 0, .int .i64 0, .int .i64 0]⟩),
  (104, ⟨.struct [(0, 51), (1, 3), (2, 3)], 3, 40, [.slice none 0 0, .int .i64 0, .int .i64 0]⟩),
  (105, ⟨.other, 1, 8, [.nilFunc]⟩),
  (106, ⟨.slice 112, 1, 24, [.slice none 0 0]⟩),
  (107, ⟨.pointer 141, 1, 8, [.pointer none]⟩),
  (108, ⟨.struct [(0, 3), (1, 86), (2, 106), (3, 107)], 4, 48, [.int .i64 0, .pointer none, .slice none 0 0, .pointer none]⟩),
  (109, ⟨.struct [(0, 3), (1, 86), (2, 106), (3, 107)], 4, 48, [.int .i64 0, .pointer none, .slice none 0 0, .pointer none]⟩),
  (110, ⟨.pointer 112, 1, 8, [.pointer none]⟩),
  (111, ⟨.struct [(0, 3), (1, 3), (2, 3)], 3, 24, [.int .i64 0, .int .i64 0, .int .i64 0]⟩),
  (112, ⟨.struct [(0, 3), (1, 3), (2, 3)], 3, 24, [.int .i64 0, .int .i64 0, .int .i64 0]⟩),
  (113, ⟨.other, 1, 8, [.nilFunc]⟩),
  (114, ⟨.other, 1, 8, [.nilFunc]⟩),
  (115, ⟨.pointer 2, 1, 8, [.pointer none]⟩),
  (116, ⟨.other, 1, 8, [.nilFunc]⟩),
  (117, ⟨.other, 1, 8, [.nilFunc]⟩),
  (118, ⟨.other, 1, 8, [.nilFunc]⟩),
  (119, ⟨.other, 1, 8, [.nilFunc]⟩),
  (120, ⟨.other, 1, 8, [.nilFunc]⟩),
  (121, ⟨.other, 1, 8, [.nilFunc]⟩),
  (122, ⟨.other, 1, 8, [.nilFunc]⟩),
  (123, ⟨.other, 1, 8, [.nilFunc]⟩),
  (124, ⟨.pointer 68, 1, 8, [.pointer none]⟩),
  (125, ⟨.other, 1, 8, [.nilFunc]⟩),
  (126, ⟨.other, 1, 8, [.nilFunc]⟩),
  (127, ⟨.pointer 133, 1, 8, [.pointer none]⟩),
  (128, ⟨.map 3 131, 1, 8, [.map none]⟩),
  (129, ⟨.slice 4, 1, 24, [.slice none 0 0]⟩),
  (130, ⟨.struct [(0, 66), (1, 129)], 2, 48, [.slice none 0 0, .slice none 0 0]⟩),
  (131, ⟨.struct [(0, 66), (1, 129)], 2, 48, [.slice none 0 0, .slice none 0 0]⟩),
  (132, ⟨.struct [(0, 98), (1, 124), (2, 128), (3, 66), (4, 131), (6, 33)], 7, 104, [.pointer none, .pointer none, .map none, .slice none 0 0, .slice none 0 0, .slice none 0 0, .int .i64 0]⟩),
  (133, ⟨.struct [(0, 98), (1, 124), (2, 128), (3, 66), (4, 131), (6, 33)], 7, 104, [.pointer none, .pointer none, .map none, .slice none 0 0, .slice none 0 0, .slice none 0 0, .int .i64 0]⟩),
  (134, ⟨.other, 1, 8, [.nilFunc]⟩),
  (135, ⟨.other, 1, 8, [.nilFunc]⟩),
  (136, ⟨.other, 1, 8, [.nilFunc]⟩),
  (137, ⟨.other, 1, 8, [.nilFunc]⟩),
  (138, ⟨.other, 1, 8, [.nilFunc]⟩),
  (139, ⟨.other, 1, 8, [.nilFunc]⟩),
  (140, ⟨.struct [(0, 51), (1, 3), (2, 3), (3, 3)], 4, 48, [.slice none 0 0, .int .i64 0, .int .i64 0, .int .i64 0]⟩),
  (141, ⟨.struct [(0, 51), (1, 3), (2, 3), (3, 3)], 4, 48, [.slice none 0 0, .int .i64 0, .int .i64 0, .int .i64 0]⟩),
  (142, ⟨.other, 1, 8, [.nilFunc]⟩),
  (143, ⟨.other, 1, 8, [.nilFunc]⟩),
  (144, ⟨.other, 1, 8, [.nilFunc]⟩),
  (145, ⟨.other, 1, 8, [.nilFunc]⟩),
  (146, ⟨.other, 1, 8, [.nilFunc]⟩),
  (147, ⟨.other, 1, 8, [.nilFunc]⟩),
  (149, ⟨.other, 1, 8, [.nilFunc]⟩),
  (150, ⟨.other, 1, 8, [.nilFunc]⟩),
  (151, ⟨.other, 1, 8, [.nilFunc]⟩),
  (152, ⟨.other, 1, 8, [.nilFunc]⟩),
  (153, ⟨.other, 1, 8, [.nilFunc]⟩),
  (154, ⟨.other, 1, 8, [.nilFunc]⟩),
  (155, ⟨.other, 1, 8, [.nilFunc]⟩),
  (156, ⟨.other, 1, 8, [.nilFunc]⟩),
  (157, ⟨.other, 1, 8, [.nilFunc]⟩),
  (158, ⟨.other, 1, 8, [.nilFunc]⟩),
  (159, ⟨.other, 1, 8, [.nilFunc]⟩),
  (165, ⟨.int .u32, 1, 4, [.int .u32 0]⟩),
  (168, ⟨.other, 1, 8, [.nilFunc]⟩),
  (169, ⟨.pointer 5, 1, 8, [.pointer none]⟩),
  (172, ⟨.struct [(0, 12), (1, 12), (2, 165), (3, 166), (4, 5), (5, 5), (6, 167), (7, 168), (8, 169), (9, 170), (10, 171)], 11, 48, [.int .u64 0, .int .u64 0, .int .u32 0, .int .u8 0, .int .u8 0, .int .u8 0, .int .u8 0, .nilFunc, .pointer none, .int .i32 0, .int .i32 0]⟩)
]

theorem tab_ok : ∀ p ∈ tab, TyOk Try.prog p.1 p.2 := by
  unfold tab
  repeat (refine List.forall_mem_cons.2 ⟨⟨by kernel_rfl, by kernel_rfl⟩, ?_⟩)
  simp

instance : Tabbed Try.prog := ⟨tab, tab_ok⟩
end Go.Proofs.Ytjehflelkpacfaa

/- What package verify computes, in plain Lean. -/
namespace Go.Proofs.Ytjehflelkpacfaa.Ver
set_option linter.unusedVariables false
open ImgM

def plain (t : Int) : Bool := decide (t = 1) || decide (t = 2)
def isUnit (M : Mdl) (i kind : Int) : Bool := decide (0 ≤ i) && decide (i < (M.units.length : Int)) && decide ((M.units.getD i.toNat default).kind = kind)
def handle (M : Mdl) (t : Int) : Bool := decide (10 ≤ t) && isUnit M (t - 10) 3
def rng (b : Bool) : Int := if b then 0 else 3
/-- what is wrong with an instruction's form -/
def instr (M : Mdl) (u : Unt) (i : Ins) : Int :=
  if i.op = 2 then rng (decide (i.a = 0) || decide (i.a = 1))
  else if i.op = 3 ∨ i.op = 4 then rng (decide (0 ≤ i.a) && decide (i.a < (u.locals.length : Int)))
  else if i.op = 21 ∨ i.op = 22 then rng (decide (0 ≤ i.a) && decide (i.a < (u.code.length : Int)))
  else if i.op = 23 then rng (isUnit M i.a 2)
  else if i.op = 29 then rng (isUnit M i.a 3)
  else if i.op = 26 ∨ i.op = 27 then rng (decide (0 ≤ i.a) && decide (i.a < (M.boxes.length : Int)))
  else if i.op < 1 ∨ 32 < i.op then 1 else 0
/-- what is wrong with a unit ahead of its code -/
def head (M : Mdl) (u : Unt) : Int :=
  if u.kind ≠ 2 ∧ u.kind ≠ 3 ∧ u.kind ≠ 4 then 1
  else if 200 < u.locals.length ∨ u.params < 0 ∨ 6 < u.params ∨ (u.locals.length : Int) < u.params ∨ (u.kind = 4 ∧ 0 < u.params) then 5
  else if u.code.length < 1 ∨ 4000 < u.code.length then 5
  else if (u.kind ≠ 4 ∧ plain u.result = false) ∨ (u.kind = 3 ∧ plain u.takes = false) then 9
  else if u.locals.any (fun t => !plain t && !handle M t) then 9
  else 0
structure Where where
  err : Int
  unit : Int
  at_ : Int
deriving DecidableEq, Inhabited
def Where.ok : Where := ⟨0, 0, 0⟩
/-- the first box that is wrong -/
def boxes : Nat → List (Int × Int) → Where
  | _, [] => .ok
  | i, b :: r => if plain b.1 = false then ⟨9, 0, i⟩ else if b.2 < 1 ∨ 20 < b.2 then ⟨3, 0, i⟩ else boxes (i + 1) r
/-- the first instruction that is wrong -/
def instrs (M : Mdl) (u : Unt) (k : Nat) : Nat → List Ins → Where
  | _, [] => .ok
  | j, i :: r => if instr M u i ≠ 0 then ⟨instr M u i, k, j⟩ else instrs M u k (j + 1) r
def unit (M : Mdl) (k : Nat) (u : Unt) : Where := if head M u ≠ 0 then ⟨head M u, k, 0⟩ else instrs M u k 0 u.code
/-- the first unit that is wrong -/
def units (M : Mdl) : Nat → List Unt → Where
  | _, [] => .ok
  | k, u :: r => if (unit M k u).err ≠ 0 then unit M k u else units M (k + 1) r
def form (M : Mdl) : Where :=
  if 30 < M.boxes.length ∨ 30 < M.units.length then ⟨5, 0, 0⟩
  else if (boxes 0 M.boxes).err ≠ 0 then boxes 0 M.boxes
  else if (units M 0 M.units).err ≠ 0 then units M 0 M.units
  else if (M.units.filter (fun u => decide (u.kind = 4))).length = 0 then ⟨6, 0, 0⟩
  else .ok

/-- what is known at an instruction -/
abbrev Shape := List Int × List Bool
/-- a unit's code, while it is looked through -/
structure Flow where
  at_ : List (Int × Shape)
  todo : List Int
  stack : List Int
  has : List Bool
  err : Int
deriving Inhabited, DecidableEq
def find (l : List (Int × Shape)) (k : Int) : Option Shape := (l.find? (fun p => decide (p.1 = k))).map (·.2)
def put : List (Int × Shape) → Int → Shape → List (Int × Shape)
  | [], k, s => [(k, s)]
  | p :: r, k, s => if p.1 = k then (p.1, s) :: r else p :: put r k s
def fail (e : Int) (f : Flow) : Flow := if f.err = 0 then { f with err := e } else f
def push (t : Int) (f : Flow) : Flow := if 300 < f.stack.length + 1 then fail 4 { f with stack := f.stack ++ [t] } else { f with stack := f.stack ++ [t] }
def pop (f : Flow) : Int × Flow := if f.stack.length = 0 then (0, fail 12 f) else (f.stack.getD (f.stack.length - 1) 0, { f with stack := f.stack.take (f.stack.length - 1) })
def want1 (t : Int) (f : Flow) : Flow := if (pop f).1 ≠ t then fail 9 (pop f).2 else (pop f).2
/-- the last one is on top -/
def want (l : List Int) (f : Flow) : Flow := l.foldr want1 f
def meet : List Bool → List Bool → List Bool
  | a :: r, b :: s => (a && b) :: meet r s
  | _, _ => []
def to (n : Nat) (p : Int) (f : Flow) : Flow :=
  if f.err ≠ 0 then f
  else if p = (n : Int) then fail 3 f
  else match find f.at_ p with
    | none => { f with at_ := f.at_ ++ [(p, (f.stack, f.has))], todo := f.todo ++ [p] }
    | some s => if s.1 ≠ f.stack then fail 8 f else if meet s.2 f.has = s.2 then f else { f with at_ := put f.at_ p (s.1, meet s.2 f.has), todo := f.todo ++ [p] }
def args (M : Mdl) (k : Int) (f : Flow) : Flow := want ((M.units.getD k.toNat default).locals.take (M.units.getD k.toNat default).params.toNat) f
/-- the unit that a generator's handle tells of -/
def gen (M : Mdl) (f : Flow) : Option Int × Flow :=
  if (pop f).2.err ≠ 0 then (none, (pop f).2)
  else if handle M (pop f).1 = false then (none, fail 9 (pop f).2)
  else (some ((pop f).1 - 10), (pop f).2)
def done (f : Flow) : Flow := if f.stack.length = 0 then f else fail 12 f
def special (M : Mdl) (u : Unt) (i : Ins) (f : Flow) : Bool × Flow :=
  if i.op = 23 then (true, push (M.units.getD i.a.toNat default).result (args M i.a f))
  else if i.op = 29 then (true, push (10 + i.a) (args M i.a f))
  else if i.op = 24 then (false, done (want [u.result] (if u.kind ≠ 2 then fail 8 f else f)))
  else if i.op = 25 then (false, done (if u.kind = 2 then fail 8 f else f))
  else if i.op = 26 then (true, want [(M.boxes.getD i.a.toNat default).1] f)
  else if i.op = 27 then (true, push (M.boxes.getD i.a.toNat default).1 f)
  else if i.op = 28 then (true, if (pop f).2.err = 0 ∧ plain (pop f).1 = false then fail 9 (pop f).2 else (pop f).2)
  else if i.op = 30 then (true, match gen M (pop f).2 with
    | (none, g) => g
    | (some k, g) => push (M.units.getD k.toNat default).result (if (pop f).1 ≠ (M.units.getD k.toNat default).takes then fail 9 g else g))
  else if i.op = 31 then (true, push u.takes (want [u.result] (if u.kind ≠ 3 then fail 8 f else f)))
  else if i.op = 32 then (true, push 2 (gen M f).2)
  else (true, f)
def step (M : Mdl) (u : Unt) (i : Ins) (f : Flow) : Bool × Flow :=
  if i.op = 1 then (true, push 1 f)
  else if i.op = 2 then (true, push 2 f)
  else if i.op = 3 then (true, push (u.locals.getD i.a.toNat 0) (if f.has.getD i.a.toNat false then f else fail 11 f))
  else if i.op = 4 then (true, { want [u.locals.getD i.a.toNat 0] f with has := (want [u.locals.getD i.a.toNat 0] f).has.set i.a.toNat true })
  else if i.op = 5 then (true, (pop f).2)
  else if i.op = 6 then (true, push 1 (want [1] f))
  else if i.op = 7 then (true, push 2 (want [2] f))
  else if 8 ≤ i.op ∧ i.op ≤ 12 then (true, push 1 (want [1, 1] f))
  else if i.op = 13 ∨ i.op = 14 then (true, push 2 (want [(pop f).1] (if (pop f).1 ≠ 1 ∧ (pop f).1 ≠ 2 then fail 9 (pop f).2 else (pop f).2)))
  else if 15 ≤ i.op ∧ i.op ≤ 18 then (true, push 2 (want [1, 1] f))
  else if i.op = 19 ∨ i.op = 20 then (true, push 2 (want [2, 2] f))
  else if i.op = 21 then (false, to u.code.length i.a f)
  else if i.op = 22 then (true, to u.code.length i.a (want [2] f))
  else special M u i f
/-- a round of a unit's code: what is wrong, or how it goes on -/
def round (M : Mdl) (u : Unt) (p : Int) (r : List Int) (f : Flow) : Flow :=
  let s := (find f.at_ p).getD ([], [])
  let g := step M u (u.code.getD p.toNat default) { f with todo := r, stack := s.1, has := s.2 }
  if g.1 then to u.code.length (p + 1) g.2 else g.2
def run (M : Mdl) (u : Unt) (k : Nat) : Nat → Flow → Where
  | 0, _ => .ok
  | n + 1, f => match f.todo with
    | [] => .ok
    | p :: r => if (round M u p r f).err ≠ 0 then ⟨(round M u p r f).err, k, p⟩ else run M u k n (round M u p r f)
/-- how many rounds there may be -/
def most (u : Unt) : Nat := 2 * (u.code.length * (u.locals.length + 1)) + 1
def start (u : Unt) : Flow := to u.code.length 0 ⟨[], [], [], (List.replicate u.params.toNat true ++ List.replicate (u.locals.length - u.params.toNat) false), 0⟩
def code (M : Mdl) (k : Nat) : Where := run M (M.units.getD k default) k (most (M.units.getD k default)) (start (M.units.getD k default))
def codes (M : Mdl) : Nat → Nat → Where
  | _, 0 => .ok
  | k, n + 1 => if (code M k).err ≠ 0 then code M k else codes M (k + 1) n

/-- the units that code calls or starts -/
def calls (l : List Ins) (out : List Int) : List Int := l.foldl (fun out i => if (i.op = 23 ∨ i.op = 29) ∧ i.a ∉ out then out ++ [i.a] else out) out
def reachRun (M : Mdl) : Nat → Nat → List Int → List Int
  | 0, _, out => out
  | n + 1, k, out => if k < out.length then reachRun M n (k + 1) (calls (M.units.getD (out.getD k 0).toNat default).code out) else out
def reach (M : Mdl) (task : Nat) : List Int := reachRun M (M.units.length + 1) 0 [(task : Int)]
def uses (M : Mdl) (op b : Int) (task : Nat) : Bool := (reach M task).any fun x => (M.units.getD x.toNat default).code.any fun i => decide (i.op = op) && decide (i.a = b)
def users (M : Mdl) (op b : Int) : Nat := ((List.range M.units.length).filter fun k => decide ((M.units.getD k default).kind = 4) && uses M op b k).length
def owned (M : Mdl) : Nat → Nat → Where
  | _, 0 => .ok
  | b, n + 1 => if 1 < users M 26 b ∨ 1 < users M 27 b then ⟨8, 0, b⟩ else owned M (b + 1) n
def verify (M : Mdl) : Where :=
  if (form M).err ≠ 0 then form M
  else if (codes M 0 M.units.length).err ≠ 0 then codes M 0 M.units.length
  else owned M 0 M.boxes.length
end Go.Proofs.Ytjehflelkpacfaa.Ver

/- Package verify, walked: what is asked of types, units, instructions, heads. -/
namespace Go.Proofs.Ytjehflelkpacfaa.Vw
open Go.RowKit Go.Proofs.Ytjehflelkpacfaa.Img
set_option linter.unusedVariables false
set_option linter.unusedSimpArgs false
attribute [local irreducible] Run Cod End OpT Still RunQ RunS RunT Fn PutOk

/-- a checker, and its module's variable -/
abbrev ck (cb mb : Nat) (m : ML) : List Chunk := [blk cb [.pointer (some ⟨mb, 0, none⟩)] 100, blk mb [.slice m.bo m.bx.length m.bc, .slice m.uo m.us.length m.uc] 25]
abbrev ptr (b : Nat) : Value := .pointer (some ⟨b, 0, none⟩)
theorem bool_eq {a b : Bool} (h : a = b) : Value.bool a = Value.bool b := by rw [h]
theorem int_eq {k : IntKind} {a b : Int} (h : a = b) : Value.int k a = Value.int k b := by rw [h]

set_option maxRecDepth 100000 in
theorem plain_is (t : Int) : Fn Try.prog 48 #[.int .i64 t] [] [] (σ := Unit) (fun _ => True) (fun _ => .bool (Ver.plain t)) (fun _ => []) := by
  refine Fn.enter (args := [.int .i64 t]) Try.func48 rfl _ Try.ntmps48 rfl (by simp [rd_excl, md_excl]) (fun w S => ?_)
  (try conv => rhs; simp only [List.cons_append, List.nil_append])
  repeat' (first | refine go (k := ?_) | (refine goB (k := ?_); intro b) | (refine goA (k := ?_); intro ao cap) | refine goQ (k := fun h => ?_) (k' := fun h => ?_) | fail)
  all_goals ((refine End.done1_ (()) (he := by refine bool_eq ?_; (first | (simp [Ver.plain, *]; done) | (simp [Ver.plain]; omega) | (rw [Bool.eq_iff_iff]; simp [Ver.plain]; omega) | (simp [Ver.plain, *]; intros; omega))) (hp := ?_)); trivial)

set_option maxRecDepth 100000 in
theorem unit_is (cb mb : Nat) (m : ML) (i k : Int) : Fn Try.prog 70 #[ptr cb, .int .i64 i, .int .i64 k] [md m] (ck cb mb m) (σ := Unit) (fun _ => True) (fun _ => .bool (Ver.isUnit m.mdl i k)) (fun _ => ck cb mb m) := by
  refine Fn.enter (args := [ptr cb, .int .i64 i, .int .i64 k]) Try.func70 rfl _ Try.ntmps70 rfl (by simp [rd_excl, md_excl]) (fun w S => ?_)
  (try conv => rhs; simp only [List.cons_append, List.nil_append])
  repeat' (first | refine go (k := ?_) | (refine goB (k := ?_); intro b) | (refine goA (k := ?_); intro ao cap) | refine goQ (k := fun h => ?_) (k' := fun h => ?_) | fail)
  all_goals ((refine End.done1_ (()) (he := by refine bool_eq ?_; (first | (simp [Ver.isUnit, getD_u, *]; done) | (simp [Ver.isUnit, getD_u]; omega) | (rw [Bool.eq_iff_iff]; simp [Ver.isUnit, getD_u]; omega) | (simp [Ver.isUnit, getD_u, *]; intros; omega))) (hp := ?_)); trivial)

set_option maxRecDepth 100000 in
theorem handle_is (cb mb : Nat) (m : ML) (t : Int) (ht : ImgM.In64 t) : Fn Try.prog 69 #[ptr cb, .int .i64 t] [md m] (ck cb mb m) (σ := Unit) (fun _ => True) (fun _ => .bool (Ver.handle m.mdl t)) (fun _ => ck cb mb m) := by
  unfold ImgM.In64 at ht
  refine Fn.enter (args := [ptr cb, .int .i64 t]) Try.func69 rfl _ Try.ntmps69 rfl (by simp [rd_excl, md_excl]) (fun w S => ?_)
  (try conv => rhs; simp only [List.cons_append, List.nil_append])
  repeat' (first | ((first | (apply Run.op; exact rfl) | refine Run.yes_ (h := ?_)); refine OpT.call0_ (spec := unit_is cb mb m _ _) (k := ?_); intro s hs; (try conv => rhs; simp only [List.cons_append, List.nil_append])) | refine go (k := ?_) | (refine goB (k := ?_); intro b) | (refine goA (k := ?_); intro ao cap) | refine goQ (k := fun h => ?_) (k' := fun h => ?_) | fail)
  all_goals ((refine End.done1_ (()) (he := by refine bool_eq ?_; (first | (simp [Ver.handle, *]; done) | (simp [Ver.handle]; omega) | (rw [Bool.eq_iff_iff]; simp [Ver.handle]; omega) | (simp [Ver.handle, *]; intros; omega))) (hp := ?_)); trivial)

set_option maxRecDepth 100000 in
theorem head1_is (cb mb pb : Nat) (m : ML) (t : Int) (ht : ImgM.In64 t) : Fn Try.prog 68 #[.int .i64 t, ptr pb] [md m] (blk pb [ptr cb] 98 :: ck cb mb m) (σ := Unit) (fun _ => True) (fun _ => .bool (!Ver.plain t && !Ver.handle m.mdl t)) (fun _ => blk pb [ptr cb] 98 :: ck cb mb m) := by
  refine Fn.enter (args := [.int .i64 t, ptr pb]) Try.func68 rfl _ Try.ntmps68 rfl (by simp [rd_excl, md_excl]) (fun w S => ?_)
  (try conv => rhs; simp only [List.cons_append, List.nil_append])
  repeat' (first | ((first | (apply Run.op; exact rfl) | refine Run.yes_ (h := ?_)); refine OpT.call0_ (spec := plain_is _) (k := ?_); intro s hs; (try conv => rhs; simp only [List.cons_append, List.nil_append])) | ((first | (apply Run.op; exact rfl) | refine Run.yes_ (h := ?_)); refine OpT.call0_ (spec := handle_is cb mb m _ ht) (k := ?_); intro s hs; (try conv => rhs; simp only [List.cons_append, List.nil_append])) | refine go (k := ?_) | (refine goB (k := ?_); intro b) | (refine goA (k := ?_); intro ao cap) | refine goQ (k := fun h => ?_) (k' := fun h => ?_) | fail)
  all_goals ((refine End.done1_ (()) (he := by refine bool_eq ?_; (first | (simp [*]; done) | (simp []; omega) | (rw [Bool.eq_iff_iff]; simp []; omega) | (simp [*]; intros; omega))) (hp := ?_)); trivial)
end Go.Proofs.Ytjehflelkpacfaa.Vw

/- Package stacks, walked by the new rules, for a stack of the virtual machine: room for 8 words at least, for 400 at most. -/
namespace Go.Proofs.Ytjehflelkpacfaa.Vw
open Go.RowKit Go.Proofs.Ytjehflelkpacfaa.Img
set_option linter.unusedVariables false
set_option linter.unusedSimpArgs false
attribute [local irreducible] Run Cod End OpT Still RunQ RunS RunT Fn PutOk
/-- a stack: its block, its row's block, the row, how many of it are words -/
structure Sk where
  sb : Nat
  lb : Nat
  l : List Int
  live : Nat
instance : Inhabited Sk := ⟨⟨0, 0, [], 0⟩⟩
structure Sk.Ok (k : Sk) : Prop where
  live : k.live ≤ k.l.length
  lo : 8 ≤ k.l.length
  hi : k.l.length ≤ 400
abbrev Sk.ws (k : Sk) : List Int := k.l.take k.live
abbrev skC (k : Sk) : List Value := [.slice (some ⟨k.lb, 0, none⟩) k.l.length k.l.length, .int .i64 (k.live : Int), .int .i64 8, .int .i64 400]
abbrev skM (k : Sk) : List Chunk := [blk k.sb (skC k) 141, arr (some ⟨k.lb, 0, none⟩) k.l.length k.l.length 2 i64c k.l]
set_option maxRecDepth 100000 in
theorem live_is (k : Sk) : Fn Try.prog 61 #[ptr k.sb] [] (skM k) (σ := Unit) (fun _ => True) (fun _ => .int .i64 (k.live : Int)) (fun _ => skM k) := by
  refine Fn.enter (args := [ptr k.sb]) Try.func61 rfl _ Try.ntmps61 rfl (by simp [rd_excl, md_excl]) (fun w S => ?_)
  (try conv => rhs; simp only [List.cons_append, List.nil_append])
  repeat (first | refine go (k := ?_) | (refine goB (k := ?_); intro b) | (refine goA (k := ?_); intro ao cap))
  (refine End.done1_ (()) (he := by (first | exact rfl | (refine congrArg (Value.int _) ?_; omega) | (refine congrArg (Value.int _) ?_; dsimp only; omega))) (hp := ?_))
  trivial
set_option maxRecDepth 100000 in
theorem at_is (k : Sk) (i : Nat) (hi : i < k.l.length) (h4 : k.l.length ≤ 400) : Fn Try.prog 42 #[ptr k.sb, .int .i64 (i : Int)] [] (skM k) (σ := Unit) (fun _ => True) (fun _ => .pointer (place (sz i64c) (some ⟨k.lb, 0, none⟩) i 0)) (fun _ => skM k) := by
  refine Fn.enter (args := [ptr k.sb, .int .i64 (i : Int)]) Try.func42 rfl _ Try.ntmps42 rfl (by simp [rd_excl, md_excl]) (fun w S => ?_)
  (try conv => rhs; simp only [List.cons_append, List.nil_append])
  repeat (first | refine go (k := ?_) | (refine goB (k := ?_); intro b) | (refine goA (k := ?_); intro ao cap))
  (refine End.done1_ (()) (he := by (first | exact rfl | (refine congrArg (Value.int _) ?_; omega) | (refine congrArg (Value.int _) ?_; dsimp only; omega))) (hp := ?_))
  trivial
set_option maxRecDepth 100000 in
theorem sized_is (k : Sk) (hk : k.Ok) (n : Nat) (h1 : k.live ≤ n) (h8 : 8 ≤ n) (h4 : n ≤ 400) : Fn Try.prog 82 #[ptr k.sb, .int .i64 (n : Int)] [] (skM k) (σ := Nat) (fun _ => True) (fun _ => .tuple #[]) (fun b => skM ⟨k.sb, b, k.ws ++ List.replicate (n - k.live) 0, k.live⟩) := by
  obtain ⟨g1, g2, g3⟩ := hk
  obtain ⟨sb, lb, l, live⟩ := k
  simp only at *
  refine Fn.enter (args := [ptr sb, .int .i64 (n : Int)]) Try.func82 rfl _ Try.ntmps82 rfl (by simp [rd_excl, md_excl]) (fun w S => ?_)
  (try conv => rhs; simp only [List.cons_append, List.nil_append])
  repeat (first | refine go (k := ?_) | (refine goB (k := ?_); intro b) | (refine goA (k := ?_); intro ao cap))
  apply Run.op (by exact rfl)
  refine OpT.makeSlice_ (f := i64c) (iα := inferInstance) (ef := inferInstance) (z := 0) (n := n) (k := ?_)
  intro nb
  repeat (first | refine go (k := ?_) | (refine goB (k := ?_); intro b) | (refine goA (k := ?_); intro ao cap))
  apply Cod.draw 10 ([blk sb [.slice (some ⟨lb, 0, none⟩) l.length l.length, .int .i64 (live : Int), .int .i64 8, .int .i64 400] 141]) (by kernel_rfl) 11 rfl
  refine RunT.takeR_ 0 (h := ?_)
  refine RunT.takeR_ 1 (h := ?_)
  refine RunT.takeR_ 2 (h := ?_)
  refine RunT.takeR_ 3 (h := ?_)
  refine RunT.takeR_ 4 (h := ?_)
  refine RunT.takeR_ 5 (h := ?_)
  refine RunT.takeR_ 6 (h := ?_)
  refine RunT.takeR_ 7 (h := ?_)
  refine RunT.takeR_ 8 (h := ?_)
  refine RunT.one_ 9 (h := ?_)
  refine OpT.cutV_ (f := i64c) (e := 2) (l := l) (k := ?_)
  intro ao' cap' hcut
  refine And.intro gud ?_
  refine RunT.one_ 10 (h := ?_)
  refine OpT.copyZ_ (l := List.replicate n 0) (l2 := (l.take live).drop 0) (m := live - 0) (hr := hcut _ (by (first | (apply Rdb.arr; focus ((repeat (first | exact Take.head | apply Take.tail)); done)) | (apply Rdb.rd; focus ((repeat (first | exact Take.head | apply Take.tail)); done)) | (apply Rdb.md_units; focus ((repeat (first | exact Take.head | apply Take.tail)); done)) | (apply Rdb.md_boxes; focus ((repeat (first | exact Take.head | apply Take.tail)); done)) | (apply Rdb.md_code; (focus ((repeat (first | exact Take.head | apply Take.tail)); done)); (focus (first | assumption | omega))) | (apply Rdb.md_locals; (focus ((repeat (first | exact Take.head | apply Take.tail)); done)); (focus (first | assumption | omega))) | (apply Rdb.old; (focus assumption); (focus ((repeat (first | exact Take.head | apply Take.tail)); done)))))) (k := ?_)
  refine And.intro gud ?_
  (apply RunT.done; kernel_rfl)
  repeat (first | refine go (k := ?_) | (refine goB (k := ?_); intro b) | (refine goA (k := ?_); intro ao cap))
  have e1 : (l.take live).drop 0 ++ (List.replicate n (0 : Int)).drop (live - 0) = l.take live ++ List.replicate (n - live) 0 := by simp
  rw [e1]
  have e2 : (l.take live ++ List.replicate (n - live) 0).length = n := by simp; omega
  refine End.done0'_ nb (ht := by rw [show skM ⟨sb, nb, (⟨sb, lb, l, live⟩ : Sk).ws ++ List.replicate (n - live) 0, live⟩ = [blk sb [.slice (some ⟨nb, 0, none⟩) n n, .int .i64 (live : Int), .int .i64 8, .int .i64 400] 141, arr (some ⟨nb, 0, none⟩) n n 2 i64c (l.take live ++ List.replicate (n - live) 0)] by simp only [skM, skC, Sk.ws, e2]]; exact tks) (hp := trivial)
end Go.Proofs.Ytjehflelkpacfaa.Vw
