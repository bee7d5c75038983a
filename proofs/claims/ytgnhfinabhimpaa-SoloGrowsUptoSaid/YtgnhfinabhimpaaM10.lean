/- More rules for walks, each with what closes its premises written into it: guarded operations of regions that draw. -/
import Derived.Test.YtgnhfinabhimpaaM09
import Derived.Laws.IdiomCopy
import Derived.Test.YtgnhfinabhimpaaChecked
namespace Go.Proofs.Ytgnhfinabhimpaa
open Go
set_option linter.unusedVariables false
set_option linter.unusedSectionVars false
section
variable {P : Program} [Tabbed P] {ops : Array Oper} {Q : Exit → Act → World → Prop} {N e : Nat} {LT : List Chunk} {fuel : Nat} {listed : Array Bool} {E : Env} {L F : List Chunk}
theorem RunT.takeG_ (i : Nat) {oi : Oper} {v : Value} {j : Nat} {want : Bool} (hi : ops[i]? = some oi := by exact rfl) (hns : Region.noSelect ops = true := by kernel_rfl) (hf : Region.free .any ops listed i = true := by kernel_rfl) (hr : (Region.ready .any ops listed).contains i = true := by kernel_rfl) (he : Nat.ble ops.size e = true := by kernel_rfl) (hsz : Nat.beq listed.size ops.size = true := by kernel_rfl)
    (hQ : PutOk Q := by ((repeat (first | exact PutOk.body | apply PutOk.nxt | apply PutOk.then_ | apply PutOk.block)); first | done | fail)) (hg : oi.guard = some (j, want) := by exact rfl) (hgd : gd ops E j = some (.bool want) := by exact rfl) (hd : fitsB N oi.dst = true := by exact rfl) (ht : Takes LT L F := by exact tks) (hy : Still P N oi E LT v := by exact stl) (h : RunT P ops Q N e LT fuel (listed.setIfInBounds i true) (upd oi.dst v E) L) : RunT P ops Q N e LT (fuel + 1) listed E L :=
  RunT.takeG i hi hns hf hr he hsz hQ hg hgd hd ht hy h
theorem RunT.takeU_ (i : Nat) {oi : Oper} {j : Nat} {want t : Bool} (hi : ops[i]? = some oi := by exact rfl) (hns : Region.noSelect ops = true := by kernel_rfl) (hf : Region.free .any ops listed i = true := by kernel_rfl) (hr : (Region.ready .any ops listed).contains i = true := by kernel_rfl) (hie : Nat.beq i e = false := by exact rfl)
    (hQ : PutOk Q := by ((repeat (first | exact PutOk.body | apply PutOk.nxt | apply PutOk.then_ | apply PutOk.block)); first | done | fail)) (hg : oi.guard = some (j, want) := by exact rfl) (hgd : gd ops E j = some (.bool t) := by exact rfl) (hne : (t == want) = false := by exact rfl) (hd : fitsB N oi.dst = true := by exact rfl) (ht : Good e LT listed L := by exact gud) (h : RunT P ops Q N e LT fuel (listed.setIfInBounds i true) (upd oi.dst undef E) L) : RunT P ops Q N e LT (fuel + 1) listed E L :=
  RunT.takeU i hi hns hf hr hie hQ hg hgd hne hd ht h
theorem RunT.takeUU_ (i : Nat) {oi : Oper} {j : Nat} {want : Bool} (hi : ops[i]? = some oi := by exact rfl) (hns : Region.noSelect ops = true := by kernel_rfl) (hf : Region.free .any ops listed i = true := by kernel_rfl) (hr : (Region.ready .any ops listed).contains i = true := by kernel_rfl) (hie : Nat.beq i e = false := by exact rfl)
    (hQ : PutOk Q := by ((repeat (first | exact PutOk.body | apply PutOk.nxt | apply PutOk.then_ | apply PutOk.block)); first | done | fail)) (hg : oi.guard = some (j, want) := by exact rfl) (hgd : gd ops E j = some undef := by exact rfl) (hd : fitsB N oi.dst = true := by exact rfl) (ht : Good e LT listed L := by exact gud) (h : RunT P ops Q N e LT fuel (listed.setIfInBounds i true) (upd oi.dst undef E) L) : RunT P ops Q N e LT (fuel + 1) listed E L :=
  RunT.takeUU i hi hns hf hr hie hQ hg hgd hd ht h
end
end Go.Proofs.Ytgnhfinabhimpaa

/- Rules for walks: a method called through an interface value; a function value against nil. Of whatever program. -/
namespace Go.Proofs.Ytgnhfinabhimpaa
open Go
set_option linter.unusedVariables false
set_option linter.unusedSimpArgs false
set_option linter.unusedSectionVars false
section
variable {P : Program} {Q : Exit → Act → World → Prop} {N : Nat} {E : Env} {L L' : List Chunk}
variable {dst : Option Tmp} {ty : TypeId} {pos : String} {aft : Array Edge} {g : Option (Nat × Bool)}
/-- what a type's method of a name is: function f, handed the value as it is -/
def Finds (P : Program) (T : TypeId) (rv : Value) (name : String) (f : FuncId) : Prop := ∀ w, (method (P.types.size + Made.depth) T rv name).run P w = .ok (f, rv) w
theorem OpT.callM {σ : Type} {x : Operand} {name : String} {args : List Operand} {tys : Array TypeId} {T : TypeId} {rv : Value} {f : FuncId} {vs : List Value}
    {R pre F : List Chunk} {post : σ → Prop} {val : σ → Value} {mem : σ → List Chunk} {C : Env → List Chunk → Prop}
    (hx : ev E x = some (.iface T rv)) (hv : Evs E args vs) (hm : Finds P T rv name f) (hc : callB P f = true) (hd : fitsB N dst = true)
    (spec : Fn P f (rv :: vs).toArray R pre post val mem) (t : Takes pre L F) (r : ∀ w, Reads w R F) (k : ∀ s, post s → C (upd dst (val s) E) (mem s ++ F)) :
    OpT P Q N ⟨dst, .call ⟨.invoke x name, args.toArray, tys⟩, ty, pos, aft, g⟩ E L C := by
  intro K hK a w hs hM
  have hr : (execOp a.eval ⟨dst, .call ⟨.invoke x name, args.toArray, tys⟩, ty, pos, aft, g⟩).run P w = .ok (.enter f (rv :: vs).toArray) w := by
    have e : args.toArray.map a.eval = vs.toArray := by rw [← hs.evs hv]; simp
    have e2 : #[Value.iface T rv] ++ vs.toArray = (Value.iface T rv :: vs).toArray := by simp
    have e3 : (Value.iface T rv :: vs).toArray.extract 1 (Value.iface T rv :: vs).toArray.size = vs.toArray := by simp
    have e4 : (Value.iface T rv :: vs).toArray[0]? = some (Value.iface T rv) := by simp
    have hm' := hm w
    simp only [execOp, resolve, hs.ev hx, e, e2, Sem.run_bind, Sem.run_pure, Result.andThen_ok, invoke, e4, e3, callMethod, run_program, hm']
    rw [run_callFunc hc]
    simp
  unfold Oper.wp
  rw [hr, Oper.upon_enter]
  refine (spec w ((hM.takes t).reads (r w))).mono ?_
  rintro e w' ⟨s, hp, rfl, hx, hm'⟩
  exact hK _ _ (k s hp) _ _ (hs.put _ hd) ((hM.takes t).frame hm' hx)
theorem Still.mkIface {xT t : TypeId} {x : Operand} {v : Value} {s b : Nat} {z : List Value} {e : TypeId} [Tabbed P] (hx : ev E x = some v) (ht : tyOf P xT = some ⟨.pointer e, s, b, z⟩) :
    Still P N ⟨dst, .makeInterface xT x, ty, pos, aft, g⟩ E L (.iface xT v) := fun A w hs _ => by
  have := (tyOk ht).pointer
  simp [execOp, hs.ev hx, Instr.makeInterface, run_underlying this]
theorem Still.mkIfaceS {xT t : TypeId} {x : Operand} {v : Value} {s b : Nat} {z : List Value} {e : TypeId} [Tabbed P] (hx : ev E x = some v) (ht : tyOf P xT = some ⟨.slice e, s, b, z⟩) :
    Still P N ⟨dst, .makeInterface xT x, ty, pos, aft, g⟩ E L (.iface xT v) := fun A w hs _ => by
  have := (tyOk ht).slice
  simp [execOp, hs.ev hx, Instr.makeInterface, run_underlying this]
theorem OpT.callM_ {σ : Type} {x : Operand} {name : String} {args : List Operand} {tys : Array TypeId} {T : TypeId} {rv : Value} {f : FuncId} {vs : List Value}
    {R pre F : List Chunk} {post : σ → Prop} {val : σ → Value} {mem : σ → List Chunk} {C : Env → List Chunk → Prop}
    (hm : Finds P T rv name f) (hc : callB P f = true) (spec : Fn P f (rv :: vs).toArray R pre post val mem) 
    (hx : ev E x = some (.iface T rv) := by exact rfl) (hv : Evs E args vs := by exact evz) (hd : fitsB N dst = true := by exact rfl)
    (t : Takes pre L F := by exact tks) (r : ∀ w, Reads w R F := by intro w; exact rds) (k : ∀ s, post s → C (upd dst (val s) E) (mem s ++ F)) :
    OpT P Q N ⟨dst, .call ⟨.invoke x name, args.toArray, tys⟩, ty, pos, aft, g⟩ E L C := OpT.callM hx hv hm hc hd spec t r k
end
end Go.Proofs.Ytgnhfinabhimpaa

/- Rows of words: a slice of slices, only read or one's own; a type's method found by its name. Of whatever program. -/
namespace Go.Proofs.Ytgnhfinabhimpaa
open Go
set_option linter.unusedVariables false
set_option linter.unusedSimpArgs false
set_option linter.unusedSectionVars false
/-- a row of words, and where it lies -/
structure Rw where
  o : Option Addr
  c : Nat
  l : List Int
instance : Inhabited Rw := ⟨⟨none, 0, []⟩⟩
def rwC (r : Rw) : List Value := [.slice r.o r.l.length r.c]
instance : Enc rwC := ⟨fun _ => rfl, by decide, fun a u hu => by simp [rwC] at hu; subst hu; rfl⟩
def natC (n : Nat) : List Value := [.int .i64 (n : Int)]
instance : Enc natC := ⟨fun _ => rfl, by decide, fun a u hu => by simp [natC] at hu; subst hu; rfl⟩
/-- rows, and where their heads lie -/
structure FL where
  o : Option Addr
  c : Nat
  l : List Rw
instance : Inhabited FL := ⟨⟨none, 0, []⟩⟩
abbrev FL.val (f : FL) : Value := .slice f.o f.l.length f.c
abbrev FL.ws (f : FL) : List (List Int) := f.l.map (·.l)
theorem getD_ws (l : List Rw) (k : Nat) : (l.map (·.l)).getD k [] = (l.getD k default).l := by
  simp only [List.getD_eq_getElem?_getD, List.getElem?_map]
  cases l[k]? <;> rfl
structure FdAt (w : World) (f : FL) : Prop where
  out : Row w (.slice f.o f.l.length f.c) (sz rwC) f.l.length (f.l.flatMap rwC)
  row : ∀ r ∈ f.l, Row w (.slice r.o r.l.length r.c) (sz i64c) r.l.length (r.l.flatMap i64c)
def FdFoot (f : FL) (k : Nat) : Prop :=
  ((Value.slice f.o f.l.length f.c).ownBlock = some k ∧ 0 < f.l.length) ∨ ∃ r ∈ f.l, (Value.slice r.o r.l.length r.c).ownBlock = some k ∧ 0 < r.l.length
theorem FdAt.keep {w w' : World} {f : FL} (h : FdAt w f) {S : Nat → Prop} (k : Keeps S w w') (hs : ∀ b, FdFoot f b → ¬ S b) : FdAt w' f :=
  ⟨h.out.keep'' Enc.pos k (fun b h1 h2 => hs b (.inl ⟨h1, h2⟩)), fun r hr => (h.row r hr).keep'' Enc.pos k (fun b h1 h2 => hs b (.inr ⟨r, hr, h1, h2⟩))⟩
theorem FdAt.lt {w : World} {f : FL} (h : FdAt w f) : ∀ b, FdFoot f b → b < w.heap.size := by
  rintro b (⟨h1, h2⟩ | ⟨r, hr, h1, h2⟩)
  · exact h.out.lt' Enc.pos h2 b h1
  · exact (h.row r hr).lt' Enc.pos h2 b h1
/-- rows that are only read -/
@[irreducible] def fd (f : FL) : Chunk where
  holds w := FdAt w f
  foot := FdFoot f
  excl := false
  stab k hs h := h.keep k hs
  lt h := h.lt
theorem fd_holds {w : World} {f : FL} : (fd f).holds w ↔ FdAt w f := by unfold fd; exact Iff.rfl
theorem fd_foot {f : FL} {k : Nat} : (fd f).foot k ↔ FdFoot f k := by unfold fd; exact Iff.rfl
theorem fd_excl {f : FL} : (fd f).excl = false := by unfold fd; rfl
theorem rw_mem {l : List Rw} {k : Nat} (hk : k < l.length) : l.getD k default ∈ l := by
  rw [List.getD_eq_getElem?_getD, List.getElem?_eq_getElem hk]; exact List.getElem_mem hk
theorem FdAt.small {w : World} {f : FL} (h : FdAt w f) : f.l.length ≤ 9223372036854775807 ∧ ∀ k, k < f.l.length → (f.l.getD k default).l.length ≤ 9223372036854775807 :=
  ⟨h.out.2.1, fun k hk => (h.row _ (rw_mem hk)).2.1⟩
section
variable {f : FL} {L L' : List Chunk} {w : World}
theorem Mem.fdOut (t : Take (fd f) L L') (h : Mem w L) : Mem w (rd f.o f.l.length f.c rwC f.l :: L) :=
  h.dup t rd_excl (rd_holds.2 ⟨(fd_holds.1 (h.has t)).out, rfl⟩) (fun b hb => fd_foot.2 (.inl (rd_foot.1 hb))) fd_excl
theorem Mem.fdRow {k : Nat} (hk : k < f.l.length) (t : Take (fd f) L L') (h : Mem w L) : Mem w (rd (f.l.getD k default).o (f.l.getD k default).l.length (f.l.getD k default).c i64c (f.l.getD k default).l :: L) :=
  h.dup t rd_excl (rd_holds.2 ⟨(fd_holds.1 (h.has t)).row _ (rw_mem hk), rfl⟩) (fun b hb => fd_foot.2 (.inr ⟨_, rw_mem hk, rd_foot.1 hb⟩)) fd_excl
end
/-- a row of one's own -/
abbrev rowM (t : TypeId) (r : Rw) : Chunk := arr r.o r.l.length r.c t i64c r.l
theorem row_perm (t : TypeId) (s u : List Rw) (r : Rw) : ((s ++ r :: u).map (rowM t)).Perm (rowM t r :: (s ++ u).map (rowM t)) := by
  simp only [List.map_append, List.map_cons]
  exact List.perm_middle
theorem Mem.rowOut {w : World} {L L' : List Chunk} {t : TypeId} {s u : List Rw} {r : Rw} (h : Mem w L) (tk : Take (bag ((s ++ r :: u).map (rowM t))) L L') : Mem w (rowM t r :: bag ((s ++ u).map (rowM t)) :: L') :=
  Mem.bagOut (ds := [rowM t r]) h tk (row_perm t s u r)
theorem Mem.rowIn {w : World} {L L' F : List Chunk} {t : TypeId} {s u : List Rw} {r : Rw} (h : Mem w L) (tk : Take (bag ((s ++ u).map (rowM t))) L L') (t2 : Takes [rowM t r] L' F) : Mem w (bag ((s ++ r :: u).map (rowM t)) :: F) :=
  Mem.bagIn (ds := [rowM t r]) h tk t2 (row_perm t s u r) (fun c hc => by simp at hc; subst hc; exact arr_excl)
theorem split_at {α : Type} [Inhabited α] {l : List α} {k : Nat} (h : k < l.length) : ∃ s u, l = s ++ l.getD k default :: u ∧ s.length = k := by
  refine ⟨l.take k, l.drop (k + 1), ?_, by simp; omega⟩
  rw [List.getD_eq_getElem?_getD, List.getElem?_eq_getElem h, Option.getD_some, List.getElem_cons_drop, List.take_append_drop]
theorem set_split {α : Type} (s u : List α) (a b : α) : (s ++ a :: u).set s.length b = s ++ b :: u := by
  rw [List.set_append_right _ _ (Nat.le_refl _), Nat.sub_self]; rfl
theorem getD_split {α : Type} [Inhabited α] (s u : List α) (a : α) : (s ++ a :: u).getD s.length default = a := by
  simp [List.getD_eq_getElem?_getD]
section
variable {P : Program} {T : TypeId} {rv : Value} {name : String} {f : FuncId}
/-- a method that a type has of its own -/
theorem finds {ptr : Bool} (hm : ((P.info? T).bind (fun i => i.methods.find? (·.name == name))).map (fun m => (m.path.toList, m.func)) = some ([], some (f, ptr)))
    (hr : ∀ w o, (receiverAt T (.val rv) ptr o).run P w = .ok rv w) : Finds P T rv name f := by
  intro w
  have hd : 0 < Made.depth := by decide
  obtain ⟨k, hk⟩ : ∃ k, P.types.size + Made.depth = k + 1 := ⟨P.types.size + (Made.depth - 1), by omega⟩
  rw [hk]
  cases hi : P.info? T with
  | none => rw [hi] at hm; cases hm
  | some i =>
    rw [hi] at hm
    simp only [Option.bind_some] at hm
    cases hj : i.methods.find? (·.name == name) with
    | none => rw [hj] at hm; cases hm
    | some m =>
      rw [hj] at hm
      simp only [Option.map_some, Option.some.injEq, Prod.mk.injEq] at hm
      unfold method
      rw [Sem.run_bind, run_typeInfo w hi, Result.andThen_ok]
      simp only [hj, hm.1, hm.2]
      simp [follow, hr]
theorem finds_ptr {e : TypeId} (hu : P.underlying T = some (.pointer e)) (w : World) (o : Option String) : (receiverAt T (.val rv) true o).run P w = .ok rv w := by
  unfold receiverAt
  rw [Sem.run_bind, run_underlying hu w, Result.andThen_ok]
  rfl
theorem finds_slice {e : TypeId} (hu : P.underlying T = some (.slice e)) (w : World) (o : Option String) : (receiverAt T (.val rv) false o).run P w = .ok rv w := by
  unfold receiverAt
  rw [Sem.run_bind, run_underlying hu w, Result.andThen_ok]
  rfl
end
end Go.Proofs.Ytgnhfinabhimpaa

/- copy(dst, src) of 64-bit numbers, into a slice of the call's own. Of whatever program. -/
namespace Go.Proofs.Ytgnhfinabhimpaa
open Go Go.RowKit
set_option linter.unusedVariables false
set_option linter.unusedSectionVars false
section
variable {P : Program} [Tabbed P] {Q : Exit → Act → World → Prop} {N : Nat} {E : Env} {L L' : List Chunk}
variable {dst : Option Tmp} {ty : TypeId} {pos : String} {aft : Array Edge} {g : Option (Nat × Bool)}
theorem OpT.copyZ {t e : TypeId} {x y : Operand} {ao xo : Option Addr} {n cap m c s' b' s2 b2 : Nat} {d2 : TyD} {z' z2 : List Value} {l l2 : List Int} {C : Env → List Chunk → Prop}
    (hx : ev E x = some (.slice ao n cap)) (hy : ev E y = some (.slice xo m c)) (ht : tyOf P t = some ⟨.slice e, s', b', z'⟩) (he : tyOf P e = some ⟨d2, s2, b2, z2⟩) (hs2 : s2 = 1) (hm : Take (arr ao n cap e i64c l) L L') (hr : Rdb L' xo m c i64c l2) (hmn : m ≤ n) (hd : fitsB N dst = true)
    (k : C (upd dst (.int .i64 (m : Int)) E) (arr ao n cap e i64c (l2 ++ l.drop m) :: L')) : OpT P Q N ⟨dst, .call ⟨.builtin .copy, #[x, y], #[t, t]⟩, ty, pos, aft, g⟩ E L C := fun K hK A w hS hM => by
  have hM' := hM.take hm
  obtain ⟨hown, hln⟩ := arr_holds.1 (hM.has hm)
  obtain ⟨hrow, hl2⟩ := hr w (hM'.sub (List.sublist_cons_self _ _))
  obtain ⟨xi, z, h3, h4, -⟩ := (tyOk he).info
  have hi : (P.info? e).map (·.size) = some 1 := by rw [h3]; simp [h4, hs2]
  have hmx := hrow.2.1
  subst hs2
  by_cases h0 : m = 0
  · subst h0
    have hrun := run_copy_none (P := P) w t t ty e ao xo n cap 0 c (tyOk ht).slice hi (by simp)
    obtain rfl : l2 = [] := List.eq_nil_of_length_eq_zero hl2
    unfold Oper.wp
    have hr' : (execOp A.eval ⟨dst, .call ⟨.builtin .copy, #[x, y], #[t, t]⟩, ty, pos, aft, g⟩).run P w = .ok (.value (goInt 0)) w := by
      simp only [execOp, resolve, invoke, builtin, Sem.run_bind, Sem.run_pure, Result.andThen_ok, List.map_toArray, List.map_cons, List.map_nil, hS.ev hx, hS.ev hy, hrun]
    rw [hr']
    refine hK _ _ k _ _ (hS.put _ hd) ?_
    simpa using hM'
  · have hcap0 : 0 < cap := by have := hown.le; omega
    have hown1 := hown.own hcap0
    obtain ⟨q1, ao', cap', q2, q3, q4, q5, q6⟩ := id hown1
    simp only [Value.slice.injEq] at q2
    obtain ⟨rfl, -, rfl⟩ := q2
    cases ao with
    | none => exact absurd (q5 rfl) (by omega)
    | some ad =>
    obtain ⟨sp, -, cur, q8, q9, q10⟩ := q6 _ rfl
    obtain ⟨gb, o, sq⟩ := ad
    simp only at sp q8 q9 q10
    subst sp
    obtain ⟨-, -, xo', c', p2, p3, p4⟩ := hrow
    simp only [Value.slice.injEq] at p2
    obtain ⟨rfl, -, rfl⟩ := p2
    obtain ⟨sb, so, rfl, p5⟩ := p4 (by omega)
    have hcs : (l2.flatMap i64c).length = m := by rw [flatMap_len]; simp [hl2, sz, i64c]
    have hsz : sz i64c = 1 := rfl
    rw [hsz] at q9 q10 p5
    simp only [Nat.mul_one] at q9 q10 p5
    have hrun := run_copy_cells (P := P) w t t ty e gb o n cap ⟨sb, so, none⟩ m c (l2.flatMap i64c) (tyOk ht).slice hi (by rw [hcs]; exact (Nat.min_eq_left hmn).symm)
      (fun j v hj => by
        have hjl := (List.getElem?_eq_some_iff.1 hj).1
        rw [Addr.add_lit', p5 j (by omega)]
        exact hj)
      (fun j hj => by rw [hcs] at hj; rw [q8.cell]; have : o + j < cur.size := Nat.lt_of_lt_of_le (by omega) q9; simp [this]) (fun j hj => q8.free _) (fun v hv => one_all i64c l2 v hv)
    unfold Oper.wp
    have hr' : (execOp A.eval ⟨dst, .call ⟨.builtin .copy, #[x, y], #[t, t]⟩, ty, pos, aft, g⟩).run P w = .ok (.value (goInt (l2.flatMap i64c).length)) (w.setCells gb o (l2.flatMap i64c)) := by
      simp only [execOp, resolve, invoke, builtin, Sem.run_bind, Sem.run_pure, Result.andThen_ok, List.map_toArray, List.map_cons, List.map_nil, hS.ev hx, hS.ev hy, hrun]
    rw [hr', hcs]
    have hb2 := q8.setCells (l2.flatMap i64c) o (by omega)
    refine hK _ _ k _ _ (hS.put _ hd) (hM'.turn (Keeps.setCells (S := fun c => c = gb) _ _ (Keeps.refl _ _) (fun _ => rfl)) arr_excl (fun c hc _ => arr_foot.2 ⟨by rw [hc]; rfl, hcap0⟩) (arr_holds.2 ⟨Own0.of ?_, by simp; omega⟩) (fun c hc => .inl (arr_foot.2 (arr_foot.1 hc))))
    refine ⟨by rw [flatMap_len, List.length_append, List.length_drop, hl2, hln]; congr 1; omega, _, cap, rfl, q3, q4, (fun h => by cases h), fun ad had => ?_⟩
    cases had
    refine ⟨rfl, Nat.zero_le _, _, hb2, ?_, ?_⟩
    · simp only [List.size_toArray, List.length_append, List.length_take, List.length_drop, Array.length_toList, hsz, hcs]
      omega
    · simp only [hsz, Nat.mul_one]
      rw [List.flatMap_append]
      have e1 : (l.drop m).flatMap i64c = ((cur.toList.drop o).take n).drop m := by
        rw [q10]
        have := flatMap_drop (f := i64c) l m
        rw [← this, hsz, Nat.mul_one]
      rw [e1]
      have hcl : o ≤ cur.toList.length := by simp; omega
      rw [List.append_assoc]
      rw [show List.drop o (cur.toList.take o ++ (l2.flatMap i64c ++ cur.toList.drop (o + (l2.flatMap i64c).length))) = l2.flatMap i64c ++ cur.toList.drop (o + (l2.flatMap i64c).length) by
        rw [List.drop_append_of_le_length (by simp; omega), List.drop_of_length_le (by simp; omega)]; rfl]
      rw [List.take_append, hcs, List.take_of_length_le (by omega)]
      congr 1
      rw [List.drop_take, List.drop_drop]
theorem OpT.copyZ_ {t e : TypeId} {x y : Operand} {ao xo : Option Addr} {n cap m c s' b' s2 b2 : Nat} {d2 : TyD} {z' z2 : List Value} {l l2 : List Int} {C : Env → List Chunk → Prop}
    (hx : ev E x = some (.slice ao n cap) := by exact rfl) (hy : ev E y = some (.slice xo m c) := by exact rfl) (ht : tyOf P t = some ⟨.slice e, s', b', z'⟩ := by exact rfl) (he : tyOf P e = some ⟨d2, s2, b2, z2⟩ := by exact rfl) (hs2 : s2 = 1 := by exact rfl) (hm : Take (arr ao n cap e i64c l) L L' := by ((repeat (first | exact Take.head | apply Take.tail)); first | done | fail)) (hr : Rdb L' xo m c i64c l2 := by (first | (apply Rdb.arr; focus ((repeat (first | exact Take.head | apply Take.tail)); done)) | (apply Rdb.rd; focus ((repeat (first | exact Take.head | apply Take.tail)); done)) | (apply Rdb.md_units; focus ((repeat (first | exact Take.head | apply Take.tail)); done)) | (apply Rdb.md_boxes; focus ((repeat (first | exact Take.head | apply Take.tail)); done)) | (apply Rdb.md_code; (focus ((repeat (first | exact Take.head | apply Take.tail)); done)); (focus (first | assumption | omega))) | (apply Rdb.md_locals; (focus ((repeat (first | exact Take.head | apply Take.tail)); done)); (focus (first | assumption | omega))) | (apply Rdb.old; (focus assumption); (focus ((repeat (first | exact Take.head | apply Take.tail)); done))))) (hmn : m ≤ n := by omega) (hd : fitsB N dst = true := by exact rfl)
    (k : C (upd dst (.int .i64 (m : Int)) E) (arr ao n cap e i64c (l2 ++ l.drop m) :: L')) : OpT P Q N ⟨dst, .call ⟨.builtin .copy, #[x, y], #[t, t]⟩, ty, pos, aft, g⟩ E L C := OpT.copyZ hx hy ht he hs2 hm hr hmn hd k
section
variable {α : Type} {iα : Inhabited α} {ao : Option Addr} {n cap : Nat} {e : TypeId} {f : α → List Value} {ef : Enc f} {l : List α}
/-- a slice of what stands, cut: what is told of it as long as that stands -/
theorem OpT.cutV {t : TypeId} {s' b' s2 b2 lo hi : Nat} {d2 : TyD} {z' z2 : List Value} {x : Operand} {ol oh : Option Operand} {C : Env → List Chunk → Prop} (hx : ev E x = some (.slice ao n cap)) (ht : tyOf P t = some ⟨.slice e, s', b', z'⟩) (he : tyOf P e = some ⟨d2, s2, b2, z2⟩)
    (hr : Rdb L ao n cap f l) (hs2 : s2 = sz f) (hb : Bnd E n ol oh lo hi) (h1 : lo ≤ hi) (h2 : hi ≤ n) (hd : fitsB N dst = true)
    (k : ∀ ao' cap', (∀ L'' : List Chunk, Rdb L'' ao n cap f l → Rdb L'' ao' (hi - lo) cap' f ((l.take hi).drop lo)) → C (upd dst (.slice ao' (hi - lo) cap') E) L) : OpT P Q N ⟨dst, .slice t x ol oh none, ty, pos, aft, g⟩ E L C := fun K hK A w hS hM => by
  obtain ⟨hrow, hln⟩ := hr w hM
  have hcap : n ≤ cap := by
    obtain ⟨-, -, ao', cap', g2, g3, -⟩ := hrow
    simp only [Value.slice.injEq] at g2
    obtain ⟨-, -, rfl⟩ := g2
    exact g3
  unfold Oper.wp
  rw [run_cut hS hx ht he hb h1 (by omega) w]
  subst hs2
  exact hK _ _ (k _ _ (fun L'' hr' w' hM' => ⟨Row.sub (hr' w' hM').1 (hr' w' hM').2 h1 h2, by simp; omega⟩)) _ _ (hS.put _ hd) hM
end
theorem Still.imin {x y : Operand} {k : IntKind} {a b z : Int} {tt : TypeId} (hx : ev E x = some (.int k a)) (hy : ev E y = some (.int k b)) (hz : (if b < a then b else a) = z) : Still P N ⟨dst, .call ⟨.builtin .min, #[x, y], #[tt, tt]⟩, ty, pos, aft, g⟩ E L (.int k z) := fun A w hs _ => by
  subst hz
  simp [execOp, resolve, invoke, builtin, hs.ev hx, hs.ev hy, Builtin.min_, Builtin.min2]
theorem Still.imax {x y : Operand} {k : IntKind} {a b z : Int} {tt : TypeId} (hx : ev E x = some (.int k a)) (hy : ev E y = some (.int k b)) (hz : (if a < b then b else a) = z) : Still P N ⟨dst, .call ⟨.builtin .max, #[x, y], #[tt, tt]⟩, ty, pos, aft, g⟩ E L (.int k z) := fun A w hs _ => by
  subst hz
  simp [execOp, resolve, invoke, builtin, hs.ev hx, hs.ev hy, Builtin.max_, Builtin.max2]
theorem OpT.cutV_ {α : Type} {iα : Inhabited α} {ao : Option Addr} {n cap : Nat} {e : TypeId} {f : α → List Value} {ef : Enc f} {l : List α} {t : TypeId} {s' b' s2 b2 lo hi : Nat} {d2 : TyD} {z' z2 : List Value} {x : Operand} {ol oh : Option Operand} {C : Env → List Chunk → Prop} (hx : ev E x = some (.slice ao n cap) := by exact rfl) (ht : tyOf P t = some ⟨.slice e, s', b', z'⟩ := by exact rfl) (he : tyOf P e = some ⟨d2, s2, b2, z2⟩ := by exact rfl)
    (hr : Rdb L ao n cap f l := by (first | (apply Rdb.arr; focus ((repeat (first | exact Take.head | apply Take.tail)); done)) | (apply Rdb.rd; focus ((repeat (first | exact Take.head | apply Take.tail)); done)) | (apply Rdb.md_units; focus ((repeat (first | exact Take.head | apply Take.tail)); done)) | (apply Rdb.md_boxes; focus ((repeat (first | exact Take.head | apply Take.tail)); done)) | (apply Rdb.md_code; (focus ((repeat (first | exact Take.head | apply Take.tail)); done)); (focus (first | assumption | omega))) | (apply Rdb.md_locals; (focus ((repeat (first | exact Take.head | apply Take.tail)); done)); (focus (first | assumption | omega))) | (apply Rdb.old; (focus assumption); (focus ((repeat (first | exact Take.head | apply Take.tail)); done))))) (hs2 : s2 = sz f := by exact rfl) (hb : Bnd E n ol oh lo hi := by (first | exact Bnd.all | (apply Bnd.lo; exact rfl; (first | exact ix_succ _ | exact (rfl : (0 : Int) = ((0 : Nat) : Int)) | exact rfl | (refine (Int.toNat_of_nonneg ?_).symm; omega))) | (apply Bnd.hi; exact rfl; (first | exact ix_succ _ | exact (rfl : (0 : Int) = ((0 : Nat) : Int)) | exact rfl | (refine (Int.toNat_of_nonneg ?_).symm; omega))) | (apply Bnd.both; exact rfl; (first | exact ix_succ _ | exact (rfl : (0 : Int) = ((0 : Nat) : Int)) | exact rfl | (refine (Int.toNat_of_nonneg ?_).symm; omega)); exact rfl; (first | exact ix_succ _ | exact (rfl : (0 : Int) = ((0 : Nat) : Int)) | exact rfl | (refine (Int.toNat_of_nonneg ?_).symm; omega))))) (h1 : lo ≤ hi := by omega) (h2 : hi ≤ n := by omega) (hd : fitsB N dst = true := by exact rfl)
    (k : ∀ ao' cap', (∀ L'' : List Chunk, Rdb L'' ao n cap f l → Rdb L'' ao' (hi - lo) cap' f ((l.take hi).drop lo)) → C (upd dst (.slice ao' (hi - lo) cap') E) L) : OpT P Q N ⟨dst, .slice t x ol oh none, ty, pos, aft, g⟩ E L C := OpT.cutV hx ht he hr hs2 hb h1 h2 hd k
end
end Go.Proofs.Ytgnhfinabhimpaa

/- The program's types, as far as the walks ask for them. Printed by a program of mine out of the seat's translation. -/
namespace Go.Proofs.Ytgnhfinabhimpaa
open Go

def tab : List (TypeId × TyI) := [
  (1, ⟨.other, 1, 8, [.nilFunc]⟩),
  (2, ⟨.int .i64, 1, 8, [.int .i64 0]⟩),
  (3, ⟨.int .i64, 1, 8, [.int .i64 0]⟩),
  (4, ⟨.bool, 1, 1, [.bool false]⟩),
  (5, ⟨.int .u8, 1, 1, [.int .u8 0]⟩),
  (9, ⟨.string, 1, 16, [.string ⟨#[]⟩]⟩),
  (12, ⟨.int .u64, 1, 8, [.int .u64 0]⟩),
  (15, ⟨.pointer 169, 1, 8, [.pointer none]⟩),
  (16, ⟨.pointer 172, 1, 8, [.pointer none]⟩),
  (17, ⟨.pointer 181, 1, 8, [.pointer none]⟩),
  (20, ⟨.other, 1, 16, [.nilIface]⟩),
  (21, ⟨.int .i32, 1, 4, [.int .i32 0]⟩),
  (22, ⟨.slice 37, 1, 24, [.slice none 0 0]⟩),
  (23, ⟨.slice 31, 1, 24, [.slice none 0 0]⟩),
  (24, ⟨.struct [(0, 22), (1, 23)], 2, 48, [.slice none 0 0, .slice none 0 0]⟩),
  (25, ⟨.struct [(0, 22), (1, 23)], 2, 48, [.slice none 0 0, .slice none 0 0]⟩),
  (26, ⟨.slice 38, 1, 24, [.slice none 0 0]⟩),
  (27, ⟨.other, 1, 8, [.nilFunc]⟩),
  (28, ⟨.slice 3, 1, 24, [.slice none 0 0]⟩),
  (29, ⟨.slice 49, 1, 24, [.slice none 0 0]⟩),
  (30, ⟨.struct [(0, 3), (1, 3), (2, 28), (3, 3), (4, 3), (5, 29)], 6, 80, [.int .i64 0, .int .i64 0, .slice none 0 0, .int .i64 0, .int .i64 0, .slice none 0 0]⟩),
  (31, ⟨.struct [(0, 3), (1, 3), (2, 28), (3, 3), (4, 3), (5, 29)], 6, 80, [.int .i64 0, .int .i64 0, .slice none 0 0, .int .i64 0, .int .i64 0, .slice none 0 0]⟩),
  (32, ⟨.int .i64, 1, 8, [.int .i64 0]⟩),
  (33, ⟨.struct [(0, 32), (1, 3), (2, 3)], 3, 24, [.int .i64 0, .int .i64 0, .int .i64 0]⟩),
  (34, ⟨.struct [(0, 32), (1, 3), (2, 3)], 3, 24, [.int .i64 0, .int .i64 0, .int .i64 0]⟩),
  (35, ⟨.other, 1, 8, [.nilFunc]⟩),
  (36, ⟨.struct [(0, 3), (1, 3)], 2, 16, [.int .i64 0, .int .i64 0]⟩),
  (37, ⟨.struct [(0, 3), (1, 3)], 2, 16, [.int .i64 0, .int .i64 0]⟩),
  (38, ⟨.slice 2, 1, 24, [.slice none 0 0]⟩),
  (39, ⟨.struct [(0, 3), (1, 3), (2, 3), (3, 38), (4, 26), (5, 28), (6, 3)], 7, 104, [.int .i64 0, .int .i64 0, .int .i64 0, .slice none 0 0, .slice none 0 0, .slice none 0 0, .int .i64 0]⟩),
  (40, ⟨.struct [(0, 3), (1, 3), (2, 3), (3, 38), (4, 26), (5, 28), (6, 3)], 7, 104, [.int .i64 0, .int .i64 0, .int .i64 0, .slice none 0 0, .slice none 0 0, .slice none 0 0, .int .i64 0]⟩),
  (42, ⟨.other, 1, 8, [.nilFunc]⟩),
  (43, ⟨.other, 1, 8, [.nilFunc]⟩),
  (44, ⟨.other, 1, 8, [.nilFunc]⟩),
  (45, ⟨.other, 1, 8, [.nilFunc]⟩),
  (46, ⟨.other, 1, 8, [.nilFunc]⟩),
  (47, ⟨.other, 1, 8, [.nilFunc]⟩),
  (48, ⟨.struct [(0, 3), (1, 3), (2, 2)], 3, 24, [.int .i64 0, .int .i64 0, .int .i64 0]⟩),
  (49, ⟨.struct [(0, 3), (1, 3), (2, 2)], 3, 24, [.int .i64 0, .int .i64 0, .int .i64 0]⟩),
  (50, ⟨.pointer 53, 1, 8, [.pointer none]⟩),
  (51, ⟨.pointer 25, 1, 8, [.pointer none]⟩),
  (52, ⟨.struct [(0, 51)], 1, 8, [.pointer none]⟩),
  (53, ⟨.struct [(0, 51)], 1, 8, [.pointer none]⟩),
  (54, ⟨.other, 1, 8, [.nilFunc]⟩),
  (55, ⟨.other, 1, 8, [.nilFunc]⟩),
  (56, ⟨.other, 1, 8, [.nilFunc]⟩),
  (57, ⟨.pointer 59, 1, 8, [.pointer none]⟩),
  (58, ⟨.struct [(0, 26), (1, 28), (2, 26)], 3, 72, [.slice none 0 0, .slice none 0 0, .slice none 0 0]⟩),
  (59, ⟨.struct [(0, 26), (1, 28), (2, 26)], 3, 72, [.slice none 0 0, .slice none 0 0, .slice none 0 0]⟩),
  (60, ⟨.pointer 68, 1, 8, [.pointer none]⟩),
  (61, ⟨.other, 1, 8, [.nilFunc]⟩),
  (62, ⟨.other, 1, 16, [.nilIface]⟩),
  (63, ⟨.other, 1, 16, [.nilIface]⟩),
  (64, ⟨.slice 65, 1, 24, [.slice none 0 0]⟩),
  (65, ⟨.pointer 103, 1, 8, [.pointer none]⟩),
  (66, ⟨.other, 1, 8, [.nilFunc]⟩),
  (67, ⟨.struct [(0, 51), (1, 63), (2, 64), (3, 65), (4, 3), (5, 3), (6, 3), (7, 38), (8, 66)], 9, 112, [.pointer none, .nilIface, .slice none 0 0, .pointer none, .int .i64 0, .int .i64 0, .int .i64 0, .slice none 0 0, .nilFunc]⟩),
  (68, ⟨.struct [(0, 51), (1, 63), (2, 64), (3, 65), (4, 3), (5, 3), (6, 3), (7, 38), (8, 66)], 9, 112, [.pointer none, .nilIface, .slice none 0 0, .pointer none, .int .i64 0, .int .i64 0, .int .i64 0, .slice none 0 0, .nilFunc]⟩),
  (69, ⟨.other, 1, 8, [.nilFunc]⟩),
  (70, ⟨.other, 1, 8, [.nilFunc]⟩),
  (71, ⟨.pointer 73, 1, 8, [.pointer none]⟩),
  (72, ⟨.struct [(0, 26), (1, 26), (2, 28)], 3, 72, [.slice none 0 0, .slice none 0 0, .slice none 0 0]⟩),
  (73, ⟨.struct [(0, 26), (1, 26), (2, 28)], 3, 72, [.slice none 0 0, .slice none 0 0, .slice none 0 0]⟩),
  (74, ⟨.pointer 81, 1, 8, [.pointer none]⟩),
  (75, ⟨.other, 1, 8, [.nilFunc]⟩),
  (76, ⟨.other, 1, 8, [.nilFunc]⟩),
  (77, ⟨.other, 1, 8, [.nilFunc]⟩),
  (78, ⟨.slice 119, 1, 24, [.slice none 0 0]⟩),
  (79, ⟨.slice 161, 1, 24, [.slice none 0 0]⟩),
  (80, ⟨.struct [(0, 25), (2, 78), (3, 3), (4, 3), (5, 3), (6, 3), (7, 38), (8, 4), (9, 3), (10, 79)], 11, 168, [.slice none 0 0, .slice none 0 0, .slice none 0 0, .int .i64 0, .int .i64 0, .int .i64 0, .int .i64 0, .slice none 0 0, .bool false, .int .i64 0, .slice none 0 0]⟩),
  (81, ⟨.struct [(0, 25), (2, 78), (3, 3), (4, 3), (5, 3), (6, 3), (7, 38), (8, 4), (9, 3), (10, 79)], 11, 168, [.slice none 0 0, .slice none 0 0, .slice none 0 0, .int .i64 0, .int .i64 0, .int .i64 0, .int .i64 0, .slice none 0 0, .bool false, .int .i64 0, .slice none 0 0]⟩),
  (82, ⟨.other, 1, 8, [.nilFunc]⟩),
  (83, ⟨.pointer 31, 1, 8, [.pointer none]⟩),
  (84, ⟨.other, 1, 8, [.nilFunc]⟩),
  (85, ⟨.other, 1, 8, [.nilFunc]⟩),
  (86, ⟨.pointer 92, 1, 8, [.pointer none]⟩),
  (87, ⟨.map 3 90, 1, 8, [.map none]⟩),
  (88, ⟨.slice 4, 1, 24, [.slice none 0 0]⟩),
  (89, ⟨.struct [(0, 28), (1, 88)], 2, 48, [.slice none 0 0, .slice none 0 0]⟩),
  (90, ⟨.struct [(0, 28), (1, 88)], 2, 48, [.slice none 0 0, .slice none 0 0]⟩),
  (91, ⟨.struct [(0, 50), (1, 83), (2, 87), (3, 28), (4, 90), (6, 32)], 7, 104, [.pointer none, .pointer none, .map none, .slice none 0 0, .slice none 0 0, .slice none 0 0, .int .i64 0]⟩),
  (92, ⟨.struct [(0, 50), (1, 83), (2, 87), (3, 28), (4, 90), (6, 32)], 7, 104, [.pointer none, .pointer none, .map none, .slice none 0 0, .slice none 0 0, .slice none 0 0, .int .i64 0]⟩),
  (93, ⟨.other, 1, 8, [.nilFunc]⟩),
  (94, ⟨.other, 1, 8, [.nilFunc]⟩),
  (95, ⟨.other, 1, 8, [.nilFunc]⟩),
  (96, ⟨.other, 1, 8, [.nilFunc]⟩),
  (97, ⟨.other, 1, 8, [.nilFunc]⟩),
  (98, ⟨.other, 1, 8, [.nilFunc]⟩),
  (99, ⟨.other, 1, 8, [.nilFunc]⟩),
  (100, ⟨.slice 106, 1, 24, [.slice none 0 0]⟩),
  (101, ⟨.pointer 145, 1, 8, [.pointer none]⟩),
  (102, ⟨.struct [(0, 3), (1, 65), (2, 100), (3, 101)], 4, 48, [.int .i64 0, .pointer none, .slice none 0 0, .pointer none]⟩),
  (103, ⟨.struct [(0, 3), (1, 65), (2, 100), (3, 101)], 4, 48, [.int .i64 0, .pointer none, .slice none 0 0, .pointer none]⟩),
  (104, ⟨.pointer 106, 1, 8, [.pointer none]⟩),
  (105, ⟨.struct [(0, 3), (1, 3), (2, 3)], 3, 24, [.int .i64 0, .int .i64 0, .int .i64 0]⟩),
  (106, ⟨.struct [(0, 3), (1, 3), (2, 3)], 3, 24, [.int .i64 0, .int .i64 0, .int .i64 0]⟩),
  (107, ⟨.other, 1, 8, [.nilFunc]⟩),
  (108, ⟨.pointer 2, 1, 8, [.pointer none]⟩),
  (109, ⟨.other, 1, 8, [.nilFunc]⟩),
  (110, ⟨.other, 1, 8, [.nilFunc]⟩),
  (111, ⟨.other, 1, 8, [.nilFunc]⟩),
  (112, ⟨.other, 1, 8, [.nilFunc]⟩),
  (113, ⟨.other, 1, 8, [.nilFunc]⟩),
  (114, ⟨.other, 1, 8, [.nilFunc]⟩),
  (115, ⟨.other, 1, 8, [.nilFunc]⟩),
  (116, ⟨.other, 1, 8, [.nilFunc]⟩),
  (117, ⟨.slice 127, 1, 24, [.slice none 0 0]⟩),
  (118, ⟨.struct [(0, 3), (1, 3), (2, 117), (3, 38)], 4, 64, [.int .i64 0, .int .i64 0, .slice none 0 0, .slice none 0 0]⟩),
  (119, ⟨.struct [(0, 3), (1, 3), (2, 117), (3, 38)], 4, 64, [.int .i64 0, .int .i64 0, .slice none 0 0, .slice none 0 0]⟩),
  (120, ⟨.other, 1, 8, [.nilFunc]⟩),
  (121, ⟨.other, 1, 16, [.nilIface]⟩),
  (122, ⟨.other, 1, 16, [.nilIface]⟩),
  (123, ⟨.other, 1, 8, [.nilFunc]⟩),
  (124, ⟨.pointer 119, 1, 8, [.pointer none]⟩),
  (125, ⟨.pointer 127, 1, 8, [.pointer none]⟩),
  (126, ⟨.struct [(0, 3), (1, 3), (2, 3)], 3, 24, [.int .i64 0, .int .i64 0, .int .i64 0]⟩),
  (127, ⟨.struct [(0, 3), (1, 3), (2, 3)], 3, 24, [.int .i64 0, .int .i64 0, .int .i64 0]⟩),
  (128, ⟨.other, 1, 8, [.nilFunc]⟩),
  (129, ⟨.other, 1, 8, [.nilFunc]⟩),
  (130, ⟨.other, 1, 8, [.nilFunc]⟩),
  (131, ⟨.other, 1, 8, [.nilFunc]⟩),
  (132, ⟨.other, 1, 8, [.nilFunc]⟩),
  (134, ⟨.other, 1, 8, [.nilFunc]⟩),
  (135, ⟨.other, 1, 8, [.nilFunc]⟩),
  (136, ⟨.other, 1, 8, [.nilFunc]⟩),
  (137, ⟨.other, 1, 8, [.nilFunc]⟩),
  (138, ⟨.other, 1, 8, [.nilFunc]⟩),
  (139, ⟨.other, 1, 8, [.nilFunc]⟩),
  (140, ⟨.other, 1, 8, [.nilFunc]⟩),
  (141, ⟨.other, 1, 8, [.nilFunc]⟩),
  (142, ⟨.other, 1, 8, [.nilFunc]⟩),
  (143, ⟨.other, 1, 8, [.nilFunc]⟩),
  (144, ⟨.struct [(0, 38), (1, 3), (2, 3), (3, 3)], 4, 48, [.slice none 0 0, .int .i64 0, .int .i64 0, .int .i64 0]⟩),
  (145, ⟨.struct [(0, 38), (1, 3), (2, 3), (3, 3)], 4, 48, [.slice none 0 0, .int .i64 0, .int .i64 0, .int .i64 0]⟩),
  (146, ⟨.other, 1, 8, [.nilFunc]⟩),
  (147, ⟨.other, 1, 8, [.nilFunc]⟩),
  (148, ⟨.other, 1, 8, [.nilFunc]⟩),
  (149, ⟨.slice 151, 1, 24, [.slice none 0 0]⟩),
  (150, ⟨.struct [(0, 4), (1, 9), (2, 88)], 3, 48, [.bool false, .string ⟨#[]⟩, .slice none 0 0]⟩),
  (151, ⟨.struct [(0, 4), (1, 9), (2, 88)], 3, 48, [.bool false, .string ⟨#[]⟩, .slice none 0 0]⟩),
  (152, ⟨.other, 1, 8, [.nilFunc]⟩),
  (154, ⟨.other, 1, 8, [.nilFunc]⟩),
  (155, ⟨.slice 5, 1, 24, [.slice none 0 0]⟩),
  (156, ⟨.other, 1, 8, [.nilFunc]⟩),
  (158, ⟨.other, 1, 8, [.nilFunc]⟩),
  (159, ⟨.pointer 151, 1, 8, [.pointer none]⟩),
  (160, ⟨.struct [(0, 3), (1, 3), (2, 3), (3, 2)], 4, 32, [.int .i64 0, .int .i64 0, .int .i64 0, .int .i64 0]⟩),
  (161, ⟨.struct [(0, 3), (1, 3), (2, 3), (3, 2)], 4, 32, [.int .i64 0, .int .i64 0, .int .i64 0, .int .i64 0]⟩),
  (162, ⟨.other, 1, 8, [.nilFunc]⟩),
  (163, ⟨.other, 1, 8, [.nilFunc]⟩),
  (164, ⟨.other, 1, 8, [.nilFunc]⟩),
  (165, ⟨.other, 1, 8, [.nilFunc]⟩),
  (166, ⟨.other, 1, 8, [.nilFunc]⟩),
  (167, ⟨.other, 1, 8, [.nilFunc]⟩),
  (173, ⟨.int .u32, 1, 4, [.int .u32 0]⟩),
  (176, ⟨.other, 1, 8, [.nilFunc]⟩),
  (177, ⟨.pointer 5, 1, 8, [.pointer none]⟩),
  (180, ⟨.struct [(0, 12), (1, 12), (2, 173), (3, 174), (4, 5), (5, 5), (6, 175), (7, 176), (8, 177), (9, 178), (10, 179)], 11, 48, [.int .u64 0, .int .u64 0, .int .u32 0, .int .u8 0, .int .u8 0, .int .u8 0, .int .u8 0, .nilFunc, .pointer none, .int .i32 0, .int .i32 0]⟩)
]

theorem tab_ok : ∀ p ∈ tab, TyOk Try.prog p.1 p.2 := by
  unfold tab
  repeat (refine List.forall_mem_cons.2 ⟨⟨by kernel_rfl, by kernel_rfl⟩, ?_⟩)
  simp

instance : Tabbed Try.prog := ⟨tab, tab_ok⟩
end Go.Proofs.Ytgnhfinabhimpaa
