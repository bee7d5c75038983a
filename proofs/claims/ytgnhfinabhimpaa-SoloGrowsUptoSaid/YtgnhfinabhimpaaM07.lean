/- Maps of ints to things, over states that are said by lists. Of whatever program whose types a table says. -/
import Derived.Test.YtgnhfinabhimpaaM06
import Derived.Carry
import Derived.Lib.SliceRun
namespace Go.Proofs.Ytgnhfinabhimpaa
open Go
set_option linter.unusedVariables false
set_option linter.unusedSimpArgs false
set_option linter.unusedSectionVars false

def mfind {α : Type} : List (Int × α) → Int → Option α
  | [], _ => none
  | (q, a) :: r, k => if q = k then some a else mfind r k
def mput {α : Type} : List (Int × α) → Int → α → List (Int × α)
  | [], k, a => [(k, a)]
  | (q, b) :: r, k, a => if q = k then (q, a) :: r else (q, b) :: mput r k a

section
variable {α : Type} (g : α → Value)
theorem findNow_ints (k : Int) : ∀ (es : List MapEntry) (l : List (Int × α)) (i : Nat), es.map (fun e => (e.key, e.val)) = l.map (fun p => (Value.int .i64 p.1, g p.2)) →
    match mfind l k with
    | none => Instr.findNow (.int .i64) (.int .i64 k) es i = some none
    | some a => ∃ j, Instr.findNow (.int .i64) (.int .i64 k) es i = some (some (i + j, g a)) ∧ (es[j]?).map (·.key) = some (.int .i64 k) ∧
        ∀ a', (es.modify j (fun e => { e with key := .int .i64 k, val := g a' })).map (fun e => (e.key, e.val)) = (mput l k a').map (fun p => (Value.int .i64 p.1, g p.2))
  | [], [], i, _ => by simp [mfind, Instr.findNow]
  | [], _ :: _, i, h => by simp at h
  | _ :: _, [], i, h => by simp at h
  | e :: es, (q, b) :: l, i, h => by
    simp only [List.map_cons, List.cons.injEq, Prod.mk.injEq] at h
    obtain ⟨⟨h1, h2⟩, h3⟩ := h
    simp only [mfind]
    by_cases hq : q = k
    · subst hq
      simp only [if_pos rfl]
      refine ⟨0, by simp [Instr.findNow, Instr.sameNow, h1, h2], by simp [h1], fun a' => ?_⟩
      simp only [List.modify_zero_cons, List.map_cons, mput, if_true, h3]
    · rw [if_neg hq]
      have ih := findNow_ints k es l (i + 1) h3
      have hne : (k == q) = false := by rw [beq_eq_false_iff_ne]; exact fun h => hq h.symm
      cases hm : mfind l k with
      | none =>
        rw [hm] at ih
        simp only at ih ⊢
        simp [Instr.findNow, Instr.sameNow, h1, hne, ih]
      | some a =>
        rw [hm] at ih
        simp only at ih ⊢
        obtain ⟨j, i1, i2, i3⟩ := ih
        refine ⟨j + 1, ?_, by simpa using i2, fun a' => ?_⟩
        · simp [Instr.findNow, Instr.sameNow, h1, hne, i1]; omega
        · rw [List.modify_succ_cons, List.map_cons, i3 a']
          simp [mput, hq, h1, h2]
theorem mput_new (k : Int) (a : α) : ∀ l : List (Int × α), mfind l k = none → mput l k a = l ++ [(k, a)]
  | [], _ => rfl
  | (q, b) :: r, h => by
    unfold mfind at h
    by_cases hq : q = k
    · rw [if_pos hq] at h; cases h
    · rw [if_neg hq] at h
      simp [mput, hq, mput_new k a r h]
end

section
variable {α : Type}
/-- a map of one's own, ints to things -/
@[irreducible] def mp (b : Nat) (g : α → Value) (l : List (Int × α)) : Chunk where
  holds w := ∃ es clock, w.heap[b]? = some (.map es clock) ∧ es.toList.map (fun e => (e.key, e.val)) = l.map (fun p => (Value.int .i64 p.1, g p.2))
  foot k := k = b
  excl := true
  stab k hs h := by
    obtain ⟨es, clock, h1, h2⟩ := h
    exact ⟨es, clock, k.at h1 (hs _ rfl), h2⟩
  lt h k hk := by
    obtain ⟨es, clock, h1, h2⟩ := h
    subst hk
    exact (Array.getElem?_eq_some_iff.1 h1).1
variable {b : Nat} {g : α → Value} {l : List (Int × α)} {w : World}
theorem mp_holds : (mp b g l).holds w ↔ ∃ es clock, w.heap[b]? = some (.map es clock) ∧ es.toList.map (fun e => (e.key, e.val)) = l.map (fun p => (Value.int .i64 p.1, g p.2)) := by unfold mp; exact Iff.rfl
theorem mp_foot {k : Nat} : (mp b g l).foot k ↔ k = b := by unfold mp; exact Iff.rfl
theorem mp_excl : (mp b g l).excl = true := by unfold mp; rfl

theorem run_checkInt {P : Program} {kt : TypeId} (hk : P.underlying kt = some (.int .i64)) (em : Bool) (k : Int) (w : World) : (Instr.checkKey em 10000 kt (.int .i64 k)).run P w = .ok () w := by
  rw [show (10000 : Nat) = 9999 + 1 from rfl]
  unfold Instr.checkKey
  simp [run_underlying hk]
theorem run_findInt {P : Program} {kt : TypeId} (hk : P.underlying kt = some (.int .i64)) (k : Int) (es : List MapEntry) (r) (h : Instr.findNow (.int .i64) (.int .i64 k) es 0 = some r) (w : World) : (Instr.findKey kt (.int .i64 k) es).run P w = .ok r w := by
  unfold Instr.findKey
  simp [run_underlying hk, h]

variable {P : Program} [Tabbed P] {Q : Exit → Act → World → Prop} {N : Nat} {E : Env} {L L' : List Chunk}
variable {dst : Option Tmp} {ty : TypeId} {pos : String} {aft : Array Edge} {gu : Option (Nat × Bool)}
variable {t kt et s1 b1 s2 b2 : Nat} {z1 z2 : List Value}

theorem OpT.makeMap {C : Env → List Chunk → Prop} (g : α → Value) (hd : fitsB N dst = true)
    (k : ∀ b, C (upd dst (.map (some b)) E) (mp b g [] :: L)) : OpT P Q N ⟨dst, .makeMap t none, ty, pos, aft, gu⟩ E L C := fun K hK A w hS hM => by
  have hr : (execOp A.eval ⟨dst, .makeMap t none, ty, pos, aft, gu⟩).run P w = .ok (.value (.map (some w.heap.size))) (w.alloc (.map #[] 0)) := by
    simp only [execOp, Sem.run_bind, Option.map_none, RowKit.run_makeMap]
    rfl
  unfold Oper.wp
  rw [hr]
  refine hK _ _ (k w.heap.size) _ _ (hS.put _ hd) (hM.add ((Keeps.refl _ _).alloc _) (mp_holds.2 ⟨#[], 0, ?_, rfl⟩) (fun b hb => by rw [mp_foot.1 hb]; exact Nat.le_refl _))
  exact heap_alloc_new w _

theorem run_lookupMp {ok : Bool} {k : Int} (ht : tyOf P t = some ⟨.map kt et, s1, b1, z1⟩) (hkt : tyOf P kt = some ⟨.int .i64, s2, b2, z2⟩) (z : Value) (hz : (zeroValue et).run P w = .ok z w) (hm : (mp b g l).holds w) :
    (Instr.lookup t (.map (some b)) (.int .i64 k) ok).run P w = .ok (if ok then .tuple #[((mfind l k).map g).getD z, .bool (mfind l k).isSome] else ((mfind l k).map g).getD z) w := by
  obtain ⟨es, clock, h1, h2⟩ := mp_holds.1 hm
  have h3 := findNow_ints g k es.toList l 0 h2
  have hu := (tyOk ht).map
  have hk := (tyOk hkt).int
  unfold Instr.lookup
  cases hf : mfind l k with
  | none =>
    rw [hf] at h3
    simp only at h3
    simp [run_underlying hu, MapKept.run_getObj_map h1, run_checkInt hk, run_findInt hk k _ _ h3, hz]
  | some a =>
    rw [hf] at h3
    obtain ⟨j, h3, -⟩ := h3
    simp [run_underlying hu, MapKept.run_getObj_map h1, run_checkInt hk, run_findInt hk k _ _ h3]
/-- m[k], with ok or without -/
theorem Still.lookup {x y : Operand} {k : Int} {ok : Bool} {z : Value} (hx : ev E x = some (.map (some b))) (hy : ev E y = some (.int .i64 k)) (ht : tyOf P t = some ⟨.map kt et, s1, b1, z1⟩) (hkt : tyOf P kt = some ⟨.int .i64, s2, b2, z2⟩)
    (hz : (P.info? et).map (·.zero) = some (some z)) (hm : Take (mp b g l) L L') :
    Still P N ⟨dst, .lookup t x y ok, ty, pos, aft, gu⟩ E L (if ok then .tuple #[((mfind l k).map g).getD z, .bool (mfind l k).isSome] else ((mfind l k).map g).getD z) := fun A w hS hM => by
  have hz' : (zeroValue et).run P w = .ok z w := by
    cases hi : P.info? et with
    | none => rw [hi] at hz; cases hz
    | some i => rw [hi] at hz; simp at hz; simp [zeroValue, typeInfo, hi, hz]
  simp only [execOp, hS.ev hx, hS.ev hy, Sem.run_bind, run_lookupMp ht hkt z hz' (hM.has hm), Result.andThen_ok, Sem.run_pure]

theorem Still.lookupOk {x y : Operand} {k : Int} {z : Value} (hx : ev E x = some (.map (some b))) (hy : ev E y = some (.int .i64 k)) (ht : tyOf P t = some ⟨.map kt et, s1, b1, z1⟩) (hkt : tyOf P kt = some ⟨.int .i64, s2, b2, z2⟩)
    (hz : (P.info? et).map (·.zero) = some (some z)) (hm : Take (mp b g l) L L') :
    Still P N ⟨dst, .lookup t x y true, ty, pos, aft, gu⟩ E L (.tuple #[((mfind l k).map g).getD z, .bool (mfind l k).isSome]) := Still.lookup (ok := true) hx hy ht hkt hz hm
theorem Still.lookup1 {x y : Operand} {k : Int} {z : Value} (hx : ev E x = some (.map (some b))) (hy : ev E y = some (.int .i64 k)) (ht : tyOf P t = some ⟨.map kt et, s1, b1, z1⟩) (hkt : tyOf P kt = some ⟨.int .i64, s2, b2, z2⟩)
    (hz : (P.info? et).map (·.zero) = some (some z)) (hm : Take (mp b g l) L L') :
    Still P N ⟨dst, .lookup t x y false, ty, pos, aft, gu⟩ E L (((mfind l k).map g).getD z) := Still.lookup (ok := false) hx hy ht hkt hz hm

theorem Still.lookupOkN {x y : Operand} {k : Int} {z : Value} (hx : ev E x = some (.map (some b))) (hy : ev E y = some (.int .i64 k)) (ht : tyOf P t = some ⟨.map kt et, s1, b1, z1⟩) (hkt : tyOf P kt = some ⟨.int .i64, s2, b2, z2⟩)
    (hz : (P.info? et).map (·.zero) = some (some z)) (hm : Take (mp b g l) L L') (hf : mfind l k = none) : Still P N ⟨dst, .lookup t x y true, ty, pos, aft, gu⟩ E L (.tuple #[z, .bool false]) := by
  have := Still.lookupOk (N := N) (dst := dst) (ty := ty) (pos := pos) (aft := aft) (gu := gu) hx hy ht hkt hz hm
  rw [hf] at this; exact this
theorem Still.lookupOkS {x y : Operand} {k : Int} {z : Value} {a : α} (hx : ev E x = some (.map (some b))) (hy : ev E y = some (.int .i64 k)) (ht : tyOf P t = some ⟨.map kt et, s1, b1, z1⟩) (hkt : tyOf P kt = some ⟨.int .i64, s2, b2, z2⟩)
    (hz : (P.info? et).map (·.zero) = some (some z)) (hm : Take (mp b g l) L L') (hf : mfind l k = some a) : Still P N ⟨dst, .lookup t x y true, ty, pos, aft, gu⟩ E L (.tuple #[g a, .bool true]) := by
  have := Still.lookupOk (N := N) (dst := dst) (ty := ty) (pos := pos) (aft := aft) (gu := gu) hx hy ht hkt hz hm
  rw [hf] at this; exact this
theorem Still.lookup1N {x y : Operand} {k : Int} {z : Value} (hx : ev E x = some (.map (some b))) (hy : ev E y = some (.int .i64 k)) (ht : tyOf P t = some ⟨.map kt et, s1, b1, z1⟩) (hkt : tyOf P kt = some ⟨.int .i64, s2, b2, z2⟩)
    (hz : (P.info? et).map (·.zero) = some (some z)) (hm : Take (mp b g l) L L') (hf : mfind l k = none) : Still P N ⟨dst, .lookup t x y false, ty, pos, aft, gu⟩ E L z := by
  have := Still.lookup1 (N := N) (dst := dst) (ty := ty) (pos := pos) (aft := aft) (gu := gu) hx hy ht hkt hz hm
  rw [hf] at this; exact this
theorem Still.lookup1S {x y : Operand} {k : Int} {z : Value} {a : α} (hx : ev E x = some (.map (some b))) (hy : ev E y = some (.int .i64 k)) (ht : tyOf P t = some ⟨.map kt et, s1, b1, z1⟩) (hkt : tyOf P kt = some ⟨.int .i64, s2, b2, z2⟩)
    (hz : (P.info? et).map (·.zero) = some (some z)) (hm : Take (mp b g l) L L') (hf : mfind l k = some a) : Still P N ⟨dst, .lookup t x y false, ty, pos, aft, gu⟩ E L (g a) := by
  have := Still.lookup1 (N := N) (dst := dst) (ty := ty) (pos := pos) (aft := aft) (gu := gu) hx hy ht hkt hz hm
  rw [hf] at this; exact this

/-- m[k] = v -/
theorem OpT.mapUpdate {x y v : Operand} {key : Int} {a : α} {C : Env → List Chunk → Prop} (hx : ev E x = some (.map (some b))) (hy : ev E y = some (.int .i64 key)) (hv : ev E v = some (g a))
    (ht : tyOf P t = some ⟨.map kt et, s1, b1, z1⟩) (hkt : tyOf P kt = some ⟨.int .i64, s2, b2, z2⟩) (hm : Take (mp b g l) L L') (hd : fitsB N dst = true)
    (k : C (upd dst undef E) (mp b g (mput l key a) :: L')) : OpT P Q N ⟨dst, .mapUpdate t x y v, ty, pos, aft, gu⟩ E L C := fun K hK A w hS hM => by
  obtain ⟨k', rfl⟩ : ∃ k', k' = key := ⟨_, rfl⟩
  obtain ⟨es, clock, h1, h2⟩ := mp_holds.1 (hM.has hm)
  have h3 := findNow_ints g k' es.toList l 0 h2
  have hu := (tyOk ht).map
  have hk := (tyOk hkt).int
  have hlt : b < w.heap.size := (Array.getElem?_eq_some_iff.1 h1).1
  have key : ∃ es' clock', (Instr.mapUpdate t (.map (some b)) (.int .i64 k') (g a)).run P w = .ok () { w with heap := w.heap.setIfInBounds b (.map es' clock') } ∧ es'.toList.map (fun e => (e.key, e.val)) = (mput l k' a).map (fun p => (Value.int .i64 p.1, g p.2)) := by
    unfold Instr.mapUpdate
    cases hf : mfind l k' with
    | none =>
      rw [hf] at h3
      simp only at h3
      refine ⟨es.push { key := .int .i64 k', val := g a, born := clock }, clock + 1, ?_, ?_⟩
      · simp [run_underlying hu, MapKept.run_getObj_map h1, run_checkInt hk, run_findInt hk k' _ _ h3, MapKept.run_setObj_map _ h1]
      · rw [mput_new _ _ _ hf]; simp [h2]
    | some a0 =>
      rw [hf] at h3
      obtain ⟨j, h3, h4, h5⟩ := h3
      have h4' : (es[j]?).map (·.key) = some (.int .i64 k') := by simpa using h4
      refine ⟨es.modify j fun e => { e with key := .int .i64 k', val := g a }, clock, ?_, ?_⟩
      · have hst : (Instr.keyThatStays (.int .i64 k') (.int .i64 k')).run P w = .ok (.int .i64 k') w := by
          unfold Instr.keyThatStays
          rw [show (10000 : Nat) = 9999 + 1 from rfl]
          simp [Instr.sameBits]
        simp [run_underlying hu, MapKept.run_getObj_map h1, run_checkInt hk, run_findInt hk k' _ _ h3, h4', hst, MapKept.run_setObj_map _ h1]
      · rw [Array.toList_modify]; exact h5 a
  obtain ⟨es', clock', hrun, he⟩ := key
  have hr : (execOp A.eval ⟨dst, .mapUpdate t x y v, ty, pos, aft, gu⟩).run P w = .ok .skip { w with heap := w.heap.setIfInBounds b (.map es' clock') } := by
    simp only [execOp, hS.ev hx, hS.ev hy, hS.ev hv, Sem.run_bind, hrun, Result.andThen_ok, Sem.run_pure]
  unfold Oper.wp
  rw [hr]
  refine hK _ _ k _ _ (hS.put _ hd) ((hM.take hm).turn (S := fun i => i = b) ⟨rfl, rfl, rfl, by simp, fun i hi hs => ?_⟩ mp_excl (fun c hc _ => mp_foot.2 hc) (mp_holds.2 ⟨es', clock', ?_, he⟩) (fun c hc => .inl (mp_foot.2 (mp_foot.1 hc))))
  · simp only [Array.getElem?_setIfInBounds]
    rw [if_neg (fun h => hs h.symm)]
  · simp only [Array.getElem?_setIfInBounds, if_pos hlt, if_true]
end
end Go.Proofs.Ytgnhfinabhimpaa

/- More rules for walks: two operations of a region that may come in either order, closures, slices against nil. Of whatever program. -/
namespace Go.Proofs.Ytgnhfinabhimpaa
open Go
set_option linter.unusedVariables false
set_option linter.unusedSimpArgs false
set_option linter.unusedSectionVars false

/-- what stands behind a piece of code: y, then Q -/
@[irreducible] def Nxt (P : Program) (y : Code) (Q : Exit → Act → World → Prop) : Exit → Act → World → Prop := Exit.then (y.wp P Q) Q
section
variable {P : Program} {y x : Code} {Q : Exit → Act → World → Prop} {N id : Nat} {E : Env} {L : List Chunk}
theorem Cod.seqN (h : Cod P (Nxt P y Q) N x E L) : Cod P Q N (.seq x y) E L := fun a w hs hm => wp_seq (by have := h a w hs hm; unfold Nxt at this; exact this)
theorem End.seqN (h : Cod P Q N y E L) : End (Nxt P y Q) N .normal E L := fun a w hs hm => by unfold Nxt; exact h a w hs hm
theorem End.nxt_exit (h : End Q N (.exit id) E L) : End (Nxt P y Q) N (.exit id) E L := fun a w hs hm => by unfold Nxt; exact h a w hs hm
theorem End.nxt_ret (h : End Q N .ret E L) : End (Nxt P y Q) N .ret E L := fun a w hs hm => by unfold Nxt; exact h a w hs hm
theorem PutOk.nxt (h : PutOk Q) : PutOk (Nxt P y Q) := by unfold Nxt; exact h
/-- a piece of code, cut off behind: what is known there hangs on an s -/
theorem cutN {c : Code} {σ : Type} (ok : σ → Prop) (inv : σ → Env) (mem : σ → List Chunk)
    (h2 : ∀ s, ok s → Cod P Q N y (inv s) (mem s)) (h1 : ∀ K' : Act → World → Prop, (∀ s, ok s → ∀ a w, Sat N a (inv s) → Mem w (mem s) → K' a w) → Cod P (Exit.inBlock id (Exit.then K' Q)) N c E L) : Cod P (Exit.inBlock id (Nxt P y Q)) N c E L := by
  unfold Nxt
  exact h1 _ (fun s hs a w ha hm => h2 s hs a w ha hm)
/-- the same without a block -/
theorem cutN0 {c : Code} {σ : Type} (ok : σ → Prop) (inv : σ → Env) (mem : σ → List Chunk)
    (h2 : ∀ s, ok s → Cod P Q N y (inv s) (mem s)) (h1 : ∀ K' : Act → World → Prop, (∀ s, ok s → ∀ a w, Sat N a (inv s) → Mem w (mem s) → K' a w) → Cod P (Exit.then K' Q) N c E L) : Cod P (Nxt P y Q) N c E L := by
  unfold Nxt
  exact h1 _ (fun s hs a w ha hm => h2 s hs a w ha hm)
end
section
variable {P : Program} {ops : Array Oper} {Q : Exit → Act → World → Prop} {N e : Nat} {LT : List Chunk} {E : Env} {L F : List Chunk} {fuel : Nat} {listed : Array Bool}
/-- two that may come up -/
theorem RunT.two (i j : Nat) {o o' : Oper} (hr : Region.ready .any ops listed = [i, j]) (ho : ops[i]? = some o) (hg : o.guard = none) (ho' : ops[j]? = some o') (hg' : o'.guard = none)
    (h : OpT P Q N o E L (fun E' L' => Good e LT (listed.setIfInBounds i true) L' ∧ RunT P ops Q N e LT fuel (listed.setIfInBounds i true) E' L'))
    (h' : OpT P Q N o' E L (fun E' L' => Good e LT (listed.setIfInBounds j true) L' ∧ RunT P ops Q N e LT fuel (listed.setIfInBounds j true) E' L')) : RunT P ops Q N e LT (fuel + 1) listed E L :=
  fun a w hs hM => by
    refine ⟨fun h0 => (by rw [h0] at hr; cases hr), fun k hk => ?_⟩
    rw [hr] at hk
    have hk' : k = i ∨ k = j := by simpa using hk
    rcases hk' with rfl | rfl
    · exact wpOp_step ho fun K' hK' => by
        rw [if_pos (by simp [Region.wanted, hg])]
        exact h K' (fun E' L' hc a w hs hm => hK' a w ⟨hc.1.imp id fun ⟨F, t⟩ => (hm.takes t).left, hc.2 a w hs hm⟩) a w hs hM
    · exact wpOp_step ho' fun K' hK' => by
        rw [if_pos (by simp [Region.wanted, hg'])]
        exact h' K' (fun E' L' hc a w hs hm => hK' a w ⟨hc.1.imp id fun ⟨F, t⟩ => (hm.takes t).left, hc.2 a w hs hm⟩) a w hs hM
end
/-- what only yields a value -/
def quietO (o : Oper) : Bool := match o.op with
  | .move _ | .assign _ | .pick .. | .load .. | .nilCheck _ | .binOp .. | .unOp .. | .convert .. | .fieldAddr .. | .field .. | .indexAddr .. | .index .. | .lookup .. | .extract .. | .build .. | .makeFunc .. | .makeInterface .. => true
  | .call ⟨.builtin .len, _, _⟩ => true
  | _ => false
/-- the operations ahead of the first one that does more than yield a value; the others -/
def splitW : List Oper → List Oper × List Oper
  | [] => ([], [])
  | o :: r => if quietO o then (o :: (splitW r).1, (splitW r).2) else ([], o :: r)
theorem splitW_eq : ∀ l : List Oper, (splitW l).1 = l.take (splitW l).1.length ∧ (splitW l).2 = l.drop (splitW l).1.length
  | [] => ⟨rfl, rfl⟩
  | o :: r => by
    unfold splitW
    split
    · obtain ⟨h1, h2⟩ := splitW_eq r
      exact ⟨by simp only [List.length_cons, List.take_succ_cons]; rw [← h1], by simp only [List.length_cons, List.drop_succ_cons]; exact h2⟩
    · exact ⟨rfl, rfl⟩
/-- a region of which every operation only yields -/
theorem Cod.quietA {P : Program} {Q : Exit → Act → World → Prop} {N id : Nat} {E : Env} {L : List Chunk} {l : List Oper} (hq : l.all quietO = true) (hm : P.follows .mixedOrders = true) (hB : Region.lexB .any l.toArray = true) (h : RunQ P l.toArray Q N l E L) : Cod P Q N (.region id l.toArray true) E L := Cod.quiet hm hB h
/-- the head of a region that draws: it only yields; 'rest' stands behind it -/
def RunS (P : Program) (ops : Array Oper) (rest : List Oper) (Q : Exit → Act → World → Prop) (N : Nat) (l : List Oper) (E : Env) (L : List Chunk) : Prop :=
  ∀ a w, Sat N a E → Mem w L → wpStill P ops w (fun a' => wpList P ops Q rest a' w) l a
section
variable {P : Program} {ops : Array Oper} {rest : List Oper} {Q : Exit → Act → World → Prop} {N : Nat} {E : Env} {L : List Chunk}
theorem Cod.tail {id : Nat} {l : List Oper} (hne : (splitW l).2.isEmpty = false) (hm : P.follows .mixedOrders = true) (hB : Region.lexTailB .any l.toArray (splitW l).1.length = true) (h : RunS P l.toArray (splitW l).2 Q N (splitW l).1 E L) : Cod P Q N (.region id l.toArray true) E L := fun a w hs hM => by
  refine wp_region_still_tail _ hm hB ?_
  have := h a w.drew hs hM.drew
  rw [(splitW_eq l).1, (splitW_eq l).2] at this
  exact this
theorem RunS.nil (h : Run P ops Q N rest E L) : RunS P ops rest Q N [] E L := fun a w hs hM => wpStill_nil (h a w hs hM)
theorem still_val {o : Oper} {a : Act} {w : World} {v : Value} {K : Act → Prop} (h : (execOp a.eval o).run P w = .ok (.value v) w) (hn : K (a.put o.dst v)) : o.still P a w K := by
  unfold Oper.still
  rw [h, Oper.stillUpon_value]
  exact hn
theorem RunS.val {d : Tmp} {op : Op} {ty : TypeId} {pos : String} {aft : Array Edge} {l : List Oper} {v : Value} (h : Still P N ⟨some d, op, ty, pos, aft, none⟩ E L v) (hd : Nat.blt d N = true) (k : RunS P ops rest Q N l ((d, v) :: E) L) : RunS P ops rest Q N (⟨some d, op, ty, pos, aft, none⟩ :: l) E L := by
  intro a w hs hM
  refine wpStill_step fun K hK => ?_
  rw [if_pos (by simp [Region.wanted])]
  exact still_val (h a w hs hM) (hK _ (k _ w (hs.put (dst := some d) v hd) hM))
theorem RunS.yes {d : Tmp} {op : Op} {ty : TypeId} {pos : String} {aft : Array Edge} {l : List Oper} {v : Value} {j : Nat} {want : Bool} (hgd : gd ops E j = some (.bool want)) (h : Still P N ⟨some d, op, ty, pos, aft, some (j, want)⟩ E L v) (hd : Nat.blt d N = true) (k : RunS P ops rest Q N l ((d, v) :: E) L) : RunS P ops rest Q N (⟨some d, op, ty, pos, aft, some (j, want)⟩ :: l) E L := by
  intro a w hs hM
  refine wpStill_step fun K hK => ?_
  rw [wanted_of hs rfl hgd, if_pos (by simp)]
  exact still_val (h a w hs hM) (hK _ (k _ w (hs.put (dst := some d) v hd) hM))
theorem RunS.no {d : Tmp} {op : Op} {ty : TypeId} {pos : String} {aft : Array Edge} {l : List Oper} {j : Nat} {want t : Bool} (hgd : gd ops E j = some (.bool t)) (hne : (t == want) = false) (hd : Nat.blt d N = true) (k : RunS P ops rest Q N l ((d, Go.undef) :: E) L) : RunS P ops rest Q N (⟨some d, op, ty, pos, aft, some (j, want)⟩ :: l) E L := by
  intro a w hs hM
  refine wpStill_step fun K hK => ?_
  rw [wanted_of hs rfl hgd, hne]
  exact hK _ (k _ w (hs.put (dst := some d) Go.undef hd) hM)
theorem RunS.undef {d : Tmp} {op : Op} {ty : TypeId} {pos : String} {aft : Array Edge} {l : List Oper} {j : Nat} {want : Bool} (hgd : gd ops E j = some Go.undef) (hd : Nat.blt d N = true) (k : RunS P ops rest Q N l ((d, Go.undef) :: E) L) : RunS P ops rest Q N (⟨some d, op, ty, pos, aft, some (j, want)⟩ :: l) E L := by
  intro a w hs hM
  refine wpStill_step fun K hK => ?_
  have : Region.wanted ⟨some d, op, ty, pos, aft, some (j, want)⟩ (yielded ops a.tmps) = false := by
    unfold Region.wanted
    simp only [yielded_gd hs hgd, Go.undef]
    rfl
  rw [this]
  exact hK _ (k _ w (hs.put (dst := some d) Go.undef hd) hM)
variable {d0 d : Tmp} {op : Op} {ty : TypeId} {pos : String} {aft : Array Edge} {l : List Oper} {j : Nat} {want t : Bool}
theorem RunS.knowT (hj : slot ops j = some d) (hl : look E d = some (.bool t)) (ht : t = true) (k : RunS P ops rest Q N (⟨some d0, op, ty, pos, aft, some (j, want)⟩ :: l) ((d, .bool true) :: E) L) : RunS P ops rest Q N (⟨some d0, op, ty, pos, aft, some (j, want)⟩ :: l) E L :=
  fun a w hs hM => k a w (hs.sub' (ht ▸ hl)) hM
theorem RunS.knowF (hj : slot ops j = some d) (hl : look E d = some (.bool t)) (ht : t = false) (k : RunS P ops rest Q N (⟨some d0, op, ty, pos, aft, some (j, want)⟩ :: l) ((d, .bool false) :: E) L) : RunS P ops rest Q N (⟨some d0, op, ty, pos, aft, some (j, want)⟩ :: l) E L :=
  fun a w hs hM => k a w (hs.sub' (ht ▸ hl)) hM
theorem RunS.ask (hj : slot ops j = some d) (hl : look E d = some (.bool t)) (h1 : t = true → RunS P ops rest Q N (⟨some d0, op, ty, pos, aft, some (j, want)⟩ :: l) ((d, .bool true) :: E) L) (h2 : t = false → RunS P ops rest Q N (⟨some d0, op, ty, pos, aft, some (j, want)⟩ :: l) ((d, .bool false) :: E) L) : RunS P ops rest Q N (⟨some d0, op, ty, pos, aft, some (j, want)⟩ :: l) E L := fun a w hs hM => by
  cases t with
  | true => exact h1 rfl a w (hs.sub' hl) hM
  | false => exact h2 rfl a w (hs.sub' hl) hM
end

section
variable {P : Program} [Tabbed P] {Q : Exit → Act → World → Prop} {N : Nat} {E : Env} {L L' : List Chunk}
variable {dst : Option Tmp} {ty : TypeId} {pos : String} {aft : Array Edge} {g : Option (Nat × Bool)}
theorem Still.eqlNil {xT yT e : TypeId} {x y : Operand} {ao : Option Addr} {n c n' c' s' b' : Nat} {z' : List Value} (hx : ev E x = some (.slice ao n c)) (hy : ev E y = some (.slice none n' c')) (ht : tyOf P xT = some ⟨.slice e, s', b', z'⟩) :
    Still P N ⟨dst, .binOp .eql xT x y yT, ty, pos, aft, g⟩ E L (.bool ao.isNone) := fun A w hs _ => by
  have := Lib.run_eql_slice_nil (P := P) w xT e ao n c n' c' (tyOk ht).slice
  simp [execOp, hs.ev hx, hs.ev hy, eqGuard, this]
theorem run_equalNilP {P : Program} {t e : TypeId} (h : P.underlying t = some (.pointer e)) (d : Nat) (a : Option Addr) (w : World) : (Op.equalIn (d + 1) t (.pointer a) (.pointer none)).run P w = .ok a.isNone w := by
  cases a <;> simp [Op.equalIn, run_underlying h]
theorem run_neqNilP {P : Program} {t e : TypeId} (h : P.underlying t = some (.pointer e)) (a : Option Addr) (w : World) : (binOp .neq t (.pointer a) (.pointer none)).run P w = .ok (.bool a.isSome) w := by
  simp only [binOp]
  cases a <;> simp [Op.equal, Op.maxDepth, run_equalNilP h 9999]
theorem run_eqlNilP {P : Program} {t e : TypeId} (h : P.underlying t = some (.pointer e)) (a : Option Addr) (w : World) : (binOp .eql t (.pointer a) (.pointer none)).run P w = .ok (.bool a.isNone) w := by
  simp only [binOp]
  simp [Op.equal, Op.maxDepth, run_equalNilP h 9999]
theorem Still.neqNilP {xT yT e : TypeId} {x y : Operand} {a : Option Addr} {s' b' : Nat} {z' : List Value} (hx : ev E x = some (.pointer a)) (hy : ev E y = some (.pointer none)) (ht : tyOf P xT = some ⟨.pointer e, s', b', z'⟩) :
    Still P N ⟨dst, .binOp .neq xT x y yT, ty, pos, aft, g⟩ E L (.bool a.isSome) := fun A w hs _ => by
  simp [execOp, hs.ev hx, hs.ev hy, eqGuard, run_neqNilP (tyOk ht).pointer]
theorem Still.eqlNilP {xT yT e : TypeId} {x y : Operand} {a : Option Addr} {s' b' : Nat} {z' : List Value} (hx : ev E x = some (.pointer a)) (hy : ev E y = some (.pointer none)) (ht : tyOf P xT = some ⟨.pointer e, s', b', z'⟩) :
    Still P N ⟨dst, .binOp .eql xT x y yT, ty, pos, aft, g⟩ E L (.bool a.isNone) := fun A w hs _ => by
  simp [execOp, hs.ev hx, hs.ev hy, eqGuard, run_eqlNilP (tyOk ht).pointer]
def fnB (P : Program) (t : TypeId) : Bool := match P.underlying t with
  | some (.func ..) => true
  | _ => false
theorem run_equalFn {t : TypeId} (h : fnB P t = true) (d : Nat) (v : Value) (hv : v = .nilFunc ∨ ∃ fn a b, v = .func fn a b) (w : World) : (Op.equalIn (d + 1) t v .nilFunc).run P w = .ok (v matches .nilFunc) w := by
  unfold fnB at h
  cases hu : P.underlying t with
  | none => rw [hu] at h; cases h
  | some u =>
    rw [hu] at h
    cases u <;> simp at h
    rcases hv with rfl | ⟨fn, a, b, rfl⟩ <;> simp [Op.equalIn, run_underlying hu]
theorem Still.neqFn {xT yT : TypeId} {x y : Operand} {fn : Go.Fn} {a b : Array Value} (hx : ev E x = some (.func fn a b)) (hy : ev E y = some .nilFunc) (ht : fnB P xT = true) :
    Still P N ⟨dst, .binOp .neq xT x y yT, ty, pos, aft, g⟩ E L (.bool true) := fun A w hs _ => by
  have := run_equalFn ht 9999 (.func fn a b) (.inr ⟨_, _, _, rfl⟩) w
  simp only [execOp, hs.ev hx, hs.ev hy, eqGuard, binOp, Op.equal, Op.maxDepth]
  simp [this]
theorem Still.neqFnNil {xT yT : TypeId} {x y : Operand} (hx : ev E x = some .nilFunc) (hy : ev E y = some .nilFunc) (ht : fnB P xT = true) :
    Still P N ⟨dst, .binOp .neq xT x y yT, ty, pos, aft, g⟩ E L (.bool false) := fun A w hs _ => by
  have := run_equalFn ht 9999 .nilFunc (.inl rfl) w
  simp only [execOp, hs.ev hx, hs.ev hy, eqGuard, binOp, Op.equal, Op.maxDepth]
  simp [this]
def flatB (P : Program) (t : TypeId) : Bool := match P.underlying t with
  | some (.func ..) => true
  | some (.interface _) => true
  | _ => false
theorem isAgg_flat {t : TypeId} (h : flatB P t = true) (w : World) : (Go.isAgg t).run P w = .ok false w := by
  unfold flatB at h
  cases hu : P.underlying t with
  | none => rw [hu] at h; cases h
  | some u =>
    rw [hu] at h
    unfold Go.isAgg
    rw [Sem.run_bind, run_underlying hu w]
    cases u <;> simp at h <;> simp
/-- a function, or an interface's value, read out of a variable -/
theorem Still.loadF {x : Operand} {t bt : TypeId} {b i : Nat} {cs : List Value} {v : Value} {L' : List Chunk} (hx : ev E x = some (.pointer (some ⟨b, i, none⟩))) (ht : flatB P t = true)
    (hm : Take (blk b cs bt) L L') (hv : cs[i]? = some v) : Still P N ⟨dst, .load t x, ty, pos, aft, g⟩ E L v := fun A w hs hM => by
  have hb := blk_holds.1 (hM.has hm)
  have hc : w.cell? ⟨b, i, none⟩ = some v := by rw [hb.cell]; simpa using hv
  simp [execOp, hs.ev hx, Instr.loadAt, Instr.sureAddr, loadVar, isAgg_flat ht, load, hc]
/-- a closure -/
theorem Still.makeFunc {fn : Go.Fn} {first captured : List Operand} {vs us : List Value} (h1 : Evs E first vs) (h2 : Evs E captured us) :
    Still P N ⟨dst, .makeFunc fn first.toArray captured.toArray, ty, pos, aft, g⟩ E L (.func fn vs.toArray us.toArray) := fun A w hs _ => by
  have e1 : first.toArray.map A.eval = vs.toArray := by rw [← hs.evs h1]; simp
  have e2 : captured.toArray.map A.eval = us.toArray := by rw [← hs.evs h2]; simp
  simp only [execOp, Instr.makeFunc, e1, e2, Sem.run_bind, Sem.run_pure, Result.andThen_ok]
end

theorem Takes.all (L : List Chunk) : Takes L L [] := by
  induction L with
  | nil => exact .nil
  | cons c r ih => exact .cons .head ih
theorem Takes.skip {c : Chunk} {cs L F : List Chunk} (h : Takes cs L F) : Takes cs (c :: L) (c :: F) := by
  induction h generalizing c with
  | nil => exact .nil
  | cons h1 _ ih => exact .cons (.tail h1) ih
theorem Take.of_mem {c : Chunk} : ∀ {L : List Chunk}, c ∈ L → ∃ L', Take c L L'
  | d :: L, h => by
    rcases List.mem_cons.1 h with rfl | h
    · exact ⟨L, .head⟩
    · obtain ⟨L', t⟩ := Take.of_mem h
      exact ⟨d :: L', .tail t⟩
theorem Takes.of_perm : ∀ {cs L F : List Chunk}, L.Perm (cs ++ F) → ∃ F', Takes cs L F' ∧ F'.Perm F
  | [], L, F, p => ⟨L, .nil, p⟩
  | c :: cs, L, F, p => by
    obtain ⟨L', t⟩ := Take.of_mem (p.mem_iff.2 (by simp : c ∈ c :: cs ++ F))
    have p2 : L'.Perm (cs ++ F) := List.Perm.cons_inv (t.perm.symm.trans p)
    obtain ⟨F', t2, p3⟩ := Takes.of_perm p2
    exact ⟨F', .cons t t2, p3⟩
/-- the first three go to the end -/
theorem Takes.back {a b c : Chunk} {pre : List Chunk} : Takes (a :: b :: c :: pre) (pre ++ [a, b, c]) [] := by
  obtain ⟨F', t, p⟩ := Takes.of_perm (cs := a :: b :: c :: pre) (L := pre ++ [a, b, c]) (F := []) (by simpa using List.perm_append_comm (l₁ := pre) (l₂ := [a, b, c]))
  rwa [List.Perm.eq_nil p] at t
theorem Takes.back1 {a b c : Chunk} {pre : List Chunk} : Takes (a :: pre) (pre ++ [a, b, c]) [b, c] := by
  have h : ∀ pre : List Chunk, Takes pre (pre ++ [b, c]) [b, c] := by
    intro pre
    induction pre with
    | nil => exact .nil
    | cons d r ih => exact .cons .head ih
  have t : Take a (pre ++ [a, b, c]) (pre ++ [b, c]) := by
    induction pre with
    | nil => exact .head
    | cons d r ih => exact .tail ih
  exact .cons t (h pre)
theorem Reads.any {w : World} {r : Chunk} {R F F' : List Chunk} (t : Take r F F') (hx : r.excl = false) (h : Reads w R F) : Reads w (r :: R) F := .cons t hx (fun h => ⟨h, fun _ hb => hb⟩) h

theorem Reads.blk {w : World} {α : Type} {iα : Inhabited α} {f : α → List Value} {ef : Enc f} {b n : Nat} {cs : List Value} {e : TypeId} {l : List α} {R F F' : List Chunk} (t : Take (Proofs.Ytgnhfinabhimpaa.blk b cs e) F F') (hc : cs = l.flatMap f) (hn : l.length = n) (hm : n ≤ 9223372036854775807) (h : Reads w R F) :
    Reads w (Proofs.Ytgnhfinabhimpaa.rd (some ⟨b, 0, none⟩) n n f l :: R) F := .cons t rd_excl (fun h => ⟨rd_holds.2 ⟨by
      have := Row.of_blk (size := sz f) (n := n) (blk_holds.1 h) (by rw [hc, List.size_toArray, flatMap_len, hn]) hm
      rwa [← hc] , hn⟩, fun b' hb => blk_foot.2 (by have := (rd_foot.1 hb).1; simp [Value.ownBlock] at this; exact this.symm)⟩) h
/-- a chunk that only reads otherwise -/
theorem Take.eq {c d : Chunk} {L : List Chunk} (h : c = d) : Take c (d :: L) L := h ▸ .head
theorem Take.blkEq {b : Nat} {cs cs' : List Value} {t : TypeId} {L : List Chunk} (h : cs = cs') : Take (blk b cs t) (blk b cs' t :: L) L := h ▸ .head
theorem Take.arrEq {α : Type} {iα : Inhabited α} {ao : Option Addr} {n n' cap : Nat} {e : TypeId} {f : α → List Value} {ef : Enc f} {l l' : List α} {L : List Chunk} (h : n = n') (h2 : l = l') : Take (arr ao n cap e f l) (arr ao n' cap e f l' :: L) L := by subst h h2; exact .head

section
variable {σ : Type}
/-- chunks that are put into a bag, or taken out -/
theorem Mem.bagOut {w : World} {cs ds es L L' : List Chunk} (h : Mem w L) (t : Take (bag cs) L L') (p : cs.Perm (ds ++ es)) : Mem w (ds ++ (bag es :: L')) := by
  have hb := bag_holds.1 (h.has t)
  have h1 : Mem w (cs ++ L') := (h.take t).unpack
  have h2 : Mem w (es ++ (ds ++ L')) := h1.perm ((List.Perm.append_right _ (p.trans List.perm_append_comm)).trans (by rw [List.append_assoc]))
  have h3 := h2.pack (fun c hc => hb.2 c (p.mem_iff.2 (by simp [hc])))
  exact h3.perm (List.perm_middle.symm)
theorem Mem.bagIn {w : World} {cs ds es L L' F : List Chunk} (h : Mem w L) (t : Take (bag es) L L') (t2 : Takes ds L' F) (p : cs.Perm (ds ++ es)) (hx : ∀ c ∈ ds, c.excl = true) : Mem w (bag cs :: F) := by
  have hb := bag_holds.1 (h.has t)
  have h1 : Mem w (es ++ L') := (h.take t).unpack
  have h2 : Mem w (es ++ (ds ++ F)) := h1.perm (List.Perm.append_left _ t2.perm)
  have h3 : Mem w (cs ++ F) := by
    refine h2.perm ?_
    rw [← List.append_assoc]
    exact List.Perm.append_right _ (List.perm_append_comm.trans p.symm)
  exact h3.pack (fun c hc => by
    rcases List.mem_append.1 (p.mem_iff.1 hc) with h | h
    · exact hx c h
    · exact hb.2 c h)
theorem Reads.bag {w : World} {α : Type} {iα : Inhabited α} {ao : Option Addr} {n cap : Nat} {e : TypeId} {f : α → List Value} {ef : Enc f} {l : List α} {cs R F F' : List Chunk} (t : Take (Proofs.Ytgnhfinabhimpaa.bag cs) F F') (hm : Proofs.Ytgnhfinabhimpaa.arr ao n cap e f l ∈ cs) (h : Reads w R F) :
    Reads w (Proofs.Ytgnhfinabhimpaa.rd ao n cap f l :: R) F := .cons t rd_excl (fun hb => by
      have ha := arr_holds.1 ((bag_holds.1 hb).1.all _ hm)
      exact ⟨rd_holds.2 ⟨ha.1.row Enc.pos, ha.2⟩, fun b hb => bag_foot.2 ⟨_, hm, arr_foot.2 ⟨(rd_foot.1 hb).1, Nat.lt_of_lt_of_le (rd_foot.1 hb).2 ha.1.le⟩⟩⟩) h
theorem mp_congr {α : Type} {b : Nat} {g : α → Value} {l l' : List (Int × α)} {w : World} {L L' : List Chunk} (h : Mem w L) (t : Take (mp b g l) L L') (e : l.map (fun p => (Value.int .i64 p.1, g p.2)) = l'.map (fun p => (Value.int .i64 p.1, g p.2))) : Mem w (mp b g l' :: L') := by
  obtain ⟨es, clock, h1, h2⟩ := mp_holds.1 (h.has t)
  exact (h.take t).turn (S := Nil) (Keeps.refl _ _) mp_excl (fun _ h _ => h.elim) (mp_holds.2 ⟨es, clock, h1, h2.trans e⟩) (fun c hc => .inl (mp_foot.2 (mp_foot.1 hc)))
/-- what lies in a bag may be read -/
theorem Rdb.bag {α : Type} {iα : Inhabited α} {ao : Option Addr} {n cap : Nat} {e : TypeId} {f : α → List Value} {ef : Enc f} {l : List α} {cs L L' : List Chunk} (t : Take (Proofs.Ytgnhfinabhimpaa.bag cs) L L') (h : Proofs.Ytgnhfinabhimpaa.arr ao n cap e f l ∈ cs) : Rdb L ao n cap f l := fun w hm => by
  have hb := bag_holds.1 (hm.has t)
  have ha := arr_holds.1 (hb.1.all _ h)
  exact ⟨ha.1.row Enc.pos, ha.2⟩
end
end Go.Proofs.Ytgnhfinabhimpaa

/- Plain mathematics of modules as bytes: numbers by sevens, a check sum of 16 bits. Nothing of the program stands here. -/
namespace Go.Proofs.Ytgnhfinabhimpaa.ImgM

/-- an instruction, a unit, a module -/
structure Ins where
  op : Int
  a : Int
  n : Int
structure Unt where
  kind : Int
  params : Int
  locals : List Int
  result : Int
  takes : Int
  code : List Ins
structure Mdl where
  boxes : List (Int × Int)
  units : List Unt

/-- 0, -1, 1, -2 as 0, 1, 2, 3 -/
def zig (n : Int) : Nat := if n < 0 then (-2 * n - 1).toNat else (2 * n).toNat
def zag (x : Nat) : Int := if x % 2 = 0 then ((x / 2 : Nat) : Int) else -((x / 2 : Nat) : Int) - 1
theorem zag_zig (n : Int) : zag (zig n) = n := by
  unfold zag zig
  split <;> split <;> omega
theorem zig_zag (x : Nat) : zig (zag x) = x := by
  unfold zag zig
  split <;> split <;> omega
def In64 (n : Int) : Prop := -9223372036854775808 ≤ n ∧ n ≤ 9223372036854775807
theorem zig_lt {n : Int} (h : In64 n) : zig n < 18446744073709551616 := by
  unfold zig
  have := h.1; have := h.2
  split <;> omega

/-- seven bits a byte, the lowest ones first -/
def leb (x : Nat) : List Nat := if x < 128 then [x] else (x % 128 + 128) :: leb (x / 128)
termination_by x
decreasing_by omega
theorem leb_lt {x : Nat} (h : x < 128) : leb x = [x] := by rw [leb, if_pos h]
theorem leb_ge {x : Nat} (h : ¬ x < 128) : leb x = (x % 128 + 128) :: leb (x / 128) := by rw [leb, if_neg h]
theorem leb_len (m : Nat) : ∀ x : Nat, x < 128 ^ (m + 1) → (leb x).length ≤ m + 1 := by
  induction m with
  | zero => intro x h; rw [leb_lt (by simpa using h)]; simp
  | succ m ih =>
    intro x h
    by_cases hx : x < 128
    · rw [leb_lt hx]; simp
    · rw [leb_ge hx]
      have := ih (x / 128) (by rw [Nat.div_lt_iff_lt_mul (by decide)]; rw [Nat.pow_succ] at h; exact h)
      simp; omega
theorem leb_pos (x : Nat) : 1 ≤ (leb x).length := by
  by_cases hx : x < 128
  · rw [leb_lt hx]; simp
  · rw [leb_ge hx]; simp
theorem leb_byte : ∀ x : Nat, ∀ c ∈ leb x, c < 256 := by
  intro x
  induction x using leb.induct with
  | case1 x h => rw [leb_lt h]; simp; omega
  | case2 x h ih =>
    rw [leb_ge h]
    intro c hc
    rcases List.mem_cons.1 hc with rfl | hc
    · omega
    · exact ih c hc

def num (n : Int) : List Nat := leb (zig n)
theorem num_len {n : Int} (h : In64 n) : (num n).length ≤ 10 := leb_len 9 _ (Nat.lt_trans (zig_lt h) (by decide))
theorem num_pos (n : Int) : 1 ≤ (num n).length := leb_pos _
theorem num_byte (n : Int) : ∀ c ∈ num n, c < 256 := leb_byte _

def nums (l : List Int) : List Nat := l.flatMap num
theorem nums_len {l : List Int} (h : ∀ n ∈ l, In64 n) : (nums l).length ≤ 10 * l.length := by
  induction l with
  | nil => simp [nums]
  | cons a r ih =>
    have h1 := num_len (h a (by simp))
    have h2 := ih (fun n hn => h n (by simp [hn]))
    simp only [nums, List.flatMap_cons, List.length_append, List.length_cons] at *
    omega
theorem nums_append (a b : List Int) : nums (a ++ b) = nums a ++ nums b := by simp [nums]
theorem nums_cons (a : Int) (b : List Int) : nums (a :: b) = num a ++ nums b := by simp [nums]
theorem nums_take (l : List Int) (k : Nat) (hk : k < l.length) : nums (l.take (k + 1)) = nums (l.take k) ++ num (l.getD k 0) := by
  rw [List.take_succ_eq_append_getElem hk, nums_append]
  simp [nums, List.getD_eq_getElem?_getD, hk]
theorem nums_byte (l : List Int) : ∀ c ∈ nums l, c < 256 := by
  intro c hc
  obtain ⟨n, _, h⟩ := List.mem_flatMap.1 hc
  exact num_byte n c h

/-- the numbers of an instruction, a unit, a module -/
def insN (i : Ins) : List Int := [i.op, i.a, i.n]
def codeN (l : List Ins) : List Int := l.flatMap insN
def untN (u : Unt) : List Int := [u.kind, u.params] ++ ((u.locals.length : Int) :: u.locals) ++ [u.result, u.takes, (u.code.length : Int)] ++ codeN u.code
def boxN (b : Int × Int) : List Int := [b.1, b.2]
def mdlN (m : Mdl) : List Int := (m.boxes.length : Int) :: m.boxes.flatMap boxN ++ (m.units.length : Int) :: m.units.flatMap untN
def body (m : Mdl) : List Nat := nums (mdlN m)

theorem flat_take {α β : Type} (f : α → List β) (l : List α) (k : Nat) : (l.take k).flatMap f ++ (l.drop k).flatMap f = l.flatMap f := by
  rw [← List.flatMap_append, List.take_append_drop]
theorem flat_succ {α β : Type} [Inhabited α] (f : α → List β) (l : List α) (k : Nat) (hk : k < l.length) : (l.take (k + 1)).flatMap f = (l.take k).flatMap f ++ f (l.getD k default) := by
  rw [List.take_succ_eq_append_getElem hk, List.flatMap_append]
  simp [List.getD_eq_getElem?_getD, hk]
/-- what is written ahead of the boxes from k on; of the units from k on; inside a unit -/
def pre1 (m : Mdl) (k : Nat) : List Int := (m.boxes.length : Int) :: (m.boxes.take k).flatMap boxN
def pre2 (m : Mdl) (k : Nat) : List Int := (m.boxes.length : Int) :: m.boxes.flatMap boxN ++ (m.units.length : Int) :: (m.units.take k).flatMap untN
def untH (u : Unt) : List Int := [u.kind, u.params] ++ ((u.locals.length : Int) :: u.locals) ++ [u.result, u.takes, (u.code.length : Int)]
instance : Inhabited Ins := ⟨⟨0, 0, 0⟩⟩
instance : Inhabited Unt := ⟨⟨0, 0, [], 0, 0, []⟩⟩
theorem pre1_rest (m : Mdl) (k : Nat) : pre1 m k ++ ((m.boxes.drop k).flatMap boxN ++ (m.units.length : Int) :: m.units.flatMap untN) = mdlN m := by
  have := flat_take boxN m.boxes k
  simp only [pre1, mdlN, List.cons_append, ← List.append_assoc, this]
theorem pre1_succ (m : Mdl) (k : Nat) (hk : k < m.boxes.length) : pre1 m (k + 1) = pre1 m k ++ boxN (m.boxes.getD k (0, 0)) := by
  simp only [pre1, List.cons_append]
  rw [flat_succ boxN m.boxes k hk]
  rfl
theorem pre1_all (m : Mdl) : pre1 m m.boxes.length ++ [(m.units.length : Int)] = pre2 m 0 := by
  simp [pre1, pre2]
theorem pre2_rest (m : Mdl) (k : Nat) : pre2 m k ++ (m.units.drop k).flatMap untN = mdlN m := by
  have := flat_take untN m.units k
  simp only [pre2, mdlN, List.cons_append, List.append_assoc, this]
theorem pre2_succ (m : Mdl) (k : Nat) (hk : k < m.units.length) : pre2 m (k + 1) = pre2 m k ++ untN (m.units.getD k default) := by
  simp only [pre2, List.cons_append, List.append_assoc]
  rw [flat_succ untN m.units k hk]
theorem pre2_all (m : Mdl) : pre2 m m.units.length = mdlN m := by simp [pre2, mdlN]
theorem unt_take (u : Unt) (k : Nat) : untH u ++ codeN (u.code.take k) ++ codeN (u.code.drop k) = untN u := by
  have := flat_take insN u.code k
  simp only [untH, untN, codeN, List.append_assoc, this]
theorem code_succ (u : Unt) (k : Nat) (hk : k < u.code.length) : codeN (u.code.take (k + 1)) = codeN (u.code.take k) ++ insN (u.code.getD k default) := flat_succ insN u.code k hk
/-- a part of all numbers: they fit, and their bytes are not too many -/
theorem part_ok {m : Mdl} (hw : ∀ n ∈ mdlN m, In64 n) {a b c : List Int} (h : a ++ b ++ c = mdlN m) : (∀ n ∈ b, In64 n) ∧ (nums a).length ≤ 10 * (mdlN m).length ∧ (nums (a ++ b)).length ≤ (nums (mdlN m)).length := by
  rw [← h] at hw ⊢
  refine ⟨fun n hn => hw n (by simp [hn]), ?_, ?_⟩
  · have := nums_len (l := a) (fun n hn => hw n (by simp [hn]))
    simp only [List.length_append]
    omega
  · rw [nums_append (a ++ b), List.length_append]
    omega

/-- the register of 16 bits -/
def bit1 (y : BitVec 16) : BitVec 16 := if y.toNat / 32768 = 1 then (y <<< 1) ^^^ 4129#16 else y <<< 1
def bitN : Nat → BitVec 16 → BitVec 16
  | 0, x => x
  | n + 1, x => bit1 (bitN n x)
def byte1 (x : BitVec 16) (c : Nat) : BitVec 16 := bitN 8 (x ^^^ BitVec.ofNat 16 (c * 256))
def crcFrom (x : BitVec 16) (l : List Nat) : BitVec 16 := l.foldl byte1 x
def crc (l : List Nat) : Nat := (crcFrom 65535#16 l).toNat
theorem crcFrom_append (x : BitVec 16) (a b : List Nat) : crcFrom x (a ++ b) = crcFrom (crcFrom x a) b := by simp [crcFrom]
theorem crcFrom_take (x : BitVec 16) (l : List Nat) (k : Nat) (hk : k < l.length) : crcFrom x (l.take (k + 1)) = byte1 (crcFrom x (l.take k)) (l.getD k 0) := by
  rw [List.take_succ_eq_append_getElem hk, crcFrom_append]
  simp [crcFrom, List.getD_eq_getElem?_getD, hk]
theorem crc_lt (l : List Nat) : crc l < 65536 := (crcFrom 65535#16 l).isLt

/-- the whole -/
def bytes (m : Mdl) : List Nat := body m ++ [crc (body m) / 256, crc (body m) % 256]

end Go.Proofs.Ytgnhfinabhimpaa.ImgM
