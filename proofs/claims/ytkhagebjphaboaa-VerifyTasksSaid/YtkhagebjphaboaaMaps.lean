/- Maps of ints to things, over states that are said by lists. Of whatever program whose types a table says. -/
import Derived.Test.YtkhagebjphaboaaEnc
import Derived.Carry
namespace Go.Proofs.Ytkhagebjphaboaa
open Go
set_option linter.unusedVariables false
set_option linter.unusedSimpArgs false
set_option linter.unusedSectionVars false

def mfind {α : Type} : List (Int × α) → Int → Option α
  | [], _ => none
  | (q, a) :: r, k => if q = k then some a else mfind r k
def mput {α : Type} : List (Int × α) → Int → α → List (Int × α)
  | [], k, a => [(k, a)]
  | (q, b) :: r, k, a => if q = k then (q, a) :: r else (q, b) :: mput r k a

section
variable {α : Type} (g : α → Value)
theorem findNow_ints (k : Int) : ∀ (es : List MapEntry) (l : List (Int × α)) (i : Nat), es.map (fun e => (e.key, e.val)) = l.map (fun p => (Value.int .i64 p.1, g p.2)) →
    match mfind l k with
    | none => Instr.findNow (.int .i64) (.int .i64 k) es i = some none
    | some a => ∃ j, Instr.findNow (.int .i64) (.int .i64 k) es i = some (some (i + j, g a)) ∧ (es[j]?).map (·.key) = some (.int .i64 k) ∧
        ∀ a', (es.modify j (fun e => { e with key := .int .i64 k, val := g a' })).map (fun e => (e.key, e.val)) = (mput l k a').map (fun p => (Value.int .i64 p.1, g p.2))
  | [], [], i, _ => by simp [mfind, Instr.findNow]
  | [], _ :: _, i, h => by simp at h
  | _ :: _, [], i, h => by simp at h
  | e :: es, (q, b) :: l, i, h => by
    simp only [List.map_cons, List.cons.injEq, Prod.mk.injEq] at h
    obtain ⟨⟨h1, h2⟩, h3⟩ := h
    simp only [mfind]
    by_cases hq : q = k
    · subst hq
      simp only [if_pos rfl]
      refine ⟨0, by simp [Instr.findNow, Instr.sameNow, h1, h2], by simp [h1], fun a' => ?_⟩
      simp only [List.modify_zero_cons, List.map_cons, mput, if_true, h3]
    · rw [if_neg hq]
      have ih := findNow_ints k es l (i + 1) h3
      have hne : (k == q) = false := by rw [beq_eq_false_iff_ne]; exact fun h => hq h.symm
      cases hm : mfind l k with
      | none =>
        rw [hm] at ih
        simp only at ih ⊢
        simp [Instr.findNow, Instr.sameNow, h1, hne, ih]
      | some a =>
        rw [hm] at ih
        simp only at ih ⊢
        obtain ⟨j, i1, i2, i3⟩ := ih
        refine ⟨j + 1, ?_, by simpa using i2, fun a' => ?_⟩
        · simp [Instr.findNow, Instr.sameNow, h1, hne, i1]; omega
        · rw [List.modify_succ_cons, List.map_cons, i3 a']
          simp [mput, hq, h1, h2]
theorem mput_new (k : Int) (a : α) : ∀ l : List (Int × α), mfind l k = none → mput l k a = l ++ [(k, a)]
  | [], _ => rfl
  | (q, b) :: r, h => by
    unfold mfind at h
    by_cases hq : q = k
    · rw [if_pos hq] at h; cases h
    · rw [if_neg hq] at h
      simp [mput, hq, mput_new k a r h]
end

section
variable {α : Type}
/-- a map of one's own, ints to things -/
@[irreducible] def mp (b : Nat) (g : α → Value) (l : List (Int × α)) : Chunk where
  holds w := ∃ es clock, w.heap[b]? = some (.map es clock) ∧ es.toList.map (fun e => (e.key, e.val)) = l.map (fun p => (Value.int .i64 p.1, g p.2))
  foot k := k = b
  excl := true
  stab k hs h := by
    obtain ⟨es, clock, h1, h2⟩ := h
    exact ⟨es, clock, k.at h1 (hs _ rfl), h2⟩
  lt h k hk := by
    obtain ⟨es, clock, h1, h2⟩ := h
    subst hk
    exact (Array.getElem?_eq_some_iff.1 h1).1
variable {b : Nat} {g : α → Value} {l : List (Int × α)} {w : World}
theorem mp_holds : (mp b g l).holds w ↔ ∃ es clock, w.heap[b]? = some (.map es clock) ∧ es.toList.map (fun e => (e.key, e.val)) = l.map (fun p => (Value.int .i64 p.1, g p.2)) := by unfold mp; exact Iff.rfl
theorem mp_foot {k : Nat} : (mp b g l).foot k ↔ k = b := by unfold mp; exact Iff.rfl
theorem mp_excl : (mp b g l).excl = true := by unfold mp; rfl

theorem run_checkInt {P : Program} {kt : TypeId} (hk : P.underlying kt = some (.int .i64)) (em : Bool) (k : Int) (w : World) : (Instr.checkKey em 10000 kt (.int .i64 k)).run P w = .ok () w := by
  rw [show (10000 : Nat) = 9999 + 1 from rfl]
  unfold Instr.checkKey
  simp [run_underlying hk]
theorem run_findInt {P : Program} {kt : TypeId} (hk : P.underlying kt = some (.int .i64)) (k : Int) (es : List MapEntry) (r) (h : Instr.findNow (.int .i64) (.int .i64 k) es 0 = some r) (w : World) : (Instr.findKey kt (.int .i64 k) es).run P w = .ok r w := by
  unfold Instr.findKey
  simp [run_underlying hk, h]

variable {P : Program} [Tabbed P] {Q : Exit → Act → World → Prop} {N : Nat} {E : Env} {L L' : List Chunk}
variable {dst : Option Tmp} {ty : TypeId} {pos : String} {aft : Array Edge} {gu : Option (Nat × Bool)}
variable {t kt et s1 b1 s2 b2 : Nat} {z1 z2 : List Value}

theorem OpT.makeMap {C : Env → List Chunk → Prop} (g : α → Value) (hd : fitsB N dst = true)
    (k : ∀ b, C (upd dst (.map (some b)) E) (mp b g [] :: L)) : OpT P Q N ⟨dst, .makeMap t none, ty, pos, aft, gu⟩ E L C := fun K hK A w hS hM => by
  have hr : (execOp A.eval ⟨dst, .makeMap t none, ty, pos, aft, gu⟩).run P w = .ok (.value (.map (some w.heap.size))) (w.alloc (.map #[] 0)) := by
    simp only [execOp, Sem.run_bind, Option.map_none, RowKit.run_makeMap]
    rfl
  unfold Oper.wp
  rw [hr]
  refine hK _ _ (k w.heap.size) _ _ (hS.put _ hd) (hM.add ((Keeps.refl _ _).alloc _) (mp_holds.2 ⟨#[], 0, ?_, rfl⟩) (fun b hb => by rw [mp_foot.1 hb]; exact Nat.le_refl _))
  exact heap_alloc_new w _

theorem run_lookupMp {ok : Bool} {k : Int} (ht : tyOf P t = some ⟨.map kt et, s1, b1, z1⟩) (hkt : tyOf P kt = some ⟨.int .i64, s2, b2, z2⟩) (z : Value) (hz : (zeroValue et).run P w = .ok z w) (hm : (mp b g l).holds w) :
    (Instr.lookup t (.map (some b)) (.int .i64 k) ok).run P w = .ok (if ok then .tuple #[((mfind l k).map g).getD z, .bool (mfind l k).isSome] else ((mfind l k).map g).getD z) w := by
  obtain ⟨es, clock, h1, h2⟩ := mp_holds.1 hm
  have h3 := findNow_ints g k es.toList l 0 h2
  have hu := (tyOk ht).map
  have hk := (tyOk hkt).int
  unfold Instr.lookup
  cases hf : mfind l k with
  | none =>
    rw [hf] at h3
    simp only at h3
    simp [run_underlying hu, MapKept.run_getObj_map h1, run_checkInt hk, run_findInt hk k _ _ h3, hz]
  | some a =>
    rw [hf] at h3
    obtain ⟨j, h3, -⟩ := h3
    simp [run_underlying hu, MapKept.run_getObj_map h1, run_checkInt hk, run_findInt hk k _ _ h3]
/-- m[k], with ok or without -/
theorem Still.lookup {x y : Operand} {k : Int} {ok : Bool} {z : Value} (hx : ev E x = some (.map (some b))) (hy : ev E y = some (.int .i64 k)) (ht : tyOf P t = some ⟨.map kt et, s1, b1, z1⟩) (hkt : tyOf P kt = some ⟨.int .i64, s2, b2, z2⟩)
    (hz : (P.info? et).map (·.zero) = some (some z)) (hm : Take (mp b g l) L L') :
    Still P N ⟨dst, .lookup t x y ok, ty, pos, aft, gu⟩ E L (if ok then .tuple #[((mfind l k).map g).getD z, .bool (mfind l k).isSome] else ((mfind l k).map g).getD z) := fun A w hS hM => by
  have hz' : (zeroValue et).run P w = .ok z w := by
    cases hi : P.info? et with
    | none => rw [hi] at hz; cases hz
    | some i => rw [hi] at hz; simp at hz; simp [zeroValue, typeInfo, hi, hz]
  simp only [execOp, hS.ev hx, hS.ev hy, Sem.run_bind, run_lookupMp ht hkt z hz' (hM.has hm), Result.andThen_ok, Sem.run_pure]

theorem Still.lookupOk {x y : Operand} {k : Int} {z : Value} (hx : ev E x = some (.map (some b))) (hy : ev E y = some (.int .i64 k)) (ht : tyOf P t = some ⟨.map kt et, s1, b1, z1⟩) (hkt : tyOf P kt = some ⟨.int .i64, s2, b2, z2⟩)
    (hz : (P.info? et).map (·.zero) = some (some z)) (hm : Take (mp b g l) L L') :
    Still P N ⟨dst, .lookup t x y true, ty, pos, aft, gu⟩ E L (.tuple #[((mfind l k).map g).getD z, .bool (mfind l k).isSome]) := Still.lookup (ok := true) hx hy ht hkt hz hm
theorem Still.lookup1 {x y : Operand} {k : Int} {z : Value} (hx : ev E x = some (.map (some b))) (hy : ev E y = some (.int .i64 k)) (ht : tyOf P t = some ⟨.map kt et, s1, b1, z1⟩) (hkt : tyOf P kt = some ⟨.int .i64, s2, b2, z2⟩)
    (hz : (P.info? et).map (·.zero) = some (some z)) (hm : Take (mp b g l) L L') :
    Still P N ⟨dst, .lookup t x y false, ty, pos, aft, gu⟩ E L (((mfind l k).map g).getD z) := Still.lookup (ok := false) hx hy ht hkt hz hm

theorem Still.lookupOkN {x y : Operand} {k : Int} {z : Value} (hx : ev E x = some (.map (some b))) (hy : ev E y = some (.int .i64 k)) (ht : tyOf P t = some ⟨.map kt et, s1, b1, z1⟩) (hkt : tyOf P kt = some ⟨.int .i64, s2, b2, z2⟩)
    (hz : (P.info? et).map (·.zero) = some (some z)) (hm : Take (mp b g l) L L') (hf : mfind l k = none) : Still P N ⟨dst, .lookup t x y true, ty, pos, aft, gu⟩ E L (.tuple #[z, .bool false]) := by
  have := Still.lookupOk (N := N) (dst := dst) (ty := ty) (pos := pos) (aft := aft) (gu := gu) hx hy ht hkt hz hm
  rw [hf] at this; exact this
theorem Still.lookupOkS {x y : Operand} {k : Int} {z : Value} {a : α} (hx : ev E x = some (.map (some b))) (hy : ev E y = some (.int .i64 k)) (ht : tyOf P t = some ⟨.map kt et, s1, b1, z1⟩) (hkt : tyOf P kt = some ⟨.int .i64, s2, b2, z2⟩)
    (hz : (P.info? et).map (·.zero) = some (some z)) (hm : Take (mp b g l) L L') (hf : mfind l k = some a) : Still P N ⟨dst, .lookup t x y true, ty, pos, aft, gu⟩ E L (.tuple #[g a, .bool true]) := by
  have := Still.lookupOk (N := N) (dst := dst) (ty := ty) (pos := pos) (aft := aft) (gu := gu) hx hy ht hkt hz hm
  rw [hf] at this; exact this
theorem Still.lookup1N {x y : Operand} {k : Int} {z : Value} (hx : ev E x = some (.map (some b))) (hy : ev E y = some (.int .i64 k)) (ht : tyOf P t = some ⟨.map kt et, s1, b1, z1⟩) (hkt : tyOf P kt = some ⟨.int .i64, s2, b2, z2⟩)
    (hz : (P.info? et).map (·.zero) = some (some z)) (hm : Take (mp b g l) L L') (hf : mfind l k = none) : Still P N ⟨dst, .lookup t x y false, ty, pos, aft, gu⟩ E L z := by
  have := Still.lookup1 (N := N) (dst := dst) (ty := ty) (pos := pos) (aft := aft) (gu := gu) hx hy ht hkt hz hm
  rw [hf] at this; exact this
theorem Still.lookup1S {x y : Operand} {k : Int} {z : Value} {a : α} (hx : ev E x = some (.map (some b))) (hy : ev E y = some (.int .i64 k)) (ht : tyOf P t = some ⟨.map kt et, s1, b1, z1⟩) (hkt : tyOf P kt = some ⟨.int .i64, s2, b2, z2⟩)
    (hz : (P.info? et).map (·.zero) = some (some z)) (hm : Take (mp b g l) L L') (hf : mfind l k = some a) : Still P N ⟨dst, .lookup t x y false, ty, pos, aft, gu⟩ E L (g a) := by
  have := Still.lookup1 (N := N) (dst := dst) (ty := ty) (pos := pos) (aft := aft) (gu := gu) hx hy ht hkt hz hm
  rw [hf] at this; exact this

/-- m[k] = v -/
theorem OpT.mapUpdate {x y v : Operand} {key : Int} {a : α} {C : Env → List Chunk → Prop} (hx : ev E x = some (.map (some b))) (hy : ev E y = some (.int .i64 key)) (hv : ev E v = some (g a))
    (ht : tyOf P t = some ⟨.map kt et, s1, b1, z1⟩) (hkt : tyOf P kt = some ⟨.int .i64, s2, b2, z2⟩) (hm : Take (mp b g l) L L') (hd : fitsB N dst = true)
    (k : C (upd dst undef E) (mp b g (mput l key a) :: L')) : OpT P Q N ⟨dst, .mapUpdate t x y v, ty, pos, aft, gu⟩ E L C := fun K hK A w hS hM => by
  obtain ⟨k', rfl⟩ : ∃ k', k' = key := ⟨_, rfl⟩
  obtain ⟨es, clock, h1, h2⟩ := mp_holds.1 (hM.has hm)
  have h3 := findNow_ints g k' es.toList l 0 h2
  have hu := (tyOk ht).map
  have hk := (tyOk hkt).int
  have hlt : b < w.heap.size := (Array.getElem?_eq_some_iff.1 h1).1
  have key : ∃ es' clock', (Instr.mapUpdate t (.map (some b)) (.int .i64 k') (g a)).run P w = .ok () { w with heap := w.heap.setIfInBounds b (.map es' clock') } ∧ es'.toList.map (fun e => (e.key, e.val)) = (mput l k' a).map (fun p => (Value.int .i64 p.1, g p.2)) := by
    unfold Instr.mapUpdate
    cases hf : mfind l k' with
    | none =>
      rw [hf] at h3
      simp only at h3
      refine ⟨es.push { key := .int .i64 k', val := g a, born := clock }, clock + 1, ?_, ?_⟩
      · simp [run_underlying hu, MapKept.run_getObj_map h1, run_checkInt hk, run_findInt hk k' _ _ h3, MapKept.run_setObj_map _ h1]
      · rw [mput_new _ _ _ hf]; simp [h2]
    | some a0 =>
      rw [hf] at h3
      obtain ⟨j, h3, h4, h5⟩ := h3
      have h4' : (es[j]?).map (·.key) = some (.int .i64 k') := by simpa using h4
      refine ⟨es.modify j fun e => { e with key := .int .i64 k', val := g a }, clock, ?_, ?_⟩
      · have hst : (Instr.keyThatStays (.int .i64 k') (.int .i64 k')).run P w = .ok (.int .i64 k') w := by
          unfold Instr.keyThatStays
          rw [show (10000 : Nat) = 9999 + 1 from rfl]
          simp [Instr.sameBits]
        simp [run_underlying hu, MapKept.run_getObj_map h1, run_checkInt hk, run_findInt hk k' _ _ h3, h4', hst, MapKept.run_setObj_map _ h1]
      · rw [Array.toList_modify]; exact h5 a
  obtain ⟨es', clock', hrun, he⟩ := key
  have hr : (execOp A.eval ⟨dst, .mapUpdate t x y v, ty, pos, aft, gu⟩).run P w = .ok .skip { w with heap := w.heap.setIfInBounds b (.map es' clock') } := by
    simp only [execOp, hS.ev hx, hS.ev hy, hS.ev hv, Sem.run_bind, hrun, Result.andThen_ok, Sem.run_pure]
  unfold Oper.wp
  rw [hr]
  refine hK _ _ k _ _ (hS.put _ hd) ((hM.take hm).turn (S := fun i => i = b) ⟨rfl, rfl, rfl, by simp, fun i hi hs => ?_⟩ mp_excl (fun c hc _ => mp_foot.2 hc) (mp_holds.2 ⟨es', clock', ?_, he⟩) (fun c hc => .inl (mp_foot.2 (mp_foot.1 hc))))
  · simp only [Array.getElem?_setIfInBounds]
    rw [if_neg (fun h => hs h.symm)]
  · simp only [Array.getElem?_setIfInBounds, if_pos hlt, if_true]
end
end Go.Proofs.Ytkhagebjphaboaa
