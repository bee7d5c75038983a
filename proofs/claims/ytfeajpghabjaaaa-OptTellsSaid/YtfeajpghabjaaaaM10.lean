/- Operations that build structs and slices, append, cut slices, over states that are said by lists. Of whatever program whose types a table says. -/
import Derived.Test.YtfeajpghabjaaaaM09
import Derived.Great.BuildSlice
import Derived.Laws.MakeOwn
namespace Go.Proofs.Ytfeajpghabjaaaa
open Go
set_option linter.unusedVariables false
set_option linter.unusedSimpArgs false
set_option linter.unusedSectionVars false

theorem fold_put (off : Nat) : ∀ (vs : List Value) (k : Nat) (cs : Array Value), off + k + vs.length ≤ cs.size →
    ((vs.zipIdx k).foldl (fun cs (x : Value × Nat) => cs.setIfInBounds (off + x.2) x.1) cs).toList = cs.toList.take (off + k) ++ vs ++ cs.toList.drop (off + k + vs.length)
  | [], k, cs, h => by simp
  | v :: vs, k, cs, h => by
    simp only [List.length_cons] at h
    rw [List.zipIdx_cons, List.foldl_cons, fold_put off vs (k + 1) _ (by simp; omega)]
    have ho : off + k < cs.toList.length := by simp; omega
    simp only [Array.toList_setIfInBounds, List.length_cons]
    rw [List.take_set, List.drop_set_of_lt (by omega), show off + (k + 1) = off + k + 1 by omega, List.take_succ_eq_append_getElem ho, List.set_append_right _ _ (by simp; omega)]
    simp only [List.length_take, Nat.min_eq_left (Nat.le_of_lt ho), Nat.sub_self, List.set_cons_zero, List.append_assoc, List.cons_append, List.nil_append]
    rw [show off + k + 1 + vs.length = off + k + (vs.length + 1) by omega]

/-- cells, filled part by part -/
inductive Fill (E : Env) (pl : Nat → Option (Nat × Nat)) : List Value → List (Nat × Operand) → List Value → Prop
  | nil {cs : List Value} : Fill E pl cs [] cs
  | cons {cs cs1 cs2 vs : List Value} {i off size : Nat} {x : Operand} {v : Value} {r : List (Nat × Operand)} : pl i = some (off, size) → ev E x = some v → v.cells = vs.toArray → vs.length = size → Put cs off vs cs1 → Fill E pl cs1 r cs2 → Fill E pl cs ((i, x) :: r) cs2
theorem Fill.run {E : Env} {N : Nat} {A : Act} (hS : Sat N A E) {pl : Nat → Option (Nat × Nat)} {cs cs' : List Value} {parts : List (Nat × Operand)} (h : Fill E pl cs parts cs') :
    Instr.fill pl cs.toArray (parts.map fun p => (p.1, A.eval p.2)) = some cs'.toArray := by
  induction h with
  | nil => rfl
  | @cons cs cs1 cs2 vs i off size x v r h1 h2 h3 h4 h5 _ ih =>
    obtain ⟨hle, he⟩ := h5.eq
    have e : (v.cells.zipIdx.foldl (fun cs (x : Value × Nat) => cs.setIfInBounds (off + x.2) x.1) cs.toArray) = cs1.toArray := by
      apply Array.ext'
      have := fold_put off vs 0 cs.toArray (by simpa using hle)
      rw [h3, ← Array.foldl_toList, Array.toList_zipIdx]
      simp only [Nat.add_zero] at this
      rw [this, he]
    simp only [List.map_cons, Instr.fill, h1, hS.ev h2]
    rw [if_neg (by rw [h3]; simp [h4]; omega)]
    refine Eq.trans ?_ ih
    congr 1

inductive App : List Value → List Value → List Value → Prop
  | nil {r : List Value} : App [] r r
  | cons {x : Value} {a r r' : List Value} : App a r r' → App (x :: a) r (x :: r')
theorem App.eq {a b c : List Value} (h : App a b c) : c = a ++ b := by induction h with | nil => rfl | cons _ ih => rw [ih]; rfl
/-- n times z -/
inductive Rep (z : List Value) : Nat → List Value → Prop
  | zero : Rep z 0 []
  | succ {n : Nat} {r r' : List Value} : Rep z n r → App z r r' → Rep z (n + 1) r'
theorem Rep.eq {z r : List Value} {n : Nat} (h : Rep z n r) : r = (List.replicate n z).flatten := by
  induction h with
  | zero => rfl
  | succ _ h2 ih => rw [h2.eq, ih, List.replicate_succ, List.flatten_cons]
theorem range_mod (z : Array Value) (hz : 0 < z.size) : ∀ n, (Array.range (n * z.size)).map (z[· % z.size]!) = (List.replicate n z.toList).flatten.toArray := by
  intro n
  have hlen : ∀ m, (List.replicate m z.toList).flatten.length = m * z.size := by
    intro m
    induction m with
    | zero => simp
    | succ m ih => rw [List.replicate_succ, List.flatten_cons, List.length_append, ih, Nat.add_mul]; simp; omega
  have hget : ∀ m j, j < m * z.size → (List.replicate m z.toList).flatten[j]? = z[j % z.size]? := by
    intro m
    induction m with
    | zero => intro j hj; simp at hj
    | succ m ih =>
      intro j hj
      rw [List.replicate_succ, List.flatten_cons]
      by_cases h : j < z.size
      · rw [List.getElem?_append_left (by simpa using h), Nat.mod_eq_of_lt h]; simp
      · rw [List.getElem?_append_right (by simp; omega)]
        rw [Nat.add_mul] at hj
        have := ih (j - z.size) (by omega)
        rw [Nat.mod_eq_sub_mod (by omega)]
        simpa using this
  apply Array.ext
  · simp [hlen n]
  · intro i h1 h2
    simp only [Array.size_map, Array.size_range] at h1
    have h3 := hget n i h1
    have hm : i % z.size < z.size := Nat.mod_lt _ hz
    rw [Array.getElem?_eq_getElem hm] at h3
    simp only [Array.getElem_map, Array.getElem_range, List.getElem_toArray]
    rw [getElem!_pos z _ hm]
    rw [List.getElem?_eq_getElem (by simpa using h2)] at h3
    exact (Option.some.inj h3).symm

section
variable {P : Program} [Tabbed P] {Q : Exit → Act → World → Prop} {N : Nat} {E : Env} {L L' : List Chunk}
variable {dst : Option Tmp} {ty : TypeId} {pos : String} {aft : Array Edge} {g : Option (Nat × Bool)}

def plS (P : Program) [Tabbed P] (fs : List (Nat × TypeId)) (i : Nat) : Option (Nat × Nat) := match fs[i]? with
  | some p => match tyOf P p.2 with
    | some j => some (p.1, j.size)
    | none => none
  | none => none
theorem Fill.mono {pl pl' : Nat → Option (Nat × Nat)} {cs cs' : List Value} {parts : List (Nat × Operand)} (h : Fill E pl cs parts cs') (hp : ∀ i x, pl i = some x → pl' i = some x) : Fill E pl' cs parts cs' := by
  induction h with
  | nil => exact .nil
  | cons h1 h2 h3 h4 h5 _ ih => exact .cons (hp _ _ h1) h2 h3 h4 h5 ih
theorem Still.build {t : TypeId} {fs : List (Nat × TypeId)} {s' b' : Nat} {z' cs : List Value} {parts : List (Nat × Operand)} (ht : tyOf P t = some ⟨.struct fs, s', b', z'⟩) (hall : fs.all (fun p => (tyOf P p.2).isSome) = true) (hf : Fill E (plS P fs) z' parts cs) :
    Still P N ⟨dst, .build t parts.toArray, ty, pos, aft, g⟩ E L (.agg cs.toArray) := fun A w hS hM => by
  obtain ⟨x, z, h1, h2, h3, h4, h5⟩ := (tyOk ht).info
  obtain ⟨l, h6, h7⟩ := (tyOk ht).struct
  have hpl : ∃ places, l.toList.mapM (fun f => (P.info? f.type).map fun i => (f.offset, i.size)) = some places ∧ ∀ i y, plS P fs i = some y → places.toArray[i]? = some y := by
    subst h7
    have key : ∀ (m : List Field), (m.map (fun f => (f.offset, f.type))).all (fun p => (tyOf P p.2).isSome) = true → ∃ places, m.mapM (fun f => (P.info? f.type).map fun i => (f.offset, i.size)) = some places ∧ ∀ i y, plS P (m.map fun f => (f.offset, f.type)) i = some y → places[i]? = some y := by
      intro m
      induction m with
      | nil => intro _; exact ⟨[], rfl, fun i y h => by simp [plS] at h⟩
      | cons f r ih =>
        intro ha
        simp only [List.map_cons, List.all_cons, Bool.and_eq_true] at ha
        obtain ⟨pr, hp1, hp2⟩ := ih ha.2
        obtain ⟨j, hj⟩ := Option.isSome_iff_exists.1 ha.1
        obtain ⟨x', z', k1, k2, -⟩ := (tyOk hj).info
        refine ⟨(f.offset, x'.size) :: pr, by simp [List.mapM_cons, k1, hp1], fun i y hy => ?_⟩
        cases i with
        | zero =>
          simp only [plS, List.map_cons, List.getElem?_cons_zero, hj, Option.some.injEq] at hy
          rw [← hy, k2]; rfl
        | succ i => exact hp2 i y hy
    obtain ⟨pr, hp1, hp2⟩ := key l.toList hall
    exact ⟨pr, hp1, fun i y hy => by simpa using hp2 i y hy⟩
  obtain ⟨places, hp1, hp2⟩ := hpl
  have hfill := (hf.mono (pl' := (places.toArray[·]?)) hp2).run hS
  have hb : P.built t (parts.toArray.map fun p => (p.1, A.eval p.2)).toList = some cs.toArray := by
    unfold Program.built
    simp only [h1, h6, h4, hp1]
    rw [show z.cells = z'.toArray from by rw [← (show z.cells.toList = z' from h5)]]
    simpa using hfill
  have := run_build (P := P) w t _ _ hb
  simp only [execOp, Sem.run_bind]
  erw [this]
  rfl
theorem run_buildSlice0 (w : World) (t e : TypeId) {i : TyI} (hu : P.underlying t = some (.slice e)) (he : TyOk P e i) : (Instr.buildSlice t 0 #[]).run P w = .ok (.slice (some ⟨w.heap.size, 0, none⟩) 0 0) (w.alloc (.cells #[] e)) := by
  obtain ⟨x, z, h1, h2, -⟩ := he.info
  simp [Instr.buildSlice, run_underlying hu, sizeOf, typeInfo, h1, Instr.fill, newRow, Array.range_zero']
/-- a slice literal -/
theorem OpT.buildSlice {t e : TypeId} {len s' b' s2 b2 : Nat} {d2 : TyD} {z' z2 zs cs : List Value} {parts : List (Nat × Operand)} {C : Env → List Chunk → Prop} (ht : tyOf P t = some ⟨.slice e, s', b', z'⟩) (he : tyOf P e = some ⟨d2, s2, b2, z2⟩)
    (hz : z2.length = s2) (hsm : Nat.ble (len * s2) 16777216 = true) (hpos : Nat.blt 0 (len * s2) = true) (hr : Rep z2 len zs) (hf : Fill E (fun i => some (i * s2, s2)) zs parts cs) (hd : fitsB N dst = true)
    (k : ∀ b, C (upd dst (.slice (some ⟨b, 0, none⟩) len len) E) (blk b cs e :: L)) : OpT P Q N ⟨dst, .buildSlice t len parts.toArray, ty, pos, aft, g⟩ E L C := fun K hK A w hS hM => by
  obtain ⟨x, z, h1, h2, h3, h4, h5⟩ := (tyOk he).info
  have hpos' : 0 < len * s2 := Nat.le_of_ble_eq_true hpos
  have hs2 : 0 < s2 := by
    rcases Nat.eq_zero_or_pos s2 with h | h
    · subst h; simp at hpos'
    · exact h
  simp only at h2 h5
  have hzs : z.cells.size = s2 := by rw [← hz, ← h5]; simp
  have hfill := hf.run hS
  have hrun := run_buildSlice (P := P) w t e len (parts.toArray.map fun p => (p.1, A.eval p.2)) cs.toArray x z (tyOk ht).slice h1 h4 (by rw [h2]; have := Nat.le_of_ble_eq_true hsm; omega) (by rw [h2]; omega) (by
    rw [h2]
    have := range_mod z.cells (by omega) len
    rw [hzs] at this
    rw [hzs, this, h5, ← hr.eq]
    simpa using hfill)
  have hr' : (execOp A.eval ⟨dst, .buildSlice t len parts.toArray, ty, pos, aft, g⟩).run P w = .ok (.value (.slice (some ⟨w.heap.size, 0, none⟩) len len)) (w.alloc (.cells cs.toArray e)) := by
    simp only [execOp, Sem.run_bind]
    erw [hrun]
    rfl
  unfold Oper.wp
  rw [hr']
  exact hK _ _ (k w.heap.size) _ _ (hS.put _ hd) (hM.add ((Keeps.refl _ _).alloc _) (blk_holds.2 (Blk.new w cs.toArray e)) (fun b hb => by rw [blk_foot.1 hb]; exact Nat.le_refl _))
theorem OpT.buildSlice0 {t e : TypeId} {s' b' s2 b2 : Nat} {d2 : TyD} {z' z2 : List Value} {C : Env → List Chunk → Prop} (ht : tyOf P t = some ⟨.slice e, s', b', z'⟩) (he : tyOf P e = some ⟨d2, s2, b2, z2⟩) (hd : fitsB N dst = true)
    (k : ∀ b, C (upd dst (.slice (some ⟨b, 0, none⟩) 0 0) E) (blk b [] e :: L)) : OpT P Q N ⟨dst, .buildSlice t 0 #[], ty, pos, aft, g⟩ E L C := fun K hK A w hS hM => by
  have hr' : (execOp A.eval ⟨dst, .buildSlice t 0 #[], ty, pos, aft, g⟩).run P w = .ok (.value (.slice (some ⟨w.heap.size, 0, none⟩) 0 0)) (w.alloc (.cells #[] e)) := by
    simp only [execOp, Sem.run_bind]
    rw [show (Array.map (fun (x : Nat × Operand) => (x.fst, A.eval x.snd)) #[]) = #[] by simp, run_buildSlice0 w t e (tyOk ht).slice (tyOk he)]
    rfl
  unfold Oper.wp
  rw [hr']
  exact hK _ _ (k w.heap.size) _ _ (hS.put _ hd) (hM.add ((Keeps.refl _ _).alloc _) (blk_holds.2 (Blk.new w #[] e)) (fun b hb => by rw [blk_foot.1 hb]; exact Nat.le_refl _))

section
variable {α : Type} {iα : Inhabited α} {ao : Option Addr} {n cap : Nat} {e : TypeId} {f : α → List Value} {ef : Enc f} {l : List α}
theorem one_all {α : Type} [Inhabited α] (f : α → List Value) [Enc f] (l : List α) : ∀ u ∈ l.flatMap f, u.oneCell' = true := fun u hu => by
  obtain ⟨a, -, ha⟩ := List.mem_flatMap.1 hu
  exact Enc.one a u ha
theorem tab_info {s2 b2 : Nat} {d2 : TyD} {z2 : List Value} (he : tyOf P e = some ⟨d2, s2, b2, z2⟩) (hz : z2.length = s2) : ∃ z : Value, (P.info? e).map (fun i => (i.zero, i.size, i.bytes)) = some (some z, s2, b2) ∧ z.cells.size = s2 := by
  obtain ⟨x, z, h1, h2, h3, h4, h5⟩ := (tyOk he).info
  refine ⟨z, by rw [h1]; simp [h2, h3, h4], ?_⟩
  rw [← hz, ← (show z.cells.toList = z2 from h5)]; simp

/-- a new block, taken as a slice of things -/
theorem Mem.toArr {w : World} {b : Nat} {cs : List Value} (h : Mem w L) (t : Take (blk b cs e) L L') (l : List α) (hc : cs = l.flatMap f) (hn : l.length = n) (hx : n ≤ maxLen) : Mem w (arr (some ⟨b, 0, none⟩) n n e f l :: L') := by
  have hb := blk_holds.1 (h.has t)
  refine (h.take t).turn (S := Nil) (Keeps.refl _ _) blk_excl (fun _ h _ => h.elim) (arr_holds.2 ⟨Own0.of ?_, hn⟩) (fun c hc => .inl (blk_foot.2 (by have := (arr_foot.1 hc).1; simp [Value.ownBlock] at this; exact this.symm)))
  have hl := flatMap_len f l
  refine ⟨by rw [hl, hn], _, n, rfl, Nat.le_refl _, hx, (fun h => by cases h), fun ad had => ?_⟩
  cases had
  refine ⟨rfl, Nat.zero_le _, cs.toArray, hb, ?_, ?_⟩
  · simp only [List.size_toArray, hc, hl, hn]; omega
  · rw [hc]
    simp only [List.drop_zero]
    exact List.take_of_length_le (by rw [hl, hn]; exact Nat.le_refl _)
/-- no slice at all -/
theorem Mem.nilArr {α : Type} [Inhabited α] {w : World} (h : Mem w L) (e : TypeId) (f : α → List Value) [Enc f] : Mem w (arr none 0 0 e f [] :: L) :=
  h.add (Keeps.refl _ _) (arr_holds.2 ⟨.inl ⟨rfl, rfl, rfl⟩, rfl⟩) (fun b hb => by have := (arr_foot.1 hb).2; omega)

theorem run_append_cap0 {P : Program} {w : World} (t ty e : TypeId) (size bytes : Nat) (z : Value) (ht : P.underlying t = some (.slice e)) (hi : (P.info? e).map (fun i => (i.zero, i.size, i.bytes)) = some (some z, size, bytes))
    (ao : Option Addr) (xo : Option Addr) (m c : Nat) (hm : 0 < m) (h63 : m ≤ 9223372036854775807) (hbytes : m * bytes ≤ 140737488355328) :
    (Builtin.append_ #[t, t] ty #[.slice ao 0 0, .slice xo m c]).run P w = (Builtin.append_ #[t, t] ty #[.slice none 0 0, .slice xo m c]).run P w := by
  cases ao with
  | none => rfl
  | some a =>
    obtain ⟨i, hi0, hi1, hi2, hi3⟩ := info_parts hi
    have h1 : ¬ (m ≤ 0) := by omega
    have h2 : Builtin.nextslicecap m 0 = m := by simp [Builtin.nextslicecap]; omega
    have h0 : ¬ m = 0 := by omega
    have h4 : ¬ ((9223372036854775807 : Int) < (m : Int) ∧ i.bytes = 0) := by omega
    have h5 : ¬ ((281474976710656 : Nat) < m * i.bytes) := by rw [hi3]; omega
    simp [h0, h4, h5, Builtin.append_, run_underlying ht, sizeOf, typeInfo, hi0, Builtin.lenOf, h1, h2, Builtin.firstCells, loadCells, loadCellsFrom]
/-- 'append(v, y...)', v the call's own or without room, y read as a list -/
theorem run_own0_append {P : Program} {w : World} (t ty e : TypeId) (z : Value) (size bytes : Nat) (ht : P.underlying t = some (.slice e)) (hi : (P.info? e).map (fun i => (i.zero, i.size, i.bytes)) = some (some z, size, bytes))
    (hzs : z.cells.size = size) (hsz : 0 < size) (ao : Option Addr) (n cap : Nat) (xs : List Value) (hown : Own0 w e size ao n cap xs)
    (xo : Option Addr) (m c : Nat) (news : List Value) (hrow : Row w (.slice xo m c) size m news) (h1 : ∀ u ∈ news, u.oneCell' = true)
    (h63 : n + m ≤ maxLen) (hbytes : (n + m) * bytes ≤ 140737488355328) :
    ∃ ao' cap' w', (Builtin.append_ #[t, t] ty #[.slice ao n cap, .slice xo m c]).run P w = .ok (.slice ao' (n + m) cap') w' ∧ Own0 w' e size ao' (n + m) cap' (xs ++ news) ∧
      Keeps (fun i => (Value.slice ao n cap).ownBlock = some i ∧ 0 < cap) w w' ∧ ∀ b, (Value.slice ao' (n + m) cap').ownBlock = some b → 0 < cap' → ((Value.slice ao n cap).ownBlock = some b ∧ 0 < cap) ∨ w.heap.size ≤ b := by
  have key : ∀ ao0, Own w 0 e size (.slice ao0 n cap) n xs → (Builtin.append_ #[t, t] ty #[.slice ao n cap, .slice xo m c]).run P w = (Builtin.append_ #[t, t] ty #[.slice ao0 n cap, .slice xo m c]).run P w → (∀ i, (Value.slice ao0 n cap).ownBlock = some i → (Value.slice ao n cap).ownBlock = some i ∧ 0 < cap) →
      ∃ ao' cap' w', (Builtin.append_ #[t, t] ty #[.slice ao n cap, .slice xo m c]).run P w = .ok (.slice ao' (n + m) cap') w' ∧ Own0 w' e size ao' (n + m) cap' (xs ++ news) ∧
      Keeps (fun i => (Value.slice ao n cap).ownBlock = some i ∧ 0 < cap) w w' ∧ ∀ b, (Value.slice ao' (n + m) cap').ownBlock = some b → 0 < cap' → ((Value.slice ao n cap).ownBlock = some b ∧ 0 < cap) ∨ w.heap.size ≤ b := by
    intro ao0 ho he hk
    obtain ⟨v', w', hrun, h2, h3, h4⟩ := run_own_appendS (P := P) (w := w) 0 t ty e z size bytes ht hi hzs hsz _ n _ ho _ m _ hrow h1 h63 hbytes (Nat.zero_le _)
    obtain ⟨-, ao', cap', rfl, -⟩ := id h2
    refine ⟨ao', cap', w', he.trans hrun, Own0.of h2, h3.mono (fun i _ h => hk i h), fun b hb _ => ?_⟩
    rcases h4 with h4 | h4
    · exact .inl (hk b (by rw [← h4]; exact hb))
    · exact .inr (h4 b hb)
  rcases hown with ⟨rfl, rfl, rfl⟩ | ⟨h0, hown⟩
  · by_cases hm : m = 0
    · subst hm
      obtain rfl : news = [] := List.eq_nil_of_length_eq_zero (by simpa using hrow.1)
      obtain ⟨i, hi0, hi1, hi2, hi3⟩ := info_parts hi
      refine ⟨ao, 0, w, ?_, .inl ⟨rfl, rfl, rfl⟩, Keeps.refl _ _, fun b _ h => by omega⟩
      cases xo <;> cases ao <;> simp [Builtin.append_, run_underlying ht, sizeOf, typeInfo, hi0, Builtin.lenOf, Builtin.firstCells, storeCells, loadCells, loadCellsFrom]
    · exact key none (Own.nil _ _ _ _) (run_append_cap0 t ty e size bytes z ht hi ao xo m c (by omega) (by unfold maxLen at h63; omega) (by simpa using hbytes)) (fun i h => by simp [Value.ownBlock] at h)
  · exact key ao hown rfl (fun i h => ⟨h, h0⟩)

theorem news_row {w : World} {b size c : Nat} {cs : List Value} {e : TypeId} (h : Blk w b cs.toArray e) (hl : cs.length = size) (hc : Nat.ble 1 c = true) : Row w (.slice (some ⟨b, 0, none⟩) 1 c) size 1 cs :=
  ⟨by simpa using hl, by unfold maxLen; omega, _, c, rfl, Nat.le_of_ble_eq_true hc, fun _ => ⟨b, 0, rfl, fun j hj => by rw [h.cell]; simp⟩⟩
/-- append(s, x): x lies in a block of its own -/
theorem OpT.append1 {t : TypeId} {s x : Operand} {b c s' b' s2 b2 : Nat} {d2 : TyD} {z' z2 cs : List Value} {L2 : List Chunk} {a : α} {C : Env → List Chunk → Prop} (hs : ev E s = some (.slice ao n cap)) (hx : ev E x = some (.slice (some ⟨b, 0, none⟩) 1 c)) (hc : Nat.ble 1 c = true)
    (ht : tyOf P t = some ⟨.slice e, s', b', z'⟩) (he : tyOf P e = some ⟨d2, s2, b2, z2⟩) (hz : z2.length = s2) (hm : Take (arr ao n cap e f l) L L') (hb : Take (blk b cs e) L' L2) (hs2 : s2 = sz f) (ha : f a = cs)
    (hn : n + 1 ≤ 9223372036854775807) (hby : (n + 1) * b2 ≤ 140737488355328) (hd : fitsB N dst = true)
    (k : ∀ ao' cap', C (upd dst (.slice ao' (n + 1) cap') E) (arr ao' (n + 1) cap' e f (l ++ [a]) :: L2)) : OpT P Q N ⟨dst, .call ⟨.builtin .append, #[s, x], #[t, t]⟩, ty, pos, aft, g⟩ E L C := fun K hK A w hS hM => by
  have hM' := hM.take hm
  obtain ⟨hown, hln⟩ := arr_holds.1 (hM.has hm)
  have hbl := blk_holds.1 ((hM.take hm).sub (List.sublist_cons_self _ _) |>.has hb)
  obtain ⟨z, hi, hzs⟩ := tab_info he hz
  subst hs2 ha
  obtain ⟨ao', cap', w', hrun, h2, h3, h4⟩ := run_own0_append (P := P) (w := w) t ty e z (sz f) b2 (tyOk ht).slice hi hzs Enc.pos ao n cap _ hown (some ⟨b, 0, none⟩) 1 c (f a) (news_row hbl (by simp [Enc.len]) hc) (Enc.one a) (by unfold maxLen; omega) hby
  unfold Oper.wp
  have hr' : (execOp A.eval ⟨dst, .call ⟨.builtin .append, #[s, x], #[t, t]⟩, ty, pos, aft, g⟩).run P w = .ok (.value (.slice ao' (n + 1) cap')) w' := by
    simp only [execOp, resolve, invoke, builtin, Sem.run_bind, Sem.run_pure, Result.andThen_ok, List.map_toArray, List.map_cons, List.map_nil, hS.ev hs, hS.ev hx, hrun]
  rw [hr']
  refine hK _ _ (k ao' cap') _ _ (hS.put _ hd) ?_
  have h5 := hM'.turn (c' := arr ao' (n + 1) cap' e f (l ++ [a])) h3 arr_excl (fun c hc _ => arr_foot.2 hc) (arr_holds.2 ⟨by simpa using h2, by simp [hln]⟩) (fun c hc => (h4 c (arr_foot.1 hc).1 (arr_foot.1 hc).2).imp arr_foot.2 id)
  exact ((h5.perm (List.Perm.cons _ hb.perm)).perm (List.Perm.swap _ _ _)).sub (List.sublist_cons_self _ _)
/-- append(s, y...) -/
theorem OpT.appendS {t : TypeId} {s x : Operand} {m c s' b' s2 b2 : Nat} {d2 : TyD} {z' z2 : List Value} {xo : Option Addr} {l2 : List α} {C : Env → List Chunk → Prop} (hs : ev E s = some (.slice ao n cap)) (hx : ev E x = some (.slice xo m c))
    (ht : tyOf P t = some ⟨.slice e, s', b', z'⟩) (he : tyOf P e = some ⟨d2, s2, b2, z2⟩) (hz : z2.length = s2) (hm : Take (arr ao n cap e f l) L L') (hr : Rdb L' xo m c f l2) (hs2 : s2 = sz f)
    (hn : n + m ≤ 9223372036854775807) (hby : (n + m) * b2 ≤ 140737488355328) (hd : fitsB N dst = true)
    (k : ∀ ao' cap', C (upd dst (.slice ao' (n + m) cap') E) (arr ao' (n + m) cap' e f (l ++ l2) :: L')) : OpT P Q N ⟨dst, .call ⟨.builtin .append, #[s, x], #[t, t]⟩, ty, pos, aft, g⟩ E L C := fun K hK A w hS hM => by
  have hM' := hM.take hm
  obtain ⟨hown, hln⟩ := arr_holds.1 (hM.has hm)
  obtain ⟨hrow, hl2⟩ := hr w (hM'.sub (List.sublist_cons_self _ _))
  obtain ⟨z, hi, hzs⟩ := tab_info he hz
  subst hs2
  obtain ⟨ao', cap', w', hrun, h2, h3, h4⟩ := run_own0_append (P := P) (w := w) t ty e z (sz f) b2 (tyOk ht).slice hi hzs Enc.pos ao n cap _ hown xo m c _ hrow (one_all f l2) (by unfold maxLen; omega) hby
  unfold Oper.wp
  have hr' : (execOp A.eval ⟨dst, .call ⟨.builtin .append, #[s, x], #[t, t]⟩, ty, pos, aft, g⟩).run P w = .ok (.value (.slice ao' (n + m) cap')) w' := by
    simp only [execOp, resolve, invoke, builtin, Sem.run_bind, Sem.run_pure, Result.andThen_ok, List.map_toArray, List.map_cons, List.map_nil, hS.ev hs, hS.ev hx, hrun]
  rw [hr']
  refine hK _ _ (k ao' cap') _ _ (hS.put _ hd) ?_
  exact hM'.turn (c' := arr ao' (n + m) cap' e f (l ++ l2)) h3 arr_excl (fun c hc _ => arr_foot.2 hc) (arr_holds.2 ⟨by simpa using h2, by simp [hln, hl2]⟩) (fun c hc => (h4 c (arr_foot.1 hc).1 (arr_foot.1 hc).2).imp arr_foot.2 id)
/-- make([]T, n) -/
theorem OpT.makeSlice {t : TypeId} {x y : Operand} {s' b' s2 b2 : Nat} {d2 : TyD} {z' z2 : List Value} {z : α} {kx ky : IntKind} {j j' : Int} {C : Env → List Chunk → Prop} (hx : ev E x = some (.int kx j)) (hy : ev E y = some (.int ky j')) (hj : j = (n : Int)) (hj' : j' = (n : Int))
    (ht : tyOf P t = some ⟨.slice e, s', b', z'⟩) (he : tyOf P e = some ⟨d2, s2, b2, z2⟩) (hs2 : s2 = sz f) (hz : f z = z2) (hn : n ≤ 9223372036854775807) (hby : n * b2 ≤ 140737488355328) (hd : fitsB N dst = true)
    (k : ∀ b, C (upd dst (.slice (some ⟨b, 0, none⟩) n n) E) (arr (some ⟨b, 0, none⟩) n n e f (List.replicate n z) :: L)) : OpT P Q N ⟨dst, .makeSlice t x y, ty, pos, aft, g⟩ E L C := fun K hK A w hS hM => by
  obtain ⟨xi, zv, h1, h2, h3, h4, h5⟩ := (tyOk he).info
  simp only at h2 h3 h5
  subst hj hj'
  have hrun := run_make (P := P) w t e xi zv (tyOk ht).slice h1 h4 kx ky n n (by omega) (Int.le_refl _) (by rw [h3]; have : ((n * b2 : Nat) : Int) ≤ 140737488355328 := by omega
                                                                                                            rw [Int.natCast_mul, Int.mul_comm] at this; omega) (by omega)
  have hzs : zv.cells.size = sz f := by
    have := Enc.len (f := f) z
    simp only [sz]
    rw [← this, hz, ← h5]; simp
  have hcells : madeCells zv.cells (n * xi.size) = ((List.replicate n z).flatMap f).toArray := by
    unfold madeCells
    rw [h2, hs2]
    have := range_mod zv.cells (by rw [hzs]; exact Enc.pos) n
    rw [hzs] at this
    rw [hzs, this, h5, ← hz]
    congr 1
    have : ∀ m, (List.replicate m (f z)).flatten = (List.replicate m z).flatMap f := by
      intro m; induction m with
      | zero => rfl
      | succ m ih => rw [List.replicate_succ, List.replicate_succ, List.flatten_cons, List.flatMap_cons, ih]
    exact this n
  unfold Oper.wp
  have hr' : (execOp A.eval ⟨dst, .makeSlice t x y, ty, pos, aft, g⟩).run P w = .ok (.value (.slice (some ⟨w.heap.size, 0, none⟩) n n)) (w.alloc (.cells (madeCells zv.cells (n * xi.size)) e)) := by
    simp only [execOp, hS.ev hx, hS.ev hy, Sem.run_bind, hrun, Int.toNat_natCast, Result.andThen_ok, Sem.run_pure]
  rw [hr', hcells]
  refine hK _ _ (k w.heap.size) _ _ (hS.put _ hd) ?_
  exact (hM.add ((Keeps.refl _ _).alloc _) (blk_holds.2 (Blk.new w _ e)) (fun b hb => by rw [blk_foot.1 hb]; exact Nat.le_refl _)).toArr (f := f) .head (List.replicate n z) rfl (by simp) (by unfold maxLen; omega)

/-- the bounds of a cut -/
inductive Bnd (E : Env) (n : Nat) : Option Operand → Option Operand → Nat → Nat → Prop
  | all : Bnd E n none none 0 n
  | lo {x : Operand} {k : IntKind} {j : Int} {l : Nat} : ev E x = some (.int k j) → j = (l : Int) → Bnd E n (some x) none l n
  | hi {y : Operand} {k : IntKind} {j : Int} {h : Nat} : ev E y = some (.int k j) → j = (h : Int) → Bnd E n none (some y) 0 h
  | both {x y : Operand} {k k' : IntKind} {j j' : Int} {l h : Nat} : ev E x = some (.int k j) → j = (l : Int) → ev E y = some (.int k' j') → j' = (h : Int) → Bnd E n (some x) (some y) l h
theorem run_cut {t : TypeId} {s' b' s2 b2 lo hi : Nat} {d2 : TyD} {z' z2 : List Value} {x : Operand} {ol oh : Option Operand} {A : Act} (hS : Sat N A E) (hx : ev E x = some (.slice ao n cap)) (ht : tyOf P t = some ⟨.slice e, s', b', z'⟩) (he : tyOf P e = some ⟨d2, s2, b2, z2⟩)
    (hb : Bnd E n ol oh lo hi) (h1 : lo ≤ hi) (h2 : hi ≤ cap) (w : World) : (execOp A.eval ⟨dst, .slice t x ol oh none, ty, pos, aft, g⟩).run P w = .ok (.value (.slice (if cap = lo then ao else ao.map (·.add (lo * s2))) (hi - lo) (cap - lo))) w := by
  have hsz := (tyOk he).size w
  have hu := (tyOk ht).slice
  have hel : P.elem t = e := by unfold Program.elem; rw [hu]
  have hu' : P.underlying t = some (.slice (P.elem t)) := by rw [hel]; exact hu
  cases hb with
  | all =>
    simp only [execOp, hS.ev hx, Option.map_none, Sem.run_bind]
    rw [run_sliceAt_slice _ _ _ _ _ _ hu', run_slice_all w t ao n cap hu', hel, hsz]
    rfl
  | lo hl hj =>
    subst hj
    simp only [execOp, hS.ev hx, hS.ev hl, Option.map_none, Option.map_some, Sem.run_bind]
    rw [run_sliceAt_slice _ _ _ _ _ _ hu', run_slice_l w t ao n cap hu' _ _ (by omega) (by omega), hel, hsz]
    simp only [Int.toNat_natCast]
    rfl
  | hi hl hj =>
    subst hj
    simp only [execOp, hS.ev hx, hS.ev hl, Option.map_none, Option.map_some, Sem.run_bind]
    rw [run_sliceAt_slice _ _ _ _ _ _ hu', run_slice_h w t ao n cap hu' _ _ (by omega) (by omega), hel, hsz]
    simp only [Int.toNat_natCast]
    rfl
  | both hl hj hl' hj' =>
    subst hj hj'
    simp only [execOp, hS.ev hx, hS.ev hl, hS.ev hl', Option.map_none, Option.map_some, Sem.run_bind]
    rw [run_sliceAt_slice _ _ _ _ _ _ hu', run_slice_lh w t ao n cap hu' _ _ _ _ (by omega) (by omega) (by omega), hel, hsz]
    simp only [Int.toNat_natCast]
    rfl
theorem flatMap_take {α : Type} [Inhabited α] (f : α → List Value) [Enc f] (l : List α) (h : Nat) : (l.flatMap f).take (h * sz f) = (l.take h).flatMap f := by
  induction l generalizing h with
  | nil => simp
  | cons a r ih =>
    cases h with
    | zero => simp
    | succ h => rw [List.take_succ_cons, List.flatMap_cons, List.flatMap_cons, List.take_append, Enc.len a, Nat.add_mul, Nat.one_mul, Nat.add_sub_cancel, ih, List.take_of_length_le (by rw [Enc.len a]; simp only [sz]; omega)]
theorem flatMap_drop {α : Type} [Inhabited α] (f : α → List Value) [Enc f] (l : List α) (h : Nat) : (l.flatMap f).drop (h * sz f) = (l.drop h).flatMap f := by
  induction l generalizing h with
  | nil => simp
  | cons a r ih =>
    cases h with
    | zero => simp
    | succ h => rw [List.drop_succ_cons, List.flatMap_cons, List.drop_append, Enc.len a, Nat.add_mul, Nat.one_mul, Nat.add_sub_cancel, ih, List.drop_of_length_le (by rw [Enc.len a]; simp only [sz]; omega), List.nil_append]
theorem Own.sub [Enc f] {w : World} {lo hi : Nat} (h : Own w 0 e (sz f) (.slice ao n cap) n (l.flatMap f)) (hln : l.length = n) (h1 : lo ≤ hi) (h2 : hi ≤ n) :
    Own w 0 e (sz f) (.slice (if cap = lo then ao else ao.map (·.add (lo * sz f))) (hi - lo) (cap - lo)) (hi - lo) (((l.take hi).drop lo).flatMap f) := by
  obtain ⟨g1, ao', cap', g2, g3, g4, g5, g6⟩ := h
  simp only [Value.slice.injEq] at g2
  obtain ⟨rfl, -, rfl⟩ := g2
  refine ⟨by rw [flatMap_len]; simp; congr 1; omega, _, _, rfl, by omega, by omega, fun hn => ?_, fun ad had => ?_⟩
  · split at hn
    · omega
    · have := g5 (by simpa using hn); omega
  · cases ao with
    | none => simp at had
    | some a0 =>
      obtain ⟨b, o, sp⟩ := a0
      obtain ⟨q1, q2, cur, q3, q4, q5⟩ := g6 _ rfl
      simp only at q1 q3 q4 q5
      subst q1
      have hkey : ∀ o', o' = o + lo * sz f ∨ hi = lo → (cur.toList.drop o').take ((hi - lo) * sz f) = ((l.take hi).drop lo).flatMap f := by
        intro o' ho'
        rcases ho' with rfl | hh
        · rw [← flatMap_drop, ← flatMap_take, ← q5, List.take_take, List.drop_take, List.drop_drop]
          have : min (hi * sz f) (n * sz f) = hi * sz f := Nat.min_eq_left (Nat.mul_le_mul_right _ h2)
          rw [this, Nat.sub_mul]
        · subst hh
          simp
      have hmul : (cap - lo) * sz f + lo * sz f = cap * sz f := by rw [← Nat.add_mul]; congr 1; omega
      by_cases hc : cap = lo
      · rw [if_pos hc] at had
        cases had
        refine ⟨rfl, Nat.zero_le _, cur, q3, ?_, hkey _ (.inr (by omega))⟩
        rw [hc]; simp; simp only [sz] at q4; omega
      · rw [if_neg hc] at had
        simp only [Option.map_some, Option.some.injEq, Addr.add_lit'] at had
        subst had
        refine ⟨rfl, Nat.zero_le _, cur, q3, ?_, hkey _ (.inl rfl)⟩
        simp only [sz] at q4 hmul ⊢; omega
/-- one's own slice, cut -/
theorem OpT.cutA {t : TypeId} {s' b' s2 b2 lo hi : Nat} {d2 : TyD} {z' z2 : List Value} {x : Operand} {ol oh : Option Operand} {C : Env → List Chunk → Prop} (hx : ev E x = some (.slice ao n cap)) (ht : tyOf P t = some ⟨.slice e, s', b', z'⟩) (he : tyOf P e = some ⟨d2, s2, b2, z2⟩)
    (hm : Take (arr ao n cap e f l) L L') (hs2 : s2 = sz f) (hb : Bnd E n ol oh lo hi) (h1 : lo ≤ hi) (h2 : hi ≤ n) (hd : fitsB N dst = true)
    (k : ∀ ao' cap', C (upd dst (.slice ao' (hi - lo) cap') E) (arr ao' (hi - lo) cap' e f ((l.take hi).drop lo) :: L')) : OpT P Q N ⟨dst, .slice t x ol oh none, ty, pos, aft, g⟩ E L C := fun K hK A w hS hM => by
  obtain ⟨hown, hln⟩ := arr_holds.1 (hM.has hm)
  have hcap : n ≤ cap := hown.le
  unfold Oper.wp
  rw [run_cut hS hx ht he hb h1 (by omega) w]
  subst hs2
  refine hK _ _ (k _ _) _ _ (hS.put _ hd) ((hM.take hm).turn (S := Nil) (Keeps.refl _ _) arr_excl (fun _ h _ => h.elim) (arr_holds.2 ⟨?_, by simp; omega⟩) (fun c hc => .inl (arr_foot.2 ?_)))
  · rcases hown with ⟨rfl, rfl, hnil⟩ | ⟨-, hown⟩
    · obtain rfl : hi = 0 := by omega
      obtain rfl : lo = 0 := by omega
      exact .inl ⟨rfl, rfl, by simp⟩
    · exact Own0.of (hown.sub hln h1 h2)
  · have h0 := (arr_foot.1 hc).2
    have this := (arr_foot.1 hc).1
    refine ⟨?_, by omega⟩
    cases ao with
    | none => simp [Value.ownBlock] at this
    | some a0 =>
      by_cases hc' : cap = lo
      · rw [if_pos hc'] at this; exact this
      · rw [if_neg hc'] at this
        simp only [Value.ownBlock, Option.map_some, Option.some.injEq] at this ⊢
        rw [← this]
        unfold Addr.add
        split <;> rfl
end
end
end Go.Proofs.Ytfeajpghabjaaaa
