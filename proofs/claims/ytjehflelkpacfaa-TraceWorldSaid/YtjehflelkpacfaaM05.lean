/- Many chunks as one; slices of what is only read, cut; results that lie in memory. Of whatever program whose types a table says. -/
import Derived.Test.YtjehflelkpacfaaM04
import Derived.Carry
namespace Go.Proofs.Ytjehflelkpacfaa
open Go
set_option linter.unusedVariables false
set_option linter.unusedSimpArgs false
set_option linter.unusedSectionVars false

theorem Mem.keeps {w w' : World} {cs : List Chunk} {S : Nat → Prop} (h : Mem w cs) (k : Keeps S w w') (hs : ∀ c ∈ cs, ∀ b, c.foot b → ¬ S b) : Mem w' cs :=
  ⟨fun c hc => c.stab k (hs c hc) (h.all c hc), h.sep⟩
/-- many chunks of one's own -/
@[irreducible] def bag (cs : List Chunk) : Chunk where
  holds w := Mem w cs ∧ ∀ c ∈ cs, c.excl = true
  foot b := ∃ c ∈ cs, c.foot b
  excl := true
  stab k hs h := ⟨h.1.keeps k (fun c hc b hb => hs b ⟨c, hc, hb⟩), h.2⟩
  lt h b hb := by obtain ⟨c, hc, hb⟩ := hb; exact c.lt (h.1.all c hc) b hb
theorem bag_holds {w : World} {cs : List Chunk} : (bag cs).holds w ↔ Mem w cs ∧ ∀ c ∈ cs, c.excl = true := by unfold bag; exact Iff.rfl
theorem bag_foot {b : Nat} {cs : List Chunk} : (bag cs).foot b ↔ ∃ c ∈ cs, c.foot b := by unfold bag; exact Iff.rfl
theorem bag_excl {cs : List Chunk} : (bag cs).excl = true := by unfold bag; rfl
theorem Mem.pack {w : World} {cs L : List Chunk} (h : Mem w (cs ++ L)) (hx : ∀ c ∈ cs, c.excl = true) : Mem w (bag cs :: L) := by
  have hsep := List.pairwise_append.1 h.sep
  refine ⟨fun c hc => ?_, List.pairwise_cons.2 ⟨fun d hd _ b hb hb' => ?_, hsep.2.1⟩⟩
  · rcases List.mem_cons.1 hc with rfl | hc
    · exact bag_holds.2 ⟨h.left, hx⟩
    · exact h.all c (List.mem_append_right _ hc)
  · obtain ⟨c, hc, hcb⟩ := bag_foot.1 hb
    exact hsep.2.2 c hc d hd (.inl (hx c hc)) b hcb hb'
theorem Mem.unpack {w : World} {cs L : List Chunk} (h : Mem w (bag cs :: L)) : Mem w (cs ++ L) := by
  have hb := bag_holds.1 (h.all (bag cs) (by simp))
  have hp := List.pairwise_cons.1 h.sep
  refine ⟨fun c hc => ?_, List.pairwise_append.2 ⟨hb.1.sep, hp.2, fun c hc d hd _ b hcb hdb => ?_⟩⟩
  · rcases List.mem_append.1 hc with hc | hc
    · exact hb.1.all c hc
    · exact h.all c (by simp [hc])
  · exact hp.1 d hd (.inl bag_excl) b (bag_foot.2 ⟨c, hc, hcb⟩) hdb
theorem Mem.bagNil {w : World} {L : List Chunk} (h : Mem w L) : Mem w (bag [] :: L) := Mem.pack (cs := []) h (by simp)
theorem Mem.bagAdd {w : World} {cs ds L L' F : List Chunk} (h : Mem w L) (t : Take (bag cs) L L') (t2 : Takes ds L' F) (hx : ∀ c ∈ ds, c.excl = true) : Mem w (bag (cs ++ ds) :: F) := by
  have h1 := (h.take t).unpack
  have hb := bag_holds.1 (h.has t)
  have h2 : Mem w (cs ++ (ds ++ F)) := h1.perm (List.Perm.append_left _ t2.perm)
  rw [← List.append_assoc] at h2
  exact h2.pack (fun c hc => (List.mem_append.1 hc).elim (hb.2 c) (hx c))
/-- what is only read may be read twice -/
theorem Mem.dup {w : World} {L L' : List Chunk} {c c' : Chunk} (h : Mem w L) (t : Take c L L') (hx : c'.excl = false) (hc : c'.holds w) (hf : ∀ b, c'.foot b → c.foot b) (hcx : c.excl = false) : Mem w (c' :: L) := by
  refine ⟨fun d hd => ?_, List.pairwise_cons.2 ⟨fun d hd hdx b hb hb' => ?_, h.sep⟩⟩
  · rcases List.mem_cons.1 hd with rfl | hd
    · exact hc
    · exact h.all d hd
  · have hdx : d.excl = true := by rcases hdx with h | h; rw [hx] at h; cases h; exact h
    have h2 := h.take t
    have hd2 : d ∈ c :: L' := t.perm.mem_iff.1 hd
    rcases List.mem_cons.1 hd2 with rfl | hd2
    · rw [hcx] at hdx; cases hdx
    · exact (List.pairwise_cons.1 h2.sep).1 d hd2 (.inr hdx) b (hf b hb) hb'

section
variable {α : Type} {iα : Inhabited α} {ao : Option Addr} {n cap : Nat} {e : TypeId} {f : α → List Value} {ef : Enc f} {l : List α}
theorem Row.sub [Enc f] {w : World} {lo hi : Nat} (h : Row w (.slice ao n cap) (sz f) n (l.flatMap f)) (hln : l.length = n) (h1 : lo ≤ hi) (h2 : hi ≤ n) :
    Row w (.slice (if cap = lo then ao else ao.map (·.add (lo * sz f))) (hi - lo) (cap - lo)) (sz f) (hi - lo) (((l.take hi).drop lo).flatMap f) := by
  obtain ⟨g1, g2, ao', cap', g3, g4, g5⟩ := h
  simp only [Value.slice.injEq] at g3
  obtain ⟨rfl, -, rfl⟩ := g3
  refine ⟨by rw [flatMap_len]; simp; congr 1; omega, by omega, _, _, rfl, by omega, fun hn => ?_⟩
  obtain ⟨b, o, rfl, hc⟩ := g5 (by omega)
  rw [if_neg (by omega)]
  refine ⟨b, o + lo * sz f, by simp [Addr.add_lit'], fun j hj => ?_⟩
  have hmul : (hi - lo) * sz f + lo * sz f = hi * sz f := by rw [← Nat.add_mul]; congr 1; omega
  have hmul2 : hi * sz f ≤ n * sz f := Nat.mul_le_mul_right _ h2
  rw [← flatMap_drop, ← flatMap_take, List.getElem?_drop, List.getElem?_take, if_pos (by omega), Nat.add_assoc]
  exact hc _ (by omega)
theorem own_cut {lo : Nat} {m c : Nat} {k : Nat} (h : (Value.slice (if cap = lo then ao else ao.map (·.add (lo * m))) c (cap - lo)).ownBlock = some k) (n' : Nat) : (Value.slice ao n' cap).ownBlock = some k := by
  cases ao with
  | none => simp [Value.ownBlock] at h
  | some a0 =>
    by_cases hc' : cap = lo
    · rw [if_pos hc'] at h; exact h
    · rw [if_neg hc'] at h
      simp only [Value.ownBlock, Option.map_some, Option.some.injEq] at h ⊢
      rw [← h]
      unfold Addr.add
      split <;> rfl
theorem At.sub [Enc f] {w0 : World} {S : Nat → Prop} {lo hi : Nat} (h : At w0 S ao n cap f l) (h1 : lo ≤ hi) (h2 : hi ≤ n) : At w0 S (if cap = lo then ao else ao.map (·.add (lo * sz f))) (hi - lo) (cap - lo) f ((l.take hi).drop lo) :=
  ⟨⟨Row.sub h.1.1 h.1.2 h1 h2, by have := h.1.2; simp; omega⟩, fun b hb hn => h.2 b (own_cut hb n) (by omega)⟩
variable {P : Program} [Tabbed P] {Q : Exit → Act → World → Prop} {N : Nat} {E : Env} {L L' : List Chunk}
variable {dst : Option Tmp} {ty : TypeId} {pos : String} {aft : Array Edge} {g : Option (Nat × Bool)}
theorem OpT.cutR {t : TypeId} {s' b' s2 b2 lo hi : Nat} {d2 : TyD} {z' z2 : List Value} {x : Operand} {ol oh : Option Operand} {C : Env → List Chunk → Prop} (hx : ev E x = some (.slice ao n cap)) (ht : tyOf P t = some ⟨.slice e, s', b', z'⟩) (he : tyOf P e = some ⟨d2, s2, b2, z2⟩)
    (hm : Take (rd ao n cap f l) L L') (hs2 : s2 = sz f) (hb : Bnd E n ol oh lo hi) (h1 : lo ≤ hi) (h2 : hi ≤ n) (hd : fitsB N dst = true)
    (k : ∀ ao' cap', C (upd dst (.slice ao' (hi - lo) cap') E) (rd ao' (hi - lo) cap' f ((l.take hi).drop lo) :: L)) : OpT P Q N ⟨dst, .slice t x ol oh none, ty, pos, aft, g⟩ E L C := fun K hK A w hS hM => by
  obtain ⟨hrow, hln⟩ := rd_holds.1 (hM.has hm)
  have hcap : n ≤ cap := by
    obtain ⟨-, -, ao', cap', g2, g3, -⟩ := hrow
    simp only [Value.slice.injEq] at g2
    obtain ⟨-, -, rfl⟩ := g2
    exact g3
  unfold Oper.wp
  rw [run_cut hS hx ht he hb h1 (by omega) w]
  subst hs2
  refine hK _ _ (k _ _) _ _ (hS.put _ hd) (hM.dup hm rd_excl (rd_holds.2 ⟨Row.sub hrow hln h1 h2, by simp; omega⟩) (fun c hc => rd_foot.2 ⟨own_cut (rd_foot.1 hc).1 n, by have := (rd_foot.1 hc).2; omega⟩) rd_excl)
theorem OpT.cutR0 {t : TypeId} {s' b' s2 b2 hi : Nat} {d2 : TyD} {z' z2 : List Value} {x : Operand} {oh : Option Operand} {C : Env → List Chunk → Prop} (hx : ev E x = some (.slice ao n cap)) (ht : tyOf P t = some ⟨.slice e, s', b', z'⟩) (he : tyOf P e = some ⟨d2, s2, b2, z2⟩)
    (hm : Take (rd ao n cap f l) L L') (hs2 : s2 = sz f) (hb : Bnd E n none oh 0 hi) (h2 : hi ≤ n) (hd : fitsB N dst = true)
    (k : ∀ ao' cap', C (upd dst (.slice ao' hi cap') E) (rd ao' hi cap' f (l.take hi) :: L)) : OpT P Q N ⟨dst, .slice t x none oh none, ty, pos, aft, g⟩ E L C :=
  OpT.cutR hx ht he hm hs2 hb (Nat.zero_le _) h2 hd (fun ao' cap' => by simpa using k ao' cap')
theorem OpT.cutA0 {t : TypeId} {s' b' s2 b2 hi : Nat} {d2 : TyD} {z' z2 : List Value} {x : Operand} {oh : Option Operand} {C : Env → List Chunk → Prop} (hx : ev E x = some (.slice ao n cap)) (ht : tyOf P t = some ⟨.slice e, s', b', z'⟩) (he : tyOf P e = some ⟨d2, s2, b2, z2⟩)
    (hm : Take (arr ao n cap e f l) L L') (hs2 : s2 = sz f) (hb : Bnd E n none oh 0 hi) (h2 : hi ≤ n) (hd : fitsB N dst = true)
    (k : ∀ ao' cap', C (upd dst (.slice ao' hi cap') E) (arr ao' hi cap' e f (l.take hi) :: L')) : OpT P Q N ⟨dst, .slice t x none oh none, ty, pos, aft, g⟩ E L C :=
  OpT.cutA hx ht he hm hs2 hb (Nat.zero_le _) h2 hd (fun ao' cap' => by simpa using k ao' cap')
theorem OpT.cutA1 {t : TypeId} {s' b' s2 b2 lo : Nat} {d2 : TyD} {z' z2 : List Value} {x : Operand} {ol : Option Operand} {C : Env → List Chunk → Prop} (hx : ev E x = some (.slice ao n cap)) (ht : tyOf P t = some ⟨.slice e, s', b', z'⟩) (he : tyOf P e = some ⟨d2, s2, b2, z2⟩)
    (hm : Take (arr ao n cap e f l) L L') (hs2 : s2 = sz f) (hb : Bnd E n ol none lo n) (h2 : lo ≤ n) (hn : l.length = n) (hd : fitsB N dst = true)
    (k : ∀ ao' cap', C (upd dst (.slice ao' (n - lo) cap') E) (arr ao' (n - lo) cap' e f (l.drop lo) :: L')) : OpT P Q N ⟨dst, .slice t x ol none none, ty, pos, aft, g⟩ E L C :=
  OpT.cutA hx ht he hm hs2 hb h2 (Nat.le_refl _) hd (fun ao' cap' => by have := k ao' cap'; rwa [List.take_of_length_le (by omega)])
end

section
variable {P : Program} [Tabbed P] {N : Nat} {E : Env} {L L' F : List Chunk} {σ : Type} {fn : Func} {post : σ → Prop} {val : σ → Value} {mem : σ → List Chunk} {w0 : World} {S : Nat → Prop}
theorem run_cell {w : World} {t : TypeId} {b s' b' : Nat} {bt : TypeId} {fs : List (Nat × TypeId)} {z' cs : List Value} (ht : tyOf P t = some ⟨.struct fs, s', b', z'⟩) (hb : Blk w b cs.toArray bt) (hl : cs.length = s') : (loadVar t ⟨b, 0, none⟩).run P w = .ok (.agg cs.toArray) w := by
  obtain ⟨l, h1, -⟩ := (tyOk ht).struct
  obtain ⟨x', z, h3, h4, -⟩ := (tyOk ht).info
  exact run_loadVar_mid (P := P) w b 0 t cs _ (fun j v hj => by rw [hb.cell]; simpa using hj) h1 rfl (by rw [h3]; simp [h4, hl])
theorem End.imp {Q : Exit → Act → World → Prop} {e : Exit} {L' : List Chunk} (t : ∀ w, Mem w L → Mem w L') (h : End Q N e E L') : End Q N e E L := fun a w hs hm => h a w hs (t w hm)
/-- one result, in memory -/
theorem End.doneC1 {t : Tmp} {ty bt : TypeId} {b s' b' : Nat} {fs : List (Nat × TypeId)} {z' cs : List Value} (x : σ) (hr : fn.results = #[.cell t ty]) (hv : look E t = some (.pointer (some ⟨b, 0, none⟩))) (ht : tyOf P ty = some ⟨.struct fs, s', b', z'⟩)
    (hm : Take (blk b cs bt) L L') (hl : cs.length = s') (he : val x = .agg cs.toArray) (hp : post x) (hx : ∀ c ∈ mem x, c.excl = true) (hF : Takes (old w0 S :: mem x) L F) : End (bodyPost P fn (Owes post val mem w0 S)) N .ret E L := fun a w hs hM => by
  have hb := blk_holds.1 (hM.has hm)
  have h1 := hs.slot t _ hv
  refine bodyPost_ret (v := .agg cs.toArray) ?_ hs.defs ⟨x, hp, by rw [he], hx, (hM.takes hF).left⟩
  simp [results, hr, h1, asAddr, run_cell ht hb hl]
end
theorem End.some {Q : Exit → Act → World → Prop} {N : Nat} {E : Env} {L F : List Chunk} {K : Act → World → Prop} {σ : Type} {ok : σ → Prop} {inv : σ → Env} {mem : σ → List Chunk} (hK : ∀ s, ok s → ∀ a w, Sat N a (inv s) → Mem w (mem s) → K a w) (s : σ) (h1 : ok s)
    (hE : Sub (inv s) E) (hL : Takes (mem s) L F) : End (Exit.then K Q) N .normal E L := fun a w hs hm => hK s h1 a w (hs.sub hE) (hm.takes hL).left
/-- a round's end; what is left over is let go -/
theorem End.round0 {Q : Exit → Act → World → Prop} {N : Nat} {E : Env} {L F' : List Chunk} {σ : Type} {K : Act → World → Prop} {ok : σ → Prop} {inv : σ → Env} {mem : σ → List Chunk} {μ : σ → Nat} {m : Nat}
    (hK : ∀ s', ok s' → μ s' < m → ∀ a w, Sat N a (inv s') → Mem w (mem s' ++ []) → K a w) (s : σ) (h1 : ok s) (h2 : μ s < m) (hE : Sub (inv s) E) (hL : Takes (mem s) L F') : End (Exit.then K Q) N .normal E L :=
  fun a w hs hm => hK s h1 h2 a w (hs.sub hE) (by simpa using (hm.takes hL).left)
end Go.Proofs.Ytjehflelkpacfaa

/- Maps of ints to things, over states that are said by lists. Of whatever program whose types a table says. -/
namespace Go.Proofs.Ytjehflelkpacfaa
open Go
set_option linter.unusedVariables false
set_option linter.unusedSimpArgs false
set_option linter.unusedSectionVars false

def mfind {α : Type} : List (Int × α) → Int → Option α
  | [], _ => none
  | (q, a) :: r, k => if q = k then some a else mfind r k
def mput {α : Type} : List (Int × α) → Int → α → List (Int × α)
  | [], k, a => [(k, a)]
  | (q, b) :: r, k, a => if q = k then (q, a) :: r else (q, b) :: mput r k a

section
variable {α : Type} (g : α → Value)
theorem findNow_ints (k : Int) : ∀ (es : List MapEntry) (l : List (Int × α)) (i : Nat), es.map (fun e => (e.key, e.val)) = l.map (fun p => (Value.int .i64 p.1, g p.2)) →
    match mfind l k with
    | none => Instr.findNow (.int .i64) (.int .i64 k) es i = some none
    | some a => ∃ j, Instr.findNow (.int .i64) (.int .i64 k) es i = some (some (i + j, g a)) ∧ (es[j]?).map (·.key) = some (.int .i64 k) ∧
        ∀ a', (es.modify j (fun e => { e with key := .int .i64 k, val := g a' })).map (fun e => (e.key, e.val)) = (mput l k a').map (fun p => (Value.int .i64 p.1, g p.2))
  | [], [], i, _ => by simp [mfind, Instr.findNow]
  | [], _ :: _, i, h => by simp at h
  | _ :: _, [], i, h => by simp at h
  | e :: es, (q, b) :: l, i, h => by
    simp only [List.map_cons, List.cons.injEq, Prod.mk.injEq] at h
    obtain ⟨⟨h1, h2⟩, h3⟩ := h
    simp only [mfind]
    by_cases hq : q = k
    · subst hq
      simp only [if_pos rfl]
      refine ⟨0, by simp [Instr.findNow, Instr.sameNow, h1, h2], by simp [h1], fun a' => ?_⟩
      simp only [List.modify_zero_cons, List.map_cons, mput, if_true, h3]
    · rw [if_neg hq]
      have ih := findNow_ints k es l (i + 1) h3
      have hne : (k == q) = false := by rw [beq_eq_false_iff_ne]; exact fun h => hq h.symm
      cases hm : mfind l k with
      | none =>
        rw [hm] at ih
        simp only at ih ⊢
        simp [Instr.findNow, Instr.sameNow, h1, hne, ih]
      | some a =>
        rw [hm] at ih
        simp only at ih ⊢
        obtain ⟨j, i1, i2, i3⟩ := ih
        refine ⟨j + 1, ?_, by simpa using i2, fun a' => ?_⟩
        · simp [Instr.findNow, Instr.sameNow, h1, hne, i1]; omega
        · rw [List.modify_succ_cons, List.map_cons, i3 a']
          simp [mput, hq, h1, h2]
theorem mput_new (k : Int) (a : α) : ∀ l : List (Int × α), mfind l k = none → mput l k a = l ++ [(k, a)]
  | [], _ => rfl
  | (q, b) :: r, h => by
    unfold mfind at h
    by_cases hq : q = k
    · rw [if_pos hq] at h; cases h
    · rw [if_neg hq] at h
      simp [mput, hq, mput_new k a r h]
end

section
variable {α : Type}
/-- a map of one's own, ints to things -/
@[irreducible] def mp (b : Nat) (g : α → Value) (l : List (Int × α)) : Chunk where
  holds w := ∃ es clock, w.heap[b]? = some (.map es clock) ∧ es.toList.map (fun e => (e.key, e.val)) = l.map (fun p => (Value.int .i64 p.1, g p.2))
  foot k := k = b
  excl := true
  stab k hs h := by
    obtain ⟨es, clock, h1, h2⟩ := h
    exact ⟨es, clock, k.at h1 (hs _ rfl), h2⟩
  lt h k hk := by
    obtain ⟨es, clock, h1, h2⟩ := h
    subst hk
    exact (Array.getElem?_eq_some_iff.1 h1).1
variable {b : Nat} {g : α → Value} {l : List (Int × α)} {w : World}
theorem mp_holds : (mp b g l).holds w ↔ ∃ es clock, w.heap[b]? = some (.map es clock) ∧ es.toList.map (fun e => (e.key, e.val)) = l.map (fun p => (Value.int .i64 p.1, g p.2)) := by unfold mp; exact Iff.rfl
theorem mp_foot {k : Nat} : (mp b g l).foot k ↔ k = b := by unfold mp; exact Iff.rfl
theorem mp_excl : (mp b g l).excl = true := by unfold mp; rfl

theorem run_checkInt {P : Program} {kt : TypeId} (hk : P.underlying kt = some (.int .i64)) (em : Bool) (k : Int) (w : World) : (Instr.checkKey em 10000 kt (.int .i64 k)).run P w = .ok () w := by
  rw [show (10000 : Nat) = 9999 + 1 from rfl]
  unfold Instr.checkKey
  simp [run_underlying hk]
theorem run_findInt {P : Program} {kt : TypeId} (hk : P.underlying kt = some (.int .i64)) (k : Int) (es : List MapEntry) (r) (h : Instr.findNow (.int .i64) (.int .i64 k) es 0 = some r) (w : World) : (Instr.findKey kt (.int .i64 k) es).run P w = .ok r w := by
  unfold Instr.findKey
  simp [run_underlying hk, h]

variable {P : Program} [Tabbed P] {Q : Exit → Act → World → Prop} {N : Nat} {E : Env} {L L' : List Chunk}
variable {dst : Option Tmp} {ty : TypeId} {pos : String} {aft : Array Edge} {gu : Option (Nat × Bool)}
variable {t kt et s1 b1 s2 b2 : Nat} {z1 z2 : List Value}

theorem OpT.makeMap {C : Env → List Chunk → Prop} (g : α → Value) (hd : fitsB N dst = true)
    (k : ∀ b, C (upd dst (.map (some b)) E) (mp b g [] :: L)) : OpT P Q N ⟨dst, .makeMap t none, ty, pos, aft, gu⟩ E L C := fun K hK A w hS hM => by
  have hr : (execOp A.eval ⟨dst, .makeMap t none, ty, pos, aft, gu⟩).run P w = .ok (.value (.map (some w.heap.size))) (w.alloc (.map #[] 0)) := by
    simp only [execOp, Sem.run_bind, Option.map_none, RowKit.run_makeMap]
    rfl
  unfold Oper.wp
  rw [hr]
  refine hK _ _ (k w.heap.size) _ _ (hS.put _ hd) (hM.add ((Keeps.refl _ _).alloc _) (mp_holds.2 ⟨#[], 0, ?_, rfl⟩) (fun b hb => by rw [mp_foot.1 hb]; exact Nat.le_refl _))
  exact heap_alloc_new w _

theorem run_lookupMp {ok : Bool} {k : Int} (ht : tyOf P t = some ⟨.map kt et, s1, b1, z1⟩) (hkt : tyOf P kt = some ⟨.int .i64, s2, b2, z2⟩) (z : Value) (hz : (zeroValue et).run P w = .ok z w) (hm : (mp b g l).holds w) :
    (Instr.lookup t (.map (some b)) (.int .i64 k) ok).run P w = .ok (if ok then .tuple #[((mfind l k).map g).getD z, .bool (mfind l k).isSome] else ((mfind l k).map g).getD z) w := by
  obtain ⟨es, clock, h1, h2⟩ := mp_holds.1 hm
  have h3 := findNow_ints g k es.toList l 0 h2
  have hu := (tyOk ht).map
  have hk := (tyOk hkt).int
  unfold Instr.lookup
  cases hf : mfind l k with
  | none =>
    rw [hf] at h3
    simp only at h3
    simp [run_underlying hu, MapKept.run_getObj_map h1, run_checkInt hk, run_findInt hk k _ _ h3, hz]
  | some a =>
    rw [hf] at h3
    obtain ⟨j, h3, -⟩ := h3
    simp [run_underlying hu, MapKept.run_getObj_map h1, run_checkInt hk, run_findInt hk k _ _ h3]
/-- m[k], with ok or without -/
theorem Still.lookup {x y : Operand} {k : Int} {ok : Bool} {z : Value} (hx : ev E x = some (.map (some b))) (hy : ev E y = some (.int .i64 k)) (ht : tyOf P t = some ⟨.map kt et, s1, b1, z1⟩) (hkt : tyOf P kt = some ⟨.int .i64, s2, b2, z2⟩)
    (hz : (P.info? et).map (·.zero) = some (some z)) (hm : Take (mp b g l) L L') :
    Still P N ⟨dst, .lookup t x y ok, ty, pos, aft, gu⟩ E L (if ok then .tuple #[((mfind l k).map g).getD z, .bool (mfind l k).isSome] else ((mfind l k).map g).getD z) := fun A w hS hM => by
  have hz' : (zeroValue et).run P w = .ok z w := by
    cases hi : P.info? et with
    | none => rw [hi] at hz; cases hz
    | some i => rw [hi] at hz; simp at hz; simp [zeroValue, typeInfo, hi, hz]
  simp only [execOp, hS.ev hx, hS.ev hy, Sem.run_bind, run_lookupMp ht hkt z hz' (hM.has hm), Result.andThen_ok, Sem.run_pure]

theorem Still.lookupOk {x y : Operand} {k : Int} {z : Value} (hx : ev E x = some (.map (some b))) (hy : ev E y = some (.int .i64 k)) (ht : tyOf P t = some ⟨.map kt et, s1, b1, z1⟩) (hkt : tyOf P kt = some ⟨.int .i64, s2, b2, z2⟩)
    (hz : (P.info? et).map (·.zero) = some (some z)) (hm : Take (mp b g l) L L') :
    Still P N ⟨dst, .lookup t x y true, ty, pos, aft, gu⟩ E L (.tuple #[((mfind l k).map g).getD z, .bool (mfind l k).isSome]) := Still.lookup (ok := true) hx hy ht hkt hz hm
theorem Still.lookup1 {x y : Operand} {k : Int} {z : Value} (hx : ev E x = some (.map (some b))) (hy : ev E y = some (.int .i64 k)) (ht : tyOf P t = some ⟨.map kt et, s1, b1, z1⟩) (hkt : tyOf P kt = some ⟨.int .i64, s2, b2, z2⟩)
    (hz : (P.info? et).map (·.zero) = some (some z)) (hm : Take (mp b g l) L L') :
    Still P N ⟨dst, .lookup t x y false, ty, pos, aft, gu⟩ E L (((mfind l k).map g).getD z) := Still.lookup (ok := false) hx hy ht hkt hz hm

theorem Still.lookupOkN {x y : Operand} {k : Int} {z : Value} (hx : ev E x = some (.map (some b))) (hy : ev E y = some (.int .i64 k)) (ht : tyOf P t = some ⟨.map kt et, s1, b1, z1⟩) (hkt : tyOf P kt = some ⟨.int .i64, s2, b2, z2⟩)
    (hz : (P.info? et).map (·.zero) = some (some z)) (hm : Take (mp b g l) L L') (hf : mfind l k = none) : Still P N ⟨dst, .lookup t x y true, ty, pos, aft, gu⟩ E L (.tuple #[z, .bool false]) := by
  have := Still.lookupOk (N := N) (dst := dst) (ty := ty) (pos := pos) (aft := aft) (gu := gu) hx hy ht hkt hz hm
  rw [hf] at this; exact this
theorem Still.lookupOkS {x y : Operand} {k : Int} {z : Value} {a : α} (hx : ev E x = some (.map (some b))) (hy : ev E y = some (.int .i64 k)) (ht : tyOf P t = some ⟨.map kt et, s1, b1, z1⟩) (hkt : tyOf P kt = some ⟨.int .i64, s2, b2, z2⟩)
    (hz : (P.info? et).map (·.zero) = some (some z)) (hm : Take (mp b g l) L L') (hf : mfind l k = some a) : Still P N ⟨dst, .lookup t x y true, ty, pos, aft, gu⟩ E L (.tuple #[g a, .bool true]) := by
  have := Still.lookupOk (N := N) (dst := dst) (ty := ty) (pos := pos) (aft := aft) (gu := gu) hx hy ht hkt hz hm
  rw [hf] at this; exact this
theorem Still.lookup1N {x y : Operand} {k : Int} {z : Value} (hx : ev E x = some (.map (some b))) (hy : ev E y = some (.int .i64 k)) (ht : tyOf P t = some ⟨.map kt et, s1, b1, z1⟩) (hkt : tyOf P kt = some ⟨.int .i64, s2, b2, z2⟩)
    (hz : (P.info? et).map (·.zero) = some (some z)) (hm : Take (mp b g l) L L') (hf : mfind l k = none) : Still P N ⟨dst, .lookup t x y false, ty, pos, aft, gu⟩ E L z := by
  have := Still.lookup1 (N := N) (dst := dst) (ty := ty) (pos := pos) (aft := aft) (gu := gu) hx hy ht hkt hz hm
  rw [hf] at this; exact this
theorem Still.lookup1S {x y : Operand} {k : Int} {z : Value} {a : α} (hx : ev E x = some (.map (some b))) (hy : ev E y = some (.int .i64 k)) (ht : tyOf P t = some ⟨.map kt et, s1, b1, z1⟩) (hkt : tyOf P kt = some ⟨.int .i64, s2, b2, z2⟩)
    (hz : (P.info? et).map (·.zero) = some (some z)) (hm : Take (mp b g l) L L') (hf : mfind l k = some a) : Still P N ⟨dst, .lookup t x y false, ty, pos, aft, gu⟩ E L (g a) := by
  have := Still.lookup1 (N := N) (dst := dst) (ty := ty) (pos := pos) (aft := aft) (gu := gu) hx hy ht hkt hz hm
  rw [hf] at this; exact this

/-- m[k] = v -/
theorem OpT.mapUpdate {x y v : Operand} {key : Int} {a : α} {C : Env → List Chunk → Prop} (hx : ev E x = some (.map (some b))) (hy : ev E y = some (.int .i64 key)) (hv : ev E v = some (g a))
    (ht : tyOf P t = some ⟨.map kt et, s1, b1, z1⟩) (hkt : tyOf P kt = some ⟨.int .i64, s2, b2, z2⟩) (hm : Take (mp b g l) L L') (hd : fitsB N dst = true)
    (k : C (upd dst undef E) (mp b g (mput l key a) :: L')) : OpT P Q N ⟨dst, .mapUpdate t x y v, ty, pos, aft, gu⟩ E L C := fun K hK A w hS hM => by
  obtain ⟨k', rfl⟩ : ∃ k', k' = key := ⟨_, rfl⟩
  obtain ⟨es, clock, h1, h2⟩ := mp_holds.1 (hM.has hm)
  have h3 := findNow_ints g k' es.toList l 0 h2
  have hu := (tyOk ht).map
  have hk := (tyOk hkt).int
  have hlt : b < w.heap.size := (Array.getElem?_eq_some_iff.1 h1).1
  have key : ∃ es' clock', (Instr.mapUpdate t (.map (some b)) (.int .i64 k') (g a)).run P w = .ok () { w with heap := w.heap.setIfInBounds b (.map es' clock') } ∧ es'.toList.map (fun e => (e.key, e.val)) = (mput l k' a).map (fun p => (Value.int .i64 p.1, g p.2)) := by
    unfold Instr.mapUpdate
    cases hf : mfind l k' with
    | none =>
      rw [hf] at h3
      simp only at h3
      refine ⟨es.push { key := .int .i64 k', val := g a, born := clock }, clock + 1, ?_, ?_⟩
      · simp [run_underlying hu, MapKept.run_getObj_map h1, run_checkInt hk, run_findInt hk k' _ _ h3, MapKept.run_setObj_map _ h1]
      · rw [mput_new _ _ _ hf]; simp [h2]
    | some a0 =>
      rw [hf] at h3
      obtain ⟨j, h3, h4, h5⟩ := h3
      have h4' : (es[j]?).map (·.key) = some (.int .i64 k') := by simpa using h4
      refine ⟨es.modify j fun e => { e with key := .int .i64 k', val := g a }, clock, ?_, ?_⟩
      · have hst : (Instr.keyThatStays (.int .i64 k') (.int .i64 k')).run P w = .ok (.int .i64 k') w := by
          unfold Instr.keyThatStays
          rw [show (10000 : Nat) = 9999 + 1 from rfl]
          simp [Instr.sameBits]
        simp [run_underlying hu, MapKept.run_getObj_map h1, run_checkInt hk, run_findInt hk k' _ _ h3, h4', hst, MapKept.run_setObj_map _ h1]
      · rw [Array.toList_modify]; exact h5 a
  obtain ⟨es', clock', hrun, he⟩ := key
  have hr : (execOp A.eval ⟨dst, .mapUpdate t x y v, ty, pos, aft, gu⟩).run P w = .ok .skip { w with heap := w.heap.setIfInBounds b (.map es' clock') } := by
    simp only [execOp, hS.ev hx, hS.ev hy, hS.ev hv, Sem.run_bind, hrun, Result.andThen_ok, Sem.run_pure]
  unfold Oper.wp
  rw [hr]
  refine hK _ _ k _ _ (hS.put _ hd) ((hM.take hm).turn (S := fun i => i = b) ⟨rfl, rfl, rfl, by simp, fun i hi hs => ?_⟩ mp_excl (fun c hc _ => mp_foot.2 hc) (mp_holds.2 ⟨es', clock', ?_, he⟩) (fun c hc => .inl (mp_foot.2 (mp_foot.1 hc))))
  · simp only [Array.getElem?_setIfInBounds]
    rw [if_neg (fun h => hs h.symm)]
  · simp only [Array.getElem?_setIfInBounds, if_pos hlt, if_true]
end
end Go.Proofs.Ytjehflelkpacfaa
