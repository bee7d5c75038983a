/- Many chunks as one; slices of what is only read, cut; results that lie in memory. Of whatever program whose types a table says. -/
import Derived.Test.YtkhagebjphaboaaEnc
namespace Go.Proofs.Ytkhagebjphaboaa
open Go
set_option linter.unusedVariables false
set_option linter.unusedSimpArgs false
set_option linter.unusedSectionVars false

theorem Mem.keeps {w w' : World} {cs : List Chunk} {S : Nat → Prop} (h : Mem w cs) (k : Keeps S w w') (hs : ∀ c ∈ cs, ∀ b, c.foot b → ¬ S b) : Mem w' cs :=
  ⟨fun c hc => c.stab k (hs c hc) (h.all c hc), h.sep⟩
/-- many chunks of one's own -/
@[irreducible] def bag (cs : List Chunk) : Chunk where
  holds w := Mem w cs ∧ ∀ c ∈ cs, c.excl = true
  foot b := ∃ c ∈ cs, c.foot b
  excl := true
  stab k hs h := ⟨h.1.keeps k (fun c hc b hb => hs b ⟨c, hc, hb⟩), h.2⟩
  lt h b hb := by obtain ⟨c, hc, hb⟩ := hb; exact c.lt (h.1.all c hc) b hb
theorem bag_holds {w : World} {cs : List Chunk} : (bag cs).holds w ↔ Mem w cs ∧ ∀ c ∈ cs, c.excl = true := by unfold bag; exact Iff.rfl
theorem bag_foot {b : Nat} {cs : List Chunk} : (bag cs).foot b ↔ ∃ c ∈ cs, c.foot b := by unfold bag; exact Iff.rfl
theorem bag_excl {cs : List Chunk} : (bag cs).excl = true := by unfold bag; rfl
theorem Mem.pack {w : World} {cs L : List Chunk} (h : Mem w (cs ++ L)) (hx : ∀ c ∈ cs, c.excl = true) : Mem w (bag cs :: L) := by
  have hsep := List.pairwise_append.1 h.sep
  refine ⟨fun c hc => ?_, List.pairwise_cons.2 ⟨fun d hd _ b hb hb' => ?_, hsep.2.1⟩⟩
  · rcases List.mem_cons.1 hc with rfl | hc
    · exact bag_holds.2 ⟨h.left, hx⟩
    · exact h.all c (List.mem_append_right _ hc)
  · obtain ⟨c, hc, hcb⟩ := bag_foot.1 hb
    exact hsep.2.2 c hc d hd (.inl (hx c hc)) b hcb hb'
theorem Mem.unpack {w : World} {cs L : List Chunk} (h : Mem w (bag cs :: L)) : Mem w (cs ++ L) := by
  have hb := bag_holds.1 (h.all (bag cs) (by simp))
  have hp := List.pairwise_cons.1 h.sep
  refine ⟨fun c hc => ?_, List.pairwise_append.2 ⟨hb.1.sep, hp.2, fun c hc d hd _ b hcb hdb => ?_⟩⟩
  · rcases List.mem_append.1 hc with hc | hc
    · exact hb.1.all c hc
    · exact h.all c (by simp [hc])
  · exact hp.1 d hd (.inl bag_excl) b (bag_foot.2 ⟨c, hc, hcb⟩) hdb
theorem Mem.bagNil {w : World} {L : List Chunk} (h : Mem w L) : Mem w (bag [] :: L) := Mem.pack (cs := []) h (by simp)
theorem Mem.bagAdd {w : World} {cs ds L L' F : List Chunk} (h : Mem w L) (t : Take (bag cs) L L') (t2 : Takes ds L' F) (hx : ∀ c ∈ ds, c.excl = true) : Mem w (bag (cs ++ ds) :: F) := by
  have h1 := (h.take t).unpack
  have hb := bag_holds.1 (h.has t)
  have h2 : Mem w (cs ++ (ds ++ F)) := h1.perm (List.Perm.append_left _ t2.perm)
  rw [← List.append_assoc] at h2
  exact h2.pack (fun c hc => (List.mem_append.1 hc).elim (hb.2 c) (hx c))
/-- what is only read may be read twice -/
theorem Mem.dup {w : World} {L L' : List Chunk} {c c' : Chunk} (h : Mem w L) (t : Take c L L') (hx : c'.excl = false) (hc : c'.holds w) (hf : ∀ b, c'.foot b → c.foot b) (hcx : c.excl = false) : Mem w (c' :: L) := by
  refine ⟨fun d hd => ?_, List.pairwise_cons.2 ⟨fun d hd hdx b hb hb' => ?_, h.sep⟩⟩
  · rcases List.mem_cons.1 hd with rfl | hd
    · exact hc
    · exact h.all d hd
  · have hdx : d.excl = true := by rcases hdx with h | h; rw [hx] at h; cases h; exact h
    have h2 := h.take t
    have hd2 : d ∈ c :: L' := t.perm.mem_iff.1 hd
    rcases List.mem_cons.1 hd2 with rfl | hd2
    · rw [hcx] at hdx; cases hdx
    · exact (List.pairwise_cons.1 h2.sep).1 d hd2 (.inr hdx) b (hf b hb) hb'

section
variable {α : Type} {iα : Inhabited α} {ao : Option Addr} {n cap : Nat} {e : TypeId} {f : α → List Value} {ef : Enc f} {l : List α}
theorem Row.sub [Enc f] {w : World} {lo hi : Nat} (h : Row w (.slice ao n cap) (sz f) n (l.flatMap f)) (hln : l.length = n) (h1 : lo ≤ hi) (h2 : hi ≤ n) :
    Row w (.slice (if cap = lo then ao else ao.map (·.add (lo * sz f))) (hi - lo) (cap - lo)) (sz f) (hi - lo) (((l.take hi).drop lo).flatMap f) := by
  obtain ⟨g1, g2, ao', cap', g3, g4, g5⟩ := h
  simp only [Value.slice.injEq] at g3
  obtain ⟨rfl, -, rfl⟩ := g3
  refine ⟨by rw [flatMap_len]; simp; congr 1; omega, by omega, _, _, rfl, by omega, fun hn => ?_⟩
  obtain ⟨b, o, rfl, hc⟩ := g5 (by omega)
  rw [if_neg (by omega)]
  refine ⟨b, o + lo * sz f, by simp [Addr.add_lit'], fun j hj => ?_⟩
  have hmul : (hi - lo) * sz f + lo * sz f = hi * sz f := by rw [← Nat.add_mul]; congr 1; omega
  have hmul2 : hi * sz f ≤ n * sz f := Nat.mul_le_mul_right _ h2
  rw [← flatMap_drop, ← flatMap_take, List.getElem?_drop, List.getElem?_take, if_pos (by omega), Nat.add_assoc]
  exact hc _ (by omega)
theorem own_cut {lo : Nat} {m c : Nat} {k : Nat} (h : (Value.slice (if cap = lo then ao else ao.map (·.add (lo * m))) c (cap - lo)).ownBlock = some k) (n' : Nat) : (Value.slice ao n' cap).ownBlock = some k := by
  cases ao with
  | none => simp [Value.ownBlock] at h
  | some a0 =>
    by_cases hc' : cap = lo
    · rw [if_pos hc'] at h; exact h
    · rw [if_neg hc'] at h
      simp only [Value.ownBlock, Option.map_some, Option.some.injEq] at h ⊢
      rw [← h]
      unfold Addr.add
      split <;> rfl
theorem At.sub [Enc f] {w0 : World} {S : Nat → Prop} {lo hi : Nat} (h : At w0 S ao n cap f l) (h1 : lo ≤ hi) (h2 : hi ≤ n) : At w0 S (if cap = lo then ao else ao.map (·.add (lo * sz f))) (hi - lo) (cap - lo) f ((l.take hi).drop lo) :=
  ⟨⟨Row.sub h.1.1 h.1.2 h1 h2, by have := h.1.2; simp; omega⟩, fun b hb hn => h.2 b (own_cut hb n) (by omega)⟩
variable {P : Program} [Tabbed P] {Q : Exit → Act → World → Prop} {N : Nat} {E : Env} {L L' : List Chunk}
variable {dst : Option Tmp} {ty : TypeId} {pos : String} {aft : Array Edge} {g : Option (Nat × Bool)}
theorem OpT.cutR {t : TypeId} {s' b' s2 b2 lo hi : Nat} {d2 : TyD} {z' z2 : List Value} {x : Operand} {ol oh : Option Operand} {C : Env → List Chunk → Prop} (hx : ev E x = some (.slice ao n cap)) (ht : tyOf P t = some ⟨.slice e, s', b', z'⟩) (he : tyOf P e = some ⟨d2, s2, b2, z2⟩)
    (hm : Take (rd ao n cap f l) L L') (hs2 : s2 = sz f) (hb : Bnd E n ol oh lo hi) (h1 : lo ≤ hi) (h2 : hi ≤ n) (hd : fitsB N dst = true)
    (k : ∀ ao' cap', C (upd dst (.slice ao' (hi - lo) cap') E) (rd ao' (hi - lo) cap' f ((l.take hi).drop lo) :: L)) : OpT P Q N ⟨dst, .slice t x ol oh none, ty, pos, aft, g⟩ E L C := fun K hK A w hS hM => by
  obtain ⟨hrow, hln⟩ := rd_holds.1 (hM.has hm)
  have hcap : n ≤ cap := by
    obtain ⟨-, -, ao', cap', g2, g3, -⟩ := hrow
    simp only [Value.slice.injEq] at g2
    obtain ⟨-, -, rfl⟩ := g2
    exact g3
  unfold Oper.wp
  rw [run_cut hS hx ht he hb h1 (by omega) w]
  subst hs2
  refine hK _ _ (k _ _) _ _ (hS.put _ hd) (hM.dup hm rd_excl (rd_holds.2 ⟨Row.sub hrow hln h1 h2, by simp; omega⟩) (fun c hc => rd_foot.2 ⟨own_cut (rd_foot.1 hc).1 n, by have := (rd_foot.1 hc).2; omega⟩) rd_excl)
theorem OpT.cutR0 {t : TypeId} {s' b' s2 b2 hi : Nat} {d2 : TyD} {z' z2 : List Value} {x : Operand} {oh : Option Operand} {C : Env → List Chunk → Prop} (hx : ev E x = some (.slice ao n cap)) (ht : tyOf P t = some ⟨.slice e, s', b', z'⟩) (he : tyOf P e = some ⟨d2, s2, b2, z2⟩)
    (hm : Take (rd ao n cap f l) L L') (hs2 : s2 = sz f) (hb : Bnd E n none oh 0 hi) (h2 : hi ≤ n) (hd : fitsB N dst = true)
    (k : ∀ ao' cap', C (upd dst (.slice ao' hi cap') E) (rd ao' hi cap' f (l.take hi) :: L)) : OpT P Q N ⟨dst, .slice t x none oh none, ty, pos, aft, g⟩ E L C :=
  OpT.cutR hx ht he hm hs2 hb (Nat.zero_le _) h2 hd (fun ao' cap' => by simpa using k ao' cap')
theorem OpT.cutA0 {t : TypeId} {s' b' s2 b2 hi : Nat} {d2 : TyD} {z' z2 : List Value} {x : Operand} {oh : Option Operand} {C : Env → List Chunk → Prop} (hx : ev E x = some (.slice ao n cap)) (ht : tyOf P t = some ⟨.slice e, s', b', z'⟩) (he : tyOf P e = some ⟨d2, s2, b2, z2⟩)
    (hm : Take (arr ao n cap e f l) L L') (hs2 : s2 = sz f) (hb : Bnd E n none oh 0 hi) (h2 : hi ≤ n) (hd : fitsB N dst = true)
    (k : ∀ ao' cap', C (upd dst (.slice ao' hi cap') E) (arr ao' hi cap' e f (l.take hi) :: L')) : OpT P Q N ⟨dst, .slice t x none oh none, ty, pos, aft, g⟩ E L C :=
  OpT.cutA hx ht he hm hs2 hb (Nat.zero_le _) h2 hd (fun ao' cap' => by simpa using k ao' cap')
theorem OpT.cutA1 {t : TypeId} {s' b' s2 b2 lo : Nat} {d2 : TyD} {z' z2 : List Value} {x : Operand} {ol : Option Operand} {C : Env → List Chunk → Prop} (hx : ev E x = some (.slice ao n cap)) (ht : tyOf P t = some ⟨.slice e, s', b', z'⟩) (he : tyOf P e = some ⟨d2, s2, b2, z2⟩)
    (hm : Take (arr ao n cap e f l) L L') (hs2 : s2 = sz f) (hb : Bnd E n ol none lo n) (h2 : lo ≤ n) (hn : l.length = n) (hd : fitsB N dst = true)
    (k : ∀ ao' cap', C (upd dst (.slice ao' (n - lo) cap') E) (arr ao' (n - lo) cap' e f (l.drop lo) :: L')) : OpT P Q N ⟨dst, .slice t x ol none none, ty, pos, aft, g⟩ E L C :=
  OpT.cutA hx ht he hm hs2 hb h2 (Nat.le_refl _) hd (fun ao' cap' => by have := k ao' cap'; rwa [List.take_of_length_le (by omega)])
/-- a slice that stood in w0, cut -/
theorem OpT.cutO {t : TypeId} {s' b' s2 b2 lo hi : Nat} {d2 : TyD} {z' z2 : List Value} {x : Operand} {ol oh : Option Operand} {w0 : World} {S : Nat → Prop} {C : Env → List Chunk → Prop} (hx : ev E x = some (.slice ao n cap)) (ht : tyOf P t = some ⟨.slice e, s', b', z'⟩) (he : tyOf P e = some ⟨d2, s2, b2, z2⟩)
    (ha : @At α iα w0 S ao n cap f l) (hs2 : s2 = sz f) (hb : Bnd E n ol oh lo hi) (h1 : lo ≤ hi) (h2 : hi ≤ n) (hE : Enc f) (hd : fitsB N dst = true)
    (k : ∀ ao' cap', At w0 S ao' (hi - lo) cap' f ((l.take hi).drop lo) → C (upd dst (.slice ao' (hi - lo) cap') E) L) : OpT P Q N ⟨dst, .slice t x ol oh none, ty, pos, aft, g⟩ E L C := fun K hK A w hS hM => by
  have hcap : n ≤ cap := by
    obtain ⟨⟨⟨-, -, ao', cap', g2, g3, -⟩, -⟩, -⟩ := ha
    simp only [Value.slice.injEq] at g2
    obtain ⟨-, -, rfl⟩ := g2
    exact g3
  unfold Oper.wp
  rw [run_cut hS hx ht he hb h1 (by omega) w]
  subst hs2
  exact hK _ _ (k _ _ (ha.sub h1 h2)) _ _ (hS.put _ hd) hM
end

section
variable {P : Program} [Tabbed P] {N : Nat} {E : Env} {L L' F : List Chunk} {σ : Type} {fn : Func} {post : σ → Prop} {val : σ → Value} {mem : σ → List Chunk} {w0 : World} {S : Nat → Prop}
theorem run_cell {w : World} {t : TypeId} {b s' b' : Nat} {bt : TypeId} {fs : List (Nat × TypeId)} {z' cs : List Value} (ht : tyOf P t = some ⟨.struct fs, s', b', z'⟩) (hb : Blk w b cs.toArray bt) (hl : cs.length = s') : (loadVar t ⟨b, 0, none⟩).run P w = .ok (.agg cs.toArray) w := by
  obtain ⟨l, h1, -⟩ := (tyOk ht).struct
  obtain ⟨x', z, h3, h4, -⟩ := (tyOk ht).info
  exact run_loadVar_mid (P := P) w b 0 t cs _ (fun j v hj => by rw [hb.cell]; simpa using hj) h1 rfl (by rw [h3]; simp [h4, hl])
theorem End.imp {Q : Exit → Act → World → Prop} {e : Exit} {L' : List Chunk} (t : ∀ w, Mem w L → Mem w L') (h : End Q N e E L') : End Q N e E L := fun a w hs hm => h a w hs (t w hm)
/-- two results, the first one in memory -/
theorem End.doneC2 {t u : Tmp} {ty bt : TypeId} {b s' b' : Nat} {fs : List (Nat × TypeId)} {z' cs : List Value} {v : Value} (x : σ) (hr : fn.results = #[.cell t ty, .tmp u]) (hv : look E t = some (.pointer (some ⟨b, 0, none⟩))) (ht : tyOf P ty = some ⟨.struct fs, s', b', z'⟩)
    (hm : Take (blk b cs bt) L L') (hl : cs.length = s') (hu : look E u = some v) (he : val x = .tuple #[.agg cs.toArray, v]) (hp : post x) (hx : ∀ c ∈ mem x, c.excl = true) (hF : Takes (old w0 S :: mem x) L F) : End (bodyPost P fn (Owes post val mem w0 S)) N .ret E L := fun a w hs hM => by
  have hb := blk_holds.1 (hM.has hm)
  have h1 := hs.slot t _ hv
  have h2 := hs.slot u _ hu
  refine bodyPost_ret (v := .tuple #[.agg cs.toArray, v]) ?_ hs.defs ⟨x, hp, by rw [he], hx, (hM.takes hF).left⟩
  simp [results, hr, h1, h2, asAddr, run_cell ht hb hl]
/-- one result, in memory -/
theorem End.doneC1 {t : Tmp} {ty bt : TypeId} {b s' b' : Nat} {fs : List (Nat × TypeId)} {z' cs : List Value} (x : σ) (hr : fn.results = #[.cell t ty]) (hv : look E t = some (.pointer (some ⟨b, 0, none⟩))) (ht : tyOf P ty = some ⟨.struct fs, s', b', z'⟩)
    (hm : Take (blk b cs bt) L L') (hl : cs.length = s') (he : val x = .agg cs.toArray) (hp : post x) (hx : ∀ c ∈ mem x, c.excl = true) (hF : Takes (old w0 S :: mem x) L F) : End (bodyPost P fn (Owes post val mem w0 S)) N .ret E L := fun a w hs hM => by
  have hb := blk_holds.1 (hM.has hm)
  have h1 := hs.slot t _ hv
  refine bodyPost_ret (v := .agg cs.toArray) ?_ hs.defs ⟨x, hp, by rw [he], hx, (hM.takes hF).left⟩
  simp [results, hr, h1, asAddr, run_cell ht hb hl]
end
/-- a piece of code, cut off behind: what is known there hangs on an s -/
theorem cutK {P : Program} {Q : Exit → Act → World → Prop} {N : Nat} {E : Env} {L : List Chunk} {K : Act → World → Prop} {y c : Code} {id : Nat} (hK : ∀ E' L', Cod P Q N y E' L' → ∀ a w, Sat N a E' → Mem w L' → K a w) {σ : Type} (ok : σ → Prop) (inv : σ → Env) (mem : σ → List Chunk)
    (h2 : ∀ s, ok s → Cod P Q N y (inv s) (mem s)) (h1 : ∀ K' : Act → World → Prop, (∀ s, ok s → ∀ a w, Sat N a (inv s) → Mem w (mem s) → K' a w) → Cod P (Exit.inBlock id (Exit.then K' Q)) N c E L) : Cod P (Exit.inBlock id (Exit.then K Q)) N c E L := h1 K (fun s hs a w ha hm => hK _ _ (h2 s hs) a w ha hm)
theorem End.some {Q : Exit → Act → World → Prop} {N : Nat} {E : Env} {L F : List Chunk} {K : Act → World → Prop} {σ : Type} {ok : σ → Prop} {inv : σ → Env} {mem : σ → List Chunk} (hK : ∀ s, ok s → ∀ a w, Sat N a (inv s) → Mem w (mem s) → K a w) (s : σ) (h1 : ok s)
    (hE : Sub (inv s) E) (hL : Takes (mem s) L F) : End (Exit.then K Q) N .normal E L := fun a w hs hm => hK s h1 a w (hs.sub hE) (hm.takes hL).left
/-- a round's end; what is left over is let go -/
theorem End.round0 {Q : Exit → Act → World → Prop} {N : Nat} {E : Env} {L F' : List Chunk} {σ : Type} {K : Act → World → Prop} {ok : σ → Prop} {inv : σ → Env} {mem : σ → List Chunk} {μ : σ → Nat} {m : Nat}
    (hK : ∀ s', ok s' → μ s' < m → ∀ a w, Sat N a (inv s') → Mem w (mem s' ++ []) → K a w) (s : σ) (h1 : ok s) (h2 : μ s < m) (hE : Sub (inv s) E) (hL : Takes (mem s) L F') : End (Exit.then K Q) N .normal E L :=
  fun a w hs hm => hK s h1 h2 a w (hs.sub hE) (by simpa using (hm.takes hL).left)
end Go.Proofs.Ytkhagebjphaboaa
