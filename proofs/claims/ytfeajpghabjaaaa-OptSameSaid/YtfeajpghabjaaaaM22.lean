/- Package opt, walked: code. -/
import Derived.Test.YtfeajpghabjaaaaM21
import Derived.Laws.StructEq
namespace Go.Proofs.Ytfeajpghabjaaaa.Vw
open Go.RowKit Go.Proofs.Ytfeajpghabjaaaa.Img
set_option linter.unusedVariables false
set_option linter.unusedSimpArgs false
theorem em_in64 {l : List ImgM.Ins} (hl : In64s l) {q : Nat} (hq : q < l.length) {i : ImgM.Ins} (hi : i ∈ Opt.em l q) : ImgM.In64 i.a ∧ ImgM.In64 i.n := by
  have z0 : ImgM.In64 0 := by unfold ImgM.In64; omega
  by_cases hs : (Opt.shorter l q).2 = 0
  · unfold Opt.em at hi
    rw [if_pos hs] at hi
    simp at hi
    subst hi
    exact hl _ (Opt.mem_at hq)
  · unfold Opt.em at hi
    rw [if_neg hs] at hi
    have kn : ∀ v t, ImgM.In64 v → i ∈ Opt.known v t → ImgM.In64 i.a ∧ ImgM.In64 i.n := fun v t hv h => by
      unfold Opt.known at h
      split at h <;> (simp at h; subst h; first | exact ⟨hv, z0⟩ | exact ⟨z0, hv⟩)
    rcases Opt.shorter_cases hs with ⟨r, g1, g2, g3⟩ | ⟨r, g1, g2, g3⟩ | ⟨g1, g2, g3, g4⟩
    · have hlt := Opt.free_lt g2
      rw [g1] at hi
      simp only at hi
      have m1 := hl _ (Opt.mem_at (l := l) (q := q) (by omega))
      have m2 := hl _ (Opt.mem_at (l := l) (q := q + 1) (by omega))
      unfold Opt.three at g3
      split at g3
      · cases g3
      rename_i n1
      split at g3
      · cases g3
      cases g3
      exact kn _ _ (two2_in (cval_in m1.1 m1.2) (cval_in m2.1 m2.2) (fun ho h0 => n1 (.inr (.inr (.inr (.inr (.inr ⟨h0, ho⟩))))))) hi
    · have hlt := Opt.free_lt g2
      rw [g1] at hi
      simp only at hi
      unfold Opt.pair at g3
      split at g3
      · cases g3; cases hi
      split at g3
      · cases g3
      split at g3
      · cases g3; exact kn _ _ (wrap_in _) hi
      split at g3
      · cases g3
      split at g3
      · cases g3; exact kn _ _ (wrap_in _) hi
      split at g3
      · cases g3; cases hi
      split at g3
      · cases g3
        simp at hi
        subst hi
        exact ⟨(hl _ (Opt.mem_at (l := l) (q := q + 1) (by omega))).1, z0⟩
      · cases g3
    · rw [g1] at hi; cases hi
theorem UOk_jumps {M : ImgM.Mdl} {u : ImgM.Unt} (h : Opt.UOk M u) : Jumps u.code := fun i hi hJ => (Ver.instr_ok (h.ins i hi)).jump (Opt.isJ_iff.1 hJ)
theorem In64s_pass {M : ImgM.Mdl} {u : ImgM.Unt} (h : Opt.UOk M u) (hl : In64s u.code) : In64s (Opt.pass u.code).1 := fun i hi => by
  have hlen := (Opt.head_len h.head).2
  have hpl := Opt.pass_len u.code
  obtain ⟨q, j, hq, hj, rfl⟩ := Opt.mem_pass hi
  have hj64 := em_in64 hl hq hj
  cases hJ : Opt.isJ j with
  | false => rw [Opt.reloc_no hJ]; exact hj64
  | true =>
    have hn := (UOk_jumps h.pass) _ hi (by rw [Opt.isJ_iff, Opt.reloc_op, ← Opt.isJ_iff]; exact hJ)
    have hc : (Opt.withC u (Opt.pass u.code).1).code = (Opt.pass u.code).1 := rfl
    rw [hc] at hn
    refine ⟨?_, ?_⟩
    · unfold ImgM.In64; omega
    · unfold Opt.reloc; rw [if_pos hJ]; exact hj64.2
theorem codeN_fuel : ∀ (n n' : Nat) (l : List ImgM.Ins), l.length < n → l.length < n' → Opt.codeN n l = Opt.codeN n' l
  | 0, _, _, h, _ => by omega
  | _ + 1, 0, _, _, h => by omega
  | n + 1, n' + 1, l, h, h' => by
    have hl := Opt.pass_len l
    unfold Opt.codeN
    split
    · rename_i hd
      rw [if_pos hd] at hl
      exact codeN_fuel n n' _ (by omega) (by omega)
    · rfl
theorem code_step {l : List ImgM.Ins} : Opt.code l = if (Opt.pass l).2 then Opt.code (Opt.pass l).1 else (Opt.pass l).1 := by
  have hl := Opt.pass_len l
  conv => lhs; unfold Opt.code Opt.codeN
  split
  · rename_i hd
    rw [if_pos hd] at hl
    exact codeN_fuel _ _ _ (by omega) (by omega)
  · rfl
attribute [local irreducible] Run Cod End OpT Still RunQ RunS RunT Fn PutOk
set_option maxRecDepth 100000 in
theorem cloneX_is (ao : Option Addr) (n cap : Nat) (l : List (Int × Int)) (hn : l.length = n) (hm : n ≤ 1000000000) :
    Fn Try.prog 16 #[.slice ao n cap] [rd ao n cap boxC l] [] (σ := Option Addr × Nat) (fun _ => True) (fun s => .slice s.1 n s.2) (fun s => [arr s.1 n s.2 50 boxC l]) := by
  refine Fn.enter (args := [.slice ao n cap]) Try.func16 rfl _ Try.ntmps16 rfl (by simp [rd_excl, md_excl]) (fun w S => ?_)
  (try conv => rhs; simp only [List.cons_append, List.nil_append])
  cases ao with
  | none =>
    apply Cod.fact (n = 0) (fun w hm => by
      obtain ⟨⟨-, -, ao', cap', he, -, h4⟩, -⟩ := rd_holds.1 (hm.has (.tail .head))
      rcases Nat.eq_zero_or_pos n with h | h
      · exact h
      · obtain ⟨b, off, rfl, -⟩ := h4 h
        simp at he)
    rintro rfl
    obtain rfl : l = [] := List.eq_nil_of_length_eq_zero hn
    repeat (first | refine go (k := ?_) | (refine goB (k := ?_); intro b) | (refine goA (k := ?_); intro ao cap))
    apply End.imp (fun w hm => hm.nilArr 50 boxC)
    (refine End.done1_ ((none, 0)) (he := by (first | exact rfl | (refine congrArg (Value.int _) ?_; omega) | (refine congrArg (Value.int _) ?_; dsimp only; omega))) (hp := ?_))
    trivial
  | some a0 =>
    repeat (first | refine go (k := ?_) | (refine goB (k := ?_); intro b) | (refine goA (k := ?_); intro ao cap))
    apply Run.imp (fun w hm => hm.toArr .head ([] : List (Int × Int)) rfl rfl (by unfold maxLen; simp))
    repeat (first | refine go (k := ?_) | (refine goB (k := ?_); intro b) | (refine goA (k := ?_); intro ao cap))
    apply Run.op (by exact rfl)
    refine OpT.appendS_ (k := ?_)
    intro ao cap
    simp only [Nat.zero_add, List.nil_append]
    repeat (first | refine go (k := ?_) | (refine goB (k := ?_); intro b) | (refine goA (k := ?_); intro ao cap))
    (refine End.done1_ ((_, _)) (he := by (first | exact rfl | (refine congrArg (Value.int _) ?_; omega) | (refine congrArg (Value.int _) ?_; dsimp only; omega))) (hp := ?_))
    trivial

set_option maxRecDepth 100000 in
theorem cloneN_is (ao : Option Addr) (n cap : Nat) (l : List ImgM.Ins) (hn : l.length = n) (hm : n ≤ 1000000000) :
    Fn Try.prog 31 #[.slice ao n cap] [rd ao n cap insC l] [] (σ := Option Addr × Nat) (fun _ => True) (fun s => .slice s.1 n s.2) (fun s => [arr s.1 n s.2 57 insC l]) := by
  refine Fn.enter (args := [.slice ao n cap]) Try.func31 rfl _ Try.ntmps31 rfl (by simp [rd_excl, md_excl]) (fun w S => ?_)
  (try conv => rhs; simp only [List.cons_append, List.nil_append])
  cases ao with
  | none =>
    apply Cod.fact (n = 0) (fun w hm => by
      obtain ⟨⟨-, -, ao', cap', he, -, h4⟩, -⟩ := rd_holds.1 (hm.has (.tail .head))
      rcases Nat.eq_zero_or_pos n with h | h
      · exact h
      · obtain ⟨b, off, rfl, -⟩ := h4 h
        simp at he)
    rintro rfl
    obtain rfl : l = [] := List.eq_nil_of_length_eq_zero hn
    repeat (first | refine go (k := ?_) | (refine goB (k := ?_); intro b) | (refine goA (k := ?_); intro ao cap))
    apply End.imp (fun w hm => hm.nilArr 57 insC)
    (refine End.done1_ ((none, 0)) (he := by (first | exact rfl | (refine congrArg (Value.int _) ?_; omega) | (refine congrArg (Value.int _) ?_; dsimp only; omega))) (hp := ?_))
    trivial
  | some a0 =>
    repeat (first | refine go (k := ?_) | (refine goB (k := ?_); intro b) | (refine goA (k := ?_); intro ao cap))
    apply Run.imp (fun w hm => hm.toArr .head ([] : List ImgM.Ins) rfl rfl (by unfold maxLen; simp))
    repeat (first | refine go (k := ?_) | (refine goB (k := ?_); intro b) | (refine goA (k := ?_); intro ao cap))
    apply Run.op (by exact rfl)
    refine OpT.appendS_ (k := ?_)
    intro ao cap
    simp only [Nat.zero_add, List.nil_append]
    repeat (first | refine go (k := ?_) | (refine goB (k := ?_); intro b) | (refine goA (k := ?_); intro ao cap))
    (refine End.done1_ ((_, _)) (he := by (first | exact rfl | (refine congrArg (Value.int _) ?_; omega) | (refine congrArg (Value.int _) ?_; dsimp only; omega))) (hp := ?_))
    trivial
set_option maxRecDepth 100000 in
set_option maxHeartbeats 2000000 in
theorem code_is' (M : ImgM.Mdl) (u : ImgM.Unt) (hu : Opt.UOk M u) (hl : In64s u.code) (lo : Option Addr) (n lc : Nat) (hn : u.code.length = n) :
    Fn Try.prog 18 #[.slice lo n lc] [rd lo n lc insC u.code] [] (σ := Option Addr × Nat) (fun _ => True) (fun s => .slice s.1 (Opt.code u.code).length s.2) (fun s => [arr s.1 (Opt.code u.code).length s.2 57 insC (Opt.code u.code)]) := by
  have hlen := (Opt.head_len hu.head).2
  refine Fn.enter (args := [.slice lo n lc]) Try.func18 rfl _ Try.ntmps18 rfl (by simp [rd_excl, md_excl]) (fun w S => ?_)
  (try conv => rhs; simp only [List.cons_append, List.nil_append])
  generalize hC : Opt.code u.code = C at *
  repeat (first | refine go (k := ?_) | (refine goB (k := ?_); intro b) | (refine goA (k := ?_); intro ao cap))
  (apply Run.op; exact rfl; refine OpT.call0_ (spec := cloneN_is lo n lc u.code hn (by omega)) (k := ?_); intro s hs; (try conv => rhs; simp only [List.cons_append, List.nil_append]))
  repeat (first | refine go (k := ?_) | (refine goB (k := ?_); intro b) | (refine goA (k := ?_); intro ao cap))
  subst hn
  refine Cod.only ((fun z => [old w S, arr z.2.1 z.1.length z.2.2.1 57 insC z.1]) (u.code, s.1, s.2, true)) (by (repeat (first | exact Takes.nil | exact Take.head | apply Take.tail | apply Takes.cons))) ?_
  apply Cod.loop (σ := List ImgM.Ins × Option Addr × Nat × Bool) (fun z => Opt.UOk M (Opt.withC u z.1) ∧ In64s z.1 ∧ (if z.2.2.2 then Opt.code z.1 else z.1) = C) (fun z => [(3, .slice z.2.1 z.1.length z.2.2.1), (4, .bool z.2.2.2)]) (fun z => [old w S, arr z.2.1 z.1.length z.2.2.1 57 insC z.1]) (fun z => if z.2.2.2 then z.1.length + 1 else 0) (u.code, s.1, s.2, true)
  rotate_left
  exact sb
  exact tks
  intro z hz K1 hK1
  (try conv => rhs; simp only [List.cons_append, List.nil_append])
  rotate_left
  · exact ⟨hu, hl, hC⟩
  obtain ⟨c, co, cc, ag⟩ := z
  obtain ⟨hz1, hz2, hz3⟩ := hz
  simp only at hz1 hz2 hz3 hK1 ⊢
  cases ag with
  | false =>
    simp only [if_false, Bool.false_eq_true] at hz3
    subst hz3
    repeat (first | refine go (k := ?_) | (refine goB (k := ?_); intro b) | (refine goA (k := ?_); intro ao cap))
    (refine End.done1_ ((co, cc)) (he := by (first | exact rfl | (refine congrArg (Value.int _) ?_; omega) | (refine congrArg (Value.int _) ?_; dsimp only; omega))) (hp := ?_))
    trivial
  | true =>
    have hc4 := (Opt.head_len hz1.head).2
    have hcl : (Opt.withC u c).code = c := rfl
    rw [hcl] at hc4
    simp only [if_true] at hz3
    rw [code_step] at hz3
    have hp := hz1.pass
    have h64 := In64s_pass hz1 hz2
    rw [hcl] at hp h64
    have hpl := Opt.pass_len c
    repeat (first | refine go (k := ?_) | (refine goB (k := ?_); intro b) | (refine goA (k := ?_); intro ao cap))
    (apply Run.op; exact rfl; refine OpT.call0_ (spec := pass_is co c.length cc c rfl (by omega) hz2 (UOk_jumps hz1)) (k := ?_); intro s hs; (try conv => rhs; simp only [List.cons_append, List.nil_append]))
    repeat (first | refine go (k := ?_) | (refine goB (k := ?_); intro b) | (refine goA (k := ?_); intro ao cap))
    refine End.round0_ hK1 ((Opt.pass c).1, s.1, s.2, (Opt.pass c).2) ?_ ?_
    · exact ⟨hp, h64, hz3⟩
    · simp only [if_true]
      split
      · rename_i hd; rw [if_pos hd] at hpl; omega
      · omega
end Go.Proofs.Ytfeajpghabjaaaa.Vw

/- == of two places of faults; one's own as a thing that is only read. -/
namespace Go.Proofs.Ytfeajpghabjaaaa.Vw
open Go.RowKit Go.Proofs.Ytfeajpghabjaaaa.Img
set_option linter.unusedVariables false
set_option linter.unusedSimpArgs false
/-- what is one's own, or is read, as one thing that is only read -/
theorem Mem.toRead {w : World} {pre L F : List Chunk} {c : Chunk} (t : Takes pre L F) (h : Mem w L) (hc : c.holds w) (hx : c.excl = false) (hf : ∀ b, c.foot b → ∃ d ∈ pre, d.foot b) : Mem w (c :: F) :=
  Mem.step (post := [c]) (S := Nil) (h.takes t) (Keeps.refl _ _) (fun b h => False.elim h) (by simpa using hc) (by simp) (fun d hd b hb => by
    simp at hd; subst hd
    obtain ⟨e, e1, e2⟩ := hf b hb
    exact .inl ⟨e, e1, ⟨fun h => absurd h (by rw [hx]; decide), e2⟩⟩)

section
variable {N : Nat} {E : Env} {L : List Chunk} {dst : Option Tmp} {ty : TypeId} {pos : String} {aft : Array Edge} {g : Option (Nat × Bool)}
end
/-- what lies behind units' slices, the call's own -/
def innerU (us : List UC) : List Chunk := us.flatMap fun x => [arr x.lo x.u.locals.length x.lc 3 i64c x.u.locals, arr x.co x.u.code.length x.cc 57 insC x.u.code]
theorem innerU_snoc (us : List UC) (x : UC) : innerU (us ++ [x]) = innerU us ++ [arr x.lo x.u.locals.length x.lc 3 i64c x.u.locals, arr x.co x.u.code.length x.cc 57 insC x.u.code] := by simp [innerU]
theorem Mem.unitAdd {w : World} {L L' F : List Chunk} (us : List UC) (x : UC) (h : Mem w L) (t : Take (bag (innerU us)) L L')
    (t2 : Takes [arr x.lo x.u.locals.length x.lc 3 i64c x.u.locals, arr x.co x.u.code.length x.cc 57 insC x.u.code] L' F) : Mem w (bag (innerU (us ++ [x])) :: F) := by
  rw [innerU_snoc]
  exact h.bagAdd t t2 (by simp [arr_excl])
/-- a module of one's own -/
abbrev ownM (n : ML) : List Chunk := [arr n.bo n.bx.length n.bc 50 boxC n.bx, arr n.uo n.us.length n.uc 38 ucell n.us, bag (innerU n.us)]
/-- .. is one that is only read -/
theorem own_md {w : World} {L F : List Chunk} (n : ML) (t : Takes (ownM n) L F) (h : Mem w L) : Mem w (md n :: F) := by
  have ht := h.takes t
  have a1 := arr_holds.1 (ht.all _ (.head _))
  have a2 := arr_holds.1 (ht.all _ (.tail _ (.head _)))
  have a3 := bag_holds.1 (ht.all _ (.tail _ (.tail _ (.head _))))
  have l1 := a1.1.le
  have l2 := a2.1.le
  have hin : ∀ x ∈ n.us, (arr x.lo x.u.locals.length x.lc 3 i64c x.u.locals).holds w ∧ (arr x.co x.u.code.length x.cc 57 insC x.u.code).holds w := fun x hx =>
    ⟨a3.1.all _ (List.mem_flatMap.2 ⟨x, hx, .head _⟩), a3.1.all _ (List.mem_flatMap.2 ⟨x, hx, .tail _ (.head _)⟩)⟩
  refine Mem.toRead t h (md_holds.2 ⟨a1.1.row Enc.pos, a2.1.row Enc.pos, fun x hx => (arr_holds.1 (hin x hx).1).1.row Enc.pos, fun x hx => (arr_holds.1 (hin x hx).2).1.row Enc.pos⟩) md_excl (fun b hb => ?_)
  rw [md_foot] at hb
  rcases hb with ⟨h, h0⟩ | ⟨h, h0⟩ | ⟨x, hx, ⟨h, h0⟩ | ⟨h, h0⟩⟩
  · exact ⟨_, .head _, arr_foot.2 ⟨h, by omega⟩⟩
  · exact ⟨_, .tail _ (.head _), arr_foot.2 ⟨h, by omega⟩⟩
  · have := (arr_holds.1 (hin x hx).1).1.le
    exact ⟨_, .tail _ (.tail _ (.head _)), bag_foot.2 ⟨_, List.mem_flatMap.2 ⟨x, hx, .head _⟩, arr_foot.2 ⟨h, by omega⟩⟩⟩
  · have := (arr_holds.1 (hin x hx).2).1.le
    exact ⟨_, .tail _ (.tail _ (.head _)), bag_foot.2 ⟨_, List.mem_flatMap.2 ⟨x, hx, .tail _ (.head _)⟩, arr_foot.2 ⟨h, by omega⟩⟩⟩
/-- a module of one task, where its unit and its code lie -/
def taskU (cb : Nat) (c : List ImgM.Ins) : UC := ⟨⟨4, 0, [], 0, 0, c⟩, none, 0, some ⟨cb, 0, none⟩, c.length⟩
def taskM (s : Nat × Nat) (c : List ImgM.Ins) : ML := ⟨[], none, 0, [taskU s.1 c], some ⟨s.2, 0, none⟩, 1⟩
theorem taskM_mem {w : World} {L F : List Chunk} (s : Nat × Nat) (c : List ImgM.Ins) (t : Takes [arr (some ⟨s.2, 0, none⟩) 1 1 38 ucell [taskU s.1 c], arr (some ⟨s.1, 0, none⟩) c.length c.length 57 insC c] L F) (h : Mem w L) : Mem w (md (taskM s c) :: F) := by
  have ht := h.takes t
  have a1 := arr_holds.1 (ht.all _ (.head _))
  have a2 := arr_holds.1 (ht.all _ (.tail _ (.head _)))
  refine Mem.toRead t h (md_holds.2 ⟨⟨by simp [taskM], by simp [taskM], none, 0, rfl, Nat.le_refl _, fun h => by simp [taskM] at h⟩, a1.1.row Enc.pos, fun x hx => ?_, fun x hx => ?_⟩) md_excl (fun b hb => ?_)
  · simp [taskM] at hx; subst hx
    exact ⟨by simp [taskU], by simp [taskU], none, 0, rfl, Nat.le_refl _, fun h => by simp [taskU] at h⟩
  · simp [taskM] at hx; subst hx
    exact a2.1.row Enc.pos
  · rw [md_foot] at hb
    rcases hb with ⟨h, h0⟩ | ⟨h, h0⟩ | ⟨x, hx, ⟨h, h0⟩ | ⟨h, h0⟩⟩
    · simp [taskM] at h0
    · exact ⟨_, .head _, arr_foot.2 ⟨h, by decide⟩⟩
    · simp [taskM] at hx; subst hx
      simp [taskU] at h0
    · simp [taskM] at hx; subst hx
      exact ⟨_, .tail _ (.head _), arr_foot.2 ⟨h, h0⟩⟩
theorem taskM_wf (s : Nat × Nat) (c : List ImgM.Ins) (h : ∀ i ∈ c, ImgM.In64 i.op ∧ ImgM.In64 i.a ∧ ImgM.In64 i.n) : (taskM s c).Wf := by
  refine ⟨fun b hb => by simp [taskM] at hb, fun x hx => ?_⟩
  simp [taskM] at hx; subst hx
  exact ⟨by simp [taskU, ImgM.In64], by simp [taskU, ImgM.In64], fun t ht => by simp [taskU] at ht, by simp [taskU, ImgM.In64], by simp [taskU, ImgM.In64], h⟩
end Go.Proofs.Ytfeajpghabjaaaa.Vw

/- Package opt, walked: a module. -/
namespace Go.Proofs.Ytfeajpghabjaaaa
open Go
/-- two results, both in memory -/
theorem End.doneCC {P : Program} [Tabbed P] {N : Nat} {E : Env} {L L' L2 F : List Chunk} {σ : Type} {fn : Func} {post : σ → Prop} {val : σ → Value} {mem : σ → List Chunk} {w0 : World} {S : Nat → Prop} {t u : Tmp} {ty bt ty2 bt2 : TypeId} {b s' b' b2 s2 b2' : Nat} {fs fs2 : List (Nat × TypeId)} {z' cs z2 cs2 : List Value} (x : σ) (hr : fn.results = #[.cell t ty, .cell u ty2]) (hv : look E t = Option.some (.pointer (Option.some ⟨b, 0, none⟩))) (ht : tyOf P ty = Option.some ⟨.struct fs, s', b', z'⟩)
    (hm : Take (blk b cs bt) L L') (hl : cs.length = s') (hu : look E u = Option.some (.pointer (Option.some ⟨b2, 0, none⟩))) (ht2 : tyOf P ty2 = Option.some ⟨.struct fs2, s2, b2', z2⟩) (hm2 : Take (blk b2 cs2 bt2) L L2) (hl2 : cs2.length = s2) (he : val x = .tuple #[.agg cs.toArray, .agg cs2.toArray]) (hp : post x) (hx : ∀ c ∈ mem x, c.excl = true) (hF : Takes (old w0 S :: mem x) L F) : End (bodyPost P fn (Owes post val mem w0 S)) N .ret E L := fun a w hs hM => by
  have hb := blk_holds.1 (hM.has hm)
  have hb2 := blk_holds.1 (hM.has hm2)
  have h1 := hs.slot t _ hv
  have h2 := hs.slot u _ hu
  refine bodyPost_ret (v := .tuple #[.agg cs.toArray, .agg cs2.toArray]) ?_ hs.defs ⟨x, hp, by rw [he], hx, (hM.takes hF).left⟩
  simp [results, hr, h1, h2, asAddr, run_cell ht hb hl, run_cell ht2 hb2 hl2]
end Go.Proofs.Ytfeajpghabjaaaa
namespace Go.Proofs.Ytfeajpghabjaaaa.Vw
open Go.RowKit Go.Proofs.Ytfeajpghabjaaaa.Img
set_option linter.unusedVariables false
set_option linter.unusedSimpArgs false
attribute [local irreducible] Run Cod End OpT Still RunQ RunS RunT Fn PutOk
def ModOk (m n : ML) : Prop := if Ver.verify m.mdl = .ok then n.mdl = Opt.mdl m.mdl else n.bx = [] ∧ n.us = []
theorem wf_in64s {m : ML} (hwf : m.Wf) {k : Nat} (hk : k < m.us.length) : In64s (m.us.getD k default).u.code := fun i hi => ((hwf.us _ (ML.uat_mem hk)).code i hi).2
set_option maxRecDepth 100000 in
set_option maxHeartbeats 2000000 in
theorem module_is (m : ML) (hwf : m.Wf) : Fn Try.prog 8 #[m.val] [md m] [] (σ := ML) (ModOk m) (fun n => .tuple #[n.val, whereV (Ver.verify m.mdl)]) ownM := by
  refine Fn.enter (args := [m.val]) Try.func8 rfl _ Try.ntmps8 rfl (by simp [rd_excl, md_excl]) (fun w S => ?_)
  (try conv => rhs; simp only [List.cons_append, List.nil_append])
  apply Cod.fact m.Small (fun w hm => (md_holds.1 (hm.has tk)).small)
  intro hsm
  repeat (first | refine go (k := ?_) | (refine goB (k := ?_); intro b) | (refine goA (k := ?_); intro ao cap))
  (apply Run.op; exact rfl; refine OpT.call0_ (spec := verify_is m hwf) (k := ?_); intro s hs; (try conv => rhs; simp only [List.cons_append, List.nil_append]))
  have hve : (Ver.verify m.mdl).err = 0 → Ver.verify m.mdl = .ok := Ver.verify_eq
  have hM : ∀ n, ModOk m n ↔ if Ver.verify m.mdl = .ok then n.mdl = Opt.mdl m.mdl else n.bx = [] ∧ n.us = [] := fun n => Iff.rfl
  generalize hV : Ver.verify m.mdl = V at *
  obtain ⟨rw2, rfl⟩ : ∃ x, x = b := ⟨_, rfl⟩
  obtain ⟨rm2, rfl⟩ : ∃ x, x = b := ⟨_, rfl⟩
  obtain ⟨mb, rfl⟩ : ∃ x, x = b := ⟨_, rfl⟩
  repeat' (first | refine go (k := ?_) | (refine goB (k := ?_); intro b) | (refine goA (k := ?_); intro ao cap) | refine goQ (k := fun h => ?_) (k' := fun h => ?_) | fail)
  · obtain ⟨wb, rfl⟩ : ∃ x, x = b := ⟨_, rfl⟩
    apply Cod.draw 3 ([blk wb [.int .i64 V.err, .int .i64 V.unit, .int .i64 V.at_] 28]) (by kernel_rfl) 4 rfl
    refine RunT.takeR_ 0 (h := ?_)
    refine RunT.takeR_ 1 (h := ?_)
    (refine RunT.one_ 2 (h := ?_); (first | refine OpT.val_ (k := ?_) | (refine OpT.alloc_ (k := ?_); intro b) | (refine OpT.box_ (k := ?_); intro b) | refine OpT.store_ (k := ?_) | (refine OpT.buildSlice_ (k := ?_); intro b) | (refine OpT.buildSlice0_ (k := ?_); intro b) | (refine OpT.append1_ (k := ?_); intro ao cap) | (refine OpT.cutA0_ (k := ?_); intro ao cap) | (refine OpT.cutR0_ (k := ?_); intro ao cap) | (refine OpT.cutA1_ (k := ?_); intro ao cap) | (refine OpT.cutA_ (k := ?_); intro ao cap) | (refine OpT.cutR_ (k := ?_); intro ao cap)); refine And.intro gud ?_)
    (refine RunT.one_ 3 (h := ?_); (first | refine OpT.val_ (k := ?_) | (refine OpT.alloc_ (k := ?_); intro b) | (refine OpT.box_ (k := ?_); intro b) | refine OpT.store_ (k := ?_) | (refine OpT.buildSlice_ (k := ?_); intro b) | (refine OpT.buildSlice0_ (k := ?_); intro b) | (refine OpT.append1_ (k := ?_); intro ao cap) | (refine OpT.cutA0_ (k := ?_); intro ao cap) | (refine OpT.cutR0_ (k := ?_); intro ao cap) | (refine OpT.cutA1_ (k := ?_); intro ao cap) | (refine OpT.cutA_ (k := ?_); intro ao cap) | (refine OpT.cutR_ (k := ?_); intro ao cap)); refine And.intro gud ?_)
    (apply RunT.done; kernel_rfl)
    repeat (first | refine go (k := ?_) | (refine goB (k := ?_); intro b) | (refine goA (k := ?_); intro ao cap))
    apply End.imp (fun w hm => ((hm.bagNil).nilArr 38 ucell).nilArr 50 boxC)
    refine End.doneCC (⟨[], none, 0, [], none, 0⟩ : ML) (hr := by exact rfl) (hv := by exact rfl) (ht := by exact rfl) (hm := by (repeat (first | exact Take.head | apply Take.tail))) (hl := by exact rfl) (hu := by exact rfl) (ht2 := by exact rfl) (hm2 := by (repeat (first | exact Take.head | apply Take.tail))) (hl2 := by exact rfl) (he := rfl) (hp := by rw [hM, if_neg (fun h => by rename_i hn; rw [h] at hn; exact hn rfl)]; exact ⟨rfl, rfl⟩) (hx := by simp [arr_excl, bag_excl]) (hF := by exact tks)
  · have hv := hve (by assumption)
    subst hv
    have hR := Ver.verify_iff.1 hV
    have hF := formed hR.form
    have hG : ∀ j, j < m.mdl.units.length → Ver.Good m.mdl (m.mdl.units.getD j default) := fun j hj => by
      rw [ML.unit_at]
      exact hF.good hwf (by simpa using hj)
    refine Run.imp (fun w hm => hm.dup (c := md m) (c' := rd m.bo m.bx.length m.bc boxC m.bx) tk rd_excl (rd_holds.2 ⟨(md_holds.1 (hm.has tk)).boxes, rfl⟩) (fun b hb => md_foot.2 (.inl (rd_foot.1 hb))) md_excl) ?_
    (apply Run.op; exact rfl; refine OpT.call0_ (spec := cloneX_is m.bo m.bx.length m.bc m.bx rfl (by have := hF.boxes; omega)) (k := ?_); intro s hs; (try conv => rhs; simp only [List.cons_append, List.nil_append]))
    obtain ⟨bo, bc⟩ := s
    dsimp only
    repeat (first | refine go (k := ?_) | (refine goB (k := ?_); intro b) | (refine goA (k := ?_); intro ao cap))
    obtain ⟨ob, rfl⟩ : ∃ x, x = b := ⟨_, rfl⟩
    apply Cod.imp (fun w hm => hm.bagNil.nilArr 38 ucell)
    have hu30 := hF.units
    refine Cod.only ((fun z => [old w S, md m, blk ob [.slice bo m.bx.length bc, .slice z.2.2.1 z.1 z.2.2.2] 25, arr bo m.bx.length bc 50 boxC m.bx, arr z.2.2.1 z.1 z.2.2.2 38 ucell z.2.1, bag (innerU z.2.1), blk rm2 [.slice none 0 0, .slice none 0 0] 25, blk rw2 [.int .i64 0, .int .i64 0, .int .i64 0] 28]) (0, [], none, 0)) (by (repeat (first | exact Takes.nil | exact Take.head | apply Take.tail | apply Takes.cons))) ?_
    apply Cod.loop (σ := Nat × List UC × Option Addr × Nat) (fun z => z.1 ≤ m.us.length ∧ z.2.1.length = z.1 ∧ z.2.1.map (·.u) = (m.us.take z.1).map (fun x => Opt.unit x.u)) (fun z => [(2, ptr rm2), (3, ptr rw2), (5, ptr ob), (20, .slice m.uo m.us.length m.uc), (21, .int .i64 (m.us.length : Int)), (22, .int .i64 (z.1 : Int))]) (fun z => [old w S, md m, blk ob [.slice bo m.bx.length bc, .slice z.2.2.1 z.1 z.2.2.2] 25, arr bo m.bx.length bc 50 boxC m.bx, arr z.2.2.1 z.1 z.2.2.2 38 ucell z.2.1, bag (innerU z.2.1), blk rm2 [.slice none 0 0, .slice none 0 0] 25, blk rw2 [.int .i64 0, .int .i64 0, .int .i64 0] 28]) (fun z => m.us.length - z.1) (0, [], none, 0)
    rotate_left
    exact sb
    exact tks
    intro z hz K1 hK1
    (try conv => rhs; simp only [List.cons_append, List.nil_append])
    rotate_left
    · exact ⟨Nat.zero_le _, rfl, rfl⟩
    obtain ⟨q, us, ao, ac⟩ := z
    obtain ⟨hz1, hzl, hz2⟩ := hz
    simp only at hz1 hzl hz2 hK1 ⊢
    by_cases hk : q < m.us.length
    · have hu := Opt.uok hR hG (k := q) (by simpa using hk)
      have e : Ver.uAt m.mdl q = (m.us.getD q default).u := m.unit_at q
      rw [e] at hu
      have h64 := wf_in64s hwf hk
      obtain ⟨q1, q2, q3, q4, q5, q6⟩ := head_ok hu.head
      repeat (first | refine go (k := ?_) | (refine goB (k := ?_); intro b) | (refine goA (k := ?_); intro ao cap))
      (apply Run.op; exact rfl; refine OpT.call0_ (spec := cloneI_is (m.us.getD q default).lo (m.us.getD q default).u.locals.length (m.us.getD q default).lc (m.us.getD q default).u.locals rfl (by omega)) (k := ?_); intro s hs; (try conv => rhs; simp only [List.cons_append, List.nil_append]))
      obtain ⟨l1, l2⟩ := s
      dsimp only
      repeat (first | refine go (k := ?_) | (refine goB (k := ?_); intro b) | (refine goA (k := ?_); intro ao cap))
      (apply Run.op; exact rfl; refine OpT.call0_ (spec := code_is' m.mdl (m.us.getD q default).u hu h64 (m.us.getD q default).co (m.us.getD q default).u.code.length (m.us.getD q default).cc rfl) (k := ?_); intro s hs; (try conv => rhs; simp only [List.cons_append, List.nil_append]))
      obtain ⟨c1, c2⟩ := s
      dsimp only
      repeat (first | refine go (k := ?_) | (refine goB (k := ?_); intro b) | (refine goA (k := ?_); intro ao cap))
      (apply Run.op; exact rfl; refine OpT.append1_ (a := (⟨Opt.unit (m.us.getD q default).u, l1, l2, c1, c2⟩ : UC)) (k := ?_); intro ao1 cap1)
      repeat (first | refine go (k := ?_) | (refine goB (k := ?_); intro b) | (refine goA (k := ?_); intro ao cap))
      apply End.imp (fun w hm => Mem.unitAdd us (⟨Opt.unit (m.us.getD q default).u, l1, l2, c1, c2⟩ : UC) hm (by (repeat (first | exact Take.head | apply Take.tail))) (by (repeat (first | exact Takes.nil | exact Take.head | apply Take.tail | apply Takes.cons))))
      refine End.round0_ hK1 (q + 1, us ++ [(⟨Opt.unit (m.us.getD q default).u, l1, l2, c1, c2⟩ : UC)], ao1, cap1) ?_ ?_
      · refine ⟨by simp only; omega, by simp [hzl], ?_⟩
        simp only
        rw [take_snoc hk, List.map_append, List.map_append, hz2]
        rfl
      · simp only; omega
    · repeat (first | refine go (k := ?_) | (refine goB (k := ?_); intro b) | (refine goA (k := ?_); intro ao cap))
      obtain rfl : q = us.length := hzl.symm
      have hl : us.length = m.us.length := by omega
      have hmd : (⟨m.bx, bo, bc, us, ao, ac⟩ : ML).mdl = Opt.mdl m.mdl := by
        unfold Opt.mdl
        simp only [ML.mdl, ImgM.Mdl.mk.injEq, true_and]
        rw [hz2, List.take_of_length_le (by omega), List.map_map]
        rfl
      refine End.doneCC (⟨m.bx, bo, bc, us, ao, ac⟩ : ML) (hr := by exact rfl) (hv := by exact rfl) (ht := by exact rfl) (hm := by (repeat (first | exact Take.head | apply Take.tail))) (hl := by exact rfl) (hu := by exact rfl) (ht2 := by exact rfl) (hm2 := by (repeat (first | exact Take.head | apply Take.tail))) (hl2 := by exact rfl) (he := rfl) (hp := by rw [hM, if_pos rfl]; exact hmd) (hx := by simp [arr_excl, bag_excl]) (hF := by exact tks)
end Go.Proofs.Ytfeajpghabjaaaa.Vw

/- yieldlaw14's small functions, walked; the new module's numbers. -/
namespace Go.Proofs.Ytfeajpghabjaaaa.Vw
open Go.RowKit Go.Proofs.Ytfeajpghabjaaaa.Img
set_option linter.unusedVariables false
set_option linter.unusedSimpArgs false
theorem codeN_in64 {M : ImgM.Mdl} : ∀ (n : Nat) {u : ImgM.Unt}, Opt.UOk M u → In64s u.code → In64s (Opt.codeN n u.code)
  | 0, u, _, h => h
  | n + 1, u, hu, h => by
    unfold Opt.codeN
    have hp := In64s_pass hu h
    split
    · exact codeN_in64 n hu.pass hp
    · exact hp
theorem opt_wf {m n : ML} (hwf : m.Wf) (hV : Ver.verify m.mdl = .ok) (hn : n.mdl = Opt.mdl m.mdl) : n.Wf := by
  have hR := Ver.verify_iff.1 hV
  have hF := formed hR.form
  have hG : ∀ j, j < m.mdl.units.length → Ver.Good m.mdl (m.mdl.units.getD j default) := fun j hj => by
    rw [ML.unit_at]
    exact hF.good hwf (by simpa using hj)
  have e1 : n.bx = m.bx := congrArg ImgM.Mdl.boxes hn
  have e2 : n.us.map (·.u) = m.us.map (fun x => Opt.unit x.u) := by
    have := congrArg ImgM.Mdl.units hn
    simp only [ML.mdl, Opt.mdl, List.map_map] at this
    exact this
  refine ⟨by rw [e1]; exact hwf.bx, fun x hx => ?_⟩
  have hxu : x.u ∈ n.us.map (·.u) := List.mem_map.2 ⟨x, hx, rfl⟩
  rw [e2] at hxu
  obtain ⟨y, hy, hyx⟩ := List.mem_map.1 hxu
  rw [← hyx]
  have h := hwf.us y hy
  obtain ⟨k, hk, hky⟩ := List.getElem_of_mem hy
  have hu := Opt.uok hR hG (k := k) (by simpa using hk)
  have e : Ver.uAt m.mdl k = (m.us.getD k default).u := m.unit_at k
  rw [e] at hu
  have e3 : m.us.getD k default = y := by rw [List.getD_eq_getElem?_getD, List.getElem?_eq_getElem hk]; exact hky
  rw [e3] at hu
  have h64 : In64s y.u.code := fun i hi => (h.code i hi).2
  have hc := codeN_in64 (y.u.code.length + 1) hu h64
  refine ⟨h.kind, h.params, h.locals, h.result, h.takes, fun i hi => ⟨?_, hc i hi⟩⟩
  have := (Ver.instr_ok (hu.code.ins i hi)).op
  unfold ImgM.In64; omega
def al5 : List ImgM.Ins := [⟨1, 0, 1⟩, ⟨1, 0, 2⟩, ⟨8, 0, 0⟩, ⟨28, 0, 0⟩, ⟨25, 0, 0⟩]
def al3 : List ImgM.Ins := [⟨1, 0, 3⟩, ⟨28, 0, 0⟩, ⟨25, 0, 0⟩]
theorem al5_in : ∀ i ∈ al5, ImgM.In64 i.op ∧ ImgM.In64 i.a ∧ ImgM.In64 i.n := by
  intro i hi
  simp [al5] at hi
  rcases hi with rfl | rfl | rfl | rfl | rfl <;> simp [ImgM.In64]
theorem al5_code : Opt.code al5 = al3 := by kernel_rfl
theorem al5_ok0 : Ver.verify ⟨[], [⟨4, 0, [], 0, 0, al5⟩]⟩ = .ok := by kernel_rfl
attribute [local irreducible] Ver.verify Opt.mdl Opt.code
theorem al5_ok (s : Nat × Nat) : Ver.verify (taskM s al5).mdl = .ok := al5_ok0
theorem al5_opt (s : Nat × Nat) (n : ML) (h : ModOk (taskM s al5) n) : n.us.length = 1 ∧ (n.us.getD 0 default).u.code.length = 3 ∧ ((n.us.getD 0 default).u.code.getD 0 default).n = 3 := by
  unfold ModOk at h
  rw [if_pos (al5_ok s)] at h
  rw [show Opt.mdl (taskM s al5).mdl = ⟨[], [⟨4, 0, [], 0, 0, Opt.code al5⟩]⟩ by unfold Opt.mdl; rfl] at h
  have e2 : n.us.map (·.u) = [⟨4, 0, [], 0, 0, Opt.code al5⟩] := congrArg ImgM.Mdl.units h
  rw [al5_code] at e2
  match hn : n.us with
  | [] => rw [hn] at e2; cases e2
  | [x] =>
    rw [hn] at e2
    simp at e2
    refine ⟨rfl, ?_, ?_⟩
    · show x.u.code.length = 3
      rw [e2]; rfl
    · show (x.u.code.getD 0 default).n = 3
      rw [e2]; rfl
  | _ :: _ :: _ => rw [hn] at e2; simp at e2
attribute [local irreducible] Run Cod End OpT Still RunQ RunS RunT Fn PutOk
set_option maxRecDepth 100000 in
theorem alive14_is : Fn Try.prog 11 #[] [] [] (σ := Unit) (fun _ => True) (fun _ => .bool true) (fun _ => []) := by
  refine Fn.enter (args := []) Try.func11 rfl _ Try.ntmps11 rfl (by simp [rd_excl, md_excl]) (fun w S => ?_)
  (try conv => rhs; simp only [List.cons_append, List.nil_append])
  repeat (first | refine go (k := ?_) | (refine goB (k := ?_); intro b) | (refine goA (k := ?_); intro ao cap))
  obtain ⟨ub, rfl⟩ : ∃ x, x = b := ⟨_, rfl⟩
  obtain ⟨cb, rfl⟩ : ∃ x, x = b := ⟨_, rfl⟩
  apply Run.imp (fun w hm => Mem.toArr (b := ub) (e := 38) (f := ucell) (n := 1) hm (by (repeat (first | exact Take.head | apply Take.tail))) [taskU cb al5] rfl rfl (by unfold maxLen; simp))
  apply Run.imp (fun w hm => Mem.toArr (b := cb) (e := 57) (f := insC) (n := 5) hm (by (repeat (first | exact Take.head | apply Take.tail))) al5 rfl rfl (by unfold maxLen; simp))
  apply Run.imp (fun w hm => taskM_mem (cb, ub) al5 (by (repeat (first | exact Takes.nil | exact Take.head | apply Take.tail | apply Takes.cons))) hm)
  (apply Run.op; exact rfl; refine OpT.call0_ (spec := module_is (taskM (cb, ub) al5) (taskM_wf _ _ al5_in)) (k := ?_); intro s hs; (try conv => rhs; simp only [List.cons_append, List.nil_append]))
  rw [al5_ok]
  obtain ⟨h1, h2, h3⟩ := al5_opt _ _ hs
  apply Run.imp (fun w hm => own_md s (by (repeat (first | exact Takes.nil | exact Take.head | apply Take.tail | apply Takes.cons))) hm)
  repeat (first | refine go (k := ?_) | (refine goB (k := ?_); intro b) | (refine goA (k := ?_); intro ao cap))
  (refine Run.yes_ (h := ?_); refine OpT.val_ (h := by (apply Still.at_; exact rfl; exact rfl; (first | (apply Rdb.arr; focus ((repeat (first | exact Take.head | apply Take.tail)); done)) | (apply Rdb.rd; focus ((repeat (first | exact Take.head | apply Take.tail)); done)) | (apply Rdb.md_units; focus ((repeat (first | exact Take.head | apply Take.tail)); done)) | (apply Rdb.md_boxes; focus ((repeat (first | exact Take.head | apply Take.tail)); done)) | (apply Rdb.md_code; (focus ((repeat (first | exact Take.head | apply Take.tail)); done)); (focus (first | assumption | omega))) | (apply Rdb.md_locals; (focus ((repeat (first | exact Take.head | apply Take.tail)); done)); (focus (first | assumption | omega))) | (apply Rdb.old; (focus assumption); (focus ((repeat (first | exact Take.head | apply Take.tail)); done)))); exact rfl; exact rfl; exact rfl; exact ix_zero; omega)) (k := ?_))
  repeat (first | refine go (k := ?_) | (refine goB (k := ?_); intro b) | (refine goA (k := ?_); intro ao cap))
  (refine Run.yes_ (h := ?_); refine OpT.val_ (h := by (apply Still.at_; exact rfl; exact rfl; (first | (apply Rdb.arr; focus ((repeat (first | exact Take.head | apply Take.tail)); done)) | (apply Rdb.rd; focus ((repeat (first | exact Take.head | apply Take.tail)); done)) | (apply Rdb.md_units; focus ((repeat (first | exact Take.head | apply Take.tail)); done)) | (apply Rdb.md_boxes; focus ((repeat (first | exact Take.head | apply Take.tail)); done)) | (apply Rdb.md_code; (focus ((repeat (first | exact Take.head | apply Take.tail)); done)); (focus (first | assumption | omega))) | (apply Rdb.md_locals; (focus ((repeat (first | exact Take.head | apply Take.tail)); done)); (focus (first | assumption | omega))) | (apply Rdb.old; (focus assumption); (focus ((repeat (first | exact Take.head | apply Take.tail)); done)))); exact rfl; exact rfl; exact rfl; exact ix_zero; omega)) (k := ?_))
  repeat (first | refine go (k := ?_) | (refine goB (k := ?_); intro b) | (refine goA (k := ?_); intro ao cap))
  (refine Run.yes_ (h := ?_); refine OpT.val_ (h := by (apply Still.at_; exact rfl; exact rfl; (first | (apply Rdb.arr; focus ((repeat (first | exact Take.head | apply Take.tail)); done)) | (apply Rdb.rd; focus ((repeat (first | exact Take.head | apply Take.tail)); done)) | (apply Rdb.md_units; focus ((repeat (first | exact Take.head | apply Take.tail)); done)) | (apply Rdb.md_boxes; focus ((repeat (first | exact Take.head | apply Take.tail)); done)) | (apply Rdb.md_code; (focus ((repeat (first | exact Take.head | apply Take.tail)); done)); (focus (first | assumption | omega))) | (apply Rdb.md_locals; (focus ((repeat (first | exact Take.head | apply Take.tail)); done)); (focus (first | assumption | omega))) | (apply Rdb.old; (focus assumption); (focus ((repeat (first | exact Take.head | apply Take.tail)); done)))); exact rfl; exact rfl; exact rfl; exact ix_zero; omega)) (k := ?_))
  repeat (first | refine go (k := ?_) | (refine goB (k := ?_); intro b) | (refine goA (k := ?_); intro ao cap))
  (refine End.done1_ (()) (he := by exact bool_eq (decide_eq_true h3)) (hp := ?_))
  trivial
end Go.Proofs.Ytfeajpghabjaaaa.Vw

/- What package vm computes: a task as plain lists; what it sends to, receives from and tells is left open. Plain Lean. -/
namespace Go.Proofs.Ytfeajpghabjaaaa.Vm
set_option linter.unusedVariables false
open ImgM Ver Opt

/-- what a task sends to, receives from, and tells -/
structure Env (ν : Type) where
  full : ν → Nat → Bool
  empty : ν → Nat → Bool
  put : ν → Nat → Int → ν
  take : ν → Nat → Int × ν
  tell : ν → Int × Int × Int → ν
/-- a unit at work -/
structure Fr where
  unit : Nat
  pc : Nat
  base : Nat
deriving Inhabited, DecidableEq
/-- a thread: 0 fresh, 1 held, 2 going, 3 ended -/
structure Co where
  st : Nat
  up : Option Nat
  fr : List Fr
  ws : List Int
deriving Inhabited, DecidableEq
structure Tk where
  cs : List Co
  now : Nat
  st : Int
  bx : Int
  tr : Int
  out : List Int
deriving Inhabited, DecidableEq
def unt (M : Mdl) (k : Nat) : Unt := M.units.getD k default
def cur (t : Tk) : Co := t.cs.getD t.now default
def setC (t : Tk) (k : Nat) (c : Co) : Tk := { t with cs := t.cs.set k c }
def setCur (t : Tk) (c : Co) : Tk := setC t t.now c
def topF (c : Co) : Fr := c.fr.getD (c.fr.length - 1) default
def setTop (c : Co) (f : Fr) : Co := { c with fr := c.fr.set (c.fr.length - 1) f }
def insT (M : Mdl) (t : Tk) : Ins := (unt M (topF (cur t)).unit).code.getD (topF (cur t)).pc default
/-- a fresh thread of a unit, with arguments -/
def begin (M : Mdl) (u : Nat) (a : List Int) : Co := ⟨0, none, [⟨u, 0, 0⟩], (List.range (unt M u).locals.length).map fun i => a.getD i 0⟩
def new (M : Mdl) (u : Nat) : Tk := ⟨[{ begin M u [] with st := 2 }], 0, 1, 0, 0, []⟩
section
variable {ν : Type} (V : Env ν) (M : Mdl)
def trap (n : Int) (s : Tk × ν) : Tk × ν := if s.1.st = 5 then s else ({ s.1 with st := 5, tr := n }, V.tell s.2 (5, 0, n))
def push (v : Int) (s : Tk × ν) : Tk × ν :=
  if (cur s.1).ws.length = 400 then trap V 4 s else (setCur s.1 { cur s.1 with ws := (cur s.1).ws ++ [v] }, s.2)
def last (s : Tk) : Int := (cur s).ws.getD ((cur s).ws.length - 1) 0
def drop (n : Nat) (t : Tk) : Tk := setCur t { cur t with ws := (cur t).ws.take ((cur t).ws.length - n) }
def waits (i : Ins) (s : Tk × ν) : Tk × ν :=
  if i.op = 26 ∧ V.full s.2 i.a.toNat = true then ({ s.1 with st := 2, bx := i.a }, s.2)
  else if i.op = 27 ∧ V.empty s.2 i.a.toNat = true then ({ s.1 with st := 3, bx := i.a }, s.2)
  else ({ s.1 with st := 1, bx := 0 }, s.2)
def look (s : Tk × ν) : Tk × ν := if s.1.st ≤ 3 then waits V (insT M s.1) s else s
def setPc (p : Nat) (t : Tk) : Tk := setCur t (setTop (cur t) { topF (cur t) with pc := p })
def pushN (V : Env ν) : Nat → Tk × ν → Tk × ν
  | 0, s => s
  | n + 1, s => pushN V n (push V 0 s)
def callU (k : Nat) (s : Tk × ν) : Tk × ν :=
  if (cur s.1).fr.length = 40 then trap V 4 s
  else pushN V ((unt M k).locals.length - (unt M k).params.toNat) (setCur s.1 { cur s.1 with fr := (cur s.1).fr ++ [⟨k, 0, (cur s.1).ws.length - (unt M k).params.toNat⟩] }, s.2)
def ret (s : Tk × ν) : Tk × ν :=
  push V (last s.1) (setCur s.1 { cur s.1 with fr := (cur s.1).fr.take ((cur s.1).fr.length - 1), ws := ((cur s.1).ws.take ((cur s.1).ws.length - 1)).take (topF (cur s.1)).base }, s.2)
def endU (s : Tk × ν) : Tk × ν :=
  match (cur s.1).up with
  | none => ({ setCur s.1 { cur s.1 with st := 3 } with st := 4 }, V.tell s.2 (4, 0, 0))
  | some j => push V 0 ({ setCur s.1 { cur s.1 with st := 3, up := none } with now := j }, s.2)
def startU (k : Nat) (s : Tk × ν) : Tk × ν :=
  let n := (unt M k).params.toNat
  let a := (cur s.1).ws.drop ((cur s.1).ws.length - n)
  let t := drop n s.1
  if 30 < t.cs.length then trap V 5 (t, s.2)
  else push V (t.cs.length : Int) ({ t with cs := t.cs ++ [begin M k a] }, V.tell s.2 (6, 0, (k : Int)))
def resumeU (s : Tk × ν) : Tk × ν :=
  let v := last s.1
  let t := drop 1 s.1
  let k := (last t).toNat
  let t := drop 1 t
  let c := t.cs.getD k default
  if c.st = 3 then trap V 2 (t, s.2)
  else if c.st = 2 then trap V 3 (t, s.2)
  else
    let t' : Tk := { setC t k { c with st := 2, up := some t.now } with now := k }
    if c.st = 0 then (t', s.2) else push V v (t', s.2)
def yieldU (s : Tk × ν) : Tk × ν :=
  let v := last s.1
  let t := drop 1 s.1
  push V v ({ setCur t { cur t with st := 1, up := none } with now := (cur t).up.getD 0 }, s.2)
def aliveU (s : Tk × ν) : Tk × ν :=
  let t := drop 1 s.1
  push V (yes (!decide ((t.cs.getD (last s.1).toNat default).st = 3))) (t, s.2)
/-- an instruction, done; the place has been moved on -/
def exec (i : Ins) (s : Tk × ν) : Tk × ν :=
  let d := drop 1 s.1
  if i.op = 1 then push V i.n s
  else if i.op = 2 then push V i.a s
  else if i.op = 3 then push V ((cur s.1).ws.getD ((topF (cur s.1)).base + i.a.toNat) 0) s
  else if i.op = 4 then (setCur d { cur d with ws := (cur d).ws.set ((topF (cur d)).base + i.a.toNat) (last s.1) }, s.2)
  else if i.op = 5 then (d, s.2)
  else if i.op = 6 then push V (IntKind.i64.wrap (-(last s.1))) (d, s.2)
  else if i.op = 7 then push V (IntKind.i64.wrap (1 - last s.1)) (d, s.2)
  else if 8 ≤ i.op ∧ i.op ≤ 20 then
    if (i.op = 11 ∨ i.op = 12) ∧ last s.1 = 0 then trap V 1 (drop 1 d, s.2)
    else push V (two2 i.op (last d) (last s.1)) (drop 1 d, s.2)
  else if i.op = 21 then (setPc i.a.toNat s.1, s.2)
  else if i.op = 22 then (if last s.1 = 0 then setPc i.a.toNat d else d, s.2)
  else if i.op = 26 then (d, V.tell (V.put s.2 i.a.toNat (last s.1)) (2, i.a, last s.1))
  else if i.op = 27 then push V (V.take s.2 i.a.toNat).1 (s.1, V.tell (V.take s.2 i.a.toNat).2 (3, i.a, (V.take s.2 i.a.toNat).1))
  else if i.op = 28 then ({ d with out := d.out ++ [last s.1] }, V.tell s.2 (1, 0, last s.1))
  else if i.op = 23 then callU V M i.a.toNat s
  else if i.op = 24 then ret V s
  else if i.op = 25 then endU V s
  else if i.op = 29 then startU V M i.a.toNat s
  else if i.op = 30 then resumeU V s
  else if i.op = 31 then yieldU V s
  else if i.op = 32 then aliveU V s
  else s
def step (s : Tk × ν) : Bool × (Tk × ν) :=
  let s1 := look V M s
  if s1.1.st ≠ 1 then (false, s1)
  else (true, look V M (exec V M (insT M s1.1) (setPc ((topF (cur s1.1)).pc + 1) s1.1, s1.2)))
end
end Go.Proofs.Ytfeajpghabjaaaa.Vm

/- What Solo computes: a task by itself, boxes as lists without an end. Plain Lean. -/
namespace Go.Proofs.Ytfeajpghabjaaaa.Vm
set_option linter.unusedVariables false
open ImgM Ver Opt
/-- what was taken of each box, what was sent to each -/
structure Ls where
  took : List Nat
  sent : List (List Int)
deriving DecidableEq
def lists (F : List (List Int)) : Env Ls where
  full _ _ := false
  empty s b := decide (s.took.getD b 0 = (F.getD b []).length)
  put s b v := { s with sent := s.sent.set b (s.sent.getD b [] ++ [v]) }
  take s b := ((F.getD b []).getD (s.took.getD b 0) 0, { s with took := s.took.set b (s.took.getD b 0 + 1) })
  tell s _ := s
def Ls.new (n : Nat) : Ls := ⟨List.replicate n 0, List.replicate n []⟩
/-- as many steps as may be, as long as one can be done -/
def goN {ν : Type} (V : Env ν) (M : Mdl) : Nat → Tk × ν → Nat × (Tk × ν)
  | 0, s => (0, s)
  | n + 1, s => if (step V M s).1 then ((goN V M n (step V M s).2).1 + 1, (goN V M n (step V M s).2).2) else (0, (step V M s).2)
/-- the units that are tasks -/
def tasks (M : Mdl) : List Nat := (List.range M.units.length).filter fun k => decide ((M.units.getD k default).kind = 4)
def solo0 (M : Mdl) (u : Nat) (F : List (List Int)) : Tk × Ls := look (lists F) M (new M u, Ls.new F.length)
def solo (M : Mdl) (u : Nat) (F : List (List Int)) (n : Nat) : Nat × (Tk × Ls) := goN (lists F) M n (solo0 M u F)
/-- a word is none of its box's type -/
def badW (t v : Int) : Bool := decide (t = 2) && (decide (v ≠ 0) && decide (v ≠ 1))
/-- what is wrong with what Solo is asked -/
def soloErr (M : Mdl) (task : Int) (F : List (List Int)) (most : Int) : Int :=
  if (verify M).err ≠ 0 then (verify M).err
  else if task < 0 ∨ ((tasks M).length : Int) ≤ task ∨ most < 0 ∨ 5000 < most then 3
  else if F.length ≠ M.boxes.length then 5
  else if (List.range F.length).any (fun i => (F.getD i []).any (badW (M.boxes.getD i default).1)) then 9
  else 0
/-- how many words lie in what was sent -/
def total (l : List (List Int)) : Nat := (l.map List.length).sum
theorem total_put : ∀ (l : List (List Int)) (b : Nat) (v : Int), total (l.set b (l.getD b [] ++ [v])) ≤ total l + 1
  | [], b, v => by simp [total]
  | a :: l, 0, v => by simp [total]; omega
  | a :: l, b + 1, v => by
    have := total_put l b v
    simp only [total, List.set_cons_succ, List.map_cons, List.sum_cons, List.getD_cons_succ] at *
    omega
theorem total_le : ∀ (l : List (List Int)) (b : Nat), (l.getD b []).length ≤ total l
  | [], b => by simp [total]
  | a :: l, 0 => by simp [total]
  | a :: l, b + 1 => by
    have := total_le l b
    simp only [total, List.map_cons, List.sum_cons, List.getD_cons_succ] at *
    omega
end Go.Proofs.Ytfeajpghabjaaaa.Vm
