/- A pick of a task, walked. -/
import Derived.Test.YtjehflelkpacfaaM28
namespace Go.Proofs.Ytjehflelkpacfaa.Vw
open Go.RowKit Go.Proofs.Ytjehflelkpacfaa.Img
set_option linter.unusedVariables false
set_option linter.unusedSimpArgs false
attribute [local irreducible] Run Cod End OpT Still RunQ RunS RunT Fn PutOk
variable {E : EnvM} {T : Nat → Int → Option Ver.Shape} {K : E.ν → Prop}
abbrev maC (to : Option Addr) (tn tc : Nat) (bo : Option Addr) (bn bc n : Nat) : List Value := [.slice to tn tc, .slice bo bn bc, .int .i64 (n : Int)]
set_option maxRecDepth 100000 in
set_option maxHeartbeats 2000000 in
theorem pick_is (p : Pl) (xb : Nat) (to : Option Addr) (tc : Nat) (tbs : List Nat) (bo : Option Addr) (bn bc n k : Nat) (q : Int) (hk : k < tbs.length) (htb : tbs.getD k 0 = p.tb) (z : SL E) (hC : Vm.Certs p.m.mdl T) (hV : Vm.EnvOk E.V p.m.mdl K) (hz : z.Wf) (hb : E.boxes = p.m.bx.length)
    (hg : Vm.Good p.m.mdl T K z.two) (hn : n ≤ 20000) (ho : z.out.length ≤ 2 * n) (hsz : E.size (E.abs z.e) ≤ 4 * n) (htl : tbs.length ≤ 1000) :
    Fn Try.prog 24 #[ptr xb, .agg #[.int .i64 (k : Int), .int .i64 q]] [md p.m, E.rc] (blk xb (maC to tbs.length tc bo bn bc n) 80 :: arr to tbs.length tc 81 ptrC tbs :: TM p z) (σ := SL E)
      (Gives z (Vm.pick1 E.V p.m.mdl n q z.two).2) (fun _ => .agg #[.int .i64 (Vm.pick1 E.V p.m.mdl n q z.two).1.1, .int .i64 ((Vm.pick1 E.V p.m.mdl n q z.two).1.2 : Int)])
      (fun z' => blk xb (maC to tbs.length tc bo bn bc (n + (Vm.pick1 E.V p.m.mdl n q z.two).1.2)) 80 :: arr to tbs.length tc 81 ptrC tbs :: TM p z') := by
  obtain ⟨R, hR⟩ : ∃ R, R = Vm.pick1 E.V p.m.mdl n q z.two := ⟨_, rfl⟩
  rw [← hR]
  refine Fn.enter (args := [ptr xb, .agg #[.int .i64 (k : Int), .int .i64 q]]) Try.func24 rfl _ Try.ntmps24 rfl (by simp [rd_excl, md_excl]) (fun w S => ?_)
  (try conv => rhs; simp only [List.cons_append, List.nil_append])
  repeat (first | refine go (k := ?_) | (refine goB (k := ?_); intro b) | (refine goA (k := ?_); intro ao cap))
  obtain ⟨db, rfl⟩ : ∃ x, x = b := ⟨_, rfl⟩
  obtain ⟨pb, rfl⟩ : ∃ x, x = b := ⟨_, rfl⟩
  by_cases q1 : q < 1
  · have hR' : R = ((5, 0), z.two) := by rw [hR]; unfold Vm.pick1; rw [if_pos (.inl q1)]
    subst hR'
    repeat (first | refine go (k := ?_) | (refine goB (k := ?_); intro b) | (refine goA (k := ?_); intro ao cap))
    (refine End.doneC1_ (z) (he := by (first | exact rfl | (refine congrArg (Value.int _) ?_; omega) | (refine congrArg (Value.int _) ?_; dsimp only; omega))) (hp := ?_))
    exact ⟨hz, rfl⟩
  by_cases q2 : 10000 < q
  · have hR' : R = ((5, 0), z.two) := by rw [hR]; unfold Vm.pick1; rw [if_pos (.inr q2)]
    subst hR'
    repeat (first | refine go (k := ?_) | (refine goB (k := ?_); intro b) | (refine goA (k := ?_); intro ao cap))
    (refine End.doneC1_ (z) (he := by (first | exact rfl | (refine congrArg (Value.int _) ?_; omega) | (refine congrArg (Value.int _) ?_; dsimp only; omega))) (hp := ?_))
    exact ⟨hz, rfl⟩
  have hq12 : ¬ (q < 1 ∨ 10000 < q) := by omega
  repeat (first | refine go (k := ?_) | (refine goB (k := ?_); intro b) | (refine goA (k := ?_); intro ao cap))
  rw [show tbs.getD k default = p.tb from htb]
  repeat (first | refine go (k := ?_) | (refine goB (k := ?_); intro b) | (refine goA (k := ?_); intro ao cap))
  ((first | (apply Run.op; exact rfl) | refine Run.yes_ (h := ?_)); refine OpT.call0_ (spec := look_task p z hC hz hb hg) (r := fun w => Reads.md (by (repeat (first | exact Take.head | apply Take.tail))) (Reads.any (by (repeat (first | exact Take.head | apply Take.tail))) E.rexcl .nil)) (k := ?_); intro s hs; (try conv => rhs; simp only [List.cons_append, List.nil_append]))
  by_cases h1 : (z.look p.m).st = 1
  · have hR' : R = (if (Vm.goN E.V p.m.mdl (min q.toNat (20000 - n)) (z.look p.m).two).1 = 0 then (10, 0) else (0, (Vm.goN E.V p.m.mdl (min q.toNat (20000 - n)) (z.look p.m).two).1), (Vm.goN E.V p.m.mdl (min q.toNat (20000 - n)) (z.look p.m).two).2) := by
      rw [hR]; unfold Vm.pick1
      rw [if_neg hq12, ← hz.look_two, if_neg (fun h => h h1)]
    repeat (first | refine go (k := ?_) | (refine goB (k := ?_); intro b) | (refine goA (k := ?_); intro ao cap))
    obtain ⟨lim, hlim⟩ : ∃ lim, lim = min q.toNat (20000 - n) := ⟨_, rfl⟩
    rw [← hlim] at hR'
    obtain ⟨G, hG⟩ : ∃ G, G = Vm.goN E.V p.m.mdl lim (z.look p.m).two := ⟨_, rfl⟩
    rw [← hG] at hR'
    refine cutN (σ := Nat × SL E) (fun s => s.2.Wf ∧ G = (s.1, s.2.two)) (fun s => [(4, ptr db), (6, .int .i64 (s.1 : Int))]) (fun s => old w S :: md p.m :: E.rc :: blk db [.int .i64 0, .int .i64 0] 41 :: blk xb (maC to tbs.length tc bo bn bc (n + s.1)) 80 :: arr to tbs.length tc 81 ptrC tbs :: TM p s.2) ?_ ?_
    · rintro ⟨j, z'⟩ ⟨g1, g2⟩
      dsimp only at g1 g2 ⊢
      rw [g2] at hR'
      dsimp only at hR'
      by_cases hj : j = 0
      · subst hj
        rw [if_pos rfl] at hR'
        subst hR'
        repeat (first | refine go (k := ?_) | (refine goB (k := ?_); intro b) | (refine goA (k := ?_); intro ao cap))
        (refine End.doneC1_ (z') (he := by (first | exact rfl | (refine congrArg (Value.int _) ?_; omega) | (refine congrArg (Value.int _) ?_; dsimp only; omega))) (hp := ?_))
        exact ⟨g1, rfl⟩
      · rw [if_neg hj] at hR'
        subst hR'
        repeat (first | refine go (k := ?_) | (refine goB (k := ?_); intro b) | (refine goA (k := ?_); intro ao cap))
        (refine End.doneC1_ (z') (he := by (first | exact rfl | (refine congrArg (Value.int _) ?_; omega) | (refine congrArg (Value.int _) ?_; dsimp only; omega))) (hp := ?_))
        exact ⟨g1, rfl⟩
    intro K3 hK3
    refine Cod.only ((fun s => old w S :: md p.m :: E.rc :: blk pb [.int .i64 (k : Int), .int .i64 q] 37 :: blk db [.int .i64 0, .int .i64 0] 41 :: blk xb (maC to tbs.length tc bo bn bc (n + s.1)) 80 :: arr to tbs.length tc 81 ptrC tbs :: TM p s.2) (0, z.look p.m)) (by (repeat (first | exact Takes.nil | exact Take.head | apply Take.tail | apply Takes.cons))) ?_
    apply Cod.loop (σ := Nat × SL E) (fun s => s.1 ≤ lim ∧ s.2.Wf ∧ Vm.Good p.m.mdl T K s.2.two ∧ s.2.out.length ≤ 2 * (n + s.1) ∧ E.size (E.abs s.2.e) ≤ 4 * (n + s.1) ∧ G = ((Vm.goN E.V p.m.mdl (lim - s.1) s.2.two).1 + s.1, (Vm.goN E.V p.m.mdl (lim - s.1) s.2.two).2)) (fun s => [(0, ptr xb), (3, ptr pb), (4, ptr db), (5, ptr p.tb), (6, .int .i64 (s.1 : Int))]) (fun s => old w S :: md p.m :: E.rc :: blk pb [.int .i64 (k : Int), .int .i64 q] 37 :: blk db [.int .i64 0, .int .i64 0] 41 :: blk xb (maC to tbs.length tc bo bn bc (n + s.1)) 80 :: arr to tbs.length tc 81 ptrC tbs :: TM p s.2) (fun s => lim - s.1) (0, z.look p.m)
    rotate_left
    exact sb
    exact tks
    intro s hs K1 hK1
    (try conv => rhs; simp only [List.cons_append, List.nil_append])
    rotate_left
    · exact ⟨Nat.zero_le _, hz.look p.m, by rw [hz.look_two]; exact Vm.look_good hg, ho, hsz, by rw [hG]; simp⟩
    obtain ⟨j, y⟩ := s
    obtain ⟨r1, r2, r3, r4, r5, r6⟩ := hs
    dsimp only at r1 r2 r3 r4 r5 r6 hK1 ⊢
    by_cases hjq : (j : Int) < q
    · by_cases hjn : n + j < 20000
      · have hjl : j < lim := by omega
        repeat (first | refine go (k := ?_) | (refine goB (k := ?_); intro b) | (refine goA (k := ?_); intro ao cap))
        ((first | (apply Run.op; exact rfl) | refine Run.yes_ (h := ?_)); refine OpT.call0_ (spec := step_task p y hC hV r2 hb r3 (by omega) (by omega)) (r := fun w => Reads.md (by (repeat (first | exact Take.head | apply Take.tail))) (Reads.any (by (repeat (first | exact Take.head | apply Take.tail))) E.rexcl .nil)) (k := ?_); intro s hs; (try conv => rhs; simp only [List.cons_append, List.nil_append]))
        obtain ⟨y', rfl⟩ : ∃ x, x = s := ⟨_, rfl⟩
        obtain ⟨s1, s2⟩ := hs
        have hmk : lim - j = (lim - (j + 1)) + 1 := by omega
        rw [hmk] at r6
        unfold Vm.goN at r6
        by_cases hbb : (Vm.step E.V p.m.mdl y.two).1 = true
        · rw [hbb]
          rw [if_pos hbb] at r6
          repeat (first | refine go (k := ?_) | (refine goB (k := ?_); intro b) | (refine goA (k := ?_); intro ao cap))
          refine End.round0_ hK1 (j + 1, y') ?_ ?_
          · refine ⟨by omega, s1, by rw [s2]; exact Vm.step_good hC hV r3, ?_, ?_, ?_⟩
            · have h1 := Vm.step_outLen (V := E.V) (M := p.m.mdl) y.two
              have h2 : y'.out = (Vm.step E.V p.m.mdl y.two).2.1.out := congrArg (fun r => r.1.out) s2
              rw [h2]
              have h3 : y.two.1.out.length ≤ 2 * (n + j) := r4
              dsimp only
              omega
            · have h1 := Vm.step_size (M := p.m.mdl) E.sPut E.sTake E.sTell y.two
              have h2 : E.abs y'.e = (Vm.step E.V p.m.mdl y.two).2.2 := congrArg (fun r => r.2) s2
              rw [h2]
              have h3 : E.size y.two.2 ≤ 4 * (n + j) := r5
              dsimp only
              omega
            · rw [r6, s2]
              refine Prod.ext ?_ rfl
              dsimp only
              omega
          · dsimp only; omega
        · have hbb : (Vm.step E.V p.m.mdl y.two).1 = false := by simpa using hbb
          rw [hbb]
          rw [if_neg (by rw [hbb]; simp)] at r6
          repeat (first | refine go (k := ?_) | (refine goB (k := ?_); intro b) | (refine goA (k := ?_); intro ao cap))
          refine End.some_ hK3 (j, y') ?_
          exact ⟨s1, by rw [r6, s2]; exact Prod.ext (by simp) rfl⟩
      · have hl : lim - j = 0 := by omega
        repeat (first | refine go (k := ?_) | (refine goB (k := ?_); intro b) | (refine goA (k := ?_); intro ao cap))
        refine End.some_ hK3 (j, y) ?_
        refine ⟨r2, ?_⟩
        rw [r6, hl]
        exact Prod.ext (by simp [Vm.goN]) rfl
    · have hl : lim - j = 0 := by omega
      repeat (first | refine go (k := ?_) | (refine goB (k := ?_); intro b) | (refine goA (k := ?_); intro ao cap))
      refine End.some_ hK3 (j, y) ?_
      refine ⟨r2, ?_⟩
      rw [r6, hl]
      exact Prod.ext (by simp [Vm.goN]) rfl
  · have hR' : R = ((11, 0), (z.look p.m).two) := by
      rw [hR]; unfold Vm.pick1
      rw [if_neg hq12, ← hz.look_two, if_pos (show (z.look p.m).two.1.st ≠ 1 from h1)]
    subst hR'
    repeat (first | refine go (k := ?_) | (refine goB (k := ?_); intro b) | (refine goA (k := ?_); intro ao cap))
    (refine End.doneC1_ ((z.look p.m)) (he := by (first | exact rfl | (refine congrArg (Value.int _) ?_; omega) | (refine congrArg (Value.int _) ?_; dsimp only; omega))) (hp := ?_))
    exact ⟨hz.look p.m, rfl⟩
set_option maxRecDepth 100000 in
theorem pickOut_is (xb : Nat) (to : Option Addr) (tc tn : Nat) (bo : Option Addr) (bn bc n : Nat) (k q : Int) (hk : k < 0 ∨ (tn : Int) ≤ k) :
    Fn Try.prog 24 #[ptr xb, .agg #[.int .i64 k, .int .i64 q]] [] [blk xb (maC to tn tc bo bn bc n) 80] (σ := Unit) (fun _ => True) (fun _ => .agg #[.int .i64 3, .int .i64 0]) (fun _ => [blk xb (maC to tn tc bo bn bc n) 80]) := by
  refine Fn.enter (args := [ptr xb, .agg #[.int .i64 k, .int .i64 q]]) Try.func24 rfl _ Try.ntmps24 rfl (by simp [rd_excl, md_excl]) (fun w S => ?_)
  (try conv => rhs; simp only [List.cons_append, List.nil_append])
  by_cases h0 : k < 0
  · repeat (first | refine go (k := ?_) | (refine goB (k := ?_); intro b) | (refine goA (k := ?_); intro ao cap))
    (refine End.doneC1_ (()) (he := by (first | exact rfl | (refine congrArg (Value.int _) ?_; omega) | (refine congrArg (Value.int _) ?_; dsimp only; omega))) (hp := ?_))
    trivial
  · repeat (first | refine go (k := ?_) | (refine goB (k := ?_); intro b) | (refine goA (k := ?_); intro ao cap))
    (refine End.doneC1_ (()) (he := by (first | exact rfl | (refine congrArg (Value.int _) ?_; omega) | (refine congrArg (Value.int _) ?_; dsimp only; omega))) (hp := ?_))
    trivial
end Go.Proofs.Ytjehflelkpacfaa.Vw

/- Rows of words: a slice of slices, only read or one's own; a type's method found by its name. Of whatever program. -/
namespace Go.Proofs.Ytjehflelkpacfaa
open Go
set_option linter.unusedVariables false
set_option linter.unusedSimpArgs false
set_option linter.unusedSectionVars false
/-- a row of words, and where it lies -/
structure Rw where
  o : Option Addr
  c : Nat
  l : List Int
instance : Inhabited Rw := ⟨⟨none, 0, []⟩⟩
def rwC (r : Rw) : List Value := [.slice r.o r.l.length r.c]
instance : Enc rwC := ⟨fun _ => rfl, by decide, fun a u hu => by simp [rwC] at hu; subst hu; rfl⟩
def natC (n : Nat) : List Value := [.int .i64 (n : Int)]
instance : Enc natC := ⟨fun _ => rfl, by decide, fun a u hu => by simp [natC] at hu; subst hu; rfl⟩
/-- rows, and where their heads lie -/
structure FL where
  o : Option Addr
  c : Nat
  l : List Rw
instance : Inhabited FL := ⟨⟨none, 0, []⟩⟩
abbrev FL.val (f : FL) : Value := .slice f.o f.l.length f.c
abbrev FL.ws (f : FL) : List (List Int) := f.l.map (·.l)
theorem getD_ws (l : List Rw) (k : Nat) : (l.map (·.l)).getD k [] = (l.getD k default).l := by
  simp only [List.getD_eq_getElem?_getD, List.getElem?_map]
  cases l[k]? <;> rfl
structure FdAt (w : World) (f : FL) : Prop where
  out : Row w (.slice f.o f.l.length f.c) (sz rwC) f.l.length (f.l.flatMap rwC)
  row : ∀ r ∈ f.l, Row w (.slice r.o r.l.length r.c) (sz i64c) r.l.length (r.l.flatMap i64c)
def FdFoot (f : FL) (k : Nat) : Prop :=
  ((Value.slice f.o f.l.length f.c).ownBlock = some k ∧ 0 < f.l.length) ∨ ∃ r ∈ f.l, (Value.slice r.o r.l.length r.c).ownBlock = some k ∧ 0 < r.l.length
theorem FdAt.keep {w w' : World} {f : FL} (h : FdAt w f) {S : Nat → Prop} (k : Keeps S w w') (hs : ∀ b, FdFoot f b → ¬ S b) : FdAt w' f :=
  ⟨h.out.keep'' Enc.pos k (fun b h1 h2 => hs b (.inl ⟨h1, h2⟩)), fun r hr => (h.row r hr).keep'' Enc.pos k (fun b h1 h2 => hs b (.inr ⟨r, hr, h1, h2⟩))⟩
theorem FdAt.lt {w : World} {f : FL} (h : FdAt w f) : ∀ b, FdFoot f b → b < w.heap.size := by
  rintro b (⟨h1, h2⟩ | ⟨r, hr, h1, h2⟩)
  · exact h.out.lt' Enc.pos h2 b h1
  · exact (h.row r hr).lt' Enc.pos h2 b h1
/-- rows that are only read -/
@[irreducible] def fd (f : FL) : Chunk where
  holds w := FdAt w f
  foot := FdFoot f
  excl := false
  stab k hs h := h.keep k hs
  lt h := h.lt
theorem fd_holds {w : World} {f : FL} : (fd f).holds w ↔ FdAt w f := by unfold fd; exact Iff.rfl
theorem fd_foot {f : FL} {k : Nat} : (fd f).foot k ↔ FdFoot f k := by unfold fd; exact Iff.rfl
theorem fd_excl {f : FL} : (fd f).excl = false := by unfold fd; rfl
theorem rw_mem {l : List Rw} {k : Nat} (hk : k < l.length) : l.getD k default ∈ l := by
  rw [List.getD_eq_getElem?_getD, List.getElem?_eq_getElem hk]; exact List.getElem_mem hk
theorem FdAt.small {w : World} {f : FL} (h : FdAt w f) : f.l.length ≤ 9223372036854775807 ∧ ∀ k, k < f.l.length → (f.l.getD k default).l.length ≤ 9223372036854775807 :=
  ⟨h.out.2.1, fun k hk => (h.row _ (rw_mem hk)).2.1⟩
section
variable {f : FL} {L L' : List Chunk} {w : World}
theorem Mem.fdOut (t : Take (fd f) L L') (h : Mem w L) : Mem w (rd f.o f.l.length f.c rwC f.l :: L) :=
  h.dup t rd_excl (rd_holds.2 ⟨(fd_holds.1 (h.has t)).out, rfl⟩) (fun b hb => fd_foot.2 (.inl (rd_foot.1 hb))) fd_excl
theorem Mem.fdRow {k : Nat} (hk : k < f.l.length) (t : Take (fd f) L L') (h : Mem w L) : Mem w (rd (f.l.getD k default).o (f.l.getD k default).l.length (f.l.getD k default).c i64c (f.l.getD k default).l :: L) :=
  h.dup t rd_excl (rd_holds.2 ⟨(fd_holds.1 (h.has t)).row _ (rw_mem hk), rfl⟩) (fun b hb => fd_foot.2 (.inr ⟨_, rw_mem hk, rd_foot.1 hb⟩)) fd_excl
end
/-- a row of one's own -/
abbrev rowM (t : TypeId) (r : Rw) : Chunk := arr r.o r.l.length r.c t i64c r.l
theorem row_perm (t : TypeId) (s u : List Rw) (r : Rw) : ((s ++ r :: u).map (rowM t)).Perm (rowM t r :: (s ++ u).map (rowM t)) := by
  simp only [List.map_append, List.map_cons]
  exact List.perm_middle
theorem Mem.rowOut {w : World} {L L' : List Chunk} {t : TypeId} {s u : List Rw} {r : Rw} (h : Mem w L) (tk : Take (bag ((s ++ r :: u).map (rowM t))) L L') : Mem w (rowM t r :: bag ((s ++ u).map (rowM t)) :: L') :=
  Mem.bagOut (ds := [rowM t r]) h tk (row_perm t s u r)
theorem Mem.rowIn {w : World} {L L' F : List Chunk} {t : TypeId} {s u : List Rw} {r : Rw} (h : Mem w L) (tk : Take (bag ((s ++ u).map (rowM t))) L L') (t2 : Takes [rowM t r] L' F) : Mem w (bag ((s ++ r :: u).map (rowM t)) :: F) :=
  Mem.bagIn (ds := [rowM t r]) h tk t2 (row_perm t s u r) (fun c hc => by simp at hc; subst hc; exact arr_excl)
theorem split_at {α : Type} [Inhabited α] {l : List α} {k : Nat} (h : k < l.length) : ∃ s u, l = s ++ l.getD k default :: u ∧ s.length = k := by
  refine ⟨l.take k, l.drop (k + 1), ?_, by simp; omega⟩
  rw [List.getD_eq_getElem?_getD, List.getElem?_eq_getElem h, Option.getD_some, List.getElem_cons_drop, List.take_append_drop]
theorem set_split {α : Type} (s u : List α) (a b : α) : (s ++ a :: u).set s.length b = s ++ b :: u := by
  rw [List.set_append_right _ _ (Nat.le_refl _), Nat.sub_self]; rfl
theorem getD_split {α : Type} [Inhabited α] (s u : List α) (a : α) : (s ++ a :: u).getD s.length default = a := by
  simp [List.getD_eq_getElem?_getD]
section
variable {P : Program} {T : TypeId} {rv : Value} {name : String} {f : FuncId}
/-- a method that a type has of its own -/
theorem finds {ptr : Bool} (hm : ((P.info? T).bind (fun i => i.methods.find? (·.name == name))).map (fun m => (m.path.toList, m.func)) = some ([], some (f, ptr)))
    (hr : ∀ w o, (receiverAt T (.val rv) ptr o).run P w = .ok rv w) : Finds P T rv name f := by
  intro w
  have hd : 0 < Made.depth := by decide
  obtain ⟨k, hk⟩ : ∃ k, P.types.size + Made.depth = k + 1 := ⟨P.types.size + (Made.depth - 1), by omega⟩
  rw [hk]
  cases hi : P.info? T with
  | none => rw [hi] at hm; cases hm
  | some i =>
    rw [hi] at hm
    simp only [Option.bind_some] at hm
    cases hj : i.methods.find? (·.name == name) with
    | none => rw [hj] at hm; cases hm
    | some m =>
      rw [hj] at hm
      simp only [Option.map_some, Option.some.injEq, Prod.mk.injEq] at hm
      unfold method
      rw [Sem.run_bind, run_typeInfo w hi, Result.andThen_ok]
      simp only [hj, hm.1, hm.2]
      simp [follow, hr]
theorem finds_slice {e : TypeId} (hu : P.underlying T = some (.slice e)) (w : World) (o : Option String) : (receiverAt T (.val rv) false o).run P w = .ok rv w := by
  unfold receiverAt
  rw [Sem.run_bind, run_underlying hu w, Result.andThen_ok]
  rfl
end
end Go.Proofs.Ytjehflelkpacfaa

/- mail's boxes, walked. -/
namespace Go.Proofs.Ytjehflelkpacfaa.Vw
open Go.RowKit Go.Proofs.Ytjehflelkpacfaa.Img
set_option linter.unusedVariables false
set_option linter.unusedSimpArgs false
attribute [local irreducible] Run Cod End OpT Still RunQ RunS RunT Fn PutOk
/-- a box: its block, its ring's block, the ring, where the first word is, how many there are -/
structure Ring where
  bb : Nat
  lb : Nat
  l : List Int
  first : Nat
  n : Nat
instance : Inhabited Ring := ⟨⟨0, 0, [], 0, 0⟩⟩
structure Ring.Ok (r : Ring) : Prop where
  n : r.n ≤ r.l.length
  first : r.first < r.l.length
  cap : r.l.length ≤ 20
def Ring.ws (r : Ring) : List Int := (List.range r.n).map fun i => r.l.getD ((r.first + i) % r.l.length) 0
abbrev rgC (r : Ring) : List Value := [.slice (some ⟨r.lb, 0, none⟩) r.l.length r.l.length, .int .i64 (r.first : Int), .int .i64 (r.n : Int)]
abbrev rgM (r : Ring) : List Chunk := [blk r.bb (rgC r) 104, arr (some ⟨r.lb, 0, none⟩) r.l.length r.l.length 2 i64c r.l]
theorem Ring.len (r : Ring) : r.ws.length = r.n := by simp [Ring.ws]
/-- a word more -/
abbrev Ring.put (r : Ring) (v : Int) : Ring := { r with l := r.l.set ((r.first + r.n) % r.l.length) v, n := r.n + 1 }
abbrev Ring.take (r : Ring) : Ring := { r with first := (r.first + 1) % r.l.length, n := r.n - 1 }
theorem mod_one {a b n : Nat} (h : a < n) (hb : b < n) : (a + b) % n = if a + b < n then a + b else a + b - n := by
  by_cases h1 : a + b < n
  · rw [if_pos h1, Nat.mod_eq_of_lt h1]
  · rw [if_neg h1, Nat.mod_eq_sub_mod (by omega), Nat.mod_eq_of_lt (by omega)]
theorem Ring.put_ok {r : Ring} (h : r.Ok) (hn : r.n < r.l.length) (v : Int) : (r.put v).Ok ∧ (r.put v).ws = r.ws ++ [v] := by
  obtain ⟨h1, h2, h3⟩ := h
  refine ⟨⟨by simp; omega, by simpa using h2, by simpa using h3⟩, ?_⟩
  have hlt : (r.first + r.n) % r.l.length < r.l.length := Nat.mod_lt _ (by omega)
  unfold Ring.ws
  simp only [List.length_set]
  rw [List.range_succ, List.map_append]
  congr 1
  · refine List.map_congr_left fun i hi => ?_
    have hi : i < r.n := List.mem_range.1 hi
    have hne : (r.first + r.n) % r.l.length ≠ (r.first + i) % r.l.length := by
      rw [mod_one h2 hn, mod_one h2 (by omega)]
      split <;> split <;> omega
    simp only [List.getD_eq_getElem?_getD]
    rw [List.getElem?_set_ne hne]
  · simp only [List.map_cons, List.map_nil, List.getD_eq_getElem?_getD]
    rw [List.getElem?_set_self hlt]; rfl
theorem Ring.take_ok {r : Ring} (h : r.Ok) (hn : r.n ≠ 0) : r.take.Ok ∧ r.ws = r.l.getD r.first 0 :: r.take.ws := by
  obtain ⟨h1, h2, h3⟩ := h
  refine ⟨⟨by simp only; omega, Nat.mod_lt _ (by omega), h3⟩, ?_⟩
  obtain ⟨m, hm⟩ : ∃ m, r.n = m + 1 := ⟨r.n - 1, by omega⟩
  unfold Ring.ws
  simp only [hm, Nat.add_sub_cancel]
  rw [List.range_succ_eq_map, List.map_cons, List.map_map]
  congr 1
  · rw [Nat.add_zero, Nat.mod_eq_of_lt h2]
  · refine List.map_congr_left fun i hi => ?_
    have hi : i < m := List.mem_range.1 hi
    simp only [Function.comp_apply, Nat.succ_eq_add_one]
    congr 1
    rw [Nat.mod_add_mod]
    congr 1
    omega
theorem Ring.head {r : Ring} (h : r.Ok) (hn : r.n ≠ 0) : r.ws.headD 0 = r.l.getD r.first 0 ∧ r.ws.tail = r.take.ws := by rw [(Ring.take_ok h hn).2]; exact ⟨rfl, rfl⟩
set_option maxRecDepth 100000 in
theorem full_rg (r : Ring) : Fn Try.prog 108 #[ptr r.bb] [] (rgM r) (σ := Unit) (fun _ => True) (fun _ => .bool (decide (r.n = r.l.length))) (fun _ => rgM r) := by
  refine Fn.enter (args := [ptr r.bb]) Try.func108 rfl _ Try.ntmps108 rfl (by simp [rd_excl, md_excl]) (fun w S => ?_)
  (try conv => rhs; simp only [List.cons_append, List.nil_append])
  repeat (first | refine go (k := ?_) | (refine goB (k := ?_); intro b) | (refine goA (k := ?_); intro ao cap))
  (refine End.done1_ (()) (he := by exact bool_eq (decide_eq_decide.2 (by omega))) (hp := ?_))
  trivial
set_option maxRecDepth 100000 in
theorem empty_rg (r : Ring) : Fn Try.prog 107 #[ptr r.bb] [] (rgM r) (σ := Unit) (fun _ => True) (fun _ => .bool (decide (r.n = 0))) (fun _ => rgM r) := by
  refine Fn.enter (args := [ptr r.bb]) Try.func107 rfl _ Try.ntmps107 rfl (by simp [rd_excl, md_excl]) (fun w S => ?_)
  (try conv => rhs; simp only [List.cons_append, List.nil_append])
  repeat (first | refine go (k := ?_) | (refine goB (k := ?_); intro b) | (refine goA (k := ?_); intro ao cap))
  (refine End.done1_ (()) (he := by exact bool_eq (decide_eq_decide.2 (by omega))) (hp := ?_))
  trivial
set_option maxRecDepth 100000 in
theorem put_rg (r : Ring) (h : r.Ok) (hn : r.n < r.l.length) (v : Int) : Fn Try.prog 109 #[ptr r.bb, .int .i64 v] [] (rgM r) (σ := Unit) (fun _ => True) (fun _ => .tuple #[]) (fun _ => rgM (r.put v)) := by
  obtain ⟨h1, h2, h3⟩ := h
  have hlt : (r.first + r.n) % r.l.length < r.l.length := Nat.mod_lt _ (by omega)
  have hm : ((r.first : Int) + (r.n : Int)).tmod (r.l.length : Int) = (((r.first + r.n) % r.l.length : Nat) : Int) := by
    rw [← Int.natCast_add, Int.ofNat_tmod]
  refine Fn.enter (args := [ptr r.bb, .int .i64 v]) Try.func109 rfl _ Try.ntmps109 rfl (by simp [rd_excl, md_excl]) (fun w S => ?_)
  (try conv => rhs; simp only [List.cons_append, List.nil_append])
  repeat (first | refine go (k := ?_) | (refine goB (k := ?_); intro b) | (refine goA (k := ?_); intro ao cap))
  refine RunS.val_ (h := by exact Still.rem rfl rfl (by omega) hm) (k := ?_)
  repeat (first | refine go (k := ?_) | (refine goB (k := ?_); intro b) | (refine goA (k := ?_); intro ao cap))
  (apply Run.op; exact rfl; refine OpT.storeE_ (f := i64c) (l := r.l) (i := (r.first + r.n) % r.l.length) (off := 0) (vs := [.int .i64 v]) (a' := v) (k := ?_))
  repeat (first | refine go (k := ?_) | (refine goB (k := ?_); intro b) | (refine goA (k := ?_); intro ao cap))
  have hle : (r.l.set ((r.first + r.n) % r.l.length) v).length = r.l.length := List.length_set
  refine End.done0'_ () (ht := by (simp only [rgM, rgC, Ring.put, hle]; exact tks)) (hp := trivial)
set_option maxRecDepth 100000 in
theorem take_rg (r : Ring) (h : r.Ok) (hn : r.n ≠ 0) : Fn Try.prog 110 #[ptr r.bb] [] (rgM r) (σ := Unit) (fun _ => True) (fun _ => .int .i64 (r.l.getD r.first 0)) (fun _ => rgM r.take) := by
  obtain ⟨h1, h2, h3⟩ := h
  refine Fn.enter (args := [ptr r.bb]) Try.func110 rfl _ Try.ntmps110 rfl (by simp [rd_excl, md_excl]) (fun w S => ?_)
  (try conv => rhs; simp only [List.cons_append, List.nil_append])
  have hm : ((r.first : Int) + 1).tmod (r.l.length : Int) = (((r.first + 1) % r.l.length : Nat) : Int) := by
    rw [show (r.first : Int) + 1 = ((r.first + 1 : Nat) : Int) by omega, Int.ofNat_tmod]
  repeat (first | refine go (k := ?_) | (refine goB (k := ?_); intro b) | (refine goA (k := ?_); intro ao cap))
  refine RunS.val_ (h := by exact Still.rem rfl rfl (by omega) hm) (k := ?_)
  repeat (first | refine go (k := ?_) | (refine goB (k := ?_); intro b) | (refine goA (k := ?_); intro ao cap))
  have hn1 : (r.n : Int) - 1 = ((r.n - 1 : Nat) : Int) := by omega
  rw [hn1]
  (refine End.done1_ (()) (he := by (first | exact rfl | (refine congrArg (Value.int _) ?_; omega) | (refine congrArg (Value.int _) ?_; dsimp only; omega))) (hp := ?_))
  trivial
end Go.Proofs.Ytjehflelkpacfaa.Vw

/- mail's boxes, walked: a new one, all words of one; all boxes of a module. -/
namespace Go.Proofs.Ytjehflelkpacfaa.Vw
open Go.RowKit Go.Proofs.Ytjehflelkpacfaa.Img
set_option linter.unusedVariables false
set_option linter.unusedSimpArgs false
attribute [local irreducible] Run Cod End OpT Still RunQ RunS RunT Fn PutOk
set_option maxRecDepth 100000 in
theorem new_rg (c : Nat) (hc : c ≤ 20) : Fn Try.prog 30 #[.int .i64 (c : Int)] [] [] (σ := Nat × Nat) (fun _ => True) (fun s => ptr s.1) (fun s => rgM ⟨s.1, s.2, List.replicate c 0, 0, 0⟩) := by
  refine Fn.enter (args := [.int .i64 (c : Int)]) Try.func30 rfl _ Try.ntmps30 rfl (by simp [rd_excl, md_excl]) (fun w S => ?_)
  (try conv => rhs; simp only [List.cons_append, List.nil_append])
  repeat (first | refine go (k := ?_) | (refine goB (k := ?_); intro b) | (refine goA (k := ?_); intro ao cap))
  apply Run.op (by exact rfl)
  refine OpT.makeSlice_ (f := i64c) (iα := inferInstance) (ef := inferInstance) (z := 0) (n := c) (k := ?_)
  intro lb
  repeat (first | refine go (k := ?_) | (refine goB (k := ?_); intro b) | (refine goA (k := ?_); intro ao cap))
  have hle : (List.replicate c (0 : Int)).length = c := List.length_replicate
  refine End.done1_ ((b, lb) : Nat × Nat) (he := by rfl) (ht := by (simp only [rgM, rgC, hle]; exact tks)) (hp := trivial)
theorem Ring.ws_take (r : Ring) (k : Nat) (hk : k < r.n) : r.ws.take (k + 1) = r.ws.take k ++ [r.l.getD ((r.first + k) % r.l.length) 0] := by
  have hl := r.len
  rw [List.take_succ_eq_append_getElem (by omega)]
  congr 2
  simp [Ring.ws]
set_option maxRecDepth 100000 in
theorem words_rg (r : Ring) (h : r.Ok) : Fn Try.prog 35 #[ptr r.bb] [] (rgM r) (σ := Option Addr × Nat) (fun _ => True) (fun s => .slice s.1 r.ws.length s.2) (fun s => arr s.1 r.ws.length s.2 2 i64c r.ws :: rgM r) := by
  obtain ⟨h1, h2, h3⟩ := h
  have hl := r.len
  rw [hl]
  refine Fn.enter (args := [ptr r.bb]) Try.func35 rfl _ Try.ntmps35 rfl (by simp [rd_excl, md_excl]) (fun w S => ?_)
  (try conv => rhs; simp only [List.cons_append, List.nil_append])
  repeat (first | refine go (k := ?_) | (refine goB (k := ?_); intro b) | (refine goA (k := ?_); intro ao cap))
  apply Cod.imp (fun w hm => hm.nilArr 2 i64c)
  refine Cod.only ((fun z => old w S :: arr z.2.1 z.1 z.2.2 2 i64c (r.ws.take z.1) :: rgM r) (0, none, 0)) (by (repeat (first | exact Takes.nil | exact Take.head | apply Take.tail | apply Takes.cons))) ?_
  apply Cod.loop (σ := Nat × Option Addr × Nat) (fun z => z.1 ≤ r.n) (fun z => [(0, ptr r.bb), (3, .slice z.2.1 z.1 z.2.2), (8, .int .i64 (r.n : Int)), (9, .int .i64 (z.1 : Int))]) (fun z => old w S :: arr z.2.1 z.1 z.2.2 2 i64c (r.ws.take z.1) :: rgM r) (fun z => r.n - z.1) (0, none, 0)
  rotate_left
  exact sb
  exact tks
  intro z hz K1 hK1
  (try conv => rhs; simp only [List.cons_append, List.nil_append])
  rotate_left
  · exact Nat.zero_le _
  obtain ⟨q, ao, ac⟩ := z
  simp only at hz hK1 ⊢
  by_cases hq : q < r.n
  · have hsn := r.ws_take q hq
    have hlt : (r.first + q) % r.l.length < r.l.length := Nat.mod_lt _ (by omega)
    have hm : ((r.first : Int) + (q : Int)).tmod (r.l.length : Int) = (((r.first + q) % r.l.length : Nat) : Int) := by
      rw [← Int.natCast_add, Int.ofNat_tmod]
    repeat (first | refine go (k := ?_) | (refine goB (k := ?_); intro b) | (refine goA (k := ?_); intro ao cap))
    apply Cod.draw 20 ([blk r.bb (rgC r) 104, arr (some ⟨r.lb, 0, none⟩) r.l.length r.l.length 2 i64c r.l]) (by kernel_rfl) 22 rfl
    refine RunT.takeR_ 0 (h := ?_)
    refine RunT.takeR_ 1 (h := ?_)
    refine RunT.takeR_ 2 (h := ?_)
    refine RunT.takeR_ 3 (h := ?_)
    refine RunT.takeR_ 4 (h := ?_)
    refine RunT.takeR_ 5 (h := ?_)
    refine RunT.takeR_ 6 (h := ?_)
    refine RunT.takeR_ 7 (h := ?_)
    refine RunT.takeR_ 8 (h := ?_)
    refine RunT.takeR_ 9 (h := ?_)
    refine RunT.takeR_ 10 (h := ?_)
    refine RunT.takeR_ 11 (h := ?_)
    refine RunT.takeR_ 12 (h := ?_)
    refine RunT.takeR_ 13 (h := ?_)
    refine RunT.takeR_ 14 (h := ?_)
    refine RunT.takeR_ 15 (h := ?_)
    refine RunT.takeR_ 16 (hy := by exact Still.rem rfl rfl (by omega) hm) (h := ?_)
    refine RunT.takeR_ 17 (h := ?_)
    refine RunT.takeR_ 18 (h := ?_)
    (refine RunT.one_ 19 (h := ?_); (first | refine OpT.val_ (k := ?_) | (refine OpT.alloc_ (k := ?_); intro b) | (refine OpT.box_ (k := ?_); intro b) | refine OpT.store_ (k := ?_) | (refine OpT.buildSlice_ (k := ?_); intro b) | (refine OpT.buildSlice0_ (k := ?_); intro b) | (refine OpT.append1_ (k := ?_); intro ao cap) | (refine OpT.cutA0_ (k := ?_); intro ao cap) | (refine OpT.cutR0_ (k := ?_); intro ao cap) | (refine OpT.cutA1_ (k := ?_); intro ao cap) | (refine OpT.cutA_ (k := ?_); intro ao cap) | (refine OpT.cutR_ (k := ?_); intro ao cap)); refine And.intro gud ?_)
    (refine RunT.one_ 20 (h := ?_); refine OpT.append1_ (a := r.l.getD ((r.first + q) % r.l.length) default) (k := ?_); intro ao cap; refine And.intro gud ?_; (try conv => rhs; simp only [List.cons_append, List.nil_append]))
    (refine RunT.one_ 21 (h := ?_); (first | refine OpT.val_ (k := ?_) | (refine OpT.alloc_ (k := ?_); intro b) | (refine OpT.box_ (k := ?_); intro b) | refine OpT.store_ (k := ?_) | (refine OpT.buildSlice_ (k := ?_); intro b) | (refine OpT.buildSlice0_ (k := ?_); intro b) | (refine OpT.append1_ (k := ?_); intro ao cap) | (refine OpT.cutA0_ (k := ?_); intro ao cap) | (refine OpT.cutR0_ (k := ?_); intro ao cap) | (refine OpT.cutA1_ (k := ?_); intro ao cap) | (refine OpT.cutA_ (k := ?_); intro ao cap) | (refine OpT.cutR_ (k := ?_); intro ao cap)); refine And.intro gud ?_)
    (apply RunT.done; kernel_rfl)
    repeat (first | refine go (k := ?_) | (refine goB (k := ?_); intro b) | (refine goA (k := ?_); intro ao cap))
    rw [show r.l.getD ((r.first + q) % r.l.length) default = r.l.getD ((r.first + q) % r.l.length) 0 from rfl, ← hsn]
    refine End.round0_ hK1 (q + 1, ao, cap) ?_ ?_
    · simp only; omega
    · simp only; omega
  · obtain rfl : q = r.n := by omega
    rw [List.take_of_length_le (by omega)]
    repeat (first | refine go (k := ?_) | (refine goB (k := ?_); intro b) | (refine goA (k := ?_); intro ao cap))
    (refine End.done1_ ((ao, ac)) (he := by (first | exact rfl | (refine congrArg (Value.int _) ?_; omega) | (refine congrArg (Value.int _) ?_; dsimp only; omega))) (hp := ?_))
    trivial
/-- where all boxes lie, and what is told -/
structure BxP where
  bo : Option Addr
  bc : Nat
  bs : List Nat
  tr : Option (Nat × List Nat)
structure BxE where
  rs : List Ring
  oo : Option Addr
  oc : Nat
  ev : List (Nat × Vm.Ev)
def evC (e : Nat × Vm.Ev) : List Value := [.int .i64 (e.1 : Int), .int .i64 e.2.1, .int .i64 e.2.2.1, .int .i64 e.2.2.2]
instance : Enc evC := ⟨fun _ => rfl, by decide, fun a u hu => by simp [evC] at hu; rcases hu with rfl | rfl | rfl | rfl <;> rfl⟩
def kcs (kbs : List Nat) : List Chunk := (List.range kbs.length).map fun k => blk (kbs.getD k 0) [.int .i64 (k : Int)] 3
def outC (p : BxP) (e : BxE) : List Chunk := match p.tr with
  | none => []
  | some (ob, kbs) => [blk ob [.slice e.oo e.ev.length e.oc] 43, arr e.oo e.ev.length e.oc 50 evC e.ev, bag (kcs kbs)]
def bxM (p : BxP) (e : BxE) : Chunk := bag [bag (e.rs.flatMap rgM), bag (outC p e)]
theorem bxM_excl (p : BxP) (e : BxE) : (bxM p e).excl = true := bag_excl
theorem rgM_excl (r : Ring) : ∀ c ∈ rgM r, c.excl = true := by simp [blk_excl, arr_excl]
abbrev bxR (p : BxP) : Chunk := rd p.bo p.bs.length p.bc ptrC p.bs
structure BxOk (M : ImgM.Mdl) (p : BxP) (e : BxE) : Prop where
  at_ : e.rs.map (·.bb) = p.bs
  len : e.rs.length = M.boxes.length
  ok : ∀ r ∈ e.rs, r.Ok
  cap : ∀ b, b < M.boxes.length → (e.rs.getD b default).l.length = Vm.capN M b
def BxE.abs (e : BxE) : Vm.Bs := ⟨e.rs.map Ring.ws, e.ev⟩
theorem getD_rg (l : List Ring) (b : Nat) : (l.map Ring.ws).getD b [] = if b < l.length then (l.getD b default).ws else [] := by
  simp only [List.getD_eq_getElem?_getD, List.getElem?_map]
  split
  · rename_i h; rw [List.getElem?_eq_getElem h]; rfl
  · rename_i h; rw [List.getElem?_eq_none (by omega)]; rfl
theorem rg_perm (s u : List Ring) (r : Ring) : ((s ++ r :: u).flatMap rgM).Perm (rgM r ++ (s ++ u).flatMap rgM) := by
  have := (List.perm_middle (a := r) (l₁ := s) (l₂ := u)).flatMap_right rgM
  simpa only [List.flatMap_cons] using this
/-- a box comes out of the bag, and goes in -/
theorem Mem.rgOut {w : World} {L L' : List Chunk} {p : BxP} {e : BxE} {s u : List Ring} {r : Ring} (h : Mem w L) (t : Take (bxM p e) L L') (he : e.rs = s ++ r :: u) : Mem w (blk r.bb (rgC r) 104 :: arr (some ⟨r.lb, 0, none⟩) r.l.length r.l.length 2 i64c r.l :: bag ((s ++ u).flatMap rgM) :: bag (outC p e) :: L') := by
  have h1 : Mem w (bag (e.rs.flatMap rgM) :: bag (outC p e) :: L') := (h.take t).unpack
  rw [he] at h1
  exact Mem.bagOut (ds := rgM r) h1 .head (rg_perm s u r)
theorem Mem.rgIn {w : World} {L F : List Chunk} {p : BxP} {e : BxE} {s u : List Ring} {r : Ring} (h : Mem w L) (t : Takes [blk r.bb (rgC r) 104, arr (some ⟨r.lb, 0, none⟩) r.l.length r.l.length 2 i64c r.l, bag ((s ++ u).flatMap rgM), bag (outC p e)] L F) : Mem w (bxM p { e with rs := s ++ r :: u } :: F) := by
  have h1 : Mem w ((rgM r ++ [bag ((s ++ u).flatMap rgM), bag (outC p e)]) ++ F) := h.takes t
  have h2 : Mem w (bag ((s ++ u).flatMap rgM) :: (rgM r ++ (bag (outC p e) :: F))) := by
    have e1 : (rgM r ++ [bag ((s ++ u).flatMap rgM), bag (outC p e)]) ++ F = rgM r ++ (bag ((s ++ u).flatMap rgM) :: (bag (outC p e) :: F)) := by simp
    rw [e1] at h1
    exact h1.perm List.perm_middle
  have h3 : Mem w (bag ((s ++ r :: u).flatMap rgM) :: bag (outC p e) :: F) := Mem.bagIn (ds := rgM r) h2 .head (Takes.cons .head (.cons .head .nil)) (rg_perm s u r) (rgM_excl r)
  have h4 : Mem w ([bag ((s ++ r :: u).flatMap rgM), bag (outC p e)] ++ F) := h3
  exact h4.pack (fun c hc => by
    simp at hc
    rcases hc with rfl | rfl
    · exact bag_excl
    · exact bag_excl)
end Go.Proofs.Ytjehflelkpacfaa.Vw
