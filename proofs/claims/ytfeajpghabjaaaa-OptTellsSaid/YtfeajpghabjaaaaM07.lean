/- Memory as a list of chunks: what is known of the world, and what belongs to nobody else. Of whatever program. -/
import Derived.Test.YtfeajpghabjaaaaM06
import Derived.OrdersHeld
import Derived.RegionTactic
namespace Go.Proofs.Ytfeajpghabjaaaa
open Go.RowKit
set_option linter.unusedVariables false
set_option linter.unusedSimpArgs false

/-- a thing that lies in memory: what it says of the world, in which blocks it lies, and whether nobody else has these -/
structure Chunk where
  holds : World → Prop
  foot : Nat → Prop
  excl : Bool
  stab : ∀ {S : Nat → Prop} {w w' : World}, Keeps S w w' → (∀ b, foot b → ¬ S b) → holds w → holds w'
  lt : ∀ {w : World}, holds w → ∀ b, foot b → b < w.heap.size

/-- all chunks hold, and what is one's own is nobody else's -/
structure Mem (w : World) (L : List Chunk) : Prop where
  all : ∀ c ∈ L, c.holds w
  sep : L.Pairwise (fun c d => (c.excl = true ∨ d.excl = true) → ∀ b, c.foot b → ¬ d.foot b)

theorem Mem.perm {w : World} {L M : List Chunk} (h : Mem w L) (p : L.Perm M) : Mem w M :=
  ⟨fun c hc => h.all c (p.mem_iff.2 hc), (p.pairwise_iff (fun {x y} hxy hd b hb hb' => hxy hd.symm b hb' hb)).1 h.sep⟩
theorem Mem.nil (w : World) : Mem w [] := ⟨by simp, .nil⟩
theorem Mem.sub {w : World} {L M : List Chunk} (h : Mem w L) (s : M.Sublist L) : Mem w M := ⟨fun c hc => h.all c (s.subset hc), h.sep.sublist s⟩
theorem Mem.right {w : World} {L M : List Chunk} (h : Mem w (L ++ M)) : Mem w M := h.sub (List.sublist_append_right _ _)
theorem Mem.left {w : World} {L M : List Chunk} (h : Mem w (L ++ M)) : Mem w L := h.sub (List.sublist_append_left _ _)

/-- the heap kept, the draws apart -/
theorem Mem.same {w w' : World} {L : List Chunk} (h : Mem w L) (k : Keeps Nil w w') : Mem w' L :=
  ⟨fun c hc => c.stab k (fun _ _ h => h) (h.all c hc), h.sep⟩
theorem Mem.drew {w : World} {L : List Chunk} (h : Mem w L) : Mem w.drew L := h.same (Keeps.refl _ _).drew

/-- A STEP: some chunks are turned into others; the rest stays. -/
theorem Mem.step {w w' : World} {pre post F : List Chunk} {S : Nat → Prop} (h : Mem w (pre ++ F)) (k : Keeps S w w')
    (hS : ∀ b, S b → b < w.heap.size → ∃ c ∈ pre, c.excl = true ∧ c.foot b)
    (hp : ∀ c ∈ post, c.holds w') (hs : post.Pairwise (fun c d => (c.excl = true ∨ d.excl = true) → ∀ b, c.foot b → ¬ d.foot b))
    (hf : ∀ c ∈ post, ∀ b, c.foot b → (∃ d ∈ pre, (c.excl = true → d.excl = true) ∧ d.foot b) ∨ w.heap.size ≤ b) : Mem w' (post ++ F) := by
  have hsep := List.pairwise_append.1 h.sep
  refine ⟨fun c hc => ?_, List.pairwise_append.2 ⟨hs, hsep.2.1, fun c hc d hd hx b hb hb' => ?_⟩⟩
  · rcases List.mem_append.1 hc with hc | hc
    · exact hp c hc
    · have hcw := h.all c (List.mem_append_right _ hc)
      refine c.stab k (fun b hb hSb => ?_) hcw
      obtain ⟨d, hd, hx, hdb⟩ := hS b hSb (c.lt hcw b hb)
      exact hsep.2.2 d hd c hc (.inl hx) b hdb hb
  · have hdw := h.all d (List.mem_append_right _ hd)
    rcases hf c hc b hb with ⟨p, hp', hpx, hpb⟩ | hge
    · exact hsep.2.2 p hp' d hd (hx.imp hpx id) b hpb hb'
    · have := d.lt hdw b hb'
      omega

/-- ALIKE: only new chunks come. -/
theorem Mem.add {w w' : World} {L : List Chunk} (h : Mem w L) (k : Keeps Nil w w') {c : Chunk} (hc : c.holds w') (hf : ∀ b, c.foot b → w.heap.size ≤ b) : Mem w' (c :: L) :=
  Mem.step (pre := []) (post := [c]) (F := L) h k (fun _ h => h.elim) (by simpa using hc) (by simp) (fun d hd b hb => by simp at hd; subst hd; exact .inr (hf b hb))

/-- ONE chunk is turned into another that lies in the same blocks, or in new ones. -/
theorem Mem.turn {w w' : World} {L : List Chunk} {c c' : Chunk} {S : Nat → Prop} (h : Mem w (c :: L)) (k : Keeps S w w') (hx : c.excl = true) (hS : ∀ b, S b → b < w.heap.size → c.foot b)
    (hc : c'.holds w') (hf : ∀ b, c'.foot b → c.foot b ∨ w.heap.size ≤ b) : Mem w' (c' :: L) :=
  Mem.step (pre := [c]) (post := [c']) (F := L) h k (fun b hb hl => ⟨c, by simp, hx, hS b hb hl⟩) (by simpa using hc) (by simp)
    (fun d hd b hb => by simp at hd; subst hd; exact (hf b hb).imp (fun h => ⟨c, by simp, fun _ => hx, h⟩) id)

/-- L is c and L' -/
inductive Take (c : Chunk) : List Chunk → List Chunk → Prop
  | head {L : List Chunk} : Take c (c :: L) L
  | tail {d : Chunk} {L L' : List Chunk} : Take c L L' → Take c (d :: L) (d :: L')
theorem Take.perm {c : Chunk} {L L' : List Chunk} (h : Take c L L') : L.Perm (c :: L') := by
  induction h with
  | head => exact List.Perm.refl _
  | tail _ ih => exact (List.Perm.cons _ ih).trans (List.Perm.swap _ _ _)
/-- L is cs and F -/
inductive Takes : List Chunk → List Chunk → List Chunk → Prop
  | nil {L : List Chunk} : Takes [] L L
  | cons {c : Chunk} {cs L L' F : List Chunk} : Take c L L' → Takes cs L' F → Takes (c :: cs) L F
theorem Takes.perm {cs L F : List Chunk} (h : Takes cs L F) : L.Perm (cs ++ F) := by
  induction h with
  | nil => exact List.Perm.refl _
  | cons h1 _ ih => exact h1.perm.trans (List.Perm.cons _ ih)
theorem Mem.take {w : World} {c : Chunk} {L L' : List Chunk} (h : Mem w L) (t : Take c L L') : Mem w (c :: L') := h.perm t.perm
theorem Mem.takes {w : World} {cs L F : List Chunk} (h : Mem w L) (t : Takes cs L F) : Mem w (cs ++ F) := h.perm t.perm
theorem Mem.has {w : World} {c : Chunk} {L L' : List Chunk} (h : Mem w L) (t : Take c L L') : c.holds w := (h.take t).all c (by simp)

/-- a block of cells, the call's own -/
@[irreducible] def blk (b : Nat) (cs : List Value) (t : TypeId) : Chunk where
  holds w := Blk w b cs.toArray t
  foot k := k = b
  excl := true
  stab k hs h := h.keep k (hs _ rfl)
  lt h k hk := by subst hk; exact h.lt
/-- how a thing lies in cells: as many for each, none of them an aggregate -/
class Enc {α : Type} [Inhabited α] (f : α → List Value) : Prop where
  len : ∀ a, (f a).length = (f default).length
  pos : 0 < (f default).length
  one : ∀ a, ∀ u ∈ f a, u.oneCell' = true
abbrev sz {α : Type} [Inhabited α] (f : α → List Value) : Nat := (f default).length

theorem Row.keep'' {w w' : World} {v : Value} {size n : Nat} {cs : List Value} (h : Row w v size n cs) (hz : 0 < size) {S : Nat → Prop} (k : Keeps S w w') (hs : ∀ b, v.ownBlock = some b → 0 < n → ¬ S b) : Row w' v size n cs := by
  obtain ⟨h1, h2, ao, cap, rfl, h3, h4⟩ := h
  refine ⟨h1, h2, ao, cap, rfl, h3, fun hn => ?_⟩
  obtain ⟨b, off, rfl, hc⟩ := h4 hn
  refine ⟨b, off, rfl, fun j hj => ?_⟩
  have hlt : b < w.heap.size := World.block_lt_of_cell? w _ ((hc j hj).trans (List.getElem?_eq_getElem (by omega)))
  rw [k.cell (p := ⟨b, off + j, none⟩) hlt (hs b rfl hn)]
  exact hc j hj
theorem Row.lt' {w : World} {v : Value} {size n : Nat} {cs : List Value} (h : Row w v size n cs) (hz : 0 < size) (hn : 0 < n) : ∀ b, v.ownBlock = some b → b < w.heap.size := by
  obtain ⟨h1, h2, ao, cap, rfl, h3, h4⟩ := h
  intro b hb
  obtain ⟨b', off, rfl, hc⟩ := h4 hn
  simp [Value.ownBlock] at hb
  subst hb
  have : 0 < n * size := Nat.mul_pos hn hz
  exact World.block_lt_of_cell? w _ ((hc 0 this).trans (List.getElem?_eq_getElem (by omega)))

/-- a slice of the call's own, or one without room -/
def Own0 (w : World) (e : TypeId) (size : Nat) (ao : Option Addr) (n cap : Nat) (xs : List Value) : Prop :=
  (cap = 0 ∧ n = 0 ∧ xs = []) ∨ (0 < cap ∧ Own w 0 e size (.slice ao n cap) n xs)
theorem Own0.of {w : World} {e : TypeId} {size : Nat} {ao : Option Addr} {n cap : Nat} {xs : List Value} (h : Own w 0 e size (.slice ao n cap) n xs) : Own0 w e size ao n cap xs := by
  by_cases hc : 0 < cap
  · exact .inr ⟨hc, h⟩
  · obtain ⟨h1, ao', cap', he, h2, h3, h4, h5⟩ := h
    simp only [Value.slice.injEq] at he
    obtain ⟨rfl, -, rfl⟩ := he
    obtain rfl : n = 0 := by omega
    exact .inl ⟨by omega, rfl, List.eq_nil_of_length_eq_zero (by simpa using h1)⟩
theorem Own0.keep {w w' : World} {e : TypeId} {size : Nat} {ao : Option Addr} {n cap : Nat} {xs : List Value} (h : Own0 w e size ao n cap xs) {S : Nat → Prop} (k : Keeps S w w') (hs : ∀ b, (Value.slice ao n cap).ownBlock = some b → 0 < cap → ¬ S b) : Own0 w' e size ao n cap xs := by
  rcases h with h | ⟨h0, h⟩
  · exact .inl h
  · exact .inr ⟨h0, h.keep k (fun b hb => hs b hb h0)⟩
theorem Own0.lt {w : World} {e : TypeId} {size : Nat} {ao : Option Addr} {n cap : Nat} {xs : List Value} (h : Own0 w e size ao n cap xs) : ∀ k, (Value.slice ao n cap).ownBlock = some k → 0 < cap → k < w.heap.size := by
  intro k hk h0
  rcases h with h | ⟨-, h⟩
  · omega
  · exact (h.lt k hk).2
theorem Own0.row {w : World} {e : TypeId} {size : Nat} {ao : Option Addr} {n cap : Nat} {xs : List Value} (h : Own0 w e size ao n cap xs) (hz : 0 < size) : Row w (.slice ao n cap) size n xs := by
  rcases h with ⟨rfl, rfl, rfl⟩ | ⟨-, h⟩
  · exact ⟨by simp, Nat.zero_le _, ao, 0, rfl, Nat.le_refl _, fun h => absurd h (Nat.lt_irrefl 0)⟩
  · exact h.row hz
theorem Own0.le {w : World} {e : TypeId} {size : Nat} {ao : Option Addr} {n cap : Nat} {xs : List Value} (h : Own0 w e size ao n cap xs) : n ≤ cap := by
  rcases h with ⟨rfl, rfl, rfl⟩ | ⟨-, h⟩
  · exact Nat.le_refl _
  · obtain ⟨-, ao', cap', g2, g3, -⟩ := h
    simp only [Value.slice.injEq] at g2
    obtain ⟨-, -, rfl⟩ := g2
    exact g3
/-- with something in it it lies somewhere -/
theorem Own0.own {w : World} {e : TypeId} {size : Nat} {ao : Option Addr} {n cap : Nat} {xs : List Value} (h : Own0 w e size ao n cap xs) (hn : 0 < cap) : Own w 0 e size (.slice ao n cap) n xs := by
  rcases h with ⟨h, -⟩ | ⟨-, h⟩
  · omega
  · exact h

section
variable {α : Type} [Inhabited α]
/-- a slice of things, the call's own; without room it lies nowhere, wherever it points -/
@[irreducible] def arr (ao : Option Addr) (n cap : Nat) (e : TypeId) (f : α → List Value) [Enc f] (l : List α) : Chunk where
  holds w := Own0 w e (sz f) ao n cap (l.flatMap f) ∧ l.length = n
  foot k := (Value.slice ao n cap).ownBlock = some k ∧ 0 < cap
  excl := true
  stab k hs h := ⟨h.1.keep k (fun b hb h0 => hs b ⟨hb, h0⟩), h.2⟩
  lt h k hk := h.1.lt k hk.1 hk.2
/-- a slice of things that is only read -/
@[irreducible] def rd (ao : Option Addr) (n cap : Nat) (f : α → List Value) [Enc f] (l : List α) : Chunk where
  holds w := Row w (.slice ao n cap) (sz f) n (l.flatMap f) ∧ l.length = n
  foot k := (Value.slice ao n cap).ownBlock = some k ∧ 0 < n
  excl := false
  stab k hs h := ⟨h.1.keep'' Enc.pos k (fun b hb hn => hs b ⟨hb, hn⟩), h.2⟩
  lt h b hb := h.1.lt' Enc.pos hb.2 b hb.1
variable {ao : Option Addr} {n cap k : Nat} {e : TypeId} {f : α → List Value} [Enc f] {l : List α} {w : World}
theorem arr_holds : (arr ao n cap e f l).holds w ↔ Own0 w e (sz f) ao n cap (l.flatMap f) ∧ l.length = n := by unfold arr; exact Iff.rfl
theorem arr_foot : (arr ao n cap e f l).foot k ↔ (Value.slice ao n cap).ownBlock = some k ∧ 0 < cap := by unfold arr; exact Iff.rfl
theorem arr_excl : (arr ao n cap e f l).excl = true := by unfold arr; rfl
theorem rd_holds : (rd ao n cap f l).holds w ↔ Row w (.slice ao n cap) (sz f) n (l.flatMap f) ∧ l.length = n := by unfold rd; exact Iff.rfl
theorem rd_foot : (rd ao n cap f l).foot k ↔ (Value.slice ao n cap).ownBlock = some k ∧ 0 < n := by unfold rd; exact Iff.rfl
theorem rd_excl : (rd ao n cap f l).excl = false := by unfold rd; rfl
end
/-- all that stood in w0, but the blocks in S, stands as it stood -/
@[irreducible] def old (w0 : World) (S : Nat → Prop) : Chunk where
  holds w := Keeps S w0 w
  foot k := k < w0.heap.size ∧ ¬ S k
  excl := false
  stab k hs h := h.trans k (fun i hi hS => Classical.byContradiction fun hn => hs i ⟨hi, hn⟩ hS)
  lt h k hk := Nat.lt_of_lt_of_le hk.1 h.size
theorem blk_holds {w : World} {b : Nat} {cs : List Value} {t : TypeId} : (blk b cs t).holds w ↔ Blk w b cs.toArray t := by unfold blk; exact Iff.rfl
theorem blk_foot {b k : Nat} {cs : List Value} {t : TypeId} : (blk b cs t).foot k ↔ k = b := by unfold blk; exact Iff.rfl
theorem blk_excl {b : Nat} {cs : List Value} {t : TypeId} : (blk b cs t).excl = true := by unfold blk; rfl
theorem old_holds {w w0 : World} {S : Nat → Prop} : (old w0 S).holds w ↔ Keeps S w0 w := by unfold old; exact Iff.rfl
theorem old_foot {w0 : World} {S : Nat → Prop} {k : Nat} : (old w0 S).foot k ↔ k < w0.heap.size ∧ ¬ S k := by unfold old; exact Iff.rfl

/-- the blocks that are one's own -/
def feet (L : List Chunk) : Nat → Prop := fun b => ∃ c ∈ L, c.excl = true ∧ c.foot b
/-- all is remembered as it stands now, but what is one's own -/
theorem Mem.since {w : World} {L : List Chunk} (h : Mem w L) : Mem w (old w (feet L) :: L) := by
  refine ⟨fun c hc => ?_, List.pairwise_cons.2 ⟨fun c hc hx b hb hb' => ?_, h.sep⟩⟩
  · rcases List.mem_cons.1 hc with rfl | hc
    · exact old_holds.2 (Keeps.refl _ _)
    · exact h.all c hc
  · have hb := old_foot.1 hb
    rcases hx with hx | hx
    · simp [old] at hx
    · exact hb.2 ⟨c, hc, hx, hb'⟩
/-- what F lets read -/
inductive Reads (w : World) : List Chunk → List Chunk → Prop
  | nil {F : List Chunk} : Reads w [] F
  | cons {r c : Chunk} {R F F' : List Chunk} : Take c F F' → r.excl = false → (c.holds w → r.holds w ∧ ∀ b, r.foot b → c.foot b) → Reads w R F → Reads w (r :: R) F
theorem Reads.mem {w : World} {R F : List Chunk} (h : Reads w R F) : ∀ r ∈ R, r.excl = false ∧ ∃ c ∈ F, (c.holds w → r.holds w ∧ ∀ b, r.foot b → c.foot b) := by
  induction h with
  | nil => simp
  | cons t hx hc _ ih =>
    intro r hr
    rcases List.mem_cons.1 hr with rfl | hr
    · exact ⟨hx, _, t.perm.mem_iff.2 (by simp), hc⟩
    · exact ih r hr
theorem Mem.reads {w : World} {R pre F : List Chunk} (h : Mem w (pre ++ F)) (hr : Reads w R F) : Mem w (R ++ pre) := by
  have hsep := List.pairwise_append.1 h.sep
  refine ⟨fun c hc => ?_, List.pairwise_append.2 ⟨?_, hsep.1, fun r hr' d hd hx b hb hb' => ?_⟩⟩
  · rcases List.mem_append.1 hc with hc | hc
    · obtain ⟨-, d, hd, hh⟩ := hr.mem c hc
      exact (hh (h.all d (List.mem_append_right _ hd))).1
    · exact h.all c (List.mem_append_left _ hc)
  · exact List.Pairwise.imp_of_mem (R := fun _ _ => True) (fun {x y} hx hy _ hxy => by
      rw [(hr.mem x hx).1, (hr.mem y hy).1] at hxy
      simp at hxy) (by rw [List.pairwise_iff_forall_sublist]; intros; trivial)
  · obtain ⟨hrx, c, hc, hh⟩ := hr.mem r hr'
    have hcw := hh (h.all c (List.mem_append_right _ hc))
    have hdx : d.excl = true := by rcases hx with hx | hx; rw [hrx] at hx; cases hx; exact hx
    exact hsep.2.2 d hd c hc (.inl hdx) b hb' (hcw.2 b hb)
/-- THE FRAME: what a call leaves, and what it never came to -/
theorem Mem.frame {w w' : World} {pre F M : List Chunk} (h : Mem w (pre ++ F)) (h' : Mem w' (old w (feet pre) :: M)) (hx : ∀ c ∈ M, c.excl = true) : Mem w' (M ++ F) := by
  have ho : Keeps (feet pre) w w' := old_holds.1 (h'.all _ (by simp))
  have hp := List.pairwise_cons.1 h'.sep
  refine Mem.step (pre := pre) h ho (fun b hb _ => hb) (fun c hc => h'.all c (by simp [hc])) hp.2 (fun c hc b hb => ?_)
  by_cases hlt : w.heap.size ≤ b
  · exact .inr hlt
  · left
    have := hp.1 c hc (.inr (hx c hc)) b
    by_cases hf : feet pre b
    · obtain ⟨d, hd, hdx, hdb⟩ := hf
      exact ⟨d, hd, fun _ => hdx, hdb⟩
    · exact absurd hb (this (old_foot.2 ⟨by omega, hf⟩))
end Go.Proofs.Ytfeajpghabjaaaa

/- A region that draws its order: what only reads is taken first, if what it reads stays so till the operation e (that waits for it) has come up; then what writes, one by one. Of whatever program. -/
namespace Go.Proofs.Ytfeajpghabjaaaa
open Go
set_option linter.unusedVariables false

section
variable {P : Program} {ops : Array Oper} {Q : Exit → Act → World → Prop} {md : Region.Mode} {e : Nat} {T : World → Prop}

/-- whatever order is picked from here on; till e has come up T holds behind every operation -/
def wpAnyT (P : Program) (md : Region.Mode) (ops : Array Oper) (Q : Exit → Act → World → Prop) (e : Nat) (T : World → Prop) : Nat → Array Bool → Act → World → Prop
  | 0, listed, a, w => Region.ready md ops listed = [] ∧ Q .normal a w
  | fuel + 1, listed, a, w =>
    (Region.ready md ops listed = [] → Q .normal a w) ∧
    ∀ i ∈ Region.ready md ops listed, wpOp P ops Q i (fun a' w' => ((listed.setIfInBounds i true).getD e false = true ∨ T w') ∧ wpAnyT P md ops Q e T fuel (listed.setIfInBounds i true) a' w') a w

theorem wpAny_of_T : ∀ (fuel : Nat) (listed : Array Bool) (a : Act) (w : World), wpAnyT P md ops Q e T fuel listed a w → wpAny P md ops Q fuel listed a w
  | 0, _, _, _, h => h
  | fuel + 1, _, _, _, h => ⟨h.1, fun i hi => wpOp_mono (fun a' w' h' => wpAny_of_T fuel _ a' w' h'.2) (h.2 i hi)⟩

/-- e waits for i -/
def waits (md : Region.Mode) (ops : Array Oper) (e i : Nat) : Bool := match ops[e]? with
  | some o => o.after.any fun x => Region.binds md x && x.on == i
  | none => false

theorem getD_set_false {listed : Array Bool} {i j : Nat} (h : i ≠ j) : (listed.setIfInBounds i true).getD j false = listed.getD j false := by
  simp [Array.getD_eq_getD_getElem?, h]

/-- what yields in whatever world -/
theorem wpAnyT_first0 {i : Nat} {oi : Oper} {v : Value} (hi : ops[i]? = some oi) (hsel : ∀ (j : Nat) (o : Oper) cs b, ops[j]? = some o → o.op ≠ .select cs b)
    (hQ : ∀ c a w, Q (.panic c) (a.put oi.dst v) w → Q (.panic c) a w) :
    ∀ (fuel : Nat) (listed : Array Bool) (a : Act) (w : World),
      (∀ j oj, ops[j]? = some oj → j ≠ i → listed.getD j true = false → (∀ x ∈ oj.after, Region.binds md x = true → x.on ≠ i) → oi.apart ops oj = true) →
      i ∈ Region.ready md ops listed → i ≠ e → YieldsIf P ops (fun _ => True) oi v a → (listed.getD e false = true ∨ T w) →
      wpAnyT P md ops Q e T fuel (listed.setIfInBounds i true) (a.put oi.dst v) w → wpAnyT P md ops Q e T (fuel + 1) listed a w := by
  intro fuel
  induction fuel with
  | zero =>
    intro listed a w _ hr hie hy hT H
    refine ⟨fun h => (by rw [h] at hr; cases hr), fun j hj => ?_⟩
    by_cases hji : j = i
    · subst hji; exact hy.wpOp hi trivial ⟨by rw [getD_set_false hie]; exact hT, H⟩
    · have := ready_mono hj hji
      rw [H.1] at this
      cases this
  | succ fuel ih =>
    intro listed a w hfree hr hie hy hT H
    refine ⟨fun h => (by rw [h] at hr; cases hr), fun j hj => ?_⟩
    by_cases hji : j = i
    · subst hji; exact hy.wpOp hi trivial ⟨by rw [getD_set_false hie]; exact hT, H⟩
    · have h1 := H.2 j (ready_mono hj hji)
      obtain ⟨hjun, oj, hoj, hall⟩ := mem_ready.1 hj
      have hnot : ∀ x ∈ oj.after, Region.binds md x = true → x.on ≠ i := fun x hx hb heq => by
        have h1 := hall x hx hb
        have h0 := (mem_ready.1 hr).1
        rw [heq] at h1
        rcases Nat.lt_or_ge i listed.size with h' | h'
        · simp [h'] at h0 h1; rw [h0] at h1; cases h1
        · simp [Array.getElem?_eq_none h'] at h1
      have h2 := wpOp_putIf hoj (hfree j oj hoj hji hjun hnot) (fun cs b => hsel i oi cs b hi) (fun cs b => hsel j oj cs b hoj) hQ hy h1
      have hfree' : ∀ k ok, ops[k]? = some ok → k ≠ i → (listed.setIfInBounds j true).getD k true = false →
          (∀ x ∈ ok.after, Region.binds md x = true → x.on ≠ i) → oi.apart ops ok = true := fun k ok hk hki hun hno => by
        refine hfree k ok hk hki ?_ hno
        by_cases hjk : j = k
        · subst hjk; exact hjun
        · rw [getD_set_ne true hjk] at hun; exact hun
      refine wpOp_mono (fun a' w' h3 => ?_) h2
      have hT' : (listed.setIfInBounds j true).getD e false = true ∨ T w' := by
        rcases h3.2.1 with h4 | h4
        · rw [Array.setIfInBounds_comm _ _ (Ne.symm hji), getD_set_false hie] at h4; exact .inl h4
        · exact .inr h4
      refine ⟨hT', ih (listed.setIfInBounds j true) a' w' hfree' (ready_mono hr (Ne.symm hji)) hie h3.1 hT' ?_⟩
      rw [Array.setIfInBounds_comm _ _ hji]
      exact h3.2.2

/-- a load, where nobody ever writes what it reads -/
theorem wpAnyT_firstN {i : Nat} {oi : Oper} {v : Value} (hi : ops[i]? = some oi) (hsel : ∀ (j : Nat) (o : Oper) cs b, ops[j]? = some o → o.op ≠ .select cs b)
    (hQ : ∀ c a w, Q (.panic c) (a.put oi.dst v) w → Q (.panic c) a w) (he : ops.size ≤ e) :
    ∀ (fuel : Nat) (listed : Array Bool) (a : Act) (w : World), listed.size = ops.size →
      (∀ j oj, ops[j]? = some oj → j ≠ i → listed.getD j true = false → (∀ x ∈ oj.after, Region.binds md x = true → x.on ≠ i) → oi.apart ops oj = true) →
      i ∈ Region.ready md ops listed → YieldsIf P ops T oi v a → T w →
      wpAnyT P md ops Q e T fuel (listed.setIfInBounds i true) (a.put oi.dst v) w → wpAnyT P md ops Q e T (fuel + 1) listed a w := by
  intro fuel
  have never : ∀ (l : Array Bool), l.size = ops.size → l.getD e false = false := fun l hl => by simp [Array.getD_eq_getD_getElem?, Array.getElem?_eq_none (show l.size ≤ e by omega)]
  induction fuel with
  | zero =>
    intro listed a w hsz _ hr hy hT H
    refine ⟨fun h => (by rw [h] at hr; cases hr), fun j hj => ?_⟩
    by_cases hji : j = i
    · subst hji; exact hy.wpOp hi hT ⟨.inr hT, H⟩
    · have := ready_mono hj hji
      rw [H.1] at this
      cases this
  | succ fuel ih =>
    intro listed a w hsz hfree hr hy hT H
    refine ⟨fun h => (by rw [h] at hr; cases hr), fun j hj => ?_⟩
    by_cases hji : j = i
    · subst hji; exact hy.wpOp hi hT ⟨.inr hT, H⟩
    · have h1 := H.2 j (ready_mono hj hji)
      obtain ⟨hjun, oj, hoj, hall⟩ := mem_ready.1 hj
      have hnot : ∀ x ∈ oj.after, Region.binds md x = true → x.on ≠ i := fun x hx hb heq => by
        have h1 := hall x hx hb
        have h0 := (mem_ready.1 hr).1
        rw [heq] at h1
        rcases Nat.lt_or_ge i listed.size with h' | h'
        · simp [h'] at h0 h1; rw [h0] at h1; cases h1
        · simp [Array.getElem?_eq_none h'] at h1
      have h2 := wpOp_putIf hoj (hfree j oj hoj hji hjun hnot) (fun cs b => hsel i oi cs b hi) (fun cs b => hsel j oj cs b hoj) hQ hy h1
      have hfree' : ∀ k ok, ops[k]? = some ok → k ≠ i → (listed.setIfInBounds j true).getD k true = false →
          (∀ x ∈ ok.after, Region.binds md x = true → x.on ≠ i) → oi.apart ops ok = true := fun k ok hk hki hun hno => by
        refine hfree k ok hk hki ?_ hno
        by_cases hjk : j = k
        · subst hjk; exact hjun
        · rw [getD_set_ne true hjk] at hun; exact hun
      refine wpOp_mono (fun a' w' h3 => ?_) h2
      have hT' : T w' := by
        rcases h3.2.1 with h4 | h4
        · rw [never _ (by simp [hsz])] at h4; cases h4
        · exact h4
      refine ⟨.inr hT', ih (listed.setIfInBounds j true) a' w' (by simp [hsz]) hfree' (ready_mono hr (Ne.symm hji)) h3.1 hT' ?_⟩
      rw [Array.setIfInBounds_comm _ _ hji]
      exact h3.2.2

/-- e waits for i, or for what waits for i .. -/
def waitsT (md : Region.Mode) (ops : Array Oper) (i : Nat) : Nat → Nat → Bool
  | 0, _ => false
  | n + 1, e => match ops[e]? with
    | some o => o.after.any fun x => Region.binds md x && (x.on == i || waitsT md ops i n x.on)
    | none => false
def closedB (md : Region.Mode) (ops : Array Oper) (listed : Array Bool) : Bool := (List.range ops.size).all fun k => !(listed.getD k false) || (match ops[k]? with
  | some o => o.after.all fun x => !Region.binds md x || listed.getD x.on false
  | none => true)
def Closed (md : Region.Mode) (ops : Array Oper) (listed : Array Bool) : Prop := ∀ k o, ops[k]? = some o → listed.getD k false = true → ∀ x ∈ o.after, Region.binds md x = true → listed.getD x.on false = true
theorem closedB_spec {listed : Array Bool} (h : closedB md ops listed = true) : Closed md ops listed := by
  intro k o ho hl x hx hb
  have hk : k < ops.size := (Array.getElem?_eq_some_iff.1 ho).1
  have := (List.all_eq_true.1 h) k (List.mem_range.2 hk)
  rw [hl, ho] at this
  simp only [Bool.not_true, Bool.false_or] at this
  have h2 := (Array.all_eq_true'.1 this) x hx
  rw [hb] at h2
  simpa using h2
theorem Closed.upon {listed : Array Bool} (hc : Closed md ops listed) {i : Nat} : ∀ (n e : Nat) (o : Oper), ops[e]? = some o → (∀ x ∈ o.after, Region.binds md x = true → listed.getD x.on false = true) → waitsT md ops i n e = true → listed.getD i false = true
  | 0, e, o, ho, hall, hw => by cases hw
  | n + 1, e, o, ho, hall, hw => by
    simp only [waitsT, ho, Array.any_eq_true'] at hw
    obtain ⟨x, hx, hb⟩ := hw
    simp only [Bool.and_eq_true, Bool.or_eq_true, beq_iff_eq] at hb
    have h1 := hall x hx hb.1
    rcases hb.2 with h2 | h2
    · rw [← h2]; exact h1
    · cases n with
      | zero => cases h2
      | succ n =>
        have h3 := h2
        simp only [waitsT] at h3
        cases ho' : ops[x.on]? with
        | none => rw [ho'] at h3; cases h3
        | some o' => exact hc.upon (n + 1) x.on o' ho' (hc x.on o' ho' h1) h2
theorem Closed.set {listed : Array Bool} (hc : Closed md ops listed) {j : Nat} (hj : j ∈ Region.ready md ops listed) : Closed md ops (listed.setIfInBounds j true) := by
  intro k o ho hl x hx hb
  have hmono : ∀ y, listed.getD y false = true → (listed.setIfInBounds j true).getD y false = true := by
    intro y hy
    by_cases hyj : j = y
    · subst hyj
      have hlt : j < listed.size := by
        rcases Nat.lt_or_ge j listed.size with h | h
        · exact h
        · simp [Array.getD_eq_getD_getElem?, Array.getElem?_eq_none h] at hy
      simp [Array.getD_eq_getD_getElem?, hlt]
    · rw [getD_set_false hyj]; exact hy
  by_cases hkj : j = k
  · subst hkj
    obtain ⟨-, o', ho', hall⟩ := mem_ready.1 hj
    rw [ho] at ho'; cases ho'
    exact hmono _ (hall x hx hb)
  · rw [getD_set_false hkj] at hl
    exact hmono _ (hc k o ho hl x hx hb)
theorem ready_un {listed : Array Bool} {i : Nat} (h : i ∈ Region.ready md ops listed) : listed.getD i false = false := by
  have h0 := (mem_ready.1 h).1
  rcases Nat.lt_or_ge i listed.size with h' | h'
  · simpa [Array.getD_eq_getD_getElem?, h'] using h0
  · simp [Array.getD_eq_getD_getElem?, Array.getElem?_eq_none h']
/-- what reads, where e waits for it, perhaps through others -/
theorem wpAnyT_firstR {i : Nat} {oi : Oper} {v : Value} (hi : ops[i]? = some oi) (hsel : ∀ (j : Nat) (o : Oper) cs b, ops[j]? = some o → o.op ≠ .select cs b)
    (hQ : ∀ c a w, Q (.panic c) (a.put oi.dst v) w → Q (.panic c) a w) {n : Nat} (hw : waitsT md ops i n e = true) :
    ∀ (fuel : Nat) (listed : Array Bool) (a : Act) (w : World), Closed md ops listed →
      (∀ j oj, ops[j]? = some oj → j ≠ i → listed.getD j true = false → (∀ x ∈ oj.after, Region.binds md x = true → x.on ≠ i) → oi.apart ops oj = true) →
      i ∈ Region.ready md ops listed → YieldsIf P ops T oi v a → T w →
      wpAnyT P md ops Q e T fuel (listed.setIfInBounds i true) (a.put oi.dst v) w → wpAnyT P md ops Q e T (fuel + 1) listed a w := by
  intro fuel
  induction fuel with
  | zero =>
    intro listed a w _ _ hr hy hT H
    refine ⟨fun h => (by rw [h] at hr; cases hr), fun j hj => ?_⟩
    by_cases hji : j = i
    · subst hji; exact hy.wpOp hi hT ⟨.inr hT, H⟩
    · have := ready_mono hj hji
      rw [H.1] at this
      cases this
  | succ fuel ih =>
    intro listed a w hcl hfree hr hy hT H
    have hun := ready_un hr
    have hle : listed.getD e false = false := by
      cases hle : listed.getD e false with
      | false => rfl
      | true =>
        cases n with
        | zero => cases hw
        | succ n =>
          have h3 := hw
          simp only [waitsT] at h3
          cases ho' : ops[e]? with
          | none => rw [ho'] at h3; cases h3
          | some o' =>
            have := hcl.upon (n + 1) e o' ho' (hcl e o' ho' hle) hw
            rw [hun] at this; cases this
    refine ⟨fun h => (by rw [h] at hr; cases hr), fun j hj => ?_⟩
    by_cases hji : j = i
    · subst hji; exact hy.wpOp hi hT ⟨.inr hT, H⟩
    · have h1 := H.2 j (ready_mono hj hji)
      obtain ⟨hjun, oj, hoj, hall⟩ := mem_ready.1 hj
      have hnot : ∀ x ∈ oj.after, Region.binds md x = true → x.on ≠ i := fun x hx hb heq => by
        have h1 := hall x hx hb
        rw [heq, hun] at h1
        cases h1
      have hje : j ≠ e := fun he => by
        subst he
        have := hcl.upon n j oj hoj hall hw
        rw [hun] at this; cases this
      have hie : i ≠ e := fun he => by
        subst he
        obtain ⟨h0, o', ho', hall'⟩ := mem_ready.1 hr
        have := hcl.upon n i o' ho' hall' hw
        rw [hun] at this; cases this
      have h2 := wpOp_putIf hoj (hfree j oj hoj hji hjun hnot) (fun cs b => hsel i oi cs b hi) (fun cs b => hsel j oj cs b hoj) hQ hy h1
      have hfree' : ∀ k ok, ops[k]? = some ok → k ≠ i → (listed.setIfInBounds j true).getD k true = false →
          (∀ x ∈ ok.after, Region.binds md x = true → x.on ≠ i) → oi.apart ops ok = true := fun k ok hk hki hun hno => by
        refine hfree k ok hk hki ?_ hno
        by_cases hjk : j = k
        · subst hjk; exact hjun
        · rw [getD_set_ne true hjk] at hun; exact hun
      refine wpOp_mono (fun a' w' h3 => ?_) h2
      have hT' : T w' := by
        rcases h3.2.1 with h4 | h4
        · rw [getD_set_false hje, getD_set_false hie, hle] at h4; cases h4
        · exact h4
      refine ⟨.inr hT', ih (listed.setIfInBounds j true) a' w' (hcl.set hj) hfree' (ready_mono hr (Ne.symm hji)) h3.1 hT' ?_⟩
      rw [Array.setIfInBounds_comm _ _ hji]
      exact h3.2.2

/-- a copy, an address, arithmetic, taken first -/
theorem take0 {i : Nat} {oi : Oper} {v : Value} {fuel : Nat} {listed : Array Bool} {a : Act} {w : World} (hi : ops[i]? = some oi)
    (hs : Region.noSelect ops = true) (hf : Region.free md ops listed i = true) (hr : (Region.ready md ops listed).contains i = true) (hie : i ≠ e)
    (hQ : ∀ c a w, Q (.panic c) (a.put oi.dst v) w → Q (.panic c) a w) (hy : YieldsIf P ops (fun _ => True) oi v a) (hT : T w)
    (h : wpAnyT P md ops Q e T fuel (listed.setIfInBounds i true) (a.put oi.dst v) w) : wpAnyT P md ops Q e T (fuel + 1) listed a w :=
  wpAnyT_first0 hi (Region.noSelect_spec hs) hQ fuel listed a w (Region.free_spec hi hf) (by simpa using hr) hie hy (.inr hT) h
/-- the one that may come up -/
theorem oneT {i : Nat} {o : Oper} {fuel : Nat} {listed : Array Bool} {a : Act} {w : World} (hr : Region.ready md ops listed = [i]) (ho : ops[i]? = some o)
    (h : ∀ K' : Act → World → Prop, (∀ a' w', ((listed.setIfInBounds i true).getD e false = true ∨ T w') → wpAnyT P md ops Q e T fuel (listed.setIfInBounds i true) a' w' → K' a' w') →
      if Region.wanted o (yielded ops a.tmps) = true then Oper.wp P o a w K' Q else K' (a.put o.dst undef) w) : wpAnyT P md ops Q e T (fuel + 1) listed a w := by
  refine ⟨fun h0 => (by rw [h0] at hr; cases hr), fun j hj => ?_⟩
  rw [hr] at hj
  obtain rfl : j = i := by simpa using hj
  exact wpOp_step ho fun K' hK' => h K' fun a' w' h1 h2 => hK' a' w' ⟨h1, h2⟩
theorem doneT {listed : Array Bool} {a : Act} {w : World} (hr : Region.ready md ops listed = []) (h : Q .normal a w) : ∀ fuel, wpAnyT P md ops Q e T fuel listed a w
  | 0 => ⟨hr, h⟩
  | _ + 1 => ⟨fun _ => h, by rw [hr]; simp⟩
theorem regionT (e : Nat) (T : World → Prop) {id : Nat} {a : Act} {w : World} (hm : P.follows .mixedOrders = true)
    (h : wpAnyT P .any ops Q e T ops.size (Array.replicate ops.size false) a w.drew) : (Code.region id ops true).wp P Q a w :=
  wp_region_any hm (wpAny_of_T _ _ _ _ h)
end
end Go.Proofs.Ytfeajpghabjaaaa
