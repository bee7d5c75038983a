/- How modules lie in memory, and how they are read as arguments. -/
import Derived.Test.YtgnhfinabhimpaaM07
namespace Go.Proofs.Ytgnhfinabhimpaa.Img
open Go.RowKit
set_option linter.unusedVariables false

def i64s (l : List Int) : List Value := l.map (Value.int .i64)
def insC (i : ImgM.Ins) : List Value := [.int .i64 i.op, .int .i64 i.a, .int .i64 i.n]
def codeC (l : List ImgM.Ins) : List Value := l.flatMap insC
def boxC (b : Int × Int) : List Value := [.int .i64 b.1, .int .i64 b.2]
def boxesC (l : List (Int × Int)) : List Value := l.flatMap boxC

theorem flat_get {α : Type} [Inhabited α] (f : α → List Value) (m : Nat) (hf : ∀ a, (f a).length = m) (l : List α) (k j : Nat) (hk : k < l.length) (hj : j < m) : (l.flatMap f)[k * m + j]? = (f (l.getD k default))[j]? := by
  induction l generalizing k with
  | nil => simp at hk
  | cons a r ih =>
    cases k with
    | zero =>
      simp only [List.flatMap_cons, Nat.zero_mul, Nat.zero_add, List.getD_cons_zero]
      rw [List.getElem?_append_left (by rw [hf]; exact hj)]
    | succ k =>
      simp only [List.flatMap_cons, List.getD_cons_succ]
      rw [List.getElem?_append_right (by rw [hf, Nat.add_mul]; omega), hf, show (k + 1) * m + j - m = k * m + j by rw [Nat.add_mul]; omega]
      exact ih k (by simpa using hk)


def UntAt (w : World) (cs : List Value) (u : ImgM.Unt) : Prop :=
  ∃ lv cv, cs = [.int .i64 u.kind, .int .i64 u.params, lv, .int .i64 u.result, .int .i64 u.takes, cv] ∧ Row w lv 1 u.locals.length (i64s u.locals) ∧ Row w cv 3 u.code.length (codeC u.code)

theorem UntAt.keep {w w' : World} {cs : List Value} {u : ImgM.Unt} (h : UntAt w cs u) (k : Keeps Nil w w') : UntAt w' cs u := by
  obtain ⟨lv, cv, rfl, h1, h2⟩ := h
  exact ⟨lv, cv, rfl, h1.keep k (fun _ _ h => h), h2.keep k (fun _ _ h => h)⟩

/-- a module lies in memory: its two slices, the units' cells -/
def ModAt (w : World) (v : Value) (M : ImgM.Mdl) : Prop :=
  ∃ bv uv ucs, v = .agg #[bv, uv] ∧ Row w bv 2 M.boxes.length (boxesC M.boxes) ∧ Row w uv 6 M.units.length ucs ∧ ∀ k, k < M.units.length → UntAt w ((ucs.drop (k * 6)).take 6) (M.units.getD k default)

theorem ModAt.keep {w w' : World} {v : Value} {M : ImgM.Mdl} (h : ModAt w v M) (k : Keeps Nil w w') : ModAt w' v M := by
  obtain ⟨bv, uv, ucs, rfl, h1, h2, h3⟩ := h
  exact ⟨bv, uv, ucs, rfl, h1.keep k (fun _ _ h => h), h2.keep k (fun _ _ h => h), fun i hi => (h3 i hi).keep k⟩

theorem boxes_at {w : World} {b off n cap : Nat} {l : List (Int × Int)} (h : Row w (.slice (some ⟨b, off, none⟩) n cap) 2 n (boxesC l)) (hl : l.length = n) {k : Nat} (hk : k < n) :
    w.cell? ⟨b, off + k * 2, none⟩ = some (.int .i64 (l.getD k (0, 0)).1) ∧ w.cell? ⟨b, off + k * 2 + 1, none⟩ = some (.int .i64 (l.getD k (0, 0)).2) := by
  have hc := h.cellsAt
  have g0 := flat_get boxC 2 (fun _ => rfl) l k 0 (by omega) (by decide)
  have g1 := flat_get boxC 2 (fun _ => rfl) l k 1 (by omega) (by decide)
  have c0 := hc (k * 2 + 0) (by omega)
  have c1 := hc (k * 2 + 1) (by omega)
  rw [← Nat.add_assoc] at c1
  exact ⟨c0.trans g0, c1.trans g1⟩

theorem code_at {w : World} {b off n cap : Nat} {l : List ImgM.Ins} (h : Row w (.slice (some ⟨b, off, none⟩) n cap) 3 n (codeC l)) (hl : l.length = n) {k : Nat} (hk : k < n) :
    w.cell? ⟨b, off + k * 3, none⟩ = some (.int .i64 (l.getD k default).op) ∧ w.cell? ⟨b, off + k * 3 + 1, none⟩ = some (.int .i64 (l.getD k default).a) ∧ w.cell? ⟨b, off + k * 3 + 2, none⟩ = some (.int .i64 (l.getD k default).n) := by
  have hc := h.cellsAt
  have g0 := flat_get insC 3 (fun _ => rfl) l k 0 (by omega) (by decide)
  have g1 := flat_get insC 3 (fun _ => rfl) l k 1 (by omega) (by decide)
  have g2 := flat_get insC 3 (fun _ => rfl) l k 2 (by omega) (by decide)
  have c0 := hc (k * 3 + 0) (by omega)
  have c1 := hc (k * 3 + 1) (by omega)
  have c2 := hc (k * 3 + 2) (by omega)
  rw [← Nat.add_assoc] at c1 c2
  exact ⟨c0.trans g0, c1.trans g1, c2.trans g2⟩

theorem unts_at {w w' : World} {b off n cap : Nat} {ucs : List Value} (h : Row w (.slice (some ⟨b, off, none⟩) n cap) 6 n ucs) {k : Nat} (hk : k < n) {u : ImgM.Unt} (hu : UntAt w' ((ucs.drop (k * 6)).take 6) u) :
    ∃ lv cv, (w.cell? ⟨b, off + k * 6, none⟩ = some (.int .i64 u.kind) ∧ w.cell? ⟨b, off + k * 6 + 1, none⟩ = some (.int .i64 u.params) ∧ w.cell? ⟨b, off + k * 6 + 2, none⟩ = some lv ∧
      w.cell? ⟨b, off + k * 6 + 3, none⟩ = some (.int .i64 u.result) ∧ w.cell? ⟨b, off + k * 6 + 4, none⟩ = some (.int .i64 u.takes) ∧ w.cell? ⟨b, off + k * 6 + 5, none⟩ = some cv) ∧
      Row w' lv 1 u.locals.length (i64s u.locals) ∧ Row w' cv 3 u.code.length (codeC u.code) := by
  obtain ⟨lv, cv, he, h1, h2⟩ := hu
  have hc := h.cellsAt
  have hl := h.1
  have key : ∀ j, j < 6 → w.cell? ⟨b, off + k * 6 + j, none⟩ = ((ucs.drop (k * 6)).take 6)[j]? := by
    intro j hj
    rw [Nat.add_assoc, hc (k * 6 + j) (by omega), List.getElem?_take, if_pos hj, List.getElem?_drop]
  rw [he] at key
  exact ⟨lv, cv, ⟨key 0 (by omega), key 1 (by omega), key 2 (by omega), key 3 (by omega), key 4 (by omega), key 5 (by omega)⟩, h1, h2⟩

/-- every number is one of 64 bits -/
structure Wf (M : ImgM.Mdl) : Prop where
  nums : ∀ n ∈ ImgM.mdlN M, ImgM.In64 n

end Go.Proofs.Ytgnhfinabhimpaa.Img

/- A module that is only read, as one chunk. -/
namespace Go.Proofs.Ytgnhfinabhimpaa
open Go.RowKit Go.Proofs.Ytgnhfinabhimpaa.Img
set_option linter.unusedVariables false
set_option linter.unusedSimpArgs false

instance : Enc boxC := ⟨fun _ => rfl, by decide, fun a u hu => by simp [boxC] at hu; rcases hu with rfl | rfl <;> rfl⟩
instance : Enc insC := ⟨fun _ => rfl, by decide, fun a u hu => by simp [insC] at hu; rcases hu with rfl | rfl | rfl <;> rfl⟩
/-- a unit, and where its two slices lie -/
structure UC where
  u : ImgM.Unt
  lo : Option Addr
  lc : Nat
  co : Option Addr
  cc : Nat
instance : Inhabited UC := ⟨⟨default, none, 0, none, 0⟩⟩
def ucell (x : UC) : List Value := [.int .i64 x.u.kind, .int .i64 x.u.params, .slice x.lo x.u.locals.length x.lc, .int .i64 x.u.result, .int .i64 x.u.takes, .slice x.co x.u.code.length x.cc]
instance : Enc ucell := ⟨fun _ => rfl, by decide, fun a u hu => by simp [ucell] at hu; rcases hu with rfl | rfl | rfl | rfl | rfl | rfl <;> rfl⟩
/-- a module, and where its slices lie -/
structure ML where
  bx : List (Int × Int)
  bo : Option Addr
  bc : Nat
  us : List UC
  uo : Option Addr
  uc : Nat
instance : Inhabited ML := ⟨⟨[], none, 0, [], none, 0⟩⟩
abbrev ML.mdl (m : ML) : ImgM.Mdl := ⟨m.bx, m.us.map (·.u)⟩
abbrev ML.val (m : ML) : Value := .agg #[.slice m.bo m.bx.length m.bc, .slice m.uo m.us.length m.uc]
abbrev ML.uat (m : ML) (k : Nat) : UC := m.us.getD k default
theorem getD_u (l : List UC) (k : Nat) : (l.map (·.u)).getD k default = (l.getD k default).u := by
  simp only [List.getD_eq_getElem?_getD, List.getElem?_map]
  cases l[k]? <;> rfl
theorem ML.unit_at (m : ML) (k : Nat) : m.mdl.units.getD k default = (m.us.getD k default).u := getD_u m.us k
structure MdAt (w : World) (m : ML) : Prop where
  boxes : Row w (.slice m.bo m.bx.length m.bc) (sz boxC) m.bx.length (m.bx.flatMap boxC)
  units : Row w (.slice m.uo m.us.length m.uc) (sz ucell) m.us.length (m.us.flatMap ucell)
  locals : ∀ x ∈ m.us, Row w (.slice x.lo x.u.locals.length x.lc) (sz i64c) x.u.locals.length (x.u.locals.flatMap i64c)
  code : ∀ x ∈ m.us, Row w (.slice x.co x.u.code.length x.cc) (sz insC) x.u.code.length (x.u.code.flatMap insC)
def MdFoot (m : ML) (k : Nat) : Prop :=
  ((Value.slice m.bo m.bx.length m.bc).ownBlock = some k ∧ 0 < m.bx.length) ∨ ((Value.slice m.uo m.us.length m.uc).ownBlock = some k ∧ 0 < m.us.length) ∨
  ∃ x ∈ m.us, ((Value.slice x.lo x.u.locals.length x.lc).ownBlock = some k ∧ 0 < x.u.locals.length) ∨ ((Value.slice x.co x.u.code.length x.cc).ownBlock = some k ∧ 0 < x.u.code.length)
theorem MdAt.keep {w w' : World} {m : ML} (h : MdAt w m) {S : Nat → Prop} (k : Keeps S w w') (hs : ∀ b, MdFoot m b → ¬ S b) : MdAt w' m :=
  ⟨h.boxes.keep'' Enc.pos k (fun b h1 h2 => hs b (.inl ⟨h1, h2⟩)), h.units.keep'' Enc.pos k (fun b h1 h2 => hs b (.inr (.inl ⟨h1, h2⟩))),
    fun x hx => (h.locals x hx).keep'' Enc.pos k (fun b h1 h2 => hs b (.inr (.inr ⟨x, hx, .inl ⟨h1, h2⟩⟩))), fun x hx => (h.code x hx).keep'' Enc.pos k (fun b h1 h2 => hs b (.inr (.inr ⟨x, hx, .inr ⟨h1, h2⟩⟩)))⟩
theorem MdAt.lt {w : World} {m : ML} (h : MdAt w m) : ∀ b, MdFoot m b → b < w.heap.size := by
  rintro b (⟨h1, h2⟩ | ⟨h1, h2⟩ | ⟨x, hx, ⟨h1, h2⟩ | ⟨h1, h2⟩⟩)
  · exact h.boxes.lt' Enc.pos h2 b h1
  · exact h.units.lt' Enc.pos h2 b h1
  · exact (h.locals x hx).lt' Enc.pos h2 b h1
  · exact (h.code x hx).lt' Enc.pos h2 b h1
/-- a module that is only read -/
@[irreducible] def md (m : ML) : Chunk where
  holds w := MdAt w m
  foot := MdFoot m
  excl := false
  stab k hs h := h.keep k hs
  lt h := h.lt
theorem md_holds {w : World} {m : ML} : (md m).holds w ↔ MdAt w m := by unfold md; exact Iff.rfl
theorem md_foot {m : ML} {k : Nat} : (md m).foot k ↔ MdFoot m k := by unfold md; exact Iff.rfl
theorem md_excl {m : ML} : (md m).excl = false := by unfold md; rfl
/-- no slice is longer than slices may be -/
structure ML.Small (m : ML) : Prop where
  bx : m.bx.length ≤ 9223372036854775807
  us : m.us.length ≤ 9223372036854775807
  lo : ∀ k, k < m.us.length → (m.us.getD k default).u.locals.length ≤ 9223372036854775807
  co : ∀ k, k < m.us.length → (m.us.getD k default).u.code.length ≤ 9223372036854775807
theorem ML.uat_mem {m : ML} {k : Nat} (hk : k < m.us.length) : m.us.getD k default ∈ m.us := by
  simp only [ML.uat, List.getD_eq_getElem?_getD, List.getElem?_eq_getElem hk, Option.getD_some]
  exact List.getElem_mem hk
theorem MdAt.small {w : World} {m : ML} (h : MdAt w m) : m.Small :=
  ⟨h.boxes.2.1, h.units.2.1, fun k hk => (h.locals _ (ML.uat_mem hk)).2.1, fun k hk => (h.code _ (ML.uat_mem hk)).2.1⟩
/-- every number of a module is one of 64 bits -/
structure UWf (u : ImgM.Unt) : Prop where
  kind : ImgM.In64 u.kind
  params : ImgM.In64 u.params
  locals : ∀ t ∈ u.locals, ImgM.In64 t
  result : ImgM.In64 u.result
  takes : ImgM.In64 u.takes
  code : ∀ i ∈ u.code, ImgM.In64 i.op ∧ ImgM.In64 i.a ∧ ImgM.In64 i.n
structure ML.Wf (m : ML) : Prop where
  bx : ∀ b ∈ m.bx, ImgM.In64 b.1 ∧ ImgM.In64 b.2
  us : ∀ x ∈ m.us, UWf x.u
theorem drop_cons {α : Type} [Inhabited α] {l : List α} {k : Nat} (h : k < l.length) : l.drop k = l.getD k default :: l.drop (k + 1) := by
  rw [← List.getElem_cons_drop (h := h)]
  simp [List.getD_eq_getElem?_getD, h]
theorem take_snoc {α : Type} [Inhabited α] {l : List α} {k : Nat} (h : k < l.length) : l.take (k + 1) = l.take k ++ [l.getD k default] := by
  rw [List.take_succ_eq_append_getElem h]
  simp [List.getD_eq_getElem?_getD, h]
theorem getD_mem {α : Type} [Inhabited α] {l : List α} {k : Nat} (h : k < l.length) : l.getD k default ∈ l := by
  rw [List.getD_eq_getElem?_getD, List.getElem?_eq_getElem h]
  exact List.getElem_mem h
section
variable {m : ML} {L L' F F' R : List Chunk} {w : World}
theorem Reads.md (t : Take (md m) F F') (h : Reads w R F) : Reads w (Proofs.Ytgnhfinabhimpaa.md m :: R) F := .cons t md_excl (fun h => ⟨h, fun _ hb => hb⟩) h
theorem Rdb.md_boxes (t : Take (md m) L L') : Rdb L m.bo m.bx.length m.bc boxC m.bx := fun w hm => ⟨(md_holds.1 (hm.has t)).boxes, rfl⟩
theorem Rdb.md_units (t : Take (md m) L L') : Rdb L m.uo m.us.length m.uc ucell m.us := fun w hm => ⟨(md_holds.1 (hm.has t)).units, rfl⟩
theorem Rdb.md_locals {k : Nat} (t : Take (md m) L L') (hk : k < m.us.length) : Rdb L (m.us.getD k default).lo (m.us.getD k default).u.locals.length (m.us.getD k default).lc i64c (m.us.getD k default).u.locals := fun w hm => ⟨(md_holds.1 (hm.has t)).locals _ (ML.uat_mem hk), rfl⟩
theorem Rdb.md_code {k : Nat} (t : Take (md m) L L') (hk : k < m.us.length) : Rdb L (m.us.getD k default).co (m.us.getD k default).u.code.length (m.us.getD k default).cc insC (m.us.getD k default).u.code := fun w hm => ⟨(md_holds.1 (hm.has t)).code _ (ML.uat_mem hk), rfl⟩
theorem Rdb.place {α : Type} {iα : Inhabited α} {ao : Option Addr} {n cap : Nat} {f : α → List Value} {ef : Enc f} {l : List α} (h : Rdb L ao n cap f l) (hm : Mem w L) {k : Nat} (hk : k < n) (off : Nat) : (place (sz f) ao k off).isSome = true := by
  obtain ⟨b, o, rfl, -⟩ := h.cell hm hk
  rw [place_some]; rfl
/-- a row of a module, read by a callee -/
theorem Reads.mdCode {k : Nat} (t : Take (Proofs.Ytgnhfinabhimpaa.md m) F F') (hk : k < m.us.length) (h : Reads w R F) : Reads w (Proofs.Ytgnhfinabhimpaa.rd (m.us.getD k default).co (m.us.getD k default).u.code.length (m.us.getD k default).cc insC (m.us.getD k default).u.code :: R) F :=
  .cons t rd_excl (fun h => ⟨rd_holds.2 ⟨(md_holds.1 h).code _ (ML.uat_mem hk), rfl⟩, fun b hb => md_foot.2 (.inr (.inr ⟨_, ML.uat_mem hk, .inr (rd_foot.1 hb)⟩))⟩) h
theorem Reads.mdLocals {k : Nat} (t : Take (Proofs.Ytgnhfinabhimpaa.md m) F F') (hk : k < m.us.length) (h : Reads w R F) : Reads w (Proofs.Ytgnhfinabhimpaa.rd (m.us.getD k default).lo (m.us.getD k default).u.locals.length (m.us.getD k default).lc i64c (m.us.getD k default).u.locals :: R) F :=
  .cons t rd_excl (fun h => ⟨rd_holds.2 ⟨(md_holds.1 h).locals _ (ML.uat_mem hk), rfl⟩, fun b hb => md_foot.2 (.inr (.inr ⟨_, ML.uat_mem hk, .inl (rd_foot.1 hb)⟩))⟩) h
end
section
variable {P : Program} [Tabbed P] {Q : Exit → Act → World → Prop} {N : Nat} {E : Env} {L L' : List Chunk}
variable {dst : Option Tmp} {ty : TypeId} {pos : String} {aft : Array Edge} {g : Option (Nat × Bool)}
/-- the first locals of a unit of a module that is only read -/
theorem OpT.cutMdL {m : ML} {k n cap : Nat} {ao : Option Addr} {t e : TypeId} {s' b' s2 b2 hi : Nat} {d2 : TyD} {z' z2 : List Value} {x : Operand} {oh : Option Operand} {C : Env → List Chunk → Prop} (hx : ev E x = some (.slice ao n cap)) (ha : ao = (m.us.getD k default).lo) (hn : n = (m.us.getD k default).u.locals.length) (hc : cap = (m.us.getD k default).lc)
    (ht : tyOf P t = some ⟨.slice e, s', b', z'⟩) (he : tyOf P e = some ⟨d2, s2, b2, z2⟩)
    (hm : Take (md m) L L') (hk : k < m.us.length) (hs2 : s2 = sz i64c) (hb : Bnd E n none oh 0 hi) (h2 : hi ≤ n) (hd : fitsB N dst = true)
    (kk : ∀ ao' cap', C (upd dst (.slice ao' hi cap') E) (rd ao' hi cap' i64c ((m.us.getD k default).u.locals.take hi) :: L)) : OpT P Q N ⟨dst, .slice t x none oh none, ty, pos, aft, g⟩ E L C := fun K hK A w hS hM => by
  subst ha hn hc
  have hrow := (md_holds.1 (hM.has hm)).locals _ (ML.uat_mem hk)
  have hcap : (m.us.getD k default).u.locals.length ≤ (m.us.getD k default).lc := by
    obtain ⟨-, -, ao', cap', g2, g3, -⟩ := hrow
    simp only [Value.slice.injEq] at g2
    obtain ⟨-, -, rfl⟩ := g2
    exact g3
  unfold Oper.wp
  rw [run_cut hS hx ht he hb (Nat.zero_le _) (by omega) w]
  subst hs2
  have hr := Row.sub hrow rfl (Nat.zero_le hi) h2
  have hkk := kk (if (m.us.getD k default).lc = 0 then (m.us.getD k default).lo else (m.us.getD k default).lo.map (·.add (0 * sz i64c))) ((m.us.getD k default).lc - 0)
  refine hK _ _ hkk _ _ ?_ (hM.dup hm rd_excl (rd_holds.2 ⟨by simpa using hr, List.length_take_of_le h2⟩) (fun c hc => md_foot.2 (.inr (.inr ⟨_, ML.uat_mem hk, .inl ⟨own_cut (rd_foot.1 hc).1 _, by have := (rd_foot.1 hc).2; omega⟩⟩))) md_excl)
  exact hS.put (.slice (if (m.us.getD k default).lc = 0 then (m.us.getD k default).lo else (m.us.getD k default).lo.map (·.add (0 * sz i64c))) hi ((m.us.getD k default).lc - 0)) hd
end
end Go.Proofs.Ytgnhfinabhimpaa
