/- The operations, over states that are said by lists: what yields a value and does no more. Of whatever program whose types a table says. -/
import Derived.Test.YtkhagebjphaboaaRun
import Derived.Deep.MidRow
import Derived.IntWalk
namespace Go.Proofs.Ytkhagebjphaboaa
open Go
set_option linter.unusedVariables false
set_option linter.unusedSimpArgs false
set_option linter.unusedSectionVars false

inductive TyD where
  | bool | int (k : IntKind) | string | pointer (e : TypeId) | slice (e : TypeId) | struct (fs : List (Nat × TypeId)) | map (k v : TypeId) | other
def tyD : TypeDesc → TyD
  | .bool => .bool | .int k => .int k | .string => .string | .pointer e => .pointer e | .slice e => .slice e
  | .struct fs => .struct (fs.toList.map fun f => (f.offset, f.type)) | .map k v => .map k v | _ => .other
structure TyI where
  d : TyD
  size : Nat
  bytes : Nat
  zero : List Value
structure TyOk (P : Program) (t : TypeId) (i : TyI) : Prop where
  und : (P.underlying t).map tyD = some i.d
  inf : (P.info? t).map (fun x => (x.size, x.bytes, x.zero.map (·.cells.toList))) = some (i.size, i.bytes, some i.zero)
/-- a table of some of the program's types -/
class Tabbed (P : Program) where
  tab : List (TypeId × TyI)
  ok : ∀ p ∈ tab, TyOk P p.1 p.2
theorem look_mem {α : Type} : ∀ {l : List (Nat × α)} {d : Nat} {v : α}, look l d = some v → (d, v) ∈ l
  | [], _, _, h => by cases h
  | (k, u) :: r, d, v, h => by
    rw [look_cons] at h
    by_cases hk : k = d
    · subst hk; rw [if_pos rfl] at h; cases h; exact List.mem_cons_self
    · rw [if_neg hk] at h; exact List.mem_cons_of_mem _ (look_mem h)

section
variable {P : Program} [Tabbed P]
abbrev tyOf (P : Program) [Tabbed P] (t : TypeId) : Option TyI := look (Tabbed.tab P) t
theorem tyOk {t : TypeId} {i : TyI} (h : tyOf P t = some i) : TyOk P t i := Tabbed.ok (t, i) (look_mem h)
theorem TyOk.info {t : TypeId} {i : TyI} (h : TyOk P t i) : ∃ x z, P.info? t = some x ∧ x.size = i.size ∧ x.bytes = i.bytes ∧ x.zero = some z ∧ z.cells.toList = i.zero := by
  have := h.inf
  cases hx : P.info? t with
  | none => rw [hx] at this; cases this
  | some x =>
    rw [hx] at this
    simp only [Option.map_some, Option.some.injEq, Prod.mk.injEq] at this
    obtain ⟨h1, h2, h3⟩ := this
    cases hz : x.zero with
    | none => rw [hz] at h3; cases h3
    | some z => rw [hz] at h3; exact ⟨x, z, rfl, h1, h2, hz, by simpa using h3⟩
theorem TyOk.und' {t : TypeId} {i : TyI} (h : TyOk P t i) : ∃ d, P.underlying t = some d ∧ tyD d = i.d := by
  have := h.und
  cases hx : P.underlying t with
  | none => rw [hx] at this; cases this
  | some d => rw [hx] at this; exact ⟨d, rfl, by simpa using this⟩
theorem TyOk.slice {t e : TypeId} {s b : Nat} {z : List Value} (h : TyOk P t ⟨.slice e, s, b, z⟩) : P.underlying t = some (.slice e) := by
  obtain ⟨d, h1, h2⟩ := h.und'
  rw [h1]
  cases d <;> simp [tyD] at h2
  rw [h2]
theorem TyOk.int {t : TypeId} {k : IntKind} {s b : Nat} {z : List Value} (h : TyOk P t ⟨.int k, s, b, z⟩) : P.underlying t = some (.int k) := by
  obtain ⟨d, h1, h2⟩ := h.und'
  rw [h1]
  cases d <;> simp [tyD] at h2
  rw [h2]
theorem TyOk.bool {t : TypeId} {s b : Nat} {z : List Value} (h : TyOk P t ⟨.bool, s, b, z⟩) : P.underlying t = some .bool := by
  obtain ⟨d, h1, h2⟩ := h.und'
  rw [h1]
  cases d <;> simp [tyD] at h2
  rfl
theorem TyOk.string {t : TypeId} {s b : Nat} {z : List Value} (h : TyOk P t ⟨.string, s, b, z⟩) : P.underlying t = some .string := by
  obtain ⟨d, h1, h2⟩ := h.und'
  rw [h1]
  cases d <;> simp [tyD] at h2
  rfl
theorem TyOk.map {t k v : TypeId} {s b : Nat} {z : List Value} (h : TyOk P t ⟨.map k v, s, b, z⟩) : P.underlying t = some (.map k v) := by
  obtain ⟨d, h1, h2⟩ := h.und'
  rw [h1]
  cases d <;> simp [tyD] at h2
  rw [h2.1, h2.2]
theorem TyOk.pointer {t e : TypeId} {s b : Nat} {z : List Value} (h : TyOk P t ⟨.pointer e, s, b, z⟩) : P.underlying t = some (.pointer e) := by
  obtain ⟨d, h1, h2⟩ := h.und'
  rw [h1]
  cases d <;> simp [tyD] at h2
  rw [h2]
theorem TyOk.struct {t : TypeId} {fs : List (Nat × TypeId)} {s b : Nat} {z : List Value} (h : TyOk P t ⟨.struct fs, s, b, z⟩) : ∃ l, P.underlying t = some (.struct l) ∧ l.toList.map (fun f => (f.offset, f.type)) = fs := by
  obtain ⟨d, h1, h2⟩ := h.und'
  rw [h1]
  cases d <;> simp [tyD] at h2
  exact ⟨_, rfl, by simpa using h2⟩
def TyD.row : TyD → Bool
  | .struct _ => true
  | .other => true
  | _ => false
theorem TyOk.size {t : TypeId} {i : TyI} (h : TyOk P t i) (w : World) : (sizeOf t).run P w = .ok i.size w := by
  obtain ⟨x, z, h1, h2, -⟩ := h.info
  simp [sizeOf, typeInfo, h1, h2]
theorem TyOk.isAgg {t : TypeId} {i : TyI} (h : TyOk P t i) (hd : i.d.row = false) (w : World) : (Go.isAgg t).run P w = .ok false w := by
  obtain ⟨d, h1, h2⟩ := h.und'
  unfold Go.isAgg
  rw [Sem.run_bind, run_underlying h1 w]
  cases d <;> simp_all [tyD, TyD.row] <;> (rw [← h2] at hd; simp at hd)
theorem TyOk.isAggS {t : TypeId} {fs : List (Nat × TypeId)} {s b : Nat} {z : List Value} (h : TyOk P t ⟨.struct fs, s, b, z⟩) (w : World) : (Go.isAgg t).run P w = .ok true w := by
  obtain ⟨l, h1, -⟩ := h.struct
  unfold Go.isAgg
  rw [Sem.run_bind, run_underlying h1 w]
  simp

variable {Q : Exit → Act → World → Prop} {N : Nat} {E : Env} {L : List Chunk}
variable {dst : Option Tmp} {ty : TypeId} {pos : String} {aft : Array Edge} {g : Option (Nat × Bool)}

theorem Still.move {x : Operand} {v : Value} (hx : ev E x = some v) : Still P N ⟨dst, .move x, ty, pos, aft, g⟩ E L v := fun a w hs _ => by simp [execOp, hs.ev hx]
theorem Still.assign {x : Operand} {v : Value} (hx : ev E x = some v) : Still P N ⟨dst, .assign x, ty, pos, aft, g⟩ E L v := fun a w hs _ => by simp [execOp, hs.ev hx]
theorem Still.pickT {c x y : Operand} {v : Value} (hc : ev E c = some (.bool true)) (hx : ev E x = some v) : Still P N ⟨dst, .pick c x y, ty, pos, aft, g⟩ E L v := fun a w hs _ => by simp [execOp, hs.ev hc, hs.ev hx, asBool]
theorem Still.pickF {c x y : Operand} {v : Value} (hc : ev E c = some (.bool false)) (hy : ev E y = some v) : Still P N ⟨dst, .pick c x y, ty, pos, aft, g⟩ E L v := fun a w hs _ => by simp [execOp, hs.ev hc, hs.ev hy, asBool]

section
variable {xT yT : TypeId} {x y : Operand} {k : IntKind} {a b z : Int}
theorem Still.add (hx : ev E x = some (.int k a)) (hy : ev E y = some (.int k b)) (hz : k.wrap (a + b) = z) : Still P N ⟨dst, .binOp .add xT x y yT, ty, pos, aft, g⟩ E L (.int k z) := fun A w hs _ => by
  subst hz; simp [execOp, hs.ev hx, hs.ev hy, eqGuard, binOp, Op.intArith]
theorem Still.sub (hx : ev E x = some (.int k a)) (hy : ev E y = some (.int k b)) (hz : k.wrap (a - b) = z) : Still P N ⟨dst, .binOp .sub xT x y yT, ty, pos, aft, g⟩ E L (.int k z) := fun A w hs _ => by
  subst hz; simp [execOp, hs.ev hx, hs.ev hy, eqGuard, binOp, Op.intArith]
theorem Still.mul (hx : ev E x = some (.int k a)) (hy : ev E y = some (.int k b)) (hz : k.wrap (a * b) = z) : Still P N ⟨dst, .binOp .mul xT x y yT, ty, pos, aft, g⟩ E L (.int k z) := fun A w hs _ => by
  subst hz; simp [execOp, hs.ev hx, hs.ev hy, eqGuard, binOp, Op.intArith]
theorem Still.quo (hx : ev E x = some (.int k a)) (hy : ev E y = some (.int k b)) (hb : b ≠ 0) (hz : k.wrap (a.tdiv b) = z) : Still P N ⟨dst, .binOp .quo xT x y yT, ty, pos, aft, g⟩ E L (.int k z) := fun A w hs _ => by
  subst hz; simp [execOp, hs.ev hx, hs.ev hy, eqGuard, binOp, Op.intDiv, hb]
theorem Still.rem (hx : ev E x = some (.int k a)) (hy : ev E y = some (.int k b)) (hb : b ≠ 0) (hz : a.tmod b = z) : Still P N ⟨dst, .binOp .rem xT x y yT, ty, pos, aft, g⟩ E L (.int k z) := fun A w hs _ => by
  subst hz; simp [execOp, hs.ev hx, hs.ev hy, eqGuard, binOp, Op.intDiv, hb]
theorem Still.lss (hx : ev E x = some (.int k a)) (hy : ev E y = some (.int k b)) : Still P N ⟨dst, .binOp .lss xT x y yT, ty, pos, aft, g⟩ E L (.bool (decide (a < b))) := fun A w hs _ => by
  simp [execOp, hs.ev hx, hs.ev hy, eqGuard, binOp, Op.intCmp]
theorem Still.leq (hx : ev E x = some (.int k a)) (hy : ev E y = some (.int k b)) : Still P N ⟨dst, .binOp .leq xT x y yT, ty, pos, aft, g⟩ E L (.bool (decide (a ≤ b))) := fun A w hs _ => by
  simp [execOp, hs.ev hx, hs.ev hy, eqGuard, binOp, Op.intCmp]
theorem Still.gtr (hx : ev E x = some (.int k a)) (hy : ev E y = some (.int k b)) : Still P N ⟨dst, .binOp .gtr xT x y yT, ty, pos, aft, g⟩ E L (.bool (decide (b < a))) := fun A w hs _ => by
  simp [execOp, hs.ev hx, hs.ev hy, eqGuard, binOp, Op.intCmp]
theorem Still.geq (hx : ev E x = some (.int k a)) (hy : ev E y = some (.int k b)) : Still P N ⟨dst, .binOp .geq xT x y yT, ty, pos, aft, g⟩ E L (.bool (decide (b ≤ a))) := fun A w hs _ => by
  simp [execOp, hs.ev hx, hs.ev hy, eqGuard, binOp, Op.intCmp]
theorem Still.eql (hx : ev E x = some (.int k a)) (hy : ev E y = some (.int k b)) : Still P N ⟨dst, .binOp .eql xT x y yT, ty, pos, aft, g⟩ E L (.bool (decide (a = b))) := fun A w hs _ => by
  have e : (a == b) = decide (a = b) := by rw [Bool.eq_iff_iff]; simp
  simp [execOp, hs.ev hx, hs.ev hy, eqGuard, binOp, Op.intCmp, e]
theorem Still.neq (hx : ev E x = some (.int k a)) (hy : ev E y = some (.int k b)) : Still P N ⟨dst, .binOp .neq xT x y yT, ty, pos, aft, g⟩ E L (.bool (!decide (a = b))) := fun A w hs _ => by
  have e : (a != b) = !decide (a = b) := by rw [bne]; congr 1
  simp [execOp, hs.ev hx, hs.ev hy, eqGuard, binOp, Op.intCmp, e]
theorem Still.not {t : Bool} (hx : ev E x = some (.bool t)) : Still P N ⟨dst, .unOp .not xT x, ty, pos, aft, g⟩ E L (.bool (!t)) := fun A w hs _ => by
  simp [execOp, hs.ev hx, Op.unary]
theorem Still.neg (hx : ev E x = some (.int k a)) (hz : k.wrap (0 - a) = z) : Still P N ⟨dst, .unOp .neg xT x, ty, pos, aft, g⟩ E L (.int k z) := fun A w hs _ => by
  subst hz; simp [execOp, hs.ev hx, Op.unary, Op.intArith]
theorem Still.conv {src d : TypeId} {k' : IntKind} {i : TyI} {s' b' : Nat} {z' : List Value} (hx : ev E x = some (.int k a)) (hs : tyOf P src = some i) (hd : tyOf P d = some ⟨.int k', s', b', z'⟩) (hz : k'.wrap a = z) :
    Still P N ⟨dst, .convert src d x, ty, pos, aft, g⟩ E L (.int k' z) := fun A w hS _ => by
  subst hz
  obtain ⟨u, hu, -⟩ := (tyOk hs).und'
  have h2 := (tyOk hd).int
  simp [execOp, hS.ev hx, convert, run_underlying hu, run_underlying h2, Conv.intToInt]
theorem run_equalB (d : Nat) {t : TypeId} (h : P.underlying t = some .bool) (a b : Bool) (w : World) : (Op.equalIn (d + 1) t (.bool a) (.bool b)).run P w = .ok (a == b) w := by
  simp [Op.equalIn, run_underlying h]
theorem Still.eqlB {t u : Bool} {s' b' : Nat} {z' : List Value} (hx : ev E x = some (.bool t)) (hy : ev E y = some (.bool u)) (ht : tyOf P xT = some ⟨.bool, s', b', z'⟩) : Still P N ⟨dst, .binOp .eql xT x y yT, ty, pos, aft, g⟩ E L (.bool (t == u)) := fun A w hs _ => by
  have := run_equalB (P := P) 9999 (tyOk ht).bool t u w
  simp only [execOp, hs.ev hx, hs.ev hy, eqGuard, binOp, Op.equal, Op.maxDepth]
  simp [this]
theorem Still.neqB {t u : Bool} {s' b' : Nat} {z' : List Value} (hx : ev E x = some (.bool t)) (hy : ev E y = some (.bool u)) (ht : tyOf P xT = some ⟨.bool, s', b', z'⟩) : Still P N ⟨dst, .binOp .neq xT x y yT, ty, pos, aft, g⟩ E L (.bool (!(t == u))) := fun A w hs _ => by
  have := run_equalB (P := P) 9999 (tyOk ht).bool t u w
  simp only [execOp, hs.ev hx, hs.ev hy, eqGuard, binOp, Op.equal, Op.maxDepth]
  simp [this]
end

theorem wrap_i64_in {a : Int} (h : -9223372036854775808 ≤ a ∧ a ≤ 9223372036854775807) : IntKind.i64.wrap a = a := by
  have e1 : (2 : Int) ^ 64 = 18446744073709551616 := by decide
  have e2 : (2 : Int) ^ 63 = 9223372036854775808 := by decide
  simp only [IntKind.wrap, IntKind.bits, IntKind.signed, e1, e2, Bool.true_and]
  by_cases hn : 0 ≤ a
  · rw [Int.emod_eq_of_lt hn (by omega), if_neg (by simp; omega)]
  · have : a % 18446744073709551616 = a + 18446744073709551616 := by omega
    rw [this, if_pos (by simp; omega)]; omega
theorem wrap_u64_in {a : Int} (h : 0 ≤ a ∧ a ≤ 18446744073709551615) : IntKind.u64.wrap a = a := by
  have e1 : (2 : Int) ^ 64 = 18446744073709551616 := by decide
  simp only [IntKind.wrap, IntKind.bits, IntKind.signed, e1, Bool.false_and, Bool.false_eq_true, if_false]
  exact Int.emod_eq_of_lt h.1 (by omega)
theorem wrap_u8_in {a : Int} (h : 0 ≤ a ∧ a ≤ 255) : IntKind.u8.wrap a = a := by
  have e1 : (2 : Int) ^ 8 = 256 := by decide
  simp only [IntKind.wrap, IntKind.bits, IntKind.signed, e1, Bool.false_and, Bool.false_eq_true, if_false]
  exact Int.emod_eq_of_lt h.1 (by omega)
theorem wrap_u16_in {a : Int} (h : 0 ≤ a ∧ a ≤ 65535) : IntKind.u16.wrap a = a := by
  have e1 : (2 : Int) ^ 16 = 65536 := by decide
  simp only [IntKind.wrap, IntKind.bits, IntKind.signed, e1, Bool.false_and, Bool.false_eq_true, if_false]
  exact Int.emod_eq_of_lt h.1 (by omega)
theorem tmod_in {a b : Int} (ha : 0 ≤ a) : a.tmod b = a % b := Int.tmod_eq_emod_of_nonneg ha
theorem tdiv_in {a b : Int} (ha : 0 ≤ a) : a.tdiv b = a / b := Int.tdiv_eq_ediv_of_nonneg ha

theorem quo_in {k : IntKind} {a b z : Int} (ha : 0 ≤ a) (h : k.wrap (a / b) = z) : k.wrap (a.tdiv b) = z := by rw [tdiv_in ha]; exact h

theorem Still.nilCheck {x : Operand} {ad : Addr} (hx : ev E x = some (.pointer (some ad))) : Still P N ⟨dst, .nilCheck x, ty, pos, aft, g⟩ E L (.pointer (some ad)) := fun A w hs _ => by
  simp [execOp, hs.ev hx]
theorem Still.extract {x : Operand} {i : Nat} {vs : Array Value} {v : Value} (hx : ev E x = some (.tuple vs)) (hv : vs[i]? = some v) : Still P N ⟨dst, .extract x i, ty, pos, aft, g⟩ E L v := fun A w hs _ => by
  simp [execOp, hs.ev hx, Instr.extract, hv]
theorem Addr.add_lit' (b i j : Nat) : (⟨b, i, none⟩ : Addr).add j = ⟨b, i + j, none⟩ := by unfold Addr.add; split <;> simp_all
theorem run_fieldAt {s ft : TypeId} {fs : List (Nat × TypeId)} {s' b' f off i : Nat} {z' : List Value} {j : TyI} {ad : Addr} (ht : tyOf P s = some ⟨.struct fs, s', b', z'⟩) (hf : fs[f]? = some (off, ft)) (hj : tyOf P ft = some j) (hz : Nat.beq j.size 0 = false) (w : World) :
    (Instr.fieldAt s (.pointer (some ad)) f).run P w = .ok (.pointer (some (ad.add off))) w := by
  obtain ⟨l, h1, h2⟩ := (tyOk ht).struct
  rw [← h2, List.getElem?_map] at hf
  have hsz := (tyOk hj).size
  have hne : j.size ≠ 0 := fun h => by rw [h] at hz; simp at hz
  cases hlf : l[f]? with
  | none => rw [Array.getElem?_toList, hlf] at hf; cases hf
  | some fl =>
    rw [Array.getElem?_toList, hlf] at hf
    simp only [Option.map_some, Option.some.injEq, Prod.mk.injEq] at hf
    obtain ⟨rfl, rfl⟩ := hf
    simp [Instr.fieldAt, run_underlying h1, hlf, Instr.sureAddr, fieldPlace, hsz, hne]
theorem Still.fieldAddr {x : Operand} {s ft : TypeId} {fs : List (Nat × TypeId)} {s' b' f off b i : Nat} {z' : List Value} {j : TyI} (hx : ev E x = some (.pointer (some ⟨b, i, none⟩))) (ht : tyOf P s = some ⟨.struct fs, s', b', z'⟩)
    (hf : fs[f]? = some (off, ft)) (hj : tyOf P ft = some j) (hz : Nat.beq j.size 0 = false) : Still P N ⟨dst, .fieldAddr s x f, ty, pos, aft, g⟩ E L (.pointer (some ⟨b, i + off, none⟩)) := fun A w hs _ => by
  simp [execOp, hs.ev hx, run_fieldAt (i := 0) ht hf hj hz, Addr.add_lit']

/-- the cells 'ds' lie in 'cs' from i on -/
inductive Cut {α : Type} : List α → Nat → Nat → List α → Prop
  | done {cs : List α} : Cut cs 0 0 []
  | take {a : α} {r ds : List α} {n : Nat} : Cut r 0 n ds → Cut (a :: r) 0 (n + 1) (a :: ds)
  | skip {a : α} {r ds : List α} {i n : Nat} : Cut r i n ds → Cut (a :: r) (i + 1) n ds
theorem Cut.get {α : Type} {cs ds : List α} {i n : Nat} (h : Cut cs i n ds) : ds.length = n ∧ ∀ j v, ds[j]? = some v → cs[i + j]? = some v := by
  induction h with
  | done => simp
  | take _ ih =>
    refine ⟨by simp [ih.1], fun j v hj => ?_⟩
    cases j with
    | zero => simpa using hj
    | succ j => have := ih.2 j v (by simpa using hj); simpa [Nat.add_comm 0] using this
  | @skip a r ds i n _ ih => exact ⟨ih.1, fun j v hj => by have := ih.2 j v hj; rwa [show i + 1 + j = (i + j) + 1 by omega, List.getElem?_cons_succ]⟩

theorem Still.load {x : Operand} {t bt : TypeId} {b i : Nat} {cs : List Value} {v : Value} {L' : List Chunk} {ti : TyI} (hx : ev E x = some (.pointer (some ⟨b, i, none⟩))) (ht : tyOf P t = some ti) (hd : ti.d.row = false)
    (hm : Take (blk b cs bt) L L') (hv : cs[i]? = some v) : Still P N ⟨dst, .load t x, ty, pos, aft, g⟩ E L v := fun A w hs hM => by
  have hb := blk_holds.1 (hM.has hm)
  have hc : w.cell? ⟨b, i, none⟩ = some v := by rw [hb.cell]; simpa using hv
  simp [execOp, hs.ev hx, Instr.loadAt, Instr.sureAddr, loadVar, (tyOk ht).isAgg hd, load, hc]
theorem Still.loadS {x : Operand} {t bt : TypeId} {b i s' b' : Nat} {fs : List (Nat × TypeId)} {z' cs ds : List Value} {L' : List Chunk} (hx : ev E x = some (.pointer (some ⟨b, i, none⟩))) (ht : tyOf P t = some ⟨.struct fs, s', b', z'⟩)
    (hm : Take (blk b cs bt) L L') (hv : Cut cs i s' ds) : Still P N ⟨dst, .load t x, ty, pos, aft, g⟩ E L (.agg ds.toArray) := fun A w hs hM => by
  have hb := blk_holds.1 (hM.has hm)
  obtain ⟨hl, hg⟩ := hv.get
  obtain ⟨l, h1, -⟩ := (tyOk ht).struct
  obtain ⟨x', z, h3, h4, -⟩ := (tyOk ht).info
  have := run_loadAt_mid (P := P) w b i t ds _ (fun j v hj => by rw [hb.cell]; simpa using hg j v hj) h1 rfl (by rw [h3]; simp [h4, hl])
  simp [execOp, hs.ev hx, this]
theorem Still.len {x : Operand} {t e : TypeId} {s' b' n c : Nat} {z' : List Value} {ao : Option Addr} (hx : ev E x = some (.slice ao n c)) (ht : tyOf P t = some ⟨.slice e, s', b', z'⟩) :
    Still P N ⟨dst, .call ⟨.builtin .len, #[x], #[t]⟩, ty, pos, aft, g⟩ E L (.int .i64 (n : Int)) := fun A w hs _ => by
  simp [execOp, resolve, invoke, builtin, hs.ev hx, Builtin.len_, run_underlying (tyOk ht).slice, goInt]
theorem Still.func {f : FuncId} {x : Operand} : Still P N ⟨dst, .move (.func f), ty, pos, aft, g⟩ E L (.func (.func f) #[] #[]) := Still.move rfl
end
end Go.Proofs.Ytkhagebjphaboaa
