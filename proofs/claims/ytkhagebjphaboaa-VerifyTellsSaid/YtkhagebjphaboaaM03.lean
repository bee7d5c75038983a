/- The operations, over states that are said by lists: what yields a value and does no more. Of whatever program whose types a table says. -/
import Derived.Test.YtkhagebjphaboaaM02
import Derived.Deep.MidRow
import Derived.IntWalk
namespace Go.Proofs.Ytkhagebjphaboaa
open Go
set_option linter.unusedVariables false
set_option linter.unusedSimpArgs false
set_option linter.unusedSectionVars false

inductive TyD where
  | bool | int (k : IntKind) | string | pointer (e : TypeId) | slice (e : TypeId) | struct (fs : List (Nat × TypeId)) | map (k v : TypeId) | other
def tyD : TypeDesc → TyD
  | .bool => .bool | .int k => .int k | .string => .string | .pointer e => .pointer e | .slice e => .slice e
  | .struct fs => .struct (fs.toList.map fun f => (f.offset, f.type)) | .map k v => .map k v | _ => .other
structure TyI where
  d : TyD
  size : Nat
  bytes : Nat
  zero : List Value
structure TyOk (P : Program) (t : TypeId) (i : TyI) : Prop where
  und : (P.underlying t).map tyD = some i.d
  inf : (P.info? t).map (fun x => (x.size, x.bytes, x.zero.map (·.cells.toList))) = some (i.size, i.bytes, some i.zero)
/-- a table of some of the program's types -/
class Tabbed (P : Program) where
  tab : List (TypeId × TyI)
  ok : ∀ p ∈ tab, TyOk P p.1 p.2
theorem look_mem {α : Type} : ∀ {l : List (Nat × α)} {d : Nat} {v : α}, look l d = some v → (d, v) ∈ l
  | [], _, _, h => by cases h
  | (k, u) :: r, d, v, h => by
    rw [look_cons] at h
    by_cases hk : k = d
    · subst hk; rw [if_pos rfl] at h; cases h; exact List.mem_cons_self
    · rw [if_neg hk] at h; exact List.mem_cons_of_mem _ (look_mem h)

section
variable {P : Program} [Tabbed P]
abbrev tyOf (P : Program) [Tabbed P] (t : TypeId) : Option TyI := look (Tabbed.tab P) t
theorem tyOk {t : TypeId} {i : TyI} (h : tyOf P t = some i) : TyOk P t i := Tabbed.ok (t, i) (look_mem h)
theorem TyOk.info {t : TypeId} {i : TyI} (h : TyOk P t i) : ∃ x z, P.info? t = some x ∧ x.size = i.size ∧ x.bytes = i.bytes ∧ x.zero = some z ∧ z.cells.toList = i.zero := by
  have := h.inf
  cases hx : P.info? t with
  | none => rw [hx] at this; cases this
  | some x =>
    rw [hx] at this
    simp only [Option.map_some, Option.some.injEq, Prod.mk.injEq] at this
    obtain ⟨h1, h2, h3⟩ := this
    cases hz : x.zero with
    | none => rw [hz] at h3; cases h3
    | some z => rw [hz] at h3; exact ⟨x, z, rfl, h1, h2, hz, by simpa using h3⟩
theorem TyOk.und' {t : TypeId} {i : TyI} (h : TyOk P t i) : ∃ d, P.underlying t = some d ∧ tyD d = i.d := by
  have := h.und
  cases hx : P.underlying t with
  | none => rw [hx] at this; cases this
  | some d => rw [hx] at this; exact ⟨d, rfl, by simpa using this⟩
theorem TyOk.slice {t e : TypeId} {s b : Nat} {z : List Value} (h : TyOk P t ⟨.slice e, s, b, z⟩) : P.underlying t = some (.slice e) := by
  obtain ⟨d, h1, h2⟩ := h.und'
  rw [h1]
  cases d <;> simp [tyD] at h2
  rw [h2]
theorem TyOk.int {t : TypeId} {k : IntKind} {s b : Nat} {z : List Value} (h : TyOk P t ⟨.int k, s, b, z⟩) : P.underlying t = some (.int k) := by
  obtain ⟨d, h1, h2⟩ := h.und'
  rw [h1]
  cases d <;> simp [tyD] at h2
  rw [h2]
theorem TyOk.bool {t : TypeId} {s b : Nat} {z : List Value} (h : TyOk P t ⟨.bool, s, b, z⟩) : P.underlying t = some .bool := by
  obtain ⟨d, h1, h2⟩ := h.und'
  rw [h1]
  cases d <;> simp [tyD] at h2
  rfl
theorem TyOk.string {t : TypeId} {s b : Nat} {z : List Value} (h : TyOk P t ⟨.string, s, b, z⟩) : P.underlying t = some .string := by
  obtain ⟨d, h1, h2⟩ := h.und'
  rw [h1]
  cases d <;> simp [tyD] at h2
  rfl
theorem TyOk.map {t k v : TypeId} {s b : Nat} {z : List Value} (h : TyOk P t ⟨.map k v, s, b, z⟩) : P.underlying t = some (.map k v) := by
  obtain ⟨d, h1, h2⟩ := h.und'
  rw [h1]
  cases d <;> simp [tyD] at h2
  rw [h2.1, h2.2]
theorem TyOk.pointer {t e : TypeId} {s b : Nat} {z : List Value} (h : TyOk P t ⟨.pointer e, s, b, z⟩) : P.underlying t = some (.pointer e) := by
  obtain ⟨d, h1, h2⟩ := h.und'
  rw [h1]
  cases d <;> simp [tyD] at h2
  rw [h2]
theorem TyOk.struct {t : TypeId} {fs : List (Nat × TypeId)} {s b : Nat} {z : List Value} (h : TyOk P t ⟨.struct fs, s, b, z⟩) : ∃ l, P.underlying t = some (.struct l) ∧ l.toList.map (fun f => (f.offset, f.type)) = fs := by
  obtain ⟨d, h1, h2⟩ := h.und'
  rw [h1]
  cases d <;> simp [tyD] at h2
  exact ⟨_, rfl, by simpa using h2⟩
def TyD.row : TyD → Bool
  | .struct _ => true
  | .other => true
  | _ => false
theorem TyOk.size {t : TypeId} {i : TyI} (h : TyOk P t i) (w : World) : (sizeOf t).run P w = .ok i.size w := by
  obtain ⟨x, z, h1, h2, -⟩ := h.info
  simp [sizeOf, typeInfo, h1, h2]
theorem TyOk.isAgg {t : TypeId} {i : TyI} (h : TyOk P t i) (hd : i.d.row = false) (w : World) : (Go.isAgg t).run P w = .ok false w := by
  obtain ⟨d, h1, h2⟩ := h.und'
  unfold Go.isAgg
  rw [Sem.run_bind, run_underlying h1 w]
  cases d <;> simp_all [tyD, TyD.row] <;> (rw [← h2] at hd; simp at hd)
variable {Q : Exit → Act → World → Prop} {N : Nat} {E : Env} {L : List Chunk}
variable {dst : Option Tmp} {ty : TypeId} {pos : String} {aft : Array Edge} {g : Option (Nat × Bool)}

theorem Still.move {x : Operand} {v : Value} (hx : ev E x = some v) : Still P N ⟨dst, .move x, ty, pos, aft, g⟩ E L v := fun a w hs _ => by simp [execOp, hs.ev hx]
theorem Still.assign {x : Operand} {v : Value} (hx : ev E x = some v) : Still P N ⟨dst, .assign x, ty, pos, aft, g⟩ E L v := fun a w hs _ => by simp [execOp, hs.ev hx]
theorem Still.pickT {c x y : Operand} {v : Value} (hc : ev E c = some (.bool true)) (hx : ev E x = some v) : Still P N ⟨dst, .pick c x y, ty, pos, aft, g⟩ E L v := fun a w hs _ => by simp [execOp, hs.ev hc, hs.ev hx, asBool]
theorem Still.pickF {c x y : Operand} {v : Value} (hc : ev E c = some (.bool false)) (hy : ev E y = some v) : Still P N ⟨dst, .pick c x y, ty, pos, aft, g⟩ E L v := fun a w hs _ => by simp [execOp, hs.ev hc, hs.ev hy, asBool]

section
variable {xT yT : TypeId} {x y : Operand} {k : IntKind} {a b z : Int}
theorem Still.add (hx : ev E x = some (.int k a)) (hy : ev E y = some (.int k b)) (hz : k.wrap (a + b) = z) : Still P N ⟨dst, .binOp .add xT x y yT, ty, pos, aft, g⟩ E L (.int k z) := fun A w hs _ => by
  subst hz; simp [execOp, hs.ev hx, hs.ev hy, eqGuard, binOp, Op.intArith]
theorem Still.sub (hx : ev E x = some (.int k a)) (hy : ev E y = some (.int k b)) (hz : k.wrap (a - b) = z) : Still P N ⟨dst, .binOp .sub xT x y yT, ty, pos, aft, g⟩ E L (.int k z) := fun A w hs _ => by
  subst hz; simp [execOp, hs.ev hx, hs.ev hy, eqGuard, binOp, Op.intArith]
theorem Still.mul (hx : ev E x = some (.int k a)) (hy : ev E y = some (.int k b)) (hz : k.wrap (a * b) = z) : Still P N ⟨dst, .binOp .mul xT x y yT, ty, pos, aft, g⟩ E L (.int k z) := fun A w hs _ => by
  subst hz; simp [execOp, hs.ev hx, hs.ev hy, eqGuard, binOp, Op.intArith]
theorem Still.band (hx : ev E x = some (.int k a)) (hy : ev E y = some (.int k b)) : Still P N ⟨dst, .binOp .and xT x y yT, ty, pos, aft, g⟩ E L (.int k (bits .and k a b)) := fun A w hs _ => by
  simp [execOp, hs.ev hx, hs.ev hy, eqGuard, binOp_and, intBits_and]
theorem Still.bor (hx : ev E x = some (.int k a)) (hy : ev E y = some (.int k b)) : Still P N ⟨dst, .binOp .or xT x y yT, ty, pos, aft, g⟩ E L (.int k (bits .or k a b)) := fun A w hs _ => by
  simp [execOp, hs.ev hx, hs.ev hy, eqGuard, binOp_or, intBits_or]
theorem Still.quo (hx : ev E x = some (.int k a)) (hy : ev E y = some (.int k b)) (hb : b ≠ 0) (hz : k.wrap (a.tdiv b) = z) : Still P N ⟨dst, .binOp .quo xT x y yT, ty, pos, aft, g⟩ E L (.int k z) := fun A w hs _ => by
  subst hz; simp [execOp, hs.ev hx, hs.ev hy, eqGuard, binOp, Op.intDiv, hb]
theorem Still.rem (hx : ev E x = some (.int k a)) (hy : ev E y = some (.int k b)) (hb : b ≠ 0) (hz : a.tmod b = z) : Still P N ⟨dst, .binOp .rem xT x y yT, ty, pos, aft, g⟩ E L (.int k z) := fun A w hs _ => by
  subst hz; simp [execOp, hs.ev hx, hs.ev hy, eqGuard, binOp, Op.intDiv, hb]
theorem Still.lss (hx : ev E x = some (.int k a)) (hy : ev E y = some (.int k b)) : Still P N ⟨dst, .binOp .lss xT x y yT, ty, pos, aft, g⟩ E L (.bool (decide (a < b))) := fun A w hs _ => by
  simp [execOp, hs.ev hx, hs.ev hy, eqGuard, binOp, Op.intCmp]
theorem Still.leq (hx : ev E x = some (.int k a)) (hy : ev E y = some (.int k b)) : Still P N ⟨dst, .binOp .leq xT x y yT, ty, pos, aft, g⟩ E L (.bool (decide (a ≤ b))) := fun A w hs _ => by
  simp [execOp, hs.ev hx, hs.ev hy, eqGuard, binOp, Op.intCmp]
theorem Still.gtr (hx : ev E x = some (.int k a)) (hy : ev E y = some (.int k b)) : Still P N ⟨dst, .binOp .gtr xT x y yT, ty, pos, aft, g⟩ E L (.bool (decide (b < a))) := fun A w hs _ => by
  simp [execOp, hs.ev hx, hs.ev hy, eqGuard, binOp, Op.intCmp]
theorem Still.geq (hx : ev E x = some (.int k a)) (hy : ev E y = some (.int k b)) : Still P N ⟨dst, .binOp .geq xT x y yT, ty, pos, aft, g⟩ E L (.bool (decide (b ≤ a))) := fun A w hs _ => by
  simp [execOp, hs.ev hx, hs.ev hy, eqGuard, binOp, Op.intCmp]
theorem Still.eql (hx : ev E x = some (.int k a)) (hy : ev E y = some (.int k b)) : Still P N ⟨dst, .binOp .eql xT x y yT, ty, pos, aft, g⟩ E L (.bool (decide (a = b))) := fun A w hs _ => by
  have e : (a == b) = decide (a = b) := by rw [Bool.eq_iff_iff]; simp
  simp [execOp, hs.ev hx, hs.ev hy, eqGuard, binOp, Op.intCmp, e]
theorem Still.neq (hx : ev E x = some (.int k a)) (hy : ev E y = some (.int k b)) : Still P N ⟨dst, .binOp .neq xT x y yT, ty, pos, aft, g⟩ E L (.bool (!decide (a = b))) := fun A w hs _ => by
  have e : (a != b) = !decide (a = b) := by rw [bne]; congr 1
  simp [execOp, hs.ev hx, hs.ev hy, eqGuard, binOp, Op.intCmp, e]
theorem Still.not {t : Bool} (hx : ev E x = some (.bool t)) : Still P N ⟨dst, .unOp .not xT x, ty, pos, aft, g⟩ E L (.bool (!t)) := fun A w hs _ => by
  simp [execOp, hs.ev hx, Op.unary]
theorem Still.neg (hx : ev E x = some (.int k a)) (hz : k.wrap (0 - a) = z) : Still P N ⟨dst, .unOp .neg xT x, ty, pos, aft, g⟩ E L (.int k z) := fun A w hs _ => by
  subst hz; simp [execOp, hs.ev hx, Op.unary, Op.intArith]
theorem Still.conv {src d : TypeId} {k' : IntKind} {i : TyI} {s' b' : Nat} {z' : List Value} (hx : ev E x = some (.int k a)) (hs : tyOf P src = some i) (hd : tyOf P d = some ⟨.int k', s', b', z'⟩) (hz : k'.wrap a = z) :
    Still P N ⟨dst, .convert src d x, ty, pos, aft, g⟩ E L (.int k' z) := fun A w hS _ => by
  subst hz
  obtain ⟨u, hu, -⟩ := (tyOk hs).und'
  have h2 := (tyOk hd).int
  simp [execOp, hS.ev hx, convert, run_underlying hu, run_underlying h2, Conv.intToInt]
theorem run_equalB (d : Nat) {t : TypeId} (h : P.underlying t = some .bool) (a b : Bool) (w : World) : (Op.equalIn (d + 1) t (.bool a) (.bool b)).run P w = .ok (a == b) w := by
  simp [Op.equalIn, run_underlying h]
theorem Still.eqlB {t u : Bool} {s' b' : Nat} {z' : List Value} (hx : ev E x = some (.bool t)) (hy : ev E y = some (.bool u)) (ht : tyOf P xT = some ⟨.bool, s', b', z'⟩) : Still P N ⟨dst, .binOp .eql xT x y yT, ty, pos, aft, g⟩ E L (.bool (t == u)) := fun A w hs _ => by
  have := run_equalB (P := P) 9999 (tyOk ht).bool t u w
  simp only [execOp, hs.ev hx, hs.ev hy, eqGuard, binOp, Op.equal, Op.maxDepth]
  simp [this]
theorem Still.neqB {t u : Bool} {s' b' : Nat} {z' : List Value} (hx : ev E x = some (.bool t)) (hy : ev E y = some (.bool u)) (ht : tyOf P xT = some ⟨.bool, s', b', z'⟩) : Still P N ⟨dst, .binOp .neq xT x y yT, ty, pos, aft, g⟩ E L (.bool (!(t == u))) := fun A w hs _ => by
  have := run_equalB (P := P) 9999 (tyOk ht).bool t u w
  simp only [execOp, hs.ev hx, hs.ev hy, eqGuard, binOp, Op.equal, Op.maxDepth]
  simp [this]
end

theorem wrap_i64_in {a : Int} (h : -9223372036854775808 ≤ a ∧ a ≤ 9223372036854775807) : IntKind.i64.wrap a = a := by
  have e1 : (2 : Int) ^ 64 = 18446744073709551616 := by decide
  have e2 : (2 : Int) ^ 63 = 9223372036854775808 := by decide
  simp only [IntKind.wrap, IntKind.bits, IntKind.signed, e1, e2, Bool.true_and]
  by_cases hn : 0 ≤ a
  · rw [Int.emod_eq_of_lt hn (by omega), if_neg (by simp; omega)]
  · have : a % 18446744073709551616 = a + 18446744073709551616 := by omega
    rw [this, if_pos (by simp; omega)]; omega
theorem wrap_u64_in {a : Int} (h : 0 ≤ a ∧ a ≤ 18446744073709551615) : IntKind.u64.wrap a = a := by
  have e1 : (2 : Int) ^ 64 = 18446744073709551616 := by decide
  simp only [IntKind.wrap, IntKind.bits, IntKind.signed, e1, Bool.false_and, Bool.false_eq_true, if_false]
  exact Int.emod_eq_of_lt h.1 (by omega)
theorem wrap_u8_in {a : Int} (h : 0 ≤ a ∧ a ≤ 255) : IntKind.u8.wrap a = a := by
  have e1 : (2 : Int) ^ 8 = 256 := by decide
  simp only [IntKind.wrap, IntKind.bits, IntKind.signed, e1, Bool.false_and, Bool.false_eq_true, if_false]
  exact Int.emod_eq_of_lt h.1 (by omega)
theorem wrap_u16_in {a : Int} (h : 0 ≤ a ∧ a ≤ 65535) : IntKind.u16.wrap a = a := by
  have e1 : (2 : Int) ^ 16 = 65536 := by decide
  simp only [IntKind.wrap, IntKind.bits, IntKind.signed, e1, Bool.false_and, Bool.false_eq_true, if_false]
  exact Int.emod_eq_of_lt h.1 (by omega)
theorem tmod_in {a b : Int} (ha : 0 ≤ a) : a.tmod b = a % b := Int.tmod_eq_emod_of_nonneg ha
theorem tdiv_in {a b : Int} (ha : 0 ≤ a) : a.tdiv b = a / b := Int.tdiv_eq_ediv_of_nonneg ha

theorem quo_in {k : IntKind} {a b z : Int} (ha : 0 ≤ a) (h : k.wrap (a / b) = z) : k.wrap (a.tdiv b) = z := by rw [tdiv_in ha]; exact h

theorem Still.nilCheck {x : Operand} {ad : Addr} (hx : ev E x = some (.pointer (some ad))) : Still P N ⟨dst, .nilCheck x, ty, pos, aft, g⟩ E L (.pointer (some ad)) := fun A w hs _ => by
  simp [execOp, hs.ev hx]
theorem Still.extract {x : Operand} {i : Nat} {vs : Array Value} {v : Value} (hx : ev E x = some (.tuple vs)) (hv : vs[i]? = some v) : Still P N ⟨dst, .extract x i, ty, pos, aft, g⟩ E L v := fun A w hs _ => by
  simp [execOp, hs.ev hx, Instr.extract, hv]
theorem Still.ext0 {x : Operand} {u v : Value} (hx : ev E x = some (.tuple #[u, v])) : Still P N ⟨dst, .extract x 0, ty, pos, aft, g⟩ E L u := Still.extract hx rfl
theorem Still.ext1 {x : Operand} {u v : Value} (hx : ev E x = some (.tuple #[u, v])) : Still P N ⟨dst, .extract x 1, ty, pos, aft, g⟩ E L v := Still.extract hx rfl
theorem Addr.add_lit' (b i j : Nat) : (⟨b, i, none⟩ : Addr).add j = ⟨b, i + j, none⟩ := by unfold Addr.add; split <;> simp_all
theorem run_fieldAt {s ft : TypeId} {fs : List (Nat × TypeId)} {s' b' f off i : Nat} {z' : List Value} {j : TyI} {ad : Addr} (ht : tyOf P s = some ⟨.struct fs, s', b', z'⟩) (hf : fs[f]? = some (off, ft)) (hj : tyOf P ft = some j) (hz : Nat.beq j.size 0 = false) (w : World) :
    (Instr.fieldAt s (.pointer (some ad)) f).run P w = .ok (.pointer (some (ad.add off))) w := by
  obtain ⟨l, h1, h2⟩ := (tyOk ht).struct
  rw [← h2, List.getElem?_map] at hf
  have hsz := (tyOk hj).size
  have hne : j.size ≠ 0 := fun h => by rw [h] at hz; simp at hz
  cases hlf : l[f]? with
  | none => rw [Array.getElem?_toList, hlf] at hf; cases hf
  | some fl =>
    rw [Array.getElem?_toList, hlf] at hf
    simp only [Option.map_some, Option.some.injEq, Prod.mk.injEq] at hf
    obtain ⟨rfl, rfl⟩ := hf
    simp [Instr.fieldAt, run_underlying h1, hlf, Instr.sureAddr, fieldPlace, hsz, hne]
theorem Still.fieldAddr {x : Operand} {s ft : TypeId} {fs : List (Nat × TypeId)} {s' b' f off b i : Nat} {z' : List Value} {j : TyI} (hx : ev E x = some (.pointer (some ⟨b, i, none⟩))) (ht : tyOf P s = some ⟨.struct fs, s', b', z'⟩)
    (hf : fs[f]? = some (off, ft)) (hj : tyOf P ft = some j) (hz : Nat.beq j.size 0 = false) : Still P N ⟨dst, .fieldAddr s x f, ty, pos, aft, g⟩ E L (.pointer (some ⟨b, i + off, none⟩)) := fun A w hs _ => by
  simp [execOp, hs.ev hx, run_fieldAt (i := 0) ht hf hj hz, Addr.add_lit']

/-- the cells 'ds' lie in 'cs' from i on -/
inductive Cut {α : Type} : List α → Nat → Nat → List α → Prop
  | done {cs : List α} : Cut cs 0 0 []
  | take {a : α} {r ds : List α} {n : Nat} : Cut r 0 n ds → Cut (a :: r) 0 (n + 1) (a :: ds)
  | skip {a : α} {r ds : List α} {i n : Nat} : Cut r i n ds → Cut (a :: r) (i + 1) n ds
theorem Cut.get {α : Type} {cs ds : List α} {i n : Nat} (h : Cut cs i n ds) : ds.length = n ∧ ∀ j v, ds[j]? = some v → cs[i + j]? = some v := by
  induction h with
  | done => simp
  | take _ ih =>
    refine ⟨by simp [ih.1], fun j v hj => ?_⟩
    cases j with
    | zero => simpa using hj
    | succ j => have := ih.2 j v (by simpa using hj); simpa [Nat.add_comm 0] using this
  | @skip a r ds i n _ ih => exact ⟨ih.1, fun j v hj => by have := ih.2 j v hj; rwa [show i + 1 + j = (i + j) + 1 by omega, List.getElem?_cons_succ]⟩

theorem Still.load {x : Operand} {t bt : TypeId} {b i : Nat} {cs : List Value} {v : Value} {L' : List Chunk} {ti : TyI} (hx : ev E x = some (.pointer (some ⟨b, i, none⟩))) (ht : tyOf P t = some ti) (hd : ti.d.row = false)
    (hm : Take (blk b cs bt) L L') (hv : cs[i]? = some v) : Still P N ⟨dst, .load t x, ty, pos, aft, g⟩ E L v := fun A w hs hM => by
  have hb := blk_holds.1 (hM.has hm)
  have hc : w.cell? ⟨b, i, none⟩ = some v := by rw [hb.cell]; simpa using hv
  simp [execOp, hs.ev hx, Instr.loadAt, Instr.sureAddr, loadVar, (tyOk ht).isAgg hd, load, hc]
theorem Still.loadS {x : Operand} {t bt : TypeId} {b i s' b' : Nat} {fs : List (Nat × TypeId)} {z' cs ds : List Value} {L' : List Chunk} (hx : ev E x = some (.pointer (some ⟨b, i, none⟩))) (ht : tyOf P t = some ⟨.struct fs, s', b', z'⟩)
    (hm : Take (blk b cs bt) L L') (hv : Cut cs i s' ds) : Still P N ⟨dst, .load t x, ty, pos, aft, g⟩ E L (.agg ds.toArray) := fun A w hs hM => by
  have hb := blk_holds.1 (hM.has hm)
  obtain ⟨hl, hg⟩ := hv.get
  obtain ⟨l, h1, -⟩ := (tyOk ht).struct
  obtain ⟨x', z, h3, h4, -⟩ := (tyOk ht).info
  have := run_loadAt_mid (P := P) w b i t ds _ (fun j v hj => by rw [hb.cell]; simpa using hg j v hj) h1 rfl (by rw [h3]; simp [h4, hl])
  simp [execOp, hs.ev hx, this]
theorem Still.len {x : Operand} {t e : TypeId} {s' b' n c : Nat} {z' : List Value} {ao : Option Addr} (hx : ev E x = some (.slice ao n c)) (ht : tyOf P t = some ⟨.slice e, s', b', z'⟩) :
    Still P N ⟨dst, .call ⟨.builtin .len, #[x], #[t]⟩, ty, pos, aft, g⟩ E L (.int .i64 (n : Int)) := fun A w hs _ => by
  simp [execOp, resolve, invoke, builtin, hs.ev hx, Builtin.len_, run_underlying (tyOk ht).slice, goInt]
theorem Still.func {f : FuncId} {x : Operand} : Still P N ⟨dst, .move (.func f), ty, pos, aft, g⟩ E L (.func (.func f) #[] #[]) := Still.move rfl
end
end Go.Proofs.Ytkhagebjphaboaa

/- The operations over slices, and those that make or change memory, over states that are said by lists. Of whatever program whose types a table says. -/
namespace Go.Proofs.Ytkhagebjphaboaa
open Go
set_option linter.unusedVariables false
set_option linter.unusedSimpArgs false
set_option linter.unusedSectionVars false

/-- where a slice's element i lies, 'off' cells further -/
@[irreducible] def place (m : Nat) (ao : Option Addr) (i off : Nat) : Option Addr := ao.map fun a => a.add (i * m + off)
theorem place_some {m i off b o : Nat} : place m (some ⟨b, o, none⟩) i off = some ⟨b, o + (i * m + off), none⟩ := by unfold place; simp [Addr.add_lit']

section
variable {α : Type} {iα : Inhabited α} {ao : Option Addr} {n cap : Nat} {e : TypeId} {f : α → List Value} {ef : Enc f} {l : List α} {L L' : List Chunk}
/-- what memory lets read -/
def Rdb {α : Type} [Inhabited α] (L : List Chunk) (ao : Option Addr) (n cap : Nat) (f : α → List Value) [Enc f] (l : List α) : Prop := ∀ w, Mem w L → Row w (.slice ao n cap) (sz f) n (l.flatMap f) ∧ l.length = n
theorem Rdb.arr (t : Take (arr ao n cap e f l) L L') : Rdb L ao n cap f l := fun w hm => ⟨(arr_holds.1 (hm.has t)).1.row Enc.pos, (arr_holds.1 (hm.has t)).2⟩
theorem Rdb.rd (t : Take (rd ao n cap f l) L L') : Rdb L ao n cap f l := fun w hm => rd_holds.1 (hm.has t)
theorem Rdb.old {w0 : World} {S : Nat → Prop} (ha : At w0 S ao n cap f l) (t : Take (old w0 S) L L') : Rdb L ao n cap f l := fun w hm => ⟨ha.1.1.keep'' Enc.pos (old_holds.1 (hm.has t)) ha.2, ha.1.2⟩

theorem flatMap_len {α : Type} [Inhabited α] (f : α → List Value) [Enc f] (l : List α) : (l.flatMap f).length = l.length * sz f := by
  induction l with
  | nil => simp
  | cons a r ih => rw [List.flatMap_cons, List.length_append, ih, Enc.len a, List.length_cons, Nat.add_mul]; simp only [sz]; omega
theorem flatMap_get {α : Type} [Inhabited α] (f : α → List Value) [Enc f] : ∀ (l : List α) (i : Nat), i < l.length → ∀ j, j < sz f → (l.flatMap f)[i * sz f + j]? = (f (l.getD i default))[j]?
  | [], i, h, _, _ => by simp at h
  | a :: r, 0, _, j, hj => by
    rw [List.flatMap_cons, Nat.zero_mul, Nat.zero_add, List.getElem?_append_left (by rw [Enc.len a]; exact hj)]; rfl
  | a :: r, i + 1, h, j, hj => by
    rw [List.flatMap_cons, List.getElem?_append_right (by rw [Enc.len a, Nat.add_mul]; simp only [sz]; omega), Enc.len a, show (i + 1) * sz f + j - (f default).length = i * sz f + j by rw [Nat.add_mul]; simp only [sz]; omega]
    exact flatMap_get f r i (by simpa using h) j hj
theorem set_cells {α : Type} [Inhabited α] (f : α → List Value) [Enc f] (cur : List Value) (l : List α) (i o off n : Nat) (vs : List Value) (a' : α) (hn : l.length = n) (hi : i < n) (hc : o + n * sz f ≤ cur.length)
    (hd : (cur.drop o).take (n * sz f) = l.flatMap f) (hle : off + vs.length ≤ (f (l.getD i default)).length) (he : f a' = (f (l.getD i default)).take off ++ vs ++ (f (l.getD i default)).drop (off + vs.length)) :
    ((cur.take (o + (i * sz f + off)) ++ vs ++ cur.drop (o + (i * sz f + off) + vs.length)).drop o).take (n * sz f) = (l.set i a').flatMap f := by
  have hx : l = l.take i ++ (l.getD i default) :: l.drop (i + 1) := by
    have h1 : l.getD i default = l[i]'(by omega) := by simp [List.getD_eq_getElem?_getD, List.getElem?_eq_getElem (show i < l.length by omega)]
    rw [h1, List.getElem_cons_drop, List.take_append_drop]
  generalize l.getD i default = x at *
  have hlx : (f x).length = sz f := Enc.len x
  have hA : ((l.take i).flatMap f).length = i * sz f := by rw [flatMap_len, List.length_take, Nat.min_eq_left (by omega)]
  have hS : (l.set i a').flatMap f = (l.take i).flatMap f ++ (f a' ++ (l.drop (i + 1)).flatMap f) := by
    conv => lhs; rw [hx]
    rw [List.set_append_right _ _ (by simp; omega)]
    simp [Nat.min_eq_left (show i ≤ l.length by omega)]
  have hF : l.flatMap f = (l.take i).flatMap f ++ (f x ++ (l.drop (i + 1)).flatMap f) := by
    conv => lhs; rw [hx]
    simp
  have hB : ((l.drop (i + 1)).flatMap f).length = (n - (i + 1)) * sz f := by rw [flatMap_len, List.length_drop, hn]
  have hcur : cur = cur.take o ++ (l.flatMap f ++ cur.drop (o + n * sz f)) := by
    rw [← hd, ← List.drop_drop, List.take_append_drop, List.take_append_drop]
  have hmul : n * sz f = i * sz f + (sz f + (n - (i + 1)) * sz f) := by
    have : n = i + (1 + (n - (i + 1))) := by omega
    conv => lhs; rw [this]
    rw [Nat.add_mul, Nat.add_mul, Nat.one_mul]
  have hC0 : (cur.take o).length = o := by rw [List.length_take, Nat.min_eq_left (by omega)]
  rw [hF] at hcur
  rw [hS, he]
  generalize (l.take i).flatMap f = A at *
  generalize (l.drop (i + 1)).flatMap f = B at *
  generalize cur.drop (o + n * sz f) = C1 at *
  generalize cur.take o = C0 at *
  have e1 : cur.take (o + (i * sz f + off)) = C0 ++ (A ++ (f x).take off) := by
    rw [hcur, List.take_append, List.take_of_length_le (by omega), hC0, Nat.add_sub_cancel_left, List.append_assoc, List.append_assoc, List.take_append, List.take_of_length_le (by omega), hA, Nat.add_sub_cancel_left, List.take_append_of_le_length (by omega)]
  have e2 : cur.drop (o + (i * sz f + off) + vs.length) = (f x).drop (off + vs.length) ++ (B ++ C1) := by
    rw [hcur, show o + (i * sz f + off) + vs.length = o + (i * sz f + (off + vs.length)) by omega, List.drop_append, List.drop_of_length_le (by omega), hC0, Nat.add_sub_cancel_left, List.nil_append, List.append_assoc, List.append_assoc, List.drop_append, List.drop_of_length_le (by omega), hA, Nat.add_sub_cancel_left, List.nil_append, List.drop_append_of_le_length (by omega)]
  rw [e1, e2]
  have e3 : C0 ++ (A ++ (f x).take off) ++ vs ++ ((f x).drop (off + vs.length) ++ (B ++ C1)) = C0 ++ ((A ++ ((f x).take off ++ vs ++ (f x).drop (off + vs.length) ++ B)) ++ C1) := by simp
  rw [e3, List.drop_left' hC0, List.take_left']
  simp only [List.length_append, List.length_take, List.length_drop, hA, hB, hlx, hmul]
  rw [Nat.min_eq_left (by omega)]
  omega
theorem Rdb.cell (h : Rdb L ao n cap f l) {w : World} (hm : Mem w L) {i : Nat} (hi : i < n) : ∃ b o, ao = some ⟨b, o, none⟩ ∧ ∀ off v, (f (l.getD i default))[off]? = some v → w.cell? ⟨b, o + (i * sz f + off), none⟩ = some v := by
  obtain ⟨⟨h1, h2, ao', cap', he, h3, h4⟩, h5⟩ := h w hm
  simp only [Value.slice.injEq] at he
  obtain ⟨rfl, -, rfl⟩ := he
  obtain ⟨b, o, rfl, hc⟩ := h4 (by omega)
  refine ⟨b, o, rfl, fun off v hv => ?_⟩
  have hoff : off < sz f := by
    have := (List.getElem?_eq_some_iff.1 hv).1
    rwa [Enc.len] at this
  have hlt : i * sz f + off < n * sz f := by
    have : (i + 1) * sz f ≤ n * sz f := Nat.mul_le_mul_right _ (by omega)
    rw [Nat.add_mul] at this; omega
  rw [hc _ hlt, flatMap_get f l i (by omega) off hoff]
  exact hv
end

section
variable {P : Program} [Tabbed P] {Q : Exit → Act → World → Prop} {N : Nat} {E : Env} {L L' : List Chunk}
variable {dst : Option Tmp} {ty : TypeId} {pos : String} {aft : Array Edge} {g : Option (Nat × Bool)}
variable {α : Type} {iα : Inhabited α} {ao : Option Addr} {n cap : Nat} {e : TypeId} {f : α → List Value} {ef : Enc f} {l : List α}

theorem Still.at_ {t : TypeId} {x ix : Operand} {k : IntKind} {j : Int} {i s' b' s2 b2 : Nat} {z' z2 : List Value} {d2 : TyD} (hx : ev E x = some (.slice ao n cap)) (hi : ev E ix = some (.int k j)) (hr : Rdb L ao n cap f l)
    (ht : tyOf P t = some ⟨.slice e, s', b', z'⟩) (he : tyOf P e = some ⟨d2, s2, b2, z2⟩) (hs : s2 = sz f) (hj : j = (i : Int)) (hlt : i < n) :
    Still P N ⟨dst, .indexAddr t x ix, ty, pos, aft, g⟩ E L (.pointer (place (sz f) ao i 0)) := fun A w hS hM => by
  obtain ⟨b, o, rfl, -⟩ := hr.cell hM hlt
  subst hj
  have h0 : (0 : Int) ≤ (i : Int) ∧ (i : Int) < (n : Int) := by omega
  have hz : (sizeOf e).run P w = .ok s2 w := (tyOk he).size w
  subst hs
  simp [execOp, hS.ev hx, hS.ev hi, Instr.indexAt, asIntOf, run_underlying (tyOk ht).slice, h0, hz, place_some, Addr.add_lit', hlt]
theorem Still.fieldE {x : Operand} {s ft : TypeId} {fs : List (Nat × TypeId)} {s' b' fi off o2 i : Nat} {z' : List Value} {j : TyI} (hx : ev E x = some (.pointer (place (sz f) ao i off))) (hr : Rdb L ao n cap f l) (hlt : i < n) (ht : tyOf P s = some ⟨.struct fs, s', b', z'⟩)
    (hf : fs[fi]? = some (o2, ft)) (hj : tyOf P ft = some j) (hz : Nat.beq j.size 0 = false) : Still P N ⟨dst, .fieldAddr s x fi, ty, pos, aft, g⟩ E L (.pointer (place (sz f) ao i (off + o2))) := fun A w hS hM => by
  obtain ⟨b, o, rfl, -⟩ := hr.cell hM hlt
  have hx' := hS.ev hx
  rw [place_some] at hx'
  simp [execOp, hx', run_fieldAt (i := 0) ht hf hj hz, Addr.add_lit', place_some, Nat.add_assoc]
theorem Still.nilE {x : Operand} {off i : Nat} (hx : ev E x = some (.pointer (place (sz f) ao i off))) (hr : Rdb L ao n cap f l) (hlt : i < n) : Still P N ⟨dst, .nilCheck x, ty, pos, aft, g⟩ E L (.pointer (place (sz f) ao i off)) := fun A w hS hM => by
  obtain ⟨b, o, rfl, -⟩ := hr.cell hM hlt
  have hx' := hS.ev hx
  rw [place_some] at hx' ⊢
  simp [execOp, hx']
theorem Still.loadE {x : Operand} {t : TypeId} {i off : Nat} {v : Value} {ti : TyI} (hx : ev E x = some (.pointer (place (sz f) ao i off))) (ht : tyOf P t = some ti) (hd : ti.d.row = false)
    (hr : Rdb L ao n cap f l) (hlt : i < n) (hv : (f (l.getD i default))[off]? = some v) : Still P N ⟨dst, .load t x, ty, pos, aft, g⟩ E L v := fun A w hS hM => by
  obtain ⟨b, o, rfl, hc⟩ := hr.cell hM hlt
  have hx' := hS.ev hx
  rw [place_some] at hx'
  simp [execOp, hx', Instr.loadAt, Instr.sureAddr, loadVar, (tyOk ht).isAgg hd, load, hc off v hv]
theorem Still.loadES {x : Operand} {t : TypeId} {i off s' b' : Nat} {fs : List (Nat × TypeId)} {z' ds : List Value} (hx : ev E x = some (.pointer (place (sz f) ao i off))) (ht : tyOf P t = some ⟨.struct fs, s', b', z'⟩)
    (hr : Rdb L ao n cap f l) (hlt : i < n) (hv : Cut (f (l.getD i default)) off s' ds) : Still P N ⟨dst, .load t x, ty, pos, aft, g⟩ E L (.agg ds.toArray) := fun A w hS hM => by
  obtain ⟨b, o, rfl, hc⟩ := hr.cell hM hlt
  have hx' := hS.ev hx
  rw [place_some] at hx'
  obtain ⟨hl, hg⟩ := hv.get
  obtain ⟨q, h1, -⟩ := (tyOk ht).struct
  obtain ⟨x', z, h3, h4, -⟩ := (tyOk ht).info
  have := run_loadAt_mid (P := P) w b (o + (i * sz f + off)) t ds _ (fun j v hj => by rw [Nat.add_assoc, Nat.add_assoc]; exact hc _ v (hg j v hj)) h1 rfl (by rw [h3]; simp [h4, hl])
  simp [execOp, hx', this]

/-- a new variable, with nothing in it -/
theorem OpT.alloc {t : TypeId} {d0 : TyD} {s0 b0 : Nat} {z0 : List Value} {C : Env → List Chunk → Prop} (ht : tyOf P t = some ⟨d0, s0, b0, z0⟩) (hd : fitsB N dst = true) (k : ∀ b, C (upd dst (.pointer (some ⟨b, 0, none⟩)) E) (blk b z0 t :: L)) :
    OpT P Q N ⟨dst, .alloc t, ty, pos, aft, g⟩ E L C := fun K hK A w hS hM => by
  obtain ⟨x, z, h1, h2, h3, h4, h5⟩ := (tyOk ht).info
  have hr : (execOp A.eval ⟨dst, .alloc t, ty, pos, aft, g⟩).run P w = .ok (.value (.pointer (some ⟨w.heap.size, 0, none⟩))) (w.alloc (.cells z.cells t)) := by
    simp [execOp, Instr.alloc, zeroValue, typeInfo, h1, h4, newVar, newRow, newObj]
    rfl
  unfold Oper.wp
  rw [hr]
  refine hK _ _ (k w.heap.size) _ _ (hS.put _ hd) (hM.add ((Keeps.refl _ _).alloc _) (blk_holds.2 ?_) (fun b hb => by rw [blk_foot.1 hb]; exact Nat.le_refl _))
  rw [← (show z.cells.toList = z0 from h5)]
  simpa using Blk.new w z.cells t
/-- a new variable with a value in it -/
theorem OpT.box {t : TypeId} {x : Operand} {v : Value} {cs : List Value} {C : Env → List Chunk → Prop} (hx : ev E x = some v) (hc : v.cells = cs.toArray) (hd : fitsB N dst = true) (k : ∀ b, C (upd dst (.pointer (some ⟨b, 0, none⟩)) E) (blk b cs t :: L)) :
    OpT P Q N ⟨dst, .box t x, ty, pos, aft, g⟩ E L C := fun K hK A w hS hM => by
  have hr : (execOp A.eval ⟨dst, .box t x, ty, pos, aft, g⟩).run P w = .ok (.value (.pointer (some ⟨w.heap.size, 0, none⟩))) (w.alloc (.cells cs.toArray t)) := by
    simp [execOp, hS.ev hx, Instr.box, hc, newVar, newRow, newObj]
    rfl
  unfold Oper.wp
  rw [hr]
  exact hK _ _ (k w.heap.size) _ _ (hS.put _ hd) (hM.add ((Keeps.refl _ _).alloc _) (blk_holds.2 (Blk.new w cs.toArray t)) (fun b hb => by rw [blk_foot.1 hb]; exact Nat.le_refl _))

/-- 'vs' written into 'cs' from i on -/
inductive Put : List Value → Nat → List Value → List Value → Prop
  | done {cs : List Value} : Put cs 0 [] cs
  | take {u v : Value} {r vs r' : List Value} : Put r 0 vs r' → Put (u :: r) 0 (v :: vs) (v :: r')
  | skip {u : Value} {r vs r' : List Value} {i : Nat} : Put r i vs r' → Put (u :: r) (i + 1) vs (u :: r')
theorem Put.eq {cs vs cs' : List Value} {i : Nat} (h : Put cs i vs cs') : i + vs.length ≤ cs.length ∧ cs' = cs.take i ++ vs ++ cs.drop (i + vs.length) := by
  induction h with
  | done => simp
  | take _ ih =>
    obtain ⟨h1, h2⟩ := ih
    refine ⟨by simp at h1 ⊢; omega, ?_⟩
    simp at h2
    simp [h2]
  | skip _ ih =>
    obtain ⟨h1, h2⟩ := ih
    refine ⟨by simp at h1 ⊢; omega, ?_⟩
    rw [h2]
    simp [Nat.add_right_comm _ 1]
/-- a store into one's own block -/
theorem OpT.store {t bt : TypeId} {x y : Operand} {v : Value} {b i : Nat} {cs vs cs' : List Value} {ti : TyI} {C : Env → List Chunk → Prop} (hx : ev E x = some (.pointer (some ⟨b, i, none⟩))) (hy : ev E y = some v) (hv : v.cells = vs.toArray)
    (ht : tyOf P t = some ti) (hl : vs.length = ti.size) (h1 : vs.all (·.oneCell') = true) (hm : Take (blk b cs bt) L L') (hp : Put cs i vs cs') (hd : fitsB N dst = true) (k : C (upd dst undef E) (blk b cs' bt :: L')) :
    OpT P Q N ⟨dst, .store t x y, ty, pos, aft, g⟩ E L C := fun K hK A w hS hM => by
  have hM' := hM.take hm
  have hb := blk_holds.1 (hM.has hm)
  obtain ⟨hle, he⟩ := hp.eq
  obtain ⟨x', z, h3, h4, -⟩ := (tyOk ht).info
  have hst := run_storeVar_mid (P := P) w b i t vs.toArray (fun j hj => by
    simp only [List.size_toArray] at hj
    exact ⟨by rw [hb.cell]; simp; omega, hb.free _⟩) (by rw [h3]; simp [h4, hl]) (by simpa using h1)
  have hr : (execOp A.eval ⟨dst, .store t x y, ty, pos, aft, g⟩).run P w = .ok .skip (w.setCells b i vs) := by
    have e : storeVar t ⟨b, i, none⟩ v = storeVar t ⟨b, i, none⟩ (.agg vs.toArray) := by
      unfold storeVar
      rw [hv]; rfl
    simp only [execOp, hS.ev hx, hS.ev hy, Instr.storeAt, Instr.sureAddr, Sem.run_bind, Sem.run_pure, Result.andThen_ok]
    rw [e, hst]
    rfl
  unfold Oper.wp
  rw [hr]
  refine hK _ _ k _ _ (hS.put _ hd) (hM'.turn (Keeps.setCells (S := fun c => c = b) vs i (Keeps.refl _ _) (fun _ => rfl)) blk_excl (fun c hc _ => blk_foot.2 hc) (blk_holds.2 ?_) (fun c hc => .inl (blk_foot.2 (blk_foot.1 hc))))
  rw [he]
  simpa using hb.setCells vs i (by simpa using hle)
/-- a store into an element of one's own slice -/
theorem OpT.storeE {t : TypeId} {x y : Operand} {v : Value} {i off : Nat} {vs : List Value} {ti : TyI} {a' : α} {C : Env → List Chunk → Prop} (hx : ev E x = some (.pointer (place (sz f) ao i off))) (hy : ev E y = some v) (hv : v.cells = vs.toArray)
    (ht : tyOf P t = some ti) (hl : vs.length = ti.size) (h1 : vs.all (·.oneCell') = true) (hm : Take (arr ao n cap e f l) L L') (hlt : i < n) (hp : Put (f (l.getD i default)) off vs (f a')) (hd : fitsB N dst = true)
    (k : C (upd dst undef E) (arr ao n cap e f (l.set i a') :: L')) : OpT P Q N ⟨dst, .store t x y, ty, pos, aft, g⟩ E L C := fun K hK A w hS hM => by
  have hM' := hM.take hm
  obtain ⟨hown0, hln⟩ := arr_holds.1 (hM.has hm)
  have hcap0 : 0 < cap := Nat.lt_of_lt_of_le (Nat.lt_of_le_of_lt (Nat.zero_le _) hlt) hown0.le
  have hown := hown0.own hcap0
  obtain ⟨hle, he⟩ := hp.eq
  obtain ⟨x', z, h3, h4, -⟩ := (tyOk ht).info
  obtain ⟨b, o, rfl, -⟩ := (Rdb.arr hm).cell hM hlt
  obtain ⟨q1, ao', cap', q2, q3, q4, q5, q6⟩ := id hown
  simp only [Value.slice.injEq] at q2
  obtain ⟨rfl, -, rfl⟩ := q2
  obtain ⟨-, q7, cur, q8, q9, q10⟩ := q6 _ rfl
  simp only at q7 q8 q9 q10
  rw [Enc.len] at hle
  have hmul : (i + 1) * sz f ≤ cap * sz f := Nat.mul_le_mul_right _ (by omega)
  have hmul2 : (i + 1) * sz f ≤ n * sz f := Nat.mul_le_mul_right _ (by omega)
  rw [Nat.add_mul, Nat.one_mul] at hmul hmul2
  simp only [sz] at hmul hmul2 q9 q10 hle
  have hst := run_storeVar_mid (P := P) w b (o + (i * sz f + off)) t vs.toArray (fun j hj => by
    simp only [List.size_toArray] at hj
    exact ⟨by rw [q8.cell]; simp only [sz]; simp; omega, q8.free _⟩) (by rw [h3]; simp [h4, hl]) (by simpa using h1)
  have hx' := hS.ev hx
  rw [place_some] at hx'
  have hr : (execOp A.eval ⟨dst, .store t x y, ty, pos, aft, g⟩).run P w = .ok .skip (w.setCells b (o + (i * sz f + off)) vs) := by
    have e : storeVar t ⟨b, o + (i * sz f + off), none⟩ v = storeVar t ⟨b, o + (i * sz f + off), none⟩ (.agg vs.toArray) := by
      unfold storeVar
      rw [hv]; rfl
    simp only [execOp, hx', hS.ev hy, Instr.storeAt, Instr.sureAddr, Sem.run_bind, Sem.run_pure, Result.andThen_ok]
    rw [e, hst]
    rfl
  unfold Oper.wp
  rw [hr]
  have hb2 := q8.setCells vs (o + (i * sz f + off)) (by simp only [sz]; omega)
  refine hK _ _ k _ _ (hS.put _ hd) (hM'.turn (Keeps.setCells (S := fun c => c = b) vs _ (Keeps.refl _ _) (fun _ => rfl)) arr_excl (fun c hc _ => arr_foot.2 ⟨by rw [hc]; rfl, hcap0⟩) (arr_holds.2 ⟨Own0.of ?_, by simpa using hln⟩) (fun c hc => .inl (arr_foot.2 (arr_foot.1 hc))))
  refine ⟨by rw [flatMap_len]; simp [hln], _, cap, rfl, q3, q4, (fun h => by cases h), fun ad had => ?_⟩
  cases had
  refine ⟨rfl, Nat.zero_le _, _, hb2, ?_, ?_⟩
  · simp only [List.size_toArray, List.length_append, List.length_take, List.length_drop, Array.length_toList, sz]
    omega
  · have := set_cells f cur.toList l i o off n vs a' hln hlt (by simp only [sz] at *; simp; have : n * (f default).length ≤ cap * (f default).length := Nat.mul_le_mul_right _ (by omega); omega) (by simp only [sz]; exact q10) (by rw [Enc.len]; exact hle) he
    simpa [sz] using this
end
end Go.Proofs.Ytkhagebjphaboaa
