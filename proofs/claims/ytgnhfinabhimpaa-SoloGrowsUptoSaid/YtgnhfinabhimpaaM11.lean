/- What package verify computes, in plain Lean. -/
import Derived.Test.YtgnhfinabhimpaaM10
namespace Go.Proofs.Ytgnhfinabhimpaa.Ver
set_option linter.unusedVariables false
open ImgM

def plain (t : Int) : Bool := decide (t = 1) || decide (t = 2)
def isUnit (M : Mdl) (i kind : Int) : Bool := decide (0 ≤ i) && decide (i < (M.units.length : Int)) && decide ((M.units.getD i.toNat default).kind = kind)
def handle (M : Mdl) (t : Int) : Bool := decide (10 ≤ t) && isUnit M (t - 10) 3
def rng (b : Bool) : Int := if b then 0 else 3
/-- what is wrong with an instruction's form -/
def instr (M : Mdl) (u : Unt) (i : Ins) : Int :=
  if i.op = 2 then rng (decide (i.a = 0) || decide (i.a = 1))
  else if i.op = 3 ∨ i.op = 4 then rng (decide (0 ≤ i.a) && decide (i.a < (u.locals.length : Int)))
  else if i.op = 21 ∨ i.op = 22 then rng (decide (0 ≤ i.a) && decide (i.a < (u.code.length : Int)))
  else if i.op = 23 then rng (isUnit M i.a 2)
  else if i.op = 29 then rng (isUnit M i.a 3)
  else if i.op = 26 ∨ i.op = 27 then rng (decide (0 ≤ i.a) && decide (i.a < (M.boxes.length : Int)))
  else if i.op < 1 ∨ 32 < i.op then 1 else 0
/-- what is wrong with a unit ahead of its code -/
def head (M : Mdl) (u : Unt) : Int :=
  if u.kind ≠ 2 ∧ u.kind ≠ 3 ∧ u.kind ≠ 4 then 1
  else if 200 < u.locals.length ∨ u.params < 0 ∨ 6 < u.params ∨ (u.locals.length : Int) < u.params ∨ (u.kind = 4 ∧ 0 < u.params) then 5
  else if u.code.length < 1 ∨ 4000 < u.code.length then 5
  else if (u.kind ≠ 4 ∧ plain u.result = false) ∨ (u.kind = 3 ∧ plain u.takes = false) then 9
  else if u.locals.any (fun t => !plain t && !handle M t) then 9
  else 0
structure Where where
  err : Int
  unit : Int
  at_ : Int
deriving DecidableEq, Inhabited
def Where.ok : Where := ⟨0, 0, 0⟩
/-- the first box that is wrong -/
def boxes : Nat → List (Int × Int) → Where
  | _, [] => .ok
  | i, b :: r => if plain b.1 = false then ⟨9, 0, i⟩ else if b.2 < 1 ∨ 20 < b.2 then ⟨3, 0, i⟩ else boxes (i + 1) r
/-- the first instruction that is wrong -/
def instrs (M : Mdl) (u : Unt) (k : Nat) : Nat → List Ins → Where
  | _, [] => .ok
  | j, i :: r => if instr M u i ≠ 0 then ⟨instr M u i, k, j⟩ else instrs M u k (j + 1) r
def unit (M : Mdl) (k : Nat) (u : Unt) : Where := if head M u ≠ 0 then ⟨head M u, k, 0⟩ else instrs M u k 0 u.code
/-- the first unit that is wrong -/
def units (M : Mdl) : Nat → List Unt → Where
  | _, [] => .ok
  | k, u :: r => if (unit M k u).err ≠ 0 then unit M k u else units M (k + 1) r
def form (M : Mdl) : Where :=
  if 30 < M.boxes.length ∨ 30 < M.units.length then ⟨5, 0, 0⟩
  else if (boxes 0 M.boxes).err ≠ 0 then boxes 0 M.boxes
  else if (units M 0 M.units).err ≠ 0 then units M 0 M.units
  else if (M.units.filter (fun u => decide (u.kind = 4))).length = 0 then ⟨6, 0, 0⟩
  else .ok

/-- what is known at an instruction -/
abbrev Shape := List Int × List Bool
/-- a unit's code, while it is looked through -/
structure Flow where
  at_ : List (Int × Shape)
  todo : List Int
  stack : List Int
  has : List Bool
  err : Int
deriving Inhabited, DecidableEq
def find (l : List (Int × Shape)) (k : Int) : Option Shape := (l.find? (fun p => decide (p.1 = k))).map (·.2)
def put : List (Int × Shape) → Int → Shape → List (Int × Shape)
  | [], k, s => [(k, s)]
  | p :: r, k, s => if p.1 = k then (p.1, s) :: r else p :: put r k s
def fail (e : Int) (f : Flow) : Flow := if f.err = 0 then { f with err := e } else f
def push (t : Int) (f : Flow) : Flow := if 300 < f.stack.length + 1 then fail 4 { f with stack := f.stack ++ [t] } else { f with stack := f.stack ++ [t] }
def pop (f : Flow) : Int × Flow := if f.stack.length = 0 then (0, fail 12 f) else (f.stack.getD (f.stack.length - 1) 0, { f with stack := f.stack.take (f.stack.length - 1) })
def want1 (t : Int) (f : Flow) : Flow := if (pop f).1 ≠ t then fail 9 (pop f).2 else (pop f).2
/-- the last one is on top -/
def want (l : List Int) (f : Flow) : Flow := l.foldr want1 f
def meet : List Bool → List Bool → List Bool
  | a :: r, b :: s => (a && b) :: meet r s
  | _, _ => []
def to (n : Nat) (p : Int) (f : Flow) : Flow :=
  if f.err ≠ 0 then f
  else if p = (n : Int) then fail 3 f
  else match find f.at_ p with
    | none => { f with at_ := f.at_ ++ [(p, (f.stack, f.has))], todo := f.todo ++ [p] }
    | some s => if s.1 ≠ f.stack then fail 8 f else if meet s.2 f.has = s.2 then f else { f with at_ := put f.at_ p (s.1, meet s.2 f.has), todo := f.todo ++ [p] }
def args (M : Mdl) (k : Int) (f : Flow) : Flow := want ((M.units.getD k.toNat default).locals.take (M.units.getD k.toNat default).params.toNat) f
/-- the unit that a generator's handle tells of -/
def gen (M : Mdl) (f : Flow) : Option Int × Flow :=
  if (pop f).2.err ≠ 0 then (none, (pop f).2)
  else if handle M (pop f).1 = false then (none, fail 9 (pop f).2)
  else (some ((pop f).1 - 10), (pop f).2)
def done (f : Flow) : Flow := if f.stack.length = 0 then f else fail 12 f
def special (M : Mdl) (u : Unt) (i : Ins) (f : Flow) : Bool × Flow :=
  if i.op = 23 then (true, push (M.units.getD i.a.toNat default).result (args M i.a f))
  else if i.op = 29 then (true, push (10 + i.a) (args M i.a f))
  else if i.op = 24 then (false, done (want [u.result] (if u.kind ≠ 2 then fail 8 f else f)))
  else if i.op = 25 then (false, done (if u.kind = 2 then fail 8 f else f))
  else if i.op = 26 then (true, want [(M.boxes.getD i.a.toNat default).1] f)
  else if i.op = 27 then (true, push (M.boxes.getD i.a.toNat default).1 f)
  else if i.op = 28 then (true, if (pop f).2.err = 0 ∧ plain (pop f).1 = false then fail 9 (pop f).2 else (pop f).2)
  else if i.op = 30 then (true, match gen M (pop f).2 with
    | (none, g) => g
    | (some k, g) => push (M.units.getD k.toNat default).result (if (pop f).1 ≠ (M.units.getD k.toNat default).takes then fail 9 g else g))
  else if i.op = 31 then (true, push u.takes (want [u.result] (if u.kind ≠ 3 then fail 8 f else f)))
  else if i.op = 32 then (true, push 2 (gen M f).2)
  else (true, f)
def step (M : Mdl) (u : Unt) (i : Ins) (f : Flow) : Bool × Flow :=
  if i.op = 1 then (true, push 1 f)
  else if i.op = 2 then (true, push 2 f)
  else if i.op = 3 then (true, push (u.locals.getD i.a.toNat 0) (if f.has.getD i.a.toNat false then f else fail 11 f))
  else if i.op = 4 then (true, { want [u.locals.getD i.a.toNat 0] f with has := (want [u.locals.getD i.a.toNat 0] f).has.set i.a.toNat true })
  else if i.op = 5 then (true, (pop f).2)
  else if i.op = 6 then (true, push 1 (want [1] f))
  else if i.op = 7 then (true, push 2 (want [2] f))
  else if 8 ≤ i.op ∧ i.op ≤ 12 then (true, push 1 (want [1, 1] f))
  else if i.op = 13 ∨ i.op = 14 then (true, push 2 (want [(pop f).1] (if (pop f).1 ≠ 1 ∧ (pop f).1 ≠ 2 then fail 9 (pop f).2 else (pop f).2)))
  else if 15 ≤ i.op ∧ i.op ≤ 18 then (true, push 2 (want [1, 1] f))
  else if i.op = 19 ∨ i.op = 20 then (true, push 2 (want [2, 2] f))
  else if i.op = 21 then (false, to u.code.length i.a f)
  else if i.op = 22 then (true, to u.code.length i.a (want [2] f))
  else special M u i f
/-- a round of a unit's code: what is wrong, or how it goes on -/
def round (M : Mdl) (u : Unt) (p : Int) (r : List Int) (f : Flow) : Flow :=
  let s := (find f.at_ p).getD ([], [])
  let g := step M u (u.code.getD p.toNat default) { f with todo := r, stack := s.1, has := s.2 }
  if g.1 then to u.code.length (p + 1) g.2 else g.2
def run (M : Mdl) (u : Unt) (k : Nat) : Nat → Flow → Where
  | 0, _ => .ok
  | n + 1, f => match f.todo with
    | [] => .ok
    | p :: r => if (round M u p r f).err ≠ 0 then ⟨(round M u p r f).err, k, p⟩ else run M u k n (round M u p r f)
/-- how many rounds there may be -/
def most (u : Unt) : Nat := 2 * (u.code.length * (u.locals.length + 1)) + 1
def start (u : Unt) : Flow := to u.code.length 0 ⟨[], [], [], (List.replicate u.params.toNat true ++ List.replicate (u.locals.length - u.params.toNat) false), 0⟩
def code (M : Mdl) (k : Nat) : Where := run M (M.units.getD k default) k (most (M.units.getD k default)) (start (M.units.getD k default))
def codes (M : Mdl) : Nat → Nat → Where
  | _, 0 => .ok
  | k, n + 1 => if (code M k).err ≠ 0 then code M k else codes M (k + 1) n

/-- the units that code calls or starts -/
def calls (l : List Ins) (out : List Int) : List Int := l.foldl (fun out i => if (i.op = 23 ∨ i.op = 29) ∧ i.a ∉ out then out ++ [i.a] else out) out
def reachRun (M : Mdl) : Nat → Nat → List Int → List Int
  | 0, _, out => out
  | n + 1, k, out => if k < out.length then reachRun M n (k + 1) (calls (M.units.getD (out.getD k 0).toNat default).code out) else out
def reach (M : Mdl) (task : Nat) : List Int := reachRun M (M.units.length + 1) 0 [(task : Int)]
def uses (M : Mdl) (op b : Int) (task : Nat) : Bool := (reach M task).any fun x => (M.units.getD x.toNat default).code.any fun i => decide (i.op = op) && decide (i.a = b)
def users (M : Mdl) (op b : Int) : Nat := ((List.range M.units.length).filter fun k => decide ((M.units.getD k default).kind = 4) && uses M op b k).length
def owned (M : Mdl) : Nat → Nat → Where
  | _, 0 => .ok
  | b, n + 1 => if 1 < users M 26 b ∨ 1 < users M 27 b then ⟨8, 0, b⟩ else owned M (b + 1) n
def verify (M : Mdl) : Where :=
  if (form M).err ≠ 0 then form M
  else if (codes M 0 M.units.length).err ≠ 0 then codes M 0 M.units.length
  else owned M 0 M.boxes.length
end Go.Proofs.Ytgnhfinabhimpaa.Ver

/- Package verify, walked: what is asked of types, units, instructions, heads. -/
namespace Go.Proofs.Ytgnhfinabhimpaa.Vw
open Go.RowKit Go.Proofs.Ytgnhfinabhimpaa.Img
set_option linter.unusedVariables false
set_option linter.unusedSimpArgs false
attribute [local irreducible] Run Cod End OpT Still RunQ RunS RunT Fn PutOk

/-- a checker, and its module's variable -/
abbrev ck (cb mb : Nat) (m : ML) : List Chunk := [blk cb [.pointer (some ⟨mb, 0, none⟩)] 53, blk mb [.slice m.bo m.bx.length m.bc, .slice m.uo m.us.length m.uc] 25]
abbrev ptr (b : Nat) : Value := .pointer (some ⟨b, 0, none⟩)
theorem bool_eq {a b : Bool} (h : a = b) : Value.bool a = Value.bool b := by rw [h]
theorem int_eq {k : IntKind} {a b : Int} (h : a = b) : Value.int k a = Value.int k b := by rw [h]

set_option maxRecDepth 100000 in
theorem plain_is (t : Int) : Fn Try.prog 27 #[.int .i64 t] [] [] (σ := Unit) (fun _ => True) (fun _ => .bool (Ver.plain t)) (fun _ => []) := by
  refine Fn.enter (args := [.int .i64 t]) Try.func27 rfl _ Try.ntmps27 rfl (by simp [rd_excl, md_excl]) (fun w S => ?_)
  (try conv => rhs; simp only [List.cons_append, List.nil_append])
  repeat' (first | refine go (k := ?_) | (refine goB (k := ?_); intro b) | (refine goA (k := ?_); intro ao cap) | refine goQ (k := fun h => ?_) (k' := fun h => ?_) | fail)
  all_goals ((refine End.done1_ (()) (he := by refine bool_eq ?_; (first | (simp [Ver.plain, *]; done) | (simp [Ver.plain]; omega) | (rw [Bool.eq_iff_iff]; simp [Ver.plain]; omega) | (simp [Ver.plain, *]; intros; omega))) (hp := ?_)); trivial)

set_option maxRecDepth 100000 in
theorem unit_is (cb mb : Nat) (m : ML) (i k : Int) : Fn Try.prog 60 #[ptr cb, .int .i64 i, .int .i64 k] [md m] (ck cb mb m) (σ := Unit) (fun _ => True) (fun _ => .bool (Ver.isUnit m.mdl i k)) (fun _ => ck cb mb m) := by
  refine Fn.enter (args := [ptr cb, .int .i64 i, .int .i64 k]) Try.func60 rfl _ Try.ntmps60 rfl (by simp [rd_excl, md_excl]) (fun w S => ?_)
  (try conv => rhs; simp only [List.cons_append, List.nil_append])
  repeat' (first | refine go (k := ?_) | (refine goB (k := ?_); intro b) | (refine goA (k := ?_); intro ao cap) | refine goQ (k := fun h => ?_) (k' := fun h => ?_) | fail)
  all_goals ((refine End.done1_ (()) (he := by refine bool_eq ?_; (first | (simp [Ver.isUnit, getD_u, *]; done) | (simp [Ver.isUnit, getD_u]; omega) | (rw [Bool.eq_iff_iff]; simp [Ver.isUnit, getD_u]; omega) | (simp [Ver.isUnit, getD_u, *]; intros; omega))) (hp := ?_)); trivial)

set_option maxRecDepth 100000 in
theorem handle_is (cb mb : Nat) (m : ML) (t : Int) (ht : ImgM.In64 t) : Fn Try.prog 59 #[ptr cb, .int .i64 t] [md m] (ck cb mb m) (σ := Unit) (fun _ => True) (fun _ => .bool (Ver.handle m.mdl t)) (fun _ => ck cb mb m) := by
  unfold ImgM.In64 at ht
  refine Fn.enter (args := [ptr cb, .int .i64 t]) Try.func59 rfl _ Try.ntmps59 rfl (by simp [rd_excl, md_excl]) (fun w S => ?_)
  (try conv => rhs; simp only [List.cons_append, List.nil_append])
  repeat' (first | ((first | (apply Run.op; exact rfl) | refine Run.yes_ (h := ?_)); refine OpT.call0_ (spec := unit_is cb mb m _ _) (k := ?_); intro s hs; (try conv => rhs; simp only [List.cons_append, List.nil_append])) | refine go (k := ?_) | (refine goB (k := ?_); intro b) | (refine goA (k := ?_); intro ao cap) | refine goQ (k := fun h => ?_) (k' := fun h => ?_) | fail)
  all_goals ((refine End.done1_ (()) (he := by refine bool_eq ?_; (first | (simp [Ver.handle, *]; done) | (simp [Ver.handle]; omega) | (rw [Bool.eq_iff_iff]; simp [Ver.handle]; omega) | (simp [Ver.handle, *]; intros; omega))) (hp := ?_)); trivial)

set_option maxRecDepth 100000 in
theorem head1_is (cb mb pb : Nat) (m : ML) (t : Int) (ht : ImgM.In64 t) : Fn Try.prog 58 #[.int .i64 t, ptr pb] [md m] (blk pb [ptr cb] 50 :: ck cb mb m) (σ := Unit) (fun _ => True) (fun _ => .bool (!Ver.plain t && !Ver.handle m.mdl t)) (fun _ => blk pb [ptr cb] 50 :: ck cb mb m) := by
  refine Fn.enter (args := [.int .i64 t, ptr pb]) Try.func58 rfl _ Try.ntmps58 rfl (by simp [rd_excl, md_excl]) (fun w S => ?_)
  (try conv => rhs; simp only [List.cons_append, List.nil_append])
  repeat' (first | ((first | (apply Run.op; exact rfl) | refine Run.yes_ (h := ?_)); refine OpT.call0_ (spec := plain_is _) (k := ?_); intro s hs; (try conv => rhs; simp only [List.cons_append, List.nil_append])) | ((first | (apply Run.op; exact rfl) | refine Run.yes_ (h := ?_)); refine OpT.call0_ (spec := handle_is cb mb m _ ht) (k := ?_); intro s hs; (try conv => rhs; simp only [List.cons_append, List.nil_append])) | refine go (k := ?_) | (refine goB (k := ?_); intro b) | (refine goA (k := ?_); intro ao cap) | refine goQ (k := fun h => ?_) (k' := fun h => ?_) | fail)
  all_goals ((refine End.done1_ (()) (he := by refine bool_eq ?_; (first | (simp [*]; done) | (simp []; omega) | (rw [Bool.eq_iff_iff]; simp []; omega) | (simp [*]; intros; omega))) (hp := ?_)); trivial)
end Go.Proofs.Ytgnhfinabhimpaa.Vw

/- Package stacks, walked by the new rules, for a stack of the virtual machine: room for 8 words at least, for 400 at most. -/
namespace Go.Proofs.Ytgnhfinabhimpaa.Vw
open Go.RowKit Go.Proofs.Ytgnhfinabhimpaa.Img
set_option linter.unusedVariables false
set_option linter.unusedSimpArgs false
attribute [local irreducible] Run Cod End OpT Still RunQ RunS RunT Fn PutOk
/-- a stack: its block, its row's block, the row, how many of it are words -/
structure Sk where
  sb : Nat
  lb : Nat
  l : List Int
  live : Nat
instance : Inhabited Sk := ⟨⟨0, 0, [], 0⟩⟩
structure Sk.Ok (k : Sk) : Prop where
  live : k.live ≤ k.l.length
  lo : 8 ≤ k.l.length
  hi : k.l.length ≤ 400
abbrev Sk.ws (k : Sk) : List Int := k.l.take k.live
abbrev skC (k : Sk) : List Value := [.slice (some ⟨k.lb, 0, none⟩) k.l.length k.l.length, .int .i64 (k.live : Int), .int .i64 8, .int .i64 400]
abbrev skM (k : Sk) : List Chunk := [blk k.sb (skC k) 145, arr (some ⟨k.lb, 0, none⟩) k.l.length k.l.length 2 i64c k.l]
set_option maxRecDepth 100000 in
theorem live_is (k : Sk) : Fn Try.prog 74 #[ptr k.sb] [] (skM k) (σ := Unit) (fun _ => True) (fun _ => .int .i64 (k.live : Int)) (fun _ => skM k) := by
  refine Fn.enter (args := [ptr k.sb]) Try.func74 rfl _ Try.ntmps74 rfl (by simp [rd_excl, md_excl]) (fun w S => ?_)
  (try conv => rhs; simp only [List.cons_append, List.nil_append])
  repeat (first | refine go (k := ?_) | (refine goB (k := ?_); intro b) | (refine goA (k := ?_); intro ao cap))
  (refine End.done1_ (()) (he := by (first | exact rfl | (refine congrArg (Value.int _) ?_; omega) | (refine congrArg (Value.int _) ?_; dsimp only; omega))) (hp := ?_))
  trivial
set_option maxRecDepth 100000 in
theorem at_is (k : Sk) (i : Nat) (hi : i < k.l.length) (h4 : k.l.length ≤ 400) : Fn Try.prog 41 #[ptr k.sb, .int .i64 (i : Int)] [] (skM k) (σ := Unit) (fun _ => True) (fun _ => .pointer (place (sz i64c) (some ⟨k.lb, 0, none⟩) i 0)) (fun _ => skM k) := by
  refine Fn.enter (args := [ptr k.sb, .int .i64 (i : Int)]) Try.func41 rfl _ Try.ntmps41 rfl (by simp [rd_excl, md_excl]) (fun w S => ?_)
  (try conv => rhs; simp only [List.cons_append, List.nil_append])
  repeat (first | refine go (k := ?_) | (refine goB (k := ?_); intro b) | (refine goA (k := ?_); intro ao cap))
  (refine End.done1_ (()) (he := by (first | exact rfl | (refine congrArg (Value.int _) ?_; omega) | (refine congrArg (Value.int _) ?_; dsimp only; omega))) (hp := ?_))
  trivial
set_option maxRecDepth 100000 in
theorem sized_is (k : Sk) (hk : k.Ok) (n : Nat) (h1 : k.live ≤ n) (h8 : 8 ≤ n) (h4 : n ≤ 400) : Fn Try.prog 92 #[ptr k.sb, .int .i64 (n : Int)] [] (skM k) (σ := Nat) (fun _ => True) (fun _ => .tuple #[]) (fun b => skM ⟨k.sb, b, k.ws ++ List.replicate (n - k.live) 0, k.live⟩) := by
  obtain ⟨g1, g2, g3⟩ := hk
  obtain ⟨sb, lb, l, live⟩ := k
  simp only at *
  refine Fn.enter (args := [ptr sb, .int .i64 (n : Int)]) Try.func92 rfl _ Try.ntmps92 rfl (by simp [rd_excl, md_excl]) (fun w S => ?_)
  (try conv => rhs; simp only [List.cons_append, List.nil_append])
  repeat (first | refine go (k := ?_) | (refine goB (k := ?_); intro b) | (refine goA (k := ?_); intro ao cap))
  apply Run.op (by exact rfl)
  refine OpT.makeSlice_ (f := i64c) (iα := inferInstance) (ef := inferInstance) (z := 0) (n := n) (k := ?_)
  intro nb
  repeat (first | refine go (k := ?_) | (refine goB (k := ?_); intro b) | (refine goA (k := ?_); intro ao cap))
  apply Cod.draw 10 ([blk sb [.slice (some ⟨lb, 0, none⟩) l.length l.length, .int .i64 (live : Int), .int .i64 8, .int .i64 400] 145]) (by kernel_rfl) 11 rfl
  refine RunT.takeR_ 0 (h := ?_)
  refine RunT.takeR_ 1 (h := ?_)
  refine RunT.takeR_ 2 (h := ?_)
  refine RunT.takeR_ 3 (h := ?_)
  refine RunT.takeR_ 4 (h := ?_)
  refine RunT.takeR_ 5 (h := ?_)
  refine RunT.takeR_ 6 (h := ?_)
  refine RunT.takeR_ 7 (h := ?_)
  refine RunT.takeR_ 8 (h := ?_)
  refine RunT.one_ 9 (h := ?_)
  refine OpT.cutV_ (f := i64c) (e := 2) (l := l) (k := ?_)
  intro ao' cap' hcut
  refine And.intro gud ?_
  refine RunT.one_ 10 (h := ?_)
  refine OpT.copyZ_ (l := List.replicate n 0) (l2 := (l.take live).drop 0) (m := live - 0) (hr := hcut _ (by (first | (apply Rdb.arr; focus ((repeat (first | exact Take.head | apply Take.tail)); done)) | (apply Rdb.rd; focus ((repeat (first | exact Take.head | apply Take.tail)); done)) | (apply Rdb.md_units; focus ((repeat (first | exact Take.head | apply Take.tail)); done)) | (apply Rdb.md_boxes; focus ((repeat (first | exact Take.head | apply Take.tail)); done)) | (apply Rdb.md_code; (focus ((repeat (first | exact Take.head | apply Take.tail)); done)); (focus (first | assumption | omega))) | (apply Rdb.md_locals; (focus ((repeat (first | exact Take.head | apply Take.tail)); done)); (focus (first | assumption | omega))) | (apply Rdb.old; (focus assumption); (focus ((repeat (first | exact Take.head | apply Take.tail)); done)))))) (k := ?_)
  refine And.intro gud ?_
  (apply RunT.done; kernel_rfl)
  repeat (first | refine go (k := ?_) | (refine goB (k := ?_); intro b) | (refine goA (k := ?_); intro ao cap))
  have e1 : (l.take live).drop 0 ++ (List.replicate n (0 : Int)).drop (live - 0) = l.take live ++ List.replicate (n - live) 0 := by simp
  rw [e1]
  have e2 : (l.take live ++ List.replicate (n - live) 0).length = n := by simp; omega
  refine End.done0'_ nb (ht := by rw [show skM ⟨sb, nb, (⟨sb, lb, l, live⟩ : Sk).ws ++ List.replicate (n - live) 0, live⟩ = [blk sb [.slice (some ⟨nb, 0, none⟩) n n, .int .i64 (live : Int), .int .i64 8, .int .i64 400] 145, arr (some ⟨nb, 0, none⟩) n n 2 i64c (l.take live ++ List.replicate (n - live) 0)] by simp only [skM, skC, Sk.ws, e2]]; exact tks) (hp := trivial)
end Go.Proofs.Ytgnhfinabhimpaa.Vw

/- Package stacks, walked by the new rules: pushing, popping, all words, a new one. -/
namespace Go.Proofs.Ytgnhfinabhimpaa.Vw
open Go.RowKit Go.Proofs.Ytgnhfinabhimpaa.Img
set_option linter.unusedVariables false
set_option linter.unusedSimpArgs false
attribute [local irreducible] Run Cod End OpT Still RunQ RunS RunT Fn PutOk
/-- the same stack, with other words -/
structure SkTo (k k' : Sk) (xs : List Int) : Prop where
  ok : k'.Ok
  sb : k'.sb = k.sb
  ws : k'.ws = xs
  live : k'.live = xs.length
theorem take_app_len {a b : List Int} {n : Nat} (h : a.length = n) : (a ++ b).take n = a := by subst h; simp
theorem Sk.len {k : Sk} (h : k.Ok) : k.ws.length = k.live := by
  have := h.live
  simp; omega
set_option maxRecDepth 100000 in
set_option maxHeartbeats 1000000 in
theorem push_stk (k : Sk) (hk : k.Ok) (v : Int) : Fn Try.prog 73 #[ptr k.sb, .int .i64 v] [] (skM k) (σ := Sk) (fun k' => if k.live = 400 then k' = k else SkTo k k' (k.ws ++ [v])) (fun _ => .bool (!decide (k.live = 400))) (fun k' => skM k') := by
  have hwl := Sk.len hk
  obtain ⟨g1, g2, g3⟩ := id hk
  refine Fn.enter (args := [ptr k.sb, .int .i64 v]) Try.func73 rfl _ Try.ntmps73 rfl (by simp [rd_excl, md_excl]) (fun w S => ?_)
  (try conv => rhs; simp only [List.cons_append, List.nil_append])
  by_cases h4 : k.live = 400
  · repeat (first | refine go (k := ?_) | (refine goB (k := ?_); intro b) | (refine goA (k := ?_); intro ao cap))
    refine End.done1_ k (he := by rw [decide_eq_true h4]; rfl) (hp := ?_)
    rw [if_pos h4]
  · refine Cod.imp (L' := old w S :: skM k) (fun w hm => hm) ?_
    have key : ∀ (k2 : Sk), k2.Ok → k2.sb = k.sb → k2.ws = k.ws → k2.live = k.live → k2.live < k2.l.length → SkTo k { k2 with l := k2.l.set k2.live v, live := k2.live + 1 } (k.ws ++ [v]) := fun k2 a1 a2 a3 a4 a5 => by
      obtain ⟨b1, b2, b3⟩ := a1
      refine ⟨⟨by simp; omega, by simpa using b2, by simpa using b3⟩, a2, ?_, by simp; omega⟩
      show (k2.l.set k2.live v).take (k2.live + 1) = k.ws ++ [v]
      rw [← a3]
      have hl : (k2.l.set k2.live v).length = k2.l.length := by simp
      rw [List.take_succ_eq_append_getElem (by omega), List.getElem_set_self]
      congr 1
      rw [List.take_set_of_le (Nat.le_refl _)]
    by_cases hf : k.live = k.l.length
    · have hmin : (if (400 : Int) < 2 * (k.l.length : Int) then 400 else 2 * (k.l.length : Int)) = ((min (2 * k.l.length) 400 : Nat) : Int) := by split <;> omega
      repeat (first | refine go (k := ?_) | (refine goB (k := ?_); intro b) | (refine goA (k := ?_); intro ao cap))
      apply Cod.draw 12 ([blk k.sb (skC k) 145]) (by kernel_rfl) 13 rfl
      refine RunT.takeR_ 0 (h := ?_)
      refine RunT.takeR_ 1 (h := ?_)
      refine RunT.takeR_ 2 (h := ?_)
      refine RunT.takeR_ 3 (h := ?_)
      refine RunT.takeR_ 4 (h := ?_)
      refine RunT.takeR_ 5 (h := ?_)
      refine RunT.takeR_ 6 (h := ?_)
      refine RunT.takeR_ 7 (h := ?_)
      refine RunT.takeR_ 8 (h := ?_)
      refine RunT.takeR_ 9 (h := ?_)
      refine RunT.takeR_ 10 (h := ?_)
      refine RunT.takeR_ 11 (hy := by exact Still.imin rfl rfl hmin) (h := ?_)
      (refine RunT.one_ 12 (h := ?_); refine OpT.call0_ (spec := sized_is k hk (min (2 * k.l.length) 400) (by omega) (by omega) (by omega)) (k := ?_); intro s hs; refine And.intro gud ?_; (try conv => rhs; simp only [List.cons_append, List.nil_append]))
      obtain ⟨k2, e2⟩ : ∃ k2 : Sk, k2 = ⟨k.sb, s, k.ws ++ List.replicate (min (2 * k.l.length) 400 - k.live) 0, k.live⟩ := ⟨_, rfl⟩
      have hk2l : k2.l.length = min (2 * k.l.length) 400 := by rw [e2]; simp at hwl ⊢; omega
      have hk2 := key k2 ⟨by rw [hk2l, e2]; simp only; omega, by omega, by omega⟩ (by rw [e2]) (by rw [e2]; exact take_app_len hwl) (by rw [e2]) (by rw [hk2l, e2]; simp only; omega)
      have hlv : k2.live < k2.l.length := by rw [hk2l, e2]; simp only; omega
      rw [← e2]
      have e2b : s = k2.lb := by rw [e2]
      have e2l : k.ws ++ List.replicate (min (2 * k.l.length) 400 - k.live) 0 = k2.l := by rw [e2]
      rw [e2b, e2l]
      have hsb : k.sb = k2.sb := by rw [e2]
      have hok2 : k2.live ≤ 400 := by rw [e2]; simp only; omega
      rw [hsb]
      (apply RunT.done; kernel_rfl)
      repeat (first | refine go (k := ?_) | (refine goB (k := ?_); intro b) | (refine goA (k := ?_); intro ao cap))
      (apply Run.op; exact rfl; refine OpT.storeE_ (f := i64c) (l := k2.l) (i := k2.live) (off := 0) (vs := [.int .i64 v]) (a' := v) (k := ?_))
      repeat (first | refine go (k := ?_) | (refine goB (k := ?_); intro b) | (refine goA (k := ?_); intro ao cap))
      have hle : (k2.l.set k2.live v).length = k2.l.length := List.length_set
      refine End.done1_ ({ k2 with l := k2.l.set k2.live v, live := k2.live + 1 } : Sk) (he := by rw [decide_eq_false h4]; rfl) (ht := by (simp only [skM, skC, hle]; exact tks)) (hp := ?_)
      rw [if_neg h4]
      exact hk2
    · have hk2 := key k hk rfl rfl rfl (by omega)
      repeat (first | refine go (k := ?_) | (refine goB (k := ?_); intro b) | (refine goA (k := ?_); intro ao cap))
      (apply Run.op; exact rfl; refine OpT.storeE_ (f := i64c) (l := k.l) (i := k.live) (off := 0) (vs := [.int .i64 v]) (a' := v) (k := ?_))
      repeat (first | refine go (k := ?_) | (refine goB (k := ?_); intro b) | (refine goA (k := ?_); intro ao cap))
      have hle : (k.l.set k.live v).length = k.l.length := List.length_set
      refine End.done1_ ({ k with l := k.l.set k.live v, live := k.live + 1 } : Sk) (he := by rw [decide_eq_false h4]; rfl) (ht := by (simp only [skM, skC, hle]; exact tks)) (hp := ?_)
      rw [if_neg h4]
      exact hk2
end Go.Proofs.Ytgnhfinabhimpaa.Vw

/- Package stacks, walked by the new rules: popping, all words, a new one. -/
namespace Go.Proofs.Ytgnhfinabhimpaa.Vw
open Go.RowKit Go.Proofs.Ytgnhfinabhimpaa.Img
set_option linter.unusedVariables false
set_option linter.unusedSimpArgs false
attribute [local irreducible] Run Cod End OpT Still RunQ RunS RunT Fn PutOk
set_option maxRecDepth 100000 in
set_option maxHeartbeats 1000000 in
theorem pop_stk (k : Sk) (hk : k.Ok) (n : Nat) (hn : n ≤ k.live) : Fn Try.prog 75 #[ptr k.sb, .int .i64 (n : Int)] [] (skM k) (σ := Sk) (fun k' => SkTo k k' (k.ws.take (k.live - n))) (fun _ => .tuple #[]) (fun k' => skM k') := by
  have hwl := Sk.len hk
  obtain ⟨g1, g2, g3⟩ := id hk
  have q4 : IntKind.i64.wrap ((k.l.length : Int).tdiv 4) = ((k.l.length / 4 : Nat) : Int) := by rw [Int.tdiv_eq_ediv_of_nonneg (by omega), wrap_i64_in (by omega)]; omega
  have q2 : IntKind.i64.wrap ((k.l.length : Int).tdiv 2) = ((k.l.length / 2 : Nat) : Int) := by rw [Int.tdiv_eq_ediv_of_nonneg (by omega), wrap_i64_in (by omega)]; omega
  have s1 : IntKind.i64.wrap ((k.live : Int) - (n : Int)) = ((k.live - n : Nat) : Int) := by rw [wrap_i64_in (by omega)]; omega
  obtain ⟨k1, e1⟩ : ∃ k1 : Sk, k1 = ⟨k.sb, k.lb, k.l, k.live - n⟩ := ⟨_, rfl⟩
  have hk1 : SkTo k k1 (k.ws.take (k.live - n)) := ⟨by rw [e1]; exact ⟨by simp only; omega, g2, g3⟩, by rw [e1], by rw [e1]; simp only [Sk.ws, List.take_take]; congr 1; omega, by rw [e1]; simp; omega⟩
  have hl1 : k1.l.length = k.l.length := by rw [e1]
  have hv1 : k1.live = k.live - n := by rw [e1]
  refine Fn.enter (args := [ptr k.sb, .int .i64 (n : Int)]) Try.func75 rfl _ Try.ntmps75 rfl (by simp [rd_excl, md_excl]) (fun w S => ?_)
  (try conv => rhs; simp only [List.cons_append, List.nil_append])
  by_cases h4 : k.live - n ≤ k.l.length / 4
  · by_cases h8 : 8 < k.l.length
    · have hmax : (if ((k.l.length / 2 : Nat) : Int) < 8 then 8 else ((k.l.length / 2 : Nat) : Int)) = ((max (k.l.length / 2) 8 : Nat) : Int) := by split <;> omega
      repeat (first | refine go (k := ?_) | (refine goB (k := ?_); intro b) | (refine goA (k := ?_); intro ao cap))
      apply Cod.draw 12 ([blk k.sb [.slice (some ⟨k.lb, 0, none⟩) k.l.length k.l.length, .int .i64 ((k.live - n : Nat) : Int), .int .i64 8, .int .i64 400] 145]) (by kernel_rfl) 13 rfl
      refine RunT.takeR_ 0 (h := ?_)
      refine RunT.takeR_ 1 (h := ?_)
      refine RunT.takeR_ 2 (h := ?_)
      refine RunT.takeR_ 3 (h := ?_)
      refine RunT.takeR_ 4 (h := ?_)
      refine RunT.takeR_ 5 (h := ?_)
      refine RunT.takeR_ 6 (h := ?_)
      refine RunT.takeR_ 7 (h := ?_)
      refine RunT.takeR_ 8 (h := ?_)
      refine RunT.takeR_ 9 (h := ?_)
      refine RunT.takeR_ 10 (h := ?_)
      refine RunT.takeR_ 11 (hy := by exact Still.imax rfl rfl hmax) (h := ?_)
      have e2 : k1.sb = k.sb := by rw [e1]
      have e3 : k1.lb = k.lb := by rw [e1]
      have e4 : k1.l = k.l := by rw [e1]
      rw [← hv1, ← e2, ← e3, ← e4]
      (refine RunT.one_ 12 (h := ?_); refine OpT.call0_ (spec := sized_is k1 hk1.ok (max (k1.l.length / 2) 8) (by omega) (by omega) (by omega)) (k := ?_); intro s hs; refine And.intro gud ?_; (try conv => rhs; simp only [List.cons_append, List.nil_append]))
      (apply RunT.done; kernel_rfl)
      repeat (first | refine go (k := ?_) | (refine goB (k := ?_); intro b) | (refine goA (k := ?_); intro ao cap))
      have hlen : k1.ws.length = k1.live := Sk.len hk1.ok
      refine End.done0'_ (⟨k1.sb, s, k1.ws ++ List.replicate (max (k1.l.length / 2) 8 - k1.live) 0, k1.live⟩ : Sk) (hp := ?_)
      rw [← hv1] at hk1
      exact ⟨⟨by simp; omega, by simp; omega, by simp; omega⟩, hk1.sb, by rw [← hk1.ws]; exact take_app_len hlen, hk1.live⟩
    · repeat (first | refine go (k := ?_) | (refine goB (k := ?_); intro b) | (refine goA (k := ?_); intro ao cap))
      refine End.done0'_ (⟨k.sb, k.lb, k.l, k.live - n⟩ : Sk) (hp := ?_)
      rw [← e1]; exact hk1
  · repeat (first | refine go (k := ?_) | (refine goB (k := ?_); intro b) | (refine goA (k := ?_); intro ao cap))
    refine End.done0'_ (⟨k.sb, k.lb, k.l, k.live - n⟩ : Sk) (hp := ?_)
    rw [← e1]; exact hk1
set_option maxRecDepth 100000 in
theorem words_stk (k : Sk) (hk : k.Ok) : Fn Try.prog 93 #[ptr k.sb] [] (skM k) (σ := Option Addr × Nat) (fun _ => True) (fun s => .slice s.1 k.live s.2) (fun s => arr s.1 k.live s.2 2 i64c k.ws :: skM k) := by
  have hwl := Sk.len hk
  obtain ⟨g1, g2, g3⟩ := id hk
  refine Fn.enter (args := [ptr k.sb]) Try.func93 rfl _ Try.ntmps93 rfl (by simp [rd_excl, md_excl]) (fun w S => ?_)
  (try conv => rhs; simp only [List.cons_append, List.nil_append])
  apply Cod.seqN
  apply Cod.region
  (apply Run.op; exact rfl; refine OpT.val_ (k := ?_))
  apply Run.nil
  apply End.seqN
  apply Cod.seqN
  apply Cod.imp (fun w hm => hm.nilArr 2 i64c)
  apply Cod.draw 9 (skM k) (by kernel_rfl) 11 rfl
  refine RunT.takeR_ 0 (h := ?_)
  refine RunT.takeR_ 1 (h := ?_)
  refine RunT.takeR_ 2 (h := ?_)
  refine RunT.takeR_ 3 (h := ?_)
  refine RunT.takeR_ 4 (h := ?_)
  refine RunT.takeR_ 5 (h := ?_)
  refine RunT.takeR_ 6 (h := ?_)
  refine RunT.takeR_ 7 (h := ?_)
  refine RunT.one_ 8 (h := ?_)
  refine OpT.cutV_ (f := i64c) (e := 2) (l := k.l) (k := ?_)
  intro ao' cap' hcut
  refine And.intro gud ?_
  refine RunT.one_ 9 (h := ?_)
  refine OpT.appendS_ (l := []) (l2 := k.ws) (hr := hcut _ (by (first | (apply Rdb.arr; focus ((repeat (first | exact Take.head | apply Take.tail)); done)) | (apply Rdb.rd; focus ((repeat (first | exact Take.head | apply Take.tail)); done)) | (apply Rdb.md_units; focus ((repeat (first | exact Take.head | apply Take.tail)); done)) | (apply Rdb.md_boxes; focus ((repeat (first | exact Take.head | apply Take.tail)); done)) | (apply Rdb.md_code; (focus ((repeat (first | exact Take.head | apply Take.tail)); done)); (focus (first | assumption | omega))) | (apply Rdb.md_locals; (focus ((repeat (first | exact Take.head | apply Take.tail)); done)); (focus (first | assumption | omega))) | (apply Rdb.old; (focus assumption); (focus ((repeat (first | exact Take.head | apply Take.tail)); done)))))) (k := ?_)
  intro ao2 cap2
  refine And.intro gud ?_
  rw [show 0 + (k.live - 0) = k.live by omega, List.nil_append]
  refine RunT.one_ 10 (h := OpT.val_ (k := And.intro gud ?_))
  (apply RunT.done; kernel_rfl)
  repeat (first | refine go (k := ?_) | (refine goB (k := ?_); intro b) | (refine goA (k := ?_); intro ao cap))
  refine End.done1_ (ao2, cap2) (he := by rfl) (hp := trivial)
set_option maxRecDepth 100000 in
theorem new_stk : Fn Try.prog 72 #[.int .i64 8, .int .i64 400] [] [] (σ := Sk) (fun k => k.Ok ∧ k.ws = [] ∧ k.live = 0) (fun k => ptr k.sb) (fun k => skM k) := by
  refine Fn.enter (args := [.int .i64 8, .int .i64 400]) Try.func72 rfl _ Try.ntmps72 rfl (by simp [rd_excl, md_excl]) (fun w S => ?_)
  (try conv => rhs; simp only [List.cons_append, List.nil_append])
  repeat (first | refine go (k := ?_) | (refine goB (k := ?_); intro b) | (refine goA (k := ?_); intro ao cap))
  apply Run.op (by exact rfl)
  refine OpT.makeSlice_ (f := i64c) (iα := inferInstance) (ef := inferInstance) (z := 0) (n := 8) (k := ?_)
  intro nb
  repeat (first | refine go (k := ?_) | (refine goB (k := ?_); intro b) | (refine goA (k := ?_); intro ao cap))
  refine End.done1_ (⟨b, nb, List.replicate 8 0, 0⟩ : Sk) (he := by rfl) (hp := ?_)
  exact ⟨⟨by simp, by simp, by simp⟩, rfl, rfl⟩
end Go.Proofs.Ytgnhfinabhimpaa.Vw

/- Steps of what package verify computes, one by one: plain Lean. -/
namespace Go.Proofs.Ytgnhfinabhimpaa.Ver
set_option linter.unusedVariables false
open ImgM

theorem boxes_1 {i : Nat} {b : Int × Int} {r} (h : plain b.1 = false) : boxes i (b :: r) = ⟨9, 0, i⟩ := by unfold boxes; rw [if_pos h]
theorem boxes_2 {i : Nat} {b : Int × Int} {r} (h : plain b.1 = true) (h2 : b.2 < 1 ∨ 20 < b.2) : boxes i (b :: r) = ⟨3, 0, i⟩ := by unfold boxes; rw [if_neg (by rw [h]; decide), if_pos h2]
theorem boxes_3 {i : Nat} {b : Int × Int} {r} (h : plain b.1 = true) (h2 : ¬(b.2 < 1 ∨ 20 < b.2)) : boxes i (b :: r) = boxes (i + 1) r := by
  conv => lhs; unfold boxes
  rw [if_neg (by rw [h]; decide), if_neg h2]
theorem instrs_1 {M : Mdl} {u : Unt} {k j : Nat} {i : Ins} {r} (h : ¬ instr M u i = 0) : instrs M u k j (i :: r) = ⟨instr M u i, k, j⟩ := by unfold instrs; rw [if_pos h]
theorem instrs_2 {M : Mdl} {u : Unt} {k j : Nat} {i : Ins} {r} (h : instr M u i = 0) : instrs M u k j (i :: r) = instrs M u k (j + 1) r := by
  conv => lhs; unfold instrs
  rw [if_neg (fun h' => h' h)]
theorem unit_1 {M : Mdl} {k : Nat} {u : Unt} (h : ¬ head M u = 0) : unit M k u = ⟨head M u, k, 0⟩ := by unfold unit; rw [if_pos h]
theorem unit_2 {M : Mdl} {k : Nat} {u : Unt} (h : head M u = 0) : unit M k u = instrs M u k 0 u.code := by unfold unit; rw [if_neg (fun h' => h' h)]
theorem units_1 {M : Mdl} {k : Nat} {u : Unt} {r} (h : ¬ (unit M k u).err = 0) : units M k (u :: r) = unit M k u := by unfold units; rw [if_pos h]
theorem units_2 {M : Mdl} {k : Nat} {u : Unt} {r} (h : (unit M k u).err = 0) : units M k (u :: r) = units M (k + 1) r := by
  conv => lhs; unfold units
  rw [if_neg (fun h' => h' h)]
theorem form_1 {M : Mdl} (h : 30 < M.boxes.length ∨ 30 < M.units.length) : form M = ⟨5, 0, 0⟩ := by unfold form; rw [if_pos h]
theorem form_2 {M : Mdl} {w : Where} (h : ¬(30 < M.boxes.length ∨ 30 < M.units.length)) (hb : boxes 0 M.boxes = w) (he : ¬ w.err = 0) : form M = w := by unfold form; rw [if_neg h, hb, if_pos he]
theorem form_3 {M : Mdl} {w : Where} (h : ¬(30 < M.boxes.length ∨ 30 < M.units.length)) (hb : (boxes 0 M.boxes).err = 0) (hu : units M 0 M.units = w) (he : ¬ w.err = 0) : form M = w := by
  unfold form; rw [if_neg h, if_neg (fun h' => h' hb), hu, if_pos he]
theorem form_4 {M : Mdl} (h : ¬(30 < M.boxes.length ∨ 30 < M.units.length)) (hb : (boxes 0 M.boxes).err = 0) (hu : (units M 0 M.units).err = 0) (ht : (M.units.filter (fun u => decide (u.kind = 4))).length = 0) : form M = ⟨6, 0, 0⟩ := by
  unfold form; rw [if_neg h, if_neg (fun h' => h' hb), if_neg (fun h' => h' hu), if_pos ht]
theorem form_5 {M : Mdl} (h : ¬(30 < M.boxes.length ∨ 30 < M.units.length)) (hb : (boxes 0 M.boxes).err = 0) (hu : (units M 0 M.units).err = 0) (ht : ¬ (M.units.filter (fun u => decide (u.kind = 4))).length = 0) : form M = ⟨0, 0, 0⟩ := by
  unfold form; rw [if_neg h, if_neg (fun h' => h' hb), if_neg (fun h' => h' hu), if_neg ht]; rfl
theorem tasks_snoc {l : List Unt} {u : Unt} {t : Nat} (ht : t = (l.filter (fun u => decide (u.kind = 4))).length) : ((l ++ [u]).filter (fun u => decide (u.kind = 4))).length = if u.kind = 4 then t + 1 else t := by
  rw [List.filter_append, List.length_append, ← ht]
  by_cases h : u.kind = 4 <;> simp [h]
end Go.Proofs.Ytgnhfinabhimpaa.Ver
