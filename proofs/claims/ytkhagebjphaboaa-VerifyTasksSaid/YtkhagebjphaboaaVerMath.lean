/- What package verify computes, in plain Lean. -/
import Derived.Test.YtkhagebjphaboaaImgMath
namespace Go.Proofs.Ytkhagebjphaboaa.Ver
set_option linter.unusedVariables false
open ImgM

def plain (t : Int) : Bool := decide (t = 1) || decide (t = 2)
def isUnit (M : Mdl) (i kind : Int) : Bool := decide (0 ≤ i) && decide (i < (M.units.length : Int)) && decide ((M.units.getD i.toNat default).kind = kind)
def handle (M : Mdl) (t : Int) : Bool := decide (10 ≤ t) && isUnit M (t - 10) 3
def rng (b : Bool) : Int := if b then 0 else 3
/-- what is wrong with an instruction's form -/
def instr (M : Mdl) (u : Unt) (i : Ins) : Int :=
  if i.op = 2 then rng (decide (i.a = 0) || decide (i.a = 1))
  else if i.op = 3 ∨ i.op = 4 then rng (decide (0 ≤ i.a) && decide (i.a < (u.locals.length : Int)))
  else if i.op = 21 ∨ i.op = 22 then rng (decide (0 ≤ i.a) && decide (i.a < (u.code.length : Int)))
  else if i.op = 23 then rng (isUnit M i.a 2)
  else if i.op = 29 then rng (isUnit M i.a 3)
  else if i.op = 26 ∨ i.op = 27 then rng (decide (0 ≤ i.a) && decide (i.a < (M.boxes.length : Int)))
  else if i.op < 1 ∨ 32 < i.op then 1 else 0
/-- what is wrong with a unit ahead of its code -/
def head (M : Mdl) (u : Unt) : Int :=
  if u.kind ≠ 2 ∧ u.kind ≠ 3 ∧ u.kind ≠ 4 then 1
  else if 200 < u.locals.length ∨ u.params < 0 ∨ 6 < u.params ∨ (u.locals.length : Int) < u.params ∨ (u.kind = 4 ∧ 0 < u.params) then 5
  else if u.code.length < 1 ∨ 4000 < u.code.length then 5
  else if (u.kind ≠ 4 ∧ plain u.result = false) ∨ (u.kind = 3 ∧ plain u.takes = false) then 9
  else if u.locals.any (fun t => !plain t && !handle M t) then 9
  else 0
structure Where where
  err : Int
  unit : Int
  at_ : Int
deriving DecidableEq, Inhabited
def Where.ok : Where := ⟨0, 0, 0⟩
/-- the first box that is wrong -/
def boxes : Nat → List (Int × Int) → Where
  | _, [] => .ok
  | i, b :: r => if plain b.1 = false then ⟨9, 0, i⟩ else if b.2 < 1 ∨ 20 < b.2 then ⟨3, 0, i⟩ else boxes (i + 1) r
/-- the first instruction that is wrong -/
def instrs (M : Mdl) (u : Unt) (k : Nat) : Nat → List Ins → Where
  | _, [] => .ok
  | j, i :: r => if instr M u i ≠ 0 then ⟨instr M u i, k, j⟩ else instrs M u k (j + 1) r
def unit (M : Mdl) (k : Nat) (u : Unt) : Where := if head M u ≠ 0 then ⟨head M u, k, 0⟩ else instrs M u k 0 u.code
/-- the first unit that is wrong -/
def units (M : Mdl) : Nat → List Unt → Where
  | _, [] => .ok
  | k, u :: r => if (unit M k u).err ≠ 0 then unit M k u else units M (k + 1) r
def form (M : Mdl) : Where :=
  if 30 < M.boxes.length ∨ 30 < M.units.length then ⟨5, 0, 0⟩
  else if (boxes 0 M.boxes).err ≠ 0 then boxes 0 M.boxes
  else if (units M 0 M.units).err ≠ 0 then units M 0 M.units
  else if (M.units.filter (fun u => decide (u.kind = 4))).length = 0 then ⟨6, 0, 0⟩
  else .ok

/-- what is known at an instruction -/
abbrev Shape := List Int × List Bool
/-- a unit's code, while it is looked through -/
structure Flow where
  at_ : List (Int × Shape)
  todo : List Int
  stack : List Int
  has : List Bool
  err : Int
deriving Inhabited, DecidableEq
def find (l : List (Int × Shape)) (k : Int) : Option Shape := (l.find? (fun p => decide (p.1 = k))).map (·.2)
def put : List (Int × Shape) → Int → Shape → List (Int × Shape)
  | [], k, s => [(k, s)]
  | p :: r, k, s => if p.1 = k then (p.1, s) :: r else p :: put r k s
def fail (e : Int) (f : Flow) : Flow := if f.err = 0 then { f with err := e } else f
def push (t : Int) (f : Flow) : Flow := if 300 < f.stack.length + 1 then fail 4 { f with stack := f.stack ++ [t] } else { f with stack := f.stack ++ [t] }
def pop (f : Flow) : Int × Flow := if f.stack.length = 0 then (0, fail 12 f) else (f.stack.getD (f.stack.length - 1) 0, { f with stack := f.stack.take (f.stack.length - 1) })
def want1 (t : Int) (f : Flow) : Flow := if (pop f).1 ≠ t then fail 9 (pop f).2 else (pop f).2
/-- the last one is on top -/
def want (l : List Int) (f : Flow) : Flow := l.foldr want1 f
def meet : List Bool → List Bool → List Bool
  | a :: r, b :: s => (a && b) :: meet r s
  | _, _ => []
def to (n : Nat) (p : Int) (f : Flow) : Flow :=
  if f.err ≠ 0 then f
  else if p = (n : Int) then fail 3 f
  else match find f.at_ p with
    | none => { f with at_ := f.at_ ++ [(p, (f.stack, f.has))], todo := f.todo ++ [p] }
    | some s => if s.1 ≠ f.stack then fail 8 f else if meet s.2 f.has = s.2 then f else { f with at_ := put f.at_ p (s.1, meet s.2 f.has), todo := f.todo ++ [p] }
def args (M : Mdl) (k : Int) (f : Flow) : Flow := want ((M.units.getD k.toNat default).locals.take (M.units.getD k.toNat default).params.toNat) f
/-- the unit that a generator's handle tells of -/
def gen (M : Mdl) (f : Flow) : Option Int × Flow :=
  if (pop f).2.err ≠ 0 then (none, (pop f).2)
  else if handle M (pop f).1 = false then (none, fail 9 (pop f).2)
  else (some ((pop f).1 - 10), (pop f).2)
def done (f : Flow) : Flow := if f.stack.length = 0 then f else fail 12 f
def special (M : Mdl) (u : Unt) (i : Ins) (f : Flow) : Bool × Flow :=
  if i.op = 23 then (true, push (M.units.getD i.a.toNat default).result (args M i.a f))
  else if i.op = 29 then (true, push (10 + i.a) (args M i.a f))
  else if i.op = 24 then (false, done (want [u.result] (if u.kind ≠ 2 then fail 8 f else f)))
  else if i.op = 25 then (false, done (if u.kind = 2 then fail 8 f else f))
  else if i.op = 26 then (true, want [(M.boxes.getD i.a.toNat default).1] f)
  else if i.op = 27 then (true, push (M.boxes.getD i.a.toNat default).1 f)
  else if i.op = 28 then (true, if (pop f).2.err = 0 ∧ plain (pop f).1 = false then fail 9 (pop f).2 else (pop f).2)
  else if i.op = 30 then (true, match gen M (pop f).2 with
    | (none, g) => g
    | (some k, g) => push (M.units.getD k.toNat default).result (if (pop f).1 ≠ (M.units.getD k.toNat default).takes then fail 9 g else g))
  else if i.op = 31 then (true, push u.takes (want [u.result] (if u.kind ≠ 3 then fail 8 f else f)))
  else if i.op = 32 then (true, push 2 (gen M f).2)
  else (true, f)
def step (M : Mdl) (u : Unt) (i : Ins) (f : Flow) : Bool × Flow :=
  if i.op = 1 then (true, push 1 f)
  else if i.op = 2 then (true, push 2 f)
  else if i.op = 3 then (true, push (u.locals.getD i.a.toNat 0) (if f.has.getD i.a.toNat false then f else fail 11 f))
  else if i.op = 4 then (true, { want [u.locals.getD i.a.toNat 0] f with has := (want [u.locals.getD i.a.toNat 0] f).has.set i.a.toNat true })
  else if i.op = 5 then (true, (pop f).2)
  else if i.op = 6 then (true, push 1 (want [1] f))
  else if i.op = 7 then (true, push 2 (want [2] f))
  else if 8 ≤ i.op ∧ i.op ≤ 12 then (true, push 1 (want [1, 1] f))
  else if i.op = 13 ∨ i.op = 14 then (true, push 2 (want [(pop f).1] (if (pop f).1 ≠ 1 ∧ (pop f).1 ≠ 2 then fail 9 (pop f).2 else (pop f).2)))
  else if 15 ≤ i.op ∧ i.op ≤ 18 then (true, push 2 (want [1, 1] f))
  else if i.op = 19 ∨ i.op = 20 then (true, push 2 (want [2, 2] f))
  else if i.op = 21 then (false, to u.code.length i.a f)
  else if i.op = 22 then (true, to u.code.length i.a (want [2] f))
  else special M u i f
/-- a round of a unit's code: what is wrong, or how it goes on -/
def round (M : Mdl) (u : Unt) (p : Int) (r : List Int) (f : Flow) : Flow :=
  let s := (find f.at_ p).getD ([], [])
  let g := step M u (u.code.getD p.toNat default) { f with todo := r, stack := s.1, has := s.2 }
  if g.1 then to u.code.length (p + 1) g.2 else g.2
def run (M : Mdl) (u : Unt) (k : Nat) : Nat → Flow → Where
  | 0, _ => .ok
  | n + 1, f => match f.todo with
    | [] => .ok
    | p :: r => if (round M u p r f).err ≠ 0 then ⟨(round M u p r f).err, k, p⟩ else run M u k n (round M u p r f)
/-- how many rounds there may be -/
def most (u : Unt) : Nat := 2 * (u.code.length * (u.locals.length + 1)) + 1
def start (u : Unt) : Flow := to u.code.length 0 ⟨[], [], [], (List.replicate u.params.toNat true ++ List.replicate (u.locals.length - u.params.toNat) false), 0⟩
def code (M : Mdl) (k : Nat) : Where := run M (M.units.getD k default) k (most (M.units.getD k default)) (start (M.units.getD k default))
def codes (M : Mdl) : Nat → Nat → Where
  | _, 0 => .ok
  | k, n + 1 => if (code M k).err ≠ 0 then code M k else codes M (k + 1) n

/-- the units that code calls or starts -/
def calls (l : List Ins) (out : List Int) : List Int := l.foldl (fun out i => if (i.op = 23 ∨ i.op = 29) ∧ i.a ∉ out then out ++ [i.a] else out) out
def reachRun (M : Mdl) : Nat → Nat → List Int → List Int
  | 0, _, out => out
  | n + 1, k, out => if k < out.length then reachRun M n (k + 1) (calls (M.units.getD (out.getD k 0).toNat default).code out) else out
def reach (M : Mdl) (task : Nat) : List Int := reachRun M (M.units.length + 1) 0 [(task : Int)]
def uses (M : Mdl) (op b : Int) (task : Nat) : Bool := (reach M task).any fun x => (M.units.getD x.toNat default).code.any fun i => decide (i.op = op) && decide (i.a = b)
def users (M : Mdl) (op b : Int) : Nat := ((List.range M.units.length).filter fun k => decide ((M.units.getD k default).kind = 4) && uses M op b k).length
def owned (M : Mdl) : Nat → Nat → Where
  | _, 0 => .ok
  | b, n + 1 => if 1 < users M 26 b ∨ 1 < users M 27 b then ⟨8, 0, b⟩ else owned M (b + 1) n
def verify (M : Mdl) : Where :=
  if (form M).err ≠ 0 then form M
  else if (codes M 0 M.units.length).err ≠ 0 then codes M 0 M.units.length
  else owned M 0 M.boxes.length
end Go.Proofs.Ytkhagebjphaboaa.Ver
