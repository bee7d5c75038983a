/- Plain mathematics of modules as bytes: numbers by sevens, a check sum of 16 bits. Nothing of the program stands here. -/
namespace Go.Proofs.Ytfeajpghabjaaaa.ImgM

/-- an instruction, a unit, a module -/
structure Ins where
  op : Int
  a : Int
  n : Int
structure Unt where
  kind : Int
  params : Int
  locals : List Int
  result : Int
  takes : Int
  code : List Ins
structure Mdl where
  boxes : List (Int × Int)
  units : List Unt

/-- 0, -1, 1, -2 as 0, 1, 2, 3 -/
def zig (n : Int) : Nat := if n < 0 then (-2 * n - 1).toNat else (2 * n).toNat
def In64 (n : Int) : Prop := -9223372036854775808 ≤ n ∧ n ≤ 9223372036854775807
/-- seven bits a byte, the lowest ones first -/
def leb (x : Nat) : List Nat := if x < 128 then [x] else (x % 128 + 128) :: leb (x / 128)
termination_by x
decreasing_by omega
def num (n : Int) : List Nat := leb (zig n)
def nums (l : List Int) : List Nat := l.flatMap num
/-- the numbers of an instruction, a unit, a module -/
def insN (i : Ins) : List Int := [i.op, i.a, i.n]
def codeN (l : List Ins) : List Int := l.flatMap insN
def untN (u : Unt) : List Int := [u.kind, u.params] ++ ((u.locals.length : Int) :: u.locals) ++ [u.result, u.takes, (u.code.length : Int)] ++ codeN u.code
def boxN (b : Int × Int) : List Int := [b.1, b.2]
def mdlN (m : Mdl) : List Int := (m.boxes.length : Int) :: m.boxes.flatMap boxN ++ (m.units.length : Int) :: m.units.flatMap untN
def body (m : Mdl) : List Nat := nums (mdlN m)

instance : Inhabited Ins := ⟨⟨0, 0, 0⟩⟩
instance : Inhabited Unt := ⟨⟨0, 0, [], 0, 0, []⟩⟩
/-- the register of 16 bits -/
def bit1 (y : BitVec 16) : BitVec 16 := if y.toNat / 32768 = 1 then (y <<< 1) ^^^ 4129#16 else y <<< 1
def bitN : Nat → BitVec 16 → BitVec 16
  | 0, x => x
  | n + 1, x => bit1 (bitN n x)
def byte1 (x : BitVec 16) (c : Nat) : BitVec 16 := bitN 8 (x ^^^ BitVec.ofNat 16 (c * 256))
def crcFrom (x : BitVec 16) (l : List Nat) : BitVec 16 := l.foldl byte1 x
def crc (l : List Nat) : Nat := (crcFrom 65535#16 l).toNat
/-- the whole -/
def bytes (m : Mdl) : List Nat := body m ++ [crc (body m) / 256, crc (body m) % 256]

end Go.Proofs.Ytfeajpghabjaaaa.ImgM

/- What package verify computes, in plain Lean. -/
namespace Go.Proofs.Ytfeajpghabjaaaa.Ver
set_option linter.unusedVariables false
open ImgM

def plain (t : Int) : Bool := decide (t = 1) || decide (t = 2)
def isUnit (M : Mdl) (i kind : Int) : Bool := decide (0 ≤ i) && decide (i < (M.units.length : Int)) && decide ((M.units.getD i.toNat default).kind = kind)
def handle (M : Mdl) (t : Int) : Bool := decide (10 ≤ t) && isUnit M (t - 10) 3
def rng (b : Bool) : Int := if b then 0 else 3
/-- what is wrong with an instruction's form -/
def instr (M : Mdl) (u : Unt) (i : Ins) : Int :=
  if i.op = 2 then rng (decide (i.a = 0) || decide (i.a = 1))
  else if i.op = 3 ∨ i.op = 4 then rng (decide (0 ≤ i.a) && decide (i.a < (u.locals.length : Int)))
  else if i.op = 21 ∨ i.op = 22 then rng (decide (0 ≤ i.a) && decide (i.a < (u.code.length : Int)))
  else if i.op = 23 then rng (isUnit M i.a 2)
  else if i.op = 29 then rng (isUnit M i.a 3)
  else if i.op = 26 ∨ i.op = 27 then rng (decide (0 ≤ i.a) && decide (i.a < (M.boxes.length : Int)))
  else if i.op < 1 ∨ 32 < i.op then 1 else 0
/-- what is wrong with a unit ahead of its code -/
def head (M : Mdl) (u : Unt) : Int :=
  if u.kind ≠ 2 ∧ u.kind ≠ 3 ∧ u.kind ≠ 4 then 1
  else if 200 < u.locals.length ∨ u.params < 0 ∨ 6 < u.params ∨ (u.locals.length : Int) < u.params ∨ (u.kind = 4 ∧ 0 < u.params) then 5
  else if u.code.length < 1 ∨ 4000 < u.code.length then 5
  else if (u.kind ≠ 4 ∧ plain u.result = false) ∨ (u.kind = 3 ∧ plain u.takes = false) then 9
  else if u.locals.any (fun t => !plain t && !handle M t) then 9
  else 0
structure Where where
  err : Int
  unit : Int
  at_ : Int
deriving DecidableEq, Inhabited
def Where.ok : Where := ⟨0, 0, 0⟩
/-- the first box that is wrong -/
def boxes : Nat → List (Int × Int) → Where
  | _, [] => .ok
  | i, b :: r => if plain b.1 = false then ⟨9, 0, i⟩ else if b.2 < 1 ∨ 20 < b.2 then ⟨3, 0, i⟩ else boxes (i + 1) r
/-- the first instruction that is wrong -/
def instrs (M : Mdl) (u : Unt) (k : Nat) : Nat → List Ins → Where
  | _, [] => .ok
  | j, i :: r => if instr M u i ≠ 0 then ⟨instr M u i, k, j⟩ else instrs M u k (j + 1) r
def unit (M : Mdl) (k : Nat) (u : Unt) : Where := if head M u ≠ 0 then ⟨head M u, k, 0⟩ else instrs M u k 0 u.code
/-- the first unit that is wrong -/
def units (M : Mdl) : Nat → List Unt → Where
  | _, [] => .ok
  | k, u :: r => if (unit M k u).err ≠ 0 then unit M k u else units M (k + 1) r
def form (M : Mdl) : Where :=
  if 30 < M.boxes.length ∨ 30 < M.units.length then ⟨5, 0, 0⟩
  else if (boxes 0 M.boxes).err ≠ 0 then boxes 0 M.boxes
  else if (units M 0 M.units).err ≠ 0 then units M 0 M.units
  else if (M.units.filter (fun u => decide (u.kind = 4))).length = 0 then ⟨6, 0, 0⟩
  else .ok

/-- what is known at an instruction -/
abbrev Shape := List Int × List Bool
/-- a unit's code, while it is looked through -/
structure Flow where
  at_ : List (Int × Shape)
  todo : List Int
  stack : List Int
  has : List Bool
  err : Int
deriving Inhabited, DecidableEq
def find (l : List (Int × Shape)) (k : Int) : Option Shape := (l.find? (fun p => decide (p.1 = k))).map (·.2)
def put : List (Int × Shape) → Int → Shape → List (Int × Shape)
  | [], k, s => [(k, s)]
  | p :: r, k, s => if p.1 = k then (p.1, s) :: r else p :: put r k s
def fail (e : Int) (f : Flow) : Flow := if f.err = 0 then { f with err := e } else f
def push (t : Int) (f : Flow) : Flow := if 300 < f.stack.length + 1 then fail 4 { f with stack := f.stack ++ [t] } else { f with stack := f.stack ++ [t] }
def pop (f : Flow) : Int × Flow := if f.stack.length = 0 then (0, fail 12 f) else (f.stack.getD (f.stack.length - 1) 0, { f with stack := f.stack.take (f.stack.length - 1) })
def want1 (t : Int) (f : Flow) : Flow := if (pop f).1 ≠ t then fail 9 (pop f).2 else (pop f).2
/-- the last one is on top -/
def want (l : List Int) (f : Flow) : Flow := l.foldr want1 f
def meet : List Bool → List Bool → List Bool
  | a :: r, b :: s => (a && b) :: meet r s
  | _, _ => []
def to (n : Nat) (p : Int) (f : Flow) : Flow :=
  if f.err ≠ 0 then f
  else if p = (n : Int) then fail 3 f
  else match find f.at_ p with
    | none => { f with at_ := f.at_ ++ [(p, (f.stack, f.has))], todo := f.todo ++ [p] }
    | some s => if s.1 ≠ f.stack then fail 8 f else if meet s.2 f.has = s.2 then f else { f with at_ := put f.at_ p (s.1, meet s.2 f.has), todo := f.todo ++ [p] }
def args (M : Mdl) (k : Int) (f : Flow) : Flow := want ((M.units.getD k.toNat default).locals.take (M.units.getD k.toNat default).params.toNat) f
/-- the unit that a generator's handle tells of -/
def gen (M : Mdl) (f : Flow) : Option Int × Flow :=
  if (pop f).2.err ≠ 0 then (none, (pop f).2)
  else if handle M (pop f).1 = false then (none, fail 9 (pop f).2)
  else (some ((pop f).1 - 10), (pop f).2)
def done (f : Flow) : Flow := if f.stack.length = 0 then f else fail 12 f
def special (M : Mdl) (u : Unt) (i : Ins) (f : Flow) : Bool × Flow :=
  if i.op = 23 then (true, push (M.units.getD i.a.toNat default).result (args M i.a f))
  else if i.op = 29 then (true, push (10 + i.a) (args M i.a f))
  else if i.op = 24 then (false, done (want [u.result] (if u.kind ≠ 2 then fail 8 f else f)))
  else if i.op = 25 then (false, done (if u.kind = 2 then fail 8 f else f))
  else if i.op = 26 then (true, want [(M.boxes.getD i.a.toNat default).1] f)
  else if i.op = 27 then (true, push (M.boxes.getD i.a.toNat default).1 f)
  else if i.op = 28 then (true, if (pop f).2.err = 0 ∧ plain (pop f).1 = false then fail 9 (pop f).2 else (pop f).2)
  else if i.op = 30 then (true, match gen M (pop f).2 with
    | (none, g) => g
    | (some k, g) => push (M.units.getD k.toNat default).result (if (pop f).1 ≠ (M.units.getD k.toNat default).takes then fail 9 g else g))
  else if i.op = 31 then (true, push u.takes (want [u.result] (if u.kind ≠ 3 then fail 8 f else f)))
  else if i.op = 32 then (true, push 2 (gen M f).2)
  else (true, f)
def step (M : Mdl) (u : Unt) (i : Ins) (f : Flow) : Bool × Flow :=
  if i.op = 1 then (true, push 1 f)
  else if i.op = 2 then (true, push 2 f)
  else if i.op = 3 then (true, push (u.locals.getD i.a.toNat 0) (if f.has.getD i.a.toNat false then f else fail 11 f))
  else if i.op = 4 then (true, { want [u.locals.getD i.a.toNat 0] f with has := (want [u.locals.getD i.a.toNat 0] f).has.set i.a.toNat true })
  else if i.op = 5 then (true, (pop f).2)
  else if i.op = 6 then (true, push 1 (want [1] f))
  else if i.op = 7 then (true, push 2 (want [2] f))
  else if 8 ≤ i.op ∧ i.op ≤ 12 then (true, push 1 (want [1, 1] f))
  else if i.op = 13 ∨ i.op = 14 then (true, push 2 (want [(pop f).1] (if (pop f).1 ≠ 1 ∧ (pop f).1 ≠ 2 then fail 9 (pop f).2 else (pop f).2)))
  else if 15 ≤ i.op ∧ i.op ≤ 18 then (true, push 2 (want [1, 1] f))
  else if i.op = 19 ∨ i.op = 20 then (true, push 2 (want [2, 2] f))
  else if i.op = 21 then (false, to u.code.length i.a f)
  else if i.op = 22 then (true, to u.code.length i.a (want [2] f))
  else special M u i f
/-- a round of a unit's code: what is wrong, or how it goes on -/
def round (M : Mdl) (u : Unt) (p : Int) (r : List Int) (f : Flow) : Flow :=
  let s := (find f.at_ p).getD ([], [])
  let g := step M u (u.code.getD p.toNat default) { f with todo := r, stack := s.1, has := s.2 }
  if g.1 then to u.code.length (p + 1) g.2 else g.2
def run (M : Mdl) (u : Unt) (k : Nat) : Nat → Flow → Where
  | 0, _ => .ok
  | n + 1, f => match f.todo with
    | [] => .ok
    | p :: r => if (round M u p r f).err ≠ 0 then ⟨(round M u p r f).err, k, p⟩ else run M u k n (round M u p r f)
/-- how many rounds there may be -/
def most (u : Unt) : Nat := 2 * (u.code.length * (u.locals.length + 1)) + 1
def start (u : Unt) : Flow := to u.code.length 0 ⟨[], [], [], (List.replicate u.params.toNat true ++ List.replicate (u.locals.length - u.params.toNat) false), 0⟩
def code (M : Mdl) (k : Nat) : Where := run M (M.units.getD k default) k (most (M.units.getD k default)) (start (M.units.getD k default))
def codes (M : Mdl) : Nat → Nat → Where
  | _, 0 => .ok
  | k, n + 1 => if (code M k).err ≠ 0 then code M k else codes M (k + 1) n

/-- the units that code calls or starts -/
def calls (l : List Ins) (out : List Int) : List Int := l.foldl (fun out i => if (i.op = 23 ∨ i.op = 29) ∧ i.a ∉ out then out ++ [i.a] else out) out
def reachRun (M : Mdl) : Nat → Nat → List Int → List Int
  | 0, _, out => out
  | n + 1, k, out => if k < out.length then reachRun M n (k + 1) (calls (M.units.getD (out.getD k 0).toNat default).code out) else out
def reach (M : Mdl) (task : Nat) : List Int := reachRun M (M.units.length + 1) 0 [(task : Int)]
def uses (M : Mdl) (op b : Int) (task : Nat) : Bool := (reach M task).any fun x => (M.units.getD x.toNat default).code.any fun i => decide (i.op = op) && decide (i.a = b)
def users (M : Mdl) (op b : Int) : Nat := ((List.range M.units.length).filter fun k => decide ((M.units.getD k default).kind = 4) && uses M op b k).length
def owned (M : Mdl) : Nat → Nat → Where
  | _, 0 => .ok
  | b, n + 1 => if 1 < users M 26 b ∨ 1 < users M 27 b then ⟨8, 0, b⟩ else owned M (b + 1) n
def verify (M : Mdl) : Where :=
  if (form M).err ≠ 0 then form M
  else if (codes M 0 M.units.length).err ≠ 0 then codes M 0 M.units.length
  else owned M 0 M.boxes.length
end Go.Proofs.Ytfeajpghabjaaaa.Ver

/- Steps of what package verify computes, one by one: plain Lean. -/
namespace Go.Proofs.Ytfeajpghabjaaaa.Ver
set_option linter.unusedVariables false
open ImgM

theorem boxes_1 {i : Nat} {b : Int × Int} {r} (h : plain b.1 = false) : boxes i (b :: r) = ⟨9, 0, i⟩ := by unfold boxes; rw [if_pos h]
theorem boxes_2 {i : Nat} {b : Int × Int} {r} (h : plain b.1 = true) (h2 : b.2 < 1 ∨ 20 < b.2) : boxes i (b :: r) = ⟨3, 0, i⟩ := by unfold boxes; rw [if_neg (by rw [h]; decide), if_pos h2]
theorem boxes_3 {i : Nat} {b : Int × Int} {r} (h : plain b.1 = true) (h2 : ¬(b.2 < 1 ∨ 20 < b.2)) : boxes i (b :: r) = boxes (i + 1) r := by
  conv => lhs; unfold boxes
  rw [if_neg (by rw [h]; decide), if_neg h2]
theorem instrs_1 {M : Mdl} {u : Unt} {k j : Nat} {i : Ins} {r} (h : ¬ instr M u i = 0) : instrs M u k j (i :: r) = ⟨instr M u i, k, j⟩ := by unfold instrs; rw [if_pos h]
theorem instrs_2 {M : Mdl} {u : Unt} {k j : Nat} {i : Ins} {r} (h : instr M u i = 0) : instrs M u k j (i :: r) = instrs M u k (j + 1) r := by
  conv => lhs; unfold instrs
  rw [if_neg (fun h' => h' h)]
theorem unit_1 {M : Mdl} {k : Nat} {u : Unt} (h : ¬ head M u = 0) : unit M k u = ⟨head M u, k, 0⟩ := by unfold unit; rw [if_pos h]
theorem unit_2 {M : Mdl} {k : Nat} {u : Unt} (h : head M u = 0) : unit M k u = instrs M u k 0 u.code := by unfold unit; rw [if_neg (fun h' => h' h)]
theorem units_1 {M : Mdl} {k : Nat} {u : Unt} {r} (h : ¬ (unit M k u).err = 0) : units M k (u :: r) = unit M k u := by unfold units; rw [if_pos h]
theorem units_2 {M : Mdl} {k : Nat} {u : Unt} {r} (h : (unit M k u).err = 0) : units M k (u :: r) = units M (k + 1) r := by
  conv => lhs; unfold units
  rw [if_neg (fun h' => h' h)]
theorem form_1 {M : Mdl} (h : 30 < M.boxes.length ∨ 30 < M.units.length) : form M = ⟨5, 0, 0⟩ := by unfold form; rw [if_pos h]
theorem form_2 {M : Mdl} {w : Where} (h : ¬(30 < M.boxes.length ∨ 30 < M.units.length)) (hb : boxes 0 M.boxes = w) (he : ¬ w.err = 0) : form M = w := by unfold form; rw [if_neg h, hb, if_pos he]
theorem form_3 {M : Mdl} {w : Where} (h : ¬(30 < M.boxes.length ∨ 30 < M.units.length)) (hb : (boxes 0 M.boxes).err = 0) (hu : units M 0 M.units = w) (he : ¬ w.err = 0) : form M = w := by
  unfold form; rw [if_neg h, if_neg (fun h' => h' hb), hu, if_pos he]
theorem form_4 {M : Mdl} (h : ¬(30 < M.boxes.length ∨ 30 < M.units.length)) (hb : (boxes 0 M.boxes).err = 0) (hu : (units M 0 M.units).err = 0) (ht : (M.units.filter (fun u => decide (u.kind = 4))).length = 0) : form M = ⟨6, 0, 0⟩ := by
  unfold form; rw [if_neg h, if_neg (fun h' => h' hb), if_neg (fun h' => h' hu), if_pos ht]
theorem form_5 {M : Mdl} (h : ¬(30 < M.boxes.length ∨ 30 < M.units.length)) (hb : (boxes 0 M.boxes).err = 0) (hu : (units M 0 M.units).err = 0) (ht : ¬ (M.units.filter (fun u => decide (u.kind = 4))).length = 0) : form M = ⟨0, 0, 0⟩ := by
  unfold form; rw [if_neg h, if_neg (fun h' => h' hb), if_neg (fun h' => h' hu), if_neg ht]; rfl
theorem tasks_snoc {l : List Unt} {u : Unt} {t : Nat} (ht : t = (l.filter (fun u => decide (u.kind = 4))).length) : ((l ++ [u]).filter (fun u => decide (u.kind = 4))).length = if u.kind = 4 then t + 1 else t := by
  rw [List.filter_append, List.length_append, ← ht]
  by_cases h : u.kind = 4 <;> simp [h]
end Go.Proofs.Ytfeajpghabjaaaa.Ver

/- What package verify computes: what a unit's flow keeps, and that it comes to an end. Plain Lean. -/
namespace Go.Proofs.Ytfeajpghabjaaaa.Ver
set_option linter.unusedVariables false
set_option linter.unusedSimpArgs false
open ImgM

/-- the stack and the fault apart the same -/
structure Same (f g : Flow) : Prop where
  at_ : g.at_ = f.at_
  todo : g.todo = f.todo
  has : g.has = f.has
theorem Same.refl (f : Flow) : Same f f := ⟨rfl, rfl, rfl⟩
theorem Same.trans {f g h : Flow} (a : Same f g) (b : Same g h) : Same f h := ⟨b.at_.trans a.at_, b.todo.trans a.todo, b.has.trans a.has⟩
/-- the stack grows by one at most, and if it is too large there is a fault; what is on it are numbers of 64 bits; a fault stays -/
structure Kept (N : Nat) (f g : Flow) : Prop where
  same : Same f g
  len : g.stack.length ≤ N
  ty : (∀ t ∈ f.stack, In64 t) → ∀ t ∈ g.stack, In64 t
  err : ¬ f.err = 0 → g.err = f.err

theorem fail_kept (e : Int) (f : Flow) : Kept f.stack.length f (fail e f) := by
  unfold fail
  split
  · exact ⟨⟨rfl, rfl, rfl⟩, Nat.le_refl _, fun h => h, fun h => absurd ‹f.err = 0› h⟩
  · exact ⟨⟨rfl, rfl, rfl⟩, Nat.le_refl _, fun h => h, fun _ => rfl⟩
theorem fail_err (e : Int) (he : ¬ e = 0) (f : Flow) : ¬ (fail e f).err = 0 := by
  unfold fail
  split
  · exact he
  · assumption
theorem Kept.refl (f : Flow) : Kept f.stack.length f f := ⟨Same.refl f, Nat.le_refl _, fun h => h, fun _ => rfl⟩
theorem Kept.le {N M : Nat} {f g : Flow} (h : Kept N f g) (hm : N ≤ M) : Kept M f g := ⟨h.same, Nat.le_trans h.len hm, h.ty, h.err⟩
theorem Kept.trans {N M : Nat} {f g h : Flow} (a : Kept N f g) (b : Kept M g h) : Kept M f h :=
  ⟨a.same.trans b.same, b.len, fun t => b.ty (a.ty t), fun e => (b.err (by rw [a.err e]; exact e)).trans (a.err e)⟩
theorem pop_kept (f : Flow) : Kept f.stack.length f (pop f).2 := by
  unfold pop
  split
  · exact fail_kept _ _
  · exact ⟨⟨rfl, rfl, rfl⟩, by simp, fun h t ht => h t (List.mem_of_mem_take ht), fun _ => rfl⟩
theorem want1_kept (t : Int) (f : Flow) : Kept f.stack.length f (want1 t f) := by
  have h := pop_kept f
  unfold want1
  split
  · exact (h.trans (fail_kept 9 _)).le h.len
  · exact h
theorem want_kept (l : List Int) (f : Flow) : Kept f.stack.length f (want l f) := by
  induction l with
  | nil => exact Kept.refl f
  | cons t r ih => exact (ih.trans (want1_kept t _)).le ih.len
theorem push_kept (t : Int) (f : Flow) (ht : In64 t) : Kept (f.stack.length + 1) f (push t f) := by
  unfold push
  split
  · have h := fail_kept 4 { f with stack := f.stack ++ [t] }
    refine ⟨⟨h.same.at_, h.same.todo, h.same.has⟩, by have := h.len; simpa using this, fun hf => h.ty (fun u hu => ?_), h.err⟩
    rcases List.mem_append.1 hu with hu | hu
    · exact hf u hu
    · simp at hu; rw [hu]; exact ht
  · refine ⟨⟨rfl, rfl, rfl⟩, by simp, fun hf u hu => ?_, fun _ => rfl⟩
    rcases List.mem_append.1 hu with hu | hu
    · exact hf u hu
    · simp at hu; rw [hu]; exact ht
theorem push_ok (t : Int) (f : Flow) (h : (push t f).err = 0) : (push t f).stack.length ≤ 300 := by
  unfold push at h ⊢
  split
  · rename_i h1
    rw [if_pos h1] at h
    exact absurd h (fail_err 4 (by decide) _)
  · simp; omega
theorem args_kept (M : Mdl) (k : Int) (f : Flow) : Kept f.stack.length f (args M k f) := want_kept _ _
theorem gen_kept (M : Mdl) (f : Flow) : Kept f.stack.length f (gen M f).2 := by
  have h := pop_kept f
  unfold gen
  split
  · exact h
  split
  · exact (h.trans (fail_kept 9 _)).le h.len
  · exact h
theorem done_kept (f : Flow) : Kept f.stack.length f (done f) := by
  unfold done
  split
  · exact Kept.refl f
  · exact fail_kept _ _

/-- what a unit's code needs of its module -/
structure Good (M : Mdl) (u : Unt) : Prop where
  units : ∀ k, k < M.units.length → In64 (M.units.getD k default).result ∧ In64 (M.units.getD k default).takes
  boxes : ∀ k, k < M.boxes.length → In64 (M.boxes.getD k default).1
  locals : ∀ t ∈ u.locals, In64 t
  result : In64 u.result
  takes : In64 u.takes
  few : M.units.length ≤ 30
  code : ∀ i ∈ u.code, instr M u i = 0
theorem rng_eq {b : Bool} (h : rng b = 0) : b = true := by
  unfold rng at h
  split at h
  · assumption
  · cases h
theorem unit_eq {M : Mdl} {i kind : Int} (h : isUnit M i kind = true) : 0 ≤ i ∧ i < (M.units.length : Int) ∧ (M.units.getD i.toNat default).kind = kind := by
  simp only [isUnit, Bool.and_eq_true, decide_eq_true_eq] at h
  exact ⟨h.1.1, h.1.2, h.2⟩
/-- what an instruction's form says -/
structure InsOk (M : Mdl) (u : Unt) (i : Ins) : Prop where
  op : 1 ≤ i.op ∧ i.op ≤ 32
  loc : i.op = 3 ∨ i.op = 4 → 0 ≤ i.a ∧ i.a < (u.locals.length : Int)
  jump : i.op = 21 ∨ i.op = 22 → 0 ≤ i.a ∧ i.a < (u.code.length : Int)
  call : i.op = 23 → isUnit M i.a 2 = true
  start : i.op = 29 → isUnit M i.a 3 = true
  box : i.op = 26 ∨ i.op = 27 → 0 ≤ i.a ∧ i.a < (M.boxes.length : Int)
theorem instr_ok {M : Mdl} {u : Unt} {i : Ins} (h : instr M u i = 0) : InsOk M u i := by
  unfold instr at h
  by_cases h1 : i.op = 2
  · exact ⟨by omega, by omega, by omega, by omega, by omega, by omega⟩
  rw [if_neg h1] at h
  by_cases h2 : i.op = 3 ∨ i.op = 4
  · rw [if_pos h2] at h
    have := rng_eq h
    simp only [Bool.and_eq_true, decide_eq_true_eq] at this
    exact ⟨by omega, fun _ => this, by omega, by omega, by omega, by omega⟩
  rw [if_neg h2] at h
  by_cases h3 : i.op = 21 ∨ i.op = 22
  · rw [if_pos h3] at h
    have := rng_eq h
    simp only [Bool.and_eq_true, decide_eq_true_eq] at this
    exact ⟨by omega, by omega, fun _ => this, by omega, by omega, by omega⟩
  rw [if_neg h3] at h
  by_cases h4 : i.op = 23
  · rw [if_pos h4] at h
    exact ⟨by omega, by omega, by omega, fun _ => rng_eq h, by omega, by omega⟩
  rw [if_neg h4] at h
  by_cases h5 : i.op = 29
  · rw [if_pos h5] at h
    exact ⟨by omega, by omega, by omega, by omega, fun _ => rng_eq h, by omega⟩
  rw [if_neg h5] at h
  by_cases h6 : i.op = 26 ∨ i.op = 27
  · rw [if_pos h6] at h
    have := rng_eq h
    simp only [Bool.and_eq_true, decide_eq_true_eq] at this
    exact ⟨by omega, by omega, by omega, by omega, by omega, fun _ => this⟩
  rw [if_neg h6] at h
  by_cases h7 : i.op < 1 ∨ 32 < i.op
  · rw [if_pos h7] at h; cases h
  · exact ⟨by omega, by omega, by omega, by omega, by omega, by omega⟩

theorem getD_in {l : List Int} {k : Nat} (h : ∀ t ∈ l, In64 t) : In64 (l.getD k 0) := by
  rw [List.getD_eq_getElem?_getD]
  rcases Nat.lt_or_ge k l.length with hk | hk
  · rw [List.getElem?_eq_getElem hk]; exact h _ (List.getElem_mem _)
  · rw [List.getElem?_eq_none hk]; unfold In64; simp
theorem in1 : In64 1 := by unfold In64; omega
theorem in2 : In64 2 := by unfold In64; omega

/-- what a step that goes nowhere keeps -/
structure Stp (f g : Flow) : Prop where
  kept : Kept (f.stack.length + 1) f g
  ok : g.err = 0 → f.stack.length ≤ 300 → g.stack.length ≤ 300
theorem Stp.of {f g : Flow} (h : Kept f.stack.length f g) : Stp f g := ⟨h.le (Nat.le_succ _), fun _ hl => Nat.le_trans h.len hl⟩
theorem Stp.push {f g : Flow} (h : Kept f.stack.length f g) (t : Int) (ht : In64 t) : Stp f (push t g) :=
  ⟨(h.trans (push_kept t g ht)).le (Nat.succ_le_succ h.len), fun he _ => push_ok t g he⟩
theorem Kept.fail {f g : Flow} (h : Kept f.stack.length f g) (e : Int) : Kept f.stack.length f (fail e g) := (h.trans (fail_kept e g)).le h.len
theorem Kept.ite {f : Flow} {c : Prop} [Decidable c] {a b : Flow} (ha : Kept f.stack.length f a) (hb : Kept f.stack.length f b) : Kept f.stack.length f (if c then a else b) := by split <;> assumption
theorem Kept.want {f g : Flow} (h : Kept f.stack.length f g) (l : List Int) : Kept f.stack.length f (want l g) := (h.trans (want_kept l g)).le h.len
theorem Kept.done {f g : Flow} (h : Kept f.stack.length f g) : Kept f.stack.length f (done g) := (h.trans (done_kept g)).le h.len

theorem special_stp {M : Mdl} {u : Unt} (hg : Good M u) {i : Ins} (hi : InsOk M u i) (f : Flow) : Stp f (special M u i f).2 := by
  unfold special
  by_cases h1 : i.op = 23
  · rw [if_pos h1]
    obtain ⟨g1, g2, g3⟩ := unit_eq (hi.call h1)
    exact Stp.push (args_kept M _ f) _ (hg.units i.a.toNat (by omega)).1
  rw [if_neg h1]
  by_cases h2 : i.op = 29
  · rw [if_pos h2]
    obtain ⟨g1, g2, g3⟩ := unit_eq (hi.start h2)
    have := hg.few
    exact Stp.push (args_kept M _ f) _ (by unfold In64; omega)
  rw [if_neg h2]
  by_cases h3 : i.op = 24
  · rw [if_pos h3]; exact Stp.of (((Kept.refl f).fail 8 |>.ite (Kept.refl f)).want _ |>.done)
  rw [if_neg h3]
  by_cases h4 : i.op = 25
  · rw [if_pos h4]; exact Stp.of (((Kept.refl f).fail 8 |>.ite (Kept.refl f)).done)
  rw [if_neg h4]
  by_cases h5 : i.op = 26
  · rw [if_pos h5]; exact Stp.of ((Kept.refl f).want _)
  rw [if_neg h5]
  by_cases h6 : i.op = 27
  · rw [if_pos h6]
    have := hi.box (.inr h6)
    exact Stp.push (Kept.refl f) _ (hg.boxes i.a.toNat (by omega))
  rw [if_neg h6]
  by_cases h7 : i.op = 28
  · rw [if_pos h7]; exact Stp.of ((pop_kept f).fail 9 |>.ite (pop_kept f))
  rw [if_neg h7]
  by_cases h8 : i.op = 30
  · rw [if_pos h8]
    have hk := (pop_kept f).trans (gen_kept M (pop f).2)
    have hk' := hk.le (pop_kept f).len
    have hu : ∀ k, (gen M (pop f).2).1 = some k → 0 ≤ k ∧ k < (M.units.length : Int) := by
      unfold gen
      split
      · intro k h; cases h
      split
      · intro k h; cases h
      · intro k h
        rename_i h2
        simp only [Option.some.injEq] at h
        subst h
        have h3 : handle M (pop (pop f).2).1 = true := by simpa using h2
        simp only [handle, Bool.and_eq_true] at h3
        obtain ⟨q1, q2, -⟩ := unit_eq h3.2
        exact ⟨q1, q2⟩
    generalize gen M (pop f).2 = G at *
    obtain ⟨o, g⟩ := G
    cases o with
    | none => exact Stp.of hk'
    | some k =>
      have := hu k rfl
      exact Stp.push ((hk'.fail 9).ite hk') _ (hg.units k.toNat (by omega)).1
  rw [if_neg h8]
  by_cases h9 : i.op = 31
  · rw [if_pos h9]
    exact Stp.push (((Kept.refl f).fail 8 |>.ite (Kept.refl f)).want _) _ hg.takes
  rw [if_neg h9]
  by_cases h10 : i.op = 32
  · rw [if_pos h10]; exact Stp.push (gen_kept M f) _ in2
  rw [if_neg h10]
  exact Stp.of (Kept.refl f)

/-- what a step does, jumps apart -/
inductive StepIs (M : Mdl) (u : Unt) (i : Ins) (f : Flow) : Bool × Flow → Prop
  | plain {b : Bool} {g : Flow} : i.op ≠ 4 → i.op ≠ 21 → i.op ≠ 22 → Stp f g → StepIs M u i f (b, g)
  | store {g : Flow} : i.op = 4 → Kept f.stack.length f g → StepIs M u i f (true, { g with has := g.has.set i.a.toNat true })
  | jump : i.op = 21 → StepIs M u i f (false, to u.code.length i.a f)
  | els : i.op = 22 → StepIs M u i f (true, to u.code.length i.a (want [2] f))
theorem step_is {M : Mdl} {u : Unt} (hg : Good M u) {i : Ins} (hi : InsOk M u i) (f : Flow) : StepIs M u i f (step M u i f) := by
  unfold step
  by_cases h1 : i.op = 1
  · rw [if_pos h1]; exact .plain (by omega) (by omega) (by omega) (Stp.push (Kept.refl f) _ in1)
  rw [if_neg h1]
  by_cases h2 : i.op = 2
  · rw [if_pos h2]; exact .plain (by omega) (by omega) (by omega) (Stp.push (Kept.refl f) _ in2)
  rw [if_neg h2]
  by_cases h3 : i.op = 3
  · rw [if_pos h3]; exact .plain (by omega) (by omega) (by omega) (Stp.push (by split; exact Kept.refl f; exact (Kept.refl f).fail 11) _ (getD_in hg.locals))
  rw [if_neg h3]
  by_cases h4 : i.op = 4
  · rw [if_pos h4]; exact .store h4 ((Kept.refl f).want _)
  rw [if_neg h4]
  by_cases h5 : i.op = 5
  · rw [if_pos h5]; exact .plain (by omega) (by omega) (by omega) (Stp.of (pop_kept f))
  rw [if_neg h5]
  by_cases h6 : i.op = 6
  · rw [if_pos h6]; exact .plain (by omega) (by omega) (by omega) (Stp.push ((Kept.refl f).want _) _ in1)
  rw [if_neg h6]
  by_cases h7 : i.op = 7
  · rw [if_pos h7]; exact .plain (by omega) (by omega) (by omega) (Stp.push ((Kept.refl f).want _) _ in2)
  rw [if_neg h7]
  by_cases h8 : 8 ≤ i.op ∧ i.op ≤ 12
  · rw [if_pos h8]; exact .plain (by omega) (by omega) (by omega) (Stp.push ((Kept.refl f).want _) _ in1)
  rw [if_neg h8]
  by_cases h9 : i.op = 13 ∨ i.op = 14
  · rw [if_pos h9]; exact .plain (by omega) (by omega) (by omega) (Stp.push (((pop_kept f).fail 9 |>.ite (pop_kept f)).want _) _ in2)
  rw [if_neg h9]
  by_cases h10 : 15 ≤ i.op ∧ i.op ≤ 18
  · rw [if_pos h10]; exact .plain (by omega) (by omega) (by omega) (Stp.push ((Kept.refl f).want _) _ in2)
  rw [if_neg h10]
  by_cases h11 : i.op = 19 ∨ i.op = 20
  · rw [if_pos h11]; exact .plain (by omega) (by omega) (by omega) (Stp.push ((Kept.refl f).want _) _ in2)
  rw [if_neg h11]
  by_cases h12 : i.op = 21
  · rw [if_pos h12]; exact .jump h12
  rw [if_neg h12]
  by_cases h13 : i.op = 22
  · rw [if_pos h13]; exact .els h13
  rw [if_neg h13]
  have := special_stp hg hi f
  generalize special M u i f = G at *
  obtain ⟨b, g⟩ := G
  exact .plain h4 h12 h13 this
end Go.Proofs.Ytfeajpghabjaaaa.Ver

/- What package verify computes: a unit's flow comes to an end. Plain Lean. -/
namespace Go.Proofs.Ytfeajpghabjaaaa.Ver
set_option linter.unusedVariables false
set_option linter.unusedSimpArgs false
open ImgM

theorem find_nil (k : Int) : find [] k = none := rfl
theorem find_cons (p : Int × Shape) (l : List (Int × Shape)) (k : Int) : find (p :: l) k = if p.1 = k then some p.2 else find l k := by
  unfold find
  by_cases h : p.1 = k <;> simp [h]
theorem find_app (l : List (Int × Shape)) (p q : Int) (s : Shape) (h : find l p = none) : find (l ++ [(p, s)]) q = if p = q then some s else find l q := by
  induction l with
  | nil => simp [find_cons, find_nil]
  | cons a l ih =>
    rw [find_cons] at h
    by_cases ha : a.1 = p
    · rw [if_pos ha] at h; cases h
    · rw [if_neg ha] at h
      rw [List.cons_append, find_cons, find_cons, ih h]
      by_cases haq : a.1 = q
      · have : ¬ p = q := fun h => ha (by rw [haq, h])
        rw [if_pos haq, if_neg this, if_pos haq]
      · rw [if_neg haq, if_neg haq]
theorem find_put (l : List (Int × Shape)) (p q : Int) (s s0 : Shape) (h : find l p = some s0) : find (put l p s) q = if p = q then some s else find l q := by
  induction l with
  | nil => cases h
  | cons a l ih =>
    rw [find_cons] at h
    unfold put
    by_cases ha : a.1 = p
    · rw [if_pos ha, find_cons, find_cons]
      by_cases hpq : p = q
      · rw [if_pos (by rw [ha]; exact hpq), if_pos hpq]
      · rw [if_neg (by simp only; rw [ha]; exact hpq), if_neg hpq, if_neg (by rw [ha]; exact hpq)]
    · rw [if_neg ha] at h
      rw [if_neg ha, find_cons, find_cons, ih h]
      by_cases haq : a.1 = q
      · have : ¬ p = q := fun h => ha (by rw [haq, h])
        rw [if_pos haq, if_neg this, if_pos haq]
      · rw [if_neg haq, if_neg haq]

theorem meet_length : ∀ (a b : List Bool), a.length = b.length → (meet a b).length = a.length
  | [], [], _ => rfl
  | [], _ :: _, h => by cases h
  | _ :: _, [], h => by cases h
  | x :: a, y :: b, h => by simp [meet, meet_length a b (by simpa using h)]
theorem meet_count : ∀ (a b : List Bool), a.length = b.length → (meet a b).count true ≤ a.count true ∧ (¬ meet a b = a → (meet a b).count true < a.count true)
  | [], [], _ => ⟨Nat.le_refl _, fun h => absurd rfl h⟩
  | [], _ :: _, h => by cases h
  | _ :: _, [], h => by cases h
  | x :: a, y :: b, h => by
    obtain ⟨h1, h2⟩ := meet_count a b (by simpa using h)
    unfold meet
    cases x <;> cases y <;> simp only [Bool.and_true, Bool.and_false, Bool.true_and, Bool.false_and, List.count_cons, beq_self_eq_true, if_true]
    · exact ⟨by simpa using h1, fun hn => by have := h2 (fun e => hn (by rw [e])); simpa using this⟩
    · exact ⟨by simpa using h1, fun hn => by have := h2 (fun e => hn (by rw [e])); simpa using this⟩
    · refine ⟨by simp; omega, fun _ => by simp; omega⟩
    · exact ⟨by omega, fun hn => by have := h2 (fun e => hn (by rw [e])); omega⟩

/-- how much may still come about at a place -/
def weight (L : Nat) : Option Shape → Nat
  | none => L + 1
  | some s => s.2.count true
def room (n L : Nat) (l : List (Int × Shape)) : Nat := ((List.range n).map fun (p : Nat) => weight L (find l (p : Int))).sum
theorem room_nil (n L : Nat) : room n L [] = n * (L + 1) := by
  unfold room
  simp only [find_nil, weight]
  induction n with
  | zero => simp
  | succ n ih => rw [List.range_succ, List.map_append, List.sum_append, ih]; simp [Nat.add_mul]
theorem sum_le (g h : Nat → Nat) : ∀ (l : List Nat), (∀ p, g p ≤ h p) → (l.map g).sum ≤ (l.map h).sum
  | [], _ => Nat.le_refl _
  | a :: l, hle => by
    simp only [List.map_cons, List.sum_cons]
    have := sum_le g h l hle
    have := hle a
    omega
theorem sum_lt (g h : Nat → Nat) (p0 : Nat) (hlt : g p0 < h p0) : ∀ (l : List Nat), (∀ p, g p ≤ h p) → p0 ∈ l → (l.map g).sum < (l.map h).sum
  | [], _, hp => by cases hp
  | a :: l, hle, hp => by
    simp only [List.map_cons, List.sum_cons]
    have h1 := hle a
    have h2 := sum_le g h l hle
    rcases List.mem_cons.1 hp with rfl | hp
    · omega
    · have := sum_lt g h p0 hlt l hle hp
      omega
/-- what holds of a flow at all times; n: how many instructions; L: how many locals -/
structure Inv (n L : Nat) (f : Flow) : Prop where
  has : f.has.length = L
  ent : ∀ p s, find f.at_ p = some s → s.1.length ≤ 300 ∧ (∀ t ∈ s.1, In64 t) ∧ s.2.length = L
  todo : ∀ p ∈ f.todo, 0 ≤ p ∧ p < (n : Int) ∧ (find f.at_ p).isSome = true
theorem Inv.same {n L : Nat} {f g : Flow} (h : Inv n L f) (s : Same f g) : Inv n L g :=
  ⟨by rw [s.has]; exact h.has, by rw [s.at_]; exact h.ent, by rw [s.todo, s.at_]; exact h.todo⟩
/-- what going to a place does -/
structure Went (n L : Nat) (f g : Flow) : Prop where
  inv : Inv n L g
  stack : g.stack = f.stack
  has : g.has = f.has
  err : ¬ f.err = 0 → g.err = f.err
  mu : g.todo.length + room n L g.at_ ≤ f.todo.length + room n L f.at_
  old : ∀ p, (find f.at_ p).isSome = true → (find g.at_ p).isSome = true
theorem Went.refl {n L : Nat} {f : Flow} (h : Inv n L f) : Went n L f f := ⟨h, rfl, rfl, fun _ => rfl, Nat.le_refl _, fun _ h => h⟩
theorem fail_went {n L : Nat} {f : Flow} (h : Inv n L f) (e : Int) : Went n L f (fail e f) := by
  have k := fail_kept e f
  have hst : (fail e f).stack = f.stack := by unfold fail; split <;> rfl
  exact ⟨h.same k.same, hst, k.same.has, k.err, by rw [k.same.todo, k.same.at_]; exact Nat.le_refl _, fun p hp => by rw [k.same.at_]; exact hp⟩
theorem to_went {n L : Nat} {f : Flow} (h : Inv n L f) {p : Int} (h0 : 0 ≤ p) (hn : p ≤ (n : Int)) (hs : f.err = 0 → f.stack.length ≤ 300) (ht : ∀ t ∈ f.stack, In64 t) : Went n L f (to n p f) := by
  unfold to
  by_cases he : ¬ f.err = 0
  · rw [if_pos he]; exact Went.refl h
  have he : f.err = 0 := Decidable.not_not.1 he
  rw [if_neg (fun h => h he)]
  by_cases hp : p = (n : Int)
  · rw [if_pos hp]; exact fail_went h 3
  rw [if_neg hp]
  have hmem : p.toNat ∈ List.range n := List.mem_range.2 (by omega)
  have hcast : ((p.toNat : Nat) : Int) = p := by omega
  cases hf : find f.at_ p with
  | none =>
    simp only
    have hfa := fun q => find_app f.at_ p q (f.stack, f.has) hf
    have hcnt : f.has.count true ≤ L := by rw [← h.has]; exact List.count_le_length
    refine ⟨⟨h.has, fun q s hq => ?_, fun q hq => ?_⟩, rfl, rfl, fun h => absurd he h, ?_, fun q hq => ?_⟩
    · simp only at hq
      rw [hfa] at hq
      by_cases hpq : p = q
      · rw [if_pos hpq] at hq
        cases hq
        exact ⟨hs he, ht, h.has⟩
      · rw [if_neg hpq] at hq; exact h.ent q s hq
    · simp only at hq ⊢
      rw [hfa]
      by_cases hpq : p = q
      · subst hpq; rw [if_pos rfl]; exact ⟨h0, by omega, rfl⟩
      · rw [if_neg hpq]
        rcases List.mem_append.1 hq with hq | hq
        · exact h.todo q hq
        · simp at hq; exact absurd hq.symm hpq
    · simp only
      have := sum_lt (fun q => weight L (find (f.at_ ++ [(p, (f.stack, f.has))]) (q : Int))) (fun q => weight L (find f.at_ (q : Int))) p.toNat (by
        (try simp only)
        rw [hfa, hcast, if_pos rfl, hf]
        simp only [weight]; omega) (List.range n) (fun q => by
        (try simp only)
        rw [hfa]
        split
        · rename_i hpq; rw [← hpq, hf]; simp only [weight]; omega
        · exact Nat.le_refl _) hmem
      unfold room
      simp only [List.length_append, List.length_cons, List.length_nil]
      omega
    · simp only
      rw [hfa]; split
      · rfl
      · exact hq
  | some s =>
    simp only
    obtain ⟨g1, g2, g3⟩ := h.ent p s hf
    by_cases hst : ¬ s.1 = f.stack
    · rw [if_pos hst]; exact fail_went h 8
    have hst : s.1 = f.stack := Decidable.not_not.1 hst
    rw [if_neg (fun h => h hst)]
    by_cases hm : meet s.2 f.has = s.2
    · rw [if_pos hm]; exact Went.refl h
    rw [if_neg hm]
    have hfp := fun q => find_put f.at_ p q (s.1, meet s.2 f.has) s hf
    have hlen := meet_length s.2 f.has (by rw [g3, h.has])
    obtain ⟨m1, m2⟩ := meet_count s.2 f.has (by rw [g3, h.has])
    have m3 := m2 hm
    refine ⟨⟨h.has, fun q s' hq => ?_, fun q hq => ?_⟩, rfl, rfl, fun h => absurd he h, ?_, fun q hq => ?_⟩
    · simp only at hq
      rw [hfp] at hq
      by_cases hpq : p = q
      · rw [if_pos hpq] at hq
        cases hq
        exact ⟨g1, g2, by simp only; rw [hlen]; exact g3⟩
      · rw [if_neg hpq] at hq; exact h.ent q s' hq
    · simp only at hq ⊢
      rw [hfp]
      by_cases hpq : p = q
      · subst hpq; rw [if_pos rfl]; exact ⟨h0, by omega, rfl⟩
      · rw [if_neg hpq]
        rcases List.mem_append.1 hq with hq | hq
        · exact h.todo q hq
        · simp at hq; exact absurd hq.symm hpq
    · simp only
      have := sum_lt (fun q => weight L (find (put f.at_ p (s.1, meet s.2 f.has)) (q : Int))) (fun q => weight L (find f.at_ (q : Int))) p.toNat (by
        (try simp only)
        rw [hfp, hcast, if_pos rfl, hf]
        simp only [weight]; omega) (List.range n) (fun q => by
        (try simp only)
        rw [hfp]
        split
        · rename_i hpq; rw [← hpq, hf]; simp only [weight]; omega
        · exact Nat.le_refl _) hmem
      unfold room
      simp only [List.length_append, List.length_cons, List.length_nil]
      omega
    · simp only
      rw [hfp]; split
      · rfl
      · exact hq
/-- what a step, or a round, does to a flow -/
structure Gone (n L : Nat) (f g : Flow) : Prop where
  inv : Inv n L g
  len : g.stack.length ≤ 301
  ok : g.err = 0 → g.stack.length ≤ 300
  ty : ∀ t ∈ g.stack, In64 t
  mu : g.todo.length + room n L g.at_ ≤ f.todo.length + room n L f.at_
theorem step_gone {M : Mdl} {u : Unt} (hg : Good M u) {i : Ins} (hi : InsOk M u i) {f : Flow} {n L : Nat} (hn : n = u.code.length) (hL : L = u.locals.length) (h : Inv n L f) (hl : f.stack.length ≤ 300) (ht : ∀ t ∈ f.stack, In64 t) : Gone n L f (step M u i f).2 := by
  have hs := step_is hg hi f
  generalize step M u i f = G at *
  cases hs with
  | @plain b g h1 h2 h3 hk =>
    exact ⟨h.same hk.kept.same, Nat.le_trans hk.kept.len (by omega), fun he => hk.ok he hl, hk.kept.ty ht, by rw [hk.kept.same.todo, hk.kept.same.at_]; exact Nat.le_refl _⟩
  | @store g h1 hk =>
    have := h.same hk.same
    exact ⟨⟨by simp only [List.length_set]; exact this.has, this.ent, this.todo⟩, Nat.le_trans hk.len (by omega), fun _ => Nat.le_trans hk.len hl, hk.ty ht, by simp only; rw [hk.same.todo, hk.same.at_]; exact Nat.le_refl _⟩
  | jump h1 =>
    have hj := hi.jump (.inl h1)
    have hw := to_went (p := i.a) h (by omega) (by omega) (fun _ => hl) ht
    rw [← hn]
    exact ⟨hw.inv, by simp only [hw.stack]; omega, fun _ => by simp only [hw.stack]; omega, by simp only [hw.stack]; exact ht, hw.mu⟩
  | els h1 =>
    have hj := hi.jump (.inr h1)
    have hk := want_kept [2] f
    have hw := to_went (p := i.a) (h.same hk.same) (by omega) (by omega) (fun _ => Nat.le_trans hk.len hl) (hk.ty ht)
    have hl2 := Nat.le_trans hk.len hl
    rw [← hn]
    exact ⟨hw.inv, by simp only [hw.stack]; omega, fun _ => by simp only [hw.stack]; omega, by simp only [hw.stack]; exact hk.ty ht, by
      have := hw.mu
      rw [hk.same.todo, hk.same.at_] at this
      exact this⟩
end Go.Proofs.Ytfeajpghabjaaaa.Ver

/- What package verify computes: the units that a task comes to. Plain Lean. -/
namespace Go.Proofs.Ytfeajpghabjaaaa.Ver
set_option linter.unusedVariables false
set_option linter.unusedSimpArgs false
open ImgM

/-- units' numbers, each once -/
structure Once (N : Nat) (l : List Int) : Prop where
  nodup : l.Nodup
  ok : ∀ x ∈ l, 0 ≤ x ∧ x < (N : Int)
theorem nodup_le : ∀ (N : Nat) (l : List Int), Once N l → l.length ≤ N
  | 0, l, h => by
    cases l with
    | nil => exact Nat.le_refl _
    | cons x r => have := h.ok x List.mem_cons_self; omega
  | N + 1, l, h => by
    have h2 : Once N (l.filter fun x => decide (x ≠ (N : Int))) := ⟨h.nodup.filter _, fun x hx => by
      rw [List.mem_filter] at hx
      have := h.ok x hx.1
      have h3 : x ≠ (N : Int) := by simpa using hx.2
      omega⟩
    have h3 := nodup_le N _ h2
    have h4 : ∀ l : List Int, l.Nodup → l.length ≤ (l.filter fun x => decide (x ≠ (N : Int))).length + 1 := by
      intro l hl
      induction l with
      | nil => simp
      | cons a r ih =>
        rw [List.nodup_cons] at hl
        rw [List.filter_cons]
        by_cases ha : a = (N : Int)
        · have : r.filter (fun x => decide (x ≠ (N : Int))) = r := List.filter_eq_self.2 (fun x hx => by
            have : x ≠ (N : Int) := fun e => hl.1 (by rw [ha, ← e]; exact hx)
            simpa using this)
          rw [if_neg (by simpa using ha), this]
          simp
        · rw [if_pos (by simpa using ha)]
          have := ih hl.2
          simp only [List.length_cons]
          omega
    have := h4 l h.nodup
    omega
theorem Once.len {N : Nat} {l : List Int} (h : Once N l) : l.length ≤ N := nodup_le N l h
theorem Once.snoc {N : Nat} {l : List Int} (h : Once N l) {a : Int} (ha : a ∉ l) (h1 : 0 ≤ a ∧ a < (N : Int)) : Once N (l ++ [a]) := by
  refine ⟨?_, fun x hx => ?_⟩
  · rw [List.nodup_append]
    exact ⟨h.nodup, by simp, fun x hx y hy => by
      simp at hy
      subst hy
      exact fun e => ha (e ▸ hx)⟩
  · rcases List.mem_append.1 hx with hx | hx
    · exact h.ok x hx
    · simp at hx; subst hx; exact h1
theorem Once.one {N k : Nat} (h : k < N) : Once N [(k : Int)] := ⟨by simp, fun x hx => by simp at hx; subst hx; omega⟩
/-- one instruction -/
def call1 (out : List Int) (i : Ins) : List Int := if (i.op = 23 ∨ i.op = 29) ∧ i.a ∉ out then out ++ [i.a] else out
theorem calls_cons (i : Ins) (l : List Ins) (out : List Int) : calls (i :: l) out = calls l (call1 out i) := rfl
theorem calls_nil (out : List Int) : calls [] out = out := rfl
theorem call1_once {N : Nat} {out : List Int} {i : Ins} (h : Once N out) (hi : i.op = 23 ∨ i.op = 29 → 0 ≤ i.a ∧ i.a < (N : Int)) : Once N (call1 out i) := by
  unfold call1
  split
  · rename_i h1
    exact h.snoc h1.2 (hi h1.1)
  · exact h
theorem calls_once {N : Nat} : ∀ (l : List Ins) (out : List Int), Once N out → (∀ i ∈ l, i.op = 23 ∨ i.op = 29 → 0 ≤ i.a ∧ i.a < (N : Int)) → Once N (calls l out)
  | [], _, h, _ => h
  | i :: l, out, h, hi => by
    rw [calls_cons]
    exact calls_once l _ (call1_once h (hi i List.mem_cons_self)) (fun j hj => hi j (List.mem_cons_of_mem _ hj))
theorem reachRun_step {M : Mdl} {n k : Nat} {out : List Int} (h : k < out.length) : reachRun M (n + 1) k out = reachRun M n (k + 1) (calls (M.units.getD (out.getD k 0).toNat default).code out) := by
  conv => lhs; unfold reachRun
  rw [if_pos h]
theorem reachRun_end {M : Mdl} {n k : Nat} {out : List Int} (h : ¬ k < out.length) : reachRun M n k out = out := by
  cases n with
  | zero => rfl
  | succ n => unfold reachRun; rw [if_neg h]
theorem reachRun_once {M : Mdl} {N : Nat} (hc : ∀ k, k < N → ∀ i ∈ (M.units.getD k default).code, i.op = 23 ∨ i.op = 29 → 0 ≤ i.a ∧ i.a < (N : Int)) : ∀ (n k : Nat) (out : List Int), Once N out → Once N (reachRun M n k out)
  | 0, _, _, h => h
  | n + 1, k, out, h => by
    unfold reachRun
    split
    · rename_i hk
      refine reachRun_once hc n (k + 1) _ (calls_once _ _ h (hc _ ?_))
      have := h.ok (out.getD k 0) (by rw [List.getD_eq_getElem?_getD, List.getElem?_eq_getElem hk]; exact List.getElem_mem _)
      omega
    · exact h
theorem owned_1 {M : Mdl} {b n : Nat} (h : 1 < users M 26 b ∨ 1 < users M 27 b) : owned M b (n + 1) = ⟨8, 0, b⟩ := by unfold owned; rw [if_pos h]
theorem owned_2 {M : Mdl} {b n : Nat} (h : ¬(1 < users M 26 b ∨ 1 < users M 27 b)) : owned M b (n + 1) = owned M (b + 1) n := by
  conv => lhs; unfold owned
  rw [if_neg h]
/-- how many of the first k tasks -/
def usersTo (M : Mdl) (op b : Int) (k : Nat) : Nat := ((List.range k).filter fun k => decide ((M.units.getD k default).kind = 4) && uses M op b k).length
theorem usersTo_succ (M : Mdl) (op b : Int) (k : Nat) : usersTo M op b (k + 1) = usersTo M op b k + if (decide ((M.units.getD k default).kind = 4) && uses M op b k) = true then 1 else 0 := by
  unfold usersTo
  rw [List.range_succ, List.filter_append, List.length_append]
  congr 1
  rw [List.filter_cons]
  split <;> rfl
theorem usersTo_le (M : Mdl) (op b : Int) (k : Nat) : usersTo M op b k ≤ k := by
  unfold usersTo
  exact Nat.le_trans (List.length_filter_le _ _) (by simp)
end Go.Proofs.Ytfeajpghabjaaaa.Ver
