/- What package vm computes: a task as plain lists; what it sends to, receives from and tells is left open. Plain Lean. -/
import Derived.Test.YtgnhfinabhimpaaM14
namespace Go.Proofs.Ytgnhfinabhimpaa.Vm
set_option linter.unusedVariables false
open ImgM Ver Opt

/-- what a task sends to, receives from, and tells -/
structure Env (ν : Type) where
  full : ν → Nat → Bool
  empty : ν → Nat → Bool
  put : ν → Nat → Int → ν
  take : ν → Nat → Int × ν
  tell : ν → Int × Int × Int → ν
/-- a unit at work -/
structure Fr where
  unit : Nat
  pc : Nat
  base : Nat
deriving Inhabited, DecidableEq
/-- a thread: 0 fresh, 1 held, 2 going, 3 ended -/
structure Co where
  st : Nat
  up : Option Nat
  fr : List Fr
  ws : List Int
deriving Inhabited, DecidableEq
structure Tk where
  cs : List Co
  now : Nat
  st : Int
  bx : Int
  tr : Int
  out : List Int
deriving Inhabited, DecidableEq
def unt (M : Mdl) (k : Nat) : Unt := M.units.getD k default
def cur (t : Tk) : Co := t.cs.getD t.now default
def setC (t : Tk) (k : Nat) (c : Co) : Tk := { t with cs := t.cs.set k c }
def setCur (t : Tk) (c : Co) : Tk := setC t t.now c
def topF (c : Co) : Fr := c.fr.getD (c.fr.length - 1) default
def setTop (c : Co) (f : Fr) : Co := { c with fr := c.fr.set (c.fr.length - 1) f }
def insT (M : Mdl) (t : Tk) : Ins := (unt M (topF (cur t)).unit).code.getD (topF (cur t)).pc default
/-- a fresh thread of a unit, with arguments -/
def begin (M : Mdl) (u : Nat) (a : List Int) : Co := ⟨0, none, [⟨u, 0, 0⟩], (List.range (unt M u).locals.length).map fun i => a.getD i 0⟩
def new (M : Mdl) (u : Nat) : Tk := ⟨[{ begin M u [] with st := 2 }], 0, 1, 0, 0, []⟩
section
variable {ν : Type} (V : Env ν) (M : Mdl)
def trap (n : Int) (s : Tk × ν) : Tk × ν := if s.1.st = 5 then s else ({ s.1 with st := 5, tr := n }, V.tell s.2 (5, 0, n))
def push (v : Int) (s : Tk × ν) : Tk × ν :=
  if (cur s.1).ws.length = 400 then trap V 4 s else (setCur s.1 { cur s.1 with ws := (cur s.1).ws ++ [v] }, s.2)
def last (s : Tk) : Int := (cur s).ws.getD ((cur s).ws.length - 1) 0
def drop (n : Nat) (t : Tk) : Tk := setCur t { cur t with ws := (cur t).ws.take ((cur t).ws.length - n) }
def waits (i : Ins) (s : Tk × ν) : Tk × ν :=
  if i.op = 26 ∧ V.full s.2 i.a.toNat = true then ({ s.1 with st := 2, bx := i.a }, s.2)
  else if i.op = 27 ∧ V.empty s.2 i.a.toNat = true then ({ s.1 with st := 3, bx := i.a }, s.2)
  else ({ s.1 with st := 1, bx := 0 }, s.2)
def look (s : Tk × ν) : Tk × ν := if s.1.st ≤ 3 then waits V (insT M s.1) s else s
def setPc (p : Nat) (t : Tk) : Tk := setCur t (setTop (cur t) { topF (cur t) with pc := p })
def pushN (V : Env ν) : Nat → Tk × ν → Tk × ν
  | 0, s => s
  | n + 1, s => pushN V n (push V 0 s)
def callU (k : Nat) (s : Tk × ν) : Tk × ν :=
  if (cur s.1).fr.length = 40 then trap V 4 s
  else pushN V ((unt M k).locals.length - (unt M k).params.toNat) (setCur s.1 { cur s.1 with fr := (cur s.1).fr ++ [⟨k, 0, (cur s.1).ws.length - (unt M k).params.toNat⟩] }, s.2)
def ret (s : Tk × ν) : Tk × ν :=
  push V (last s.1) (setCur s.1 { cur s.1 with fr := (cur s.1).fr.take ((cur s.1).fr.length - 1), ws := ((cur s.1).ws.take ((cur s.1).ws.length - 1)).take (topF (cur s.1)).base }, s.2)
def endU (s : Tk × ν) : Tk × ν :=
  match (cur s.1).up with
  | none => ({ setCur s.1 { cur s.1 with st := 3 } with st := 4 }, V.tell s.2 (4, 0, 0))
  | some j => push V 0 ({ setCur s.1 { cur s.1 with st := 3, up := none } with now := j }, s.2)
def startU (k : Nat) (s : Tk × ν) : Tk × ν :=
  let n := (unt M k).params.toNat
  let a := (cur s.1).ws.drop ((cur s.1).ws.length - n)
  let t := drop n s.1
  if 30 < t.cs.length then trap V 5 (t, s.2)
  else push V (t.cs.length : Int) ({ t with cs := t.cs ++ [begin M k a] }, V.tell s.2 (6, 0, (k : Int)))
def resumeU (s : Tk × ν) : Tk × ν :=
  let v := last s.1
  let t := drop 1 s.1
  let k := (last t).toNat
  let t := drop 1 t
  let c := t.cs.getD k default
  if c.st = 3 then trap V 2 (t, s.2)
  else if c.st = 2 then trap V 3 (t, s.2)
  else
    let t' : Tk := { setC t k { c with st := 2, up := some t.now } with now := k }
    if c.st = 0 then (t', s.2) else push V v (t', s.2)
def yieldU (s : Tk × ν) : Tk × ν :=
  let v := last s.1
  let t := drop 1 s.1
  push V v ({ setCur t { cur t with st := 1, up := none } with now := (cur t).up.getD 0 }, s.2)
def aliveU (s : Tk × ν) : Tk × ν :=
  let t := drop 1 s.1
  push V (yes (!decide ((t.cs.getD (last s.1).toNat default).st = 3))) (t, s.2)
/-- an instruction, done; the place has been moved on -/
def exec (i : Ins) (s : Tk × ν) : Tk × ν :=
  let d := drop 1 s.1
  if i.op = 1 then push V i.n s
  else if i.op = 2 then push V i.a s
  else if i.op = 3 then push V ((cur s.1).ws.getD ((topF (cur s.1)).base + i.a.toNat) 0) s
  else if i.op = 4 then (setCur d { cur d with ws := (cur d).ws.set ((topF (cur d)).base + i.a.toNat) (last s.1) }, s.2)
  else if i.op = 5 then (d, s.2)
  else if i.op = 6 then push V (IntKind.i64.wrap (-(last s.1))) (d, s.2)
  else if i.op = 7 then push V (IntKind.i64.wrap (1 - last s.1)) (d, s.2)
  else if 8 ≤ i.op ∧ i.op ≤ 20 then
    if (i.op = 11 ∨ i.op = 12) ∧ last s.1 = 0 then trap V 1 (drop 1 d, s.2)
    else push V (two2 i.op (last d) (last s.1)) (drop 1 d, s.2)
  else if i.op = 21 then (setPc i.a.toNat s.1, s.2)
  else if i.op = 22 then (if last s.1 = 0 then setPc i.a.toNat d else d, s.2)
  else if i.op = 26 then (d, V.tell (V.put s.2 i.a.toNat (last s.1)) (2, i.a, last s.1))
  else if i.op = 27 then push V (V.take s.2 i.a.toNat).1 (s.1, V.tell (V.take s.2 i.a.toNat).2 (3, i.a, (V.take s.2 i.a.toNat).1))
  else if i.op = 28 then ({ d with out := d.out ++ [last s.1] }, V.tell s.2 (1, 0, last s.1))
  else if i.op = 23 then callU V M i.a.toNat s
  else if i.op = 24 then ret V s
  else if i.op = 25 then endU V s
  else if i.op = 29 then startU V M i.a.toNat s
  else if i.op = 30 then resumeU V s
  else if i.op = 31 then yieldU V s
  else if i.op = 32 then aliveU V s
  else s
def step (s : Tk × ν) : Bool × (Tk × ν) :=
  let s1 := look V M s
  if s1.1.st ≠ 1 then (false, s1)
  else (true, look V M (exec V M (insT M s1.1) (setPc ((topF (cur s1.1)).pc + 1) s1.1, s1.2)))
end
end Go.Proofs.Ytgnhfinabhimpaa.Vm

/- What a task speaks to, as it lies in memory; a task's cells, a thread's. -/
namespace Go.Proofs.Ytgnhfinabhimpaa.Vw
open Go.RowKit Go.Proofs.Ytgnhfinabhimpaa.Img
set_option linter.unusedVariables false
set_option linter.unusedSimpArgs false
/-- boxes, and who is told, somewhere in memory: what the task's functions may ask of them -/
structure EnvM where
  μ : Type
  ν : Type
  V : Vm.Env ν
  abs : μ → ν
  ok : μ → Prop
  mem : μ → Chunk
  size : ν → Nat
  sPut : ∀ v b x, size (V.put v b x) ≤ size v + 1
  sTake : ∀ v b, size (V.take v b).2 ≤ size v + 1
  sTell : ∀ v x, size (V.tell v x) ≤ size v + 1
  excl : ∀ e, (mem e).excl = true
  rc : Chunk
  rexcl : rc.excl = false
  T : TypeId
  rv : Value
  told : Option (FuncId × List Value)
  boxes : Nat
  fFull : FuncId
  fEmpty : FuncId
  fPut : FuncId
  fTake : FuncId
  mFull : Finds Try.prog T rv "Full" fFull
  mEmpty : Finds Try.prog T rv "Empty" fEmpty
  mPut : Finds Try.prog T rv "Put" fPut
  mTake : Finds Try.prog T rv "Take" fTake
  bFull : callB Try.prog fFull = true
  bEmpty : callB Try.prog fEmpty = true
  bPut : callB Try.prog fPut = true
  bTake : callB Try.prog fTake = true
  full : ∀ (e : μ) (b : Nat), ok e → b < boxes → Fn Try.prog fFull #[rv, .int .i64 (b : Int)] [rc] [mem e] (σ := Unit) (fun _ => True) (fun _ => .bool (V.full (abs e) b)) (fun _ => [mem e])
  empty : ∀ (e : μ) (b : Nat), ok e → b < boxes → Fn Try.prog fEmpty #[rv, .int .i64 (b : Int)] [rc] [mem e] (σ := Unit) (fun _ => True) (fun _ => .bool (V.empty (abs e) b)) (fun _ => [mem e])
  put : ∀ (e : μ) (b : Nat) (v : Int), ok e → b < boxes → V.full (abs e) b = false → size (abs e) ≤ 2000000 → Fn Try.prog fPut #[rv, .int .i64 (b : Int), .int .i64 v] [rc] [mem e] (σ := μ) (fun e' => ok e' ∧ abs e' = V.put (abs e) b v) (fun _ => .tuple #[]) (fun e' => [mem e'])
  take : ∀ (e : μ) (b : Nat), ok e → b < boxes → V.empty (abs e) b = false → Fn Try.prog fTake #[rv, .int .i64 (b : Int)] [rc] [mem e] (σ := μ) (fun e' => ok e' ∧ abs e' = (V.take (abs e) b).2) (fun e' => .int .i64 (V.take (abs e) b).1) (fun e' => [mem e'])
  tell : match told with
    | none => ∀ v x, V.tell v x = v
    | some (f, cap) => callB Try.prog f = true ∧ ∀ (e : μ) (a b v : Int), ok e → size (abs e) ≤ 2000000 → Fn Try.prog f (#[.int .i64 a, .int .i64 b, .int .i64 v] ++ cap.toArray) [rc] [mem e] (σ := μ) (fun e' => ok e' ∧ abs e' = V.tell (abs e) (a, b, v)) (fun _ => .tuple #[]) (fun e' => [mem e'])
attribute [simp] EnvM.excl EnvM.rexcl
/-- a state of the boxes from which something may still be sent and told -/
abbrev EnvM.okk (E : EnvM) (e : E.μ) : Prop := E.ok e ∧ E.size (E.abs e) ≤ 2000000
theorem trap_size (E : EnvM) (n : Int) (s : Vm.Tk × E.ν) : E.size (Vm.trap E.V n s).2 ≤ E.size s.2 + 1 := by
  unfold Vm.trap
  split
  · exact Nat.le_succ _
  · exact E.sTell _ _
theorem push_size (E : EnvM) (v : Int) (s : Vm.Tk × E.ν) : E.size (Vm.push E.V v s).2 ≤ E.size s.2 + 1 := by
  unfold Vm.push
  split
  · exact trap_size E _ _
  · exact Nat.le_succ _
theorem pushN_size (E : EnvM) : ∀ (n : Nat) (s : Vm.Tk × E.ν), E.size (Vm.pushN E.V n s).2 ≤ E.size s.2 + n
  | 0, s => Nat.le_refl _
  | n + 1, s => by
    unfold Vm.pushN
    have h1 := pushN_size E n (Vm.push E.V 0 s)
    have h2 := push_size E 0 s
    omega
def toldV : Option (FuncId × List Value) → Value
  | none => .nilFunc
  | some (f, cap) => .func (.func f) #[] cap.toArray
/-- a task's cells: its module, its boxes, its threads, which is at work, how it stands, its box, its trap, what it put out, who is told -/
abbrev tcl (mb : Nat) (mail cos : Value) (cb : Nat) (st bx tr : Int) (out told : Value) : List Value := [ptr mb, mail, cos, ptr cb, .int .i64 st, .int .i64 bx, .int .i64 tr, out, told]
/-- a thread's cells -/
abbrev ccl (st : Int) (up fr : Value) (sb : Nat) : List Value := [.int .i64 st, up, fr, ptr sb]
/-- a task's, but how it stands -/
structure TF where
  tb : Nat
  mb : Nat
  cos : Value
  cb : Nat
  bx : Int
  out : Value
abbrev EnvM.mailV (E : EnvM) : Value := .iface E.T E.rv
abbrev EnvM.tc (E : EnvM) (F : TF) (st tr : Int) : Chunk := blk F.tb (tcl F.mb E.mailV F.cos F.cb st F.bx tr F.out (toldV E.told)) 68
abbrev cc (cb : Nat) (st : Int) (up fr : Value) (sb : Nat) : Chunk := blk cb (ccl st up fr sb) 103
/-- what a trap makes of how a task stands -/
structure Trapped (E : EnvM) (n st tr : Int) (e : E.μ) (q : Int × Int × E.μ) : Prop where
  old : st = 5 → q = (st, tr, e)
  new : st ≠ 5 → q.1 = 5 ∧ q.2.1 = n ∧ E.ok q.2.2 ∧ E.abs q.2.2 = E.V.tell (E.abs e) (5, 0, n)
structure Pushed (E : EnvM) (v : Int) (k : Sk) (st tr : Int) (e : E.μ) (q : Sk × Int × Int × E.μ) : Prop where
  full : k.live = 400 → q.1 = k ∧ Trapped E 4 st tr e q.2
  room : k.live ≠ 400 → SkTo k q.1 (k.ws ++ [v]) ∧ q.2 = (st, tr, e)
end Go.Proofs.Ytgnhfinabhimpaa.Vw

/- What Solo computes: a task by itself, boxes as lists without an end. Plain Lean. -/
namespace Go.Proofs.Ytgnhfinabhimpaa.Vm
set_option linter.unusedVariables false
open ImgM Ver Opt
/-- what was taken of each box, what was sent to each -/
structure Ls where
  took : List Nat
  sent : List (List Int)
deriving DecidableEq
def lists (F : List (List Int)) : Env Ls where
  full _ _ := false
  empty s b := decide (s.took.getD b 0 = (F.getD b []).length)
  put s b v := { s with sent := s.sent.set b (s.sent.getD b [] ++ [v]) }
  take s b := ((F.getD b []).getD (s.took.getD b 0) 0, { s with took := s.took.set b (s.took.getD b 0 + 1) })
  tell s _ := s
def Ls.new (n : Nat) : Ls := ⟨List.replicate n 0, List.replicate n []⟩
/-- as many steps as may be, as long as one can be done -/
def goN {ν : Type} (V : Env ν) (M : Mdl) : Nat → Tk × ν → Nat × (Tk × ν)
  | 0, s => (0, s)
  | n + 1, s => if (step V M s).1 then ((goN V M n (step V M s).2).1 + 1, (goN V M n (step V M s).2).2) else (0, (step V M s).2)
/-- the units that are tasks -/
def tasks (M : Mdl) : List Nat := (List.range M.units.length).filter fun k => decide ((M.units.getD k default).kind = 4)
def solo0 (M : Mdl) (u : Nat) (F : List (List Int)) : Tk × Ls := look (lists F) M (new M u, Ls.new F.length)
def solo (M : Mdl) (u : Nat) (F : List (List Int)) (n : Nat) : Nat × (Tk × Ls) := goN (lists F) M n (solo0 M u F)
/-- a word is none of its box's type -/
def badW (t v : Int) : Bool := decide (t = 2) && (decide (v ≠ 0) && decide (v ≠ 1))
/-- what is wrong with what Solo is asked -/
def soloErr (M : Mdl) (task : Int) (F : List (List Int)) (most : Int) : Int :=
  if (verify M).err ≠ 0 then (verify M).err
  else if task < 0 ∨ ((tasks M).length : Int) ≤ task ∨ most < 0 ∨ 5000 < most then 3
  else if F.length ≠ M.boxes.length then 5
  else if (List.range F.length).any (fun i => (F.getD i []).any (badW (M.boxes.getD i default).1)) then 9
  else 0
/-- how many words lie in what was sent -/
def total (l : List (List Int)) : Nat := (l.map List.length).sum
theorem total_put : ∀ (l : List (List Int)) (b : Nat) (v : Int), total (l.set b (l.getD b [] ++ [v])) ≤ total l + 1
  | [], b, v => by simp [total]
  | a :: l, 0, v => by simp [total]; omega
  | a :: l, b + 1, v => by
    have := total_put l b v
    simp only [total, List.set_cons_succ, List.map_cons, List.sum_cons, List.getD_cons_succ] at *
    omega
theorem total_le : ∀ (l : List (List Int)) (b : Nat), (l.getD b []).length ≤ total l
  | [], b => by simp [total]
  | a :: l, 0 => by simp [total]
  | a :: l, b + 1 => by
    have := total_le l b
    simp only [total, List.map_cons, List.sum_cons, List.getD_cons_succ] at *
    omega
end Go.Proofs.Ytgnhfinabhimpaa.Vm

/- Solo's boxes, walked. -/
namespace Go.Proofs.Ytgnhfinabhimpaa.Vw
open Go.RowKit Go.Proofs.Ytgnhfinabhimpaa.Img
set_option linter.unusedVariables false
set_option linter.unusedSimpArgs false
attribute [local irreducible] Run Cod End OpT Still RunQ RunS RunT Fn PutOk
/-- where Solo's boxes lie -/
structure LsP where
  lb : Nat
  tb : Nat
  sb : Nat
structure LsE where
  took : List Nat
  sent : List Rw
abbrev lsV (p : LsP) (f : FL) : List Value := [.slice f.o f.l.length f.c, .slice (some ⟨p.tb, 0, none⟩) f.l.length f.l.length, .slice (some ⟨p.sb, 0, none⟩) f.l.length f.l.length]
abbrev lsL (p : LsP) (f : FL) (e : LsE) : List Chunk := [blk p.lb (lsV p f) 59, arr (some ⟨p.tb, 0, none⟩) f.l.length f.l.length 3 natC e.took, arr (some ⟨p.sb, 0, none⟩) f.l.length f.l.length 38 rwC e.sent, bag (e.sent.map (rowM 2))]
def lsM (p : LsP) (f : FL) (e : LsE) : Chunk := bag (lsL p f e)
theorem lsM_excl (p : LsP) (f : FL) (e : LsE) : (lsM p f e).excl = true := bag_excl
theorem lsL_excl (p : LsP) (f : FL) (e : LsE) : ∀ c ∈ lsL p f e, c.excl = true := by simp [blk_excl, arr_excl, bag_excl]
theorem Mem.lsOut {w : World} {L L' : List Chunk} {p : LsP} {f : FL} {e : LsE} (h : Mem w L) (t : Take (lsM p f e) L L') : Mem w (lsL p f e ++ L') := (h.take t).unpack
theorem Mem.lsIn {w : World} {L L' : List Chunk} {p : LsP} {f : FL} {e : LsE} (h : Mem w L) (t : Takes (lsL p f e) L L') : Mem w (lsM p f e :: L') := (h.takes t).pack (lsL_excl p f e)
structure LsOk (f : FL) (e : LsE) : Prop where
  took : e.took.length = f.l.length
  sent : e.sent.length = f.l.length
  le : ∀ b, b < f.l.length → e.took.getD b 0 ≤ (f.l.getD b default).l.length
def LsE.abs (e : LsE) : Vm.Ls := ⟨e.took, e.sent.map (·.l)⟩
theorem getD_nat (l : List Nat) (b : Nat) : l.getD b default = l.getD b 0 := rfl
set_option maxRecDepth 100000 in
theorem lsFull_is (p : LsP) (f : FL) (e : LsE) (b : Nat) : Fn Try.prog 112 #[ptr p.lb, .int .i64 (b : Int)] [fd f] [lsM p f e] (σ := Unit) (fun _ => True) (fun _ => .bool false) (fun _ => [lsM p f e]) := by
  refine Fn.enter (args := [ptr p.lb, .int .i64 (b : Int)]) Try.func112 rfl _ Try.ntmps112 rfl (by simp [fd_excl]) (fun w S => ?_)
  (try conv => rhs; simp only [List.cons_append, List.nil_append])
  repeat (first | refine go (k := ?_) | (refine goB (k := ?_); intro b) | (refine goA (k := ?_); intro ao cap))
  refine End.done1_ () (he := by rfl) (hp := trivial) (hx := by simp [lsM_excl])
theorem lsOkPut {f : FL} {took : List Nat} {s u : List Rw} {r r' : Rw} {v : Int} (h : LsOk f ⟨took, s ++ r :: u⟩) (hr : r'.l = r.l ++ [v]) : LsOk f ⟨took, s ++ r' :: u⟩ ∧ (LsE.abs ⟨took, s ++ r' :: u⟩) = (Vm.lists f.ws).put (LsE.abs ⟨took, s ++ r :: u⟩) s.length v := by
  obtain ⟨h1, h2, h3⟩ := h
  refine ⟨⟨h1, by simpa using h2, h3⟩, ?_⟩
  unfold LsE.abs Vm.lists
  simp only [Vm.Ls.mk.injEq, true_and, getD_ws, getD_split]
  rw [← hr]
  have e := set_split (s.map (·.l)) (u.map (·.l)) r.l r'.l
  simp only [List.length_map] at e
  simp only [List.map_append, List.map_cons]
  exact e.symm
theorem lsOkTake {f : FL} {took : List Nat} {sent : List Rw} {b : Nat} (h : LsOk f ⟨took, sent⟩) (hb : b < f.l.length) (hne : took.getD b 0 ≠ (f.l.getD b default).l.length) : LsOk f ⟨took.set b (took.getD b 0 + 1), sent⟩ ∧ (LsE.abs ⟨took.set b (took.getD b 0 + 1), sent⟩) = ((Vm.lists f.ws).take (LsE.abs ⟨took, sent⟩) b).2 := by
  obtain ⟨h1, h2, h3⟩ := h
  refine ⟨⟨by simpa using h1, h2, fun j hj => ?_⟩, rfl⟩
  simp only at h1 h3
  have := h3 j hj
  simp only [List.getD_eq_getElem?_getD, List.getElem?_set] at this hne ⊢
  by_cases hj' : b = j
  · subst hj'
    rw [if_pos rfl, if_pos (by omega)]
    simp only [Option.getD_some]
    omega
  · rw [if_neg hj']; exact this
set_option maxRecDepth 100000 in
theorem lsEmpty_is (p : LsP) (f : FL) (e : LsE) (he : LsOk f e) (b : Nat) (hb : b < f.l.length) : Fn Try.prog 111 #[ptr p.lb, .int .i64 (b : Int)] [fd f] [lsM p f e] (σ := Unit) (fun _ => True) (fun _ => .bool ((Vm.lists f.ws).empty e.abs b)) (fun _ => [lsM p f e]) := by
  obtain ⟨h1, h2, h3⟩ := he
  refine Fn.enter (args := [ptr p.lb, .int .i64 (b : Int)]) Try.func111 rfl _ Try.ntmps111 rfl (by simp [fd_excl]) (fun w S => ?_)
  (try conv => rhs; simp only [List.cons_append, List.nil_append])
  apply Cod.imp (fun w hm => Mem.lsOut hm (by (repeat (first | exact Take.head | apply Take.tail))))
  apply Cod.imp (fun w hm => Mem.fdOut (by (repeat (first | exact Take.head | apply Take.tail))) hm)
  repeat (first | refine go (k := ?_) | (refine goB (k := ?_); intro b) | (refine goA (k := ?_); intro ao cap))
  apply End.imp (fun w hm => Mem.lsIn (p := p) (f := f) (e := e) hm (by (repeat (first | exact Takes.nil | exact Take.head | apply Take.tail | apply Takes.cons))))
  refine End.done1_ () (he := ?_) (hp := trivial) (hx := by simp [lsM_excl])
  refine bool_eq ?_
  unfold Vm.lists LsE.abs
  simp only [getD_ws, getD_nat]
  exact decide_eq_decide.2 (by omega)
set_option maxRecDepth 100000 in
theorem lsPut_is (p : LsP) (f : FL) (e : LsE) (he : LsOk f e) (b : Nat) (hb : b < f.l.length) (v : Int) (hs : Vm.total (e.sent.map (·.l)) ≤ 2000000) : Fn Try.prog 113 #[ptr p.lb, .int .i64 (b : Int), .int .i64 v] [fd f] [lsM p f e] (σ := LsE) (fun e' => LsOk f e' ∧ e'.abs = (Vm.lists f.ws).put e.abs b v) (fun _ => .tuple #[]) (fun e' => [lsM p f e']) := by
  have he' := he
  obtain ⟨h1, h2, h3⟩ := he
  have htot := Vm.total_le (e.sent.map (·.l)) b
  rw [getD_ws] at htot
  obtain ⟨took, sent⟩ := e
  simp only at h1 h2 h3 hs htot
  obtain ⟨s1, u1, hsp, hlen⟩ := split_at (l := sent) (k := b) (by omega)
  obtain ⟨r, hr⟩ : ∃ r, r = sent.getD b default := ⟨_, rfl⟩
  rw [← hr] at hsp htot
  subst hsp
  subst hlen
  refine Fn.enter (args := [ptr p.lb, .int .i64 (s1.length : Int), .int .i64 v]) Try.func113 rfl _ Try.ntmps113 rfl (by simp [fd_excl]) (fun w S => ?_)
  (try conv => rhs; simp only [List.cons_append, List.nil_append])
  apply Cod.imp (fun w hm => Mem.lsOut hm (by (repeat (first | exact Take.head | apply Take.tail))))
  apply Cod.imp (fun w hm => Mem.rowOut hm (by (repeat (first | exact Take.head | apply Take.tail))))
  have hgr : (s1 ++ r :: u1).getD s1.length default = r := getD_split _ _ _
  apply Cod.draw 16 ([blk p.lb (lsV p f) 59, arr (some ⟨p.sb, 0, none⟩) f.l.length f.l.length 38 rwC (s1 ++ r :: u1)]) (by kernel_rfl) 17 rfl
  refine RunT.takeR_ 0 (h := ?_)
  refine RunT.takeR_ 1 (h := ?_)
  refine RunT.takeR_ 2 (h := ?_)
  refine RunT.takeR_ 3 (h := ?_)
  refine RunT.takeR_ 4 (h := ?_)
  refine RunT.takeR_ 5 (h := ?_)
  refine RunT.takeR_ 6 (h := ?_)
  refine RunT.takeR_ 7 (h := ?_)
  refine RunT.takeR_ 8 (h := ?_)
  refine RunT.takeR_ 9 (h := ?_)
  refine RunT.takeR_ 10 (h := ?_)
  refine RunT.takeR_ 11 (h := ?_)
  refine RunT.takeR_ 12 (h := ?_)
  rw [hgr]
  (refine RunT.one_ 13 (h := ?_); (first | refine OpT.val_ (k := ?_) | (refine OpT.alloc_ (k := ?_); intro b) | (refine OpT.box_ (k := ?_); intro b) | refine OpT.store_ (k := ?_) | (refine OpT.buildSlice_ (k := ?_); intro b) | (refine OpT.buildSlice0_ (k := ?_); intro b) | (refine OpT.append1_ (k := ?_); intro ao cap) | (refine OpT.cutA0_ (k := ?_); intro ao cap) | (refine OpT.cutR0_ (k := ?_); intro ao cap) | (refine OpT.cutA1_ (k := ?_); intro ao cap) | (refine OpT.cutA_ (k := ?_); intro ao cap) | (refine OpT.cutR_ (k := ?_); intro ao cap)); refine And.intro gud ?_)
  (refine RunT.one_ 14 (h := ?_); refine OpT.append1_ (a := v) (k := ?_); intro ao cap; refine And.intro gud ?_; (try conv => rhs; simp only [List.cons_append, List.nil_append]))
  refine RunT.takeR_ 15 (h := ?_)
  (refine RunT.one_ 16 (h := ?_); refine OpT.storeE_ (f := rwC) (l := s1 ++ r :: u1) (i := s1.length) (off := 0) (vs := [.slice ao (r.l.length + 1) cap]) (a' := (⟨ao, cap, r.l ++ [v]⟩ : Rw)) (hp := by rw [hgr, show rwC ⟨ao, cap, r.l ++ [v]⟩ = [.slice ao (r.l.length + 1) cap] by simp [rwC]]; exact Put.take .done) (k := ?_); refine And.intro gud ?_)
  rw [set_split]
  (apply RunT.done; kernel_rfl)
  repeat (first | refine go (k := ?_) | (refine goB (k := ?_); intro b) | (refine goA (k := ?_); intro ao cap))
  have hle : (r.l ++ [v]).length = r.l.length + 1 := by simp
  rw [← hle]
  apply End.imp (fun w hm => Mem.rowIn (r := ⟨ao, cap, r.l ++ [v]⟩) hm (by (repeat (first | exact Take.head | apply Take.tail))) (by (repeat (first | exact Takes.nil | exact Take.head | apply Take.tail | apply Takes.cons))))
  apply End.imp (fun w hm => Mem.lsIn (p := p) (f := f) (e := ⟨took, s1 ++ ⟨ao, cap, r.l ++ [v]⟩ :: u1⟩) hm (by (repeat (first | exact Takes.nil | exact Take.head | apply Take.tail | apply Takes.cons))))
  refine End.done0'_ (⟨took, s1 ++ ⟨ao, cap, r.l ++ [v]⟩ :: u1⟩ : LsE) (hp := lsOkPut he' rfl) (hx := by simp [lsM_excl])
set_option maxRecDepth 100000 in
theorem lsTake_is (p : LsP) (f : FL) (e : LsE) (he : LsOk f e) (b : Nat) (hb : b < f.l.length) (hne : e.took.getD b 0 ≠ (f.l.getD b default).l.length) : Fn Try.prog 114 #[ptr p.lb, .int .i64 (b : Int)] [fd f] [lsM p f e] (σ := LsE) (fun e' => LsOk f e' ∧ e'.abs = ((Vm.lists f.ws).take e.abs b).2) (fun _ => .int .i64 ((Vm.lists f.ws).take e.abs b).1) (fun e' => [lsM p f e']) := by
  have he' := he
  obtain ⟨h1, h2, h3⟩ := he
  have h3b := h3 b hb
  obtain ⟨took, sent⟩ := e
  simp only at h1 h2 h3b hne
  refine Fn.enter (args := [ptr p.lb, .int .i64 (b : Int)]) Try.func114 rfl _ Try.ntmps114 rfl (by simp [fd_excl]) (fun w S => ?_)
  (try conv => rhs; simp only [List.cons_append, List.nil_append])
  apply Cod.fact ((f.l.getD b default).l.length ≤ 9223372036854775807) (fun w hm => (fd_holds.1 (hm.has (by (repeat (first | exact Take.head | apply Take.tail))))).small.2 b hb)
  intro hsm
  apply Cod.imp (fun w hm => Mem.lsOut hm (by (repeat (first | exact Take.head | apply Take.tail))))
  apply Cod.imp (fun w hm => Mem.fdOut (by (repeat (first | exact Take.head | apply Take.tail))) hm)
  apply Cod.imp (fun w hm => Mem.fdRow hb (by (repeat (first | exact Take.head | apply Take.tail))) hm)
  have w1 : IntKind.i64.wrap (((took.getD b default : Nat) : Int) + 1) = ((took.getD b 0 + 1 : Nat) : Int) := by rw [getD_nat, wrap_i64_in (by omega)]; omega
  have w2 : IntKind.i64.wrap (((took.getD b 0 + 1 : Nat) : Int) - 1) = ((took.getD b 0 : Nat) : Int) := by rw [wrap_i64_in (by omega)]; omega
  have hg : (took.set b (took.getD b 0 + 1)).getD b default = took.getD b 0 + 1 := by
    simp only [List.getD_eq_getElem?_getD, List.getElem?_set]
    rw [if_pos trivial, if_pos (by omega)]; rfl
  repeat (first | refine go (k := ?_) | (refine goB (k := ?_); intro b) | (refine goA (k := ?_); intro ao cap))
  (apply Run.op; exact rfl; refine OpT.storeE_ (f := natC) (l := took) (i := b) (off := 0) (vs := [.int .i64 ((took.getD b 0 + 1 : Nat) : Int)]) (a' := took.getD b 0 + 1) (k := ?_))
  repeat (first | refine go (k := ?_) | (refine goB (k := ?_); intro b) | (refine goA (k := ?_); intro ao cap))
  rw [hg]
  obtain ⟨q1, q2⟩ := lsOkTake he' hb hne
  apply End.imp (fun w hm => Mem.lsIn (p := p) (f := f) (e := ⟨took.set b (took.getD b 0 + 1), sent⟩) hm (by (repeat (first | exact Takes.nil | exact Take.head | apply Take.tail | apply Takes.cons))))
  refine End.done1_ (⟨took.set b (took.getD b 0 + 1), sent⟩ : LsE) (he := ?_) (hp := ⟨q1, q2⟩) (hx := by simp [lsM_excl])
  unfold Vm.lists LsE.abs
  simp only [getD_ws]
  rw [show (((took.getD b 0 + 1 : Nat) : Int) - 1).toNat = took.getD b 0 by omega]
  rfl
end Go.Proofs.Ytgnhfinabhimpaa.Vw

/- A pass of package opt as a list of pieces. Plain Lean. -/
namespace Go.Proofs.Ytgnhfinabhimpaa.Opt
set_option linter.unusedVariables false
set_option linter.unusedSimpArgs false
open ImgM Ver

def nx (l : List Ins) (p : Nat) : Nat := p + (if (shorter l p).2 = 0 then 1 else (shorter l p).2)
def em (l : List Ins) (p : Nat) : List Ins := if (shorter l p).2 = 0 then [at_ l p] else (shorter l p).1
/-- the places from one on, at which a pass stands -/
def pcs (l : List Ins) : Nat → Nat → List Nat
  | 0, _ => []
  | n + 1, p => if p < l.length then p :: pcs l n (nx l p) else []
theorem free_lt {l : List Ins} {p n : Nat} (h : free l p n = true) : p + n < l.length := by
  unfold free at h
  rw [Bool.and_eq_true, decide_eq_true_eq] at h
  exact h.1
theorem free_not {l : List Ins} {p n k : Nat} (h : free l p n = true) (h0 : 0 < k) (hk : k < n) : tgt l ((p + k : Nat) : Int) = false := by
  unfold free at h
  rw [Bool.and_eq_true, List.all_eq_true] at h
  have := h.2 k (List.mem_range.2 hk)
  rw [Bool.or_eq_true, decide_eq_true_eq, Bool.not_eq_true'] at this
  rcases this with h | h
  · omega
  · exact h
theorem shorter_cases {l : List Ins} {p : Nat} (h : (shorter l p).2 ≠ 0) :
    (∃ r, shorter l p = (r, 3) ∧ free l p 3 = true ∧ three (at_ l p) (at_ l (p + 1)) (at_ l (p + 2)) = some r) ∨
    (∃ r, shorter l p = (r, 2) ∧ free l p 2 = true ∧ pair (at_ l p) (at_ l (p + 1)) = some r) ∨
    (shorter l p = ([], 1) ∧ free l p 1 = true ∧ (at_ l p).op = 21 ∧ (at_ l p).a = (p : Int) + 1) := by
  unfold shorter at h ⊢
  split
  · rename_i r hr
    left
    by_cases hf : free l p 3 = true
    · rw [if_pos hf] at hr
      exact ⟨r, rfl, hf, hr⟩
    · rw [if_neg hf] at hr; cases hr
  · rename_i h3
    right
    rw [h3] at h
    simp only at h
    split
    · rename_i r hr
      left
      by_cases hf : free l p 2 = true
      · rw [if_pos hf] at hr
        exact ⟨r, rfl, hf, hr⟩
      · rw [if_neg hf] at hr; cases hr
    · rename_i h2
      right
      rw [h2] at h
      simp only at h
      by_cases hf : free l p 1 = true ∧ (at_ l p).op = 21 ∧ (at_ l p).a = (p : Int) + 1
      · rw [if_pos hf]; exact ⟨rfl, hf⟩
      · rw [if_neg hf] at h; exact absurd rfl h
theorem known_len (v : Int) (t : Bool) : (known v t).length = 1 := by unfold known; split <;> rfl
theorem three_len {a b c : Ins} {r : List Ins} (h : three a b c = some r) : r.length = 1 := by
  unfold three at h
  split at h
  · cases h
  · split at h
    · cases h
    · cases h; exact known_len _ _
theorem pair_len {a b : Ins} {r : List Ins} (h : pair a b = some r) : r.length ≤ 1 := by
  unfold pair at h
  repeat' split at h
  all_goals cases h
  all_goals first | exact Nat.le_of_eq (known_len _ _) | simp
/-- a piece is shorter than what it stands for, and is not the last one -/
theorem shorter_len {l : List Ins} {p : Nat} (h : (shorter l p).2 ≠ 0) : (shorter l p).1.length ≤ 1 ∧ (shorter l p).1.length < (shorter l p).2 ∧ p + (shorter l p).2 < l.length := by
  rcases shorter_cases h with ⟨r, h1, h2, h3⟩ | ⟨r, h1, h2, h3⟩ | ⟨h1, h2, h3⟩
  · have := three_len h3; have := free_lt h2
    rw [h1]; exact ⟨by simp only; omega, by simp only; omega, by simp only; omega⟩
  · have := pair_len h3; have := free_lt h2
    rw [h1]; exact ⟨by simp only; omega, by simp only; omega, by simp only; omega⟩
  · have := free_lt h2
    rw [h1]; exact ⟨by simp, by simp, by simp only; omega⟩
theorem shorter_not {l : List Ins} {p k : Nat} (h : (shorter l p).2 ≠ 0) (h0 : 0 < k) (hk : k < (shorter l p).2) : tgt l ((p + k : Nat) : Int) = false := by
  rcases shorter_cases h with ⟨r, h1, h2, h3⟩ | ⟨r, h1, h2, h3⟩ | ⟨h1, h2, h3⟩ <;> (rw [h1] at hk; exact free_not h2 h0 hk)
theorem em_len (l : List Ins) (p : Nat) : (em l p).length ≤ 1 := by
  unfold em
  split
  · simp
  · rename_i h; exact (shorter_len h).1
theorem nx_gt (l : List Ins) (p : Nat) : p < nx l p := by unfold nx; split <;> omega
theorem nx_le {l : List Ins} {p : Nat} (h : p < l.length) : nx l p ≤ l.length := by
  unfold nx
  split
  · omega
  · rename_i h'; have := (shorter_len h').2.2; omega
theorem em_last {l : List Ins} {p : Nat} (h : nx l p = l.length) : em l p = [at_ l p] := by
  unfold em
  split
  · rfl
  · rename_i h'
    unfold nx at h
    rw [if_neg h'] at h
    have := (shorter_len h').2.2
    omega

theorem setAll_len (wh : List Int) (p : Nat) (v : Int) : ∀ n, (setAll wh p v n).length = wh.length
  | 0 => rfl
  | n + 1 => by unfold setAll; rw [List.length_set, setAll_len wh p v n]
theorem getD_setI {l : List Int} {k j : Nat} {v : Int} (hk : k < l.length) : (l.set k v).getD j 0 = if k = j then v else l.getD j 0 := by
  simp only [List.getD_eq_getElem?_getD, List.getElem?_set]
  by_cases h : k = j
  · subst h; simp [hk]
  · simp [h]
theorem getD_setI' {l : List Int} {k j : Nat} {v : Int} (hk : k ≠ j) : (l.set k v).getD j 0 = l.getD j 0 := by
  simp only [List.getD_eq_getElem?_getD, List.getElem?_set]
  rw [if_neg hk]
theorem setAll_getD {wh : List Int} {p : Nat} {v : Int} {q : Nat} (hq : q ≤ p) : ∀ n, (setAll wh p v n).getD q 0 = wh.getD q 0
  | 0 => rfl
  | n + 1 => by unfold setAll; rw [getD_setI' (by omega), setAll_getD hq n]
theorem pstep_p (l : List Ins) (s : PS) : (pstep l s).p = nx l s.p := by unfold pstep nx; split <;> rfl
theorem pstep_out (l : List Ins) (s : PS) : (pstep l s).out = s.out ++ em l s.p := by unfold pstep em; split <;> rfl
theorem pstep_did (l : List Ins) (s : PS) : (pstep l s).did = (s.did || decide ((shorter l s.p).2 ≠ 0)) := by
  unfold pstep
  split
  · rename_i h; simp [h]
  · rename_i h; simp [h]
theorem pstep_len (l : List Ins) (s : PS) : (pstep l s).wh.length = s.wh.length := by
  unfold pstep
  split
  · simp
  · simp [setAll_len]
theorem pstep_wh {l : List Ins} {s : PS} (hw : s.wh.length = l.length + 1) (hp : s.p < l.length) {q : Nat} (hq : q ≤ s.p) : (pstep l s).wh.getD q 0 = if s.p = q then (s.out.length : Int) else s.wh.getD q 0 := by
  unfold pstep
  split
  · exact getD_setI (by omega)
  · simp only
    rw [setAll_getD hq, getD_setI (by omega)]
theorem pcs_ge {l : List Ins} : ∀ (n p : Nat), ∀ q ∈ pcs l n p, p ≤ q ∧ q < l.length
  | 0, p, q, h => by cases h
  | n + 1, p, q, h => by
    unfold pcs at h
    split at h
    · rename_i hp
      rcases List.mem_cons.1 h with rfl | h
      · exact ⟨Nat.le_refl _, hp⟩
      · have := pcs_ge n _ q h
        have := nx_gt l p
        omega
    · cases h
/-- what a pass comes to -/
structure Ran (l : List Ins) (n : Nat) (s r : PS) : Prop where
  out : r.out = s.out ++ (pcs l n s.p).flatMap (em l)
  old : ∀ q, q < s.p → r.wh.getD q 0 = s.wh.getD q 0
  wh : ∀ A q C, pcs l n s.p = A ++ q :: C → r.wh.getD q 0 = ((s.out.length + (A.flatMap (em l)).length : Nat) : Int)
  did : r.did = (s.did || (pcs l n s.p).any fun q => decide ((shorter l q).2 ≠ 0))
  len : r.wh.length = l.length + 1
theorem prun_ran {l : List Ins} : ∀ (n : Nat) (s : PS), s.wh.length = l.length + 1 → Ran l n s (prun l n s)
  | 0, s, hw => ⟨by simp [prun, pcs], fun q _ => rfl, fun A q C h => by simp [pcs] at h, by simp [prun, pcs], hw⟩
  | n + 1, s, hw => by
    by_cases hp : s.p < l.length
    · have ih := prun_ran n (pstep l s) (by rw [pstep_len, hw])
      rw [show prun l (n + 1) s = prun l n (pstep l s) by conv => lhs; unfold prun
                                                          rw [if_pos hp]]
      have hpc : pcs l (n + 1) s.p = s.p :: pcs l n (nx l s.p) := by conv => lhs; unfold pcs
                                                                     rw [if_pos hp]
      have hgt := nx_gt l s.p
      refine ⟨?_, fun q hq => ?_, fun A q C h => ?_, ?_, ih.len⟩
      · rw [ih.out, pstep_out, pstep_p, hpc, List.flatMap_cons, List.append_assoc]
      · rw [ih.old q (by rw [pstep_p]; omega), pstep_wh hw hp (by omega), if_neg (by omega)]
      · rw [hpc] at h
        cases A with
        | nil =>
          simp only [List.nil_append, List.cons.injEq] at h
          obtain ⟨rfl, -⟩ := h
          rw [ih.old _ (by rw [pstep_p]; omega), pstep_wh hw hp (Nat.le_refl _), if_pos rfl]
          simp
        | cons a A =>
          simp only [List.cons_append, List.cons.injEq] at h
          obtain ⟨rfl, h⟩ := h
          rw [ih.wh A q C (by rw [pstep_p]; exact h), pstep_out, List.flatMap_cons, List.length_append, List.length_append]
          congr 1
          omega
      · rw [ih.did, pstep_did, pstep_p, hpc, List.any_cons, Bool.or_assoc]
    · rw [show prun l (n + 1) s = s by conv => lhs; unfold prun
                                       rw [if_neg hp]]
      have hpc : pcs l (n + 1) s.p = [] := by unfold pcs; rw [if_neg hp]
      exact ⟨by simp [hpc], fun q _ => rfl, fun A q C h => by simp [hpc] at h, by simp [hpc], hw⟩
/-- all places at which a pass stands -/
def bs (l : List Ins) : List Nat := pcs l l.length 0
theorem pass0_ran (l : List Ins) : Ran l l.length ⟨0, [], List.replicate (l.length + 1) 0, false⟩ (pass0 l) := prun_ran _ _ (by simp)
theorem pass0_out (l : List Ins) : (pass0 l).out = (bs l).flatMap (em l) := (pass0_ran l).out
theorem pass0_wh {l : List Ins} {A : List Nat} {q : Nat} {C : List Nat} (h : bs l = A ++ q :: C) : (pass0 l).wh.getD q 0 = ((A.flatMap (em l)).length : Int) := by
  have := (pass0_ran l).wh A q C h
  simpa using this
theorem pass0_did (l : List Ins) : (pass0 l).did = (bs l).any fun q => decide ((shorter l q).2 ≠ 0) := by
  have := (pass0_ran l).did
  rw [this]
  exact Bool.false_or _
/-- what follows a place -/
theorem pcs_next {l : List Ins} : ∀ (n p : Nat) (A : List Nat) (q : Nat) (C : List Nat), l.length ≤ n + p → pcs l n p = A ++ q :: C → q < l.length ∧ ((nx l q = l.length ∧ C = []) ∨ (nx l q < l.length ∧ ∃ C', C = nx l q :: C'))
  | 0, p, A, q, C, _, h => by simp [pcs] at h
  | n + 1, p, A, q, C, hn, h => by
    unfold pcs at h
    split at h
    · rename_i hp
      have hgt := nx_gt l p
      cases A with
      | nil =>
        simp only [List.nil_append, List.cons.injEq] at h
        obtain ⟨rfl, h⟩ := h
        refine ⟨hp, ?_⟩
        have hle := nx_le hp
        by_cases hl : nx l p < l.length
        · right
          refine ⟨hl, ?_⟩
          cases n with
          | zero => omega
          | succ n =>
            unfold pcs at h
            rw [if_pos hl] at h
            exact ⟨_, h.symm⟩
        · left
          refine ⟨by omega, ?_⟩
          rw [← h]
          cases n with
          | zero => rfl
          | succ n => unfold pcs; rw [if_neg hl]
      | cons a A =>
        simp only [List.cons_append, List.cons.injEq] at h
        exact pcs_next n (nx l p) A q C (by omega) h.2
    · simp at h
theorem bs_next {l : List Ins} {A : List Nat} {q : Nat} {C : List Nat} (h : bs l = A ++ q :: C) : q < l.length ∧ ((nx l q = l.length ∧ C = []) ∨ (nx l q < l.length ∧ ∃ C', C = nx l q :: C')) := pcs_next l.length 0 A q C (by omega) h
theorem bs_zero {l : List Ins} (h : 0 < l.length) : ∃ C, bs l = 0 :: C := by
  unfold bs
  obtain ⟨n, hn⟩ : ∃ n, l.length = n + 1 := ⟨l.length - 1, by omega⟩
  rw [hn]
  unfold pcs
  rw [if_pos (by omega)]
  exact ⟨_, rfl⟩
/-- each place lies in a piece -/
theorem bs_cover {l : List Ins} (h : 0 < l.length) : ∀ a, a < l.length → ∃ A q C, bs l = A ++ q :: C ∧ q ≤ a ∧ a < nx l q
  | 0, _ => by
    obtain ⟨C, hC⟩ := bs_zero h
    exact ⟨[], 0, C, hC, Nat.le_refl _, nx_gt l 0⟩
  | a + 1, ha => by
    obtain ⟨A, q, C, h1, h2, h3⟩ := bs_cover h a (by omega)
    by_cases hx : a + 1 < nx l q
    · exact ⟨A, q, C, h1, by omega, hx⟩
    · obtain ⟨-, hn⟩ := bs_next h1
      have he : nx l q = a + 1 := by omega
      rcases hn with ⟨hn, -⟩ | ⟨hn, C', rfl⟩
      · omega
      · rw [he] at h1
        exact ⟨A ++ [q], a + 1, C', by rw [h1]; simp, Nat.le_refl _, nx_gt _ _⟩
/-- where code jumps to, a piece begins -/
theorem bs_tgt {l : List Ins} {a : Nat} (ha : a < l.length) (ht : tgt l (a : Int) = true) : ∃ A C, bs l = A ++ a :: C := by
  obtain ⟨A, q, C, h1, h2, h3⟩ := bs_cover (by omega) a ha
  by_cases he : q = a
  · subst he; exact ⟨A, C, h1⟩
  · exfalso
    unfold nx at h3
    by_cases hs : (shorter l q).2 = 0
    · rw [if_pos hs] at h3; omega
    · rw [if_neg hs] at h3
      have := shorter_not hs (k := a - q) (by omega) (by omega)
      rw [show q + (a - q) = a by omega, ht] at this
      cases this
/-- where each new instruction comes from -/
def srcs (l : List Ins) (b : List Nat) : List Nat := b.flatMap fun q => if em l q = [] then [] else [q]
theorem srcs_len (l : List Ins) (b : List Nat) : (srcs l b).length = (b.flatMap (em l)).length := by
  unfold srcs
  induction b with
  | nil => rfl
  | cons q r ih =>
    rw [List.flatMap_cons, List.flatMap_cons, List.length_append, List.length_append, ih]
    have := em_len l q
    congr 1
    by_cases h : em l q = []
    · rw [if_pos h, h]; rfl
    · rw [if_neg h]
      have : (em l q).length ≠ 0 := fun h' => h (List.eq_nil_of_length_eq_zero h')
      simp; omega
theorem srcs_app (l : List Ins) (a b : List Nat) : srcs l (a ++ b) = srcs l a ++ srcs l b := by unfold srcs; rw [List.flatMap_append]
theorem src_at {l : List Ins} : ∀ (b : List Nat) (j q : Nat), (srcs l b)[j]? = some q → ∃ A C i, b = A ++ q :: C ∧ em l q = [i] ∧ j = (A.flatMap (em l)).length ∧ (b.flatMap (em l))[j]? = some i
  | [], j, q, h => by simp [srcs] at h
  | x :: r, j, q, h => by
    have e : srcs l (x :: r) = (if em l x = [] then [] else [x]) ++ srcs l r := by unfold srcs; rw [List.flatMap_cons]
    rw [e] at h
    by_cases hx : em l x = []
    · rw [if_pos hx, List.nil_append] at h
      obtain ⟨A, C, i, h1, h2, h3, h4⟩ := src_at r j q h
      exact ⟨x :: A, C, i, by rw [h1]; rfl, h2, by rw [List.flatMap_cons, hx]; simpa using h3, by rw [List.flatMap_cons, hx]; simpa using h4⟩
    · rw [if_neg hx] at h
      obtain ⟨i, hi⟩ : ∃ i, em l x = [i] := by
        have := em_len l x
        match hm : em l x with
        | [] => exact absurd hm hx
        | [i] => exact ⟨i, rfl⟩
        | _ :: _ :: _ => rw [hm] at this; simp at this
      cases j with
      | zero =>
        simp at h
        subst h
        exact ⟨[], r, i, rfl, hi, rfl, by rw [List.flatMap_cons, hi]; rfl⟩
      | succ j =>
        have h' : (srcs l r)[j]? = some q := by simpa using h
        obtain ⟨A, C, i', h1, h2, h3, h4⟩ := src_at r j q h'
        refine ⟨x :: A, C, i', by rw [h1]; rfl, h2, ?_, ?_⟩
        · rw [List.flatMap_cons, hi]; simp [h3]
        · rw [List.flatMap_cons, hi]; first | exact h4 | simpa using h4
/-- a new instruction has a place that it comes from -/
theorem src_some {l : List Ins} {b : List Nat} {j : Nat} (h : j < (b.flatMap (em l)).length) : ∃ q, (srcs l b)[j]? = some q := by
  rw [← srcs_len] at h
  exact ⟨_, List.getElem?_eq_getElem h⟩
/-- it is never longer, and shorter if something was done -/
theorem pcs_len {l : List Ins} : ∀ (n p : Nat), p ≤ l.length → p + ((pcs l n p).flatMap (em l)).length + (if (pcs l n p).any (fun q => decide ((shorter l q).2 ≠ 0)) then 1 else 0) ≤ l.length
  | 0, p, h => by simp [pcs]; exact h
  | n + 1, p, h => by
    unfold pcs
    split
    · rename_i hp
      have ih := pcs_len n (nx l p) (nx_le hp)
      rw [List.flatMap_cons, List.length_append, List.any_cons]
      by_cases hs : (shorter l p).2 = 0
      · have e1 : nx l p = p + 1 := by unfold nx; rw [if_pos hs]
        have e2 : (em l p).length = 1 := by unfold em; rw [if_pos hs]; rfl
        simp only [hs, ne_eq, not_true_eq_false, decide_false, Bool.false_or]
        rw [e2]
        simp only [ne_eq] at ih
        omega
      · have e1 : nx l p = p + (shorter l p).2 := by unfold nx; rw [if_neg hs]
        have e2 : em l p = (shorter l p).1 := by unfold em; rw [if_neg hs]
        have := shorter_len hs
        simp only [hs, ne_eq, not_false_eq_true, decide_true, Bool.true_or, if_true]
        rw [e2]
        split at ih <;> omega
    · simp; exact h
theorem pass_len (l : List Ins) : (pass l).1.length + (if (pass l).2 then 1 else 0) ≤ l.length := by
  have := pcs_len (l := l) l.length 0 (Nat.zero_le _)
  unfold pass
  simp only [List.length_map]
  rw [pass0_did, pass0_out]
  rw [Nat.zero_add] at this
  exact this
theorem codeN_len : ∀ (n : Nat) (l : List Ins), (codeN n l).length ≤ l.length
  | 0, l => by unfold codeN; exact Nat.le_refl _
  | n + 1, l => by
    have h := pass_len l
    unfold codeN
    split
    · rename_i hd
      have := codeN_len n (pass l).1
      omega
    · omega
theorem code_len (l : List Ins) : (code l).length ≤ l.length := codeN_len _ l
end Go.Proofs.Ytgnhfinabhimpaa.Opt
