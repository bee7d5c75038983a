/- Package stacks, walked by the new rules: popping, all words, a new one. -/
import Derived.Test.YtfeajpghabjaaaaM28
namespace Go.Proofs.Ytfeajpghabjaaaa.Vw
open Go.RowKit Go.Proofs.Ytfeajpghabjaaaa.Img
set_option linter.unusedVariables false
set_option linter.unusedSimpArgs false
attribute [local irreducible] Run Cod End OpT Still RunQ RunS RunT Fn PutOk
set_option maxRecDepth 100000 in
set_option maxHeartbeats 1000000 in
theorem pop_stk (k : Sk) (hk : k.Ok) (n : Nat) (hn : n ≤ k.live) : Fn Try.prog 89 #[ptr k.sb, .int .i64 (n : Int)] [] (skM k) (σ := Sk) (fun k' => SkTo k k' (k.ws.take (k.live - n))) (fun _ => .tuple #[]) (fun k' => skM k') := by
  have hwl := Sk.len hk
  obtain ⟨g1, g2, g3⟩ := id hk
  have q4 : IntKind.i64.wrap ((k.l.length : Int).tdiv 4) = ((k.l.length / 4 : Nat) : Int) := by rw [Int.tdiv_eq_ediv_of_nonneg (by omega), wrap_i64_in (by omega)]; omega
  have q2 : IntKind.i64.wrap ((k.l.length : Int).tdiv 2) = ((k.l.length / 2 : Nat) : Int) := by rw [Int.tdiv_eq_ediv_of_nonneg (by omega), wrap_i64_in (by omega)]; omega
  have s1 : IntKind.i64.wrap ((k.live : Int) - (n : Int)) = ((k.live - n : Nat) : Int) := by rw [wrap_i64_in (by omega)]; omega
  obtain ⟨k1, e1⟩ : ∃ k1 : Sk, k1 = ⟨k.sb, k.lb, k.l, k.live - n⟩ := ⟨_, rfl⟩
  have hk1 : SkTo k k1 (k.ws.take (k.live - n)) := ⟨by rw [e1]; exact ⟨by simp only; omega, g2, g3⟩, by rw [e1], by rw [e1]; simp only [Sk.ws, List.take_take]; congr 1; omega, by rw [e1]; simp; omega⟩
  have hl1 : k1.l.length = k.l.length := by rw [e1]
  have hv1 : k1.live = k.live - n := by rw [e1]
  refine Fn.enter (args := [ptr k.sb, .int .i64 (n : Int)]) Try.func89 rfl _ Try.ntmps89 rfl (by simp [rd_excl, md_excl]) (fun w S => ?_)
  (try conv => rhs; simp only [List.cons_append, List.nil_append])
  by_cases h4 : k.live - n ≤ k.l.length / 4
  · by_cases h8 : 8 < k.l.length
    · have hmax : (if ((k.l.length / 2 : Nat) : Int) < 8 then 8 else ((k.l.length / 2 : Nat) : Int)) = ((max (k.l.length / 2) 8 : Nat) : Int) := by split <;> omega
      repeat (first | refine go (k := ?_) | (refine goB (k := ?_); intro b) | (refine goA (k := ?_); intro ao cap))
      apply Cod.draw 12 ([blk k.sb [.slice (some ⟨k.lb, 0, none⟩) k.l.length k.l.length, .int .i64 ((k.live - n : Nat) : Int), .int .i64 8, .int .i64 400] 151]) (by kernel_rfl) 13 rfl
      refine RunT.takeR_ 0 (h := ?_)
      refine RunT.takeR_ 1 (h := ?_)
      refine RunT.takeR_ 2 (h := ?_)
      refine RunT.takeR_ 3 (h := ?_)
      refine RunT.takeR_ 4 (h := ?_)
      refine RunT.takeR_ 5 (h := ?_)
      refine RunT.takeR_ 6 (h := ?_)
      refine RunT.takeR_ 7 (h := ?_)
      refine RunT.takeR_ 8 (h := ?_)
      refine RunT.takeR_ 9 (h := ?_)
      refine RunT.takeR_ 10 (h := ?_)
      refine RunT.takeR_ 11 (hy := by exact Still.imax rfl rfl hmax) (h := ?_)
      have e2 : k1.sb = k.sb := by rw [e1]
      have e3 : k1.lb = k.lb := by rw [e1]
      have e4 : k1.l = k.l := by rw [e1]
      rw [← hv1, ← e2, ← e3, ← e4]
      (refine RunT.one_ 12 (h := ?_); refine OpT.call0_ (spec := sized_is k1 hk1.ok (max (k1.l.length / 2) 8) (by omega) (by omega) (by omega)) (k := ?_); intro s hs; refine And.intro gud ?_; (try conv => rhs; simp only [List.cons_append, List.nil_append]))
      (apply RunT.done; kernel_rfl)
      repeat (first | refine go (k := ?_) | (refine goB (k := ?_); intro b) | (refine goA (k := ?_); intro ao cap))
      have hlen : k1.ws.length = k1.live := Sk.len hk1.ok
      refine End.done0'_ (⟨k1.sb, s, k1.ws ++ List.replicate (max (k1.l.length / 2) 8 - k1.live) 0, k1.live⟩ : Sk) (hp := ?_)
      rw [← hv1] at hk1
      exact ⟨⟨by simp; omega, by simp; omega, by simp; omega⟩, hk1.sb, by rw [← hk1.ws]; exact take_app_len hlen, hk1.live⟩
    · repeat (first | refine go (k := ?_) | (refine goB (k := ?_); intro b) | (refine goA (k := ?_); intro ao cap))
      refine End.done0'_ (⟨k.sb, k.lb, k.l, k.live - n⟩ : Sk) (hp := ?_)
      rw [← e1]; exact hk1
  · repeat (first | refine go (k := ?_) | (refine goB (k := ?_); intro b) | (refine goA (k := ?_); intro ao cap))
    refine End.done0'_ (⟨k.sb, k.lb, k.l, k.live - n⟩ : Sk) (hp := ?_)
    rw [← e1]; exact hk1
set_option maxRecDepth 100000 in
theorem words_stk (k : Sk) (hk : k.Ok) : Fn Try.prog 105 #[ptr k.sb] [] (skM k) (σ := Option Addr × Nat) (fun _ => True) (fun s => .slice s.1 k.live s.2) (fun s => arr s.1 k.live s.2 2 i64c k.ws :: skM k) := by
  have hwl := Sk.len hk
  obtain ⟨g1, g2, g3⟩ := id hk
  refine Fn.enter (args := [ptr k.sb]) Try.func105 rfl _ Try.ntmps105 rfl (by simp [rd_excl, md_excl]) (fun w S => ?_)
  (try conv => rhs; simp only [List.cons_append, List.nil_append])
  apply Cod.seqN
  apply Cod.region
  (apply Run.op; exact rfl; refine OpT.val_ (k := ?_))
  apply Run.nil
  apply End.seqN
  apply Cod.seqN
  apply Cod.imp (fun w hm => hm.nilArr 2 i64c)
  apply Cod.draw 9 (skM k) (by kernel_rfl) 11 rfl
  refine RunT.takeR_ 0 (h := ?_)
  refine RunT.takeR_ 1 (h := ?_)
  refine RunT.takeR_ 2 (h := ?_)
  refine RunT.takeR_ 3 (h := ?_)
  refine RunT.takeR_ 4 (h := ?_)
  refine RunT.takeR_ 5 (h := ?_)
  refine RunT.takeR_ 6 (h := ?_)
  refine RunT.takeR_ 7 (h := ?_)
  refine RunT.one_ 8 (h := ?_)
  refine OpT.cutV_ (f := i64c) (e := 2) (l := k.l) (k := ?_)
  intro ao' cap' hcut
  refine And.intro gud ?_
  refine RunT.one_ 9 (h := ?_)
  refine OpT.appendS_ (l := []) (l2 := k.ws) (hr := hcut _ (by (first | (apply Rdb.arr; focus ((repeat (first | exact Take.head | apply Take.tail)); done)) | (apply Rdb.rd; focus ((repeat (first | exact Take.head | apply Take.tail)); done)) | (apply Rdb.md_units; focus ((repeat (first | exact Take.head | apply Take.tail)); done)) | (apply Rdb.md_boxes; focus ((repeat (first | exact Take.head | apply Take.tail)); done)) | (apply Rdb.md_code; (focus ((repeat (first | exact Take.head | apply Take.tail)); done)); (focus (first | assumption | omega))) | (apply Rdb.md_locals; (focus ((repeat (first | exact Take.head | apply Take.tail)); done)); (focus (first | assumption | omega))) | (apply Rdb.old; (focus assumption); (focus ((repeat (first | exact Take.head | apply Take.tail)); done)))))) (k := ?_)
  intro ao2 cap2
  refine And.intro gud ?_
  rw [show 0 + (k.live - 0) = k.live by omega, List.nil_append]
  refine RunT.one_ 10 (h := OpT.val_ (k := And.intro gud ?_))
  (apply RunT.done; kernel_rfl)
  repeat (first | refine go (k := ?_) | (refine goB (k := ?_); intro b) | (refine goA (k := ?_); intro ao cap))
  refine End.done1_ (ao2, cap2) (he := by rfl) (hp := trivial)
set_option maxRecDepth 100000 in
theorem new_stk : Fn Try.prog 86 #[.int .i64 8, .int .i64 400] [] [] (σ := Sk) (fun k => k.Ok ∧ k.ws = [] ∧ k.live = 0) (fun k => ptr k.sb) (fun k => skM k) := by
  refine Fn.enter (args := [.int .i64 8, .int .i64 400]) Try.func86 rfl _ Try.ntmps86 rfl (by simp [rd_excl, md_excl]) (fun w S => ?_)
  (try conv => rhs; simp only [List.cons_append, List.nil_append])
  repeat (first | refine go (k := ?_) | (refine goB (k := ?_); intro b) | (refine goA (k := ?_); intro ao cap))
  apply Run.op (by exact rfl)
  refine OpT.makeSlice_ (f := i64c) (iα := inferInstance) (ef := inferInstance) (z := 0) (n := 8) (k := ?_)
  intro nb
  repeat (first | refine go (k := ?_) | (refine goB (k := ?_); intro b) | (refine goA (k := ?_); intro ao cap))
  refine End.done1_ (⟨b, nb, List.replicate 8 0, 0⟩ : Sk) (he := by rfl) (hp := ?_)
  exact ⟨⟨by simp, by simp, by simp⟩, rfl, rfl⟩
end Go.Proofs.Ytfeajpghabjaaaa.Vw

/- What a task speaks to, as it lies in memory; a task's cells, a thread's. -/
namespace Go.Proofs.Ytfeajpghabjaaaa.Vw
open Go.RowKit Go.Proofs.Ytfeajpghabjaaaa.Img
set_option linter.unusedVariables false
set_option linter.unusedSimpArgs false
/-- boxes, and who is told, somewhere in memory: what the task's functions may ask of them -/
structure EnvM where
  μ : Type
  ν : Type
  V : Vm.Env ν
  abs : μ → ν
  ok : μ → Prop
  mem : μ → Chunk
  size : ν → Nat
  sPut : ∀ v b x, size (V.put v b x) ≤ size v + 1
  sTake : ∀ v b, size (V.take v b).2 ≤ size v + 1
  sTell : ∀ v x, size (V.tell v x) ≤ size v + 1
  excl : ∀ e, (mem e).excl = true
  rc : Chunk
  rexcl : rc.excl = false
  T : TypeId
  rv : Value
  told : Option (FuncId × List Value)
  boxes : Nat
  fFull : FuncId
  fEmpty : FuncId
  fPut : FuncId
  fTake : FuncId
  mFull : Finds Try.prog T rv "Full" fFull
  mEmpty : Finds Try.prog T rv "Empty" fEmpty
  mPut : Finds Try.prog T rv "Put" fPut
  mTake : Finds Try.prog T rv "Take" fTake
  bFull : callB Try.prog fFull = true
  bEmpty : callB Try.prog fEmpty = true
  bPut : callB Try.prog fPut = true
  bTake : callB Try.prog fTake = true
  full : ∀ (e : μ) (b : Nat), ok e → b < boxes → Fn Try.prog fFull #[rv, .int .i64 (b : Int)] [rc] [mem e] (σ := Unit) (fun _ => True) (fun _ => .bool (V.full (abs e) b)) (fun _ => [mem e])
  empty : ∀ (e : μ) (b : Nat), ok e → b < boxes → Fn Try.prog fEmpty #[rv, .int .i64 (b : Int)] [rc] [mem e] (σ := Unit) (fun _ => True) (fun _ => .bool (V.empty (abs e) b)) (fun _ => [mem e])
  put : ∀ (e : μ) (b : Nat) (v : Int), ok e → b < boxes → V.full (abs e) b = false → size (abs e) ≤ 2000000 → Fn Try.prog fPut #[rv, .int .i64 (b : Int), .int .i64 v] [rc] [mem e] (σ := μ) (fun e' => ok e' ∧ abs e' = V.put (abs e) b v) (fun _ => .tuple #[]) (fun e' => [mem e'])
  take : ∀ (e : μ) (b : Nat), ok e → b < boxes → V.empty (abs e) b = false → Fn Try.prog fTake #[rv, .int .i64 (b : Int)] [rc] [mem e] (σ := μ) (fun e' => ok e' ∧ abs e' = (V.take (abs e) b).2) (fun e' => .int .i64 (V.take (abs e) b).1) (fun e' => [mem e'])
  tell : match told with
    | none => ∀ v x, V.tell v x = v
    | some (f, cap) => callB Try.prog f = true ∧ ∀ (e : μ) (a b v : Int), ok e → size (abs e) ≤ 2000000 → Fn Try.prog f (#[.int .i64 a, .int .i64 b, .int .i64 v] ++ cap.toArray) [rc] [mem e] (σ := μ) (fun e' => ok e' ∧ abs e' = V.tell (abs e) (a, b, v)) (fun _ => .tuple #[]) (fun e' => [mem e'])
attribute [simp] EnvM.excl EnvM.rexcl
/-- a state of the boxes from which something may still be sent and told -/
abbrev EnvM.okk (E : EnvM) (e : E.μ) : Prop := E.ok e ∧ E.size (E.abs e) ≤ 2000000
theorem trap_size (E : EnvM) (n : Int) (s : Vm.Tk × E.ν) : E.size (Vm.trap E.V n s).2 ≤ E.size s.2 + 1 := by
  unfold Vm.trap
  split
  · exact Nat.le_succ _
  · exact E.sTell _ _
theorem push_size (E : EnvM) (v : Int) (s : Vm.Tk × E.ν) : E.size (Vm.push E.V v s).2 ≤ E.size s.2 + 1 := by
  unfold Vm.push
  split
  · exact trap_size E _ _
  · exact Nat.le_succ _
theorem pushN_size (E : EnvM) : ∀ (n : Nat) (s : Vm.Tk × E.ν), E.size (Vm.pushN E.V n s).2 ≤ E.size s.2 + n
  | 0, s => Nat.le_refl _
  | n + 1, s => by
    unfold Vm.pushN
    have h1 := pushN_size E n (Vm.push E.V 0 s)
    have h2 := push_size E 0 s
    omega
def toldV : Option (FuncId × List Value) → Value
  | none => .nilFunc
  | some (f, cap) => .func (.func f) #[] cap.toArray
/-- a task's cells: its module, its boxes, its threads, which is at work, how it stands, its box, its trap, what it put out, who is told -/
abbrev tcl (mb : Nat) (mail cos : Value) (cb : Nat) (st bx tr : Int) (out told : Value) : List Value := [ptr mb, mail, cos, ptr cb, .int .i64 st, .int .i64 bx, .int .i64 tr, out, told]
/-- a thread's cells -/
abbrev ccl (st : Int) (up fr : Value) (sb : Nat) : List Value := [.int .i64 st, up, fr, ptr sb]
/-- a task's, but how it stands -/
structure TF where
  tb : Nat
  mb : Nat
  cos : Value
  cb : Nat
  bx : Int
  out : Value
abbrev EnvM.mailV (E : EnvM) : Value := .iface E.T E.rv
abbrev EnvM.tc (E : EnvM) (F : TF) (st tr : Int) : Chunk := blk F.tb (tcl F.mb E.mailV F.cos F.cb st F.bx tr F.out (toldV E.told)) 76
abbrev cc (cb : Nat) (st : Int) (up fr : Value) (sb : Nat) : Chunk := blk cb (ccl st up fr sb) 104
/-- what a trap makes of how a task stands -/
structure Trapped (E : EnvM) (n st tr : Int) (e : E.μ) (q : Int × Int × E.μ) : Prop where
  old : st = 5 → q = (st, tr, e)
  new : st ≠ 5 → q.1 = 5 ∧ q.2.1 = n ∧ E.ok q.2.2 ∧ E.abs q.2.2 = E.V.tell (E.abs e) (5, 0, n)
structure Pushed (E : EnvM) (v : Int) (k : Sk) (st tr : Int) (e : E.μ) (q : Sk × Int × Int × E.μ) : Prop where
  full : k.live = 400 → q.1 = k ∧ Trapped E 4 st tr e q.2
  room : k.live ≠ 400 → SkTo k q.1 (k.ws ++ [v]) ∧ q.2 = (st, tr, e)
end Go.Proofs.Ytfeajpghabjaaaa.Vw

/- Solo's boxes, walked. -/
namespace Go.Proofs.Ytfeajpghabjaaaa.Vw
open Go.RowKit Go.Proofs.Ytfeajpghabjaaaa.Img
set_option linter.unusedVariables false
set_option linter.unusedSimpArgs false
attribute [local irreducible] Run Cod End OpT Still RunQ RunS RunT Fn PutOk
/-- where Solo's boxes lie -/
structure LsP where
  lb : Nat
  tb : Nat
  sb : Nat
structure LsE where
  took : List Nat
  sent : List Rw
abbrev lsV (p : LsP) (f : FL) : List Value := [.slice f.o f.l.length f.c, .slice (some ⟨p.tb, 0, none⟩) f.l.length f.l.length, .slice (some ⟨p.sb, 0, none⟩) f.l.length f.l.length]
abbrev lsL (p : LsP) (f : FL) (e : LsE) : List Chunk := [blk p.lb (lsV p f) 67, arr (some ⟨p.tb, 0, none⟩) f.l.length f.l.length 3 natC e.took, arr (some ⟨p.sb, 0, none⟩) f.l.length f.l.length 41 rwC e.sent, bag (e.sent.map (rowM 2))]
def lsM (p : LsP) (f : FL) (e : LsE) : Chunk := bag (lsL p f e)
theorem lsM_excl (p : LsP) (f : FL) (e : LsE) : (lsM p f e).excl = true := bag_excl
theorem lsL_excl (p : LsP) (f : FL) (e : LsE) : ∀ c ∈ lsL p f e, c.excl = true := by simp [blk_excl, arr_excl, bag_excl]
theorem Mem.lsOut {w : World} {L L' : List Chunk} {p : LsP} {f : FL} {e : LsE} (h : Mem w L) (t : Take (lsM p f e) L L') : Mem w (lsL p f e ++ L') := (h.take t).unpack
theorem Mem.lsIn {w : World} {L L' : List Chunk} {p : LsP} {f : FL} {e : LsE} (h : Mem w L) (t : Takes (lsL p f e) L L') : Mem w (lsM p f e :: L') := (h.takes t).pack (lsL_excl p f e)
structure LsOk (f : FL) (e : LsE) : Prop where
  took : e.took.length = f.l.length
  sent : e.sent.length = f.l.length
  le : ∀ b, b < f.l.length → e.took.getD b 0 ≤ (f.l.getD b default).l.length
def LsE.abs (e : LsE) : Vm.Ls := ⟨e.took, e.sent.map (·.l)⟩
theorem getD_nat (l : List Nat) (b : Nat) : l.getD b default = l.getD b 0 := rfl
set_option maxRecDepth 100000 in
theorem lsFull_is (p : LsP) (f : FL) (e : LsE) (b : Nat) : Fn Try.prog 124 #[ptr p.lb, .int .i64 (b : Int)] [fd f] [lsM p f e] (σ := Unit) (fun _ => True) (fun _ => .bool false) (fun _ => [lsM p f e]) := by
  refine Fn.enter (args := [ptr p.lb, .int .i64 (b : Int)]) Try.func124 rfl _ Try.ntmps124 rfl (by simp [fd_excl]) (fun w S => ?_)
  (try conv => rhs; simp only [List.cons_append, List.nil_append])
  repeat (first | refine go (k := ?_) | (refine goB (k := ?_); intro b) | (refine goA (k := ?_); intro ao cap))
  refine End.done1_ () (he := by rfl) (hp := trivial) (hx := by simp [lsM_excl])
theorem lsOkPut {f : FL} {took : List Nat} {s u : List Rw} {r r' : Rw} {v : Int} (h : LsOk f ⟨took, s ++ r :: u⟩) (hr : r'.l = r.l ++ [v]) : LsOk f ⟨took, s ++ r' :: u⟩ ∧ (LsE.abs ⟨took, s ++ r' :: u⟩) = (Vm.lists f.ws).put (LsE.abs ⟨took, s ++ r :: u⟩) s.length v := by
  obtain ⟨h1, h2, h3⟩ := h
  refine ⟨⟨h1, by simpa using h2, h3⟩, ?_⟩
  unfold LsE.abs Vm.lists
  simp only [Vm.Ls.mk.injEq, true_and, getD_ws, getD_split]
  rw [← hr]
  have e := set_split (s.map (·.l)) (u.map (·.l)) r.l r'.l
  simp only [List.length_map] at e
  simp only [List.map_append, List.map_cons]
  exact e.symm
theorem lsOkTake {f : FL} {took : List Nat} {sent : List Rw} {b : Nat} (h : LsOk f ⟨took, sent⟩) (hb : b < f.l.length) (hne : took.getD b 0 ≠ (f.l.getD b default).l.length) : LsOk f ⟨took.set b (took.getD b 0 + 1), sent⟩ ∧ (LsE.abs ⟨took.set b (took.getD b 0 + 1), sent⟩) = ((Vm.lists f.ws).take (LsE.abs ⟨took, sent⟩) b).2 := by
  obtain ⟨h1, h2, h3⟩ := h
  refine ⟨⟨by simpa using h1, h2, fun j hj => ?_⟩, rfl⟩
  simp only at h1 h3
  have := h3 j hj
  simp only [List.getD_eq_getElem?_getD, List.getElem?_set] at this hne ⊢
  by_cases hj' : b = j
  · subst hj'
    rw [if_pos rfl, if_pos (by omega)]
    simp only [Option.getD_some]
    omega
  · rw [if_neg hj']; exact this
set_option maxRecDepth 100000 in
theorem lsEmpty_is (p : LsP) (f : FL) (e : LsE) (he : LsOk f e) (b : Nat) (hb : b < f.l.length) : Fn Try.prog 123 #[ptr p.lb, .int .i64 (b : Int)] [fd f] [lsM p f e] (σ := Unit) (fun _ => True) (fun _ => .bool ((Vm.lists f.ws).empty e.abs b)) (fun _ => [lsM p f e]) := by
  obtain ⟨h1, h2, h3⟩ := he
  refine Fn.enter (args := [ptr p.lb, .int .i64 (b : Int)]) Try.func123 rfl _ Try.ntmps123 rfl (by simp [fd_excl]) (fun w S => ?_)
  (try conv => rhs; simp only [List.cons_append, List.nil_append])
  apply Cod.imp (fun w hm => Mem.lsOut hm (by (repeat (first | exact Take.head | apply Take.tail))))
  apply Cod.imp (fun w hm => Mem.fdOut (by (repeat (first | exact Take.head | apply Take.tail))) hm)
  repeat (first | refine go (k := ?_) | (refine goB (k := ?_); intro b) | (refine goA (k := ?_); intro ao cap))
  apply End.imp (fun w hm => Mem.lsIn (p := p) (f := f) (e := e) hm (by (repeat (first | exact Takes.nil | exact Take.head | apply Take.tail | apply Takes.cons))))
  refine End.done1_ () (he := ?_) (hp := trivial) (hx := by simp [lsM_excl])
  refine bool_eq ?_
  unfold Vm.lists LsE.abs
  simp only [getD_ws, getD_nat]
  exact decide_eq_decide.2 (by omega)
set_option maxRecDepth 100000 in
theorem lsPut_is (p : LsP) (f : FL) (e : LsE) (he : LsOk f e) (b : Nat) (hb : b < f.l.length) (v : Int) (hs : Vm.total (e.sent.map (·.l)) ≤ 2000000) : Fn Try.prog 125 #[ptr p.lb, .int .i64 (b : Int), .int .i64 v] [fd f] [lsM p f e] (σ := LsE) (fun e' => LsOk f e' ∧ e'.abs = (Vm.lists f.ws).put e.abs b v) (fun _ => .tuple #[]) (fun e' => [lsM p f e']) := by
  have he' := he
  obtain ⟨h1, h2, h3⟩ := he
  have htot := Vm.total_le (e.sent.map (·.l)) b
  rw [getD_ws] at htot
  obtain ⟨took, sent⟩ := e
  simp only at h1 h2 h3 hs htot
  obtain ⟨s1, u1, hsp, hlen⟩ := split_at (l := sent) (k := b) (by omega)
  obtain ⟨r, hr⟩ : ∃ r, r = sent.getD b default := ⟨_, rfl⟩
  rw [← hr] at hsp htot
  subst hsp
  subst hlen
  refine Fn.enter (args := [ptr p.lb, .int .i64 (s1.length : Int), .int .i64 v]) Try.func125 rfl _ Try.ntmps125 rfl (by simp [fd_excl]) (fun w S => ?_)
  (try conv => rhs; simp only [List.cons_append, List.nil_append])
  apply Cod.imp (fun w hm => Mem.lsOut hm (by (repeat (first | exact Take.head | apply Take.tail))))
  apply Cod.imp (fun w hm => Mem.rowOut hm (by (repeat (first | exact Take.head | apply Take.tail))))
  have hgr : (s1 ++ r :: u1).getD s1.length default = r := getD_split _ _ _
  apply Cod.draw 16 ([blk p.lb (lsV p f) 67, arr (some ⟨p.sb, 0, none⟩) f.l.length f.l.length 41 rwC (s1 ++ r :: u1)]) (by kernel_rfl) 17 rfl
  refine RunT.takeR_ 0 (h := ?_)
  refine RunT.takeR_ 1 (h := ?_)
  refine RunT.takeR_ 2 (h := ?_)
  refine RunT.takeR_ 3 (h := ?_)
  refine RunT.takeR_ 4 (h := ?_)
  refine RunT.takeR_ 5 (h := ?_)
  refine RunT.takeR_ 6 (h := ?_)
  refine RunT.takeR_ 7 (h := ?_)
  refine RunT.takeR_ 8 (h := ?_)
  refine RunT.takeR_ 9 (h := ?_)
  refine RunT.takeR_ 10 (h := ?_)
  refine RunT.takeR_ 11 (h := ?_)
  refine RunT.takeR_ 12 (h := ?_)
  rw [hgr]
  (refine RunT.one_ 13 (h := ?_); (first | refine OpT.val_ (k := ?_) | (refine OpT.alloc_ (k := ?_); intro b) | (refine OpT.box_ (k := ?_); intro b) | refine OpT.store_ (k := ?_) | (refine OpT.buildSlice_ (k := ?_); intro b) | (refine OpT.buildSlice0_ (k := ?_); intro b) | (refine OpT.append1_ (k := ?_); intro ao cap) | (refine OpT.cutA0_ (k := ?_); intro ao cap) | (refine OpT.cutR0_ (k := ?_); intro ao cap) | (refine OpT.cutA1_ (k := ?_); intro ao cap) | (refine OpT.cutA_ (k := ?_); intro ao cap) | (refine OpT.cutR_ (k := ?_); intro ao cap)); refine And.intro gud ?_)
  (refine RunT.one_ 14 (h := ?_); refine OpT.append1_ (a := v) (k := ?_); intro ao cap; refine And.intro gud ?_; (try conv => rhs; simp only [List.cons_append, List.nil_append]))
  refine RunT.takeR_ 15 (h := ?_)
  (refine RunT.one_ 16 (h := ?_); refine OpT.storeE_ (f := rwC) (l := s1 ++ r :: u1) (i := s1.length) (off := 0) (vs := [.slice ao (r.l.length + 1) cap]) (a' := (⟨ao, cap, r.l ++ [v]⟩ : Rw)) (hp := by rw [hgr, show rwC ⟨ao, cap, r.l ++ [v]⟩ = [.slice ao (r.l.length + 1) cap] by simp [rwC]]; exact Put.take .done) (k := ?_); refine And.intro gud ?_)
  rw [set_split]
  (apply RunT.done; kernel_rfl)
  repeat (first | refine go (k := ?_) | (refine goB (k := ?_); intro b) | (refine goA (k := ?_); intro ao cap))
  have hle : (r.l ++ [v]).length = r.l.length + 1 := by simp
  rw [← hle]
  apply End.imp (fun w hm => Mem.rowIn (r := ⟨ao, cap, r.l ++ [v]⟩) hm (by (repeat (first | exact Take.head | apply Take.tail))) (by (repeat (first | exact Takes.nil | exact Take.head | apply Take.tail | apply Takes.cons))))
  apply End.imp (fun w hm => Mem.lsIn (p := p) (f := f) (e := ⟨took, s1 ++ ⟨ao, cap, r.l ++ [v]⟩ :: u1⟩) hm (by (repeat (first | exact Takes.nil | exact Take.head | apply Take.tail | apply Takes.cons))))
  refine End.done0'_ (⟨took, s1 ++ ⟨ao, cap, r.l ++ [v]⟩ :: u1⟩ : LsE) (hp := lsOkPut he' rfl) (hx := by simp [lsM_excl])
set_option maxRecDepth 100000 in
theorem lsTake_is (p : LsP) (f : FL) (e : LsE) (he : LsOk f e) (b : Nat) (hb : b < f.l.length) (hne : e.took.getD b 0 ≠ (f.l.getD b default).l.length) : Fn Try.prog 126 #[ptr p.lb, .int .i64 (b : Int)] [fd f] [lsM p f e] (σ := LsE) (fun e' => LsOk f e' ∧ e'.abs = ((Vm.lists f.ws).take e.abs b).2) (fun _ => .int .i64 ((Vm.lists f.ws).take e.abs b).1) (fun e' => [lsM p f e']) := by
  have he' := he
  obtain ⟨h1, h2, h3⟩ := he
  have h3b := h3 b hb
  obtain ⟨took, sent⟩ := e
  simp only at h1 h2 h3b hne
  refine Fn.enter (args := [ptr p.lb, .int .i64 (b : Int)]) Try.func126 rfl _ Try.ntmps126 rfl (by simp [fd_excl]) (fun w S => ?_)
  (try conv => rhs; simp only [List.cons_append, List.nil_append])
  apply Cod.fact ((f.l.getD b default).l.length ≤ 9223372036854775807) (fun w hm => (fd_holds.1 (hm.has (by (repeat (first | exact Take.head | apply Take.tail))))).small.2 b hb)
  intro hsm
  apply Cod.imp (fun w hm => Mem.lsOut hm (by (repeat (first | exact Take.head | apply Take.tail))))
  apply Cod.imp (fun w hm => Mem.fdOut (by (repeat (first | exact Take.head | apply Take.tail))) hm)
  apply Cod.imp (fun w hm => Mem.fdRow hb (by (repeat (first | exact Take.head | apply Take.tail))) hm)
  have w1 : IntKind.i64.wrap (((took.getD b default : Nat) : Int) + 1) = ((took.getD b 0 + 1 : Nat) : Int) := by rw [getD_nat, wrap_i64_in (by omega)]; omega
  have w2 : IntKind.i64.wrap (((took.getD b 0 + 1 : Nat) : Int) - 1) = ((took.getD b 0 : Nat) : Int) := by rw [wrap_i64_in (by omega)]; omega
  have hg : (took.set b (took.getD b 0 + 1)).getD b default = took.getD b 0 + 1 := by
    simp only [List.getD_eq_getElem?_getD, List.getElem?_set]
    rw [if_pos trivial, if_pos (by omega)]; rfl
  repeat (first | refine go (k := ?_) | (refine goB (k := ?_); intro b) | (refine goA (k := ?_); intro ao cap))
  (apply Run.op; exact rfl; refine OpT.storeE_ (f := natC) (l := took) (i := b) (off := 0) (vs := [.int .i64 ((took.getD b 0 + 1 : Nat) : Int)]) (a' := took.getD b 0 + 1) (k := ?_))
  repeat (first | refine go (k := ?_) | (refine goB (k := ?_); intro b) | (refine goA (k := ?_); intro ao cap))
  rw [hg]
  obtain ⟨q1, q2⟩ := lsOkTake he' hb hne
  apply End.imp (fun w hm => Mem.lsIn (p := p) (f := f) (e := ⟨took.set b (took.getD b 0 + 1), sent⟩) hm (by (repeat (first | exact Takes.nil | exact Take.head | apply Take.tail | apply Takes.cons))))
  refine End.done1_ (⟨took.set b (took.getD b 0 + 1), sent⟩ : LsE) (he := ?_) (hp := ⟨q1, q2⟩) (hx := by simp [lsM_excl])
  unfold Vm.lists LsE.abs
  simp only [getD_ws]
  rw [show (((took.getD b 0 + 1 : Nat) : Int) - 1).toNat = took.getD b 0 by omega]
  rfl
end Go.Proofs.Ytfeajpghabjaaaa.Vw

/- A task's small functions, walked. -/
namespace Go.Proofs.Ytfeajpghabjaaaa.Vw
open Go.RowKit Go.Proofs.Ytfeajpghabjaaaa.Img
set_option linter.unusedVariables false
set_option linter.unusedSimpArgs false
attribute [local irreducible] Run Cod End OpT Still RunQ RunS RunT Fn PutOk
variable (E : EnvM)
set_option maxRecDepth 100000 in
theorem tell_is (F : TF) (st tr : Int) (e : E.μ) (he : E.okk e) (a b v : Int) : Fn Try.prog 55 #[ptr F.tb, .int .i64 a, .int .i64 b, .int .i64 v] [E.rc] [E.tc F st tr, E.mem e] (σ := E.μ) (fun e' => E.ok e' ∧ E.abs e' = E.V.tell (E.abs e) (a, b, v)) (fun _ => .tuple #[]) (fun e' => [E.tc F st tr, E.mem e']) := by
  have hT := E.tell
  have key : Fn Try.prog 55 #[ptr F.tb, .int .i64 a, .int .i64 b, .int .i64 v] [E.rc] [blk F.tb (tcl F.mb E.mailV F.cos F.cb st F.bx tr F.out (toldV E.told)) 76, E.mem e] (σ := E.μ) (fun e' => E.ok e' ∧ E.abs e' = E.V.tell (E.abs e) (a, b, v)) (fun _ => .tuple #[]) (fun e' => [blk F.tb (tcl F.mb E.mailV F.cos F.cb st F.bx tr F.out (toldV E.told)) 76, E.mem e']) := by
    cases ht : E.told with
    | none =>
      rw [ht] at hT
      refine Fn.enter (args := [ptr F.tb, .int .i64 a, .int .i64 b, .int .i64 v]) Try.func55 rfl _ Try.ntmps55 rfl (by simp [rd_excl, md_excl]) (fun w S => ?_)
      (try conv => rhs; simp only [List.cons_append, List.nil_append])
      repeat (first | refine go (k := ?_) | (refine goB (k := ?_); intro b) | (refine goA (k := ?_); intro ao cap))
      (refine End.done0'_ (e) (hp := ?_))
      exact ⟨he.1, (hT _ _).symm⟩
    | some fc =>
      obtain ⟨f, cap⟩ := fc
      rw [ht] at hT
      obtain ⟨hb, hT⟩ := hT
      have hT := hT e a b v he.1 he.2
      refine Fn.enter (args := [ptr F.tb, .int .i64 a, .int .i64 b, .int .i64 v]) Try.func55 rfl _ Try.ntmps55 rfl (by simp [rd_excl, md_excl]) (fun w S => ?_)
      (try conv => rhs; simp only [List.cons_append, List.nil_append])
      repeat (first | refine go (k := ?_) | (refine goB (k := ?_); intro b) | (refine goA (k := ?_); intro ao cap))
      (apply Run.op; exact rfl; refine OpT.call_ (spec := hT) (hc := hb) (r := fun w => Reads.any (by (repeat (first | exact Take.head | apply Take.tail))) E.rexcl .nil) (k := ?_))
      intro s hs
      (try conv => rhs; simp only [List.cons_append, List.nil_append])
      repeat (first | refine go (k := ?_) | (refine goB (k := ?_); intro b) | (refine goA (k := ?_); intro ao cap))
      (refine End.done0'_ (s) (hp := ?_))
      exact hs
  exact key
set_option maxRecDepth 100000 in
theorem trap_is (F : TF) (st tr : Int) (e : E.μ) (he : E.okk e) (n : Int) : Fn Try.prog 53 #[ptr F.tb, .int .i64 n] [E.rc] [E.tc F st tr, E.mem e] (σ := Int × Int × E.μ) (Trapped E n st tr e) (fun _ => .tuple #[]) (fun q => [E.tc F q.1 q.2.1, E.mem q.2.2]) := by
  refine Fn.enter (args := [ptr F.tb, .int .i64 n]) Try.func53 rfl _ Try.ntmps53 rfl (by simp [rd_excl, md_excl]) (fun w S => ?_)
  (try conv => rhs; simp only [List.cons_append, List.nil_append])
  by_cases h5 : st = 5
  · repeat (first | refine go (k := ?_) | (refine goB (k := ?_); intro b) | (refine goA (k := ?_); intro ao cap))
    (refine End.done0'_ ((st, tr, e)) (hp := ?_))
    exact ⟨fun _ => rfl, fun h => absurd h5 h⟩
  · repeat (first | refine go (k := ?_) | (refine goB (k := ?_); intro b) | (refine goA (k := ?_); intro ao cap))
    ((first | (apply Run.op; exact rfl) | refine Run.yes_ (h := ?_)); refine OpT.call0_ (spec := tell_is E F 5 n e he 5 0 n) (r := fun w => Reads.any (by (repeat (first | exact Take.head | apply Take.tail))) E.rexcl .nil) (k := ?_); intro s hs; (try conv => rhs; simp only [List.cons_append, List.nil_append]))
    repeat (first | refine go (k := ?_) | (refine goB (k := ?_); intro b) | (refine goA (k := ?_); intro ao cap))
    (refine End.done0'_ ((5, n, s)) (hp := ?_))
    exact ⟨fun h => absurd h h5, fun _ => ⟨rfl, rfl, hs⟩⟩
set_option maxRecDepth 100000 in
theorem push_is' (F : TF) (st tr : Int) (e : E.μ) (he : E.okk e) (cst : Int) (up fr : Value) (k : Sk) (hk : k.Ok) (v : Int) : Fn Try.prog 50 #[ptr F.tb, .int .i64 v] [E.rc] (E.tc F st tr :: cc F.cb cst up fr k.sb :: E.mem e :: skM k) (σ := Sk × Int × Int × E.μ) (Pushed E v k st tr e) (fun _ => .tuple #[]) (fun q => E.tc F q.2.1 q.2.2.1 :: cc F.cb cst up fr q.1.sb :: E.mem q.2.2.2 :: skM q.1) := by
  refine Fn.enter (args := [ptr F.tb, .int .i64 v]) Try.func50 rfl _ Try.ntmps50 rfl (by simp [rd_excl, md_excl]) (fun w S => ?_)
  (try conv => rhs; simp only [List.cons_append, List.nil_append])
  repeat (first | refine go (k := ?_) | (refine goB (k := ?_); intro b) | (refine goA (k := ?_); intro ao cap))
  (apply Run.op; exact rfl; refine OpT.call0_ (spec := push_stk k hk v) (k := ?_); intro s hs; (try conv => rhs; simp only [List.cons_append, List.nil_append]))
  by_cases h4 : k.live = 400
  · rw [if_pos h4] at hs
    rw [hs, decide_eq_true h4]
    repeat (first | refine go (k := ?_) | (refine goB (k := ?_); intro b) | (refine goA (k := ?_); intro ao cap))
    ((first | (apply Run.op; exact rfl) | refine Run.yes_ (h := ?_)); refine OpT.call0_ (spec := trap_is E F st tr e he 4) (r := fun w => Reads.any (by (repeat (first | exact Take.head | apply Take.tail))) E.rexcl .nil) (k := ?_); intro s hs; (try conv => rhs; simp only [List.cons_append, List.nil_append]))
    repeat (first | refine go (k := ?_) | (refine goB (k := ?_); intro b) | (refine goA (k := ?_); intro ao cap))
    (refine End.done0'_ ((k, s)) (hp := ?_))
    exact ⟨fun _ => ⟨rfl, hs⟩, fun h => absurd h4 h⟩
  · rw [if_neg h4] at hs
    rw [decide_eq_false h4]
    obtain ⟨sb2, lb2, l2, live2⟩ := s
    obtain rfl : sb2 = k.sb := hs.sb
    repeat (first | refine go (k := ?_) | (refine goB (k := ?_); intro b) | (refine goA (k := ?_); intro ao cap))
    (refine End.done0'_ ((⟨k.sb, lb2, l2, live2⟩, st, tr, e)) (hp := ?_))
    exact ⟨fun h => absurd h h4, fun _ => ⟨hs, rfl⟩⟩
set_option maxRecDepth 100000 in
theorem pop_is' (F : TF) (st tr : Int) (cst : Int) (up fr : Value) (mail told : Value) (k : Sk) (hk : k.Ok) (h0 : 0 < k.live) : Fn Try.prog 52 #[ptr F.tb] [] (blk F.tb (tcl F.mb mail F.cos F.cb st F.bx tr F.out told) 76 :: cc F.cb cst up fr k.sb :: skM k) (σ := Sk) (fun k' => SkTo k k' (k.ws.take (k.live - 1))) (fun _ => .int .i64 (k.ws.getD (k.live - 1) 0)) (fun k' => blk F.tb (tcl F.mb mail F.cos F.cb st F.bx tr F.out told) 76 :: cc F.cb cst up fr k'.sb :: skM k') := by
  obtain ⟨g1, g2, g3⟩ := id hk
  refine Fn.enter (args := [ptr F.tb]) Try.func52 rfl _ Try.ntmps52 rfl (by simp [rd_excl, md_excl]) (fun w S => ?_)
  (try conv => rhs; simp only [List.cons_append, List.nil_append])
  repeat (first | refine go (k := ?_) | (refine goB (k := ?_); intro b) | (refine goA (k := ?_); intro ao cap))
  (apply Run.op; exact rfl; refine OpT.call0_ (spec := live_is k) (k := ?_); intro s hs; (try conv => rhs; simp only [List.cons_append, List.nil_append]))
  have s1 : IntKind.i64.wrap ((k.live : Int) - 1) = ((k.live - 1 : Nat) : Int) := by rw [wrap_i64_in (by omega)]; omega
  repeat (first | refine go (k := ?_) | (refine goB (k := ?_); intro b) | (refine goA (k := ?_); intro ao cap))
  (apply Run.op; exact rfl; refine OpT.call0_ (spec := at_is k (k.live - 1) (by omega) g3) (k := ?_); intro s hs; (try conv => rhs; simp only [List.cons_append, List.nil_append]))
  repeat (first | refine go (k := ?_) | (refine goB (k := ?_); intro b) | (refine goA (k := ?_); intro ao cap))
  (apply Run.op; exact rfl; refine OpT.call0_ (spec := pop_stk k hk 1 h0) (k := ?_); intro s hs; (try conv => rhs; simp only [List.cons_append, List.nil_append]))
  obtain ⟨sb2, lb2, l2, live2⟩ := s
  obtain rfl : sb2 = k.sb := hs.sb
  repeat (first | refine go (k := ?_) | (refine goB (k := ?_); intro b) | (refine goA (k := ?_); intro ao cap))
  refine End.done1_ (⟨k.sb, lb2, l2, live2⟩ : Sk) (he := ?_) (hp := hs)
  show _ = Value.int IntKind.i64 ((k.l.take k.live).getD (k.live - 1) 0)
  rw [List.getD_eq_getElem?_getD, List.getD_eq_getElem?_getD, List.getElem?_take, if_pos (by omega)]
  rfl
set_option maxRecDepth 100000 in
theorem args_is' (F : TF) (st tr : Int) (cst : Int) (up fr : Value) (mail told : Value) (k : Sk) (hk : k.Ok) (n : Nat) (h0 : n ≤ k.live) : Fn Try.prog 93 #[ptr F.tb, .int .i64 (n : Int)] [] (blk F.tb (tcl F.mb mail F.cos F.cb st F.bx tr F.out told) 76 :: cc F.cb cst up fr k.sb :: skM k) (σ := Sk × Option Addr × Nat) (fun s => SkTo k s.1 (k.ws.take (k.live - n))) (fun s => .slice s.2.1 n s.2.2) (fun s => arr s.2.1 n s.2.2 2 i64c (k.ws.drop (k.live - n)) :: blk F.tb (tcl F.mb mail F.cos F.cb st F.bx tr F.out told) 76 :: cc F.cb cst up fr s.1.sb :: skM s.1) := by
  obtain ⟨g1, g2, g3⟩ := id hk
  have hwl := Sk.len hk
  refine Fn.enter (args := [ptr F.tb, .int .i64 (n : Int)]) Try.func93 rfl _ Try.ntmps93 rfl (by simp [rd_excl, md_excl]) (fun w S => ?_)
  (try conv => rhs; simp only [List.cons_append, List.nil_append])
  repeat (first | refine go (k := ?_) | (refine goB (k := ?_); intro b) | (refine goA (k := ?_); intro ao cap))
  (apply Run.op; exact rfl; refine OpT.call0_ (spec := words_stk k hk) (k := ?_); intro s hs; (try conv => rhs; simp only [List.cons_append, List.nil_append]))
  obtain ⟨ao, cap⟩ := s
  repeat (first | refine go (k := ?_) | (refine goB (k := ?_); intro b) | (refine goA (k := ?_); intro ao cap))
  (apply Run.op; exact rfl; refine OpT.call0_ (spec := live_is k) (k := ?_); intro s hs; (try conv => rhs; simp only [List.cons_append, List.nil_append]))
  have s1 : IntKind.i64.wrap ((k.live : Int) - (n : Int)) = ((k.live - n : Nat) : Int) := by rw [wrap_i64_in (by omega)]; omega
  repeat (first | refine go (k := ?_) | (refine goB (k := ?_); intro b) | (refine goA (k := ?_); intro ao cap))
  rw [show k.live - (k.live - n) = n by omega]
  (apply Run.op; exact rfl; refine OpT.call0_ (spec := pop_stk k hk n h0) (k := ?_); intro s hs; (try conv => rhs; simp only [List.cons_append, List.nil_append]))
  obtain ⟨sb2, lb2, l2, live2⟩ := s
  obtain rfl : sb2 = k.sb := hs.sb
  repeat (first | refine go (k := ?_) | (refine goB (k := ?_); intro b) | (refine goA (k := ?_); intro ao cap))
  refine End.done1_ ((⟨k.sb, lb2, l2, live2⟩ : Sk), ao, cap) (he := by rfl) (hp := hs)
end Go.Proofs.Ytfeajpghabjaaaa.Vw

/- A task as it lies in memory: one thread at work, the others in a bag. -/
namespace Go.Proofs.Ytfeajpghabjaaaa.Vw
open Go.RowKit Go.Proofs.Ytfeajpghabjaaaa.Img
set_option linter.unusedVariables false
set_option linter.unusedSimpArgs false
def ptrC (b : Nat) : List Value := [ptr b]
instance : Enc ptrC := ⟨fun _ => rfl, by decide, fun a u hu => by simp [ptrC] at hu; subst hu; rfl⟩
def frC (f : Vm.Fr) : List Value := [.int .i64 (f.unit : Int), .int .i64 (f.pc : Int), .int .i64 (f.base : Int)]
instance : Enc frC := ⟨fun _ => rfl, by decide, fun a u hu => by simp [frC] at hu; rcases hu with rfl | rfl | rfl <;> rfl⟩
/-- a thread, and where it lies -/
structure CoL where
  cb : Nat
  st : Nat
  up : Option Nat
  upb : Option Nat
  fo : Option Addr
  fc : Nat
  fr : List Vm.Fr
  sk : Sk
instance : Inhabited CoL := ⟨⟨0, 0, none, none, none, 0, [], default⟩⟩
def CoL.abs (c : CoL) : Vm.Co := ⟨c.st, c.up, c.fr, c.sk.ws⟩
def ptrO : Option Nat → Value
  | none => .pointer none
  | some b => ptr b
abbrev frM (c : CoL) : Chunk := arr c.fo c.fr.length c.fc 107 frC c.fr
abbrev ccM (c : CoL) : Chunk := cc c.cb (c.st : Int) (ptrO c.upb) (.slice c.fo c.fr.length c.fc) c.sk.sb
abbrev coM (c : CoL) : List Chunk := [ccM c, frM c, blk c.sk.sb (skC c.sk) 151, arr (some ⟨c.sk.lb, 0, none⟩) c.sk.l.length c.sk.l.length 2 i64c c.sk.l]
def bagM (l : List CoL) : Chunk := bag (l.flatMap coM)
@[simp] theorem bagM_excl (l : List CoL) : (bagM l).excl = true := bag_excl
/-- where a task is, and its module's variable -/
structure Pl where
  tb : Nat
  mb : Nat
  m : ML
structure SL (E : EnvM) where
  co : Option Addr
  ccap : Nat
  bs : List Nat
  oth : List CoL
  now : Nat
  cur : CoL
  st : Int
  bx : Int
  tr : Int
  oo : Option Addr
  oc : Nat
  out : List Int
  e : E.μ
abbrev mdV (m : ML) : List Value := [.slice m.bo m.bx.length m.bc, .slice m.uo m.us.length m.uc]
abbrev tkM {E : EnvM} (p : Pl) (s : SL E) : Chunk := blk p.tb (tcl p.mb E.mailV (.slice s.co s.bs.length s.ccap) s.cur.cb s.st s.bx s.tr (.slice s.oo s.out.length s.oc) (toldV E.told)) 76
abbrev moM (p : Pl) : Chunk := blk p.mb (mdV p.m) 25
abbrev csM {E : EnvM} (s : SL E) : Chunk := arr s.co s.bs.length s.ccap 73 ptrC s.bs
abbrev ouM {E : EnvM} (s : SL E) : Chunk := arr s.oo s.out.length s.oc 2 i64c s.out
abbrev TM {E : EnvM} (p : Pl) (s : SL E) : List Chunk := [tkM p s, moM p, csM s, ouM s, bagM (s.oth.eraseIdx s.now), E.mem s.e, ccM s.cur, frM s.cur, blk s.cur.sk.sb (skC s.cur.sk) 151, arr (some ⟨s.cur.sk.lb, 0, none⟩) s.cur.sk.l.length s.cur.sk.l.length 2 i64c s.cur.sk.l]
section
variable {E : EnvM}
def SL.all (s : SL E) : List CoL := s.oth.set s.now s.cur
def SL.tk (s : SL E) : Vm.Tk := ⟨s.all.map CoL.abs, s.now, s.st, s.bx, s.tr, s.out⟩
def SL.two (s : SL E) : Vm.Tk × E.ν := (s.tk, E.abs s.e)
structure SL.Wf (s : SL E) : Prop where
  now : s.now < s.oth.length
  len : s.bs.length = s.oth.length
  few : s.oth.length ≤ 31
  at_ : ∀ i, i < s.oth.length → (s.all.getD i default).cb = s.bs.getD i 0
  up : ∀ c ∈ s.all, c.upb = c.up.map fun j => s.bs.getD j 0
  upl : ∀ c ∈ s.all, ∀ j, c.up = some j → j < s.oth.length
  sk : ∀ c ∈ s.all, c.sk.Ok
  env : E.ok s.e
variable {s : SL E}
theorem SL.Wf.curMem (h : s.Wf) : s.cur ∈ s.all := by
  unfold SL.all
  exact List.mem_set h.now _
theorem SL.Wf.curOk (h : s.Wf) : s.cur.sk.Ok := h.sk _ h.curMem
theorem SL.allLen (s : SL E) : s.all.length = s.oth.length := List.length_set
theorem SL.Wf.curGet (h : s.Wf) : s.all.getD s.now default = s.cur := by
  unfold SL.all
  rw [List.getD_eq_getElem?_getD, List.getElem?_set_self (by exact h.now)]
  rfl
theorem getD_map0 {α β : Type} [Inhabited α] [Inhabited β] (f : α → β) (l : List α) {k : Nat} (hk : k < l.length) : (l.map f).getD k default = f (l.getD k default) := by
  rw [List.getD_eq_getElem?_getD, List.getD_eq_getElem?_getD, List.getElem?_map, List.getElem?_eq_getElem hk]
  rfl
theorem SL.Wf.cur (h : s.Wf) : Vm.cur s.tk = s.cur.abs := by
  show (s.all.map CoL.abs).getD s.now default = _
  rw [getD_map0 _ _ (by rw [s.allLen]; exact h.now), h.curGet]
theorem SL.Wf.curCb (h : s.Wf) : s.cur.cb = s.bs.getD s.now 0 := by
  rw [← h.at_ _ h.now, h.curGet]
/-- with another thread at work in its place -/
theorem SL.tk_cur (s : SL E) (c : CoL) : ({ s with cur := c } : SL E).tk = Vm.setCur s.tk c.abs := by
  unfold SL.tk Vm.setCur Vm.setC SL.all
  simp only [List.map_set, List.set_set]
theorem SL.Wf.setCur (h : s.Wf) {c : CoL} (hcb : c.cb = s.cur.cb) (hup : c.up = s.cur.up) (hupb : c.upb = s.cur.upb) (hk : c.sk.Ok) : ({ s with cur := c } : SL E).Wf := by
  have hset : ∀ d ∈ ({ s with cur := c } : SL E).all, d = c ∨ d ∈ s.all := fun d hd => by
    unfold SL.all at hd ⊢
    simp only at hd
    obtain ⟨i, hi, e⟩ := List.mem_iff_getElem.1 hd
    rw [List.getElem_set] at e
    split at e
    · exact .inl e.symm
    · rename_i hne
      right
      rw [← e]
      refine List.mem_iff_getElem.2 ⟨i, by simpa using hi, ?_⟩
      rw [List.getElem_set_ne hne]
  have hall : ∀ i, i < s.oth.length → (({ s with cur := c } : SL E).all.getD i default).cb = (s.all.getD i default).cb := fun i hi => by
    unfold SL.all
    simp only [List.getD_eq_getElem?_getD, List.getElem?_set]
    by_cases hn : s.now = i
    · subst hn
      simp [h.now, hcb]
    · simp [hn]
  refine ⟨h.now, h.len, h.few, fun i hi => (hall i hi).trans (h.at_ i hi), fun d hd => ?_, fun d hd => ?_, fun d hd => ?_, h.env⟩
  · rcases hset d hd with rfl | hd
    · rw [hup, hupb]; exact h.up _ h.curMem
    · exact h.up _ hd
  · rcases hset d hd with rfl | hd
    · rw [hup]; exact h.upl _ h.curMem
    · exact h.upl _ hd
  · rcases hset d hd with rfl | hd
    · exact hk
    · exact h.sk _ hd
end
end Go.Proofs.Ytfeajpghabjaaaa.Vw
