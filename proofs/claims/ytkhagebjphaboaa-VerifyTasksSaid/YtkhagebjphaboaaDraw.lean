/- A region that draws its order, over states that are said by lists: what only yields a value is taken first. Of whatever program. -/
import Derived.Test.YtkhagebjphaboaaRun
import Derived.Deep.Quiet
namespace Go.Proofs.Ytkhagebjphaboaa
open Go
set_option linter.unusedVariables false
set_option linter.unusedSimpArgs false

section
variable (P : Program) (ops : Array Oper) (Q : Exit → Act → World → Prop) (N e : Nat) (LT : List Chunk)
def RunT (fuel : Nat) (listed : Array Bool) (E : Env) (L : List Chunk) : Prop := ∀ a w, Sat N a E → Mem w L → wpAnyT P .any ops Q e (fun w => Mem w LT) fuel listed a w
def PutOk : Prop := ∀ c a w d v, Q (.panic c) (Act.put a d v) w → Q (.panic c) a w
/-- what is read still stands, or all that read it has come up -/
def Good (listed : Array Bool) (L : List Chunk) : Prop := listed.getD e false = true ∨ ∃ F, Takes LT L F
end
section
variable {P : Program} {ops : Array Oper} {Q : Exit → Act → World → Prop} {N e : Nat} {LT : List Chunk} {E : Env} {L F : List Chunk} {fuel : Nat} {listed : Array Bool}

theorem Cod.draw {id : Nat} {l : List Oper} (e : Nat) (LT : List Chunk) (hm : P.follows .mixedOrders = true) (n : Nat) (hn : l.length = n) (h : RunT P l.toArray Q N e LT n (Array.replicate n false) E L) : Cod P Q N (.region id l.toArray true) E L :=
  fun a w hs hM => regionT e (fun w => Mem w LT) hm (by subst hn; exact h a w.drew hs hM.drew)
/-- what yields in whatever world -/
theorem RunT.take0 (i : Nat) {d : Tmp} {op : Op} {ty : TypeId} {pos : String} {aft : Array Edge} {v : Value} (hi : ops[i]? = some ⟨some d, op, ty, pos, aft, none⟩) (hns : Region.noSelect ops = true) (hf : Region.free .any ops listed i = true) (hr : (Region.ready .any ops listed).contains i = true) (hie : Nat.beq i e = false)
    (hQ : PutOk Q) (hd : Nat.blt d N = true) (hy : Still P N ⟨some d, op, ty, pos, aft, none⟩ E [] v) (ht : Good e LT listed L) (h : RunT P ops Q N e LT fuel (listed.setIfInBounds i true) ((d, v) :: E) L) : RunT P ops Q N e LT (fuel + 1) listed E L :=
  fun a w hs hM => wpAnyT_first0 hi (Region.noSelect_spec hns) (fun c a w hq => hQ c a w _ _ hq) fuel listed a w (Region.free_spec hi hf) (by simpa using hr) (fun h => by subst h; simp at hie)
    (.inl ⟨by simp [Region.wanted], fun w' _ => hy a w' hs (Mem.nil w')⟩) (ht.imp id fun ⟨F, t⟩ => (hM.takes t).left) (h _ w (hs.put (dst := some d) v hd) hM)
/-- what reads -/
theorem RunT.takeT (i : Nat) {d : Tmp} {op : Op} {ty : TypeId} {pos : String} {aft : Array Edge} {v : Value} (hi : ops[i]? = some ⟨some d, op, ty, pos, aft, none⟩) (hns : Region.noSelect ops = true) (hf : Region.free .any ops listed i = true) (hr : (Region.ready .any ops listed).contains i = true) (hw : waits .any ops e i = true) (hle : listed.getD e false = false)
    (hQ : PutOk Q) (hd : Nat.blt d N = true) (ht : Takes LT L F) (hy : Still P N ⟨some d, op, ty, pos, aft, none⟩ E LT v) (h : RunT P ops Q N e LT fuel (listed.setIfInBounds i true) ((d, v) :: E) L) : RunT P ops Q N e LT (fuel + 1) listed E L :=
  fun a w hs hM => wpAnyT_first hi (Region.noSelect_spec hns) (fun c a w hq => hQ c a w _ _ hq) hw fuel listed a w (Region.free_spec hi hf) (by simpa using hr) hle
    (.inl ⟨by simp [Region.wanted], fun w' hw' => hy a w' hs hw'⟩) (hM.takes ht).left (h _ w (hs.put (dst := some d) v hd) hM)
/-- what reads, where e waits for it, perhaps through others -/
theorem RunT.takeR (i : Nat) {d : Tmp} {op : Op} {ty : TypeId} {pos : String} {aft : Array Edge} {v : Value} (hi : ops[i]? = some ⟨some d, op, ty, pos, aft, none⟩) (hns : Region.noSelect ops = true) (hf : Region.free .any ops listed i = true) (hr : (Region.ready .any ops listed).contains i = true) (hcl : closedB .any ops listed = true) (hw : waitsT .any ops i ops.size e = true)
    (hQ : PutOk Q) (hd : Nat.blt d N = true) (ht : Takes LT L F) (hy : Still P N ⟨some d, op, ty, pos, aft, none⟩ E LT v) (h : RunT P ops Q N e LT fuel (listed.setIfInBounds i true) ((d, v) :: E) L) : RunT P ops Q N e LT (fuel + 1) listed E L :=
  fun a w hs hM => wpAnyT_firstR hi (Region.noSelect_spec hns) (fun c a w hq => hQ c a w _ _ hq) hw fuel listed a w (closedB_spec hcl) (Region.free_spec hi hf) (by simpa using hr)
    (.inl ⟨by simp [Region.wanted], fun w' hw' => hy a w' hs hw'⟩) (hM.takes ht).left (h _ w (hs.put (dst := some d) v hd) hM)
/-- what reads, where nobody writes -/
theorem RunT.takeN (i : Nat) {d : Tmp} {op : Op} {ty : TypeId} {pos : String} {aft : Array Edge} {v : Value} (hi : ops[i]? = some ⟨some d, op, ty, pos, aft, none⟩) (hns : Region.noSelect ops = true) (hf : Region.free .any ops listed i = true) (hr : (Region.ready .any ops listed).contains i = true) (he : Nat.ble ops.size e = true) (hsz : Nat.beq listed.size ops.size = true)
    (hQ : PutOk Q) (hd : Nat.blt d N = true) (ht : Takes LT L F) (hy : Still P N ⟨some d, op, ty, pos, aft, none⟩ E LT v) (h : RunT P ops Q N e LT fuel (listed.setIfInBounds i true) ((d, v) :: E) L) : RunT P ops Q N e LT (fuel + 1) listed E L :=
  fun a w hs hM => wpAnyT_firstN hi (Region.noSelect_spec hns) (fun c a w hq => hQ c a w _ _ hq) (Nat.le_of_ble_eq_true he) fuel listed a w (Nat.eq_of_beq_eq_true hsz) (Region.free_spec hi hf) (by simpa using hr)
    (.inl ⟨by simp [Region.wanted], fun w' hw' => hy a w' hs hw'⟩) (hM.takes ht).left (h _ w (hs.put (dst := some d) v hd) hM)
/-- guarded, and wanted -/
theorem RunT.takeG (i : Nat) {oi : Oper} {v : Value} {j : Nat} {want : Bool} (hi : ops[i]? = some oi) (hns : Region.noSelect ops = true) (hf : Region.free .any ops listed i = true) (hr : (Region.ready .any ops listed).contains i = true) (he : Nat.ble ops.size e = true) (hsz : Nat.beq listed.size ops.size = true)
    (hQ : PutOk Q) (hg : oi.guard = some (j, want)) (hgd : gd ops E j = some (.bool want)) (hd : fitsB N oi.dst = true) (ht : Takes LT L F) (hy : Still P N oi E LT v) (h : RunT P ops Q N e LT fuel (listed.setIfInBounds i true) (upd oi.dst v E) L) : RunT P ops Q N e LT (fuel + 1) listed E L :=
  fun a w hs hM => wpAnyT_firstN hi (Region.noSelect_spec hns) (fun c a w hq => hQ c a w _ _ hq) (Nat.le_of_ble_eq_true he) fuel listed a w (Nat.eq_of_beq_eq_true hsz) (Region.free_spec hi hf) (by simpa using hr)
    (.inl ⟨by rw [wanted_of hs hg hgd]; simp, fun w' hw' => hy a w' hs hw'⟩) (hM.takes ht).left (h _ w (hs.put v hd) hM)
/-- guarded, and not wanted -/
theorem RunT.takeU (i : Nat) {oi : Oper} {j : Nat} {want t : Bool} (hi : ops[i]? = some oi) (hns : Region.noSelect ops = true) (hf : Region.free .any ops listed i = true) (hr : (Region.ready .any ops listed).contains i = true) (hie : Nat.beq i e = false)
    (hQ : PutOk Q) (hg : oi.guard = some (j, want)) (hgd : gd ops E j = some (.bool t)) (hne : (t == want) = false) (hd : fitsB N oi.dst = true) (ht : Good e LT listed L) (h : RunT P ops Q N e LT fuel (listed.setIfInBounds i true) (upd oi.dst undef E) L) : RunT P ops Q N e LT (fuel + 1) listed E L :=
  fun a w hs hM => wpAnyT_first0 hi (Region.noSelect_spec hns) (fun c a w hq => hQ c a w _ _ hq) fuel listed a w (Region.free_spec hi hf) (by simpa using hr) (fun h => by subst h; simp at hie)
    (.inr ⟨by rw [wanted_of hs hg hgd]; exact hne, rfl⟩) (ht.imp id fun ⟨F, t⟩ => (hM.takes t).left) (h _ w (hs.put undef hd) hM)
theorem RunT.takeUU (i : Nat) {oi : Oper} {j : Nat} {want : Bool} (hi : ops[i]? = some oi) (hns : Region.noSelect ops = true) (hf : Region.free .any ops listed i = true) (hr : (Region.ready .any ops listed).contains i = true) (hie : Nat.beq i e = false)
    (hQ : PutOk Q) (hg : oi.guard = some (j, want)) (hgd : gd ops E j = some undef) (hd : fitsB N oi.dst = true) (ht : Good e LT listed L) (h : RunT P ops Q N e LT fuel (listed.setIfInBounds i true) (upd oi.dst undef E) L) : RunT P ops Q N e LT (fuel + 1) listed E L :=
  fun a w hs hM => wpAnyT_first0 hi (Region.noSelect_spec hns) (fun c a w hq => hQ c a w _ _ hq) fuel listed a w (Region.free_spec hi hf) (by simpa using hr) (fun h => by subst h; simp at hie)
    (.inr ⟨by unfold Region.wanted; rw [hg]; simp only [yielded_gd hs hgd, undef]; rfl, rfl⟩) (ht.imp id fun ⟨F, t⟩ => (hM.takes t).left) (h _ w (hs.put undef hd) hM)
/-- a guard, parted: what it has yielded is known from here on -/
theorem RunT.part {d : Nat} (t : Bool) (hl : look E d = some (.bool t)) (h1 : t = true → RunT P ops Q N e LT fuel listed ((d, .bool true) :: E) L) (h2 : t = false → RunT P ops Q N e LT fuel listed ((d, .bool false) :: E) L) : RunT P ops Q N e LT fuel listed E L := by
  intro a w hs hM
  cases t with
  | true => exact h1 rfl a w (hs.sub' hl) hM
  | false => exact h2 rfl a w (hs.sub' hl) hM
/-- the one that may come up -/
theorem RunT.one (i : Nat) {o : Oper} (hr : Region.ready .any ops listed = [i]) (ho : ops[i]? = some o) (hg : o.guard = none)
    (h : OpT P Q N o E L (fun E' L' => Good e LT (listed.setIfInBounds i true) L' ∧ RunT P ops Q N e LT fuel (listed.setIfInBounds i true) E' L')) : RunT P ops Q N e LT (fuel + 1) listed E L :=
  fun a w hs hM => oneT hr ho fun K' hK' => by
    rw [if_pos (by simp [Region.wanted, hg])]
    exact h K' (fun E' L' hc a w hs hm => hK' a w (hc.1.imp id fun ⟨F, t⟩ => (hm.takes t).left) (hc.2 a w hs hm)) a w hs hM
theorem RunT.done (hr : Region.ready .any ops listed = []) (h : End Q N .normal E L) : RunT P ops Q N e LT fuel listed E L := fun a w hs hM => doneT hr (h a w hs hM) fuel
theorem RunT.imp {L' : List Chunk} (t : ∀ w, Mem w L → Mem w L') (h : RunT P ops Q N e LT fuel listed E L') : RunT P ops Q N e LT fuel listed E L := fun a w hs hm => h a w hs (t w hm)
theorem Run.part {l : List Oper} {d : Nat} (t : Bool) (hl : look E d = some (.bool t)) (h1 : t = true → Run P ops Q N l ((d, .bool true) :: E) L) (h2 : t = false → Run P ops Q N l ((d, .bool false) :: E) L) : Run P ops Q N l E L := by
  intro a w hs hM
  cases t with
  | true => exact h1 rfl a w (hs.sub' hl) hM
  | false => exact h2 rfl a w (hs.sub' hl) hM

/-- a region of which every operation only yields a value: in the text's order -/
def RunQ (P : Program) (ops : Array Oper) (Q : Exit → Act → World → Prop) (N : Nat) (l : List Oper) (E : Env) (L : List Chunk) : Prop :=
  ∀ a, Sat N a E → wpQuiet P ops (fun w => Mem w L) (fun a' => ∀ w', Mem w' L → Q .normal a' w') l a
theorem Cod.quiet {id : Nat} {l : List Oper} (hm : P.follows .mixedOrders = true) (hB : Region.lexB .any l.toArray = true) (h : RunQ P l.toArray Q N l E L) : Cod P Q N (.region id l.toArray true) E L :=
  fun a w hs hM => wp_region_quiet (C := fun w => Mem w L) hm hB hM.drew (by simpa using h a hs)
theorem RunQ.nil (h : End Q N .normal E L) : RunQ P ops Q N [] E L := fun a hs => wpQuiet_nil (fun w hM => h a w hs hM)
theorem quiet_val {o : Oper} {a : Act} {v : Value} {C : World → Prop} {K : Act → Prop} (h : ∀ w, C w → (execOp a.eval o).run P w = .ok (.value v) w) (hn : K (a.put o.dst v)) : o.quiet P a C K :=
  ⟨v, fun w hw => by unfold Oper.quietAt; rw [h w hw]; exact ⟨rfl, rfl⟩, hn⟩
/-- a call that reads alone, and answers one thing -/
theorem RunQ.call {σ : Type} {l : List Oper} {dst : Option Tmp} {x : Operand} {args : List Operand} {tys : Array TypeId} {ty : TypeId} {pos : String} {aft : Array Edge} {f : FuncId} {vs : List Value} {cap : Array Value}
    {R : List Chunk} {post : σ → Prop} {val : σ → Value} {mem : σ → List Chunk} {v : Value} (hx : ev E x = some (.func (.func f) #[] cap)) (hv : Evs E args vs) (hc : callB P f = true) (hd : fitsB N dst = true)
    (spec : Fn P f (vs.toArray ++ cap) R [] post val mem) (r : ∀ w, Reads w R L) (hval : ∀ s, post s → val s = v ∧ mem s = []) (k : RunQ P ops Q N l (upd dst v E) L) :
    RunQ P ops Q N (⟨dst, .call ⟨.value x, args.toArray, tys⟩, ty, pos, aft, none⟩ :: l) E L := by
  intro a hs
  refine wpQuiet_step fun K hK => ?_
  rw [if_pos (by simp [Region.wanted])]
  refine ⟨v, fun w hm => ?_, hK _ (k _ (hs.put v hd))⟩
  have hr : (execOp a.eval ⟨dst, .call ⟨.value x, args.toArray, tys⟩, ty, pos, aft, none⟩).run P w = .ok (.enter f (vs.toArray ++ cap)) w := by
    have e : args.toArray.map a.eval = vs.toArray := by rw [← hs.evs hv]; simp
    simp only [execOp, resolve, hs.ev hx, Deferred.ofValue, Sem.run_bind, Sem.run_pure, Result.andThen_ok, e, invoke]
    rw [run_callFunc hc]
    simp
  unfold Oper.quietAt
  rw [hr]
  refine ⟨rfl, (spec w (Mem.reads (pre := []) hm (r w))).mono ?_⟩
  rintro e w' ⟨s, hp, rfl, hx, hm'⟩
  refine ⟨by rw [(hval s hp).1], ?_⟩
  have := Mem.frame (pre := []) (F := L) hm hm' hx
  rwa [(hval s hp).2] at this
theorem RunQ.val {d : Tmp} {op : Op} {ty : TypeId} {pos : String} {aft : Array Edge} {l : List Oper} {v : Value} (h : Still P N ⟨some d, op, ty, pos, aft, none⟩ E L v) (hd : Nat.blt d N = true) (k : RunQ P ops Q N l ((d, v) :: E) L) : RunQ P ops Q N (⟨some d, op, ty, pos, aft, none⟩ :: l) E L := by
  intro a hs
  refine wpQuiet_step fun K hK => ?_
  rw [if_pos (by simp [Region.wanted])]
  exact quiet_val (fun w hM => h a w hs hM) (hK _ (k _ (hs.put (dst := some d) v hd)))
theorem RunQ.yes {d : Tmp} {op : Op} {ty : TypeId} {pos : String} {aft : Array Edge} {l : List Oper} {v : Value} {j : Nat} {want : Bool} (hgd : gd ops E j = some (.bool want)) (h : Still P N ⟨some d, op, ty, pos, aft, some (j, want)⟩ E L v) (hd : Nat.blt d N = true) (k : RunQ P ops Q N l ((d, v) :: E) L) : RunQ P ops Q N (⟨some d, op, ty, pos, aft, some (j, want)⟩ :: l) E L := by
  intro a hs
  refine wpQuiet_step fun K hK => ?_
  rw [wanted_of hs rfl hgd, if_pos (by simp)]
  exact quiet_val (fun w hM => h a w hs hM) (hK _ (k _ (hs.put (dst := some d) v hd)))
theorem RunQ.no {d : Tmp} {op : Op} {ty : TypeId} {pos : String} {aft : Array Edge} {l : List Oper} {j : Nat} {want t : Bool} (hgd : gd ops E j = some (.bool t)) (hne : (t == want) = false) (hd : Nat.blt d N = true) (k : RunQ P ops Q N l ((d, undef) :: E) L) : RunQ P ops Q N (⟨some d, op, ty, pos, aft, some (j, want)⟩ :: l) E L := by
  intro a hs
  refine wpQuiet_step fun K hK => ?_
  rw [wanted_of hs rfl hgd, hne]
  exact hK _ (k _ (hs.put (dst := some d) undef hd))
theorem RunQ.undef {d : Tmp} {op : Op} {ty : TypeId} {pos : String} {aft : Array Edge} {l : List Oper} {j : Nat} {want : Bool} (hgd : gd ops E j = some undef) (hd : Nat.blt d N = true) (k : RunQ P ops Q N l ((d, undef) :: E) L) : RunQ P ops Q N (⟨some d, op, ty, pos, aft, some (j, want)⟩ :: l) E L := by
  intro a hs
  refine wpQuiet_step fun K hK => ?_
  have : Region.wanted ⟨some d, op, ty, pos, aft, some (j, want)⟩ (yielded ops a.tmps) = false := by
    unfold Region.wanted
    simp only [yielded_gd hs hgd, Go.undef]
    rfl
  rw [this]
  exact hK _ (k _ (hs.put (dst := some d) Go.undef hd))
theorem RunQ.part {l : List Oper} {d : Nat} (t : Bool) (hl : look E d = some (.bool t)) (h1 : t = true → RunQ P ops Q N l ((d, .bool true) :: E) L) (h2 : t = false → RunQ P ops Q N l ((d, .bool false) :: E) L) : RunQ P ops Q N l E L := by
  intro a hs
  cases t with
  | true => exact h1 rfl a (hs.sub' hl)
  | false => exact h2 rfl a (hs.sub' hl)
theorem Run.yes {o : Oper} {l : List Oper} {j : Nat} {want : Bool} (hg : o.guard = some (j, want)) (hgd : gd ops E j = some (.bool want)) (h : OpT P Q N o E L (fun E' L' => Run P ops Q N l E' L')) : Run P ops Q N (o :: l) E L := by
  intro a w hs hm
  refine wpList_step fun K hK => ?_
  rw [wanted_of hs hg hgd, if_pos (by simp)]
  exact h K (fun E' L' hr a w hs hm => hK a w (hr a w hs hm)) a w hs hm
theorem Run.no {d : Tmp} {op : Op} {ty : TypeId} {pos : String} {aft : Array Edge} {l : List Oper} {j : Nat} {want t : Bool} (hgd : gd ops E j = some (.bool t)) (hne : (t == want) = false) (hd : Nat.blt d N = true) (k : Run P ops Q N l ((d, undef) :: E) L) : Run P ops Q N (⟨some d, op, ty, pos, aft, some (j, want)⟩ :: l) E L := by
  intro a w hs hm
  refine wpList_step fun K hK => ?_
  rw [wanted_of hs rfl hgd, hne]
  exact hK _ _ (k _ _ (hs.put (dst := some d) undef hd) hm)
theorem Run.undef {d : Tmp} {op : Op} {ty : TypeId} {pos : String} {aft : Array Edge} {l : List Oper} {j : Nat} {want : Bool} (hgd : gd ops E j = some Go.undef) (hd : Nat.blt d N = true) (k : Run P ops Q N l ((d, Go.undef) :: E) L) : Run P ops Q N (⟨some d, op, ty, pos, aft, some (j, want)⟩ :: l) E L :=
  Run.guard_undef rfl hgd hd k
/-- a piece of code, cut off: what is known behind it is said -/
theorem Cod.seq_cut {x y : Code} (E' : Env) (L' : List Chunk) (h1 : ∀ K : Act → World → Prop, (∀ a w, Sat N a E' → Mem w L' → K a w) → Cod P (Exit.then K Q) N x E L) (h2 : Cod P Q N y E' L') : Cod P Q N (.seq x y) E L :=
  fun a w hs hm => wp_seq (h1 _ (fun a w hs hm => h2 a w hs hm) a w hs hm)
theorem End.cut {K : Act → World → Prop} {E' : Env} {L' F : List Chunk} (hK : ∀ a w, Sat N a E' → Mem w L' → K a w) (hE : Sub E' E) (hL : Takes L' L F) : End (Exit.then K Q) N .normal E L := fun a w hs hm => hK a w (hs.sub hE) (hm.takes hL).left

/-- the slot of a guard -/
def slot (ops : Array Oper) (j : Nat) : Option Nat := match ops[j]? with
  | some o => o.dst
  | none => none
section
variable {d0 d : Tmp} {op : Op} {ty : TypeId} {pos : String} {aft : Array Edge} {l : List Oper} {j : Nat} {want t : Bool}
theorem Run.knowT (hj : slot ops j = some d) (hl : look E d = some (.bool t)) (ht : t = true) (k : Run P ops Q N (⟨some d0, op, ty, pos, aft, some (j, want)⟩ :: l) ((d, .bool true) :: E) L) : Run P ops Q N (⟨some d0, op, ty, pos, aft, some (j, want)⟩ :: l) E L :=
  fun a w hs hM => k a w (hs.sub' (ht ▸ hl)) hM
theorem Run.knowF (hj : slot ops j = some d) (hl : look E d = some (.bool t)) (ht : t = false) (k : Run P ops Q N (⟨some d0, op, ty, pos, aft, some (j, want)⟩ :: l) ((d, .bool false) :: E) L) : Run P ops Q N (⟨some d0, op, ty, pos, aft, some (j, want)⟩ :: l) E L :=
  fun a w hs hM => k a w (hs.sub' (ht ▸ hl)) hM
theorem Run.ask (hj : slot ops j = some d) (hl : look E d = some (.bool t)) (h1 : t = true → Run P ops Q N (⟨some d0, op, ty, pos, aft, some (j, want)⟩ :: l) ((d, .bool true) :: E) L) (h2 : t = false → Run P ops Q N (⟨some d0, op, ty, pos, aft, some (j, want)⟩ :: l) ((d, .bool false) :: E) L) : Run P ops Q N (⟨some d0, op, ty, pos, aft, some (j, want)⟩ :: l) E L :=
  Run.part t hl h1 h2
theorem RunQ.knowT (hj : slot ops j = some d) (hl : look E d = some (.bool t)) (ht : t = true) (k : RunQ P ops Q N (⟨some d0, op, ty, pos, aft, some (j, want)⟩ :: l) ((d, .bool true) :: E) L) : RunQ P ops Q N (⟨some d0, op, ty, pos, aft, some (j, want)⟩ :: l) E L :=
  fun a hs => k a (hs.sub' (ht ▸ hl))
theorem RunQ.knowF (hj : slot ops j = some d) (hl : look E d = some (.bool t)) (ht : t = false) (k : RunQ P ops Q N (⟨some d0, op, ty, pos, aft, some (j, want)⟩ :: l) ((d, .bool false) :: E) L) : RunQ P ops Q N (⟨some d0, op, ty, pos, aft, some (j, want)⟩ :: l) E L :=
  fun a hs => k a (hs.sub' (ht ▸ hl))
theorem RunQ.ask (hj : slot ops j = some d) (hl : look E d = some (.bool t)) (h1 : t = true → RunQ P ops Q N (⟨some d0, op, ty, pos, aft, some (j, want)⟩ :: l) ((d, .bool true) :: E) L) (h2 : t = false → RunQ P ops Q N (⟨some d0, op, ty, pos, aft, some (j, want)⟩ :: l) ((d, .bool false) :: E) L) : RunQ P ops Q N (⟨some d0, op, ty, pos, aft, some (j, want)⟩ :: l) E L :=
  RunQ.part t hl h1 h2
end

theorem PutOk.then_ {K : Act → World → Prop} (h : PutOk Q) : PutOk (Exit.then K Q) := h
theorem PutOk.block {id : Nat} (h : PutOk Q) : PutOk (Exit.inBlock id Q) := h
theorem PutOk.body {fn : Func} {R : Ending → World → Prop} : PutOk (bodyPost P fn R) := fun c a w d v h => by
  cases d <;> exact h
theorem Good.has (t : Takes LT L F) : Good e LT listed L := .inr ⟨F, t⟩
theorem Good.up (h : listed.getD e false = true) : Good e LT listed L := .inl h
end
end Go.Proofs.Ytkhagebjphaboaa
