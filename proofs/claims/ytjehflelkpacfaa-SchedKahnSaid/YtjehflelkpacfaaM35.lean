/- Worlds compared (yieldref10), walked: of what is alike. -/
import Derived.Test.YtjehflelkpacfaaM34
import Derived.WalkKit
namespace Go.Proofs.Ytjehflelkpacfaa.Vw
open Go.RowKit Go.Proofs.Ytjehflelkpacfaa.Img
set_option linter.unusedVariables false
set_option linter.unusedSimpArgs false
/-- ends, and where they lie -/
structure EL where
  o : Option Addr
  c : Nat
  l : List EnL
abbrev EL.val (f : EL) : Value := .slice f.o f.l.length f.c
structure EdAt (w : World) (f : EL) : Prop where
  out : Row w (.slice f.o f.l.length f.c) (sz enC) f.l.length (f.l.flatMap enC)
  row : ∀ r ∈ f.l, Row w (.slice r.oo r.out.length r.oc) (sz i64c) r.out.length (r.out.flatMap i64c)
def EdFoot (f : EL) (k : Nat) : Prop :=
  ((Value.slice f.o f.l.length f.c).ownBlock = some k ∧ 0 < f.l.length) ∨ ∃ r ∈ f.l, (Value.slice r.oo r.out.length r.oc).ownBlock = some k ∧ 0 < r.out.length
theorem EdAt.keep {w w' : World} {f : EL} (h : EdAt w f) {S : Nat → Prop} (k : Keeps S w w') (hs : ∀ b, EdFoot f b → ¬ S b) : EdAt w' f :=
  ⟨h.out.keep'' Enc.pos k (fun b h1 h2 => hs b (.inl ⟨h1, h2⟩)), fun r hr => (h.row r hr).keep'' Enc.pos k (fun b h1 h2 => hs b (.inr ⟨r, hr, h1, h2⟩))⟩
theorem EdAt.lt {w : World} {f : EL} (h : EdAt w f) : ∀ b, EdFoot f b → b < w.heap.size := by
  rintro b (⟨h1, h2⟩ | ⟨r, hr, h1, h2⟩)
  · exact h.out.lt' Enc.pos h2 b h1
  · exact (h.row r hr).lt' Enc.pos h2 b h1
/-- ends that are only read -/
@[irreducible] def ed (f : EL) : Chunk where
  holds w := EdAt w f
  foot := EdFoot f
  excl := false
  stab k hs h := h.keep k hs
  lt h := h.lt
theorem ed_holds {w : World} {f : EL} : (ed f).holds w ↔ EdAt w f := by unfold ed; exact Iff.rfl
theorem ed_foot {f : EL} {k : Nat} : (ed f).foot k ↔ EdFoot f k := by unfold ed; exact Iff.rfl
theorem ed_excl {f : EL} : (ed f).excl = false := by unfold ed; rfl
theorem en_mem {l : List EnL} {k : Nat} (hk : k < l.length) : l.getD k default ∈ l := by
  rw [List.getD_eq_getElem?_getD, List.getElem?_eq_getElem hk]; exact List.getElem_mem hk
section
variable {f : EL} {L L' : List Chunk} {w : World}
theorem Mem.edOut (t : Take (ed f) L L') (h : Mem w L) : Mem w (rd f.o f.l.length f.c enC f.l :: L) :=
  h.dup t rd_excl (rd_holds.2 ⟨(ed_holds.1 (h.has t)).out, rfl⟩) (fun b hb => ed_foot.2 (.inl (rd_foot.1 hb))) ed_excl
theorem Mem.edRow {k : Nat} (hk : k < f.l.length) (t : Take (ed f) L L') (h : Mem w L) : Mem w (rd (f.l.getD k default).oo (f.l.getD k default).out.length (f.l.getD k default).oc i64c (f.l.getD k default).out :: L) :=
  h.dup t rd_excl (rd_holds.2 ⟨(ed_holds.1 (h.has t)).row _ (en_mem hk), rfl⟩) (fun b hb => ed_foot.2 (.inr ⟨_, en_mem hk, rd_foot.1 hb⟩)) ed_excl
end
theorem ed_own {w : World} {L F : List Chunk} {f : EL} {e : TypeId} (tk : Takes [arr f.o f.l.length f.c e enC f.l, bag (f.l.map enM)] L F) (h : Mem w L) : Mem w (ed f :: F) := by
  have ht := h.takes tk
  have a1 := arr_holds.1 (ht.all _ (.head _))
  have a2 := bag_holds.1 (ht.all _ (.tail _ (.head _)))
  have hrow : ∀ r ∈ f.l, (enM r).holds w := fun r hr => a2.1.all _ (List.mem_map.2 ⟨r, hr, rfl⟩)
  refine Mem.toRead tk h (ed_holds.2 ⟨a1.1.row Enc.pos, fun r hr => (arr_holds.1 (hrow r hr)).1.row Enc.pos⟩) ed_excl (fun b hb => ?_)
  rcases ed_foot.1 hb with ⟨h1, h2⟩ | ⟨r, hr, h1, h2⟩
  · exact ⟨_, .head _, arr_foot.2 ⟨h1, Nat.lt_of_lt_of_le h2 a1.1.le⟩⟩
  · exact ⟨_, .tail _ (.head _), bag_foot.2 ⟨_, List.mem_map.2 ⟨r, hr, rfl⟩, arr_foot.2 ⟨h1, Nat.lt_of_lt_of_le h2 (arr_holds.1 (hrow r hr)).1.le⟩⟩⟩
abbrev WoL.el (r : WoL) : EL := ⟨r.eo, r.ec, r.ends⟩
abbrev WoL.fl (r : WoL) : FL := ⟨r.wo, r.wc, r.rows⟩
theorem wo_own {w : World} {L F : List Chunk} (r : WoL) (t : Takes r.mem L F) (h : Mem w L) : Mem w (ed r.el :: fd r.fl :: F) := by
  have h1 : Mem w (r.mem ++ F) := h.takes t
  have h2 := ed_own (f := r.el) (e := 56) (L := r.mem ++ F) (by exact .cons .head (.cons .head .nil)) h1
  have h3 := fd_own (f := r.fl) (t := 2) (e := 51) (by exact .cons (.tail .head) (.cons (.tail .head) .nil)) h2
  exact h3.takes (by exact .cons (.tail .head) (.cons .head .nil))
attribute [local irreducible] Run Cod End OpT Still RunQ RunS RunT Fn PutOk
set_option maxRecDepth 100000 in
set_option maxHeartbeats 2000000 in
theorem sameEnds_is (f g : EL) (h : f.l.map enOf = g.l.map enOf) : Fn Try.prog 26 #[f.val, g.val] [ed f, ed g] [] (σ := Unit) (fun _ => True) (fun _ => .bool true) (fun _ => []) := by
  have hl : g.l.length = f.l.length := by have := congrArg List.length h; simpa using this.symm
  have hr : ∀ k, enOf (g.l.getD k default) = enOf (f.l.getD k default) := fun k => by
    have h1 : (f.l.map enOf)[k]? = (g.l.map enOf)[k]? := by rw [h]
    simp only [List.getElem?_map] at h1
    simp only [List.getD_eq_getElem?_getD]
    cases ha : f.l[k]? <;> cases hb : g.l[k]? <;> simp [ha, hb] at h1 ⊢
    exact h1.symm
  refine Fn.enter (args := [f.val, g.val]) Try.func26 rfl _ Try.ntmps26 rfl (by simp [ed_excl]) (fun w S => ?_)
  (try conv => rhs; simp only [List.cons_append, List.nil_append])
  apply Cod.fact (f.l.length ≤ 9223372036854775807) (fun w hm => (ed_holds.1 (hm.has (c := ed f) (by (repeat (first | exact Take.head | apply Take.tail))))).out.2.1)
  intro hfs
  apply Cod.imp (fun w hm => Mem.edOut (f := f) (by (repeat (first | exact Take.head | apply Take.tail))) hm)
  apply Cod.imp (fun w hm => Mem.edOut (f := g) (by (repeat (first | exact Take.head | apply Take.tail))) hm)
  repeat (first | refine go (k := ?_) | (refine goB (k := ?_); intro b) | (refine goA (k := ?_); intro ao cap))
  refine Cod.only ((fun k => [old w S, ed f, ed g, rd f.o f.l.length f.c enC f.l, rd g.o g.l.length g.c enC g.l]) 0) (by (repeat (first | exact Takes.nil | exact Take.head | apply Take.tail | apply Takes.cons))) ?_
  apply Cod.loop (σ := Nat) (fun k => k ≤ f.l.length) (fun k => [(0, f.val), (1, g.val), (12, .int .i64 (f.l.length : Int)), (13, .int .i64 (k : Int))]) (fun k => [old w S, ed f, ed g, rd f.o f.l.length f.c enC f.l, rd g.o g.l.length g.c enC g.l]) (fun k => f.l.length - k) 0
  rotate_left
  exact sb
  exact tks
  intro k hk K1 hK1
  (try conv => rhs; simp only [List.cons_append, List.nil_append])
  rotate_left
  · exact Nat.zero_le _
  by_cases hkn : k < f.l.length
  · apply Cod.imp (fun w hm => Mem.edRow (f := f) (k := k) hkn (by (repeat (first | exact Take.head | apply Take.tail))) hm)
    apply Cod.imp (fun w hm => Mem.edRow (f := g) (k := k) (by omega) (by (repeat (first | exact Take.head | apply Take.tail))) hm)
    have hrk := hr k
    simp only [enOf, Prod.mk.injEq] at hrk
    obtain ⟨r1, r2, r3, r4⟩ := hrk
    repeat (first | refine go (k := ?_) | (refine goB (k := ?_); intro b) | (refine goA (k := ?_); intro ao cap))
    (first | (apply Run.op; exact rfl) | refine Run.yes_ (h := ?_)); refine OpT.call0_ (spec := same9_is ⟨(f.l.getD k default).oo, (f.l.getD k default).oc, (f.l.getD k default).out⟩ ⟨(g.l.getD k default).oo, (g.l.getD k default).oc, (g.l.getD k default).out⟩ r4.symm) (k := ?_); intro s hs; (try conv => rhs; simp only [List.cons_append, List.nil_append])
    repeat (first | refine go (k := ?_) | (refine goB (k := ?_); intro b) | (refine goA (k := ?_); intro ao cap))
    refine End.round0_ hK1 (k + 1) ?_ ?_
    · omega
    · omega
  · repeat (first | refine go (k := ?_) | (refine goB (k := ?_); intro b) | (refine goA (k := ?_); intro ao cap))
    (refine End.done1_ (()) (he := by (first | exact rfl | (refine congrArg (Value.int _) ?_; omega) | (refine congrArg (Value.int _) ?_; dsimp only; omega))) (hp := ?_))
    trivial
end Go.Proofs.Ytjehflelkpacfaa.Vw

/- yieldlaw9.alive's answer, in plain Lean. -/
namespace Go.Proofs.Ytjehflelkpacfaa.Vm
set_option linter.unusedVariables false
def al9 : List ImgM.Ins := [⟨1, 0, 7⟩, ⟨28, 0, 0⟩, ⟨25, 0, 0⟩]
def al9M : ImgM.Mdl := ⟨[], [⟨4, 0, [], 0, 0, al9⟩]⟩
end Go.Proofs.Ytjehflelkpacfaa.Vm

/- Worlds compared; yieldlaw10.alive, walked. -/
namespace Go.Proofs.Ytjehflelkpacfaa.Vw
open Go.RowKit Go.Proofs.Ytjehflelkpacfaa.Img
set_option linter.unusedVariables false
set_option linter.unusedSimpArgs false
attribute [local irreducible] Run Cod End OpT Still RunQ RunS RunT Fn PutOk
structure WoL.Eq (a b : WoL) : Prop where
  ends : a.ends.map enOf = b.ends.map enOf
  rows : a.rows.map (·.l) = b.rows.map (·.l)
  n : a.n = b.n
theorem WoL.Is.eq {a b : WoL} {c : Vm.Ma} (ha : a.Is c) (hb : b.Is c) : a.Eq b := ⟨ha.ends.trans hb.ends.symm, ha.rows.trans hb.rows.symm, ha.n.trans hb.n.symm⟩
set_option maxRecDepth 100000 in
set_option maxHeartbeats 2000000 in
theorem same10_is (r v : WoL) (h : r.Eq v) : Fn Try.prog 14 #[.agg r.cells.toArray, .agg v.cells.toArray] [ed r.el, fd r.fl, ed v.el, fd v.fl] [] (σ := Unit) (fun _ => True) (fun _ => .bool true) (fun _ => []) := by
  have hn := h.n
  refine Fn.enter (args := [.agg r.cells.toArray, .agg v.cells.toArray]) Try.func14 rfl _ Try.ntmps14 rfl (by simp [ed_excl, fd_excl]) (fun w S => ?_)
  (try conv => rhs; simp only [List.cons_append, List.nil_append])
  repeat (first | refine go (k := ?_) | (refine goB (k := ?_); intro b) | (refine goA (k := ?_); intro ao cap))
  ((first | (apply Run.op; exact rfl) | refine Run.yes_ (h := ?_)); refine OpT.call0_ (spec := sameEnds_is r.el v.el h.ends) (r := (fun w => Reads.any (by (repeat (first | exact Take.head | apply Take.tail))) ed_excl (Reads.any (by (repeat (first | exact Take.head | apply Take.tail))) ed_excl .nil))) (k := ?_); intro s hs; (try conv => rhs; simp only [List.cons_append, List.nil_append]))
  repeat (first | refine go (k := ?_) | (refine goB (k := ?_); intro b) | (refine goA (k := ?_); intro ao cap))
  ((first | (apply Run.op; exact rfl) | refine Run.yes_ (h := ?_)); refine OpT.call0_ (spec := sameAll_is r.fl v.fl h.rows) (r := (fun w => Reads.any (by (repeat (first | exact Take.head | apply Take.tail))) fd_excl (Reads.any (by (repeat (first | exact Take.head | apply Take.tail))) fd_excl .nil))) (k := ?_); intro s hs; (try conv => rhs; simp only [List.cons_append, List.nil_append]))
  repeat (first | refine go (k := ?_) | (refine goB (k := ?_); intro b) | (refine goA (k := ?_); intro ao cap))
  (refine End.done1_ (()) (he := by (first | exact rfl | (refine congrArg (Value.int _) ?_; omega) | (refine congrArg (Value.int _) ?_; dsimp only; omega))) (hp := ?_))
  trivial
theorem al9_in' : ∀ i ∈ Vm.al9, ImgM.In64 i.op ∧ ImgM.In64 i.a ∧ ImgM.In64 i.n := by
  intro i hi
  simp [Vm.al9] at hi
  rcases hi with rfl | rfl | rfl <;> simp [ImgM.In64]
theorem al10_run : Vm.wrong Vm.al9M 1 = 0 := by
  have h : Ver.verify Vm.al9M = .ok := by kernel_rfl
  unfold Vm.wrong
  rw [h]; rfl
theorem al10_ds : (Vm.picks Vm.al9M false [(0, 2)] (Vm.Ma.init Vm.al9M)).1 = [(0, 2)] := by kernel_rfl
theorem al10_ts : ((Vm.picks Vm.al9M false [(0, 2)] (Vm.Ma.init Vm.al9M)).2.looked Vm.al9M).ts.map tkOf = [(1, 0, 0, [7])] := by kernel_rfl
attribute [local irreducible] Ver.verify Vm.wrong Vm.picks
set_option maxRecDepth 100000 in
theorem alive10_is : Fn Try.prog 12 #[] [] [] (σ := Unit) (fun _ => True) (fun _ => .bool true) (fun _ => []) := by
  refine Fn.enter (args := []) Try.func12 rfl _ Try.ntmps12 rfl (by simp [rd_excl, md_excl]) (fun w S => ?_)
  (try conv => rhs; simp only [List.cons_append, List.nil_append])
  repeat (first | refine go (k := ?_) | (refine goB (k := ?_); intro b) | (refine goA (k := ?_); intro ao cap))
  obtain ⟨pb, rfl⟩ : ∃ x, x = b := ⟨_, rfl⟩
  obtain ⟨mb, rfl⟩ : ∃ x, x = b := ⟨_, rfl⟩
  obtain ⟨ub, rfl⟩ : ∃ x, x = b := ⟨_, rfl⟩
  obtain ⟨cb, rfl⟩ : ∃ x, x = b := ⟨_, rfl⟩
  apply Run.imp' (fun w hm => Mem.toArr (b := pb) (e := 37) (f := pkC) (n := 1) hm (by (repeat (first | exact Take.head | apply Take.tail))) [(0, 2)] rfl rfl (by unfold maxLen; simp))
  apply Run.imp' (fun w hm => Mem.toArr (b := ub) (e := 68) (f := ucell) (n := 1) hm (by (repeat (first | exact Take.head | apply Take.tail))) [taskU cb Vm.al9] rfl rfl (by unfold maxLen; simp))
  apply Run.imp' (fun w hm => Mem.toArr (b := cb) (e := 64) (f := insC) (n := 3) hm (by (repeat (first | exact Take.head | apply Take.tail))) Vm.al9 rfl rfl (by unfold maxLen; simp))
  apply Run.imp' (fun w hm => taskM_mem (cb, ub) Vm.al9 (by (repeat (first | exact Takes.nil | exact Take.head | apply Take.tail | apply Takes.cons))) hm)
  have hsp := run_is (taskM (cb, ub) Vm.al9) (taskM_wf _ _ al9_in') ⟨some ⟨pb, 0, none⟩, 1, [(0, 2)]⟩
  have he : Vm.wrong (taskM (cb, ub) Vm.al9).mdl (PkL.l ⟨some ⟨pb, 0, none⟩, 1, [(0, 2)]⟩).length = 0 := al10_run
  have he' : Vm.wrong (taskM (cb, ub) Vm.al9).mdl ([(0, 2)] : List (Int × Int)).length = 0 := al10_run
  rw [he] at hsp
  ((first | (apply Run.op; exact rfl) | refine Run.yes_ (h := ?_)); refine OpT.call0_ (spec := hsp) (r := (fun w => Reads.md (by (repeat (first | exact Take.head | apply Take.tail))) (Reads.arr (by (repeat (first | exact Take.head | apply Take.tail))) .nil))) (k := ?_); intro s hs; (try conv => rhs; simp only [List.cons_append, List.nil_append]))
  obtain ⟨r, rfl⟩ : ∃ x, x = s := ⟨_, rfl⟩
  unfold RunIs at hs
  rw [if_pos he'] at hs
  have h1 : r.l = [(0, 2)] := hs.l.trans al10_ds
  have h2 : r.w.ends.map enOf = [(1, 0, 0, [7])] := hs.w.ends.trans al10_ts
  have h3 : r.l.length = 1 := by rw [h1]; rfl
  have h4 : r.w.ends.length = 1 := by have := congrArg List.length h2; simpa using this
  have h5 : r.l.getD 0 default = (0, 2) := by rw [h1]; rfl
  have h6 : enOf (r.w.ends.getD 0 default) = (1, 0, 0, [7]) := by
    have h : (r.w.ends.map enOf)[0]? = some (1, 0, 0, [7]) := by rw [h2]; rfl
    rw [List.getElem?_map] at h
    rw [List.getD_eq_getElem?_getD]
    cases hx : r.w.ends[0]? with
    | none => rw [hx] at h; cases h
    | some x => rw [hx] at h; simpa using h
  clear hs h1 h2
  have h52 : (r.l.getD 0 default).2 = 2 := by rw [h5]
  simp only [enOf, Prod.mk.injEq] at h6
  obtain ⟨k1, k2, k3, k4⟩ := h6
  have k5 : (r.w.ends.getD 0 default).out.length = 1 := by rw [k4]; rfl
  repeat (first | refine go (k := ?_) | (refine goB (k := ?_); intro b) | (refine goA (k := ?_); intro ao cap))
  (refine Run.yes_ (h := ?_); refine OpT.val_ (h := by (apply Still.at_; exact rfl; exact rfl; (first | (apply Rdb.arr; focus ((repeat (first | exact Take.head | apply Take.tail)); done)) | (apply Rdb.rd; focus ((repeat (first | exact Take.head | apply Take.tail)); done)) | (apply Rdb.md_units; focus ((repeat (first | exact Take.head | apply Take.tail)); done)) | (apply Rdb.md_boxes; focus ((repeat (first | exact Take.head | apply Take.tail)); done)) | (apply Rdb.md_code; (focus ((repeat (first | exact Take.head | apply Take.tail)); done)); (focus (first | assumption | omega))) | (apply Rdb.md_locals; (focus ((repeat (first | exact Take.head | apply Take.tail)); done)); (focus (first | assumption | omega))) | (apply Rdb.old; (focus assumption); (focus ((repeat (first | exact Take.head | apply Take.tail)); done)))); exact rfl; exact rfl; exact rfl; exact ix_zero; omega)) (k := ?_))
  repeat (first | refine go (k := ?_) | (refine goB (k := ?_); intro b) | (refine goA (k := ?_); intro ao cap))
  (refine Run.yes_ (h := ?_); refine OpT.val_ (h := by (apply Still.at_; exact rfl; exact rfl; (first | (apply Rdb.arr; focus ((repeat (first | exact Take.head | apply Take.tail)); done)) | (apply Rdb.rd; focus ((repeat (first | exact Take.head | apply Take.tail)); done)) | (apply Rdb.md_units; focus ((repeat (first | exact Take.head | apply Take.tail)); done)) | (apply Rdb.md_boxes; focus ((repeat (first | exact Take.head | apply Take.tail)); done)) | (apply Rdb.md_code; (focus ((repeat (first | exact Take.head | apply Take.tail)); done)); (focus (first | assumption | omega))) | (apply Rdb.md_locals; (focus ((repeat (first | exact Take.head | apply Take.tail)); done)); (focus (first | assumption | omega))) | (apply Rdb.old; (focus assumption); (focus ((repeat (first | exact Take.head | apply Take.tail)); done)))); exact rfl; exact rfl; exact rfl; exact ix_zero; omega)) (k := ?_))
  repeat (first | refine go (k := ?_) | (refine goB (k := ?_); intro b) | (refine goA (k := ?_); intro ao cap))
  (refine Run.yes_ (h := ?_); refine OpT.val_ (h := by (apply Still.at_; exact rfl; exact rfl; (first | (apply Rdb.arr; focus ((repeat (first | exact Take.head | apply Take.tail)); done)) | (apply Rdb.rd; focus ((repeat (first | exact Take.head | apply Take.tail)); done)) | (apply Rdb.md_units; focus ((repeat (first | exact Take.head | apply Take.tail)); done)) | (apply Rdb.md_boxes; focus ((repeat (first | exact Take.head | apply Take.tail)); done)) | (apply Rdb.md_code; (focus ((repeat (first | exact Take.head | apply Take.tail)); done)); (focus (first | assumption | omega))) | (apply Rdb.md_locals; (focus ((repeat (first | exact Take.head | apply Take.tail)); done)); (focus (first | assumption | omega))) | (apply Rdb.old; (focus assumption); (focus ((repeat (first | exact Take.head | apply Take.tail)); done)))); exact rfl; exact rfl; exact rfl; exact ix_zero; omega)) (k := ?_))
  repeat (first | refine go (k := ?_) | (refine goB (k := ?_); intro b) | (refine goA (k := ?_); intro ao cap))
  (refine End.done1_ (()) (he := by exact bool_eq (decide_eq_true (by rw [k5]; rfl))) (hp := ?_))
  trivial
end Go.Proofs.Ytjehflelkpacfaa.Vw

/- What picks do: counted; long ones; such as are refused. Plain Lean. -/
namespace Go.Proofs.Ytjehflelkpacfaa.Vm
open ImgM
set_option linter.unusedVariables false
variable {M : Mdl} {told : Bool}
/-- a pick counts its steps -/
structure Cnt (n : Nat) (q : Int) (e : Int × Nat) (n' : Nat) : Prop where
  sum : n' = n + e.2
  ok : e.1 = 0 → 1 ≤ e.2 ∧ (e.2 : Int) ≤ q
  no : e.1 ≠ 0 → e.2 = 0
theorem pick_cnt (c : Ma) (p : Int × Int) : Cnt c.n p.2 (pick M told c p).1 (pick M told c p).2.n := by
  unfold pick
  by_cases h1 : p.1 < 0 ∨ (c.ts.length : Int) ≤ p.1
  · rw [if_pos h1]; exact ⟨rfl, (fun h => by cases h), fun _ => rfl⟩
  · rw [if_neg h1]
    refine ⟨rfl, ?_, ?_⟩
    all_goals
      dsimp only
      unfold pick1
      by_cases h2 : p.2 < 1 ∨ 10000 < p.2
      · rw [if_pos h2]; simp
      rw [if_neg h2]
      by_cases h3 : (look (bxs M (tOf told p.1.toNat)) M (c.at_ p.1.toNat)).1.st ≠ 1
      · rw [if_pos h3]; simp
      rw [if_neg h3]
      have hle := goN_le (V := bxs M (tOf told p.1.toNat)) (M := M) (min p.2.toNat (20000 - c.n)) (look (bxs M (tOf told p.1.toNat)) M (c.at_ p.1.toNat))
      by_cases h4 : (goN (bxs M (tOf told p.1.toNat)) M (min p.2.toNat (20000 - c.n)) (look (bxs M (tOf told p.1.toNat)) M (c.at_ p.1.toNat))).1 = 0
      · rw [if_pos h4]; simp
      · rw [if_neg h4]
        dsimp only
        intro h
        omega
/-- alike but for what is seen anew -/
structure Rel (c c' : Ma) : Prop where
  bs : c.bs = c'.bs
  n : c.n = c'.n
  len : c.ts.length = c'.ts.length
  ts : ∀ k, k < c.ts.length → Alk (c.ts.getD k default) (c'.ts.getD k default)
theorem Rel.refl (c : Ma) : Rel c c := ⟨rfl, rfl, rfl, fun k _ => .inl rfl⟩
theorem Rel.looked {c c' : Ma} (h : Rel c c') : c.looked M = c'.looked M := by
  obtain ⟨ts, bs, n⟩ := c
  obtain ⟨ts', bs', n'⟩ := c'
  obtain ⟨h1, h2, h3, h4⟩ := h
  dsimp only at h1 h2 h3 h4
  subst h1 h2
  unfold Ma.looked
  simp only [Ma.mk.injEq, and_true]
  refine List.ext_getElem (by simpa using h3) fun j g1 g2 => ?_
  simp only [List.length_map] at g1 g2
  have := h4 j g1
  rw [List.getD_eq_getElem?_getD, List.getD_eq_getElem?_getD, List.getElem?_eq_getElem g1, List.getElem?_eq_getElem g2, Option.getD_some, Option.getD_some] at this
  simp only [List.getElem_map]
  rw [look_alk _ M this]
theorem look_back {ν : Type} (V : Env ν) (r : Tk × ν) : Alk (look V M r).1 r.1 := by
  have key : r.1.st ≤ 3 → ∀ a b : Int, a ≤ 3 → Alk { r.1 with st := a, bx := b } r.1 := fun h a b ha => .inr ⟨ha, r.1.st, r.1.bx, h, rfl⟩
  unfold look waits
  by_cases h3 : r.1.st ≤ 3
  · rw [if_pos h3]
    split
    · exact key h3 _ _ (by decide)
    · split
      · exact key h3 _ _ (by decide)
      · exact key h3 _ _ (by decide)
  · rw [if_neg h3]; exact .inl rfl
theorem Alk.trans' {a b c : Tk} (h : Alk a b) (k : Alk b c) : Alk a c := by
  rcases h with rfl | ⟨h1, x, y, h2, rfl⟩
  · exact k
  · rcases k with rfl | ⟨k1, u, v, k2, rfl⟩
    · exact .inr ⟨h1, x, y, h2, rfl⟩
    · exact .inr ⟨h1, u, v, k2, rfl⟩
theorem getD_set {l : List Tk} {j k : Nat} {t : Tk} (hj : j < l.length) : (l.set j t).getD k default = if j = k then t else l.getD k default := by
  simp only [List.getD_eq_getElem?_getD, List.getElem?_set]
  by_cases h : j = k
  · subst h; rw [if_pos rfl, if_pos hj, if_pos rfl]; rfl
  · rw [if_neg h, if_neg h]
/-- what a refused pick leaves -/
theorem pick1_no {ν : Type} {V : Env ν} {n : Nat} {q : Int} {r : Tk × ν} (h : (pick1 V M n q r).1.1 ≠ 0) : (pick1 V M n q r).1.2 = 0 ∧ (pick1 V M n q r).2.2 = r.2 ∧ Alk (pick1 V M n q r).2.1 r.1 := by
  unfold pick1 at h ⊢
  by_cases h2 : q < 1 ∨ 10000 < q
  · rw [if_pos h2]; exact ⟨rfl, rfl, .inl rfl⟩
  rw [if_neg h2] at h ⊢
  by_cases h3 : (look V M r).1.st ≠ 1
  · rw [if_pos h3]; exact ⟨rfl, look_snd V M r, look_back V r⟩
  rw [if_neg h3] at h ⊢
  have h3 := Classical.not_not.1 h3
  have hz : (goN V M (min q.toNat (20000 - n)) (look V M r)).1 = 0 → (goN V M (min q.toNat (20000 - n)) (look V M r)).2 = look V M r := fun h0 => by
    cases hm : min q.toNat (20000 - n) with
    | zero => rfl
    | succ k =>
      rw [hm] at h0
      unfold goN at h0
      rw [step_yes V M (by rw [look_look]; exact h3), if_pos rfl] at h0
      simp at h0
  by_cases h4 : (goN V M (min q.toNat (20000 - n)) (look V M r)).1 = 0
  · rw [if_pos h4, hz h4]; exact ⟨rfl, look_snd V M r, look_back V r⟩
  · rw [if_neg h4] at h; exact absurd rfl h
theorem Rel.no {c c' : Ma} (h : Rel c c') {p : Int × Int} (hp : (pick M told c p).1.1 ≠ 0) : Rel (pick M told c p).2 c' := by
  unfold pick at hp ⊢
  by_cases h1 : p.1 < 0 ∨ (c.ts.length : Int) ≤ p.1
  · rw [if_pos h1]; exact h
  · rw [if_neg h1] at hp ⊢
    obtain ⟨g1, g2, g3⟩ := pick1_no hp
    have hk : p.1.toNat < c.ts.length := by omega
    refine ⟨?_, ?_, ?_, fun k hk' => ?_⟩
    · dsimp only; rw [g2]; exact h.bs
    · dsimp only; rw [g1]; exact h.n
    · dsimp only; rw [List.length_set]; exact h.len
    · dsimp only at hk' ⊢
      rw [List.length_set] at hk'
      rw [getD_set hk]
      by_cases e : p.1.toNat = k
      · subst e; rw [if_pos rfl]; exact g3.trans' (h.ts _ hk')
      · rw [if_neg e]; exact h.ts k hk'
theorem pick1_alk {ν : Type} {V : Env ν} {n : Nat} {q : Int} {t t' : Tk} {s : ν} (h : Alk t t') (hp : (pick1 V M n q (t, s)).1.1 = 0) : pick1 V M n q (t', s) = pick1 V M n q (t, s) := by
  unfold pick1 at hp ⊢
  by_cases h2 : q < 1 ∨ 10000 < q
  · rw [if_pos h2] at hp; cases hp
  · rw [if_neg h2, if_neg h2, look_alk V M h]
theorem Rel.ok {c c' : Ma} (h : Rel c c') {p : Int × Int} (hp : (pick M told c p).1.1 = 0) : (pick M told c' p).1 = (pick M told c p).1 ∧ Rel (pick M told c p).2 (pick M told c' p).2 := by
  unfold pick at hp ⊢
  by_cases h1 : p.1 < 0 ∨ (c.ts.length : Int) ≤ p.1
  · rw [if_pos h1] at hp; cases hp
  · rw [if_neg h1] at hp ⊢
    rw [if_neg (by rw [← h.len]; exact h1)]
    have hk : p.1.toNat < c.ts.length := by omega
    have hk2 : p.1.toNat < c'.ts.length := by rw [← h.len]; exact hk
    have e : pick1 (bxs M (tOf told p.1.toNat)) M c'.n p.2 (c'.at_ p.1.toNat) = pick1 (bxs M (tOf told p.1.toNat)) M c.n p.2 (c.at_ p.1.toNat) := by
      unfold Ma.at_ at hp ⊢
      rw [← h.bs, ← h.n]
      exact pick1_alk (h.ts _ hk) hp
    dsimp only
    rw [e]
    refine ⟨rfl, rfl, by dsimp only; rw [h.n], by simp only [List.length_set]; exact h.len, fun k hk' => ?_⟩
    dsimp only at hk' ⊢
    rw [List.length_set] at hk'
    rw [getD_set hk, getD_set hk2]
    by_cases e : p.1.toNat = k
    · rw [if_pos e, if_pos e]; exact .inl rfl
    · rw [if_neg e, if_neg e]; exact h.ts k hk'
end Go.Proofs.Ytjehflelkpacfaa.Vm

/- What picks do is an order of steps that the boxes allow. Plain Lean. -/
namespace Go.Proofs.Ytjehflelkpacfaa.Vm
open ImgM Ver Opt
set_option linter.unusedVariables false
set_option linter.unusedSimpArgs false
abbrev tks0 (M : Mdl) : List Tk := (tasks M).map (new M)
/-- a machine stands where such an order has brought it -/
structure Stood (M : Mdl) (told : Bool) (c : Ma) (xs : Nat → List Int) : Prop where
  runs : Runs M (capN M) (tks0 M) c.n xs c.bs.ws
  len : c.ts.length = (tks0 M).length
  tk : ∀ k, k < (tks0 M).length → nrm (c.ts.getD k default) = ltk M ((tks0 M).getD k default) (xs k)
  log : told = true → (∀ k : Nat, ((c.bs.log.filter fun e => decide (e.1 = k)).map (·.2)) = if k < (tks0 M).length then lev M ((tks0 M).getD k default) (xs k) else []) ∧ (c.bs.log.map (·.2)).foldl wplay (List.replicate M.boxes.length []) = c.bs.ws
section
variable {M : Mdl} {told : Bool} {c : Ma} {xs : Nat → List Int}
theorem nrm_new (M : Mdl) (u : Nat) : nrm (new M u) = new M u := by
  unfold nrm
  rw [if_pos (show (new M u).st ≤ 3 from (by decide : (1 : Int) ≤ 3))]
  rfl
theorem tks0_at {k : Nat} (hk : k < (tks0 M).length) : (tks0 M).getD k default = new M ((tasks M).getD k 0) := by
  have hk' : k < (tasks M).length := by simpa using hk
  rw [List.getD_eq_getElem?_getD, List.getElem?_map, List.getElem?_eq_getElem hk', List.getD_eq_getElem?_getD, List.getElem?_eq_getElem hk']; rfl
theorem Stood.init (M : Mdl) (told : Bool) : Stood M told (Ma.init M) (fun _ => []) := by
  refine ⟨Runs.nil, rfl, fun k hk => ?_, fun _ => ⟨fun k => ?_, rfl⟩⟩
  · show nrm ((tks0 M).getD k default) = (tks0 M).getD k default
    rw [tks0_at hk]; exact nrm_new M _
  · show [] = _
    split <;> rfl
theorem nrm_alk {t t' : Tk} (h : Alk t t') : nrm t = nrm t' := by
  rcases h with rfl | ⟨h3, a, b, ha, rfl⟩
  · rfl
  · unfold nrm
    rw [if_pos h3, if_pos (show ({ t with st := a, bx := b } : Tk).st ≤ 3 from ha)]
theorem nrm_look {ν : Type} (V : Env ν) (r : Tk × ν) : nrm (look V M r).1 = nrm r.1 := nrm_alk (look_back V r)
theorem nrm_ins {M : Mdl} (t : Tk) : insT M (nrm t) = insT M t := by
  unfold nrm
  split <;> rfl
theorem plays_ws (M : Mdl) (k : Option Nat) : ∀ (l : List Ev) (s : Bs), (l.foldl (play (bxs M k)) s).ws = l.foldl wplay s.ws
  | [], s => rfl
  | e :: l, s => by
    simp only [List.foldl_cons]
    rw [plays_ws M k l]
    congr 1
    have tl : ∀ (s : Bs) e, ((bxs M k).tell s e).ws = s.ws := fun s e => by cases k <;> rfl
    unfold play wplay
    split
    · rw [tl]; rfl
    · split
      · rw [tl]; rfl
      · rw [tl]
theorem plays_log (M : Mdl) (k : Nat) : ∀ (l : List Ev) (s : Bs), (l.foldl (play (bxs M (some k))) s).log = s.log ++ l.map (fun e => (k, e))
  | [], s => by simp
  | e :: l, s => by
    simp only [List.foldl_cons]
    rw [plays_log M k l]
    have : (play (bxs M (some k)) s e).log = s.log ++ [(k, e)] := by
      unfold play
      split
      · rfl
      · split <;> rfl
    rw [this]; simp
theorem mp2 (k : Nat) : ∀ l : List Ev, (l.map fun e => (k, e)).map (·.2) = l
  | [] => rfl
  | a :: l => by simp only [List.map_cons, mp2 k l]
/-- a task that can go on, takes a step -/
theorem step_loc {k : Option Nat} {t : Tk} {s : Bs} (h : (look (bxs M k) M (t, s)).1.st = 1) :
    Can M (capN M) (nrm t) s.ws ∧ (step (bxs M k) M (t, s)).1 = true ∧ nrm (step (bxs M k) M (t, s)).2.1 = (loc1 M (xin M (nrm t) s.ws) (nrm t)).1 ∧ (step (bxs M k) M (t, s)).2.2 = (loc1 M (xin M (nrm t) s.ws) (nrm t)).2.foldl (play (bxs M k)) s := by
  obtain ⟨h3, h26, h27⟩ := look_ready h
  dsimp only at h3 h26 h27
  have hn : nrm t = { t with st := 1, bx := 0 } := by unfold nrm; rw [if_pos h3]
  have hl : look (bxs M k) M (t, s) = (nrm t, s) := by rw [hn]; exact look_one h3 h26 h27
  have hx : inp (bxs M k) M (t, s) = xin M (nrm t) s.ws := by
    unfold inp xin bxOf
    rw [nrm_ins]
    rfl
  refine ⟨⟨by rw [hn], fun ho => ?_, fun ho => ?_⟩, ?_⟩
  · rw [nrm_ins] at ho
    have := h26 ho
    unfold bxOf
    rw [nrm_ins]
    exact of_decide_eq_false this
  · rw [nrm_ins] at ho
    have := h27 ho
    unfold bxOf
    rw [nrm_ins]
    exact of_decide_eq_false this
  · rw [step_yes _ M h, hl, hx]
    refine ⟨rfl, ?_, ?_⟩
    · dsimp only
      rw [nrm_look]; rfl
    · dsimp only
      rw [look_snd]; rfl
theorem set_getD {l : List Tk} {k : Nat} (hk : k < l.length) : l.set k (l.getD k default) = l := by
  refine List.ext_getElem (by simp) fun j h1 h2 => ?_
  rw [List.getElem_set]
  split
  · rename_i e; subst e; rw [List.getD_eq_getElem?_getD, List.getElem?_eq_getElem h2]; rfl
  · rfl
/-- one task seen anew -/
theorem Stood.seen {k : Nat} {t t' : Tk} {ts : List Tk} {s : Bs} {n : Nat} (hk : k < ts.length) (h : Stood M told ⟨ts.set k t, s, n⟩ xs) (e : nrm t' = nrm t) : Stood M told ⟨ts.set k t', s, n⟩ xs := by
  obtain ⟨h1, h2, h3, h4⟩ := h
  refine ⟨h1, by simpa using h2, fun j hj => ?_, h4⟩
  have := h3 j hj
  dsimp only at this ⊢
  rw [getD_set hk] at this ⊢
  by_cases ejk : k = j
  · subst ejk; rw [if_pos rfl] at this ⊢; rw [e]; exact this
  · rw [if_neg ejk] at this ⊢; exact this
theorem Stood.stepd {k : Nat} {t : Tk} {ts : List Tk} {s : Bs} {n : Nat} (hk : k < ts.length) (h : Stood M told ⟨ts.set k t, s, n⟩ xs) (hs : (look (bxs M (tOf told k)) M (t, s)).1.st = 1) :
    ∃ xs', Stood M told ⟨ts.set k (step (bxs M (tOf told k)) M (t, s)).2.1, (step (bxs M (tOf told k)) M (t, s)).2.2, n + 1⟩ xs' := by
  obtain ⟨hc, h1, h2, h3⟩ := step_loc hs
  obtain ⟨g1, g2, g3, g4⟩ := h
  have hkT : k < (tks0 M).length := by rw [← g2]; simpa using hk
  have hu := g3 k hkT
  dsimp only at g1 g2 g3 g4 hu
  rw [getD_set hk, if_pos rfl] at hu
  rw [hu] at hc h2 h3
  refine ⟨fun j => if j = k then xs k ++ [xin M (ltk M ((tks0 M).getD k default) (xs k)) s.ws] else xs j, ⟨?_, by simpa using g2, fun j hj => ?_, fun ht => ?_⟩⟩
  · have := Runs.step g1 hkT hc
    dsimp only
    rw [h3, plays_ws]
    exact this
  · have := g3 j hj
    dsimp only at this ⊢
    rw [getD_set hk] at this ⊢
    by_cases ejk : k = j
    · subst ejk
      rw [if_pos rfl, if_pos rfl, h2, ltk_snoc]
    · rw [if_neg ejk] at this
      rw [if_neg ejk, if_neg (fun e => ejk e.symm)]
      exact this
  · obtain ⟨l1, l2⟩ := g4 ht
    have hto : tOf told k = some k := by unfold tOf; rw [if_pos ht]
    rw [hto] at h3 ⊢
    dsimp only
    refine ⟨fun j => ?_, ?_⟩
    · rw [h3, plays_log, List.filter_append, List.map_append, l1 j]
      by_cases ejk : j = k
      · subst ejk
        rw [if_pos hkT, if_pos hkT, if_pos rfl, lev_snoc]
        congr 1
        rw [List.filter_eq_self.2 (by intro a ha; obtain ⟨e, -, rfl⟩ := List.mem_map.1 ha; simp), mp2]
      · have : (((loc1 M (xin M (ltk M ((tks0 M).getD k default) (xs k)) s.ws) (ltk M ((tks0 M).getD k default) (xs k))).2.map fun e => (k, e)).filter fun e => decide (e.1 = j)) = [] := by
          rw [List.filter_eq_nil_iff]
          intro a ha
          obtain ⟨e, -, rfl⟩ := List.mem_map.1 ha
          simpa using fun h => ejk h.symm
        rw [this, if_neg ejk]; simp
    · rw [h3, plays_log, plays_ws, List.map_append, mp2, List.foldl_append, l2]
theorem Stood.goes {k : Nat} {ts : List Tk} (hk : k < ts.length) : ∀ (f : Nat) {t : Tk} {s : Bs} {n : Nat} {xs : Nat → List Int}, Stood M told ⟨ts.set k t, s, n⟩ xs →
    ∃ xs', Stood M told ⟨ts.set k (goN (bxs M (tOf told k)) M f (t, s)).2.1, (goN (bxs M (tOf told k)) M f (t, s)).2.2, n + (goN (bxs M (tOf told k)) M f (t, s)).1⟩ xs'
  | 0, t, s, n, xs, h => ⟨xs, h⟩
  | f + 1, t, s, n, xs, h => by
    unfold goN
    by_cases hs : (look (bxs M (tOf told k)) M (t, s)).1.st = 1
    · obtain ⟨xs', h'⟩ := h.stepd hk hs
      have e1 : (Vm.step (bxs M (tOf told k)) M (t, s)).1 = true := by rw [step_yes _ M hs]
      rw [if_pos e1]
      obtain ⟨xs2, h2⟩ := Stood.goes hk f h'
      refine ⟨xs2, ?_⟩
      dsimp only at h2 ⊢
      rw [Nat.add_comm (goN _ _ _ _).1 1, ← Nat.add_assoc]
      exact h2
    · have e1 := step_no (bxs M (tOf told k)) M hs
      rw [e1, if_neg (by simp)]
      refine ⟨xs, ?_⟩
      have := h.seen hk (nrm_look (M := M) (bxs M (tOf told k)) (t, s))
      dsimp only
      rw [look_snd]
      exact this
theorem Stood.pickd (h : Stood M told c xs) (p : Int × Int) : ∃ xs', Stood M told (pick M told c p).2 xs' := by
  unfold Vm.pick
  by_cases h1 : p.1 < 0 ∨ (c.ts.length : Int) ≤ p.1
  · rw [if_pos h1]; exact ⟨xs, h⟩
  · rw [if_neg h1]
    have hk : p.1.toNat < c.ts.length := by omega
    have h0 : Stood M told ⟨c.ts.set p.1.toNat (c.ts.getD p.1.toNat default), c.bs, c.n⟩ xs := by rw [set_getD hk]; exact h
    dsimp only
    unfold pick1 Ma.at_
    by_cases h2 : p.2 < 1 ∨ 10000 < p.2
    · rw [if_pos h2]; exact ⟨xs, h0⟩
    rw [if_neg h2]
    have hL := h0.seen hk (nrm_look (M := M) (bxs M (tOf told p.1.toNat)) (c.ts.getD p.1.toNat default, c.bs))
    by_cases h3 : (look (bxs M (tOf told p.1.toNat)) M (c.ts.getD p.1.toNat default, c.bs)).1.st ≠ 1
    · rw [if_pos h3]
      refine ⟨xs, ?_⟩
      dsimp only
      rw [look_snd]
      exact hL
    rw [if_neg h3]
    have hL2 : (look (bxs M (tOf told p.1.toNat)) M (c.ts.getD p.1.toNat default, c.bs)) = ((look (bxs M (tOf told p.1.toNat)) M (c.ts.getD p.1.toNat default, c.bs)).1, c.bs) := Prod.ext rfl (look_snd _ M _)
    obtain ⟨xs', hg⟩ := Stood.goes hk (min p.2.toNat (20000 - c.n)) hL
    rw [← hL2] at hg
    refine ⟨xs', ?_⟩
    dsimp only
    by_cases h4 : (Vm.goN (bxs M (tOf told p.1.toNat)) M (min p.2.toNat (20000 - c.n)) (look (bxs M (tOf told p.1.toNat)) M (c.ts.getD p.1.toNat default, c.bs))).1 = 0
    · rw [if_pos h4]
      rw [h4] at hg
      exact hg
    · rw [if_neg h4]; exact hg
theorem Stood.pickds : ∀ (l : List (Int × Int)) {c : Ma} {xs : Nat → List Int}, Stood M told c xs → ∃ xs', Stood M told (picks M told l c).2 xs'
  | [], c, xs, h => ⟨xs, h⟩
  | p :: l, c, xs, h => by
    obtain ⟨xs', h'⟩ := h.pickd p
    exact Stood.pickds l h'
theorem Stood.lookd (h : Stood M told c xs) : Stood M told (c.looked M) xs := by
  obtain ⟨g1, g2, g3, g4⟩ := h
  refine ⟨g1, by simpa [Ma.looked] using g2, fun k hk => ?_, g4⟩
  rw [← g3 k hk]
  have hk' : k < c.ts.length := by omega
  unfold Ma.looked
  dsimp only
  rw [List.getD_eq_getElem?_getD, List.getElem?_map, List.getElem?_eq_getElem hk', List.getD_eq_getElem?_getD, List.getElem?_eq_getElem hk']
  exact nrm_look _ _
/-- who can go on is found -/
theorem looked_at {k : Nat} (hk : k < c.ts.length) : (c.looked M).ts.getD k default = (look (bxs M none) M (c.ts.getD k default, c.bs)).1 := by
  unfold Ma.looked
  dsimp only
  rw [List.getD_eq_getElem?_getD, List.getElem?_map, List.getElem?_eq_getElem hk, List.getD_eq_getElem?_getD, List.getElem?_eq_getElem hk]; rfl
theorem can_look {t : Tk} {s : Bs} (hc : Can M (capN M) (nrm t) s.ws) : look (bxs M none) M (t, s) = (nrm t, s) := by
  have h3 : t.st ≤ 3 := by
    have := hc.st
    unfold nrm at this
    by_cases h : t.st ≤ 3
    · exact h
    · rw [if_neg h] at this; omega
  have hn : nrm t = { t with st := 1, bx := 0 } := by unfold nrm; rw [if_pos h3]
  rw [hn]
  refine look_one h3 (fun ho => decide_eq_false ?_) (fun ho => decide_eq_false ?_)
  · have := hc.send (by rw [nrm_ins]; exact ho)
    unfold bxOf at this
    rw [nrm_ins] at this
    exact this
  · have := hc.recv (by rw [nrm_ins]; exact ho)
    unfold bxOf at this
    rw [nrm_ins] at this
    exact this
theorem Stood.rest (h : Stood M told c xs) (hr : (c.looked M).ready = []) : Rest M (capN M) (tks0 M) xs c.bs.ws := by
  intro k hk hc
  have hk' : k < c.ts.length := by rw [h.len]; exact hk
  rw [← h.tk k hk] at hc
  have hl := can_look hc
  have hm : k ∈ (c.looked M).ready := by
    unfold Ma.ready
    rw [List.mem_filter, List.mem_range]
    refine ⟨by simpa [Ma.looked] using hk', ?_⟩
    rw [decide_eq_true_eq, looked_at hk', hl]
    exact hc.st
  rw [hr] at hm
  cases hm
end
end Go.Proofs.Ytjehflelkpacfaa.Vm

/- Where all comes to rest: it is the same rest. Plain Lean. -/
namespace Go.Proofs.Ytjehflelkpacfaa.Vm
open ImgM Ver Opt
set_option linter.unusedVariables false
set_option linter.unusedSimpArgs false
section
variable {M : Mdl} {T : Nat → Int → Option Shape}
theorem nextOf_mem {l : List Nat} (h : l ≠ []) (last : Int) : nextOf l last ∈ l := by
  unfold nextOf
  cases hf : l.find? (fun k : Nat => decide (last < (k : Int))) with
  | some x => exact List.mem_of_find?_eq_some hf
  | none =>
    cases l with
    | nil => exact absurd rfl h
    | cons a r => exact List.mem_cons_self
/-- one who can go on does, if steps are left -/
theorem pick1_can {ν : Type} {V : Env ν} {n : Nat} {q : Int} {r : Tk × ν} (h1 : 1 ≤ q) (h2 : q ≤ 10000) (hn : n < 20000) (hs : (look V M r).1.st = 1) : (pick1 V M n q r).1.1 = 0 := by
  unfold pick1
  rw [if_neg (by omega), if_neg (fun h => h hs)]
  have : (goN V M (min q.toNat (20000 - n)) (look V M r)).1 ≠ 0 := by
    cases hm : min q.toNat (20000 - n) with
    | zero => omega
    | succ k =>
      unfold goN
      rw [step_yes V M (by rw [look_look]; exact hs), if_pos rfl]
      simp
  rw [if_neg this]
def SetAt (M : Mdl) : Option Ma → Prop
  | some c => ∃ xs, Stood M false c xs ∧ Rest M (capN M) (tks0 M) xs c.bs.ws ∧ c.n ≤ 20000
  | none => ∃ xs ws, Runs M (capN M) (tks0 M) 20001 xs ws
theorem settle_at (hC : Certs M T) {q : Int} (h1 : 1 ≤ q) (h2 : q ≤ 10000) : ∀ (f : Nat) (last : Int) {c : Ma} {xs : Nat → List Int}, c.Ok M T → Stood M false c xs → 20001 ≤ f + c.n → SetAt M (settle M q f last c)
  | 0, last, c, xs, hO, hS, hf => by have := hO.n; omega
  | f + 1, last, c, xs, hO, hS, hf => by
    rw [show settle M q (f + 1) last c = if (c.looked M).ready = [] then some (c.looked M) else if (pick M false (c.looked M) ((nextOf (c.looked M).ready last : Int), q)).1.1 ≠ 0 then none else settle M q f (nextOf (c.looked M).ready last) (pick M false (c.looked M) ((nextOf (c.looked M).ready last : Int), q)).2 from rfl]
    by_cases hr : (c.looked M).ready = []
    · rw [if_pos hr]
      exact ⟨xs, hS.lookd, hS.rest hr, hO.n⟩
    rw [if_neg hr]
    have hm := nextOf_mem hr last
    generalize nextOf (c.looked M).ready last = k at *
    unfold Ma.ready at hm
    rw [List.mem_filter, List.mem_range, decide_eq_true_eq] at hm
    obtain ⟨hk, hst⟩ := hm
    have hk' : k < c.ts.length := by simpa [Ma.looked] using hk
    have hl : (look (bxs M (tOf false k)) M ((c.looked M).at_ k)).1.st = 1 := by
      have e0 : tOf false k = none := rfl
      unfold Ma.at_
      rw [e0, looked_at hk']
      have e1 : ((look (bxs M none) M (c.ts.getD k default, c.bs)).1, (c.looked M).bs) = look (bxs M none) M (c.ts.getD k default, c.bs) := Prod.ext rfl (look_snd (bxs M none) M (c.ts.getD k default, c.bs)).symm
      rw [e1, look_look]
      rw [looked_at hk'] at hst
      exact hst
    have hpk : (pick M false (c.looked M) ((k : Int), q)).1.1 = (pick1 (bxs M (tOf false k)) M (c.looked M).n q ((c.looked M).at_ k)).1.1 := by
      unfold pick
      rw [if_neg (by dsimp only; omega)]
      rfl
    by_cases he : (pick M false (c.looked M) ((k : Int), q)).1.1 ≠ 0
    · rw [if_pos he]
      have hn : c.n = 20000 := Classical.byContradiction fun hn => he (by
        rw [hpk]
        exact pick1_can h1 h2 (by have := hO.n; show c.n < 20000; omega) hl)
      have hS' := hS.lookd
      have hkT : k < (tks0 M).length := by rw [← hS.len]; exact hk'
      obtain ⟨hc, -⟩ := step_loc hl
      rw [hS'.tk k hkT] at hc
      have := Runs.step hS'.runs hkT hc
      rw [show (c.looked M).n + 1 = 20001 by show c.n + 1 = 20001; omega] at this
      exact ⟨_, _, this⟩
    · rw [if_neg he]
      have he := Classical.not_not.1 he
      obtain ⟨xs', hS'⟩ := hS.lookd.pickd ((k : Int), q)
      have hO' := hO.looked.pick hC false ((k : Int), q)
      have hd : (c.looked M).n + 1 ≤ (pick M false (c.looked M) ((k : Int), q)).2.n := by
        have h1 := (pick_cnt (M := M) (told := false) (c.looked M) ((k : Int), q)).sum
        have h2 := ((pick_cnt (M := M) (told := false) (c.looked M) ((k : Int), q)).ok he).1
        omega
      have e9 : (c.looked M).n = c.n := rfl
      exact settle_at hC h1 h2 f _ hO' hS' (by omega)
theorem picks_ok' (hC : Certs M T) (told : Bool) : ∀ (l : List (Int × Int)) {c : Ma}, c.Ok M T → (picks M told l c).2.Ok M T
  | [], c, h => h
  | p :: l, c, h => picks_ok' hC told l (h.pick hC told p)
theorem settled_at (hC : Certs M T) {q : Int} (h1 : 1 ≤ q) (h2 : q ≤ 10000) (ps : List (Int × Int)) : SetAt M (settle M q 20001 (lastOf ps (picks M false ps (Ma.init M)).1) (picks M false ps (Ma.init M)).2) := by
  obtain ⟨xs, hS⟩ := Stood.pickds ps (Stood.init M false)
  exact settle_at hC h1 h2 _ _ (picks_ok' hC false ps (Ma.Ok.init hC)) hS (by omega)
theorem alk_nrm {t t' : Tk} (h : nrm t = nrm t') : Alk t t' := by
  unfold nrm at h
  by_cases h1 : t.st ≤ 3
  · rw [if_pos h1] at h
    by_cases h2 : t'.st ≤ 3
    · rw [if_pos h2] at h
      obtain ⟨cs, now, st, bx, tr, out⟩ := t
      obtain ⟨cs', now', st', bx', tr', out'⟩ := t'
      simp only [Tk.mk.injEq] at h
      obtain ⟨rfl, rfl, -, -, rfl, rfl⟩ := h
      exact .inr ⟨h1, st', bx', h2, rfl⟩
    · rw [if_neg h2] at h
      rw [← h] at h2
      exact absurd (show ({ t with st := 1, bx := 0 } : Tk).st ≤ 3 from (by decide : (1 : Int) ≤ 3)) h2
  · rw [if_neg h1] at h
    by_cases h2 : t'.st ≤ 3
    · rw [if_pos h2] at h
      rw [h] at h1
      exact absurd (show ({ t' with st := 1, bx := 0 } : Tk).st ≤ 3 from (by decide : (1 : Int) ≤ 3)) h1
    · rw [if_neg h2] at h
      exact .inl h
theorem look_ws (k : Option Nat) (t : Tk) (s : Bs) : (look (bxs M k) M (t, s)).1 = (look (bx0 (capN M)) M (t, s.ws)).1 := by
  unfold look waits
  dsimp only
  have e1 : ∀ b, (bxs M k).full s b = (bx0 (capN M)).full s.ws b := fun b => rfl
  have e2 : ∀ b, (bxs M k).empty s b = (bx0 (capN M)).empty s.ws b := fun b => rfl
  rw [e1, e2]
  split
  · split
    · rfl
    · split <;> rfl
  · rfl
/-- the same runs, the same machine, looked at -/
theorem Stood.same {told told' : Bool} {c c' : Ma} {xs : Nat → List Int} (h : Stood M told c xs) (h' : Stood M told' c' xs) (hw : c.bs.ws = c'.bs.ws) : (c.looked M).ts = (c'.looked M).ts := by
  unfold Ma.looked
  dsimp only
  refine List.ext_getElem (by simp [h.len, h'.len]) fun j h1 h2 => ?_
  simp only [List.length_map] at h1 h2
  simp only [List.getElem_map]
  have e1 := h.tk j (by rw [← h.len]; exact h1)
  have e2 := h'.tk j (by rw [← h'.len]; exact h2)
  rw [List.getD_eq_getElem?_getD, List.getElem?_eq_getElem h1, Option.getD_some] at e1
  rw [List.getD_eq_getElem?_getD, List.getElem?_eq_getElem h2, Option.getD_some] at e2
  rw [look_ws, look_ws, ← hw, look_alk _ M (alk_nrm (e1.trans e2.symm))]
theorem ws_of {s r : Nat → Nat} (ho : Owns M (tks0 M) s r) {n n' : Nat} {xs ys : Nat → List Int} {ws us : List (List Int)} {cap cap' : Nat → Nat} (hx : Runs M cap (tks0 M) n xs ws) (hy : Runs M cap' (tks0 M) n' ys us) (h : ∀ k, xs k = ys k) : ws = us := by
  have l1 := hx.wlen
  have l2 := hy.wlen
  refine List.ext_getElem (by omega) fun b h1 h2 => ?_
  have f1 := hx.fifo ho b (by omega)
  have f2 := hy.fifo ho b (by omega)
  rw [h, h, f2] at f1
  have := List.append_cancel_left f1
  rw [List.getD_eq_getElem?_getD, List.getD_eq_getElem?_getD, List.getElem?_eq_getElem h1, List.getElem?_eq_getElem h2] at this
  exact this.symm
/-- KAHN'S THEOREM -/
theorem settle_same (hC : Certs M T) (hR : Right M) {c c' : Ma} (h : SetAt M (some c)) (h' : SetAt M (some c')) : (c.looked M).ts = (c'.looked M).ts ∧ c.bs.ws = c'.bs.ws ∧ c.n = c'.n := by
  obtain ⟨xs, hS, hr, -⟩ := h
  obtain ⟨ys, hS', hr', -⟩ := h'
  have ho := owns_of hC hR
  have he : ∀ k, xs k = ys k := fun k => by
    have p1 := rest_max ho (fun b _ => Nat.le_refl _) hS.runs hS'.runs hr' k
    have p2 := rest_max ho (fun b _ => Nat.le_refl _) hS'.runs hS.runs hr k
    exact p1.eq_of_length (Nat.le_antisymm p1.length_le p2.length_le)
  have hw := ws_of ho hS.runs hS'.runs he
  obtain rfl : xs = ys := funext he
  exact ⟨hS.same hS' hw, hw, hS.runs.sum.trans hS'.runs.sum.symm⟩
theorem sum_le : ∀ (l : List Nat) {f g : Nat → Nat}, (∀ k, f k ≤ g k) → (l.map f).sum ≤ (l.map g).sum
  | [], f, g, h => Nat.le_refl _
  | a :: l, f, g, h => by
    simp only [List.map_cons, List.sum_cons]
    have := sum_le l h
    have := h a
    omega
theorem settle_never (hC : Certs M T) (hR : Right M) {c : Ma} (h : SetAt M (some c)) (h' : SetAt M none) : False := by
  obtain ⟨xs, hS, hr, hn⟩ := h
  obtain ⟨ys, us, hy⟩ := h'
  have ho := owns_of hC hR
  have s1 := hS.runs.sum
  have s2 := hy.sum
  have := sum_le (List.range (tks0 M).length) (f := fun k => (ys k).length) (g := fun k => (xs k).length) (fun k => (rest_max ho (fun b _ => Nat.le_refl _) hy hS.runs hr k).length_le)
  omega
end
end Go.Proofs.Ytjehflelkpacfaa.Vm
