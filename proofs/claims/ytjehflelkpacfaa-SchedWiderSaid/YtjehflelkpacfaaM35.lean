/- Worlds compared (yieldref10), walked: of what is alike. -/
import Derived.Test.YtjehflelkpacfaaM34
import Derived.WalkKit
import Derived.ProofKit
import Derived.OpenShut
import Derived.JoinedCond
import Derived.SizedLaws
import Derived.Deep.Slices
import Derived.Carry
namespace Go.Proofs.Ytjehflelkpacfaa.Vw
open Go.RowKit Go.Proofs.Ytjehflelkpacfaa.Img
set_option linter.unusedVariables false
set_option linter.unusedSimpArgs false
/-- ends, and where they lie -/
structure EL where
  o : Option Addr
  c : Nat
  l : List EnL
abbrev EL.val (f : EL) : Value := .slice f.o f.l.length f.c
structure EdAt (w : World) (f : EL) : Prop where
  out : Row w (.slice f.o f.l.length f.c) (sz enC) f.l.length (f.l.flatMap enC)
  row : ∀ r ∈ f.l, Row w (.slice r.oo r.out.length r.oc) (sz i64c) r.out.length (r.out.flatMap i64c)
def EdFoot (f : EL) (k : Nat) : Prop :=
  ((Value.slice f.o f.l.length f.c).ownBlock = some k ∧ 0 < f.l.length) ∨ ∃ r ∈ f.l, (Value.slice r.oo r.out.length r.oc).ownBlock = some k ∧ 0 < r.out.length
theorem EdAt.keep {w w' : World} {f : EL} (h : EdAt w f) {S : Nat → Prop} (k : Keeps S w w') (hs : ∀ b, EdFoot f b → ¬ S b) : EdAt w' f :=
  ⟨h.out.keep'' Enc.pos k (fun b h1 h2 => hs b (.inl ⟨h1, h2⟩)), fun r hr => (h.row r hr).keep'' Enc.pos k (fun b h1 h2 => hs b (.inr ⟨r, hr, h1, h2⟩))⟩
theorem EdAt.lt {w : World} {f : EL} (h : EdAt w f) : ∀ b, EdFoot f b → b < w.heap.size := by
  rintro b (⟨h1, h2⟩ | ⟨r, hr, h1, h2⟩)
  · exact h.out.lt' Enc.pos h2 b h1
  · exact (h.row r hr).lt' Enc.pos h2 b h1
/-- ends that are only read -/
@[irreducible] def ed (f : EL) : Chunk where
  holds w := EdAt w f
  foot := EdFoot f
  excl := false
  stab k hs h := h.keep k hs
  lt h := h.lt
theorem ed_holds {w : World} {f : EL} : (ed f).holds w ↔ EdAt w f := by unfold ed; exact Iff.rfl
theorem ed_foot {f : EL} {k : Nat} : (ed f).foot k ↔ EdFoot f k := by unfold ed; exact Iff.rfl
theorem ed_excl {f : EL} : (ed f).excl = false := by unfold ed; rfl
theorem en_mem {l : List EnL} {k : Nat} (hk : k < l.length) : l.getD k default ∈ l := by
  rw [List.getD_eq_getElem?_getD, List.getElem?_eq_getElem hk]; exact List.getElem_mem hk
section
variable {f : EL} {L L' : List Chunk} {w : World}
theorem Mem.edOut (t : Take (ed f) L L') (h : Mem w L) : Mem w (rd f.o f.l.length f.c enC f.l :: L) :=
  h.dup t rd_excl (rd_holds.2 ⟨(ed_holds.1 (h.has t)).out, rfl⟩) (fun b hb => ed_foot.2 (.inl (rd_foot.1 hb))) ed_excl
theorem Mem.edRow {k : Nat} (hk : k < f.l.length) (t : Take (ed f) L L') (h : Mem w L) : Mem w (rd (f.l.getD k default).oo (f.l.getD k default).out.length (f.l.getD k default).oc i64c (f.l.getD k default).out :: L) :=
  h.dup t rd_excl (rd_holds.2 ⟨(ed_holds.1 (h.has t)).row _ (en_mem hk), rfl⟩) (fun b hb => ed_foot.2 (.inr ⟨_, en_mem hk, rd_foot.1 hb⟩)) ed_excl
end
theorem ed_own {w : World} {L F : List Chunk} {f : EL} {e : TypeId} (tk : Takes [arr f.o f.l.length f.c e enC f.l, bag (f.l.map enM)] L F) (h : Mem w L) : Mem w (ed f :: F) := by
  have ht := h.takes tk
  have a1 := arr_holds.1 (ht.all _ (.head _))
  have a2 := bag_holds.1 (ht.all _ (.tail _ (.head _)))
  have hrow : ∀ r ∈ f.l, (enM r).holds w := fun r hr => a2.1.all _ (List.mem_map.2 ⟨r, hr, rfl⟩)
  refine Mem.toRead tk h (ed_holds.2 ⟨a1.1.row Enc.pos, fun r hr => (arr_holds.1 (hrow r hr)).1.row Enc.pos⟩) ed_excl (fun b hb => ?_)
  rcases ed_foot.1 hb with ⟨h1, h2⟩ | ⟨r, hr, h1, h2⟩
  · exact ⟨_, .head _, arr_foot.2 ⟨h1, Nat.lt_of_lt_of_le h2 a1.1.le⟩⟩
  · exact ⟨_, .tail _ (.head _), bag_foot.2 ⟨_, List.mem_map.2 ⟨r, hr, rfl⟩, arr_foot.2 ⟨h1, Nat.lt_of_lt_of_le h2 (arr_holds.1 (hrow r hr)).1.le⟩⟩⟩
abbrev WoL.el (r : WoL) : EL := ⟨r.eo, r.ec, r.ends⟩
abbrev WoL.fl (r : WoL) : FL := ⟨r.wo, r.wc, r.rows⟩
theorem wo_own {w : World} {L F : List Chunk} (r : WoL) (t : Takes r.mem L F) (h : Mem w L) : Mem w (ed r.el :: fd r.fl :: F) := by
  have h1 : Mem w (r.mem ++ F) := h.takes t
  have h2 := ed_own (f := r.el) (e := 56) (L := r.mem ++ F) (by exact .cons .head (.cons .head .nil)) h1
  have h3 := fd_own (f := r.fl) (t := 2) (e := 51) (by exact .cons (.tail .head) (.cons (.tail .head) .nil)) h2
  exact h3.takes (by exact .cons (.tail .head) (.cons .head .nil))
attribute [local irreducible] Run Cod End OpT Still RunQ RunS RunT Fn PutOk
set_option maxRecDepth 100000 in
set_option maxHeartbeats 2000000 in
theorem sameEnds_is (f g : EL) (h : f.l.map enOf = g.l.map enOf) : Fn Try.prog 26 #[f.val, g.val] [ed f, ed g] [] (σ := Unit) (fun _ => True) (fun _ => .bool true) (fun _ => []) := by
  have hl : g.l.length = f.l.length := by have := congrArg List.length h; simpa using this.symm
  have hr : ∀ k, enOf (g.l.getD k default) = enOf (f.l.getD k default) := fun k => by
    have h1 : (f.l.map enOf)[k]? = (g.l.map enOf)[k]? := by rw [h]
    simp only [List.getElem?_map] at h1
    simp only [List.getD_eq_getElem?_getD]
    cases ha : f.l[k]? <;> cases hb : g.l[k]? <;> simp [ha, hb] at h1 ⊢
    exact h1.symm
  refine Fn.enter (args := [f.val, g.val]) Try.func26 rfl _ Try.ntmps26 rfl (by simp [ed_excl]) (fun w S => ?_)
  (try conv => rhs; simp only [List.cons_append, List.nil_append])
  apply Cod.fact (f.l.length ≤ 9223372036854775807) (fun w hm => (ed_holds.1 (hm.has (c := ed f) (by (repeat (first | exact Take.head | apply Take.tail))))).out.2.1)
  intro hfs
  apply Cod.imp (fun w hm => Mem.edOut (f := f) (by (repeat (first | exact Take.head | apply Take.tail))) hm)
  apply Cod.imp (fun w hm => Mem.edOut (f := g) (by (repeat (first | exact Take.head | apply Take.tail))) hm)
  repeat (first | refine go (k := ?_) | (refine goB (k := ?_); intro b) | (refine goA (k := ?_); intro ao cap))
  refine Cod.only ((fun k => [old w S, ed f, ed g, rd f.o f.l.length f.c enC f.l, rd g.o g.l.length g.c enC g.l]) 0) (by (repeat (first | exact Takes.nil | exact Take.head | apply Take.tail | apply Takes.cons))) ?_
  apply Cod.loop (σ := Nat) (fun k => k ≤ f.l.length) (fun k => [(0, f.val), (1, g.val), (12, .int .i64 (f.l.length : Int)), (13, .int .i64 (k : Int))]) (fun k => [old w S, ed f, ed g, rd f.o f.l.length f.c enC f.l, rd g.o g.l.length g.c enC g.l]) (fun k => f.l.length - k) 0
  rotate_left
  exact sb
  exact tks
  intro k hk K1 hK1
  (try conv => rhs; simp only [List.cons_append, List.nil_append])
  rotate_left
  · exact Nat.zero_le _
  by_cases hkn : k < f.l.length
  · apply Cod.imp (fun w hm => Mem.edRow (f := f) (k := k) hkn (by (repeat (first | exact Take.head | apply Take.tail))) hm)
    apply Cod.imp (fun w hm => Mem.edRow (f := g) (k := k) (by omega) (by (repeat (first | exact Take.head | apply Take.tail))) hm)
    have hrk := hr k
    simp only [enOf, Prod.mk.injEq] at hrk
    obtain ⟨r1, r2, r3, r4⟩ := hrk
    repeat (first | refine go (k := ?_) | (refine goB (k := ?_); intro b) | (refine goA (k := ?_); intro ao cap))
    (first | (apply Run.op; exact rfl) | refine Run.yes_ (h := ?_)); refine OpT.call0_ (spec := same9_is ⟨(f.l.getD k default).oo, (f.l.getD k default).oc, (f.l.getD k default).out⟩ ⟨(g.l.getD k default).oo, (g.l.getD k default).oc, (g.l.getD k default).out⟩ r4.symm) (k := ?_); intro s hs; (try conv => rhs; simp only [List.cons_append, List.nil_append])
    repeat (first | refine go (k := ?_) | (refine goB (k := ?_); intro b) | (refine goA (k := ?_); intro ao cap))
    refine End.round0_ hK1 (k + 1) ?_ ?_
    · omega
    · omega
  · repeat (first | refine go (k := ?_) | (refine goB (k := ?_); intro b) | (refine goA (k := ?_); intro ao cap))
    (refine End.done1_ (()) (he := by (first | exact rfl | (refine congrArg (Value.int _) ?_; omega) | (refine congrArg (Value.int _) ?_; dsimp only; omega))) (hp := ?_))
    trivial
end Go.Proofs.Ytjehflelkpacfaa.Vw

/- yieldlaw9.alive's answer, in plain Lean. -/
namespace Go.Proofs.Ytjehflelkpacfaa.Vm
set_option linter.unusedVariables false
def al9 : List ImgM.Ins := [⟨1, 0, 7⟩, ⟨28, 0, 0⟩, ⟨25, 0, 0⟩]
def al9M : ImgM.Mdl := ⟨[], [⟨4, 0, [], 0, 0, al9⟩]⟩
end Go.Proofs.Ytjehflelkpacfaa.Vm

/- Worlds compared; yieldlaw10.alive, walked. -/
namespace Go.Proofs.Ytjehflelkpacfaa.Vw
open Go.RowKit Go.Proofs.Ytjehflelkpacfaa.Img
set_option linter.unusedVariables false
set_option linter.unusedSimpArgs false
attribute [local irreducible] Run Cod End OpT Still RunQ RunS RunT Fn PutOk
structure WoL.Eq (a b : WoL) : Prop where
  ends : a.ends.map enOf = b.ends.map enOf
  rows : a.rows.map (·.l) = b.rows.map (·.l)
  n : a.n = b.n
theorem WoL.Is.eq {a b : WoL} {c : Vm.Ma} (ha : a.Is c) (hb : b.Is c) : a.Eq b := ⟨ha.ends.trans hb.ends.symm, ha.rows.trans hb.rows.symm, ha.n.trans hb.n.symm⟩
set_option maxRecDepth 100000 in
set_option maxHeartbeats 2000000 in
theorem same10_is (r v : WoL) (h : r.Eq v) : Fn Try.prog 14 #[.agg r.cells.toArray, .agg v.cells.toArray] [ed r.el, fd r.fl, ed v.el, fd v.fl] [] (σ := Unit) (fun _ => True) (fun _ => .bool true) (fun _ => []) := by
  have hn := h.n
  refine Fn.enter (args := [.agg r.cells.toArray, .agg v.cells.toArray]) Try.func14 rfl _ Try.ntmps14 rfl (by simp [ed_excl, fd_excl]) (fun w S => ?_)
  (try conv => rhs; simp only [List.cons_append, List.nil_append])
  repeat (first | refine go (k := ?_) | (refine goB (k := ?_); intro b) | (refine goA (k := ?_); intro ao cap))
  ((first | (apply Run.op; exact rfl) | refine Run.yes_ (h := ?_)); refine OpT.call0_ (spec := sameEnds_is r.el v.el h.ends) (r := (fun w => Reads.any (by (repeat (first | exact Take.head | apply Take.tail))) ed_excl (Reads.any (by (repeat (first | exact Take.head | apply Take.tail))) ed_excl .nil))) (k := ?_); intro s hs; (try conv => rhs; simp only [List.cons_append, List.nil_append]))
  repeat (first | refine go (k := ?_) | (refine goB (k := ?_); intro b) | (refine goA (k := ?_); intro ao cap))
  ((first | (apply Run.op; exact rfl) | refine Run.yes_ (h := ?_)); refine OpT.call0_ (spec := sameAll_is r.fl v.fl h.rows) (r := (fun w => Reads.any (by (repeat (first | exact Take.head | apply Take.tail))) fd_excl (Reads.any (by (repeat (first | exact Take.head | apply Take.tail))) fd_excl .nil))) (k := ?_); intro s hs; (try conv => rhs; simp only [List.cons_append, List.nil_append]))
  repeat (first | refine go (k := ?_) | (refine goB (k := ?_); intro b) | (refine goA (k := ?_); intro ao cap))
  (refine End.done1_ (()) (he := by (first | exact rfl | (refine congrArg (Value.int _) ?_; omega) | (refine congrArg (Value.int _) ?_; dsimp only; omega))) (hp := ?_))
  trivial
theorem al9_in' : ∀ i ∈ Vm.al9, ImgM.In64 i.op ∧ ImgM.In64 i.a ∧ ImgM.In64 i.n := by
  intro i hi
  simp [Vm.al9] at hi
  rcases hi with rfl | rfl | rfl <;> simp [ImgM.In64]
theorem al10_run : Vm.wrong Vm.al9M 1 = 0 := by
  have h : Ver.verify Vm.al9M = .ok := by kernel_rfl
  unfold Vm.wrong
  rw [h]; rfl
theorem al10_ds : (Vm.picks Vm.al9M false [(0, 2)] (Vm.Ma.init Vm.al9M)).1 = [(0, 2)] := by kernel_rfl
theorem al10_ts : ((Vm.picks Vm.al9M false [(0, 2)] (Vm.Ma.init Vm.al9M)).2.looked Vm.al9M).ts.map tkOf = [(1, 0, 0, [7])] := by kernel_rfl
attribute [local irreducible] Ver.verify Vm.wrong Vm.picks
set_option maxRecDepth 100000 in
theorem alive10_is : Fn Try.prog 12 #[] [] [] (σ := Unit) (fun _ => True) (fun _ => .bool true) (fun _ => []) := by
  refine Fn.enter (args := []) Try.func12 rfl _ Try.ntmps12 rfl (by simp [rd_excl, md_excl]) (fun w S => ?_)
  (try conv => rhs; simp only [List.cons_append, List.nil_append])
  repeat (first | refine go (k := ?_) | (refine goB (k := ?_); intro b) | (refine goA (k := ?_); intro ao cap))
  obtain ⟨pb, rfl⟩ : ∃ x, x = b := ⟨_, rfl⟩
  obtain ⟨mb, rfl⟩ : ∃ x, x = b := ⟨_, rfl⟩
  obtain ⟨ub, rfl⟩ : ∃ x, x = b := ⟨_, rfl⟩
  obtain ⟨cb, rfl⟩ : ∃ x, x = b := ⟨_, rfl⟩
  apply Run.imp' (fun w hm => Mem.toArr (b := pb) (e := 37) (f := pkC) (n := 1) hm (by (repeat (first | exact Take.head | apply Take.tail))) [(0, 2)] rfl rfl (by unfold maxLen; simp))
  apply Run.imp' (fun w hm => Mem.toArr (b := ub) (e := 68) (f := ucell) (n := 1) hm (by (repeat (first | exact Take.head | apply Take.tail))) [taskU cb Vm.al9] rfl rfl (by unfold maxLen; simp))
  apply Run.imp' (fun w hm => Mem.toArr (b := cb) (e := 64) (f := insC) (n := 3) hm (by (repeat (first | exact Take.head | apply Take.tail))) Vm.al9 rfl rfl (by unfold maxLen; simp))
  apply Run.imp' (fun w hm => taskM_mem (cb, ub) Vm.al9 (by (repeat (first | exact Takes.nil | exact Take.head | apply Take.tail | apply Takes.cons))) hm)
  have hsp := run_is (taskM (cb, ub) Vm.al9) (taskM_wf _ _ al9_in') ⟨some ⟨pb, 0, none⟩, 1, [(0, 2)]⟩
  have he : Vm.wrong (taskM (cb, ub) Vm.al9).mdl (PkL.l ⟨some ⟨pb, 0, none⟩, 1, [(0, 2)]⟩).length = 0 := al10_run
  have he' : Vm.wrong (taskM (cb, ub) Vm.al9).mdl ([(0, 2)] : List (Int × Int)).length = 0 := al10_run
  rw [he] at hsp
  ((first | (apply Run.op; exact rfl) | refine Run.yes_ (h := ?_)); refine OpT.call0_ (spec := hsp) (r := (fun w => Reads.md (by (repeat (first | exact Take.head | apply Take.tail))) (Reads.arr (by (repeat (first | exact Take.head | apply Take.tail))) .nil))) (k := ?_); intro s hs; (try conv => rhs; simp only [List.cons_append, List.nil_append]))
  obtain ⟨r, rfl⟩ : ∃ x, x = s := ⟨_, rfl⟩
  unfold RunIs at hs
  rw [if_pos he'] at hs
  have h1 : r.l = [(0, 2)] := hs.l.trans al10_ds
  have h2 : r.w.ends.map enOf = [(1, 0, 0, [7])] := hs.w.ends.trans al10_ts
  have h3 : r.l.length = 1 := by rw [h1]; rfl
  have h4 : r.w.ends.length = 1 := by have := congrArg List.length h2; simpa using this
  have h5 : r.l.getD 0 default = (0, 2) := by rw [h1]; rfl
  have h6 : enOf (r.w.ends.getD 0 default) = (1, 0, 0, [7]) := by
    have h : (r.w.ends.map enOf)[0]? = some (1, 0, 0, [7]) := by rw [h2]; rfl
    rw [List.getElem?_map] at h
    rw [List.getD_eq_getElem?_getD]
    cases hx : r.w.ends[0]? with
    | none => rw [hx] at h; cases h
    | some x => rw [hx] at h; simpa using h
  clear hs h1 h2
  have h52 : (r.l.getD 0 default).2 = 2 := by rw [h5]
  simp only [enOf, Prod.mk.injEq] at h6
  obtain ⟨k1, k2, k3, k4⟩ := h6
  have k5 : (r.w.ends.getD 0 default).out.length = 1 := by rw [k4]; rfl
  repeat (first | refine go (k := ?_) | (refine goB (k := ?_); intro b) | (refine goA (k := ?_); intro ao cap))
  (refine Run.yes_ (h := ?_); refine OpT.val_ (h := by (apply Still.at_; exact rfl; exact rfl; (first | (apply Rdb.arr; focus ((repeat (first | exact Take.head | apply Take.tail)); done)) | (apply Rdb.rd; focus ((repeat (first | exact Take.head | apply Take.tail)); done)) | (apply Rdb.md_units; focus ((repeat (first | exact Take.head | apply Take.tail)); done)) | (apply Rdb.md_boxes; focus ((repeat (first | exact Take.head | apply Take.tail)); done)) | (apply Rdb.md_code; (focus ((repeat (first | exact Take.head | apply Take.tail)); done)); (focus (first | assumption | omega))) | (apply Rdb.md_locals; (focus ((repeat (first | exact Take.head | apply Take.tail)); done)); (focus (first | assumption | omega))) | (apply Rdb.old; (focus assumption); (focus ((repeat (first | exact Take.head | apply Take.tail)); done)))); exact rfl; exact rfl; exact rfl; exact ix_zero; omega)) (k := ?_))
  repeat (first | refine go (k := ?_) | (refine goB (k := ?_); intro b) | (refine goA (k := ?_); intro ao cap))
  (refine Run.yes_ (h := ?_); refine OpT.val_ (h := by (apply Still.at_; exact rfl; exact rfl; (first | (apply Rdb.arr; focus ((repeat (first | exact Take.head | apply Take.tail)); done)) | (apply Rdb.rd; focus ((repeat (first | exact Take.head | apply Take.tail)); done)) | (apply Rdb.md_units; focus ((repeat (first | exact Take.head | apply Take.tail)); done)) | (apply Rdb.md_boxes; focus ((repeat (first | exact Take.head | apply Take.tail)); done)) | (apply Rdb.md_code; (focus ((repeat (first | exact Take.head | apply Take.tail)); done)); (focus (first | assumption | omega))) | (apply Rdb.md_locals; (focus ((repeat (first | exact Take.head | apply Take.tail)); done)); (focus (first | assumption | omega))) | (apply Rdb.old; (focus assumption); (focus ((repeat (first | exact Take.head | apply Take.tail)); done)))); exact rfl; exact rfl; exact rfl; exact ix_zero; omega)) (k := ?_))
  repeat (first | refine go (k := ?_) | (refine goB (k := ?_); intro b) | (refine goA (k := ?_); intro ao cap))
  (refine Run.yes_ (h := ?_); refine OpT.val_ (h := by (apply Still.at_; exact rfl; exact rfl; (first | (apply Rdb.arr; focus ((repeat (first | exact Take.head | apply Take.tail)); done)) | (apply Rdb.rd; focus ((repeat (first | exact Take.head | apply Take.tail)); done)) | (apply Rdb.md_units; focus ((repeat (first | exact Take.head | apply Take.tail)); done)) | (apply Rdb.md_boxes; focus ((repeat (first | exact Take.head | apply Take.tail)); done)) | (apply Rdb.md_code; (focus ((repeat (first | exact Take.head | apply Take.tail)); done)); (focus (first | assumption | omega))) | (apply Rdb.md_locals; (focus ((repeat (first | exact Take.head | apply Take.tail)); done)); (focus (first | assumption | omega))) | (apply Rdb.old; (focus assumption); (focus ((repeat (first | exact Take.head | apply Take.tail)); done)))); exact rfl; exact rfl; exact rfl; exact ix_zero; omega)) (k := ?_))
  repeat (first | refine go (k := ?_) | (refine goB (k := ?_); intro b) | (refine goA (k := ?_); intro ao cap))
  (refine End.done1_ (()) (he := by exact bool_eq (decide_eq_true (by rw [k5]; rfl))) (hp := ?_))
  trivial
end Go.Proofs.Ytjehflelkpacfaa.Vw

/- What picks do: counted; long ones; such as are refused. Plain Lean. -/
namespace Go.Proofs.Ytjehflelkpacfaa.Vm
open ImgM
set_option linter.unusedVariables false
variable {M : Mdl} {told : Bool}
/-- a pick counts its steps -/
structure Cnt (n : Nat) (q : Int) (e : Int × Nat) (n' : Nat) : Prop where
  sum : n' = n + e.2
  ok : e.1 = 0 → 1 ≤ e.2 ∧ (e.2 : Int) ≤ q
  no : e.1 ≠ 0 → e.2 = 0
theorem pick_cnt (c : Ma) (p : Int × Int) : Cnt c.n p.2 (pick M told c p).1 (pick M told c p).2.n := by
  unfold pick
  by_cases h1 : p.1 < 0 ∨ (c.ts.length : Int) ≤ p.1
  · rw [if_pos h1]; exact ⟨rfl, (fun h => by cases h), fun _ => rfl⟩
  · rw [if_neg h1]
    refine ⟨rfl, ?_, ?_⟩
    all_goals
      dsimp only
      unfold pick1
      by_cases h2 : p.2 < 1 ∨ 10000 < p.2
      · rw [if_pos h2]; simp
      rw [if_neg h2]
      by_cases h3 : (look (bxs M (tOf told p.1.toNat)) M (c.at_ p.1.toNat)).1.st ≠ 1
      · rw [if_pos h3]; simp
      rw [if_neg h3]
      have hle := goN_le (V := bxs M (tOf told p.1.toNat)) (M := M) (min p.2.toNat (20000 - c.n)) (look (bxs M (tOf told p.1.toNat)) M (c.at_ p.1.toNat))
      by_cases h4 : (goN (bxs M (tOf told p.1.toNat)) M (min p.2.toNat (20000 - c.n)) (look (bxs M (tOf told p.1.toNat)) M (c.at_ p.1.toNat))).1 = 0
      · rw [if_pos h4]; simp
      · rw [if_neg h4]
        dsimp only
        intro h
        omega
/-- alike but for what is seen anew -/
structure Rel (c c' : Ma) : Prop where
  bs : c.bs = c'.bs
  n : c.n = c'.n
  len : c.ts.length = c'.ts.length
  ts : ∀ k, k < c.ts.length → Alk (c.ts.getD k default) (c'.ts.getD k default)
theorem Rel.refl (c : Ma) : Rel c c := ⟨rfl, rfl, rfl, fun k _ => .inl rfl⟩
theorem Rel.looked {c c' : Ma} (h : Rel c c') : c.looked M = c'.looked M := by
  obtain ⟨ts, bs, n⟩ := c
  obtain ⟨ts', bs', n'⟩ := c'
  obtain ⟨h1, h2, h3, h4⟩ := h
  dsimp only at h1 h2 h3 h4
  subst h1 h2
  unfold Ma.looked
  simp only [Ma.mk.injEq, and_true]
  refine List.ext_getElem (by simpa using h3) fun j g1 g2 => ?_
  simp only [List.length_map] at g1 g2
  have := h4 j g1
  rw [List.getD_eq_getElem?_getD, List.getD_eq_getElem?_getD, List.getElem?_eq_getElem g1, List.getElem?_eq_getElem g2, Option.getD_some, Option.getD_some] at this
  simp only [List.getElem_map]
  rw [look_alk _ M this]
theorem look_back {ν : Type} (V : Env ν) (r : Tk × ν) : Alk (look V M r).1 r.1 := by
  have key : r.1.st ≤ 3 → ∀ a b : Int, a ≤ 3 → Alk { r.1 with st := a, bx := b } r.1 := fun h a b ha => .inr ⟨ha, r.1.st, r.1.bx, h, rfl⟩
  unfold look waits
  by_cases h3 : r.1.st ≤ 3
  · rw [if_pos h3]
    split
    · exact key h3 _ _ (by decide)
    · split
      · exact key h3 _ _ (by decide)
      · exact key h3 _ _ (by decide)
  · rw [if_neg h3]; exact .inl rfl
theorem Alk.trans' {a b c : Tk} (h : Alk a b) (k : Alk b c) : Alk a c := by
  rcases h with rfl | ⟨h1, x, y, h2, rfl⟩
  · exact k
  · rcases k with rfl | ⟨k1, u, v, k2, rfl⟩
    · exact .inr ⟨h1, x, y, h2, rfl⟩
    · exact .inr ⟨h1, u, v, k2, rfl⟩
theorem getD_set {l : List Tk} {j k : Nat} {t : Tk} (hj : j < l.length) : (l.set j t).getD k default = if j = k then t else l.getD k default := by
  simp only [List.getD_eq_getElem?_getD, List.getElem?_set]
  by_cases h : j = k
  · subst h; rw [if_pos rfl, if_pos hj, if_pos rfl]; rfl
  · rw [if_neg h, if_neg h]
/-- what a refused pick leaves -/
theorem pick1_no {ν : Type} {V : Env ν} {n : Nat} {q : Int} {r : Tk × ν} (h : (pick1 V M n q r).1.1 ≠ 0) : (pick1 V M n q r).1.2 = 0 ∧ (pick1 V M n q r).2.2 = r.2 ∧ Alk (pick1 V M n q r).2.1 r.1 := by
  unfold pick1 at h ⊢
  by_cases h2 : q < 1 ∨ 10000 < q
  · rw [if_pos h2]; exact ⟨rfl, rfl, .inl rfl⟩
  rw [if_neg h2] at h ⊢
  by_cases h3 : (look V M r).1.st ≠ 1
  · rw [if_pos h3]; exact ⟨rfl, look_snd V M r, look_back V r⟩
  rw [if_neg h3] at h ⊢
  have h3 := Classical.not_not.1 h3
  have hz : (goN V M (min q.toNat (20000 - n)) (look V M r)).1 = 0 → (goN V M (min q.toNat (20000 - n)) (look V M r)).2 = look V M r := fun h0 => by
    cases hm : min q.toNat (20000 - n) with
    | zero => rfl
    | succ k =>
      rw [hm] at h0
      unfold goN at h0
      rw [step_yes V M (by rw [look_look]; exact h3), if_pos rfl] at h0
      simp at h0
  by_cases h4 : (goN V M (min q.toNat (20000 - n)) (look V M r)).1 = 0
  · rw [if_pos h4, hz h4]; exact ⟨rfl, look_snd V M r, look_back V r⟩
  · rw [if_neg h4] at h; exact absurd rfl h
theorem Rel.no {c c' : Ma} (h : Rel c c') {p : Int × Int} (hp : (pick M told c p).1.1 ≠ 0) : Rel (pick M told c p).2 c' := by
  unfold pick at hp ⊢
  by_cases h1 : p.1 < 0 ∨ (c.ts.length : Int) ≤ p.1
  · rw [if_pos h1]; exact h
  · rw [if_neg h1] at hp ⊢
    obtain ⟨g1, g2, g3⟩ := pick1_no hp
    have hk : p.1.toNat < c.ts.length := by omega
    refine ⟨?_, ?_, ?_, fun k hk' => ?_⟩
    · dsimp only; rw [g2]; exact h.bs
    · dsimp only; rw [g1]; exact h.n
    · dsimp only; rw [List.length_set]; exact h.len
    · dsimp only at hk' ⊢
      rw [List.length_set] at hk'
      rw [getD_set hk]
      by_cases e : p.1.toNat = k
      · subst e; rw [if_pos rfl]; exact g3.trans' (h.ts _ hk')
      · rw [if_neg e]; exact h.ts k hk'
theorem pick1_alk {ν : Type} {V : Env ν} {n : Nat} {q : Int} {t t' : Tk} {s : ν} (h : Alk t t') (hp : (pick1 V M n q (t, s)).1.1 = 0) : pick1 V M n q (t', s) = pick1 V M n q (t, s) := by
  unfold pick1 at hp ⊢
  by_cases h2 : q < 1 ∨ 10000 < q
  · rw [if_pos h2] at hp; cases hp
  · rw [if_neg h2, if_neg h2, look_alk V M h]
theorem Rel.ok {c c' : Ma} (h : Rel c c') {p : Int × Int} (hp : (pick M told c p).1.1 = 0) : (pick M told c' p).1 = (pick M told c p).1 ∧ Rel (pick M told c p).2 (pick M told c' p).2 := by
  unfold pick at hp ⊢
  by_cases h1 : p.1 < 0 ∨ (c.ts.length : Int) ≤ p.1
  · rw [if_pos h1] at hp; cases hp
  · rw [if_neg h1] at hp ⊢
    rw [if_neg (by rw [← h.len]; exact h1)]
    have hk : p.1.toNat < c.ts.length := by omega
    have hk2 : p.1.toNat < c'.ts.length := by rw [← h.len]; exact hk
    have e : pick1 (bxs M (tOf told p.1.toNat)) M c'.n p.2 (c'.at_ p.1.toNat) = pick1 (bxs M (tOf told p.1.toNat)) M c.n p.2 (c.at_ p.1.toNat) := by
      unfold Ma.at_ at hp ⊢
      rw [← h.bs, ← h.n]
      exact pick1_alk (h.ts _ hk) hp
    dsimp only
    rw [e]
    refine ⟨rfl, rfl, by dsimp only; rw [h.n], by simp only [List.length_set]; exact h.len, fun k hk' => ?_⟩
    dsimp only at hk' ⊢
    rw [List.length_set] at hk'
    rw [getD_set hk, getD_set hk2]
    by_cases e : p.1.toNat = k
    · rw [if_pos e, if_pos e]; exact .inl rfl
    · rw [if_neg e, if_neg e]; exact h.ts k hk'
/-- the picks that were done -/
def goods (l : List (Int × Int)) (d : List (Int × Nat)) : List (Int × Int) := ((l.zip d).filter fun x => decide (x.2.1 = 0)).map (·.1)
theorem goods_cons (p : Int × Int) (x : Int × Nat) (l : List (Int × Int)) (d : List (Int × Nat)) : goods (p :: l) (x :: d) = if x.1 = 0 then p :: goods l d else goods l d := by
  unfold goods
  rw [List.zip_cons_cons, List.filter_cons]
  by_cases h : x.1 = 0
  · rw [if_pos (by simpa using h), if_pos h]; rfl
  · rw [if_neg (by simpa using h), if_neg h]
theorem picks_good : ∀ (l : List (Int × Int)) {c c' : Ma}, Rel c c' → Rel (picks M told l c).2 (picks M told (goods l (picks M told l c).1) c').2
  | [], c, c', h => h
  | p :: l, c, c', h => by
    simp only [picks]
    rw [goods_cons]
    by_cases hp : (pick M told c p).1.1 = 0
    · rw [if_pos hp]
      simp only [picks]
      exact picks_good l (h.ok hp).2
    · rw [if_neg hp]
      exact picks_good l (h.no hp)
theorem goods_len (l : List (Int × Int)) (d : List (Int × Nat)) : (goods l d).length ≤ l.length := by
  unfold goods
  rw [List.length_map]
  refine Nat.le_trans (List.length_filter_le _ _) ?_
  rw [List.length_zip]; omega
end Go.Proofs.Ytjehflelkpacfaa.Vm

/- How the arguments' data are read: a slice's cells out of its reading ('read_slice'); what a law owes at its end ('law_post'). Of whatever program. -/
namespace Go.Proofs.Ytjehflelkpacfaa
open Go.RowKit Go.ChangeShapes Go.WideShapes Go.ChangeAt
set_option linter.unusedVariables false

section
variable {H : Type} {enc : TypeId × Value → H} {P : Program} {w : World}

abbrev Trd (enc : TypeId × Value → H) (P : Program) (w : World) (fuel : Nat) (t : TypeId) (cs : List Value) (x : DataW H × List MemPlace) : Prop :=
  DataW.trod enc P w 0 (fun _ => true) true fuel t cs = some x

/-- every weight of a datum is within the reach -/
def Fits (P : Program) (t : TypeId) (d : DataW H) : Prop := ∀ n ∈ d.weights P t, n ≤ reachBytes

theorem fits_all {e : TypeId} : ∀ {l : List (DataW H)}, (∀ n ∈ DataW.weightsAll P e l, n ≤ reachBytes) → ∀ d ∈ l, Fits P e d
  | [], _, d, hd => by cases hd
  | x :: r, h, d, hd => by
    simp only [DataW.weightsAll, List.mem_append] at h
    rcases List.mem_cons.1 hd with rfl | hd
    · exact fun n hn => h n (.inl hn)
    · exact fits_all (fun n hn => h n (.inr hn)) d hd

theorem fits_each {ts : List TypeId} {ds : List (DataW H)} (h : ∀ n ∈ DataW.weightsEach P ts ds, n ≤ reachBytes) {j : Nat} {t : TypeId} {d : DataW H} (ht : ts[j]? = some t) (hd : ds[j]? = some d) : Fits P t d :=
  fun n hn => h n (DataW.weights_mem_each ht hd n hn)

/-- A SLICE, READ: its elements' cells are those of a list, if each element's are those of a thing. -/
theorem read_slice {α : Type} [Inhabited α] {t e : TypeId} {size : Nat} (f : α → List Value) (Q : α → Prop) (ht : P.underlying t = some (.slice e)) (hc : P.cellsOf e = size) (hs : 0 < size)
    (hel : ∀ fuel cs x, Trd enc P w fuel e cs x → Fits P e x.1 → cs.length = size → ∃ a, cs = f a ∧ Q a)
    {fuel : Nat} {cs : List Value} {x : DataW H × List MemPlace} (h : Trd enc P w fuel t cs x) (hf : Fits P t x.1) :
    ∃ (v : Value) (l : List α), cs = [v] ∧ Row w v size l.length (l.flatMap f) ∧ (∀ a ∈ l, Q a) ∧ l.length * P.bytesOf e ≤ reachBytes ∧ (∀ b, v.ownBlock = some b → 0 < l.length → b < w.heap.size) := by
  rcases Deep.open_slice ht h with ⟨rfl, rfl⟩ | ⟨a, len, cap, m, n, D, Pl, rfl, hb, hl, hm, hmm, rfl, hx⟩
  · exact ⟨_, [], rfl, ⟨by simp, Nat.zero_le _, none, 0, rfl, Nat.le_refl _, fun h => by simp at h⟩, by simp, by simp, fun b h => by cases h⟩
  · simp only [if_true] at hmm
    subst hmm
    have hw := hf
    simp only [Fits, DataW.weights, ht, List.mem_cons, List.mem_append] at hw
    have hel' : ∀ i, i < len → ∃ y : α, (∀ j, j < size → w.cell? (a.add (i * size + j)) = (f y)[j]?) ∧ (f y).length = size ∧ Q y := by
      intro i hi
      obtain ⟨cs', h1, h2⟩ := hx i (by omega)
      rw [hc] at h1
      obtain ⟨-, h3, h4⟩ := World.cells?_some h1
      obtain ⟨y, rfl, hq⟩ := hel n cs' (D i, Pl i) h2 (fits_all (fun n hn => hw n (.inr (.inl hn))) (D i) (List.mem_map.2 ⟨i, by simpa using hi, rfl⟩)) h3
      refine ⟨y, fun j hj => ?_, h3, hq⟩
      rw [← Deep.add_add]
      exact h4 j hj
    obtain ⟨F, hF⟩ := Deep.choose_lt hel'
    refine ⟨_, (List.range len).map F, rfl, ?_, ?_, ?_, ?_⟩
    · have hlen : ∀ m, m ≤ len → (((List.range m).map F).flatMap f).length = m * size := by
        intro m hm
        induction m with
        | zero => simp
        | succ m ih =>
          rw [List.range_succ, List.map_append, List.flatMap_append, List.length_append, ih (by omega)]
          simp [(hF m (by omega)).2.1, Nat.add_mul]
      have hget : ∀ m, m ≤ len → ∀ j, j < m * size → w.cell? (a.add j) = (((List.range m).map F).flatMap f)[j]? := by
        intro m hm
        induction m with
        | zero => intro j hj; simp at hj
        | succ m ih =>
          intro j hj
          rw [List.range_succ, List.map_append, List.flatMap_append]
          by_cases hjm : j < m * size
          · rw [List.getElem?_append_left (by rw [hlen m (by omega)]; exact hjm)]
            exact ih (by omega) j hjm
          · rw [List.getElem?_append_right (by rw [hlen m (by omega)]; omega), hlen m (by omega)]
            have := (hF m (by omega)).1 (j - m * size) (by rw [Nat.add_mul] at hj; omega)
            rw [show m * size + (j - m * size) = j by omega] at this
            simpa using this
      refine ⟨by simp only [List.length_map, List.length_range]; exact hlen len (Nat.le_refl _), by simp; omega, some a, m, by simp, by simpa using hl, fun hpos => ?_⟩
      simp only [List.length_map, List.length_range] at hpos ⊢
      have h0 := hget len (Nat.le_refl _) 0 (Nat.mul_pos hpos hs)
      have hsome : (w.cell? (a.add 0)).isSome = true := by
        rw [h0, List.getElem?_eq_getElem (by rw [hlen len (Nat.le_refl _)]; exact Nat.mul_pos hpos hs)]; rfl
      obtain ⟨b, off, spot⟩ := a
      have hspot : spot = none := by
        cases spot with
        | none => rfl
        | some s =>
          unfold World.cell? Addr.add at hsome
          split at hsome <;> simp_all
      subst hspot
      exact ⟨b, off, rfl, fun j hj => by rw [← Addr.add_lit]; exact hget len (Nat.le_refl _) j hj⟩
    · intro y hy
      obtain ⟨i, hi, rfl⟩ := List.mem_map.1 hy
      exact (hF i (by simpa using hi)).2.2
    · have := hw _ (.inl rfl)
      simp only [List.length_map, List.length_range] at this ⊢
      refine Nat.le_trans (Nat.mul_le_mul_right _ ?_) this
      omega
    · intro b hb' hpos
      simp only [List.length_map, List.length_range] at hpos
      simp [Value.ownBlock] at hb'
      subst hb'
      obtain ⟨y, hy1, hy2, -⟩ := hel' 0 hpos
      have := hy1 0 hs
      rw [List.getElem?_eq_getElem (by omega)] at this
      have hlt := World.block_lt_of_cell? w _ this
      have e1 : (a.add (0 * size + 0)).block = a.block := by unfold Addr.add; split <;> rfl
      rwa [e1] at hlt

theorem wf_i64 {n : Int} (h : (Lit.int .i64 n).wf = true) : -9223372036854775808 ≤ n ∧ n ≤ 9223372036854775807 := by
  simpa [Lit.wf, IntKind.min, IntKind.max, IntKind.signed, IntKind.bits] using h
/-- what a law owes at its end: true, and nothing of old memory has turned -/
theorem law_post {f : Func} {s : ChangeSpec} {W W' : World} {args : Array Value} {ds gs : List (DataW H)} {before : List MemPlace} {tb : TypeId}
    (hl : laidOutB P = true) (hr : ∀ t ∈ f.params.toList, P.readableRec t = true ∧ t < P.types.size) (hrt : f.resultTypes = #[tb]) (htb : P.underlying tb = some .bool) (hsv : s.vars = [])
    (hW : DataW.Whole enc P f.params.toList s.vars false W args.toList ds gs before) (hfn : (s.fn H (ds ++ gs)) = { results := [.lit (.bool true)], args := ds }) (hb : Below W.heap.size W W') :
    s.post enc P f false true false false W args (.bool true) W' := by
  have hlt := hW.lt
  have hW0 := hW
  obtain ⟨p, q, hA, hV, rfl, hfz, hnd⟩ := hW
  rw [hsv] at hV
  obtain ⟨rfl, rfl⟩ := trodVars_none hV
  have key : ∀ (ts : List TypeId) (vs : List Value) (ds : List (DataW H)) (p : List MemPlace), (∀ t ∈ ts, P.readableRec t = true ∧ t < P.types.size) → (∀ x ∈ p, x.block < W.heap.size) →
      DataW.TrodAll enc P W 0 (fun _ => true) true ts vs ds p → DataW.TrodAll enc P W' 0 (fun b => decide (b < W.heap.size)) true ts vs ds p := by
    intro ts
    induction ts with
    | nil => intro vs ds p _ _ h; cases vs <;> cases ds <;> simp_all [DataW.TrodAll]
    | cons t ts ih =>
      intro vs ds p h1 h2 h
      cases vs with
      | nil => simp [DataW.TrodAll] at h
      | cons v vs =>
        cases ds with
        | nil => simp [DataW.TrodAll] at h
        | cons d ds =>
          obtain ⟨p1, p2, h3, h4, rfl⟩ := h
          have ht := h1 t (by simp)
          exact ⟨p1, p2, Below.trod hl ht.1 ht.2 h3 hb (fun x hx => h2 x (by simp [hx])), ih vs ds p2 (fun t ht => h1 t (by simp [ht])) (fun x hx => h2 x (by simp [hx])) h4, rfl⟩
  refine ⟨ds, [], _, [], p, [], hW0, ?_, ?_, ?_, hb.frame _, fun h => by cases h⟩
  · rw [hfn, hrt]
    exact trodAll_mk1 (shut_bool htb true)
  · rw [hfn]
    exact key _ _ _ _ hr (fun x hx => hlt x (by simp [hx])) hA
  · rw [hfn, hsv]
    rfl
end
end Go.Proofs.Ytjehflelkpacfaa
