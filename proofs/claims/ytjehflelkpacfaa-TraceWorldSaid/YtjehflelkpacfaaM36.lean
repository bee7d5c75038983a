/- Worlds compared; yieldlaw10.alive, walked. -/
import Derived.Test.YtjehflelkpacfaaM35
import Derived.ProofKit
import Derived.OpenShut
import Derived.JoinedCond
import Derived.SizedLaws
import Derived.Deep.Slices
import Derived.Carry
import Derived.Test.YtjehflelkpacfaaRows
import Derived.Deep.Strs
import Derived.ChangeSame
import Derived.Lib.SmallJoins
namespace Go.Proofs.Ytjehflelkpacfaa.Vw
open Go.RowKit Go.Proofs.Ytjehflelkpacfaa.Img
set_option linter.unusedVariables false
set_option linter.unusedSimpArgs false
attribute [local irreducible] Run Cod End OpT Still RunQ RunS RunT Fn PutOk
structure WoL.Eq (a b : WoL) : Prop where
  ends : a.ends.map enOf = b.ends.map enOf
  rows : a.rows.map (·.l) = b.rows.map (·.l)
  n : a.n = b.n
theorem WoL.Is.eq {a b : WoL} {c : Vm.Ma} (ha : a.Is c) (hb : b.Is c) : a.Eq b := ⟨ha.ends.trans hb.ends.symm, ha.rows.trans hb.rows.symm, ha.n.trans hb.n.symm⟩
theorem al9_in' : ∀ i ∈ Vm.al9, ImgM.In64 i.op ∧ ImgM.In64 i.a ∧ ImgM.In64 i.n := by
  intro i hi
  simp [Vm.al9] at hi
  rcases hi with rfl | rfl | rfl <;> simp [ImgM.In64]
theorem al10_run : Vm.wrong Vm.al9M 1 = 0 := by
  have h : Ver.verify Vm.al9M = .ok := by kernel_rfl
  unfold Vm.wrong
  rw [h]; rfl
theorem al10_ds : (Vm.picks Vm.al9M false [(0, 2)] (Vm.Ma.init Vm.al9M)).1 = [(0, 2)] := by kernel_rfl
theorem al10_ts : ((Vm.picks Vm.al9M false [(0, 2)] (Vm.Ma.init Vm.al9M)).2.looked Vm.al9M).ts.map tkOf = [(1, 0, 0, [7])] := by kernel_rfl
attribute [local irreducible] Ver.verify Vm.wrong Vm.picks
set_option maxRecDepth 100000 in
theorem alive10_is : Fn Try.prog 12 #[] [] [] (σ := Unit) (fun _ => True) (fun _ => .bool true) (fun _ => []) := by
  refine Fn.enter (args := []) Try.func12 rfl _ Try.ntmps12 rfl (by simp [rd_excl, md_excl]) (fun w S => ?_)
  (try conv => rhs; simp only [List.cons_append, List.nil_append])
  repeat (first | refine go (k := ?_) | (refine goB (k := ?_); intro b) | (refine goA (k := ?_); intro ao cap))
  obtain ⟨pb, rfl⟩ : ∃ x, x = b := ⟨_, rfl⟩
  obtain ⟨mb, rfl⟩ : ∃ x, x = b := ⟨_, rfl⟩
  obtain ⟨ub, rfl⟩ : ∃ x, x = b := ⟨_, rfl⟩
  obtain ⟨cb, rfl⟩ : ∃ x, x = b := ⟨_, rfl⟩
  apply Run.imp' (fun w hm => Mem.toArr (b := pb) (e := 37) (f := pkC) (n := 1) hm (by (repeat (first | exact Take.head | apply Take.tail))) [(0, 2)] rfl rfl (by unfold maxLen; simp))
  apply Run.imp' (fun w hm => Mem.toArr (b := ub) (e := 68) (f := ucell) (n := 1) hm (by (repeat (first | exact Take.head | apply Take.tail))) [taskU cb Vm.al9] rfl rfl (by unfold maxLen; simp))
  apply Run.imp' (fun w hm => Mem.toArr (b := cb) (e := 64) (f := insC) (n := 3) hm (by (repeat (first | exact Take.head | apply Take.tail))) Vm.al9 rfl rfl (by unfold maxLen; simp))
  apply Run.imp' (fun w hm => taskM_mem (cb, ub) Vm.al9 (by (repeat (first | exact Takes.nil | exact Take.head | apply Take.tail | apply Takes.cons))) hm)
  have hsp := run_is (taskM (cb, ub) Vm.al9) (taskM_wf _ _ al9_in') ⟨some ⟨pb, 0, none⟩, 1, [(0, 2)]⟩
  have he : Vm.wrong (taskM (cb, ub) Vm.al9).mdl (PkL.l ⟨some ⟨pb, 0, none⟩, 1, [(0, 2)]⟩).length = 0 := al10_run
  have he' : Vm.wrong (taskM (cb, ub) Vm.al9).mdl ([(0, 2)] : List (Int × Int)).length = 0 := al10_run
  rw [he] at hsp
  ((first | (apply Run.op; exact rfl) | refine Run.yes_ (h := ?_)); refine OpT.call0_ (spec := hsp) (r := (fun w => Reads.md (by (repeat (first | exact Take.head | apply Take.tail))) (Reads.arr (by (repeat (first | exact Take.head | apply Take.tail))) .nil))) (k := ?_); intro s hs; (try conv => rhs; simp only [List.cons_append, List.nil_append]))
  obtain ⟨r, rfl⟩ : ∃ x, x = s := ⟨_, rfl⟩
  unfold RunIs at hs
  rw [if_pos he'] at hs
  have h1 : r.l = [(0, 2)] := hs.l.trans al10_ds
  have h2 : r.w.ends.map enOf = [(1, 0, 0, [7])] := hs.w.ends.trans al10_ts
  have h3 : r.l.length = 1 := by rw [h1]; rfl
  have h4 : r.w.ends.length = 1 := by have := congrArg List.length h2; simpa using this
  have h5 : r.l.getD 0 default = (0, 2) := by rw [h1]; rfl
  have h6 : enOf (r.w.ends.getD 0 default) = (1, 0, 0, [7]) := by
    have h : (r.w.ends.map enOf)[0]? = some (1, 0, 0, [7]) := by rw [h2]; rfl
    rw [List.getElem?_map] at h
    rw [List.getD_eq_getElem?_getD]
    cases hx : r.w.ends[0]? with
    | none => rw [hx] at h; cases h
    | some x => rw [hx] at h; simpa using h
  clear hs h1 h2
  have h52 : (r.l.getD 0 default).2 = 2 := by rw [h5]
  simp only [enOf, Prod.mk.injEq] at h6
  obtain ⟨k1, k2, k3, k4⟩ := h6
  have k5 : (r.w.ends.getD 0 default).out.length = 1 := by rw [k4]; rfl
  repeat (first | refine go (k := ?_) | (refine goB (k := ?_); intro b) | (refine goA (k := ?_); intro ao cap))
  (refine Run.yes_ (h := ?_); refine OpT.val_ (h := by (apply Still.at_; exact rfl; exact rfl; (first | (apply Rdb.arr; focus ((repeat (first | exact Take.head | apply Take.tail)); done)) | (apply Rdb.rd; focus ((repeat (first | exact Take.head | apply Take.tail)); done)) | (apply Rdb.md_units; focus ((repeat (first | exact Take.head | apply Take.tail)); done)) | (apply Rdb.md_boxes; focus ((repeat (first | exact Take.head | apply Take.tail)); done)) | (apply Rdb.md_code; (focus ((repeat (first | exact Take.head | apply Take.tail)); done)); (focus (first | assumption | omega))) | (apply Rdb.md_locals; (focus ((repeat (first | exact Take.head | apply Take.tail)); done)); (focus (first | assumption | omega))) | (apply Rdb.old; (focus assumption); (focus ((repeat (first | exact Take.head | apply Take.tail)); done)))); exact rfl; exact rfl; exact rfl; exact ix_zero; omega)) (k := ?_))
  repeat (first | refine go (k := ?_) | (refine goB (k := ?_); intro b) | (refine goA (k := ?_); intro ao cap))
  (refine Run.yes_ (h := ?_); refine OpT.val_ (h := by (apply Still.at_; exact rfl; exact rfl; (first | (apply Rdb.arr; focus ((repeat (first | exact Take.head | apply Take.tail)); done)) | (apply Rdb.rd; focus ((repeat (first | exact Take.head | apply Take.tail)); done)) | (apply Rdb.md_units; focus ((repeat (first | exact Take.head | apply Take.tail)); done)) | (apply Rdb.md_boxes; focus ((repeat (first | exact Take.head | apply Take.tail)); done)) | (apply Rdb.md_code; (focus ((repeat (first | exact Take.head | apply Take.tail)); done)); (focus (first | assumption | omega))) | (apply Rdb.md_locals; (focus ((repeat (first | exact Take.head | apply Take.tail)); done)); (focus (first | assumption | omega))) | (apply Rdb.old; (focus assumption); (focus ((repeat (first | exact Take.head | apply Take.tail)); done)))); exact rfl; exact rfl; exact rfl; exact ix_zero; omega)) (k := ?_))
  repeat (first | refine go (k := ?_) | (refine goB (k := ?_); intro b) | (refine goA (k := ?_); intro ao cap))
  (refine Run.yes_ (h := ?_); refine OpT.val_ (h := by (apply Still.at_; exact rfl; exact rfl; (first | (apply Rdb.arr; focus ((repeat (first | exact Take.head | apply Take.tail)); done)) | (apply Rdb.rd; focus ((repeat (first | exact Take.head | apply Take.tail)); done)) | (apply Rdb.md_units; focus ((repeat (first | exact Take.head | apply Take.tail)); done)) | (apply Rdb.md_boxes; focus ((repeat (first | exact Take.head | apply Take.tail)); done)) | (apply Rdb.md_code; (focus ((repeat (first | exact Take.head | apply Take.tail)); done)); (focus (first | assumption | omega))) | (apply Rdb.md_locals; (focus ((repeat (first | exact Take.head | apply Take.tail)); done)); (focus (first | assumption | omega))) | (apply Rdb.old; (focus assumption); (focus ((repeat (first | exact Take.head | apply Take.tail)); done)))); exact rfl; exact rfl; exact rfl; exact ix_zero; omega)) (k := ?_))
  repeat (first | refine go (k := ?_) | (refine goB (k := ?_); intro b) | (refine goA (k := ?_); intro ao cap))
  (refine End.done1_ (()) (he := by exact bool_eq (decide_eq_true (by rw [k5]; rfl))) (hp := ?_))
  trivial
end Go.Proofs.Ytjehflelkpacfaa.Vw

/- SchedCounts, walked. -/
namespace Go.Proofs.Ytjehflelkpacfaa.Vm
theorem picks_ok {M : ImgM.Mdl} {T : Nat → Int → Option Ver.Shape} (hC : Certs M T) (told : Bool) : ∀ (l : List (Int × Int)) {c : Ma}, c.Ok M T → (picks M told l c).2.Ok M T
  | [], c, h => h
  | p :: l, c, h => picks_ok hC told l (h.pick hC told p)
end Go.Proofs.Ytjehflelkpacfaa.Vm
namespace Go.Proofs.Ytjehflelkpacfaa.Vw
open Go.RowKit Go.Proofs.Ytjehflelkpacfaa.Img
set_option linter.unusedVariables false
set_option linter.unusedSimpArgs false
attribute [local irreducible] Run Cod End OpT Still RunQ RunS RunT Fn PutOk
attribute [local irreducible] Ver.verify Vm.wrong Vm.picks
end Go.Proofs.Ytjehflelkpacfaa.Vw

/- TraceKahn, walked. -/
namespace Go.Proofs.Ytjehflelkpacfaa.Vw
open Go.RowKit Go.Proofs.Ytjehflelkpacfaa.Img
set_option linter.unusedVariables false
set_option linter.unusedSimpArgs false
theorem tr_small {m : ML} (hwf : m.Wf) {ps : List (Int × Int)} {a : TrL} (ha : TrIs m ps a) : a.l.length ≤ 1000000 := by
  unfold TrIs at ha
  by_cases h1 : Vm.wrong m.mdl ps.length = 0
  · rw [if_pos h1] at ha
    obtain ⟨hv, -⟩ := wrong_zero h1
    obtain ⟨T, hC⟩ := certs_ml hwf hv
    have hok := Vm.picks_ok hC true ps (Vm.Ma.Ok.init hC)
    have h2 := hok.log
    have h3 := hok.n
    rw [ha]; omega
  · rw [if_neg h1] at ha
    rw [ha]; simp
theorem of_kahn {m : ML} (hwf : m.Wf) {ps os : List (Int × Int)} {a b : TrL} (h1 : Vm.wrong m.mdl ps.length = 0) (h2 : Vm.wrong m.mdl os.length = 0) (ha : TrIs m ps a) (hb : TrIs m os b) (task : Int) :
    ofTo a.l task a.l.length <+: ofTo b.l task b.l.length ∨ ofTo b.l task b.l.length <+: ofTo a.l task a.l.length := by
  unfold TrIs at ha hb
  rw [if_pos h1] at ha
  rw [if_pos h2] at hb
  obtain ⟨hv, -⟩ := wrong_zero h1
  obtain ⟨T, hC⟩ := certs_ml hwf hv
  by_cases h0 : task < 0
  · rw [ofTo_neg _ h0]; exact .inl List.nil_prefix
  · obtain ⟨k, rfl⟩ := Int.eq_ofNat_of_zero_le (show 0 ≤ task by omega)
    rw [ofTo_all, ofTo_all, ha, hb]
    exact Vm.trace_kahn hC (Ver.verify_iff.1 hv) ps os k
attribute [local irreducible] Run Cod End OpT Still RunQ RunS RunT Fn PutOk
attribute [local irreducible] Ver.verify Vm.wrong Vm.picks ofTo
set_option maxRecDepth 100000 in
set_option maxHeartbeats 2000000 in
theorem traceKahn_is (m : ML) (hwf : m.Wf) (ps os : PkL) (task : Int) : Fn Try.prog 6 #[m.val, ps.val, os.val, .int .i64 task] [md m, pkR ps, pkR os] [] (σ := Unit) (fun _ => True) (fun _ => .bool true) (fun _ => []) := by
  refine Fn.enter (args := [m.val, ps.val, os.val, .int .i64 task]) Try.func6 rfl _ Try.ntmps6 rfl (by simp [md_excl, rd_excl]) (fun w S => ?_)
  (try conv => rhs; simp only [List.cons_append, List.nil_append])
  repeat (first | refine go (k := ?_) | (refine goB (k := ?_); intro b) | (refine goA (k := ?_); intro ao cap))
  obtain ⟨mb, rfl⟩ : ∃ x, x = b := ⟨_, rfl⟩
  (apply Run.op; exact rfl; refine OpT.call0_ (spec := alive10_is) (k := ?_); intro s hs; (try conv => rhs; simp only [List.cons_append, List.nil_append]))
  repeat (first | refine go (k := ?_) | (refine goB (k := ?_); intro b) | (refine goA (k := ?_); intro ao cap))
  ((first | (apply Run.op; exact rfl) | refine Run.yes_ (h := ?_)); refine OpT.call0_ (spec := trace_is m hwf ps) (r := (fun w => Reads.md (by (repeat (first | exact Take.head | apply Take.tail))) (Reads.rd (by (repeat (first | exact Take.head | apply Take.tail))) .nil))) (k := ?_); intro s hs; (try conv => rhs; simp only [List.cons_append, List.nil_append]))
  obtain ⟨r, rfl⟩ : ∃ x, x = s := ⟨_, rfl⟩
  have ha := hs
  repeat (first | refine go (k := ?_) | (refine goB (k := ?_); intro b) | (refine goA (k := ?_); intro ao cap))
  ((first | (apply Run.op; exact rfl) | refine Run.yes_ (h := ?_)); refine OpT.call0_ (spec := trace_is m hwf os) (r := (fun w => Reads.md (by (repeat (first | exact Take.head | apply Take.tail))) (Reads.rd (by (repeat (first | exact Take.head | apply Take.tail))) .nil))) (k := ?_); intro s hs; (try conv => rhs; simp only [List.cons_append, List.nil_append]))
  obtain ⟨v, rfl⟩ : ∃ x, x = s := ⟨_, rfl⟩
  have hb := hs
  have l1 := tr_small hwf ha
  have l2 := tr_small hwf hb
  have hk := fun h1 h2 => of_kahn hwf h1 h2 ha hb task
  clear hs ha hb
  generalize Vm.wrong m.mdl ps.l.length = W1 at *
  generalize Vm.wrong m.mdl os.l.length = W2 at *
  by_cases g1 : ¬ W1 = 0
  · repeat (first | refine go (k := ?_) | (refine goB (k := ?_); intro b) | (refine goA (k := ?_); intro ao cap))
    (refine End.done1_ (()) (he := by (first | exact rfl | (refine congrArg (Value.int _) ?_; omega) | (refine congrArg (Value.int _) ?_; dsimp only; omega))) (hp := ?_))
    trivial
  by_cases g2 : ¬ W2 = 0
  · repeat (first | refine go (k := ?_) | (refine goB (k := ?_); intro b) | (refine goA (k := ?_); intro ao cap))
    (refine End.done1_ (()) (he := by (first | exact rfl | (refine congrArg (Value.int _) ?_; omega) | (refine congrArg (Value.int _) ?_; dsimp only; omega))) (hp := ?_))
    trivial
  have hk := hk (Classical.not_not.1 g1) (Classical.not_not.1 g2)
  repeat (first | refine go (k := ?_) | (refine goB (k := ?_); intro b) | (refine goA (k := ?_); intro ao cap))
  ((first | (apply Run.op; exact rfl) | refine Run.yes_ (h := ?_)); refine OpT.call0_ (spec := of_is r l1 task) (r := (fun w => Reads.arr (by (repeat (first | exact Take.head | apply Take.tail))) .nil)) (k := ?_); intro s hs; (try conv => rhs; simp only [List.cons_append, List.nil_append]))
  obtain ⟨x, rfl⟩ : ∃ x, x = s := ⟨_, rfl⟩
  rw [← hs] at hk
  clear hs
  repeat (first | refine go (k := ?_) | (refine goB (k := ?_); intro b) | (refine goA (k := ?_); intro ao cap))
  ((first | (apply Run.op; exact rfl) | refine Run.yes_ (h := ?_)); refine OpT.call0_ (spec := of_is v l2 task) (r := (fun w => Reads.arr (by (repeat (first | exact Take.head | apply Take.tail))) .nil)) (k := ?_); intro s hs; (try conv => rhs; simp only [List.cons_append, List.nil_append]))
  obtain ⟨y, rfl⟩ : ∃ x, x = s := ⟨_, rfl⟩
  rw [← hs] at hk
  clear hs
  by_cases hl : y.l.length < x.l.length
  · have ht : x.l.take y.l.length = y.l := by
      rcases hk with hk | hk
      · have := hk.length_le; omega
      · exact (List.prefix_iff_eq_take.1 hk).symm
    repeat (first | refine go (k := ?_) | (refine goB (k := ?_); intro b) | (refine goA (k := ?_); intro ao cap))
    rw [ht]
    ((first | (apply Run.op; exact rfl) | refine Run.yes_ (h := ?_)); refine OpT.call0_ (spec := sameEv_is y ⟨ao, cap, y.l⟩ rfl) (r := (fun w => Reads.arr (by (repeat (first | exact Take.head | apply Take.tail))) (Reads.arr (by (repeat (first | exact Take.head | apply Take.tail))) .nil))) (k := ?_); intro s hs; (try conv => rhs; simp only [List.cons_append, List.nil_append]))
    repeat (first | refine go (k := ?_) | (refine goB (k := ?_); intro b) | (refine goA (k := ?_); intro ao cap))
    (refine End.done1_ (()) (he := by (first | exact rfl | (refine congrArg (Value.int _) ?_; omega) | (refine congrArg (Value.int _) ?_; dsimp only; omega))) (hp := ?_))
    trivial
  · have ht : y.l.take x.l.length = x.l := by
      rcases hk with hk | hk
      · exact (List.prefix_iff_eq_take.1 hk).symm
      · have := hk.length_le
        have e : y.l = x.l := hk.eq_of_length (by omega)
        rw [e, List.take_length]
    repeat (first | refine go (k := ?_) | (refine goB (k := ?_); intro b) | (refine goA (k := ?_); intro ao cap))
    rw [ht]
    ((first | (apply Run.op; exact rfl) | refine Run.yes_ (h := ?_)); refine OpT.call0_ (spec := sameEv_is x ⟨ao, cap, x.l⟩ rfl) (r := (fun w => Reads.arr (by (repeat (first | exact Take.head | apply Take.tail))) (Reads.arr (by (repeat (first | exact Take.head | apply Take.tail))) .nil))) (k := ?_); intro s hs; (try conv => rhs; simp only [List.cons_append, List.nil_append]))
    repeat (first | refine go (k := ?_) | (refine goB (k := ?_); intro b) | (refine goA (k := ?_); intro ao cap))
    (refine End.done1_ (()) (he := by (first | exact rfl | (refine congrArg (Value.int _) ?_; omega) | (refine congrArg (Value.int _) ?_; dsimp only; omega))) (hp := ?_))
    trivial
end Go.Proofs.Ytjehflelkpacfaa.Vw

/- How the arguments' data are read: a slice's cells out of its reading ('read_slice'); what a law owes at its end ('law_post'). Of whatever program. -/
namespace Go.Proofs.Ytjehflelkpacfaa
open Go.RowKit Go.ChangeShapes Go.WideShapes Go.ChangeAt
set_option linter.unusedVariables false

section
variable {H : Type} {enc : TypeId × Value → H} {P : Program} {w : World}

abbrev Trd (enc : TypeId × Value → H) (P : Program) (w : World) (fuel : Nat) (t : TypeId) (cs : List Value) (x : DataW H × List MemPlace) : Prop :=
  DataW.trod enc P w 0 (fun _ => true) true fuel t cs = some x

/-- every weight of a datum is within the reach -/
def Fits (P : Program) (t : TypeId) (d : DataW H) : Prop := ∀ n ∈ d.weights P t, n ≤ reachBytes

theorem fits_all {e : TypeId} : ∀ {l : List (DataW H)}, (∀ n ∈ DataW.weightsAll P e l, n ≤ reachBytes) → ∀ d ∈ l, Fits P e d
  | [], _, d, hd => by cases hd
  | x :: r, h, d, hd => by
    simp only [DataW.weightsAll, List.mem_append] at h
    rcases List.mem_cons.1 hd with rfl | hd
    · exact fun n hn => h n (.inl hn)
    · exact fits_all (fun n hn => h n (.inr hn)) d hd

theorem fits_each {ts : List TypeId} {ds : List (DataW H)} (h : ∀ n ∈ DataW.weightsEach P ts ds, n ≤ reachBytes) {j : Nat} {t : TypeId} {d : DataW H} (ht : ts[j]? = some t) (hd : ds[j]? = some d) : Fits P t d :=
  fun n hn => h n (DataW.weights_mem_each ht hd n hn)

/-- A SLICE, READ: its elements' cells are those of a list, if each element's are those of a thing. -/
theorem read_slice {α : Type} [Inhabited α] {t e : TypeId} {size : Nat} (f : α → List Value) (Q : α → Prop) (ht : P.underlying t = some (.slice e)) (hc : P.cellsOf e = size) (hs : 0 < size)
    (hel : ∀ fuel cs x, Trd enc P w fuel e cs x → Fits P e x.1 → cs.length = size → ∃ a, cs = f a ∧ Q a)
    {fuel : Nat} {cs : List Value} {x : DataW H × List MemPlace} (h : Trd enc P w fuel t cs x) (hf : Fits P t x.1) :
    ∃ (v : Value) (l : List α), cs = [v] ∧ Row w v size l.length (l.flatMap f) ∧ (∀ a ∈ l, Q a) ∧ l.length * P.bytesOf e ≤ reachBytes ∧ (∀ b, v.ownBlock = some b → 0 < l.length → b < w.heap.size) := by
  rcases Deep.open_slice ht h with ⟨rfl, rfl⟩ | ⟨a, len, cap, m, n, D, Pl, rfl, hb, hl, hm, hmm, rfl, hx⟩
  · exact ⟨_, [], rfl, ⟨by simp, Nat.zero_le _, none, 0, rfl, Nat.le_refl _, fun h => by simp at h⟩, by simp, by simp, fun b h => by cases h⟩
  · simp only [if_true] at hmm
    subst hmm
    have hw := hf
    simp only [Fits, DataW.weights, ht, List.mem_cons, List.mem_append] at hw
    have hel' : ∀ i, i < len → ∃ y : α, (∀ j, j < size → w.cell? (a.add (i * size + j)) = (f y)[j]?) ∧ (f y).length = size ∧ Q y := by
      intro i hi
      obtain ⟨cs', h1, h2⟩ := hx i (by omega)
      rw [hc] at h1
      obtain ⟨-, h3, h4⟩ := World.cells?_some h1
      obtain ⟨y, rfl, hq⟩ := hel n cs' (D i, Pl i) h2 (fits_all (fun n hn => hw n (.inr (.inl hn))) (D i) (List.mem_map.2 ⟨i, by simpa using hi, rfl⟩)) h3
      refine ⟨y, fun j hj => ?_, h3, hq⟩
      rw [← Deep.add_add]
      exact h4 j hj
    obtain ⟨F, hF⟩ := Deep.choose_lt hel'
    refine ⟨_, (List.range len).map F, rfl, ?_, ?_, ?_, ?_⟩
    · have hlen : ∀ m, m ≤ len → (((List.range m).map F).flatMap f).length = m * size := by
        intro m hm
        induction m with
        | zero => simp
        | succ m ih =>
          rw [List.range_succ, List.map_append, List.flatMap_append, List.length_append, ih (by omega)]
          simp [(hF m (by omega)).2.1, Nat.add_mul]
      have hget : ∀ m, m ≤ len → ∀ j, j < m * size → w.cell? (a.add j) = (((List.range m).map F).flatMap f)[j]? := by
        intro m hm
        induction m with
        | zero => intro j hj; simp at hj
        | succ m ih =>
          intro j hj
          rw [List.range_succ, List.map_append, List.flatMap_append]
          by_cases hjm : j < m * size
          · rw [List.getElem?_append_left (by rw [hlen m (by omega)]; exact hjm)]
            exact ih (by omega) j hjm
          · rw [List.getElem?_append_right (by rw [hlen m (by omega)]; omega), hlen m (by omega)]
            have := (hF m (by omega)).1 (j - m * size) (by rw [Nat.add_mul] at hj; omega)
            rw [show m * size + (j - m * size) = j by omega] at this
            simpa using this
      refine ⟨by simp only [List.length_map, List.length_range]; exact hlen len (Nat.le_refl _), by simp; omega, some a, m, by simp, by simpa using hl, fun hpos => ?_⟩
      simp only [List.length_map, List.length_range] at hpos ⊢
      have h0 := hget len (Nat.le_refl _) 0 (Nat.mul_pos hpos hs)
      have hsome : (w.cell? (a.add 0)).isSome = true := by
        rw [h0, List.getElem?_eq_getElem (by rw [hlen len (Nat.le_refl _)]; exact Nat.mul_pos hpos hs)]; rfl
      obtain ⟨b, off, spot⟩ := a
      have hspot : spot = none := by
        cases spot with
        | none => rfl
        | some s =>
          unfold World.cell? Addr.add at hsome
          split at hsome <;> simp_all
      subst hspot
      exact ⟨b, off, rfl, fun j hj => by rw [← Addr.add_lit]; exact hget len (Nat.le_refl _) j hj⟩
    · intro y hy
      obtain ⟨i, hi, rfl⟩ := List.mem_map.1 hy
      exact (hF i (by simpa using hi)).2.2
    · have := hw _ (.inl rfl)
      simp only [List.length_map, List.length_range] at this ⊢
      refine Nat.le_trans (Nat.mul_le_mul_right _ ?_) this
      omega
    · intro b hb' hpos
      simp only [List.length_map, List.length_range] at hpos
      simp [Value.ownBlock] at hb'
      subst hb'
      obtain ⟨y, hy1, hy2, -⟩ := hel' 0 hpos
      have := hy1 0 hs
      rw [List.getElem?_eq_getElem (by omega)] at this
      have hlt := World.block_lt_of_cell? w _ this
      have e1 : (a.add (0 * size + 0)).block = a.block := by unfold Addr.add; split <;> rfl
      rwa [e1] at hlt

theorem wf_i64 {n : Int} (h : (Lit.int .i64 n).wf = true) : -9223372036854775808 ≤ n ∧ n ≤ 9223372036854775807 := by
  simpa [Lit.wf, IntKind.min, IntKind.max, IntKind.signed, IntKind.bits] using h
/-- what a law owes at its end: true, and nothing of old memory has turned -/
theorem law_post {f : Func} {s : ChangeSpec} {W W' : World} {args : Array Value} {ds gs : List (DataW H)} {before : List MemPlace} {tb : TypeId}
    (hl : laidOutB P = true) (hr : ∀ t ∈ f.params.toList, P.readableRec t = true ∧ t < P.types.size) (hrt : f.resultTypes = #[tb]) (htb : P.underlying tb = some .bool) (hsv : s.vars = [])
    (hW : DataW.Whole enc P f.params.toList s.vars false W args.toList ds gs before) (hfn : (s.fn H (ds ++ gs)) = { results := [.lit (.bool true)], args := ds }) (hb : Below W.heap.size W W') :
    s.post enc P f false true false false W args (.bool true) W' := by
  have hlt := hW.lt
  have hW0 := hW
  obtain ⟨p, q, hA, hV, rfl, hfz, hnd⟩ := hW
  rw [hsv] at hV
  obtain ⟨rfl, rfl⟩ := trodVars_none hV
  have key : ∀ (ts : List TypeId) (vs : List Value) (ds : List (DataW H)) (p : List MemPlace), (∀ t ∈ ts, P.readableRec t = true ∧ t < P.types.size) → (∀ x ∈ p, x.block < W.heap.size) →
      DataW.TrodAll enc P W 0 (fun _ => true) true ts vs ds p → DataW.TrodAll enc P W' 0 (fun b => decide (b < W.heap.size)) true ts vs ds p := by
    intro ts
    induction ts with
    | nil => intro vs ds p _ _ h; cases vs <;> cases ds <;> simp_all [DataW.TrodAll]
    | cons t ts ih =>
      intro vs ds p h1 h2 h
      cases vs with
      | nil => simp [DataW.TrodAll] at h
      | cons v vs =>
        cases ds with
        | nil => simp [DataW.TrodAll] at h
        | cons d ds =>
          obtain ⟨p1, p2, h3, h4, rfl⟩ := h
          have ht := h1 t (by simp)
          exact ⟨p1, p2, Below.trod hl ht.1 ht.2 h3 hb (fun x hx => h2 x (by simp [hx])), ih vs ds p2 (fun t ht => h1 t (by simp [ht])) (fun x hx => h2 x (by simp [hx])) h4, rfl⟩
  refine ⟨ds, [], _, [], p, [], hW0, ?_, ?_, ?_, hb.frame _, fun h => by cases h⟩
  · rw [hfn, hrt]
    exact trodAll_mk1 (shut_bool htb true)
  · rw [hfn]
    exact key _ _ _ _ hr (fun x hx => hlt x (by simp [hx])) hA
  · rw [hfn, hsv]
    rfl
end
end Go.Proofs.Ytjehflelkpacfaa

/- How a module is read as an argument, of whatever bulk. -/
namespace Go.Proofs.Ytjehflelkpacfaa
open Go.RowKit Go.ChangeShapes Go.WideShapes Go.ChangeAt
set_option linter.unusedVariables false

section
variable {H : Type} {enc : TypeId × Value → H} {P : Program} {w : World}

theorem bulk_one (d : DataW H) : 1 ≤ Rows.uptoBulk d := by
  cases d with
  | lit l => cases l <;> simp [Rows.uptoBulk]
  | nil => simp [Rows.uptoBulk]
  | ptr d => simp [Rows.uptoBulk]
  | slice elems spare => simp [Rows.uptoBulk]
  | agg parts => simp [Rows.uptoBulk]
  | iface t d => simp [Rows.uptoBulk]
  | map entries => simp [Rows.uptoBulk]
  | held h => simp [Rows.uptoBulk]

theorem bulk_sum (D : Nat → DataW H) (c : Nat → Nat) (n : Nat) (h : ∀ i, i < n → c i ≤ Rows.uptoBulk (D i)) : ((List.range n).map c).sum ≤ Rows.uptoBulkAll ((List.range n).map D) := by
  have key : ∀ (l : List Nat), (∀ i ∈ l, c i ≤ Rows.uptoBulk (D i)) → (l.map c).sum ≤ Rows.uptoBulkAll (l.map D) := by
    intro l
    induction l with
    | nil => intro _; simp [Rows.uptoBulkAll]
    | cons a r ih =>
      intro hl
      have h1 := hl a (by simp)
      have h2 := ih (fun i hi => hl i (by simp [hi]))
      simp only [List.map_cons, List.sum_cons, Rows.uptoBulkAll]
      omega
  exact key _ (fun i hi => h i (by simpa using hi))

/-- A SLICE, READ, of bounded bulk -/
theorem read_sliceU {α : Type} [Inhabited α] {t e : TypeId} {size : Nat} (f : α → List Value) (Q : α → Prop) (c : α → Nat) (ht : P.underlying t = some (.slice e)) (hc : P.cellsOf e = size) (hs : 0 < size)
    (hel : ∀ fuel cs x, Trd enc P w fuel e cs x → cs.length = size → ∃ a, cs = f a ∧ Q a ∧ c a ≤ Rows.uptoBulk x.1)
    {fuel : Nat} {cs : List Value} {x : DataW H × List MemPlace} (h : Trd enc P w fuel t cs x) :
    ∃ (v : Value) (l : List α), cs = [v] ∧ Row w v size l.length (l.flatMap f) ∧ (∀ a ∈ l, Q a) ∧ (l.map c).sum + 1 ≤ Rows.uptoBulk x.1 := by
  rcases Deep.open_slice ht h with ⟨rfl, rfl⟩ | ⟨a, len, cap, m, n, D, Pl, rfl, hb, hl, hm, hmm, rfl, hx⟩
  · exact ⟨_, [], rfl, ⟨by simp, Nat.zero_le _, none, 0, rfl, Nat.le_refl _, fun h => by simp at h⟩, by simp, by simp [Rows.uptoBulk]⟩
  · simp only [if_true] at hmm
    subst hmm
    have hel' : ∀ i, i < len → ∃ y : α, (∀ j, j < size → w.cell? (a.add (i * size + j)) = (f y)[j]?) ∧ (f y).length = size ∧ Q y ∧ c y ≤ Rows.uptoBulk (D i) := by
      intro i hi
      obtain ⟨cs', h1, h2⟩ := hx i (by omega)
      rw [hc] at h1
      obtain ⟨-, h3, h4⟩ := World.cells?_some h1
      obtain ⟨y, rfl, hq, hcy⟩ := hel n cs' (D i, Pl i) h2 h3
      refine ⟨y, fun j hj => ?_, h3, hq, hcy⟩
      rw [← Deep.add_add]
      exact h4 j hj
    obtain ⟨F, hF⟩ := Deep.choose_lt hel'
    refine ⟨_, (List.range len).map F, rfl, ?_, ?_, ?_⟩
    · have hlen : ∀ m, m ≤ len → (((List.range m).map F).flatMap f).length = m * size := by
        intro m hm
        induction m with
        | zero => simp
        | succ m ih =>
          rw [List.range_succ, List.map_append, List.flatMap_append, List.length_append, ih (by omega)]
          simp [(hF m (by omega)).2.1, Nat.add_mul]
      have hget : ∀ m, m ≤ len → ∀ j, j < m * size → w.cell? (a.add j) = (((List.range m).map F).flatMap f)[j]? := by
        intro m hm
        induction m with
        | zero => intro j hj; simp at hj
        | succ m ih =>
          intro j hj
          rw [List.range_succ, List.map_append, List.flatMap_append]
          by_cases hjm : j < m * size
          · rw [List.getElem?_append_left (by rw [hlen m (by omega)]; exact hjm)]
            exact ih (by omega) j hjm
          · rw [List.getElem?_append_right (by rw [hlen m (by omega)]; omega), hlen m (by omega)]
            have := (hF m (by omega)).1 (j - m * size) (by rw [Nat.add_mul] at hj; omega)
            rw [show m * size + (j - m * size) = j by omega] at this
            simpa using this
      refine ⟨by simp only [List.length_map, List.length_range]; exact hlen len (Nat.le_refl _), by simp; omega, some a, m, by simp, by simpa using hl, fun hpos => ?_⟩
      simp only [List.length_map, List.length_range] at hpos ⊢
      have h0 := hget len (Nat.le_refl _) 0 (Nat.mul_pos hpos hs)
      have hsome : (w.cell? (a.add 0)).isSome = true := by
        rw [h0, List.getElem?_eq_getElem (by rw [hlen len (Nat.le_refl _)]; exact Nat.mul_pos hpos hs)]; rfl
      obtain ⟨b, off, spot⟩ := a
      have hspot : spot = none := by
        cases spot with
        | none => rfl
        | some s =>
          unfold World.cell? Addr.add at hsome
          split at hsome <;> simp_all
      subst hspot
      exact ⟨b, off, rfl, fun j hj => by rw [← Addr.add_lit]; exact hget len (Nat.le_refl _) j hj⟩
    · intro y hy
      obtain ⟨i, hi, rfl⟩ := List.mem_map.1 hy
      exact (hF i (by simpa using hi)).2.2.1
    · have := bulk_sum D (fun i => c (F i)) len (fun i hi => (hF i hi).2.2.2)
      simp only [Rows.uptoBulk, List.map_map]
      have e : (List.map (c ∘ F) (List.range len)) = List.map (fun i => c (F i)) (List.range len) := rfl
      rw [e]
      omega

/-- an int or int64 element -/
theorem el_i64U {e : TypeId} (he : P.underlying e = some (.int .i64)) : ∀ fuel cs (x : DataW H × List MemPlace), Trd enc P w fuel e cs x → cs.length = 1 → ∃ n : Int, cs = [.int .i64 n] ∧ ImgM.In64 n ∧ 1 ≤ Rows.uptoBulk x.1 := by
  intro fuel cs x h _
  obtain ⟨n, rfl, _, hw⟩ := DataW.trod_int he h
  exact ⟨n, rfl, wf_i64 hw, bulk_one _⟩
theorem trod_struct6 {t : TypeId} {f0 f1 f2 f3 f4 f5 : Field} {fuel : Nat} {cs : List Value} {x : DataW H × List MemPlace} (ht : P.underlying t = some (.struct #[f0, f1, f2, f3, f4, f5])) (h : Trd enc P w fuel t cs x) :
    ∃ y0 y1 y2 y3 y4 y5 n, x.1 = .agg [y0.1, y1.1, y2.1, y3.1, y4.1, y5.1] ∧ cs.length = P.cellsOf t ∧ Trd enc P w n f0.type ((cs.drop f0.offset).take (P.cellsOf f0.type)) y0 ∧
      Trd enc P w n f1.type ((cs.drop f1.offset).take (P.cellsOf f1.type)) y1 ∧ Trd enc P w n f2.type ((cs.drop f2.offset).take (P.cellsOf f2.type)) y2 ∧ Trd enc P w n f3.type ((cs.drop f3.offset).take (P.cellsOf f3.type)) y3 ∧
      Trd enc P w n f4.type ((cs.drop f4.offset).take (P.cellsOf f4.type)) y4 ∧ Trd enc P w n f5.type ((cs.drop f5.offset).take (P.cellsOf f5.type)) y5 := by
  obtain ⟨xs, n, _, rfl, hl, hlen, hf⟩ := DataW.trod_struct ht h
  match xs, hlen with
  | [y0, y1, y2, y3, y4, y5], _ => exact ⟨y0, y1, y2, y3, y4, y5, n, by simp, hl, by simpa using hf 0 f0 rfl, by simpa using hf 1 f1 rfl, by simpa using hf 2 f2 rfl, by simpa using hf 3 f3 rfl, by simpa using hf 4 f4 rfl, by simpa using hf 5 f5 rfl⟩
end

section
variable {H : Type} {enc : TypeId × Value → H} {w : World}
open Img

theorem cells_int : Try.prog.cellsOf 3 = 1 := by kernel_rfl
theorem cells_i64 : Try.prog.cellsOf 2 = 1 := by kernel_rfl
theorem cells_ints : Try.prog.cellsOf 66 = 1 := by kernel_rfl
theorem cells_code : Try.prog.cellsOf 65 = 1 := by kernel_rfl
theorem cells_ins : Try.prog.cellsOf 64 = 3 := by kernel_rfl
theorem cells_box : Try.prog.cellsOf 53 = 2 := by kernel_rfl
theorem cells_unt : Try.prog.cellsOf 68 = 6 := by kernel_rfl
theorem cells_mod : Try.prog.cellsOf 25 = 2 := by kernel_rfl

set_option maxRecDepth 100000 in
theorem el_box : ∀ fuel cs (x : DataW H × List MemPlace), Trd enc Try.prog w fuel 53 cs x → cs.length = 2 → ∃ b : Int × Int, cs = boxC b ∧ (ImgM.In64 b.1 ∧ ImgM.In64 b.2) ∧ 2 ≤ Rows.uptoBulk x.1 := by
  intro fuel cs x h hlen
  obtain ⟨y0, y1, n, rfl, _, hy0, hy1⟩ := trod_struct2 Try.underlying53 h
  match cs, hlen with
  | [c0, c1], _ =>
    have e0 : ([c0, c1].drop 0).take (Try.prog.cellsOf 3) = [c0] := by rw [cells_int]; rfl
    have e1 : ([c0, c1].drop 1).take (Try.prog.cellsOf 3) = [c1] := by rw [cells_int]; rfl
    simp only [e0, e1] at hy0 hy1
    obtain ⟨a, ha, wa, ba⟩ := el_i64U Try.underlying3 _ _ _ hy0 rfl
    obtain ⟨b, hb, wb, bb⟩ := el_i64U Try.underlying3 _ _ _ hy1 rfl
    simp at ha hb
    exact ⟨(a, b), by rw [ha, hb]; rfl, ⟨wa, wb⟩, by simp only [Rows.uptoBulk, Rows.uptoBulkAll]; omega⟩

set_option maxRecDepth 100000 in
theorem el_ins : ∀ fuel cs (x : DataW H × List MemPlace), Trd enc Try.prog w fuel 64 cs x → cs.length = 3 → ∃ i : ImgM.Ins, cs = insC i ∧ (ImgM.In64 i.op ∧ ImgM.In64 i.a ∧ ImgM.In64 i.n) ∧ 3 ≤ Rows.uptoBulk x.1 := by
  intro fuel cs x h hlen
  obtain ⟨y0, y1, y2, n, rfl, _, hy0, hy1, hy2⟩ := Go.Deep.trod_struct3 Try.underlying64 h
  match cs, hlen with
  | [c0, c1, c2], _ =>
    have e0 : ([c0, c1, c2].drop 0).take (Try.prog.cellsOf 3) = [c0] := by rw [cells_int]; rfl
    have e1 : ([c0, c1, c2].drop 1).take (Try.prog.cellsOf 3) = [c1] := by rw [cells_int]; rfl
    have e2 : ([c0, c1, c2].drop 2).take (Try.prog.cellsOf 2) = [c2] := by rw [cells_i64]; rfl
    simp only [e0, e1, e2] at hy0 hy1 hy2
    obtain ⟨a, ha, wa, ba⟩ := el_i64U Try.underlying3 _ _ _ hy0 rfl
    obtain ⟨b, hb, wb, bb⟩ := el_i64U Try.underlying3 _ _ _ hy1 rfl
    obtain ⟨c, hc, wc, bc⟩ := el_i64U Try.underlying2 _ _ _ hy2 rfl
    simp at ha hb hc
    exact ⟨⟨a, b, c⟩, by rw [ha, hb, hc]; rfl, ⟨wa, wb, wc⟩, by simp only [Rows.uptoBulk, Rows.uptoBulkAll]; omega⟩

/-- a unit, and where its slices lie -/
def UcIs (w : World) (x : UC) : Prop :=
  Row w (.slice x.lo x.u.locals.length x.lc) (sz i64c) x.u.locals.length (x.u.locals.flatMap i64c) ∧ Row w (.slice x.co x.u.code.length x.cc) (sz insC) x.u.code.length (x.u.code.flatMap insC) ∧ UWf x.u
set_option maxRecDepth 100000 in
theorem el_uc : ∀ fuel cs (x : DataW H × List MemPlace), Trd enc Try.prog w fuel 68 cs x → cs.length = 6 → ∃ y : UC, cs = ucell y ∧ UcIs w y ∧ 0 ≤ Rows.uptoBulk x.1 := by
  intro fuel cs x h hlen
  obtain ⟨y0, y1, y2, y3, y4, y5, n, hx, _, hy0, hy1, hy2, hy3, hy4, hy5⟩ := trod_struct6 Try.underlying68 h
  match cs, hlen with
  | [c0, c1, c2, c3, c4, c5], _ =>
    have e0 : ([c0, c1, c2, c3, c4, c5].drop 0).take (Try.prog.cellsOf 3) = [c0] := by rw [cells_int]; rfl
    have e1 : ([c0, c1, c2, c3, c4, c5].drop 1).take (Try.prog.cellsOf 3) = [c1] := by rw [cells_int]; rfl
    have e2 : ([c0, c1, c2, c3, c4, c5].drop 2).take (Try.prog.cellsOf 66) = [c2] := by rw [cells_ints]; rfl
    have e3 : ([c0, c1, c2, c3, c4, c5].drop 3).take (Try.prog.cellsOf 3) = [c3] := by rw [cells_int]; rfl
    have e4 : ([c0, c1, c2, c3, c4, c5].drop 4).take (Try.prog.cellsOf 3) = [c4] := by rw [cells_int]; rfl
    have e5 : ([c0, c1, c2, c3, c4, c5].drop 5).take (Try.prog.cellsOf 65) = [c5] := by rw [cells_code]; rfl
    simp only [e0, e1, e2, e3, e4, e5] at hy0 hy1 hy2 hy3 hy4 hy5
    obtain ⟨a, ha, wa, ba⟩ := el_i64U Try.underlying3 _ _ _ hy0 rfl
    obtain ⟨b, hb, wb, bb⟩ := el_i64U Try.underlying3 _ _ _ hy1 rfl
    obtain ⟨c, hc, wc, bc⟩ := el_i64U Try.underlying3 _ _ _ hy3 rfl
    obtain ⟨d, hd, wd, bd⟩ := el_i64U Try.underlying3 _ _ _ hy4 rfl
    obtain ⟨lv, ls, hlv, hl1, hl2, hl3⟩ := read_sliceU i64c ImgM.In64 (fun _ => 1) Try.underlying66 cells_int (by decide) (el_i64U Try.underlying3) hy2
    obtain ⟨cv, is, hcv, hc1, hc2, hc3⟩ := read_sliceU insC _ (fun _ => 3) Try.underlying65 cells_ins (by decide) el_ins hy5
    simp only [List.cons.injEq, and_true] at ha hb hc hd hlv hcv
    subst ha hb hc hd hlv hcv
    obtain ⟨-, -, lo, lc, rfl, -⟩ := id hl1
    obtain ⟨-, -, co, cc, rfl, -⟩ := id hc1
    exact ⟨⟨⟨a, b, ls, c, d, is⟩, lo, lc, co, cc⟩, rfl, ⟨hl1, hc1, ⟨wa, wb, hl2, wc, wd, hc2⟩⟩, Nat.zero_le _⟩
set_option maxRecDepth 100000 in
/-- A MODULE, READ. -/
theorem read_md {base : Nat} {v : Value} (hok : Value.okWide Try.prog w .any base 25 v) {d : DataW H} {p : List MemPlace} (h : DataW.Trod enc Try.prog w 0 (fun _ => true) true 25 v d p) :
    ∃ m : ML, v = m.val ∧ MdAt w m ∧ m.Wf := by
  obtain ⟨c0, c1, y0, y1, k, rfl, rfl, rfl, hy0, hy1⟩ := Go.Joins.open_agg2 Try.underlying25 (by kernel_rfl) cells_mod hok h
  obtain ⟨bv, bs, hbv, hb1, hb2, hb3⟩ := read_sliceU boxC _ (fun _ => 2) Try.underlying22 cells_box (by decide) el_box hy0
  obtain ⟨uv, us, huv, hu1, hu2, hu3⟩ := read_sliceU ucell (UcIs w) (fun _ => 0) Try.underlying23 cells_unt (by decide) el_uc hy1
  simp only [List.cons.injEq, and_true] at hbv huv
  subst hbv huv
  obtain ⟨-, -, bo, bc, rfl, -⟩ := id hb1
  obtain ⟨-, -, uo, uc, rfl, -⟩ := id hu1
  exact ⟨⟨bs, bo, bc, us, uo, uc⟩, rfl, ⟨hb1, hu1, fun x hx => (hu2 x hx).1, fun x hx => (hu2 x hx).2.1⟩, ⟨hb2, fun x hx => (hu2 x hx).2.2⟩⟩
end
end Go.Proofs.Ytjehflelkpacfaa

/- How rows of words are read as an argument. -/
namespace Go.Proofs.Ytjehflelkpacfaa
open Go.RowKit Go.ChangeShapes Go.WideShapes Go.ChangeAt
set_option linter.unusedVariables false
section
variable {H : Type} {enc : TypeId × Value → H} {P : Program} {w : World} {base : Nat} {spare : Nat → Bool} {held : Bool}
end
section
variable {H : Type} {enc : TypeId × Value → H} {w : World}
end
end Go.Proofs.Ytjehflelkpacfaa

/- How picks are read as an argument. -/
namespace Go.Proofs.Ytjehflelkpacfaa
open Go.RowKit Go.ChangeShapes Go.WideShapes Go.ChangeAt
set_option linter.unusedVariables false
section
variable {H : Type} {enc : TypeId × Value → H} {w : World}
theorem cells_pick : Try.prog.cellsOf 37 = 2 := by kernel_rfl
set_option maxRecDepth 100000 in
theorem el_pick : ∀ fuel cs (x : DataW H × List MemPlace), Trd enc Try.prog w fuel 37 cs x → cs.length = 2 → ∃ y : Int × Int, cs = Vw.pkC y ∧ (ImgM.In64 y.1 ∧ ImgM.In64 y.2) ∧ 0 ≤ Rows.uptoBulk x.1 := by
  intro fuel cs x h hlen
  obtain ⟨y0, y1, n, rfl, _, hy0, hy1⟩ := trod_struct2 Try.underlying37 h
  match cs, hlen with
  | [c0, c1], _ =>
    have e0 : ([c0, c1].drop 0).take (Try.prog.cellsOf 3) = [c0] := by rw [cells_int]; rfl
    have e1 : ([c0, c1].drop 1).take (Try.prog.cellsOf 3) = [c1] := by rw [cells_int]; rfl
    simp only [e0, e1] at hy0 hy1
    obtain ⟨a, ha, wa, ba⟩ := el_i64U Try.underlying3 _ _ _ hy0 rfl
    obtain ⟨b, hb, wb, bb⟩ := el_i64U Try.underlying3 _ _ _ hy1 rfl
    simp at ha hb
    exact ⟨⟨a, b⟩, by rw [ha, hb]; rfl, ⟨wa, wb⟩, Nat.zero_le _⟩
set_option maxRecDepth 100000 in
/-- PICKS, READ. -/
theorem read_pk {base : Nat} {v : Value} (hok : Value.okWide Try.prog w .any base 26 v) {d : DataW H} {p : List MemPlace} (h : DataW.Trod enc Try.prog w 0 (fun _ => true) true 26 v d p) (hf : Fits Try.prog 26 d) :
    ∃ f : Vw.PkL, v = f.val ∧ Row w (.slice f.o f.l.length f.c) (sz Vw.pkC) f.l.length (f.l.flatMap Vw.pkC) ∧ f.l.length * 16 ≤ 140737488351232 := by
  obtain ⟨fuel, h⟩ := h
  obtain ⟨v', l, hv, h1, -, h2, -⟩ := read_slice Vw.pkC (fun y => ImgM.In64 y.1 ∧ ImgM.In64 y.2) Try.underlying26 cells_pick (by decide) (fun fuel cs x h _ hl => by obtain ⟨y, a, b, _⟩ := el_pick fuel cs x h hl; exact ⟨y, a, b⟩) h hf
  obtain ⟨a, n, c, rfl⟩ := okWide_slice Try.underlying26 hok
  have e : Value.slice a n c = v' := by simpa [Value.cells] using hv
  rw [show Try.prog.bytesOf 37 = 16 by kernel_rfl] at h2
  obtain ⟨-, -, ao, cap, rfl, -⟩ := id h1
  exact ⟨⟨ao, cap, l⟩, e, h1, h2⟩
end
end Go.Proofs.Ytjehflelkpacfaa
