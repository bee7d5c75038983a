/- Wider boxes say no less. Plain Lean. -/
import Derived.Test.YtjehflelkpacfaaM37
namespace Go.Proofs.Ytjehflelkpacfaa.Vm
open ImgM Ver Opt
set_option linter.unusedVariables false
set_option linter.unusedSimpArgs false
theorem loc1_units {bx bx' : List (Int × Int)} {us : List Unt} : loc1 ⟨bx', us⟩ = loc1 ⟨bx, us⟩ := rfl
theorem ltk_units {bx bx' : List (Int × Int)} {us : List Unt} : ltk ⟨bx', us⟩ = ltk ⟨bx, us⟩ := by
  funext t xs
  unfold ltk
  rw [loc1_units (bx := bx)]
theorem xin_units {bx bx' : List (Int × Int)} {us : List Unt} : xin ⟨bx', us⟩ = xin ⟨bx, us⟩ := rfl
theorem tks0_units {bx bx' : List (Int × Int)} {us : List Unt} : tks0 ⟨bx', us⟩ = tks0 ⟨bx, us⟩ := rfl
theorem can_units {bx bx' : List (Int × Int)} {us : List Unt} {cap : Nat → Nat} {t : Tk} {ws : List (List Int)} (h : Can ⟨bx', us⟩ cap t ws) : Can ⟨bx, us⟩ cap t ws := ⟨h.st, h.send, h.recv⟩
theorem runs_units {bx bx' : List (Int × Int)} {us : List Unt} (hl : bx'.length = bx.length) {cap : Nat → Nat} {T : List Tk} {n : Nat} {xs : Nat → List Int} {ws : List (List Int)} (h : Runs ⟨bx', us⟩ cap T n xs ws) : Runs ⟨bx, us⟩ cap T n xs ws := by
  induction h with
  | nil =>
    have e : (Mdl.mk bx' us).boxes.length = (Mdl.mk bx us).boxes.length := hl
    rw [e]
    exact Runs.nil
  | @step n k xs ws h hk hc ih =>
    rw [ltk_units (bx := bx), xin_units (bx := bx), loc1_units (bx := bx)]
    rw [ltk_units (bx := bx)] at hc
    exact Runs.step ih hk (can_units hc)
section
variable {M : Mdl} {T : List Tk} {cap : Nat → Nat} {n : Nat} {ys : Nat → List Int} {us : List (List Int)}
theorem nrm_out (t : Tk) : (nrm t).out = t.out := by unfold nrm; split <;> rfl
theorem outs_grow (h : Runs M cap T n ys us) (k : Nat) : ∀ (q p : List Int), ys k = p ++ q → (ltk M (T.getD k default) p).out <+: (ltk M (T.getD k default) (p ++ q)).out
  | [], p, e => by rw [List.append_nil]; exact List.prefix_refl _
  | x :: q, p, e => by
    have h1 := h.st k p q x e
    have e1 : (ltk M (T.getD k default) (p ++ [x])).out = (ltk M (T.getD k default) p).out ++ outs (lstep M x (ltk M (T.getD k default) p)).2 := by
      rw [ltk_snoc]
      unfold loc1
      rw [nrm_out, (lstep_did M (x := x) (t := ltk M (T.getD k default) p) (by omega)).out]
      rfl
    have h2 := outs_grow h k q (p ++ [x]) (by rw [e]; simp)
    rw [List.append_assoc] at h2
    refine List.IsPrefix.trans ?_ h2
    rw [e1]
    exact List.prefix_append _ _
end
theorem looked_out {M : Mdl} {told : Bool} {c : Ma} {xs : Nat → List Int} (h : Stood M told c xs) {k : Nat} (hk : k < c.ts.length) : ((c.looked M).ts.getD k default).out = (ltk M ((tks0 M).getD k default) (xs k)).out := by
  rw [looked_at hk, (look_out _ M _).1, ← h.tk k (by rw [← h.len]; exact hk), nrm_out]
theorem wider {bx bx' : List (Int × Int)} {us : List Unt} {T : Nat → Int → Option Shape} (hl : bx'.length = bx.length) (hcap : ∀ b, b < bx.length → capN ⟨bx, us⟩ b ≤ capN ⟨bx', us⟩ b) (hC : Certs ⟨bx, us⟩ T) (hR : Right ⟨bx, us⟩) {c c' : Ma} (h : SetAt ⟨bx, us⟩ (some c)) (h' : SetAt ⟨bx', us⟩ (some c')) :
    c.ts.length = c'.ts.length ∧ ∀ k, k < c.ts.length → ((c.looked ⟨bx, us⟩).ts.getD k default).out <+: ((c'.looked ⟨bx', us⟩).ts.getD k default).out := by
  obtain ⟨xs, hS, -, -⟩ := h
  obtain ⟨ys, hS', hr', -⟩ := h'
  have hlen : c.ts.length = c'.ts.length := by rw [hS.len, hS'.len]; rfl
  refine ⟨hlen, fun k hk => ?_⟩
  have hy := runs_units (bx := bx) hl hS'.runs
  rw [tks0_units (bx := bx)] at hy
  have hr : Rest ⟨bx, us⟩ (capN ⟨bx', us⟩) (tks0 ⟨bx, us⟩) ys c'.bs.ws := fun j hj hc => hr' j hj (by
    have := can_units (bx := bx') hc
    rw [ltk_units (bx := bx), tks0_units (bx := bx)]
    exact this)
  have hp := rest_max (owns_of hC hR) hcap hS.runs hy hr k
  obtain ⟨q, hq⟩ := hp
  rw [looked_out hS hk, looked_out hS' (by omega), ltk_units (bx := bx), tks0_units (bx := bx), ← hq]
  exact outs_grow hy k q (xs k) hq.symm
end Go.Proofs.Ytjehflelkpacfaa.Vm

/- How a module is read as an argument: not too many boxes. -/
namespace Go.Proofs.Ytjehflelkpacfaa
open Go.RowKit Go.ChangeShapes Go.WideShapes Go.ChangeAt Go.Proofs.Ytjehflelkpacfaa.Img
set_option linter.unusedVariables false
section
variable {H : Type} {enc : TypeId × Value → H} {w : World}
set_option maxRecDepth 100000 in
theorem read_mdF {base : Nat} {v : Value} (hok : Value.okWide Try.prog w .any base 25 v) {d : DataW H} {p : List MemPlace} (h : DataW.Trod enc Try.prog w 0 (fun _ => true) true 25 v d p) (hf : Fits Try.prog 25 d) :
    ∃ m : ML, v = m.val ∧ MdAt w m ∧ m.Wf ∧ m.bx.length * 16 ≤ 140737488351232 := by
  obtain ⟨c0, c1, y0, y1, k, rfl, rfl, rfl, hy0, hy1⟩ := Go.Joins.open_agg2 Try.underlying25 (by kernel_rfl) cells_mod hok h
  have hw := hf
  simp only [Fits, DataW.weights, Try.underlying25, List.map_cons, List.map_nil, DataW.weightsEach, List.mem_append] at hw
  have hf0 : Fits Try.prog 22 y0.1 := fun n hn => hw n (.inl hn)
  obtain ⟨bv, bs, hbv, hb1, hb2, hb3, -⟩ := read_slice boxC (fun b => ImgM.In64 b.1 ∧ ImgM.In64 b.2) Try.underlying22 cells_box (by decide) (fun fuel cs x h _ hl => by obtain ⟨y, a, b, _⟩ := el_box fuel cs x h hl; exact ⟨y, a, b⟩) hy0 hf0
  obtain ⟨uv, us, huv, hu1, hu2, hu3⟩ := read_sliceU ucell (UcIs w) (fun _ => 0) Try.underlying23 cells_unt (by decide) el_uc hy1
  simp only [List.cons.injEq, and_true] at hbv huv
  subst hbv huv
  obtain ⟨-, -, bo, bc, rfl, -⟩ := id hb1
  obtain ⟨-, -, uo, uc, rfl, -⟩ := id hu1
  rw [show Try.prog.bytesOf 53 = 16 by kernel_rfl] at hb3
  exact ⟨⟨bs, bo, bc, us, uo, uc⟩, rfl, ⟨hb1, hu1, fun x hx => (hu2 x hx).1, fun x hx => (hu2 x hx).2.1⟩, ⟨hb2, fun x hx => (hu2 x hx).2.2⟩, hb3⟩
end
end Go.Proofs.Ytjehflelkpacfaa

/- SchedWider, walked. -/
namespace Go.Proofs.Ytjehflelkpacfaa.Vw
open Go.RowKit Go.Proofs.Ytjehflelkpacfaa.Img
set_option linter.unusedVariables false
set_option linter.unusedSimpArgs false
attribute [local irreducible] Run Cod End OpT Still RunQ RunS RunT Fn PutOk
/-- the first k boxes are wider -/
def wdTo (bx : List (Int × Int)) (more : Int) (k : Nat) : List (Int × Int) := (bx.take k).map (fun b => (b.1, b.2 + more)) ++ bx.drop k
theorem wdTo_zero (bx : List (Int × Int)) (more : Int) : wdTo bx more 0 = bx := by unfold wdTo; simp
theorem wdTo_all (bx : List (Int × Int)) (more : Int) : wdTo bx more bx.length = bx.map fun b => (b.1, b.2 + more) := by unfold wdTo; simp
theorem wdTo_at (bx : List (Int × Int)) (more : Int) {k : Nat} (hk : k < bx.length) : (wdTo bx more k).getD k default = bx.getD k default := by
  unfold wdTo
  rw [List.getD_eq_getElem?_getD, List.getElem?_append_right (by simp; omega), List.getElem?_drop, List.getD_eq_getElem?_getD]
  simp only [List.length_map, List.length_take]
  congr 2
  congr 1
  omega
theorem wdTo_succ (bx : List (Int × Int)) (more : Int) {k : Nat} (hk : k < bx.length) : (wdTo bx more k).set k ((bx.getD k default).1, (bx.getD k default).2 + more) = wdTo bx more (k + 1) := by
  have hl : ((bx.take k).map fun b => (b.1, b.2 + more)).length = k := by simp; omega
  have e : bx.drop k = bx[k] :: bx.drop (k + 1) := List.drop_eq_getElem_cons hk
  unfold wdTo
  rw [List.take_succ_eq_append_getElem hk, List.map_append, e, List.getD_eq_getElem?_getD, List.getElem?_eq_getElem hk, List.set_append_right _ _ (by omega), hl, Nat.sub_self, List.append_assoc]
  rfl
def wdM (m : ML) (more : Int) (bo : Option Addr) (bc : Nat) : ML := ⟨m.bx.map fun b => (b.1, b.2 + more), bo, bc, m.us, m.uo, m.uc⟩
theorem wdM_mem {w : World} {L F : List Chunk} {m : ML} {more : Int} {bo : Option Addr} {bc : Nat} (t : Takes [arr bo m.bx.length bc 53 boxC (m.bx.map fun b => (b.1, b.2 + more)), md m] L F) (h : Mem w L) : Mem w (md (wdM m more bo bc) :: F) := by
  have ht := h.takes t
  have a1 := arr_holds.1 (ht.all _ (.head _))
  have a3 := md_holds.1 (ht.all _ (.tail _ (.head _)))
  have r1 := a1.1.row Enc.pos
  have l1 := a1.1.le
  have hl : (m.bx.map fun b : Int × Int => (b.1, b.2 + more)).length = m.bx.length := List.length_map _
  refine Mem.toRead t h (md_holds.2 ⟨?_, a3.units, a3.locals, a3.code⟩) md_excl (fun b hb => ?_)
  · show Row w (.slice bo (m.bx.map fun b : Int × Int => (b.1, b.2 + more)).length bc) (sz boxC) (m.bx.map fun b : Int × Int => (b.1, b.2 + more)).length ((m.bx.map fun b : Int × Int => (b.1, b.2 + more)).flatMap boxC)
    rw [hl]; exact r1
  · rw [md_foot] at hb
    rcases hb with ⟨h, h0⟩ | h | h
    · refine ⟨_, .head _, arr_foot.2 ⟨?_, ?_⟩⟩
      · have h' : (Value.slice bo (m.bx.map fun b : Int × Int => (b.1, b.2 + more)).length bc).ownBlock = some b := h
        rw [hl] at h'; exact h'
      · have h0' : 0 < (m.bx.map fun b : Int × Int => (b.1, b.2 + more)).length := h0
        rw [hl] at h0'; omega
    · exact ⟨_, .tail _ (.head _), md_foot.2 (.inr (.inl h))⟩
    · exact ⟨_, .tail _ (.head _), md_foot.2 (.inr (.inr h))⟩
theorem Mem.rdNil {w : World} {L : List Chunk} (h : Mem w L) : Mem w (pkR ⟨none, 0, []⟩ :: L) :=
  rd_own (α := Int × Int) (ao := none) (n := 0) (cap := 0) (e := 37) (f := pkC) (l := []) (by exact .cons .head .nil) (h.nilArr 37 pkC)
theorem Mem.mdDup {w : World} {L L' : List Chunk} {m : ML} (t : Take (md m) L L') (h : Mem w L) : Mem w (md m :: L) := h.dup t md_excl (h.has t) (fun _ hb => hb) md_excl
theorem wdM_val (m : ML) (more : Int) (bo : Option Addr) (bc : Nat) : (wdM m more bo bc).val = .agg #[.slice bo m.bx.length bc, .slice m.uo m.us.length m.uc] := by
  unfold ML.val wdM
  simp
theorem wdM_wf {m : ML} (h : m.Wf) {more : Int} (h0 : 0 ≤ more) (h1 : ∀ k, k < m.bx.length → (m.bx.getD k default).2 ≤ 20 - more) (bo : Option Addr) (bc : Nat) : (wdM m more bo bc).Wf := by
  refine ⟨fun b hb => ?_, h.us⟩
  obtain ⟨c, hc, rfl⟩ := List.mem_map.1 hb
  obtain ⟨g1, g2⟩ := h.bx c hc
  obtain ⟨k, hk, rfl⟩ := List.getElem_of_mem hc
  have := h1 k hk
  rw [List.getD_eq_getElem?_getD, List.getElem?_eq_getElem hk, Option.getD_some] at this
  refine ⟨g1, ?_⟩
  unfold ImgM.In64 at g2 ⊢
  dsimp only
  omega
theorem set_wider {m : ML} (hwf : m.Wf) {more : Int} (h0 : 0 ≤ more) (hm1 : ∀ k, k < m.bx.length → (m.bx.getD k default).2 ≤ 20 - more) {bo : Option Addr} {bc : Nat} {q : Int} {r v : WoL} (h1 : Vm.setErr m.mdl [] q = 0) (h2 : Vm.setErr (wdM m more bo bc).mdl [] q = 0) (hr : SetIs m [] q r) (hv' : SetIs (wdM m more bo bc) [] q v) :
    r.ends.length = v.ends.length ∧ ∀ k, k < r.ends.length → (r.ends.getD k default).out <+: (v.ends.getD k default).out := by
  obtain ⟨a1, a2, a3, c, a4⟩ := set_ok h1
  obtain ⟨b1, b2, b3, d, b4⟩ := set_ok h2
  obtain ⟨hv, -⟩ := wrong_zero a1
  obtain ⟨hv2, -⟩ := wrong_zero b1
  obtain ⟨T, hC⟩ := certs_ml hwf hv
  obtain ⟨T2, hC2⟩ := certs_ml (wdM_wf hwf h0 hm1 bo bc) hv2
  have s1 := Vm.settled_at hC a2 a3 []
  have s2 := Vm.settled_at hC2 b2 b3 []
  rw [show Vm.settle m.mdl q 20001 (Vm.lastOf [] (Vm.picks m.mdl false [] (Vm.Ma.init m.mdl)).1) (Vm.picks m.mdl false [] (Vm.Ma.init m.mdl)).2 = some c from a4] at s1
  rw [show Vm.settle (wdM m more bo bc).mdl q 20001 (Vm.lastOf [] (Vm.picks (wdM m more bo bc).mdl false [] (Vm.Ma.init (wdM m more bo bc).mdl)).1) (Vm.picks (wdM m more bo bc).mdl false [] (Vm.Ma.init (wdM m more bo bc).mdl)).2 = some d from b4] at s2
  obtain ⟨e1, e2⟩ := Vm.wider (bx := m.bx) (bx' := (wdM m more bo bc).bx) (us := m.mdl.units) (by simp [wdM]) (fun b hb => by
    unfold Vm.capN
    dsimp only
    have : (wdM m more bo bc).bx.getD b default = ((m.bx.getD b default).1, (m.bx.getD b default).2 + more) := by
      unfold wdM
      rw [List.getD_eq_getElem?_getD, List.getElem?_map, List.getD_eq_getElem?_getD, List.getElem?_eq_getElem hb]; rfl
    rw [this]
    dsimp only
    omega) hC (Ver.verify_iff.1 hv) s1 s2
  unfold SetIs at hr hv'
  rw [if_pos h1] at hr
  rw [if_pos h2] at hv'
  obtain ⟨c', f1, f2⟩ := hr
  obtain ⟨d', g1, g2⟩ := hv'
  rw [a4] at f1
  rw [b4] at g1
  cases f1
  cases g1
  have l1 := congrArg List.length f2.ends
  have l2 := congrArg List.length g2.ends
  simp only [List.length_map, Vm.Ma.looked] at l1 l2
  refine ⟨by omega, fun k hk => ?_⟩
  obtain ⟨-, x1⟩ := en_at f2.ends hk
  obtain ⟨-, x2⟩ := en_at g2.ends (k := k) (by omega)
  simp only [enOf, tkOf, Prod.mk.injEq] at x1 x2
  rw [x1.2.2.2, x2.2.2.2]
  exact e2 k (by omega)
attribute [local irreducible] Ver.verify Vm.wrong Vm.picks Vm.setErr Vm.settled wdTo
set_option maxRecDepth 100000 in
set_option maxHeartbeats 4000000 in
theorem wider_is (m : ML) (hwf : m.Wf) (hmb : m.bx.length * 16 ≤ 140737488351232) (more : Int) : Fn Try.prog 11 #[m.val, .int .i64 more] [md m] [] (σ := Unit) (fun _ => True) (fun _ => .bool true) (fun _ => []) := by
  refine Fn.enter (args := [m.val, .int .i64 more]) Try.func11 rfl _ Try.ntmps11 rfl (by simp [md_excl, rd_excl]) (fun w S => ?_)
  (try conv => rhs; simp only [List.cons_append, List.nil_append])
  repeat (first | refine go (k := ?_) | (refine goB (k := ?_); intro b) | (refine goA (k := ?_); intro ao cap))
  obtain ⟨mb, rfl⟩ : ∃ x, x = b := ⟨_, rfl⟩
  (apply Run.op; exact rfl; refine OpT.call0_ (spec := alive10_is) (k := ?_); intro s hs; (try conv => rhs; simp only [List.cons_append, List.nil_append]))
  by_cases c1 : more < 0
  · repeat (first | refine go (k := ?_) | (refine goB (k := ?_); intro b) | (refine goA (k := ?_); intro ao cap))
    (refine End.done1_ (()) (he := by (first | exact rfl | (refine congrArg (Value.int _) ?_; omega) | (refine congrArg (Value.int _) ?_; dsimp only; omega))) (hp := ?_))
    trivial
  by_cases c2 : 20 < more
  · repeat (first | refine go (k := ?_) | (refine goB (k := ?_); intro b) | (refine goA (k := ?_); intro ao cap))
    (refine End.done1_ (()) (he := by (first | exact rfl | (refine congrArg (Value.int _) ?_; omega) | (refine congrArg (Value.int _) ?_; dsimp only; omega))) (hp := ?_))
    trivial
  repeat (first | refine go (k := ?_) | (refine goB (k := ?_); intro b) | (refine goA (k := ?_); intro ao cap))
  obtain ⟨zb, rfl⟩ : ∃ x, x = b := ⟨_, rfl⟩
  obtain ⟨nb, rfl⟩ : ∃ x, x = b := ⟨_, rfl⟩
  apply Run.imp' (fun w hm => hm.toArr (iα := inferInstance) (ef := inferInstance) (b := zb) (e := 53) (f := boxC) (n := 0) (by (repeat (first | exact Take.head | apply Take.tail))) ([] : List (Int × Int)) rfl rfl (by unfold maxLen; simp))
  (apply Run.op; exact rfl; refine OpT.appendS_ (l2 := m.bx) (k := ?_); intro ao1 ac1)
  simp only [Nat.zero_add, List.nil_append]
  repeat (first | refine go (k := ?_) | (refine goB (k := ?_); intro b) | (refine goA (k := ?_); intro ao cap))
  apply Cod.imp (fun w hm => (show Mem w (blk nb [.slice ao1 m.bx.length ac1, .slice m.uo m.us.length m.uc] 25 :: arr ao1 m.bx.length ac1 53 boxC (wdTo m.bx more 0) :: _) by rw [wdTo_zero]; exact hm))
  refine Cod.only ((fun k => [old w S, md m, blk mb (mdV m) 25, blk nb [.slice ao1 m.bx.length ac1, .slice m.uo m.us.length m.uc] 25, arr ao1 m.bx.length ac1 53 boxC (wdTo m.bx more k)]) 0) (by (repeat (first | exact Takes.nil | exact Take.head | apply Take.tail | apply Takes.cons))) ?_
  apply Cod.loop (σ := Nat) (fun k => k ≤ m.bx.length ∧ ∀ j, j < k → (m.bx.getD j default).2 ≤ 20 - more) (fun k => [(1, .int .i64 more), (2, ptr mb), (5, ptr nb), (27, .slice ao1 m.bx.length ac1), (28, .int .i64 (m.bx.length : Int)), (29, .int .i64 (k : Int))]) (fun k => [old w S, md m, blk mb (mdV m) 25, blk nb [.slice ao1 m.bx.length ac1, .slice m.uo m.us.length m.uc] 25, arr ao1 m.bx.length ac1 53 boxC (wdTo m.bx more k)]) (fun k => m.bx.length - k) 0
  rotate_left
  exact sb
  exact tks
  intro k hk K1 hK1
  (try conv => rhs; simp only [List.cons_append, List.nil_append])
  rotate_left
  · exact ⟨Nat.zero_le _, fun j hj => by omega⟩
  obtain ⟨hk, hgood⟩ := hk
  by_cases hkn : k < m.bx.length
  · have hat := wdTo_at m.bx more hkn
    have hsu := wdTo_succ m.bx more hkn
    have hbd := hwf.bx (m.bx.getD k default) (by rw [List.getD_eq_getElem?_getD, List.getElem?_eq_getElem hkn]; exact List.getElem_mem _)
    obtain ⟨-, hb1, hb2⟩ := hbd
    have hat2 : ((wdTo m.bx more k).getD k default).2 = (m.bx.getD k default).2 := by rw [hat]
    by_cases hc : 20 - more < ((wdTo m.bx more k).getD k default).2
    · repeat (first | refine go (k := ?_) | (refine goB (k := ?_); intro b) | (refine goA (k := ?_); intro ao cap))
      (refine End.done1_ (()) (he := by (first | exact rfl | (refine congrArg (Value.int _) ?_; omega) | (refine congrArg (Value.int _) ?_; dsimp only; omega))) (hp := ?_))
      trivial
    · have hnx : ∀ j, j < k + 1 → (m.bx.getD j default).2 ≤ 20 - more := fun j hj => by
        by_cases e : j = k
        · subst e; rw [hat] at hc; omega
        · exact hgood j (by omega)
      repeat (first | refine go (k := ?_) | (refine goB (k := ?_); intro b) | (refine goA (k := ?_); intro ao cap))
      (apply Run.op; exact rfl; refine OpT.storeE_ (f := boxC) (l := wdTo m.bx more k) (i := k) (off := 0 + 1) (vs := [.int .i64 (((wdTo m.bx more k).getD k default).2 + more)]) (a' := ((m.bx.getD k default).1, (m.bx.getD k default).2 + more)) (hp := (show Put (boxC ((wdTo m.bx more k).getD k default)) (0 + 1) [.int .i64 (((wdTo m.bx more k).getD k default).2 + more)] (boxC ((m.bx.getD k default).1, (m.bx.getD k default).2 + more)) by rw [hat]; (repeat (first | exact Put.done | apply Put.take | apply Put.skip)))) (k := ?_))
      rw [hsu]
      repeat (first | refine go (k := ?_) | (refine goB (k := ?_); intro b) | (refine goA (k := ?_); intro ao cap))
      refine End.round0_ hK1 (k + 1) ?_ ?_
      · exact ⟨by omega, hnx⟩
      · omega
  · obtain rfl : k = m.bx.length := by omega
    clear hK1
    rw [wdTo_all]
    have hwf2 := wdM_wf hwf (by omega) hgood ao1 ac1
    repeat (first | refine go (k := ?_) | (refine goB (k := ?_); intro b) | (refine goA (k := ?_); intro ao cap))
    apply Run.imp' (fun w hm => Mem.rdNil hm)
    ((first | (apply Run.op; exact rfl) | refine Run.yes_ (h := ?_)); refine OpT.call0_ (spec := settle_is m hwf ⟨none, 0, []⟩ 100) (r := (fun w => Reads.md (by (repeat (first | exact Take.head | apply Take.tail))) (Reads.rd (by (repeat (first | exact Take.head | apply Take.tail))) .nil))) (k := ?_); intro s hs; (try conv => rhs; simp only [List.cons_append, List.nil_append]))
    obtain ⟨r, rfl⟩ : ∃ x, x = s := ⟨_, rfl⟩
    have hr := hs
    repeat (first | refine go (k := ?_) | (refine goB (k := ?_); intro b) | (refine goA (k := ?_); intro ao cap))
    obtain ⟨rb, rfl⟩ : ∃ x, x = b := ⟨_, rfl⟩
    have hsp := settle_is (wdM m more ao1 ac1) hwf2 ⟨none, 0, []⟩ 100
    rw [wdM_val] at hsp
    apply Run.imp' (fun w hm => Mem.mdDup (m := m) (by (repeat (first | exact Take.head | apply Take.tail))) hm)
    apply Run.imp' (fun w hm => wdM_mem (m := m) (more := more) (bo := ao1) (bc := ac1) (by (repeat (first | exact Takes.nil | exact Take.head | apply Take.tail | apply Takes.cons))) hm)
    ((first | (apply Run.op; exact rfl) | refine Run.yes_ (h := ?_)); refine OpT.call0_ (spec := hsp) (r := (fun w => Reads.md (by (repeat (first | exact Take.head | apply Take.tail))) (Reads.rd (by (repeat (first | exact Take.head | apply Take.tail))) .nil))) (k := ?_); intro s hs; (try conv => rhs; simp only [List.cons_append, List.nil_append]))
    obtain ⟨v, rfl⟩ : ∃ x, x = s := ⟨_, rfl⟩
    have hv := hs
    have hW := fun h1 h2 => set_wider hwf (by omega) hgood (bo := ao1) (bc := ac1) (q := 100) (r := r) (v := v) h1 h2 hr hv
    clear hs hr hv hsp
    generalize Vm.setErr m.mdl [] 100 = e1 at *
    generalize Vm.setErr (wdM m more ao1 ac1).mdl [] 100 = e2 at *
    by_cases g1 : ¬ e1 = 0
    · repeat (first | refine go (k := ?_) | (refine goB (k := ?_); intro b) | (refine goA (k := ?_); intro ao cap))
      (refine End.done1_ (()) (he := by (first | exact rfl | (refine congrArg (Value.int _) ?_; omega) | (refine congrArg (Value.int _) ?_; dsimp only; omega))) (hp := ?_))
      trivial
    by_cases g2 : ¬ e2 = 0
    · repeat (first | refine go (k := ?_) | (refine goB (k := ?_); intro b) | (refine goA (k := ?_); intro ao cap))
      (refine End.done1_ (()) (he := by (first | exact rfl | (refine congrArg (Value.int _) ?_; omega) | (refine congrArg (Value.int _) ?_; dsimp only; omega))) (hp := ?_))
      trivial
    obtain ⟨w1, w2⟩ := hW (Classical.not_not.1 g1) (Classical.not_not.1 g2)
    clear hW
    repeat (first | refine go (k := ?_) | (refine goB (k := ?_); intro b) | (refine goA (k := ?_); intro ao cap))
    obtain ⟨vb, rfl⟩ : ∃ x, x = b := ⟨_, rfl⟩
    apply Cod.imp (fun w hm => wo_own r (by (repeat (first | exact Takes.nil | exact Take.head | apply Take.tail | apply Takes.cons))) hm)
    apply Cod.imp (fun w hm => wo_own v (by (repeat (first | exact Takes.nil | exact Take.head | apply Take.tail | apply Takes.cons))) hm)
    (try conv => rhs; simp only [List.cons_append, List.nil_append])
    apply Cod.fact (r.ends.length ≤ 9223372036854775807) (fun w hm => (ed_holds.1 (hm.has (c := ed r.el) (by (repeat (first | exact Take.head | apply Take.tail))))).out.2.1)
    intro hfs
    apply Cod.imp (fun w hm => Mem.edOut (f := r.el) (by (repeat (first | exact Take.head | apply Take.tail))) hm)
    apply Cod.imp (fun w hm => Mem.edOut (f := v.el) (by (repeat (first | exact Take.head | apply Take.tail))) hm)
    refine Cod.only ((fun k => [old w S, ed r.el, ed v.el, rd r.eo r.ends.length r.ec enC r.ends, rd v.eo v.ends.length v.ec enC v.ends, blk rb r.cells 31, blk vb v.cells 31]) 0) (by (repeat (first | exact Takes.nil | exact Take.head | apply Take.tail | apply Takes.cons))) ?_
    apply Cod.loop (σ := Nat) (fun k => k ≤ r.ends.length) (fun k => [(7, ptr rb), (9, ptr vb), (79, .slice r.eo r.ends.length r.ec), (80, .int .i64 (r.ends.length : Int)), (81, .int .i64 (k : Int))]) (fun k => [old w S, ed r.el, ed v.el, rd r.eo r.ends.length r.ec enC r.ends, rd v.eo v.ends.length v.ec enC v.ends, blk rb r.cells 31, blk vb v.cells 31]) (fun k => r.ends.length - k) 0
    rotate_left
    exact sb
    exact tks
    intro k hk K1 hK1
    (try conv => rhs; simp only [List.cons_append, List.nil_append])
    rotate_left
    · exact Nat.zero_le _
    by_cases hkn : k < r.ends.length
    · apply Cod.imp (fun w hm => Mem.edRow (f := r.el) (k := k) hkn (by (repeat (first | exact Take.head | apply Take.tail))) hm)
      apply Cod.imp (fun w hm => Mem.edRow (f := v.el) (k := k) (by show k < v.ends.length; omega) (by (repeat (first | exact Take.head | apply Take.tail))) hm)
      repeat (first | refine go (k := ?_) | (refine goB (k := ?_); intro b) | (refine goA (k := ?_); intro ao cap))
      (first | (apply Run.op; exact rfl) | refine Run.yes_ (h := ?_)); refine OpT.call0_ (spec := begins_is ⟨(r.ends.getD k default).oo, (r.ends.getD k default).oc, (r.ends.getD k default).out⟩ ⟨(v.ends.getD k default).oo, (v.ends.getD k default).oc, (v.ends.getD k default).out⟩ (w2 k hkn)) (k := ?_); intro s hs; (try conv => rhs; simp only [List.cons_append, List.nil_append])
      repeat (first | refine go (k := ?_) | (refine goB (k := ?_); intro b) | (refine goA (k := ?_); intro ao cap))
      refine End.round0_ hK1 (k + 1) ?_ ?_
      · omega
      · omega
    · repeat (first | refine go (k := ?_) | (refine goB (k := ?_); intro b) | (refine goA (k := ?_); intro ao cap))
      (refine End.done1_ (()) (he := by (first | exact rfl | (refine congrArg (Value.int _) ?_; omega) | (refine congrArg (Value.int _) ?_; dsimp only; omega))) (hp := ?_))
      trivial
end Go.Proofs.Ytjehflelkpacfaa.Vw
