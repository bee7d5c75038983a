/- What comes out of a box is what went in. Plain Lean. -/
import Derived.Test.YtjehflelkpacfaaM36
namespace Go.Proofs.Ytjehflelkpacfaa.Vm
open ImgM Ver Opt
set_option linter.unusedVariables false
set_option linter.unusedSimpArgs false
/-- what the boxes hold after the first k of what is told -/
def bxTo (n : Nat) (l : List (Nat × Ev)) (k : Nat) : List (List Int) := ((l.take k).map (·.2)).foldl wplay (List.replicate n [])
theorem bxTo_zero (n : Nat) (l : List (Nat × Ev)) : bxTo n l 0 = List.replicate n [] := rfl
theorem bxTo_succ (n : Nat) (l : List (Nat × Ev)) {k : Nat} (hk : k < l.length) : bxTo n l (k + 1) = wplay (bxTo n l k) (l.getD k default).2 := by
  unfold bxTo
  rw [List.take_succ_eq_append_getElem hk, List.map_append, List.foldl_append, List.getD_eq_getElem?_getD, List.getElem?_eq_getElem hk]; rfl
theorem wplay_len (ws : List (List Int)) (e : Ev) : (wplay ws e).length = ws.length := by
  unfold wplay
  split
  · simp
  · split
    · simp
    · rfl
theorem bxTo_len (n : Nat) (l : List (Nat × Ev)) (k : Nat) : (bxTo n l k).length = n := by
  unfold bxTo
  generalize (l.take k).map (·.2) = q
  have : ∀ (q : List Ev) (ws : List (List Int)), (q.foldl wplay ws).length = ws.length := by
    intro q
    induction q with
    | nil => intro ws; rfl
    | cons a q ih => intro ws; rw [List.foldl_cons, ih, wplay_len]
  rw [this]; simp
/-- WHAT COMES OUT IS WHAT WENT IN -/
theorem trace_boxes {M : Mdl} {T : Nat → Int → Option Shape} (hC : Certs M T) (hR : Right M) (ps : List (Int × Int)) :
    (∀ k, k < (Vm.picks M true ps (Ma.init M)).2.bs.log.length → Fine M (bxTo M.boxes.length (Vm.picks M true ps (Ma.init M)).2.bs.log k) ((Vm.picks M true ps (Ma.init M)).2.bs.log.getD k default).2) ∧
    bxTo M.boxes.length (Vm.picks M true ps (Ma.init M)).2.bs.log (Vm.picks M true ps (Ma.init M)).2.bs.log.length = (Vm.picks M false ps (Ma.init M)).2.bs.ws := by
  obtain ⟨xs, hS⟩ := Stood.pickds ps (Stood.init M true)
  have hT := Told.picks (M := M) ps (c := Ma.init M) (c' := Ma.init M) ⟨rfl, rfl, rfl⟩
  have h2 := (hS.log rfl).2
  have h3 := hS.fine rfl _ _ (owns_of hC hR)
  rw [hT.ws] at h2
  generalize (Vm.picks M true ps (Ma.init M)).2.bs.log = l at *
  refine ⟨fun k hk => ?_, ?_⟩
  · have e : l = l.take k ++ l.getD k default :: l.drop (k + 1) := by
      rw [List.getD_eq_getElem?_getD, List.getElem?_eq_getElem hk, Option.getD_some, List.getElem_cons_drop, List.take_append_drop]
    refine h3 ((l.take k).map (·.2)) (l.getD k default).2 ((l.drop (k + 1)).map (·.2)) ?_
    conv => lhs; rw [e]
    rw [List.map_append, List.map_cons]
  · unfold bxTo
    rw [List.take_length]; exact h2
end Go.Proofs.Ytjehflelkpacfaa.Vm

/- SchedKahn, walked. -/
namespace Go.Proofs.Ytjehflelkpacfaa.Vw
open Go.RowKit Go.Proofs.Ytjehflelkpacfaa.Img
set_option linter.unusedVariables false
set_option linter.unusedSimpArgs false
attribute [local irreducible] Run Cod End OpT Still RunQ RunS RunT Fn PutOk
section
variable {M : ImgM.Mdl} {ps : List (Int × Int)} {q : Int}
end
attribute [local irreducible] Ver.verify Vm.wrong Vm.picks Vm.setErr Vm.settled
end Go.Proofs.Ytjehflelkpacfaa.Vw

/- How each task stands at rest. Plain Lean. -/
namespace Go.Proofs.Ytjehflelkpacfaa.Vm
open ImgM Ver Opt
set_option linter.unusedVariables false
set_option linter.unusedSimpArgs false
section
variable {x : Int} {M : Mdl}
end
end Go.Proofs.Ytjehflelkpacfaa.Vm

/- SchedRest, walked. -/
namespace Go.Proofs.Ytjehflelkpacfaa.Vw
open Go.RowKit Go.Proofs.Ytjehflelkpacfaa.Img
set_option linter.unusedVariables false
set_option linter.unusedSimpArgs false
attribute [local irreducible] Run Cod End OpT Still RunQ RunS RunT Fn PutOk
def RdL (m : ML) (r : WoL) (k : Nat) : Prop :=
  ((r.ends.getD k default).st = 4 ∧ (r.ends.getD k default).bx = 0 ∧ (r.ends.getD k default).tr = 0) ∨ ((r.ends.getD k default).st = 5 ∧ (r.ends.getD k default).bx = 0 ∧ (r.ends.getD k default).tr ≠ 0) ∨
  ∃ b : Nat, b < m.bx.length ∧ (r.ends.getD k default).bx = (b : Int) ∧ (((r.ends.getD k default).st = 2 ∧ ((r.rows.getD b default).l.length : Int) = (m.bx.getD b default).2) ∨ ((r.ends.getD k default).st = 3 ∧ (r.rows.getD b default).l.length = 0))
structure RestL (m : ML) (r : WoL) : Prop where
  len : r.rows.length = m.bx.length
  fit : ∀ b, b < m.bx.length → ((r.rows.getD b default).l.length : Int) ≤ (m.bx.getD b default).2
  ends : ∀ k, k < r.ends.length → RdL m r k
theorem en_at {r : WoL} {c : Vm.Ma} (h : r.ends.map enOf = c.ts.map tkOf) {k : Nat} (hk : k < r.ends.length) : k < c.ts.length ∧ enOf (r.ends.getD k default) = tkOf (c.ts.getD k default) := by
  have hl := congrArg List.length h
  simp only [List.length_map] at hl
  refine ⟨by omega, ?_⟩
  have h1 : (r.ends.map enOf)[k]? = (c.ts.map tkOf)[k]? := by rw [h]
  rw [List.getElem?_map, List.getElem?_map, List.getElem?_eq_getElem hk, List.getElem?_eq_getElem (show k < c.ts.length by omega)] at h1
  rw [List.getD_eq_getElem?_getD, List.getD_eq_getElem?_getD, List.getElem?_eq_getElem hk, List.getElem?_eq_getElem (show k < c.ts.length by omega)]
  simpa using h1
attribute [local irreducible] Ver.verify Vm.wrong Vm.picks Vm.setErr Vm.settled
end Go.Proofs.Ytjehflelkpacfaa.Vw

/- TraceBoxes, walked. -/
namespace Go.Proofs.Ytjehflelkpacfaa.Vw
open Go.RowKit Go.Proofs.Ytjehflelkpacfaa.Img
set_option linter.unusedVariables false
set_option linter.unusedSimpArgs false
theorem Mem.rowsNilT {w : World} {L : List Chunk} (t : TypeId) (n : Nat) (h : Mem w L) : Mem w (bag ((List.replicate n (⟨none, 0, []⟩ : Rw)).map (rowM t)) :: L) := by
  have key : ∀ n : Nat, Mem w ((List.replicate n (⟨none, 0, []⟩ : Rw)).map (rowM t) ++ L) := fun n => by
    induction n with
    | zero => exact h
    | succ n ih => rw [List.replicate_succ, List.map_cons]; exact ih.nilArr t i64c
  exact Mem.pack (key n) (fun c hc => by
    obtain ⟨r, -, rfl⟩ := List.mem_map.1 hc
    exact arr_excl)
/-- what the law asks of an event, the boxes being so -/
structure EvOk (bx : List (Int × Int)) (ws : List (List Int)) (e : Vm.Ev) : Prop where
  send : e.1 = 2 → ∃ B : Nat, e.2.1 = (B : Int) ∧ B < bx.length ∧ ((ws.getD B []).length : Int) + 1 ≤ (bx.getD B default).2 ∧ (bx.getD B default).2 ≤ 20
  recv : e.1 = 3 → ∃ B : Nat, e.2.1 = (B : Int) ∧ B < bx.length ∧ (ws.getD B []).length ≠ 0 ∧ (ws.getD B []).headD 0 = e.2.2
theorem tb_facts {m : ML} (hwf : m.Wf) {ps : List (Int × Int)} {a : TrL} {r : RunL} (h1 : Vm.wrong m.mdl ps.length = 0) (ha : TrIs m ps a) (hr : RunIs m ps r) :
    (∀ k, k < a.l.length → EvOk m.bx (Vm.bxTo m.bx.length a.l k) (a.l.getD k default).2) ∧ r.w.rows.map (·.l) = Vm.bxTo m.bx.length a.l a.l.length := by
  unfold TrIs at ha
  unfold RunIs at hr
  rw [if_pos h1] at ha hr
  obtain ⟨hv, -⟩ := wrong_zero h1
  obtain ⟨T, hC⟩ := certs_ml hwf hv
  obtain ⟨g1, g2⟩ := Vm.trace_boxes hC (Ver.verify_iff.1 hv) ps
  rw [← ha] at g1 g2
  have hb : m.mdl.boxes.length = m.bx.length := rfl
  rw [hb] at g1 g2
  refine ⟨fun k hk => ?_, ?_⟩
  · obtain ⟨f1, f2⟩ := g1 k hk
    refine ⟨fun h => ?_, fun h => ?_⟩
    · obtain ⟨x1, x2, x3⟩ := f1 h
      have hc := caps_ok hv _ x2
      have e : Vm.capN m.mdl (a.l.getD k default).2.2.1.toNat = (m.bx.getD (a.l.getD k default).2.2.1.toNat default).2.toNat := rfl
      exact ⟨_, (Int.toNat_of_nonneg x1).symm, x2, by omega, by omega⟩
    · obtain ⟨x1, x2, x3, x4⟩ := f2 h
      exact ⟨_, (Int.toNat_of_nonneg x1).symm, x2, x3, x4⟩
  · rw [g2]
    exact hr.w.rows
theorem wp_send {s u : List Rw} {r r' : Rw} {ws : List (List Int)} {e : Vm.Ev} (hws : (s ++ r :: u).map (·.l) = ws) (h2 : e.1 = 2) (hB : e.2.1 = (s.length : Int)) (hr : r'.l = r.l ++ [e.2.2]) : (s ++ r' :: u).map (·.l) = Vm.wplay ws e := by
  unfold Vm.wplay
  rw [if_pos h2, hB, Int.toNat_natCast, ← hws, getD_ws, getD_split, ← hr]
  have e := set_split (s.map (·.l)) (u.map (·.l)) r.l r'.l
  simp only [List.length_map] at e
  simp only [List.map_append, List.map_cons]
  exact e.symm
theorem wp_recv {s u : List Rw} {r r' : Rw} {ws : List (List Int)} {e : Vm.Ev} (hws : (s ++ r :: u).map (·.l) = ws) (h2 : e.1 = 3) (hB : e.2.1 = (s.length : Int)) (hr : r'.l = r.l.tail) : (s ++ r' :: u).map (·.l) = Vm.wplay ws e := by
  unfold Vm.wplay
  rw [if_neg (by omega), if_pos h2, hB, Int.toNat_natCast, ← hws, getD_ws, getD_split, ← hr]
  have e := set_split (s.map (·.l)) (u.map (·.l)) r.l r'.l
  simp only [List.length_map] at e
  simp only [List.map_append, List.map_cons]
  exact e.symm
attribute [local irreducible] Run Cod End OpT Still RunQ RunS RunT Fn PutOk
attribute [local irreducible] Ver.verify Vm.wrong Vm.picks Vm.bxTo
set_option maxRecDepth 100000 in
set_option maxHeartbeats 4000000 in
theorem traceBoxes_is (m : ML) (hwf : m.Wf) (ps : PkL) : Fn Try.prog 7 #[m.val, ps.val] [md m, pkR ps] [] (σ := Unit) (fun _ => True) (fun _ => .bool true) (fun _ => []) := by
  refine Fn.enter (args := [m.val, ps.val]) Try.func7 rfl _ Try.ntmps7 rfl (by simp [md_excl, rd_excl]) (fun w S => ?_)
  (try conv => rhs; simp only [List.cons_append, List.nil_append])
  repeat (first | refine go (k := ?_) | (refine goB (k := ?_); intro b) | (refine goA (k := ?_); intro ao cap))
  obtain ⟨mb, rfl⟩ : ∃ x, x = b := ⟨_, rfl⟩
  (apply Run.op; exact rfl; refine OpT.call0_ (spec := alive10_is) (k := ?_); intro s hs; (try conv => rhs; simp only [List.cons_append, List.nil_append]))
  repeat (first | refine go (k := ?_) | (refine goB (k := ?_); intro b) | (refine goA (k := ?_); intro ao cap))
  ((first | (apply Run.op; exact rfl) | refine Run.yes_ (h := ?_)); refine OpT.call0_ (spec := trace_is m hwf ps) (r := (fun w => Reads.md (by (repeat (first | exact Take.head | apply Take.tail))) (Reads.rd (by (repeat (first | exact Take.head | apply Take.tail))) .nil))) (k := ?_); intro s hs; (try conv => rhs; simp only [List.cons_append, List.nil_append]))
  obtain ⟨v, rfl⟩ : ∃ x, x = s := ⟨_, rfl⟩
  have ha := hs
  repeat (first | refine go (k := ?_) | (refine goB (k := ?_); intro b) | (refine goA (k := ?_); intro ao cap))
  ((first | (apply Run.op; exact rfl) | refine Run.yes_ (h := ?_)); refine OpT.call0_ (spec := run_is m hwf ps) (r := (fun w => Reads.md (by (repeat (first | exact Take.head | apply Take.tail))) (Reads.rd (by (repeat (first | exact Take.head | apply Take.tail))) .nil))) (k := ?_); intro s hs; (try conv => rhs; simp only [List.cons_append, List.nil_append]))
  obtain ⟨r, rfl⟩ : ∃ x, x = s := ⟨_, rfl⟩
  have hb := hs
  have hk := fun h1 => tb_facts hwf h1 ha hb
  have hsm := tr_small hwf ha
  have h30 := fun h1 => (formed (Ver.verify_iff.1 (wrong_zero (M := m.mdl) (n := ps.l.length) h1).1).form).boxes
  clear hs ha hb
  generalize Vm.wrong m.mdl ps.l.length = W at *
  by_cases g1 : ¬ W = 0
  · repeat (first | refine go (k := ?_) | (refine goB (k := ?_); intro b) | (refine goA (k := ?_); intro ao cap))
    (refine End.done1_ (()) (he := by exact bool_eq (decide_eq_true rfl)) (hp := ?_))
    trivial
  obtain ⟨hev, hrows⟩ := hk (Classical.not_not.1 g1)
  have hb30 := h30 (Classical.not_not.1 g1)
  clear hk h30
  repeat (first | refine go (k := ?_) | (refine goB (k := ?_); intro b) | (refine goA (k := ?_); intro ao cap))
  obtain ⟨wb, rfl⟩ : ∃ x, x = b := ⟨_, rfl⟩
  apply Run.op
  exact rfl
  refine OpT.makeSlice_ (f := rwC) (iα := inferInstance) (ef := inferInstance) (z := ⟨none, 0, []⟩) (n := m.bx.length) (k := ?_)
  intro ib
  (try conv => rhs; simp only [List.cons_append, List.nil_append])
  repeat (first | refine go (k := ?_) | (refine goB (k := ?_); intro b) | (refine goA (k := ?_); intro ao cap))
  apply Cod.imp (fun w hm => Mem.rowsNilT 2 m.bx.length hm)
  have hw0 : (List.replicate m.bx.length (⟨none, 0, []⟩ : Rw)).map (·.l) = Vm.bxTo m.bx.length v.l 0 := by rw [Vm.bxTo_zero, List.map_replicate]
  generalize List.replicate m.bx.length (⟨none, 0, []⟩ : Rw) = rows0 at *
  refine Cod.only ((fun z => [old w S, md m, blk mb (mdV m) 25, blk wb r.w.cells 31, arr v.o v.l.length v.c 50 evC v.l, arr (some ⟨ib, 0, none⟩) m.bx.length m.bx.length 51 rwC z.2, bag (z.2.map (rowM 2))] ++ r.w.mem) (0, rows0)) (by (repeat (first | exact Takes.nil | exact Take.head | apply Take.tail | apply Takes.cons))) ?_
  apply Cod.loop (σ := Nat × List Rw) (fun z => z.1 ≤ v.l.length ∧ z.2.map (·.l) = Vm.bxTo m.bx.length v.l z.1) (fun z => [(2, ptr mb), (5, v.val), (7, ptr wb), (10, .slice (some ⟨ib, 0, none⟩) m.bx.length m.bx.length), (41, .slice v.o v.l.length v.c), (42, .int .i64 (v.l.length : Int)), (43, .int .i64 (z.1 : Int))]) (fun z => [old w S, md m, blk mb (mdV m) 25, blk wb r.w.cells 31, arr v.o v.l.length v.c 50 evC v.l, arr (some ⟨ib, 0, none⟩) m.bx.length m.bx.length 51 rwC z.2, bag (z.2.map (rowM 2))] ++ r.w.mem) (fun z => v.l.length - z.1) (0, rows0)
  rotate_left
  exact sb
  exact tks
  intro z hz1 K1 hK1
  (try conv => rhs; simp only [List.cons_append, List.nil_append])
  rotate_left
  · exact ⟨Nat.zero_le _, hw0⟩
  obtain ⟨k, rows⟩ := z
  obtain ⟨hk, hws⟩ := hz1
  dsimp only at hk hws hK1 ⊢
  have hrl : rows.length = m.bx.length := by
    have := congrArg List.length hws
    rwa [List.length_map, Vm.bxTo_len] at this
  by_cases hkn : k < v.l.length
  · have hsn := Vm.bxTo_succ m.bx.length v.l hkn
    obtain ⟨f2, f3⟩ := hev k hkn
    rw [← hws] at hsn f2 f3
    by_cases h2 : (v.l.getD k default).2.1 = 2
    · obtain ⟨B, b1, b2, b3, b4⟩ := f2 h2
      rw [getD_ws] at b3
      obtain ⟨s1, u1, hsp, hlen⟩ := split_at (l := rows) (k := B) (by omega)
      obtain ⟨x, hx⟩ : ∃ x, x = rows.getD B default := ⟨_, rfl⟩
      rw [← hx] at hsp b3
      subst hsp
      subst hlen
      have hgr : (s1 ++ x :: u1).getD s1.length default = x := getD_split _ _ _
      clear hx
      apply Cod.imp (fun w hm => Mem.rowOut hm (by (repeat (first | exact Take.head | apply Take.tail))))
      repeat (first | refine go (k := ?_) | (refine goB (k := ?_); intro b) | (refine goA (k := ?_); intro ao cap))
      rw [b1]
      obtain ⟨v0, hv0⟩ : ∃ y, y = (v.l.getD k default).2.2.2 := ⟨_, rfl⟩
      rw [← hv0]
      apply Cod.draw 13 ([blk b [.int .i64 ((v.l.getD k default).1 : Int), .int .i64 (v.l.getD k default).2.1, .int .i64 (s1.length : Int), .int .i64 v0] 50, arr (some ⟨ib, 0, none⟩) m.bx.length m.bx.length 51 rwC (s1 ++ x :: u1)]) (by kernel_rfl) 14 rfl
      refine RunT.takeR_ 0 (h := ?_)
      refine RunT.takeR_ 1 (h := ?_)
      refine RunT.takeR_ 2 (h := ?_)
      refine RunT.takeR_ 3 (h := ?_)
      refine RunT.takeR_ 4 (h := ?_)
      refine RunT.takeR_ 5 (h := ?_)
      refine RunT.takeR_ 6 (h := ?_)
      refine RunT.takeR_ 7 (h := ?_)
      refine RunT.takeR_ 8 (h := ?_)
      refine RunT.takeR_ 9 (h := ?_)
      rw [hgr]
      (refine RunT.one_ 10 (h := ?_); (first | refine OpT.val_ (k := ?_) | (refine OpT.alloc_ (k := ?_); intro b) | (refine OpT.box_ (k := ?_); intro b) | refine OpT.store_ (k := ?_) | (refine OpT.buildSlice_ (k := ?_); intro b) | (refine OpT.buildSlice0_ (k := ?_); intro b) | (refine OpT.append1_ (k := ?_); intro ao cap) | (refine OpT.cutA0_ (k := ?_); intro ao cap) | (refine OpT.cutR0_ (k := ?_); intro ao cap) | (refine OpT.cutA1_ (k := ?_); intro ao cap) | (refine OpT.cutA_ (k := ?_); intro ao cap) | (refine OpT.cutR_ (k := ?_); intro ao cap)); refine And.intro gud ?_)
      (refine RunT.one_ 11 (h := ?_); refine OpT.append1_ (a := v0) (k := ?_); intro ao cap; refine And.intro gud ?_; (try conv => rhs; simp only [List.cons_append, List.nil_append]))
      refine RunT.takeR_ 12 (h := ?_)
      (refine RunT.one_ 13 (h := ?_); refine OpT.storeE_ (f := rwC) (l := s1 ++ x :: u1) (i := s1.length) (off := 0) (vs := [.slice ao (x.l.length + 1) cap]) (a' := (⟨ao, cap, x.l ++ [v0]⟩ : Rw)) (hp := by rw [hgr, show rwC ⟨ao, cap, x.l ++ [v0]⟩ = [.slice ao (x.l.length + 1) cap] by simp [rwC]]; exact Put.take .done) (k := ?_); refine And.intro gud ?_)
      rw [set_split]
      (apply RunT.done; kernel_rfl)
      have hle : (x.l ++ [v0]).length = x.l.length + 1 := by simp
      rw [← hle]
      obtain ⟨X, hX⟩ : ∃ X : Rw, X = ⟨ao, cap, x.l ++ [v0]⟩ := ⟨_, rfl⟩
      have hXl : X.l = x.l ++ [v0] := by rw [hX]
      have hgX : (s1 ++ X :: u1).getD s1.length default = X := getD_split _ _ _
      have hXn : X.l.length = x.l.length + 1 := by rw [hXl]; simp
      have hcap2 : ¬ ((m.bx.getD s1.length default).2 < (((s1 ++ X :: u1).getD s1.length default).l.length : Int)) := by rw [hgX]; omega
      rw [← hX]
      have hao : ao = X.o := by rw [hX]
      have hac : cap = X.c := by rw [hX]
      rw [hao, hac, ← hXl]
      apply End.imp (fun w hm => Mem.rowIn (r := X) hm (by (repeat (first | exact Take.head | apply Take.tail))) (by (repeat (first | exact Takes.nil | exact Take.head | apply Take.tail | apply Takes.cons))))
      repeat (first | refine go (k := ?_) | (refine goB (k := ?_); intro b) | (refine goA (k := ?_); intro ao cap))
      refine End.round0_ hK1 (k + 1, s1 ++ X :: u1) ?_ ?_
      · refine ⟨by dsimp only; omega, ?_⟩
        dsimp only
        rw [hsn]
        exact wp_send rfl h2 b1 (by rw [hXl, hv0])
      · dsimp only; omega
    by_cases h3 : (v.l.getD k default).2.1 = 3
    · obtain ⟨B, b1, b2, b3, b4⟩ := f3 h3
      rw [getD_ws] at b3 b4
      obtain ⟨s1, u1, hsp, hlen⟩ := split_at (l := rows) (k := B) (by omega)
      obtain ⟨x, hx⟩ : ∃ x, x = rows.getD B default := ⟨_, rfl⟩
      rw [← hx] at hsp b3 b4
      subst hsp
      subst hlen
      have hgr : (s1 ++ x :: u1).getD s1.length default = x := getD_split _ _ _
      clear hx
      apply Cod.imp (fun w hm => Mem.rowOut hm (by (repeat (first | exact Take.head | apply Take.tail))))
      repeat (first | refine go (k := ?_) | (refine goB (k := ?_); intro b) | (refine goA (k := ?_); intro ao cap))
      rw [b1]
      obtain ⟨v0, hv0⟩ : ∃ y, y = (v.l.getD k default).2.2.2 := ⟨_, rfl⟩
      rw [← hv0] at b4 ⊢
      have b5 : x.l.getD 0 default = v0 := by
        rw [← b4]
        cases x.l <;> rfl
      rw [Int.toNat_natCast, hgr]
      repeat (first | refine go (k := ?_) | (refine goB (k := ?_); intro b) | (refine goA (k := ?_); intro ao cap))
      rw [hgr]
      refine RunQ.yes_ (h := by (apply Still.at_; exact rfl; exact rfl; (first | (apply Rdb.arr; focus ((repeat (first | exact Take.head | apply Take.tail)); done)) | (apply Rdb.rd; focus ((repeat (first | exact Take.head | apply Take.tail)); done)) | (apply Rdb.md_units; focus ((repeat (first | exact Take.head | apply Take.tail)); done)) | (apply Rdb.md_boxes; focus ((repeat (first | exact Take.head | apply Take.tail)); done)) | (apply Rdb.md_code; (focus ((repeat (first | exact Take.head | apply Take.tail)); done)); (focus (first | assumption | omega))) | (apply Rdb.md_locals; (focus ((repeat (first | exact Take.head | apply Take.tail)); done)); (focus (first | assumption | omega))) | (apply Rdb.old; (focus assumption); (focus ((repeat (first | exact Take.head | apply Take.tail)); done)))); exact rfl; exact rfl; exact rfl; exact ix_zero; omega)) (k := ?_)
      repeat (first | refine go (k := ?_) | (refine goB (k := ?_); intro b) | (refine goA (k := ?_); intro ao cap))
      apply Cod.draw 10 ([blk b [.int .i64 ((v.l.getD k default).1 : Int), .int .i64 (v.l.getD k default).2.1, .int .i64 (s1.length : Int), .int .i64 v0] 50, arr (some ⟨ib, 0, none⟩) m.bx.length m.bx.length 51 rwC (s1 ++ x :: u1)]) (by kernel_rfl) 11 rfl
      refine RunT.takeR_ 0 (h := ?_)
      refine RunT.takeR_ 1 (h := ?_)
      refine RunT.takeR_ 2 (h := ?_)
      refine RunT.takeR_ 3 (h := ?_)
      refine RunT.takeR_ 4 (h := ?_)
      refine RunT.takeR_ 5 (h := ?_)
      refine RunT.takeR_ 6 (h := ?_)
      refine RunT.takeR_ 7 (h := ?_)
      rw [hgr]
      (refine RunT.one_ 8 (h := ?_); refine OpT.cutA1_ (lo := 1) (k := ?_); intro ao cap; refine And.intro gud ?_)
      refine RunT.takeR_ 9 (h := ?_)
      (refine RunT.one_ 10 (h := ?_); refine OpT.storeE_ (f := rwC) (l := s1 ++ x :: u1) (i := s1.length) (off := 0) (vs := [.slice ao (x.l.length - 1) cap]) (a' := (⟨ao, cap, x.l.drop 1⟩ : Rw)) (hp := by rw [hgr, show rwC ⟨ao, cap, x.l.drop 1⟩ = [.slice ao (x.l.length - 1) cap] by simp [rwC]]; exact Put.take .done) (k := ?_); refine And.intro gud ?_)
      rw [set_split]
      (apply RunT.done; kernel_rfl)
      have hle : (x.l.drop 1).length = x.l.length - 1 := by simp
      rw [← hle]
      obtain ⟨X, hX⟩ : ∃ X : Rw, X = ⟨ao, cap, x.l.drop 1⟩ := ⟨_, rfl⟩
      have hXl : X.l = x.l.drop 1 := by rw [hX]
      rw [← hX]
      have hao : ao = X.o := by rw [hX]
      have hac : cap = X.c := by rw [hX]
      rw [hao, hac, ← hXl]
      apply End.imp (fun w hm => Mem.rowIn (r := X) hm (by (repeat (first | exact Take.head | apply Take.tail))) (by (repeat (first | exact Takes.nil | exact Take.head | apply Take.tail | apply Takes.cons))))
      repeat (first | refine go (k := ?_) | (refine goB (k := ?_); intro b) | (refine goA (k := ?_); intro ao cap))
      refine End.round0_ hK1 (k + 1, s1 ++ X :: u1) ?_ ?_
      · refine ⟨by dsimp only; omega, ?_⟩
        dsimp only
        rw [hsn]
        exact wp_recv rfl h3 b1 (by rw [hXl, List.drop_one])
      · dsimp only; omega
    · have hw : Vm.wplay (rows.map (·.l)) (v.l.getD k default).2 = rows.map (·.l) := by unfold Vm.wplay; rw [if_neg h2, if_neg h3]
      rw [hw] at hsn
      repeat (first | refine go (k := ?_) | (refine goB (k := ?_); intro b) | (refine goA (k := ?_); intro ao cap))
      refine End.round0_ hK1 (k + 1, rows) ?_ ?_
      · exact ⟨by dsimp only; omega, hsn.symm⟩
      · dsimp only; omega
  · obtain rfl : k = v.l.length := by omega
    clear hK1
    rw [← hrl]
    apply Cod.imp (fun w hm => fd_own (f := ⟨some ⟨ib, 0, none⟩, rows.length, rows⟩) (t := 2) (e := 51) (by (repeat (first | exact Takes.nil | exact Take.head | apply Take.tail | apply Takes.cons))) hm)
    apply Cod.imp (fun w hm => wo_own r.w (by (repeat (first | exact Takes.nil | exact Take.head | apply Take.tail | apply Takes.cons))) hm)
    (try conv => rhs; simp only [List.cons_append, List.nil_append])
    repeat (first | refine go (k := ?_) | (refine goB (k := ?_); intro b) | (refine goA (k := ?_); intro ao cap))
    ((first | (apply Run.op; exact rfl) | refine Run.yes_ (h := ?_)); refine OpT.call0_ (spec := sameAll_is ⟨some ⟨ib, 0, none⟩, rows.length, rows⟩ r.w.fl (hws.trans hrows.symm)) (r := (fun w => Reads.any (by (repeat (first | exact Take.head | apply Take.tail))) fd_excl (Reads.any (by (repeat (first | exact Take.head | apply Take.tail))) fd_excl .nil))) (k := ?_); intro s hs; (try conv => rhs; simp only [List.cons_append, List.nil_append]))
    repeat (first | refine go (k := ?_) | (refine goB (k := ?_); intro b) | (refine goA (k := ?_); intro ao cap))
    (refine End.done1_ (()) (he := by (first | exact rfl | (refine congrArg (Value.int _) ?_; omega) | (refine congrArg (Value.int _) ?_; dsimp only; omega))) (hp := ?_))
    trivial
end Go.Proofs.Ytjehflelkpacfaa.Vw
