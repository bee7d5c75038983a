/- How all stands, walked. -/
import Derived.Test.YtjehflelkpacfaaM32
namespace Go.Proofs.Ytjehflelkpacfaa.Vw
open Go.RowKit Go.Proofs.Ytjehflelkpacfaa.Img
set_option linter.unusedVariables false
set_option linter.unusedSimpArgs false
attribute [local irreducible] Run Cod End OpT Still RunQ RunS RunT Fn PutOk
/-- an end of a task, and where what it put out lies -/
structure EnL where
  st : Int
  bx : Int
  tr : Int
  oo : Option Addr
  oc : Nat
  out : List Int
instance : Inhabited EnL := ⟨⟨0, 0, 0, none, 0, []⟩⟩
def enC (x : EnL) : List Value := [.int .i64 x.st, .int .i64 x.bx, .int .i64 x.tr, .slice x.oo x.out.length x.oc]
instance : Enc enC := ⟨fun _ => rfl, by decide, fun a u hu => by simp [enC] at hu; rcases hu with rfl | rfl | rfl | rfl <;> rfl⟩
def enOf (x : EnL) : Int × Int × Int × List Int := (x.st, x.bx, x.tr, x.out)
def tkOf (t : Vm.Tk) : Int × Int × Int × List Int := (t.st, t.bx, t.tr, t.out)
abbrev enM (x : EnL) : Chunk := arr x.oo x.out.length x.oc 2 i64c x.out
structure WoL where
  eo : Option Addr
  ec : Nat
  ends : List EnL
  wo : Option Addr
  wc : Nat
  rows : List Rw
  n : Nat
abbrev WoL.cells (r : WoL) : List Value := [.slice r.eo r.ends.length r.ec, .slice r.wo r.rows.length r.wc, .int .i64 (r.n : Int)]
abbrev WoL.mem (r : WoL) : List Chunk := [arr r.eo r.ends.length r.ec 56 enC r.ends, bag (r.ends.map enM), arr r.wo r.rows.length r.wc 51 rwC r.rows, bag (r.rows.map (rowM 2))]
/-- a world tells of a machine -/
structure WoL.Is (r : WoL) (c : Vm.Ma) : Prop where
  ends : r.ends.map enOf = c.ts.map tkOf
  rows : r.rows.map (·.l) = c.bs.ws
  n : r.n = c.n
theorem LkI.one {m : ML} {T : Nat → Int → Option Ver.Shape} {x : MaP} {ts ts0 : List TkL} {e : BxE} {n k : Nat} (h : MaIs m T x ts0 e n) (hl : LkI m ts0 e k ts) (hk : k < ts0.length) :
    ((maA ts0 e n).looked m.mdl).ts.getD k default = ((((ts.getD k default).sl (E0 m x.p) e).look m).lay (ts.getD k default).tb).tk := by
  have h1 := ((hl.next h hk).at_ k hk).2.2
  rw [if_pos (by omega)] at h1
  have hlu : k < ts.length := by rw [hl.len]; exact hk
  have e2 : (ts.set k ((((ts.getD k default).sl (E0 m x.p) e).look m).lay (ts.getD k default).tb)).getD k default = (((ts.getD k default).sl (E0 m x.p) e).look m).lay (ts.getD k default).tb := by
    rw [List.getD_eq_getElem?_getD, List.getElem?_set_self hlu]; rfl
  rw [e2] at h1
  rw [h1]
  unfold Vm.Ma.looked
  rw [List.getD_eq_getElem?_getD, List.getElem?_map]
  simp only [maA, List.getElem?_map, List.getElem?_eq_getElem hk, Option.map_some, Option.getD_some, List.getD_eq_getElem?_getD]
set_option maxRecDepth 100000 in
set_option maxHeartbeats 2000000 in
theorem world_is (m : ML) {T : Nat → Int → Option Ver.Shape} (hC : Vm.Certs m.mdl T) (x : MaP) (ts : List TkL) (e : BxE) (n : Nat) (h : MaIs m T x ts e n) (hn : ts.length ≤ 30) (hb30 : m.bx.length ≤ 30) :
    Fn Try.prog 25 #[ptr x.xb] [md m, bxR x.p] (maM m x ts e n) (σ := List TkL × WoL) (fun s => MaIs m T x s.1 e n ∧ maA s.1 e n = (maA ts e n).looked m.mdl ∧ s.2.Is ((maA ts e n).looked m.mdl))
      (fun s => .agg s.2.cells.toArray) (fun s => s.2.mem ++ maM m x s.1 e n) := by
  obtain ⟨C, hC'⟩ : ∃ C, C = (maA ts e n).looked m.mdl := ⟨_, rfl⟩
  rw [← hC']
  have htb : x.tbs.length = ts.length := by rw [← h.tbs, List.length_map]
  have hCl : C.ts.length = ts.length := by rw [hC']; simp [Vm.Ma.looked]
  have hbl : x.p.bs.length = m.bx.length := by rw [← h.bx.at_, List.length_map]; exact h.bx.len
  have hn2 := h.ok.n
  refine Fn.enter (args := [ptr x.xb]) Try.func25 rfl _ Try.ntmps25 rfl (by simp [rd_excl, md_excl]) (fun w S => ?_)
  (try conv => rhs; simp only [List.cons_append, List.nil_append])
  repeat (first | refine go (k := ?_) | (refine goB (k := ?_); intro b) | (refine goA (k := ?_); intro ao cap))
  obtain ⟨wb, rfl⟩ : ∃ x, x = b := ⟨_, rfl⟩
  obtain ⟨rb, rfl⟩ : ∃ x, x = b := ⟨_, rfl⟩
  apply Cod.imp (fun w hm => (hm.nilArr 56 enC).bagNil)
  refine Cod.only ((fun z => old w S :: md m :: bxR x.p :: blk rb [.slice none 0 0, .slice none 0 0, .int .i64 0] 31 :: blk wb [.slice z.2.2.1 z.1 z.2.2.2.1, .slice none 0 0, .int .i64 (n : Int)] 31 :: arr z.2.2.1 z.1 z.2.2.2.1 56 enC z.2.2.2.2 :: bag (z.2.2.2.2.map enM) :: maM m x z.2.1 e n) (0, ts, none, 0, [])) (by (repeat (first | exact Takes.nil | exact Take.head | apply Take.tail | apply Takes.cons))) ?_
  apply Cod.loop (σ := Nat × List TkL × Option Addr × Nat × List EnL) (fun z => z.1 ≤ ts.length ∧ LkI m ts e z.1 z.2.1 ∧ z.2.2.2.2.length = z.1 ∧ z.2.2.2.2.map enOf = (C.ts.take z.1).map tkOf) (fun z => [(0, ptr x.xb), (2, ptr rb), (3, ptr wb), (16, .slice x.to x.tbs.length x.tc), (17, .int .i64 (x.tbs.length : Int)), (18, .int .i64 (z.1 : Int))]) (fun z => old w S :: md m :: bxR x.p :: blk rb [.slice none 0 0, .slice none 0 0, .int .i64 0] 31 :: blk wb [.slice z.2.2.1 z.1 z.2.2.2.1, .slice none 0 0, .int .i64 (n : Int)] 31 :: arr z.2.2.1 z.1 z.2.2.2.1 56 enC z.2.2.2.2 :: bag (z.2.2.2.2.map enM) :: maM m x z.2.1 e n) (fun z => ts.length - z.1) (0, ts, none, 0, [])
  rotate_left
  exact sb
  exact tks
  intro z hz K1 hK1
  (try conv => rhs; simp only [List.cons_append, List.nil_append])
  rotate_left
  · exact ⟨Nat.zero_le _, LkI.zero h, rfl, rfl⟩
  obtain ⟨q, us, eo, ec, ends⟩ := z
  obtain ⟨hq0, hl, he1, he2⟩ := hz
  dsimp only at hq0 hl he1 he2 hK1 ⊢
  by_cases hq : q < ts.length
  · have hCq := hl.one h hq
    rw [← hC'] at hCq
    obtain ⟨t, ht⟩ : ∃ t, t = us.getD q default := ⟨_, rfl⟩
    have hz := (hl.at_ q hq).2.1.sl (E := E0 m x.p) h.bx
    have hg := h.good hl hq
    have hnx := hl.next h hq
    have hlu : q < us.length := by rw [hl.len]; exact hq
    rw [← ht] at hz hg hnx hCq
    have htbq : x.tbs.getD q default = t.tb := by
      rw [← hl.tbs h, ht, List.getD_eq_getElem?_getD, List.getD_eq_getElem?_getD, List.getElem?_map, List.getElem?_eq_getElem hlu]; rfl
    have hout : t.out.length ≤ 40000 := by
      have h1 := h.ok.looked.out (C.ts.getD q default) (by rw [hC']; exact h.ok.looked.at_ (by rw [← hC', hCl]; exact hq))
      rw [hCq] at h1
      have h2 : t.out.length ≤ 2 * n := h1
      have h3 : n ≤ 20000 := hn2
      omega
    apply Cod.imp (fun w hm => by have := Mem.tkOut (k := q) hm (by (repeat (first | exact Take.head | apply Take.tail))) hlu; rw [← ht] at this; exact this)
    (try conv => rhs; simp only [List.cons_append, List.nil_append])
    repeat (first | refine go (k := ?_) | (refine goB (k := ?_); intro b) | (refine goA (k := ?_); intro ao cap))
    rw [htbq]
    repeat (first | refine go (k := ?_) | (refine goB (k := ?_); intro b) | (refine goA (k := ?_); intro ao cap))
    ((first | (apply Run.op; exact rfl) | refine Run.yes_ (h := ?_)); refine OpT.call0_ (spec := look_task (E := E0 m x.p) ⟨t.tb, x.mb, m⟩ (t.sl (E0 m x.p) e) hC hz rfl hg) (r := (fun w => Reads.md (by (repeat (first | exact Take.head | apply Take.tail))) (Reads.any (by (repeat (first | exact Take.head | apply Take.tail))) (bxR_excl x.p) .nil))) (k := ?_); intro s hs; (try conv => rhs; simp only [List.cons_append, List.nil_append]))
    repeat (first | refine go (k := ?_) | (refine goB (k := ?_); intro b) | (refine goA (k := ?_); intro ao cap))
    apply Cod.imp (fun w hm => hm.nilArr 2 i64c)
    apply Cod.draw 23 ([tkM ⟨t.tb, x.mb, m⟩ ((t.sl (E0 m x.p) e).look m), blk wb [.slice eo q ec, .slice none 0 0, .int .i64 (n : Int)] 31]) (by kernel_rfl) 24 rfl
    refine RunT.takeR_ 0 (h := ?_)
    refine RunT.takeR_ 1 (h := ?_)
    refine RunT.takeR_ 2 (h := ?_)
    refine RunT.takeR_ 3 (h := ?_)
    refine RunT.takeR_ 4 (h := ?_)
    refine RunT.takeR_ 5 (h := ?_)
    refine RunT.takeR_ 6 (h := ?_)
    refine RunT.takeR_ 7 (h := ?_)
    refine RunT.takeR_ 8 (h := ?_)
    refine RunT.takeR_ 9 (h := ?_)
    refine RunT.takeR_ 10 (h := ?_)
    refine RunT.takeR_ 11 (h := ?_)
    refine RunT.takeR_ 12 (h := ?_)
    refine RunT.takeR_ 13 (h := ?_)
    refine RunT.takeR_ 14 (h := ?_)
    refine RunT.takeR_ 15 (h := ?_)
    refine RunT.takeR_ 16 (h := ?_)
    refine RunT.takeR_ 17 (h := ?_)
    have hout' : ((t.sl (E0 m x.p) e).look m).out.length ≤ 40000 := hout
    (refine RunT.one_ 18 (h := ?_); refine OpT.appendS_ (l2 := t.out) (k := ?_); intro no nc; refine And.intro gud ?_)
    simp only [Nat.zero_add, List.nil_append]
    refine RunT.takeR_ 19 (h := ?_)
    (refine RunT.one_ 20 (h := ?_); (first | refine OpT.val_ (k := ?_) | (refine OpT.alloc_ (k := ?_); intro b) | (refine OpT.box_ (k := ?_); intro b) | refine OpT.store_ (k := ?_) | (refine OpT.buildSlice_ (k := ?_); intro b) | (refine OpT.buildSlice0_ (k := ?_); intro b) | (refine OpT.append1_ (k := ?_); intro ao cap) | (refine OpT.cutA0_ (k := ?_); intro ao cap) | (refine OpT.cutR0_ (k := ?_); intro ao cap) | (refine OpT.cutA1_ (k := ?_); intro ao cap) | (refine OpT.cutA_ (k := ?_); intro ao cap) | (refine OpT.cutR_ (k := ?_); intro ao cap)); refine And.intro gud ?_)
    (refine RunT.one_ 21 (h := ?_); refine OpT.append1_ (a := (⟨((t.sl (E0 m x.p) e).look m).st, ((t.sl (E0 m x.p) e).look m).bx, ((t.sl (E0 m x.p) e).look m).tr, no, nc, t.out⟩ : EnL)) (k := ?_); intro ao cap; refine And.intro gud ?_; (try conv => rhs; simp only [List.cons_append, List.nil_append]))
    refine RunT.takeR_ 22 (h := ?_)
    (refine RunT.one_ 23 (h := ?_); (first | refine OpT.val_ (k := ?_) | (refine OpT.alloc_ (k := ?_); intro b) | (refine OpT.box_ (k := ?_); intro b) | refine OpT.store_ (k := ?_) | (refine OpT.buildSlice_ (k := ?_); intro b) | (refine OpT.buildSlice0_ (k := ?_); intro b) | (refine OpT.append1_ (k := ?_); intro ao cap) | (refine OpT.cutA0_ (k := ?_); intro ao cap) | (refine OpT.cutR0_ (k := ?_); intro ao cap) | (refine OpT.cutA1_ (k := ?_); intro ao cap) | (refine OpT.cutA_ (k := ?_); intro ao cap) | (refine OpT.cutR_ (k := ?_); intro ao cap)); refine And.intro gud ?_)
    (apply RunT.done; kernel_rfl)
    repeat (first | refine go (k := ?_) | (refine goB (k := ?_); intro b) | (refine goA (k := ?_); intro ao cap))
    obtain ⟨X, hX⟩ : ∃ X : EnL, X = ⟨((t.sl (E0 m x.p) e).look m).st, ((t.sl (E0 m x.p) e).look m).bx, ((t.sl (E0 m x.p) e).look m).tr, no, nc, t.out⟩ := ⟨_, rfl⟩
    have hXe : enOf X = tkOf (C.ts.getD q default) := by rw [hCq, hX]; rfl
    apply End.imp (fun w hm => Mem.tkIn (told := fun _ => .nilFunc) (t := ((t.sl (E0 m x.p) e).look m).lay t.tb) hm (by (repeat (first | exact Take.head | apply Take.tail))) (by (repeat (first | exact Takes.nil | exact Take.head | apply Take.tail | apply Takes.cons))) hlu)
    apply End.imp (fun w hm => Mem.bagAdd (cs := ends.map enM) (ds := [enM X]) hm (by (repeat (first | exact Take.head | apply Take.tail))) (by rw [hX]; (repeat (first | exact Takes.nil | exact Take.head | apply Take.tail | apply Takes.cons))) (fun c hc => by simp at hc; subst hc; exact arr_excl))
    have hmp : ends.map enM ++ [enM X] = (ends ++ [X]).map enM := by simp
    rw [hmp, ← hX]
    refine End.round0_ hK1 (q + 1, us.set q (((t.sl (E0 m x.p) e).look m).lay t.tb), ao, cap, ends ++ [X]) ?_ ?_
    · refine ⟨by dsimp only; omega, hnx, by simp [he1], ?_⟩
      have hqC : q < C.ts.length := by omega
      dsimp only
      rw [List.map_append, he2, List.take_succ_eq_append_getElem hqC, List.map_append]
      congr 1
      simp only [List.map_cons, List.map_nil]
      rw [hXe, List.getD_eq_getElem?_getD, List.getElem?_eq_getElem hqC]; rfl
    · dsimp only; omega
  · obtain rfl : q = ts.length := by omega
    obtain ⟨d1, d2⟩ := hl.done h
    clear hK1
    repeat (first | refine go (k := ?_) | (refine goB (k := ?_); intro b) | (refine goA (k := ?_); intro ao cap))
    apply Cod.imp (fun w hm => (hm.nilArr 51 rwC).bagNil)
    refine Cod.only ((fun z => old w S :: bxR x.p :: blk rb [.slice none 0 0, .slice none 0 0, .int .i64 0] 31 :: blk wb [.slice eo ts.length ec, .slice z.2.1 z.1 z.2.2.1, .int .i64 (n : Int)] 31 :: arr eo ts.length ec 56 enC ends :: bag (ends.map enM) :: arr z.2.1 z.1 z.2.2.1 51 rwC z.2.2.2 :: bag (z.2.2.2.map (rowM 2)) :: maM m x us e n) (0, none, 0, [])) (by (repeat (first | exact Takes.nil | exact Take.head | apply Take.tail | apply Takes.cons))) ?_
    apply Cod.loop (σ := Nat × Option Addr × Nat × List Rw) (fun z => z.1 ≤ m.bx.length ∧ z.2.2.2.length = z.1 ∧ z.2.2.2.map (·.l) = e.abs.ws.take z.1) (fun z => [(2, ptr rb), (3, ptr wb), (51, .slice x.p.bo x.p.bs.length x.p.bc), (52, .int .i64 (x.p.bs.length : Int)), (53, .int .i64 (z.1 : Int))]) (fun z => old w S :: bxR x.p :: blk rb [.slice none 0 0, .slice none 0 0, .int .i64 0] 31 :: blk wb [.slice eo ts.length ec, .slice z.2.1 z.1 z.2.2.1, .int .i64 (n : Int)] 31 :: arr eo ts.length ec 56 enC ends :: bag (ends.map enM) :: arr z.2.1 z.1 z.2.2.1 51 rwC z.2.2.2 :: bag (z.2.2.2.map (rowM 2)) :: maM m x us e n) (fun z => m.bx.length - z.1) (0, none, 0, [])
    rotate_left
    exact sb
    exact tks
    intro z hz K1 hK1
    (try conv => rhs; simp only [List.cons_append, List.nil_append])
    rotate_left
    · exact ⟨Nat.zero_le _, rfl, rfl⟩
    obtain ⟨q, wo, wc, rows⟩ := z
    obtain ⟨y1, y2, y3⟩ := hz
    dsimp only at y1 y2 y3 hK1 ⊢
    by_cases hq : q < m.bx.length
    · obtain ⟨s1, u1, r, h1, h2, h3, h4, h5, h6, h7⟩ := h.bx.split hq
      have hrn : r.ws.length ≤ 20 := by have := r.len; have := h3.n; have := h3.cap; omega
      apply Cod.imp (fun w hm => Mem.rgOut hm (by (repeat (first | exact Take.head | apply Take.tail))) h1)
      repeat (first | refine go (k := ?_) | (refine goB (k := ?_); intro b) | (refine goA (k := ?_); intro ao cap))
      rw [h5]
      apply Cod.draw 7 ([blk wb [.slice eo ts.length ec, .slice wo q wc, .int .i64 (n : Int)] 31]) (by kernel_rfl) 8 rfl
      refine RunT.takeR_ 0 (h := ?_)
      refine RunT.takeR_ 1 (h := ?_)
      refine RunT.takeR_ 2 (h := ?_)
      (refine RunT.one_ 3 (h := ?_); refine OpT.call0_ (spec := words_rg r h3) (k := ?_); intro s hs; refine And.intro gud ?_; (try conv => rhs; simp only [List.cons_append, List.nil_append]))
      obtain ⟨no, nc⟩ := s
      dsimp only
      (refine RunT.one_ 4 (h := ?_); (first | refine OpT.val_ (k := ?_) | (refine OpT.alloc_ (k := ?_); intro b) | (refine OpT.box_ (k := ?_); intro b) | refine OpT.store_ (k := ?_) | (refine OpT.buildSlice_ (k := ?_); intro b) | (refine OpT.buildSlice0_ (k := ?_); intro b) | (refine OpT.append1_ (k := ?_); intro ao cap) | (refine OpT.cutA0_ (k := ?_); intro ao cap) | (refine OpT.cutR0_ (k := ?_); intro ao cap) | (refine OpT.cutA1_ (k := ?_); intro ao cap) | (refine OpT.cutA_ (k := ?_); intro ao cap) | (refine OpT.cutR_ (k := ?_); intro ao cap)); refine And.intro gud ?_)
      (refine RunT.one_ 5 (h := ?_); refine OpT.append1_ (a := (⟨no, nc, r.ws⟩ : Rw)) (k := ?_); intro ao cap; refine And.intro gud ?_; (try conv => rhs; simp only [List.cons_append, List.nil_append]))
      refine RunT.takeR_ 6 (h := ?_)
      (refine RunT.one_ 7 (h := ?_); (first | refine OpT.val_ (k := ?_) | (refine OpT.alloc_ (k := ?_); intro b) | (refine OpT.box_ (k := ?_); intro b) | refine OpT.store_ (k := ?_) | (refine OpT.buildSlice_ (k := ?_); intro b) | (refine OpT.buildSlice0_ (k := ?_); intro b) | (refine OpT.append1_ (k := ?_); intro ao cap) | (refine OpT.cutA0_ (k := ?_); intro ao cap) | (refine OpT.cutR0_ (k := ?_); intro ao cap) | (refine OpT.cutA1_ (k := ?_); intro ao cap) | (refine OpT.cutA_ (k := ?_); intro ao cap) | (refine OpT.cutR_ (k := ?_); intro ao cap)); refine And.intro gud ?_)
      (apply RunT.done; kernel_rfl)
      repeat (first | refine go (k := ?_) | (refine goB (k := ?_); intro b) | (refine goA (k := ?_); intro ao cap))
      apply End.imp (fun w hm => Mem.rgIn (p := x.p) (e := e) (s := s1) (u := u1) (r := r) hm (by (repeat (first | exact Takes.nil | exact Take.head | apply Take.tail | apply Takes.cons))))
      rw [← h1]
      apply End.imp (fun w hm => Mem.bagAdd (cs := rows.map (rowM 2)) (ds := [rowM 2 ⟨no, nc, r.ws⟩]) hm (by (repeat (first | exact Take.head | apply Take.tail))) (by (repeat (first | exact Takes.nil | exact Take.head | apply Take.tail | apply Takes.cons))) (fun c hc => by simp at hc; subst hc; exact arr_excl))
      have hmp : rows.map (rowM 2) ++ [rowM 2 ⟨no, nc, r.ws⟩] = (rows ++ [(⟨no, nc, r.ws⟩ : Rw)]).map (rowM 2) := by simp
      rw [hmp]
      refine End.round0_ hK1 (q + 1, ao, cap, rows ++ [⟨no, nc, r.ws⟩]) ?_ ?_
      · refine ⟨by dsimp only; omega, by simp [y2], ?_⟩
        have hqe : q < e.abs.ws.length := by show q < (e.rs.map Ring.ws).length; rw [List.length_map]; have h9 : e.rs.length = m.bx.length := h.bx.len; omega
        dsimp only
        rw [List.map_append, y3, List.take_succ_eq_append_getElem hqe]
        congr 1
        simp only [List.map_cons, List.map_nil]
        rw [← h6, List.getD_eq_getElem?_getD, List.getElem?_eq_getElem hqe]; rfl
      · dsimp only; omega
    · obtain rfl : q = m.bx.length := by omega
      clear hK1
      repeat (first | refine go (k := ?_) | (refine goB (k := ?_); intro b) | (refine goA (k := ?_); intro ao cap))
      obtain ⟨R, hR⟩ : ∃ R : WoL, R = ⟨eo, ec, ends, wo, wc, rows, n⟩ := ⟨_, rfl⟩
      refine End.doneC1_ ((us, R) : List TkL × WoL) (he := by rw [hR]; simp only [WoL.cells, he1, y2]) (hF := by (subst hR; simp only [WoL.mem, he1, y2, List.cons_append, List.nil_append]; exact tks)) (hp := ?_) (hx := by simp [blk_excl, arr_excl, bag_excl, bxM_excl, tksM_excl])
      subst hR
      have hel : e.abs.ws.length = m.bx.length := by show (e.rs.map Ring.ws).length = _; rw [List.length_map]; exact h.bx.len
      refine ⟨d1, d2.trans hC'.symm, ⟨?_, ?_, ?_⟩⟩
      · dsimp only; rw [he2, List.take_of_length_le (by omega)]
      · dsimp only; rw [y3, List.take_of_length_le (by omega), hC']; rfl
      · dsimp only; rw [hC']; rfl
end Go.Proofs.Ytjehflelkpacfaa.Vw

/- A pick, of the whole machine. -/
namespace Go.Proofs.Ytjehflelkpacfaa.Vw
open Go.RowKit Go.Proofs.Ytjehflelkpacfaa.Img
set_option linter.unusedVariables false
set_option linter.unusedSimpArgs false
theorem feet_app {R pre : List Chunk} (hR : ∀ c ∈ R, c.excl = false) : feet (R ++ pre) = feet pre := by
  funext b
  simp only [feet, eq_iff_iff]
  constructor
  · rintro ⟨c, hc, hx, hb⟩
    rcases List.mem_append.1 hc with hc | hc
    · rw [hR c hc] at hx; cases hx
    · exact ⟨c, hc, hx, hb⟩
  · rintro ⟨c, hc, hx, hb⟩
    exact ⟨c, List.mem_append_right _ hc, hx, hb⟩
/-- a contract about other chunks: what is laid together otherwise, and what the callee never comes to -/
theorem Fn.conv {P : Program} {f : FuncId} {args : Array Value} {σ τ : Type} {R pre pre' F : List Chunk} {post : σ → Prop} {val : σ → Value} {mem : σ → List Chunk} {post' : τ → Prop} {val' : τ → Value} {mem' : τ → List Chunk} (hR : ∀ c ∈ R, c.excl = false)
    (spec : Fn P f args R pre' post' val' mem') (hin : ∀ w G, Mem w (pre ++ G) → Mem w (pre' ++ (F ++ G)))
    (hout : ∀ w G x, post' x → Mem w (mem' x ++ (F ++ G)) → ∃ y, post y ∧ val' x = val y ∧ (∀ c ∈ mem y, c.excl = true) ∧ Mem w (mem y ++ G)) : Fn P f args R pre post val mem := by
  intro w hm
  have h0 := hm.since
  rw [feet_app hR] at h0
  have h1 : Mem w (pre ++ (R ++ [old w (feet pre)])) := by
    refine h0.perm ?_
    rw [← List.append_assoc]
    exact (List.perm_append_comm (l₁ := [old w (feet pre)]) (l₂ := R ++ pre)).trans (List.Perm.append_right _ List.perm_append_comm)
  have h2 := hin w _ h1
  have h3 : Mem w (R ++ pre') := by
    refine Mem.left (M := F ++ [old w (feet pre)]) (h2.perm ?_)
    have p1 : (pre' ++ (F ++ (R ++ [old w (feet pre)]))).Perm (pre' ++ (R ++ (F ++ [old w (feet pre)]))) := List.Perm.append_left _ (List.perm_append_comm_assoc _ _ _)
    have p2 : (pre' ++ (R ++ (F ++ [old w (feet pre)]))).Perm (R ++ (pre' ++ (F ++ [old w (feet pre)]))) := List.perm_append_comm_assoc _ _ _
    have := p1.trans p2
    rwa [← List.append_assoc R] at this
  refine (spec w h3).mono ?_
  rintro e w' ⟨x, hp, rfl, hx, hM⟩
  have h4 := h2.frame hM hx
  obtain ⟨y, g1, g2, g3, g4⟩ := hout w' _ x hp h4
  refine ⟨y, g1, by rw [g2], g3, ?_⟩
  refine Mem.left (M := R) (g4.perm ?_)
  have p1 : (mem y ++ (R ++ [old w (feet pre)])).Perm (mem y ++ ([old w (feet pre)] ++ R)) := List.Perm.append_left _ List.perm_append_comm
  refine p1.trans ?_
  have p2 : (mem y ++ ([old w (feet pre)] ++ R)).Perm ([old w (feet pre)] ++ (mem y ++ R)) := List.perm_append_comm_assoc _ _ _
  exact p2
theorem map_set_tk (l : List TkL) (k : Nat) (t : TkL) : (l.set k t).map TkL.tk = (l.map TkL.tk).set k t.tk := List.map_set
/-- whom each task tells -/
abbrev tdV (p : BxP) (told : Bool) : Nat → Value := fun k => toldV (toldOf p (Vm.tOf told k))
abbrev maB (m : ML) (x : MaP) (told : Bool) (ts : List TkL) (e : BxE) (n : Nat) : List Chunk := [blk x.xb (maC x.to x.tbs.length x.tc x.p.bo x.p.bs.length x.p.bc n) 80, blk x.mb (mdV m) 25, arr x.to x.tbs.length x.tc 81 ptrC x.tbs, bxM x.p e, tksM x.mb (bxV x.p.bo x.p.bs.length x.p.bc) (tdV x.p told) ts]
set_option maxRecDepth 100000 in
set_option maxHeartbeats 1000000 in
theorem pickB_is (m : ML) {T : Nat → Int → Option Ver.Shape} (hC : Vm.Certs m.mdl T) (x : MaP) (ts : List TkL) (e : BxE) (n : Nat) (h : MaIs m T x ts e n) (hn : ts.length ≤ 30) (told : Bool) (hK : ∀ k, k < ts.length → KOk x.p (Vm.tOf told k)) (tk q : Int) :
    Fn Try.prog 24 #[ptr x.xb, .agg #[.int .i64 tk, .int .i64 q]] [md m, bxR x.p] (maB m x told ts e n) (σ := List TkL × BxE)
      (fun s => MaIs m T x s.1 s.2 (Vm.pick m.mdl told (maA ts e n) (tk, q)).2.n ∧ s.1.length = ts.length ∧ maA s.1 s.2 (Vm.pick m.mdl told (maA ts e n) (tk, q)).2.n = (Vm.pick m.mdl told (maA ts e n) (tk, q)).2)
      (fun _ => .agg #[.int .i64 (Vm.pick m.mdl told (maA ts e n) (tk, q)).1.1, .int .i64 ((Vm.pick m.mdl told (maA ts e n) (tk, q)).1.2 : Int)])
      (fun s => maB m x told s.1 s.2 (Vm.pick m.mdl told (maA ts e n) (tk, q)).2.n) := by
  have htb : x.tbs.length = ts.length := by rw [← h.tbs, List.length_map]
  have hel : ∀ (us : List TkL) (e' : BxE) (n' : Nat), ∀ c ∈ maB m x told us e' n', c.excl = true := fun us e' n' => by simp [blk_excl, arr_excl, bxM_excl, tksM_excl]
  by_cases h1 : tk < 0 ∨ (ts.length : Int) ≤ tk
  · have hp : Vm.pick m.mdl told (maA ts e n) (tk, q) = ((3, 0), maA ts e n) := by
      unfold Vm.pick
      rw [if_pos (by show tk < 0 ∨ ((ts.map TkL.tk).length : Int) ≤ tk; rw [List.length_map]; exact h1)]
    rw [hp]
    refine Fn.conv (F := (maB m x told ts e n).tail) (by simp [md_excl, rd_excl]) ?_ ?_ ?_ (pre' := [blk x.xb (maC x.to x.tbs.length x.tc x.p.bo x.p.bs.length x.p.bc n) 80]) (σ := List TkL × BxE) (τ := Unit) (post' := fun _ => True) (val' := fun _ => .agg #[.int .i64 3, .int .i64 0]) (mem' := fun _ => [blk x.xb (maC x.to x.tbs.length x.tc x.p.bo x.p.bs.length x.p.bc n) 80])
    · intro w hm
      have := pickOut_is x.xb x.to x.tc x.tbs.length x.p.bo x.p.bs.length x.p.bc n tk q (by omega) w (Mem.right (L := [md m, bxR x.p]) hm)
      exact this
    · intro w G hm; exact hm
    · intro w G s _ hm
      exact ⟨(ts, e), ⟨h, rfl, rfl⟩, rfl, hel _ _ _, hm⟩
  · obtain ⟨k, rfl⟩ := Int.eq_ofNat_of_zero_le (show 0 ≤ tk by omega)
    have hk : k < ts.length := by omega
    obtain ⟨t, ht⟩ : ∃ t, t = ts.getD k default := ⟨_, rfl⟩
    let E := bxEnv m.mdl x.p (Vm.tOf told k) (hK k hk)
    have htm : t ∈ ts := by rw [ht]; exact tkl_mem hk
    have hcm : t.tk ∈ (maA ts e n).ts := List.mem_map.2 ⟨t, htm, rfl⟩
    have hz := (h.wf t htm).sl (E := E) h.bx
    have hg : Vm.Good m.mdl T (Vm.KB m.mdl) (t.sl (E) e).two := h.ok.good _ hcm
    have ho : (t.sl (E) e).out.length ≤ 2 * n := h.ok.out _ hcm
    have hat : (maA ts e n).at_ k = (t.sl (E) e).two := by
      show ((ts.map TkL.tk).getD k default, e.abs) = (t.tk, e.abs)
      rw [ht, List.getD_eq_getElem?_getD, List.getElem?_map, List.getElem?_eq_getElem hk, List.getD_eq_getElem?_getD, List.getElem?_eq_getElem hk]; rfl
    have htbk : x.tbs.getD k 0 = t.tb := by
      rw [← h.tbs, ht, List.getD_eq_getElem?_getD, List.getD_eq_getElem?_getD, List.getElem?_map, List.getElem?_eq_getElem hk]; rfl
    have hsp := pick_is (E := E) ⟨t.tb, x.mb, m⟩ x.xb x.to x.tc x.tbs x.p.bo x.p.bs.length x.p.bc n k q (by omega) htbk (t.sl (E) e) hC (Vm.bxs_ok m.mdl (Vm.tOf told k)) hz rfl hg h.ok.n ho h.ok.log (by omega)
    obtain ⟨R, hR⟩ : ∃ R, R = Vm.pick1 (Vm.bxs m.mdl (Vm.tOf told k)) m.mdl n q (t.sl (E) e).two := ⟨_, rfl⟩
    have hsp' : Fn Try.prog 24 #[ptr x.xb, .agg #[.int .i64 (k : Int), .int .i64 q]] [md m, bxR x.p] (blk x.xb (maC x.to x.tbs.length x.tc x.p.bo x.p.bs.length x.p.bc n) 80 :: arr x.to x.tbs.length x.tc 81 ptrC x.tbs :: TM ⟨t.tb, x.mb, m⟩ (t.sl (E) e)) (σ := SL (E)) (Gives (t.sl (E) e) R.2) (fun _ => .agg #[.int .i64 R.1.1, .int .i64 (R.1.2 : Int)]) (fun z' => blk x.xb (maC x.to x.tbs.length x.tc x.p.bo x.p.bs.length x.p.bc (n + R.1.2)) 80 :: arr x.to x.tbs.length x.tc 81 ptrC x.tbs :: TM ⟨t.tb, x.mb, m⟩ z') := by rw [hR]; exact hsp
    have hp : Vm.pick m.mdl told (maA ts e n) ((k : Int), q) = (R.1, ⟨(ts.map TkL.tk).set k R.2.1, R.2.2, n + R.1.2⟩) := by
      unfold Vm.pick
      rw [if_neg (by show ¬ ((k : Int) < 0 ∨ ((ts.map TkL.tk).length : Int) ≤ (k : Int)); rw [List.length_map]; omega)]
      show _ = _
      rw [hR, ← hat]
      rfl
    have hok' := h.ok.pick hC told ((k : Int), q)
    rw [hp] at hok' ⊢
    refine Fn.conv (F := [tksO x.mb (bxV x.p.bo x.p.bs.length x.p.bc) (tdV x.p told) ts k]) (by simp [md_excl, rd_excl]) hsp' ?_ ?_
    · intro w G hm
      have h2 := Mem.tkOut (k := k) hm (show Take (tksM x.mb (bxV x.p.bo x.p.bs.length x.p.bc) (tdV x.p told) ts) _ _ from .tail (.tail (.tail (.tail .head)))) hk
      rw [← ht] at h2
      exact h2.takes (by (repeat (first | exact Takes.nil | exact Take.head | apply Take.tail | apply Takes.cons)))
    · intro w G z' hz' hm
      obtain ⟨w1, w2⟩ := hz'
      have htk : (z'.lay t.tb).tk = R.2.1 := congrArg (·.1) w2
      have hbs : BxE.abs z'.e = R.2.2 := congrArg (·.2) w2
      have hA : maA (ts.set k (z'.lay t.tb)) z'.e (n + R.1.2) = ⟨(ts.map TkL.tk).set k R.2.1, R.2.2, n + R.1.2⟩ := by
        simp only [maA, map_set_tk, htk, hbs]
      refine ⟨(ts.set k (z'.lay t.tb), z'.e), ⟨⟨?_, fun y hy => ?_, w1.env, by rw [hA]; exact hok'⟩, by simp, hA⟩, rfl, hel _ _ _, ?_⟩
      · dsimp only
        rw [List.map_set, h.tbs]
        refine List.ext_getElem (by simp) fun j h1 h2 => ?_
        rw [List.getElem_set]
        split
        · rename_i hkj; subst hkj
          rw [List.getD_eq_getElem?_getD, List.getElem?_eq_getElem h2] at htbk
          exact htbk.symm
        · rfl
      · rcases List.mem_or_eq_of_mem_set hy with hy | rfl
        · exact h.wf y hy
        · exact w1.lay _
      · have h3 := Mem.tkIn (told := tdV x.p told) (t := z'.lay t.tb) hm (show Take (tksO x.mb (bxV x.p.bo x.p.bs.length x.p.bc) (tdV x.p told) ts k) _ _ by (repeat (first | exact Take.head | apply Take.tail))) (by (repeat (first | exact Takes.nil | exact Take.head | apply Take.tail | apply Takes.cons))) hk
        exact h3.takes (by (repeat (first | exact Takes.nil | exact Take.head | apply Take.tail | apply Takes.cons)))
theorem pickA_is (m : ML) {T : Nat → Int → Option Ver.Shape} (hC : Vm.Certs m.mdl T) (x : MaP) (ts : List TkL) (e : BxE) (n : Nat) (h : MaIs m T x ts e n) (hn : ts.length ≤ 30) (tk q : Int) :
    Fn Try.prog 24 #[ptr x.xb, .agg #[.int .i64 tk, .int .i64 q]] [md m, bxR x.p] (maM m x ts e n) (σ := List TkL × BxE)
      (fun s => MaIs m T x s.1 s.2 (Vm.pick m.mdl false (maA ts e n) (tk, q)).2.n ∧ s.1.length = ts.length ∧ maA s.1 s.2 (Vm.pick m.mdl false (maA ts e n) (tk, q)).2.n = (Vm.pick m.mdl false (maA ts e n) (tk, q)).2)
      (fun _ => .agg #[.int .i64 (Vm.pick m.mdl false (maA ts e n) (tk, q)).1.1, .int .i64 ((Vm.pick m.mdl false (maA ts e n) (tk, q)).1.2 : Int)])
      (fun s => maM m x s.1 s.2 (Vm.pick m.mdl false (maA ts e n) (tk, q)).2.n) := pickB_is m hC x ts e n h hn false (fun _ _ => trivial) tk q
end Go.Proofs.Ytjehflelkpacfaa.Vw

/- All picks, walked: wrong, Run. -/
namespace Go.Proofs.Ytjehflelkpacfaa
section
variable {P : Program} [Tabbed P] {N : Nat} {E : Env} {L L' F : List Chunk} {σ : Type} {fn : Func} {post : σ → Prop} {val : σ → Value} {mem : σ → List Chunk} {w0 : World} {S : Nat → Prop}
/-- three results, of which the first lies in memory -/
theorem End.doneC3 {t u v : Tmp} {ty bt : TypeId} {b s' b' : Nat} {fs : List (Nat × TypeId)} {z' cs : List Value} {y z : Value} (x : σ) (hr : fn.results = #[.cell t ty, .tmp u, .tmp v]) (hv : look E t = Option.some (.pointer (Option.some ⟨b, 0, none⟩))) (ht : tyOf P ty = Option.some ⟨.struct fs, s', b', z'⟩)
    (hm : Take (blk b cs bt) L L') (hl : cs.length = s') (hu : look E u = Option.some y) (hw : look E v = Option.some z) (he : val x = .tuple #[.agg cs.toArray, y, z]) (hp : post x) (hx : ∀ c ∈ mem x, c.excl = true) (hF : Takes (old w0 S :: mem x) L F) : End (bodyPost P fn (Owes post val mem w0 S)) N .ret E L := fun a w hs hM => by
  have hb := blk_holds.1 (hM.has hm)
  have h1 := hs.slot t _ hv
  have h2 := hs.slot u _ hu
  have h3 := hs.slot v _ hw
  refine bodyPost_ret (v := .tuple #[.agg cs.toArray, y, z]) ?_ hs.defs ⟨x, hp, by rw [he], hx, (hM.takes hF).left⟩
  simp [results, hr, h1, h2, h3, asAddr, run_cell ht hb hl]
end
end Go.Proofs.Ytjehflelkpacfaa
namespace Go.Proofs.Ytjehflelkpacfaa.Vw
open Go.RowKit Go.Proofs.Ytjehflelkpacfaa.Img
set_option linter.unusedVariables false
set_option linter.unusedSimpArgs false
attribute [local irreducible] Run Cod End OpT Still RunQ RunS RunT Fn PutOk
def pkC (p : Int × Int) : List Value := [.int .i64 p.1, .int .i64 p.2]
instance : Enc pkC := ⟨fun _ => rfl, by decide, fun a u hu => by simp [pkC] at hu; rcases hu with rfl | rfl <;> rfl⟩
def ddC (d : Int × Nat) : List Value := [.int .i64 d.1, .int .i64 (d.2 : Int)]
instance : Enc ddC := ⟨fun _ => rfl, by decide, fun a u hu => by simp [ddC] at hu; rcases hu with rfl | rfl <;> rfl⟩
attribute [local irreducible] Ver.verify
set_option maxRecDepth 100000 in
theorem wrong_is (m : ML) (hwf : m.Wf) (n : Nat) : Fn Try.prog 22 #[m.val, .int .i64 (n : Int)] [md m] [] (σ := Unit) (fun _ => True) (fun _ => .int .i64 (Vm.wrong m.mdl n)) (fun _ => []) := by
  refine Fn.enter (args := [m.val, .int .i64 (n : Int)]) Try.func22 rfl _ Try.ntmps22 rfl (by simp [md_excl]) (fun w S => ?_)
  (try conv => rhs; simp only [List.cons_append, List.nil_append])
  repeat (first | refine go (k := ?_) | (refine goB (k := ?_); intro b) | (refine goA (k := ?_); intro ao cap))
  (apply Run.op; exact rfl; refine OpT.call0_ (spec := verify_is m hwf) (k := ?_); intro s hs; (try conv => rhs; simp only [List.cons_append, List.nil_append]))
  obtain ⟨V, hV⟩ : ∃ V, V = Ver.verify m.mdl := ⟨_, rfl⟩
  have hW : Vm.wrong m.mdl n = if V.err ≠ 0 then V.err else if 400 < n then 5 else 0 := by unfold Vm.wrong; rw [← hV]
  rw [hW, ← hV]
  by_cases h1 : V.err = 0
  · rw [if_neg (fun h => h h1)]
    by_cases h2 : 400 < n
    · rw [if_pos h2]
      repeat (first | refine go (k := ?_) | (refine goB (k := ?_); intro b) | (refine goA (k := ?_); intro ao cap))
      (refine End.done1_ (()) (he := by (first | exact rfl | (refine congrArg (Value.int _) ?_; omega) | (refine congrArg (Value.int _) ?_; dsimp only; omega))) (hp := ?_))
      trivial
    · rw [if_neg h2]
      repeat (first | refine go (k := ?_) | (refine goB (k := ?_); intro b) | (refine goA (k := ?_); intro ao cap))
      (refine End.done1_ (()) (he := by (first | exact rfl | (refine congrArg (Value.int _) ?_; omega) | (refine congrArg (Value.int _) ?_; dsimp only; omega))) (hp := ?_))
      trivial
  · rw [if_pos h1]
    repeat (first | refine go (k := ?_) | (refine goB (k := ?_); intro b) | (refine goA (k := ?_); intro ao cap))
    (refine End.done1_ (()) (he := by (first | exact rfl | (refine congrArg (Value.int _) ?_; omega) | (refine congrArg (Value.int _) ?_; dsimp only; omega))) (hp := ?_))
    trivial
end Go.Proofs.Ytjehflelkpacfaa.Vw
