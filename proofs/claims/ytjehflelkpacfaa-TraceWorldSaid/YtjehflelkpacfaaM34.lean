/- Run, walked. -/
import Derived.Test.YtjehflelkpacfaaM33
namespace Go.Proofs.Ytjehflelkpacfaa.Vw
open Go.RowKit Go.Proofs.Ytjehflelkpacfaa.Img
set_option linter.unusedVariables false
set_option linter.unusedSimpArgs false
attribute [local irreducible] Run Cod End OpT Still RunQ RunS RunT Fn PutOk
theorem Ring.ws_len {r : Ring} (h : r.n = 0) : r.ws = [] := List.eq_nil_of_length_eq_zero (by rw [r.len, h])
/-- where all lies that begin laid -/
def BegL.pl (s : BegL) (mb : Nat) : MaP := ⟨s.xb, mb, s.to, s.tc, s.ts.map (·.tb), ⟨s.bo, s.bc, s.rs.map (·.bb), none⟩⟩
def BegL.be (s : BegL) : BxE := ⟨s.rs, none, 0, []⟩
theorem Mem.nilArr' {w : World} {L : List Chunk} (h : Mem w L) (e : TypeId) {α : Type} {iα : Inhabited α} (f : α → List Value) [Enc f] {l : List α} (hl : l = []) : Mem w (arr none 0 0 e f l :: L) := by subst hl; exact h.nilArr e f
theorem beg_ma {w : World} {L F : List Chunk} {m : ML} {mb : Nat} (s : BegL) {n : Nat} (hn : n = 0) (t : Takes (BegL.mem m mb s) L F) (h : Mem w L) : Mem w (bxR (s.pl mb).p :: (maM m (s.pl mb) s.ts s.be n ++ F)) := by
  subst hn
  have h1 : Mem w (BegL.mem m mb s ++ F) := h.takes t
  have h2 := rd_own (α := Nat) (ao := s.bo) (n := s.rs.length) (cap := s.bc) (e := 93) (f := ptrC) (l := s.rs.map (·.bb)) (L := BegL.mem m mb s ++ F) (by exact .cons (.tail (.tail (.tail .head))) .nil) h1
  have h3 : Mem w (bag [] :: _) := h2.bagNil
  have h4 := Mem.pack (cs := [bag (s.rs.flatMap rgM), bag []]) (L := _) (h3.takes (by exact .cons (.tail (.tail (.tail (.tail (.tail .head))))) (.cons .head .nil))) (fun c hc => by simp at hc; rcases hc with rfl | rfl <;> exact bag_excl)
  have e1 : (s.pl mb).tbs.length = s.ts.length := by simp [BegL.pl]
  have e2 : (s.pl mb).p.bs.length = s.rs.length := by simp [BegL.pl]
  have h5 : Mem w (bxM (s.pl mb).p s.be :: rd s.bo s.rs.length s.bc ptrC (s.rs.map (·.bb)) :: blk s.xb (maC s.to s.ts.length s.tc s.bo s.rs.length s.bc 0) 80 :: blk mb (mdV m) 25 :: arr s.to s.ts.length s.tc 81 ptrC (s.ts.map (·.tb)) :: tksM mb (bxV s.bo s.rs.length s.bc) (fun _ => .nilFunc) s.ts :: F) := h4
  unfold maM bxR
  rw [e1, e2]
  exact h5.takes (by exact .cons (.tail .head) (.cons (.tail .head) (.cons (.tail .head) (.cons (.tail .head) (.cons .head (.cons .head .nil))))))
theorem beg_is {m : ML} {T : Nat → Int → Option Ver.Shape} (hC : Vm.Certs m.mdl T) {s : BegL} (h : s.Ok m) (mb : Nat) : MaIs m T (s.pl mb) s.ts s.be 0 ∧ maA s.ts s.be 0 = Vm.Ma.init m.mdl := by
  have hws : s.be.abs.ws = List.replicate m.mdl.boxes.length [] := by
    show s.rs.map Ring.ws = _
    refine List.ext_getElem (by simp [h.rlen]) fun j h1 h2 => ?_
    simp only [List.length_map] at h1
    have := (h.ring j (by rw [← h.rlen]; exact h1)).2.2
    rw [List.getD_eq_getElem?_getD, List.getElem?_eq_getElem h1, Option.getD_some] at this
    simp [Ring.ws_len this]
  have hA : maA s.ts s.be 0 = Vm.Ma.init m.mdl := by
    unfold Vm.Ma.init
    simp only [maA, Vm.Ma.mk.injEq, and_true]
    refine ⟨h.ts, ?_⟩
    have : s.be.abs = ⟨s.be.abs.ws, []⟩ := rfl
    rw [this, hws]
  refine ⟨⟨rfl, h.wf, ⟨rfl, h.rlen, fun r hr => ?_, fun b hb => (h.ring b hb).2.1⟩, by rw [hA]; exact Vm.Ma.Ok.init hC⟩, hA⟩
  obtain ⟨j, hj, rfl⟩ := List.getElem_of_mem hr
  have := (h.ring j (by rw [← h.rlen]; exact hj)).1
  rw [List.getD_eq_getElem?_getD, List.getElem?_eq_getElem (show j < s.rs.length from hj), Option.getD_some] at this
  exact this
theorem beg_len {m : ML} {s : BegL} (h : s.Ok m) (h30 : m.us.length ≤ 30) : s.ts.length ≤ 30 := by
  have h1 := congrArg List.length h.ts
  simp only [List.length_map] at h1
  rw [h1, tasks_eq]
  have := tasks_len m m.us.length
  omega
end Go.Proofs.Ytjehflelkpacfaa.Vw
namespace Go.Proofs.Ytjehflelkpacfaa.Vm
theorem picks_app (M : ImgM.Mdl) (told : Bool) : ∀ (a b : List (Int × Int)) (c : Ma), picks M told (a ++ b) c = ((picks M told a c).1 ++ (picks M told b (picks M told a c).2).1, (picks M told b (picks M told a c).2).2)
  | [], b, c => by simp [picks]
  | p :: a, b, c => by simp only [List.cons_append, picks]; rw [picks_app M told a b]
theorem picks_one (M : ImgM.Mdl) (told : Bool) (p : Int × Int) (c : Ma) : picks M told [p] c = ([(pick M told c p).1], (pick M told c p).2) := by simp [picks]
theorem picks_succ (M : ImgM.Mdl) (told : Bool) (l : List (Int × Int)) (c : Ma) (k : Nat) (hk : k < l.length) : picks M told (l.take (k + 1)) c = ((picks M told (l.take k) c).1 ++ [(pick M told (picks M told (l.take k) c).2 (l.getD k default)).1], (pick M told (picks M told (l.take k) c).2 (l.getD k default)).2) := by
  rw [List.take_succ_eq_append_getElem hk, picks_app, picks_one, List.getD_eq_getElem?_getD, List.getElem?_eq_getElem hk]; rfl
theorem picks_len (M : ImgM.Mdl) (told : Bool) : ∀ (l : List (Int × Int)) (c : Ma), (picks M told l c).1.length = l.length
  | [], c => rfl
  | p :: l, c => by simp only [picks, List.length_cons]; rw [picks_len]
end Go.Proofs.Ytjehflelkpacfaa.Vm
namespace Go.Proofs.Ytjehflelkpacfaa.Vw
open Go.RowKit Go.Proofs.Ytjehflelkpacfaa.Img
set_option linter.unusedVariables false
set_option linter.unusedSimpArgs false
attribute [local irreducible] Run Cod End OpT Still RunQ RunS RunT Fn PutOk
structure PkL where
  o : Option Addr
  c : Nat
  l : List (Int × Int)
abbrev PkL.val (p : PkL) : Value := .slice p.o p.l.length p.c
abbrev pkR (p : PkL) : Chunk := rd p.o p.l.length p.c pkC p.l
structure RunL where
  w : WoL
  o : Option Addr
  c : Nat
  l : List (Int × Nat)
abbrev RunL.zero : RunL := ⟨⟨none, 0, [], none, 0, [], 0⟩, none, 0, []⟩
structure RunL.Is (m : ML) (ps : List (Int × Int)) (r : RunL) : Prop where
  w : r.w.Is ((Vm.picks m.mdl false ps (Vm.Ma.init m.mdl)).2.looked m.mdl)
  l : r.l = (Vm.picks m.mdl false ps (Vm.Ma.init m.mdl)).1
def RunIs (m : ML) (ps : List (Int × Int)) (r : RunL) : Prop := if Vm.wrong m.mdl ps.length = 0 then r.Is m ps else r = RunL.zero
abbrev RunL.mem (r : RunL) : List Chunk := arr r.o r.l.length r.c 41 ddC r.l :: r.w.mem
theorem wrong_zero {M : ImgM.Mdl} {n : Nat} (h : Vm.wrong M n = 0) : Ver.verify M = .ok ∧ n ≤ 400 := by
  unfold Vm.wrong at h
  by_cases h1 : (Ver.verify M).err ≠ 0
  · rw [if_pos h1] at h; exact absurd h h1
  · rw [if_neg h1] at h
    refine ⟨Ver.verify_eq (Classical.not_not.1 h1), ?_⟩
    by_cases h2 : 400 < n
    · rw [if_pos h2] at h; cases h
    · exact Nat.le_of_not_lt h2
attribute [local irreducible] Ver.verify Vm.wrong Vm.picks
theorem caps_ok {m : ML} (h : Ver.verify m.mdl = .ok) (b : Nat) (hb : b < m.bx.length) : 1 ≤ (m.bx.getD b default).2 ∧ (m.bx.getD b default).2 ≤ 20 := by
  have := (Ver.verify_iff.1 h).form.boxes (m.bx.getD b default) (by rw [List.getD_eq_getElem?_getD, List.getElem?_eq_getElem hb]; exact List.getElem_mem _)
  exact this.2
/-- all picks up to one -/
def ckOf (m : ML) (ps : List (Int × Int)) (k : Nat) : List (Int × Nat) × Vm.Ma := Vm.picks m.mdl false (ps.take k) (Vm.Ma.init m.mdl)
theorem ckOf_zero (m : ML) (ps : List (Int × Int)) : ckOf m ps 0 = ([], Vm.Ma.init m.mdl) := by unfold ckOf Vm.picks; rfl
theorem ckOf_succ (m : ML) (ps : List (Int × Int)) {k : Nat} (hk : k < ps.length) : ckOf m ps (k + 1) = ((ckOf m ps k).1 ++ [(Vm.pick m.mdl false (ckOf m ps k).2 (ps.getD k default)).1], (Vm.pick m.mdl false (ckOf m ps k).2 (ps.getD k default)).2) := Vm.picks_succ m.mdl false ps _ k hk
theorem ckOf_all (m : ML) (ps : List (Int × Int)) : ckOf m ps ps.length = Vm.picks m.mdl false ps (Vm.Ma.init m.mdl) := by unfold ckOf; rw [List.take_length]
set_option maxRecDepth 100000 in
set_option maxHeartbeats 2000000 in
theorem run_is (m : ML) (hwf : m.Wf) (ps : PkL) : Fn Try.prog 13 #[m.val, ps.val] [md m, pkR ps] [] (σ := RunL) (RunIs m ps.l) (fun r => .tuple #[.agg r.w.cells.toArray, .slice r.o r.l.length r.c, .int .i64 (Vm.wrong m.mdl ps.l.length)]) RunL.mem := by
  refine Fn.enter (args := [m.val, ps.val]) Try.func13 rfl _ Try.ntmps13 rfl (by simp [md_excl, rd_excl]) (fun w S => ?_)
  (try conv => rhs; simp only [List.cons_append, List.nil_append])
  obtain ⟨W, hW⟩ : ∃ W, W = Vm.wrong m.mdl ps.l.length := ⟨_, rfl⟩
  unfold RunIs
  rw [← hW]
  repeat (first | refine go (k := ?_) | (refine goB (k := ?_); intro b) | (refine goA (k := ?_); intro ao cap))
  obtain ⟨rb, rfl⟩ : ∃ x, x = b := ⟨_, rfl⟩
  (apply Run.op; exact rfl; refine OpT.call0_ (spec := wrong_is m hwf ps.l.length) (k := ?_); intro s hs; (try conv => rhs; simp only [List.cons_append, List.nil_append]))
  rw [← hW]
  by_cases h0 : ¬ W = 0
  · repeat (first | refine go (k := ?_) | (refine goB (k := ?_); intro b) | (refine goA (k := ?_); intro ao cap))
    apply End.imp (fun w hm => (((((hm.bagNil).bagNil).nilArr 56 enC).nilArr 51 rwC)).nilArr 41 ddC)
    (refine End.doneC3 (RunL.zero) (hr := by exact rfl) (hv := by exact rfl) (ht := by exact rfl) (hm := by (repeat (first | exact Take.head | apply Take.tail))) (hl := by exact rfl) (hu := by exact rfl) (hw := by exact rfl) (he := by (first | exact rfl | (refine congrArg (Value.int _) ?_; omega) | (refine congrArg (Value.int _) ?_; dsimp only; omega))) (hx := by (simp [blk_excl, arr_excl, bag_excl, mp_excl])) (hF := by (repeat (first | exact Takes.nil | exact Take.head | apply Take.tail | apply Takes.cons))) (hp := ?_))
    rw [if_neg h0]
  have h0 := Classical.not_not.1 h0
  subst h0
  obtain ⟨hv, hp4⟩ := wrong_zero hW.symm
  have hF := formed (Ver.verify_iff.1 hv).form
  have hu30 := hF.units
  have hb30 := hF.boxes
  obtain ⟨T, hC⟩ := certs_ml hwf hv
  repeat (first | refine go (k := ?_) | (refine goB (k := ?_); intro b) | (refine goA (k := ?_); intro ao cap))
  obtain ⟨mb, rfl⟩ : ∃ x, x = b := ⟨_, rfl⟩
  (apply Run.op; exact rfl; refine OpT.call0_ (spec := begin2_is mb m hb30 hu30 (caps_ok hv) (fun k hk => (head_ok (hF.head k hk)).1)) (k := ?_); intro s hs; (try conv => rhs; simp only [List.cons_append, List.nil_append]))
  obtain ⟨e1, e2⟩ := beg_is hC hs mb
  have hn := beg_len hs hu30
  have hk0 := ckOf_zero m ps.l
  obtain ⟨n0, hn0'⟩ : ∃ n, n = (ckOf m ps.l 0).2.n := ⟨_, rfl⟩
  have hn0 : n0 = 0 := by rw [hn0', hk0]; rfl
  apply Run.imp' (fun w hm => beg_ma s hn0 (by (repeat (first | exact Takes.nil | exact Take.head | apply Take.tail | apply Takes.cons))) hm)
  (try conv => rhs; simp only [List.cons_append, List.nil_append])
  obtain ⟨x, hx⟩ : ∃ x, x = s.pl mb := ⟨_, rfl⟩
  obtain ⟨ts0, ht0⟩ : ∃ x, x = s.ts := ⟨_, rfl⟩
  obtain ⟨e0, he0⟩ : ∃ x, x = s.be := ⟨_, rfl⟩
  have hxb : s.xb = x.xb := by rw [hx]; rfl
  rw [← hx] at e1
  rw [← ht0, ← he0] at e1 e2
  rw [← ht0] at hn
  rw [hxb, ← hx, ← ht0, ← he0]
  clear hx ht0 he0 hxb hs s
  subst hn0'
  repeat (first | refine go (k := ?_) | (refine goB (k := ?_); intro b) | (refine goA (k := ?_); intro ao cap))
  apply Cod.imp (fun w hm => Mem.nilArr' hm 41 ddC (l := (ckOf m ps.l 0).1) (by rw [hk0]))
  refine Cod.only ((fun z => [old w S, md m, bxR x.p, pkR ps, blk rb [.slice none 0 0, .slice none 0 0, .int .i64 0] 31, arr z.2.2.2.1 z.1 z.2.2.2.2 41 ddC (ckOf m ps.l z.1).1] ++ maM m x z.2.1 z.2.2.1 (ckOf m ps.l z.1).2.n) (0, ts0, e0, none, 0)) (by (repeat (first | exact Takes.nil | exact Take.head | apply Take.tail | apply Takes.cons))) ?_
  apply Cod.loop (σ := Nat × List TkL × BxE × Option Addr × Nat) (fun z => z.1 ≤ ps.l.length ∧ z.2.1.length ≤ 30 ∧ MaIs m T x z.2.1 z.2.2.1 (ckOf m ps.l z.1).2.n ∧ maA z.2.1 z.2.2.1 (ckOf m ps.l z.1).2.n = (ckOf m ps.l z.1).2) (fun z => [(4, ptr rb), (8, ptr x.xb), (9, .slice z.2.2.2.1 z.1 z.2.2.2.2), (21, .slice ps.o ps.l.length ps.c), (22, .int .i64 (ps.l.length : Int)), (23, .int .i64 (z.1 : Int))]) (fun z => [old w S, md m, bxR x.p, pkR ps, blk rb [.slice none 0 0, .slice none 0 0, .int .i64 0] 31, arr z.2.2.2.1 z.1 z.2.2.2.2 41 ddC (ckOf m ps.l z.1).1] ++ maM m x z.2.1 z.2.2.1 (ckOf m ps.l z.1).2.n) (fun z => ps.l.length - z.1) (0, ts0, e0, none, 0)
  rotate_left
  exact sb
  exact tks
  intro z hz K1 hK1
  (try conv => rhs; simp only [List.cons_append, List.nil_append])
  rotate_left
  · exact ⟨Nat.zero_le _, hn, by rw [hn0]; exact e1, by rw [hn0, e2, hk0]⟩
  obtain ⟨q, us, e, ao, ac⟩ := z
  obtain ⟨hq0, hun, hI, hA⟩ := hz
  dsimp only at hq0 hun hI hA hK1 ⊢
  by_cases hq : q < ps.l.length
  · obtain ⟨tk, q1, htq⟩ : ∃ tk q1, ps.l.getD q default = (tk, q1) := ⟨_, _, rfl⟩
    have hsn := ckOf_succ m ps.l hq
    repeat (first | refine go (k := ?_) | (refine goB (k := ?_); intro b) | (refine goA (k := ?_); intro ao cap))
    rw [htq]
    rw [htq] at hsn
    obtain ⟨C1, hC1⟩ : ∃ C, C = ckOf m ps.l (q + 1) := ⟨_, rfl⟩
    rw [← hC1] at hsn
    generalize ckOf m ps.l q = C at *
    rw [← hA] at hsn
    have hsp := pickA_is m hC x us e C.2.n hI hun tk q1
    generalize Vm.pick m.mdl false (maA us e C.2.n) (tk, q1) = R at *
    ((first | (apply Run.op; exact rfl) | refine Run.yes_ (h := ?_)); refine OpT.call0_ (spec := hsp) (r := (fun w => Reads.md (by (repeat (first | exact Take.head | apply Take.tail))) (Reads.any (by (repeat (first | exact Take.head | apply Take.tail))) (bxR_excl x.p) .nil))) (k := ?_); intro s hs; (try conv => rhs; simp only [List.cons_append, List.nil_append]))
    obtain ⟨us', e'⟩ := s
    obtain ⟨g1, g2, g3⟩ := hs
    dsimp only at g1 g2 g3 ⊢
    repeat (first | refine go (k := ?_) | (refine goB (k := ?_); intro b) | (refine goA (k := ?_); intro ao cap))
    have a1 : C.1 ++ [R.1] = (ckOf m ps.l (q + 1)).1 := by rw [← hC1, hsn]
    have a2 : R.2.n = (ckOf m ps.l (q + 1)).2.n := by rw [← hC1, hsn]
    rw [a1, a2]
    rw [a2] at g1 g3
    refine End.round0_ hK1 (q + 1, us', e', ao, cap) ?_ ?_
    · exact ⟨by dsimp only; omega, by dsimp only; omega, g1, by dsimp only; rw [g3, ← hC1, hsn]⟩
    · dsimp only; omega
  · obtain rfl : q = ps.l.length := by omega
    clear hK1
    repeat (first | refine go (k := ?_) | (refine goB (k := ?_); intro b) | (refine goA (k := ?_); intro ao cap))
    have hce := ckOf_all m ps.l
    have hcl := congrArg List.length (congrArg Prod.fst hce)
    rw [Vm.picks_len] at hcl
    generalize ckOf m ps.l ps.l.length = C at *
    ((first | (apply Run.op; exact rfl) | refine Run.yes_ (h := ?_)); refine OpT.call0_ (spec := world_is m hC x us e C.2.n hI hun hb30) (r := (fun w => Reads.md (by (repeat (first | exact Take.head | apply Take.tail))) (Reads.any (by (repeat (first | exact Take.head | apply Take.tail))) (bxR_excl x.p) .nil))) (k := ?_); intro s hs; (try conv => rhs; simp only [List.cons_append, List.nil_append]))
    obtain ⟨us', r⟩ := s
    obtain ⟨g1, g2, g3⟩ := hs
    dsimp only at g1 g2 g3 ⊢
    rw [hA] at g3
    rw [← hcl]
    repeat (first | refine go (k := ?_) | (refine goB (k := ?_); intro b) | (refine goA (k := ?_); intro ao cap))
    (refine End.doneC3 ((⟨r, ao, ac, C.1⟩ : RunL)) (hr := by exact rfl) (hv := by exact rfl) (ht := by exact rfl) (hm := by (repeat (first | exact Take.head | apply Take.tail))) (hl := by exact rfl) (hu := by exact rfl) (hw := by exact rfl) (he := by (first | exact rfl | (refine congrArg (Value.int _) ?_; omega) | (refine congrArg (Value.int _) ?_; dsimp only; omega))) (hx := by (simp [blk_excl, arr_excl, bag_excl, mp_excl])) (hF := by (repeat (first | exact Takes.nil | exact Take.head | apply Take.tail | apply Takes.cons))) (hp := ?_))
    rw [if_pos rfl]
    exact ⟨by rw [← hce]; exact g3, by rw [← hce]⟩
end Go.Proofs.Ytjehflelkpacfaa.Vw

/- Trace, walked. -/
namespace Go.Proofs.Ytjehflelkpacfaa.Vw
open Go.RowKit Go.Proofs.Ytjehflelkpacfaa.Img
set_option linter.unusedVariables false
set_option linter.unusedSimpArgs false
/-- what Trace answers, and where it lies -/
structure TrL where
  o : Option Addr
  c : Nat
  l : List (Nat × Vm.Ev)
def TrIs (m : ML) (ps : List (Int × Int)) (r : TrL) : Prop := if Vm.wrong m.mdl ps.length = 0 then r.l = (Vm.picks m.mdl true ps (Vm.Ma.init m.mdl)).2.bs.log else r = ⟨none, 0, []⟩
abbrev TrL.mem (r : TrL) : List Chunk := [arr r.o r.l.length r.c 50 evC r.l]
/-- the first tasks tell -/
def tdK (ob : Nat) (kbs : List Nat) : Nat → Value := fun j => if j < kbs.length then toldV (some (27, [ptr ob, ptr (kbs.getD j 0)])) else .nilFunc
theorem tdK_end (ob : Nat) (kbs : List Nat) : tdK ob kbs kbs.length = .nilFunc := if_neg (Nat.lt_irrefl _)
theorem tdK_new (ob : Nat) (kbs : List Nat) (kb : Nat) : tdK ob (kbs ++ [kb]) kbs.length = .func (.func 27) #[] #[ptr ob, ptr kb] := by
  unfold tdK
  rw [if_pos (by simp), List.getD_eq_getElem?_getD]
  simp [toldV]
theorem tdK_old (ob : Nat) (kbs : List Nat) (kb : Nat) {j : Nat} (hj : j ≠ kbs.length) : tdK ob (kbs ++ [kb]) j = tdK ob kbs j := by
  unfold tdK
  by_cases h : j < kbs.length
  · rw [if_pos h, if_pos (by simp; omega), List.getD_eq_getElem?_getD, List.getElem?_append_left h, List.getD_eq_getElem?_getD]
  · rw [if_neg h, if_neg (by simp; omega)]
theorem tksL_congr (mb : Nat) (mail : Value) {told told' : Nat → Value} : ∀ (k : Nat) (l : List TkL), (∀ j, k ≤ j → j < k + l.length → told j = told' j) → tksL mb mail told k l = tksL mb mail told' k l
  | k, [], h => rfl
  | k, t :: l, h => by
    simp only [tksL]
    rw [h k (Nat.le_refl _) (by simp), tksL_congr mb mail (k + 1) l (fun j h1 h2 => h j (by omega) (by simp at h2 ⊢; omega))]
theorem tksO_congr (mb : Nat) (mail : Value) {told told' : Nat → Value} (l : List TkL) (k : Nat) (h : ∀ j, j ≠ k → told j = told' j) : tksO mb mail told l k = tksO mb mail told' l k := by
  unfold tksO
  rw [tksL_congr mb mail 0 (l.take k) (fun j _ h2 => h j (by simp at h2; omega)), tksL_congr mb mail (k + 1) (l.drop (k + 1)) (fun j h1 _ => h j (by omega))]
theorem kcs_snoc (kbs : List Nat) (kb : Nat) : kcs (kbs ++ [kb]) = kcs kbs ++ [blk kb [.int .i64 (kbs.length : Int)] 3] := by
  unfold kcs
  rw [List.length_append, List.length_singleton, List.range_succ, List.map_append, List.map_singleton]
  congr 1
  · refine List.map_congr_left fun j hj => ?_
    rw [List.getD_eq_getElem?_getD, List.getElem?_append_left (List.mem_range.1 hj), List.getD_eq_getElem?_getD]
  · rw [List.getD_eq_getElem?_getD]; simp
theorem setL_getD {l : List TkL} {k : Nat} (hk : k < l.length) : l.set k (l.getD k default) = l := by
  refine List.ext_getElem (by simp) fun j h1 h2 => ?_
  rw [List.getElem_set]
  split
  · rename_i e; subst e; rw [List.getD_eq_getElem?_getD, List.getElem?_eq_getElem h2]; rfl
  · rfl
/-- where all lies, and who tells -/
def MaP.tell (x : MaP) (ob : Nat) (kbs : List Nat) : MaP := { x with p := { x.p with tr := some (ob, kbs) } }
theorem tell_on {w : World} {L F : List Chunk} {p : BxP} {e : BxE} {ob : Nat} {kbs : List Nat} (hp : p.tr = none) (h1 : e.oo = none) (h2 : e.oc = 0) (h3 : e.ev = []) (t : Takes [bxM p e, blk ob [.slice none 0 0] 43, bag (kcs kbs)] L F) (h : Mem w L) : Mem w (bxM { p with tr := some (ob, kbs) } e :: F) := by
  have h4 : Mem w (bxM p e :: (blk ob [.slice none 0 0] 43 :: bag (kcs kbs) :: F)) := h.takes t
  have h5 : Mem w (bag (e.rs.flatMap rgM) :: bag (outC p e) :: (blk ob [.slice none 0 0] 43 :: bag (kcs kbs) :: F)) := Mem.unpack h4
  have h6 := h5.nilArr 50 evC
  have hO : outC { p with tr := some (ob, kbs) } e = [blk ob [.slice none 0 0] 43, arr none 0 0 50 evC [], bag (kcs kbs)] := by
    unfold outC
    dsimp only
    rw [h1, h2, h3]; rfl
  have h7 := Mem.pack (cs := [blk ob [.slice none 0 0] 43, arr none 0 0 50 evC [], bag (kcs kbs)]) (L := bag (e.rs.flatMap rgM) :: bag (outC p e) :: F) (h6.takes (by exact .cons (.tail (.tail (.tail .head))) (.cons .head (.cons (.tail (.tail .head)) .nil)))) (fun c hc => by simp at hc; rcases hc with rfl | rfl | rfl; exact blk_excl; exact arr_excl; exact bag_excl)
  rw [← hO] at h7
  have h8 := Mem.pack (cs := [bag (e.rs.flatMap rgM), bag (outC { p with tr := some (ob, kbs) } e)]) (L := bag (outC p e) :: F) (h7.takes (by exact .cons (.tail .head) (.cons .head .nil))) (fun c hc => by simp at hc; rcases hc with rfl | rfl <;> exact bag_excl)
  exact h8.sub (List.Sublist.cons_cons _ (List.sublist_cons_self _ _))
theorem tell_out {w : World} {L L' : List Chunk} {p : BxP} {e : BxE} {ob : Nat} {kbs : List Nat} (hp : p.tr = some (ob, kbs)) (t : Take (bxM p e) L L') (h : Mem w L) : Mem w (blk ob [.slice e.oo e.ev.length e.oc] 43 :: arr e.oo e.ev.length e.oc 50 evC e.ev :: L') := by
  have h5 : Mem w (bag (e.rs.flatMap rgM) :: bag (outC p e) :: L') := Mem.unpack (h.take t)
  have h6 := Mem.unpack (h5.take (show Take (bag (outC p e)) _ _ from .tail .head))
  have hO : outC p e = [blk ob [.slice e.oo e.ev.length e.oc] 43, arr e.oo e.ev.length e.oc 50 evC e.ev, bag (kcs kbs)] := by unfold outC; rw [hp]
  rw [hO] at h6
  exact (h6.takes (show Takes [blk ob [.slice e.oo e.ev.length e.oc] 43, arr e.oo e.ev.length e.oc 50 evC e.ev] _ _ from .cons .head (.cons .head .nil))).sub (by simp)
attribute [local irreducible] Run Cod End OpT Still RunQ RunS RunT Fn PutOk
attribute [local irreducible] Ver.verify Vm.wrong Vm.picks
def ctOf (m : ML) (ps : List (Int × Int)) (k : Nat) : Vm.Ma := (Vm.picks m.mdl true (ps.take k) (Vm.Ma.init m.mdl)).2
theorem ctOf_zero (m : ML) (ps : List (Int × Int)) : ctOf m ps 0 = Vm.Ma.init m.mdl := by unfold ctOf Vm.picks; rfl
theorem ctOf_succ (m : ML) (ps : List (Int × Int)) {k : Nat} (hk : k < ps.length) : ctOf m ps (k + 1) = (Vm.pick m.mdl true (ctOf m ps k) (ps.getD k default)).2 := congrArg Prod.snd (Vm.picks_succ m.mdl true ps _ k hk)
theorem ctOf_all (m : ML) (ps : List (Int × Int)) : ctOf m ps ps.length = (Vm.picks m.mdl true ps (Vm.Ma.init m.mdl)).2 := by unfold ctOf; rw [List.take_length]
set_option maxRecDepth 100000 in
set_option maxHeartbeats 2000000 in
theorem trace_is (m : ML) (hwf : m.Wf) (ps : PkL) : Fn Try.prog 15 #[m.val, ps.val] [md m, pkR ps] [] (σ := TrL) (TrIs m ps.l) (fun r => .tuple #[.slice r.o r.l.length r.c, .int .i64 (Vm.wrong m.mdl ps.l.length)]) TrL.mem := by
  refine Fn.enter (args := [m.val, ps.val]) Try.func15 rfl _ Try.ntmps15 rfl (by simp [md_excl, rd_excl]) (fun w S => ?_)
  (try conv => rhs; simp only [List.cons_append, List.nil_append])
  obtain ⟨W, hW⟩ : ∃ W, W = Vm.wrong m.mdl ps.l.length := ⟨_, rfl⟩
  unfold TrIs
  rw [← hW]
  repeat (first | refine go (k := ?_) | (refine goB (k := ?_); intro b) | (refine goA (k := ?_); intro ao cap))
  (apply Run.op; exact rfl; refine OpT.call0_ (spec := wrong_is m hwf ps.l.length) (k := ?_); intro s hs; (try conv => rhs; simp only [List.cons_append, List.nil_append]))
  rw [← hW]
  by_cases h0 : ¬ W = 0
  · repeat (first | refine go (k := ?_) | (refine goB (k := ?_); intro b) | (refine goA (k := ?_); intro ao cap))
    apply End.imp (fun w hm => hm.nilArr 50 evC)
    (refine End.done2_ ((⟨none, 0, []⟩ : TrL)) (he := by (first | exact rfl | (refine congrArg (Value.int _) ?_; omega) | (refine congrArg (Value.int _) ?_; dsimp only; omega))) (hp := ?_))
    rw [if_neg h0]
  have h0 := Classical.not_not.1 h0
  subst h0
  obtain ⟨hv, hp4⟩ := wrong_zero hW.symm
  have hF := formed (Ver.verify_iff.1 hv).form
  have hu30 := hF.units
  have hb30 := hF.boxes
  obtain ⟨T, hC⟩ := certs_ml hwf hv
  repeat (first | refine go (k := ?_) | (refine goB (k := ?_); intro b) | (refine goA (k := ?_); intro ao cap))
  obtain ⟨mb, rfl⟩ : ∃ x, x = b := ⟨_, rfl⟩
  (apply Run.op; exact rfl; refine OpT.call0_ (spec := begin2_is mb m hb30 hu30 (caps_ok hv) (fun k hk => (head_ok (hF.head k hk)).1)) (k := ?_); intro s hs; (try conv => rhs; simp only [List.cons_append, List.nil_append]))
  obtain ⟨e1, e2⟩ := beg_is hC hs mb
  have hn := beg_len hs hu30
  have hk0 := ctOf_zero m ps.l
  obtain ⟨n0, hn0'⟩ : ∃ n, n = (ctOf m ps.l 0).n := ⟨_, rfl⟩
  have hn0 : n0 = 0 := by rw [hn0', hk0]; rfl
  apply Run.imp' (fun w hm => beg_ma s hn0 (by (repeat (first | exact Takes.nil | exact Take.head | apply Take.tail | apply Takes.cons))) hm)
  (try conv => rhs; simp only [List.cons_append, List.nil_append])
  obtain ⟨x, hx⟩ : ∃ x, x = s.pl mb := ⟨_, rfl⟩
  obtain ⟨ts0, ht0⟩ : ∃ x, x = s.ts := ⟨_, rfl⟩
  obtain ⟨e0, he0⟩ : ∃ x, x = s.be := ⟨_, rfl⟩
  have hxb : s.xb = x.xb := by rw [hx]; rfl
  have hxt : x.p.tr = none := by rw [hx]; rfl
  have eo1 : e0.oo = none := by rw [he0]; rfl
  have eo2 : e0.oc = 0 := by rw [he0]; rfl
  have eo3 : e0.ev = [] := by rw [he0]; rfl
  rw [← hx] at e1
  rw [← ht0, ← he0] at e1 e2
  rw [← ht0] at hn
  rw [hxb, ← hx, ← ht0, ← he0]
  clear hx ht0 he0 hxb hs s
  have htb : x.tbs.length = ts0.length := by rw [← e1.tbs, List.length_map]
  repeat (first | refine go (k := ?_) | (refine goB (k := ?_); intro b) | (refine goA (k := ?_); intro ao cap))
  obtain ⟨ob, rfl⟩ : ∃ x, x = b := ⟨_, rfl⟩
  apply Cod.imp (fun w hm => hm.bagNil)
  subst hn0'
  refine Cod.only ((fun z => [old w S, md m, bxR x.p, pkR ps, blk ob [.slice none 0 0] 43, bag (kcs z.2), blk x.xb (maC x.to x.tbs.length x.tc x.p.bo x.p.bs.length x.p.bc (ctOf m ps.l 0).n) 80, blk x.mb (mdV m) 25, arr x.to x.tbs.length x.tc 81 ptrC x.tbs, bxM x.p e0, tksM x.mb (bxV x.p.bo x.p.bs.length x.p.bc) (tdK ob z.2) ts0]) (0, [])) (by (repeat (first | exact Takes.nil | exact Take.head | apply Take.tail | apply Takes.cons))) ?_
  apply Cod.loop (σ := Nat × List Nat) (fun z => z.1 ≤ ts0.length ∧ z.2.length = z.1) (fun z => [(1, ps.val), (7, ptr x.xb), (8, ptr ob), (24, .slice x.to x.tbs.length x.tc), (25, .int .i64 (x.tbs.length : Int)), (26, .int .i64 (z.1 : Int))]) (fun z => [old w S, md m, bxR x.p, pkR ps, blk ob [.slice none 0 0] 43, bag (kcs z.2), blk x.xb (maC x.to x.tbs.length x.tc x.p.bo x.p.bs.length x.p.bc (ctOf m ps.l 0).n) 80, blk x.mb (mdV m) 25, arr x.to x.tbs.length x.tc 81 ptrC x.tbs, bxM x.p e0, tksM x.mb (bxV x.p.bo x.p.bs.length x.p.bc) (tdK ob z.2) ts0]) (fun z => ts0.length - z.1) (0, [])
  rotate_left
  exact sb
  exact tks
  intro z hz K1 hK1
  (try conv => rhs; simp only [List.cons_append, List.nil_append])
  rotate_left
  · exact ⟨Nat.zero_le _, rfl⟩
  obtain ⟨q, kbs⟩ := z
  obtain ⟨hq0, hkl⟩ := hz
  dsimp only at hq0 hkl hK1 ⊢
  by_cases hq : q < ts0.length
  · obtain ⟨t, ht⟩ : ∃ t, t = ts0.getD q default := ⟨_, rfl⟩
    have htbq : x.tbs.getD q default = t.tb := by
      rw [← e1.tbs, ht, List.getD_eq_getElem?_getD, List.getD_eq_getElem?_getD, List.getElem?_map, List.getElem?_eq_getElem hq]; rfl
    have hend := tdK_end ob kbs
    rw [hkl] at hend
    apply Cod.imp (fun w hm => by have := Mem.tkOut (k := q) hm (by (repeat (first | exact Take.head | apply Take.tail))) hq; rw [← ht, hend] at this; exact this)
    (try conv => rhs; simp only [List.cons_append, List.nil_append])
    repeat (first | refine go (k := ?_) | (refine goB (k := ?_); intro b) | (refine goA (k := ?_); intro ao cap))
    rw [htbq]
    repeat (first | refine go (k := ?_) | (refine goB (k := ?_); intro b) | (refine goA (k := ?_); intro ao cap))
    obtain ⟨kb, rfl⟩ : ∃ x, x = b := ⟨_, rfl⟩
    have htn := tdK_new ob kbs kb
    rw [hkl] at htn
    have hset : ts0.set q t = ts0 := by rw [ht]; exact setL_getD hq
    rw [tksO_congr x.mb (bxV x.p.bo x.p.bs.length x.p.bc) (told := tdK ob kbs) (told' := tdK ob (kbs ++ [kb])) ts0 q (fun j hj => (tdK_old ob kbs kb (by omega)).symm)]
    apply End.imp (fun w hm => by have h2 := Mem.tkIn (told := tdK ob (kbs ++ [kb])) (t := t) hm (by (repeat (first | exact Take.head | apply Take.tail))) (by rw [htn]; (repeat (first | exact Takes.nil | exact Take.head | apply Take.tail | apply Takes.cons))) hq; rw [hset] at h2; exact h2)
    have hks := kcs_snoc kbs kb
    rw [hkl] at hks
    apply End.imp (fun w hm => by have h2 := Mem.bagAdd (cs := kcs kbs) (ds := [blk kb [.int .i64 (q : Int)] 3]) hm (by (repeat (first | exact Take.head | apply Take.tail))) (by (repeat (first | exact Takes.nil | exact Take.head | apply Take.tail | apply Takes.cons))) (fun c hc => by simp at hc; subst hc; exact blk_excl); rw [← hks] at h2; exact h2)
    refine End.round0_ hK1 (q + 1, kbs ++ [kb]) ?_ ?_
    · exact ⟨by dsimp only; omega, by simp [hkl]⟩
    · dsimp only; omega
  · obtain rfl : q = ts0.length := by omega
    clear hK1
    apply Cod.imp (fun w hm => tell_on hxt eo1 eo2 eo3 (by (repeat (first | exact Takes.nil | exact Take.head | apply Take.tail | apply Takes.cons))) hm)
    (try conv => rhs; simp only [List.cons_append, List.nil_append])
    obtain ⟨X, hX⟩ : ∃ X, X = x.tell ob kbs := ⟨_, rfl⟩
    have y1 : x.xb = X.xb := by rw [hX]; rfl
    have y2 : x.mb = X.mb := by rw [hX]; rfl
    have y3 : x.to = X.to := by rw [hX]; rfl
    have y4 : x.tc = X.tc := by rw [hX]; rfl
    have y5 : x.tbs = X.tbs := by rw [hX]; rfl
    have y6 : ({ x.p with tr := some (ob, kbs) } : BxP) = X.p := by rw [hX]; rfl
    have y7 : x.p.bo = X.p.bo := by rw [hX]; rfl
    have y8 : x.p.bc = X.p.bc := by rw [hX]; rfl
    have y9 : x.p.bs = X.p.bs := by rw [hX]; rfl
    have y10 : X.p.tr = some (ob, kbs) := by rw [hX]; rfl
    have hK : ∀ k, k < ts0.length → KOk X.p (Vm.tOf true k) := fun k hk => by
      exact ⟨ob, kbs, y10, by omega⟩
    have htd : tksM X.mb (bxV X.p.bo X.p.bs.length X.p.bc) (tdK ob kbs) ts0 = tksM X.mb (bxV X.p.bo X.p.bs.length X.p.bc) (tdV X.p true) ts0 := by
      unfold tksM
      rw [tksL_congr X.mb (bxV X.p.bo X.p.bs.length X.p.bc) (told := tdK ob kbs) (told' := tdV X.p true) 0 ts0 (fun j _ hj => by
        have hj' : j < kbs.length := by omega
        unfold tdK
        rw [if_pos hj']
        show toldV (some (27, [ptr ob, ptr (kbs.getD j 0)])) = toldV (some (27, match X.p.tr with | none => [] | some (ob, kbs) => [ptr ob, ptr (kbs.getD j 0)]))
        rw [y10])]
    have e1' : MaIs m T X ts0 e0 (ctOf m ps.l 0).n := by
      rw [hn0, hX]
      exact ⟨e1.tbs, e1.wf, ⟨e1.bx.at_, e1.bx.len, e1.bx.ok, e1.bx.cap⟩, e1.ok⟩
    unfold bxR
    rw [y6, y7, y8, y9, y1, y2, y3, y4, y5, htd]
    rw [y5] at htb
    clear hX y1 y2 y3 y4 y5 y6 y7 y8 y9 htd e1 hxt
    repeat (first | refine go (k := ?_) | (refine goB (k := ?_); intro b) | (refine goA (k := ?_); intro ao cap))
    refine Cod.only ((fun z => [old w S, md m, bxR X.p, pkR ps] ++ maB m X true z.2.1 z.2.2 (ctOf m ps.l z.1).n) (0, ts0, e0)) (by (repeat (first | exact Takes.nil | exact Take.head | apply Take.tail | apply Takes.cons))) ?_
    apply Cod.loop (σ := Nat × List TkL × BxE) (fun z => z.1 ≤ ps.l.length ∧ z.2.1.length = ts0.length ∧ MaIs m T X z.2.1 z.2.2 (ctOf m ps.l z.1).n ∧ maA z.2.1 z.2.2 (ctOf m ps.l z.1).n = ctOf m ps.l z.1) (fun z => [(7, ptr X.xb), (8, ptr ob), (36, .slice ps.o ps.l.length ps.c), (37, .int .i64 (ps.l.length : Int)), (38, .int .i64 (z.1 : Int))]) (fun z => [old w S, md m, bxR X.p, pkR ps] ++ maB m X true z.2.1 z.2.2 (ctOf m ps.l z.1).n) (fun z => ps.l.length - z.1) (0, ts0, e0)
    rotate_left
    exact sb
    exact tks
    intro z hz K1 hK1
    (try conv => rhs; simp only [List.cons_append, List.nil_append])
    rotate_left
    · exact ⟨Nat.zero_le _, rfl, e1', by rw [hn0, e2, hk0]⟩
    obtain ⟨q, us, e⟩ := z
    obtain ⟨hq0, hun, hI, hA⟩ := hz
    dsimp only at hq0 hun hI hA hK1 ⊢
    by_cases hq : q < ps.l.length
    · obtain ⟨tk, q1, htq⟩ : ∃ tk q1, ps.l.getD q default = (tk, q1) := ⟨_, _, rfl⟩
      have hsn := ctOf_succ m ps.l hq
      repeat (first | refine go (k := ?_) | (refine goB (k := ?_); intro b) | (refine goA (k := ?_); intro ao cap))
      rw [htq]
      rw [htq] at hsn
      obtain ⟨C1, hC1⟩ : ∃ C, C = ctOf m ps.l (q + 1) := ⟨_, rfl⟩
      rw [← hC1] at hsn
      generalize ctOf m ps.l q = C at *
      rw [← hA] at hsn
      have hsp := pickB_is m hC X us e C.n hI (by omega) true (by rw [hun]; exact hK) tk q1
      generalize Vm.pick m.mdl true (maA us e C.n) (tk, q1) = R at *
      ((first | (apply Run.op; exact rfl) | refine Run.yes_ (h := ?_)); refine OpT.call0_ (spec := hsp) (r := (fun w => Reads.md (by (repeat (first | exact Take.head | apply Take.tail))) (Reads.any (by (repeat (first | exact Take.head | apply Take.tail))) (bxR_excl X.p) .nil))) (k := ?_); intro s hs; (try conv => rhs; simp only [List.cons_append, List.nil_append]))
      obtain ⟨us', e'⟩ := s
      obtain ⟨g1, g2, g3⟩ := hs
      dsimp only at g1 g2 g3 ⊢
      repeat (first | refine go (k := ?_) | (refine goB (k := ?_); intro b) | (refine goA (k := ?_); intro ao cap))
      have a2 : R.2.n = (ctOf m ps.l (q + 1)).n := by rw [← hC1, hsn]
      rw [a2]
      rw [a2] at g1 g3
      refine End.round0_ hK1 (q + 1, us', e') ?_ ?_
      · exact ⟨by dsimp only; omega, by dsimp only; omega, g1, by dsimp only; rw [g3, ← hC1, hsn]⟩
      · dsimp only; omega
    · obtain rfl : q = ps.l.length := by omega
      clear hK1
      have hce := ctOf_all m ps.l
      rw [hce] at hA
      have hlog : e.ev = (Vm.picks m.mdl true ps.l (Vm.Ma.init m.mdl)).2.bs.log := by rw [← hA]; rfl
      apply Cod.imp (fun w hm => tell_out y10 (by (repeat (first | exact Take.head | apply Take.tail))) hm)
      (try conv => rhs; simp only [List.cons_append, List.nil_append])
      repeat (first | refine go (k := ?_) | (refine goB (k := ?_); intro b) | (refine goA (k := ?_); intro ao cap))
      (refine End.done2_ ((⟨e.oo, e.oc, e.ev⟩ : TrL)) (he := by (first | exact rfl | (refine congrArg (Value.int _) ?_; omega) | (refine congrArg (Value.int _) ?_; dsimp only; omega))) (hp := ?_))
      rw [if_pos rfl]
      exact hlog
end Go.Proofs.Ytjehflelkpacfaa.Vw

/- What picks do: counted; long ones; such as are refused. Plain Lean. -/
namespace Go.Proofs.Ytjehflelkpacfaa.Vm
open ImgM
set_option linter.unusedVariables false
variable {M : Mdl} {told : Bool}
/-- a pick counts its steps -/
structure Cnt (n : Nat) (q : Int) (e : Int × Nat) (n' : Nat) : Prop where
  sum : n' = n + e.2
  ok : e.1 = 0 → 1 ≤ e.2 ∧ (e.2 : Int) ≤ q
  no : e.1 ≠ 0 → e.2 = 0
/-- alike but for what is seen anew -/
structure Rel (c c' : Ma) : Prop where
  bs : c.bs = c'.bs
  n : c.n = c'.n
  len : c.ts.length = c'.ts.length
  ts : ∀ k, k < c.ts.length → Alk (c.ts.getD k default) (c'.ts.getD k default)
theorem Rel.refl (c : Ma) : Rel c c := ⟨rfl, rfl, rfl, fun k _ => .inl rfl⟩
theorem Rel.looked {c c' : Ma} (h : Rel c c') : c.looked M = c'.looked M := by
  obtain ⟨ts, bs, n⟩ := c
  obtain ⟨ts', bs', n'⟩ := c'
  obtain ⟨h1, h2, h3, h4⟩ := h
  dsimp only at h1 h2 h3 h4
  subst h1 h2
  unfold Ma.looked
  simp only [Ma.mk.injEq, and_true]
  refine List.ext_getElem (by simpa using h3) fun j g1 g2 => ?_
  simp only [List.length_map] at g1 g2
  have := h4 j g1
  rw [List.getD_eq_getElem?_getD, List.getD_eq_getElem?_getD, List.getElem?_eq_getElem g1, List.getElem?_eq_getElem g2, Option.getD_some, Option.getD_some] at this
  simp only [List.getElem_map]
  rw [look_alk _ M this]
theorem look_back {ν : Type} (V : Env ν) (r : Tk × ν) : Alk (look V M r).1 r.1 := by
  have key : r.1.st ≤ 3 → ∀ a b : Int, a ≤ 3 → Alk { r.1 with st := a, bx := b } r.1 := fun h a b ha => .inr ⟨ha, r.1.st, r.1.bx, h, rfl⟩
  unfold look waits
  by_cases h3 : r.1.st ≤ 3
  · rw [if_pos h3]
    split
    · exact key h3 _ _ (by decide)
    · split
      · exact key h3 _ _ (by decide)
      · exact key h3 _ _ (by decide)
  · rw [if_neg h3]; exact .inl rfl
theorem Alk.trans' {a b c : Tk} (h : Alk a b) (k : Alk b c) : Alk a c := by
  rcases h with rfl | ⟨h1, x, y, h2, rfl⟩
  · exact k
  · rcases k with rfl | ⟨k1, u, v, k2, rfl⟩
    · exact .inr ⟨h1, x, y, h2, rfl⟩
    · exact .inr ⟨h1, u, v, k2, rfl⟩
theorem getD_set {l : List Tk} {j k : Nat} {t : Tk} (hj : j < l.length) : (l.set j t).getD k default = if j = k then t else l.getD k default := by
  simp only [List.getD_eq_getElem?_getD, List.getElem?_set]
  by_cases h : j = k
  · subst h; rw [if_pos rfl, if_pos hj, if_pos rfl]; rfl
  · rw [if_neg h, if_neg h]
/-- what a refused pick leaves -/
theorem pick1_no {ν : Type} {V : Env ν} {n : Nat} {q : Int} {r : Tk × ν} (h : (pick1 V M n q r).1.1 ≠ 0) : (pick1 V M n q r).1.2 = 0 ∧ (pick1 V M n q r).2.2 = r.2 ∧ Alk (pick1 V M n q r).2.1 r.1 := by
  unfold pick1 at h ⊢
  by_cases h2 : q < 1 ∨ 10000 < q
  · rw [if_pos h2]; exact ⟨rfl, rfl, .inl rfl⟩
  rw [if_neg h2] at h ⊢
  by_cases h3 : (look V M r).1.st ≠ 1
  · rw [if_pos h3]; exact ⟨rfl, look_snd V M r, look_back V r⟩
  rw [if_neg h3] at h ⊢
  have h3 := Classical.not_not.1 h3
  have hz : (goN V M (min q.toNat (20000 - n)) (look V M r)).1 = 0 → (goN V M (min q.toNat (20000 - n)) (look V M r)).2 = look V M r := fun h0 => by
    cases hm : min q.toNat (20000 - n) with
    | zero => rfl
    | succ k =>
      rw [hm] at h0
      unfold goN at h0
      rw [step_yes V M (by rw [look_look]; exact h3), if_pos rfl] at h0
      simp at h0
  by_cases h4 : (goN V M (min q.toNat (20000 - n)) (look V M r)).1 = 0
  · rw [if_pos h4, hz h4]; exact ⟨rfl, look_snd V M r, look_back V r⟩
  · rw [if_neg h4] at h; exact absurd rfl h
theorem Rel.no {c c' : Ma} (h : Rel c c') {p : Int × Int} (hp : (pick M told c p).1.1 ≠ 0) : Rel (pick M told c p).2 c' := by
  unfold pick at hp ⊢
  by_cases h1 : p.1 < 0 ∨ (c.ts.length : Int) ≤ p.1
  · rw [if_pos h1]; exact h
  · rw [if_neg h1] at hp ⊢
    obtain ⟨g1, g2, g3⟩ := pick1_no hp
    have hk : p.1.toNat < c.ts.length := by omega
    refine ⟨?_, ?_, ?_, fun k hk' => ?_⟩
    · dsimp only; rw [g2]; exact h.bs
    · dsimp only; rw [g1]; exact h.n
    · dsimp only; rw [List.length_set]; exact h.len
    · dsimp only at hk' ⊢
      rw [List.length_set] at hk'
      rw [getD_set hk]
      by_cases e : p.1.toNat = k
      · subst e; rw [if_pos rfl]; exact g3.trans' (h.ts _ hk')
      · rw [if_neg e]; exact h.ts k hk'
theorem pick1_alk {ν : Type} {V : Env ν} {n : Nat} {q : Int} {t t' : Tk} {s : ν} (h : Alk t t') (hp : (pick1 V M n q (t, s)).1.1 = 0) : pick1 V M n q (t', s) = pick1 V M n q (t, s) := by
  unfold pick1 at hp ⊢
  by_cases h2 : q < 1 ∨ 10000 < q
  · rw [if_pos h2] at hp; cases hp
  · rw [if_neg h2, if_neg h2, look_alk V M h]
theorem Rel.ok {c c' : Ma} (h : Rel c c') {p : Int × Int} (hp : (pick M told c p).1.1 = 0) : (pick M told c' p).1 = (pick M told c p).1 ∧ Rel (pick M told c p).2 (pick M told c' p).2 := by
  unfold pick at hp ⊢
  by_cases h1 : p.1 < 0 ∨ (c.ts.length : Int) ≤ p.1
  · rw [if_pos h1] at hp; cases hp
  · rw [if_neg h1] at hp ⊢
    rw [if_neg (by rw [← h.len]; exact h1)]
    have hk : p.1.toNat < c.ts.length := by omega
    have hk2 : p.1.toNat < c'.ts.length := by rw [← h.len]; exact hk
    have e : pick1 (bxs M (tOf told p.1.toNat)) M c'.n p.2 (c'.at_ p.1.toNat) = pick1 (bxs M (tOf told p.1.toNat)) M c.n p.2 (c.at_ p.1.toNat) := by
      unfold Ma.at_ at hp ⊢
      rw [← h.bs, ← h.n]
      exact pick1_alk (h.ts _ hk) hp
    dsimp only
    rw [e]
    refine ⟨rfl, rfl, by dsimp only; rw [h.n], by simp only [List.length_set]; exact h.len, fun k hk' => ?_⟩
    dsimp only at hk' ⊢
    rw [List.length_set] at hk'
    rw [getD_set hk, getD_set hk2]
    by_cases e : p.1.toNat = k
    · rw [if_pos e, if_pos e]; exact .inl rfl
    · rw [if_neg e, if_neg e]; exact h.ts k hk'
end Go.Proofs.Ytjehflelkpacfaa.Vm
