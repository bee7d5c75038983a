/- Run, walked. -/
import Derived.Test.YtjehflelkpacfaaM32
import Derived.WalkKit
namespace Go.Proofs.Ytjehflelkpacfaa.Vw
open Go.RowKit Go.Proofs.Ytjehflelkpacfaa.Img
set_option linter.unusedVariables false
set_option linter.unusedSimpArgs false
attribute [local irreducible] Run Cod End OpT Still RunQ RunS RunT Fn PutOk
theorem Ring.ws_len {r : Ring} (h : r.n = 0) : r.ws = [] := List.eq_nil_of_length_eq_zero (by rw [r.len, h])
/-- where all lies that begin laid -/
def BegL.pl (s : BegL) (mb : Nat) : MaP := ⟨s.xb, mb, s.to, s.tc, s.ts.map (·.tb), ⟨s.bo, s.bc, s.rs.map (·.bb), none⟩⟩
def BegL.be (s : BegL) : BxE := ⟨s.rs, none, 0, []⟩
theorem Mem.nilArr' {w : World} {L : List Chunk} (h : Mem w L) (e : TypeId) {α : Type} {iα : Inhabited α} (f : α → List Value) [Enc f] {l : List α} (hl : l = []) : Mem w (arr none 0 0 e f l :: L) := by subst hl; exact h.nilArr e f
theorem beg_ma {w : World} {L F : List Chunk} {m : ML} {mb : Nat} (s : BegL) {n : Nat} (hn : n = 0) (t : Takes (BegL.mem m mb s) L F) (h : Mem w L) : Mem w (bxR (s.pl mb).p :: (maM m (s.pl mb) s.ts s.be n ++ F)) := by
  subst hn
  have h1 : Mem w (BegL.mem m mb s ++ F) := h.takes t
  have h2 := rd_own (α := Nat) (ao := s.bo) (n := s.rs.length) (cap := s.bc) (e := 93) (f := ptrC) (l := s.rs.map (·.bb)) (L := BegL.mem m mb s ++ F) (by exact .cons (.tail (.tail (.tail .head))) .nil) h1
  have h3 : Mem w (bag [] :: _) := h2.bagNil
  have h4 := Mem.pack (cs := [bag (s.rs.flatMap rgM), bag []]) (L := _) (h3.takes (by exact .cons (.tail (.tail (.tail (.tail (.tail .head))))) (.cons .head .nil))) (fun c hc => by simp at hc; rcases hc with rfl | rfl <;> exact bag_excl)
  have e1 : (s.pl mb).tbs.length = s.ts.length := by simp [BegL.pl]
  have e2 : (s.pl mb).p.bs.length = s.rs.length := by simp [BegL.pl]
  have h5 : Mem w (bxM (s.pl mb).p s.be :: rd s.bo s.rs.length s.bc ptrC (s.rs.map (·.bb)) :: blk s.xb (maC s.to s.ts.length s.tc s.bo s.rs.length s.bc 0) 80 :: blk mb (mdV m) 25 :: arr s.to s.ts.length s.tc 81 ptrC (s.ts.map (·.tb)) :: tksM mb (bxV s.bo s.rs.length s.bc) (fun _ => .nilFunc) s.ts :: F) := h4
  unfold maM bxR
  rw [e1, e2]
  exact h5.takes (by exact .cons (.tail .head) (.cons (.tail .head) (.cons (.tail .head) (.cons (.tail .head) (.cons .head (.cons .head .nil))))))
theorem beg_is {m : ML} {T : Nat → Int → Option Ver.Shape} (hC : Vm.Certs m.mdl T) {s : BegL} (h : s.Ok m) (mb : Nat) : MaIs m T (s.pl mb) s.ts s.be 0 ∧ maA s.ts s.be 0 = Vm.Ma.init m.mdl := by
  have hws : s.be.abs.ws = List.replicate m.mdl.boxes.length [] := by
    show s.rs.map Ring.ws = _
    refine List.ext_getElem (by simp [h.rlen]) fun j h1 h2 => ?_
    simp only [List.length_map] at h1
    have := (h.ring j (by rw [← h.rlen]; exact h1)).2.2
    rw [List.getD_eq_getElem?_getD, List.getElem?_eq_getElem h1, Option.getD_some] at this
    simp [Ring.ws_len this]
  have hA : maA s.ts s.be 0 = Vm.Ma.init m.mdl := by
    unfold Vm.Ma.init
    simp only [maA, Vm.Ma.mk.injEq, and_true]
    refine ⟨h.ts, ?_⟩
    have : s.be.abs = ⟨s.be.abs.ws, []⟩ := rfl
    rw [this, hws]
  refine ⟨⟨rfl, h.wf, ⟨rfl, h.rlen, fun r hr => ?_, fun b hb => (h.ring b hb).2.1⟩, by rw [hA]; exact Vm.Ma.Ok.init hC⟩, hA⟩
  obtain ⟨j, hj, rfl⟩ := List.getElem_of_mem hr
  have := (h.ring j (by rw [← h.rlen]; exact hj)).1
  rw [List.getD_eq_getElem?_getD, List.getElem?_eq_getElem (show j < s.rs.length from hj), Option.getD_some] at this
  exact this
theorem beg_len {m : ML} {s : BegL} (h : s.Ok m) (h30 : m.us.length ≤ 30) : s.ts.length ≤ 30 := by
  have h1 := congrArg List.length h.ts
  simp only [List.length_map] at h1
  rw [h1, tasks_eq]
  have := tasks_len m m.us.length
  omega
end Go.Proofs.Ytjehflelkpacfaa.Vw
namespace Go.Proofs.Ytjehflelkpacfaa.Vm
theorem picks_app (M : ImgM.Mdl) (told : Bool) : ∀ (a b : List (Int × Int)) (c : Ma), picks M told (a ++ b) c = ((picks M told a c).1 ++ (picks M told b (picks M told a c).2).1, (picks M told b (picks M told a c).2).2)
  | [], b, c => by simp [picks]
  | p :: a, b, c => by simp only [List.cons_append, picks]; rw [picks_app M told a b]
theorem picks_one (M : ImgM.Mdl) (told : Bool) (p : Int × Int) (c : Ma) : picks M told [p] c = ([(pick M told c p).1], (pick M told c p).2) := by simp [picks]
theorem picks_succ (M : ImgM.Mdl) (told : Bool) (l : List (Int × Int)) (c : Ma) (k : Nat) (hk : k < l.length) : picks M told (l.take (k + 1)) c = ((picks M told (l.take k) c).1 ++ [(pick M told (picks M told (l.take k) c).2 (l.getD k default)).1], (pick M told (picks M told (l.take k) c).2 (l.getD k default)).2) := by
  rw [List.take_succ_eq_append_getElem hk, picks_app, picks_one, List.getD_eq_getElem?_getD, List.getElem?_eq_getElem hk]; rfl
theorem picks_len (M : ImgM.Mdl) (told : Bool) : ∀ (l : List (Int × Int)) (c : Ma), (picks M told l c).1.length = l.length
  | [], c => rfl
  | p :: l, c => by simp only [picks, List.length_cons]; rw [picks_len]
end Go.Proofs.Ytjehflelkpacfaa.Vm
namespace Go.Proofs.Ytjehflelkpacfaa.Vw
open Go.RowKit Go.Proofs.Ytjehflelkpacfaa.Img
attribute [local irreducible] Run Cod End OpT Still RunQ RunS RunT Fn PutOk
structure PkL where
  o : Option Addr
  c : Nat
  l : List (Int × Int)
abbrev PkL.val (p : PkL) : Value := .slice p.o p.l.length p.c
abbrev pkR (p : PkL) : Chunk := rd p.o p.l.length p.c pkC p.l
structure RunL where
  w : WoL
  o : Option Addr
  c : Nat
  l : List (Int × Nat)
abbrev RunL.zero : RunL := ⟨⟨none, 0, [], none, 0, [], 0⟩, none, 0, []⟩
structure RunL.Is (m : ML) (ps : List (Int × Int)) (r : RunL) : Prop where
  w : r.w.Is ((Vm.picks m.mdl false ps (Vm.Ma.init m.mdl)).2.looked m.mdl)
  l : r.l = (Vm.picks m.mdl false ps (Vm.Ma.init m.mdl)).1
def RunIs (m : ML) (ps : List (Int × Int)) (r : RunL) : Prop := if Vm.wrong m.mdl ps.length = 0 then r.Is m ps else r = RunL.zero
abbrev RunL.mem (r : RunL) : List Chunk := arr r.o r.l.length r.c 41 ddC r.l :: r.w.mem
theorem wrong_zero {M : ImgM.Mdl} {n : Nat} (h : Vm.wrong M n = 0) : Ver.verify M = .ok ∧ n ≤ 400 := by
  unfold Vm.wrong at h
  by_cases h1 : (Ver.verify M).err ≠ 0
  · rw [if_pos h1] at h; exact absurd h h1
  · rw [if_neg h1] at h
    refine ⟨Ver.verify_eq (Classical.not_not.1 h1), ?_⟩
    by_cases h2 : 400 < n
    · rw [if_pos h2] at h; cases h
    · exact Nat.le_of_not_lt h2
attribute [local irreducible] Ver.verify Vm.wrong Vm.picks
theorem caps_ok {m : ML} (h : Ver.verify m.mdl = .ok) (b : Nat) (hb : b < m.bx.length) : 1 ≤ (m.bx.getD b default).2 ∧ (m.bx.getD b default).2 ≤ 20 := by
  have := (Ver.verify_iff.1 h).form.boxes (m.bx.getD b default) (by rw [List.getD_eq_getElem?_getD, List.getElem?_eq_getElem hb]; exact List.getElem_mem _)
  exact this.2
/-- all picks up to one -/
def ckOf (m : ML) (ps : List (Int × Int)) (k : Nat) : List (Int × Nat) × Vm.Ma := Vm.picks m.mdl false (ps.take k) (Vm.Ma.init m.mdl)
theorem ckOf_zero (m : ML) (ps : List (Int × Int)) : ckOf m ps 0 = ([], Vm.Ma.init m.mdl) := by unfold ckOf Vm.picks; rfl
theorem ckOf_succ (m : ML) (ps : List (Int × Int)) {k : Nat} (hk : k < ps.length) : ckOf m ps (k + 1) = ((ckOf m ps k).1 ++ [(Vm.pick m.mdl false (ckOf m ps k).2 (ps.getD k default)).1], (Vm.pick m.mdl false (ckOf m ps k).2 (ps.getD k default)).2) := Vm.picks_succ m.mdl false ps _ k hk
theorem ckOf_all (m : ML) (ps : List (Int × Int)) : ckOf m ps ps.length = Vm.picks m.mdl false ps (Vm.Ma.init m.mdl) := by unfold ckOf; rw [List.take_length]
set_option maxRecDepth 100000 in
set_option maxHeartbeats 2000000 in
theorem run_is (m : ML) (hwf : m.Wf) (ps : PkL) : Fn Try.prog 13 #[m.val, ps.val] [md m, pkR ps] [] (σ := RunL) (RunIs m ps.l) (fun r => .tuple #[.agg r.w.cells.toArray, .slice r.o r.l.length r.c, .int .i64 (Vm.wrong m.mdl ps.l.length)]) RunL.mem := by
  refine Fn.enter (args := [m.val, ps.val]) Try.func13 rfl _ Try.ntmps13 rfl (by simp [md_excl, rd_excl]) (fun w S => ?_)
  (try conv => rhs; simp only [List.cons_append, List.nil_append])
  obtain ⟨W, hW⟩ : ∃ W, W = Vm.wrong m.mdl ps.l.length := ⟨_, rfl⟩
  unfold RunIs
  rw [← hW]
  repeat (first | refine go (k := ?_) | (refine goB (k := ?_); intro b) | (refine goA (k := ?_); intro ao cap))
  obtain ⟨rb, rfl⟩ : ∃ x, x = b := ⟨_, rfl⟩
  (apply Run.op; exact rfl; refine OpT.call0_ (spec := wrong_is m hwf ps.l.length) (k := ?_); intro s hs; (try conv => rhs; simp only [List.cons_append, List.nil_append]))
  rw [← hW]
  by_cases h0 : ¬ W = 0
  · repeat (first | refine go (k := ?_) | (refine goB (k := ?_); intro b) | (refine goA (k := ?_); intro ao cap))
    apply End.imp (fun w hm => (((((hm.bagNil).bagNil).nilArr 56 enC).nilArr 51 rwC)).nilArr 41 ddC)
    (refine End.doneC3 (RunL.zero) (hr := by exact rfl) (hv := by exact rfl) (ht := by exact rfl) (hm := by (repeat (first | exact Take.head | apply Take.tail))) (hl := by exact rfl) (hu := by exact rfl) (hw := by exact rfl) (he := by (first | exact rfl | (refine congrArg (Value.int _) ?_; omega) | (refine congrArg (Value.int _) ?_; dsimp only; omega))) (hx := by (simp [blk_excl, arr_excl, bag_excl, mp_excl])) (hF := by (repeat (first | exact Takes.nil | exact Take.head | apply Take.tail | apply Takes.cons))) (hp := ?_))
    rw [if_neg h0]
  have h0 := Classical.not_not.1 h0
  subst h0
  obtain ⟨hv, hp4⟩ := wrong_zero hW.symm
  have hF := formed (Ver.verify_iff.1 hv).form
  have hu30 := hF.units
  have hb30 := hF.boxes
  obtain ⟨T, hC⟩ := certs_ml hwf hv
  repeat (first | refine go (k := ?_) | (refine goB (k := ?_); intro b) | (refine goA (k := ?_); intro ao cap))
  obtain ⟨mb, rfl⟩ : ∃ x, x = b := ⟨_, rfl⟩
  (apply Run.op; exact rfl; refine OpT.call0_ (spec := begin2_is mb m hb30 hu30 (caps_ok hv) (fun k hk => (head_ok (hF.head k hk)).1)) (k := ?_); intro s hs; (try conv => rhs; simp only [List.cons_append, List.nil_append]))
  obtain ⟨e1, e2⟩ := beg_is hC hs mb
  have hn := beg_len hs hu30
  have hk0 := ckOf_zero m ps.l
  obtain ⟨n0, hn0'⟩ : ∃ n, n = (ckOf m ps.l 0).2.n := ⟨_, rfl⟩
  have hn0 : n0 = 0 := by rw [hn0', hk0]; rfl
  apply Run.imp' (fun w hm => beg_ma s hn0 (by (repeat (first | exact Takes.nil | exact Take.head | apply Take.tail | apply Takes.cons))) hm)
  (try conv => rhs; simp only [List.cons_append, List.nil_append])
  obtain ⟨x, hx⟩ : ∃ x, x = s.pl mb := ⟨_, rfl⟩
  obtain ⟨ts0, ht0⟩ : ∃ x, x = s.ts := ⟨_, rfl⟩
  obtain ⟨e0, he0⟩ : ∃ x, x = s.be := ⟨_, rfl⟩
  have hxb : s.xb = x.xb := by rw [hx]; rfl
  rw [← hx] at e1
  rw [← ht0, ← he0] at e1 e2
  rw [← ht0] at hn
  rw [hxb, ← hx, ← ht0, ← he0]
  clear hx ht0 he0 hxb hs s
  subst hn0'
  repeat (first | refine go (k := ?_) | (refine goB (k := ?_); intro b) | (refine goA (k := ?_); intro ao cap))
  apply Cod.imp (fun w hm => Mem.nilArr' hm 41 ddC (l := (ckOf m ps.l 0).1) (by rw [hk0]))
  refine Cod.only ((fun z => [old w S, md m, bxR x.p, pkR ps, blk rb [.slice none 0 0, .slice none 0 0, .int .i64 0] 31, arr z.2.2.2.1 z.1 z.2.2.2.2 41 ddC (ckOf m ps.l z.1).1] ++ maM m x z.2.1 z.2.2.1 (ckOf m ps.l z.1).2.n) (0, ts0, e0, none, 0)) (by (repeat (first | exact Takes.nil | exact Take.head | apply Take.tail | apply Takes.cons))) ?_
  apply Cod.loop (σ := Nat × List TkL × BxE × Option Addr × Nat) (fun z => z.1 ≤ ps.l.length ∧ z.2.1.length ≤ 30 ∧ MaIs m T x z.2.1 z.2.2.1 (ckOf m ps.l z.1).2.n ∧ maA z.2.1 z.2.2.1 (ckOf m ps.l z.1).2.n = (ckOf m ps.l z.1).2) (fun z => [(4, ptr rb), (8, ptr x.xb), (9, .slice z.2.2.2.1 z.1 z.2.2.2.2), (21, .slice ps.o ps.l.length ps.c), (22, .int .i64 (ps.l.length : Int)), (23, .int .i64 (z.1 : Int))]) (fun z => [old w S, md m, bxR x.p, pkR ps, blk rb [.slice none 0 0, .slice none 0 0, .int .i64 0] 31, arr z.2.2.2.1 z.1 z.2.2.2.2 41 ddC (ckOf m ps.l z.1).1] ++ maM m x z.2.1 z.2.2.1 (ckOf m ps.l z.1).2.n) (fun z => ps.l.length - z.1) (0, ts0, e0, none, 0)
  rotate_left
  exact sb
  exact tks
  intro z hz K1 hK1
  (try conv => rhs; simp only [List.cons_append, List.nil_append])
  rotate_left
  · exact ⟨Nat.zero_le _, hn, by rw [hn0]; exact e1, by rw [hn0, e2, hk0]⟩
  obtain ⟨q, us, e, ao, ac⟩ := z
  obtain ⟨hq0, hun, hI, hA⟩ := hz
  dsimp only at hq0 hun hI hA hK1 ⊢
  by_cases hq : q < ps.l.length
  · obtain ⟨tk, q1, htq⟩ : ∃ tk q1, ps.l.getD q default = (tk, q1) := ⟨_, _, rfl⟩
    have hsn := ckOf_succ m ps.l hq
    repeat (first | refine go (k := ?_) | (refine goB (k := ?_); intro b) | (refine goA (k := ?_); intro ao cap))
    rw [htq]
    rw [htq] at hsn
    obtain ⟨C1, hC1⟩ : ∃ C, C = ckOf m ps.l (q + 1) := ⟨_, rfl⟩
    rw [← hC1] at hsn
    generalize ckOf m ps.l q = C at *
    rw [← hA] at hsn
    have hsp := pickA_is m hC x us e C.2.n hI hun tk q1
    generalize Vm.pick m.mdl false (maA us e C.2.n) (tk, q1) = R at *
    ((first | (apply Run.op; exact rfl) | refine Run.yes_ (h := ?_)); refine OpT.call0_ (spec := hsp) (r := (fun w => Reads.md (by (repeat (first | exact Take.head | apply Take.tail))) (Reads.any (by (repeat (first | exact Take.head | apply Take.tail))) (bxR_excl x.p) .nil))) (k := ?_); intro s hs; (try conv => rhs; simp only [List.cons_append, List.nil_append]))
    obtain ⟨us', e'⟩ := s
    obtain ⟨g1, g2, g3⟩ := hs
    dsimp only at g1 g2 g3 ⊢
    repeat (first | refine go (k := ?_) | (refine goB (k := ?_); intro b) | (refine goA (k := ?_); intro ao cap))
    have a1 : C.1 ++ [R.1] = (ckOf m ps.l (q + 1)).1 := by rw [← hC1, hsn]
    have a2 : R.2.n = (ckOf m ps.l (q + 1)).2.n := by rw [← hC1, hsn]
    rw [a1, a2]
    rw [a2] at g1 g3
    refine End.round0_ hK1 (q + 1, us', e', ao, cap) ?_ ?_
    · exact ⟨by dsimp only; omega, by dsimp only; omega, g1, by dsimp only; rw [g3, ← hC1, hsn]⟩
    · dsimp only; omega
  · obtain rfl : q = ps.l.length := by omega
    clear hK1
    repeat (first | refine go (k := ?_) | (refine goB (k := ?_); intro b) | (refine goA (k := ?_); intro ao cap))
    have hce := ckOf_all m ps.l
    have hcl := congrArg List.length (congrArg Prod.fst hce)
    rw [Vm.picks_len] at hcl
    generalize ckOf m ps.l ps.l.length = C at *
    ((first | (apply Run.op; exact rfl) | refine Run.yes_ (h := ?_)); refine OpT.call0_ (spec := world_is m hC x us e C.2.n hI hun hb30) (r := (fun w => Reads.md (by (repeat (first | exact Take.head | apply Take.tail))) (Reads.any (by (repeat (first | exact Take.head | apply Take.tail))) (bxR_excl x.p) .nil))) (k := ?_); intro s hs; (try conv => rhs; simp only [List.cons_append, List.nil_append]))
    obtain ⟨us', r⟩ := s
    obtain ⟨g1, g2, g3⟩ := hs
    dsimp only at g1 g2 g3 ⊢
    rw [hA] at g3
    rw [← hcl]
    repeat (first | refine go (k := ?_) | (refine goB (k := ?_); intro b) | (refine goA (k := ?_); intro ao cap))
    (refine End.doneC3 ((⟨r, ao, ac, C.1⟩ : RunL)) (hr := by exact rfl) (hv := by exact rfl) (ht := by exact rfl) (hm := by (repeat (first | exact Take.head | apply Take.tail))) (hl := by exact rfl) (hu := by exact rfl) (hw := by exact rfl) (he := by (first | exact rfl | (refine congrArg (Value.int _) ?_; omega) | (refine congrArg (Value.int _) ?_; dsimp only; omega))) (hx := by (simp [blk_excl, arr_excl, bag_excl, mp_excl])) (hF := by (repeat (first | exact Takes.nil | exact Take.head | apply Take.tail | apply Takes.cons))) (hp := ?_))
    rw [if_pos rfl]
    exact ⟨by rw [← hce]; exact g3, by rw [← hce]⟩
end Go.Proofs.Ytjehflelkpacfaa.Vw

/- Settle, walked. -/
namespace Go.Proofs.Ytjehflelkpacfaa.Vm
open ImgM
def settled (M : Mdl) (ps : List (Int × Int)) (q : Int) : Option Ma := settle M q 20001 (lastOf ps (picks M false ps (Ma.init M)).1) (picks M false ps (Ma.init M)).2
def setErr (M : Mdl) (ps : List (Int × Int)) (q : Int) : Int := if wrong M ps.length ≠ 0 then wrong M ps.length else if q < 1 ∨ 10000 < q then 3 else if settled M ps q = none then 10 else 0
end Go.Proofs.Ytjehflelkpacfaa.Vm
namespace Go.Proofs.Ytjehflelkpacfaa.Vw
open Go.RowKit Go.Proofs.Ytjehflelkpacfaa.Img
set_option linter.unusedVariables false
set_option linter.unusedSimpArgs false
attribute [local irreducible] Run Cod End OpT Still RunQ RunS RunT Fn PutOk
def lastK (m : ML) (ps : List (Int × Int)) (k : Nat) : Int := Vm.lastOf (ps.take k) (ckOf m ps k).1
attribute [local irreducible] Ver.verify Vm.wrong Vm.picks Vm.settle Vm.setErr Vm.settled lastK
end Go.Proofs.Ytjehflelkpacfaa.Vw

/- Worlds compared (yieldref10), walked: of what is alike. -/
namespace Go.Proofs.Ytjehflelkpacfaa.Vw
open Go.RowKit Go.Proofs.Ytjehflelkpacfaa.Img
set_option linter.unusedVariables false
set_option linter.unusedSimpArgs false
/-- ends, and where they lie -/
structure EL where
  o : Option Addr
  c : Nat
  l : List EnL
abbrev EL.val (f : EL) : Value := .slice f.o f.l.length f.c
structure EdAt (w : World) (f : EL) : Prop where
  out : Row w (.slice f.o f.l.length f.c) (sz enC) f.l.length (f.l.flatMap enC)
  row : ∀ r ∈ f.l, Row w (.slice r.oo r.out.length r.oc) (sz i64c) r.out.length (r.out.flatMap i64c)
def EdFoot (f : EL) (k : Nat) : Prop :=
  ((Value.slice f.o f.l.length f.c).ownBlock = some k ∧ 0 < f.l.length) ∨ ∃ r ∈ f.l, (Value.slice r.oo r.out.length r.oc).ownBlock = some k ∧ 0 < r.out.length
theorem EdAt.keep {w w' : World} {f : EL} (h : EdAt w f) {S : Nat → Prop} (k : Keeps S w w') (hs : ∀ b, EdFoot f b → ¬ S b) : EdAt w' f :=
  ⟨h.out.keep'' Enc.pos k (fun b h1 h2 => hs b (.inl ⟨h1, h2⟩)), fun r hr => (h.row r hr).keep'' Enc.pos k (fun b h1 h2 => hs b (.inr ⟨r, hr, h1, h2⟩))⟩
theorem EdAt.lt {w : World} {f : EL} (h : EdAt w f) : ∀ b, EdFoot f b → b < w.heap.size := by
  rintro b (⟨h1, h2⟩ | ⟨r, hr, h1, h2⟩)
  · exact h.out.lt' Enc.pos h2 b h1
  · exact (h.row r hr).lt' Enc.pos h2 b h1
/-- ends that are only read -/
@[irreducible] def ed (f : EL) : Chunk where
  holds w := EdAt w f
  foot := EdFoot f
  excl := false
  stab k hs h := h.keep k hs
  lt h := h.lt
theorem ed_holds {w : World} {f : EL} : (ed f).holds w ↔ EdAt w f := by unfold ed; exact Iff.rfl
theorem ed_foot {f : EL} {k : Nat} : (ed f).foot k ↔ EdFoot f k := by unfold ed; exact Iff.rfl
theorem ed_excl {f : EL} : (ed f).excl = false := by unfold ed; rfl
theorem en_mem {l : List EnL} {k : Nat} (hk : k < l.length) : l.getD k default ∈ l := by
  rw [List.getD_eq_getElem?_getD, List.getElem?_eq_getElem hk]; exact List.getElem_mem hk
section
variable {f : EL} {L L' : List Chunk} {w : World}
theorem Mem.edOut (t : Take (ed f) L L') (h : Mem w L) : Mem w (rd f.o f.l.length f.c enC f.l :: L) :=
  h.dup t rd_excl (rd_holds.2 ⟨(ed_holds.1 (h.has t)).out, rfl⟩) (fun b hb => ed_foot.2 (.inl (rd_foot.1 hb))) ed_excl
theorem Mem.edRow {k : Nat} (hk : k < f.l.length) (t : Take (ed f) L L') (h : Mem w L) : Mem w (rd (f.l.getD k default).oo (f.l.getD k default).out.length (f.l.getD k default).oc i64c (f.l.getD k default).out :: L) :=
  h.dup t rd_excl (rd_holds.2 ⟨(ed_holds.1 (h.has t)).row _ (en_mem hk), rfl⟩) (fun b hb => ed_foot.2 (.inr ⟨_, en_mem hk, rd_foot.1 hb⟩)) ed_excl
end
theorem ed_own {w : World} {L F : List Chunk} {f : EL} {e : TypeId} (tk : Takes [arr f.o f.l.length f.c e enC f.l, bag (f.l.map enM)] L F) (h : Mem w L) : Mem w (ed f :: F) := by
  have ht := h.takes tk
  have a1 := arr_holds.1 (ht.all _ (.head _))
  have a2 := bag_holds.1 (ht.all _ (.tail _ (.head _)))
  have hrow : ∀ r ∈ f.l, (enM r).holds w := fun r hr => a2.1.all _ (List.mem_map.2 ⟨r, hr, rfl⟩)
  refine Mem.toRead tk h (ed_holds.2 ⟨a1.1.row Enc.pos, fun r hr => (arr_holds.1 (hrow r hr)).1.row Enc.pos⟩) ed_excl (fun b hb => ?_)
  rcases ed_foot.1 hb with ⟨h1, h2⟩ | ⟨r, hr, h1, h2⟩
  · exact ⟨_, .head _, arr_foot.2 ⟨h1, Nat.lt_of_lt_of_le h2 a1.1.le⟩⟩
  · exact ⟨_, .tail _ (.head _), bag_foot.2 ⟨_, List.mem_map.2 ⟨r, hr, rfl⟩, arr_foot.2 ⟨h1, Nat.lt_of_lt_of_le h2 (arr_holds.1 (hrow r hr)).1.le⟩⟩⟩
abbrev WoL.el (r : WoL) : EL := ⟨r.eo, r.ec, r.ends⟩
abbrev WoL.fl (r : WoL) : FL := ⟨r.wo, r.wc, r.rows⟩
theorem wo_own {w : World} {L F : List Chunk} (r : WoL) (t : Takes r.mem L F) (h : Mem w L) : Mem w (ed r.el :: fd r.fl :: F) := by
  have h1 : Mem w (r.mem ++ F) := h.takes t
  have h2 := ed_own (f := r.el) (e := 56) (L := r.mem ++ F) (by exact .cons .head (.cons .head .nil)) h1
  have h3 := fd_own (f := r.fl) (t := 2) (e := 51) (by exact .cons (.tail .head) (.cons (.tail .head) .nil)) h2
  exact h3.takes (by exact .cons (.tail .head) (.cons .head .nil))
attribute [local irreducible] Run Cod End OpT Still RunQ RunS RunT Fn PutOk
set_option maxRecDepth 100000 in
set_option maxHeartbeats 2000000 in
theorem sameEnds_is (f g : EL) (h : f.l.map enOf = g.l.map enOf) : Fn Try.prog 26 #[f.val, g.val] [ed f, ed g] [] (σ := Unit) (fun _ => True) (fun _ => .bool true) (fun _ => []) := by
  have hl : g.l.length = f.l.length := by have := congrArg List.length h; simpa using this.symm
  have hr : ∀ k, enOf (g.l.getD k default) = enOf (f.l.getD k default) := fun k => by
    have h1 : (f.l.map enOf)[k]? = (g.l.map enOf)[k]? := by rw [h]
    simp only [List.getElem?_map] at h1
    simp only [List.getD_eq_getElem?_getD]
    cases ha : f.l[k]? <;> cases hb : g.l[k]? <;> simp [ha, hb] at h1 ⊢
    exact h1.symm
  refine Fn.enter (args := [f.val, g.val]) Try.func26 rfl _ Try.ntmps26 rfl (by simp [ed_excl]) (fun w S => ?_)
  (try conv => rhs; simp only [List.cons_append, List.nil_append])
  apply Cod.fact (f.l.length ≤ 9223372036854775807) (fun w hm => (ed_holds.1 (hm.has (c := ed f) (by (repeat (first | exact Take.head | apply Take.tail))))).out.2.1)
  intro hfs
  apply Cod.imp (fun w hm => Mem.edOut (f := f) (by (repeat (first | exact Take.head | apply Take.tail))) hm)
  apply Cod.imp (fun w hm => Mem.edOut (f := g) (by (repeat (first | exact Take.head | apply Take.tail))) hm)
  repeat (first | refine go (k := ?_) | (refine goB (k := ?_); intro b) | (refine goA (k := ?_); intro ao cap))
  refine Cod.only ((fun k => [old w S, ed f, ed g, rd f.o f.l.length f.c enC f.l, rd g.o g.l.length g.c enC g.l]) 0) (by (repeat (first | exact Takes.nil | exact Take.head | apply Take.tail | apply Takes.cons))) ?_
  apply Cod.loop (σ := Nat) (fun k => k ≤ f.l.length) (fun k => [(0, f.val), (1, g.val), (12, .int .i64 (f.l.length : Int)), (13, .int .i64 (k : Int))]) (fun k => [old w S, ed f, ed g, rd f.o f.l.length f.c enC f.l, rd g.o g.l.length g.c enC g.l]) (fun k => f.l.length - k) 0
  rotate_left
  exact sb
  exact tks
  intro k hk K1 hK1
  (try conv => rhs; simp only [List.cons_append, List.nil_append])
  rotate_left
  · exact Nat.zero_le _
  by_cases hkn : k < f.l.length
  · apply Cod.imp (fun w hm => Mem.edRow (f := f) (k := k) hkn (by (repeat (first | exact Take.head | apply Take.tail))) hm)
    apply Cod.imp (fun w hm => Mem.edRow (f := g) (k := k) (by omega) (by (repeat (first | exact Take.head | apply Take.tail))) hm)
    have hrk := hr k
    simp only [enOf, Prod.mk.injEq] at hrk
    obtain ⟨r1, r2, r3, r4⟩ := hrk
    repeat (first | refine go (k := ?_) | (refine goB (k := ?_); intro b) | (refine goA (k := ?_); intro ao cap))
    (first | (apply Run.op; exact rfl) | refine Run.yes_ (h := ?_)); refine OpT.call0_ (spec := same9_is ⟨(f.l.getD k default).oo, (f.l.getD k default).oc, (f.l.getD k default).out⟩ ⟨(g.l.getD k default).oo, (g.l.getD k default).oc, (g.l.getD k default).out⟩ r4.symm) (k := ?_); intro s hs; (try conv => rhs; simp only [List.cons_append, List.nil_append])
    repeat (first | refine go (k := ?_) | (refine goB (k := ?_); intro b) | (refine goA (k := ?_); intro ao cap))
    refine End.round0_ hK1 (k + 1) ?_ ?_
    · omega
    · omega
  · repeat (first | refine go (k := ?_) | (refine goB (k := ?_); intro b) | (refine goA (k := ?_); intro ao cap))
    (refine End.done1_ (()) (he := by (first | exact rfl | (refine congrArg (Value.int _) ?_; omega) | (refine congrArg (Value.int _) ?_; dsimp only; omega))) (hp := ?_))
    trivial
end Go.Proofs.Ytjehflelkpacfaa.Vw

/- yieldlaw9.alive's answer, in plain Lean. -/
namespace Go.Proofs.Ytjehflelkpacfaa.Vm
set_option linter.unusedVariables false
def al9 : List ImgM.Ins := [⟨1, 0, 7⟩, ⟨28, 0, 0⟩, ⟨25, 0, 0⟩]
def al9M : ImgM.Mdl := ⟨[], [⟨4, 0, [], 0, 0, al9⟩]⟩
end Go.Proofs.Ytjehflelkpacfaa.Vm

/- Worlds compared; yieldlaw10.alive, walked. -/
namespace Go.Proofs.Ytjehflelkpacfaa.Vw
open Go.RowKit Go.Proofs.Ytjehflelkpacfaa.Img
set_option linter.unusedVariables false
set_option linter.unusedSimpArgs false
attribute [local irreducible] Run Cod End OpT Still RunQ RunS RunT Fn PutOk
structure WoL.Eq (a b : WoL) : Prop where
  ends : a.ends.map enOf = b.ends.map enOf
  rows : a.rows.map (·.l) = b.rows.map (·.l)
  n : a.n = b.n
theorem WoL.Is.eq {a b : WoL} {c : Vm.Ma} (ha : a.Is c) (hb : b.Is c) : a.Eq b := ⟨ha.ends.trans hb.ends.symm, ha.rows.trans hb.rows.symm, ha.n.trans hb.n.symm⟩
set_option maxRecDepth 100000 in
set_option maxHeartbeats 2000000 in
theorem same10_is (r v : WoL) (h : r.Eq v) : Fn Try.prog 14 #[.agg r.cells.toArray, .agg v.cells.toArray] [ed r.el, fd r.fl, ed v.el, fd v.fl] [] (σ := Unit) (fun _ => True) (fun _ => .bool true) (fun _ => []) := by
  have hn := h.n
  refine Fn.enter (args := [.agg r.cells.toArray, .agg v.cells.toArray]) Try.func14 rfl _ Try.ntmps14 rfl (by simp [ed_excl, fd_excl]) (fun w S => ?_)
  (try conv => rhs; simp only [List.cons_append, List.nil_append])
  repeat (first | refine go (k := ?_) | (refine goB (k := ?_); intro b) | (refine goA (k := ?_); intro ao cap))
  ((first | (apply Run.op; exact rfl) | refine Run.yes_ (h := ?_)); refine OpT.call0_ (spec := sameEnds_is r.el v.el h.ends) (r := (fun w => Reads.any (by (repeat (first | exact Take.head | apply Take.tail))) ed_excl (Reads.any (by (repeat (first | exact Take.head | apply Take.tail))) ed_excl .nil))) (k := ?_); intro s hs; (try conv => rhs; simp only [List.cons_append, List.nil_append]))
  repeat (first | refine go (k := ?_) | (refine goB (k := ?_); intro b) | (refine goA (k := ?_); intro ao cap))
  ((first | (apply Run.op; exact rfl) | refine Run.yes_ (h := ?_)); refine OpT.call0_ (spec := sameAll_is r.fl v.fl h.rows) (r := (fun w => Reads.any (by (repeat (first | exact Take.head | apply Take.tail))) fd_excl (Reads.any (by (repeat (first | exact Take.head | apply Take.tail))) fd_excl .nil))) (k := ?_); intro s hs; (try conv => rhs; simp only [List.cons_append, List.nil_append]))
  repeat (first | refine go (k := ?_) | (refine goB (k := ?_); intro b) | (refine goA (k := ?_); intro ao cap))
  (refine End.done1_ (()) (he := by (first | exact rfl | (refine congrArg (Value.int _) ?_; omega) | (refine congrArg (Value.int _) ?_; dsimp only; omega))) (hp := ?_))
  trivial
theorem al9_in' : ∀ i ∈ Vm.al9, ImgM.In64 i.op ∧ ImgM.In64 i.a ∧ ImgM.In64 i.n := by
  intro i hi
  simp [Vm.al9] at hi
  rcases hi with rfl | rfl | rfl <;> simp [ImgM.In64]
theorem al10_run : Vm.wrong Vm.al9M 1 = 0 := by
  have h : Ver.verify Vm.al9M = .ok := by kernel_rfl
  unfold Vm.wrong
  rw [h]; rfl
theorem al10_ds : (Vm.picks Vm.al9M false [(0, 2)] (Vm.Ma.init Vm.al9M)).1 = [(0, 2)] := by kernel_rfl
theorem al10_ts : ((Vm.picks Vm.al9M false [(0, 2)] (Vm.Ma.init Vm.al9M)).2.looked Vm.al9M).ts.map tkOf = [(1, 0, 0, [7])] := by kernel_rfl
attribute [local irreducible] Ver.verify Vm.wrong Vm.picks
set_option maxRecDepth 100000 in
theorem alive10_is : Fn Try.prog 12 #[] [] [] (σ := Unit) (fun _ => True) (fun _ => .bool true) (fun _ => []) := by
  refine Fn.enter (args := []) Try.func12 rfl _ Try.ntmps12 rfl (by simp [rd_excl, md_excl]) (fun w S => ?_)
  (try conv => rhs; simp only [List.cons_append, List.nil_append])
  repeat (first | refine go (k := ?_) | (refine goB (k := ?_); intro b) | (refine goA (k := ?_); intro ao cap))
  obtain ⟨pb, rfl⟩ : ∃ x, x = b := ⟨_, rfl⟩
  obtain ⟨mb, rfl⟩ : ∃ x, x = b := ⟨_, rfl⟩
  obtain ⟨ub, rfl⟩ : ∃ x, x = b := ⟨_, rfl⟩
  obtain ⟨cb, rfl⟩ : ∃ x, x = b := ⟨_, rfl⟩
  apply Run.imp' (fun w hm => Mem.toArr (b := pb) (e := 37) (f := pkC) (n := 1) hm (by (repeat (first | exact Take.head | apply Take.tail))) [(0, 2)] rfl rfl (by unfold maxLen; simp))
  apply Run.imp' (fun w hm => Mem.toArr (b := ub) (e := 68) (f := ucell) (n := 1) hm (by (repeat (first | exact Take.head | apply Take.tail))) [taskU cb Vm.al9] rfl rfl (by unfold maxLen; simp))
  apply Run.imp' (fun w hm => Mem.toArr (b := cb) (e := 64) (f := insC) (n := 3) hm (by (repeat (first | exact Take.head | apply Take.tail))) Vm.al9 rfl rfl (by unfold maxLen; simp))
  apply Run.imp' (fun w hm => taskM_mem (cb, ub) Vm.al9 (by (repeat (first | exact Takes.nil | exact Take.head | apply Take.tail | apply Takes.cons))) hm)
  have hsp := run_is (taskM (cb, ub) Vm.al9) (taskM_wf _ _ al9_in') ⟨some ⟨pb, 0, none⟩, 1, [(0, 2)]⟩
  have he : Vm.wrong (taskM (cb, ub) Vm.al9).mdl (PkL.l ⟨some ⟨pb, 0, none⟩, 1, [(0, 2)]⟩).length = 0 := al10_run
  have he' : Vm.wrong (taskM (cb, ub) Vm.al9).mdl ([(0, 2)] : List (Int × Int)).length = 0 := al10_run
  rw [he] at hsp
  ((first | (apply Run.op; exact rfl) | refine Run.yes_ (h := ?_)); refine OpT.call0_ (spec := hsp) (r := (fun w => Reads.md (by (repeat (first | exact Take.head | apply Take.tail))) (Reads.arr (by (repeat (first | exact Take.head | apply Take.tail))) .nil))) (k := ?_); intro s hs; (try conv => rhs; simp only [List.cons_append, List.nil_append]))
  obtain ⟨r, rfl⟩ : ∃ x, x = s := ⟨_, rfl⟩
  unfold RunIs at hs
  rw [if_pos he'] at hs
  have h1 : r.l = [(0, 2)] := hs.l.trans al10_ds
  have h2 : r.w.ends.map enOf = [(1, 0, 0, [7])] := hs.w.ends.trans al10_ts
  have h3 : r.l.length = 1 := by rw [h1]; rfl
  have h4 : r.w.ends.length = 1 := by have := congrArg List.length h2; simpa using this
  have h5 : r.l.getD 0 default = (0, 2) := by rw [h1]; rfl
  have h6 : enOf (r.w.ends.getD 0 default) = (1, 0, 0, [7]) := by
    have h : (r.w.ends.map enOf)[0]? = some (1, 0, 0, [7]) := by rw [h2]; rfl
    rw [List.getElem?_map] at h
    rw [List.getD_eq_getElem?_getD]
    cases hx : r.w.ends[0]? with
    | none => rw [hx] at h; cases h
    | some x => rw [hx] at h; simpa using h
  clear hs h1 h2
  have h52 : (r.l.getD 0 default).2 = 2 := by rw [h5]
  simp only [enOf, Prod.mk.injEq] at h6
  obtain ⟨k1, k2, k3, k4⟩ := h6
  have k5 : (r.w.ends.getD 0 default).out.length = 1 := by rw [k4]; rfl
  repeat (first | refine go (k := ?_) | (refine goB (k := ?_); intro b) | (refine goA (k := ?_); intro ao cap))
  (refine Run.yes_ (h := ?_); refine OpT.val_ (h := by (apply Still.at_; exact rfl; exact rfl; (first | (apply Rdb.arr; focus ((repeat (first | exact Take.head | apply Take.tail)); done)) | (apply Rdb.rd; focus ((repeat (first | exact Take.head | apply Take.tail)); done)) | (apply Rdb.md_units; focus ((repeat (first | exact Take.head | apply Take.tail)); done)) | (apply Rdb.md_boxes; focus ((repeat (first | exact Take.head | apply Take.tail)); done)) | (apply Rdb.md_code; (focus ((repeat (first | exact Take.head | apply Take.tail)); done)); (focus (first | assumption | omega))) | (apply Rdb.md_locals; (focus ((repeat (first | exact Take.head | apply Take.tail)); done)); (focus (first | assumption | omega))) | (apply Rdb.old; (focus assumption); (focus ((repeat (first | exact Take.head | apply Take.tail)); done)))); exact rfl; exact rfl; exact rfl; exact ix_zero; omega)) (k := ?_))
  repeat (first | refine go (k := ?_) | (refine goB (k := ?_); intro b) | (refine goA (k := ?_); intro ao cap))
  (refine Run.yes_ (h := ?_); refine OpT.val_ (h := by (apply Still.at_; exact rfl; exact rfl; (first | (apply Rdb.arr; focus ((repeat (first | exact Take.head | apply Take.tail)); done)) | (apply Rdb.rd; focus ((repeat (first | exact Take.head | apply Take.tail)); done)) | (apply Rdb.md_units; focus ((repeat (first | exact Take.head | apply Take.tail)); done)) | (apply Rdb.md_boxes; focus ((repeat (first | exact Take.head | apply Take.tail)); done)) | (apply Rdb.md_code; (focus ((repeat (first | exact Take.head | apply Take.tail)); done)); (focus (first | assumption | omega))) | (apply Rdb.md_locals; (focus ((repeat (first | exact Take.head | apply Take.tail)); done)); (focus (first | assumption | omega))) | (apply Rdb.old; (focus assumption); (focus ((repeat (first | exact Take.head | apply Take.tail)); done)))); exact rfl; exact rfl; exact rfl; exact ix_zero; omega)) (k := ?_))
  repeat (first | refine go (k := ?_) | (refine goB (k := ?_); intro b) | (refine goA (k := ?_); intro ao cap))
  (refine Run.yes_ (h := ?_); refine OpT.val_ (h := by (apply Still.at_; exact rfl; exact rfl; (first | (apply Rdb.arr; focus ((repeat (first | exact Take.head | apply Take.tail)); done)) | (apply Rdb.rd; focus ((repeat (first | exact Take.head | apply Take.tail)); done)) | (apply Rdb.md_units; focus ((repeat (first | exact Take.head | apply Take.tail)); done)) | (apply Rdb.md_boxes; focus ((repeat (first | exact Take.head | apply Take.tail)); done)) | (apply Rdb.md_code; (focus ((repeat (first | exact Take.head | apply Take.tail)); done)); (focus (first | assumption | omega))) | (apply Rdb.md_locals; (focus ((repeat (first | exact Take.head | apply Take.tail)); done)); (focus (first | assumption | omega))) | (apply Rdb.old; (focus assumption); (focus ((repeat (first | exact Take.head | apply Take.tail)); done)))); exact rfl; exact rfl; exact rfl; exact ix_zero; omega)) (k := ?_))
  repeat (first | refine go (k := ?_) | (refine goB (k := ?_); intro b) | (refine goA (k := ?_); intro ao cap))
  (refine End.done1_ (()) (he := by exact bool_eq (decide_eq_true (by rw [k5]; rfl))) (hp := ?_))
  trivial
end Go.Proofs.Ytjehflelkpacfaa.Vw

/- What picks do: counted; long ones; such as are refused. Plain Lean. -/
namespace Go.Proofs.Ytjehflelkpacfaa.Vm
open ImgM
set_option linter.unusedVariables false
variable {M : Mdl} {told : Bool}
/-- a pick counts its steps -/
structure Cnt (n : Nat) (q : Int) (e : Int × Nat) (n' : Nat) : Prop where
  sum : n' = n + e.2
  ok : e.1 = 0 → 1 ≤ e.2 ∧ (e.2 : Int) ≤ q
  no : e.1 ≠ 0 → e.2 = 0
/-- LONG TURNS ARE SHORT ONES -/
theorem pick_quantum (c : Ma) (t one two : Int) (h1 : 1 ≤ one) (h2 : 1 ≤ two) (h3 : one ≤ 1000) (h4 : two ≤ 1000) : (pick M told (pick M told c (t, one)).2 (t, two)).2 = (pick M told c (t, one + two)).2 := by
  by_cases hr : t < 0 ∨ (c.ts.length : Int) ≤ t
  · have e : ∀ q, pick M told c (t, q) = ((3, 0), c) := fun q => by unfold pick; rw [if_pos hr]
    rw [e, e, e]
  obtain ⟨V, hV⟩ : ∃ V, V = bxs M (tOf told t.toNat) := ⟨_, rfl⟩
  have e : ∀ (c : Ma) q, ¬ (t < 0 ∨ (c.ts.length : Int) ≤ t) → pick M told c (t, q) = ((pick1 V M c.n q (c.at_ t.toNat)).1, ⟨c.ts.set t.toNat (pick1 V M c.n q (c.at_ t.toNat)).2.1, (pick1 V M c.n q (c.at_ t.toNat)).2.2, c.n + (pick1 V M c.n q (c.at_ t.toNat)).1.2⟩) := fun c q h => by
    unfold pick; rw [if_neg h, hV]
  rw [e c one hr, e c (one + two) hr]
  have hk : t.toNat < c.ts.length := by omega
  rw [e _ two (by dsimp only; rw [List.length_set]; exact hr)]
  dsimp only
  have hat : (⟨c.ts.set t.toNat (pick1 V M c.n one (c.at_ t.toNat)).2.1, (pick1 V M c.n one (c.at_ t.toNat)).2.2, c.n + (pick1 V M c.n one (c.at_ t.toNat)).1.2⟩ : Ma).at_ t.toNat = (pick1 V M c.n one (c.at_ t.toNat)).2 := by
    unfold Ma.at_
    dsimp only
    rw [List.getD_eq_getElem?_getD, List.getElem?_set_self hk]; rfl
  rw [hat, List.set_set]
  generalize c.at_ t.toNat = r
  have hL := look_look V M r
  obtain ⟨L, hLd⟩ : ∃ L, L = look V M r := ⟨_, rfl⟩
  have key : (pick1 V M (c.n + (pick1 V M c.n one r).1.2) two (pick1 V M c.n one r).2).2 = (pick1 V M c.n (one + two) r).2 ∧ (pick1 V M c.n one r).1.2 + (pick1 V M (c.n + (pick1 V M c.n one r).1.2) two (pick1 V M c.n one r).2).1.2 = (pick1 V M c.n (one + two) r).1.2 := by
    have q1 : ∀ q : Int, 1 ≤ q → q ≤ 2000 → ¬ (q < 1 ∨ 10000 < q) := fun q _ _ => by omega
    by_cases hst : L.1.st ≠ 1
    · have p : ∀ n (q : Int), 1 ≤ q → q ≤ 2000 → ∀ r', look V M r' = L → pick1 V M n q r' = ((11, 0), L) := fun n q a b r' hr' => by
        unfold pick1; rw [if_neg (q1 q a b), hr', if_pos hst]
      rw [p _ one h1 (by omega) r hLd.symm, p _ (one + two) (by omega) (by omega) r hLd.symm]
      dsimp only
      rw [p _ two h2 (by omega) L (by rw [hLd]; exact hL)]
      exact ⟨rfl, rfl⟩
    have hst := Classical.not_not.1 hst
    have hLL : look V M L = L := by rw [hLd]; exact hL
    have snd : ∀ n (q : Int), 1 ≤ q → q ≤ 2000 → ∀ r', look V M r' = r' → r'.1.st = 1 → (pick1 V M n q r').2 = (goN V M (min q.toNat (20000 - n)) r').2 ∧ (pick1 V M n q r').1.2 = (goN V M (min q.toNat (20000 - n)) r').1 := fun n q a b r' hr' hs => by
      unfold pick1
      rw [if_neg (q1 q a b), hr', if_neg (fun h => h hs)]
      refine ⟨rfl, ?_⟩
      dsimp only
      by_cases h0 : (goN V M (min q.toNat (20000 - n)) r').1 = 0
      · rw [if_pos h0, h0]
      · rw [if_neg h0]
    have rL : ∀ n (q : Int), 1 ≤ q → q ≤ 2000 → pick1 V M n q r = pick1 V M n q L := fun n q a b => by
      unfold pick1
      rw [if_neg (q1 q a b), if_neg (q1 q a b), hLL, ← hLd]
    rw [rL _ one h1 (by omega), rL _ (one + two) (by omega) (by omega)]
    obtain ⟨a1, a2⟩ := snd c.n one h1 (by omega) L hLL hst
    obtain ⟨b1, b2⟩ := snd c.n (one + two) (by omega) (by omega) L hLL hst
    rw [a1, a2, b1, b2]
    obtain ⟨A, hA⟩ : ∃ A, A = min one.toNat (20000 - c.n) := ⟨_, rfl⟩
    rw [← hA]
    have hle := goN_le (V := V) (M := M) A L
    have hlk := goN_looked (V := V) (M := M) A L hLL
    have hen := goN_end (V := V) (M := M) A L
    obtain ⟨D, hD⟩ : ∃ D, D = min (one + two).toNat (20000 - c.n) - A := ⟨_, rfl⟩
    have hAD : min (one + two).toNat (20000 - c.n) = A + D := by omega
    rw [hAD]
    have hstop := goN_stop (V := V) (M := M) A L
    have hadd := goN_add (V := V) (M := M) A L
    generalize goN V M A L = G at *
    rw [hlk] at hen
    by_cases hg : G.2.1.st = 1
    · have hGA : G.1 = A := Classical.byContradiction fun h => hen (by omega) hg
      obtain ⟨c1, c2⟩ := snd (c.n + G.1) two h2 (by omega) G.2 hlk hg
      rw [c1, c2, hadd hGA D]
      have hDD : min two.toNat (20000 - (c.n + G.1)) = D := by omega
      rw [hDD]
      exact ⟨rfl, by dsimp only; omega⟩
    · have hp : pick1 V M (c.n + G.1) two G.2 = ((11, 0), G.2) := by
        unfold pick1; rw [if_neg (q1 two h2 (by omega)), hlk, if_pos hg]
      rw [hp]
      by_cases hGA : G.1 = A
      · have hz : goN V M D G.2 = (0, G.2) := by
          cases D with
          | zero => rfl
          | succ D => unfold goN; rw [step_no V M (by rw [hlk]; exact hg), hlk]; rfl
        rw [hadd hGA D, hz]
        exact ⟨rfl, by dsimp only; omega⟩
      · rw [hstop (by omega) D]
        exact ⟨rfl, rfl⟩
  rw [key.1, Nat.add_assoc, key.2]
/-- alike but for what is seen anew -/
structure Rel (c c' : Ma) : Prop where
  bs : c.bs = c'.bs
  n : c.n = c'.n
  len : c.ts.length = c'.ts.length
  ts : ∀ k, k < c.ts.length → Alk (c.ts.getD k default) (c'.ts.getD k default)
theorem Rel.refl (c : Ma) : Rel c c := ⟨rfl, rfl, rfl, fun k _ => .inl rfl⟩
theorem Rel.looked {c c' : Ma} (h : Rel c c') : c.looked M = c'.looked M := by
  obtain ⟨ts, bs, n⟩ := c
  obtain ⟨ts', bs', n'⟩ := c'
  obtain ⟨h1, h2, h3, h4⟩ := h
  dsimp only at h1 h2 h3 h4
  subst h1 h2
  unfold Ma.looked
  simp only [Ma.mk.injEq, and_true]
  refine List.ext_getElem (by simpa using h3) fun j g1 g2 => ?_
  simp only [List.length_map] at g1 g2
  have := h4 j g1
  rw [List.getD_eq_getElem?_getD, List.getD_eq_getElem?_getD, List.getElem?_eq_getElem g1, List.getElem?_eq_getElem g2, Option.getD_some, Option.getD_some] at this
  simp only [List.getElem_map]
  rw [look_alk _ M this]
theorem look_back {ν : Type} (V : Env ν) (r : Tk × ν) : Alk (look V M r).1 r.1 := by
  have key : r.1.st ≤ 3 → ∀ a b : Int, a ≤ 3 → Alk { r.1 with st := a, bx := b } r.1 := fun h a b ha => .inr ⟨ha, r.1.st, r.1.bx, h, rfl⟩
  unfold look waits
  by_cases h3 : r.1.st ≤ 3
  · rw [if_pos h3]
    split
    · exact key h3 _ _ (by decide)
    · split
      · exact key h3 _ _ (by decide)
      · exact key h3 _ _ (by decide)
  · rw [if_neg h3]; exact .inl rfl
theorem Alk.trans' {a b c : Tk} (h : Alk a b) (k : Alk b c) : Alk a c := by
  rcases h with rfl | ⟨h1, x, y, h2, rfl⟩
  · exact k
  · rcases k with rfl | ⟨k1, u, v, k2, rfl⟩
    · exact .inr ⟨h1, x, y, h2, rfl⟩
    · exact .inr ⟨h1, u, v, k2, rfl⟩
theorem getD_set {l : List Tk} {j k : Nat} {t : Tk} (hj : j < l.length) : (l.set j t).getD k default = if j = k then t else l.getD k default := by
  simp only [List.getD_eq_getElem?_getD, List.getElem?_set]
  by_cases h : j = k
  · subst h; rw [if_pos rfl, if_pos hj, if_pos rfl]; rfl
  · rw [if_neg h, if_neg h]
/-- what a refused pick leaves -/
theorem pick1_no {ν : Type} {V : Env ν} {n : Nat} {q : Int} {r : Tk × ν} (h : (pick1 V M n q r).1.1 ≠ 0) : (pick1 V M n q r).1.2 = 0 ∧ (pick1 V M n q r).2.2 = r.2 ∧ Alk (pick1 V M n q r).2.1 r.1 := by
  unfold pick1 at h ⊢
  by_cases h2 : q < 1 ∨ 10000 < q
  · rw [if_pos h2]; exact ⟨rfl, rfl, .inl rfl⟩
  rw [if_neg h2] at h ⊢
  by_cases h3 : (look V M r).1.st ≠ 1
  · rw [if_pos h3]; exact ⟨rfl, look_snd V M r, look_back V r⟩
  rw [if_neg h3] at h ⊢
  have h3 := Classical.not_not.1 h3
  have hz : (goN V M (min q.toNat (20000 - n)) (look V M r)).1 = 0 → (goN V M (min q.toNat (20000 - n)) (look V M r)).2 = look V M r := fun h0 => by
    cases hm : min q.toNat (20000 - n) with
    | zero => rfl
    | succ k =>
      rw [hm] at h0
      unfold goN at h0
      rw [step_yes V M (by rw [look_look]; exact h3), if_pos rfl] at h0
      simp at h0
  by_cases h4 : (goN V M (min q.toNat (20000 - n)) (look V M r)).1 = 0
  · rw [if_pos h4, hz h4]; exact ⟨rfl, look_snd V M r, look_back V r⟩
  · rw [if_neg h4] at h; exact absurd rfl h
theorem Rel.no {c c' : Ma} (h : Rel c c') {p : Int × Int} (hp : (pick M told c p).1.1 ≠ 0) : Rel (pick M told c p).2 c' := by
  unfold pick at hp ⊢
  by_cases h1 : p.1 < 0 ∨ (c.ts.length : Int) ≤ p.1
  · rw [if_pos h1]; exact h
  · rw [if_neg h1] at hp ⊢
    obtain ⟨g1, g2, g3⟩ := pick1_no hp
    have hk : p.1.toNat < c.ts.length := by omega
    refine ⟨?_, ?_, ?_, fun k hk' => ?_⟩
    · dsimp only; rw [g2]; exact h.bs
    · dsimp only; rw [g1]; exact h.n
    · dsimp only; rw [List.length_set]; exact h.len
    · dsimp only at hk' ⊢
      rw [List.length_set] at hk'
      rw [getD_set hk]
      by_cases e : p.1.toNat = k
      · subst e; rw [if_pos rfl]; exact g3.trans' (h.ts _ hk')
      · rw [if_neg e]; exact h.ts k hk'
theorem pick1_alk {ν : Type} {V : Env ν} {n : Nat} {q : Int} {t t' : Tk} {s : ν} (h : Alk t t') (hp : (pick1 V M n q (t, s)).1.1 = 0) : pick1 V M n q (t', s) = pick1 V M n q (t, s) := by
  unfold pick1 at hp ⊢
  by_cases h2 : q < 1 ∨ 10000 < q
  · rw [if_pos h2] at hp; cases hp
  · rw [if_neg h2, if_neg h2, look_alk V M h]
theorem Rel.ok {c c' : Ma} (h : Rel c c') {p : Int × Int} (hp : (pick M told c p).1.1 = 0) : (pick M told c' p).1 = (pick M told c p).1 ∧ Rel (pick M told c p).2 (pick M told c' p).2 := by
  unfold pick at hp ⊢
  by_cases h1 : p.1 < 0 ∨ (c.ts.length : Int) ≤ p.1
  · rw [if_pos h1] at hp; cases hp
  · rw [if_neg h1] at hp ⊢
    rw [if_neg (by rw [← h.len]; exact h1)]
    have hk : p.1.toNat < c.ts.length := by omega
    have hk2 : p.1.toNat < c'.ts.length := by rw [← h.len]; exact hk
    have e : pick1 (bxs M (tOf told p.1.toNat)) M c'.n p.2 (c'.at_ p.1.toNat) = pick1 (bxs M (tOf told p.1.toNat)) M c.n p.2 (c.at_ p.1.toNat) := by
      unfold Ma.at_ at hp ⊢
      rw [← h.bs, ← h.n]
      exact pick1_alk (h.ts _ hk) hp
    dsimp only
    rw [e]
    refine ⟨rfl, rfl, by dsimp only; rw [h.n], by simp only [List.length_set]; exact h.len, fun k hk' => ?_⟩
    dsimp only at hk' ⊢
    rw [List.length_set] at hk'
    rw [getD_set hk, getD_set hk2]
    by_cases e : p.1.toNat = k
    · rw [if_pos e, if_pos e]; exact .inl rfl
    · rw [if_neg e, if_neg e]; exact h.ts k hk'
end Go.Proofs.Ytjehflelkpacfaa.Vm
