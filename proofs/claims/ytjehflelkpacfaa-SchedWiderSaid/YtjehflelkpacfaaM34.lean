/- Run, walked. -/
import Derived.Test.YtjehflelkpacfaaM33
namespace Go.Proofs.Ytjehflelkpacfaa.Vw
open Go.RowKit Go.Proofs.Ytjehflelkpacfaa.Img
set_option linter.unusedVariables false
set_option linter.unusedSimpArgs false
attribute [local irreducible] Run Cod End OpT Still RunQ RunS RunT Fn PutOk
theorem Ring.ws_len {r : Ring} (h : r.n = 0) : r.ws = [] := List.eq_nil_of_length_eq_zero (by rw [r.len, h])
/-- where all lies that begin laid -/
def BegL.pl (s : BegL) (mb : Nat) : MaP := ⟨s.xb, mb, s.to, s.tc, s.ts.map (·.tb), ⟨s.bo, s.bc, s.rs.map (·.bb), none⟩⟩
def BegL.be (s : BegL) : BxE := ⟨s.rs, none, 0, []⟩
theorem Mem.nilArr' {w : World} {L : List Chunk} (h : Mem w L) (e : TypeId) {α : Type} {iα : Inhabited α} (f : α → List Value) [Enc f] {l : List α} (hl : l = []) : Mem w (arr none 0 0 e f l :: L) := by subst hl; exact h.nilArr e f
theorem beg_ma {w : World} {L F : List Chunk} {m : ML} {mb : Nat} (s : BegL) {n : Nat} (hn : n = 0) (t : Takes (BegL.mem m mb s) L F) (h : Mem w L) : Mem w (bxR (s.pl mb).p :: (maM m (s.pl mb) s.ts s.be n ++ F)) := by
  subst hn
  have h1 : Mem w (BegL.mem m mb s ++ F) := h.takes t
  have h2 := rd_own (α := Nat) (ao := s.bo) (n := s.rs.length) (cap := s.bc) (e := 93) (f := ptrC) (l := s.rs.map (·.bb)) (L := BegL.mem m mb s ++ F) (by exact .cons (.tail (.tail (.tail .head))) .nil) h1
  have h3 : Mem w (bag [] :: _) := h2.bagNil
  have h4 := Mem.pack (cs := [bag (s.rs.flatMap rgM), bag []]) (L := _) (h3.takes (by exact .cons (.tail (.tail (.tail (.tail (.tail .head))))) (.cons .head .nil))) (fun c hc => by simp at hc; rcases hc with rfl | rfl <;> exact bag_excl)
  have e1 : (s.pl mb).tbs.length = s.ts.length := by simp [BegL.pl]
  have e2 : (s.pl mb).p.bs.length = s.rs.length := by simp [BegL.pl]
  have h5 : Mem w (bxM (s.pl mb).p s.be :: rd s.bo s.rs.length s.bc ptrC (s.rs.map (·.bb)) :: blk s.xb (maC s.to s.ts.length s.tc s.bo s.rs.length s.bc 0) 80 :: blk mb (mdV m) 25 :: arr s.to s.ts.length s.tc 81 ptrC (s.ts.map (·.tb)) :: tksM mb (bxV s.bo s.rs.length s.bc) (fun _ => .nilFunc) s.ts :: F) := h4
  unfold maM bxR
  rw [e1, e2]
  exact h5.takes (by exact .cons (.tail .head) (.cons (.tail .head) (.cons (.tail .head) (.cons (.tail .head) (.cons .head (.cons .head .nil))))))
theorem beg_is {m : ML} {T : Nat → Int → Option Ver.Shape} (hC : Vm.Certs m.mdl T) {s : BegL} (h : s.Ok m) (mb : Nat) : MaIs m T (s.pl mb) s.ts s.be 0 ∧ maA s.ts s.be 0 = Vm.Ma.init m.mdl := by
  have hws : s.be.abs.ws = List.replicate m.mdl.boxes.length [] := by
    show s.rs.map Ring.ws = _
    refine List.ext_getElem (by simp [h.rlen]) fun j h1 h2 => ?_
    simp only [List.length_map] at h1
    have := (h.ring j (by rw [← h.rlen]; exact h1)).2.2
    rw [List.getD_eq_getElem?_getD, List.getElem?_eq_getElem h1, Option.getD_some] at this
    simp [Ring.ws_len this]
  have hA : maA s.ts s.be 0 = Vm.Ma.init m.mdl := by
    unfold Vm.Ma.init
    simp only [maA, Vm.Ma.mk.injEq, and_true]
    refine ⟨h.ts, ?_⟩
    have : s.be.abs = ⟨s.be.abs.ws, []⟩ := rfl
    rw [this, hws]
  refine ⟨⟨rfl, h.wf, ⟨rfl, h.rlen, fun r hr => ?_, fun b hb => (h.ring b hb).2.1⟩, by rw [hA]; exact Vm.Ma.Ok.init hC⟩, hA⟩
  obtain ⟨j, hj, rfl⟩ := List.getElem_of_mem hr
  have := (h.ring j (by rw [← h.rlen]; exact hj)).1
  rw [List.getD_eq_getElem?_getD, List.getElem?_eq_getElem (show j < s.rs.length from hj), Option.getD_some] at this
  exact this
theorem beg_len {m : ML} {s : BegL} (h : s.Ok m) (h30 : m.us.length ≤ 30) : s.ts.length ≤ 30 := by
  have h1 := congrArg List.length h.ts
  simp only [List.length_map] at h1
  rw [h1, tasks_eq]
  have := tasks_len m m.us.length
  omega
end Go.Proofs.Ytjehflelkpacfaa.Vw
namespace Go.Proofs.Ytjehflelkpacfaa.Vm
theorem picks_app (M : ImgM.Mdl) (told : Bool) : ∀ (a b : List (Int × Int)) (c : Ma), picks M told (a ++ b) c = ((picks M told a c).1 ++ (picks M told b (picks M told a c).2).1, (picks M told b (picks M told a c).2).2)
  | [], b, c => by simp [picks]
  | p :: a, b, c => by simp only [List.cons_append, picks]; rw [picks_app M told a b]
theorem picks_one (M : ImgM.Mdl) (told : Bool) (p : Int × Int) (c : Ma) : picks M told [p] c = ([(pick M told c p).1], (pick M told c p).2) := by simp [picks]
theorem picks_succ (M : ImgM.Mdl) (told : Bool) (l : List (Int × Int)) (c : Ma) (k : Nat) (hk : k < l.length) : picks M told (l.take (k + 1)) c = ((picks M told (l.take k) c).1 ++ [(pick M told (picks M told (l.take k) c).2 (l.getD k default)).1], (pick M told (picks M told (l.take k) c).2 (l.getD k default)).2) := by
  rw [List.take_succ_eq_append_getElem hk, picks_app, picks_one, List.getD_eq_getElem?_getD, List.getElem?_eq_getElem hk]; rfl
theorem picks_len (M : ImgM.Mdl) (told : Bool) : ∀ (l : List (Int × Int)) (c : Ma), (picks M told l c).1.length = l.length
  | [], c => rfl
  | p :: l, c => by simp only [picks, List.length_cons]; rw [picks_len]
end Go.Proofs.Ytjehflelkpacfaa.Vm
namespace Go.Proofs.Ytjehflelkpacfaa.Vw
open Go.RowKit Go.Proofs.Ytjehflelkpacfaa.Img
attribute [local irreducible] Run Cod End OpT Still RunQ RunS RunT Fn PutOk
structure PkL where
  o : Option Addr
  c : Nat
  l : List (Int × Int)
abbrev PkL.val (p : PkL) : Value := .slice p.o p.l.length p.c
abbrev pkR (p : PkL) : Chunk := rd p.o p.l.length p.c pkC p.l
structure RunL where
  w : WoL
  o : Option Addr
  c : Nat
  l : List (Int × Nat)
abbrev RunL.zero : RunL := ⟨⟨none, 0, [], none, 0, [], 0⟩, none, 0, []⟩
structure RunL.Is (m : ML) (ps : List (Int × Int)) (r : RunL) : Prop where
  w : r.w.Is ((Vm.picks m.mdl false ps (Vm.Ma.init m.mdl)).2.looked m.mdl)
  l : r.l = (Vm.picks m.mdl false ps (Vm.Ma.init m.mdl)).1
def RunIs (m : ML) (ps : List (Int × Int)) (r : RunL) : Prop := if Vm.wrong m.mdl ps.length = 0 then r.Is m ps else r = RunL.zero
abbrev RunL.mem (r : RunL) : List Chunk := arr r.o r.l.length r.c 41 ddC r.l :: r.w.mem
theorem wrong_zero {M : ImgM.Mdl} {n : Nat} (h : Vm.wrong M n = 0) : Ver.verify M = .ok ∧ n ≤ 400 := by
  unfold Vm.wrong at h
  by_cases h1 : (Ver.verify M).err ≠ 0
  · rw [if_pos h1] at h; exact absurd h h1
  · rw [if_neg h1] at h
    refine ⟨Ver.verify_eq (Classical.not_not.1 h1), ?_⟩
    by_cases h2 : 400 < n
    · rw [if_pos h2] at h; cases h
    · exact Nat.le_of_not_lt h2
attribute [local irreducible] Ver.verify Vm.wrong Vm.picks
theorem caps_ok {m : ML} (h : Ver.verify m.mdl = .ok) (b : Nat) (hb : b < m.bx.length) : 1 ≤ (m.bx.getD b default).2 ∧ (m.bx.getD b default).2 ≤ 20 := by
  have := (Ver.verify_iff.1 h).form.boxes (m.bx.getD b default) (by rw [List.getD_eq_getElem?_getD, List.getElem?_eq_getElem hb]; exact List.getElem_mem _)
  exact this.2
/-- all picks up to one -/
def ckOf (m : ML) (ps : List (Int × Int)) (k : Nat) : List (Int × Nat) × Vm.Ma := Vm.picks m.mdl false (ps.take k) (Vm.Ma.init m.mdl)
theorem ckOf_zero (m : ML) (ps : List (Int × Int)) : ckOf m ps 0 = ([], Vm.Ma.init m.mdl) := by unfold ckOf Vm.picks; rfl
theorem ckOf_succ (m : ML) (ps : List (Int × Int)) {k : Nat} (hk : k < ps.length) : ckOf m ps (k + 1) = ((ckOf m ps k).1 ++ [(Vm.pick m.mdl false (ckOf m ps k).2 (ps.getD k default)).1], (Vm.pick m.mdl false (ckOf m ps k).2 (ps.getD k default)).2) := Vm.picks_succ m.mdl false ps _ k hk
theorem ckOf_all (m : ML) (ps : List (Int × Int)) : ckOf m ps ps.length = Vm.picks m.mdl false ps (Vm.Ma.init m.mdl) := by unfold ckOf; rw [List.take_length]
set_option maxRecDepth 100000 in
set_option maxHeartbeats 2000000 in
theorem run_is (m : ML) (hwf : m.Wf) (ps : PkL) : Fn Try.prog 13 #[m.val, ps.val] [md m, pkR ps] [] (σ := RunL) (RunIs m ps.l) (fun r => .tuple #[.agg r.w.cells.toArray, .slice r.o r.l.length r.c, .int .i64 (Vm.wrong m.mdl ps.l.length)]) RunL.mem := by
  refine Fn.enter (args := [m.val, ps.val]) Try.func13 rfl _ Try.ntmps13 rfl (by simp [md_excl, rd_excl]) (fun w S => ?_)
  (try conv => rhs; simp only [List.cons_append, List.nil_append])
  obtain ⟨W, hW⟩ : ∃ W, W = Vm.wrong m.mdl ps.l.length := ⟨_, rfl⟩
  unfold RunIs
  rw [← hW]
  repeat (first | refine go (k := ?_) | (refine goB (k := ?_); intro b) | (refine goA (k := ?_); intro ao cap))
  obtain ⟨rb, rfl⟩ : ∃ x, x = b := ⟨_, rfl⟩
  (apply Run.op; exact rfl; refine OpT.call0_ (spec := wrong_is m hwf ps.l.length) (k := ?_); intro s hs; (try conv => rhs; simp only [List.cons_append, List.nil_append]))
  rw [← hW]
  by_cases h0 : ¬ W = 0
  · repeat (first | refine go (k := ?_) | (refine goB (k := ?_); intro b) | (refine goA (k := ?_); intro ao cap))
    apply End.imp (fun w hm => (((((hm.bagNil).bagNil).nilArr 56 enC).nilArr 51 rwC)).nilArr 41 ddC)
    (refine End.doneC3 (RunL.zero) (hr := by exact rfl) (hv := by exact rfl) (ht := by exact rfl) (hm := by (repeat (first | exact Take.head | apply Take.tail))) (hl := by exact rfl) (hu := by exact rfl) (hw := by exact rfl) (he := by (first | exact rfl | (refine congrArg (Value.int _) ?_; omega) | (refine congrArg (Value.int _) ?_; dsimp only; omega))) (hx := by (simp [blk_excl, arr_excl, bag_excl, mp_excl])) (hF := by (repeat (first | exact Takes.nil | exact Take.head | apply Take.tail | apply Takes.cons))) (hp := ?_))
    rw [if_neg h0]
  have h0 := Classical.not_not.1 h0
  subst h0
  obtain ⟨hv, hp4⟩ := wrong_zero hW.symm
  have hF := formed (Ver.verify_iff.1 hv).form
  have hu30 := hF.units
  have hb30 := hF.boxes
  obtain ⟨T, hC⟩ := certs_ml hwf hv
  repeat (first | refine go (k := ?_) | (refine goB (k := ?_); intro b) | (refine goA (k := ?_); intro ao cap))
  obtain ⟨mb, rfl⟩ : ∃ x, x = b := ⟨_, rfl⟩
  (apply Run.op; exact rfl; refine OpT.call0_ (spec := begin2_is mb m hb30 hu30 (caps_ok hv) (fun k hk => (head_ok (hF.head k hk)).1)) (k := ?_); intro s hs; (try conv => rhs; simp only [List.cons_append, List.nil_append]))
  obtain ⟨e1, e2⟩ := beg_is hC hs mb
  have hn := beg_len hs hu30
  have hk0 := ckOf_zero m ps.l
  obtain ⟨n0, hn0'⟩ : ∃ n, n = (ckOf m ps.l 0).2.n := ⟨_, rfl⟩
  have hn0 : n0 = 0 := by rw [hn0', hk0]; rfl
  apply Run.imp' (fun w hm => beg_ma s hn0 (by (repeat (first | exact Takes.nil | exact Take.head | apply Take.tail | apply Takes.cons))) hm)
  (try conv => rhs; simp only [List.cons_append, List.nil_append])
  obtain ⟨x, hx⟩ : ∃ x, x = s.pl mb := ⟨_, rfl⟩
  obtain ⟨ts0, ht0⟩ : ∃ x, x = s.ts := ⟨_, rfl⟩
  obtain ⟨e0, he0⟩ : ∃ x, x = s.be := ⟨_, rfl⟩
  have hxb : s.xb = x.xb := by rw [hx]; rfl
  rw [← hx] at e1
  rw [← ht0, ← he0] at e1 e2
  rw [← ht0] at hn
  rw [hxb, ← hx, ← ht0, ← he0]
  clear hx ht0 he0 hxb hs s
  subst hn0'
  repeat (first | refine go (k := ?_) | (refine goB (k := ?_); intro b) | (refine goA (k := ?_); intro ao cap))
  apply Cod.imp (fun w hm => Mem.nilArr' hm 41 ddC (l := (ckOf m ps.l 0).1) (by rw [hk0]))
  refine Cod.only ((fun z => [old w S, md m, bxR x.p, pkR ps, blk rb [.slice none 0 0, .slice none 0 0, .int .i64 0] 31, arr z.2.2.2.1 z.1 z.2.2.2.2 41 ddC (ckOf m ps.l z.1).1] ++ maM m x z.2.1 z.2.2.1 (ckOf m ps.l z.1).2.n) (0, ts0, e0, none, 0)) (by (repeat (first | exact Takes.nil | exact Take.head | apply Take.tail | apply Takes.cons))) ?_
  apply Cod.loop (σ := Nat × List TkL × BxE × Option Addr × Nat) (fun z => z.1 ≤ ps.l.length ∧ z.2.1.length ≤ 30 ∧ MaIs m T x z.2.1 z.2.2.1 (ckOf m ps.l z.1).2.n ∧ maA z.2.1 z.2.2.1 (ckOf m ps.l z.1).2.n = (ckOf m ps.l z.1).2) (fun z => [(4, ptr rb), (8, ptr x.xb), (9, .slice z.2.2.2.1 z.1 z.2.2.2.2), (21, .slice ps.o ps.l.length ps.c), (22, .int .i64 (ps.l.length : Int)), (23, .int .i64 (z.1 : Int))]) (fun z => [old w S, md m, bxR x.p, pkR ps, blk rb [.slice none 0 0, .slice none 0 0, .int .i64 0] 31, arr z.2.2.2.1 z.1 z.2.2.2.2 41 ddC (ckOf m ps.l z.1).1] ++ maM m x z.2.1 z.2.2.1 (ckOf m ps.l z.1).2.n) (fun z => ps.l.length - z.1) (0, ts0, e0, none, 0)
  rotate_left
  exact sb
  exact tks
  intro z hz K1 hK1
  (try conv => rhs; simp only [List.cons_append, List.nil_append])
  rotate_left
  · exact ⟨Nat.zero_le _, hn, by rw [hn0]; exact e1, by rw [hn0, e2, hk0]⟩
  obtain ⟨q, us, e, ao, ac⟩ := z
  obtain ⟨hq0, hun, hI, hA⟩ := hz
  dsimp only at hq0 hun hI hA hK1 ⊢
  by_cases hq : q < ps.l.length
  · obtain ⟨tk, q1, htq⟩ : ∃ tk q1, ps.l.getD q default = (tk, q1) := ⟨_, _, rfl⟩
    have hsn := ckOf_succ m ps.l hq
    repeat (first | refine go (k := ?_) | (refine goB (k := ?_); intro b) | (refine goA (k := ?_); intro ao cap))
    rw [htq]
    rw [htq] at hsn
    obtain ⟨C1, hC1⟩ : ∃ C, C = ckOf m ps.l (q + 1) := ⟨_, rfl⟩
    rw [← hC1] at hsn
    generalize ckOf m ps.l q = C at *
    rw [← hA] at hsn
    have hsp := pickA_is m hC x us e C.2.n hI hun tk q1
    generalize Vm.pick m.mdl false (maA us e C.2.n) (tk, q1) = R at *
    ((first | (apply Run.op; exact rfl) | refine Run.yes_ (h := ?_)); refine OpT.call0_ (spec := hsp) (r := (fun w => Reads.md (by (repeat (first | exact Take.head | apply Take.tail))) (Reads.any (by (repeat (first | exact Take.head | apply Take.tail))) (bxR_excl x.p) .nil))) (k := ?_); intro s hs; (try conv => rhs; simp only [List.cons_append, List.nil_append]))
    obtain ⟨us', e'⟩ := s
    obtain ⟨g1, g2, g3⟩ := hs
    dsimp only at g1 g2 g3 ⊢
    repeat (first | refine go (k := ?_) | (refine goB (k := ?_); intro b) | (refine goA (k := ?_); intro ao cap))
    have a1 : C.1 ++ [R.1] = (ckOf m ps.l (q + 1)).1 := by rw [← hC1, hsn]
    have a2 : R.2.n = (ckOf m ps.l (q + 1)).2.n := by rw [← hC1, hsn]
    rw [a1, a2]
    rw [a2] at g1 g3
    refine End.round0_ hK1 (q + 1, us', e', ao, cap) ?_ ?_
    · exact ⟨by dsimp only; omega, by dsimp only; omega, g1, by dsimp only; rw [g3, ← hC1, hsn]⟩
    · dsimp only; omega
  · obtain rfl : q = ps.l.length := by omega
    clear hK1
    repeat (first | refine go (k := ?_) | (refine goB (k := ?_); intro b) | (refine goA (k := ?_); intro ao cap))
    have hce := ckOf_all m ps.l
    have hcl := congrArg List.length (congrArg Prod.fst hce)
    rw [Vm.picks_len] at hcl
    generalize ckOf m ps.l ps.l.length = C at *
    ((first | (apply Run.op; exact rfl) | refine Run.yes_ (h := ?_)); refine OpT.call0_ (spec := world_is m hC x us e C.2.n hI hun hb30) (r := (fun w => Reads.md (by (repeat (first | exact Take.head | apply Take.tail))) (Reads.any (by (repeat (first | exact Take.head | apply Take.tail))) (bxR_excl x.p) .nil))) (k := ?_); intro s hs; (try conv => rhs; simp only [List.cons_append, List.nil_append]))
    obtain ⟨us', r⟩ := s
    obtain ⟨g1, g2, g3⟩ := hs
    dsimp only at g1 g2 g3 ⊢
    rw [hA] at g3
    rw [← hcl]
    repeat (first | refine go (k := ?_) | (refine goB (k := ?_); intro b) | (refine goA (k := ?_); intro ao cap))
    (refine End.doneC3 ((⟨r, ao, ac, C.1⟩ : RunL)) (hr := by exact rfl) (hv := by exact rfl) (ht := by exact rfl) (hm := by (repeat (first | exact Take.head | apply Take.tail))) (hl := by exact rfl) (hu := by exact rfl) (hw := by exact rfl) (he := by (first | exact rfl | (refine congrArg (Value.int _) ?_; omega) | (refine congrArg (Value.int _) ?_; dsimp only; omega))) (hx := by (simp [blk_excl, arr_excl, bag_excl, mp_excl])) (hF := by (repeat (first | exact Takes.nil | exact Take.head | apply Take.tail | apply Takes.cons))) (hp := ?_))
    rw [if_pos rfl]
    exact ⟨by rw [← hce]; exact g3, by rw [← hce]⟩
end Go.Proofs.Ytjehflelkpacfaa.Vw

/- Settle, walked. -/
namespace Go.Proofs.Ytjehflelkpacfaa.Vm
open ImgM
theorem nextOf_at : ∀ {l : List Nat} {last : Int} {j : Nat}, j < l.length → last < ((l.getD j default : Nat) : Int) → (∀ i, i < j → ¬ last < ((l.getD i default : Nat) : Int)) → nextOf l last = l.getD j default
  | [], _, _, hj, _, _ => absurd hj (by simp)
  | a :: l, last, 0, _, h, _ => by
    unfold nextOf
    rw [List.find?_cons_of_pos (by simpa using h)]; rfl
  | a :: l, last, j + 1, hj, h, hb => by
    have h1 := nextOf_at (l := l) (last := last) (j := j) (by simpa using hj) (by simpa using h) (fun i hi => by simpa using hb (i + 1) (by omega))
    have h0 := hb 0 (by omega)
    have hf : ∃ x, l.find? (fun k : Nat => decide (last < (k : Int))) = some x := by
      rw [← Option.isSome_iff_exists, List.find?_isSome]
      refine ⟨l.getD j default, ?_, by simpa using h⟩
      rw [List.getD_eq_getElem?_getD, List.getElem?_eq_getElem (by simpa using hj)]; exact List.getElem_mem _
    obtain ⟨x, hx⟩ := hf
    unfold nextOf at h1 ⊢
    rw [List.find?_cons_of_neg (by simpa using h0), hx]
    rw [hx] at h1
    simpa using h1
theorem nextOf_none {l : List Nat} {last : Int} (hb : ∀ i, i < l.length → ¬ last < ((l.getD i default : Nat) : Int)) : nextOf l last = l.getD 0 default := by
  unfold nextOf
  rw [List.find?_eq_none.2 (fun x hx => ?_)]
  · cases l <;> rfl
  · obtain ⟨i, hi, rfl⟩ := List.getElem_of_mem hx
    have := hb i hi
    rw [List.getD_eq_getElem?_getD, List.getElem?_eq_getElem hi] at this
    simpa using this
theorem zip_snoc {α β : Type} {a : List α} {b : List β} (h : a.length = b.length) (x : α) (y : β) : (a ++ [x]).zip (b ++ [y]) = a.zip b ++ [(x, y)] := by
  rw [List.zip_append h]; rfl
theorem lastOf_snoc {l : List (Int × Int)} {d : List (Int × Nat)} (h : l.length = d.length) (p : Int × Int) (x : Int × Nat) : lastOf (l ++ [p]) (d ++ [x]) = if x.1 = 0 then p.1 else lastOf l d := by
  unfold lastOf
  rw [zip_snoc h, List.filter_append, List.foldl_append]
  by_cases hx : x.1 = 0
  · rw [if_pos hx]; simp [hx]
  · rw [if_neg hx]; simp [hx]
theorem settle_succ (M : Mdl) (q : Int) (n : Nat) (last : Int) (c : Ma) : settle M q (n + 1) last c = if (c.looked M).ready = [] then some (c.looked M) else if (pick M false (c.looked M) ((nextOf (c.looked M).ready last : Int), q)).1.1 ≠ 0 then none else settle M q n (nextOf (c.looked M).ready last) (pick M false (c.looked M) ((nextOf (c.looked M).ready last : Int), q)).2 := rfl
/-- what is done takes a step at least -/
theorem pick1_done {ν : Type} {V : Env ν} {M : Mdl} {n : Nat} {q : Int} {r : Tk × ν} (h : (pick1 V M n q r).1.1 = 0) : 1 ≤ (pick1 V M n q r).1.2 := by
  unfold pick1 at h ⊢
  by_cases h1 : q < 1 ∨ 10000 < q
  · rw [if_pos h1] at h; cases h
  · rw [if_neg h1] at h ⊢
    by_cases h2 : (look V M r).1.st ≠ 1
    · rw [if_pos h2] at h; cases h
    · rw [if_neg h2] at h ⊢
      by_cases h3 : (goN V M (min q.toNat (20000 - n)) (look V M r)).1 = 0
      · rw [if_pos h3] at h; cases h
      · rw [if_neg h3]
        dsimp only
        omega
theorem pick_done {M : Mdl} {told : Bool} {c : Ma} {p : Int × Int} (h : (pick M told c p).1.1 = 0) : c.n + 1 ≤ (pick M told c p).2.n := by
  unfold pick at h ⊢
  by_cases h1 : p.1 < 0 ∨ (c.ts.length : Int) ≤ p.1
  · rw [if_pos h1] at h; cases h
  · rw [if_neg h1] at h ⊢
    have := pick1_done h
    dsimp only
    omega
def settled (M : Mdl) (ps : List (Int × Int)) (q : Int) : Option Ma := settle M q 20001 (lastOf ps (picks M false ps (Ma.init M)).1) (picks M false ps (Ma.init M)).2
def setErr (M : Mdl) (ps : List (Int × Int)) (q : Int) : Int := if wrong M ps.length ≠ 0 then wrong M ps.length else if q < 1 ∨ 10000 < q then 3 else if settled M ps q = none then 10 else 0
end Go.Proofs.Ytjehflelkpacfaa.Vm
namespace Go.Proofs.Ytjehflelkpacfaa.Vw
open Go.RowKit Go.Proofs.Ytjehflelkpacfaa.Img
set_option linter.unusedVariables false
set_option linter.unusedSimpArgs false
attribute [local irreducible] Run Cod End OpT Still RunQ RunS RunT Fn PutOk
def SetIs (m : ML) (ps : List (Int × Int)) (q : Int) (r : WoL) : Prop := if Vm.setErr m.mdl ps q = 0 then ∃ c, Vm.settled m.mdl ps q = some c ∧ r.Is (c.looked m.mdl) else r = RunL.zero.w
def lastK (m : ML) (ps : List (Int × Int)) (k : Nat) : Int := Vm.lastOf (ps.take k) (ckOf m ps k).1
theorem lastK_zero (m : ML) (ps : List (Int × Int)) : lastK m ps 0 = -1 := rfl
theorem lastK_succ (m : ML) (ps : List (Int × Int)) {k : Nat} (hk : k < ps.length) : lastK m ps (k + 1) = if (Vm.pick m.mdl false (ckOf m ps k).2 (ps.getD k default)).1.1 = 0 then (ps.getD k default).1 else lastK m ps k := by
  unfold lastK
  rw [ckOf_succ m ps hk, List.take_succ_eq_append_getElem hk, Vm.lastOf_snoc (by unfold ckOf; rw [Vm.picks_len]), List.getD_eq_getElem?_getD, List.getElem?_eq_getElem hk]; rfl
attribute [local irreducible] Ver.verify Vm.wrong Vm.picks Vm.settle Vm.setErr Vm.settled lastK
theorem setErr_1 {M : ImgM.Mdl} {ps : List (Int × Int)} {q W : Int} (h : W = Vm.wrong M ps.length) (h0 : ¬ W = 0) : Vm.setErr M ps q = W := by unfold Vm.setErr; rw [← h, if_pos h0]
theorem setErr_2 {M : ImgM.Mdl} {ps : List (Int × Int)} {q : Int} (h : 0 = Vm.wrong M ps.length) (h0 : q < 1 ∨ 10000 < q) : Vm.setErr M ps q = 3 := by unfold Vm.setErr; rw [← h, if_neg (fun h => h rfl), if_pos h0]
theorem setErr_3 {M : ImgM.Mdl} {ps : List (Int × Int)} {q : Int} (h : 0 = Vm.wrong M ps.length) (h0 : ¬ (q < 1 ∨ 10000 < q)) : Vm.setErr M ps q = if Vm.settled M ps q = none then 10 else 0 := by unfold Vm.setErr; rw [← h, if_neg (fun h => h rfl), if_neg h0]
theorem settled_eq (m : ML) (ps : List (Int × Int)) (q : Int) : Vm.settled m.mdl ps q = Vm.settle m.mdl q 20001 (lastK m ps ps.length) (ckOf m ps ps.length).2 := by
  unfold Vm.settled lastK
  rw [ckOf_all, List.take_length]
set_option maxRecDepth 100000 in
set_option maxHeartbeats 2000000 in
theorem settle_is (m : ML) (hwf : m.Wf) (ps : PkL) (Q : Int) : Fn Try.prog 20 #[m.val, ps.val, .int .i64 Q] [md m, pkR ps] [] (σ := WoL) (SetIs m ps.l Q) (fun r => .tuple #[.agg r.cells.toArray, .int .i64 (Vm.setErr m.mdl ps.l Q)]) WoL.mem := by
  refine Fn.enter (args := [m.val, ps.val, .int .i64 Q]) Try.func20 rfl _ Try.ntmps20 rfl (by simp [md_excl, rd_excl]) (fun w S => ?_)
  (try conv => rhs; simp only [List.cons_append, List.nil_append])
  obtain ⟨W, hW⟩ : ∃ W, W = Vm.wrong m.mdl ps.l.length := ⟨_, rfl⟩
  obtain ⟨X, hX⟩ : ∃ X, X = Vm.setErr m.mdl ps.l Q := ⟨_, rfl⟩
  unfold SetIs
  rw [← hX]
  repeat (first | refine go (k := ?_) | (refine goB (k := ?_); intro b) | (refine goA (k := ?_); intro ao cap))
  obtain ⟨rb, rfl⟩ : ∃ x, x = b := ⟨_, rfl⟩
  (apply Run.op; exact rfl; refine OpT.call0_ (spec := wrong_is m hwf ps.l.length) (k := ?_); intro s hs; (try conv => rhs; simp only [List.cons_append, List.nil_append]))
  rw [← hW]
  by_cases h0 : ¬ W = 0
  · have hX' : X = W := by rw [hX]; exact setErr_1 hW h0
    subst hX'
    repeat (first | refine go (k := ?_) | (refine goB (k := ?_); intro b) | (refine goA (k := ?_); intro ao cap))
    apply End.imp (fun w hm => (((hm.bagNil).bagNil).nilArr 56 enC).nilArr 51 rwC)
    (refine End.doneC2_ (RunL.zero.w) (he := by (first | exact rfl | (refine congrArg (Value.int _) ?_; omega) | (refine congrArg (Value.int _) ?_; dsimp only; omega))) (hp := ?_))
    rw [if_neg h0]
  have h0 := Classical.not_not.1 h0
  subst h0
  by_cases hq1 : Q < 1
  · have hX' : X = 3 := by rw [hX]; exact setErr_2 hW (.inl hq1)
    subst hX'
    repeat (first | refine go (k := ?_) | (refine goB (k := ?_); intro b) | (refine goA (k := ?_); intro ao cap))
    apply End.imp (fun w hm => (((hm.bagNil).bagNil).nilArr 56 enC).nilArr 51 rwC)
    (refine End.doneC2_ (RunL.zero.w) (he := by (first | exact rfl | (refine congrArg (Value.int _) ?_; omega) | (refine congrArg (Value.int _) ?_; dsimp only; omega))) (hp := ?_))
    rw [if_neg (by decide)]
  by_cases hq2 : 10000 < Q
  · have hX' : X = 3 := by rw [hX]; exact setErr_2 hW (.inr hq2)
    subst hX'
    repeat (first | refine go (k := ?_) | (refine goB (k := ?_); intro b) | (refine goA (k := ?_); intro ao cap))
    apply End.imp (fun w hm => (((hm.bagNil).bagNil).nilArr 56 enC).nilArr 51 rwC)
    (refine End.doneC2_ (RunL.zero.w) (he := by (first | exact rfl | (refine congrArg (Value.int _) ?_; omega) | (refine congrArg (Value.int _) ?_; dsimp only; omega))) (hp := ?_))
    rw [if_neg (by decide)]
  have hX' := hX.trans (setErr_3 hW (by omega))
  clear hX
  obtain ⟨hv, hp4⟩ := wrong_zero hW.symm
  have hF := formed (Ver.verify_iff.1 hv).form
  have hu30 := hF.units
  have hb30 := hF.boxes
  obtain ⟨T, hC⟩ := certs_ml hwf hv
  repeat (first | refine go (k := ?_) | (refine goB (k := ?_); intro b) | (refine goA (k := ?_); intro ao cap))
  obtain ⟨mb, rfl⟩ : ∃ x, x = b := ⟨_, rfl⟩
  (apply Run.op; exact rfl; refine OpT.call0_ (spec := begin2_is mb m hb30 hu30 (caps_ok hv) (fun k hk => (head_ok (hF.head k hk)).1)) (k := ?_); intro s hs; (try conv => rhs; simp only [List.cons_append, List.nil_append]))
  obtain ⟨e1, e2⟩ := beg_is hC hs mb
  have hn := beg_len hs hu30
  have hk0 := ckOf_zero m ps.l
  obtain ⟨n0, hn0'⟩ : ∃ n, n = (ckOf m ps.l 0).2.n := ⟨_, rfl⟩
  have hn0 : n0 = 0 := by rw [hn0', hk0]; rfl
  apply Run.imp' (fun w hm => beg_ma s hn0 (by (repeat (first | exact Takes.nil | exact Take.head | apply Take.tail | apply Takes.cons))) hm)
  (try conv => rhs; simp only [List.cons_append, List.nil_append])
  obtain ⟨x, hx⟩ : ∃ x, x = s.pl mb := ⟨_, rfl⟩
  obtain ⟨ts0, ht0⟩ : ∃ x, x = s.ts := ⟨_, rfl⟩
  obtain ⟨e0, he0⟩ : ∃ x, x = s.be := ⟨_, rfl⟩
  have hxb : s.xb = x.xb := by rw [hx]; rfl
  rw [← hx] at e1
  rw [← ht0, ← he0] at e1 e2
  rw [← ht0] at hn
  rw [hxb, ← hx, ← ht0, ← he0]
  clear hx ht0 he0 hxb hs s
  subst hn0'
  repeat (first | refine go (k := ?_) | (refine goB (k := ?_); intro b) | (refine goA (k := ?_); intro ao cap))
  rw [← lastK_zero m ps.l]
  refine Cod.only ((fun z => [old w S, md m, bxR x.p, pkR ps, blk rb [.slice none 0 0, .slice none 0 0, .int .i64 0] 31] ++ maM m x z.2.1 z.2.2 (ckOf m ps.l z.1).2.n) (0, ts0, e0)) (by (repeat (first | exact Takes.nil | exact Take.head | apply Take.tail | apply Takes.cons))) ?_
  apply Cod.loop (σ := Nat × List TkL × BxE) (fun z => z.1 ≤ ps.l.length ∧ z.2.1.length ≤ 30 ∧ MaIs m T x z.2.1 z.2.2 (ckOf m ps.l z.1).2.n ∧ maA z.2.1 z.2.2 (ckOf m ps.l z.1).2.n = (ckOf m ps.l z.1).2) (fun z => [(2, .int .i64 Q), (6, ptr rb), (9, ptr x.xb), (10, .int .i64 (lastK m ps.l z.1)), (33, .slice ps.o ps.l.length ps.c), (34, .int .i64 (ps.l.length : Int)), (35, .int .i64 (z.1 : Int))]) (fun z => [old w S, md m, bxR x.p, pkR ps, blk rb [.slice none 0 0, .slice none 0 0, .int .i64 0] 31] ++ maM m x z.2.1 z.2.2 (ckOf m ps.l z.1).2.n) (fun z => ps.l.length - z.1) (0, ts0, e0)
  rotate_left
  exact sb
  exact tks
  intro z hz K1 hK1
  (try conv => rhs; simp only [List.cons_append, List.nil_append])
  rotate_left
  · exact ⟨Nat.zero_le _, hn, by rw [hn0]; exact e1, by rw [hn0, e2, hk0]⟩
  obtain ⟨q, us, e⟩ := z
  obtain ⟨hq0, hun, hI, hA⟩ := hz
  dsimp only at hq0 hun hI hA hK1 ⊢
  by_cases hq : q < ps.l.length
  · obtain ⟨tk, q1, htq⟩ : ∃ tk q1, ps.l.getD q default = (tk, q1) := ⟨_, _, rfl⟩
    have hsn := ckOf_succ m ps.l hq
    have hln := lastK_succ m ps.l hq
    repeat (first | refine go (k := ?_) | (refine goB (k := ?_); intro b) | (refine goA (k := ?_); intro ao cap))
    rw [htq]
    rw [htq] at hsn hln
    obtain ⟨C1, hC1⟩ : ∃ C, C = ckOf m ps.l (q + 1) := ⟨_, rfl⟩
    rw [← hC1] at hsn
    generalize ckOf m ps.l q = C at *
    rw [← hA] at hsn hln
    have hsp := pickA_is m hC x us e C.2.n hI hun tk q1
    generalize Vm.pick m.mdl false (maA us e C.2.n) (tk, q1) = R at *
    ((first | (apply Run.op; exact rfl) | refine Run.yes_ (h := ?_)); refine OpT.call0_ (spec := hsp) (r := (fun w => Reads.md (by (repeat (first | exact Take.head | apply Take.tail))) (Reads.any (by (repeat (first | exact Take.head | apply Take.tail))) (bxR_excl x.p) .nil))) (k := ?_); intro s hs; (try conv => rhs; simp only [List.cons_append, List.nil_append]))
    obtain ⟨us', e'⟩ := s
    obtain ⟨g1, g2, g3⟩ := hs
    dsimp only at g1 g2 g3 hln ⊢
    have a2 : R.2.n = (ckOf m ps.l (q + 1)).2.n := by rw [← hC1, hsn]
    rw [a2] at g1 g3 ⊢
    repeat (first | refine go (k := ?_) | (refine goB (k := ?_); intro b) | (refine goA (k := ?_); intro ao cap))
    (apply Run.op; exact rfl; refine OpT.val_ (h := by exact Still.fieldI rfl rfl rfl rfl rfl) (k := ?_))
    by_cases hr0 : R.1.1 = 0
    · rw [if_pos hr0] at hln
      repeat (first | refine go (k := ?_) | (refine goB (k := ?_); intro b) | (refine goA (k := ?_); intro ao cap))
      rw [← hln]
      refine End.round0_ hK1 (q + 1, us', e') ?_ ?_
      · exact ⟨by dsimp only; omega, by dsimp only; omega, g1, by dsimp only; rw [g3, ← hC1, hsn]⟩
      · dsimp only; omega
    · rw [if_neg hr0] at hln
      repeat (first | refine go (k := ?_) | (refine goB (k := ?_); intro b) | (refine goA (k := ?_); intro ao cap))
      rw [← hln]
      refine End.round0_ hK1 (q + 1, us', e') ?_ ?_
      · exact ⟨by dsimp only; omega, by dsimp only; omega, g1, by dsimp only; rw [g3, ← hC1, hsn]⟩
      · dsimp only; omega
  · obtain rfl : q = ps.l.length := by omega
    clear hK1
    have hse := settled_eq m ps.l Q
    repeat (first | refine go (k := ?_) | (refine goB (k := ?_); intro b) | (refine goA (k := ?_); intro ao cap))
    generalize lastK m ps.l ps.l.length = la0 at *
    generalize (ckOf m ps.l ps.l.length).2 = C at *
    ((first | (apply Run.op; exact rfl) | refine Run.yes_ (h := ?_)); refine OpT.call0_ (spec := ready_is m hC x us e C.n hI hun) (r := (fun w => Reads.md (by (repeat (first | exact Take.head | apply Take.tail))) (Reads.any (by (repeat (first | exact Take.head | apply Take.tail))) (bxR_excl x.p) .nil))) (k := ?_); intro s hs; (try conv => rhs; simp only [List.cons_append, List.nil_append]))
    obtain ⟨us0, lo, lc⟩ := s
    obtain ⟨g1, g2⟩ := hs
    dsimp only at g1 g2 ⊢
    rw [hA] at g2
    rw [hA, ← g2]
    repeat (first | refine go (k := ?_) | (refine goB (k := ?_); intro b) | (refine goA (k := ?_); intro ao cap))
    refine Cod.only ((fun z => [old w S, md m, bxR x.p, blk rb [.slice none 0 0, .slice none 0 0, .int .i64 0] 31, arr z.2.2.2.2.2.1 (maA z.2.2.1 z.2.2.2.1 z.2.2.2.2.1).ready.length z.2.2.2.2.2.2 3 natC (maA z.2.2.1 z.2.2.2.1 z.2.2.2.2.1).ready] ++ maM m x z.2.2.1 z.2.2.2.1 z.2.2.2.2.1) (20001, la0, us0, e, C.n, lo, lc)) (by (repeat (first | exact Takes.nil | exact Take.head | apply Take.tail | apply Takes.cons))) ?_
    apply Cod.loop (σ := Nat × Int × List TkL × BxE × Nat × Option Addr × Nat) (fun z => z.2.2.1.length ≤ 30 ∧ MaIs m T x z.2.2.1 z.2.2.2.1 z.2.2.2.2.1 ∧ 20001 ≤ z.1 + z.2.2.2.2.1 ∧ ∃ c, maA z.2.2.1 z.2.2.2.1 z.2.2.2.2.1 = c.looked m.mdl ∧ Vm.settled m.mdl ps.l Q = Vm.settle m.mdl Q z.1 z.2.1 c) (fun z => [(2, .int .i64 Q), (6, ptr rb), (9, ptr x.xb), (10, .int .i64 z.2.1), (13, .slice z.2.2.2.2.2.1 (maA z.2.2.1 z.2.2.2.1 z.2.2.2.2.1).ready.length z.2.2.2.2.2.2)]) (fun z => [old w S, md m, bxR x.p, blk rb [.slice none 0 0, .slice none 0 0, .int .i64 0] 31, arr z.2.2.2.2.2.1 (maA z.2.2.1 z.2.2.2.1 z.2.2.2.2.1).ready.length z.2.2.2.2.2.2 3 natC (maA z.2.2.1 z.2.2.2.1 z.2.2.2.2.1).ready] ++ maM m x z.2.2.1 z.2.2.2.1 z.2.2.2.2.1) (fun z => z.1) (20001, la0, us0, e, C.n, lo, lc)
    rotate_left
    exact sb
    exact tks
    intro z hz K1 hK1
    (try conv => rhs; simp only [List.cons_append, List.nil_append])
    rotate_left
    · refine ⟨?_, g1, by dsimp only; omega, C, g2, hse⟩
      have h1 := congrArg List.length g1.tbs
      have h2 := congrArg List.length hI.tbs
      simp only [List.length_map] at h1 h2
      dsimp only; omega
    obtain ⟨fu, la, ts, e1, n, ao, ac⟩ := z
    obtain ⟨hun1, hI1, hfu, c, hA1, hst⟩ := hz
    dsimp only at hun1 hI1 hfu hA1 hst hK1 ⊢
    have hn20 : n ≤ 20000 := hI1.ok.n
    obtain ⟨f, rfl⟩ : ∃ f, fu = f + 1 := ⟨fu - 1, by omega⟩
    rw [Vm.settle_succ, ← hA1] at hst
    obtain ⟨l, hl⟩ : ∃ l, l = (maA ts e1 n).ready := ⟨_, rfl⟩
    rw [← hl] at hst ⊢
    have hl30 : l.length ≤ 30 := by
      have h1 := List.length_filter_le (fun k => decide (((maA ts e1 n).ts.getD k default).st = 1)) (List.range (maA ts e1 n).ts.length)
      have h2 : l.length ≤ (ts.map TkL.tk).length := by rw [hl]; rw [List.length_range] at h1; exact h1
      rw [List.length_map] at h2
      omega
    by_cases h9 : l = []
    · rw [if_pos h9] at hst
      have hl0 : l.length = 0 := by rw [h9]; rfl
      have hX0 : X = 0 := by rw [hX', hst]; rfl
      subst hX0
      clear hK1
      repeat (first | refine go (k := ?_) | (refine goB (k := ?_); intro b) | (refine goA (k := ?_); intro ao cap))
      ((first | (apply Run.op; exact rfl) | refine Run.yes_ (h := ?_)); refine OpT.call0_ (spec := world_is m hC x ts e1 n hI1 hun1 hb30) (r := (fun w => Reads.md (by (repeat (first | exact Take.head | apply Take.tail))) (Reads.any (by (repeat (first | exact Take.head | apply Take.tail))) (bxR_excl x.p) .nil))) (k := ?_); intro s hs; (try conv => rhs; simp only [List.cons_append, List.nil_append]))
      obtain ⟨us', r⟩ := s
      obtain ⟨k1, k2, k3⟩ := hs
      dsimp only at k1 k2 k3 ⊢
      repeat (first | refine go (k := ?_) | (refine goB (k := ?_); intro b) | (refine goA (k := ?_); intro ao cap))
      (refine End.doneC2_ (r) (he := by (first | exact rfl | (refine congrArg (Value.int _) ?_; omega) | (refine congrArg (Value.int _) ?_; dsimp only; omega))) (hp := ?_))
      rw [if_pos rfl]
      exact ⟨_, hst, k3⟩
    · rw [if_neg h9] at hst
      have hl0 : 0 < l.length := List.length_pos_iff.2 h9
      repeat (first | refine go (k := ?_) | (refine goB (k := ?_); intro b) | (refine goA (k := ?_); intro ao cap))
      refine cutN (σ := Unit) (fun _ => True) (fun _ => [(2, .int .i64 Q), (6, ptr rb), (9, ptr x.xb), (14, .int .i64 ((Vm.nextOf l la : Nat) : Int))]) (fun z => [old w S, md m, bxR x.p, blk rb [.slice none 0 0, .slice none 0 0, .int .i64 0] 31] ++ maM m x ts e1 n) ?_ ?_
      · rintro ⟨⟩ -
        clear hl h9 hl0
        obtain ⟨nx, hnx⟩ : ∃ x, x = Vm.nextOf l la := ⟨_, rfl⟩
        rw [← hnx] at hst ⊢
        have hsp := pickA_is m hC x ts e1 n hI1 hun1 (nx : Int) Q
        have hdn := Vm.pick_done (M := m.mdl) (told := false) (c := maA ts e1 n) (p := ((nx : Int), Q))
        generalize Vm.pick m.mdl false (maA ts e1 n) ((nx : Int), Q) = R at *
        repeat (first | refine go (k := ?_) | (refine goB (k := ?_); intro b) | (refine goA (k := ?_); intro ao cap))
        ((first | (apply Run.op; exact rfl) | refine Run.yes_ (h := ?_)); refine OpT.call0_ (spec := hsp) (r := (fun w => Reads.md (by (repeat (first | exact Take.head | apply Take.tail))) (Reads.any (by (repeat (first | exact Take.head | apply Take.tail))) (bxR_excl x.p) .nil))) (k := ?_); intro s hs; (try conv => rhs; simp only [List.cons_append, List.nil_append]))
        obtain ⟨us', e'⟩ := s
        obtain ⟨k1, k2, k3⟩ := hs
        dsimp only at k1 k2 k3 hdn ⊢
        repeat (first | refine go (k := ?_) | (refine goB (k := ?_); intro b) | (refine goA (k := ?_); intro ao cap))
        (apply Run.op; exact rfl; refine OpT.val_ (h := by exact Still.fieldI rfl rfl rfl rfl rfl) (k := ?_))
        by_cases hr0 : ¬ R.1.1 = 0
        · rw [if_pos hr0] at hst
          have hX0 : X = 10 := by rw [hX', hst]; rfl
          subst hX0
          repeat (first | refine go (k := ?_) | (refine goB (k := ?_); intro b) | (refine goA (k := ?_); intro ao cap))
          apply End.imp (fun w hm => (((hm.bagNil).bagNil).nilArr 56 enC).nilArr 51 rwC)
          (refine End.doneC2_ (RunL.zero.w) (he := by (first | exact rfl | (refine congrArg (Value.int _) ?_; omega) | (refine congrArg (Value.int _) ?_; dsimp only; omega))) (hp := ?_))
          rw [if_neg (by decide)]
        · have hr0 := Classical.not_not.1 hr0
          rw [if_neg (fun h => h hr0)] at hst
          have hd1 := hdn hr0
          have hun' : us'.length ≤ 30 := by omega
          repeat (first | refine go (k := ?_) | (refine goB (k := ?_); intro b) | (refine goA (k := ?_); intro ao cap))
          ((first | (apply Run.op; exact rfl) | refine Run.yes_ (h := ?_)); refine OpT.call0_ (spec := ready_is m hC x us' e' R.2.n k1 hun') (r := (fun w => Reads.md (by (repeat (first | exact Take.head | apply Take.tail))) (Reads.any (by (repeat (first | exact Take.head | apply Take.tail))) (bxR_excl x.p) .nil))) (k := ?_); intro s hs; (try conv => rhs; simp only [List.cons_append, List.nil_append]))
          obtain ⟨us2, lo2, lc2⟩ := s
          obtain ⟨j1, j2⟩ := hs
          dsimp only at j1 j2 ⊢
          rw [k3] at j2
          rw [k3, ← j2]
          repeat (first | refine go (k := ?_) | (refine goB (k := ?_); intro b) | (refine goA (k := ?_); intro ao cap))
          refine End.round0_ hK1 (f, (nx : Int), us2, e', R.2.n, lo2, lc2) ?_ ?_
          · refine ⟨?_, j1, by dsimp only; omega, R.2, j2, hst⟩
            have h1 := congrArg List.length j1.tbs
            have h2 := congrArg List.length k1.tbs
            simp only [List.length_map] at h1 h2
            dsimp only; omega
          · dsimp only; omega
      · intro K3 hK3
        clear hK1
        refine Cod.only ((fun j => [old w S, md m, bxR x.p, blk rb [.slice none 0 0, .slice none 0 0, .int .i64 0] 31, arr ao l.length ac 3 natC l] ++ maM m x ts e1 n) 0) (by (repeat (first | exact Takes.nil | exact Take.head | apply Take.tail | apply Takes.cons))) ?_
        apply Cod.loop (σ := Nat) (fun j => j ≤ l.length ∧ ∀ i, i < j → ¬ la < ((l.getD i default : Nat) : Int)) (fun j => [(2, .int .i64 Q), (6, ptr rb), (9, ptr x.xb), (10, .int .i64 la), (14, .int .i64 ((l.getD 0 default : Nat) : Int)), (57, .slice ao l.length ac), (58, .int .i64 (l.length : Int)), (59, .int .i64 (j : Int))]) (fun j => [old w S, md m, bxR x.p, blk rb [.slice none 0 0, .slice none 0 0, .int .i64 0] 31, arr ao l.length ac 3 natC l] ++ maM m x ts e1 n) (fun j => l.length - j) 0
        rotate_left
        exact sb
        exact tks
        intro j hj K4 hK4
        (try conv => rhs; simp only [List.cons_append, List.nil_append])
        rotate_left
        · exact ⟨Nat.zero_le _, fun i hi => by omega⟩
        obtain ⟨hj0, hj1⟩ := hj
        by_cases hj : j < l.length
        · by_cases hgt : la < ((l.getD j default : Nat) : Int)
          · have hnx := Vm.nextOf_at hj hgt hj1
            repeat (first | refine go (k := ?_) | (refine goB (k := ?_); intro b) | (refine goA (k := ?_); intro ao cap))
            rw [← hnx]
            refine End.some_ hK3 () ?_
            trivial
          · repeat (first | refine go (k := ?_) | (refine goB (k := ?_); intro b) | (refine goA (k := ?_); intro ao cap))
            refine End.round0_ hK4 (j + 1) ?_ ?_
            · refine ⟨by omega, fun i hi => ?_⟩
              by_cases e : i = j
              · subst e; exact hgt
              · exact hj1 i (by omega)
            · omega
        · obtain rfl : j = l.length := by omega
          have hnx := Vm.nextOf_none hj1
          repeat (first | refine go (k := ?_) | (refine goB (k := ?_); intro b) | (refine goA (k := ?_); intro ao cap))
          rw [← hnx]
          refine End.some_ hK3 () ?_
          trivial
end Go.Proofs.Ytjehflelkpacfaa.Vw
