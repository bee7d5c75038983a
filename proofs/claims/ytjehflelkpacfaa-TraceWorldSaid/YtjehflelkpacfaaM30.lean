/- All boxes of a module as what a task speaks to; what is told of its doings. -/
import Derived.Test.YtjehflelkpacfaaM29
import Derived.Laws.StructEq
namespace Go.Proofs.Ytjehflelkpacfaa.Vw
open Go.RowKit Go.Proofs.Ytjehflelkpacfaa.Img
set_option linter.unusedVariables false
set_option linter.unusedSimpArgs false
attribute [local irreducible] Run Cod End OpT Still RunQ RunS RunT Fn PutOk
theorem bxR_excl (p : BxP) : (bxR p).excl = false := rd_excl
section
variable {M : ImgM.Mdl} {p : BxP} {e : BxE}
theorem BxOk.split (h : BxOk M p e) {b : Nat} (hb : b < M.boxes.length) : ∃ s u r, e.rs = s ++ r :: u ∧ s.length = b ∧ r.Ok ∧ r.l.length = Vm.capN M b ∧ p.bs.getD b default = r.bb ∧ e.abs.ws.getD b [] = r.ws ∧ p.bs.length = M.boxes.length := by
  obtain ⟨h1, h2, h3, h4⟩ := h
  obtain ⟨s, u, hsp, hlen⟩ := split_at (l := e.rs) (k := b) (by omega)
  refine ⟨s, u, e.rs.getD b default, hsp, hlen, h3 _ ?_, h4 b hb, ?_, ?_, ?_⟩
  · rw [List.getD_eq_getElem?_getD, List.getElem?_eq_getElem (by omega)]; exact List.getElem_mem _
  · rw [← h1, List.getD_eq_getElem?_getD, List.getElem?_map, List.getElem?_eq_getElem (by omega)]
    simp [List.getD_eq_getElem?_getD, List.getElem?_eq_getElem (show b < e.rs.length by omega)]
  · show (e.rs.map Ring.ws).getD b [] = _
    rw [getD_rg, if_pos (by omega)]
  · rw [← h1, List.length_map, h2]
theorem BxOk.put (h : BxOk M p e) {s u : List Ring} {r r' : Ring} (he : e.rs = s ++ r :: u) (hbb : r'.bb = r.bb) (hok : r'.Ok) (hl : r'.l.length = r.l.length) : BxOk M p { e with rs := s ++ r' :: u } := by
  obtain ⟨h1, h2, h3, h4⟩ := h
  rw [he] at h1 h2 h3
  refine ⟨by simpa [hbb] using h1, by simpa using h2, fun x hx => ?_, fun b hb => ?_⟩
  · rcases List.mem_append.1 hx with hx | hx
    · exact h3 x (by simp [hx])
    · rcases List.mem_cons.1 hx with rfl | hx
      · exact hok
      · exact h3 x (by simp [hx])
  · have h4b := h4 b hb
    rw [he] at h4b
    by_cases hbs : b = s.length
    · subst hbs
      rw [getD_split] at h4b ⊢
      rw [hl]; exact h4b
    · rw [← h4b]
      congr 1
      have e1 : (s ++ r' :: u) = (s ++ r :: u).set s.length r' := (set_split s u r r').symm
      simp only [e1, List.getD_eq_getElem?_getD]
      rw [List.getElem?_set_ne (fun h => hbs h.symm)]
theorem BxE.abs_put {s u : List Ring} {r r' : Ring} (he : e.rs = s ++ r :: u) : BxE.abs { e with rs := s ++ r' :: u } = ⟨e.abs.ws.set s.length r'.ws, e.ev⟩ := by
  unfold BxE.abs
  rw [he]
  simp only [Vm.Bs.mk.injEq, and_true, List.map_append, List.map_cons]
  have := set_split (s.map Ring.ws) (u.map Ring.ws) r.ws r'.ws
  rw [List.length_map] at this
  exact this.symm
end
section
variable (M : ImgM.Mdl) (p : BxP) (e : BxE) (k : Option Nat)
set_option maxRecDepth 100000 in
theorem bxFull_is (he : BxOk M p e) (b : Nat) (hb : b < M.boxes.length) : Fn Try.prog 104 #[.slice p.bo p.bs.length p.bc, .int .i64 (b : Int)] [bxR p] [bxM p e] (σ := Unit) (fun _ => True) (fun _ => .bool ((Vm.bxs M k).full e.abs b)) (fun _ => [bxM p e]) := by
  obtain ⟨s1, u1, r, h1, h2, h3, h4, h5, h6, h7⟩ := he.split hb
  refine Fn.enter (args := [.slice p.bo p.bs.length p.bc, .int .i64 (b : Int)]) Try.func104 rfl _ Try.ntmps104 rfl (by simp [rd_excl]) (fun w S => ?_)
  (try conv => rhs; simp only [List.cons_append, List.nil_append])
  apply Cod.imp (fun w hm => Mem.rgOut hm (by (repeat (first | exact Take.head | apply Take.tail))) h1)
  repeat (first | refine go (k := ?_) | (refine goB (k := ?_); intro b) | (refine goA (k := ?_); intro ao cap))
  rw [h5]
  (apply Run.op; exact rfl; refine OpT.call0_ (spec := full_rg r) (k := ?_); intro s hs; (try conv => rhs; simp only [List.cons_append, List.nil_append]))
  repeat (first | refine go (k := ?_) | (refine goB (k := ?_); intro b) | (refine goA (k := ?_); intro ao cap))
  apply End.imp (fun w hm => Mem.rgIn (p := p) (e := e) (s := s1) (u := u1) (r := r) hm (by (repeat (first | exact Takes.nil | exact Take.head | apply Take.tail | apply Takes.cons))))
  rw [← h1]
  refine End.done1_ () (he := ?_) (hp := trivial) (hx := by simp [bxM_excl])
  refine bool_eq ?_
  show _ = decide ((e.abs.ws.getD b []).length = Vm.capN M b)
  rw [h6, r.len, h4]
set_option maxRecDepth 100000 in
theorem bxEmpty_is (he : BxOk M p e) (b : Nat) (hb : b < M.boxes.length) : Fn Try.prog 103 #[.slice p.bo p.bs.length p.bc, .int .i64 (b : Int)] [bxR p] [bxM p e] (σ := Unit) (fun _ => True) (fun _ => .bool ((Vm.bxs M k).empty e.abs b)) (fun _ => [bxM p e]) := by
  obtain ⟨s1, u1, r, h1, h2, h3, h4, h5, h6, h7⟩ := he.split hb
  refine Fn.enter (args := [.slice p.bo p.bs.length p.bc, .int .i64 (b : Int)]) Try.func103 rfl _ Try.ntmps103 rfl (by simp [rd_excl]) (fun w S => ?_)
  (try conv => rhs; simp only [List.cons_append, List.nil_append])
  apply Cod.imp (fun w hm => Mem.rgOut hm (by (repeat (first | exact Take.head | apply Take.tail))) h1)
  repeat (first | refine go (k := ?_) | (refine goB (k := ?_); intro b) | (refine goA (k := ?_); intro ao cap))
  rw [h5]
  (apply Run.op; exact rfl; refine OpT.call0_ (spec := empty_rg r) (k := ?_); intro s hs; (try conv => rhs; simp only [List.cons_append, List.nil_append]))
  repeat (first | refine go (k := ?_) | (refine goB (k := ?_); intro b) | (refine goA (k := ?_); intro ao cap))
  apply End.imp (fun w hm => Mem.rgIn (p := p) (e := e) (s := s1) (u := u1) (r := r) hm (by (repeat (first | exact Takes.nil | exact Take.head | apply Take.tail | apply Takes.cons))))
  rw [← h1]
  refine End.done1_ () (he := ?_) (hp := trivial) (hx := by simp [bxM_excl])
  refine bool_eq ?_
  show _ = decide ((e.abs.ws.getD b []).length = 0)
  rw [h6, r.len]
set_option maxRecDepth 100000 in
theorem bxPut_is (he : BxOk M p e) (b : Nat) (hb : b < M.boxes.length) (v : Int) (hf : (Vm.bxs M k).full e.abs b = false) : Fn Try.prog 105 #[.slice p.bo p.bs.length p.bc, .int .i64 (b : Int), .int .i64 v] [bxR p] [bxM p e] (σ := BxE) (fun e' => BxOk M p e' ∧ e'.abs = (Vm.bxs M k).put e.abs b v) (fun _ => .tuple #[]) (fun e' => [bxM p e']) := by
  obtain ⟨s1, u1, r, h1, h2, h3, h4, h5, h6, h7⟩ := he.split hb
  have hf' : decide ((e.abs.ws.getD b []).length = Vm.capN M b) = false := hf
  rw [decide_eq_false_iff_not, h6, r.len, ← h4] at hf'
  have hn : r.n < r.l.length := by have := h3.n; omega
  obtain ⟨q1, q2⟩ := Ring.put_ok h3 hn v
  refine Fn.enter (args := [.slice p.bo p.bs.length p.bc, .int .i64 (b : Int), .int .i64 v]) Try.func105 rfl _ Try.ntmps105 rfl (by simp [rd_excl]) (fun w S => ?_)
  (try conv => rhs; simp only [List.cons_append, List.nil_append])
  apply Cod.imp (fun w hm => Mem.rgOut hm (by (repeat (first | exact Take.head | apply Take.tail))) h1)
  repeat (first | refine go (k := ?_) | (refine goB (k := ?_); intro b) | (refine goA (k := ?_); intro ao cap))
  rw [h5]
  (apply Run.op; exact rfl; refine OpT.call0_ (spec := put_rg r h3 hn v) (k := ?_); intro s hs; (try conv => rhs; simp only [List.cons_append, List.nil_append]))
  repeat (first | refine go (k := ?_) | (refine goB (k := ?_); intro b) | (refine goA (k := ?_); intro ao cap))
  apply End.imp (fun w hm => Mem.rgIn (p := p) (e := e) (s := s1) (u := u1) (r := r.put v) hm (by (repeat (first | exact Takes.nil | exact Take.head | apply Take.tail | apply Takes.cons))))
  refine End.done0'_ ({ e with rs := s1 ++ r.put v :: u1 } : BxE) (hp := ⟨he.put h1 rfl q1 (by simp), ?_⟩) (hx := by simp [bxM_excl])
  rw [BxE.abs_put (r' := r.put v) h1, q2, h2]
  show _ = ({ e.abs with ws := e.abs.ws.set b (e.abs.ws.getD b [] ++ [v]) } : Vm.Bs)
  rw [h6]; rfl
set_option maxRecDepth 100000 in
theorem bxTake_is (he : BxOk M p e) (b : Nat) (hb : b < M.boxes.length) (hf : (Vm.bxs M k).empty e.abs b = false) : Fn Try.prog 106 #[.slice p.bo p.bs.length p.bc, .int .i64 (b : Int)] [bxR p] [bxM p e] (σ := BxE) (fun e' => BxOk M p e' ∧ e'.abs = ((Vm.bxs M k).take e.abs b).2) (fun _ => .int .i64 ((Vm.bxs M k).take e.abs b).1) (fun e' => [bxM p e']) := by
  obtain ⟨s1, u1, r, h1, h2, h3, h4, h5, h6, h7⟩ := he.split hb
  have hf' : decide ((e.abs.ws.getD b []).length = 0) = false := hf
  rw [decide_eq_false_iff_not, h6, r.len] at hf'
  obtain ⟨q1, q2⟩ := Ring.take_ok h3 hf'
  obtain ⟨q3, q4⟩ := Ring.head h3 hf'
  refine Fn.enter (args := [.slice p.bo p.bs.length p.bc, .int .i64 (b : Int)]) Try.func106 rfl _ Try.ntmps106 rfl (by simp [rd_excl]) (fun w S => ?_)
  (try conv => rhs; simp only [List.cons_append, List.nil_append])
  apply Cod.imp (fun w hm => Mem.rgOut hm (by (repeat (first | exact Take.head | apply Take.tail))) h1)
  repeat (first | refine go (k := ?_) | (refine goB (k := ?_); intro b) | (refine goA (k := ?_); intro ao cap))
  rw [h5]
  (apply Run.op; exact rfl; refine OpT.call0_ (spec := take_rg r h3 hf') (k := ?_); intro s hs; (try conv => rhs; simp only [List.cons_append, List.nil_append]))
  repeat (first | refine go (k := ?_) | (refine goB (k := ?_); intro b) | (refine goA (k := ?_); intro ao cap))
  apply End.imp (fun w hm => Mem.rgIn (p := p) (e := e) (s := s1) (u := u1) (r := r.take) hm (by (repeat (first | exact Takes.nil | exact Take.head | apply Take.tail | apply Takes.cons))))
  refine End.done1_ ({ e with rs := s1 ++ r.take :: u1 } : BxE) (he := ?_) (hp := ⟨he.put h1 rfl q1 rfl, ?_⟩) (hx := by simp [bxM_excl])
  · show _ = Value.int .i64 ((e.abs.ws.getD b []).headD 0)
    rw [h6, q3]
  · rw [BxE.abs_put (r' := r.take) h1, h2]
    show _ = ({ e.abs with ws := e.abs.ws.set b (e.abs.ws.getD b []).tail } : Vm.Bs)
    rw [h6, q4]; rfl
end
theorem kcs_perm (kbs : List Nat) {k : Nat} (hk : k < kbs.length) : ∃ es, (kcs kbs).Perm (blk (kbs.getD k 0) [.int .i64 (k : Int)] 3 :: es) := by
  have hm : blk (kbs.getD k 0) [.int .i64 (k : Int)] 3 ∈ kcs kbs := List.mem_map.2 ⟨k, List.mem_range.2 hk, rfl⟩
  obtain ⟨s, u, h⟩ := List.append_of_mem hm
  refine ⟨s ++ u, ?_⟩
  rw [h]
  exact List.perm_middle
set_option maxRecDepth 100000 in
theorem told_is (M : ImgM.Mdl) (p : BxP) (e : BxE) (he : BxOk M p e) (ob : Nat) (kbs : List Nat) (hp : p.tr = some (ob, kbs)) (k : Nat) (hk : k < kbs.length) (a bx v : Int) (hs : e.ev.length ≤ 2000000) :
    Fn Try.prog 27 (#[.int .i64 a, .int .i64 bx, .int .i64 v] ++ [ptr ob, ptr (kbs.getD k 0)].toArray) [bxR p] [bxM p e] (σ := BxE) (fun e' => BxOk M p e' ∧ e'.abs = (Vm.bxs M (some k)).tell e.abs (a, bx, v)) (fun _ => .tuple #[]) (fun e' => [bxM p e']) := by
  have hO : outC p e = [blk ob [.slice e.oo e.ev.length e.oc] 43, arr e.oo e.ev.length e.oc 50 evC e.ev, bag (kcs kbs)] := by unfold outC; rw [hp]
  obtain ⟨es, hes⟩ := kcs_perm kbs hk
  refine Fn.enter (args := [.int .i64 a, .int .i64 bx, .int .i64 v, ptr ob, ptr (kbs.getD k 0)]) Try.func27 rfl _ Try.ntmps27 rfl (by simp [rd_excl]) (fun w S => ?_)
  (try conv => rhs; simp only [List.cons_append, List.nil_append])
  apply Cod.imp (fun w hm => by
    have h1 : Mem w (bag (e.rs.flatMap rgM) :: bag (outC p e) :: _) := (hm.take (show Take (bxM p e) _ _ by (repeat (first | exact Take.head | apply Take.tail)))).unpack
    have h2 := (h1.take (show Take (bag (outC p e)) _ _ from .tail .head)).unpack
    rw [hO] at h2
    exact Mem.bagOut (ds := [blk (kbs.getD k 0) [.int .i64 (k : Int)] 3]) h2 (show Take (bag (kcs kbs)) _ _ from .tail (.tail .head)) hes)
  (try conv => rhs; simp only [List.cons_append, List.nil_append])
  repeat (first | refine go (k := ?_) | (refine goB (k := ?_); intro b) | (refine goA (k := ?_); intro ao cap))
  (apply Run.op; exact rfl; refine OpT.append1_ (a := ((k, (a, bx, v)) : Nat × Vm.Ev)) (k := ?_); intro ao cap; (try conv => rhs; simp only [List.cons_append, List.nil_append]))
  repeat (first | refine go (k := ?_) | (refine goB (k := ?_); intro b) | (refine goA (k := ?_); intro ao cap))
  have hle : (e.ev ++ [(k, (a, bx, v))]).length = e.ev.length + 1 := by simp
  rw [← hle]
  apply End.imp (fun w hm => by
    have h1 := Mem.bagIn (ds := [blk (kbs.getD k 0) [.int .i64 (k : Int)] 3]) (cs := kcs kbs) hm (show Take (bag es) _ _ by (repeat (first | exact Take.head | apply Take.tail))) (by (repeat (first | exact Takes.nil | exact Take.head | apply Take.tail | apply Takes.cons))) hes (fun c hc => by simp at hc; subst hc; exact blk_excl)
    have h2 := (h1.takes (show Takes [blk ob [.slice ao (e.ev ++ [(k, (a, bx, v))]).length cap] 43, arr ao (e.ev ++ [(k, (a, bx, v))]).length cap 50 evC (e.ev ++ [(k, (a, bx, v))]), bag (kcs kbs)] _ _ by (repeat (first | exact Takes.nil | exact Take.head | apply Take.tail | apply Takes.cons)))).pack (fun c hc => by simp at hc; rcases hc with rfl | rfl | rfl; exact blk_excl; exact arr_excl; exact bag_excl)
    have hO' : outC p { e with oo := ao, oc := cap, ev := e.ev ++ [(k, (a, bx, v))] } = [blk ob [.slice ao (e.ev ++ [(k, (a, bx, v))]).length cap] 43, arr ao (e.ev ++ [(k, (a, bx, v))]).length cap 50 evC (e.ev ++ [(k, (a, bx, v))]), bag (kcs kbs)] := by unfold outC; rw [hp]
    rw [← hO'] at h2
    exact (h2.takes (show Takes [bag (e.rs.flatMap rgM), bag (outC p { e with oo := ao, oc := cap, ev := e.ev ++ [(k, (a, bx, v))] })] _ _ by (repeat (first | exact Takes.nil | exact Take.head | apply Take.tail | apply Takes.cons)))).pack (fun c hc => by simp at hc; rcases hc with rfl | rfl; exact bag_excl; exact bag_excl))
  refine End.done0'_ ({ e with oo := ao, oc := cap, ev := e.ev ++ [(k, (a, bx, v))] } : BxE) (ht := by exact .cons (.tail (by (repeat (first | exact Take.head | apply Take.tail)))) (.cons (by exact Take.head) .nil)) (hp := ⟨⟨he.at_, he.len, he.ok, he.cap⟩, rfl⟩) (hx := by simp [bxM_excl])
/-- whose doings are told, if any are -/
def KOk (p : BxP) : Option Nat → Prop
  | none => True
  | some k => ∃ ob kbs, p.tr = some (ob, kbs) ∧ k < kbs.length
def toldOf (p : BxP) : Option Nat → Option (FuncId × List Value)
  | none => none
  | some k => some (27, match p.tr with
    | none => []
    | some (ob, kbs) => [ptr ob, ptr (kbs.getD k 0)])
@[reducible] def bxEnv (M : ImgM.Mdl) (p : BxP) (k : Option Nat) (hk : KOk p k) : EnvM where
  μ := BxE
  ν := Vm.Bs
  V := Vm.bxs M k
  abs := BxE.abs
  ok := BxOk M p
  mem := bxM p
  size s := s.log.length
  sPut s b v := Nat.le_succ _
  sTake s b := Nat.le_succ _
  sTell s e := by cases k with
    | none => exact Nat.le_succ _
    | some k => show (s.log ++ [(k, e)]).length ≤ s.log.length + 1; simp
  excl := bxM_excl p
  rc := bxR p
  rexcl := bxR_excl p
  T := 78
  rv := .slice p.bo p.bs.length p.bc
  told := toldOf p k
  boxes := M.boxes.length
  fFull := 104
  fEmpty := 103
  fPut := 105
  fTake := 106
  mFull := finds (ptr := false) (by kernel_rfl) (finds_slice Try.underlying78)
  mEmpty := finds (ptr := false) (by kernel_rfl) (finds_slice Try.underlying78)
  mPut := finds (ptr := false) (by kernel_rfl) (finds_slice Try.underlying78)
  mTake := finds (ptr := false) (by kernel_rfl) (finds_slice Try.underlying78)
  bFull := by kernel_rfl
  bEmpty := by kernel_rfl
  bPut := by kernel_rfl
  bTake := by kernel_rfl
  full e b he hb := bxFull_is M p e k he b hb
  empty e b he hb := bxEmpty_is M p e k he b hb
  put e b v he hb hf _ := bxPut_is M p e k he b hb v hf
  take e b he hb hf := bxTake_is M p e k he b hb hf
  tell := by
    cases k with
    | none => exact fun v x => rfl
    | some k =>
      obtain ⟨ob, kbs, h1, h2⟩ := hk
      refine ⟨by kernel_rfl, fun e a b v he hs => ?_⟩
      have := told_is M p e he ob kbs h1 k h2 a b v hs
      rw [h1]
      exact this
end Go.Proofs.Ytjehflelkpacfaa.Vw

/- == of two places of faults; one's own as a thing that is only read. -/
namespace Go.Proofs.Ytjehflelkpacfaa.Vw
open Go.RowKit Go.Proofs.Ytjehflelkpacfaa.Img
set_option linter.unusedVariables false
set_option linter.unusedSimpArgs false
/-- what is one's own, or is read, as one thing that is only read -/
theorem Mem.toRead {w : World} {pre L F : List Chunk} {c : Chunk} (t : Takes pre L F) (h : Mem w L) (hc : c.holds w) (hx : c.excl = false) (hf : ∀ b, c.foot b → ∃ d ∈ pre, d.foot b) : Mem w (c :: F) :=
  Mem.step (post := [c]) (S := Nil) (h.takes t) (Keeps.refl _ _) (fun b h => False.elim h) (by simpa using hc) (by simp) (fun d hd b hb => by
    simp at hd; subst hd
    obtain ⟨e, e1, e2⟩ := hf b hb
    exact .inl ⟨e, e1, ⟨fun h => absurd h (by rw [hx]; decide), e2⟩⟩)

section
variable {N : Nat} {E : Env} {L : List Chunk} {dst : Option Tmp} {ty : TypeId} {pos : String} {aft : Array Edge} {g : Option (Nat × Bool)}
end
/-- a module of one task, where its unit and its code lie -/
def taskU (cb : Nat) (c : List ImgM.Ins) : UC := ⟨⟨4, 0, [], 0, 0, c⟩, none, 0, some ⟨cb, 0, none⟩, c.length⟩
def taskM (s : Nat × Nat) (c : List ImgM.Ins) : ML := ⟨[], none, 0, [taskU s.1 c], some ⟨s.2, 0, none⟩, 1⟩
theorem taskM_mem {w : World} {L F : List Chunk} (s : Nat × Nat) (c : List ImgM.Ins) (t : Takes [arr (some ⟨s.2, 0, none⟩) 1 1 68 ucell [taskU s.1 c], arr (some ⟨s.1, 0, none⟩) c.length c.length 64 insC c] L F) (h : Mem w L) : Mem w (md (taskM s c) :: F) := by
  have ht := h.takes t
  have a1 := arr_holds.1 (ht.all _ (.head _))
  have a2 := arr_holds.1 (ht.all _ (.tail _ (.head _)))
  refine Mem.toRead t h (md_holds.2 ⟨⟨by simp [taskM], by simp [taskM], none, 0, rfl, Nat.le_refl _, fun h => by simp [taskM] at h⟩, a1.1.row Enc.pos, fun x hx => ?_, fun x hx => ?_⟩) md_excl (fun b hb => ?_)
  · simp [taskM] at hx; subst hx
    exact ⟨by simp [taskU], by simp [taskU], none, 0, rfl, Nat.le_refl _, fun h => by simp [taskU] at h⟩
  · simp [taskM] at hx; subst hx
    exact a2.1.row Enc.pos
  · rw [md_foot] at hb
    rcases hb with ⟨h, h0⟩ | ⟨h, h0⟩ | ⟨x, hx, ⟨h, h0⟩ | ⟨h, h0⟩⟩
    · simp [taskM] at h0
    · exact ⟨_, .head _, arr_foot.2 ⟨h, by decide⟩⟩
    · simp [taskM] at hx; subst hx
      simp [taskU] at h0
    · simp [taskM] at hx; subst hx
      exact ⟨_, .tail _ (.head _), arr_foot.2 ⟨h, h0⟩⟩
theorem taskM_wf (s : Nat × Nat) (c : List ImgM.Ins) (h : ∀ i ∈ c, ImgM.In64 i.op ∧ ImgM.In64 i.a ∧ ImgM.In64 i.n) : (taskM s c).Wf := by
  refine ⟨fun b hb => by simp [taskM] at hb, fun x hx => ?_⟩
  simp [taskM] at hx; subst hx
  exact ⟨by simp [taskU, ImgM.In64], by simp [taskU, ImgM.In64], fun t ht => by simp [taskU] at ht, by simp [taskU, ImgM.In64], by simp [taskU, ImgM.In64], h⟩
end Go.Proofs.Ytjehflelkpacfaa.Vw

/- yieldref9's comparisons, walked: of what is alike; rows of one's own become rows that are only read. (XSol4's, without what is Solo's.) -/
namespace Go.Proofs.Ytjehflelkpacfaa.Vw
open Go.RowKit Go.Proofs.Ytjehflelkpacfaa.Img
set_option linter.unusedVariables false
set_option linter.unusedSimpArgs false
attribute [local irreducible] Run Cod End OpT Still RunQ RunS RunT Fn PutOk
abbrev rdRow (r : Rw) : Chunk := rd r.o r.l.length r.c i64c r.l
set_option maxRecDepth 100000 in
theorem same9_is (a b : Rw) (h : a.l = b.l) : Fn Try.prog 19 #[.slice a.o a.l.length a.c, .slice b.o b.l.length b.c] [rdRow a, rdRow b] [] (σ := Unit) (fun _ => True) (fun _ => .bool true) (fun _ => []) := by
  obtain ⟨ao, ac, l⟩ := a
  obtain ⟨bo, bc, l'⟩ := b
  dsimp only at h ⊢
  subst h
  refine Fn.enter (args := [.slice ao l.length ac, .slice bo l.length bc]) Try.func19 rfl _ Try.ntmps19 rfl (by simp [rd_excl, md_excl]) (fun w S => ?_)
  (try conv => rhs; simp only [List.cons_append, List.nil_append])
  apply Cod.fact (l.length ≤ 9223372036854775807) (fun w hm => (rd_holds.1 (hm.has (c := rd ao l.length ac i64c l) (by (repeat (first | exact Take.head | apply Take.tail))))).1.2.1)
  intro hn
  repeat (first | refine go (k := ?_) | (refine goB (k := ?_); intro b) | (refine goA (k := ?_); intro ao cap))
  refine Cod.only ((fun k => [old w S, rd ao l.length ac i64c l, rd bo l.length bc i64c l]) 0) (by (repeat (first | exact Takes.nil | exact Take.head | apply Take.tail | apply Takes.cons))) ?_
  apply Cod.loop (σ := Nat) (fun k => k ≤ l.length) (fun k => [(0, .slice ao l.length ac), (1, .slice bo l.length bc), (12, .int .i64 (l.length : Int)), (13, .int .i64 (k : Int))]) (fun k => [old w S, rd ao l.length ac i64c l, rd bo l.length bc i64c l]) (fun k => l.length - k) 0
  rotate_left
  exact sb
  exact tks
  intro k hk K1 hK1
  (try conv => rhs; simp only [List.cons_append, List.nil_append])
  rotate_left
  · exact Nat.zero_le _
  by_cases hkn : k < l.length
  · repeat (first | refine go (k := ?_) | (refine goB (k := ?_); intro b) | (refine goA (k := ?_); intro ao cap))
    refine End.round0_ hK1 (k + 1) ?_ ?_
    · omega
    · omega
  · repeat (first | refine go (k := ?_) | (refine goB (k := ?_); intro b) | (refine goA (k := ?_); intro ao cap))
    (refine End.done1_ (()) (he := by (first | exact rfl | (refine congrArg (Value.int _) ?_; omega) | (refine congrArg (Value.int _) ?_; dsimp only; omega))) (hp := ?_))
    trivial
set_option maxRecDepth 100000 in
theorem sameAll_is (f g : FL) (h : f.ws = g.ws) : Fn Try.prog 18 #[f.val, g.val] [fd f, fd g] [] (σ := Unit) (fun _ => True) (fun _ => .bool true) (fun _ => []) := by
  have hl : g.l.length = f.l.length := by have := congrArg List.length h; simpa using this.symm
  have hr : ∀ k, (g.l.getD k default).l = (f.l.getD k default).l := fun k => by rw [← getD_ws, ← getD_ws, ← (show f.l.map (·.l) = g.l.map (·.l) from h)]
  refine Fn.enter (args := [f.val, g.val]) Try.func18 rfl _ Try.ntmps18 rfl (by simp [fd_excl]) (fun w S => ?_)
  (try conv => rhs; simp only [List.cons_append, List.nil_append])
  apply Cod.fact (f.l.length ≤ 9223372036854775807 ∧ ∀ k, k < f.l.length → (f.l.getD k default).l.length ≤ 9223372036854775807) (fun w hm => (fd_holds.1 (hm.has (by (repeat (first | exact Take.head | apply Take.tail))))).small)
  intro hfs
  apply Cod.imp (fun w hm => Mem.fdOut (f := f) (by (repeat (first | exact Take.head | apply Take.tail))) hm)
  apply Cod.imp (fun w hm => Mem.fdOut (f := g) (by (repeat (first | exact Take.head | apply Take.tail))) hm)
  repeat (first | refine go (k := ?_) | (refine goB (k := ?_); intro b) | (refine goA (k := ?_); intro ao cap))
  refine Cod.only ((fun k => [old w S, fd f, fd g, rd f.o f.l.length f.c rwC f.l, rd g.o g.l.length g.c rwC g.l]) 0) (by (repeat (first | exact Takes.nil | exact Take.head | apply Take.tail | apply Takes.cons))) ?_
  apply Cod.loop (σ := Nat) (fun k => k ≤ f.l.length) (fun k => [(0, f.val), (1, g.val), (12, .int .i64 (f.l.length : Int)), (13, .int .i64 (k : Int))]) (fun k => [old w S, fd f, fd g, rd f.o f.l.length f.c rwC f.l, rd g.o g.l.length g.c rwC g.l]) (fun k => f.l.length - k) 0
  rotate_left
  exact sb
  exact tks
  intro k hk K1 hK1
  (try conv => rhs; simp only [List.cons_append, List.nil_append])
  rotate_left
  · exact Nat.zero_le _
  by_cases hkn : k < f.l.length
  · apply Cod.imp (fun w hm => Mem.fdRow (f := f) (k := k) hkn (by (repeat (first | exact Take.head | apply Take.tail))) hm)
    apply Cod.imp (fun w hm => Mem.fdRow (f := g) (k := k) (by omega) (by (repeat (first | exact Take.head | apply Take.tail))) hm)
    repeat (first | refine go (k := ?_) | (refine goB (k := ?_); intro b) | (refine goA (k := ?_); intro ao cap))
    (apply Run.op; exact rfl; refine OpT.call0_ (spec := same9_is (f.l.getD k default) (g.l.getD k default) (hr k).symm) (k := ?_); intro s hs; (try conv => rhs; simp only [List.cons_append, List.nil_append]))
    repeat (first | refine go (k := ?_) | (refine goB (k := ?_); intro b) | (refine goA (k := ?_); intro ao cap))
    refine End.round0_ hK1 (k + 1) ?_ ?_
    · omega
    · omega
  · repeat (first | refine go (k := ?_) | (refine goB (k := ?_); intro b) | (refine goA (k := ?_); intro ao cap))
    (refine End.done1_ (()) (he := by (first | exact rfl | (refine congrArg (Value.int _) ?_; omega) | (refine congrArg (Value.int _) ?_; dsimp only; omega))) (hp := ?_))
    trivial
theorem rd_own {w : World} {L F : List Chunk} {α : Type} {iα : Inhabited α} {ao : Option Addr} {n cap : Nat} {e : TypeId} {f : α → List Value} {ef : Enc f} {l : List α} (t : Takes [arr ao n cap e f l] L F) (h : Mem w L) : Mem w (rd ao n cap f l :: F) := by
  have ht := h.takes t
  have a1 := arr_holds.1 (ht.all _ (.head _))
  exact Mem.toRead t h (rd_holds.2 ⟨a1.1.row Enc.pos, a1.2⟩) rd_excl (fun b hb => ⟨_, .head _, arr_foot.2 ⟨(rd_foot.1 hb).1, Nat.lt_of_lt_of_le (rd_foot.1 hb).2 a1.1.le⟩⟩)
theorem fd_own {w : World} {L F : List Chunk} {f : FL} {t : TypeId} {e : TypeId} (tk : Takes [arr f.o f.l.length f.c e rwC f.l, bag (f.l.map (rowM t))] L F) (h : Mem w L) : Mem w (fd f :: F) := by
  have ht := h.takes tk
  have a1 := arr_holds.1 (ht.all _ (.head _))
  have a2 := bag_holds.1 (ht.all _ (.tail _ (.head _)))
  have hrow : ∀ r ∈ f.l, (rowM t r).holds w := fun r hr => a2.1.all _ (List.mem_map.2 ⟨r, hr, rfl⟩)
  refine Mem.toRead tk h (fd_holds.2 ⟨a1.1.row Enc.pos, fun r hr => (arr_holds.1 (hrow r hr)).1.row Enc.pos⟩) fd_excl (fun b hb => ?_)
  rcases fd_foot.1 hb with ⟨h1, h2⟩ | ⟨r, hr, h1, h2⟩
  · exact ⟨_, .head _, arr_foot.2 ⟨h1, Nat.lt_of_lt_of_le h2 a1.1.le⟩⟩
  · exact ⟨_, .tail _ (.head _), bag_foot.2 ⟨_, List.mem_map.2 ⟨r, hr, rfl⟩, arr_foot.2 ⟨h1, Nat.lt_of_lt_of_le h2 (arr_holds.1 (hrow r hr)).1.le⟩⟩⟩
end Go.Proofs.Ytjehflelkpacfaa.Vw

/- All tasks at work, in memory. -/
namespace Go.Proofs.Ytjehflelkpacfaa.Vw
open Go.RowKit Go.Proofs.Ytjehflelkpacfaa.Img
set_option linter.unusedVariables false
set_option linter.unusedSimpArgs false
/-- a task as it lies in memory, whatever it speaks to -/
structure TkL where
  tb : Nat
  co : Option Addr
  ccap : Nat
  bs : List Nat
  oth : List CoL
  now : Nat
  cur : CoL
  st : Int
  bx : Int
  tr : Int
  oo : Option Addr
  oc : Nat
  out : List Int
instance : Inhabited TkL := ⟨⟨0, none, 0, [], [], 0, default, 0, 0, 0, none, 0, []⟩⟩
abbrev TkL.sl (t : TkL) (E : EnvM) (e : E.μ) : SL E := ⟨t.co, t.ccap, t.bs, t.oth, t.now, t.cur, t.st, t.bx, t.tr, t.oo, t.oc, t.out, e⟩
abbrev SL.lay {E : EnvM} (z : SL E) (tb : Nat) : TkL := ⟨tb, z.co, z.ccap, z.bs, z.oth, z.now, z.cur, z.st, z.bx, z.tr, z.oo, z.oc, z.out⟩
def TkL.all (t : TkL) : List CoL := t.oth.set t.now t.cur
def TkL.tk (t : TkL) : Vm.Tk := ⟨t.all.map CoL.abs, t.now, t.st, t.bx, t.tr, t.out⟩
structure TkL.Wf (t : TkL) : Prop where
  now : t.now < t.oth.length
  len : t.bs.length = t.oth.length
  few : t.oth.length ≤ 31
  at_ : ∀ i, i < t.oth.length → (t.all.getD i default).cb = t.bs.getD i 0
  up : ∀ c ∈ t.all, c.upb = c.up.map fun j => t.bs.getD j 0
  upl : ∀ c ∈ t.all, ∀ j, c.up = some j → j < t.oth.length
  sk : ∀ c ∈ t.all, c.sk.Ok
theorem TkL.Wf.sl {t : TkL} (h : t.Wf) {E : EnvM} {e : E.μ} (he : E.ok e) : (t.sl E e).Wf := ⟨h.now, h.len, h.few, h.at_, h.up, h.upl, h.sk, he⟩
theorem SL.Wf.lay {E : EnvM} {z : SL E} (h : z.Wf) (tb : Nat) : (z.lay tb).Wf := ⟨h.now, h.len, h.few, h.at_, h.up, h.upl, h.sk⟩
/-- a task's chunks, without its module's variable and its boxes -/
abbrev tkC (mb : Nat) (mail told : Value) (t : TkL) : List Chunk := [blk t.tb (tcl mb mail (.slice t.co t.bs.length t.ccap) t.cur.cb t.st t.bx t.tr (.slice t.oo t.out.length t.oc) told) 88, arr t.co t.bs.length t.ccap 86 ptrC t.bs, arr t.oo t.out.length t.oc 2 i64c t.out, bagM (t.oth.eraseIdx t.now), ccM t.cur, frM t.cur, blk t.cur.sk.sb (skC t.cur.sk) 141, arr (some ⟨t.cur.sk.lb, 0, none⟩) t.cur.sk.l.length t.cur.sk.l.length 2 i64c t.cur.sk.l]
theorem tkC_excl (mb : Nat) (mail told : Value) (t : TkL) : ∀ c ∈ tkC mb mail told t, c.excl = true := by simp [blk_excl, arr_excl]
/-- all tasks, each of whom tells what 'told' says of its number -/
def tksL (mb : Nat) (mail : Value) (told : Nat → Value) : Nat → List TkL → List Chunk
  | _, [] => []
  | k, t :: l => tkC mb mail (told k) t ++ tksL mb mail told (k + 1) l
def tksM (mb : Nat) (mail : Value) (told : Nat → Value) (l : List TkL) : Chunk := bag (tksL mb mail told 0 l)
theorem tksM_excl (mb : Nat) (mail : Value) (told : Nat → Value) (l : List TkL) : (tksM mb mail told l).excl = true := bag_excl
theorem tksL_app (mb : Nat) (mail : Value) (told : Nat → Value) : ∀ (k : Nat) (l r : List TkL), tksL mb mail told k (l ++ r) = tksL mb mail told k l ++ tksL mb mail told (k + l.length) r
  | k, [], r => by simp [tksL]
  | k, t :: l, r => by
    simp only [tksL, List.cons_append, List.length_cons]
    rw [tksL_app mb mail told (k + 1) l r, show k + 1 + l.length = k + (l.length + 1) by omega]
    simp
/-- what is left of the tasks' chunks without those of one -/
def tksO (mb : Nat) (mail : Value) (told : Nat → Value) (l : List TkL) (k : Nat) : Chunk := bag (tksL mb mail told 0 (l.take k) ++ tksL mb mail told (k + 1) (l.drop (k + 1)))
theorem tks_split (mb : Nat) (mail : Value) (told : Nat → Value) {l : List TkL} {k : Nat} (hk : k < l.length) : (tksL mb mail told 0 l).Perm (tkC mb mail (told k) (l.getD k default) ++ (tksL mb mail told 0 (l.take k) ++ tksL mb mail told (k + 1) (l.drop (k + 1)))) := by
  have hl : l = l.take k ++ (l.getD k default :: l.drop (k + 1)) := by
    rw [List.getD_eq_getElem?_getD, List.getElem?_eq_getElem hk, Option.getD_some, List.getElem_cons_drop, List.take_append_drop]
  have hn : (l.take k).length = k := by simp; omega
  have e : tksL mb mail told 0 l = tksL mb mail told 0 (l.take k) ++ (tkC mb mail (told k) (l.getD k default) ++ tksL mb mail told (k + 1) (l.drop (k + 1))) := by
    conv => lhs; rw [hl]
    rw [tksL_app, hn, Nat.zero_add, tksL]
  rw [e]
  exact List.perm_append_comm_assoc _ _ _
theorem Mem.tkOut {w : World} {L L' : List Chunk} {mb : Nat} {mail : Value} {told : Nat → Value} {l : List TkL} {k : Nat} (h : Mem w L) (t : Take (tksM mb mail told l) L L') (hk : k < l.length) : Mem w (tkC mb mail (told k) (l.getD k default) ++ (tksO mb mail told l k :: L')) :=
  Mem.bagOut h t (tks_split mb mail told hk)
theorem Mem.tkIn {w : World} {L L' F : List Chunk} {mb : Nat} {mail : Value} {told : Nat → Value} {l : List TkL} {k : Nat} {t : TkL} (h : Mem w L) (tk : Take (tksO mb mail told l k) L L') (t2 : Takes (tkC mb mail (told k) t) L' F) (hk : k < l.length) : Mem w (tksM mb mail told (l.set k t) :: F) := by
  refine Mem.bagIn h tk t2 ?_ (tkC_excl _ _ _ _)
  have := tks_split mb mail told (l := l.set k t) (k := k) (by simpa using hk)
  have e1 : (l.set k t).getD k default = t := by rw [List.getD_eq_getElem?_getD, List.getElem?_set_self hk]; rfl
  rw [e1, List.take_set_of_le (Nat.le_refl _), List.drop_set_of_lt (by omega)] at this
  exact this
/-- a task more, at the end -/
theorem Mem.tkAdd {w : World} {L L' F : List Chunk} {mb : Nat} {mail : Value} {told : Nat → Value} {l : List TkL} {t : TkL} (h : Mem w L) (tk : Take (tksM mb mail told l) L L') (t2 : Takes (tkC mb mail (told l.length) t) L' F) : Mem w (tksM mb mail told (l ++ [t]) :: F) := by
  have h1 := Mem.bagAdd h tk t2 (tkC_excl _ _ _ _)
  have e : tksL mb mail told 0 (l ++ [t]) = tksL mb mail told 0 l ++ tkC mb mail (told l.length) t := by
    rw [tksL_app, Nat.zero_add]; simp [tksL]
  unfold tksM
  rw [e]; exact h1
end Go.Proofs.Ytjehflelkpacfaa.Vw

/- The units that are tasks, walked. (XSol2's, without what is Solo's.) -/
namespace Go.Proofs.Ytjehflelkpacfaa.Vw
open Go.RowKit Go.Proofs.Ytjehflelkpacfaa.Img
set_option linter.unusedVariables false
set_option linter.unusedSimpArgs false
attribute [local irreducible] Run Cod End OpT Still RunQ RunS RunT Fn PutOk
theorem certs_ml {m : ML} (hwf : m.Wf) (hV : Ver.verify m.mdl = .ok) : ∃ T, Vm.Certs m.mdl T := by
  have hF := formed (Ver.verify_iff.1 hV).form
  refine Vm.certs_ok hV (fun k hk => ?_) (fun k hk i hi => ?_)
  · rw [ML.unit_at]; exact hF.good hwf (by simpa using hk)
  · unfold Vm.unt at hi
    rw [ML.unit_at] at hi
    have := (hwf.us _ (ML.uat_mem (m := m) (by simpa using hk))).code i hi
    exact ⟨this.2.2, this.2.1⟩
def isT (m : ML) (k : Nat) : Bool := decide ((m.mdl.units.getD k default).kind = 4)
theorem tasks_eq (m : ML) : Vm.tasks m.mdl = (List.range m.us.length).filter (isT m) := by
  unfold Vm.tasks
  simp only [ML.mdl, List.length_map]
  rfl
theorem tasks_succ (m : ML) (k : Nat) : (List.range (k + 1)).filter (isT m) = (List.range k).filter (isT m) ++ if (m.us.getD k default).u.kind = 4 then [k] else [] := by
  rw [List.range_succ, List.filter_append]
  congr 1
  have e : isT m k = decide ((m.us.getD k default).u.kind = 4) := by unfold isT; rw [ML.unit_at]
  simp only [List.filter_cons, List.filter_nil, e]
  by_cases h : (m.us.getD k default).u.kind = 4 <;> simp only [h, decide_true, decide_false, if_true, if_false, Bool.false_eq_true]
theorem tasks_len (m : ML) (k : Nat) : ((List.range k).filter (isT m)).length ≤ k := by
  have := List.length_filter_le (isT m) (List.range k)
  simpa using this
set_option maxRecDepth 100000 in
theorem tasks_is (mb : Nat) (m : ML) (hu : m.us.length ≤ 1000) : Fn Try.prog 31 #[ptr mb] [md m] [blk mb (mdV m) 25] (σ := Option Addr × Nat) (fun _ => True) (fun s => .slice s.1 (Vm.tasks m.mdl).length s.2) (fun s => [arr s.1 (Vm.tasks m.mdl).length s.2 3 natC (Vm.tasks m.mdl), blk mb (mdV m) 25]) := by
  rw [tasks_eq]
  refine Fn.enter (args := [ptr mb]) Try.func31 rfl _ Try.ntmps31 rfl (by simp [rd_excl, md_excl]) (fun w S => ?_)
  (try conv => rhs; simp only [List.cons_append, List.nil_append])
  repeat (first | refine go (k := ?_) | (refine goB (k := ?_); intro b) | (refine goA (k := ?_); intro ao cap))
  apply Cod.imp (fun w hm => hm.nilArr 3 natC)
  refine Cod.only ((fun z => [old w S, md m, blk mb (mdV m) 25, arr z.2.1 ((List.range z.1).filter (isT m)).length z.2.2 3 natC ((List.range z.1).filter (isT m))]) (0, none, 0)) (by (repeat (first | exact Takes.nil | exact Take.head | apply Take.tail | apply Takes.cons))) ?_
  apply Cod.loop (σ := Nat × Option Addr × Nat) (fun z => z.1 ≤ m.us.length) (fun z => [(0, ptr mb), (3, .slice z.2.1 ((List.range z.1).filter (isT m)).length z.2.2), (9, .slice m.uo m.us.length m.uc), (10, .int .i64 (m.us.length : Int)), (11, .int .i64 (z.1 : Int))]) (fun z => [old w S, md m, blk mb (mdV m) 25, arr z.2.1 ((List.range z.1).filter (isT m)).length z.2.2 3 natC ((List.range z.1).filter (isT m))]) (fun z => m.us.length - z.1) (0, none, 0)
  rotate_left
  exact sb
  exact tks
  intro z hz K1 hK1
  (try conv => rhs; simp only [List.cons_append, List.nil_append])
  rotate_left
  · exact Nat.zero_le _
  obtain ⟨q, ao, ac⟩ := z
  simp only at hz hK1 ⊢
  have htl := tasks_len m q
  by_cases hq : q < m.us.length
  · have hsn := tasks_succ m q
    by_cases h4 : (m.us.getD q default).u.kind = 4
    · rw [if_pos h4] at hsn
      have hsl : ((List.range (q + 1)).filter (isT m)).length = ((List.range q).filter (isT m)).length + 1 := by rw [hsn]; simp
      repeat (first | refine go (k := ?_) | (refine goB (k := ?_); intro b) | (refine goA (k := ?_); intro ao cap))
      rw [← hsn, ← hsl]
      refine End.round0_ hK1 (q + 1, ao, cap) ?_ ?_
      · simp only; omega
      · simp only; omega
    · rw [if_neg h4, List.append_nil] at hsn
      repeat (first | refine go (k := ?_) | (refine goB (k := ?_); intro b) | (refine goA (k := ?_); intro ao cap))
      rw [← hsn]
      refine End.round0_ hK1 (q + 1, ao, ac) ?_ ?_
      · simp only; omega
      · simp only; omega
  · obtain rfl : q = m.us.length := by omega
    repeat (first | refine go (k := ?_) | (refine goB (k := ?_); intro b) | (refine goA (k := ?_); intro ao cap))
    (refine End.done1_ ((ao, ac)) (he := by (first | exact rfl | (refine congrArg (Value.int _) ?_; omega) | (refine congrArg (Value.int _) ?_; dsimp only; omega))) (hp := ?_))
    trivial
end Go.Proofs.Ytjehflelkpacfaa.Vw
