/- Shorter code does the same: a task by itself. Plain Lean. -/
import Derived.Test.YtfeajpghabjaaaaM27
import Derived.Laws.IdiomCopy
namespace Go.Proofs.Ytfeajpghabjaaaa.Vm
open ImgM Ver Opt
set_option linter.unusedVariables false
set_option linter.unusedSimpArgs false
section
variable {M : Mdl} {T : Nat → Int → Option Shape} {ν : Type} {V : Env ν} {K : ν → Prop}
theorem ne_good {r : Tk × ν} (h : Good M T K r) (h1 : r.1.st = 1) : NE r.1 := by
  obtain ⟨h | h | ⟨-, ch, hok⟩, -⟩ := h
  · omega
  · omega
  · obtain ⟨fs0, ws0, q, p, seg, e, -⟩ := hok.top.view
    unfold NE
    rw [e]
    simp
theorem look_nrmS (t : Tk) (e : ν) : look V M (nrm t, e) = look V M (t, e) := by
  by_cases h : t.st ≤ 3
  · have e1 : nrm t = { t with st := 1, bx := 0 } := by unfold nrm; rw [if_pos h]
    rw [e1]
    unfold look
    rw [if_pos (show ({ t with st := 1, bx := 0 } : Tk).st ≤ 3 from (by decide : (1 : Int) ≤ 3)), if_pos h]
    rfl
  · have e1 : nrm t = t := by unfold nrm; rw [if_neg h]
    rw [e1]
theorem step_nx {s : Tk × ν} (hs : look V M s = s) (h : s.1.st = 1) : step V M s = (true, look V M (nxS V M s)) := by
  unfold step
  dsimp only
  rw [hs, if_neg (fun h' => h' h)]
  unfold nxS
  rw [look_nrmS]
theorem go_run (hC : Certs M T) (hV : EnvOk V M K) : ∀ (n : Nat) (s : Tk × ν), nrm s.1 = s.1 → Good M T K (look V M s) → (goN V M n (look V M s)).2.1.st ≠ 1 → Run V M (goN V M n (look V M s)).1 s (goN V M n (look V M s)).2
  | 0, s, hn, hg, h => Run.stop s h
  | n + 1, s, hn, hg, h => by
    by_cases h1 : (look V M s).1.st = 1
    · obtain ⟨hs, h2, -⟩ := look_on hn h1
      have hst := step_nx hs h2
      have hg' := step_good hC hV hg
      rw [hs] at hg' h hg ⊢
      rw [hst] at hg'
      have e : goN V M (n + 1) s = ((goN V M n (look V M (nxS V M s))).1 + 1, (goN V M n (look V M (nxS V M s))).2) := by
        rw [goN, hst]; rfl
      rw [e] at h ⊢
      exact Run.step h1 (ne_good hg h2) (go_run hC hV n (nxS V M s) (nrm_idem _) hg' h)
    · have e : goN V M (n + 1) (look V M s) = (0, look V M s) := by
        rw [goN, step_no V M (by rw [look_look]; exact h1), look_look]; rfl
      rw [e]
      exact Run.stop s h1
theorem run_go {c : Nat} {s r : Tk × ν} (h : Run V M c s r) : nrm s.1 = s.1 → ∀ n, c ≤ n → goN V M n (look V M s) = (c, r) := by
  induction h with
  | stop s h1 =>
    intro hn n hcn
    cases n with
    | zero => rfl
    | succ n => rw [goN, step_no V M (by rw [look_look]; exact h1), look_look]; rfl
  | @step m s r h1 he k ih =>
    intro hn n hcn
    obtain ⟨n', rfl⟩ : ∃ n', n = n' + 1 := ⟨n - 1, by omega⟩
    obtain ⟨hs, h2, -⟩ := look_on hn h1
    have hst := step_nx hs h2
    have h3 := ih (nrm_idem _) n' (by omega)
    rw [hs, goN, hst]
    dsimp only
    rw [if_pos rfl, h3]
end
/-- so many passes -/
def itN : Nat → List Ins → List Ins
  | 0, l => l
  | n + 1, l => itN n (Opt.pass l).1
theorem itN_add : ∀ (a b : Nat) (l : List Ins), itN (a + b) l = itN b (itN a l)
  | 0, b, l => by rw [Nat.zero_add]; rfl
  | a + 1, b, l => by
    rw [show a + 1 + b = (a + b) + 1 by omega]
    exact itN_add a b _
theorem itN_same {l : List Ins} (h : (Opt.pass l).1 = l) : ∀ n, itN n l = l
  | 0 => rfl
  | n + 1 => by
    show itN n (Opt.pass l).1 = l
    rw [h]; exact itN_same h n
theorem codeN_it : ∀ (n : Nat) (l : List Ins), ∃ k, k ≤ n ∧ Opt.codeN n l = itN k l
  | 0, l => ⟨0, Nat.le_refl _, rfl⟩
  | n + 1, l => by
    unfold Opt.codeN
    by_cases h : (Opt.pass l).2 = true
    · rw [if_pos h]
      obtain ⟨k, h1, h2⟩ := codeN_it n (Opt.pass l).1
      exact ⟨k + 1, by omega, h2⟩
    · rw [if_neg h]
      exact ⟨1, by omega, rfl⟩
theorem code_it {M : Mdl} {u : Unt} (h : UOk M u) : itN 4001 u.code = code u.code := by
  have hl := head_len h.head
  obtain ⟨k, h1, h2⟩ := codeN_it (u.code.length + 1) u.code
  have hr : (Opt.pass (code u.code)).2 = false := codeN_rest _ h (by omega)
  have hc : UOk M (Opt.unit u) := h.code
  have hs : (Opt.pass (code u.code)).1 = code u.code := pass_same (u := Opt.unit u) hc.ins hr
  have e : code u.code = itN k u.code := h2
  rw [show 4001 = k + (4001 - k) by omega, itN_add, ← e]
  exact itN_same hs _
def pasN : Nat → Mdl → Mdl
  | 0, M => M
  | n + 1, M => pasN n (pasM M)
theorem pasN_eq : ∀ (n : Nat) (M : Mdl), pasN n M = ⟨M.boxes, M.units.map fun u => withC u (itN n u.code)⟩
  | 0, M => by
    show M = ⟨M.boxes, M.units.map fun u => u⟩
    rw [List.map_id']
  | n + 1, M => by
    show pasN n (pasM M) = _
    rw [pasN_eq n]
    unfold pasM
    simp only [List.map_map]
    rfl
theorem pasN_mdl {M : Mdl} (hU : ∀ k, k < M.units.length → UOk M (unt M k)) : pasN 4001 M = mdl M := by
  rw [pasN_eq]
  unfold mdl
  simp only [Mdl.mk.injEq, true_and]
  refine List.map_congr_left fun u hu => ?_
  obtain ⟨k, hk, rfl⟩ := List.getElem_of_mem hu
  have h := hU k hk
  have e : unt M k = M.units[k] := by
    unfold unt
    rw [List.getD_eq_getElem?_getD, List.getElem?_eq_getElem hk]; rfl
  rw [e] at h
  show withC M.units[k] (itN 4001 M.units[k].code) = withC M.units[k] (code M.units[k].code)
  rw [code_it h]
theorem new_sm (M : Mdl) (u : Nat) : plT M (new M u) = new (pasM M) u := by
  unfold new
  rw [begin_sm]; rfl
theorem new_bd (M : Mdl) (u : Nat) : AllF (fun f => Bd (unt M f.unit).code f.pc) (new M u) := fun c hc f hf => by
  simp only [new, List.mem_singleton] at hc
  subst hc
  simp only [begin, List.mem_singleton] at hf
  subst hf
  exact Bd.zero _
theorem jumps_in {M0 M : Mdl} (hU : ∀ k, k < M.units.length → UOk M0 (unt M k)) : ∀ k, ∀ i ∈ (unt M k).code, isJ i = true → 0 ≤ i.a ∧ i.a < ((unt M k).code.length : Int) := fun k i hi hj => by
  by_cases hk : k < M.units.length
  · exact (instr_ok ((hU k hk).ins i hi)).jump (isJ_iff.1 hj)
  · have e : unt M k = default := by
      unfold unt
      rw [List.getD_eq_getElem?_getD, List.getElem?_eq_none (by omega)]; rfl
    rw [e] at hi
    cases hi
theorem pas_ok {M0 M : Mdl} (hU : ∀ k, k < M.units.length → UOk M0 (unt M k)) : ∀ k, k < (pasM M).units.length → UOk M0 (unt (pasM M) k) := fun k hk => by
  rw [unt_pas]
  exact (hU k (by simpa [pasM] using hk)).pass
/-- SHORTER CODE DOES THE SAME: so many passes -/
theorem sims {ν : Type} {V : Env ν} {M0 : Mdl} : ∀ (n : Nat) (M : Mdl) (u : Nat) (e : ν), (∀ k, k < M.units.length → UOk M0 (unt M k)) → ∀ (c : Nat) (r : Tk × ν), Run V M c (new M u, e) r → Fits r →
    ∃ c' r', c' ≤ c ∧ Run V (pasN n M) c' (new (pasN n M) u, e) r' ∧ r'.2 = r.2 ∧ r'.1.st = r.1.st ∧ r'.1.bx = r.1.bx ∧ r'.1.tr = r.1.tr ∧ r'.1.out = r.1.out
  | 0, M, u, e, hU, c, r, h, hf => ⟨c, r, Nat.le_refl _, h, rfl, rfl, rfl, rfl, rfl⟩
  | n + 1, M, u, e, hU, c, r, h, hf => by
    obtain ⟨c1, g1, g2⟩ := sim (jumps_in hU) c (new M u, e) r h rfl (new_bd M u) hf
    have g3 : Run V (pasM M) c1 (new (pasM M) u, e) (plS M r) := by
      rw [← new_sm]; exact g2
    obtain ⟨c2, r2, k1, k2, k3, k4, k5, k6, k7⟩ := sims n (pasM M) u e (pas_ok hU) c1 (plS M r) g3 hf
    exact ⟨c2, r2, by omega, k2, k3, k4, k5, k6, k7⟩
theorem solo_mdl {M : Mdl} (h : verify M = .ok) (hG : ∀ k, k < M.units.length → Ver.Good M (M.units.getD k default)) (h64 : ∀ k, k < M.units.length → ∀ i ∈ (unt M k).code, In64 i.n ∧ In64 i.a) {F : List (List Int)} (hF : Fed M F) {u : Nat} (hu : u < M.units.length) (hk : (unt M u).kind = 4) (n : Nat)
    (h1 : (solo M u F n).2.1.st ≠ 1) (h4 : (solo M u F n).2.1.tr ≠ 4) :
    (solo (mdl M) u F n).1 ≤ (solo M u F n).1 ∧ (solo (mdl M) u F n).2.2 = (solo M u F n).2.2 ∧ (solo (mdl M) u F n).2.1.st = (solo M u F n).2.1.st ∧ (solo (mdl M) u F n).2.1.bx = (solo M u F n).2.1.bx ∧ (solo (mdl M) u F n).2.1.tr = (solo M u F n).2.1.tr ∧ (solo (mdl M) u F n).2.1.out = (solo M u F n).2.1.out := by
  obtain ⟨T, hC⟩ := certs_ok h hG h64
  have hR := verify_iff.1 h
  have hU : ∀ k, k < M.units.length → UOk M (unt M k) := fun k hk => uok hR hG hk
  have hg : Good M T (LsK M F) (new M u, Ls.new F.length) := ⟨.inr (.inr ⟨show (1 : Int) ≤ 3 by decide, [0], new_ok hC hu hk⟩), new_K M F hF⟩
  have hrun := go_run hC (lists_ok hF) n (new M u, Ls.new F.length) rfl (look_good hg) h1
  have hle := goN_le (V := lists F) (M := M) n (look (lists F) M (new M u, Ls.new F.length))
  have e0 : solo M u F n = goN (lists F) M n (look (lists F) M (new M u, Ls.new F.length)) := rfl
  rw [← e0] at hrun hle
  obtain ⟨c', r', k1, k2, k3, k4, k5, k6, k7⟩ := sims 4001 M u (Ls.new F.length) hU _ _ hrun (fun hh => h4 hh.2)
  rw [pasN_mdl hU] at k2
  have hgo := run_go k2 rfl n (by omega)
  have e1 : solo (mdl M) u F n = (c', r') := hgo
  rw [e1]
  exact ⟨k1, k3, k4, k5, k6, k7⟩
theorem tasks_mdl (M : Mdl) : tasks (mdl M) = tasks M := by
  unfold tasks
  rw [mdl_len]
  refine List.filter_congr fun k hk => ?_
  have hk := List.mem_range.1 hk
  have e : (mdl M).units.getD k default = Opt.unit (M.units.getD k default) := by
    show (M.units.map Opt.unit).getD k default = _
    rw [List.getD_eq_getElem?_getD, List.getElem?_map, List.getD_eq_getElem?_getD, List.getElem?_eq_getElem hk]; rfl
  rw [e]; rfl
theorem err_mdl {M : Mdl} (h : verify M = .ok) (hG : ∀ k, k < M.units.length → Ver.Good M (M.units.getD k default)) (task : Int) (F : List (List Int)) (most : Int) : soloErr (mdl M) task F most = soloErr M task F most := by
  have h2 := verify_opt h hG
  unfold soloErr
  rw [h, h2, tasks_mdl]
  rfl
end Go.Proofs.Ytfeajpghabjaaaa.Vm

/- Rules for walks: a method called through an interface value; a function value against nil. Of whatever program. -/
namespace Go.Proofs.Ytfeajpghabjaaaa
open Go
set_option linter.unusedVariables false
set_option linter.unusedSimpArgs false
set_option linter.unusedSectionVars false
section
variable {P : Program} {Q : Exit → Act → World → Prop} {N : Nat} {E : Env} {L L' : List Chunk}
variable {dst : Option Tmp} {ty : TypeId} {pos : String} {aft : Array Edge} {g : Option (Nat × Bool)}
/-- what a type's method of a name is: function f, handed the value as it is -/
def Finds (P : Program) (T : TypeId) (rv : Value) (name : String) (f : FuncId) : Prop := ∀ w, (method (P.types.size + Made.depth) T rv name).run P w = .ok (f, rv) w
theorem OpT.callM {σ : Type} {x : Operand} {name : String} {args : List Operand} {tys : Array TypeId} {T : TypeId} {rv : Value} {f : FuncId} {vs : List Value}
    {R pre F : List Chunk} {post : σ → Prop} {val : σ → Value} {mem : σ → List Chunk} {C : Env → List Chunk → Prop}
    (hx : ev E x = some (.iface T rv)) (hv : Evs E args vs) (hm : Finds P T rv name f) (hc : callB P f = true) (hd : fitsB N dst = true)
    (spec : Fn P f (rv :: vs).toArray R pre post val mem) (t : Takes pre L F) (r : ∀ w, Reads w R F) (k : ∀ s, post s → C (upd dst (val s) E) (mem s ++ F)) :
    OpT P Q N ⟨dst, .call ⟨.invoke x name, args.toArray, tys⟩, ty, pos, aft, g⟩ E L C := by
  intro K hK a w hs hM
  have hr : (execOp a.eval ⟨dst, .call ⟨.invoke x name, args.toArray, tys⟩, ty, pos, aft, g⟩).run P w = .ok (.enter f (rv :: vs).toArray) w := by
    have e : args.toArray.map a.eval = vs.toArray := by rw [← hs.evs hv]; simp
    have e2 : #[Value.iface T rv] ++ vs.toArray = (Value.iface T rv :: vs).toArray := by simp
    have e3 : (Value.iface T rv :: vs).toArray.extract 1 (Value.iface T rv :: vs).toArray.size = vs.toArray := by simp
    have e4 : (Value.iface T rv :: vs).toArray[0]? = some (Value.iface T rv) := by simp
    have hm' := hm w
    simp only [execOp, resolve, hs.ev hx, e, e2, Sem.run_bind, Sem.run_pure, Result.andThen_ok, invoke, e4, e3, callMethod, run_program, hm']
    rw [run_callFunc hc]
    simp
  unfold Oper.wp
  rw [hr, Oper.upon_enter]
  refine (spec w ((hM.takes t).reads (r w))).mono ?_
  rintro e w' ⟨s, hp, rfl, hx, hm'⟩
  exact hK _ _ (k s hp) _ _ (hs.put _ hd) ((hM.takes t).frame hm' hx)
theorem Still.mkIface {xT t : TypeId} {x : Operand} {v : Value} {s b : Nat} {z : List Value} {e : TypeId} [Tabbed P] (hx : ev E x = some v) (ht : tyOf P xT = some ⟨.pointer e, s, b, z⟩) :
    Still P N ⟨dst, .makeInterface xT x, ty, pos, aft, g⟩ E L (.iface xT v) := fun A w hs _ => by
  have := (tyOk ht).pointer
  simp [execOp, hs.ev hx, Instr.makeInterface, run_underlying this]
theorem OpT.callM_ {σ : Type} {x : Operand} {name : String} {args : List Operand} {tys : Array TypeId} {T : TypeId} {rv : Value} {f : FuncId} {vs : List Value}
    {R pre F : List Chunk} {post : σ → Prop} {val : σ → Value} {mem : σ → List Chunk} {C : Env → List Chunk → Prop}
    (hm : Finds P T rv name f) (hc : callB P f = true) (spec : Fn P f (rv :: vs).toArray R pre post val mem) 
    (hx : ev E x = some (.iface T rv) := by exact rfl) (hv : Evs E args vs := by exact evz) (hd : fitsB N dst = true := by exact rfl)
    (t : Takes pre L F := by exact tks) (r : ∀ w, Reads w R F := by intro w; exact rds) (k : ∀ s, post s → C (upd dst (val s) E) (mem s ++ F)) :
    OpT P Q N ⟨dst, .call ⟨.invoke x name, args.toArray, tys⟩, ty, pos, aft, g⟩ E L C := OpT.callM hx hv hm hc hd spec t r k
end
end Go.Proofs.Ytfeajpghabjaaaa

/- Rows of words: a slice of slices, only read or one's own; a type's method found by its name. Of whatever program. -/
namespace Go.Proofs.Ytfeajpghabjaaaa
open Go
set_option linter.unusedVariables false
set_option linter.unusedSimpArgs false
set_option linter.unusedSectionVars false
/-- a row of words, and where it lies -/
structure Rw where
  o : Option Addr
  c : Nat
  l : List Int
instance : Inhabited Rw := ⟨⟨none, 0, []⟩⟩
def rwC (r : Rw) : List Value := [.slice r.o r.l.length r.c]
instance : Enc rwC := ⟨fun _ => rfl, by decide, fun a u hu => by simp [rwC] at hu; subst hu; rfl⟩
def natC (n : Nat) : List Value := [.int .i64 (n : Int)]
instance : Enc natC := ⟨fun _ => rfl, by decide, fun a u hu => by simp [natC] at hu; subst hu; rfl⟩
/-- rows, and where their heads lie -/
structure FL where
  o : Option Addr
  c : Nat
  l : List Rw
instance : Inhabited FL := ⟨⟨none, 0, []⟩⟩
abbrev FL.val (f : FL) : Value := .slice f.o f.l.length f.c
abbrev FL.ws (f : FL) : List (List Int) := f.l.map (·.l)
theorem getD_ws (l : List Rw) (k : Nat) : (l.map (·.l)).getD k [] = (l.getD k default).l := by
  simp only [List.getD_eq_getElem?_getD, List.getElem?_map]
  cases l[k]? <;> rfl
structure FdAt (w : World) (f : FL) : Prop where
  out : Row w (.slice f.o f.l.length f.c) (sz rwC) f.l.length (f.l.flatMap rwC)
  row : ∀ r ∈ f.l, Row w (.slice r.o r.l.length r.c) (sz i64c) r.l.length (r.l.flatMap i64c)
def FdFoot (f : FL) (k : Nat) : Prop :=
  ((Value.slice f.o f.l.length f.c).ownBlock = some k ∧ 0 < f.l.length) ∨ ∃ r ∈ f.l, (Value.slice r.o r.l.length r.c).ownBlock = some k ∧ 0 < r.l.length
theorem FdAt.keep {w w' : World} {f : FL} (h : FdAt w f) {S : Nat → Prop} (k : Keeps S w w') (hs : ∀ b, FdFoot f b → ¬ S b) : FdAt w' f :=
  ⟨h.out.keep'' Enc.pos k (fun b h1 h2 => hs b (.inl ⟨h1, h2⟩)), fun r hr => (h.row r hr).keep'' Enc.pos k (fun b h1 h2 => hs b (.inr ⟨r, hr, h1, h2⟩))⟩
theorem FdAt.lt {w : World} {f : FL} (h : FdAt w f) : ∀ b, FdFoot f b → b < w.heap.size := by
  rintro b (⟨h1, h2⟩ | ⟨r, hr, h1, h2⟩)
  · exact h.out.lt' Enc.pos h2 b h1
  · exact (h.row r hr).lt' Enc.pos h2 b h1
/-- rows that are only read -/
@[irreducible] def fd (f : FL) : Chunk where
  holds w := FdAt w f
  foot := FdFoot f
  excl := false
  stab k hs h := h.keep k hs
  lt h := h.lt
theorem fd_holds {w : World} {f : FL} : (fd f).holds w ↔ FdAt w f := by unfold fd; exact Iff.rfl
theorem fd_foot {f : FL} {k : Nat} : (fd f).foot k ↔ FdFoot f k := by unfold fd; exact Iff.rfl
theorem fd_excl {f : FL} : (fd f).excl = false := by unfold fd; rfl
theorem rw_mem {l : List Rw} {k : Nat} (hk : k < l.length) : l.getD k default ∈ l := by
  rw [List.getD_eq_getElem?_getD, List.getElem?_eq_getElem hk]; exact List.getElem_mem hk
theorem FdAt.small {w : World} {f : FL} (h : FdAt w f) : f.l.length ≤ 9223372036854775807 ∧ ∀ k, k < f.l.length → (f.l.getD k default).l.length ≤ 9223372036854775807 :=
  ⟨h.out.2.1, fun k hk => (h.row _ (rw_mem hk)).2.1⟩
section
variable {f : FL} {L L' : List Chunk} {w : World}
theorem Mem.fdOut (t : Take (fd f) L L') (h : Mem w L) : Mem w (rd f.o f.l.length f.c rwC f.l :: L) :=
  h.dup t rd_excl (rd_holds.2 ⟨(fd_holds.1 (h.has t)).out, rfl⟩) (fun b hb => fd_foot.2 (.inl (rd_foot.1 hb))) fd_excl
theorem Mem.fdRow {k : Nat} (hk : k < f.l.length) (t : Take (fd f) L L') (h : Mem w L) : Mem w (rd (f.l.getD k default).o (f.l.getD k default).l.length (f.l.getD k default).c i64c (f.l.getD k default).l :: L) :=
  h.dup t rd_excl (rd_holds.2 ⟨(fd_holds.1 (h.has t)).row _ (rw_mem hk), rfl⟩) (fun b hb => fd_foot.2 (.inr ⟨_, rw_mem hk, rd_foot.1 hb⟩)) fd_excl
end
/-- a row of one's own -/
abbrev rowM (t : TypeId) (r : Rw) : Chunk := arr r.o r.l.length r.c t i64c r.l
theorem row_perm (t : TypeId) (s u : List Rw) (r : Rw) : ((s ++ r :: u).map (rowM t)).Perm (rowM t r :: (s ++ u).map (rowM t)) := by
  simp only [List.map_append, List.map_cons]
  exact List.perm_middle
theorem Mem.rowOut {w : World} {L L' : List Chunk} {t : TypeId} {s u : List Rw} {r : Rw} (h : Mem w L) (tk : Take (bag ((s ++ r :: u).map (rowM t))) L L') : Mem w (rowM t r :: bag ((s ++ u).map (rowM t)) :: L') :=
  Mem.bagOut (ds := [rowM t r]) h tk (row_perm t s u r)
theorem Mem.rowIn {w : World} {L L' F : List Chunk} {t : TypeId} {s u : List Rw} {r : Rw} (h : Mem w L) (tk : Take (bag ((s ++ u).map (rowM t))) L L') (t2 : Takes [rowM t r] L' F) : Mem w (bag ((s ++ r :: u).map (rowM t)) :: F) :=
  Mem.bagIn (ds := [rowM t r]) h tk t2 (row_perm t s u r) (fun c hc => by simp at hc; subst hc; exact arr_excl)
theorem split_at {α : Type} [Inhabited α] {l : List α} {k : Nat} (h : k < l.length) : ∃ s u, l = s ++ l.getD k default :: u ∧ s.length = k := by
  refine ⟨l.take k, l.drop (k + 1), ?_, by simp; omega⟩
  rw [List.getD_eq_getElem?_getD, List.getElem?_eq_getElem h, Option.getD_some, List.getElem_cons_drop, List.take_append_drop]
theorem set_split {α : Type} (s u : List α) (a b : α) : (s ++ a :: u).set s.length b = s ++ b :: u := by
  rw [List.set_append_right _ _ (Nat.le_refl _), Nat.sub_self]; rfl
theorem getD_split {α : Type} [Inhabited α] (s u : List α) (a : α) : (s ++ a :: u).getD s.length default = a := by
  simp [List.getD_eq_getElem?_getD]
section
variable {P : Program} {T : TypeId} {rv : Value} {name : String} {f : FuncId}
/-- a method that a type has of its own -/
theorem finds {ptr : Bool} (hm : ((P.info? T).bind (fun i => i.methods.find? (·.name == name))).map (fun m => (m.path.toList, m.func)) = some ([], some (f, ptr)))
    (hr : ∀ w o, (receiverAt T (.val rv) ptr o).run P w = .ok rv w) : Finds P T rv name f := by
  intro w
  have hd : 0 < Made.depth := by decide
  obtain ⟨k, hk⟩ : ∃ k, P.types.size + Made.depth = k + 1 := ⟨P.types.size + (Made.depth - 1), by omega⟩
  rw [hk]
  cases hi : P.info? T with
  | none => rw [hi] at hm; cases hm
  | some i =>
    rw [hi] at hm
    simp only [Option.bind_some] at hm
    cases hj : i.methods.find? (·.name == name) with
    | none => rw [hj] at hm; cases hm
    | some m =>
      rw [hj] at hm
      simp only [Option.map_some, Option.some.injEq, Prod.mk.injEq] at hm
      unfold method
      rw [Sem.run_bind, run_typeInfo w hi, Result.andThen_ok]
      simp only [hj, hm.1, hm.2]
      simp [follow, hr]
theorem finds_ptr {e : TypeId} (hu : P.underlying T = some (.pointer e)) (w : World) (o : Option String) : (receiverAt T (.val rv) true o).run P w = .ok rv w := by
  unfold receiverAt
  rw [Sem.run_bind, run_underlying hu w, Result.andThen_ok]
  rfl
end
end Go.Proofs.Ytfeajpghabjaaaa

/- copy(dst, src) of 64-bit numbers, into a slice of the call's own. Of whatever program. -/
namespace Go.Proofs.Ytfeajpghabjaaaa
open Go Go.RowKit
set_option linter.unusedVariables false
set_option linter.unusedSectionVars false
section
variable {P : Program} [Tabbed P] {Q : Exit → Act → World → Prop} {N : Nat} {E : Env} {L L' : List Chunk}
variable {dst : Option Tmp} {ty : TypeId} {pos : String} {aft : Array Edge} {g : Option (Nat × Bool)}
theorem OpT.copyZ {t e : TypeId} {x y : Operand} {ao xo : Option Addr} {n cap m c s' b' s2 b2 : Nat} {d2 : TyD} {z' z2 : List Value} {l l2 : List Int} {C : Env → List Chunk → Prop}
    (hx : ev E x = some (.slice ao n cap)) (hy : ev E y = some (.slice xo m c)) (ht : tyOf P t = some ⟨.slice e, s', b', z'⟩) (he : tyOf P e = some ⟨d2, s2, b2, z2⟩) (hs2 : s2 = 1) (hm : Take (arr ao n cap e i64c l) L L') (hr : Rdb L' xo m c i64c l2) (hmn : m ≤ n) (hd : fitsB N dst = true)
    (k : C (upd dst (.int .i64 (m : Int)) E) (arr ao n cap e i64c (l2 ++ l.drop m) :: L')) : OpT P Q N ⟨dst, .call ⟨.builtin .copy, #[x, y], #[t, t]⟩, ty, pos, aft, g⟩ E L C := fun K hK A w hS hM => by
  have hM' := hM.take hm
  obtain ⟨hown, hln⟩ := arr_holds.1 (hM.has hm)
  obtain ⟨hrow, hl2⟩ := hr w (hM'.sub (List.sublist_cons_self _ _))
  obtain ⟨xi, z, h3, h4, -⟩ := (tyOk he).info
  have hi : (P.info? e).map (·.size) = some 1 := by rw [h3]; simp [h4, hs2]
  have hmx := hrow.2.1
  subst hs2
  by_cases h0 : m = 0
  · subst h0
    have hrun := run_copy_none (P := P) w t t ty e ao xo n cap 0 c (tyOk ht).slice hi (by simp)
    obtain rfl : l2 = [] := List.eq_nil_of_length_eq_zero hl2
    unfold Oper.wp
    have hr' : (execOp A.eval ⟨dst, .call ⟨.builtin .copy, #[x, y], #[t, t]⟩, ty, pos, aft, g⟩).run P w = .ok (.value (goInt 0)) w := by
      simp only [execOp, resolve, invoke, builtin, Sem.run_bind, Sem.run_pure, Result.andThen_ok, List.map_toArray, List.map_cons, List.map_nil, hS.ev hx, hS.ev hy, hrun]
    rw [hr']
    refine hK _ _ k _ _ (hS.put _ hd) ?_
    simpa using hM'
  · have hcap0 : 0 < cap := by have := hown.le; omega
    have hown1 := hown.own hcap0
    obtain ⟨q1, ao', cap', q2, q3, q4, q5, q6⟩ := id hown1
    simp only [Value.slice.injEq] at q2
    obtain ⟨rfl, -, rfl⟩ := q2
    cases ao with
    | none => exact absurd (q5 rfl) (by omega)
    | some ad =>
    obtain ⟨sp, -, cur, q8, q9, q10⟩ := q6 _ rfl
    obtain ⟨gb, o, sq⟩ := ad
    simp only at sp q8 q9 q10
    subst sp
    obtain ⟨-, -, xo', c', p2, p3, p4⟩ := hrow
    simp only [Value.slice.injEq] at p2
    obtain ⟨rfl, -, rfl⟩ := p2
    obtain ⟨sb, so, rfl, p5⟩ := p4 (by omega)
    have hcs : (l2.flatMap i64c).length = m := by rw [flatMap_len]; simp [hl2, sz, i64c]
    have hsz : sz i64c = 1 := rfl
    rw [hsz] at q9 q10 p5
    simp only [Nat.mul_one] at q9 q10 p5
    have hrun := run_copy_cells (P := P) w t t ty e gb o n cap ⟨sb, so, none⟩ m c (l2.flatMap i64c) (tyOk ht).slice hi (by rw [hcs]; exact (Nat.min_eq_left hmn).symm)
      (fun j v hj => by
        have hjl := (List.getElem?_eq_some_iff.1 hj).1
        rw [Addr.add_lit', p5 j (by omega)]
        exact hj)
      (fun j hj => by rw [hcs] at hj; rw [q8.cell]; have : o + j < cur.size := Nat.lt_of_lt_of_le (by omega) q9; simp [this]) (fun j hj => q8.free _) (fun v hv => one_all i64c l2 v hv)
    unfold Oper.wp
    have hr' : (execOp A.eval ⟨dst, .call ⟨.builtin .copy, #[x, y], #[t, t]⟩, ty, pos, aft, g⟩).run P w = .ok (.value (goInt (l2.flatMap i64c).length)) (w.setCells gb o (l2.flatMap i64c)) := by
      simp only [execOp, resolve, invoke, builtin, Sem.run_bind, Sem.run_pure, Result.andThen_ok, List.map_toArray, List.map_cons, List.map_nil, hS.ev hx, hS.ev hy, hrun]
    rw [hr', hcs]
    have hb2 := q8.setCells (l2.flatMap i64c) o (by omega)
    refine hK _ _ k _ _ (hS.put _ hd) (hM'.turn (Keeps.setCells (S := fun c => c = gb) _ _ (Keeps.refl _ _) (fun _ => rfl)) arr_excl (fun c hc _ => arr_foot.2 ⟨by rw [hc]; rfl, hcap0⟩) (arr_holds.2 ⟨Own0.of ?_, by simp; omega⟩) (fun c hc => .inl (arr_foot.2 (arr_foot.1 hc))))
    refine ⟨by rw [flatMap_len, List.length_append, List.length_drop, hl2, hln]; congr 1; omega, _, cap, rfl, q3, q4, (fun h => by cases h), fun ad had => ?_⟩
    cases had
    refine ⟨rfl, Nat.zero_le _, _, hb2, ?_, ?_⟩
    · simp only [List.size_toArray, List.length_append, List.length_take, List.length_drop, Array.length_toList, hsz, hcs]
      omega
    · simp only [hsz, Nat.mul_one]
      rw [List.flatMap_append]
      have e1 : (l.drop m).flatMap i64c = ((cur.toList.drop o).take n).drop m := by
        rw [q10]
        have := flatMap_drop (f := i64c) l m
        rw [← this, hsz, Nat.mul_one]
      rw [e1]
      have hcl : o ≤ cur.toList.length := by simp; omega
      rw [List.append_assoc]
      rw [show List.drop o (cur.toList.take o ++ (l2.flatMap i64c ++ cur.toList.drop (o + (l2.flatMap i64c).length))) = l2.flatMap i64c ++ cur.toList.drop (o + (l2.flatMap i64c).length) by
        rw [List.drop_append_of_le_length (by simp; omega), List.drop_of_length_le (by simp; omega)]; rfl]
      rw [List.take_append, hcs, List.take_of_length_le (by omega)]
      congr 1
      rw [List.drop_take, List.drop_drop]
theorem OpT.copyZ_ {t e : TypeId} {x y : Operand} {ao xo : Option Addr} {n cap m c s' b' s2 b2 : Nat} {d2 : TyD} {z' z2 : List Value} {l l2 : List Int} {C : Env → List Chunk → Prop}
    (hx : ev E x = some (.slice ao n cap) := by exact rfl) (hy : ev E y = some (.slice xo m c) := by exact rfl) (ht : tyOf P t = some ⟨.slice e, s', b', z'⟩ := by exact rfl) (he : tyOf P e = some ⟨d2, s2, b2, z2⟩ := by exact rfl) (hs2 : s2 = 1 := by exact rfl) (hm : Take (arr ao n cap e i64c l) L L' := by ((repeat (first | exact Take.head | apply Take.tail)); first | done | fail)) (hr : Rdb L' xo m c i64c l2 := by (first | (apply Rdb.arr; focus ((repeat (first | exact Take.head | apply Take.tail)); done)) | (apply Rdb.rd; focus ((repeat (first | exact Take.head | apply Take.tail)); done)) | (apply Rdb.md_units; focus ((repeat (first | exact Take.head | apply Take.tail)); done)) | (apply Rdb.md_boxes; focus ((repeat (first | exact Take.head | apply Take.tail)); done)) | (apply Rdb.md_code; (focus ((repeat (first | exact Take.head | apply Take.tail)); done)); (focus (first | assumption | omega))) | (apply Rdb.md_locals; (focus ((repeat (first | exact Take.head | apply Take.tail)); done)); (focus (first | assumption | omega))) | (apply Rdb.old; (focus assumption); (focus ((repeat (first | exact Take.head | apply Take.tail)); done))))) (hmn : m ≤ n := by omega) (hd : fitsB N dst = true := by exact rfl)
    (k : C (upd dst (.int .i64 (m : Int)) E) (arr ao n cap e i64c (l2 ++ l.drop m) :: L')) : OpT P Q N ⟨dst, .call ⟨.builtin .copy, #[x, y], #[t, t]⟩, ty, pos, aft, g⟩ E L C := OpT.copyZ hx hy ht he hs2 hm hr hmn hd k
section
variable {α : Type} {iα : Inhabited α} {ao : Option Addr} {n cap : Nat} {e : TypeId} {f : α → List Value} {ef : Enc f} {l : List α}
/-- a slice of what stands, cut: what is told of it as long as that stands -/
theorem OpT.cutV {t : TypeId} {s' b' s2 b2 lo hi : Nat} {d2 : TyD} {z' z2 : List Value} {x : Operand} {ol oh : Option Operand} {C : Env → List Chunk → Prop} (hx : ev E x = some (.slice ao n cap)) (ht : tyOf P t = some ⟨.slice e, s', b', z'⟩) (he : tyOf P e = some ⟨d2, s2, b2, z2⟩)
    (hr : Rdb L ao n cap f l) (hs2 : s2 = sz f) (hb : Bnd E n ol oh lo hi) (h1 : lo ≤ hi) (h2 : hi ≤ n) (hd : fitsB N dst = true)
    (k : ∀ ao' cap', (∀ L'' : List Chunk, Rdb L'' ao n cap f l → Rdb L'' ao' (hi - lo) cap' f ((l.take hi).drop lo)) → C (upd dst (.slice ao' (hi - lo) cap') E) L) : OpT P Q N ⟨dst, .slice t x ol oh none, ty, pos, aft, g⟩ E L C := fun K hK A w hS hM => by
  obtain ⟨hrow, hln⟩ := hr w hM
  have hcap : n ≤ cap := by
    obtain ⟨-, -, ao', cap', g2, g3, -⟩ := hrow
    simp only [Value.slice.injEq] at g2
    obtain ⟨-, -, rfl⟩ := g2
    exact g3
  unfold Oper.wp
  rw [run_cut hS hx ht he hb h1 (by omega) w]
  subst hs2
  exact hK _ _ (k _ _ (fun L'' hr' w' hM' => ⟨Row.sub (hr' w' hM').1 (hr' w' hM').2 h1 h2, by simp; omega⟩)) _ _ (hS.put _ hd) hM
end
theorem Still.imin {x y : Operand} {k : IntKind} {a b z : Int} {tt : TypeId} (hx : ev E x = some (.int k a)) (hy : ev E y = some (.int k b)) (hz : (if b < a then b else a) = z) : Still P N ⟨dst, .call ⟨.builtin .min, #[x, y], #[tt, tt]⟩, ty, pos, aft, g⟩ E L (.int k z) := fun A w hs _ => by
  subst hz
  simp [execOp, resolve, invoke, builtin, hs.ev hx, hs.ev hy, Builtin.min_, Builtin.min2]
theorem Still.imax {x y : Operand} {k : IntKind} {a b z : Int} {tt : TypeId} (hx : ev E x = some (.int k a)) (hy : ev E y = some (.int k b)) (hz : (if a < b then b else a) = z) : Still P N ⟨dst, .call ⟨.builtin .max, #[x, y], #[tt, tt]⟩, ty, pos, aft, g⟩ E L (.int k z) := fun A w hs _ => by
  subst hz
  simp [execOp, resolve, invoke, builtin, hs.ev hx, hs.ev hy, Builtin.max_, Builtin.max2]
theorem OpT.cutV_ {α : Type} {iα : Inhabited α} {ao : Option Addr} {n cap : Nat} {e : TypeId} {f : α → List Value} {ef : Enc f} {l : List α} {t : TypeId} {s' b' s2 b2 lo hi : Nat} {d2 : TyD} {z' z2 : List Value} {x : Operand} {ol oh : Option Operand} {C : Env → List Chunk → Prop} (hx : ev E x = some (.slice ao n cap) := by exact rfl) (ht : tyOf P t = some ⟨.slice e, s', b', z'⟩ := by exact rfl) (he : tyOf P e = some ⟨d2, s2, b2, z2⟩ := by exact rfl)
    (hr : Rdb L ao n cap f l := by (first | (apply Rdb.arr; focus ((repeat (first | exact Take.head | apply Take.tail)); done)) | (apply Rdb.rd; focus ((repeat (first | exact Take.head | apply Take.tail)); done)) | (apply Rdb.md_units; focus ((repeat (first | exact Take.head | apply Take.tail)); done)) | (apply Rdb.md_boxes; focus ((repeat (first | exact Take.head | apply Take.tail)); done)) | (apply Rdb.md_code; (focus ((repeat (first | exact Take.head | apply Take.tail)); done)); (focus (first | assumption | omega))) | (apply Rdb.md_locals; (focus ((repeat (first | exact Take.head | apply Take.tail)); done)); (focus (first | assumption | omega))) | (apply Rdb.old; (focus assumption); (focus ((repeat (first | exact Take.head | apply Take.tail)); done))))) (hs2 : s2 = sz f := by exact rfl) (hb : Bnd E n ol oh lo hi := by (first | exact Bnd.all | (apply Bnd.lo; exact rfl; (first | exact ix_succ _ | exact (rfl : (0 : Int) = ((0 : Nat) : Int)) | exact rfl | (refine (Int.toNat_of_nonneg ?_).symm; omega))) | (apply Bnd.hi; exact rfl; (first | exact ix_succ _ | exact (rfl : (0 : Int) = ((0 : Nat) : Int)) | exact rfl | (refine (Int.toNat_of_nonneg ?_).symm; omega))) | (apply Bnd.both; exact rfl; (first | exact ix_succ _ | exact (rfl : (0 : Int) = ((0 : Nat) : Int)) | exact rfl | (refine (Int.toNat_of_nonneg ?_).symm; omega)); exact rfl; (first | exact ix_succ _ | exact (rfl : (0 : Int) = ((0 : Nat) : Int)) | exact rfl | (refine (Int.toNat_of_nonneg ?_).symm; omega))))) (h1 : lo ≤ hi := by omega) (h2 : hi ≤ n := by omega) (hd : fitsB N dst = true := by exact rfl)
    (k : ∀ ao' cap', (∀ L'' : List Chunk, Rdb L'' ao n cap f l → Rdb L'' ao' (hi - lo) cap' f ((l.take hi).drop lo)) → C (upd dst (.slice ao' (hi - lo) cap') E) L) : OpT P Q N ⟨dst, .slice t x ol oh none, ty, pos, aft, g⟩ E L C := OpT.cutV hx ht he hr hs2 hb h1 h2 hd k
end
end Go.Proofs.Ytfeajpghabjaaaa

/- Package stacks, walked by the new rules, for a stack of the virtual machine: room for 8 words at least, for 400 at most. -/
namespace Go.Proofs.Ytfeajpghabjaaaa.Vw
open Go.RowKit Go.Proofs.Ytfeajpghabjaaaa.Img
set_option linter.unusedVariables false
set_option linter.unusedSimpArgs false
attribute [local irreducible] Run Cod End OpT Still RunQ RunS RunT Fn PutOk
/-- a stack: its block, its row's block, the row, how many of it are words -/
structure Sk where
  sb : Nat
  lb : Nat
  l : List Int
  live : Nat
instance : Inhabited Sk := ⟨⟨0, 0, [], 0⟩⟩
structure Sk.Ok (k : Sk) : Prop where
  live : k.live ≤ k.l.length
  lo : 8 ≤ k.l.length
  hi : k.l.length ≤ 400
abbrev Sk.ws (k : Sk) : List Int := k.l.take k.live
abbrev skC (k : Sk) : List Value := [.slice (some ⟨k.lb, 0, none⟩) k.l.length k.l.length, .int .i64 (k.live : Int), .int .i64 8, .int .i64 400]
abbrev skM (k : Sk) : List Chunk := [blk k.sb (skC k) 151, arr (some ⟨k.lb, 0, none⟩) k.l.length k.l.length 2 i64c k.l]
set_option maxRecDepth 100000 in
theorem live_is (k : Sk) : Fn Try.prog 88 #[ptr k.sb] [] (skM k) (σ := Unit) (fun _ => True) (fun _ => .int .i64 (k.live : Int)) (fun _ => skM k) := by
  refine Fn.enter (args := [ptr k.sb]) Try.func88 rfl _ Try.ntmps88 rfl (by simp [rd_excl, md_excl]) (fun w S => ?_)
  (try conv => rhs; simp only [List.cons_append, List.nil_append])
  repeat (first | refine go (k := ?_) | (refine goB (k := ?_); intro b) | (refine goA (k := ?_); intro ao cap))
  (refine End.done1_ (()) (he := by (first | exact rfl | (refine congrArg (Value.int _) ?_; omega) | (refine congrArg (Value.int _) ?_; dsimp only; omega))) (hp := ?_))
  trivial
set_option maxRecDepth 100000 in
theorem at_is (k : Sk) (i : Nat) (hi : i < k.l.length) (h4 : k.l.length ≤ 400) : Fn Try.prog 51 #[ptr k.sb, .int .i64 (i : Int)] [] (skM k) (σ := Unit) (fun _ => True) (fun _ => .pointer (place (sz i64c) (some ⟨k.lb, 0, none⟩) i 0)) (fun _ => skM k) := by
  refine Fn.enter (args := [ptr k.sb, .int .i64 (i : Int)]) Try.func51 rfl _ Try.ntmps51 rfl (by simp [rd_excl, md_excl]) (fun w S => ?_)
  (try conv => rhs; simp only [List.cons_append, List.nil_append])
  repeat (first | refine go (k := ?_) | (refine goB (k := ?_); intro b) | (refine goA (k := ?_); intro ao cap))
  (refine End.done1_ (()) (he := by (first | exact rfl | (refine congrArg (Value.int _) ?_; omega) | (refine congrArg (Value.int _) ?_; dsimp only; omega))) (hp := ?_))
  trivial
set_option maxRecDepth 100000 in
theorem sized_is (k : Sk) (hk : k.Ok) (n : Nat) (h1 : k.live ≤ n) (h8 : 8 ≤ n) (h4 : n ≤ 400) : Fn Try.prog 104 #[ptr k.sb, .int .i64 (n : Int)] [] (skM k) (σ := Nat) (fun _ => True) (fun _ => .tuple #[]) (fun b => skM ⟨k.sb, b, k.ws ++ List.replicate (n - k.live) 0, k.live⟩) := by
  obtain ⟨g1, g2, g3⟩ := hk
  obtain ⟨sb, lb, l, live⟩ := k
  simp only at *
  refine Fn.enter (args := [ptr sb, .int .i64 (n : Int)]) Try.func104 rfl _ Try.ntmps104 rfl (by simp [rd_excl, md_excl]) (fun w S => ?_)
  (try conv => rhs; simp only [List.cons_append, List.nil_append])
  repeat (first | refine go (k := ?_) | (refine goB (k := ?_); intro b) | (refine goA (k := ?_); intro ao cap))
  apply Run.op (by exact rfl)
  refine OpT.makeSlice_ (f := i64c) (iα := inferInstance) (ef := inferInstance) (z := 0) (n := n) (k := ?_)
  intro nb
  repeat (first | refine go (k := ?_) | (refine goB (k := ?_); intro b) | (refine goA (k := ?_); intro ao cap))
  apply Cod.draw 10 ([blk sb [.slice (some ⟨lb, 0, none⟩) l.length l.length, .int .i64 (live : Int), .int .i64 8, .int .i64 400] 151]) (by kernel_rfl) 11 rfl
  refine RunT.takeR_ 0 (h := ?_)
  refine RunT.takeR_ 1 (h := ?_)
  refine RunT.takeR_ 2 (h := ?_)
  refine RunT.takeR_ 3 (h := ?_)
  refine RunT.takeR_ 4 (h := ?_)
  refine RunT.takeR_ 5 (h := ?_)
  refine RunT.takeR_ 6 (h := ?_)
  refine RunT.takeR_ 7 (h := ?_)
  refine RunT.takeR_ 8 (h := ?_)
  refine RunT.one_ 9 (h := ?_)
  refine OpT.cutV_ (f := i64c) (e := 2) (l := l) (k := ?_)
  intro ao' cap' hcut
  refine And.intro gud ?_
  refine RunT.one_ 10 (h := ?_)
  refine OpT.copyZ_ (l := List.replicate n 0) (l2 := (l.take live).drop 0) (m := live - 0) (hr := hcut _ (by (first | (apply Rdb.arr; focus ((repeat (first | exact Take.head | apply Take.tail)); done)) | (apply Rdb.rd; focus ((repeat (first | exact Take.head | apply Take.tail)); done)) | (apply Rdb.md_units; focus ((repeat (first | exact Take.head | apply Take.tail)); done)) | (apply Rdb.md_boxes; focus ((repeat (first | exact Take.head | apply Take.tail)); done)) | (apply Rdb.md_code; (focus ((repeat (first | exact Take.head | apply Take.tail)); done)); (focus (first | assumption | omega))) | (apply Rdb.md_locals; (focus ((repeat (first | exact Take.head | apply Take.tail)); done)); (focus (first | assumption | omega))) | (apply Rdb.old; (focus assumption); (focus ((repeat (first | exact Take.head | apply Take.tail)); done)))))) (k := ?_)
  refine And.intro gud ?_
  (apply RunT.done; kernel_rfl)
  repeat (first | refine go (k := ?_) | (refine goB (k := ?_); intro b) | (refine goA (k := ?_); intro ao cap))
  have e1 : (l.take live).drop 0 ++ (List.replicate n (0 : Int)).drop (live - 0) = l.take live ++ List.replicate (n - live) 0 := by simp
  rw [e1]
  have e2 : (l.take live ++ List.replicate (n - live) 0).length = n := by simp; omega
  refine End.done0'_ nb (ht := by rw [show skM ⟨sb, nb, (⟨sb, lb, l, live⟩ : Sk).ws ++ List.replicate (n - live) 0, live⟩ = [blk sb [.slice (some ⟨nb, 0, none⟩) n n, .int .i64 (live : Int), .int .i64 8, .int .i64 400] 151, arr (some ⟨nb, 0, none⟩) n n 2 i64c (l.take live ++ List.replicate (n - live) 0)] by simp only [skM, skC, Sk.ws, e2]]; exact tks) (hp := trivial)
end Go.Proofs.Ytfeajpghabjaaaa.Vw

/- Package stacks, walked by the new rules: pushing, popping, all words, a new one. -/
namespace Go.Proofs.Ytfeajpghabjaaaa.Vw
open Go.RowKit Go.Proofs.Ytfeajpghabjaaaa.Img
set_option linter.unusedVariables false
set_option linter.unusedSimpArgs false
attribute [local irreducible] Run Cod End OpT Still RunQ RunS RunT Fn PutOk
/-- the same stack, with other words -/
structure SkTo (k k' : Sk) (xs : List Int) : Prop where
  ok : k'.Ok
  sb : k'.sb = k.sb
  ws : k'.ws = xs
  live : k'.live = xs.length
theorem take_app_len {a b : List Int} {n : Nat} (h : a.length = n) : (a ++ b).take n = a := by subst h; simp
theorem Sk.len {k : Sk} (h : k.Ok) : k.ws.length = k.live := by
  have := h.live
  simp; omega
set_option maxRecDepth 100000 in
set_option maxHeartbeats 1000000 in
theorem push_stk (k : Sk) (hk : k.Ok) (v : Int) : Fn Try.prog 87 #[ptr k.sb, .int .i64 v] [] (skM k) (σ := Sk) (fun k' => if k.live = 400 then k' = k else SkTo k k' (k.ws ++ [v])) (fun _ => .bool (!decide (k.live = 400))) (fun k' => skM k') := by
  have hwl := Sk.len hk
  obtain ⟨g1, g2, g3⟩ := id hk
  refine Fn.enter (args := [ptr k.sb, .int .i64 v]) Try.func87 rfl _ Try.ntmps87 rfl (by simp [rd_excl, md_excl]) (fun w S => ?_)
  (try conv => rhs; simp only [List.cons_append, List.nil_append])
  by_cases h4 : k.live = 400
  · repeat (first | refine go (k := ?_) | (refine goB (k := ?_); intro b) | (refine goA (k := ?_); intro ao cap))
    refine End.done1_ k (he := by rw [decide_eq_true h4]; rfl) (hp := ?_)
    rw [if_pos h4]
  · refine Cod.imp (L' := old w S :: skM k) (fun w hm => hm) ?_
    have key : ∀ (k2 : Sk), k2.Ok → k2.sb = k.sb → k2.ws = k.ws → k2.live = k.live → k2.live < k2.l.length → SkTo k { k2 with l := k2.l.set k2.live v, live := k2.live + 1 } (k.ws ++ [v]) := fun k2 a1 a2 a3 a4 a5 => by
      obtain ⟨b1, b2, b3⟩ := a1
      refine ⟨⟨by simp; omega, by simpa using b2, by simpa using b3⟩, a2, ?_, by simp; omega⟩
      show (k2.l.set k2.live v).take (k2.live + 1) = k.ws ++ [v]
      rw [← a3]
      have hl : (k2.l.set k2.live v).length = k2.l.length := by simp
      rw [List.take_succ_eq_append_getElem (by omega), List.getElem_set_self]
      congr 1
      rw [List.take_set_of_le (Nat.le_refl _)]
    by_cases hf : k.live = k.l.length
    · have hmin : (if (400 : Int) < 2 * (k.l.length : Int) then 400 else 2 * (k.l.length : Int)) = ((min (2 * k.l.length) 400 : Nat) : Int) := by split <;> omega
      repeat (first | refine go (k := ?_) | (refine goB (k := ?_); intro b) | (refine goA (k := ?_); intro ao cap))
      apply Cod.draw 12 ([blk k.sb (skC k) 151]) (by kernel_rfl) 13 rfl
      refine RunT.takeR_ 0 (h := ?_)
      refine RunT.takeR_ 1 (h := ?_)
      refine RunT.takeR_ 2 (h := ?_)
      refine RunT.takeR_ 3 (h := ?_)
      refine RunT.takeR_ 4 (h := ?_)
      refine RunT.takeR_ 5 (h := ?_)
      refine RunT.takeR_ 6 (h := ?_)
      refine RunT.takeR_ 7 (h := ?_)
      refine RunT.takeR_ 8 (h := ?_)
      refine RunT.takeR_ 9 (h := ?_)
      refine RunT.takeR_ 10 (h := ?_)
      refine RunT.takeR_ 11 (hy := by exact Still.imin rfl rfl hmin) (h := ?_)
      (refine RunT.one_ 12 (h := ?_); refine OpT.call0_ (spec := sized_is k hk (min (2 * k.l.length) 400) (by omega) (by omega) (by omega)) (k := ?_); intro s hs; refine And.intro gud ?_; (try conv => rhs; simp only [List.cons_append, List.nil_append]))
      obtain ⟨k2, e2⟩ : ∃ k2 : Sk, k2 = ⟨k.sb, s, k.ws ++ List.replicate (min (2 * k.l.length) 400 - k.live) 0, k.live⟩ := ⟨_, rfl⟩
      have hk2l : k2.l.length = min (2 * k.l.length) 400 := by rw [e2]; simp at hwl ⊢; omega
      have hk2 := key k2 ⟨by rw [hk2l, e2]; simp only; omega, by omega, by omega⟩ (by rw [e2]) (by rw [e2]; exact take_app_len hwl) (by rw [e2]) (by rw [hk2l, e2]; simp only; omega)
      have hlv : k2.live < k2.l.length := by rw [hk2l, e2]; simp only; omega
      rw [← e2]
      have e2b : s = k2.lb := by rw [e2]
      have e2l : k.ws ++ List.replicate (min (2 * k.l.length) 400 - k.live) 0 = k2.l := by rw [e2]
      rw [e2b, e2l]
      have hsb : k.sb = k2.sb := by rw [e2]
      have hok2 : k2.live ≤ 400 := by rw [e2]; simp only; omega
      rw [hsb]
      (apply RunT.done; kernel_rfl)
      repeat (first | refine go (k := ?_) | (refine goB (k := ?_); intro b) | (refine goA (k := ?_); intro ao cap))
      (apply Run.op; exact rfl; refine OpT.storeE_ (f := i64c) (l := k2.l) (i := k2.live) (off := 0) (vs := [.int .i64 v]) (a' := v) (k := ?_))
      repeat (first | refine go (k := ?_) | (refine goB (k := ?_); intro b) | (refine goA (k := ?_); intro ao cap))
      have hle : (k2.l.set k2.live v).length = k2.l.length := List.length_set
      refine End.done1_ ({ k2 with l := k2.l.set k2.live v, live := k2.live + 1 } : Sk) (he := by rw [decide_eq_false h4]; rfl) (ht := by (simp only [skM, skC, hle]; exact tks)) (hp := ?_)
      rw [if_neg h4]
      exact hk2
    · have hk2 := key k hk rfl rfl rfl (by omega)
      repeat (first | refine go (k := ?_) | (refine goB (k := ?_); intro b) | (refine goA (k := ?_); intro ao cap))
      (apply Run.op; exact rfl; refine OpT.storeE_ (f := i64c) (l := k.l) (i := k.live) (off := 0) (vs := [.int .i64 v]) (a' := v) (k := ?_))
      repeat (first | refine go (k := ?_) | (refine goB (k := ?_); intro b) | (refine goA (k := ?_); intro ao cap))
      have hle : (k.l.set k.live v).length = k.l.length := List.length_set
      refine End.done1_ ({ k with l := k.l.set k.live v, live := k.live + 1 } : Sk) (he := by rw [decide_eq_false h4]; rfl) (ht := by (simp only [skM, skC, hle]; exact tks)) (hp := ?_)
      rw [if_neg h4]
      exact hk2
end Go.Proofs.Ytfeajpghabjaaaa.Vw
