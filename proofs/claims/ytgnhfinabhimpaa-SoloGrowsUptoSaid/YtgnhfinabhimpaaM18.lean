/- A right module's task keeps what is known: each instruction. Plain Lean. -/
import Derived.Test.YtgnhfinabhimpaaM17
namespace Go.Proofs.Ytgnhfinabhimpaa.Vm
set_option linter.unusedVariables false
set_option linter.unusedSimpArgs false
set_option linter.unusedSectionVars false
open ImgM Ver Opt

/-- typings of all units -/
structure Certs (M : Mdl) (T : Nat → Int → Option Shape) : Prop where
  form : FormOk M
  in64 : ∀ q, q < M.units.length → ∀ i ∈ (unt M q).code, In64 i.n ∧ In64 i.a
  cert : ∀ q, q < M.units.length → Cert M (unt M q) (T q)
  lens : ∀ q p s, q < M.units.length → T q p = some s → s.2.length = (unt M q).locals.length
/-- what is sent and received is of the boxes' types -/
structure EnvOk {ν : Type} (V : Env ν) (M : Mdl) (K : ν → Prop) : Prop where
  take : ∀ s b, K s → b < M.boxes.length → V.empty s b = false → K (V.take s b).2 ∧ In64 (V.take s b).1 ∧ ((M.boxes.getD b default).1 = 2 → (V.take s b).1 = 0 ∨ (V.take s b).1 = 1)
  put : ∀ s b v, K s → b < M.boxes.length → V.full s b = false → In64 v → ((M.boxes.getD b default).1 = 2 → v = 0 ∨ v = 1) → K (V.put s b v)
  tell : ∀ s e, K s → K (V.tell s e)
/-- where a task stands -/
structure At (M : Mdl) (T : Nat → Int → Option Shape) (t : Tk) (fs0 : List Fr) (ws0 : List Int) (q p : Nat) (st : List Int) (h : List Bool) (loc op : List Int) : Prop where
  fr : (cur t).fr = fs0 ++ [⟨q, p, ws0.length⟩]
  ws : (cur t).ws = ws0 ++ (loc ++ op)
  hq : q < M.units.length
  hT : T q (p : Int) = some (st, h)
  loc : Loc (gsOf t) (unt M q).locals h loc
  op : Typs (gsOf t) st op
  under : Under M T (gsOf t) q fs0 ws0
section
variable {M : Mdl} {T : Nat → Int → Option Shape} {t : Tk} {ch : List Nat}
theorem Ok.at_ (h : Ok M T t ch) : ∃ fs0 ws0 q p st hh loc op, At M T t fs0 ws0 q p st hh loc op := by
  obtain ⟨fs0, ws0, q, p, seg, e1, e2, ⟨hq, st, hh, loc, op, g1, g2, g3, g4⟩, hu⟩ := h.top.view
  rw [List.append_nil] at g1
  exact ⟨fs0, ws0, q, p, st, hh, loc, op, e1, by rw [e2, g2], hq, g1, g3, g4, hu⟩
variable {fs0 : List Fr} {ws0 : List Int} {q p : Nat} {st : List Int} {hh : List Bool} {loc op : List Int}
theorem snoc_get {α : Type} [Inhabited α] (l : List α) (a : α) : (l ++ [a]).getD ((l ++ [a]).length - 1) default = a := by simp
theorem snoc_set {α : Type} (l : List α) (a b : α) : (l ++ [a]).set ((l ++ [a]).length - 1) b = l ++ [b] := by simp
theorem snoc_getZ (l : List Int) (a : Int) : (l ++ [a]).getD ((l ++ [a]).length - 1) 0 = a := by simp
theorem snoc_take {α : Type} (l a : List α) : (l ++ a).take ((l ++ a).length - a.length) = l := by simp
theorem At.top (a : At M T t fs0 ws0 q p st hh loc op) : topF (cur t) = ⟨q, p, ws0.length⟩ := by
  unfold topF
  rw [a.fr]
  exact snoc_get _ _
/-- the current thread with its unit at another place -/
def thr (c : Co) (fs0 : List Fr) (f : Fr) (ws : List Int) : Co := ⟨c.st, c.up, fs0 ++ [f], ws⟩
theorem At.pc (a : At M T t fs0 ws0 q p st hh loc op) (n : Nat) : setPc n t = setCur t (thr (cur t) fs0 ⟨q, n, ws0.length⟩ (ws0 ++ (loc ++ op))) := by
  unfold setPc setTop thr
  rw [a.top, a.fr, snoc_set, a.ws]
theorem last_set {c : Co} {w : List Int} {v : Int} (hn : t.now < t.cs.length) (h : c.ws = w ++ [v]) : last (setCur t c) = v := by
  unfold last
  rw [cur_set hn, h]
  exact snoc_getZ _ _
theorem drop_set {c : Co} {w a : List Int} {n : Nat} (hn : t.now < t.cs.length) (h : c.ws = w ++ a) (ha : a.length = n) : drop n (setCur t c) = setCur t { c with ws := w } := by
  unfold drop
  rw [cur_set hn, set_set, h, ← ha, snoc_take]
/-- at another place of the same unit all is known again -/
theorem Ok.next (h : Ok M T t ch) (a : At M T t fs0 ws0 q p st hh loc op) {p' : Nat} {st' : List Int} {h1 h2 : List Bool} {loc' op' : List Int} (hT : T q (p' : Int) = some (st', h2)) (hle : Le h2 h1) (hl : Loc (gsOf t) (unt M q).locals h1 loc') (ht : Typs (gsOf t) st' op') {ws : List Int} (hws : ws = ws0 ++ (loc' ++ op')) (hlen : ws.length ≤ 400) :
    Ok M T (setCur t (thr (cur t) fs0 ⟨q, p', ws0.length⟩ ws)) ch := by
  subst hws
  have hlens := h.lens _ h.nowlt
  rw [← cur_co] at hlens
  refine h.put rfl rfl ?_ ?_ ⟨hlen, ?_⟩
  · show bot (fs0 ++ [_]) = bot (cur t).fr
    rw [a.fr]; exact bot_snoc _ _ _ rfl
  · exact a.under.stk ⟨a.hq, st', h2, loc', op', by rw [List.append_nil]; exact hT, rfl, hl.le hle, ht⟩
  · have := hlens.2
    rw [a.fr] at this
    show (fs0 ++ [_]).length ≤ 40
    simpa using this
/-- what comes of an instruction -/
def Res {ν : Type} (M : Mdl) (T : Nat → Int → Option Shape) (K : ν → Prop) (r : Tk × ν) : Prop := (r.1.st = 5 ∨ r.1.st = 4 ∨ ∃ ch', Ok M T r.1 ch') ∧ K r.2
variable {ν : Type} {V : Env ν} {K : ν → Prop} (hV : EnvOk V M K)
include hV
theorem trap_res {n : Int} {s : Tk × ν} (hK : K s.2) : Res M T K (trap V n s) := by
  unfold trap
  split
  · rename_i h; exact ⟨.inl h, hK⟩
  · exact ⟨.inl rfl, hV.tell _ _ hK⟩
theorem push_res {c : Co} {v : Int} {s : ν} (hn : t.now < t.cs.length) (hK : K s) (h : c.ws.length + 1 ≤ 400 → ∃ ch', Ok M T (setCur t { c with ws := c.ws ++ [v] }) ch') (hl : c.ws.length ≤ 400) : Res M T K (push V v (setCur t c, s)) := by
  unfold push
  simp only [cur_set hn, set_set]
  split
  · exact trap_res hV hK
  · exact ⟨.inr (.inr (h (by omega))), hK⟩
end
/-- the instruction at hand -/
structure Here (M : Mdl) (T : Nat → Int → Option Shape) (q p : Nat) (i : Ins) (st : List Int) (hh : List Bool) (st' : List Int) (h' : List Bool) : Prop where
  lt : p < (unt M q).code.length
  ins : (unt M q).code.getD p default = i
  does : Does M (unt M q) i st hh st' h'
  next : ∀ x ∈ nexts i (p : Int), 0 ≤ x ∧ ∃ h2, T q x = some (st', h2) ∧ Le h2 h'
  ok : InsOk M (unt M q) i
  in64 : In64 i.n ∧ In64 i.a
  inst : instr M (unt M q) i = 0
theorem At.here {M : Mdl} {T : Nat → Int → Option Shape} (hC : Certs M T) {t : Tk} {fs0 : List Fr} {ws0 : List Int} {q p : Nat} {st : List Int} {hh : List Bool} {loc op : List Int} (a : At M T t fs0 ws0 q p st hh loc op) : ∃ st' h', Here M T q p (insT M t) st hh st' h' := by
  have hc := hC.cert q a.hq
  have hr := hc.rng _ _ a.hT
  have hf := hc.fits _ _ a.hT
  have hi : insT M t = (unt M q).code.getD p default := by unfold insT; rw [a.top]
  have hlt : p < (unt M q).code.length := by omega
  have hm : (unt M q).code.getD p default ∈ (unt M q).code := Opt.mem_at hlt
  have hu : unt M q ∈ M.units := by
    unfold unt
    rw [List.getD_eq_getElem?_getD, List.getElem?_eq_getElem a.hq]; exact List.getElem_mem _
  have hio := instr_ok ((hC.form.units _ hu).2 _ hm)
  have e : Ver.ins (unt M q) (p : Int) = (unt M q).code.getD p default := rfl
  refine ⟨(sem M (unt M q) (insT M t) (st, hh)).stack, (sem M (unt M q) (insT M t) (st, hh)).has, hlt, hi.symm, ?_, fun x hx => ?_, by rw [hi]; exact hio, by rw [hi]; exact hC.in64 q a.hq _ hm, by rw [hi]; exact (hC.form.units _ hu).2 _ hm⟩
  · refine sem_does ?_ ?_
    · rw [hi]; exact hio.op
    · rw [hi, ← e]; exact hf.ok
  · have hn := hf.next x (by rw [e, ← hi]; exact hx)
    rw [e, ← hi] at hn
    obtain ⟨h2, g1, g2⟩ := hn
    exact ⟨(hc.rng _ _ g1).1, h2, g1, g2⟩
section
variable {M : Mdl} {T : Nat → Int → Option Shape} {t : Tk} {ch : List Nat} {fs0 : List Fr} {ws0 : List Int} {q p : Nat} {st : List Int} {hh : List Bool} {loc op : List Int} {i : Ins} {st' : List Int} {h' : List Bool}
variable {ν : Type} {V : Env ν} {K : ν → Prop} (hV : EnvOk V M K) (hok : Ok M T t ch) (a : At M T t fs0 ws0 q p st hh loc op) (hr : Here M T q p i st hh st' h')
include hok a
theorem wslen : ws0.length + (loc.length + op.length) ≤ 400 := by
  have := (hok.lens _ hok.nowlt).1
  rw [← cur_co, a.ws] at this
  simpa using this
include hr
/-- it goes on with the next instruction -/
theorem on (h1 : i.op ≠ 21) (h3 : i.op ≠ 24) (h4 : i.op ≠ 25) : ∃ h2, T q ((p + 1 : Nat) : Int) = some (st', h2) ∧ Le h2 h' := by
  have := hr.next ((p : Int) + 1) (by
    unfold nexts
    rw [if_neg h1]
    split
    · simp
    · rw [if_neg (by omega)]; simp)
  exact this.2
/-- behind an instruction that goes on, with other words on top -/
theorem goes (h1 : i.op ≠ 21) (h3 : i.op ≠ 24) (h4 : i.op ≠ 25) {loc' op' ws : List Int} (hl : Loc (gsOf t) (unt M q).locals h' loc') (ht : Typs (gsOf t) st' op') (hws : ws = ws0 ++ (loc' ++ op')) (hlen : ws.length ≤ 400) :
    Ok M T (setCur t (thr (cur t) fs0 ⟨q, p + 1, ws0.length⟩ ws)) ch := by
  obtain ⟨h2, g1, g2⟩ := on hok a hr h1 h3 h4
  exact hok.next a g1 g2 hl ht hws hlen
include hV
/-- a word is pushed, and the next instruction follows -/
theorem pushes (h1 : i.op ≠ 21) (h3 : i.op ≠ 24) (h4 : i.op ≠ 25) {op1 : List Int} {s1 : List Int} {ty v : Int} (he : st' = s1 ++ [ty]) (ht : Typs (gsOf t) s1 op1) (hv : vOk (gsOf t) ty v) (hl : Loc (gsOf t) (unt M q).locals h' loc) {s : ν} (hK : K s) (hlen : op1.length ≤ op.length) :
    Res M T K (push V v (setCur t (thr (cur t) fs0 ⟨q, p + 1, ws0.length⟩ (ws0 ++ (loc ++ op1))), s)) := by
  have hw := wslen hok a
  refine push_res hV hok.nowlt hK (fun hlt => ⟨ch, ?_⟩) (by show (ws0 ++ (loc ++ op1)).length ≤ 400; simp; omega)
  refine goes hok a hr h1 h3 h4 hl (he ▸ ht.app (Typs.one hv)) ?_ (by simpa using hlt)
  show ws0 ++ (loc ++ op1) ++ [v] = _
  simp
end
theorem wrap_in64 (a : Int) : In64 (IntKind.i64.wrap a) := by
  unfold In64 IntKind.wrap
  simp [IntKind.bits, IntKind.signed]
  omega
theorem yes_in64 (b : Bool) : In64 (yes b) := by cases b <;> (unfold In64 yes; omega)
theorem two2_in64 {op a b : Int} (ha : In64 a) (hb : In64 b) (h0 : op = 11 ∨ op = 12 → b ≠ 0) : In64 (two2 op a b) := by
  unfold two2
  repeat' split
  all_goals first | exact wrap_in64 _ | exact yes_in64 _ | exact ha | (unfold In64; omega) | skip
  · have h1 := Int.natAbs_tmod a b
    have h2 : a.natAbs % b.natAbs < b.natAbs := Nat.mod_lt _ (by have := h0 (by omega); omega)
    unfold In64 at *
    omega
  all_goals (unfold bits; exact wrap_in64 _)
theorem topF_thr (c : Co) (fs0 : List Fr) (f : Fr) (ws : List Int) : topF (thr c fs0 f ws) = f := snoc_get _ _
theorem two2_vOk {gs : List Nat} {o x y : Int} (ho : 8 ≤ o ∧ o ≤ 20) (hx : In64 x) (hy : In64 y) (h0 : o = 11 ∨ o = 12 → y ≠ 0) (hb : 18 < o → (x = 0 ∨ x = 1) ∧ (y = 0 ∨ y = 1)) : vOk gs (if 12 < o then 2 else 1) (two2 o x y) := by
  have h64 : In64 (two2 o x y) := two2_in64 hx hy h0
  split
  · exact vOk.truth (two2_truth (by assumption) ho.2 hb)
  · exact vOk.num h64
theorem getD_mid {a b c : List Int} {k : Nat} (h : k < b.length) : (a ++ (b ++ c)).getD (a.length + k) 0 = b.getD k 0 := by
  rw [List.getD_eq_getElem?_getD, List.getElem?_append_right (by omega), Nat.add_sub_cancel_left, List.getElem?_append_left h, List.getD_eq_getElem?_getD]
theorem set_mid {a b c : List Int} {k : Nat} {v : Int} (h : k < b.length) : (a ++ (b ++ c)).set (a.length + k) v = a ++ (b.set k v ++ c) := by
  rw [List.set_append_right _ _ (by omega), Nat.add_sub_cancel_left, List.set_append_left _ _ h]
section
variable {M : Mdl} {T : Nat → Int → Option Shape} {t : Tk} {ch : List Nat} {fs0 : List Fr} {ws0 : List Int} {q p : Nat} {st : List Int} {hh : List Bool} {loc op : List Int} {i : Ins} {st' : List Int} {h' : List Bool}
variable {ν : Type} {V : Env ν} {K : ν → Prop} (hC : Certs M T) (hV : EnvOk V M K) (hok : Ok M T t ch) (a : At M T t fs0 ws0 q p st hh loc op) (hr : Here M T q p i st hh st' h') {s : ν} (hK : K s)
include hC hV hok a hr hK
/-- what puts a word there alone -/
theorem exec_push (ho : i.op = 1 ∨ i.op = 2 ∨ i.op = 3) : Res M T K (exec V M i (setPc (p + 1) t, s)) := by
  have hn := hok.nowlt
  rw [a.pc]
  have hlen := a.loc.len
  unfold exec
  simp only [cur_set hn, topF_thr]
  rcases ho with ho | ho | ho
  · rw [if_pos ho]
    cases hr.does with
    | const _ _ hi =>
      refine pushes hV hok a hr (by omega) (by omega) (by omega) rfl a.op ?_ a.loc hK (Nat.le_refl _)
      rw [ho]; exact vOk.num hr.in64.1
    | _ => exfalso; omega
  · rw [if_neg (by omega), if_pos ho]
    have htr := truth_in hr.inst ho
    cases hr.does with
    | const _ _ hi =>
      refine pushes hV hok a hr (by omega) (by omega) (by omega) rfl a.op ?_ a.loc hK (Nat.le_refl _)
      rw [ho]; exact vOk.truth htr
    | _ => exfalso; omega
  · rw [if_neg (by omega), if_neg (by omega), if_pos ho]
    have hlo := hr.ok.loc (.inl ho)
    cases hr.does with
    | load _ _ hi hx =>
      refine pushes hV hok a hr (by omega) (by omega) (by omega) rfl a.op ?_ a.loc hK (Nat.le_refl _)
      show vOk _ _ ((ws0 ++ (loc ++ op)).getD (ws0.length + i.a.toNat) 0)
      rw [getD_mid (by omega)]
      exact a.loc.ok _ (by omega) hx
    | _ => exfalso; omega
omit hV hK in
/-- one word taken -/
theorem pop1 (f : Fr) {op1 : List Int} {v : Int} (e : op = op1 ++ [v]) : last (setCur t (thr (cur t) fs0 f (ws0 ++ (loc ++ op)))) = v ∧ drop 1 (setCur t (thr (cur t) fs0 f (ws0 ++ (loc ++ op)))) = setCur t (thr (cur t) fs0 f (ws0 ++ (loc ++ op1))) := by
  have hw : (thr (cur t) fs0 f (ws0 ++ (loc ++ op))).ws = (ws0 ++ (loc ++ op1)) ++ [v] := by
    show ws0 ++ (loc ++ op) = _
    rw [e]; simp
  exact ⟨last_set hok.nowlt hw, drop_set hok.nowlt hw rfl⟩
/-- what takes a word -/
theorem exec_pop (ho : i.op = 4 ∨ i.op = 5 ∨ i.op = 6 ∨ i.op = 7 ∨ i.op = 22 ∨ i.op = 26 ∨ i.op = 28) (hw : i.op = 26 → V.full s i.a.toNat = false) : Res M T K (exec V M i (setPc (p + 1) t, s)) := by
  have hn := hok.nowlt
  rw [a.pc]
  have hlen := a.loc.len
  have hwl := wslen hok a
  have key : ∀ {s1 : List Int} {ty : Int}, st = s1 ++ [ty] → ∃ op1 v, op = op1 ++ [v] ∧ Typs (gsOf t) s1 op1 ∧ vOk (gsOf t) ty v := fun {s1 ty} e => by
    have ht := a.op
    rw [e] at ht
    obtain ⟨x, y, e1, g1, g2⟩ := ht.split
    obtain ⟨v, rfl, hv⟩ := g2.un1
    exact ⟨x, v, e1, g1, hv⟩
  have hio := hr.ok
  unfold exec
  rcases ho with ho | ho | ho | ho | ho | ho | ho
  · rw [if_neg (by omega), if_neg (by omega), if_neg (by omega), if_pos ho]
    have hlo := hio.loc (.inr ho)
    have hgo := fun {loc' op' ws} => goes hok a hr (loc' := loc') (op' := op') (ws := ws) (by omega) (by omega) (by omega)
    cases hr.does with
    | store s1 h1 hi =>
      obtain ⟨op1, v, e1, g1, g2⟩ := key rfl
      obtain ⟨hl, hd⟩ := pop1 hC hok a hr ⟨q, p + 1, ws0.length⟩ e1
      simp only [hl, hd, cur_set hn, set_set, topF_thr]
      refine ⟨.inr (.inr ⟨ch, ?_⟩), hK⟩
      refine hgo (loc' := loc.set i.a.toNat v) (op' := op1) (a.loc.put (by omega) g2) g1 (set_mid (by omega)) ?_
      show ((ws0 ++ (loc ++ op1)).set _ v).length ≤ 400
      rw [e1] at hwl
      simp at hwl ⊢; omega
    | _ => exfalso; omega
  · rw [if_neg (by omega), if_neg (by omega), if_neg (by omega), if_neg (by omega), if_pos ho]
    have hgo := fun {loc' op' ws} => goes hok a hr (loc' := loc') (op' := op') (ws := ws) (by omega) (by omega) (by omega)
    cases hr.does with
    | drop s1 h1 ty hi =>
      obtain ⟨op1, v, e1, g1, g2⟩ := key rfl
      obtain ⟨hl, hd⟩ := pop1 hC hok a hr ⟨q, p + 1, ws0.length⟩ e1
      simp only [hd]
      rw [e1] at hwl
      exact ⟨.inr (.inr ⟨ch, hgo a.loc g1 rfl (by simp at hwl ⊢; omega)⟩), hK⟩
    | _ => exfalso; omega
  · rw [if_neg (by omega), if_neg (by omega), if_neg (by omega), if_neg (by omega), if_neg (by omega), if_pos ho]
    have hpu := fun {op1 s1 ty v} => pushes hV hok a hr (by omega) (by omega) (by omega) (op1 := op1) (s1 := s1) (ty := ty) (v := v)
    cases hr.does with
    | neg s1 h1 hi =>
      obtain ⟨op1, v, e1, g1, g2⟩ := key rfl
      obtain ⟨hl, hd⟩ := pop1 hC hok a hr ⟨q, p + 1, ws0.length⟩ e1
      simp only [hl, hd]
      exact hpu rfl g1 (vOk.num (wrap_in64 _)) a.loc hK (by rw [e1]; simp)
    | _ => exfalso; omega
  · rw [if_neg (by omega), if_neg (by omega), if_neg (by omega), if_neg (by omega), if_neg (by omega), if_neg (by omega), if_pos ho]
    have hpu := fun {op1 s1 ty v} => pushes hV hok a hr (by omega) (by omega) (by omega) (op1 := op1) (s1 := s1) (ty := ty) (v := v)
    cases hr.does with
    | not s1 h1 hi =>
      obtain ⟨op1, v, e1, g1, g2⟩ := key rfl
      obtain ⟨hl, hd⟩ := pop1 hC hok a hr ⟨q, p + 1, ws0.length⟩ e1
      simp only [hl, hd]
      refine hpu rfl g1 (vOk.truth ?_) a.loc hK (by rw [e1]; simp)
      rcases g2.2.1 rfl with h | h <;> rw [h] <;> decide
    | _ => exfalso; omega
  · rw [if_neg (by omega), if_neg (by omega), if_neg (by omega), if_neg (by omega), if_neg (by omega), if_neg (by omega), if_neg (by omega), if_neg (by omega), if_neg (by omega), if_pos ho]
    have hgo := fun {loc' op' ws} => goes hok a hr (loc' := loc') (op' := op') (ws := ws) (by omega) (by omega) (by omega)
    have hnx := hr.next i.a (by unfold nexts; rw [if_neg (by omega), if_pos ho]; simp)
    cases hr.does with
    | els s1 h1 hi =>
      obtain ⟨op1, v, e1, g1, g2⟩ := key rfl
      obtain ⟨hl, hd⟩ := pop1 hC hok a hr ⟨q, p + 1, ws0.length⟩ e1
      simp only [hl, hd]
      rw [e1] at hwl
      split
      · obtain ⟨h0, h2, k1, k2⟩ := hnx
        refine ⟨.inr (.inr ⟨ch, ?_⟩), hK⟩
        have e : setPc i.a.toNat (setCur t (thr (cur t) fs0 ⟨q, p + 1, ws0.length⟩ (ws0 ++ (loc ++ op1)))) = setCur t (thr (cur t) fs0 ⟨q, i.a.toNat, ws0.length⟩ (ws0 ++ (loc ++ op1))) := by
          unfold setPc
          rw [cur_set hn, set_set, topF_thr]
          unfold setTop thr
          rw [snoc_set]
        rw [e]
        have hc : ((i.a.toNat : Nat) : Int) = i.a := by omega
        exact hok.next a (by rw [hc]; exact k1) k2 a.loc g1 rfl (by simp at hwl ⊢; omega)
      · exact ⟨.inr (.inr ⟨ch, hgo a.loc g1 rfl (by simp at hwl ⊢; omega)⟩), hK⟩
    | _ => exfalso; omega
  · rw [if_neg (by omega), if_neg (by omega), if_neg (by omega), if_neg (by omega), if_neg (by omega), if_neg (by omega), if_neg (by omega), if_neg (by omega), if_neg (by omega), if_neg (by omega), if_pos ho]
    have hgo := fun {loc' op' ws} => goes hok a hr (loc' := loc') (op' := op') (ws := ws) (by omega) (by omega) (by omega)
    have hb := hio.box (.inl ho)
    cases hr.does with
    | send s1 h1 hi =>
      obtain ⟨op1, v, e1, g1, g2⟩ := key rfl
      obtain ⟨hl, hd⟩ := pop1 hC hok a hr ⟨q, p + 1, ws0.length⟩ e1
      simp only [hl, hd]
      rw [e1] at hwl
      exact ⟨.inr (.inr ⟨ch, hgo a.loc g1 rfl (by simp at hwl ⊢; omega)⟩), hV.tell _ _ (hV.put s i.a.toNat v hK (by omega) (hw ho) g2.1 g2.2.1)⟩
    | _ => exfalso; omega
  · rw [if_neg (by omega), if_neg (by omega), if_neg (by omega), if_neg (by omega), if_neg (by omega), if_neg (by omega), if_neg (by omega), if_neg (by omega), if_neg (by omega), if_neg (by omega), if_neg (by omega), if_neg (by omega), if_pos ho]
    have hgo := fun {loc' op' ws} => goes hok a hr (loc' := loc') (op' := op') (ws := ws) (by omega) (by omega) (by omega)
    cases hr.does with
    | out s1 h1 ty hi =>
      obtain ⟨op1, v, e1, g1, g2⟩ := key rfl
      obtain ⟨hl, hd⟩ := pop1 hC hok a hr ⟨q, p + 1, ws0.length⟩ e1
      simp only [hl, hd]
      rw [e1] at hwl
      have h := hgo a.loc g1 rfl (by simp at hwl ⊢; omega)
      exact ⟨.inr (.inr ⟨ch, ⟨h.now, h.few, h.nodup, h.mem, h.going, h.chain, h.root, h.top, h.wait, h.fresh, h.held, h.lens, h.kinds, h.sts⟩⟩), hV.tell _ _ hK⟩
    | _ => exfalso; omega
/-- an operator -/
theorem exec_two (ho : 8 ≤ i.op ∧ i.op ≤ 20) : Res M T K (exec V M i (setPc (p + 1) t, s)) := by
  have hn := hok.nowlt
  rw [a.pc]
  have hpu := fun {op1 s1 ty v} => pushes hV hok a hr (by omega) (by omega) (by omega) (op1 := op1) (s1 := s1) (ty := ty) (v := v)
  have key : ∃ s1 t1 t2 t3, st = s1 ++ [t1, t2] ∧ st' = s1 ++ [t3] ∧ h' = hh ∧ (18 < i.op → t1 = 2 ∧ t2 = 2) ∧ t3 = if 12 < i.op then 2 else 1 := by
    cases hr.does with
    | arith s1 h hi => exact ⟨s1, 1, 1, 1, rfl, rfl, rfl, by omega, by rw [if_neg (by omega)]⟩
    | eq s1 h ty hi ht => exact ⟨s1, ty, ty, 2, rfl, rfl, rfl, by omega, by rw [if_pos (by omega)]⟩
    | cmp s1 h hi => exact ⟨s1, 1, 1, 2, rfl, rfl, rfl, by omega, by rw [if_pos (by omega)]⟩
    | logic s1 h hi => exact ⟨s1, 2, 2, 2, rfl, rfl, rfl, fun _ => ⟨rfl, rfl⟩, by rw [if_pos (by omega)]⟩
    | _ => exfalso; omega
  obtain ⟨s1, t1, t2, t3, k1, k2, k3, k4, k5⟩ := key
  have ht := a.op
  rw [k1] at ht
  obtain ⟨op1, y, e1, g1, g2⟩ := ht.split
  obtain ⟨x, y, rfl, hx, hy⟩ := g2.un2
  obtain ⟨l1, d1⟩ := pop1 hC hok a hr ⟨q, p + 1, ws0.length⟩ (op1 := op1 ++ [x]) (v := y) (by rw [e1]; simp)
  have hw2 : (thr (cur t) fs0 ⟨q, p + 1, ws0.length⟩ (ws0 ++ (loc ++ (op1 ++ [x])))).ws = (ws0 ++ (loc ++ op1)) ++ [x] := by
    show ws0 ++ (loc ++ (op1 ++ [x])) = _
    simp
  have l2 := last_set hn hw2
  have d2 := drop_set hn hw2 (n := 1) rfl
  unfold exec
  rw [if_neg (by omega), if_neg (by omega), if_neg (by omega), if_neg (by omega), if_neg (by omega), if_neg (by omega), if_neg (by omega), if_pos ho]
  simp only [l1, d1, l2, d2]
  split
  · exact trap_res hV hK
  · rename_i hz
    refine hpu (op1 := op1) (ty := t3) k2 g1 ?_ (by rw [k3]; exact a.loc) hK (by rw [e1]; simp)
    rw [k5]
    exact two2_vOk ho hx.1 hy.1 (fun h h0 => hz ⟨h, h0⟩) (fun h => by
      obtain ⟨q1, q2⟩ := k4 h
      exact ⟨hx.2.1 q1, hy.2.1 q2⟩)
/-- a jump; what is received -/
theorem exec_more (ho : i.op = 21 ∨ i.op = 27) (hw : i.op = 27 → V.empty s i.a.toNat = false) : Res M T K (exec V M i (setPc (p + 1) t, s)) := by
  have hn := hok.nowlt
  rw [a.pc]
  have hwl := wslen hok a
  unfold exec
  rcases ho with ho | ho
  · rw [if_neg (by omega), if_neg (by omega), if_neg (by omega), if_neg (by omega), if_neg (by omega), if_neg (by omega), if_neg (by omega), if_neg (by omega), if_pos ho]
    have hnx := hr.next i.a (by unfold nexts; rw [if_pos ho]; simp)
    cases hr.does with
    | jump s1 h1 hi =>
      obtain ⟨h0, h2, k1, k2⟩ := hnx
      refine ⟨.inr (.inr ⟨ch, ?_⟩), hK⟩
      have e : setPc i.a.toNat (setCur t (thr (cur t) fs0 ⟨q, p + 1, ws0.length⟩ (ws0 ++ (loc ++ op)))) = setCur t (thr (cur t) fs0 ⟨q, i.a.toNat, ws0.length⟩ (ws0 ++ (loc ++ op))) := by
        unfold setPc
        rw [cur_set hn, set_set, topF_thr]
        unfold setTop thr
        rw [snoc_set]
      show Ok M T (setPc _ _) ch
      rw [e]
      have hc : ((i.a.toNat : Nat) : Int) = i.a := by omega
      exact hok.next a (by rw [hc]; exact k1) k2 a.loc a.op rfl (by simp; omega)
    | _ => exfalso; omega
  · rw [if_neg (by omega), if_neg (by omega), if_neg (by omega), if_neg (by omega), if_neg (by omega), if_neg (by omega), if_neg (by omega), if_neg (by omega), if_neg (by omega), if_neg (by omega), if_neg (by omega), if_pos ho]
    have hb := hr.ok.box (.inr ho)
    have htk := hV.take s i.a.toNat hK (by omega) (hw ho)
    have hbt : plain (M.boxes.getD i.a.toNat default).1 = true := by
      have hm : M.boxes.getD i.a.toNat default ∈ M.boxes := by
        rw [List.getD_eq_getElem?_getD, List.getElem?_eq_getElem (by omega)]; exact List.getElem_mem _
      exact (hC.form.boxes _ hm).1
    have hbt' : (M.boxes.getD i.a.toNat default).1 < 10 := by
      unfold plain at hbt
      rw [Bool.or_eq_true, decide_eq_true_eq, decide_eq_true_eq] at hbt
      omega
    have hpu := fun {op1 s1 ty v} => pushes hV hok a hr (by omega) (by omega) (by omega) (op1 := op1) (s1 := s1) (ty := ty) (v := v)
    cases hr.does with
    | recv s1 h1 hi => exact hpu rfl a.op ⟨htk.2.1, htk.2.2, fun h => by omega⟩ a.loc (hV.tell _ _ htk.1) (Nat.le_refl _)
    | _ => exfalso; omega
end
end Go.Proofs.Ytgnhfinabhimpaa.Vm

/- A right module's task keeps what is known: calls, returns, generators. Plain Lean. -/
namespace Go.Proofs.Ytgnhfinabhimpaa.Vm
set_option linter.unusedVariables false
set_option linter.unusedSimpArgs false
set_option linter.unusedSectionVars false
open ImgM Ver Opt

theorem head_facts {M : Mdl} {u : Unt} (h : Ver.head M u = 0) : u.params.toNat ≤ u.locals.length ∧ u.locals.length ≤ 200 ∧ (u.kind = 3 → plain u.result = true ∧ plain u.takes = true) := by
  unfold Ver.head at h
  by_cases e1 : u.kind ≠ 2 ∧ u.kind ≠ 3 ∧ u.kind ≠ 4
  · rw [if_pos e1] at h; cases h
  rw [if_neg e1] at h
  by_cases e2 : 200 < u.locals.length ∨ u.params < 0 ∨ 6 < u.params ∨ (u.locals.length : Int) < u.params ∨ (u.kind = 4 ∧ 0 < u.params)
  · rw [if_pos e2] at h; cases h
  rw [if_neg e2] at h
  by_cases e3 : u.code.length < 1 ∨ 4000 < u.code.length
  · rw [if_pos e3] at h; cases h
  rw [if_neg e3] at h
  by_cases e4 : (u.kind ≠ 4 ∧ plain u.result = false) ∨ (u.kind = 3 ∧ plain u.takes = false)
  · rw [if_pos e4] at h; cases h
  refine ⟨by omega, by omega, fun hk => ⟨?_, ?_⟩⟩
  · cases hp : plain u.result with
    | true => rfl
    | false => exact absurd (.inl ⟨by omega, hp⟩) e4
  · cases hp : plain u.takes with
    | true => rfl
    | false => exact absurd (.inr ⟨hk, hp⟩) e4
theorem unt_head {M : Mdl} {T : Nat → Int → Option Shape} (hC : Certs M T) {k : Nat} (hk : k < M.units.length) : Ver.head M (unt M k) = 0 := by
  have hu : unt M k ∈ M.units := by
    unfold unt
    rw [List.getD_eq_getElem?_getD, List.getElem?_eq_getElem hk]; exact List.getElem_mem _
  exact (hC.form.units _ hu).1
theorem plain_vOk {gs : List Nat} {t : Int} (h : plain t = true) : vOk gs t 0 := by
  unfold plain at h
  rw [Bool.or_eq_true, decide_eq_true_eq, decide_eq_true_eq] at h
  exact ⟨by unfold In64; omega, fun _ => .inl rfl, fun h => by omega⟩
theorem has0_at {u : Unt} {j : Nat} (h : (Ver.has0 u).getD j false = true) : j < u.params.toNat := by
  unfold Ver.has0 at h
  refine Nat.lt_of_not_le fun hle => ?_
  rw [List.getD_eq_getElem?_getD, List.getElem?_append_right (by simp; omega)] at h
  simp at h
  cases hx : (List.replicate (u.locals.length - u.params.toNat) false)[j - u.params.toNat]? with
  | none => rw [hx] at h; cases h
  | some b =>
    rw [hx] at h
    have := List.eq_of_mem_replicate (List.mem_of_getElem? hx)
    subst this
    cases h
/-- a unit ahead of its first instruction -/
theorem start_seg {M : Mdl} {T : Nat → Int → Option Shape} (hC : Certs M T) {gs : List Nat} {k : Nat} (hk : k < M.units.length) {a : List Int} (ha : Typs gs ((unt M k).locals.take (unt M k).params.toNat) a) {ws : List Int} (hw : ws.length = (unt M k).locals.length) (hp : ∀ j, j < (unt M k).params.toNat → ws.getD j 0 = a.getD j 0) (h64 : ∀ v ∈ ws, In64 v) : Seg M T gs k 0 ws [] := by
  obtain ⟨h0, h1, h2⟩ := (hC.cert k hk).start
  have hh := head_facts (unt_head hC hk)
  refine ⟨hk, [], h0, ws, [], by simpa using h1, by simp, ⟨hw, fun j hj hx => ?_, h64⟩, .nil⟩
  have hjp := has0_at (h2.2 j hx)
  rw [hp j hjp]
  have key : ∀ {ts xs : List Int}, Typs gs ts xs → ∀ j, j < ts.length → vOk gs (ts.getD j 0) (xs.getD j 0) := by
    intro ts xs h
    induction h with
    | nil => intro j hj; simp at hj
    | cons g1 _ ih =>
      intro j hj
      cases j with
      | zero => exact g1
      | succ j => exact ih j (by simpa using hj)
  have := key ha j (by simp; omega)
  rw [List.getD_eq_getElem?_getD, List.getElem?_take, if_pos hjp, ← List.getD_eq_getElem?_getD] at this
  exact this
/-- what it waited for is put there -/
theorem Stk.got {M : Mdl} {T : Nat → Int → Option Shape} {gs : List Nat} {fs : List Fr} {ws : List Int} {ty v : Int} (h : Stk M T gs fs ws [ty]) (hv : vOk gs ty v) : Stk M T gs fs (ws ++ [v]) [] := by
  obtain ⟨fs0, ws0, q, p, seg, e1, e2, ⟨hq, st, hh, loc, op, g1, g2, g3, g4⟩, hu⟩ := h.view
  rw [e1, e2, g2]
  have e : ws0 ++ (loc ++ op) ++ [v] = ws0 ++ (loc ++ (op ++ [v])) := by simp
  rw [e]
  exact hu.stk ⟨hq, st ++ [ty], hh, loc, op ++ [v], by simpa using g1, rfl, g3, g4.app (Typs.one hv)⟩
section
variable {M : Mdl} {T : Nat → Int → Option Shape} {t : Tk} {ch : List Nat} {fs0 : List Fr} {ws0 : List Int} {q p : Nat} {st : List Int} {hh : List Bool} {loc op : List Int} {i : Ins} {st' : List Int} {h' : List Bool}
variable {ν : Type} {V : Env ν} {K : ν → Prop} (hC : Certs M T) (hV : EnvOk V M K) (hok : Ok M T t ch) (a : At M T t fs0 ws0 q p st hh loc op) (hr : Here M T q p i st hh st' h') {s : ν} (hK : K s)
theorem pushN_5 (hV : EnvOk V M K) : ∀ (n : Nat) (r : Tk × ν), r.1.st = 5 → K r.2 → (pushN V n r).1.st = 5 ∧ K (pushN V n r).2
  | 0, r, h, hK => ⟨h, hK⟩
  | n + 1, r, h, hK => by
    unfold pushN
    have : (push V 0 r).1.st = 5 ∧ K (push V 0 r).2 := by
      unfold push
      split
      · unfold trap; rw [if_pos h]; exact ⟨h, hK⟩
      · exact ⟨h, hK⟩
    exact pushN_5 hV n _ this.1 this.2
theorem pushN_res (hV : EnvOk V M K) {t : Tk} (hn : t.now < t.cs.length) {s : ν} (hK : K s) : ∀ (n : Nat) (c : Co), c.ws.length ≤ 400 → ((pushN V n (setCur t c, s)).1.st = 5 ∧ K (pushN V n (setCur t c, s)).2) ∨ (c.ws.length + n ≤ 400 ∧ pushN V n (setCur t c, s) = (setCur t { c with ws := c.ws ++ List.replicate n 0 }, s))
  | 0, c, hl => .inr ⟨hl, by unfold pushN; simp⟩
  | n + 1, c, hl => by
    unfold pushN
    by_cases h : c.ws.length = 400
    · left
      have e : push V 0 (setCur t c, s) = trap V 4 (setCur t c, s) := by unfold push; simp only [cur_set hn]; rw [if_pos h]
      rw [e]
      have ht : (trap V 4 (setCur t c, s)).1.st = 5 ∧ K (trap V 4 (setCur t c, s)).2 := by
        unfold trap
        split
        · rename_i h5; exact ⟨h5, hK⟩
        · exact ⟨rfl, hV.tell _ _ hK⟩
      exact pushN_5 hV n _ ht.1 ht.2
    · have e : push V 0 (setCur t c, s) = (setCur t { c with ws := c.ws ++ [0] }, s) := by
        unfold push; simp only [cur_set hn, set_set]; rw [if_neg h]
      rw [e]
      rcases pushN_res hV hn hK n { c with ws := c.ws ++ [0] } (by simp; omega) with g | ⟨g1, g2⟩
      · exact .inl g
      · refine .inr ⟨by simp at g1; omega, ?_⟩
        rw [g2]
        congr 2
        simp [List.replicate_succ]
include hC hV hok a hr hK
theorem exec_call (ho : i.op = 23) : Res M T K (exec V M i (setPc (p + 1) t, s)) := by
  have hn := hok.nowlt
  rw [a.pc]
  have hwl := wslen hok a
  obtain ⟨k0, k1, k2⟩ := unit_eq (hr.ok.call ho)
  have hk : i.a.toNat < M.units.length := by omega
  have hkk : (unt M i.a.toNat).kind = 2 := k2
  have hhf := head_facts (unt_head hC hk)
  have hon := on hok a hr (by omega) (by omega) (by omega)
  have hlens := (hok.lens _ hn).2
  rw [← cur_co, a.fr] at hlens
  unfold exec
  rw [if_neg (by omega), if_neg (by omega), if_neg (by omega), if_neg (by omega), if_neg (by omega), if_neg (by omega), if_neg (by omega), if_neg (by omega), if_neg (by omega), if_neg (by omega), if_neg (by omega), if_neg (by omega), if_neg (by omega), if_pos ho]
  cases hr.does with
  | call s1 h1 hi =>
    obtain ⟨op1, ar, e1, g1, g2⟩ := a.op.split
    have harl : ar.length = (unt M i.a.toNat).params.toNat := by
      have := g2.len
      rw [← this]
      show ((unt M i.a.toNat).locals.take (unt M i.a.toNat).params.toNat).length = _
      simp; omega
    unfold callU
    simp only [cur_set hn, set_set]
    split
    · exact trap_res hV hK
    · rename_i h40
      have hfr : (thr (cur t) fs0 ⟨q, p + 1, ws0.length⟩ (ws0 ++ (loc ++ op))).fr = fs0 ++ [⟨q, p + 1, ws0.length⟩] := rfl
      have hws : (thr (cur t) fs0 ⟨q, p + 1, ws0.length⟩ (ws0 ++ (loc ++ op))).ws = (ws0 ++ (loc ++ op1)) ++ ar := by
        show ws0 ++ (loc ++ op) = _
        rw [e1]; simp
      have hbase : (thr (cur t) fs0 ⟨q, p + 1, ws0.length⟩ (ws0 ++ (loc ++ op))).ws.length - (unt M i.a.toNat).params.toNat = (ws0 ++ (loc ++ op1)).length := by rw [hws, List.length_append, harl]; omega
      rw [hbase]
      have hlen : (ws0 ++ (loc ++ op)).length ≤ 400 := by simp; omega
      rcases pushN_res hV hn hK ((unt M i.a.toNat).locals.length - (unt M i.a.toNat).params.toNat) { thr (cur t) fs0 ⟨q, p + 1, ws0.length⟩ (ws0 ++ (loc ++ op)) with fr := (fs0 ++ [⟨q, p + 1, ws0.length⟩]) ++ [⟨i.a.toNat, 0, (ws0 ++ (loc ++ op1)).length⟩] } hlen with g | ⟨g3, g4⟩
      · exact ⟨.inl g.1, g.2⟩
      · rw [show ({ thr (cur t) fs0 ⟨q, p + 1, ws0.length⟩ (ws0 ++ (loc ++ op)) with fr := (thr (cur t) fs0 ⟨q, p + 1, ws0.length⟩ (ws0 ++ (loc ++ op))).fr ++ [⟨i.a.toNat, 0, (ws0 ++ (loc ++ op1)).length⟩] } : Co) = { thr (cur t) fs0 ⟨q, p + 1, ws0.length⟩ (ws0 ++ (loc ++ op)) with fr := (fs0 ++ [⟨q, p + 1, ws0.length⟩]) ++ [⟨i.a.toNat, 0, (ws0 ++ (loc ++ op1)).length⟩] } from rfl, g4]
        refine ⟨.inr (.inr ⟨ch, hok.put rfl rfl ?_ ?_ ⟨?_, ?_⟩⟩), hK⟩
        · show bot ((fs0 ++ [_]) ++ [_]) = bot (cur t).fr
          rw [bot_app _ _ (by simp), a.fr]
          exact bot_snoc _ _ _ rfl
        · have e2 : ({ thr (cur t) fs0 ⟨q, p + 1, ws0.length⟩ (ws0 ++ (loc ++ op)) with fr := (fs0 ++ [⟨q, p + 1, ws0.length⟩]) ++ [⟨i.a.toNat, 0, (ws0 ++ (loc ++ op1)).length⟩] } : Co).ws ++ List.replicate ((unt M i.a.toNat).locals.length - (unt M i.a.toNat).params.toNat) 0 = (ws0 ++ (loc ++ op1)) ++ (ar ++ List.replicate ((unt M i.a.toNat).locals.length - (unt M i.a.toNat).params.toNat) 0) := by
            show (thr (cur t) fs0 ⟨q, p + 1, ws0.length⟩ (ws0 ++ (loc ++ op))).ws ++ _ = _
            rw [hws]; simp
          show Stk M T (gsOf t) ((fs0 ++ [_]) ++ [_]) (_ ++ List.replicate _ 0) []
          rw [e2]
          obtain ⟨h2, t1, t2⟩ := hon
          refine .more (a.under.stk ⟨a.hq, s1, h2, loc, op1, t1, rfl, a.loc.le t2, g1⟩) hkk (start_seg hC hk g2 (by simp [harl]; omega) (fun j hj => ?_) (fun v hv => ?_))
          · rw [List.getD_eq_getElem?_getD, List.getElem?_append_left (by omega), List.getD_eq_getElem?_getD]
          · rcases List.mem_append.1 hv with hv | hv
            · exact g2.in64 v hv
            · rw [List.eq_of_mem_replicate hv]; unfold In64; omega
        · show (_ ++ List.replicate _ 0).length ≤ 400
          rw [List.length_append, List.length_replicate]
          exact g3
        · show ((fs0 ++ [_]) ++ [_]).length ≤ 40
          rw [hfr] at h40
          simp at hlens h40 ⊢
          omega
  | _ => exfalso; omega
theorem exec_ret (ho : i.op = 24) : Res M T K (exec V M i (setPc (p + 1) t, s)) := by
  have hn := hok.nowlt
  rw [a.pc]
  have hwl := wslen hok a
  unfold exec
  rw [if_neg (by omega), if_neg (by omega), if_neg (by omega), if_neg (by omega), if_neg (by omega), if_neg (by omega), if_neg (by omega), if_neg (by omega), if_neg (by omega), if_neg (by omega), if_neg (by omega), if_neg (by omega), if_neg (by omega), if_neg (by omega), if_pos ho]
  have hkd := hok.kinds _ hn
  rw [← cur_co, a.fr] at hkd
  have hlens := (hok.lens _ hn).2
  rw [← cur_co, a.fr] at hlens
  cases hr.does with
  | ret h1 hi hk2 =>
    obtain ⟨v, e1, hv⟩ := a.op.un1
    rcases a.under with ⟨u1, u2⟩ | ⟨u1, u2⟩
    · subst u1
      have hb : bot ([] ++ [(⟨q, p, ws0.length⟩ : Fr)]) = q := rfl
      rw [hb, hk2] at hkd
      exfalso
      split at hkd <;> omega
    · have hl := last_set (c := thr (cur t) fs0 ⟨q, p + 1, ws0.length⟩ (ws0 ++ (loc ++ op))) (w := ws0 ++ loc) (v := v) hn (by show ws0 ++ (loc ++ op) = _; rw [e1]; simp)
      unfold ret
      simp only [hl, cur_set hn, set_set, topF_thr]
      have hfs : (thr (cur t) fs0 ⟨q, p + 1, ws0.length⟩ (ws0 ++ (loc ++ op))).fr.take ((thr (cur t) fs0 ⟨q, p + 1, ws0.length⟩ (ws0 ++ (loc ++ op))).fr.length - 1) = fs0 := by
        show (fs0 ++ [_]).take ((fs0 ++ [_]).length - 1) = fs0
        simp
      have hws : ((thr (cur t) fs0 ⟨q, p + 1, ws0.length⟩ (ws0 ++ (loc ++ op))).ws.take ((thr (cur t) fs0 ⟨q, p + 1, ws0.length⟩ (ws0 ++ (loc ++ op))).ws.length - 1)).take ws0.length = ws0 := by
        show ((ws0 ++ (loc ++ op)).take ((ws0 ++ (loc ++ op)).length - 1)).take ws0.length = ws0
        rw [List.take_take, Nat.min_eq_left (by rw [e1]; simp)]
        simp
      rw [hfs, hws]
      have hne : fs0 ≠ [] := fun h => by
        subst h
        obtain ⟨f1, w1, q1, p1, sg, x1, -⟩ := u1.view
        simp at x1
      refine push_res hV hn hK (fun hlt => ⟨ch, hok.put rfl rfl ?_ (u1.got hv) ⟨hlt' hlt, ?_⟩⟩) ?_
      · show bot fs0 = bot (cur t).fr
        rw [a.fr, bot_app _ _ hne]
      · show fs0.length ≤ 40
        simp at hlens; omega
      · show ws0.length ≤ 400; omega
  | _ => exfalso; omega
where hlt' {ws : List Int} {v : Int} (h : ws.length + 1 ≤ 400) : (ws ++ [v]).length ≤ 400 := by simpa using h
end
end Go.Proofs.Ytgnhfinabhimpaa.Vm
