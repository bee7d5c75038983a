/- What is known at an instruction is so: the invariant of a right module's task. Plain Lean. -/
import Derived.Test.YtfeajpghabjaaaaM23
namespace Go.Proofs.Ytfeajpghabjaaaa.Vm
set_option linter.unusedVariables false
set_option linter.unusedSimpArgs false
open ImgM Ver Opt

/-- a word is of a type; gs: of which unit each thread is -/
def vOk (gs : List Nat) (t v : Int) : Prop := In64 v ∧ (t = 2 → v = 0 ∨ v = 1) ∧ (10 ≤ t → ∃ k : Nat, v = (k : Int) ∧ k < gs.length ∧ ((gs.getD k 0 : Nat) : Int) = t - 10 ∧ 0 < k)
theorem vOk.num {gs : List Nat} {v : Int} (h : In64 v) : vOk gs 1 v := ⟨h, fun h => by omega, fun h => by omega⟩
theorem vOk.bool {gs : List Nat} {b : Bool} : vOk gs 2 (yes b) := by
  cases b
  · exact ⟨by unfold yes In64; simp, fun _ => .inl rfl, fun h => by omega⟩
  · exact ⟨by unfold yes In64; simp, fun _ => .inr rfl, fun h => by omega⟩
theorem vOk.truth {gs : List Nat} {v : Int} (h : v = 0 ∨ v = 1) : vOk gs 2 v := ⟨by unfold In64; omega, fun _ => h, fun h => by omega⟩
theorem vOk.grow {gs gs' : List Nat} {t v : Int} (h : vOk gs t v) : vOk (gs ++ gs') t v := by
  refine ⟨h.1, h.2.1, fun ht => ?_⟩
  obtain ⟨k, h1, h2, h3, h4⟩ := h.2.2 ht
  refine ⟨k, h1, by simp; omega, ?_, h4⟩
  rw [← h3, List.getD_eq_getElem?_getD, List.getElem?_append_left h2, List.getD_eq_getElem?_getD]
inductive Typs (gs : List Nat) : List Int → List Int → Prop
  | nil : Typs gs [] []
  | cons {t v : Int} {ts vs : List Int} : vOk gs t v → Typs gs ts vs → Typs gs (t :: ts) (v :: vs)
theorem Typs.len {gs : List Nat} {a x : List Int} (h : Typs gs a x) : a.length = x.length := by induction h with | nil => rfl | cons _ _ ih => simp [ih]
theorem Typs.app {gs : List Nat} {a x b y : List Int} (h : Typs gs a x) (k : Typs gs b y) : Typs gs (a ++ b) (x ++ y) := by induction h with | nil => exact k | cons h1 _ ih => exact .cons h1 ih
theorem Typs.split {gs : List Nat} : ∀ {a b z : List Int}, Typs gs (a ++ b) z → ∃ x y, z = x ++ y ∧ Typs gs a x ∧ Typs gs b y
  | [], b, z, h => ⟨[], z, rfl, .nil, h⟩
  | t :: a, b, z, h => by
    cases h with
    | cons h1 h2 =>
      obtain ⟨x, y, e, g1, g2⟩ := Typs.split h2
      exact ⟨_ :: x, y, by rw [e]; rfl, .cons h1 g1, g2⟩
theorem Typs.one {gs : List Nat} {t v : Int} (h : vOk gs t v) : Typs gs [t] [v] := .cons h .nil
theorem Typs.un1 {gs : List Nat} {t : Int} {y : List Int} (h : Typs gs [t] y) : ∃ v, y = [v] ∧ vOk gs t v := by
  cases h with
  | cons h1 h2 => cases h2; exact ⟨_, rfl, h1⟩
theorem Typs.un2 {gs : List Nat} {t u : Int} {y : List Int} (h : Typs gs [t, u] y) : ∃ v w, y = [v, w] ∧ vOk gs t v ∧ vOk gs u w := by
  cases h with
  | cons h1 h2 => obtain ⟨w, rfl, hw⟩ := Typs.un1 h2; exact ⟨_, _, rfl, h1, hw⟩
theorem Typs.grow {gs gs' : List Nat} {a x : List Int} (h : Typs gs a x) : Typs (gs ++ gs') a x := by induction h with | nil => exact .nil | cons h1 _ ih => exact .cons h1.grow ih
theorem Typs.in64 {gs : List Nat} {a x : List Int} (h : Typs gs a x) : ∀ v ∈ x, In64 v := by
  induction h with
  | nil => intro v h; cases h
  | cons h1 _ ih => intro v h; rcases List.mem_cons.1 h with rfl | h; exact h1.1; exact ih v h
/-- locals: each that has something has what is of its type -/
structure Loc (gs : List Nat) (ts : List Int) (h : List Bool) (loc : List Int) : Prop where
  len : loc.length = ts.length
  ok : ∀ j, j < ts.length → h.getD j false = true → vOk gs (ts.getD j 0) (loc.getD j 0)
  in64 : ∀ v ∈ loc, In64 v
theorem Loc.le {gs : List Nat} {ts : List Int} {h h' : List Bool} {loc : List Int} (a : Loc gs ts h loc) (b : Le h' h) : Loc gs ts h' loc := ⟨a.len, fun j hj x => a.ok j hj (b.2 j x), a.in64⟩
theorem Loc.grow {gs gs' : List Nat} {ts : List Int} {h : List Bool} {loc : List Int} (a : Loc gs ts h loc) : Loc (gs ++ gs') ts h loc := ⟨a.len, fun j hj x => (a.ok j hj x).grow, a.in64⟩
theorem getD_setZ {l : List Int} {k j : Nat} {v : Int} (hk : k < l.length) : (l.set k v).getD j 0 = if k = j then v else l.getD j 0 := by
  simp only [List.getD_eq_getElem?_getD, List.getElem?_set]
  by_cases h : k = j
  · subst h; simp [hk]
  · simp [h]
theorem Loc.put {gs : List Nat} {ts : List Int} {h : List Bool} {loc : List Int} (a : Loc gs ts h loc) {k : Nat} (hk : k < ts.length) {v : Int} (hv : vOk gs (ts.getD k 0) v) : Loc gs ts (h.set k true) (loc.set k v) := by
  have hl := a.len
  refine ⟨by rw [List.length_set]; exact hl, fun j hj x => ?_, fun w hw => ?_⟩
  · rw [getD_setZ (by omega)]
    by_cases hkj : k = j
    · subst hkj; rw [if_pos rfl]; exact hv
    · rw [if_neg hkj]
      refine a.ok j hj ?_
      rw [getD_setB, if_neg (by omega)] at x
      exact x
  · rcases List.mem_or_eq_of_mem_set hw with hw | rfl
    · exact a.in64 w hw
    · exact hv.1
section
variable (M : Mdl) (T : Nat → Int → Option Shape)
/-- a unit at work, at an instruction: what is on top of its words when it goes on is 'pend' -/
def Seg (gs : List Nat) (q p : Nat) (seg pend : List Int) : Prop :=
  q < M.units.length ∧ ∃ st h loc op, T q (p : Int) = some (st ++ pend, h) ∧ seg = loc ++ op ∧ Loc gs (unt M q).locals h loc ∧ Typs gs st op
inductive Stk (gs : List Nat) : List Fr → List Int → List Int → Prop
  | one {q p : Nat} {seg pend : List Int} (h : Seg M T gs q p seg pend) : Stk gs [⟨q, p, 0⟩] seg pend
  | more {fs : List Fr} {ws : List Int} {q p : Nat} {seg pend : List Int} (hs : Stk gs fs ws [(unt M q).result]) (hk : (unt M q).kind = 2) (h : Seg M T gs q p seg pend) : Stk gs (fs ++ [⟨q, p, ws.length⟩]) (ws ++ seg) pend
/-- below a unit at work -/
def Under (gs : List Nat) (q : Nat) (fs : List Fr) (ws : List Int) : Prop := (fs = [] ∧ ws = []) ∨ (Stk M T gs fs ws [(unt M q).result] ∧ (unt M q).kind = 2)
end
section
variable {M : Mdl} {T : Nat → Int → Option Shape} {gs gs' : List Nat}
theorem Seg.grow {q p : Nat} {seg pend : List Int} (h : Seg M T gs q p seg pend) : Seg M T (gs ++ gs') q p seg pend := by
  obtain ⟨h1, st, hh, loc, op, h2, h3, h4, h5⟩ := h
  exact ⟨h1, st, hh, loc, op, h2, h3, h4.grow, h5.grow⟩
theorem Stk.grow {fs : List Fr} {ws pend : List Int} (h : Stk M T gs fs ws pend) : Stk M T (gs ++ gs') fs ws pend := by
  induction h with
  | one h => exact .one h.grow
  | more _ hk h ih => exact .more ih hk h.grow
theorem Stk.view {fs : List Fr} {ws pend : List Int} (h : Stk M T gs fs ws pend) : ∃ fs0 ws0 q p seg, fs = fs0 ++ [⟨q, p, ws0.length⟩] ∧ ws = ws0 ++ seg ∧ Seg M T gs q p seg pend ∧ Under M T gs q fs0 ws0 := by
  cases h with
  | one h => exact ⟨[], [], _, _, _, rfl, rfl, h, .inl ⟨rfl, rfl⟩⟩
  | more hs hk h => exact ⟨_, _, _, _, _, rfl, rfl, h, .inr ⟨hs, hk⟩⟩
theorem Under.stk {q p : Nat} {fs : List Fr} {ws seg pend : List Int} (h : Under M T gs q fs ws) (k : Seg M T gs q p seg pend) : Stk M T gs (fs ++ [⟨q, p, ws.length⟩]) (ws ++ seg) pend := by
  rcases h with ⟨rfl, rfl⟩ | ⟨h1, h2⟩
  · exact .one k
  · exact .more h1 h2 k
end
def bot (fs : List Fr) : Nat := (fs.getD 0 default).unit
theorem bot_snoc (fs : List Fr) (f f' : Fr) (h : f'.unit = f.unit) : bot (fs ++ [f']) = bot (fs ++ [f]) := by
  cases fs with
  | nil => exact h
  | cons a r => rfl
theorem bot_app (fs gs : List Fr) (h : fs ≠ []) : bot (fs ++ gs) = bot fs := by
  cases fs with
  | nil => exact absurd rfl h
  | cons a r => rfl
def gsOf (t : Tk) : List Nat := t.cs.map fun c => bot c.fr
def co (t : Tk) (k : Nat) : Co := t.cs.getD k default
/-- a right module's task, where it is known what is so; ch: the threads that are going, each resumed by the next one -/
structure Ok (M : Mdl) (T : Nat → Int → Option Shape) (t : Tk) (ch : List Nat) : Prop where
  now : ch[0]? = some t.now
  few : t.cs.length ≤ 31
  nodup : ch.Nodup
  mem : ∀ k ∈ ch, k < t.cs.length
  going : ∀ k, k < t.cs.length → ((co t k).st = 2 ↔ k ∈ ch)
  chain : ∀ i k, ch[i]? = some k → (co t k).up = ch[i + 1]?
  root : ∀ i k, ch[i]? = some k → ch[i + 1]? = none → k = 0
  top : Stk M T (gsOf t) (cur t).fr (cur t).ws []
  wait : ∀ i d k, ch[i]? = some d → ch[i + 1]? = some k → Stk M T (gsOf t) (co t k).fr (co t k).ws [(unt M (bot (co t d).fr)).result]
  fresh : ∀ k, k < t.cs.length → (co t k).st = 0 → Stk M T (gsOf t) (co t k).fr (co t k).ws []
  held : ∀ k, k < t.cs.length → (co t k).st = 1 → Stk M T (gsOf t) (co t k).fr (co t k).ws [(unt M (bot (co t k).fr)).takes]
  lens : ∀ k, k < t.cs.length → (co t k).ws.length ≤ 400 ∧ (co t k).fr.length ≤ 40
  kinds : ∀ k, k < t.cs.length → bot (co t k).fr < M.units.length ∧ (unt M (bot (co t k).fr)).kind = if k = 0 then 4 else 3
  sts : ∀ k, k < t.cs.length → (co t k).st ≤ 3
theorem Ok.nowlt {M : Mdl} {T : Nat → Int → Option Shape} {t : Tk} {ch : List Nat} (h : Ok M T t ch) : t.now < t.cs.length := h.mem _ (List.mem_of_getElem? h.now)
theorem cur_co (t : Tk) : cur t = co t t.now := rfl
theorem co_setC {t : Tk} {k j : Nat} {c : Co} (h : k < t.cs.length) : co (setC t k c) j = if k = j then c else co t j := by
  unfold co setC
  simp only [List.getD_eq_getElem?_getD, List.getElem?_set]
  by_cases hk : k = j
  · subst hk; simp [h]
  · simp [hk]
theorem setC_len (t : Tk) (k : Nat) (c : Co) : (setC t k c).cs.length = t.cs.length := List.length_set
theorem cur_set {t : Tk} {c : Co} (h : t.now < t.cs.length) : cur (setCur t c) = c := by
  show co (setC t t.now c) t.now = c
  rw [co_setC h, if_pos rfl]
theorem set_set (t : Tk) (c d : Co) : setCur (setCur t c) d = setCur t d := by
  unfold setCur setC
  simp [List.set_set]
theorem set_now (t : Tk) (c : Co) : (setCur t c).now = t.now := rfl
theorem set_len (t : Tk) (c : Co) : (setCur t c).cs.length = t.cs.length := List.length_set
theorem gsOf_len (t : Tk) : (gsOf t).length = t.cs.length := List.length_map _
theorem gsOf_at (t : Tk) {k : Nat} (h : k < t.cs.length) : (gsOf t).getD k 0 = bot (co t k).fr := by
  unfold gsOf co
  rw [List.getD_eq_getElem?_getD, List.getElem?_map, List.getElem?_eq_getElem h, List.getD_eq_getElem?_getD, List.getElem?_eq_getElem h]
  rfl
theorem gsOf_setC {t : Tk} {k : Nat} {c : Co} (h : k < t.cs.length) (hb : bot c.fr = bot (co t k).fr) : gsOf (setC t k c) = gsOf t := by
  unfold gsOf setC
  simp only [List.map_set]
  rw [hb]
  refine List.ext_getElem (by simp) (fun i h1 h2 => ?_)
  rw [List.getElem_set]
  split
  · rename_i hi; subst hi
    unfold co
    rw [List.getElem_map, List.getD_eq_getElem?_getD, List.getElem?_eq_getElem h]; rfl
  · rfl
theorem nodup_at : ∀ {l : List Nat}, l.Nodup → ∀ {i j a : Nat}, l[i]? = some a → l[j]? = some a → i = j
  | [], _, i, j, a, h, _ => by simp at h
  | x :: l, hn, i, j, a, hi, hj => by
    obtain ⟨h1, h2⟩ := List.nodup_cons.1 hn
    cases i with
    | zero =>
      cases j with
      | zero => rfl
      | succ j =>
        simp at hi hj
        subst hi
        exact absurd (List.mem_of_getElem? hj) h1
    | succ i =>
      cases j with
      | zero =>
        simp at hi hj
        subst hj
        exact absurd (List.mem_of_getElem? hi) h1
      | succ j =>
        have := nodup_at h2 (i := i) (j := j) (a := a) (by simpa using hi) (by simpa using hj)
        omega
/-- the current thread alone, changed -/
theorem Ok.put {M : Mdl} {T : Nat → Int → Option Shape} {t : Tk} {ch : List Nat} (h : Ok M T t ch) {c : Co} (hst : c.st = (cur t).st) (hup : c.up = (cur t).up) (hb : bot c.fr = bot (cur t).fr)
    (hs : Stk M T (gsOf t) c.fr c.ws []) (hl : c.ws.length ≤ 400 ∧ c.fr.length ≤ 40) : Ok M T (setCur t c) ch := by
  have hn := h.nowlt
  have hg : gsOf (setCur t c) = gsOf t := gsOf_setC hn hb
  have hc : ∀ j, co (setCur t c) j = if t.now = j then c else co t j := fun j => co_setC hn
  have hcur : (co (setCur t c) t.now) = c := by rw [hc, if_pos rfl]
  have hst' : ∀ j, (co (setCur t c) j).st = (co t j).st := fun j => by
    rw [hc]; split
    · rename_i e; subst e; exact hst
    · rfl
  have hup' : ∀ j, (co (setCur t c) j).up = (co t j).up := fun j => by
    rw [hc]; split
    · rename_i e; subst e; exact hup
    · rfl
  have hb' : ∀ j, bot (co (setCur t c) j).fr = bot (co t j).fr := fun j => by
    rw [hc]; split
    · rename_i e; subst e; exact hb
    · rfl
  have hne : ∀ j, t.now ≠ j → co (setCur t c) j = co t j := fun j hj => by rw [hc, if_neg hj]
  have hin : t.now ∈ ch := List.mem_of_getElem? h.now
  refine ⟨h.now, by rw [set_len]; exact h.few, h.nodup, by rw [set_len]; exact h.mem, fun k hk => ?_, fun i k hk => ?_, h.root, ?_, fun i d k hd hk => ?_, fun k hk h0 => ?_, fun k hk h1 => ?_, fun k hk => ?_, fun k hk => ?_, fun k hk => ?_⟩
  · rw [set_len] at hk; rw [hst']; exact h.going k hk
  · rw [hup']; exact h.chain i k hk
  · rw [hg, cur_set hn]; exact hs
  · rw [hg, hb']
    have hk' : t.now ≠ k := fun e => by
      subst e
      have h0 := h.now
      have := nodup_at h.nodup h0 hk
      omega
    rw [hne k hk']; exact h.wait i d k hd hk
  · rw [set_len] at hk; rw [hst'] at h0
    have hk' : t.now ≠ k := fun e => by subst e; have := (h.going _ hk).2 hin; omega
    rw [hg, hne k hk']; exact h.fresh k hk h0
  · rw [set_len] at hk; rw [hst'] at h1
    have hk' : t.now ≠ k := fun e => by subst e; have := (h.going _ hk).2 hin; omega
    rw [hg, hne k hk']; exact h.held k hk h1
  · rw [set_len] at hk; rw [hc]; split
    · exact hl
    · exact h.lens k hk
  · rw [set_len] at hk; rw [hb']; exact h.kinds k hk
  · rw [set_len] at hk; rw [hst']; exact h.sts k hk
end Go.Proofs.Ytfeajpghabjaaaa.Vm

/- A right module's task keeps what is known: each instruction. Plain Lean. -/
namespace Go.Proofs.Ytfeajpghabjaaaa.Vm
set_option linter.unusedVariables false
set_option linter.unusedSimpArgs false
set_option linter.unusedSectionVars false
open ImgM Ver Opt

/-- typings of all units -/
structure Certs (M : Mdl) (T : Nat → Int → Option Shape) : Prop where
  form : FormOk M
  in64 : ∀ q, q < M.units.length → ∀ i ∈ (unt M q).code, In64 i.n ∧ In64 i.a
  cert : ∀ q, q < M.units.length → Cert M (unt M q) (T q)
  lens : ∀ q p s, q < M.units.length → T q p = some s → s.2.length = (unt M q).locals.length
/-- what is sent and received is of the boxes' types -/
structure EnvOk {ν : Type} (V : Env ν) (M : Mdl) (K : ν → Prop) : Prop where
  take : ∀ s b, K s → b < M.boxes.length → V.empty s b = false → K (V.take s b).2 ∧ In64 (V.take s b).1 ∧ ((M.boxes.getD b default).1 = 2 → (V.take s b).1 = 0 ∨ (V.take s b).1 = 1)
  put : ∀ s b v, K s → b < M.boxes.length → V.full s b = false → In64 v → ((M.boxes.getD b default).1 = 2 → v = 0 ∨ v = 1) → K (V.put s b v)
  tell : ∀ s e, K s → K (V.tell s e)
/-- where a task stands -/
structure At (M : Mdl) (T : Nat → Int → Option Shape) (t : Tk) (fs0 : List Fr) (ws0 : List Int) (q p : Nat) (st : List Int) (h : List Bool) (loc op : List Int) : Prop where
  fr : (cur t).fr = fs0 ++ [⟨q, p, ws0.length⟩]
  ws : (cur t).ws = ws0 ++ (loc ++ op)
  hq : q < M.units.length
  hT : T q (p : Int) = some (st, h)
  loc : Loc (gsOf t) (unt M q).locals h loc
  op : Typs (gsOf t) st op
  under : Under M T (gsOf t) q fs0 ws0
section
variable {M : Mdl} {T : Nat → Int → Option Shape} {t : Tk} {ch : List Nat}
theorem Ok.at_ (h : Ok M T t ch) : ∃ fs0 ws0 q p st hh loc op, At M T t fs0 ws0 q p st hh loc op := by
  obtain ⟨fs0, ws0, q, p, seg, e1, e2, ⟨hq, st, hh, loc, op, g1, g2, g3, g4⟩, hu⟩ := h.top.view
  rw [List.append_nil] at g1
  exact ⟨fs0, ws0, q, p, st, hh, loc, op, e1, by rw [e2, g2], hq, g1, g3, g4, hu⟩
variable {fs0 : List Fr} {ws0 : List Int} {q p : Nat} {st : List Int} {hh : List Bool} {loc op : List Int}
theorem snoc_get {α : Type} [Inhabited α] (l : List α) (a : α) : (l ++ [a]).getD ((l ++ [a]).length - 1) default = a := by simp
theorem snoc_set {α : Type} (l : List α) (a b : α) : (l ++ [a]).set ((l ++ [a]).length - 1) b = l ++ [b] := by simp
theorem snoc_getZ (l : List Int) (a : Int) : (l ++ [a]).getD ((l ++ [a]).length - 1) 0 = a := by simp
theorem snoc_take {α : Type} (l a : List α) : (l ++ a).take ((l ++ a).length - a.length) = l := by simp
theorem At.top (a : At M T t fs0 ws0 q p st hh loc op) : topF (cur t) = ⟨q, p, ws0.length⟩ := by
  unfold topF
  rw [a.fr]
  exact snoc_get _ _
/-- the current thread with its unit at another place -/
def thr (c : Co) (fs0 : List Fr) (f : Fr) (ws : List Int) : Co := ⟨c.st, c.up, fs0 ++ [f], ws⟩
theorem At.pc (a : At M T t fs0 ws0 q p st hh loc op) (n : Nat) : setPc n t = setCur t (thr (cur t) fs0 ⟨q, n, ws0.length⟩ (ws0 ++ (loc ++ op))) := by
  unfold setPc setTop thr
  rw [a.top, a.fr, snoc_set, a.ws]
theorem last_set {c : Co} {w : List Int} {v : Int} (hn : t.now < t.cs.length) (h : c.ws = w ++ [v]) : last (setCur t c) = v := by
  unfold last
  rw [cur_set hn, h]
  exact snoc_getZ _ _
theorem drop_set {c : Co} {w a : List Int} {n : Nat} (hn : t.now < t.cs.length) (h : c.ws = w ++ a) (ha : a.length = n) : drop n (setCur t c) = setCur t { c with ws := w } := by
  unfold drop
  rw [cur_set hn, set_set, h, ← ha, snoc_take]
/-- at another place of the same unit all is known again -/
theorem Ok.next (h : Ok M T t ch) (a : At M T t fs0 ws0 q p st hh loc op) {p' : Nat} {st' : List Int} {h1 h2 : List Bool} {loc' op' : List Int} (hT : T q (p' : Int) = some (st', h2)) (hle : Le h2 h1) (hl : Loc (gsOf t) (unt M q).locals h1 loc') (ht : Typs (gsOf t) st' op') {ws : List Int} (hws : ws = ws0 ++ (loc' ++ op')) (hlen : ws.length ≤ 400) :
    Ok M T (setCur t (thr (cur t) fs0 ⟨q, p', ws0.length⟩ ws)) ch := by
  subst hws
  have hlens := h.lens _ h.nowlt
  rw [← cur_co] at hlens
  refine h.put rfl rfl ?_ ?_ ⟨hlen, ?_⟩
  · show bot (fs0 ++ [_]) = bot (cur t).fr
    rw [a.fr]; exact bot_snoc _ _ _ rfl
  · exact a.under.stk ⟨a.hq, st', h2, loc', op', by rw [List.append_nil]; exact hT, rfl, hl.le hle, ht⟩
  · have := hlens.2
    rw [a.fr] at this
    show (fs0 ++ [_]).length ≤ 40
    simpa using this
/-- what comes of an instruction -/
def Res {ν : Type} (M : Mdl) (T : Nat → Int → Option Shape) (K : ν → Prop) (r : Tk × ν) : Prop := (r.1.st = 5 ∨ r.1.st = 4 ∨ ∃ ch', Ok M T r.1 ch') ∧ K r.2
variable {ν : Type} {V : Env ν} {K : ν → Prop} (hV : EnvOk V M K)
include hV
theorem trap_res {n : Int} {s : Tk × ν} (hK : K s.2) : Res M T K (trap V n s) := by
  unfold trap
  split
  · rename_i h; exact ⟨.inl h, hK⟩
  · exact ⟨.inl rfl, hV.tell _ _ hK⟩
theorem push_res {c : Co} {v : Int} {s : ν} (hn : t.now < t.cs.length) (hK : K s) (h : c.ws.length + 1 ≤ 400 → ∃ ch', Ok M T (setCur t { c with ws := c.ws ++ [v] }) ch') (hl : c.ws.length ≤ 400) : Res M T K (push V v (setCur t c, s)) := by
  unfold push
  simp only [cur_set hn, set_set]
  split
  · exact trap_res hV hK
  · exact ⟨.inr (.inr (h (by omega))), hK⟩
end
/-- the instruction at hand -/
structure Here (M : Mdl) (T : Nat → Int → Option Shape) (q p : Nat) (i : Ins) (st : List Int) (hh : List Bool) (st' : List Int) (h' : List Bool) : Prop where
  lt : p < (unt M q).code.length
  ins : (unt M q).code.getD p default = i
  does : Does M (unt M q) i st hh st' h'
  next : ∀ x ∈ nexts i (p : Int), 0 ≤ x ∧ ∃ h2, T q x = some (st', h2) ∧ Le h2 h'
  ok : InsOk M (unt M q) i
  in64 : In64 i.n ∧ In64 i.a
  inst : instr M (unt M q) i = 0
theorem At.here {M : Mdl} {T : Nat → Int → Option Shape} (hC : Certs M T) {t : Tk} {fs0 : List Fr} {ws0 : List Int} {q p : Nat} {st : List Int} {hh : List Bool} {loc op : List Int} (a : At M T t fs0 ws0 q p st hh loc op) : ∃ st' h', Here M T q p (insT M t) st hh st' h' := by
  have hc := hC.cert q a.hq
  have hr := hc.rng _ _ a.hT
  have hf := hc.fits _ _ a.hT
  have hi : insT M t = (unt M q).code.getD p default := by unfold insT; rw [a.top]
  have hlt : p < (unt M q).code.length := by omega
  have hm : (unt M q).code.getD p default ∈ (unt M q).code := Opt.mem_at hlt
  have hu : unt M q ∈ M.units := by
    unfold unt
    rw [List.getD_eq_getElem?_getD, List.getElem?_eq_getElem a.hq]; exact List.getElem_mem _
  have hio := instr_ok ((hC.form.units _ hu).2 _ hm)
  have e : Ver.ins (unt M q) (p : Int) = (unt M q).code.getD p default := rfl
  refine ⟨(sem M (unt M q) (insT M t) (st, hh)).stack, (sem M (unt M q) (insT M t) (st, hh)).has, hlt, hi.symm, ?_, fun x hx => ?_, by rw [hi]; exact hio, by rw [hi]; exact hC.in64 q a.hq _ hm, by rw [hi]; exact (hC.form.units _ hu).2 _ hm⟩
  · refine sem_does ?_ ?_
    · rw [hi]; exact hio.op
    · rw [hi, ← e]; exact hf.ok
  · have hn := hf.next x (by rw [e, ← hi]; exact hx)
    rw [e, ← hi] at hn
    obtain ⟨h2, g1, g2⟩ := hn
    exact ⟨(hc.rng _ _ g1).1, h2, g1, g2⟩
section
variable {M : Mdl} {T : Nat → Int → Option Shape} {t : Tk} {ch : List Nat} {fs0 : List Fr} {ws0 : List Int} {q p : Nat} {st : List Int} {hh : List Bool} {loc op : List Int} {i : Ins} {st' : List Int} {h' : List Bool}
variable {ν : Type} {V : Env ν} {K : ν → Prop} (hV : EnvOk V M K) (hok : Ok M T t ch) (a : At M T t fs0 ws0 q p st hh loc op) (hr : Here M T q p i st hh st' h')
include hok a
theorem wslen : ws0.length + (loc.length + op.length) ≤ 400 := by
  have := (hok.lens _ hok.nowlt).1
  rw [← cur_co, a.ws] at this
  simpa using this
include hr
/-- it goes on with the next instruction -/
theorem on (h1 : i.op ≠ 21) (h3 : i.op ≠ 24) (h4 : i.op ≠ 25) : ∃ h2, T q ((p + 1 : Nat) : Int) = some (st', h2) ∧ Le h2 h' := by
  have := hr.next ((p : Int) + 1) (by
    unfold nexts
    rw [if_neg h1]
    split
    · simp
    · rw [if_neg (by omega)]; simp)
  exact this.2
/-- behind an instruction that goes on, with other words on top -/
theorem goes (h1 : i.op ≠ 21) (h3 : i.op ≠ 24) (h4 : i.op ≠ 25) {loc' op' ws : List Int} (hl : Loc (gsOf t) (unt M q).locals h' loc') (ht : Typs (gsOf t) st' op') (hws : ws = ws0 ++ (loc' ++ op')) (hlen : ws.length ≤ 400) :
    Ok M T (setCur t (thr (cur t) fs0 ⟨q, p + 1, ws0.length⟩ ws)) ch := by
  obtain ⟨h2, g1, g2⟩ := on hok a hr h1 h3 h4
  exact hok.next a g1 g2 hl ht hws hlen
include hV
/-- a word is pushed, and the next instruction follows -/
theorem pushes (h1 : i.op ≠ 21) (h3 : i.op ≠ 24) (h4 : i.op ≠ 25) {op1 : List Int} {s1 : List Int} {ty v : Int} (he : st' = s1 ++ [ty]) (ht : Typs (gsOf t) s1 op1) (hv : vOk (gsOf t) ty v) (hl : Loc (gsOf t) (unt M q).locals h' loc) {s : ν} (hK : K s) (hlen : op1.length ≤ op.length) :
    Res M T K (push V v (setCur t (thr (cur t) fs0 ⟨q, p + 1, ws0.length⟩ (ws0 ++ (loc ++ op1))), s)) := by
  have hw := wslen hok a
  refine push_res hV hok.nowlt hK (fun hlt => ⟨ch, ?_⟩) (by show (ws0 ++ (loc ++ op1)).length ≤ 400; simp; omega)
  refine goes hok a hr h1 h3 h4 hl (he ▸ ht.app (Typs.one hv)) ?_ (by simpa using hlt)
  show ws0 ++ (loc ++ op1) ++ [v] = _
  simp
end
theorem wrap_in64 (a : Int) : In64 (IntKind.i64.wrap a) := by
  unfold In64 IntKind.wrap
  simp [IntKind.bits, IntKind.signed]
  omega
theorem yes_in64 (b : Bool) : In64 (yes b) := by cases b <;> (unfold In64 yes; omega)
theorem two2_in64 {op a b : Int} (ha : In64 a) (hb : In64 b) (h0 : op = 11 ∨ op = 12 → b ≠ 0) : In64 (two2 op a b) := by
  unfold two2
  repeat' split
  all_goals first | exact wrap_in64 _ | exact yes_in64 _ | exact ha | (unfold In64; omega) | skip
  · have h1 := Int.natAbs_tmod a b
    have h2 : a.natAbs % b.natAbs < b.natAbs := Nat.mod_lt _ (by have := h0 (by omega); omega)
    unfold In64 at *
    omega
  all_goals (unfold bits; exact wrap_in64 _)
theorem topF_thr (c : Co) (fs0 : List Fr) (f : Fr) (ws : List Int) : topF (thr c fs0 f ws) = f := snoc_get _ _
theorem two2_vOk {gs : List Nat} {o x y : Int} (ho : 8 ≤ o ∧ o ≤ 20) (hx : In64 x) (hy : In64 y) (h0 : o = 11 ∨ o = 12 → y ≠ 0) (hb : 18 < o → (x = 0 ∨ x = 1) ∧ (y = 0 ∨ y = 1)) : vOk gs (if 12 < o then 2 else 1) (two2 o x y) := by
  have h64 : In64 (two2 o x y) := two2_in64 hx hy h0
  split
  · exact vOk.truth (two2_truth (by assumption) ho.2 hb)
  · exact vOk.num h64
theorem getD_mid {a b c : List Int} {k : Nat} (h : k < b.length) : (a ++ (b ++ c)).getD (a.length + k) 0 = b.getD k 0 := by
  rw [List.getD_eq_getElem?_getD, List.getElem?_append_right (by omega), Nat.add_sub_cancel_left, List.getElem?_append_left h, List.getD_eq_getElem?_getD]
theorem set_mid {a b c : List Int} {k : Nat} {v : Int} (h : k < b.length) : (a ++ (b ++ c)).set (a.length + k) v = a ++ (b.set k v ++ c) := by
  rw [List.set_append_right _ _ (by omega), Nat.add_sub_cancel_left, List.set_append_left _ _ h]
section
variable {M : Mdl} {T : Nat → Int → Option Shape} {t : Tk} {ch : List Nat} {fs0 : List Fr} {ws0 : List Int} {q p : Nat} {st : List Int} {hh : List Bool} {loc op : List Int} {i : Ins} {st' : List Int} {h' : List Bool}
variable {ν : Type} {V : Env ν} {K : ν → Prop} (hC : Certs M T) (hV : EnvOk V M K) (hok : Ok M T t ch) (a : At M T t fs0 ws0 q p st hh loc op) (hr : Here M T q p i st hh st' h') {s : ν} (hK : K s)
include hC hV hok a hr hK
/-- what puts a word there alone -/
theorem exec_push (ho : i.op = 1 ∨ i.op = 2 ∨ i.op = 3) : Res M T K (exec V M i (setPc (p + 1) t, s)) := by
  have hn := hok.nowlt
  rw [a.pc]
  have hlen := a.loc.len
  unfold exec
  simp only [cur_set hn, topF_thr]
  rcases ho with ho | ho | ho
  · rw [if_pos ho]
    cases hr.does with
    | const _ _ hi =>
      refine pushes hV hok a hr (by omega) (by omega) (by omega) rfl a.op ?_ a.loc hK (Nat.le_refl _)
      rw [ho]; exact vOk.num hr.in64.1
    | _ => exfalso; omega
  · rw [if_neg (by omega), if_pos ho]
    have htr := truth_in hr.inst ho
    cases hr.does with
    | const _ _ hi =>
      refine pushes hV hok a hr (by omega) (by omega) (by omega) rfl a.op ?_ a.loc hK (Nat.le_refl _)
      rw [ho]; exact vOk.truth htr
    | _ => exfalso; omega
  · rw [if_neg (by omega), if_neg (by omega), if_pos ho]
    have hlo := hr.ok.loc (.inl ho)
    cases hr.does with
    | load _ _ hi hx =>
      refine pushes hV hok a hr (by omega) (by omega) (by omega) rfl a.op ?_ a.loc hK (Nat.le_refl _)
      show vOk _ _ ((ws0 ++ (loc ++ op)).getD (ws0.length + i.a.toNat) 0)
      rw [getD_mid (by omega)]
      exact a.loc.ok _ (by omega) hx
    | _ => exfalso; omega
omit hV hK in
/-- one word taken -/
theorem pop1 (f : Fr) {op1 : List Int} {v : Int} (e : op = op1 ++ [v]) : last (setCur t (thr (cur t) fs0 f (ws0 ++ (loc ++ op)))) = v ∧ drop 1 (setCur t (thr (cur t) fs0 f (ws0 ++ (loc ++ op)))) = setCur t (thr (cur t) fs0 f (ws0 ++ (loc ++ op1))) := by
  have hw : (thr (cur t) fs0 f (ws0 ++ (loc ++ op))).ws = (ws0 ++ (loc ++ op1)) ++ [v] := by
    show ws0 ++ (loc ++ op) = _
    rw [e]; simp
  exact ⟨last_set hok.nowlt hw, drop_set hok.nowlt hw rfl⟩
/-- what takes a word -/
theorem exec_pop (ho : i.op = 4 ∨ i.op = 5 ∨ i.op = 6 ∨ i.op = 7 ∨ i.op = 22 ∨ i.op = 26 ∨ i.op = 28) (hw : i.op = 26 → V.full s i.a.toNat = false) : Res M T K (exec V M i (setPc (p + 1) t, s)) := by
  have hn := hok.nowlt
  rw [a.pc]
  have hlen := a.loc.len
  have hwl := wslen hok a
  have key : ∀ {s1 : List Int} {ty : Int}, st = s1 ++ [ty] → ∃ op1 v, op = op1 ++ [v] ∧ Typs (gsOf t) s1 op1 ∧ vOk (gsOf t) ty v := fun {s1 ty} e => by
    have ht := a.op
    rw [e] at ht
    obtain ⟨x, y, e1, g1, g2⟩ := ht.split
    obtain ⟨v, rfl, hv⟩ := g2.un1
    exact ⟨x, v, e1, g1, hv⟩
  have hio := hr.ok
  unfold exec
  rcases ho with ho | ho | ho | ho | ho | ho | ho
  · rw [if_neg (by omega), if_neg (by omega), if_neg (by omega), if_pos ho]
    have hlo := hio.loc (.inr ho)
    have hgo := fun {loc' op' ws} => goes hok a hr (loc' := loc') (op' := op') (ws := ws) (by omega) (by omega) (by omega)
    cases hr.does with
    | store s1 h1 hi =>
      obtain ⟨op1, v, e1, g1, g2⟩ := key rfl
      obtain ⟨hl, hd⟩ := pop1 hC hok a hr ⟨q, p + 1, ws0.length⟩ e1
      simp only [hl, hd, cur_set hn, set_set, topF_thr]
      refine ⟨.inr (.inr ⟨ch, ?_⟩), hK⟩
      refine hgo (loc' := loc.set i.a.toNat v) (op' := op1) (a.loc.put (by omega) g2) g1 (set_mid (by omega)) ?_
      show ((ws0 ++ (loc ++ op1)).set _ v).length ≤ 400
      rw [e1] at hwl
      simp at hwl ⊢; omega
    | _ => exfalso; omega
  · rw [if_neg (by omega), if_neg (by omega), if_neg (by omega), if_neg (by omega), if_pos ho]
    have hgo := fun {loc' op' ws} => goes hok a hr (loc' := loc') (op' := op') (ws := ws) (by omega) (by omega) (by omega)
    cases hr.does with
    | drop s1 h1 ty hi =>
      obtain ⟨op1, v, e1, g1, g2⟩ := key rfl
      obtain ⟨hl, hd⟩ := pop1 hC hok a hr ⟨q, p + 1, ws0.length⟩ e1
      simp only [hd]
      rw [e1] at hwl
      exact ⟨.inr (.inr ⟨ch, hgo a.loc g1 rfl (by simp at hwl ⊢; omega)⟩), hK⟩
    | _ => exfalso; omega
  · rw [if_neg (by omega), if_neg (by omega), if_neg (by omega), if_neg (by omega), if_neg (by omega), if_pos ho]
    have hpu := fun {op1 s1 ty v} => pushes hV hok a hr (by omega) (by omega) (by omega) (op1 := op1) (s1 := s1) (ty := ty) (v := v)
    cases hr.does with
    | neg s1 h1 hi =>
      obtain ⟨op1, v, e1, g1, g2⟩ := key rfl
      obtain ⟨hl, hd⟩ := pop1 hC hok a hr ⟨q, p + 1, ws0.length⟩ e1
      simp only [hl, hd]
      exact hpu rfl g1 (vOk.num (wrap_in64 _)) a.loc hK (by rw [e1]; simp)
    | _ => exfalso; omega
  · rw [if_neg (by omega), if_neg (by omega), if_neg (by omega), if_neg (by omega), if_neg (by omega), if_neg (by omega), if_pos ho]
    have hpu := fun {op1 s1 ty v} => pushes hV hok a hr (by omega) (by omega) (by omega) (op1 := op1) (s1 := s1) (ty := ty) (v := v)
    cases hr.does with
    | not s1 h1 hi =>
      obtain ⟨op1, v, e1, g1, g2⟩ := key rfl
      obtain ⟨hl, hd⟩ := pop1 hC hok a hr ⟨q, p + 1, ws0.length⟩ e1
      simp only [hl, hd]
      refine hpu rfl g1 (vOk.truth ?_) a.loc hK (by rw [e1]; simp)
      rcases g2.2.1 rfl with h | h <;> rw [h] <;> decide
    | _ => exfalso; omega
  · rw [if_neg (by omega), if_neg (by omega), if_neg (by omega), if_neg (by omega), if_neg (by omega), if_neg (by omega), if_neg (by omega), if_neg (by omega), if_neg (by omega), if_pos ho]
    have hgo := fun {loc' op' ws} => goes hok a hr (loc' := loc') (op' := op') (ws := ws) (by omega) (by omega) (by omega)
    have hnx := hr.next i.a (by unfold nexts; rw [if_neg (by omega), if_pos ho]; simp)
    cases hr.does with
    | els s1 h1 hi =>
      obtain ⟨op1, v, e1, g1, g2⟩ := key rfl
      obtain ⟨hl, hd⟩ := pop1 hC hok a hr ⟨q, p + 1, ws0.length⟩ e1
      simp only [hl, hd]
      rw [e1] at hwl
      split
      · obtain ⟨h0, h2, k1, k2⟩ := hnx
        refine ⟨.inr (.inr ⟨ch, ?_⟩), hK⟩
        have e : setPc i.a.toNat (setCur t (thr (cur t) fs0 ⟨q, p + 1, ws0.length⟩ (ws0 ++ (loc ++ op1)))) = setCur t (thr (cur t) fs0 ⟨q, i.a.toNat, ws0.length⟩ (ws0 ++ (loc ++ op1))) := by
          unfold setPc
          rw [cur_set hn, set_set, topF_thr]
          unfold setTop thr
          rw [snoc_set]
        rw [e]
        have hc : ((i.a.toNat : Nat) : Int) = i.a := by omega
        exact hok.next a (by rw [hc]; exact k1) k2 a.loc g1 rfl (by simp at hwl ⊢; omega)
      · exact ⟨.inr (.inr ⟨ch, hgo a.loc g1 rfl (by simp at hwl ⊢; omega)⟩), hK⟩
    | _ => exfalso; omega
  · rw [if_neg (by omega), if_neg (by omega), if_neg (by omega), if_neg (by omega), if_neg (by omega), if_neg (by omega), if_neg (by omega), if_neg (by omega), if_neg (by omega), if_neg (by omega), if_pos ho]
    have hgo := fun {loc' op' ws} => goes hok a hr (loc' := loc') (op' := op') (ws := ws) (by omega) (by omega) (by omega)
    have hb := hio.box (.inl ho)
    cases hr.does with
    | send s1 h1 hi =>
      obtain ⟨op1, v, e1, g1, g2⟩ := key rfl
      obtain ⟨hl, hd⟩ := pop1 hC hok a hr ⟨q, p + 1, ws0.length⟩ e1
      simp only [hl, hd]
      rw [e1] at hwl
      exact ⟨.inr (.inr ⟨ch, hgo a.loc g1 rfl (by simp at hwl ⊢; omega)⟩), hV.tell _ _ (hV.put s i.a.toNat v hK (by omega) (hw ho) g2.1 g2.2.1)⟩
    | _ => exfalso; omega
  · rw [if_neg (by omega), if_neg (by omega), if_neg (by omega), if_neg (by omega), if_neg (by omega), if_neg (by omega), if_neg (by omega), if_neg (by omega), if_neg (by omega), if_neg (by omega), if_neg (by omega), if_neg (by omega), if_pos ho]
    have hgo := fun {loc' op' ws} => goes hok a hr (loc' := loc') (op' := op') (ws := ws) (by omega) (by omega) (by omega)
    cases hr.does with
    | out s1 h1 ty hi =>
      obtain ⟨op1, v, e1, g1, g2⟩ := key rfl
      obtain ⟨hl, hd⟩ := pop1 hC hok a hr ⟨q, p + 1, ws0.length⟩ e1
      simp only [hl, hd]
      rw [e1] at hwl
      have h := hgo a.loc g1 rfl (by simp at hwl ⊢; omega)
      exact ⟨.inr (.inr ⟨ch, ⟨h.now, h.few, h.nodup, h.mem, h.going, h.chain, h.root, h.top, h.wait, h.fresh, h.held, h.lens, h.kinds, h.sts⟩⟩), hV.tell _ _ hK⟩
    | _ => exfalso; omega
/-- an operator -/
theorem exec_two (ho : 8 ≤ i.op ∧ i.op ≤ 20) : Res M T K (exec V M i (setPc (p + 1) t, s)) := by
  have hn := hok.nowlt
  rw [a.pc]
  have hpu := fun {op1 s1 ty v} => pushes hV hok a hr (by omega) (by omega) (by omega) (op1 := op1) (s1 := s1) (ty := ty) (v := v)
  have key : ∃ s1 t1 t2 t3, st = s1 ++ [t1, t2] ∧ st' = s1 ++ [t3] ∧ h' = hh ∧ (18 < i.op → t1 = 2 ∧ t2 = 2) ∧ t3 = if 12 < i.op then 2 else 1 := by
    cases hr.does with
    | arith s1 h hi => exact ⟨s1, 1, 1, 1, rfl, rfl, rfl, by omega, by rw [if_neg (by omega)]⟩
    | eq s1 h ty hi ht => exact ⟨s1, ty, ty, 2, rfl, rfl, rfl, by omega, by rw [if_pos (by omega)]⟩
    | cmp s1 h hi => exact ⟨s1, 1, 1, 2, rfl, rfl, rfl, by omega, by rw [if_pos (by omega)]⟩
    | logic s1 h hi => exact ⟨s1, 2, 2, 2, rfl, rfl, rfl, fun _ => ⟨rfl, rfl⟩, by rw [if_pos (by omega)]⟩
    | _ => exfalso; omega
  obtain ⟨s1, t1, t2, t3, k1, k2, k3, k4, k5⟩ := key
  have ht := a.op
  rw [k1] at ht
  obtain ⟨op1, y, e1, g1, g2⟩ := ht.split
  obtain ⟨x, y, rfl, hx, hy⟩ := g2.un2
  obtain ⟨l1, d1⟩ := pop1 hC hok a hr ⟨q, p + 1, ws0.length⟩ (op1 := op1 ++ [x]) (v := y) (by rw [e1]; simp)
  have hw2 : (thr (cur t) fs0 ⟨q, p + 1, ws0.length⟩ (ws0 ++ (loc ++ (op1 ++ [x])))).ws = (ws0 ++ (loc ++ op1)) ++ [x] := by
    show ws0 ++ (loc ++ (op1 ++ [x])) = _
    simp
  have l2 := last_set hn hw2
  have d2 := drop_set hn hw2 (n := 1) rfl
  unfold exec
  rw [if_neg (by omega), if_neg (by omega), if_neg (by omega), if_neg (by omega), if_neg (by omega), if_neg (by omega), if_neg (by omega), if_pos ho]
  simp only [l1, d1, l2, d2]
  split
  · exact trap_res hV hK
  · rename_i hz
    refine hpu (op1 := op1) (ty := t3) k2 g1 ?_ (by rw [k3]; exact a.loc) hK (by rw [e1]; simp)
    rw [k5]
    exact two2_vOk ho hx.1 hy.1 (fun h h0 => hz ⟨h, h0⟩) (fun h => by
      obtain ⟨q1, q2⟩ := k4 h
      exact ⟨hx.2.1 q1, hy.2.1 q2⟩)
/-- a jump; what is received -/
theorem exec_more (ho : i.op = 21 ∨ i.op = 27) (hw : i.op = 27 → V.empty s i.a.toNat = false) : Res M T K (exec V M i (setPc (p + 1) t, s)) := by
  have hn := hok.nowlt
  rw [a.pc]
  have hwl := wslen hok a
  unfold exec
  rcases ho with ho | ho
  · rw [if_neg (by omega), if_neg (by omega), if_neg (by omega), if_neg (by omega), if_neg (by omega), if_neg (by omega), if_neg (by omega), if_neg (by omega), if_pos ho]
    have hnx := hr.next i.a (by unfold nexts; rw [if_pos ho]; simp)
    cases hr.does with
    | jump s1 h1 hi =>
      obtain ⟨h0, h2, k1, k2⟩ := hnx
      refine ⟨.inr (.inr ⟨ch, ?_⟩), hK⟩
      have e : setPc i.a.toNat (setCur t (thr (cur t) fs0 ⟨q, p + 1, ws0.length⟩ (ws0 ++ (loc ++ op)))) = setCur t (thr (cur t) fs0 ⟨q, i.a.toNat, ws0.length⟩ (ws0 ++ (loc ++ op))) := by
        unfold setPc
        rw [cur_set hn, set_set, topF_thr]
        unfold setTop thr
        rw [snoc_set]
      show Ok M T (setPc _ _) ch
      rw [e]
      have hc : ((i.a.toNat : Nat) : Int) = i.a := by omega
      exact hok.next a (by rw [hc]; exact k1) k2 a.loc a.op rfl (by simp; omega)
    | _ => exfalso; omega
  · rw [if_neg (by omega), if_neg (by omega), if_neg (by omega), if_neg (by omega), if_neg (by omega), if_neg (by omega), if_neg (by omega), if_neg (by omega), if_neg (by omega), if_neg (by omega), if_neg (by omega), if_pos ho]
    have hb := hr.ok.box (.inr ho)
    have htk := hV.take s i.a.toNat hK (by omega) (hw ho)
    have hbt : plain (M.boxes.getD i.a.toNat default).1 = true := by
      have hm : M.boxes.getD i.a.toNat default ∈ M.boxes := by
        rw [List.getD_eq_getElem?_getD, List.getElem?_eq_getElem (by omega)]; exact List.getElem_mem _
      exact (hC.form.boxes _ hm).1
    have hbt' : (M.boxes.getD i.a.toNat default).1 < 10 := by
      unfold plain at hbt
      rw [Bool.or_eq_true, decide_eq_true_eq, decide_eq_true_eq] at hbt
      omega
    have hpu := fun {op1 s1 ty v} => pushes hV hok a hr (by omega) (by omega) (by omega) (op1 := op1) (s1 := s1) (ty := ty) (v := v)
    cases hr.does with
    | recv s1 h1 hi => exact hpu rfl a.op ⟨htk.2.1, htk.2.2, fun h => by omega⟩ a.loc (hV.tell _ _ htk.1) (Nat.le_refl _)
    | _ => exfalso; omega
end
end Go.Proofs.Ytfeajpghabjaaaa.Vm
