/- Shorter code does the same: a run under one pass. Plain Lean. -/
import Derived.Test.YtfeajpghabjaaaaM26
namespace Go.Proofs.Ytfeajpghabjaaaa.Vm
open ImgM Ver Opt
set_option linter.unusedVariables false
set_option linter.unusedSimpArgs false
set_option linter.unusedSectionVars false
/-- all units at work stand at such places -/
def AllF (P : Fr → Prop) (t : Tk) : Prop := ∀ c ∈ t.cs, ∀ f ∈ c.fr, P f
section
variable {P : Fr → Prop} {t : Tk}
theorem AllF.co (h : AllF P t) (k : Nat) : ∀ f ∈ (t.cs.getD k default).fr, P f := fun f hf => by
  rw [List.getD_eq_getElem?_getD] at hf
  cases hk : t.cs[k]? with
  | none => rw [hk] at hf; cases hf
  | some c => rw [hk] at hf; exact h c (List.mem_of_getElem? hk) f hf
theorem AllF.cur (h : AllF P t) : ∀ f ∈ (cur t).fr, P f := h.co t.now
theorem AllF.setC (h : AllF P t) {k : Nat} {c : Co} (hc : ∀ f ∈ c.fr, P f) : AllF P (setC t k c) := fun d hd => by
  rcases List.mem_or_eq_of_mem_set hd with hd | rfl
  · exact h d hd
  · exact hc
theorem AllF.setCur (h : AllF P t) {c : Co} (hc : ∀ f ∈ c.fr, P f) : AllF P (setCur t c) := h.setC hc
theorem AllF.drop (h : AllF P t) (n : Nat) : AllF P (Vm.drop n t) := h.setCur h.cur
theorem AllF.setPc (h : AllF P t) {p : Nat} (hp : P { topF (Vm.cur t) with pc := p }) : AllF P (setPc p t) := h.setCur fun f hf => by
  rcases List.mem_or_eq_of_mem_set hf with hf | rfl
  · exact h.cur f hf
  · exact hp
variable {ν : Type} (V : Env ν) (M : Mdl)
theorem AllF.trap {s : Tk × ν} (h : AllF P s.1) (n : Int) : AllF P (trap V n s).1 := by
  unfold Vm.trap
  split
  · exact h
  · exact h
theorem AllF.push {s : Tk × ν} (h : AllF P s.1) (v : Int) : AllF P (push V v s).1 := by
  unfold Vm.push
  split
  · exact h.trap V 4
  · exact h.setCur h.cur
theorem AllF.pushN : ∀ (n : Nat) {s : Tk × ν}, AllF P s.1 → AllF P (pushN V n s).1
  | 0, s, h => h
  | n + 1, s, h => AllF.pushN n (h.push V 0)
variable (h0 : ∀ k b, P ⟨k, 0, b⟩)
include h0 in
theorem AllF.callU {s : Tk × ν} (h : AllF P s.1) (k : Nat) : AllF P (callU V M k s).1 := by
  unfold Vm.callU
  split
  · exact h.trap V 4
  · refine AllF.pushN V _ (h.setCur fun f hf => ?_)
    rcases List.mem_append.1 hf with hf | hf
    · exact h.cur f hf
    · simp at hf; subst hf; exact h0 _ _
theorem AllF.ret {s : Tk × ν} (h : AllF P s.1) : AllF P (ret V s).1 := by
  unfold Vm.ret
  refine AllF.push V ?_ _
  exact h.setCur fun f hf => h.cur f (List.mem_of_mem_take hf)
theorem AllF.endU {s : Tk × ν} (h : AllF P s.1) : AllF P (endU V s).1 := by
  unfold Vm.endU
  split
  · exact h.setCur h.cur
  · refine AllF.push V ?_ _
    have hh : AllF P (Vm.setCur s.1 { Vm.cur s.1 with st := 3, up := none }) := h.setCur h.cur
    exact hh
include h0 in
theorem AllF.startU {s : Tk × ν} (h : AllF P s.1) (k : Nat) : AllF P (startU V M k s).1 := by
  unfold Vm.startU
  dsimp only
  split
  · exact AllF.trap V (s := (_, s.2)) (h.drop _) _
  · refine AllF.push V ?_ _
    intro c hc
    rcases List.mem_append.1 hc with hc | hc
    · exact h.drop (unt M k).params.toNat c hc
    · simp at hc; subst hc
      intro f hf
      simp [begin] at hf
      subst hf; exact h0 _ _
theorem AllF.resumeU {s : Tk × ν} (h : AllF P s.1) : AllF P (resumeU V s).1 := by
  have h2 : AllF P (Vm.drop 1 (Vm.drop 1 s.1)) := (h.drop 1).drop 1
  unfold Vm.resumeU
  dsimp only
  generalize (last (Vm.drop 1 s.1)).toNat = k
  generalize Vm.drop 1 (Vm.drop 1 s.1) = t at *
  have hh : AllF P (Vm.setC t k { t.cs.getD k default with st := 2, up := some t.now }) := AllF.setC h2 (h2.co k)
  split
  · exact AllF.trap V (s := (t, s.2)) h2 _
  split
  · exact AllF.trap V (s := (t, s.2)) h2 _
  split
  · exact hh
  · refine AllF.push V ?_ _
    exact hh
theorem AllF.yieldU {s : Tk × ν} (h : AllF P s.1) : AllF P (yieldU V s).1 := by
  have h2 : AllF P (Vm.drop 1 s.1) := h.drop 1
  unfold Vm.yieldU
  dsimp only
  generalize Vm.drop 1 s.1 = t at *
  have hh : AllF P (Vm.setCur t { Vm.cur t with st := 1, up := none }) := h2.setCur h2.cur
  refine AllF.push V ?_ _
  exact hh
theorem AllF.aliveU {s : Tk × ν} (h : AllF P s.1) : AllF P (aliveU V s).1 := by
  unfold Vm.aliveU
  exact AllF.push V (s := (Vm.drop 1 s.1, s.2)) (h.drop 1) _
include h0 in
theorem AllF.exec {s : Tk × ν} (h : AllF P s.1) (i : Ins) (hj : i.op ≠ 21 ∧ i.op ≠ 22) : AllF P (exec V M i s).1 := by
  have hd : AllF P (Vm.drop 1 s.1) := h.drop 1
  have hd2 : AllF P (Vm.drop 1 (Vm.drop 1 s.1)) := hd.drop 1
  unfold Vm.exec
  dsimp only
  by_cases h1 : i.op = 1
  · rw [if_pos h1]; exact h.push V _
  rw [if_neg h1]
  by_cases h2 : i.op = 2
  · rw [if_pos h2]; exact h.push V _
  rw [if_neg h2]
  by_cases h3 : i.op = 3
  · rw [if_pos h3]; exact h.push V _
  rw [if_neg h3]
  by_cases h4 : i.op = 4
  · rw [if_pos h4]; exact hd.setCur hd.cur
  rw [if_neg h4]
  by_cases h5 : i.op = 5
  · rw [if_pos h5]; exact hd
  rw [if_neg h5]
  by_cases h6 : i.op = 6
  · rw [if_pos h6]; exact AllF.push V (s := (Vm.drop 1 s.1, s.2)) hd _
  rw [if_neg h6]
  by_cases h7 : i.op = 7
  · rw [if_pos h7]; exact AllF.push V (s := (Vm.drop 1 s.1, s.2)) hd _
  rw [if_neg h7]
  by_cases h8 : 8 ≤ i.op ∧ i.op ≤ 20
  · rw [if_pos h8]
    by_cases hz : (i.op = 11 ∨ i.op = 12) ∧ last s.1 = 0
    · rw [if_pos hz]; exact AllF.trap V (s := (Vm.drop 1 (Vm.drop 1 s.1), s.2)) hd2 _
    · rw [if_neg hz]; exact AllF.push V (s := (Vm.drop 1 (Vm.drop 1 s.1), s.2)) hd2 _
  rw [if_neg h8, if_neg hj.1, if_neg hj.2]
  by_cases h26 : i.op = 26
  · rw [if_pos h26]; exact hd
  rw [if_neg h26]
  by_cases h27 : i.op = 27
  · rw [if_pos h27]; refine AllF.push V ?_ _; exact h
  rw [if_neg h27]
  by_cases h28 : i.op = 28
  · rw [if_pos h28]; exact hd
  rw [if_neg h28]
  by_cases h23 : i.op = 23
  · rw [if_pos h23]; exact h.callU V M h0 _
  rw [if_neg h23]
  by_cases h24 : i.op = 24
  · rw [if_pos h24]; exact h.ret V
  rw [if_neg h24]
  by_cases h25 : i.op = 25
  · rw [if_pos h25]; exact h.endU V
  rw [if_neg h25]
  by_cases h29 : i.op = 29
  · rw [if_pos h29]; exact h.startU V M h0 _
  rw [if_neg h29]
  by_cases h30 : i.op = 30
  · rw [if_pos h30]; exact h.resumeU V
  rw [if_neg h30]
  by_cases h31 : i.op = 31
  · rw [if_pos h31]; exact h.yieldU V
  rw [if_neg h31]
  by_cases h32 : i.op = 32
  · rw [if_pos h32]; exact h.aliveU V
  rw [if_neg h32]; exact h
end
/-- the thread at work is at some unit -/
def NE (t : Tk) : Prop := (cur t).fr ≠ []
theorem NE.lt {t : Tk} (h : NE t) : t.now < t.cs.length := by
  refine Classical.byContradiction fun hn => h ?_
  unfold cur
  rw [List.getD_eq_getElem?_getD, List.getElem?_eq_none (by omega)]; rfl
section
variable {ν : Type} (V : Env ν) (M : Mdl)
def nxS (s : Tk × ν) : Tk × ν := (nrm (exec V M (insT M s.1) (setPc ((topF (cur s.1)).pc + 1) s.1, s.2)).1, (exec V M (insT M s.1) (setPc ((topF (cur s.1)).pc + 1) s.1, s.2)).2)
/-- so many steps, and no more -/
inductive Run : Nat → Tk × ν → Tk × ν → Prop
  | stop (s : Tk × ν) (h : (look V M s).1.st ≠ 1) : Run 0 s (look V M s)
  | step {n : Nat} {s r : Tk × ν} (h : (look V M s).1.st = 1) (he : NE s.1) (k : Run n (nxS V M s) r) : Run (n + 1) s r
end
theorem nrm_idem (t : Tk) : nrm (nrm t) = nrm t := by
  unfold nrm
  by_cases h : t.st ≤ 3
  · rw [if_pos h, if_pos (show ({ t with st := 1, bx := 0 } : Tk).st ≤ 3 from (by decide : (1 : Int) ≤ 3))]
  · rw [if_neg h, if_neg h]
theorem nrm_two {t : Tk} (h : nrm t = t) : (t.st = 1 ∧ t.bx = 0) ∨ ¬ t.st ≤ 3 := by
  unfold nrm at h
  by_cases h3 : t.st ≤ 3
  · rw [if_pos h3] at h
    rw [← h]; exact .inl ⟨rfl, rfl⟩
  · exact .inr h3
theorem nrm_of {t : Tk} (h1 : t.st = 1) (h2 : t.bx = 0) : nrm t = t := by
  obtain ⟨cs, now, st, bx, tr, out⟩ := t
  dsimp only at h1 h2
  subst h1 h2; rfl
theorem nrm_sm (M : Mdl) (t : Tk) : nrm (plT M t) = plT M (nrm t) := by
  unfold nrm
  by_cases h : t.st ≤ 3
  · rw [if_pos h, if_pos (show (plT M t).st ≤ 3 from h)]; rfl
  · rw [if_neg h, if_neg (show ¬ (plT M t).st ≤ 3 from h)]
theorem AllF.nrm {P : Fr → Prop} {t : Tk} (h : AllF P t) : AllF P (Vm.nrm t) := by
  unfold Vm.nrm
  split
  · exact h
  · exact h
/-- the thread at work at another place, with other words -/
def atP (t : Tk) (p : Nat) (ws : List Int) : Tk := setCur t { setTop (cur t) { topF (cur t) with pc := p } with ws := ws }
section
variable {t : Tk} (he : NE t)
include he
theorem cur_setN (c : Co) : cur (setCur t c) = c := by
  unfold cur setCur setC
  dsimp only
  rw [List.getD_eq_getElem?_getD, List.getElem?_set_self he.lt]; rfl
theorem atP_cur (p : Nat) (ws : List Int) : cur (atP t p ws) = { setTop (cur t) { topF (cur t) with pc := p } with ws := ws } := cur_setN he _
theorem set_top (c : Co) (f : Fr) (h : c.fr ≠ []) : topF (setTop c f) = f := by
  unfold topF setTop
  have : c.fr.length ≠ 0 := fun h' => h (List.eq_nil_of_length_eq_zero h')
  dsimp only
  rw [List.length_set, List.getD_eq_getElem?_getD, List.getElem?_set_self (by omega)]; rfl
theorem atP_top (p : Nat) (ws : List Int) : topF (cur (atP t p ws)) = { topF (cur t) with pc := p } := by
  rw [atP_cur he]
  exact set_top he (cur t) _ he
theorem atP_ne (p : Nat) (ws : List Int) : NE (atP t p ws) := by
  unfold NE
  rw [atP_cur he]
  intro h
  have h1 := congrArg List.length h
  simp only [setTop, List.length_set, List.length_nil] at h1
  exact he (List.eq_nil_of_length_eq_zero h1)
theorem set_setN (c d : Co) : setCur (setCur t c) d = setCur t d := by
  unfold setCur setC
  dsimp only
  rw [List.set_set]
theorem atP_self : atP t (topF (cur t)).pc (cur t).ws = t := by
  unfold atP
  have e : setTop (cur t) { topF (cur t) with pc := (topF (cur t)).pc } = cur t := by
    unfold setTop
    have hn : (cur t).fr.length ≠ 0 := fun h' => he (List.eq_nil_of_length_eq_zero h')
    have : (cur t).fr.set ((cur t).fr.length - 1) (topF (cur t)) = (cur t).fr := by
      refine List.ext_getElem (by simp) fun j h1 h2 => ?_
      rw [List.getElem_set]
      split
      · rename_i e; subst e
        unfold topF
        rw [List.getD_eq_getElem?_getD, List.getElem?_eq_getElem h2]; rfl
      · rfl
    show ({ cur t with fr := (cur t).fr.set ((cur t).fr.length - 1) (topF (cur t)) } : Co) = cur t
    rw [this]
  rw [e]
  show ({ t with cs := t.cs.set t.now (cur t) } : Tk) = t
  have : t.cs.set t.now (cur t) = t.cs := by
    refine List.ext_getElem (by simp) fun j h1 h2 => ?_
    rw [List.getElem_set]
    split
    · rename_i e; subst e
      unfold cur
      rw [List.getD_eq_getElem?_getD, List.getElem?_eq_getElem h2]; rfl
    · rfl
  rw [this]
theorem atP_pc (p q : Nat) (ws : List Int) : setPc q (atP t p ws) = atP t q ws := by
  unfold setPc
  rw [atP_top he, atP_cur he]
  unfold atP
  rw [set_setN he]
  congr 1
  unfold setTop
  dsimp only
  rw [List.length_set, List.set_set]
theorem atP_drop (p : Nat) (ws : List Int) : Vm.drop 1 (atP t p ws) = atP t p (ws.take (ws.length - 1)) := by
  unfold Vm.drop
  rw [atP_cur he]
  unfold atP
  rw [set_setN he]
theorem atP_last (p : Nat) (ws : List Int) : last (atP t p ws) = ws.getD (ws.length - 1) 0 := by
  unfold last
  rw [atP_cur he]
theorem atP_push {ν : Type} (V : Env ν) (p : Nat) (ws : List Int) (v : Int) (e : ν) (h : ws.length ≠ 400) : push V v (atP t p ws, e) = (atP t p (ws ++ [v]), e) := by
  unfold push
  dsimp only
  rw [atP_cur he, if_neg h]
  unfold atP
  rw [set_setN he]
theorem atP_full {ν : Type} (V : Env ν) (p : Nat) (ws : List Int) (v : Int) (e : ν) (h : ws.length = 400) : push V v (atP t p ws, e) = trap V 4 (atP t p ws, e) := by
  unfold push
  dsimp only
  rw [atP_cur he, if_pos h]
theorem atP_ins (M : Mdl) (p : Nat) (ws : List Int) : insT M (atP t p ws) = at_ (unt M (topF (cur t)).unit).code p := by
  unfold insT
  rw [atP_top he]; rfl
theorem atP_sm (M : Mdl) (p : Nat) (ws : List Int) : plT M (atP t p ws) = atP (plT M t) (plc (unt M (topF (cur t)).unit).code p) ws := by
  unfold atP
  rw [cur_sm, top_sm]
  rw [show ({ plF M (topF (cur t)) with pc := plc (unt M (topF (cur t)).unit).code p } : Fr) = plF M { topF (cur t) with pc := p } from rfl, setTop_sm]
  rw [show ({ plC M (setTop (cur t) { topF (cur t) with pc := p }) with ws := ws } : Co) = plC M { setTop (cur t) { topF (cur t) with pc := p } with ws := ws } from rfl, setCur_sm]
theorem NE.pl (M : Mdl) : NE (plT M t) := by
  unfold NE
  rw [cur_sm]
  intro h
  have h1 := congrArg List.length h
  simp only [plC, List.length_map, List.length_nil] at h1
  exact he (List.eq_nil_of_length_eq_zero h1)
theorem atP_all {P : Fr → Prop} (h : AllF P t) {p : Nat} (hp : P { topF (cur t) with pc := p }) (ws : List Int) : AllF P (atP t p ws) := h.setCur fun f hf => by
  rcases List.mem_or_eq_of_mem_set hf with hf | rfl
  · exact h.cur f hf
  · exact hp
end
end Go.Proofs.Ytfeajpghabjaaaa.Vm

/- Shorter code does the same: a piece at a time. Plain Lean. -/
namespace Go.Proofs.Ytfeajpghabjaaaa.Vm
open ImgM Ver Opt
set_option linter.unusedVariables false
set_option linter.unusedSimpArgs false
set_option linter.unusedSectionVars false
section
variable {ν : Type} {V : Env ν} {M : Mdl}
theorem look_go {s : Tk × ν} (h1 : s.1.st = 1) (hb : s.1.bx = 0) (h26 : (insT M s.1).op ≠ 26) (h27 : (insT M s.1).op ≠ 27) : look V M s = s := by
  unfold look
  rw [if_pos (by rw [h1]; decide)]
  unfold waits
  rw [if_neg (fun h => h26 h.1), if_neg (fun h => h27 h.1)]
  have := nrm_of h1 hb
  unfold nrm at this
  rw [if_pos (by rw [h1]; decide)] at this
  rw [this]
theorem look_st {s : Tk × ν} (h : ¬ s.1.st ≤ 3) : look V M s = s := by unfold look; rw [if_neg h]
/-- looked at, and it can go on -/
theorem look_on {s : Tk × ν} (hn : nrm s.1 = s.1) (h : (look V M s).1.st = 1) : look V M s = s ∧ s.1.st = 1 ∧ s.1.bx = 0 := by
  rcases nrm_two hn with ⟨h1, hb⟩ | h3
  · refine ⟨?_, h1, hb⟩
    unfold look at h ⊢
    rw [if_pos (by rw [h1]; decide)] at h ⊢
    unfold waits at h ⊢
    split
    · rename_i hc; rw [if_pos hc] at h; cases h
    · rename_i hc
      rw [if_neg hc] at h
      split
      · rename_i hd; rw [if_pos hd] at h; cases h
      · have := nrm_of h1 hb
        unfold nrm at this
        rw [if_pos (by rw [h1]; decide)] at this
        rw [this]
  · rw [look_st h3] at h
    omega
theorem Run.on {n : Nat} {s r : Tk × ν} (h : Run V M n s r) (hl : (look V M s).1.st = 1) : ∃ m, n = m + 1 ∧ Run V M m (nxS V M s) r := by
  cases h with
  | stop _ h => exact absurd hl h
  | step h he k => exact ⟨_, rfl, k⟩
theorem Run.fin {n : Nat} {s r : Tk × ν} (h : Run V M n s r) (hs : s.1.st = 5) : r = s := by
  have hl := look_st (V := V) (M := M) (s := s) (by omega)
  cases h with
  | stop _ h => exact hl
  | step h he k => rw [hl] at h; omega
/-- no stack overflowed -/
def Fits (r : Tk × ν) : Prop := ¬ (r.1.st = 5 ∧ r.1.tr = 4)
section
variable {t : Tk} (he : NE t) (h1 : t.st = 1) (hb : t.bx = 0)
include he h1 hb
theorem atP_nrm (p : Nat) (ws : List Int) : nrm (atP t p ws) = atP t p ws := nrm_of h1 hb
theorem nx_at (p : Nat) (ws : List Int) (e : ν) : nxS V M (atP t p ws, e) = (nrm (exec V M (at_ (unt M (topF (cur t)).unit).code p) (atP t (p + 1) ws, e)).1, (exec V M (at_ (unt M (topF (cur t)).unit).code p) (atP t (p + 1) ws, e)).2) := by
  unfold nxS
  dsimp only
  rw [atP_ins he, atP_top he]
  dsimp only
  rw [atP_pc he]
theorem look_at' {p : Nat} {ws : List Int} {e : ν} (h26 : (at_ (unt M (topF (cur t)).unit).code p).op ≠ 26) (h27 : (at_ (unt M (topF (cur t)).unit).code p).op ≠ 27) : look V M (atP t p ws, e) = (atP t p ws, e) :=
  look_go h1 hb (by rw [atP_ins he]; exact h26) (by rw [atP_ins he]; exact h27)
/-- a word is put there -/
theorem exP_push {p : Nat} {ws : List Int} {e : ν} {i : Ins} (hi : i.op = 1 ∨ i.op = 2 ∨ i.op = 3) : ∃ v, (i.op ≠ 3 → v = cval i) ∧ exec V M i (atP t p ws, e) = push V v (atP t p ws, e) := by
  rcases hi with hi | hi | hi
  · exact ⟨i.n, fun _ => by unfold cval; rw [if_pos hi], by unfold exec; rw [if_pos hi]⟩
  · exact ⟨i.a, fun _ => by unfold cval; rw [if_neg (by omega), if_pos hi], by unfold exec; rw [if_neg (by omega), if_pos hi]⟩
  · exact ⟨_, fun h => absurd hi h, by unfold exec; rw [if_neg (by omega), if_neg (by omega), if_pos hi]⟩
theorem run_push {n p : Nat} {ws : List Int} {e : ν} {r : Tk × ν} (hi : (at_ (unt M (topF (cur t)).unit).code p).op = 1 ∨ (at_ (unt M (topF (cur t)).unit).code p).op = 2 ∨ (at_ (unt M (topF (cur t)).unit).code p).op = 3) (h : Run V M n (atP t p ws, e) r) (hf : Fits r) :
    ws.length ≠ 400 ∧ ∃ v m, ((at_ (unt M (topF (cur t)).unit).code p).op ≠ 3 → v = cval (at_ (unt M (topF (cur t)).unit).code p)) ∧ n = m + 1 ∧ Run V M m (atP t (p + 1) (ws ++ [v]), e) r := by
  have hl := look_at' (V := V) (M := M) he h1 hb (p := p) (ws := ws) (e := e) (by omega) (by omega)
  obtain ⟨m, rfl, k⟩ := h.on (by rw [hl]; exact h1)
  rw [nx_at he h1 hb] at k
  obtain ⟨v, hv, hx⟩ := exP_push (V := V) (M := M) he h1 hb (p := p + 1) (ws := ws) (e := e) hi
  rw [hx] at k
  by_cases hw : ws.length = 400
  · exfalso
    rw [atP_full he V _ _ _ _ hw] at k
    have hst : (trap V 4 (atP t (p + 1) ws, e)).1.st = 5 ∧ (trap V 4 (atP t (p + 1) ws, e)).1.tr = 4 := by
      unfold trap
      rw [if_neg (show ¬ (atP t (p + 1) ws).st = 5 from by show ¬ t.st = 5; omega)]
      exact ⟨rfl, rfl⟩
    have hn : nrm (trap V 4 (atP t (p + 1) ws, e)).1 = (trap V 4 (atP t (p + 1) ws, e)).1 := by
      unfold nrm
      rw [if_neg (by rw [hst.1]; decide)]
    rw [hn] at k
    have := k.fin hst.1
    rw [this] at hf
    exact hf hst
  · rw [atP_push he V _ _ _ _ hw] at k
    dsimp only at k
    rw [atP_nrm he h1 hb] at k
    exact ⟨hw, v, m, hv, rfl, k⟩
theorem run_pop {n p : Nat} {ws : List Int} {e : ν} {r : Tk × ν} {us : List Int} {p' : Nat} (h26 : (at_ (unt M (topF (cur t)).unit).code p).op ≠ 26) (h27 : (at_ (unt M (topF (cur t)).unit).code p).op ≠ 27) (hx : exec V M (at_ (unt M (topF (cur t)).unit).code p) (atP t (p + 1) ws, e) = (atP t p' us, e)) (h : Run V M n (atP t p ws, e) r) :
    ∃ m, n = m + 1 ∧ Run V M m (atP t p' us, e) r := by
  have hl := look_at' (V := V) (M := M) he h1 hb (p := p) (ws := ws) (e := e) h26 h27
  obtain ⟨m, rfl, k⟩ := h.on (by rw [hl]; exact h1)
  rw [nx_at he h1 hb, hx] at k
  dsimp only at k
  rw [atP_nrm he h1 hb] at k
  exact ⟨m, rfl, k⟩
theorem run_back {n p : Nat} {ws : List Int} {e : ν} {r : Tk × ν} {us : List Int} {p' : Nat} (h26 : (at_ (unt M (topF (cur t)).unit).code p).op ≠ 26) (h27 : (at_ (unt M (topF (cur t)).unit).code p).op ≠ 27) (hx : exec V M (at_ (unt M (topF (cur t)).unit).code p) (atP t (p + 1) ws, e) = (atP t p' us, e)) (h : Run V M n (atP t p' us, e) r) :
    Run V M (n + 1) (atP t p ws, e) r := by
  have hl := look_at' (V := V) (M := M) he h1 hb (p := p) (ws := ws) (e := e) h26 h27
  refine Run.step (by rw [hl]; exact h1) (atP_ne he _ _) ?_
  rw [nx_at he h1 hb, hx]
  dsimp only
  rw [atP_nrm he h1 hb]
  exact h
omit h1 hb in
theorem exP_drop {p : Nat} {ws : List Int} {v : Int} {e : ν} {i : Ins} (hi : i.op = 5) : exec V M i (atP t p (ws ++ [v]), e) = (atP t p ws, e) := by
  unfold exec
  rw [if_neg (by omega), if_neg (by omega), if_neg (by omega), if_neg (by omega), if_pos hi]
  dsimp only
  rw [atP_drop he]; simp
omit h1 hb in
theorem exP_one {p : Nat} {ws : List Int} {v : Int} {e : ν} {i : Ins} (hw : ws.length ≠ 400) (hi : i.op = 6 ∨ i.op = 7) : exec V M i (atP t p (ws ++ [v]), e) = (atP t p (ws ++ [IntKind.i64.wrap (if i.op = 6 then -v else 1 - v)]), e) := by
  have hla : last (atP t p (ws ++ [v])) = v := by rw [atP_last he]; simp [List.getD_eq_getElem?_getD]
  have hd : Vm.drop 1 (atP t p (ws ++ [v])) = atP t p ws := by rw [atP_drop he]; simp
  unfold exec
  dsimp only
  rw [hla, hd]
  rcases hi with hi | hi
  · rw [if_neg (by omega), if_neg (by omega), if_neg (by omega), if_neg (by omega), if_neg (by omega), if_pos hi, if_pos hi, atP_push he V _ _ _ _ hw]
  · rw [if_neg (by omega), if_neg (by omega), if_neg (by omega), if_neg (by omega), if_neg (by omega), if_neg (by omega), if_pos hi, if_neg (by omega), atP_push he V _ _ _ _ hw]
omit h1 hb in
theorem exP_two {p : Nat} {ws : List Int} {a b : Int} {e : ν} {i : Ins} (hw : ws.length ≠ 400) (hi : 8 ≤ i.op ∧ i.op ≤ 20) (h0 : ¬ ((i.op = 11 ∨ i.op = 12) ∧ b = 0)) : exec V M i (atP t p (ws ++ [a] ++ [b]), e) = (atP t p (ws ++ [two2 i.op a b]), e) := by
  have hla : last (atP t p (ws ++ [a] ++ [b])) = b := by rw [atP_last he]; simp [List.getD_eq_getElem?_getD]
  have hd : Vm.drop 1 (atP t p (ws ++ [a] ++ [b])) = atP t p (ws ++ [a]) := by rw [atP_drop he, show (ws ++ [a] ++ [b]).length - 1 = (ws ++ [a]).length by simp, List.take_left]
  have hlb : last (atP t p (ws ++ [a])) = a := by rw [atP_last he]; simp [List.getD_eq_getElem?_getD]
  have hd2 : Vm.drop 1 (atP t p (ws ++ [a])) = atP t p ws := by rw [atP_drop he]; simp
  unfold exec
  dsimp only
  rw [hla, hd, hlb, hd2, if_neg (by omega), if_neg (by omega), if_neg (by omega), if_neg (by omega), if_neg (by omega), if_neg (by omega), if_neg (by omega), if_pos hi, if_neg h0, atP_push he V _ _ _ _ hw]
omit h1 hb in
theorem exP_jump {p : Nat} {ws : List Int} {e : ν} {i : Ins} (hi : i.op = 21) : exec V M i (atP t p ws, e) = (atP t i.a.toNat ws, e) := by
  unfold exec
  dsimp only
  rw [if_neg (by omega), if_neg (by omega), if_neg (by omega), if_neg (by omega), if_neg (by omega), if_neg (by omega), if_neg (by omega), if_neg (by omega), if_pos hi, atP_pc he]
omit h1 hb in
theorem exP_else {p : Nat} {ws : List Int} {e : ν} {i : Ins} (hi : i.op = 22) : exec V M i (atP t p ws, e) = (atP t (if ws.getD (ws.length - 1) 0 = 0 then i.a.toNat else p) (ws.take (ws.length - 1)), e) := by
  unfold exec
  dsimp only
  rw [if_neg (by omega), if_neg (by omega), if_neg (by omega), if_neg (by omega), if_neg (by omega), if_neg (by omega), if_neg (by omega), if_neg (by omega), if_neg (by omega), if_pos hi, atP_last he, atP_drop he]
  split
  · rw [atP_pc he]
  · rfl
end
/-- what a piece does -/
structure Piece (M : Mdl) (V : Env ν) (t : Tk) (q : Nat) (ws : List Int) (e : ν) (n : Nat) (r : Tk × ν) : Prop where
  ex : ∃ m p' us, m < n ∧ Run V M m (atP t p' us, e) r ∧
    ((em (unt M (topF (cur t)).unit).code q = [] ∧ p' = nx (unt M (topF (cur t)).unit).code q ∧ us = ws) ∨
     (∃ i, em (unt M (topF (cur t)).unit).code q = [i] ∧ (i.op = 1 ∨ i.op = 2) ∧ p' = nx (unt M (topF (cur t)).unit).code q ∧ us = ws ++ [cval i] ∧ ws.length ≠ 400) ∨
     (∃ i, em (unt M (topF (cur t)).unit).code q = [i] ∧ i.op = 21 ∧ tgt (unt M (topF (cur t)).unit).code i.a = true ∧ (∃ j ∈ (unt M (topF (cur t)).unit).code, isJ j = true ∧ j.a = i.a) ∧ p' = i.a.toNat ∧ us = ws)) ∧ (∀ i, em (unt M (topF (cur t)).unit).code q = [i] → m + 1 < n)
theorem cval_known (v : Int) (b : Bool) : ∃ i, known v b = [i] ∧ (i.op = 1 ∨ i.op = 2) ∧ cval i = v := by
  cases b
  · exact ⟨⟨1, 0, v⟩, rfl, .inl rfl, rfl⟩
  · exact ⟨⟨2, v, 0⟩, rfl, .inr rfl, rfl⟩
theorem tgt_mem {l : List Ins} {i : Ins} (hi : i ∈ l) (hj : isJ i = true) : tgt l i.a = true := by
  unfold tgt
  rw [List.any_eq_true]
  exact ⟨i, hi, by rw [hj]; simp⟩
theorem piece_run {t : Tk} (he : NE t) (h1 : t.st = 1) (hb : t.bx = 0) {n q : Nat} {ws : List Int} {e : ν} {r : Tk × ν} (h : Run V M n (atP t q ws, e) r) (hf : Fits r) (hs : (shorter (unt M (topF (cur t)).unit).code q).2 ≠ 0) : Piece M V t q ws e n r := by
  obtain ⟨l, hl⟩ : ∃ l, l = (unt M (topF (cur t)).unit).code := ⟨_, rfl⟩
  have e1 : em l q = (shorter l q).1 := by unfold em; rw [if_neg (by rw [hl]; exact hs)]
  have e2 : nx l q = q + (shorter l q).2 := by unfold nx; rw [if_neg (by rw [hl]; exact hs)]
  rw [← hl] at hs
  rcases shorter_cases hs with ⟨r', g1, g2, g3⟩ | ⟨r', g1, g2, g3⟩ | ⟨g1, g2, g3, g4⟩
  · -- three
    rw [g1] at e1 e2
    dsimp only at e1 e2
    unfold three at g3
    split at g3
    · cases g3
    rename_i n1
    split at g3
    · cases g3
    cases g3
    have c1 : (at_ l q).op = 1 ∨ (at_ l q).op = 2 := isC_of fun hx => n1 (.inl hx)
    have c2 : (at_ l (q + 1)).op = 1 ∨ (at_ l (q + 1)).op = 2 := isC_of fun hx => n1 (.inr (.inl hx))
    have c4 : 8 ≤ (at_ l (q + 2)).op ∧ (at_ l (q + 2)).op ≤ 20 := ⟨Int.not_lt.1 fun hx => n1 (.inr (.inr (.inr (.inl hx)))), Int.not_lt.1 fun hx => n1 (.inr (.inr (.inr (.inr (.inl hx)))))⟩
    have c5 : ¬ (((at_ l (q + 2)).op = 11 ∨ (at_ l (q + 2)).op = 12) ∧ cval (at_ l (q + 1)) = 0) := fun hx => n1 (.inr (.inr (.inr (.inr (.inr ⟨hx.2, hx.1⟩)))))
    rw [hl] at c1 c2 c4 c5
    obtain ⟨w1, v1, m1, a1, rfl, k1⟩ := run_push he h1 hb (by omega) h hf
    obtain ⟨w2, v2, m2, a2, rfl, k2⟩ := run_push he h1 hb (by omega) k1 hf
    have a1 := a1 (by omega)
    have a2 := a2 (by omega)
    rw [← a2] at c5
    obtain ⟨m3, rfl, k3⟩ := run_pop he h1 hb (by show (at_ _ (q + 2)).op ≠ 26; omega) (by show (at_ _ (q + 2)).op ≠ 27; omega) (exP_two he (p := q + 1 + 1 + 1) (ws := ws) (a := v1) (b := v2) w1 c4 c5) k2
    obtain ⟨i, j1, j2, j3⟩ := cval_known (two2 (at_ l (q + 2)).op (cval (at_ l q)) (cval (at_ l (q + 1)))) (decide (12 < (at_ l (q + 2)).op))
    refine ⟨m3, q + 1 + 1 + 1, ws ++ [cval i], by omega, ?_, .inr (.inl ⟨i, by rw [← hl, e1]; exact j1, j2, by rw [← hl, e2], rfl, w1⟩), fun _ _ => by omega⟩
    rw [j3, hl, ← a1, ← a2]
    exact k3
  · -- two
    have hq2 := free_lt g2
    rw [g1] at e1 e2
    dsimp only at e1 e2
    unfold pair at g3
    split at g3
    · rename_i g
      cases g3
      have c1 : (at_ l q).op = 1 ∨ (at_ l q).op = 2 ∨ (at_ l q).op = 3 := by
        rcases g.2 with g | g
        · have := isC_iff.1 g; omega
        · omega
      rw [hl] at c1 g
      obtain ⟨w1, v1, m1, a1, rfl, k1⟩ := run_push he h1 hb c1 h hf
      obtain ⟨m2, rfl, k2⟩ := run_pop he h1 hb (by omega) (by omega) (exP_drop he (p := q + 1 + 1) (ws := ws) (v := v1) g.1) k1
      exact ⟨m2, q + 1 + 1, ws, by omega, k2, .inl ⟨by rw [← hl, e1], by rw [← hl, e2], rfl⟩, fun i hi => by rw [← hl, e1] at hi; cases hi⟩
    split at g3
    · cases g3
    rename_i n0
    have c1 := isC_of n0
    rw [hl] at c1
    obtain ⟨w1, v1, m1, a1, rfl, k1⟩ := run_push he h1 hb (by omega) h hf
    have a1 := a1 (by omega)
    split at g3
    · rename_i g
      cases g3
      rw [hl] at g
      obtain ⟨m2, rfl, k2⟩ := run_pop he h1 hb (by omega) (by omega) (exP_one he (p := q + 1 + 1) (ws := ws) (v := v1) w1 (.inl g.1)) k1
      rw [if_pos g.1, a1] at k2
      obtain ⟨i, j1, j2, j3⟩ := cval_known (IntKind.i64.wrap (-(cval (at_ l q)))) false
      refine ⟨m2, q + 1 + 1, ws ++ [cval i], by omega, by rw [j3, hl]; exact k2, .inr (.inl ⟨i, by rw [← hl, e1]; exact j1, j2, by rw [← hl, e2], rfl, w1⟩), fun _ _ => by omega⟩
    split at g3
    · cases g3
    split at g3
    · rename_i g
      cases g3
      rw [hl] at g
      obtain ⟨m2, rfl, k2⟩ := run_pop he h1 hb (by omega) (by omega) (exP_one he (p := q + 1 + 1) (ws := ws) (v := v1) w1 (.inr g)) k1
      rw [if_neg (by omega), a1] at k2
      obtain ⟨i, j1, j2, j3⟩ := cval_known (IntKind.i64.wrap (1 - cval (at_ l q))) true
      refine ⟨m2, q + 1 + 1, ws ++ [cval i], by omega, by rw [j3, hl]; exact k2, .inr (.inl ⟨i, by rw [← hl, e1]; exact j1, j2, by rw [← hl, e2], rfl, w1⟩), fun _ _ => by omega⟩
    have hla : (ws ++ [v1]).getD ((ws ++ [v1]).length - 1) 0 = v1 := by simp [List.getD_eq_getElem?_getD]
    have hta : (ws ++ [v1]).take ((ws ++ [v1]).length - 1) = ws := by simp
    split at g3
    · rename_i g
      cases g3
      rw [hl] at g
      obtain ⟨m2, rfl, k2⟩ := run_pop he h1 hb (by omega) (by omega) (exP_else he (p := q + 1 + 1) (ws := ws ++ [v1]) g.1) k1
      rw [hla, hta, if_neg (by rw [a1]; exact g.2)] at k2
      exact ⟨m2, q + 1 + 1, ws, by omega, k2, .inl ⟨by rw [← hl, e1], by rw [← hl, e2], rfl⟩, fun i hi => by rw [← hl, e1] at hi; cases hi⟩
    split at g3
    · rename_i n2 g
      cases g3
      have hv : v1 = 0 := by rw [a1, ← hl]; exact Classical.byContradiction fun hx => n2 ⟨g, hx⟩
      have hmem := mem_at (l := l) (q := q + 1) (by omega)
      have hjj : isJ (at_ l (q + 1)) = true := isJ_iff.2 (.inr g)
      rw [hl] at g
      obtain ⟨m2, rfl, k2⟩ := run_pop he h1 hb (by omega) (by omega) (exP_else he (p := q + 1 + 1) (ws := ws ++ [v1]) g) k1
      rw [hla, hta, if_pos hv] at k2
      refine ⟨m2, (at_ l (q + 1)).a.toNat, ws, by omega, by rw [hl]; exact k2, .inr (.inr ⟨⟨21, (at_ l (q + 1)).a, 0⟩, by rw [← hl, e1], rfl, ?_, ?_, rfl, rfl⟩), fun _ _ => by omega⟩
      · have ht := tgt_mem hmem hjj
        rw [← hl]; exact ht
      · rw [← hl]; exact ⟨_, hmem, hjj, rfl⟩
    · cases g3
  · -- a jump to what follows
    rw [g1] at e1 e2
    dsimp only at e1 e2
    rw [hl] at g3 g4
    obtain ⟨m2, rfl, k2⟩ := run_pop he h1 hb (by omega) (by omega) (exP_jump he (p := q + 1) (ws := ws) g3) h
    refine ⟨m2, q + 1, ws, by omega, ?_, .inl ⟨by rw [← hl, e1], by rw [← hl, e2], rfl⟩, fun i hi => by rw [← hl, e1] at hi; cases hi⟩
    rw [g4] at k2
    exact k2
set_option maxHeartbeats 1000000 in
/-- SHORTER CODE DOES THE SAME: one pass -/
theorem sim (hJ : ∀ k, ∀ i ∈ (unt M k).code, isJ i = true → 0 ≤ i.a ∧ i.a < ((unt M k).code.length : Int)) : ∀ (n : Nat) (s r : Tk × ν), Run V M n s r → nrm s.1 = s.1 → AllF (fun f => Bd (unt M f.unit).code f.pc) s.1 → Fits r → ∃ n', n' ≤ n ∧ Run V (pasM M) n' (plS M s) (plS M r) := by
  intro n
  induction n using Nat.strongRecOn with
  | ind n ih =>
    intro s r h hn hB hf
    rcases nrm_two hn with ⟨h1, hb⟩ | h3
    · -- at work
      obtain ⟨t, e⟩ := s
      dsimp only at h1 hb hn hB
      obtain ⟨l, hl⟩ : ∃ l, l = (unt M (topF (cur t)).unit).code := ⟨_, rfl⟩
      obtain ⟨q, hq⟩ : ∃ q, q = (topF (cur t)).pc := ⟨_, rfl⟩
      have hins : insT M t = at_ l q := by rw [hl, hq]; rfl
      have hins' : insT (pasM M) (plT M t) = (Opt.pass l).1.getD (plc l q) default := by
        unfold insT
        rw [cur_sm, top_sm, unt_pas, hl, hq]; rfl
      have hqB : Bd l q := by
        by_cases he : (cur t).fr = []
        · have : topF (cur t) = default := by unfold topF; rw [he]; rfl
          rw [hq, this]; exact Bd.zero l
        · have hm : topF (cur t) ∈ (cur t).fr := by
            unfold topF
            have hn0 : (cur t).fr.length ≠ 0 := fun h' => he (List.eq_nil_of_length_eq_zero h')
            rw [List.getD_eq_getElem?_getD, List.getElem?_eq_getElem (by omega)]
            exact List.getElem_mem _
          rw [hl, hq]; exact hB.cur _ hm
      have cases : (insT (pasM M) (plT M t) = reloc (pass0 l).wh (at_ l q) ∧ Bd l (q + 1) ∧ plc l (q + 1) = plc l q + 1) ∨ (∃ A C, bs l = A ++ q :: C ∧ (shorter l q).2 ≠ 0) := by
        rcases hqB with h | ⟨A, C, h⟩
        · left
          have e0 : at_ l q = default := by unfold at_; rw [List.getD_eq_getElem?_getD, List.getElem?_eq_none h]; rfl
          exact ⟨by rw [hins', pass_off h, e0, reloc_default], .inl (by omega), plc_off h⟩
        · by_cases hs : (shorter l q).2 = 0
          · left
            have e1 : em l q = [at_ l q] := by unfold em; rw [if_pos hs]
            have e2 : nx l q = q + 1 := by unfold nx; rw [if_pos hs]
            obtain ⟨b1, b2⟩ := Bd.next h
            rw [e2] at b1 b2
            rw [e1] at b2
            exact ⟨by rw [hins', pass_on h e1], b1, b2⟩
          · exact .inr ⟨A, C, h, hs⟩
      rcases cases with ⟨c1, c2, c3⟩ | ⟨A, C, c1, c2⟩
      · -- an instruction that stays
        have hop : (insT (pasM M) (plT M t)).op = (insT M t).op := by rw [c1, reloc_op, hins]
        have ha : isJ (insT M t) = false → insT (pasM M) (plT M t) = insT M t := fun h => by rw [c1, reloc_no (by rw [← hins]; exact h), hins]
        have hlook : look V (pasM M) (plS M (t, e)) = plS M (look V M (t, e)) := by
          unfold look
          dsimp only
          rw [if_pos (show (plT M t).st ≤ 3 by show t.st ≤ 3; omega), if_pos (show t.st ≤ 3 by omega)]
          unfold waits
          dsimp only
          rw [hop]
          by_cases hj : isJ (insT M t) = true
          · have := isJ_iff.1 hj
            rw [if_neg (by omega), if_neg (by omega), if_neg (by omega), if_neg (by omega)]
            rfl
          · rw [ha (by simpa using hj)]
            split
            · rfl
            · split
              · rfl
              · rfl
        cases h with
        | stop _ h =>
          refine ⟨0, Nat.le_refl _, ?_⟩
          rw [← hlook]
          exact Run.stop _ (by rw [hlook]; exact h)
        | @step m _ _ h he k =>
          dsimp only at he
          have hself := atP_self he
          have hnx : nxS V (pasM M) (plS M (t, e)) = plS M (nxS V M (t, e)) ∧ AllF (fun f => Bd (unt M f.unit).code f.pc) (nxS V M (t, e)).1 := by
            have hset : setPc ((topF (cur (plT M t))).pc + 1) (plT M t) = plT M (setPc ((topF (cur t)).pc + 1) t) := by
              refine setPc_sm M _ _ t ?_
              rw [cur_sm, top_sm, ← hl, ← hq, c3]
              show plc (unt M (topF (cur t)).unit).code (topF (cur t)).pc + 1 = _
              rw [← hl, ← hq]
            have hsB : AllF (fun f => Bd (unt M f.unit).code f.pc) (setPc ((topF (cur t)).pc + 1) t) := hB.setPc (by
              show Bd (unt M (topF (cur t)).unit).code ((topF (cur t)).pc + 1)
              rw [← hl, ← hq]; exact c2)
            by_cases hj : isJ (insT M t) = true
            · have hmem : at_ l q ∈ l := by
                refine mem_at (Nat.lt_of_not_le fun h => ?_)
                have e0 : at_ l q = default := by unfold at_; rw [List.getD_eq_getElem?_getD, List.getElem?_eq_none h]; rfl
                rw [hins, e0] at hj
                cases hj
              have hJ' := hJ (topF (cur t)).unit (at_ l q) (by rw [← hl]; exact hmem) (by rw [← hins]; exact hj)
              rw [← hl] at hJ'
              obtain ⟨j1, j2⟩ := plc_jump (tgt_mem hmem (by rw [← hins]; exact hj)) hJ'.1 hJ'.2
              have hra : (insT (pasM M) (plT M t)).a.toNat = plc l (insT M t).a.toNat := by
                rw [c1, reloc_a (by rw [← hins]; exact hj), hins]; exact j2
              have hpe : setPc ((topF (cur t)).pc + 1) t = atP t (q + 1) (cur t).ws := by
                have hx := atP_pc he (topF (cur t)).pc (q + 1) (cur t).ws
                rw [hself] at hx
                rw [← hq]; exact hx
              have hat : ∀ p ws, topF (cur (atP t p ws)) = { topF (cur t) with pc := p } := fun p ws => atP_top he p ws
              unfold nxS
              dsimp only
              rw [hset, hpe]
              have hpl : ∀ p ws, plT M (atP t p ws) = atP (plT M t) (plc l p) ws := fun p ws => by rw [atP_sm he, hl]
              have he' := NE.pl he M
              rcases isJ_iff.1 hj with ho | ho
              · rw [hpl, exP_jump he' (by rw [hop]; exact ho), exP_jump he ho, hra]
                dsimp only
                refine ⟨Prod.ext ?_ rfl, AllF.nrm (atP_all he hB (by show Bd (unt M (topF (cur t)).unit).code _; rw [← hl, hins]; exact j1) _)⟩
                show nrm _ = plT M (nrm _)
                rw [← nrm_sm, hpl]
              · rw [hpl, exP_else he' (by rw [hop]; exact ho), exP_else he ho, hra]
                dsimp only
                by_cases h0 : (cur t).ws.getD ((cur t).ws.length - 1) 0 = 0
                · rw [if_pos h0, if_pos h0]
                  refine ⟨Prod.ext ?_ rfl, AllF.nrm (atP_all he hB (by show Bd (unt M (topF (cur t)).unit).code _; rw [← hl, hins]; exact j1) _)⟩
                  show nrm _ = plT M (nrm _)
                  rw [← nrm_sm, hpl]
                · rw [if_neg h0, if_neg h0]
                  refine ⟨Prod.ext ?_ rfl, AllF.nrm (atP_all he hB (by show Bd (unt M (topF (cur t)).unit).code _; rw [← hl]; exact c2) _)⟩
                  show nrm _ = plT M (nrm _)
                  rw [← nrm_sm, hpl]
            · have hjf : isJ (insT M t) = false := by simpa using hj
              have hno : (insT M t).op ≠ 21 ∧ (insT M t).op ≠ 22 := ⟨fun h => hj (isJ_iff.2 (.inl h)), fun h => hj (isJ_iff.2 (.inr h))⟩
              unfold nxS
              dsimp only
              rw [hset, ha hjf]
              have hx := exec_sm M V (insT M t) hno (setPc ((topF (cur t)).pc + 1) t, e)
              rw [hx]
              refine ⟨Prod.ext ?_ rfl, AllF.nrm (AllF.exec V M (fun k b => Bd.zero _) hsB _ hno)⟩
              exact nrm_sm M _
          obtain ⟨n', g1, g2⟩ := ih m (by omega) _ r k (nrm_idem _) hnx.2 hf
          refine ⟨n' + 1, by omega, Run.step ?_ (NE.pl he M) ?_⟩
          · rw [hlook]; exact h
          · rw [hnx.1]; exact g2
      · -- a piece
        obtain ⟨f1, f2⟩ := shorter_len c2 |>.2
        have hql := (bs_next c1).1
        have he : NE t := by
          have hl1 : (look V M (t, e)).1.st = 1 := by
            have hop : (insT M t).op ≠ 26 ∧ (insT M t).op ≠ 27 := by
              rw [hins]
              rcases shorter_cases c2 with ⟨r', g1, g2, g3⟩ | ⟨r', g1, g2, g3⟩ | ⟨g1, g2, g3, g4⟩
              · unfold three at g3
                split at g3
                · cases g3
                rename_i n1
                have := isC_of fun hx => n1 (.inl hx)
                omega
              · unfold pair at g3
                split at g3
                · rename_i g
                  rcases g.2 with g | g
                  · have := isC_iff.1 g; omega
                  · omega
                split at g3
                · cases g3
                rename_i n0
                have := isC_of n0
                omega
              · omega
            rw [look_go (V := V) (M := M) (s := (t, e)) h1 hb hop.1 hop.2]; exact h1
          cases h with
          | stop _ h => exact absurd hl1 h
          | step _ he _ => exact he
        have hself := atP_self he
        rw [← hq] at hself
        obtain ⟨ws, hws⟩ : ∃ ws, ws = (cur t).ws := ⟨_, rfl⟩
        rw [← hws] at hself
        have h' : Run V M n (atP t q ws, e) r := by rw [hself]; exact h
        obtain ⟨m, p', us, m1, m2, m3, m4⟩ := (piece_run he h1 hb h' hf (by rw [← hl]; exact c2)).ex
        rw [← hl] at m3 m4
        have hpl : ∀ p ws, plT M (atP t p ws) = atP (plT M t) (plc l p) ws := fun p ws => by rw [atP_sm he, hl]
        have he' := NE.pl he M
        have hs' : plS M (t, e) = (atP (plT M t) (plc l q) ws, e) := by
          show (plT M t, e) = _
          rw [← hpl, hself]
        have hnr : nrm (atP t p' us) = atP t p' us := nrm_of h1 hb
        obtain ⟨b1, b2⟩ := Bd.next c1
        have hmk : Bd l p' → ∃ n', n' ≤ m ∧ Run V (pasM M) n' (atP (plT M t) (plc l p') us, e) (plS M r) := fun hp => by
          obtain ⟨n', g1, g2⟩ := ih m m1 (atP t p' us, e) r m2 hnr (atP_all he hB (by show Bd (unt M (topF (cur t)).unit).code p'; rw [← hl]; exact hp) us) hf
          refine ⟨n', g1, ?_⟩
          rw [← hpl]; exact g2
        have htop : topF (cur (plT M t)) = plF M (topF (cur t)) := by rw [cur_sm, top_sm]
        have hat' : ∀ i, em l q = [i] → at_ (unt (pasM M) (topF (cur (plT M t))).unit).code (plc l q) = reloc (pass0 l).wh i := fun i hi => by
          rw [htop, unt_pas]
          show (Opt.pass (unt M (topF (cur t)).unit).code).1.getD _ default = _
          rw [← hl]
          exact pass_on c1 hi
        rcases m3 with ⟨i1, rfl, rfl⟩ | ⟨i, i1, i2, rfl, rfl, i5⟩ | ⟨i, i1, i2, i3, ⟨j, j1, j2, j3⟩, rfl, rfl⟩
        · obtain ⟨n', g1, g2⟩ := hmk b1
          rw [i1] at b2
          refine ⟨n', by omega, ?_⟩
          rw [hs']
          rw [b2] at g2
          exact g2
        · obtain ⟨n', g1, g2⟩ := hmk b1
          rw [i1] at b2
          have hi : at_ (unt (pasM M) (topF (cur (plT M t))).unit).code (plc l q) = i := by
            rw [hat' i i1, reloc_no]
            unfold isJ
            rw [decide_eq_false (by omega), decide_eq_false (by omega)]; rfl
          have hx : exec V (pasM M) i (atP (plT M t) (plc l q + 1) ws, e) = (atP (plT M t) (plc l q + 1) (ws ++ [cval i]), e) := by
            obtain ⟨v, hv, hx⟩ := exP_push (V := V) (M := pasM M) he' h1 hb (p := plc l q + 1) (ws := ws) (e := e) (i := i) (by omega)
            rw [hx, hv (by omega), atP_push he' V _ _ _ _ i5]
          have := m4 i i1
          refine ⟨n' + 1, by omega, ?_⟩
          rw [hs']
          rw [b2] at g2
          refine run_back (V := V) (M := pasM M) he' h1 hb (by rw [hi]; omega) (by rw [hi]; omega) ?_ g2
          rw [hi]
          exact hx
        · have hJ' := hJ (topF (cur t)).unit j (by rw [← hl]; exact j1) j2
          rw [← hl, j3] at hJ'
          obtain ⟨p1, p2⟩ := plc_jump i3 hJ'.1 hJ'.2
          obtain ⟨n', g1, g2⟩ := hmk p1
          have hi : at_ (unt (pasM M) (topF (cur (plT M t))).unit).code (plc l q) = reloc (pass0 l).wh i := hat' i i1
          have hjj : isJ i = true := isJ_iff.2 (.inl i2)
          have := m4 i i1
          refine ⟨n' + 1, by omega, ?_⟩
          rw [hs']
          refine run_back (V := V) (M := pasM M) he' h1 hb (by rw [hi, reloc_op]; omega) (by rw [hi, reloc_op]; omega) ?_ g2
          rw [hi, exP_jump he' (by rw [reloc_op]; exact i2)]
          congr 2
          rw [reloc_a hjj]; exact p2
    · -- at its end
      have hlk := look_st (V := V) (M := M) (s := s) h3
      have hlk' := look_st (V := V) (M := pasM M) (s := plS M s) h3
      refine ⟨0, Nat.zero_le _, ?_⟩
      cases h with
      | stop _ h =>
        rw [hlk] at h ⊢
        have := Run.stop (V := V) (M := pasM M) (plS M s) (by rw [hlk']; exact h)
        rwa [hlk'] at this
      | step h he k =>
        rw [hlk] at h
        omega
end
end Go.Proofs.Ytfeajpghabjaaaa.Vm
