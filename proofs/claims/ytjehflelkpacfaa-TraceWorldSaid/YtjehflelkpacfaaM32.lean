/- In a right module each box has one who sends and one who receives. Plain Lean. -/
import Derived.Test.YtjehflelkpacfaaM31
namespace Go.Proofs.Ytjehflelkpacfaa.Vm
set_option linter.unusedVariables false
set_option linter.unusedSimpArgs false
set_option linter.unusedSectionVars false
open ImgM Ver Opt
/-! what code calls or starts is come to -/
theorem calls_pre : ∀ (l : List Ins) (out : List Int), out <+: calls l out
  | [], out => List.prefix_refl _
  | i :: l, out => by
    rw [calls_cons]
    refine List.IsPrefix.trans ?_ (calls_pre l _)
    unfold call1
    split
    · exact List.prefix_append _ _
    · exact List.prefix_refl _
theorem calls_has : ∀ (l : List Ins) (out : List Int) (i : Ins), i ∈ l → i.op = 23 ∨ i.op = 29 → i.a ∈ calls l out
  | j :: l, out, i, hi, ho => by
    rw [calls_cons]
    rcases List.mem_cons.1 hi with rfl | hi
    · refine (calls_pre l _).subset ?_
      unfold call1
      by_cases h : i.a ∈ out
      · rw [if_neg (fun h' => h'.2 h)]; exact h
      · rw [if_pos ⟨ho, h⟩]; simp
    · exact calls_has l _ i hi ho
theorem reach_closed {M : Mdl} {N : Nat} (hc : ∀ k, k < N → ∀ i ∈ (M.units.getD k default).code, i.op = 23 ∨ i.op = 29 → 0 ≤ i.a ∧ i.a < (N : Int)) : ∀ (n k : Nat) (out : List Int), Once N out → N < n + k →
    (∀ j, j < k → j < out.length → ∀ i ∈ (uAt M (out.getD j 0)).code, i.op = 23 ∨ i.op = 29 → i.a ∈ out) →
    out <+: reachRun M n k out ∧ ∀ x ∈ reachRun M n k out, ∀ i ∈ (uAt M x).code, i.op = 23 ∨ i.op = 29 → i.a ∈ reachRun M n k out
  | n, k, out, h, hn, hcl => by
    by_cases hk : k < out.length
    · cases n with
      | zero => have := h.len; omega
      | succ n =>
        rw [reachRun_step hk]
        have hpre := calls_pre (M.units.getD (out.getD k 0).toNat default).code out
        have hget : ∀ j, j < out.length → (calls (M.units.getD (out.getD k 0).toNat default).code out).getD j 0 = out.getD j 0 := fun j hj => by
          obtain ⟨x, hx⟩ := hpre
          rw [← hx, List.getD_eq_getElem?_getD, List.getElem?_append_left hj, ← List.getD_eq_getElem?_getD]
        have ho : Once N (calls (M.units.getD (out.getD k 0).toNat default).code out) := calls_once _ _ h (hc _ (by
          have := h.ok (out.getD k 0) (by rw [List.getD_eq_getElem?_getD, List.getElem?_eq_getElem hk]; exact List.getElem_mem _)
          omega))
        obtain ⟨h1, h2⟩ := reach_closed hc n (k + 1) _ ho (by omega) (fun j hj hj2 i hi hop => by
          by_cases hjk : j = k
          · subst hjk
            rw [hget j hk] at hi
            exact calls_has _ _ i hi hop
          · rw [hget j (by omega)] at hi
            exact hpre.subset (hcl j (by omega) (by omega) i hi hop))
        exact ⟨hpre.trans h1, h2⟩
    · rw [reachRun_end hk]
      refine ⟨List.prefix_refl _, fun x hx i hi hop => ?_⟩
      obtain ⟨j, hj, rfl⟩ := List.getElem_of_mem hx
      refine hcl j (by omega) hj i ?_ hop
      rw [List.getD_eq_getElem?_getD, List.getElem?_eq_getElem hj]
      exact hi
/-! the units at work are come to -/
def Fin (R : Int → Prop) (t : Tk) : Prop := ∀ c ∈ t.cs, ∀ f ∈ c.fr, R (f.unit : Int)
section
variable {R : Int → Prop}
theorem Fin.cur {t : Tk} (h : Fin R t) : ∀ f ∈ (Vm.cur t).fr, R (f.unit : Int) := by
  intro f hf
  unfold Vm.cur at hf
  rw [List.getD_eq_getElem?_getD] at hf
  cases hc : t.cs[t.now]? with
  | none => rw [hc] at hf; cases hf
  | some c => rw [hc] at hf; exact h c (List.mem_of_getElem? hc) f hf
theorem Fin.co {t : Tk} (h : Fin R t) (k : Nat) : ∀ f ∈ (t.cs.getD k default).fr, R (f.unit : Int) := by
  intro f hf
  rw [List.getD_eq_getElem?_getD] at hf
  cases hc : t.cs[k]? with
  | none => rw [hc] at hf; cases hf
  | some c => rw [hc] at hf; exact h c (List.mem_of_getElem? hc) f hf
theorem Fin.setC {t : Tk} (h : Fin R t) (k : Nat) {c : Co} (hc : ∀ f ∈ c.fr, R (f.unit : Int)) : Fin R (Vm.setC t k c) := by
  intro d hd f hf
  rcases List.mem_or_eq_of_mem_set hd with hd | rfl
  · exact h d hd f hf
  · exact hc f hf
theorem Fin.setCur {t : Tk} (h : Fin R t) {c : Co} (hc : ∀ f ∈ c.fr, R (f.unit : Int)) : Fin R (Vm.setCur t c) := h.setC _ hc
theorem Fin.drop {t : Tk} (h : Fin R t) (n : Nat) : Fin R (Vm.drop n t) := h.setCur h.cur
theorem Fin.same {t t' : Tk} (h : Fin R t) (e : t'.cs = t.cs) : Fin R t' := by unfold Fin; rw [e]; exact h
theorem Fin.setPc {t : Tk} (h : Fin R t) (p : Nat) : Fin R (Vm.setPc p t) := by
  refine h.setCur fun f hf => ?_
  unfold setTop at hf
  dsimp only at hf
  by_cases h0 : (Vm.cur t).fr = []
  · rw [h0] at hf; cases hf
  · rcases List.mem_or_eq_of_mem_set hf with hf | rfl
    · exact h.cur f hf
    · refine h.cur (topF (Vm.cur t)) ?_
      unfold topF
      have hl : 0 < (Vm.cur t).fr.length := List.length_pos_iff.2 h0
      rw [List.getD_eq_getElem?_getD, List.getElem?_eq_getElem (by omega)]
      exact List.getElem_mem _
section
variable {x : Int} {M : Mdl}
theorem trap_fin (n : Int) {r : Tk × List Ev} (h : Fin R r.1) : Fin R (trap (rec x) n r).1 := by
  unfold trap
  split
  · exact h
  · exact h.same rfl
theorem push_fin (v : Int) {r : Tk × List Ev} (h : Fin R r.1) : Fin R (push (rec x) v r).1 := by
  unfold push
  split
  · exact trap_fin _ h
  · exact h.setCur h.cur
theorem pushN_fin : ∀ (n : Nat) {r : Tk × List Ev}, Fin R r.1 → Fin R (pushN (rec x) n r).1
  | 0, r, h => h
  | n + 1, r, h => by unfold pushN; exact pushN_fin n (push_fin 0 h)
theorem fin_ite {c : Prop} [Decidable c] {a b : Tk × List Ev} (h1 : Fin R a.1) (h2 : Fin R b.1) : Fin R (if c then a else b).1 := by split <;> assumption
theorem fin_ite1 {c : Prop} [Decidable c] {a b : Tk} (h1 : Fin R a) (h2 : Fin R b) : Fin R (if c then a else b) := by split <;> assumption
theorem loc_fin {i : Ins} {t : Tk} (h : Fin R t) (hi : i.op = 23 ∨ i.op = 29 → R (i.a.toNat : Int)) : Fin R (loc M x i t).1 := by
  unfold loc exec
  dsimp only
  refine fin_ite (push_fin _ h) ?_
  refine fin_ite (push_fin _ h) ?_
  refine fin_ite (push_fin _ h) ?_
  refine fin_ite ((h.drop 1).setCur (h.drop 1).cur) ?_
  refine fin_ite (h.drop 1) ?_
  refine fin_ite (push_fin _ (h.drop 1)) ?_
  refine fin_ite (push_fin _ (h.drop 1)) ?_
  refine fin_ite (fin_ite (trap_fin _ ((h.drop 1).drop 1)) (push_fin _ ((h.drop 1).drop 1))) ?_
  refine fin_ite (h.setPc _) ?_
  refine fin_ite (fin_ite1 ((h.drop 1).setPc _) (h.drop 1)) ?_
  refine fin_ite (h.drop 1) ?_
  refine fin_ite (push_fin _ h) ?_
  refine fin_ite ((h.drop 1).same rfl) ?_
  by_cases h23 : i.op = 23
  · rw [if_pos h23]
    unfold callU
    refine fin_ite (trap_fin _ h) (pushN_fin _ (h.setCur fun f hf => ?_))
    rcases List.mem_append.1 hf with hf | hf
    · exact h.cur f hf
    · simp at hf; subst hf
      exact hi (.inl h23)
  rw [if_neg h23]
  refine fin_ite ?_ ?_
  · unfold ret
    refine push_fin _ (h.setCur fun f hf => h.cur f ?_)
    exact List.mem_of_mem_take hf
  refine fin_ite ?_ ?_
  · unfold endU
    dsimp only
    cases (Vm.cur t).up with
    | none =>
      exact Fin.same (t := Vm.setCur t { Vm.cur t with st := 3, up := none }) (h.setCur h.cur) rfl
    | some j => exact push_fin _ (Fin.same (t := Vm.setCur t { Vm.cur t with st := 3, up := none }) (h.setCur h.cur) rfl)
  by_cases h29 : i.op = 29
  · rw [if_pos h29]
    unfold startU
    dsimp only
    refine fin_ite (trap_fin _ (h.drop _)) (push_fin _ ?_)
    intro c hc f hf
    rcases List.mem_append.1 hc with hc | hc
    · exact h.drop _ c hc f hf
    · simp at hc; subst hc
      simp [begin] at hf; subst hf
      exact hi (.inr h29)
  rw [if_neg h29]
  refine fin_ite ?_ ?_
  · unfold resumeU
    dsimp only
    refine fin_ite (trap_fin _ ((h.drop 1).drop 1)) ?_
    refine fin_ite (trap_fin _ ((h.drop 1).drop 1)) ?_
    have h2 := (h.drop 1).drop 1
    have h3 : ∀ k : Nat, Fin R ({ Vm.setC (Vm.drop 1 (Vm.drop 1 t)) k { ((Vm.drop 1 (Vm.drop 1 t)).cs.getD k default) with st := 2, up := some (Vm.drop 1 (Vm.drop 1 t)).now } with now := k } : Tk) := fun k => Fin.same (t := Vm.setC (Vm.drop 1 (Vm.drop 1 t)) k { ((Vm.drop 1 (Vm.drop 1 t)).cs.getD k default) with st := 2, up := some (Vm.drop 1 (Vm.drop 1 t)).now }) (h2.setC k (h2.co k)) rfl
    exact fin_ite (h3 _) (push_fin _ (h3 _))
  refine fin_ite ?_ ?_
  · unfold yieldU
    dsimp only
    exact push_fin _ (Fin.same (t := Vm.setCur (Vm.drop 1 t) { Vm.cur (Vm.drop 1 t) with st := 1, up := none }) ((h.drop 1).setCur (h.drop 1).cur) rfl)
  exact fin_ite (push_fin _ (h.drop 1)) h
end
end
/-! boxes as an environment -/
def bx0 (cap : Nat → Nat) : Env (List (List Int)) where
  full s b := decide ((s.getD b []).length = cap b)
  empty s b := decide ((s.getD b []).length = 0)
  put s b v := s.set b (s.getD b [] ++ [v])
  take s b := ((s.getD b []).headD 0, s.set b (s.getD b []).tail)
  tell s _ := s
theorem play_bx0 (cap : Nat → Nat) (ws : List (List Int)) (e : Ev) : play (bx0 cap) ws e = wplay ws e := rfl
theorem plays_bx0 (cap : Nat → Nat) : ∀ (l : List Ev) (ws : List (List Int)), l.foldl (play (bx0 cap)) ws = l.foldl wplay ws := fun l ws => by
  have : play (bx0 cap) = wplay := by funext ws e; exact play_bx0 cap ws e
  rw [this]
structure WK (M : Mdl) (ws : List (List Int)) : Prop where
  len : ws.length = M.boxes.length
  in64 : ∀ b, ∀ v ∈ ws.getD b [], In64 v
  typ : ∀ b, b < M.boxes.length → Typed (M.boxes.getD b default).1 (ws.getD b [])
theorem head_mem {l : List Int} (h : l.length ≠ 0) : l.headD 0 ∈ l := by
  cases l with
  | nil => exact absurd rfl h
  | cons a r => exact List.mem_cons_self
theorem bx0_ok (M : Mdl) (cap : Nat → Nat) : EnvOk (bx0 cap) M (WK M) := by
  refine ⟨fun s b hK hb he => ?_, fun s b v hK hb _ hv ht => ?_, fun s e hK => hK⟩
  · have he' : decide ((s.getD b []).length = 0) = false := he
    rw [decide_eq_false_iff_not] at he'
    have hm := head_mem he'
    refine ⟨⟨by simp [bx0, hK.len], fun j v hv => ?_, fun j hj h2 v hv => ?_⟩, hK.in64 b _ hm, fun h2 => hK.typ b hb h2 _ hm⟩
    · have hv' : v ∈ (s.set b (s.getD b []).tail).getD j [] := hv
      rw [getD_setL (by rw [hK.len]; exact hb)] at hv'
      split at hv'
      · exact hK.in64 b v (List.mem_of_mem_tail hv')
      · exact hK.in64 j v hv'
    · have hv' : v ∈ (s.set b (s.getD b []).tail).getD j [] := hv
      rw [getD_setL (by rw [hK.len]; exact hb)] at hv'
      split at hv'
      · rename_i e; subst e; exact hK.typ b hb h2 v (List.mem_of_mem_tail hv')
      · exact hK.typ j hj h2 v hv'
  · refine ⟨by simp [bx0, hK.len], fun j w hw => ?_, fun j hj h2 w hw => ?_⟩
    · have hw' : w ∈ (s.set b (s.getD b [] ++ [v])).getD j [] := hw
      rw [getD_setL (by rw [hK.len]; exact hb)] at hw'
      split at hw'
      · rcases List.mem_append.1 hw' with h | h
        · exact hK.in64 b w h
        · simp at h; subst h; exact hv
      · exact hK.in64 j w hw'
    · have hw' : w ∈ (s.set b (s.getD b [] ++ [v])).getD j [] := hw
      rw [getD_setL (by rw [hK.len]; exact hb)] at hw'
      split at hw'
      · rename_i e; subst e
        rcases List.mem_append.1 hw' with h | h
        · exact hK.typ b hb h2 w h
        · simp at h; subst h; exact ht h2
      · exact hK.typ j hj h2 w hw'
theorem WK.nil (M : Mdl) : WK M (List.replicate M.boxes.length []) :=
  ⟨by simp, (fun b v hv => by rw [getD_rep] at hv; cases hv), (fun b hb h2 v hv => by rw [getD_rep] at hv; cases hv)⟩
/-- how a task stands, looked at or not -/
def Gd (M : Mdl) (T : Nat → Int → Option Shape) (t : Tk) : Prop := t.st = 5 ∨ t.st = 4 ∨ (t.st = 1 ∧ ∃ ch, Ok M T t ch)
theorem nrm_st {t : Tk} (h : t.st = 1 ∨ t.st = 4 ∨ t.st = 5) : (nrm t).st = t.st := by
  unfold nrm
  rcases h with h | h | h
  · rw [if_pos (by omega)]; exact h.symm
  · rw [if_neg (by omega)]
  · rw [if_neg (by omega)]
theorem loc1_gd {M : Mdl} {T : Nat → Int → Option Shape} (hC : Certs M T) {cap : Nat → Nat} {t : Tk} {ws : List (List Int)} (hg : Gd M T t) (hw : WK M ws) (hc : Can M cap t ws) :
    Gd M T (loc1 M (xin M t ws) t).1 ∧ WK M ((loc1 M (xin M t ws) t).2.foldl wplay ws) := by
  obtain ⟨ch, hok⟩ : ∃ ch, Ok M T t ch := by
    have h1 := hc.st
    rcases hg with h | h | h
    · omega
    · omega
    · exact h.2
  have hwt : ((insT M t).op = 26 → (bx0 cap).full ws (insT M t).a.toNat = false) ∧ ((insT M t).op = 27 → (bx0 cap).empty ws (insT M t).a.toNat = false) :=
    ⟨fun o => decide_eq_false (hc.send o), fun o => decide_eq_false (hc.recv o)⟩
  have hr := exec_res hC (bx0_ok M cap) hok hw hwt
  have hst := exec_st hC (bx0_ok M cap) (insT M t) (setPc ((topF (cur t)).pc + 1) t, ws)
  have e := exec_pl (bx0 cap) M (xin M t ws) ws (insT M t) (mvd t) (fun o => by unfold xin; rw [if_pos o]; rfl)
  have e' : exec (bx0 cap) M (insT M t) (setPc ((topF (cur t)).pc + 1) t, ws) = pl (bx0 cap) ws (lstep M (xin M t ws) t) := e
  rw [e'] at hr hst
  refine ⟨?_, by have := hr.2; rw [show (pl (bx0 cap) ws (lstep M (xin M t ws) t)).2 = _ from plays_bx0 cap _ ws] at this; exact this⟩
  have hs1 : (lstep M (xin M t ws) t).1.st = t.st ∨ (lstep M (xin M t ws) t).1.st = 5 ∨ (lstep M (xin M t ws) t).1.st = 4 := hst
  rw [hc.st] at hs1
  have hn := nrm_st (t := (lstep M (xin M t ws) t).1) (by omega)
  rcases hr.1 with h | h | ⟨ch', h⟩
  · exact .inl (hn.trans h)
  · exact .inr (.inl (hn.trans h))
  · rcases hs1 with h1 | h1 | h1
    · refine .inr (.inr ⟨hn.trans h1, ch', ?_⟩)
      show Ok M T (nrm (lstep M (xin M t ws) t).1) ch'
      unfold nrm
      rw [if_pos (by omega)]
      exact h.st _ _
    · exact .inl (hn.trans h1)
    · exact .inr (.inl (hn.trans h1))
section
variable {M : Mdl} {T : Nat → Int → Option Shape} (hC : Certs M T) {L : List Nat} (hL : ∀ u ∈ L, u < M.units.length ∧ (unt M u).kind = 4)
include hC hL
theorem L_at {k : Nat} (hk : k < L.length) : (L.map (new M)).getD k default = new M (L.getD k 0) ∧ L.getD k 0 ∈ L := by
  refine ⟨?_, ?_⟩
  · rw [List.getD_eq_getElem?_getD, List.getD_eq_getElem?_getD, List.getElem?_map, List.getElem?_eq_getElem hk]; rfl
  · rw [List.getD_eq_getElem?_getD, List.getElem?_eq_getElem hk]; exact List.getElem_mem _
theorem runs_good {cap : Nat → Nat} {n : Nat} {xs : Nat → List Int} {ws : List (List Int)} (h : Runs M cap (L.map (new M)) n xs ws) : (∀ k, k < L.length → Gd M T (ltk M ((L.map (new M)).getD k default) (xs k))) ∧ WK M ws := by
  induction h with
  | nil =>
    refine ⟨fun k hk => ?_, WK.nil M⟩
    obtain ⟨e, hm⟩ := L_at hC hL hk
    obtain ⟨h1, h2⟩ := hL _ hm
    show Gd M T ((L.map (new M)).getD k default)
    rw [e]
    exact .inr (.inr ⟨rfl, [0], new_ok hC h1 h2⟩)
  | @step n j xs ws h hj hc ih =>
    have hj' : j < L.length := by simpa using hj
    obtain ⟨h1, h2⟩ := loc1_gd hC (ih.1 j hj') ih.2 hc
    refine ⟨fun k hk => ?_, h2⟩
    by_cases hkj : k = j
    · subst hkj
      rw [upd_same, ltk_snoc]; exact h1
    · rw [upd_ne _ _ hkj]; exact ih.1 k hk
/-- what a task comes to -/
theorem runs_fin {cap : Nat → Nat} {n : Nat} {xs : Nat → List Int} {ws : List (List Int)} (h : Runs M cap (L.map (new M)) n xs ws) : ∀ k, k < L.length → Fin (fun x => x ∈ reach M (L.getD k 0)) (ltk M ((L.map (new M)).getD k default) (xs k)) := by
  induction h with
  | nil =>
    intro k hk
    obtain ⟨e, hm⟩ := L_at hC hL hk
    obtain ⟨h1, h2⟩ := hL _ hm
    show Fin _ ((L.map (new M)).getD k default)
    rw [e]
    intro c hc f hf
    simp [new] at hc; subst hc
    simp [begin] at hf; subst hf
    exact (reach_closed (callsOk hC.form) (M.units.length + 1) 0 [((L.getD k 0 : Nat) : Int)] (Once.one h1) (by omega) (fun j hj => by omega)).1.subset (by simp)
  | @step n j xs ws h hj hc ih =>
    intro k hk
    by_cases hkj : k = j
    · subst hkj
      rw [upd_same, ltk_snoc]
      obtain ⟨hg, -⟩ := runs_good hC hL h
      have hgk := hg k hk
      have ihk := ih k hk
      obtain ⟨-, hm⟩ := L_at hC hL hk
      obtain ⟨h1, h2⟩ := hL _ hm
      generalize ltk M ((L.map (new M)).getD k default) (xs k) = t at *
      obtain ⟨ch, hok⟩ : ∃ ch, Ok M T t ch := by
        have h1 := hc.st
        rcases hgk with h | h | h
        · omega
        · omega
        · exact h.2
      obtain ⟨fs0, ws0, q, p, st, hh, loc, op, a⟩ := hok.at_
      obtain ⟨st', h', hr⟩ := a.here hC
      have hq : ((q : Nat) : Int) ∈ reach M (L.getD k 0) := ihk.cur ⟨q, p, ws0.length⟩ (by rw [a.fr]; simp)
      have hin : insT M t ∈ (uAt M (q : Int)).code := by
        have := hr.ins
        rw [← this]
        show (unt M q).code.getD p default ∈ (unt M q).code
        exact Opt.mem_at hr.lt
      have hcl := (reach_closed (callsOk hC.form) (M.units.length + 1) 0 [((L.getD k 0 : Nat) : Int)] (Once.one h1) (by omega) (fun j hj => by omega)).2
      have hrf : Fin (fun x => x ∈ reach M (L.getD k 0)) (lstep M (xin M t ws) t).1 := by
        refine loc_fin (ihk.setPc _) (fun o => ?_)
        have hia := hcl _ hq (insT M t) hin o
        have hge : 0 ≤ (insT M t).a := by
          have := (callsOk hC.form) q a.hq (insT M t) hin o
          exact this.1
        rw [Int.toNat_of_nonneg hge]
        exact hia
      show Fin _ (nrm (lstep M (xin M t ws) t).1)
      unfold nrm
      split
      · exact hrf.same rfl
      · exact hrf
    · rw [upd_ne _ _ hkj]; exact ih k hk
/-- an instruction at hand is one of those that are come to -/
theorem runs_ins {cap : Nat → Nat} {n : Nat} {xs : Nat → List Int} {ws : List (List Int)} (h : Runs M cap (L.map (new M)) n xs ws) {k : Nat} (hk : k < L.length) (h1 : (ltk M ((L.map (new M)).getD k default) (xs k)).st = 1) :
    (∃ x ∈ reach M (L.getD k 0), insT M (ltk M ((L.map (new M)).getD k default) (xs k)) ∈ (uAt M x).code) ∧ ∃ u, InsOk M u (insT M (ltk M ((L.map (new M)).getD k default) (xs k))) := by
  obtain ⟨hg, -⟩ := runs_good hC hL h
  have hgk := hg k hk
  have hf := runs_fin hC hL h k hk
  generalize ltk M ((L.map (new M)).getD k default) (xs k) = t at *
  obtain ⟨ch, hok⟩ : ∃ ch, Ok M T t ch := by
    rcases hgk with h | h | h
    · omega
    · omega
    · exact h.2
  obtain ⟨fs0, ws0, q, p, st, hh, loc, op, a⟩ := hok.at_
  obtain ⟨st', h', hr⟩ := a.here hC
  refine ⟨⟨(q : Int), hf.cur ⟨q, p, ws0.length⟩ (by rw [a.fr]; simp), ?_⟩, _, hr.ok⟩
  rw [← hr.ins]
  show (unt M q).code.getD p default ∈ (unt M q).code
  exact Opt.mem_at hr.lt
end
theorem findIdx_lt_getD {l : List Nat} {p : Nat → Bool} {k : Nat} (hk : k < l.length) (hp : p (l.getD k 0) = true) : l.findIdx p ≤ k := by
  refine Nat.not_lt.1 fun h => ?_
  have := List.not_of_lt_findIdx h
  rw [List.getD_eq_getElem?_getD, List.getElem?_eq_getElem hk] at hp
  simp at hp
  rw [hp] at this; cases this
/-- two tasks that use a box as senders, or as receivers, are one -/
theorem users_one {M : Mdl} {op b : Int} (h : users M op b ≤ 1) {j k : Nat} (hj : j < (tasks M).length) (hk : k < (tasks M).length) (uj : uses M op b ((tasks M).getD j 0) = true) (uk : uses M op b ((tasks M).getD k 0) = true) : j = k := by
  have e : users M op b = ((tasks M).filter (uses M op b)).length := by
    unfold users tasks
    rw [List.filter_filter]
    congr 1
    refine List.filter_congr (fun k _ => ?_)
    rw [Bool.and_comm]
  rw [e] at h
  refine Classical.byContradiction fun hne => ?_
  have key : ∀ (l : List Nat) (j k : Nat), j < k → k < l.length → uses M op b (l.getD j 0) = true → uses M op b (l.getD k 0) = true → 2 ≤ (l.filter (uses M op b)).length := by
    intro l
    induction l with
    | nil => intro j k _ h; simp at h
    | cons a l ih =>
      intro j k hjk hk hj hkk
      cases k with
      | zero => omega
      | succ k =>
        cases j with
        | zero =>
          have ha : uses M op b a = true := hj
          have hm : l.getD k 0 ∈ l.filter (uses M op b) := by
            rw [List.mem_filter]
            refine ⟨?_, hkk⟩
            have hk' : k < l.length := by simpa using hk
            rw [List.getD_eq_getElem?_getD, List.getElem?_eq_getElem hk']; exact List.getElem_mem _
          have := List.length_pos_of_mem hm
          rw [List.filter_cons, if_pos ha, List.length_cons]
          omega
        | succ j =>
          have := ih j k (by omega) (by simpa using hk) hj hkk
          rw [List.filter_cons]
          split
          · rw [List.length_cons]; omega
          · exact this
  rcases Nat.lt_or_gt_of_ne hne with h' | h'
  · have := key _ j k h' hk uj uk; omega
  · have := key _ k j h' hj uk uj; omega
/-- the tasks of a right module -/
def sOf (M : Mdl) (b : Nat) : Nat := (tasks M).findIdx (uses M 26 (b : Int))
def rOf (M : Mdl) (b : Nat) : Nat := (tasks M).findIdx (uses M 27 (b : Int))
theorem tasks_ok (M : Mdl) : ∀ u ∈ tasks M, u < M.units.length ∧ (unt M u).kind = 4 := fun u hu => by
  unfold tasks at hu
  rw [List.mem_filter, List.mem_range, decide_eq_true_eq] at hu
  exact hu
theorem runs_uses {M : Mdl} {T : Nat → Int → Option Shape} (hC : Certs M T) {cap : Nat → Nat} {n : Nat} {xs : Nat → List Int} {ws : List (List Int)} (h : Runs M cap ((tasks M).map (new M)) n xs ws) :
    ∀ k, k < (tasks M).length → ∀ b : Nat, (snd b (lev M (((tasks M).map (new M)).getD k default) (xs k)) ≠ [] → uses M 26 (b : Int) ((tasks M).getD k 0) = true) ∧ (rcv b (lev M (((tasks M).map (new M)).getD k default) (xs k)) ≠ [] → uses M 27 (b : Int) ((tasks M).getD k 0) = true) := by
  induction h with
  | nil => intro k hk b; exact ⟨fun h => absurd rfl h, fun h => absurd rfl h⟩
  | @step n j xs ws h hj hc ih =>
    intro k hk b
    by_cases hkj : k = j
    · subst hkj
      rw [upd_same, lev_snoc]
      obtain ⟨ih1, ih2⟩ := ih k hk b
      obtain ⟨⟨x, hx, hin⟩, -⟩ := runs_ins hC (tasks_ok M) h hk hc.st
      generalize ltk M (((tasks M).map (new M)).getD k default) (xs k) = t at *
      have hbd := (loc1_box (M := M) (x := xin M t ws) hc.st).ex
      have hu : ∀ op : Int, (insT M t).op = op → (insT M t).a = (b : Int) → uses M op (b : Int) ((tasks M).getD k 0) = true := fun op o ha => by
        unfold uses
        rw [List.any_eq_true]
        refine ⟨x, hx, ?_⟩
        rw [List.any_eq_true]
        exact ⟨_, hin, by simp [o, ha]⟩
      refine ⟨fun hne => ?_, fun hne => ?_⟩
      · rw [snd_app] at hne
        by_cases h0 : snd b (lev M (((tasks M).map (new M)).getD k default) (xs k)) = []
        · rw [h0, List.nil_append] at hne
          rcases hbd with ⟨o, v, h1, -⟩ | ⟨o, h1, -⟩ | ⟨o, -, h1, -⟩
          · rw [h1] at hne
            by_cases ha : (insT M t).a = (b : Int)
            · exact hu 26 o ha
            · rw [if_neg ha] at hne; exact absurd rfl hne
          · rw [h1] at hne; exact absurd rfl hne
          · rw [h1] at hne; exact absurd rfl hne
        · exact ih1 h0
      · rw [rcv_app] at hne
        by_cases h0 : rcv b (lev M (((tasks M).map (new M)).getD k default) (xs k)) = []
        · rw [h0, List.nil_append] at hne
          rcases hbd with ⟨o, v, -, h1, -⟩ | ⟨o, -, h1, -⟩ | ⟨o, -, -, h1, -⟩
          · rw [h1] at hne; exact absurd rfl hne
          · rw [h1] at hne
            by_cases ha : (insT M t).a = (b : Int)
            · exact hu 27 o ha
            · rw [if_neg ha] at hne; exact absurd rfl hne
          · rw [h1] at hne; exact absurd rfl hne
        · exact ih2 h0
    · rw [upd_ne _ _ hkj]; exact ih k hk b
theorem owns_of {M : Mdl} {T : Nat → Int → Option Shape} (hC : Certs M T) (hR : Right M) : Owns M ((tasks M).map (new M)) (sOf M) (rOf M) := by
  have hlen : ((tasks M).map (new M)).length = (tasks M).length := List.length_map _
  have far : ∀ (op : Int) (ho : op = 26 ∨ op = 27) (b k : Nat), k < (tasks M).length → uses M op (b : Int) ((tasks M).getD k 0) = true → k ≠ (tasks M).findIdx (uses M op (b : Int)) → False := fun op ho b k hk hu hne => by
    have hle := findIdx_lt_getD hk hu
    have hlt : (tasks M).findIdx (uses M op (b : Int)) < (tasks M).length := by omega
    have hfu : uses M op (b : Int) ((tasks M).getD ((tasks M).findIdx (uses M op (b : Int))) 0) = true := by
      rw [List.getD_eq_getElem?_getD, List.getElem?_eq_getElem hlt]
      exact List.findIdx_getElem (w := hlt)
    by_cases hb : b < M.boxes.length
    · have := hR.owned b hb
      have h1 : users M op (b : Int) ≤ 1 := by rcases ho with rfl | rfl; exact this.1; exact this.2
      exact hne (users_one h1 hk hlt hu hfu)
    · have hm : (tasks M).getD k 0 ∈ tasks M := by
        rw [List.getD_eq_getElem?_getD, List.getElem?_eq_getElem hk]; exact List.getElem_mem _
      have := uses_far hR.form ho (b := (b : Int)) (by omega) (tasks_ok M _ hm).1
      rw [this] at hu; cases hu
  refine ⟨fun {cap n xs ws} h k hk b hne => ?_, fun {cap n xs ws} h k hk b hne => ?_, fun {cap n xs ws} h k hk h1 ho => ?_⟩
  · refine Classical.byContradiction fun h0 => ?_
    rw [hlen] at hk
    exact far 26 (.inl rfl) b k hk ((runs_uses hC h k hk b).1 h0) hne
  · refine Classical.byContradiction fun h0 => ?_
    rw [hlen] at hk
    exact far 27 (.inr rfl) b k hk ((runs_uses hC h k hk b).2 h0) hne
  · rw [hlen] at hk
    obtain ⟨-, u, hio⟩ := runs_ins hC (tasks_ok M) h hk h1
    have := hio.box ho
    exact ⟨this.1, by simp only [bxOf]; omega⟩
end Go.Proofs.Ytjehflelkpacfaa.Vm

/- All tasks of a right module, as they are picked: what is known of them. Plain Lean. -/
namespace Go.Proofs.Ytjehflelkpacfaa.Vm
set_option linter.unusedVariables false
set_option linter.unusedSimpArgs false
set_option linter.unusedSectionVars false
open ImgM Ver Opt
def KB (M : Mdl) (s : Bs) : Prop := WK M s.ws
theorem bxs_ok (M : Mdl) (k : Option Nat) : EnvOk (bxs M k) M (KB M) := by
  have h0 := bx0_ok M (capN M)
  refine ⟨fun s b hK hb he => h0.take s.ws b hK hb he, fun s b v hK hb hf hv ht => h0.put s.ws b v hK hb hf hv ht, fun s e hK => ?_⟩
  cases k with
  | none => exact hK
  | some k => exact hK
/-- what is known of all tasks -/
structure Ma.Ok (M : Mdl) (T : Nat → Int → Option Shape) (c : Ma) : Prop where
  good : ∀ t ∈ c.ts, Good M T (KB M) (t, c.bs)
  out : ∀ t ∈ c.ts, t.out.length ≤ 2 * c.n
  log : c.bs.log.length ≤ 4 * c.n
  n : c.n ≤ 20000
theorem Good.with_ {M : Mdl} {T : Nat → Int → Option Shape} {ν : Type} {K : ν → Prop} {t : Tk} {s s' : ν} (h : Good M T K (t, s)) (hs : K s') : Good M T K (t, s') := ⟨h.1, hs⟩
theorem Ma.Ok.init {M : Mdl} {T : Nat → Int → Option Shape} (hC : Certs M T) : (Ma.init M).Ok M T := by
  refine ⟨fun t ht => ?_, fun t ht => ?_, Nat.zero_le _, Nat.zero_le _⟩
  · obtain ⟨u, hu, rfl⟩ := List.mem_map.1 ht
    obtain ⟨h1, h2⟩ := tasks_ok M u hu
    exact ⟨.inr (.inr ⟨show (1 : Int) ≤ 3 by decide, [0], new_ok hC h1 h2⟩), WK.nil M⟩
  · obtain ⟨u, hu, rfl⟩ := List.mem_map.1 ht
    exact Nat.zero_le _
section
variable {M : Mdl} {T : Nat → Int → Option Shape}
theorem goN_size {k : Option Nat} : ∀ (n : Nat) (r : Tk × Bs), (goN (bxs M k) M n r).2.1.out.length ≤ r.1.out.length + 2 * (goN (bxs M k) M n r).1 ∧ (goN (bxs M k) M n r).2.2.log.length ≤ r.2.log.length + 4 * (goN (bxs M k) M n r).1
  | 0, r => by simp [goN]
  | n + 1, r => by
    have hsz := step_size (M := M) (V := bxs M k) (sz := fun s : Bs => s.log.length) (fun v b x => Nat.le_succ _) (fun v b => Nat.le_succ _) (fun v x => by
      cases k with
      | none => exact Nat.le_succ _
      | some k => show (v.log ++ [(k, x)]).length ≤ v.log.length + 1; simp) r
    have ho := step_outLen (V := bxs M k) (M := M) r
    obtain ⟨h1, h2⟩ := goN_size (k := k) n (step (bxs M k) M r).2
    unfold goN
    by_cases hs : (step (bxs M k) M r).1 = true
    · rw [if_pos hs]
      dsimp only at hsz ⊢
      omega
    · rw [if_neg hs]
      have hn : (look (bxs M k) M r).1.st ≠ 1 := fun h => by rw [step_yes _ M h] at hs; exact hs rfl
      rw [step_no _ M hn, look_snd, (look_out _ M r).1]
      dsimp only
      omega
/-- what a pick of a task makes -/
structure Pkd (M : Mdl) (T : Nat → Int → Option Shape) (n : Nat) (r : Tk × Bs) (p : (Int × Nat) × (Tk × Bs)) : Prop where
  good : Good M T (KB M) p.2
  out : p.2.1.out.length ≤ r.1.out.length + 2 * p.1.2
  log : p.2.2.log.length ≤ r.2.log.length + 4 * p.1.2
  n : n + p.1.2 ≤ 20000
theorem pick1_ok (hC : Certs M T) {k : Option Nat} {n : Nat} {q : Int} {r : Tk × Bs} (hn : n ≤ 20000) (h : Good M T (KB M) r) : Pkd M T n r (pick1 (bxs M k) M n q r) := by
  unfold pick1
  by_cases h1 : q < 1 ∨ 10000 < q
  · rw [if_pos h1]; exact ⟨h, Nat.le_refl _, Nat.le_refl _, hn⟩
  rw [if_neg h1]
  by_cases h2 : (look (bxs M k) M r).1.st ≠ 1
  · rw [if_pos h2]
    exact ⟨look_good h, by rw [(look_out _ M r).1]; exact Nat.le_refl _, by rw [look_snd]; exact Nat.le_refl _, hn⟩
  rw [if_neg h2]
  have hg := goN_good hC (bxs_ok M k) (min q.toNat (20000 - n)) (look_good (V := bxs M k) h)
  have hsz := goN_size (M := M) (k := k) (min q.toNat (20000 - n)) (look (bxs M k) M r)
  have hle := goN_le (V := bxs M k) (M := M) (min q.toNat (20000 - n)) (look (bxs M k) M r)
  rw [(look_out _ M r).1, look_snd] at hsz
  generalize goN (bxs M k) M (min q.toNat (20000 - n)) (look (bxs M k) M r) = g at *
  have e : (if g.1 = 0 then ((10 : Int), 0) else (0, g.1)).2 = g.1 := by
    split
    · rename_i h; exact h.symm
    · rfl
  refine ⟨hg, ?_, ?_, ?_⟩
  · dsimp only; rw [e]; exact hsz.1
  · dsimp only; rw [e]; exact hsz.2
  · dsimp only; rw [e]; omega
theorem Ma.Ok.at_ {c : Ma} (h : c.Ok M T) {k : Nat} (hk : k < c.ts.length) : c.ts.getD k default ∈ c.ts := by
  rw [List.getD_eq_getElem?_getD, List.getElem?_eq_getElem hk]; exact List.getElem_mem _
/-- with a task picked all is known again -/
theorem Ma.Ok.put {c : Ma} (h : c.Ok M T) {k : Nat} (hk : k < c.ts.length) {p : (Int × Nat) × (Tk × Bs)} (hp : Pkd M T c.n (c.at_ k) p) : (⟨c.ts.set k p.2.1, p.2.2, c.n + p.1.2⟩ : Ma).Ok M T := by
  refine ⟨fun t ht => ?_, fun t ht => ?_, ?_, hp.n⟩
  · rcases List.mem_or_eq_of_mem_set ht with ht | rfl
    · exact (h.good t ht).with_ hp.good.2
    · exact hp.good
  · rcases List.mem_or_eq_of_mem_set ht with ht | rfl
    · have := h.out t ht
      dsimp only; omega
    · have h1 := hp.out
      have h2 := h.out _ (h.at_ hk)
      have h3 : (c.at_ k).1.out.length ≤ 2 * c.n := h2
      dsimp only; omega
  · have h1 := hp.log
    have h2 := h.log
    have h3 : (c.at_ k).2.log.length ≤ 4 * c.n := h2
    dsimp only; omega
theorem Ma.Ok.pick (hC : Certs M T) {c : Ma} (h : c.Ok M T) (told : Bool) (p : Int × Int) : (Vm.pick M told c p).2.Ok M T := by
  unfold Vm.pick
  by_cases h1 : p.1 < 0 ∨ (c.ts.length : Int) ≤ p.1
  · rw [if_pos h1]; exact h
  · rw [if_neg h1]
    have hk : p.1.toNat < c.ts.length := by omega
    exact h.put hk (pick1_ok hC h.n (h.good _ (h.at_ hk)))
theorem Ma.Ok.looked {c : Ma} (h : c.Ok M T) : (c.looked M).Ok M T := by
  refine ⟨fun t ht => ?_, fun t ht => ?_, h.log, h.n⟩
  · obtain ⟨t0, h0, rfl⟩ := List.mem_map.1 ht
    have := look_good (V := bxs M none) (h.good t0 h0)
    have e : look (bxs M none) M (t0, c.bs) = ((look (bxs M none) M (t0, c.bs)).1, c.bs) := Prod.ext rfl (look_snd _ M _)
    rw [e] at this
    exact this
  · obtain ⟨t0, h0, rfl⟩ := List.mem_map.1 ht
    rw [(look_out _ M _).1]
    exact h.out t0 h0
end
end Go.Proofs.Ytjehflelkpacfaa.Vm

/- All tasks looked at, walked: who can go on. -/
namespace Go.Proofs.Ytjehflelkpacfaa.Vw
open Go.RowKit Go.Proofs.Ytjehflelkpacfaa.Img
set_option linter.unusedVariables false
set_option linter.unusedSimpArgs false
attribute [local irreducible] Run Cod End OpT Still RunQ RunS RunT Fn PutOk
/-- where the machine lies -/
structure MaP where
  xb : Nat
  mb : Nat
  to : Option Addr
  tc : Nat
  tbs : List Nat
  p : BxP
abbrev E0 (m : ML) (p : BxP) : EnvM := bxEnv m.mdl p none trivial
abbrev maM (m : ML) (x : MaP) (ts : List TkL) (e : BxE) (n : Nat) : List Chunk := [blk x.xb (maC x.to x.tbs.length x.tc x.p.bo x.p.bs.length x.p.bc n) 80, blk x.mb (mdV m) 25, arr x.to x.tbs.length x.tc 81 ptrC x.tbs, bxM x.p e, tksM x.mb (bxV x.p.bo x.p.bs.length x.p.bc) (fun _ => .nilFunc) ts]
abbrev maA (ts : List TkL) (e : BxE) (n : Nat) : Vm.Ma := ⟨ts.map TkL.tk, e.abs, n⟩
/-- the machine in memory is well laid, and all is known of its tasks -/
structure MaIs (m : ML) (T : Nat → Int → Option Ver.Shape) (x : MaP) (ts : List TkL) (e : BxE) (n : Nat) : Prop where
  tbs : ts.map (·.tb) = x.tbs
  wf : ∀ t ∈ ts, t.Wf
  bx : BxOk m.mdl x.p e
  ok : (maA ts e n).Ok m.mdl T
/-- the first k tasks have been looked at -/
structure LkI (m : ML) (ts0 : List TkL) (e : BxE) (k : Nat) (ts : List TkL) : Prop where
  len : ts.length = ts0.length
  at_ : ∀ j, j < ts0.length → (ts.getD j default).tb = (ts0.getD j default).tb ∧ (ts.getD j default).Wf ∧ (ts.getD j default).tk = if j < k then (Vm.look (Vm.bxs m.mdl none) m.mdl ((ts0.getD j default).tk, e.abs)).1 else (ts0.getD j default).tk
section
variable {m : ML} {T : Nat → Int → Option Ver.Shape} {x : MaP} {ts ts0 : List TkL} {e : BxE} {n k : Nat}
theorem tkl_mem {l : List TkL} {k : Nat} (hk : k < l.length) : l.getD k default ∈ l := by
  rw [List.getD_eq_getElem?_getD, List.getElem?_eq_getElem hk]; exact List.getElem_mem hk
theorem LkI.zero (h : MaIs m T x ts0 e n) : LkI m ts0 e 0 ts0 := ⟨rfl, fun j hj => ⟨rfl, h.wf _ (tkl_mem hj), by rw [if_neg (by omega)]⟩⟩
theorem LkI.next (h : MaIs m T x ts0 e n) (hl : LkI m ts0 e k ts) (hk : k < ts0.length) : LkI m ts0 e (k + 1) (ts.set k ((((ts.getD k default).sl (E0 m x.p) e).look m).lay (ts.getD k default).tb)) := by
  have hz : ((ts.getD k default).sl (E0 m x.p) e).Wf := (hl.at_ k hk).2.1.sl h.bx
  refine ⟨by simpa using hl.len, fun j hj => ?_⟩
  have hg : ∀ t, (ts.set k t).getD j default = if k = j then t else ts.getD j default := fun t => by
    simp only [List.getD_eq_getElem?_getD, List.getElem?_set]
    by_cases hkj : k = j
    · subst hkj; rw [if_pos rfl, if_pos rfl, if_pos (by rw [hl.len]; exact hk)]; rfl
    · rw [if_neg hkj, if_neg hkj]
  rw [hg]
  by_cases hkj : k = j
  · subst hkj
    rw [if_pos rfl]
    have ha := hl.at_ k hk
    have ht := ha.2.2
    rw [if_neg (by omega)] at ht
    refine ⟨ha.1, (hz.look m).lay _, ?_⟩
    rw [if_pos (by omega), ← ht]
    exact congrArg (·.1) (hz.look_two m)
  · rw [if_neg hkj]
    obtain ⟨a1, a2, a3⟩ := hl.at_ j hj
    refine ⟨a1, a2, ?_⟩
    rw [a3]
    by_cases hjk : j < k
    · rw [if_pos hjk, if_pos (by omega)]
    · rw [if_neg hjk, if_neg (by omega)]
theorem LkI.tbs (h : MaIs m T x ts0 e n) (hl : LkI m ts0 e k ts) : ts.map (·.tb) = x.tbs := by
  rw [← h.tbs]
  refine List.ext_getElem (by simpa using hl.len) fun j h1 h2 => ?_
  simp only [List.length_map] at h1 h2
  have := (hl.at_ j h2).1
  simp only [List.getD_eq_getElem?_getD, List.getElem?_eq_getElem h1, List.getElem?_eq_getElem h2, Option.getD_some] at this
  simpa using this
theorem LkI.done (h : MaIs m T x ts0 e n) (hl : LkI m ts0 e ts0.length ts) : MaIs m T x ts e n ∧ maA ts e n = (maA ts0 e n).looked m.mdl := by
  have e1 : ts.map TkL.tk = (ts0.map TkL.tk).map fun t => (Vm.look (Vm.bxs m.mdl none) m.mdl (t, e.abs)).1 := by
    refine List.ext_getElem (by simpa using hl.len) fun j h1 h2 => ?_
    simp only [List.length_map] at h1 h2
    have := (hl.at_ j h2).2.2
    rw [if_pos h2] at this
    simp only [List.getD_eq_getElem?_getD, List.getElem?_eq_getElem h1, List.getElem?_eq_getElem h2, Option.getD_some] at this
    simpa using this
  have e2 : maA ts e n = (maA ts0 e n).looked m.mdl := by unfold Vm.Ma.looked; rw [← e1]
  refine ⟨⟨hl.tbs h, fun t ht => ?_, h.bx, by rw [e2]; exact h.ok.looked⟩, e2⟩
  obtain ⟨j, hj, rfl⟩ := List.getElem_of_mem ht
  have := (hl.at_ j (by rw [← hl.len]; exact hj)).2.1
  rwa [List.getD_eq_getElem?_getD, List.getElem?_eq_getElem hj] at this
theorem MaIs.good (h : MaIs m T x ts0 e n) (hl : LkI m ts0 e k ts) (hk : k < ts0.length) : Vm.Good m.mdl T (Vm.KB m.mdl) ((ts.getD k default).sl (E0 m x.p) e).two := by
  have ht := (hl.at_ k hk).2.2
  rw [if_neg (by omega)] at ht
  show Vm.Good m.mdl T (Vm.KB m.mdl) ((ts.getD k default).tk, e.abs)
  rw [ht]
  exact h.ok.good _ (List.mem_map.2 ⟨_, tkl_mem hk, rfl⟩)
end
end Go.Proofs.Ytjehflelkpacfaa.Vw
