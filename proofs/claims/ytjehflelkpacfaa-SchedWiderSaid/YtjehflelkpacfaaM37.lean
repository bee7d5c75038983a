/- What picks do is an order of steps that the boxes allow. Plain Lean. -/
import Derived.Test.YtjehflelkpacfaaM36
namespace Go.Proofs.Ytjehflelkpacfaa.Vm
open ImgM Ver Opt
set_option linter.unusedVariables false
set_option linter.unusedSimpArgs false
abbrev tks0 (M : Mdl) : List Tk := (tasks M).map (new M)
/-- an event that boxes allow -/
def Fine (M : Mdl) (ws : List (List Int)) (e : Ev) : Prop :=
  (e.1 = 2 → 0 ≤ e.2.1 ∧ e.2.1.toNat < M.boxes.length ∧ (ws.getD e.2.1.toNat []).length + 1 ≤ capN M e.2.1.toNat) ∧ (e.1 = 3 → 0 ≤ e.2.1 ∧ e.2.1.toNat < M.boxes.length ∧ (ws.getD e.2.1.toNat []).length ≠ 0 ∧ (ws.getD e.2.1.toNat []).headD 0 = e.2.2)
theorem split1 {α : Type} {a e : α} {p q : List α} (h : [a] = p ++ e :: q) : p = [] ∧ e = a := by
  cases p with
  | nil => simp at h; exact ⟨rfl, h.1.symm⟩
  | cons b p => simp at h
theorem split2 {α : Type} {a b e : α} {p q : List α} (h : [a, b] = p ++ e :: q) : (p = [] ∧ e = a) ∨ e = b := by
  cases p with
  | nil => simp at h; exact .inl ⟨rfl, h.1.symm⟩
  | cons c p =>
    simp only [List.cons_append, List.cons.injEq] at h
    exact .inr (split1 h.2).2
/-- who sends or receives does it first -/
theorem Did.first {i : Ins} {x : Int} {t : Tk} {r : Tk × List Ev} (h : Did i x t r) {p q : List Ev} {e : Ev} (he : r.2 = p ++ e :: q) : (e.1 = 2 → p = [] ∧ i.op = 26 ∧ e.2.1 = i.a) ∧ (e.1 = 3 → p = [] ∧ i.op = 27 ∧ e.2.1 = i.a ∧ e.2.2 = x) := by
  rcases h.ex with ⟨t1, l1, h1, -, -, -, h5⟩ | ⟨ho, h1, -⟩
  · have h2 : r.2 = l1 ∨ ∃ n, r.2 = l1 ++ [(5, 0, n)] := by
      rcases h1 with ⟨e, -⟩ | ⟨e, -⟩
      · exact .inl e
      · exact .inr ⟨_, e⟩
    have one : ∀ a : Ev, l1 = [a] → (e.1 = 2 ∨ e.1 = 3) → p = [] ∧ e = a := fun a ha hk => by
      subst ha
      rcases h2 with h2 | ⟨n, h2⟩
      · rw [he] at h2; exact split1 h2.symm
      · rw [he] at h2
        rcases split2 h2.symm with h | h
        · exact h
        · rw [h] at hk; simp at hk
    rcases h5 with ⟨rfl, -, -⟩ | ⟨ho, hl⟩ | ⟨ho, hl⟩ | ⟨ho, hl⟩ | ⟨ho, hl⟩
    · have no : ¬ (e.1 = 2 ∨ e.1 = 3) := fun hk => by
        rcases h2 with h2 | ⟨n, h2⟩
        · rw [he] at h2; simp at h2
        · rw [he] at h2
          obtain ⟨-, h⟩ := split1 (h2.symm : [(5, 0, n)] = p ++ e :: q)
          rw [h] at hk; simp at hk
      exact ⟨fun h => absurd (.inl h) no, fun h => absurd (.inr h) no⟩
    all_goals
      refine ⟨fun hk => ?_, fun hk => ?_⟩
      · obtain ⟨a1, rfl⟩ := one _ hl (.inl hk)
        first
          | exact ⟨a1, ho, rfl⟩
          | (simp at hk)
      · obtain ⟨a1, rfl⟩ := one _ hl (.inr hk)
        first
          | exact ⟨a1, ho, rfl, rfl⟩
          | (simp at hk)
  · rw [he] at h1
    obtain ⟨-, rfl⟩ := split1 h1.symm
    exact ⟨fun h => by simp at h, fun h => by simp at h⟩
/-- a machine stands where such an order has brought it -/
structure Stood (M : Mdl) (told : Bool) (c : Ma) (xs : Nat → List Int) : Prop where
  runs : Runs M (capN M) (tks0 M) c.n xs c.bs.ws
  len : c.ts.length = (tks0 M).length
  tk : ∀ k, k < (tks0 M).length → nrm (c.ts.getD k default) = ltk M ((tks0 M).getD k default) (xs k)
  log : told = true → (∀ k : Nat, ((c.bs.log.filter fun e => decide (e.1 = k)).map (·.2)) = if k < (tks0 M).length then lev M ((tks0 M).getD k default) (xs k) else []) ∧ (c.bs.log.map (·.2)).foldl wplay (List.replicate M.boxes.length []) = c.bs.ws
  fine : told = true → ∀ s r, Owns M (tks0 M) s r → ∀ p e q, c.bs.log.map (·.2) = p ++ e :: q → Fine M (p.foldl wplay (List.replicate M.boxes.length [])) e
section
variable {M : Mdl} {told : Bool} {c : Ma} {xs : Nat → List Int}
theorem nrm_new (M : Mdl) (u : Nat) : nrm (new M u) = new M u := by
  unfold nrm
  rw [if_pos (show (new M u).st ≤ 3 from (by decide : (1 : Int) ≤ 3))]
  rfl
theorem tks0_at {k : Nat} (hk : k < (tks0 M).length) : (tks0 M).getD k default = new M ((tasks M).getD k 0) := by
  have hk' : k < (tasks M).length := by simpa using hk
  rw [List.getD_eq_getElem?_getD, List.getElem?_map, List.getElem?_eq_getElem hk', List.getD_eq_getElem?_getD, List.getElem?_eq_getElem hk']; rfl
theorem Stood.init (M : Mdl) (told : Bool) : Stood M told (Ma.init M) (fun _ => []) := by
  refine ⟨Runs.nil, rfl, fun k hk => ?_, fun _ => ⟨fun k => ?_, rfl⟩, fun _ s r _ p e q h => by simp [Ma.init] at h⟩
  · show nrm ((tks0 M).getD k default) = (tks0 M).getD k default
    rw [tks0_at hk]; exact nrm_new M _
  · show [] = _
    split <;> rfl
theorem nrm_alk {t t' : Tk} (h : Alk t t') : nrm t = nrm t' := by
  rcases h with rfl | ⟨h3, a, b, ha, rfl⟩
  · rfl
  · unfold nrm
    rw [if_pos h3, if_pos (show ({ t with st := a, bx := b } : Tk).st ≤ 3 from ha)]
theorem nrm_look {ν : Type} (V : Env ν) (r : Tk × ν) : nrm (look V M r).1 = nrm r.1 := nrm_alk (look_back V r)
theorem nrm_ins {M : Mdl} (t : Tk) : insT M (nrm t) = insT M t := by
  unfold nrm
  split <;> rfl
theorem plays_ws (M : Mdl) (k : Option Nat) : ∀ (l : List Ev) (s : Bs), (l.foldl (play (bxs M k)) s).ws = l.foldl wplay s.ws
  | [], s => rfl
  | e :: l, s => by
    simp only [List.foldl_cons]
    rw [plays_ws M k l]
    congr 1
    have tl : ∀ (s : Bs) e, ((bxs M k).tell s e).ws = s.ws := fun s e => by cases k <;> rfl
    unfold play wplay
    split
    · rw [tl]; rfl
    · split
      · rw [tl]; rfl
      · rw [tl]
theorem plays_log (M : Mdl) (k : Nat) : ∀ (l : List Ev) (s : Bs), (l.foldl (play (bxs M (some k))) s).log = s.log ++ l.map (fun e => (k, e))
  | [], s => by simp
  | e :: l, s => by
    simp only [List.foldl_cons]
    rw [plays_log M k l]
    have : (play (bxs M (some k)) s e).log = s.log ++ [(k, e)] := by
      unfold play
      split
      · rfl
      · split <;> rfl
    rw [this]; simp
theorem mp2 (k : Nat) : ∀ l : List Ev, (l.map fun e => (k, e)).map (·.2) = l
  | [] => rfl
  | a :: l => by simp only [List.map_cons, mp2 k l]
/-- a task that can go on, takes a step -/
theorem step_loc {k : Option Nat} {t : Tk} {s : Bs} (h : (look (bxs M k) M (t, s)).1.st = 1) :
    Can M (capN M) (nrm t) s.ws ∧ (step (bxs M k) M (t, s)).1 = true ∧ nrm (step (bxs M k) M (t, s)).2.1 = (loc1 M (xin M (nrm t) s.ws) (nrm t)).1 ∧ (step (bxs M k) M (t, s)).2.2 = (loc1 M (xin M (nrm t) s.ws) (nrm t)).2.foldl (play (bxs M k)) s := by
  obtain ⟨h3, h26, h27⟩ := look_ready h
  dsimp only at h3 h26 h27
  have hn : nrm t = { t with st := 1, bx := 0 } := by unfold nrm; rw [if_pos h3]
  have hl : look (bxs M k) M (t, s) = (nrm t, s) := by rw [hn]; exact look_one h3 h26 h27
  have hx : inp (bxs M k) M (t, s) = xin M (nrm t) s.ws := by
    unfold inp xin bxOf
    rw [nrm_ins]
    rfl
  refine ⟨⟨by rw [hn], fun ho => ?_, fun ho => ?_⟩, ?_⟩
  · rw [nrm_ins] at ho
    have := h26 ho
    unfold bxOf
    rw [nrm_ins]
    exact of_decide_eq_false this
  · rw [nrm_ins] at ho
    have := h27 ho
    unfold bxOf
    rw [nrm_ins]
    exact of_decide_eq_false this
  · rw [step_yes _ M h, hl, hx]
    refine ⟨rfl, ?_, ?_⟩
    · dsimp only
      rw [nrm_look]; rfl
    · dsimp only
      rw [look_snd]; rfl
theorem set_getD {l : List Tk} {k : Nat} (hk : k < l.length) : l.set k (l.getD k default) = l := by
  refine List.ext_getElem (by simp) fun j h1 h2 => ?_
  rw [List.getElem_set]
  split
  · rename_i e; subst e; rw [List.getD_eq_getElem?_getD, List.getElem?_eq_getElem h2]; rfl
  · rfl
/-- one task seen anew -/
theorem Stood.seen {k : Nat} {t t' : Tk} {ts : List Tk} {s : Bs} {n : Nat} (hk : k < ts.length) (h : Stood M told ⟨ts.set k t, s, n⟩ xs) (e : nrm t' = nrm t) : Stood M told ⟨ts.set k t', s, n⟩ xs := by
  obtain ⟨h1, h2, h3, h4, h5⟩ := h
  refine ⟨h1, by simpa using h2, fun j hj => ?_, h4, h5⟩
  have := h3 j hj
  dsimp only at this ⊢
  rw [getD_set hk] at this ⊢
  by_cases ejk : k = j
  · subst ejk; rw [if_pos rfl] at this ⊢; rw [e]; exact this
  · rw [if_neg ejk] at this ⊢; exact this
theorem fine_new {so ro : Nat → Nat} (ho : Owns M (tks0 M) so ro) {n k : Nat} {ws ws' : List (List Int)} (g1 : Runs M (capN M) (tks0 M) n xs ws) (hkT : k < (tks0 M).length) (hc : Can M (capN M) (ltk M ((tks0 M).getD k default) (xs k)) ws) (hws : ws' = ws) {p' q : List Ev} {e : Ev} (he : (loc1 M (xin M (ltk M ((tks0 M).getD k default) (xs k)) ws) (ltk M ((tks0 M).getD k default) (xs k))).2 = p' ++ e :: q) : Fine M (p'.foldl wplay ws') e := by
  subst hws
  have hrng := ho.rng g1 k hkT hc.st
  have hfit := g1.fit ho
  obtain ⟨f2, f3⟩ := (lstep_did M (x := xin M (ltk M ((tks0 M).getD k default) (xs k)) ws') (t := ltk M ((tks0 M).getD k default) (xs k)) (by have := hc.st; omega)).first he
  have h2 := hc.send
  have h3 := hc.recv
  have hx : (insT M (ltk M ((tks0 M).getD k default) (xs k))).op = 27 → xin M (ltk M ((tks0 M).getD k default) (xs k)) ws' = (ws'.getD (bxOf M (ltk M ((tks0 M).getD k default) (xs k))) []).headD 0 := fun h => by unfold xin; rw [if_pos h]
  generalize ltk M ((tks0 M).getD k default) (xs k) = u at *
  unfold bxOf at *
  refine ⟨fun h => ?_, fun h => ?_⟩
  · obtain ⟨rfl, ho, ha⟩ := f2 h
    obtain ⟨r1, r2⟩ := hrng (.inl ho)
    rw [ha]
    have h4 := h2 ho
    have h5 := hfit _ r2
    show 0 ≤ _ ∧ _ ∧ (ws'.getD _ []).length + 1 ≤ _
    exact ⟨r1, r2, by omega⟩
  · obtain ⟨rfl, ho, ha, hv⟩ := f3 h
    obtain ⟨r1, r2⟩ := hrng (.inr ho)
    rw [ha, hv]
    exact ⟨r1, r2, h3 ho, (hx ho).symm⟩
theorem Stood.stepd {k : Nat} {t : Tk} {ts : List Tk} {s : Bs} {n : Nat} (hk : k < ts.length) (h : Stood M told ⟨ts.set k t, s, n⟩ xs) (hs : (look (bxs M (tOf told k)) M (t, s)).1.st = 1) :
    ∃ xs', Stood M told ⟨ts.set k (step (bxs M (tOf told k)) M (t, s)).2.1, (step (bxs M (tOf told k)) M (t, s)).2.2, n + 1⟩ xs' := by
  obtain ⟨hc, h1, h2, h3⟩ := step_loc hs
  obtain ⟨g1, g2, g3, g4, g5⟩ := h
  have hkT : k < (tks0 M).length := by rw [← g2]; simpa using hk
  have hu := g3 k hkT
  dsimp only at g1 g2 g3 g4 hu
  rw [getD_set hk, if_pos rfl] at hu
  rw [hu] at hc h2 h3
  refine ⟨fun j => if j = k then xs k ++ [xin M (ltk M ((tks0 M).getD k default) (xs k)) s.ws] else xs j, ⟨?_, by simpa using g2, fun j hj => ?_, fun ht => ?_, fun ht so ro ho p e q hpe => ?_⟩⟩
  · have := Runs.step g1 hkT hc
    dsimp only
    rw [h3, plays_ws]
    exact this
  · have := g3 j hj
    dsimp only at this ⊢
    rw [getD_set hk] at this ⊢
    by_cases ejk : k = j
    · subst ejk
      rw [if_pos rfl, if_pos rfl, h2, ltk_snoc]
    · rw [if_neg ejk] at this
      rw [if_neg ejk, if_neg (fun e => ejk e.symm)]
      exact this
  · obtain ⟨l1, l2⟩ := g4 ht
    have hto : tOf told k = some k := by unfold tOf; rw [if_pos ht]
    rw [hto] at h3 ⊢
    dsimp only
    refine ⟨fun j => ?_, ?_⟩
    · rw [h3, plays_log, List.filter_append, List.map_append, l1 j]
      by_cases ejk : j = k
      · subst ejk
        rw [if_pos hkT, if_pos hkT, if_pos rfl, lev_snoc]
        congr 1
        rw [List.filter_eq_self.2 (by intro a ha; obtain ⟨e, -, rfl⟩ := List.mem_map.1 ha; simp), mp2]
      · have : (((loc1 M (xin M (ltk M ((tks0 M).getD k default) (xs k)) s.ws) (ltk M ((tks0 M).getD k default) (xs k))).2.map fun e => (k, e)).filter fun e => decide (e.1 = j)) = [] := by
          rw [List.filter_eq_nil_iff]
          intro a ha
          obtain ⟨e, -, rfl⟩ := List.mem_map.1 ha
          simpa using fun h => ejk h.symm
        rw [this, if_neg ejk]; simp
    · rw [h3, plays_log, plays_ws, List.map_append, mp2, List.foldl_append, l2]
  · obtain ⟨l1, l2⟩ := g4 ht
    have hto : tOf told k = some k := by unfold tOf; rw [if_pos ht]
    rw [hto] at h3 hpe
    dsimp only at hpe
    rw [h3, plays_log, List.map_append, mp2] at hpe
    rcases List.append_eq_append_iff.1 hpe.symm with ⟨p', hp1, hp2⟩ | ⟨p', hp1, hp2⟩
    · cases p' with
      | nil =>
        rw [List.append_nil] at hp1
        exact fine_new ho g1 hkT hc (by rw [← hp1, l2]) (p' := []) hp2.symm
      | cons a p'' =>
        simp only [List.cons_append, List.cons.injEq] at hp2
        obtain ⟨rfl, -⟩ := hp2
        exact g5 ht so ro ho p e p'' hp1
    · rw [hp1, List.foldl_append, l2]
      exact fine_new ho g1 hkT hc rfl hp2
theorem Stood.goes {k : Nat} {ts : List Tk} (hk : k < ts.length) : ∀ (f : Nat) {t : Tk} {s : Bs} {n : Nat} {xs : Nat → List Int}, Stood M told ⟨ts.set k t, s, n⟩ xs →
    ∃ xs', Stood M told ⟨ts.set k (goN (bxs M (tOf told k)) M f (t, s)).2.1, (goN (bxs M (tOf told k)) M f (t, s)).2.2, n + (goN (bxs M (tOf told k)) M f (t, s)).1⟩ xs'
  | 0, t, s, n, xs, h => ⟨xs, h⟩
  | f + 1, t, s, n, xs, h => by
    unfold goN
    by_cases hs : (look (bxs M (tOf told k)) M (t, s)).1.st = 1
    · obtain ⟨xs', h'⟩ := h.stepd hk hs
      have e1 : (Vm.step (bxs M (tOf told k)) M (t, s)).1 = true := by rw [step_yes _ M hs]
      rw [if_pos e1]
      obtain ⟨xs2, h2⟩ := Stood.goes hk f h'
      refine ⟨xs2, ?_⟩
      dsimp only at h2 ⊢
      rw [Nat.add_comm (goN _ _ _ _).1 1, ← Nat.add_assoc]
      exact h2
    · have e1 := step_no (bxs M (tOf told k)) M hs
      rw [e1, if_neg (by simp)]
      refine ⟨xs, ?_⟩
      have := h.seen hk (nrm_look (M := M) (bxs M (tOf told k)) (t, s))
      dsimp only
      rw [look_snd]
      exact this
theorem Stood.pickd (h : Stood M told c xs) (p : Int × Int) : ∃ xs', Stood M told (pick M told c p).2 xs' := by
  unfold Vm.pick
  by_cases h1 : p.1 < 0 ∨ (c.ts.length : Int) ≤ p.1
  · rw [if_pos h1]; exact ⟨xs, h⟩
  · rw [if_neg h1]
    have hk : p.1.toNat < c.ts.length := by omega
    have h0 : Stood M told ⟨c.ts.set p.1.toNat (c.ts.getD p.1.toNat default), c.bs, c.n⟩ xs := by rw [set_getD hk]; exact h
    dsimp only
    unfold pick1 Ma.at_
    by_cases h2 : p.2 < 1 ∨ 10000 < p.2
    · rw [if_pos h2]; exact ⟨xs, h0⟩
    rw [if_neg h2]
    have hL := h0.seen hk (nrm_look (M := M) (bxs M (tOf told p.1.toNat)) (c.ts.getD p.1.toNat default, c.bs))
    by_cases h3 : (look (bxs M (tOf told p.1.toNat)) M (c.ts.getD p.1.toNat default, c.bs)).1.st ≠ 1
    · rw [if_pos h3]
      refine ⟨xs, ?_⟩
      dsimp only
      rw [look_snd]
      exact hL
    rw [if_neg h3]
    have hL2 : (look (bxs M (tOf told p.1.toNat)) M (c.ts.getD p.1.toNat default, c.bs)) = ((look (bxs M (tOf told p.1.toNat)) M (c.ts.getD p.1.toNat default, c.bs)).1, c.bs) := Prod.ext rfl (look_snd _ M _)
    obtain ⟨xs', hg⟩ := Stood.goes hk (min p.2.toNat (20000 - c.n)) hL
    rw [← hL2] at hg
    refine ⟨xs', ?_⟩
    dsimp only
    by_cases h4 : (Vm.goN (bxs M (tOf told p.1.toNat)) M (min p.2.toNat (20000 - c.n)) (look (bxs M (tOf told p.1.toNat)) M (c.ts.getD p.1.toNat default, c.bs))).1 = 0
    · rw [if_pos h4]
      rw [h4] at hg
      exact hg
    · rw [if_neg h4]; exact hg
theorem Stood.pickds : ∀ (l : List (Int × Int)) {c : Ma} {xs : Nat → List Int}, Stood M told c xs → ∃ xs', Stood M told (picks M told l c).2 xs'
  | [], c, xs, h => ⟨xs, h⟩
  | p :: l, c, xs, h => by
    obtain ⟨xs', h'⟩ := h.pickd p
    exact Stood.pickds l h'
theorem Stood.lookd (h : Stood M told c xs) : Stood M told (c.looked M) xs := by
  obtain ⟨g1, g2, g3, g4, g5⟩ := h
  refine ⟨g1, by simpa [Ma.looked] using g2, fun k hk => ?_, g4, g5⟩
  rw [← g3 k hk]
  have hk' : k < c.ts.length := by omega
  unfold Ma.looked
  dsimp only
  rw [List.getD_eq_getElem?_getD, List.getElem?_map, List.getElem?_eq_getElem hk', List.getD_eq_getElem?_getD, List.getElem?_eq_getElem hk']
  exact nrm_look _ _
/-- who can go on is found -/
theorem looked_at {k : Nat} (hk : k < c.ts.length) : (c.looked M).ts.getD k default = (look (bxs M none) M (c.ts.getD k default, c.bs)).1 := by
  unfold Ma.looked
  dsimp only
  rw [List.getD_eq_getElem?_getD, List.getElem?_map, List.getElem?_eq_getElem hk, List.getD_eq_getElem?_getD, List.getElem?_eq_getElem hk]; rfl
theorem can_look {t : Tk} {s : Bs} (hc : Can M (capN M) (nrm t) s.ws) : look (bxs M none) M (t, s) = (nrm t, s) := by
  have h3 : t.st ≤ 3 := by
    have := hc.st
    unfold nrm at this
    by_cases h : t.st ≤ 3
    · exact h
    · rw [if_neg h] at this; omega
  have hn : nrm t = { t with st := 1, bx := 0 } := by unfold nrm; rw [if_pos h3]
  rw [hn]
  refine look_one h3 (fun ho => decide_eq_false ?_) (fun ho => decide_eq_false ?_)
  · have := hc.send (by rw [nrm_ins]; exact ho)
    unfold bxOf at this
    rw [nrm_ins] at this
    exact this
  · have := hc.recv (by rw [nrm_ins]; exact ho)
    unfold bxOf at this
    rw [nrm_ins] at this
    exact this
theorem Stood.rest (h : Stood M told c xs) (hr : (c.looked M).ready = []) : Rest M (capN M) (tks0 M) xs c.bs.ws := by
  intro k hk hc
  have hk' : k < c.ts.length := by rw [h.len]; exact hk
  rw [← h.tk k hk] at hc
  have hl := can_look hc
  have hm : k ∈ (c.looked M).ready := by
    unfold Ma.ready
    rw [List.mem_filter, List.mem_range]
    refine ⟨by simpa [Ma.looked] using hk', ?_⟩
    rw [decide_eq_true_eq, looked_at hk', hl]
    exact hc.st
  rw [hr] at hm
  cases hm
end
end Go.Proofs.Ytjehflelkpacfaa.Vm

/- Where all comes to rest: it is the same rest. Plain Lean. -/
namespace Go.Proofs.Ytjehflelkpacfaa.Vm
open ImgM Ver Opt
set_option linter.unusedVariables false
set_option linter.unusedSimpArgs false
section
variable {M : Mdl} {T : Nat → Int → Option Shape}
theorem nextOf_mem {l : List Nat} (h : l ≠ []) (last : Int) : nextOf l last ∈ l := by
  unfold nextOf
  cases hf : l.find? (fun k : Nat => decide (last < (k : Int))) with
  | some x => exact List.mem_of_find?_eq_some hf
  | none =>
    cases l with
    | nil => exact absurd rfl h
    | cons a r => exact List.mem_cons_self
/-- one who can go on does, if steps are left -/
theorem pick1_can {ν : Type} {V : Env ν} {n : Nat} {q : Int} {r : Tk × ν} (h1 : 1 ≤ q) (h2 : q ≤ 10000) (hn : n < 20000) (hs : (look V M r).1.st = 1) : (pick1 V M n q r).1.1 = 0 := by
  unfold pick1
  rw [if_neg (by omega), if_neg (fun h => h hs)]
  have : (goN V M (min q.toNat (20000 - n)) (look V M r)).1 ≠ 0 := by
    cases hm : min q.toNat (20000 - n) with
    | zero => omega
    | succ k =>
      unfold goN
      rw [step_yes V M (by rw [look_look]; exact hs), if_pos rfl]
      simp
  rw [if_neg this]
def SetAt (M : Mdl) : Option Ma → Prop
  | some c => ∃ xs, Stood M false c xs ∧ Rest M (capN M) (tks0 M) xs c.bs.ws ∧ c.n ≤ 20000
  | none => ∃ xs ws, Runs M (capN M) (tks0 M) 20001 xs ws
theorem settle_at (hC : Certs M T) {q : Int} (h1 : 1 ≤ q) (h2 : q ≤ 10000) : ∀ (f : Nat) (last : Int) {c : Ma} {xs : Nat → List Int}, c.Ok M T → Stood M false c xs → 20001 ≤ f + c.n → SetAt M (settle M q f last c)
  | 0, last, c, xs, hO, hS, hf => by have := hO.n; omega
  | f + 1, last, c, xs, hO, hS, hf => by
    rw [show settle M q (f + 1) last c = if (c.looked M).ready = [] then some (c.looked M) else if (pick M false (c.looked M) ((nextOf (c.looked M).ready last : Int), q)).1.1 ≠ 0 then none else settle M q f (nextOf (c.looked M).ready last) (pick M false (c.looked M) ((nextOf (c.looked M).ready last : Int), q)).2 from rfl]
    by_cases hr : (c.looked M).ready = []
    · rw [if_pos hr]
      exact ⟨xs, hS.lookd, hS.rest hr, hO.n⟩
    rw [if_neg hr]
    have hm := nextOf_mem hr last
    generalize nextOf (c.looked M).ready last = k at *
    unfold Ma.ready at hm
    rw [List.mem_filter, List.mem_range, decide_eq_true_eq] at hm
    obtain ⟨hk, hst⟩ := hm
    have hk' : k < c.ts.length := by simpa [Ma.looked] using hk
    have hl : (look (bxs M (tOf false k)) M ((c.looked M).at_ k)).1.st = 1 := by
      have e0 : tOf false k = none := rfl
      unfold Ma.at_
      rw [e0, looked_at hk']
      have e1 : ((look (bxs M none) M (c.ts.getD k default, c.bs)).1, (c.looked M).bs) = look (bxs M none) M (c.ts.getD k default, c.bs) := Prod.ext rfl (look_snd (bxs M none) M (c.ts.getD k default, c.bs)).symm
      rw [e1, look_look]
      rw [looked_at hk'] at hst
      exact hst
    have hpk : (pick M false (c.looked M) ((k : Int), q)).1.1 = (pick1 (bxs M (tOf false k)) M (c.looked M).n q ((c.looked M).at_ k)).1.1 := by
      unfold pick
      rw [if_neg (by dsimp only; omega)]
      rfl
    by_cases he : (pick M false (c.looked M) ((k : Int), q)).1.1 ≠ 0
    · rw [if_pos he]
      have hn : c.n = 20000 := Classical.byContradiction fun hn => he (by
        rw [hpk]
        exact pick1_can h1 h2 (by have := hO.n; show c.n < 20000; omega) hl)
      have hS' := hS.lookd
      have hkT : k < (tks0 M).length := by rw [← hS.len]; exact hk'
      obtain ⟨hc, -⟩ := step_loc hl
      rw [hS'.tk k hkT] at hc
      have := Runs.step hS'.runs hkT hc
      rw [show (c.looked M).n + 1 = 20001 by show c.n + 1 = 20001; omega] at this
      exact ⟨_, _, this⟩
    · rw [if_neg he]
      have he := Classical.not_not.1 he
      obtain ⟨xs', hS'⟩ := hS.lookd.pickd ((k : Int), q)
      have hO' := hO.looked.pick hC false ((k : Int), q)
      have hd : (c.looked M).n + 1 ≤ (pick M false (c.looked M) ((k : Int), q)).2.n := by
        have h1 := (pick_cnt (M := M) (told := false) (c.looked M) ((k : Int), q)).sum
        have h2 := ((pick_cnt (M := M) (told := false) (c.looked M) ((k : Int), q)).ok he).1
        omega
      have e9 : (c.looked M).n = c.n := rfl
      exact settle_at hC h1 h2 f _ hO' hS' (by omega)
theorem picks_ok' (hC : Certs M T) (told : Bool) : ∀ (l : List (Int × Int)) {c : Ma}, c.Ok M T → (picks M told l c).2.Ok M T
  | [], c, h => h
  | p :: l, c, h => picks_ok' hC told l (h.pick hC told p)
theorem settled_at (hC : Certs M T) {q : Int} (h1 : 1 ≤ q) (h2 : q ≤ 10000) (ps : List (Int × Int)) : SetAt M (settle M q 20001 (lastOf ps (picks M false ps (Ma.init M)).1) (picks M false ps (Ma.init M)).2) := by
  obtain ⟨xs, hS⟩ := Stood.pickds ps (Stood.init M false)
  exact settle_at hC h1 h2 _ _ (picks_ok' hC false ps (Ma.Ok.init hC)) hS (by omega)
theorem alk_nrm {t t' : Tk} (h : nrm t = nrm t') : Alk t t' := by
  unfold nrm at h
  by_cases h1 : t.st ≤ 3
  · rw [if_pos h1] at h
    by_cases h2 : t'.st ≤ 3
    · rw [if_pos h2] at h
      obtain ⟨cs, now, st, bx, tr, out⟩ := t
      obtain ⟨cs', now', st', bx', tr', out'⟩ := t'
      simp only [Tk.mk.injEq] at h
      obtain ⟨rfl, rfl, -, -, rfl, rfl⟩ := h
      exact .inr ⟨h1, st', bx', h2, rfl⟩
    · rw [if_neg h2] at h
      rw [← h] at h2
      exact absurd (show ({ t with st := 1, bx := 0 } : Tk).st ≤ 3 from (by decide : (1 : Int) ≤ 3)) h2
  · rw [if_neg h1] at h
    by_cases h2 : t'.st ≤ 3
    · rw [if_pos h2] at h
      rw [h] at h1
      exact absurd (show ({ t' with st := 1, bx := 0 } : Tk).st ≤ 3 from (by decide : (1 : Int) ≤ 3)) h1
    · rw [if_neg h2] at h
      exact .inl h
theorem look_ws (k : Option Nat) (t : Tk) (s : Bs) : (look (bxs M k) M (t, s)).1 = (look (bx0 (capN M)) M (t, s.ws)).1 := by
  unfold look waits
  dsimp only
  have e1 : ∀ b, (bxs M k).full s b = (bx0 (capN M)).full s.ws b := fun b => rfl
  have e2 : ∀ b, (bxs M k).empty s b = (bx0 (capN M)).empty s.ws b := fun b => rfl
  rw [e1, e2]
  split
  · split
    · rfl
    · split <;> rfl
  · rfl
/-- the same runs, the same machine, looked at -/
theorem Stood.same {told told' : Bool} {c c' : Ma} {xs : Nat → List Int} (h : Stood M told c xs) (h' : Stood M told' c' xs) (hw : c.bs.ws = c'.bs.ws) : (c.looked M).ts = (c'.looked M).ts := by
  unfold Ma.looked
  dsimp only
  refine List.ext_getElem (by simp [h.len, h'.len]) fun j h1 h2 => ?_
  simp only [List.length_map] at h1 h2
  simp only [List.getElem_map]
  have e1 := h.tk j (by rw [← h.len]; exact h1)
  have e2 := h'.tk j (by rw [← h'.len]; exact h2)
  rw [List.getD_eq_getElem?_getD, List.getElem?_eq_getElem h1, Option.getD_some] at e1
  rw [List.getD_eq_getElem?_getD, List.getElem?_eq_getElem h2, Option.getD_some] at e2
  rw [look_ws, look_ws, ← hw, look_alk _ M (alk_nrm (e1.trans e2.symm))]
theorem sum_le : ∀ (l : List Nat) {f g : Nat → Nat}, (∀ k, f k ≤ g k) → (l.map f).sum ≤ (l.map g).sum
  | [], f, g, h => Nat.le_refl _
  | a :: l, f, g, h => by
    simp only [List.map_cons, List.sum_cons]
    have := sum_le l h
    have := h a
    omega
end
end Go.Proofs.Ytjehflelkpacfaa.Vm

/- SchedKahn, walked. -/
namespace Go.Proofs.Ytjehflelkpacfaa.Vw
open Go.RowKit Go.Proofs.Ytjehflelkpacfaa.Img
set_option linter.unusedVariables false
set_option linter.unusedSimpArgs false
attribute [local irreducible] Run Cod End OpT Still RunQ RunS RunT Fn PutOk
section
variable {M : ImgM.Mdl} {ps : List (Int × Int)} {q : Int}
theorem set_ok (h : Vm.setErr M ps q = 0) : Vm.wrong M ps.length = 0 ∧ 1 ≤ q ∧ q ≤ 10000 ∧ ∃ c, Vm.settled M ps q = some c := by
  unfold Vm.setErr at h
  by_cases h1 : Vm.wrong M ps.length ≠ 0
  · rw [if_pos h1] at h; exact absurd h h1
  rw [if_neg h1] at h
  by_cases h2 : q < 1 ∨ 10000 < q
  · rw [if_pos h2] at h; cases h
  rw [if_neg h2] at h
  refine ⟨Classical.not_not.1 h1, by omega, by omega, ?_⟩
  cases hs : Vm.settled M ps q with
  | none => rw [if_pos hs] at h; cases h
  | some c => exact ⟨c, rfl⟩
end
attribute [local irreducible] Ver.verify Vm.wrong Vm.picks Vm.setErr Vm.settled
end Go.Proofs.Ytjehflelkpacfaa.Vw

/- How each task stands at rest. Plain Lean. -/
namespace Go.Proofs.Ytjehflelkpacfaa.Vm
open ImgM Ver Opt
set_option linter.unusedVariables false
set_option linter.unusedSimpArgs false
/-- who is trapped says so; who waits for nothing names no box -/
def Lb (t : Tk) : Prop := (t.st = 5 → t.tr ≠ 0) ∧ (t.st ≠ 5 → t.tr = 0) ∧ t.bx = 0
section
variable {x : Int} {M : Mdl}
theorem trap_lb {n : Int} (hn : n ≠ 0) {r : Tk × List Ev} (h : Lb r.1) : Lb (trap (rec x) n r).1 := by
  unfold trap
  split
  · exact h
  · exact ⟨fun _ => hn, fun h5 => absurd rfl h5, h.2.2⟩
theorem push_lb (v : Int) {r : Tk × List Ev} (h : Lb r.1) : Lb (push (rec x) v r).1 := by
  unfold push
  split
  · exact trap_lb (by decide) h
  · exact h
theorem pushN_lb : ∀ (n : Nat) {r : Tk × List Ev}, Lb r.1 → Lb (pushN (rec x) n r).1
  | 0, r, h => h
  | n + 1, r, h => by unfold pushN; exact pushN_lb n (push_lb 0 h)
theorem lb_ite {c : Prop} [Decidable c] {a b : Tk × List Ev} (h1 : Lb a.1) (h2 : Lb b.1) : Lb (if c then a else b).1 := by split <;> assumption
theorem lb_ite1 {c : Prop} [Decidable c] {a b : Tk} (h1 : Lb a) (h2 : Lb b) : Lb (if c then a else b) := by split <;> assumption
theorem loc_lb {i : Ins} {t : Tk} (h : Lb t) (h5 : t.st ≠ 5) : Lb (loc M x i t).1 := by
  have same : ∀ t' : Tk, t'.st = t.st → t'.tr = t.tr → t'.bx = t.bx → Lb t' := fun t' e1 e2 e3 => by unfold Lb; rw [e1, e2, e3]; exact h
  unfold loc exec
  dsimp only
  refine lb_ite (push_lb _ h) ?_
  refine lb_ite (push_lb _ h) ?_
  refine lb_ite (push_lb _ h) ?_
  refine lb_ite (same _ rfl rfl rfl) ?_
  refine lb_ite (same _ rfl rfl rfl) ?_
  refine lb_ite (push_lb _ (same _ rfl rfl rfl)) ?_
  refine lb_ite (push_lb _ (same _ rfl rfl rfl)) ?_
  refine lb_ite (lb_ite (trap_lb (by decide) (same _ rfl rfl rfl)) (push_lb _ (same _ rfl rfl rfl))) ?_
  refine lb_ite (same _ rfl rfl rfl) ?_
  refine lb_ite (lb_ite1 (same _ rfl rfl rfl) (same _ rfl rfl rfl)) ?_
  refine lb_ite (same _ rfl rfl rfl) ?_
  refine lb_ite (push_lb _ h) ?_
  refine lb_ite (same _ rfl rfl rfl) ?_
  refine lb_ite (by unfold callU; exact lb_ite (trap_lb (by decide) h) (pushN_lb _ (same _ rfl rfl rfl))) ?_
  refine lb_ite (by unfold ret; exact push_lb _ (same _ rfl rfl rfl)) ?_
  refine lb_ite ?_ ?_
  · unfold endU
    dsimp only
    cases (Vm.cur t).up with
    | none => exact ⟨fun h4 => absurd (show (4 : Int) = 5 from h4) (by decide), fun _ => h.2.1 h5, h.2.2⟩
    | some j => exact push_lb _ (same _ rfl rfl rfl)
  refine lb_ite (by unfold startU; dsimp only; exact lb_ite (trap_lb (by decide) (same _ rfl rfl rfl)) (push_lb _ (same _ rfl rfl rfl))) ?_
  refine lb_ite ?_ ?_
  · unfold resumeU
    dsimp only
    refine lb_ite (trap_lb (by decide) (same _ rfl rfl rfl)) ?_
    refine lb_ite (trap_lb (by decide) (same _ rfl rfl rfl)) ?_
    exact lb_ite (same _ rfl rfl rfl) (push_lb _ (same _ rfl rfl rfl))
  refine lb_ite (by unfold yieldU; dsimp only; exact push_lb _ (same _ rfl rfl rfl)) ?_
  exact lb_ite (by unfold aliveU; exact push_lb _ (same _ rfl rfl rfl)) h
theorem nrm_lb {t : Tk} (h : Lb t) : Lb (nrm t) := by
  unfold nrm
  by_cases h3 : t.st ≤ 3
  · rw [if_pos h3]
    exact ⟨fun h5 => absurd h5 (by show ¬ (1 : Int) = 5; decide), fun _ => h.2.1 (by omega), rfl⟩
  · rw [if_neg h3]; exact h
theorem runs_lb {cap : Nat → Nat} {n : Nat} {xs : Nat → List Int} {ws : List (List Int)} (h : Runs M cap (tks0 M) n xs ws) : ∀ k, k < (tks0 M).length → Lb (ltk M ((tks0 M).getD k default) (xs k)) := by
  induction h with
  | nil =>
    intro k hk
    rw [tks0_at hk]
    exact ⟨fun h5 => absurd h5 (by show ¬ (1 : Int) = 5; decide), fun _ => rfl, rfl⟩
  | @step n j xs ws h hj hc ih =>
    intro k hk
    by_cases e : k = j
    · subst e
      rw [upd_same, ltk_snoc]
      have h1 := hc.st
      refine nrm_lb (loc_lb ?_ ?_)
      · exact ih k hk
      · show (ltk M ((tks0 M).getD k default) (xs k)).st ≠ 5
        omega
    · rw [upd_ne _ _ e]; exact ih k hk
/-- at its end, trapped, or waiting for good reason -/
def Rested (M : Mdl) (ws : List (List Int)) (st bx tr : Int) : Prop :=
  (st = 4 ∧ bx = 0 ∧ tr = 0) ∨ (st = 5 ∧ bx = 0 ∧ tr ≠ 0) ∨ (st = 2 ∧ 0 ≤ bx ∧ bx < (M.boxes.length : Int) ∧ (ws.getD bx.toNat []).length = capN M bx.toNat) ∨ (st = 3 ∧ 0 ≤ bx ∧ bx < (M.boxes.length : Int) ∧ (ws.getD bx.toNat []).length = 0)
theorem rested {T : Nat → Int → Option Shape} (hC : Certs M T) (hR : Right M) {c : Ma} {xs : Nat → List Int} (hS : Stood M false c xs) (hr : Rest M (capN M) (tks0 M) xs c.bs.ws) {k : Nat} (hk : k < c.ts.length) :
    Rested M c.bs.ws ((c.looked M).ts.getD k default).st ((c.looked M).ts.getD k default).bx ((c.looked M).ts.getD k default).tr := by
  have hkT : k < (tks0 M).length := by rw [← hS.len]; exact hk
  have hg := (runs_good hC (tasks_ok M) hS.runs).1 k (by simpa using hkT)
  have hlb := runs_lb hS.runs k hkT
  have hrng := (owns_of hC hR).rng hS.runs k hkT
  have hno := hr k hkT
  have e := hS.tk k hkT
  rw [← e] at hg hlb hno hrng
  rw [looked_at hk]
  generalize c.ts.getD k default = t at *
  by_cases h3 : t.st ≤ 3
  · have hn : nrm t = { t with st := 1, bx := 0 } := by unfold nrm; rw [if_pos h3]
    have hrng' := hrng (by rw [hn])
    rw [nrm_ins] at hrng'
    have htr : t.tr = 0 := by
      have := hlb.2.1 (by rw [hn]; show ¬ (1 : Int) = 5; decide)
      rw [hn] at this
      exact this
    by_cases ha : (insT M t).op = 26 ∧ (bxs M none).full c.bs (insT M t).a.toNat = true
    · have hl : look (bxs M none) M (t, c.bs) = ({ t with st := 2, bx := (insT M t).a }, c.bs) := by
        unfold look waits; rw [if_pos h3, if_pos ha]
      rw [hl]
      obtain ⟨r1, r2⟩ := hrng' (.inl ha.1)
      unfold bxOf at r2
      rw [nrm_ins] at r2
      exact .inr (.inr (.inl ⟨rfl, r1, (by show (insT M t).a < _; omega), of_decide_eq_true ha.2⟩))
    by_cases hb : (insT M t).op = 27 ∧ (bxs M none).empty c.bs (insT M t).a.toNat = true
    · have hl : look (bxs M none) M (t, c.bs) = ({ t with st := 3, bx := (insT M t).a }, c.bs) := by
        unfold look waits; rw [if_pos h3, if_neg ha, if_pos hb]
      rw [hl]
      obtain ⟨r1, r2⟩ := hrng' (.inr hb.1)
      unfold bxOf at r2
      rw [nrm_ins] at r2
      exact .inr (.inr (.inr ⟨rfl, r1, (by show (insT M t).a < _; omega), of_decide_eq_true hb.2⟩))
    exfalso
    refine hno ⟨by rw [hn], fun ho hf => ha ?_, fun ho hf => hb ?_⟩
    · rw [nrm_ins] at ho
      unfold bxOf at hf
      rw [nrm_ins] at hf
      exact ⟨ho, decide_eq_true hf⟩
    · rw [nrm_ins] at ho
      unfold bxOf at hf
      rw [nrm_ins] at hf
      exact ⟨ho, decide_eq_true hf⟩
  · have hn : nrm t = t := by unfold nrm; rw [if_neg h3]
    have hl : look (bxs M none) M (t, c.bs) = (t, c.bs) := by unfold look; rw [if_neg h3]
    rw [hl]
    rw [hn] at hg hlb
    rcases hg with h5 | h4 | ⟨h1, -⟩
    · exact .inr (.inl ⟨h5, hlb.2.2, hlb.1 h5⟩)
    · exact .inl ⟨h4, hlb.2.2, hlb.2.1 (by omega)⟩
    · omega
end
end Go.Proofs.Ytjehflelkpacfaa.Vm

/- SchedRest, walked. -/
namespace Go.Proofs.Ytjehflelkpacfaa.Vw
open Go.RowKit Go.Proofs.Ytjehflelkpacfaa.Img
set_option linter.unusedVariables false
set_option linter.unusedSimpArgs false
attribute [local irreducible] Run Cod End OpT Still RunQ RunS RunT Fn PutOk
def RdL (m : ML) (r : WoL) (k : Nat) : Prop :=
  ((r.ends.getD k default).st = 4 ∧ (r.ends.getD k default).bx = 0 ∧ (r.ends.getD k default).tr = 0) ∨ ((r.ends.getD k default).st = 5 ∧ (r.ends.getD k default).bx = 0 ∧ (r.ends.getD k default).tr ≠ 0) ∨
  ∃ b : Nat, b < m.bx.length ∧ (r.ends.getD k default).bx = (b : Int) ∧ (((r.ends.getD k default).st = 2 ∧ ((r.rows.getD b default).l.length : Int) = (m.bx.getD b default).2) ∨ ((r.ends.getD k default).st = 3 ∧ (r.rows.getD b default).l.length = 0))
structure RestL (m : ML) (r : WoL) : Prop where
  len : r.rows.length = m.bx.length
  fit : ∀ b, b < m.bx.length → ((r.rows.getD b default).l.length : Int) ≤ (m.bx.getD b default).2
  ends : ∀ k, k < r.ends.length → RdL m r k
theorem en_at {r : WoL} {c : Vm.Ma} (h : r.ends.map enOf = c.ts.map tkOf) {k : Nat} (hk : k < r.ends.length) : k < c.ts.length ∧ enOf (r.ends.getD k default) = tkOf (c.ts.getD k default) := by
  have hl := congrArg List.length h
  simp only [List.length_map] at hl
  refine ⟨by omega, ?_⟩
  have h1 : (r.ends.map enOf)[k]? = (c.ts.map tkOf)[k]? := by rw [h]
  rw [List.getElem?_map, List.getElem?_map, List.getElem?_eq_getElem hk, List.getElem?_eq_getElem (show k < c.ts.length by omega)] at h1
  rw [List.getD_eq_getElem?_getD, List.getD_eq_getElem?_getD, List.getElem?_eq_getElem hk, List.getElem?_eq_getElem (show k < c.ts.length by omega)]
  simpa using h1
theorem set_rest {m : ML} (hwf : m.Wf) {ps : List (Int × Int)} {q : Int} {r : WoL} (h1 : Vm.setErr m.mdl ps q = 0) (hr : SetIs m ps q r) : RestL m r := by
  obtain ⟨a1, a2, a3, c, a4⟩ := set_ok h1
  obtain ⟨hv, -⟩ := wrong_zero a1
  obtain ⟨T, hC⟩ := certs_ml hwf hv
  have hR := Ver.verify_iff.1 hv
  have s1 := Vm.settled_at hC a2 a3 ps
  rw [show Vm.settle m.mdl q 20001 (Vm.lastOf ps (Vm.picks m.mdl false ps (Vm.Ma.init m.mdl)).1) (Vm.picks m.mdl false ps (Vm.Ma.init m.mdl)).2 = some c from a4] at s1
  obtain ⟨xs, hS, hrs, -⟩ := s1
  unfold SetIs at hr
  rw [if_pos h1] at hr
  obtain ⟨c', f1, f2⟩ := hr
  rw [a4] at f1
  cases f1
  have hws : r.rows.map (·.l) = c.bs.ws := f2.rows
  have hg : ∀ b, (r.rows.getD b default).l = c.bs.ws.getD b [] := fun b => by rw [← hws, getD_ws]
  have hlen : r.rows.length = m.bx.length := by
    have := hS.runs.wlen
    rw [← hws, List.length_map] at this
    exact this
  refine ⟨hlen, fun b hb => ?_, fun k hk => ?_⟩
  · have := hS.runs.fit (Vm.owns_of hC hR) b hb
    rw [← hg] at this
    have hc := caps_ok hv b hb
    have e : Vm.capN m.mdl b = (m.bx.getD b default).2.toNat := rfl
    omega
  · obtain ⟨hkc, he⟩ := en_at f2.ends hk
    have hkc' : k < c.ts.length := by simpa [Vm.Ma.looked] using hkc
    have hd := Vm.rested hC hR hS hrs hkc'
    simp only [enOf, tkOf, Prod.mk.injEq] at he
    obtain ⟨e1, e2, e3, -⟩ := he
    rw [← e1, ← e2, ← e3] at hd
    unfold RdL
    generalize r.ends.getD k default = x at *
    rcases hd with h | h | ⟨g1, g2, g3, g4⟩ | ⟨g1, g2, g3, g4⟩
    · exact .inl h
    · exact .inr (.inl h)
    · obtain ⟨b, hb⟩ := Int.eq_ofNat_of_zero_le g2
      rw [hb] at g3 g4
      have hbl : b < m.bx.length := by exact Int.ofNat_lt.1 g3
      have hc := caps_ok hv b hbl
      rw [Int.toNat_natCast, ← hg] at g4
      have e : Vm.capN m.mdl b = (m.bx.getD b default).2.toNat := rfl
      exact .inr (.inr ⟨b, hbl, hb, .inl ⟨g1, by omega⟩⟩)
    · obtain ⟨b, hb⟩ := Int.eq_ofNat_of_zero_le g2
      rw [hb] at g3 g4
      have hbl : b < m.bx.length := by exact Int.ofNat_lt.1 g3
      rw [Int.toNat_natCast, ← hg] at g4
      exact .inr (.inr ⟨b, hbl, hb, .inr ⟨g1, g4⟩⟩)
attribute [local irreducible] Ver.verify Vm.wrong Vm.picks Vm.setErr Vm.settled
set_option maxRecDepth 100000 in
set_option maxHeartbeats 4000000 in
theorem rest_is (m : ML) (hwf : m.Wf) (ps : PkL) (q : Int) : Fn Try.prog 10 #[m.val, ps.val, .int .i64 q] [md m, pkR ps] [] (σ := Unit) (fun _ => True) (fun _ => .bool true) (fun _ => []) := by
  refine Fn.enter (args := [m.val, ps.val, .int .i64 q]) Try.func10 rfl _ Try.ntmps10 rfl (by simp [md_excl, rd_excl]) (fun w S => ?_)
  (try conv => rhs; simp only [List.cons_append, List.nil_append])
  repeat (first | refine go (k := ?_) | (refine goB (k := ?_); intro b) | (refine goA (k := ?_); intro ao cap))
  obtain ⟨mb, rfl⟩ : ∃ x, x = b := ⟨_, rfl⟩
  (apply Run.op; exact rfl; refine OpT.call0_ (spec := alive10_is) (k := ?_); intro s hs; (try conv => rhs; simp only [List.cons_append, List.nil_append]))
  repeat (first | refine go (k := ?_) | (refine goB (k := ?_); intro b) | (refine goA (k := ?_); intro ao cap))
  ((first | (apply Run.op; exact rfl) | refine Run.yes_ (h := ?_)); refine OpT.call0_ (spec := settle_is m hwf ps q) (r := (fun w => Reads.md (by (repeat (first | exact Take.head | apply Take.tail))) (Reads.rd (by (repeat (first | exact Take.head | apply Take.tail))) .nil))) (k := ?_); intro s hs; (try conv => rhs; simp only [List.cons_append, List.nil_append]))
  obtain ⟨r, rfl⟩ : ∃ x, x = s := ⟨_, rfl⟩
  have hr := hs
  have hL := fun h => set_rest hwf h hr
  have h30 := fun h => (formed (Ver.verify_iff.1 (wrong_zero (set_ok (M := m.mdl) (ps := ps.l) (q := q) h).1).1).form).boxes
  unfold SetIs at hs
  clear hr
  generalize Vm.setErr m.mdl ps.l q = e1 at *
  by_cases c1 : ¬ e1 = 0
  · rw [if_neg c1] at hs
    subst hs
    clear hL
    repeat (first | refine go (k := ?_) | (refine goB (k := ?_); intro b) | (refine goA (k := ?_); intro ao cap))
    (refine End.done1_ (()) (he := by (first | exact rfl | (refine congrArg (Value.int _) ?_; omega) | (refine congrArg (Value.int _) ?_; dsimp only; omega))) (hp := ?_))
    trivial
  have c1 := Classical.not_not.1 c1
  obtain ⟨l1, l2, l3⟩ := hL c1
  have hb30 := h30 c1
  clear hL hs h30
  repeat (first | refine go (k := ?_) | (refine goB (k := ?_); intro b) | (refine goA (k := ?_); intro ao cap))
  obtain ⟨wb, rfl⟩ : ∃ x, x = b := ⟨_, rfl⟩
  apply Cod.fact (r.ends.length ≤ 9223372036854775807) (fun w hm => (arr_holds.1 (hm.has (c := arr r.eo r.ends.length r.ec 56 enC r.ends) (by (repeat (first | exact Take.head | apply Take.tail))))).1.row Enc.pos |>.2.1)
  intro hen
  refine Cod.only ((fun k => [old w S, md m, blk mb (mdV m) 25, blk wb r.cells 31] ++ r.mem) 0) (by (repeat (first | exact Takes.nil | exact Take.head | apply Take.tail | apply Takes.cons))) ?_
  apply Cod.loop (σ := Nat) (fun k => k ≤ r.ends.length) (fun k => [(3, ptr mb), (7, ptr wb), (29, .slice r.eo r.ends.length r.ec), (30, .int .i64 (r.ends.length : Int)), (31, .int .i64 (k : Int))]) (fun k => [old w S, md m, blk mb (mdV m) 25, blk wb r.cells 31] ++ r.mem) (fun k => r.ends.length - k) 0
  rotate_left
  exact sb
  exact tks
  intro k hk K1 hK1
  (try conv => rhs; simp only [List.cons_append, List.nil_append])
  rotate_left
  · exact Nat.zero_le _
  by_cases hkn : k < r.ends.length
  · have hd := l3 k hkn
    have hcap := l2
    repeat (first | refine go (k := ?_) | (refine goB (k := ?_); intro b) | (refine goA (k := ?_); intro ao cap))
    rcases hd with ⟨d1, d2, d3⟩ | ⟨d1, d2, d3⟩ | ⟨b2, hb2, d2, ⟨d1, d3⟩ | ⟨d1, d3⟩⟩
    · have hb : (!(decide ((r.ends.getD k default).tr = 0) == decide ((r.ends.getD k default).st = 4))) = false := by rw [decide_eq_true d3, decide_eq_true d1]; rfl
      repeat (first | refine go (k := ?_) | (refine goB (k := ?_); intro b) | (refine goA (k := ?_); intro ao cap))
      refine End.round0_ hK1 (k + 1) ?_ ?_
      · omega
      · omega
    · have hb : (!(decide ((r.ends.getD k default).tr = 0) == decide ((r.ends.getD k default).st = 4))) = false := by rw [decide_eq_false d3, decide_eq_false (show ¬ (r.ends.getD k default).st = 4 by omega)]; rfl
      repeat (first | refine go (k := ?_) | (refine goB (k := ?_); intro b) | (refine goA (k := ?_); intro ao cap))
      refine End.round0_ hK1 (k + 1) ?_ ?_
      · omega
      · omega
    · rw [d2]
      repeat (first | refine go (k := ?_) | (refine goB (k := ?_); intro b) | (refine goA (k := ?_); intro ao cap))
      refine End.round0_ hK1 (k + 1) ?_ ?_
      · omega
      · omega
    · rw [d2]
      repeat (first | refine go (k := ?_) | (refine goB (k := ?_); intro b) | (refine goA (k := ?_); intro ao cap))
      refine End.round0_ hK1 (k + 1) ?_ ?_
      · omega
      · omega
  · obtain rfl : k = r.ends.length := by omega
    clear hK1
    repeat (first | refine go (k := ?_) | (refine goB (k := ?_); intro b) | (refine goA (k := ?_); intro ao cap))
    refine Cod.only ((fun j => [old w S, md m, blk mb (mdV m) 25, blk wb r.cells 31] ++ r.mem) 0) (by (repeat (first | exact Takes.nil | exact Take.head | apply Take.tail | apply Takes.cons))) ?_
    apply Cod.loop (σ := Nat) (fun j => j ≤ r.rows.length) (fun j => [(3, ptr mb), (7, ptr wb), (107, .slice r.wo r.rows.length r.wc), (108, .int .i64 (r.rows.length : Int)), (109, .int .i64 (j : Int))]) (fun j => [old w S, md m, blk mb (mdV m) 25, blk wb r.cells 31] ++ r.mem) (fun j => r.rows.length - j) 0
    rotate_left
    exact sb
    exact tks
    intro j hj K2 hK2
    (try conv => rhs; simp only [List.cons_append, List.nil_append])
    rotate_left
    · exact Nat.zero_le _
    by_cases hjn : j < r.rows.length
    · have hf := l2 j (by omega)
      repeat (first | refine go (k := ?_) | (refine goB (k := ?_); intro b) | (refine goA (k := ?_); intro ao cap))
      refine End.round0_ hK2 (j + 1) ?_ ?_
      · omega
      · omega
    · obtain rfl : j = r.rows.length := by omega
      clear hK2
      repeat (first | refine go (k := ?_) | (refine goB (k := ?_); intro b) | (refine goA (k := ?_); intro ao cap))
      (refine End.done1_ (()) (he := by exact bool_eq (decide_eq_true (by omega))) (hp := ?_))
      trivial
end Go.Proofs.Ytjehflelkpacfaa.Vw
