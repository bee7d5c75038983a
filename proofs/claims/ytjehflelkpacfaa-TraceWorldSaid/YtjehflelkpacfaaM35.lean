/- What picks do is an order of steps that the boxes allow. Plain Lean. -/
import Derived.Test.YtjehflelkpacfaaM34
import Derived.Laws.StructEq
import Derived.WalkKit
namespace Go.Proofs.Ytjehflelkpacfaa.Vm
open ImgM Ver Opt
set_option linter.unusedVariables false
set_option linter.unusedSimpArgs false
abbrev tks0 (M : Mdl) : List Tk := (tasks M).map (new M)
/-- an event that boxes allow -/
def Fine (M : Mdl) (ws : List (List Int)) (e : Ev) : Prop :=
  (e.1 = 2 → 0 ≤ e.2.1 ∧ e.2.1.toNat < M.boxes.length ∧ (ws.getD e.2.1.toNat []).length + 1 ≤ capN M e.2.1.toNat) ∧ (e.1 = 3 → 0 ≤ e.2.1 ∧ e.2.1.toNat < M.boxes.length ∧ (ws.getD e.2.1.toNat []).length ≠ 0 ∧ (ws.getD e.2.1.toNat []).headD 0 = e.2.2)
theorem split1 {α : Type} {a e : α} {p q : List α} (h : [a] = p ++ e :: q) : p = [] ∧ e = a := by
  cases p with
  | nil => simp at h; exact ⟨rfl, h.1.symm⟩
  | cons b p => simp at h
theorem split2 {α : Type} {a b e : α} {p q : List α} (h : [a, b] = p ++ e :: q) : (p = [] ∧ e = a) ∨ e = b := by
  cases p with
  | nil => simp at h; exact .inl ⟨rfl, h.1.symm⟩
  | cons c p =>
    simp only [List.cons_append, List.cons.injEq] at h
    exact .inr (split1 h.2).2
/-- who sends or receives does it first -/
theorem Did.first {i : Ins} {x : Int} {t : Tk} {r : Tk × List Ev} (h : Did i x t r) {p q : List Ev} {e : Ev} (he : r.2 = p ++ e :: q) : (e.1 = 2 → p = [] ∧ i.op = 26 ∧ e.2.1 = i.a) ∧ (e.1 = 3 → p = [] ∧ i.op = 27 ∧ e.2.1 = i.a ∧ e.2.2 = x) := by
  rcases h.ex with ⟨t1, l1, h1, -, -, -, h5⟩ | ⟨ho, h1, -⟩
  · have h2 : r.2 = l1 ∨ ∃ n, r.2 = l1 ++ [(5, 0, n)] := by
      rcases h1 with ⟨e, -⟩ | ⟨e, -⟩
      · exact .inl e
      · exact .inr ⟨_, e⟩
    have one : ∀ a : Ev, l1 = [a] → (e.1 = 2 ∨ e.1 = 3) → p = [] ∧ e = a := fun a ha hk => by
      subst ha
      rcases h2 with h2 | ⟨n, h2⟩
      · rw [he] at h2; exact split1 h2.symm
      · rw [he] at h2
        rcases split2 h2.symm with h | h
        · exact h
        · rw [h] at hk; simp at hk
    rcases h5 with ⟨rfl, -, -⟩ | ⟨ho, hl⟩ | ⟨ho, hl⟩ | ⟨ho, hl⟩ | ⟨ho, hl⟩
    · have no : ¬ (e.1 = 2 ∨ e.1 = 3) := fun hk => by
        rcases h2 with h2 | ⟨n, h2⟩
        · rw [he] at h2; simp at h2
        · rw [he] at h2
          obtain ⟨-, h⟩ := split1 (h2.symm : [(5, 0, n)] = p ++ e :: q)
          rw [h] at hk; simp at hk
      exact ⟨fun h => absurd (.inl h) no, fun h => absurd (.inr h) no⟩
    all_goals
      refine ⟨fun hk => ?_, fun hk => ?_⟩
      · obtain ⟨a1, rfl⟩ := one _ hl (.inl hk)
        first
          | exact ⟨a1, ho, rfl⟩
          | (simp at hk)
      · obtain ⟨a1, rfl⟩ := one _ hl (.inr hk)
        first
          | exact ⟨a1, ho, rfl, rfl⟩
          | (simp at hk)
  · rw [he] at h1
    obtain ⟨-, rfl⟩ := split1 h1.symm
    exact ⟨fun h => by simp at h, fun h => by simp at h⟩
/-- a machine stands where such an order has brought it -/
structure Stood (M : Mdl) (told : Bool) (c : Ma) (xs : Nat → List Int) : Prop where
  runs : Runs M (capN M) (tks0 M) c.n xs c.bs.ws
  len : c.ts.length = (tks0 M).length
  tk : ∀ k, k < (tks0 M).length → nrm (c.ts.getD k default) = ltk M ((tks0 M).getD k default) (xs k)
  log : told = true → (∀ k : Nat, ((c.bs.log.filter fun e => decide (e.1 = k)).map (·.2)) = if k < (tks0 M).length then lev M ((tks0 M).getD k default) (xs k) else []) ∧ (c.bs.log.map (·.2)).foldl wplay (List.replicate M.boxes.length []) = c.bs.ws
  fine : told = true → ∀ s r, Owns M (tks0 M) s r → ∀ p e q, c.bs.log.map (·.2) = p ++ e :: q → Fine M (p.foldl wplay (List.replicate M.boxes.length [])) e
section
variable {M : Mdl} {told : Bool} {c : Ma} {xs : Nat → List Int}
theorem nrm_new (M : Mdl) (u : Nat) : nrm (new M u) = new M u := by
  unfold nrm
  rw [if_pos (show (new M u).st ≤ 3 from (by decide : (1 : Int) ≤ 3))]
  rfl
theorem tks0_at {k : Nat} (hk : k < (tks0 M).length) : (tks0 M).getD k default = new M ((tasks M).getD k 0) := by
  have hk' : k < (tasks M).length := by simpa using hk
  rw [List.getD_eq_getElem?_getD, List.getElem?_map, List.getElem?_eq_getElem hk', List.getD_eq_getElem?_getD, List.getElem?_eq_getElem hk']; rfl
theorem Stood.init (M : Mdl) (told : Bool) : Stood M told (Ma.init M) (fun _ => []) := by
  refine ⟨Runs.nil, rfl, fun k hk => ?_, fun _ => ⟨fun k => ?_, rfl⟩, fun _ s r _ p e q h => by simp [Ma.init] at h⟩
  · show nrm ((tks0 M).getD k default) = (tks0 M).getD k default
    rw [tks0_at hk]; exact nrm_new M _
  · show [] = _
    split <;> rfl
theorem nrm_alk {t t' : Tk} (h : Alk t t') : nrm t = nrm t' := by
  rcases h with rfl | ⟨h3, a, b, ha, rfl⟩
  · rfl
  · unfold nrm
    rw [if_pos h3, if_pos (show ({ t with st := a, bx := b } : Tk).st ≤ 3 from ha)]
theorem nrm_look {ν : Type} (V : Env ν) (r : Tk × ν) : nrm (look V M r).1 = nrm r.1 := nrm_alk (look_back V r)
theorem nrm_ins {M : Mdl} (t : Tk) : insT M (nrm t) = insT M t := by
  unfold nrm
  split <;> rfl
theorem plays_ws (M : Mdl) (k : Option Nat) : ∀ (l : List Ev) (s : Bs), (l.foldl (play (bxs M k)) s).ws = l.foldl wplay s.ws
  | [], s => rfl
  | e :: l, s => by
    simp only [List.foldl_cons]
    rw [plays_ws M k l]
    congr 1
    have tl : ∀ (s : Bs) e, ((bxs M k).tell s e).ws = s.ws := fun s e => by cases k <;> rfl
    unfold play wplay
    split
    · rw [tl]; rfl
    · split
      · rw [tl]; rfl
      · rw [tl]
theorem plays_log (M : Mdl) (k : Nat) : ∀ (l : List Ev) (s : Bs), (l.foldl (play (bxs M (some k))) s).log = s.log ++ l.map (fun e => (k, e))
  | [], s => by simp
  | e :: l, s => by
    simp only [List.foldl_cons]
    rw [plays_log M k l]
    have : (play (bxs M (some k)) s e).log = s.log ++ [(k, e)] := by
      unfold play
      split
      · rfl
      · split <;> rfl
    rw [this]; simp
theorem mp2 (k : Nat) : ∀ l : List Ev, (l.map fun e => (k, e)).map (·.2) = l
  | [] => rfl
  | a :: l => by simp only [List.map_cons, mp2 k l]
/-- a task that can go on, takes a step -/
theorem step_loc {k : Option Nat} {t : Tk} {s : Bs} (h : (look (bxs M k) M (t, s)).1.st = 1) :
    Can M (capN M) (nrm t) s.ws ∧ (step (bxs M k) M (t, s)).1 = true ∧ nrm (step (bxs M k) M (t, s)).2.1 = (loc1 M (xin M (nrm t) s.ws) (nrm t)).1 ∧ (step (bxs M k) M (t, s)).2.2 = (loc1 M (xin M (nrm t) s.ws) (nrm t)).2.foldl (play (bxs M k)) s := by
  obtain ⟨h3, h26, h27⟩ := look_ready h
  dsimp only at h3 h26 h27
  have hn : nrm t = { t with st := 1, bx := 0 } := by unfold nrm; rw [if_pos h3]
  have hl : look (bxs M k) M (t, s) = (nrm t, s) := by rw [hn]; exact look_one h3 h26 h27
  have hx : inp (bxs M k) M (t, s) = xin M (nrm t) s.ws := by
    unfold inp xin bxOf
    rw [nrm_ins]
    rfl
  refine ⟨⟨by rw [hn], fun ho => ?_, fun ho => ?_⟩, ?_⟩
  · rw [nrm_ins] at ho
    have := h26 ho
    unfold bxOf
    rw [nrm_ins]
    exact of_decide_eq_false this
  · rw [nrm_ins] at ho
    have := h27 ho
    unfold bxOf
    rw [nrm_ins]
    exact of_decide_eq_false this
  · rw [step_yes _ M h, hl, hx]
    refine ⟨rfl, ?_, ?_⟩
    · dsimp only
      rw [nrm_look]; rfl
    · dsimp only
      rw [look_snd]; rfl
theorem set_getD {l : List Tk} {k : Nat} (hk : k < l.length) : l.set k (l.getD k default) = l := by
  refine List.ext_getElem (by simp) fun j h1 h2 => ?_
  rw [List.getElem_set]
  split
  · rename_i e; subst e; rw [List.getD_eq_getElem?_getD, List.getElem?_eq_getElem h2]; rfl
  · rfl
/-- one task seen anew -/
theorem Stood.seen {k : Nat} {t t' : Tk} {ts : List Tk} {s : Bs} {n : Nat} (hk : k < ts.length) (h : Stood M told ⟨ts.set k t, s, n⟩ xs) (e : nrm t' = nrm t) : Stood M told ⟨ts.set k t', s, n⟩ xs := by
  obtain ⟨h1, h2, h3, h4, h5⟩ := h
  refine ⟨h1, by simpa using h2, fun j hj => ?_, h4, h5⟩
  have := h3 j hj
  dsimp only at this ⊢
  rw [getD_set hk] at this ⊢
  by_cases ejk : k = j
  · subst ejk; rw [if_pos rfl] at this ⊢; rw [e]; exact this
  · rw [if_neg ejk] at this ⊢; exact this
theorem fine_new {so ro : Nat → Nat} (ho : Owns M (tks0 M) so ro) {n k : Nat} {ws ws' : List (List Int)} (g1 : Runs M (capN M) (tks0 M) n xs ws) (hkT : k < (tks0 M).length) (hc : Can M (capN M) (ltk M ((tks0 M).getD k default) (xs k)) ws) (hws : ws' = ws) {p' q : List Ev} {e : Ev} (he : (loc1 M (xin M (ltk M ((tks0 M).getD k default) (xs k)) ws) (ltk M ((tks0 M).getD k default) (xs k))).2 = p' ++ e :: q) : Fine M (p'.foldl wplay ws') e := by
  subst hws
  have hrng := ho.rng g1 k hkT hc.st
  have hfit := g1.fit ho
  obtain ⟨f2, f3⟩ := (lstep_did M (x := xin M (ltk M ((tks0 M).getD k default) (xs k)) ws') (t := ltk M ((tks0 M).getD k default) (xs k)) (by have := hc.st; omega)).first he
  have h2 := hc.send
  have h3 := hc.recv
  have hx : (insT M (ltk M ((tks0 M).getD k default) (xs k))).op = 27 → xin M (ltk M ((tks0 M).getD k default) (xs k)) ws' = (ws'.getD (bxOf M (ltk M ((tks0 M).getD k default) (xs k))) []).headD 0 := fun h => by unfold xin; rw [if_pos h]
  generalize ltk M ((tks0 M).getD k default) (xs k) = u at *
  unfold bxOf at *
  refine ⟨fun h => ?_, fun h => ?_⟩
  · obtain ⟨rfl, ho, ha⟩ := f2 h
    obtain ⟨r1, r2⟩ := hrng (.inl ho)
    rw [ha]
    have h4 := h2 ho
    have h5 := hfit _ r2
    show 0 ≤ _ ∧ _ ∧ (ws'.getD _ []).length + 1 ≤ _
    exact ⟨r1, r2, by omega⟩
  · obtain ⟨rfl, ho, ha, hv⟩ := f3 h
    obtain ⟨r1, r2⟩ := hrng (.inr ho)
    rw [ha, hv]
    exact ⟨r1, r2, h3 ho, (hx ho).symm⟩
theorem Stood.stepd {k : Nat} {t : Tk} {ts : List Tk} {s : Bs} {n : Nat} (hk : k < ts.length) (h : Stood M told ⟨ts.set k t, s, n⟩ xs) (hs : (look (bxs M (tOf told k)) M (t, s)).1.st = 1) :
    ∃ xs', Stood M told ⟨ts.set k (step (bxs M (tOf told k)) M (t, s)).2.1, (step (bxs M (tOf told k)) M (t, s)).2.2, n + 1⟩ xs' := by
  obtain ⟨hc, h1, h2, h3⟩ := step_loc hs
  obtain ⟨g1, g2, g3, g4, g5⟩ := h
  have hkT : k < (tks0 M).length := by rw [← g2]; simpa using hk
  have hu := g3 k hkT
  dsimp only at g1 g2 g3 g4 hu
  rw [getD_set hk, if_pos rfl] at hu
  rw [hu] at hc h2 h3
  refine ⟨fun j => if j = k then xs k ++ [xin M (ltk M ((tks0 M).getD k default) (xs k)) s.ws] else xs j, ⟨?_, by simpa using g2, fun j hj => ?_, fun ht => ?_, fun ht so ro ho p e q hpe => ?_⟩⟩
  · have := Runs.step g1 hkT hc
    dsimp only
    rw [h3, plays_ws]
    exact this
  · have := g3 j hj
    dsimp only at this ⊢
    rw [getD_set hk] at this ⊢
    by_cases ejk : k = j
    · subst ejk
      rw [if_pos rfl, if_pos rfl, h2, ltk_snoc]
    · rw [if_neg ejk] at this
      rw [if_neg ejk, if_neg (fun e => ejk e.symm)]
      exact this
  · obtain ⟨l1, l2⟩ := g4 ht
    have hto : tOf told k = some k := by unfold tOf; rw [if_pos ht]
    rw [hto] at h3 ⊢
    dsimp only
    refine ⟨fun j => ?_, ?_⟩
    · rw [h3, plays_log, List.filter_append, List.map_append, l1 j]
      by_cases ejk : j = k
      · subst ejk
        rw [if_pos hkT, if_pos hkT, if_pos rfl, lev_snoc]
        congr 1
        rw [List.filter_eq_self.2 (by intro a ha; obtain ⟨e, -, rfl⟩ := List.mem_map.1 ha; simp), mp2]
      · have : (((loc1 M (xin M (ltk M ((tks0 M).getD k default) (xs k)) s.ws) (ltk M ((tks0 M).getD k default) (xs k))).2.map fun e => (k, e)).filter fun e => decide (e.1 = j)) = [] := by
          rw [List.filter_eq_nil_iff]
          intro a ha
          obtain ⟨e, -, rfl⟩ := List.mem_map.1 ha
          simpa using fun h => ejk h.symm
        rw [this, if_neg ejk]; simp
    · rw [h3, plays_log, plays_ws, List.map_append, mp2, List.foldl_append, l2]
  · obtain ⟨l1, l2⟩ := g4 ht
    have hto : tOf told k = some k := by unfold tOf; rw [if_pos ht]
    rw [hto] at h3 hpe
    dsimp only at hpe
    rw [h3, plays_log, List.map_append, mp2] at hpe
    rcases List.append_eq_append_iff.1 hpe.symm with ⟨p', hp1, hp2⟩ | ⟨p', hp1, hp2⟩
    · cases p' with
      | nil =>
        rw [List.append_nil] at hp1
        exact fine_new ho g1 hkT hc (by rw [← hp1, l2]) (p' := []) hp2.symm
      | cons a p'' =>
        simp only [List.cons_append, List.cons.injEq] at hp2
        obtain ⟨rfl, -⟩ := hp2
        exact g5 ht so ro ho p e p'' hp1
    · rw [hp1, List.foldl_append, l2]
      exact fine_new ho g1 hkT hc rfl hp2
theorem Stood.goes {k : Nat} {ts : List Tk} (hk : k < ts.length) : ∀ (f : Nat) {t : Tk} {s : Bs} {n : Nat} {xs : Nat → List Int}, Stood M told ⟨ts.set k t, s, n⟩ xs →
    ∃ xs', Stood M told ⟨ts.set k (goN (bxs M (tOf told k)) M f (t, s)).2.1, (goN (bxs M (tOf told k)) M f (t, s)).2.2, n + (goN (bxs M (tOf told k)) M f (t, s)).1⟩ xs'
  | 0, t, s, n, xs, h => ⟨xs, h⟩
  | f + 1, t, s, n, xs, h => by
    unfold goN
    by_cases hs : (look (bxs M (tOf told k)) M (t, s)).1.st = 1
    · obtain ⟨xs', h'⟩ := h.stepd hk hs
      have e1 : (Vm.step (bxs M (tOf told k)) M (t, s)).1 = true := by rw [step_yes _ M hs]
      rw [if_pos e1]
      obtain ⟨xs2, h2⟩ := Stood.goes hk f h'
      refine ⟨xs2, ?_⟩
      dsimp only at h2 ⊢
      rw [Nat.add_comm (goN _ _ _ _).1 1, ← Nat.add_assoc]
      exact h2
    · have e1 := step_no (bxs M (tOf told k)) M hs
      rw [e1, if_neg (by simp)]
      refine ⟨xs, ?_⟩
      have := h.seen hk (nrm_look (M := M) (bxs M (tOf told k)) (t, s))
      dsimp only
      rw [look_snd]
      exact this
theorem Stood.pickd (h : Stood M told c xs) (p : Int × Int) : ∃ xs', Stood M told (pick M told c p).2 xs' := by
  unfold Vm.pick
  by_cases h1 : p.1 < 0 ∨ (c.ts.length : Int) ≤ p.1
  · rw [if_pos h1]; exact ⟨xs, h⟩
  · rw [if_neg h1]
    have hk : p.1.toNat < c.ts.length := by omega
    have h0 : Stood M told ⟨c.ts.set p.1.toNat (c.ts.getD p.1.toNat default), c.bs, c.n⟩ xs := by rw [set_getD hk]; exact h
    dsimp only
    unfold pick1 Ma.at_
    by_cases h2 : p.2 < 1 ∨ 10000 < p.2
    · rw [if_pos h2]; exact ⟨xs, h0⟩
    rw [if_neg h2]
    have hL := h0.seen hk (nrm_look (M := M) (bxs M (tOf told p.1.toNat)) (c.ts.getD p.1.toNat default, c.bs))
    by_cases h3 : (look (bxs M (tOf told p.1.toNat)) M (c.ts.getD p.1.toNat default, c.bs)).1.st ≠ 1
    · rw [if_pos h3]
      refine ⟨xs, ?_⟩
      dsimp only
      rw [look_snd]
      exact hL
    rw [if_neg h3]
    have hL2 : (look (bxs M (tOf told p.1.toNat)) M (c.ts.getD p.1.toNat default, c.bs)) = ((look (bxs M (tOf told p.1.toNat)) M (c.ts.getD p.1.toNat default, c.bs)).1, c.bs) := Prod.ext rfl (look_snd _ M _)
    obtain ⟨xs', hg⟩ := Stood.goes hk (min p.2.toNat (20000 - c.n)) hL
    rw [← hL2] at hg
    refine ⟨xs', ?_⟩
    dsimp only
    by_cases h4 : (Vm.goN (bxs M (tOf told p.1.toNat)) M (min p.2.toNat (20000 - c.n)) (look (bxs M (tOf told p.1.toNat)) M (c.ts.getD p.1.toNat default, c.bs))).1 = 0
    · rw [if_pos h4]
      rw [h4] at hg
      exact hg
    · rw [if_neg h4]; exact hg
theorem Stood.pickds : ∀ (l : List (Int × Int)) {c : Ma} {xs : Nat → List Int}, Stood M told c xs → ∃ xs', Stood M told (picks M told l c).2 xs'
  | [], c, xs, h => ⟨xs, h⟩
  | p :: l, c, xs, h => by
    obtain ⟨xs', h'⟩ := h.pickd p
    exact Stood.pickds l h'
/-- who can go on is found -/
theorem looked_at {k : Nat} (hk : k < c.ts.length) : (c.looked M).ts.getD k default = (look (bxs M none) M (c.ts.getD k default, c.bs)).1 := by
  unfold Ma.looked
  dsimp only
  rw [List.getD_eq_getElem?_getD, List.getElem?_map, List.getElem?_eq_getElem hk, List.getD_eq_getElem?_getD, List.getElem?_eq_getElem hk]; rfl
theorem can_look {t : Tk} {s : Bs} (hc : Can M (capN M) (nrm t) s.ws) : look (bxs M none) M (t, s) = (nrm t, s) := by
  have h3 : t.st ≤ 3 := by
    have := hc.st
    unfold nrm at this
    by_cases h : t.st ≤ 3
    · exact h
    · rw [if_neg h] at this; omega
  have hn : nrm t = { t with st := 1, bx := 0 } := by unfold nrm; rw [if_pos h3]
  rw [hn]
  refine look_one h3 (fun ho => decide_eq_false ?_) (fun ho => decide_eq_false ?_)
  · have := hc.send (by rw [nrm_ins]; exact ho)
    unfold bxOf at this
    rw [nrm_ins] at this
    exact this
  · have := hc.recv (by rw [nrm_ins]; exact ho)
    unfold bxOf at this
    rw [nrm_ins] at this
    exact this
theorem Stood.rest (h : Stood M told c xs) (hr : (c.looked M).ready = []) : Rest M (capN M) (tks0 M) xs c.bs.ws := by
  intro k hk hc
  have hk' : k < c.ts.length := by rw [h.len]; exact hk
  rw [← h.tk k hk] at hc
  have hl := can_look hc
  have hm : k ∈ (c.looked M).ready := by
    unfold Ma.ready
    rw [List.mem_filter, List.mem_range]
    refine ⟨by simpa [Ma.looked] using hk', ?_⟩
    rw [decide_eq_true_eq, looked_at hk', hl]
    exact hc.st
  rw [hr] at hm
  cases hm
end
end Go.Proofs.Ytjehflelkpacfaa.Vm

/- Where all comes to rest: it is the same rest. Plain Lean. -/
namespace Go.Proofs.Ytjehflelkpacfaa.Vm
open ImgM Ver Opt
set_option linter.unusedVariables false
set_option linter.unusedSimpArgs false
section
variable {M : Mdl} {T : Nat → Int → Option Shape}
theorem picks_ok' (hC : Certs M T) (told : Bool) : ∀ (l : List (Int × Int)) {c : Ma}, c.Ok M T → (picks M told l c).2.Ok M T
  | [], c, h => h
  | p :: l, c, h => picks_ok' hC told l (h.pick hC told p)
theorem alk_nrm {t t' : Tk} (h : nrm t = nrm t') : Alk t t' := by
  unfold nrm at h
  by_cases h1 : t.st ≤ 3
  · rw [if_pos h1] at h
    by_cases h2 : t'.st ≤ 3
    · rw [if_pos h2] at h
      obtain ⟨cs, now, st, bx, tr, out⟩ := t
      obtain ⟨cs', now', st', bx', tr', out'⟩ := t'
      simp only [Tk.mk.injEq] at h
      obtain ⟨rfl, rfl, -, -, rfl, rfl⟩ := h
      exact .inr ⟨h1, st', bx', h2, rfl⟩
    · rw [if_neg h2] at h
      rw [← h] at h2
      exact absurd (show ({ t with st := 1, bx := 0 } : Tk).st ≤ 3 from (by decide : (1 : Int) ≤ 3)) h2
  · rw [if_neg h1] at h
    by_cases h2 : t'.st ≤ 3
    · rw [if_pos h2] at h
      rw [h] at h1
      exact absurd (show ({ t' with st := 1, bx := 0 } : Tk).st ≤ 3 from (by decide : (1 : Int) ≤ 3)) h1
    · rw [if_neg h2] at h
      exact .inl h
theorem look_ws (k : Option Nat) (t : Tk) (s : Bs) : (look (bxs M k) M (t, s)).1 = (look (bx0 (capN M)) M (t, s.ws)).1 := by
  unfold look waits
  dsimp only
  have e1 : ∀ b, (bxs M k).full s b = (bx0 (capN M)).full s.ws b := fun b => rfl
  have e2 : ∀ b, (bxs M k).empty s b = (bx0 (capN M)).empty s.ws b := fun b => rfl
  rw [e1, e2]
  split
  · split
    · rfl
    · split <;> rfl
  · rfl
/-- the same runs, the same machine, looked at -/
theorem Stood.same {told told' : Bool} {c c' : Ma} {xs : Nat → List Int} (h : Stood M told c xs) (h' : Stood M told' c' xs) (hw : c.bs.ws = c'.bs.ws) : (c.looked M).ts = (c'.looked M).ts := by
  unfold Ma.looked
  dsimp only
  refine List.ext_getElem (by simp [h.len, h'.len]) fun j h1 h2 => ?_
  simp only [List.length_map] at h1 h2
  simp only [List.getElem_map]
  have e1 := h.tk j (by rw [← h.len]; exact h1)
  have e2 := h'.tk j (by rw [← h'.len]; exact h2)
  rw [List.getD_eq_getElem?_getD, List.getElem?_eq_getElem h1, Option.getD_some] at e1
  rw [List.getD_eq_getElem?_getD, List.getElem?_eq_getElem h2, Option.getD_some] at e2
  rw [look_ws, look_ws, ← hw, look_alk _ M (alk_nrm (e1.trans e2.symm))]
theorem sum_le : ∀ (l : List Nat) {f g : Nat → Nat}, (∀ k, f k ≤ g k) → (l.map f).sum ≤ (l.map g).sum
  | [], f, g, h => Nat.le_refl _
  | a :: l, f, g, h => by
    simp only [List.map_cons, List.sum_cons]
    have := sum_le l h
    have := h a
    omega
end
end Go.Proofs.Ytjehflelkpacfaa.Vm

/- What is told of a run changes nothing; what is told, in plain Lean. -/
namespace Go.Proofs.Ytjehflelkpacfaa.Vm
open ImgM Ver Opt
set_option linter.unusedVariables false
set_option linter.unusedSimpArgs false
section
variable {M : Mdl} {k : Option Nat}
theorem step_same {t : Tk} {s s' : Bs} (h : s.ws = s'.ws) : (step (bxs M k) M (t, s)).1 = (step (bxs M none) M (t, s')).1 ∧ (step (bxs M k) M (t, s)).2.1 = (step (bxs M none) M (t, s')).2.1 ∧ (step (bxs M k) M (t, s)).2.2.ws = (step (bxs M none) M (t, s')).2.2.ws := by
  have hl : (look (bxs M k) M (t, s)).1 = (look (bxs M none) M (t, s')).1 := by rw [look_ws, look_ws, h]
  by_cases hs : (look (bxs M k) M (t, s)).1.st = 1
  · have hs' : (look (bxs M none) M (t, s')).1.st = 1 := by rw [← hl]; exact hs
    have hi : inp (bxs M k) M (t, s) = inp (bxs M none) M (t, s') := by
      unfold inp
      have : ((bxs M k).take s (insT M t).a.toNat).1 = ((bxs M none).take s' (insT M t).a.toNat).1 := by
        show (s.ws.getD _ []).headD 0 = (s'.ws.getD _ []).headD 0
        rw [h]
      rw [this]
    have hw : ∀ l : List Ev, (l.foldl (play (bxs M k)) s).ws = (l.foldl (play (bxs M none)) s').ws := fun l => by rw [plays_ws, plays_ws, h]
    rw [step_yes _ M hs, step_yes _ M hs', hi, hl]
    generalize lstep M (inp (bxs M none) M (t, s')) (look (bxs M none) M (t, s')).1 = r
    refine ⟨rfl, ?_, ?_⟩
    · refine (look_ws k r.1 (r.2.foldl (play (bxs M k)) s)).trans ?_
      rw [hw]
      exact (look_ws none r.1 (r.2.foldl (play (bxs M none)) s')).symm
    · exact (congrArg Bs.ws (look_snd (bxs M k) M (r.1, r.2.foldl (play (bxs M k)) s))).trans ((hw r.2).trans (congrArg Bs.ws (look_snd (bxs M none) M (r.1, r.2.foldl (play (bxs M none)) s'))).symm)
  · have hs' : ¬ (look (bxs M none) M (t, s')).1.st = 1 := by rw [← hl]; exact hs
    rw [step_no _ M hs, step_no _ M hs']
    exact ⟨rfl, hl, by dsimp only; rw [look_snd, look_snd]; exact h⟩
theorem goN_same : ∀ (n : Nat) {t : Tk} {s s' : Bs}, s.ws = s'.ws → (goN (bxs M k) M n (t, s)).1 = (goN (bxs M none) M n (t, s')).1 ∧ (goN (bxs M k) M n (t, s)).2.1 = (goN (bxs M none) M n (t, s')).2.1 ∧ (goN (bxs M k) M n (t, s)).2.2.ws = (goN (bxs M none) M n (t, s')).2.2.ws
  | 0, t, s, s', h => ⟨rfl, rfl, h⟩
  | n + 1, t, s, s', h => by
    obtain ⟨h1, h2, h3⟩ := step_same (M := M) (k := k) (t := t) h
    unfold goN
    rw [h1]
    by_cases hb : (step (bxs M none) M (t, s')).1 = true
    · rw [if_pos hb, if_pos hb]
      have e1 : (step (bxs M k) M (t, s)).2 = ((step (bxs M none) M (t, s')).2.1, (step (bxs M k) M (t, s)).2.2) := Prod.ext h2 rfl
      have e2 : (step (bxs M none) M (t, s')).2 = ((step (bxs M none) M (t, s')).2.1, (step (bxs M none) M (t, s')).2.2) := rfl
      obtain ⟨g1, g2, g3⟩ := goN_same n (t := (step (bxs M none) M (t, s')).2.1) h3
      rw [e1, e2]
      dsimp only
      exact ⟨by rw [g1], g2, g3⟩
    · rw [if_neg hb, if_neg hb]
      exact ⟨rfl, h2, h3⟩
theorem pick1_same {n : Nat} {q : Int} {t : Tk} {s s' : Bs} (h : s.ws = s'.ws) : (pick1 (bxs M k) M n q (t, s)).1 = (pick1 (bxs M none) M n q (t, s')).1 ∧ (pick1 (bxs M k) M n q (t, s)).2.1 = (pick1 (bxs M none) M n q (t, s')).2.1 ∧ (pick1 (bxs M k) M n q (t, s)).2.2.ws = (pick1 (bxs M none) M n q (t, s')).2.2.ws := by
  have hl : (look (bxs M k) M (t, s)).1 = (look (bxs M none) M (t, s')).1 := by rw [look_ws, look_ws, h]
  have e1 : look (bxs M k) M (t, s) = ((look (bxs M none) M (t, s')).1, s) := Prod.ext hl (look_snd _ M _)
  have e2 : look (bxs M none) M (t, s') = ((look (bxs M none) M (t, s')).1, s') := Prod.ext rfl (look_snd _ M _)
  unfold pick1
  by_cases h1 : q < 1 ∨ 10000 < q
  · rw [if_pos h1, if_pos h1]; exact ⟨rfl, rfl, h⟩
  rw [if_neg h1, if_neg h1, hl]
  by_cases h2 : (look (bxs M none) M (t, s')).1.st ≠ 1
  · rw [if_pos h2, if_pos h2, e1, e2]; exact ⟨rfl, rfl, h⟩
  rw [if_neg h2, if_neg h2, e1]
  rw [e2]
  dsimp only
  obtain ⟨g1, g2, g3⟩ := goN_same (M := M) (k := k) (min q.toNat (20000 - n)) (t := (look (bxs M none) M (t, s')).1) h
  rw [g1]
  exact ⟨rfl, g2, g3⟩
end
/-- alike but for what was told -/
structure Told (c c' : Ma) : Prop where
  ts : c.ts = c'.ts
  ws : c.bs.ws = c'.bs.ws
  n : c.n = c'.n
theorem Told.pick {M : Mdl} {c c' : Ma} (h : Told c c') (p : Int × Int) : (pick M true c p).1 = (pick M false c' p).1 ∧ Told (pick M true c p).2 (pick M false c' p).2 := by
  obtain ⟨ts, bs, n⟩ := c
  obtain ⟨ts', bs', n'⟩ := c'
  obtain ⟨h1, h2, h3⟩ := h
  dsimp only at h1 h2 h3
  subst h1 h3
  unfold Vm.pick
  dsimp only
  by_cases hp : p.1 < 0 ∨ (ts.length : Int) ≤ p.1
  · rw [if_pos hp, if_pos hp]; exact ⟨rfl, ⟨rfl, h2, rfl⟩⟩
  · rw [if_neg hp, if_neg hp]
    have e : tOf false p.1.toNat = none := rfl
    obtain ⟨g1, g2, g3⟩ := pick1_same (M := M) (k := tOf true p.1.toNat) (n := n) (q := p.2) (t := ts.getD p.1.toNat default) h2
    unfold Ma.at_
    dsimp only
    rw [e]
    exact ⟨g1, ⟨by dsimp only; rw [g2], g3, by dsimp only; rw [g1]⟩⟩
theorem Told.picks {M : Mdl} : ∀ (l : List (Int × Int)) {c c' : Ma}, Told c c' → Told (picks M true l c).2 (picks M false l c').2
  | [], c, c', h => h
  | p :: l, c, c', h => Told.picks l (h.pick p).2
/-- what is told of one task -/
def ofTask (l : List (Nat × Ev)) (k : Nat) : List (Nat × Ev) := l.filter fun e => decide (e.1 = k)
theorem ofTask_eq (k : Nat) : ∀ l : List (Nat × Ev), ofTask l k = ((ofTask l k).map (·.2)).map fun e => (k, e)
  | [] => rfl
  | a :: l => by
    have ih := ofTask_eq k l
    unfold ofTask at ih ⊢
    rw [List.filter_cons]
    by_cases h : a.1 = k
    · rw [if_pos (by simpa using h), List.map_cons, List.map_cons, ← ih, ← h]
    · rw [if_neg (by simpa using h)]; exact ih
/-- KAHN, OF ALL THAT A TASK DOES -/
theorem trace_kahn {M : Mdl} {T : Nat → Int → Option Shape} (hC : Certs M T) (hR : Right M) (ps os : List (Int × Int)) (k : Nat) :
    ofTask (Vm.picks M true ps (Ma.init M)).2.bs.log k <+: ofTask (Vm.picks M true os (Ma.init M)).2.bs.log k ∨ ofTask (Vm.picks M true os (Ma.init M)).2.bs.log k <+: ofTask (Vm.picks M true ps (Ma.init M)).2.bs.log k := by
  obtain ⟨xs, hS⟩ := Stood.pickds ps (Stood.init M true)
  obtain ⟨ys, hS'⟩ := Stood.pickds os (Stood.init M true)
  have l1 := (hS.log rfl).1 k
  have l2 := (hS'.log rfl).1 k
  have key : ∀ {a b : List (Nat × Ev)}, (ofTask a k).map (·.2) <+: (ofTask b k).map (·.2) → ofTask a k <+: ofTask b k := fun {a b} h => by
    rw [ofTask_eq k a, ofTask_eq k b]
    exact h.map _
  have hx := kahn (owns_of hC hR) hS.runs hS'.runs k
  by_cases hk : k < (tks0 M).length
  · rw [if_pos hk] at l1 l2
    rcases hx with hx | hx
    · exact .inl (key (by unfold ofTask; rw [l1, l2]; exact pre_lev hx))
    · exact .inr (key (by unfold ofTask; rw [l1, l2]; exact pre_lev hx))
  · rw [if_neg hk] at l1 l2
    exact .inl (key (by unfold ofTask; rw [l1]; exact List.nil_prefix))
end Go.Proofs.Ytjehflelkpacfaa.Vm

/- What one task did, and events compared (yieldref10), walked. -/
namespace Go.Proofs.Ytjehflelkpacfaa.Vw
open Go.RowKit Go.Proofs.Ytjehflelkpacfaa.Img
set_option linter.unusedVariables false
set_option linter.unusedSimpArgs false
abbrev evV (e : Nat × Vm.Ev) : Value := .agg #[.int .i64 (e.1 : Int), .int .i64 e.2.1, .int .i64 e.2.2.1, .int .i64 e.2.2.2]
theorem run_evIn (x y : Nat × Vm.Ev) (w : World) : (Op.equalIn 10000 50 (evV x) (evV y)).run Try.prog w = .ok (decide (x = y)) w := by
  have u3 := Try.underlying3
  have a3 := Try.isAgg3
  have z3 := Try.sizeOf3
  have u4 := Try.underlying2
  have a4 := Try.isAgg2
  have hS : Try.prog.underlying 50 = some (.struct (Try.prog.fieldsOf 50)) := by kernel_rfl
  have hp : Try.prog.stoodInHeld 50 = false := by kernel_rfl
  obtain ⟨a, b, c, d⟩ := x
  obtain ⟨a', b', c', d'⟩ := y
  rw [show (10000 : Nat) = 9999 + 1 from rfl, run_equalIn_agg w 9999 50 _ _ hS hp]
  simp only [Program.fieldsOf, Try.underlying50]
  go_simp
  by_cases h1 : a = a'
  · by_cases h2 : b = b' <;> by_cases h3 : c = c' <;> by_cases h4 : d = d' <;> simp [h1, h2, h3, h4]
  · have h1' : ¬ ((a : Int) = (a' : Int)) := by omega
    simp [h1, h1']
section
variable {N : Nat} {E : Env} {L : List Chunk} {dst : Option Tmp} {ty : TypeId} {pos : String} {aft : Array Edge} {g : Option (Nat × Bool)}
theorem Still.neqEv {x y : Operand} {a b : Nat × Vm.Ev} {v v' : Value} {r : Bool} (hx : ev E x = some v) (hy : ev E y = some v') (h1 : v = evV a) (h2 : v' = evV b) (hr : (!decide (a = b)) = r) : Still Try.prog N ⟨dst, .binOp .neq 50 x y 50, ty, pos, aft, g⟩ E L (.bool r) := fun A w hs _ => by
  subst h1 h2 hr
  have hg := run_eqGuard_agg (P := Try.prog) w .neq 50 x y (evC a).toArray (evC b).toArray (by kernel_rfl)
  simp only [evC] at hg
  simp [execOp, hs.ev hx, hs.ev hy, hg, run_neq_struct, run_evIn]
end
/-- what one task did, of the first k -/
def ofTo (l : List (Nat × Vm.Ev)) (task : Int) (k : Nat) : List (Nat × Vm.Ev) := (l.take k).filter fun e => decide ((e.1 : Int) = task)
theorem ofTo_succ {l : List (Nat × Vm.Ev)} {task : Int} {k : Nat} (hk : k < l.length) : ofTo l task (k + 1) = ofTo l task k ++ if ((l.getD k default).1 : Int) = task then [l.getD k default] else [] := by
  unfold ofTo
  rw [List.take_succ_eq_append_getElem hk, List.filter_append, List.getD_eq_getElem?_getD, List.getElem?_eq_getElem hk]
  congr 1
  simp only [Option.getD_some]
  by_cases h : ((l[k]).1 : Int) = task
  · rw [if_pos h]; simp [h]
  · rw [if_neg h]; simp [h]
theorem ofTo_le (l : List (Nat × Vm.Ev)) (task : Int) (k : Nat) : (ofTo l task k).length ≤ k := by
  have := List.length_filter_le (fun e : Nat × Vm.Ev => decide ((e.1 : Int) = task)) (l.take k)
  unfold ofTo
  simp at this ⊢
  omega
theorem ofTo_all (l : List (Nat × Vm.Ev)) (j : Nat) : ofTo l (j : Int) l.length = Vm.ofTask l j := by
  unfold ofTo Vm.ofTask
  rw [List.take_length]
  refine List.filter_congr fun e _ => ?_
  by_cases h : e.1 = j
  · simp [h]
  · have : ¬ (e.1 : Int) = (j : Int) := by omega
    simp [h]; omega
theorem ofTo_neg (l : List (Nat × Vm.Ev)) {task : Int} (h : task < 0) (k : Nat) : ofTo l task k = [] := by
  unfold ofTo
  rw [List.filter_eq_nil_iff]
  intro e _
  simp only [decide_eq_true_eq]; omega
attribute [local irreducible] Run Cod End OpT Still RunQ RunS RunT Fn PutOk
attribute [local irreducible] ofTo
abbrev TrL.val (r : TrL) : Value := .slice r.o r.l.length r.c
abbrev evR (r : TrL) : Chunk := rd r.o r.l.length r.c evC r.l
set_option maxRecDepth 100000 in
theorem of_is (s : TrL) (hb : s.l.length ≤ 1000000) (task : Int) : Fn Try.prog 16 #[s.val, .int .i64 task] [evR s] [] (σ := TrL) (fun r => r.l = ofTo s.l task s.l.length) TrL.val TrL.mem := by
  obtain ⟨so, sc, l⟩ := s
  dsimp only at hb ⊢
  refine Fn.enter (args := [.slice so l.length sc, .int .i64 task]) Try.func16 rfl _ Try.ntmps16 rfl (by simp [rd_excl, md_excl]) (fun w S => ?_)
  (try conv => rhs; simp only [List.cons_append, List.nil_append])
  apply Cod.fact (l.length ≤ 9223372036854775807) (fun w hm => (rd_holds.1 (hm.has (c := rd so l.length sc evC l) (by (repeat (first | exact Take.head | apply Take.tail))))).1.2.1)
  intro hn
  repeat (first | refine go (k := ?_) | (refine goB (k := ?_); intro b) | (refine goA (k := ?_); intro ao cap))
  have hz : ofTo l task 0 = [] := by unfold ofTo; simp
  apply Cod.imp (fun w hm => Mem.nilArr' hm 50 evC (l := ofTo l task 0) hz)
  have hz0 : (ofTo l task 0).length = 0 := by rw [hz]; rfl
  refine Cod.only ((fun z => [old w S, rd so l.length sc evC l, arr z.2.1 z.2.2.2 z.2.2.1 50 evC (ofTo l task z.1)]) (0, none, 0, 0)) (by (repeat (first | exact Takes.nil | exact Take.head | apply Take.tail | apply Takes.cons))) ?_
  apply Cod.loop (σ := Nat × Option Addr × Nat × Nat) (fun z => z.1 ≤ l.length ∧ z.2.2.2 = (ofTo l task z.1).length) (fun z => [(1, .int .i64 task), (5, .slice z.2.1 z.2.2.2 z.2.2.1), (8, .slice so l.length sc), (9, .int .i64 (l.length : Int)), (10, .int .i64 (z.1 : Int))]) (fun z => [old w S, rd so l.length sc evC l, arr z.2.1 z.2.2.2 z.2.2.1 50 evC (ofTo l task z.1)]) (fun z => l.length - z.1) (0, none, 0, 0)
  rotate_left
  exact sb
  exact tks
  intro z hz1 K1 hK1
  (try conv => rhs; simp only [List.cons_append, List.nil_append])
  rotate_left
  · exact ⟨Nat.zero_le _, hz0.symm⟩
  obtain ⟨k, qo, qc, qn⟩ := z
  obtain ⟨hk, hqn⟩ := hz1
  dsimp only at hk hqn hK1 ⊢
  have hgl := ofTo_le l task k
  by_cases hkn : k < l.length
  · have hsn := ofTo_succ (l := l) (task := task) hkn
    obtain ⟨p, hp⟩ : ∃ p, p = l.getD k default := ⟨_, rfl⟩
    rw [← hp] at hsn
    by_cases hd : ((l.getD k default).1 : Int) = task
    · rw [if_pos (by rw [hp]; exact hd)] at hsn
      have hln := congrArg List.length hsn
      rw [List.length_append, List.length_singleton] at hln
      repeat (first | refine go (k := ?_) | (refine goB (k := ?_); intro b) | (refine goA (k := ?_); intro ao cap))
      rw [← hp, ← hsn]
      refine End.round0_ hK1 (k + 1, ao, cap, qn + 1) ?_ ?_
      · exact ⟨by dsimp only; omega, by dsimp only; omega⟩
      · dsimp only; omega
    · rw [if_neg (by rw [hp]; exact hd), List.append_nil] at hsn
      repeat (first | refine go (k := ?_) | (refine goB (k := ?_); intro b) | (refine goA (k := ?_); intro ao cap))
      rw [← hsn]
      refine End.round0_ hK1 (k + 1, qo, qc, qn) ?_ ?_
      · exact ⟨by dsimp only; omega, by dsimp only; rw [hsn]; exact hqn⟩
      · dsimp only; omega
  · obtain rfl : k = l.length := by omega
    clear hK1
    subst hqn
    repeat (first | refine go (k := ?_) | (refine goB (k := ?_); intro b) | (refine goA (k := ?_); intro ao cap))
    (refine End.done1_ ((⟨qo, qc, ofTo l task l.length⟩ : TrL)) (he := by (first | exact rfl | (refine congrArg (Value.int _) ?_; omega) | (refine congrArg (Value.int _) ?_; dsimp only; omega))) (hp := ?_))
    rfl
set_option maxRecDepth 100000 in
theorem sameEv_is (s t : TrL) (h : s.l = t.l) : Fn Try.prog 17 #[s.val, t.val] [evR s, evR t] [] (σ := Unit) (fun _ => True) (fun _ => .bool true) (fun _ => []) := by
  obtain ⟨ao, ac, l⟩ := s
  obtain ⟨bo, bc, l'⟩ := t
  dsimp only at h ⊢
  subst h
  refine Fn.enter (args := [.slice ao l.length ac, .slice bo l.length bc]) Try.func17 rfl _ Try.ntmps17 rfl (by simp [rd_excl, md_excl]) (fun w S => ?_)
  (try conv => rhs; simp only [List.cons_append, List.nil_append])
  apply Cod.fact (l.length ≤ 9223372036854775807) (fun w hm => (rd_holds.1 (hm.has (c := rd ao l.length ac evC l) (by (repeat (first | exact Take.head | apply Take.tail))))).1.2.1)
  intro hn
  repeat (first | refine go (k := ?_) | (refine goB (k := ?_); intro b) | (refine goA (k := ?_); intro ao cap))
  refine Cod.only ((fun k => [old w S, rd ao l.length ac evC l, rd bo l.length bc evC l]) 0) (by (repeat (first | exact Takes.nil | exact Take.head | apply Take.tail | apply Takes.cons))) ?_
  apply Cod.loop (σ := Nat) (fun k => k ≤ l.length) (fun k => [(0, .slice ao l.length ac), (1, .slice bo l.length bc), (12, .int .i64 (l.length : Int)), (13, .int .i64 (k : Int))]) (fun k => [old w S, rd ao l.length ac evC l, rd bo l.length bc evC l]) (fun k => l.length - k) 0
  rotate_left
  exact sb
  exact tks
  intro k hk K1 hK1
  (try conv => rhs; simp only [List.cons_append, List.nil_append])
  rotate_left
  · exact Nat.zero_le _
  by_cases hkn : k < l.length
  · repeat (first | refine go (k := ?_) | (refine goB (k := ?_); intro b) | (refine goA (k := ?_); intro ao cap))
    refine RunQ.val_ (h := by exact Still.neqEv (a := l.getD k default) (b := l.getD k default) (r := false) rfl rfl rfl rfl (by simp)) (k := ?_)
    repeat (first | refine go (k := ?_) | (refine goB (k := ?_); intro b) | (refine goA (k := ?_); intro ao cap))
    refine End.round0_ hK1 (k + 1) ?_ ?_
    · omega
    · omega
  · repeat (first | refine go (k := ?_) | (refine goB (k := ?_); intro b) | (refine goA (k := ?_); intro ao cap))
    (refine End.done1_ (()) (he := by (first | exact rfl | (refine congrArg (Value.int _) ?_; omega) | (refine congrArg (Value.int _) ?_; dsimp only; omega))) (hp := ?_))
    trivial
end Go.Proofs.Ytjehflelkpacfaa.Vw

/- Settle, walked. -/
namespace Go.Proofs.Ytjehflelkpacfaa.Vm
open ImgM
def settled (M : Mdl) (ps : List (Int × Int)) (q : Int) : Option Ma := settle M q 20001 (lastOf ps (picks M false ps (Ma.init M)).1) (picks M false ps (Ma.init M)).2
def setErr (M : Mdl) (ps : List (Int × Int)) (q : Int) : Int := if wrong M ps.length ≠ 0 then wrong M ps.length else if q < 1 ∨ 10000 < q then 3 else if settled M ps q = none then 10 else 0
end Go.Proofs.Ytjehflelkpacfaa.Vm
namespace Go.Proofs.Ytjehflelkpacfaa.Vw
open Go.RowKit Go.Proofs.Ytjehflelkpacfaa.Img
set_option linter.unusedVariables false
set_option linter.unusedSimpArgs false
attribute [local irreducible] Run Cod End OpT Still RunQ RunS RunT Fn PutOk
def lastK (m : ML) (ps : List (Int × Int)) (k : Nat) : Int := Vm.lastOf (ps.take k) (ckOf m ps k).1
attribute [local irreducible] Ver.verify Vm.wrong Vm.picks Vm.settle Vm.setErr Vm.settled lastK
end Go.Proofs.Ytjehflelkpacfaa.Vw

/- Worlds compared (yieldref10), walked: of what is alike. -/
namespace Go.Proofs.Ytjehflelkpacfaa.Vw
open Go.RowKit Go.Proofs.Ytjehflelkpacfaa.Img
set_option linter.unusedVariables false
set_option linter.unusedSimpArgs false
/-- ends, and where they lie -/
structure EL where
  o : Option Addr
  c : Nat
  l : List EnL
abbrev EL.val (f : EL) : Value := .slice f.o f.l.length f.c
structure EdAt (w : World) (f : EL) : Prop where
  out : Row w (.slice f.o f.l.length f.c) (sz enC) f.l.length (f.l.flatMap enC)
  row : ∀ r ∈ f.l, Row w (.slice r.oo r.out.length r.oc) (sz i64c) r.out.length (r.out.flatMap i64c)
def EdFoot (f : EL) (k : Nat) : Prop :=
  ((Value.slice f.o f.l.length f.c).ownBlock = some k ∧ 0 < f.l.length) ∨ ∃ r ∈ f.l, (Value.slice r.oo r.out.length r.oc).ownBlock = some k ∧ 0 < r.out.length
theorem EdAt.keep {w w' : World} {f : EL} (h : EdAt w f) {S : Nat → Prop} (k : Keeps S w w') (hs : ∀ b, EdFoot f b → ¬ S b) : EdAt w' f :=
  ⟨h.out.keep'' Enc.pos k (fun b h1 h2 => hs b (.inl ⟨h1, h2⟩)), fun r hr => (h.row r hr).keep'' Enc.pos k (fun b h1 h2 => hs b (.inr ⟨r, hr, h1, h2⟩))⟩
theorem EdAt.lt {w : World} {f : EL} (h : EdAt w f) : ∀ b, EdFoot f b → b < w.heap.size := by
  rintro b (⟨h1, h2⟩ | ⟨r, hr, h1, h2⟩)
  · exact h.out.lt' Enc.pos h2 b h1
  · exact (h.row r hr).lt' Enc.pos h2 b h1
/-- ends that are only read -/
@[irreducible] def ed (f : EL) : Chunk where
  holds w := EdAt w f
  foot := EdFoot f
  excl := false
  stab k hs h := h.keep k hs
  lt h := h.lt
theorem ed_holds {w : World} {f : EL} : (ed f).holds w ↔ EdAt w f := by unfold ed; exact Iff.rfl
theorem ed_foot {f : EL} {k : Nat} : (ed f).foot k ↔ EdFoot f k := by unfold ed; exact Iff.rfl
theorem ed_excl {f : EL} : (ed f).excl = false := by unfold ed; rfl
theorem en_mem {l : List EnL} {k : Nat} (hk : k < l.length) : l.getD k default ∈ l := by
  rw [List.getD_eq_getElem?_getD, List.getElem?_eq_getElem hk]; exact List.getElem_mem hk
section
variable {f : EL} {L L' : List Chunk} {w : World}
theorem Mem.edOut (t : Take (ed f) L L') (h : Mem w L) : Mem w (rd f.o f.l.length f.c enC f.l :: L) :=
  h.dup t rd_excl (rd_holds.2 ⟨(ed_holds.1 (h.has t)).out, rfl⟩) (fun b hb => ed_foot.2 (.inl (rd_foot.1 hb))) ed_excl
theorem Mem.edRow {k : Nat} (hk : k < f.l.length) (t : Take (ed f) L L') (h : Mem w L) : Mem w (rd (f.l.getD k default).oo (f.l.getD k default).out.length (f.l.getD k default).oc i64c (f.l.getD k default).out :: L) :=
  h.dup t rd_excl (rd_holds.2 ⟨(ed_holds.1 (h.has t)).row _ (en_mem hk), rfl⟩) (fun b hb => ed_foot.2 (.inr ⟨_, en_mem hk, rd_foot.1 hb⟩)) ed_excl
end
theorem ed_own {w : World} {L F : List Chunk} {f : EL} {e : TypeId} (tk : Takes [arr f.o f.l.length f.c e enC f.l, bag (f.l.map enM)] L F) (h : Mem w L) : Mem w (ed f :: F) := by
  have ht := h.takes tk
  have a1 := arr_holds.1 (ht.all _ (.head _))
  have a2 := bag_holds.1 (ht.all _ (.tail _ (.head _)))
  have hrow : ∀ r ∈ f.l, (enM r).holds w := fun r hr => a2.1.all _ (List.mem_map.2 ⟨r, hr, rfl⟩)
  refine Mem.toRead tk h (ed_holds.2 ⟨a1.1.row Enc.pos, fun r hr => (arr_holds.1 (hrow r hr)).1.row Enc.pos⟩) ed_excl (fun b hb => ?_)
  rcases ed_foot.1 hb with ⟨h1, h2⟩ | ⟨r, hr, h1, h2⟩
  · exact ⟨_, .head _, arr_foot.2 ⟨h1, Nat.lt_of_lt_of_le h2 a1.1.le⟩⟩
  · exact ⟨_, .tail _ (.head _), bag_foot.2 ⟨_, List.mem_map.2 ⟨r, hr, rfl⟩, arr_foot.2 ⟨h1, Nat.lt_of_lt_of_le h2 (arr_holds.1 (hrow r hr)).1.le⟩⟩⟩
abbrev WoL.el (r : WoL) : EL := ⟨r.eo, r.ec, r.ends⟩
abbrev WoL.fl (r : WoL) : FL := ⟨r.wo, r.wc, r.rows⟩
theorem wo_own {w : World} {L F : List Chunk} (r : WoL) (t : Takes r.mem L F) (h : Mem w L) : Mem w (ed r.el :: fd r.fl :: F) := by
  have h1 : Mem w (r.mem ++ F) := h.takes t
  have h2 := ed_own (f := r.el) (e := 56) (L := r.mem ++ F) (by exact .cons .head (.cons .head .nil)) h1
  have h3 := fd_own (f := r.fl) (t := 2) (e := 51) (by exact .cons (.tail .head) (.cons (.tail .head) .nil)) h2
  exact h3.takes (by exact .cons (.tail .head) (.cons .head .nil))
attribute [local irreducible] Run Cod End OpT Still RunQ RunS RunT Fn PutOk
end Go.Proofs.Ytjehflelkpacfaa.Vw

/- yieldlaw9.alive's answer, in plain Lean. -/
namespace Go.Proofs.Ytjehflelkpacfaa.Vm
set_option linter.unusedVariables false
def al9 : List ImgM.Ins := [⟨1, 0, 7⟩, ⟨28, 0, 0⟩, ⟨25, 0, 0⟩]
def al9M : ImgM.Mdl := ⟨[], [⟨4, 0, [], 0, 0, al9⟩]⟩
end Go.Proofs.Ytjehflelkpacfaa.Vm
