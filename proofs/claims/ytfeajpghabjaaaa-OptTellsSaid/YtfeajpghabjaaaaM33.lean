/- yieldref7.Code: how it lies in memory; its pieces. -/
import Derived.Test.YtfeajpghabjaaaaM32
namespace Go.Proofs.Ytfeajpghabjaaaa.Vw
open Go.RowKit Go.Proofs.Ytfeajpghabjaaaa.Img
set_option linter.unusedVariables false
set_option linter.unusedSimpArgs false
/-- what is known at an instruction: as it lies -/
structure Sn where
  come : Bool
  st : List UInt8
  hs : List Bool
  ho : Option Addr
  hc : Nat
instance : Inhabited Sn := ⟨⟨false, [], [], none, 0⟩⟩
def snC (x : Sn) : List Value := [.bool x.come, sv x.st, .slice x.ho x.hs.length x.hc]
instance : Enc snC := ⟨fun _ => rfl, by decide, fun a u hu => by simp [snC] at hu; rcases hu with rfl | rfl | rfl <;> rfl⟩
abbrev rwM (x : Sn) : Chunk := arr x.ho x.hs.length x.hc 4 boolc x.hs
def rowsM (l : List Sn) : List Chunk := l.map rwM
theorem erase_perm {α : Type} [Inhabited α] : ∀ {l : List α} {k : Nat}, k < l.length → l.Perm (l.getD k default :: l.eraseIdx k)
  | a :: l, 0, _ => List.Perm.refl _
  | a :: l, k + 1, h => by
    have := erase_perm (l := l) (k := k) (by simpa using h)
    simpa using (this.cons a).trans (List.Perm.swap _ _ _)
theorem erase_set {α : Type} : ∀ {l : List α} {k : Nat} (x : α), (l.set k x).eraseIdx k = l.eraseIdx k
  | [], _, _ => rfl
  | a :: l, 0, _ => rfl
  | a :: l, k + 1, x => by simp [erase_set]
theorem getD_setS {l : List Sn} {k j : Nat} {x : Sn} (hk : k < l.length) : (l.set k x).getD j default = if j = k then x else l.getD j default := by
  simp only [List.getD_eq_getElem?_getD, List.getElem?_set]
  by_cases h : k = j
  · subst h; simp [hk]
  · rw [if_neg h, if_neg (fun h' => h h'.symm)]
theorem rows_at {l : List Sn} {k : Nat} (h : k < l.length) : (rowsM l).Perm ([rwM (l.getD k default)] ++ rowsM (l.eraseIdx k)) := (erase_perm h).map rwM
theorem rows_set {l : List Sn} {k : Nat} (h : k < l.length) (x : Sn) : (rowsM (l.set k x)).Perm ([rwM x] ++ rowsM (l.eraseIdx k)) := by
  have := rows_at (l := l.set k x) (k := k) (by simpa using h)
  rwa [erase_set, getD_setS h, if_pos rfl] at this
theorem rows_mem {l : List Sn} {k : Nat} (h : k < l.length) : rwM (l.getD k default) ∈ rowsM l := (rows_at h).mem_iff.2 (by simp)
theorem Chunk.same {c d : Chunk} (h1 : c.holds = d.holds) (h2 : c.foot = d.foot) (h3 : c.excl = d.excl) : c = d := by
  cases c; cases d
  simp only at h1 h2 h3
  subst h1 h2 h3
  rfl
theorem arr_same {ao : Option Addr} {n cap : Nat} {e : TypeId} {l l' : List Sn} (h : l.map snC = l'.map snC) : arr ao n cap e snC l = arr ao n cap e snC l' := by
  have h1 : l.flatMap snC = l'.flatMap snC := by rw [List.flatMap_def, List.flatMap_def, h]
  have h2 : l.length = l'.length := by have := congrArg List.length h; simpa using this
  apply Chunk.same
  · funext w
    exact propext ⟨fun x => arr_holds.2 (by rw [← h1, ← h2]; exact arr_holds.1 x), fun x => arr_holds.2 (by rw [h1, h2]; exact arr_holds.1 x)⟩
  · funext b
    exact propext ⟨fun x => arr_foot.2 (arr_foot.1 x), fun x => arr_foot.2 (arr_foot.1 x)⟩
  · rw [arr_excl, arr_excl]
theorem map_set_same {l : List Sn} {k : Nat} (hk : k < l.length) {x : Sn} (h : snC x = snC (l.getD k default)) : l.map snC = (l.set k x).map snC := by
  refine List.ext_getElem (by simp) fun j h1 h2 => ?_
  simp only [List.length_map] at h1
  rw [List.getElem_map, List.getElem_map, List.getElem_set]
  by_cases hj : k = j
  · subst hj
    rw [if_pos rfl, h, List.getD_eq_getElem?_getD, List.getElem?_eq_getElem hk]; rfl
  · rw [if_neg hj]
/-- what lies there, is what verify knows -/
structure Rl (M : ImgM.Mdl) (a : List (Int × Ver.Shape)) (l : List Sn) : Prop where
  no : ∀ p, p < l.length → Ver.find a (p : Int) = none → (l.getD p default).come = false
  yes : ∀ p s, p < l.length → Ver.find a (p : Int) = some s → (l.getD p default).come = true ∧ (l.getD p default).st = s.1.map Rf7.lt1 ∧ (l.getD p default).hs = s.2
  vt : ∀ p s, Ver.find a p = some s → ∀ t ∈ s.1, Rf7.VT M t
theorem Rl.new {M : ImgM.Mdl} {a : List (Int × Ver.Shape)} {l : List Sn} (h : Rl M a l) {p : Nat} (hp : p < l.length) (hn : Ver.find a (p : Int) = none) {s : Ver.Shape} (hs : ∀ t ∈ s.1, Rf7.VT M t) (ao : Option Addr) (cap : Nat) : Rl M (a ++ [((p : Int), s)]) (l.set p ⟨true, s.1.map Rf7.lt1, s.2, ao, cap⟩) := by
  have hf := fun q => Ver.find_app a (p : Int) q s hn
  refine ⟨fun q hq h1 => ?_, fun q z hq h1 => ?_, fun q z h1 => ?_⟩
  · rw [hf] at h1
    rw [List.length_set] at hq
    by_cases hpq : (p : Int) = (q : Int)
    · rw [if_pos hpq] at h1; cases h1
    · rw [if_neg hpq] at h1
      rw [getD_setS hp, if_neg (by omega)]
      exact h.no q hq h1
  · rw [hf] at h1
    rw [List.length_set] at hq
    by_cases hpq : (p : Int) = (q : Int)
    · rw [if_pos hpq] at h1
      cases h1
      rw [getD_setS hp, if_pos (by omega)]
      exact ⟨rfl, rfl, rfl⟩
    · rw [if_neg hpq] at h1
      rw [getD_setS hp, if_neg (by omega)]
      exact h.yes q z hq h1
  · rw [hf] at h1
    by_cases hpq : (p : Int) = q
    · rw [if_pos hpq] at h1
      cases h1
      exact hs
    · rw [if_neg hpq] at h1
      exact h.vt q z h1
theorem Rl.put {M : ImgM.Mdl} {a : List (Int × Ver.Shape)} {l : List Sn} (h : Rl M a l) {p : Nat} (hp : p < l.length) {s : Ver.Shape} (hn : Ver.find a (p : Int) = some s) (x : List Bool) : Rl M (Ver.put a (p : Int) (s.1, x)) (l.set p { (l.getD p default) with hs := x }) := by
  have hf := fun q => Ver.find_put a (p : Int) q (s.1, x) s hn
  obtain ⟨g1, g2, g3⟩ := h.yes p s hp hn
  refine ⟨fun q hq h1 => ?_, fun q z hq h1 => ?_, fun q z h1 => ?_⟩
  · rw [hf] at h1
    rw [List.length_set] at hq
    by_cases hpq : (p : Int) = (q : Int)
    · rw [if_pos hpq] at h1; cases h1
    · rw [if_neg hpq] at h1
      rw [getD_setS hp, if_neg (by omega)]
      exact h.no q hq h1
  · rw [hf] at h1
    rw [List.length_set] at hq
    by_cases hpq : (p : Int) = (q : Int)
    · rw [if_pos hpq] at h1
      cases h1
      rw [getD_setS hp, if_pos (by omega)]
      exact ⟨g1, g2, rfl⟩
    · rw [if_neg hpq] at h1
      rw [getD_setS hp, if_neg (by omega)]
      exact h.yes q z hq h1
  · rw [hf] at h1
    by_cases hpq : (p : Int) = q
    · rw [if_pos hpq] at h1
      cases h1
      exact h.vt _ s hn
    · rw [if_neg hpq] at h1
      exact h.vt q z h1
theorem tos_err (n : Nat) : ∀ (l : List Int) (g : Ver.Flow), g.err ≠ 0 → Ver.tos n l g = g
  | [], _, _ => rfl
  | q :: l, g, h => by
    have e : Ver.to n q g = g := by unfold Ver.to; rw [if_pos h]
    rw [Ver.tos_cons, e]
    exact tos_err n l g h
theorem toArr7 {α : Type} [Inhabited α] (f : α → List Value) [Enc f] (l : List α) (n : Nat) (hn : l.length = n) (hx : n ≤ maxLen) {w : World} {L L' : List Chunk} {b : Nat} {e : TypeId} (t : Take (blk b (l.flatMap f) e) L L') (h : Mem w L) : Mem w (arr (some ⟨b, 0, none⟩) n n e f l :: L') := Mem.toArr h t l rfl hn hx
theorem toNone7 {α : Type} [Inhabited α] (f : α → List Value) [Enc f] {w : World} {L L' : List Chunk} {b : Nat} {e : TypeId} (t : Take (blk b [] e) L L') (h : Mem w L) : Mem w (arr (some ⟨b, 0, none⟩) 0 0 e f [] :: L') := Mem.toArr h t [] rfl rfl (Nat.zero_le _)
/-- pieces of a code -/
def sl : Code → Code | .seq a _ => a | c => c
def sr : Code → Code | .seq _ b => b | c => c
def bd : Code → Code | .block _ b => b | c => c
def lp : Code → Code | .loop b => b | c => c
noncomputable def c14 : Code := Try.f34.body.getD .skip
/-- a round -/
noncomputable def rnd7 : Code := bd (sr (lp (bd (sl (sr (sr (sr (sr (sr (sr (sr c14)))))))))))
/-- behind the test of what is loaded -/
noncomputable def rnA : Code := sr (sr (sr (sr (sr (sr (sr rnd7))))))
/-- behind the test of what fits -/
noncomputable def rnB : Code := sr rnA
/-- behind what it wants -/
noncomputable def rnW : Code := sr (sr rnB)
/-- behind what it takes -/
noncomputable def rnT : Code := sr (sr (sr (sr (sr rnW))))
/-- where it leads -/
noncomputable def rnN : Code := sr (sr rnT)
theorem Cod.weak {P : Program} {Q : Exit → Act → World → Prop} {N : Nat} {c : Code} {E E' : Env} {L L' F : List Chunk} (h : Cod P Q N c E' L') (hE : Sub E' E) (hL : Takes L' L F) : Cod P Q N c E L := fun a w hs hm => h a w (hs.sub hE) (hm.takes hL).left
theorem End.weak {Q : Exit → Act → World → Prop} {N : Nat} {e : Exit} {E E' : Env} {L L' F : List Chunk} (h : End Q N e E' L') (hE : Sub E' E) (hL : Takes L' L F) : End Q N e E L := fun a w hs hm => h a w (hs.sub hE) (hm.takes hL).left
attribute [local irreducible] Run Cod End OpT Still RunQ RunS RunT Fn PutOk
set_option maxRecDepth 100000 in
theorem bad7_is (kb ab : Nat) (q p : Nat) (e : Int) : Fn Try.prog 62 #[.int .i64 e, ptr kb, ptr ab] [] [blk kb [.int .i64 (q : Int)] 3, blk ab [.int .i64 (p : Int)] 3] (σ := Unit) (fun _ => True) (fun _ => whereV ⟨e, q, p⟩) (fun _ => [blk kb [.int .i64 (q : Int)] 3, blk ab [.int .i64 (p : Int)] 3]) := by
  refine Fn.enter (args := [.int .i64 e, ptr kb, ptr ab]) Try.func62 rfl _ Try.ntmps62 rfl (by simp [rd_excl, md_excl]) (fun w S => ?_)
  (try conv => rhs; simp only [List.cons_append, List.nil_append])
  repeat (first | refine go (k := ?_) | (refine goB (k := ?_); intro b) | (refine goA (k := ?_); intro ao cap))
  (refine End.doneC1_ (()) (he := by rfl) (hp := ?_))
  trivial
/-- the result is told -/
abbrev Rets (Q : Exit → Act → World → Prop) (w : World) (S : Nat → Prop) (wb q p : Nat) (e : Int) : Prop := ∀ (E : Env) (L L' F : List Chunk), look E 4 = some (ptr wb) → Take (blk wb [.int .i64 e, .int .i64 (q : Int), .int .i64 (p : Int)] 28) L L' → Takes [old w S] L F → End Q 308 .ret E L
/-- a round's memory -/
abbrev M7 (m : ML) (q : Nat) (mb kb wb ub zb : Nat) (l : List Sn) (to_ : Option Addr) (tc : Nat) (todo : List Int) (w : World) (S : Nat → Prop) : List Chunk :=
  [old w S, md m, blk mb [.slice m.bo m.bx.length m.bc, .slice m.uo m.us.length m.uc] 25, blk kb [.int .i64 (q : Int)] 3, blk wb [.int .i64 0, .int .i64 0, .int .i64 0] 28, blk ub (ucell (m.us.getD q default)) 38, arr (some ⟨zb, 0, none⟩) l.length l.length 123 snC l, bag (rowsM l), arr to_ todo.length tc 3 i64c todo]
abbrev E7 (mb kb wb ub zb n : Nat) (to_ : Option Addr) (tc : Nat) (tn : Nat) : Env := [(2, ptr mb), (3, ptr kb), (4, ptr wb), (5, ptr ub), (6, .slice (some ⟨zb, 0, none⟩) n n), (9, .slice to_ tn tc)]
/-- the same, in a round -/
abbrev N7 (ab ib : Nat) (p : Nat) (i : ImgM.Ins) (no : Option Addr) (nc : Nat) (h : List Bool) : List Chunk := [blk ab [.int .i64 (p : Int)] 3, blk ib (insC i) 57, arr no h.length nc 4 boolc h]
abbrev F7 (kb ab ib : Nat) (no : Option Addr) (nc hn : Nat) (st : List UInt8) : Env := [(10, ptr ab), (11, ptr ib), (12, .slice no hn nc), (13, sv st), (14, .func (.func 62) #[] #[ptr kb, ptr ab])]
end Go.Proofs.Ytfeajpghabjaaaa.Vw

/- yieldref7.Code, a round: as far as what fits. -/
namespace Go.Proofs.Ytfeajpghabjaaaa.Vw
open Go.RowKit Go.Proofs.Ytfeajpghabjaaaa.Img
set_option linter.unusedVariables false
set_option linter.unusedSimpArgs false
attribute [local irreducible] Run Cod End OpT Still RunQ RunS RunT Fn PutOk
section
variable (m : ML) (q : Nat) (hq : q < m.us.length) (mb kb wb ub zb : Nat) (l : List Sn) (p : Nat) (w : World) (S : Nat → Prop) (Q : Exit → Act → World → Prop)
set_option maxRecDepth 100000 in
set_option maxHeartbeats 1000000 in
include hq in
theorem code7_a (to_ : Option Addr) (tc : Nat) (rest : List Int) (hpl : p < l.length) (hn : l.length = (m.us.getD q default).u.code.length) (hnc : (m.us.getD q default).u.code.length ≤ 4000) (hxl : (l.getD p default).hs.length ≤ 200)
    (hld : ((m.us.getD q default).u.code.getD p default).op = 3 → 0 ≤ ((m.us.getD q default).u.code.getD p default).a ∧ ((m.us.getD q default).u.code.getD p default).a < ((l.getD p default).hs.length : Int)) (hrest : rest.length ≤ 2000000)
    (h11 : ((m.us.getD q default).u.code.getD p default).op = 3 ∧ (l.getD p default).hs.getD ((m.us.getD q default).u.code.getD p default).a.toNat default = false → Rets Q w S wb q p 11)
    (hN : ¬ (((m.us.getD q default).u.code.getD p default).op = 3 ∧ (l.getD p default).hs.getD ((m.us.getD q default).u.code.getD p default).a.toNat default = false) → ∀ ab ib no nc to' tc', Cod Try.prog Q 308 rnA (E7 mb kb wb ub zb l.length to' tc' rest.length ++ F7 kb ab ib no nc (l.getD p default).hs.length (l.getD p default).st) (M7 m q mb kb wb ub zb l to' tc' rest w S ++ N7 ab ib p ((m.us.getD q default).u.code.getD p default) no nc (l.getD p default).hs)) :
    Cod Try.prog Q 308 rnd7 (E7 mb kb wb ub zb l.length to_ tc (rest.length + 1)) (M7 m q mb kb wb ub zb l to_ tc ((p : Int) :: rest) w S) := by
  have hpn : p < (m.us.getD q default).u.code.length := by omega
  have hlen : ((p : Int) :: rest).length = rest.length + 1 := rfl
  have hgp : ((p : Int) :: rest).getD 0 default = (p : Int) := rfl
  have hdp : ((p : Int) :: rest).drop 1 = rest := rfl
  show Cod _ _ _ (Code.seq (sl rnd7) (Code.seq (sl (sr rnd7)) (Code.seq (sl (sr (sr rnd7))) (Code.seq (sl (sr (sr (sr rnd7)))) (Code.seq (sl (sr (sr (sr (sr rnd7))))) (Code.seq (sl (sr (sr (sr (sr (sr rnd7)))))) (Code.seq (sl (sr (sr (sr (sr (sr (sr rnd7))))))) rnA))))))) _ _
  generalize rnA = y at hN ⊢
  dsimp only [M7, E7]
  rw [hlen]
  repeat (first | refine go (k := ?_) | (refine goB (k := ?_); intro b) | (refine goA (k := ?_); intro ao cap))
  (apply Run.op; exact rfl; refine OpT.val_ (h := by (apply Still.at_; exact rfl; exact rfl; (first | (apply Rdb.arr; focus ((repeat (first | exact Take.head | apply Take.tail)); done)) | (apply Rdb.rd; focus ((repeat (first | exact Take.head | apply Take.tail)); done)) | (apply Rdb.md_units; focus ((repeat (first | exact Take.head | apply Take.tail)); done)) | (apply Rdb.md_boxes; focus ((repeat (first | exact Take.head | apply Take.tail)); done)) | (apply Rdb.md_code; (focus ((repeat (first | exact Take.head | apply Take.tail)); done)); (focus (first | assumption | omega))) | (apply Rdb.md_locals; (focus ((repeat (first | exact Take.head | apply Take.tail)); done)); (focus (first | assumption | omega))) | (apply Rdb.old; (focus assumption); (focus ((repeat (first | exact Take.head | apply Take.tail)); done)))); exact rfl; exact rfl; exact rfl; exact ix_zero; omega)) (k := ?_))
  repeat (first | refine go (k := ?_) | (refine goB (k := ?_); intro b) | (refine goA (k := ?_); intro ao cap))
  rw [hgp, hdp]
  obtain ⟨eb, rfl⟩ : ∃ x, x = b := ⟨_, rfl⟩
  refine Run.imp (fun w hm => toNone7 boolc (b := eb) (by (repeat (first | exact Take.head | apply Take.tail))) hm) ?_
  (apply Run.op; exact rfl; refine OpT.appendS_ (f := boolc) (l2 := (l.getD p default).hs) (hr := Rdb.bag tk (rows_mem hpl)) (k := ?_); intro no nc)
  obtain ⟨ib, rfl⟩ : ∃ x, x = b := ⟨_, rfl⟩
  obtain ⟨ab, rfl⟩ : ∃ x, x = b := ⟨_, rfl⟩
  simp only [List.nil_append, Nat.zero_add, Nat.add_sub_cancel]
  generalize hi : (m.us.getD q default).u.code.getD p default = i at *
  obtain ⟨x, hx⟩ : ∃ x, x = l.getD p default := ⟨_, rfl⟩
  by_cases o3 : i.op = 3
  · obtain ⟨a, ha⟩ := Int.eq_ofNat_of_zero_le (hld o3).1
    have hal := (hld o3).2
    rw [ha] at h11 hN hal
    rw [Int.toNat_natCast] at h11 hN
    cases hb : (l.getD p default).hs.getD a default with
    | false =>
      have hb' : (!((l.getD p default).hs.getD a default)) = true := by rw [hb]; rfl
      repeat (first | refine go (k := ?_) | (refine goB (k := ?_); intro b) | (refine goA (k := ?_); intro ao cap))
      rw [ha]
      repeat (first | refine go (k := ?_) | (refine goB (k := ?_); intro b) | (refine goA (k := ?_); intro ao cap))
      (first | (apply Run.op; exact rfl) | refine Run.yes_ (h := ?_)); refine OpT.call_ (spec := bad7_is kb ab q p 11) (k := ?_); intro s hs; (try conv => rhs; simp only [List.cons_append, List.nil_append])
      repeat (first | refine go (k := ?_) | (refine goB (k := ?_); intro b) | (refine goA (k := ?_); intro ao cap))
      exact h11 ⟨o3, hb⟩ _ _ _ _ rfl tk tks
    | true =>
      have hb' : (!((l.getD p default).hs.getD a default)) = false := by rw [hb]; rfl
      repeat (first | refine go (k := ?_) | (refine goB (k := ?_); intro b) | (refine goA (k := ?_); intro ao cap))
      rw [ha]
      repeat (first | refine go (k := ?_) | (refine goB (k := ?_); intro b) | (refine goA (k := ?_); intro ao cap))
      rw [← ha]
      (apply Cod.weak (hN (fun h => by rw [hb] at h; cases h.2) ab ib no nc ao cap); (focus (dsimp only [E7, F7, List.cons_append, List.nil_append]; exact sb)); (focus (dsimp only [M7, N7, List.cons_append, List.nil_append]; exact tks)))
  · repeat (first | refine go (k := ?_) | (refine goB (k := ?_); intro b) | (refine goA (k := ?_); intro ao cap))
    (apply Cod.weak (hN (fun h => o3 h.1) ab ib no nc ao cap); (focus (dsimp only [E7, F7, List.cons_append, List.nil_append]; exact sb)); (focus (dsimp only [M7, N7, List.cons_append, List.nil_append]; exact tks)))
end
end Go.Proofs.Ytfeajpghabjaaaa.Vw

/- yieldref7.Code, a round: what fits. -/
namespace Go.Proofs.Ytfeajpghabjaaaa.Vw
open Go.RowKit Go.Proofs.Ytfeajpghabjaaaa.Img
set_option linter.unusedVariables false
set_option linter.unusedSimpArgs false
attribute [local irreducible] Run Cod End OpT Still RunQ RunS RunT Fn PutOk
section
variable (m : ML) (q : Nat) (mb kb wb ub zb : Nat) (l : List Sn) (p : Nat) (w : World) (S : Nat → Prop) (Q : Exit → Act → World → Prop)
set_option maxRecDepth 100000 in
set_option maxHeartbeats 1000000 in
theorem code7_b (to_ : Option Addr) (tc : Nat) (rest : List Int) (i : ImgM.Ins) (h : List Bool) (st : List UInt8) (ab ib : Nat) (no : Option Addr) (nc : Nat)
    (h8 : (i.op = 24 ∧ (m.us.getD q default).u.kind ≠ 2) ∨ (i.op = 25 ∧ (m.us.getD q default).u.kind = 2) ∨ (i.op = 31 ∧ (m.us.getD q default).u.kind ≠ 3) → Rets Q w S wb q p 8)
    (hN : ¬ ((i.op = 24 ∧ (m.us.getD q default).u.kind ≠ 2) ∨ (i.op = 25 ∧ (m.us.getD q default).u.kind = 2) ∨ (i.op = 31 ∧ (m.us.getD q default).u.kind ≠ 3)) → Cod Try.prog Q 308 rnB (E7 mb kb wb ub zb l.length to_ tc rest.length ++ F7 kb ab ib no nc h.length st) (M7 m q mb kb wb ub zb l to_ tc rest w S ++ N7 ab ib p i no nc h)) :
    Cod Try.prog Q 308 rnA (E7 mb kb wb ub zb l.length to_ tc rest.length ++ F7 kb ab ib no nc h.length st) (M7 m q mb kb wb ub zb l to_ tc rest w S ++ N7 ab ib p i no nc h) := by
  show Cod _ _ _ (Code.seq (sl rnA) rnB) _ _
  generalize rnB = y at hN ⊢
  dsimp only [M7, E7, N7, F7, List.cons_append, List.nil_append]
  by_cases o24 : i.op = 24
  · by_cases k2 : (m.us.getD q default).u.kind = 2
    · repeat (first | refine go (k := ?_) | (refine goB (k := ?_); intro b) | (refine goA (k := ?_); intro ao cap))
      (apply Cod.weak (hN (by omega)); (focus (dsimp only [E7, F7, List.cons_append, List.nil_append]; exact sb)); (focus (dsimp only [M7, N7, List.cons_append, List.nil_append]; exact tks)))
    · repeat (first | refine go (k := ?_) | (refine goB (k := ?_); intro b) | (refine goA (k := ?_); intro ao cap))
      (first | (apply Run.op; exact rfl) | refine Run.yes_ (h := ?_)); refine OpT.call_ (spec := bad7_is kb ab q p 8) (k := ?_); intro s hs; (try conv => rhs; simp only [List.cons_append, List.nil_append])
      repeat (first | refine go (k := ?_) | (refine goB (k := ?_); intro b) | (refine goA (k := ?_); intro ao cap))
      exact h8 (.inl ⟨o24, k2⟩) _ _ _ _ rfl tk tks
  by_cases o25 : i.op = 25
  · by_cases k2 : (m.us.getD q default).u.kind = 2
    · repeat (first | refine go (k := ?_) | (refine goB (k := ?_); intro b) | (refine goA (k := ?_); intro ao cap))
      (first | (apply Run.op; exact rfl) | refine Run.yes_ (h := ?_)); refine OpT.call_ (spec := bad7_is kb ab q p 8) (k := ?_); intro s hs; (try conv => rhs; simp only [List.cons_append, List.nil_append])
      repeat (first | refine go (k := ?_) | (refine goB (k := ?_); intro b) | (refine goA (k := ?_); intro ao cap))
      exact h8 (.inr (.inl ⟨o25, k2⟩)) _ _ _ _ rfl tk tks
    · repeat (first | refine go (k := ?_) | (refine goB (k := ?_); intro b) | (refine goA (k := ?_); intro ao cap))
      (apply Cod.weak (hN (by omega)); (focus (dsimp only [E7, F7, List.cons_append, List.nil_append]; exact sb)); (focus (dsimp only [M7, N7, List.cons_append, List.nil_append]; exact tks)))
  by_cases o31 : i.op = 31
  · by_cases k3 : (m.us.getD q default).u.kind = 3
    · repeat (first | refine go (k := ?_) | (refine goB (k := ?_); intro b) | (refine goA (k := ?_); intro ao cap))
      (apply Cod.weak (hN (by omega)); (focus (dsimp only [E7, F7, List.cons_append, List.nil_append]; exact sb)); (focus (dsimp only [M7, N7, List.cons_append, List.nil_append]; exact tks)))
    · repeat (first | refine go (k := ?_) | (refine goB (k := ?_); intro b) | (refine goA (k := ?_); intro ao cap))
      (first | (apply Run.op; exact rfl) | refine Run.yes_ (h := ?_)); refine OpT.call_ (spec := bad7_is kb ab q p 8) (k := ?_); intro s hs; (try conv => rhs; simp only [List.cons_append, List.nil_append])
      repeat (first | refine go (k := ?_) | (refine goB (k := ?_); intro b) | (refine goA (k := ?_); intro ao cap))
      exact h8 (.inr (.inr ⟨o31, k3⟩)) _ _ _ _ rfl tk tks
  repeat (first | refine go (k := ?_) | (refine goB (k := ?_); intro b) | (refine goA (k := ?_); intro ao cap))
  (apply Cod.weak (hN (by omega)); (focus (dsimp only [E7, F7, List.cons_append, List.nil_append]; exact sb)); (focus (dsimp only [M7, N7, List.cons_append, List.nil_append]; exact tks)))
end
end Go.Proofs.Ytfeajpghabjaaaa.Vw
