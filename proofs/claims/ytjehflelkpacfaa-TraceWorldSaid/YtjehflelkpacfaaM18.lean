/- A task that waits, walked. -/
import Derived.Test.YtjehflelkpacfaaM17
namespace Go.Proofs.Ytjehflelkpacfaa.Vw
open Go.RowKit Go.Proofs.Ytjehflelkpacfaa.Img
set_option linter.unusedVariables false
set_option linter.unusedSimpArgs false
attribute [local irreducible] Run Cod End OpT Still RunQ RunS RunT Fn PutOk
variable (E : EnvM)
def wst (i : ImgM.Ins) (v : E.ν) : Int := if i.op = 26 ∧ E.V.full v i.a.toNat = true then 2 else if i.op = 27 ∧ E.V.empty v i.a.toNat = true then 3 else 1
def wbx (i : ImgM.Ins) (v : E.ν) : Int := if i.op = 26 ∧ E.V.full v i.a.toNat = true then i.a else if i.op = 27 ∧ E.V.empty v i.a.toNat = true then i.a else 0
set_option maxRecDepth 100000 in
theorem waits_is (F : TF) (st tr : Int) (e : E.μ) (he : E.ok e) (i : ImgM.Ins) (hb : i.op = 26 ∨ i.op = 27 → 0 ≤ i.a ∧ i.a.toNat < E.boxes) : Fn Try.prog 40 #[ptr F.tb, insV i] [E.rc] [E.tc F st tr, E.mem e] (σ := Unit) (fun _ => True) (fun _ => .bool (!decide (wst E i (E.abs e) = 1))) (fun _ => [E.tc ⟨F.tb, F.mb, F.cos, F.cb, wbx E i (E.abs e), F.out⟩ (wst E i (E.abs e)) tr, E.mem e]) := by
  refine Fn.enter (args := [ptr F.tb, insV i]) Try.func40 rfl _ Try.ntmps40 rfl (by simp [rd_excl, md_excl]) (fun w S => ?_)
  (try conv => rhs; simp only [List.cons_append, List.nil_append])
  by_cases h26 : i.op = 26
  · obtain ⟨ha, hlt⟩ := hb (.inl h26)
    have hf := E.full e i.a.toNat he hlt
    rw [Int.toNat_of_nonneg ha] at hf
    repeat (first | refine go (k := ?_) | (refine goB (k := ?_); intro b) | (refine goA (k := ?_); intro ao cap))
    ((first | (apply Run.op; exact rfl) | refine Run.yes_ (h := ?_)); refine OpT.callM_ (E.mFull) (E.bFull) (hf) (r := fun w => Reads.any (by (repeat (first | exact Take.head | apply Take.tail))) E.rexcl .nil) (k := ?_); intro s hs; (try conv => rhs; simp only [List.cons_append, List.nil_append]))
    cases hv : E.V.full (E.abs e) i.a.toNat with
    | true =>
      have e1 : wst E i (E.abs e) = 2 := by unfold wst; rw [if_pos ⟨h26, hv⟩]
      have e2 : wbx E i (E.abs e) = i.a := by unfold wbx; rw [if_pos ⟨h26, hv⟩]
      rw [e1, e2]
      repeat (first | refine go (k := ?_) | (refine goB (k := ?_); intro b) | (refine goA (k := ?_); intro ao cap))
      apply Cod.draw 9 ([blk b (insC i) 64]) (by kernel_rfl) 10 rfl
      refine RunT.takeR_ 0 (h := ?_)
      refine RunT.takeR_ 1 (h := ?_)
      refine RunT.takeR_ 2 (h := ?_)
      refine RunT.takeR_ 3 (h := ?_)
      refine RunT.takeR_ 4 (h := ?_)
      refine RunT.takeR_ 5 (h := ?_)
      (refine RunT.one_ 6 (h := ?_); (first | refine OpT.val_ (k := ?_) | (refine OpT.alloc_ (k := ?_); intro b) | (refine OpT.box_ (k := ?_); intro b) | refine OpT.store_ (k := ?_) | (refine OpT.buildSlice_ (k := ?_); intro b) | (refine OpT.buildSlice0_ (k := ?_); intro b) | (refine OpT.append1_ (k := ?_); intro ao cap) | (refine OpT.cutA0_ (k := ?_); intro ao cap) | (refine OpT.cutR0_ (k := ?_); intro ao cap) | (refine OpT.cutA1_ (k := ?_); intro ao cap) | (refine OpT.cutA_ (k := ?_); intro ao cap) | (refine OpT.cutR_ (k := ?_); intro ao cap)); refine And.intro gud ?_)
      refine RunT.takeR_ 7 (h := ?_)
      refine RunT.takeR_ 8 (h := ?_)
      (refine RunT.one_ 9 (h := ?_); (first | refine OpT.val_ (k := ?_) | (refine OpT.alloc_ (k := ?_); intro b) | (refine OpT.box_ (k := ?_); intro b) | refine OpT.store_ (k := ?_) | (refine OpT.buildSlice_ (k := ?_); intro b) | (refine OpT.buildSlice0_ (k := ?_); intro b) | (refine OpT.append1_ (k := ?_); intro ao cap) | (refine OpT.cutA0_ (k := ?_); intro ao cap) | (refine OpT.cutR0_ (k := ?_); intro ao cap) | (refine OpT.cutA1_ (k := ?_); intro ao cap) | (refine OpT.cutA_ (k := ?_); intro ao cap) | (refine OpT.cutR_ (k := ?_); intro ao cap)); refine And.intro gud ?_)
      (apply RunT.done; kernel_rfl)
      repeat (first | refine go (k := ?_) | (refine goB (k := ?_); intro b) | (refine goA (k := ?_); intro ao cap))
      (refine End.done1_ (()) (he := by (first | exact rfl | (refine congrArg (Value.int _) ?_; omega) | (refine congrArg (Value.int _) ?_; dsimp only; omega))) (hp := ?_))
      trivial
    | false =>
      have e1 : wst E i (E.abs e) = 1 := by unfold wst; rw [if_neg (by rw [hv]; simp), if_neg (by omega)]
      have e2 : wbx E i (E.abs e) = 0 := by unfold wbx; rw [if_neg (by rw [hv]; simp), if_neg (by omega)]
      rw [e1, e2]
      repeat (first | refine go (k := ?_) | (refine goB (k := ?_); intro b) | (refine goA (k := ?_); intro ao cap))
      (refine End.done1_ (()) (he := by (first | exact rfl | (refine congrArg (Value.int _) ?_; omega) | (refine congrArg (Value.int _) ?_; dsimp only; omega))) (hp := ?_))
      trivial
  · by_cases h27 : i.op = 27
    · obtain ⟨ha, hlt⟩ := hb (.inr h27)
      have hf := E.empty e i.a.toNat he hlt
      rw [Int.toNat_of_nonneg ha] at hf
      repeat (first | refine go (k := ?_) | (refine goB (k := ?_); intro b) | (refine goA (k := ?_); intro ao cap))
      ((first | (apply Run.op; exact rfl) | refine Run.yes_ (h := ?_)); refine OpT.callM_ (E.mEmpty) (E.bEmpty) (hf) (r := fun w => Reads.any (by (repeat (first | exact Take.head | apply Take.tail))) E.rexcl .nil) (k := ?_); intro s hs; (try conv => rhs; simp only [List.cons_append, List.nil_append]))
      cases hv : E.V.empty (E.abs e) i.a.toNat with
      | true =>
        have e1 : wst E i (E.abs e) = 3 := by unfold wst; rw [if_neg (by omega), if_pos ⟨h27, hv⟩]
        have e2 : wbx E i (E.abs e) = i.a := by unfold wbx; rw [if_neg (by omega), if_pos ⟨h27, hv⟩]
        rw [e1, e2]
        repeat (first | refine go (k := ?_) | (refine goB (k := ?_); intro b) | (refine goA (k := ?_); intro ao cap))
        apply Cod.draw 9 ([blk b (insC i) 64]) (by kernel_rfl) 10 rfl
        refine RunT.takeR_ 0 (h := ?_)
        refine RunT.takeR_ 1 (h := ?_)
        refine RunT.takeR_ 2 (h := ?_)
        refine RunT.takeR_ 3 (h := ?_)
        refine RunT.takeR_ 4 (h := ?_)
        refine RunT.takeR_ 5 (h := ?_)
        (refine RunT.one_ 6 (h := ?_); (first | refine OpT.val_ (k := ?_) | (refine OpT.alloc_ (k := ?_); intro b) | (refine OpT.box_ (k := ?_); intro b) | refine OpT.store_ (k := ?_) | (refine OpT.buildSlice_ (k := ?_); intro b) | (refine OpT.buildSlice0_ (k := ?_); intro b) | (refine OpT.append1_ (k := ?_); intro ao cap) | (refine OpT.cutA0_ (k := ?_); intro ao cap) | (refine OpT.cutR0_ (k := ?_); intro ao cap) | (refine OpT.cutA1_ (k := ?_); intro ao cap) | (refine OpT.cutA_ (k := ?_); intro ao cap) | (refine OpT.cutR_ (k := ?_); intro ao cap)); refine And.intro gud ?_)
        refine RunT.takeR_ 7 (h := ?_)
        refine RunT.takeR_ 8 (h := ?_)
        (refine RunT.one_ 9 (h := ?_); (first | refine OpT.val_ (k := ?_) | (refine OpT.alloc_ (k := ?_); intro b) | (refine OpT.box_ (k := ?_); intro b) | refine OpT.store_ (k := ?_) | (refine OpT.buildSlice_ (k := ?_); intro b) | (refine OpT.buildSlice0_ (k := ?_); intro b) | (refine OpT.append1_ (k := ?_); intro ao cap) | (refine OpT.cutA0_ (k := ?_); intro ao cap) | (refine OpT.cutR0_ (k := ?_); intro ao cap) | (refine OpT.cutA1_ (k := ?_); intro ao cap) | (refine OpT.cutA_ (k := ?_); intro ao cap) | (refine OpT.cutR_ (k := ?_); intro ao cap)); refine And.intro gud ?_)
        (apply RunT.done; kernel_rfl)
        repeat (first | refine go (k := ?_) | (refine goB (k := ?_); intro b) | (refine goA (k := ?_); intro ao cap))
        (refine End.done1_ (()) (he := by (first | exact rfl | (refine congrArg (Value.int _) ?_; omega) | (refine congrArg (Value.int _) ?_; dsimp only; omega))) (hp := ?_))
        trivial
      | false =>
        have e1 : wst E i (E.abs e) = 1 := by unfold wst; rw [if_neg (by omega), if_neg (by rw [hv]; simp)]
        have e2 : wbx E i (E.abs e) = 0 := by unfold wbx; rw [if_neg (by omega), if_neg (by rw [hv]; simp)]
        rw [e1, e2]
        repeat (first | refine go (k := ?_) | (refine goB (k := ?_); intro b) | (refine goA (k := ?_); intro ao cap))
        (refine End.done1_ (()) (he := by (first | exact rfl | (refine congrArg (Value.int _) ?_; omega) | (refine congrArg (Value.int _) ?_; dsimp only; omega))) (hp := ?_))
        trivial
    · have e1 : wst E i (E.abs e) = 1 := by unfold wst; rw [if_neg (by omega), if_neg (by omega)]
      have e2 : wbx E i (E.abs e) = 0 := by unfold wbx; rw [if_neg (by omega), if_neg (by omega)]
      rw [e1, e2]
      repeat (first | refine go (k := ?_) | (refine goB (k := ?_); intro b) | (refine goA (k := ?_); intro ao cap))
      (refine End.done1_ (()) (he := by (first | exact rfl | (refine congrArg (Value.int _) ?_; omega) | (refine congrArg (Value.int _) ?_; dsimp only; omega))) (hp := ?_))
      trivial
end Go.Proofs.Ytjehflelkpacfaa.Vw

/- A task looked at, walked. -/
namespace Go.Proofs.Ytjehflelkpacfaa.Vw
open Go.RowKit Go.Proofs.Ytjehflelkpacfaa.Img
set_option linter.unusedVariables false
set_option linter.unusedSimpArgs false
attribute [local irreducible] Run Cod End OpT Still RunQ RunS RunT Fn PutOk
variable {E : EnvM}
abbrev SL.f (s : SL E) : Vm.Fr := s.cur.fr.getD (s.cur.fr.length - 1) default
abbrev insL (m : ML) (s : SL E) : ImgM.Ins := (m.us.getD s.f.unit default).u.code.getD s.f.pc default
/-- what must be known where a task stands, to find its instruction -/
structure Stands (m : ML) (s : SL E) : Prop where
  fr : s.cur.fr ≠ []
  few : s.cur.fr.length ≤ 40
  unit : s.f.unit < m.us.length
  pc : s.f.pc < (m.us.getD s.f.unit default).u.code.length
  box : (insL m s).op = 26 ∨ (insL m s).op = 27 → 0 ≤ (insL m s).a ∧ (insL m s).a.toNat < E.boxes
set_option maxRecDepth 100000 in
theorem look_is' (p : Pl) (s : SL E) (he : E.ok s.e) (st bx : Int) (h4 : 3 < s.st → st = s.st ∧ bx = s.bx) (h3 : s.st ≤ 3 → Stands p.m s ∧ st = wst E (insL p.m s) (E.abs s.e) ∧ bx = wbx E (insL p.m s) (E.abs s.e)) :
    Fn Try.prog 33 #[ptr p.tb] [md p.m, E.rc] [tkM p s, moM p, ccM s.cur, frM s.cur, E.mem s.e] (σ := Unit) (fun _ => True) (fun _ => .tuple #[]) (fun _ => [tkM p { s with st := st, bx := bx }, moM p, ccM s.cur, frM s.cur, E.mem s.e]) := by
  refine Fn.enter (args := [ptr p.tb]) Try.func33 rfl _ Try.ntmps33 rfl (by simp [rd_excl, md_excl]) (fun w S => ?_)
  (try conv => rhs; simp only [List.cons_append, List.nil_append])
  by_cases hst : s.st ≤ 3
  · obtain ⟨hs0, e1, e2⟩ := h3 hst
    obtain ⟨g1, g2, g3, g4, g5⟩ := hs0
    have hl : 0 < s.cur.fr.length := List.length_pos_iff.2 g1
    have w1 : IntKind.i64.wrap ((s.cur.fr.length : Int) - 1) = ((s.cur.fr.length - 1 : Nat) : Int) := by rw [wrap_i64_in (by omega)]; omega
    repeat (first | refine go (k := ?_) | (refine goB (k := ?_); intro b) | (refine goA (k := ?_); intro ao cap))
    ((first | (apply Run.op; exact rfl) | refine Run.yes_ (h := ?_)); refine OpT.call0_ (spec := waits_is E ⟨p.tb, p.mb, .slice s.co s.bs.length s.ccap, s.cur.cb, s.bx, .slice s.oo s.out.length s.oc⟩ s.st s.tr s.e he (insL p.m s) g5) (r := fun w => Reads.any (by (repeat (first | exact Take.head | apply Take.tail))) E.rexcl .nil) (k := ?_); intro s hs; (try conv => rhs; simp only [List.cons_append, List.nil_append]))
    rw [e1, e2]
    repeat (first | refine go (k := ?_) | (refine goB (k := ?_); intro b) | (refine goA (k := ?_); intro ao cap))
    (refine End.done0'_ (()) (hp := ?_))
    trivial
  · obtain ⟨e1, e2⟩ := h4 (by omega)
    rw [e1, e2]
    repeat (first | refine go (k := ?_) | (refine goB (k := ?_); intro b) | (refine goA (k := ?_); intro ao cap))
    (refine End.done0'_ (()) (hp := ?_))
    trivial
end Go.Proofs.Ytjehflelkpacfaa.Vw

/- A thread begun, walked. -/
namespace Go.Proofs.Ytjehflelkpacfaa.Vw
open Go.RowKit Go.Proofs.Ytjehflelkpacfaa.Img
set_option linter.unusedVariables false
set_option linter.unusedSimpArgs false
attribute [local irreducible] Run Cod End OpT Still RunQ RunS RunT Fn PutOk
/-- a thread that has begun -/
structure Begun (u : Nat) (ws : List Int) (c : CoL) : Prop where
  st : c.st = 0
  up : c.up = none
  upb : c.upb = none
  fr : c.fr = [⟨u, 0, 0⟩]
  ok : c.sk.Ok
  ws : c.sk.ws = ws
set_option maxRecDepth 100000 in
theorem begin_is (tb mb : Nat) (m : ML) (rest : List Value) (u : Nat) (hu : u < m.us.length) (ao : Option Addr) (cap : Nat) (a : List Int) (hl : (m.us.getD u default).u.locals.length ≤ 200) (ha : a.length ≤ 400) :
    Fn Try.prog 39 #[ptr tb, .int .i64 (u : Int), .slice ao a.length cap] [md m, rd ao a.length cap i64c a] [blk tb (ptr mb :: rest) 88, blk mb (mdV m) 25] (σ := CoL)
      (Begun u ((List.range (m.us.getD u default).u.locals.length).map fun i => a.getD i 0)) (fun c => ptr c.cb) (fun c => [ccM c, frM c, blk c.sk.sb (skC c.sk) 141, arr (some ⟨c.sk.lb, 0, none⟩) c.sk.l.length c.sk.l.length 2 i64c c.sk.l, blk tb (ptr mb :: rest) 88, blk mb (mdV m) 25]) := by
  refine Fn.enter (args := [ptr tb, .int .i64 (u : Int), .slice ao a.length cap]) Try.func39 rfl _ Try.ntmps39 rfl (by simp [rd_excl, md_excl]) (fun w S => ?_)
  (try conv => rhs; simp only [List.cons_append, List.nil_append])
  repeat (first | refine go (k := ?_) | (refine goB (k := ?_); intro b) | (refine goA (k := ?_); intro ao cap))
  (apply Run.op; exact rfl; refine OpT.call0_ (spec := new_stk) (k := ?_); intro s hs; (try conv => rhs; simp only [List.cons_append, List.nil_append]))
  obtain ⟨hk0, hw0, hl0⟩ := hs
  repeat (first | refine go (k := ?_) | (refine goB (k := ?_); intro b) | (refine goA (k := ?_); intro ao cap))
  obtain ⟨cb, rfl⟩ : ∃ x, x = b := ⟨_, rfl⟩
  obtain ⟨fb, rfl⟩ : ∃ x, x = b := ⟨_, rfl⟩
  obtain ⟨k0, rfl⟩ : ∃ x, x = s := ⟨_, rfl⟩
  obtain ⟨n, hn⟩ : ∃ n, n = (m.us.getD u default).u.locals.length := ⟨_, rfl⟩
  rw [← hn] at hl ⊢
  apply Cod.loop (σ := Nat × Sk) (fun s => s.1 ≤ n ∧ s.2.Ok ∧ s.2.sb = k0.sb ∧ s.2.ws = (List.range s.1).map fun i => a.getD i 0) (fun s => [(0, ptr tb), (1, .int .i64 (u : Int)), (2, .slice ao a.length cap), (7, ptr cb), (27, .int .i64 (n : Int)), (28, .int .i64 (s.1 : Int))]) (fun s => old w S :: rd ao a.length cap i64c a :: blk tb (ptr mb :: rest) 88 :: blk mb (mdV m) 25 :: blk cb (ccl 0 (.pointer none) (.slice (some ⟨fb, 0, none⟩) 1 1) k0.sb) 109 :: blk fb (frC ⟨u, 0, 0⟩) 112 :: skM s.2) (fun s => n - s.1) (0, k0)
  rotate_left
  exact sb
  exact tks
  intro s hs K hK
  (try conv => rhs; simp only [List.cons_append, List.nil_append])
  rotate_left
  · exact ⟨Nat.zero_le _, hk0, rfl, by simp [hw0]⟩
  obtain ⟨i, k⟩ := s
  obtain ⟨hi, hk, hsb, hws⟩ := hs
  simp only at hi hk hsb hws hK ⊢
  have hlen : k.live = i := by
    have h := Sk.len hk
    rw [hws] at h
    simpa using h.symm
  have hst : ∀ (v : Int) (k' : Sk), v = a.getD i 0 → (if k.live = 400 then k' = k else SkTo k k' (k.ws ++ [v])) → i < n → (i + 1 ≤ n ∧ k'.Ok ∧ k'.sb = k0.sb ∧ k'.ws = (List.range (i + 1)).map fun i => a.getD i 0) := fun v k' hv h hi' => by
    rw [if_neg (by omega)] at h
    refine ⟨hi', h.ok, h.sb.trans hsb, ?_⟩
    rw [h.ws, hws, List.range_succ, List.map_append, hv]
    rfl
  rw [← hsb]
  by_cases hin : i < n
  · by_cases hia : i < a.length
    · repeat (first | refine go (k := ?_) | (refine goB (k := ?_); intro b) | (refine goA (k := ?_); intro ao cap))
      (apply Run.op; exact rfl; refine OpT.call0_ (spec := push_stk k hk (a.getD i default)) (k := ?_); intro s hs; (try conv => rhs; simp only [List.cons_append, List.nil_append]))
      have hh := hst _ _ rfl hs hin
      have hsb2 : k.sb = s.sb := by rw [hsb, hh.2.2.1]
      repeat (first | refine go (k := ?_) | (refine goB (k := ?_); intro b) | (refine goA (k := ?_); intro ao cap))
      rw [hsb]
      refine End.round_ hK (i + 1, s) ?_ ?_
      · exact hh
      · simp only; omega
    · repeat (first | refine go (k := ?_) | (refine goB (k := ?_); intro b) | (refine goA (k := ?_); intro ao cap))
      (apply Run.op; exact rfl; refine OpT.call0_ (spec := push_stk k hk 0) (k := ?_); intro s hs; (try conv => rhs; simp only [List.cons_append, List.nil_append]))
      have hh := hst _ _ (by rw [List.getD_eq_getElem?_getD, List.getElem?_eq_none (by omega)]; rfl) hs hin
      repeat (first | refine go (k := ?_) | (refine goB (k := ?_); intro b) | (refine goA (k := ?_); intro ao cap))
      rw [hsb]
      refine End.round_ hK (i + 1, s) ?_ ?_
      · exact hh
      · simp only; omega
  · obtain rfl : i = n := by omega
    repeat (first | refine go (k := ?_) | (refine goB (k := ?_); intro b) | (refine goA (k := ?_); intro ao cap))
    apply End.imp (fun w hm => Mem.toArr (b := fb) (e := 112) (f := frC) (n := 1) hm (by (repeat (first | exact Take.head | apply Take.tail))) [⟨u, 0, 0⟩] rfl rfl (by unfold maxLen; simp))
    refine End.done1_ (⟨cb, 0, none, none, some ⟨fb, 0, none⟩, 1, [⟨u, 0, 0⟩], k⟩ : CoL) (he := by rfl) (hp := ⟨rfl, rfl, rfl, rfl, hk, hws⟩)
end Go.Proofs.Ytjehflelkpacfaa.Vw

/- A pass of package opt as a list of pieces. Plain Lean. -/
namespace Go.Proofs.Ytjehflelkpacfaa.Opt
set_option linter.unusedVariables false
set_option linter.unusedSimpArgs false
open ImgM Ver

def nx (l : List Ins) (p : Nat) : Nat := p + (if (shorter l p).2 = 0 then 1 else (shorter l p).2)
def em (l : List Ins) (p : Nat) : List Ins := if (shorter l p).2 = 0 then [at_ l p] else (shorter l p).1
/-- the places from one on, at which a pass stands -/
def pcs (l : List Ins) : Nat → Nat → List Nat
  | 0, _ => []
  | n + 1, p => if p < l.length then p :: pcs l n (nx l p) else []
theorem free_lt {l : List Ins} {p n : Nat} (h : free l p n = true) : p + n < l.length := by
  unfold free at h
  rw [Bool.and_eq_true, decide_eq_true_eq] at h
  exact h.1
theorem free_not {l : List Ins} {p n k : Nat} (h : free l p n = true) (h0 : 0 < k) (hk : k < n) : tgt l ((p + k : Nat) : Int) = false := by
  unfold free at h
  rw [Bool.and_eq_true, List.all_eq_true] at h
  have := h.2 k (List.mem_range.2 hk)
  rw [Bool.or_eq_true, decide_eq_true_eq, Bool.not_eq_true'] at this
  rcases this with h | h
  · omega
  · exact h
theorem shorter_cases {l : List Ins} {p : Nat} (h : (shorter l p).2 ≠ 0) :
    (∃ r, shorter l p = (r, 3) ∧ free l p 3 = true ∧ three (at_ l p) (at_ l (p + 1)) (at_ l (p + 2)) = some r) ∨
    (∃ r, shorter l p = (r, 2) ∧ free l p 2 = true ∧ pair (at_ l p) (at_ l (p + 1)) = some r) ∨
    (shorter l p = ([], 1) ∧ free l p 1 = true ∧ (at_ l p).op = 21 ∧ (at_ l p).a = (p : Int) + 1) := by
  unfold shorter at h ⊢
  split
  · rename_i r hr
    left
    by_cases hf : free l p 3 = true
    · rw [if_pos hf] at hr
      exact ⟨r, rfl, hf, hr⟩
    · rw [if_neg hf] at hr; cases hr
  · rename_i h3
    right
    rw [h3] at h
    simp only at h
    split
    · rename_i r hr
      left
      by_cases hf : free l p 2 = true
      · rw [if_pos hf] at hr
        exact ⟨r, rfl, hf, hr⟩
      · rw [if_neg hf] at hr; cases hr
    · rename_i h2
      right
      rw [h2] at h
      simp only at h
      by_cases hf : free l p 1 = true ∧ (at_ l p).op = 21 ∧ (at_ l p).a = (p : Int) + 1
      · rw [if_pos hf]; exact ⟨rfl, hf⟩
      · rw [if_neg hf] at h; exact absurd rfl h
theorem known_len (v : Int) (t : Bool) : (known v t).length = 1 := by unfold known; split <;> rfl
theorem three_len {a b c : Ins} {r : List Ins} (h : three a b c = some r) : r.length = 1 := by
  unfold three at h
  split at h
  · cases h
  · split at h
    · cases h
    · cases h; exact known_len _ _
theorem pair_len {a b : Ins} {r : List Ins} (h : pair a b = some r) : r.length ≤ 1 := by
  unfold pair at h
  repeat' split at h
  all_goals cases h
  all_goals first | exact Nat.le_of_eq (known_len _ _) | simp
/-- a piece is shorter than what it stands for, and is not the last one -/
theorem shorter_len {l : List Ins} {p : Nat} (h : (shorter l p).2 ≠ 0) : (shorter l p).1.length ≤ 1 ∧ (shorter l p).1.length < (shorter l p).2 ∧ p + (shorter l p).2 < l.length := by
  rcases shorter_cases h with ⟨r, h1, h2, h3⟩ | ⟨r, h1, h2, h3⟩ | ⟨h1, h2, h3⟩
  · have := three_len h3; have := free_lt h2
    rw [h1]; exact ⟨by simp only; omega, by simp only; omega, by simp only; omega⟩
  · have := pair_len h3; have := free_lt h2
    rw [h1]; exact ⟨by simp only; omega, by simp only; omega, by simp only; omega⟩
  · have := free_lt h2
    rw [h1]; exact ⟨by simp, by simp, by simp only; omega⟩
theorem shorter_not {l : List Ins} {p k : Nat} (h : (shorter l p).2 ≠ 0) (h0 : 0 < k) (hk : k < (shorter l p).2) : tgt l ((p + k : Nat) : Int) = false := by
  rcases shorter_cases h with ⟨r, h1, h2, h3⟩ | ⟨r, h1, h2, h3⟩ | ⟨h1, h2, h3⟩ <;> (rw [h1] at hk; exact free_not h2 h0 hk)
theorem em_len (l : List Ins) (p : Nat) : (em l p).length ≤ 1 := by
  unfold em
  split
  · simp
  · rename_i h; exact (shorter_len h).1
theorem nx_gt (l : List Ins) (p : Nat) : p < nx l p := by unfold nx; split <;> omega
theorem nx_le {l : List Ins} {p : Nat} (h : p < l.length) : nx l p ≤ l.length := by
  unfold nx
  split
  · omega
  · rename_i h'; have := (shorter_len h').2.2; omega
theorem em_last {l : List Ins} {p : Nat} (h : nx l p = l.length) : em l p = [at_ l p] := by
  unfold em
  split
  · rfl
  · rename_i h'
    unfold nx at h
    rw [if_neg h'] at h
    have := (shorter_len h').2.2
    omega

theorem setAll_len (wh : List Int) (p : Nat) (v : Int) : ∀ n, (setAll wh p v n).length = wh.length
  | 0 => rfl
  | n + 1 => by unfold setAll; rw [List.length_set, setAll_len wh p v n]
theorem getD_setI {l : List Int} {k j : Nat} {v : Int} (hk : k < l.length) : (l.set k v).getD j 0 = if k = j then v else l.getD j 0 := by
  simp only [List.getD_eq_getElem?_getD, List.getElem?_set]
  by_cases h : k = j
  · subst h; simp [hk]
  · simp [h]
theorem getD_setI' {l : List Int} {k j : Nat} {v : Int} (hk : k ≠ j) : (l.set k v).getD j 0 = l.getD j 0 := by
  simp only [List.getD_eq_getElem?_getD, List.getElem?_set]
  rw [if_neg hk]
theorem setAll_getD {wh : List Int} {p : Nat} {v : Int} {q : Nat} (hq : q ≤ p) : ∀ n, (setAll wh p v n).getD q 0 = wh.getD q 0
  | 0 => rfl
  | n + 1 => by unfold setAll; rw [getD_setI' (by omega), setAll_getD hq n]
theorem pstep_p (l : List Ins) (s : PS) : (pstep l s).p = nx l s.p := by unfold pstep nx; split <;> rfl
theorem pstep_out (l : List Ins) (s : PS) : (pstep l s).out = s.out ++ em l s.p := by unfold pstep em; split <;> rfl
theorem pstep_did (l : List Ins) (s : PS) : (pstep l s).did = (s.did || decide ((shorter l s.p).2 ≠ 0)) := by
  unfold pstep
  split
  · rename_i h; simp [h]
  · rename_i h; simp [h]
theorem pstep_len (l : List Ins) (s : PS) : (pstep l s).wh.length = s.wh.length := by
  unfold pstep
  split
  · simp
  · simp [setAll_len]
theorem pstep_wh {l : List Ins} {s : PS} (hw : s.wh.length = l.length + 1) (hp : s.p < l.length) {q : Nat} (hq : q ≤ s.p) : (pstep l s).wh.getD q 0 = if s.p = q then (s.out.length : Int) else s.wh.getD q 0 := by
  unfold pstep
  split
  · exact getD_setI (by omega)
  · simp only
    rw [setAll_getD hq, getD_setI (by omega)]
theorem pcs_ge {l : List Ins} : ∀ (n p : Nat), ∀ q ∈ pcs l n p, p ≤ q ∧ q < l.length
  | 0, p, q, h => by cases h
  | n + 1, p, q, h => by
    unfold pcs at h
    split at h
    · rename_i hp
      rcases List.mem_cons.1 h with rfl | h
      · exact ⟨Nat.le_refl _, hp⟩
      · have := pcs_ge n _ q h
        have := nx_gt l p
        omega
    · cases h
/-- what a pass comes to -/
structure Ran (l : List Ins) (n : Nat) (s r : PS) : Prop where
  out : r.out = s.out ++ (pcs l n s.p).flatMap (em l)
  old : ∀ q, q < s.p → r.wh.getD q 0 = s.wh.getD q 0
  wh : ∀ A q C, pcs l n s.p = A ++ q :: C → r.wh.getD q 0 = ((s.out.length + (A.flatMap (em l)).length : Nat) : Int)
  did : r.did = (s.did || (pcs l n s.p).any fun q => decide ((shorter l q).2 ≠ 0))
  len : r.wh.length = l.length + 1
theorem prun_ran {l : List Ins} : ∀ (n : Nat) (s : PS), s.wh.length = l.length + 1 → Ran l n s (prun l n s)
  | 0, s, hw => ⟨by simp [prun, pcs], fun q _ => rfl, fun A q C h => by simp [pcs] at h, by simp [prun, pcs], hw⟩
  | n + 1, s, hw => by
    by_cases hp : s.p < l.length
    · have ih := prun_ran n (pstep l s) (by rw [pstep_len, hw])
      rw [show prun l (n + 1) s = prun l n (pstep l s) by conv => lhs; unfold prun
                                                          rw [if_pos hp]]
      have hpc : pcs l (n + 1) s.p = s.p :: pcs l n (nx l s.p) := by conv => lhs; unfold pcs
                                                                     rw [if_pos hp]
      have hgt := nx_gt l s.p
      refine ⟨?_, fun q hq => ?_, fun A q C h => ?_, ?_, ih.len⟩
      · rw [ih.out, pstep_out, pstep_p, hpc, List.flatMap_cons, List.append_assoc]
      · rw [ih.old q (by rw [pstep_p]; omega), pstep_wh hw hp (by omega), if_neg (by omega)]
      · rw [hpc] at h
        cases A with
        | nil =>
          simp only [List.nil_append, List.cons.injEq] at h
          obtain ⟨rfl, -⟩ := h
          rw [ih.old _ (by rw [pstep_p]; omega), pstep_wh hw hp (Nat.le_refl _), if_pos rfl]
          simp
        | cons a A =>
          simp only [List.cons_append, List.cons.injEq] at h
          obtain ⟨rfl, h⟩ := h
          rw [ih.wh A q C (by rw [pstep_p]; exact h), pstep_out, List.flatMap_cons, List.length_append, List.length_append]
          congr 1
          omega
      · rw [ih.did, pstep_did, pstep_p, hpc, List.any_cons, Bool.or_assoc]
    · rw [show prun l (n + 1) s = s by conv => lhs; unfold prun
                                       rw [if_neg hp]]
      have hpc : pcs l (n + 1) s.p = [] := by unfold pcs; rw [if_neg hp]
      exact ⟨by simp [hpc], fun q _ => rfl, fun A q C h => by simp [hpc] at h, by simp [hpc], hw⟩
/-- all places at which a pass stands -/
def bs (l : List Ins) : List Nat := pcs l l.length 0
theorem pass0_ran (l : List Ins) : Ran l l.length ⟨0, [], List.replicate (l.length + 1) 0, false⟩ (pass0 l) := prun_ran _ _ (by simp)
theorem pass0_out (l : List Ins) : (pass0 l).out = (bs l).flatMap (em l) := (pass0_ran l).out
theorem pass0_wh {l : List Ins} {A : List Nat} {q : Nat} {C : List Nat} (h : bs l = A ++ q :: C) : (pass0 l).wh.getD q 0 = ((A.flatMap (em l)).length : Int) := by
  have := (pass0_ran l).wh A q C h
  simpa using this
theorem pass0_did (l : List Ins) : (pass0 l).did = (bs l).any fun q => decide ((shorter l q).2 ≠ 0) := by
  have := (pass0_ran l).did
  rw [this]
  exact Bool.false_or _
/-- what follows a place -/
theorem pcs_next {l : List Ins} : ∀ (n p : Nat) (A : List Nat) (q : Nat) (C : List Nat), l.length ≤ n + p → pcs l n p = A ++ q :: C → q < l.length ∧ ((nx l q = l.length ∧ C = []) ∨ (nx l q < l.length ∧ ∃ C', C = nx l q :: C'))
  | 0, p, A, q, C, _, h => by simp [pcs] at h
  | n + 1, p, A, q, C, hn, h => by
    unfold pcs at h
    split at h
    · rename_i hp
      have hgt := nx_gt l p
      cases A with
      | nil =>
        simp only [List.nil_append, List.cons.injEq] at h
        obtain ⟨rfl, h⟩ := h
        refine ⟨hp, ?_⟩
        have hle := nx_le hp
        by_cases hl : nx l p < l.length
        · right
          refine ⟨hl, ?_⟩
          cases n with
          | zero => omega
          | succ n =>
            unfold pcs at h
            rw [if_pos hl] at h
            exact ⟨_, h.symm⟩
        · left
          refine ⟨by omega, ?_⟩
          rw [← h]
          cases n with
          | zero => rfl
          | succ n => unfold pcs; rw [if_neg hl]
      | cons a A =>
        simp only [List.cons_append, List.cons.injEq] at h
        exact pcs_next n (nx l p) A q C (by omega) h.2
    · simp at h
theorem bs_next {l : List Ins} {A : List Nat} {q : Nat} {C : List Nat} (h : bs l = A ++ q :: C) : q < l.length ∧ ((nx l q = l.length ∧ C = []) ∨ (nx l q < l.length ∧ ∃ C', C = nx l q :: C')) := pcs_next l.length 0 A q C (by omega) h
theorem bs_zero {l : List Ins} (h : 0 < l.length) : ∃ C, bs l = 0 :: C := by
  unfold bs
  obtain ⟨n, hn⟩ : ∃ n, l.length = n + 1 := ⟨l.length - 1, by omega⟩
  rw [hn]
  unfold pcs
  rw [if_pos (by omega)]
  exact ⟨_, rfl⟩
/-- each place lies in a piece -/
theorem bs_cover {l : List Ins} (h : 0 < l.length) : ∀ a, a < l.length → ∃ A q C, bs l = A ++ q :: C ∧ q ≤ a ∧ a < nx l q
  | 0, _ => by
    obtain ⟨C, hC⟩ := bs_zero h
    exact ⟨[], 0, C, hC, Nat.le_refl _, nx_gt l 0⟩
  | a + 1, ha => by
    obtain ⟨A, q, C, h1, h2, h3⟩ := bs_cover h a (by omega)
    by_cases hx : a + 1 < nx l q
    · exact ⟨A, q, C, h1, by omega, hx⟩
    · obtain ⟨-, hn⟩ := bs_next h1
      have he : nx l q = a + 1 := by omega
      rcases hn with ⟨hn, -⟩ | ⟨hn, C', rfl⟩
      · omega
      · rw [he] at h1
        exact ⟨A ++ [q], a + 1, C', by rw [h1]; simp, Nat.le_refl _, nx_gt _ _⟩
/-- where code jumps to, a piece begins -/
theorem bs_tgt {l : List Ins} {a : Nat} (ha : a < l.length) (ht : tgt l (a : Int) = true) : ∃ A C, bs l = A ++ a :: C := by
  obtain ⟨A, q, C, h1, h2, h3⟩ := bs_cover (by omega) a ha
  by_cases he : q = a
  · subst he; exact ⟨A, C, h1⟩
  · exfalso
    unfold nx at h3
    by_cases hs : (shorter l q).2 = 0
    · rw [if_pos hs] at h3; omega
    · rw [if_neg hs] at h3
      have := shorter_not hs (k := a - q) (by omega) (by omega)
      rw [show q + (a - q) = a by omega, ht] at this
      cases this
/-- where each new instruction comes from -/
def srcs (l : List Ins) (b : List Nat) : List Nat := b.flatMap fun q => if em l q = [] then [] else [q]
theorem srcs_len (l : List Ins) (b : List Nat) : (srcs l b).length = (b.flatMap (em l)).length := by
  unfold srcs
  induction b with
  | nil => rfl
  | cons q r ih =>
    rw [List.flatMap_cons, List.flatMap_cons, List.length_append, List.length_append, ih]
    have := em_len l q
    congr 1
    by_cases h : em l q = []
    · rw [if_pos h, h]; rfl
    · rw [if_neg h]
      have : (em l q).length ≠ 0 := fun h' => h (List.eq_nil_of_length_eq_zero h')
      simp; omega
theorem srcs_app (l : List Ins) (a b : List Nat) : srcs l (a ++ b) = srcs l a ++ srcs l b := by unfold srcs; rw [List.flatMap_append]
theorem src_at {l : List Ins} : ∀ (b : List Nat) (j q : Nat), (srcs l b)[j]? = some q → ∃ A C i, b = A ++ q :: C ∧ em l q = [i] ∧ j = (A.flatMap (em l)).length ∧ (b.flatMap (em l))[j]? = some i
  | [], j, q, h => by simp [srcs] at h
  | x :: r, j, q, h => by
    have e : srcs l (x :: r) = (if em l x = [] then [] else [x]) ++ srcs l r := by unfold srcs; rw [List.flatMap_cons]
    rw [e] at h
    by_cases hx : em l x = []
    · rw [if_pos hx, List.nil_append] at h
      obtain ⟨A, C, i, h1, h2, h3, h4⟩ := src_at r j q h
      exact ⟨x :: A, C, i, by rw [h1]; rfl, h2, by rw [List.flatMap_cons, hx]; simpa using h3, by rw [List.flatMap_cons, hx]; simpa using h4⟩
    · rw [if_neg hx] at h
      obtain ⟨i, hi⟩ : ∃ i, em l x = [i] := by
        have := em_len l x
        match hm : em l x with
        | [] => exact absurd hm hx
        | [i] => exact ⟨i, rfl⟩
        | _ :: _ :: _ => rw [hm] at this; simp at this
      cases j with
      | zero =>
        simp at h
        subst h
        exact ⟨[], r, i, rfl, hi, rfl, by rw [List.flatMap_cons, hi]; rfl⟩
      | succ j =>
        have h' : (srcs l r)[j]? = some q := by simpa using h
        obtain ⟨A, C, i', h1, h2, h3, h4⟩ := src_at r j q h'
        refine ⟨x :: A, C, i', by rw [h1]; rfl, h2, ?_, ?_⟩
        · rw [List.flatMap_cons, hi]; simp [h3]
        · rw [List.flatMap_cons, hi]; first | exact h4 | simpa using h4
/-- it is never longer, and shorter if something was done -/
theorem pcs_len {l : List Ins} : ∀ (n p : Nat), p ≤ l.length → p + ((pcs l n p).flatMap (em l)).length + (if (pcs l n p).any (fun q => decide ((shorter l q).2 ≠ 0)) then 1 else 0) ≤ l.length
  | 0, p, h => by simp [pcs]; exact h
  | n + 1, p, h => by
    unfold pcs
    split
    · rename_i hp
      have ih := pcs_len n (nx l p) (nx_le hp)
      rw [List.flatMap_cons, List.length_append, List.any_cons]
      by_cases hs : (shorter l p).2 = 0
      · have e1 : nx l p = p + 1 := by unfold nx; rw [if_pos hs]
        have e2 : (em l p).length = 1 := by unfold em; rw [if_pos hs]; rfl
        simp only [hs, ne_eq, not_true_eq_false, decide_false, Bool.false_or]
        rw [e2]
        simp only [ne_eq] at ih
        omega
      · have e1 : nx l p = p + (shorter l p).2 := by unfold nx; rw [if_neg hs]
        have e2 : em l p = (shorter l p).1 := by unfold em; rw [if_neg hs]
        have := shorter_len hs
        simp only [hs, ne_eq, not_false_eq_true, decide_true, Bool.true_or, if_true]
        rw [e2]
        split at ih <;> omega
    · simp; exact h
theorem pass_len (l : List Ins) : (pass l).1.length + (if (pass l).2 then 1 else 0) ≤ l.length := by
  have := pcs_len (l := l) l.length 0 (Nat.zero_le _)
  unfold pass
  simp only [List.length_map]
  rw [pass0_did, pass0_out]
  rw [Nat.zero_add] at this
  exact this
end Go.Proofs.Ytjehflelkpacfaa.Opt
