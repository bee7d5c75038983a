/- Package opt, walked: code. -/
import Derived.Test.YtfeajpghabjaaaaM21
import Derived.Laws.StructEq
namespace Go.Proofs.Ytfeajpghabjaaaa.Vw
open Go.RowKit Go.Proofs.Ytfeajpghabjaaaa.Img
set_option linter.unusedVariables false
set_option linter.unusedSimpArgs false
theorem em_in64 {l : List ImgM.Ins} (hl : In64s l) {q : Nat} (hq : q < l.length) {i : ImgM.Ins} (hi : i ∈ Opt.em l q) : ImgM.In64 i.a ∧ ImgM.In64 i.n := by
  have z0 : ImgM.In64 0 := by unfold ImgM.In64; omega
  by_cases hs : (Opt.shorter l q).2 = 0
  · unfold Opt.em at hi
    rw [if_pos hs] at hi
    simp at hi
    subst hi
    exact hl _ (Opt.mem_at hq)
  · unfold Opt.em at hi
    rw [if_neg hs] at hi
    have kn : ∀ v t, ImgM.In64 v → i ∈ Opt.known v t → ImgM.In64 i.a ∧ ImgM.In64 i.n := fun v t hv h => by
      unfold Opt.known at h
      split at h <;> (simp at h; subst h; first | exact ⟨hv, z0⟩ | exact ⟨z0, hv⟩)
    rcases Opt.shorter_cases hs with ⟨r, g1, g2, g3⟩ | ⟨r, g1, g2, g3⟩ | ⟨g1, g2, g3, g4⟩
    · have hlt := Opt.free_lt g2
      rw [g1] at hi
      simp only at hi
      have m1 := hl _ (Opt.mem_at (l := l) (q := q) (by omega))
      have m2 := hl _ (Opt.mem_at (l := l) (q := q + 1) (by omega))
      unfold Opt.three at g3
      split at g3
      · cases g3
      rename_i n1
      split at g3
      · cases g3
      cases g3
      exact kn _ _ (two2_in (cval_in m1.1 m1.2) (cval_in m2.1 m2.2) (fun ho h0 => n1 (.inr (.inr (.inr (.inr (.inr ⟨h0, ho⟩))))))) hi
    · have hlt := Opt.free_lt g2
      rw [g1] at hi
      simp only at hi
      unfold Opt.pair at g3
      split at g3
      · cases g3; cases hi
      split at g3
      · cases g3
      split at g3
      · cases g3; exact kn _ _ (wrap_in _) hi
      split at g3
      · cases g3
      split at g3
      · cases g3; exact kn _ _ (wrap_in _) hi
      split at g3
      · cases g3; cases hi
      split at g3
      · cases g3
        simp at hi
        subst hi
        exact ⟨(hl _ (Opt.mem_at (l := l) (q := q + 1) (by omega))).1, z0⟩
      · cases g3
    · rw [g1] at hi; cases hi
theorem UOk_jumps {M : ImgM.Mdl} {u : ImgM.Unt} (h : Opt.UOk M u) : Jumps u.code := fun i hi hJ => (Ver.instr_ok (h.ins i hi)).jump (Opt.isJ_iff.1 hJ)
theorem In64s_pass {M : ImgM.Mdl} {u : ImgM.Unt} (h : Opt.UOk M u) (hl : In64s u.code) : In64s (Opt.pass u.code).1 := fun i hi => by
  have hlen := (Opt.head_len h.head).2
  have hpl := Opt.pass_len u.code
  obtain ⟨q, j, hq, hj, rfl⟩ := Opt.mem_pass hi
  have hj64 := em_in64 hl hq hj
  cases hJ : Opt.isJ j with
  | false => rw [Opt.reloc_no hJ]; exact hj64
  | true =>
    have hn := (UOk_jumps h.pass) _ hi (by rw [Opt.isJ_iff, Opt.reloc_op, ← Opt.isJ_iff]; exact hJ)
    have hc : (Opt.withC u (Opt.pass u.code).1).code = (Opt.pass u.code).1 := rfl
    rw [hc] at hn
    refine ⟨?_, ?_⟩
    · unfold ImgM.In64; omega
    · unfold Opt.reloc; rw [if_pos hJ]; exact hj64.2
theorem codeN_fuel : ∀ (n n' : Nat) (l : List ImgM.Ins), l.length < n → l.length < n' → Opt.codeN n l = Opt.codeN n' l
  | 0, _, _, h, _ => by omega
  | _ + 1, 0, _, _, h => by omega
  | n + 1, n' + 1, l, h, h' => by
    have hl := Opt.pass_len l
    unfold Opt.codeN
    split
    · rename_i hd
      rw [if_pos hd] at hl
      exact codeN_fuel n n' _ (by omega) (by omega)
    · rfl
theorem code_step {l : List ImgM.Ins} : Opt.code l = if (Opt.pass l).2 then Opt.code (Opt.pass l).1 else (Opt.pass l).1 := by
  have hl := Opt.pass_len l
  conv => lhs; unfold Opt.code Opt.codeN
  split
  · rename_i hd
    rw [if_pos hd] at hl
    exact codeN_fuel _ _ _ (by omega) (by omega)
  · rfl
attribute [local irreducible] Run Cod End OpT Still RunQ RunS RunT Fn PutOk
set_option maxRecDepth 100000 in
theorem cloneX_is (ao : Option Addr) (n cap : Nat) (l : List (Int × Int)) (hn : l.length = n) (hm : n ≤ 1000000000) :
    Fn Try.prog 16 #[.slice ao n cap] [rd ao n cap boxC l] [] (σ := Option Addr × Nat) (fun _ => True) (fun s => .slice s.1 n s.2) (fun s => [arr s.1 n s.2 50 boxC l]) := by
  refine Fn.enter (args := [.slice ao n cap]) Try.func16 rfl _ Try.ntmps16 rfl (by simp [rd_excl, md_excl]) (fun w S => ?_)
  (try conv => rhs; simp only [List.cons_append, List.nil_append])
  cases ao with
  | none =>
    apply Cod.fact (n = 0) (fun w hm => by
      obtain ⟨⟨-, -, ao', cap', he, -, h4⟩, -⟩ := rd_holds.1 (hm.has (.tail .head))
      rcases Nat.eq_zero_or_pos n with h | h
      · exact h
      · obtain ⟨b, off, rfl, -⟩ := h4 h
        simp at he)
    rintro rfl
    obtain rfl : l = [] := List.eq_nil_of_length_eq_zero hn
    repeat (first | refine go (k := ?_) | (refine goB (k := ?_); intro b) | (refine goA (k := ?_); intro ao cap))
    apply End.imp (fun w hm => hm.nilArr 50 boxC)
    (refine End.done1_ ((none, 0)) (he := by (first | exact rfl | (refine congrArg (Value.int _) ?_; omega) | (refine congrArg (Value.int _) ?_; dsimp only; omega))) (hp := ?_))
    trivial
  | some a0 =>
    repeat (first | refine go (k := ?_) | (refine goB (k := ?_); intro b) | (refine goA (k := ?_); intro ao cap))
    apply Run.imp (fun w hm => hm.toArr .head ([] : List (Int × Int)) rfl rfl (by unfold maxLen; simp))
    repeat (first | refine go (k := ?_) | (refine goB (k := ?_); intro b) | (refine goA (k := ?_); intro ao cap))
    apply Run.op (by exact rfl)
    refine OpT.appendS_ (k := ?_)
    intro ao cap
    simp only [Nat.zero_add, List.nil_append]
    repeat (first | refine go (k := ?_) | (refine goB (k := ?_); intro b) | (refine goA (k := ?_); intro ao cap))
    (refine End.done1_ ((_, _)) (he := by (first | exact rfl | (refine congrArg (Value.int _) ?_; omega) | (refine congrArg (Value.int _) ?_; dsimp only; omega))) (hp := ?_))
    trivial

set_option maxRecDepth 100000 in
theorem cloneN_is (ao : Option Addr) (n cap : Nat) (l : List ImgM.Ins) (hn : l.length = n) (hm : n ≤ 1000000000) :
    Fn Try.prog 31 #[.slice ao n cap] [rd ao n cap insC l] [] (σ := Option Addr × Nat) (fun _ => True) (fun s => .slice s.1 n s.2) (fun s => [arr s.1 n s.2 57 insC l]) := by
  refine Fn.enter (args := [.slice ao n cap]) Try.func31 rfl _ Try.ntmps31 rfl (by simp [rd_excl, md_excl]) (fun w S => ?_)
  (try conv => rhs; simp only [List.cons_append, List.nil_append])
  cases ao with
  | none =>
    apply Cod.fact (n = 0) (fun w hm => by
      obtain ⟨⟨-, -, ao', cap', he, -, h4⟩, -⟩ := rd_holds.1 (hm.has (.tail .head))
      rcases Nat.eq_zero_or_pos n with h | h
      · exact h
      · obtain ⟨b, off, rfl, -⟩ := h4 h
        simp at he)
    rintro rfl
    obtain rfl : l = [] := List.eq_nil_of_length_eq_zero hn
    repeat (first | refine go (k := ?_) | (refine goB (k := ?_); intro b) | (refine goA (k := ?_); intro ao cap))
    apply End.imp (fun w hm => hm.nilArr 57 insC)
    (refine End.done1_ ((none, 0)) (he := by (first | exact rfl | (refine congrArg (Value.int _) ?_; omega) | (refine congrArg (Value.int _) ?_; dsimp only; omega))) (hp := ?_))
    trivial
  | some a0 =>
    repeat (first | refine go (k := ?_) | (refine goB (k := ?_); intro b) | (refine goA (k := ?_); intro ao cap))
    apply Run.imp (fun w hm => hm.toArr .head ([] : List ImgM.Ins) rfl rfl (by unfold maxLen; simp))
    repeat (first | refine go (k := ?_) | (refine goB (k := ?_); intro b) | (refine goA (k := ?_); intro ao cap))
    apply Run.op (by exact rfl)
    refine OpT.appendS_ (k := ?_)
    intro ao cap
    simp only [Nat.zero_add, List.nil_append]
    repeat (first | refine go (k := ?_) | (refine goB (k := ?_); intro b) | (refine goA (k := ?_); intro ao cap))
    (refine End.done1_ ((_, _)) (he := by (first | exact rfl | (refine congrArg (Value.int _) ?_; omega) | (refine congrArg (Value.int _) ?_; dsimp only; omega))) (hp := ?_))
    trivial
set_option maxRecDepth 100000 in
set_option maxHeartbeats 2000000 in
theorem code_is' (M : ImgM.Mdl) (u : ImgM.Unt) (hu : Opt.UOk M u) (hl : In64s u.code) (lo : Option Addr) (n lc : Nat) (hn : u.code.length = n) :
    Fn Try.prog 18 #[.slice lo n lc] [rd lo n lc insC u.code] [] (σ := Option Addr × Nat) (fun _ => True) (fun s => .slice s.1 (Opt.code u.code).length s.2) (fun s => [arr s.1 (Opt.code u.code).length s.2 57 insC (Opt.code u.code)]) := by
  have hlen := (Opt.head_len hu.head).2
  refine Fn.enter (args := [.slice lo n lc]) Try.func18 rfl _ Try.ntmps18 rfl (by simp [rd_excl, md_excl]) (fun w S => ?_)
  (try conv => rhs; simp only [List.cons_append, List.nil_append])
  generalize hC : Opt.code u.code = C at *
  repeat (first | refine go (k := ?_) | (refine goB (k := ?_); intro b) | (refine goA (k := ?_); intro ao cap))
  (apply Run.op; exact rfl; refine OpT.call0_ (spec := cloneN_is lo n lc u.code hn (by omega)) (k := ?_); intro s hs; (try conv => rhs; simp only [List.cons_append, List.nil_append]))
  repeat (first | refine go (k := ?_) | (refine goB (k := ?_); intro b) | (refine goA (k := ?_); intro ao cap))
  subst hn
  refine Cod.only ((fun z => [old w S, arr z.2.1 z.1.length z.2.2.1 57 insC z.1]) (u.code, s.1, s.2, true)) (by (repeat (first | exact Takes.nil | exact Take.head | apply Take.tail | apply Takes.cons))) ?_
  apply Cod.loop (σ := List ImgM.Ins × Option Addr × Nat × Bool) (fun z => Opt.UOk M (Opt.withC u z.1) ∧ In64s z.1 ∧ (if z.2.2.2 then Opt.code z.1 else z.1) = C) (fun z => [(3, .slice z.2.1 z.1.length z.2.2.1), (4, .bool z.2.2.2)]) (fun z => [old w S, arr z.2.1 z.1.length z.2.2.1 57 insC z.1]) (fun z => if z.2.2.2 then z.1.length + 1 else 0) (u.code, s.1, s.2, true)
  rotate_left
  exact sb
  exact tks
  intro z hz K1 hK1
  (try conv => rhs; simp only [List.cons_append, List.nil_append])
  rotate_left
  · exact ⟨hu, hl, hC⟩
  obtain ⟨c, co, cc, ag⟩ := z
  obtain ⟨hz1, hz2, hz3⟩ := hz
  simp only at hz1 hz2 hz3 hK1 ⊢
  cases ag with
  | false =>
    simp only [if_false, Bool.false_eq_true] at hz3
    subst hz3
    repeat (first | refine go (k := ?_) | (refine goB (k := ?_); intro b) | (refine goA (k := ?_); intro ao cap))
    (refine End.done1_ ((co, cc)) (he := by (first | exact rfl | (refine congrArg (Value.int _) ?_; omega) | (refine congrArg (Value.int _) ?_; dsimp only; omega))) (hp := ?_))
    trivial
  | true =>
    have hc4 := (Opt.head_len hz1.head).2
    have hcl : (Opt.withC u c).code = c := rfl
    rw [hcl] at hc4
    simp only [if_true] at hz3
    rw [code_step] at hz3
    have hp := hz1.pass
    have h64 := In64s_pass hz1 hz2
    rw [hcl] at hp h64
    have hpl := Opt.pass_len c
    repeat (first | refine go (k := ?_) | (refine goB (k := ?_); intro b) | (refine goA (k := ?_); intro ao cap))
    (apply Run.op; exact rfl; refine OpT.call0_ (spec := pass_is co c.length cc c rfl (by omega) hz2 (UOk_jumps hz1)) (k := ?_); intro s hs; (try conv => rhs; simp only [List.cons_append, List.nil_append]))
    repeat (first | refine go (k := ?_) | (refine goB (k := ?_); intro b) | (refine goA (k := ?_); intro ao cap))
    refine End.round0_ hK1 ((Opt.pass c).1, s.1, s.2, (Opt.pass c).2) ?_ ?_
    · exact ⟨hp, h64, hz3⟩
    · simp only [if_true]
      split
      · rename_i hd; rw [if_pos hd] at hpl; omega
      · omega
end Go.Proofs.Ytfeajpghabjaaaa.Vw

/- The document's answer to chapter 14: what its rules reckon, and where a jump comes to. Plain Lean. -/
namespace Go.Proofs.Ytfeajpghabjaaaa.Opt
set_option linter.unusedVariables false
set_option linter.unusedSimpArgs false
open ImgM Ver
def num14 (n : Int) : List Ins := [⟨1, 0, n⟩]
def ys14 (b : Bool) : List Ins := [⟨2, yes b, 0⟩]
def qu14 (a b : Int) : Int := if b = -1 then IntKind.i64.wrap (0 - a) else IntKind.i64.wrap (a.tdiv b)
/-- two known words and an operator -/
def rk14 (op a b : Int) : Option (List Ins) :=
  if op = 8 then some (num14 (IntKind.i64.wrap (a + b)))
  else if op = 9 then some (num14 (IntKind.i64.wrap (a - b)))
  else if op = 10 then some (num14 (IntKind.i64.wrap (a * b)))
  else if op = 11 ∨ op = 12 then
    if b = 0 then none else if op = 11 then some (num14 (qu14 a b)) else some (num14 (IntKind.i64.wrap (a - IntKind.i64.wrap (qu14 a b * b))))
  else if op = 13 then some (ys14 (decide (a = b)))
  else if op = 14 then some (ys14 (!decide (a = b)))
  else if op = 15 then some (ys14 (decide (a < b)))
  else if op = 16 then some (ys14 (decide (a ≤ b)))
  else if op = 17 then some (ys14 (decide (b < a)))
  else if op = 18 then some (ys14 (decide (b ≤ a)))
  else if op = 19 then some (ys14 (decide (a = 1) && decide (b = 1)))
  else if op = 20 then some (ys14 (decide (a = 1) || decide (b = 1)))
  else none
def goes14 (op : Int) (t : Bool) : Bool := if op = 13 ∨ op = 14 then true else if op = 19 ∨ op = 20 then t else !t
def tr14 (i : Ins) : Bool := decide (i.op = 2)
theorem wrap_id {x : Int} (h : -9223372036854775808 ≤ x ∧ x ≤ 9223372036854775807) : IntKind.i64.wrap x = x := wrap_i64_in h
theorem tdiv_in {a b : Int} (ha : In64 a) (h0 : b ≠ 0) (h1 : b ≠ -1) : In64 (a.tdiv b) ∧ In64 (a.tdiv b * b) ∧ In64 (a.tmod b) := by
  unfold In64 at *
  have e1 : (a.tdiv b).natAbs = a.natAbs / b.natAbs := Int.natAbs_tdiv a b
  have e2' : a.tdiv b * b = a - a.tmod b := Int.tdiv_mul_self a b
  have e3 : (a.tmod b).natAbs ≤ a.natAbs := by rw [Int.natAbs_tmod]; exact Nat.mod_le _ _
  have e4 : 0 ≤ a → 0 ≤ a.tmod b := fun h => Int.tmod_nonneg b h
  have e5 : a ≤ 0 → a.tmod b ≤ 0 := fun h => by
    have := Int.tmod_nonneg b (a := -a) (by omega)
    rw [Int.neg_tmod] at this
    omega
  refine ⟨?_, by rw [e2']; omega, by omega⟩
  by_cases hb : b = 1
  · subst hb; rw [Int.tdiv_one]; exact ha
  · have h2 : 2 ≤ b.natAbs := by omega
    have h3 : a.natAbs / b.natAbs ≤ a.natAbs / 2 := Nat.div_le_div_left h2 (by omega)
    omega
theorem bits01 {a b : Int} (ha : a = 0 ∨ a = 1) (hb : b = 0 ∨ b = 1) : bits .and .i64 a b = yes (decide (a = 1) && decide (b = 1)) ∧ bits .or .i64 a b = yes (decide (a = 1) || decide (b = 1)) := by
  rcases ha with rfl | rfl <;> rcases hb with rfl | rfl <;> exact ⟨by decide, by decide⟩
theorem two_11 (a b : Int) : two2 11 a b = if a = -9223372036854775808 ∧ b = -1 then a else IntKind.i64.wrap (a.tdiv b) := by
  unfold two2
  rw [if_neg (by decide), if_neg (by decide), if_neg (by decide), if_pos (by decide), if_pos (show (11 : Int) = 11 from rfl), if_pos (show (11 : Int) = 11 from rfl)]
theorem two_12 (a b : Int) : two2 12 a b = if a = -9223372036854775808 ∧ b = -1 then 0 else a.tmod b := by
  unfold two2
  rw [if_neg (by decide), if_neg (by decide), if_neg (by decide), if_pos (by decide), if_neg (show ¬ (12 : Int) = 11 by decide), if_neg (show ¬ (12 : Int) = 11 by decide)]
theorem two_19 (a b : Int) : two2 19 a b = bits .and .i64 a b := by
  unfold two2
  rw [if_neg (by decide), if_neg (by decide), if_neg (by decide), if_neg (by decide), if_neg (by decide), if_neg (by decide), if_neg (by decide), if_neg (by decide), if_neg (by decide), if_neg (by decide), if_pos rfl]
theorem two_20 (a b : Int) : two2 20 a b = bits .or .i64 a b := by
  unfold two2
  rw [if_neg (by decide), if_neg (by decide), if_neg (by decide), if_neg (by decide), if_neg (by decide), if_neg (by decide), if_neg (by decide), if_neg (by decide), if_neg (by decide), if_neg (by decide), if_neg (by decide)]
theorem rk_11 {a b : Int} (h : b ≠ 0) : rk14 11 a b = some (num14 (qu14 a b)) := by
  unfold rk14
  rw [if_neg (by decide), if_neg (by decide), if_neg (by decide), if_pos (by decide), if_neg h, if_pos rfl]
theorem rk_12 {a b : Int} (h : b ≠ 0) : rk14 12 a b = some (num14 (IntKind.i64.wrap (a - IntKind.i64.wrap (qu14 a b * b)))) := by
  unfold rk14
  rw [if_neg (by decide), if_neg (by decide), if_neg (by decide), if_pos (by decide), if_neg h, if_neg (by decide)]
theorem rk_19 (a b : Int) : rk14 19 a b = some (ys14 (decide (a = 1) && decide (b = 1))) := by
  unfold rk14
  rw [if_neg (by decide), if_neg (by decide), if_neg (by decide), if_neg (by decide), if_neg (by decide), if_neg (by decide), if_neg (by decide), if_neg (by decide), if_neg (by decide), if_neg (by decide), if_pos rfl]
theorem rk_20 (a b : Int) : rk14 20 a b = some (ys14 (decide (a = 1) || decide (b = 1))) := by
  unfold rk14
  rw [if_neg (by decide), if_neg (by decide), if_neg (by decide), if_neg (by decide), if_neg (by decide), if_neg (by decide), if_neg (by decide), if_neg (by decide), if_neg (by decide), if_neg (by decide), if_neg (by decide), if_pos rfl]
theorem rk_some {op a b : Int} (ha : In64 a) (hb : In64 b) (h8 : 8 ≤ op) (h20 : op ≤ 20) (h0 : op = 11 ∨ op = 12 → b ≠ 0) (h01 : 18 < op → (a = 0 ∨ a = 1) ∧ (b = 0 ∨ b = 1)) : rk14 op a b = some (known (two2 op a b) (decide (12 < op))) := by
  rcases (show op = 8 ∨ op = 9 ∨ op = 10 ∨ op = 11 ∨ op = 12 ∨ op = 13 ∨ op = 14 ∨ op = 15 ∨ op = 16 ∨ op = 17 ∨ op = 18 ∨ op = 19 ∨ op = 20 by omega) with h | h | h | h | h | h | h | h | h | h | h | h | h
  all_goals subst h
  · rfl
  · rfl
  · rfl
  · rw [rk_11 (h0 (.inl rfl)), two_11]
    show some [(⟨1, 0, qu14 a b⟩ : Ins)] = some [⟨1, 0, _⟩]
    congr 3
    unfold qu14
    by_cases h1 : b = -1
    · rw [if_pos h1]
      by_cases hm : a = -9223372036854775808
      · rw [if_pos ⟨hm, h1⟩, hm]; rfl
      · rw [if_neg (fun h => hm h.1), h1, Int.tdiv_neg, Int.tdiv_one, Int.zero_sub]
    · rw [if_neg h1, if_neg (fun h => h1 h.2)]
  · have hb0 := h0 (.inr rfl)
    rw [rk_12 hb0, two_12]
    show some [(⟨1, 0, _⟩ : Ins)] = some [⟨1, 0, _⟩]
    congr 3
    unfold qu14
    by_cases h1 : b = -1
    · rw [if_pos h1]
      by_cases hm : a = -9223372036854775808
      · rw [if_pos ⟨hm, h1⟩, hm, h1]; rfl
      · have ha' := ha
        unfold In64 at ha'
        rw [if_neg (fun h => hm h.1), h1, wrap_id (x := 0 - a) (by omega), show (0 - a) * -1 = a by omega, wrap_id ha', Int.sub_self]
        have : a.tmod (-1) = 0 := by rw [Int.tmod_neg, Int.tmod_one]
        rw [this]; rfl
    · rw [if_neg h1, if_neg (fun h => h1 h.2)]
      obtain ⟨q1, q2, q3⟩ := tdiv_in (a := a) (b := b) ha hb0 h1
      unfold In64 at q1 q2 q3
      have e2 := Int.tdiv_mul_self a b
      rw [wrap_id q1, wrap_id q2, show a - a.tdiv b * b = a.tmod b by omega, wrap_id q3]
  · rfl
  · rfl
  · rfl
  · rfl
  · rfl
  · rfl
  · obtain ⟨g1, g2⟩ := h01 (by decide)
    rw [rk_19, two_19, (bits01 g1 g2).1]; rfl
  · obtain ⟨g1, g2⟩ := h01 (by decide)
    rw [rk_20, two_20, (bits01 g1 g2).2]; rfl
theorem rk_none {op a b : Int} (h : op < 8 ∨ 20 < op ∨ (b = 0 ∧ (op = 11 ∨ op = 12))) : rk14 op a b = none := by
  unfold rk14
  rcases h with h | h | ⟨h1, h | h⟩
  · rw [if_neg (by omega), if_neg (by omega), if_neg (by omega), if_neg (by omega), if_neg (by omega), if_neg (by omega), if_neg (by omega), if_neg (by omega), if_neg (by omega), if_neg (by omega), if_neg (by omega), if_neg (by omega)]
  · rw [if_neg (by omega), if_neg (by omega), if_neg (by omega), if_neg (by omega), if_neg (by omega), if_neg (by omega), if_neg (by omega), if_neg (by omega), if_neg (by omega), if_neg (by omega), if_neg (by omega), if_neg (by omega)]
  · rw [if_neg (by omega), if_neg (by omega), if_neg (by omega), if_pos (.inl h), if_pos h1]
  · rw [if_neg (by omega), if_neg (by omega), if_neg (by omega), if_pos (.inr h), if_pos h1]
/-- the first rule is the same -/
theorem three_14 {a b c : Ins} (ha : In64 (cval a)) (hb : In64 (cval b)) (h01a : a.op = 2 → cval a = 0 ∨ cval a = 1) (h01b : b.op = 2 → cval b = 0 ∨ cval b = 1) :
    three a b c = if isC a = true ∧ isC b = true ∧ tr14 a = tr14 b ∧ goes14 c.op (tr14 a) = true then rk14 c.op (cval a) (cval b) else none := by
  by_cases hc : isC a = true ∧ isC b = true
  · obtain ⟨c1, c2⟩ := hc
    have o1 := isC_iff.1 c1
    have o2 := isC_iff.1 c2
    have f1 : ¬ isC a = false := by rw [c1]; decide
    have f2 : ¬ isC b = false := by rw [c2]; decide
    by_cases he : a.op = b.op
    · have ht : tr14 a = tr14 b := by unfold tr14; rw [he]
      by_cases hr : c.op < 8 ∨ 20 < c.op ∨ (cval b = 0 ∧ (c.op = 11 ∨ c.op = 12))
      · rw [rk_none hr]
        unfold three
        rw [if_pos (.inr (.inr (.inr (hr))))]
        split <;> rfl
      · have hg : goes14 c.op (tr14 a) = true ↔ ¬ (((c.op = 19 ∨ c.op = 20) ↔ ¬ a.op = 2) ∧ c.op ≠ 13 ∧ c.op ≠ 14) := by
          unfold goes14 tr14
          by_cases g1 : c.op = 13 ∨ c.op = 14
          · rw [if_pos g1]
            exact ⟨fun _ h => g1.elim h.2.1 h.2.2, fun _ => rfl⟩
          · rw [if_neg g1]
            by_cases g2 : c.op = 19 ∨ c.op = 20
            · rw [if_pos g2, decide_eq_true_eq]
              exact ⟨fun h h' => h'.1.1 g2 h, fun h => Classical.byContradiction fun h' => h ⟨⟨fun _ => h', fun _ => g2⟩, fun e => g1 (.inl e), fun e => g1 (.inr e)⟩⟩
            · rw [if_neg g2, Bool.not_eq_true', decide_eq_false_iff_not]
              exact ⟨fun h h' => g2 (h'.1.2 h), fun h h' => h ⟨⟨fun x => absurd x g2, fun x => absurd h' x⟩, fun e => g1 (.inl e), fun e => g1 (.inr e)⟩⟩
        unfold three
        rw [if_neg (show ¬ (isC a = false ∨ isC b = false ∨ a.op ≠ b.op ∨ c.op < 8 ∨ 20 < c.op ∨ (cval b = 0 ∧ (c.op = 11 ∨ c.op = 12))) from fun h => h.elim f1 fun h => h.elim f2 fun h => h.elim (fun h => h he) hr)]
        by_cases hgo : goes14 c.op (tr14 a) = true
        · rw [if_neg (hg.1 hgo), if_pos ⟨c1, c2, ht, hgo⟩, rk_some ha hb (by omega) (by omega) (fun h h' => hr (.inr (.inr ⟨h', h⟩))) (fun h => ?_)]
          have h2 : a.op = 2 := by
            have := hgo
            unfold goes14 at this
            rw [if_neg (by omega), if_pos (by omega)] at this
            exact of_decide_eq_true this
          exact ⟨h01a h2, h01b (he ▸ h2)⟩
        · rw [if_pos (Classical.not_not.1 (fun h => hgo (hg.2 h))), if_neg (fun h => hgo h.2.2.2)]
    · have ht : ¬ tr14 a = tr14 b := fun h => by
        unfold tr14 at h
        have := decide_eq_decide.1 h
        omega
      unfold three
      rw [if_pos (.inr (.inr (.inl he))), if_neg (fun h => ht h.2.2.1)]
  · rw [if_neg (fun h => hc ⟨h.1, h.2.1⟩)]
    unfold three
    rw [if_pos]
    cases h1 : isC a with
    | false => exact .inl rfl
    | true =>
      refine .inr (.inl ?_)
      cases h2 : isC b with
      | false => rfl
      | true => exact absurd ⟨h1, h2⟩ hc
theorem pcs_sorted {l : List Ins} : ∀ (n p : Nat), (pcs l n p).Pairwise (· < ·)
  | 0, p => List.Pairwise.nil
  | n + 1, p => by
    unfold pcs
    split
    · refine List.pairwise_cons.2 ⟨fun q hq => ?_, pcs_sorted n _⟩
      have := (pcs_ge n _ q hq).1
      have := nx_gt l p
      omega
    · exact List.Pairwise.nil
theorem srcs_mem {l : List Ins} {b : List Nat} {q : Nat} (h : q ∈ srcs l b) : q ∈ b := by
  unfold srcs at h
  obtain ⟨x, hx, h⟩ := List.mem_flatMap.1 h
  split at h
  · cases h
  · simp at h; subst h; exact hx
/-- where a jump comes to -/
theorem old_at {l : List Ins} {a : Nat} (ha : a < l.length) (ht : tgt l (a : Int) = true) : ∃ K : Nat, (pass0 l).wh.getD a 0 = (K : Int) ∧ K ≤ (srcs l (bs l)).length ∧ (∀ t, t < K → (srcs l (bs l)).getD t 0 < a) ∧ (∀ t, K ≤ t → t < (srcs l (bs l)).length → a ≤ (srcs l (bs l)).getD t 0) := by
  obtain ⟨A, C, hb⟩ := bs_tgt ha ht
  have hs : (bs l).Pairwise (· < ·) := pcs_sorted _ _
  rw [hb] at hs
  obtain ⟨s1, s2, s3⟩ := List.pairwise_append.1 hs
  have hl := srcs_len l A
  refine ⟨(A.flatMap (em l)).length, pass0_wh hb, ?_, fun t h => ?_, fun t h h2 => ?_⟩
  · rw [hb, srcs_app, List.length_append, hl]; omega
  · rw [hb, srcs_app, List.getD_eq_getElem?_getD, List.getElem?_append_left (by omega), List.getElem?_eq_getElem (by omega)]
    exact s3 _ (srcs_mem (List.getElem_mem _)) a List.mem_cons_self
  · rw [hb, srcs_app] at h2 ⊢
    rw [List.length_append] at h2
    rw [List.getD_eq_getElem?_getD, List.getElem?_append_right (by omega), List.getElem?_eq_getElem (by omega)]
    have hm := srcs_mem (List.getElem_mem (l := srcs l (a :: C)) (n := t - (srcs l A).length) (by omega))
    show a ≤ (srcs l (a :: C))[t - (srcs l A).length]
    rcases List.mem_cons.1 hm with h3 | h3
    · omega
    · have := (List.pairwise_cons.1 s2).1 _ h3; omega
theorem pcs_done {l : List Ins} {f p : Nat} (h : ¬ p < l.length) : pcs l f p = [] := by
  cases f with
  | zero => rfl
  | succ f => unfold pcs; rw [if_neg h]
theorem pcs_go {l : List Ins} {f p : Nat} (h : p < l.length) (hf : l.length ≤ f + p) : ∃ f', pcs l f p = p :: pcs l f' (nx l p) ∧ l.length ≤ f' + nx l p := by
  cases f with
  | zero => omega
  | succ f =>
    refine ⟨f, by conv => lhs; unfold pcs
                  rw [if_pos h], ?_⟩
    have := nx_gt l p
    omega
end Go.Proofs.Ytfeajpghabjaaaa.Opt

/- == of two places of faults; one's own as a thing that is only read. -/
namespace Go.Proofs.Ytfeajpghabjaaaa.Vw
open Go.RowKit Go.Proofs.Ytfeajpghabjaaaa.Img
set_option linter.unusedVariables false
set_option linter.unusedSimpArgs false
/-- what is one's own, or is read, as one thing that is only read -/
theorem Mem.toRead {w : World} {pre L F : List Chunk} {c : Chunk} (t : Takes pre L F) (h : Mem w L) (hc : c.holds w) (hx : c.excl = false) (hf : ∀ b, c.foot b → ∃ d ∈ pre, d.foot b) : Mem w (c :: F) :=
  Mem.step (post := [c]) (S := Nil) (h.takes t) (Keeps.refl _ _) (fun b h => False.elim h) (by simpa using hc) (by simp) (fun d hd b hb => by
    simp at hd; subst hd
    obtain ⟨e, e1, e2⟩ := hf b hb
    exact .inl ⟨e, e1, ⟨fun h => absurd h (by rw [hx]; decide), e2⟩⟩)

theorem run_whereIn (x y : Ver.Where) (w : World) : (Op.equalIn 10000 28 (whereV x) (whereV y)).run Try.prog w = .ok (decide (x = y)) w := by
  have u3 := Try.underlying3
  have a3 := Try.isAgg3
  have z3 := Try.sizeOf3
  have u4 := Try.underlying26
  have a4 := Try.isAgg26
  have hS : Try.prog.underlying 28 = some (.struct (Try.prog.fieldsOf 28)) := by kernel_rfl
  have hp : Try.prog.stoodInHeld 28 = false := by kernel_rfl
  obtain ⟨a, b, c⟩ := x
  obtain ⟨d, e, f⟩ := y
  simp only [whereV, whereC]
  rw [show (10000 : Nat) = 9999 + 1 from rfl, run_equalIn_agg w 9999 28 _ _ hS hp]
  simp only [Program.fieldsOf, Try.underlying28]
  go_simp
  by_cases h1 : a = d <;> by_cases h2 : b = e <;> by_cases h3 : c = f <;> simp [h1, h2, h3]
section
variable {N : Nat} {E : Env} {L : List Chunk} {dst : Option Tmp} {ty : TypeId} {pos : String} {aft : Array Edge} {g : Option (Nat × Bool)}
theorem Still.eqlW {x y : Operand} {a b : Ver.Where} {v v' : Value} {r : Bool} (hx : ev E x = some v) (hy : ev E y = some v') (h1 : v = whereV a) (h2 : v' = whereV b) (hr : decide (a = b) = r) : Still Try.prog N ⟨dst, .binOp .eql 28 x y 28, ty, pos, aft, g⟩ E L (.bool r) := fun A w hs _ => by
  subst h1 h2 hr
  have hg := run_eqGuard_agg (P := Try.prog) w .eql 28 x y (whereC a).toArray (whereC b).toArray (by kernel_rfl)
  simp [execOp, hs.ev hx, hs.ev hy, hg, run_eql_struct, run_whereIn]
end
/-- what lies behind units' slices, the call's own -/
def innerU (us : List UC) : List Chunk := us.flatMap fun x => [arr x.lo x.u.locals.length x.lc 3 i64c x.u.locals, arr x.co x.u.code.length x.cc 57 insC x.u.code]
theorem innerU_snoc (us : List UC) (x : UC) : innerU (us ++ [x]) = innerU us ++ [arr x.lo x.u.locals.length x.lc 3 i64c x.u.locals, arr x.co x.u.code.length x.cc 57 insC x.u.code] := by simp [innerU]
theorem Mem.unitAdd {w : World} {L L' F : List Chunk} (us : List UC) (x : UC) (h : Mem w L) (t : Take (bag (innerU us)) L L')
    (t2 : Takes [arr x.lo x.u.locals.length x.lc 3 i64c x.u.locals, arr x.co x.u.code.length x.cc 57 insC x.u.code] L' F) : Mem w (bag (innerU (us ++ [x])) :: F) := by
  rw [innerU_snoc]
  exact h.bagAdd t t2 (by simp [arr_excl])
/-- a module of one's own -/
abbrev ownM (n : ML) : List Chunk := [arr n.bo n.bx.length n.bc 50 boxC n.bx, arr n.uo n.us.length n.uc 38 ucell n.us, bag (innerU n.us)]
/-- .. is one that is only read -/
theorem own_md {w : World} {L F : List Chunk} (n : ML) (t : Takes (ownM n) L F) (h : Mem w L) : Mem w (md n :: F) := by
  have ht := h.takes t
  have a1 := arr_holds.1 (ht.all _ (.head _))
  have a2 := arr_holds.1 (ht.all _ (.tail _ (.head _)))
  have a3 := bag_holds.1 (ht.all _ (.tail _ (.tail _ (.head _))))
  have l1 := a1.1.le
  have l2 := a2.1.le
  have hin : ∀ x ∈ n.us, (arr x.lo x.u.locals.length x.lc 3 i64c x.u.locals).holds w ∧ (arr x.co x.u.code.length x.cc 57 insC x.u.code).holds w := fun x hx =>
    ⟨a3.1.all _ (List.mem_flatMap.2 ⟨x, hx, .head _⟩), a3.1.all _ (List.mem_flatMap.2 ⟨x, hx, .tail _ (.head _)⟩)⟩
  refine Mem.toRead t h (md_holds.2 ⟨a1.1.row Enc.pos, a2.1.row Enc.pos, fun x hx => (arr_holds.1 (hin x hx).1).1.row Enc.pos, fun x hx => (arr_holds.1 (hin x hx).2).1.row Enc.pos⟩) md_excl (fun b hb => ?_)
  rw [md_foot] at hb
  rcases hb with ⟨h, h0⟩ | ⟨h, h0⟩ | ⟨x, hx, ⟨h, h0⟩ | ⟨h, h0⟩⟩
  · exact ⟨_, .head _, arr_foot.2 ⟨h, by omega⟩⟩
  · exact ⟨_, .tail _ (.head _), arr_foot.2 ⟨h, by omega⟩⟩
  · have := (arr_holds.1 (hin x hx).1).1.le
    exact ⟨_, .tail _ (.tail _ (.head _)), bag_foot.2 ⟨_, List.mem_flatMap.2 ⟨x, hx, .head _⟩, arr_foot.2 ⟨h, by omega⟩⟩⟩
  · have := (arr_holds.1 (hin x hx).2).1.le
    exact ⟨_, .tail _ (.tail _ (.head _)), bag_foot.2 ⟨_, List.mem_flatMap.2 ⟨x, hx, .tail _ (.head _)⟩, arr_foot.2 ⟨h, by omega⟩⟩⟩
end Go.Proofs.Ytfeajpghabjaaaa.Vw

/- Package opt, walked: a module. -/
namespace Go.Proofs.Ytfeajpghabjaaaa
open Go
/-- two results, both in memory -/
theorem End.doneCC {P : Program} [Tabbed P] {N : Nat} {E : Env} {L L' L2 F : List Chunk} {σ : Type} {fn : Func} {post : σ → Prop} {val : σ → Value} {mem : σ → List Chunk} {w0 : World} {S : Nat → Prop} {t u : Tmp} {ty bt ty2 bt2 : TypeId} {b s' b' b2 s2 b2' : Nat} {fs fs2 : List (Nat × TypeId)} {z' cs z2 cs2 : List Value} (x : σ) (hr : fn.results = #[.cell t ty, .cell u ty2]) (hv : look E t = Option.some (.pointer (Option.some ⟨b, 0, none⟩))) (ht : tyOf P ty = Option.some ⟨.struct fs, s', b', z'⟩)
    (hm : Take (blk b cs bt) L L') (hl : cs.length = s') (hu : look E u = Option.some (.pointer (Option.some ⟨b2, 0, none⟩))) (ht2 : tyOf P ty2 = Option.some ⟨.struct fs2, s2, b2', z2⟩) (hm2 : Take (blk b2 cs2 bt2) L L2) (hl2 : cs2.length = s2) (he : val x = .tuple #[.agg cs.toArray, .agg cs2.toArray]) (hp : post x) (hx : ∀ c ∈ mem x, c.excl = true) (hF : Takes (old w0 S :: mem x) L F) : End (bodyPost P fn (Owes post val mem w0 S)) N .ret E L := fun a w hs hM => by
  have hb := blk_holds.1 (hM.has hm)
  have hb2 := blk_holds.1 (hM.has hm2)
  have h1 := hs.slot t _ hv
  have h2 := hs.slot u _ hu
  refine bodyPost_ret (v := .tuple #[.agg cs.toArray, .agg cs2.toArray]) ?_ hs.defs ⟨x, hp, by rw [he], hx, (hM.takes hF).left⟩
  simp [results, hr, h1, h2, asAddr, run_cell ht hb hl, run_cell ht2 hb2 hl2]
end Go.Proofs.Ytfeajpghabjaaaa
namespace Go.Proofs.Ytfeajpghabjaaaa.Vw
open Go.RowKit Go.Proofs.Ytfeajpghabjaaaa.Img
set_option linter.unusedVariables false
set_option linter.unusedSimpArgs false
attribute [local irreducible] Run Cod End OpT Still RunQ RunS RunT Fn PutOk
def ModOk (m n : ML) : Prop := if Ver.verify m.mdl = .ok then n.mdl = Opt.mdl m.mdl else n.bx = [] ∧ n.us = []
theorem wf_in64s {m : ML} (hwf : m.Wf) {k : Nat} (hk : k < m.us.length) : In64s (m.us.getD k default).u.code := fun i hi => ((hwf.us _ (ML.uat_mem hk)).code i hi).2
set_option maxRecDepth 100000 in
set_option maxHeartbeats 2000000 in
theorem module_is (m : ML) (hwf : m.Wf) : Fn Try.prog 8 #[m.val] [md m] [] (σ := ML) (ModOk m) (fun n => .tuple #[n.val, whereV (Ver.verify m.mdl)]) ownM := by
  refine Fn.enter (args := [m.val]) Try.func8 rfl _ Try.ntmps8 rfl (by simp [rd_excl, md_excl]) (fun w S => ?_)
  (try conv => rhs; simp only [List.cons_append, List.nil_append])
  apply Cod.fact m.Small (fun w hm => (md_holds.1 (hm.has tk)).small)
  intro hsm
  repeat (first | refine go (k := ?_) | (refine goB (k := ?_); intro b) | (refine goA (k := ?_); intro ao cap))
  (apply Run.op; exact rfl; refine OpT.call0_ (spec := verify_is m hwf) (k := ?_); intro s hs; (try conv => rhs; simp only [List.cons_append, List.nil_append]))
  have hve : (Ver.verify m.mdl).err = 0 → Ver.verify m.mdl = .ok := Ver.verify_eq
  have hM : ∀ n, ModOk m n ↔ if Ver.verify m.mdl = .ok then n.mdl = Opt.mdl m.mdl else n.bx = [] ∧ n.us = [] := fun n => Iff.rfl
  generalize hV : Ver.verify m.mdl = V at *
  obtain ⟨rw2, rfl⟩ : ∃ x, x = b := ⟨_, rfl⟩
  obtain ⟨rm2, rfl⟩ : ∃ x, x = b := ⟨_, rfl⟩
  obtain ⟨mb, rfl⟩ : ∃ x, x = b := ⟨_, rfl⟩
  repeat' (first | refine go (k := ?_) | (refine goB (k := ?_); intro b) | (refine goA (k := ?_); intro ao cap) | refine goQ (k := fun h => ?_) (k' := fun h => ?_) | fail)
  · obtain ⟨wb, rfl⟩ : ∃ x, x = b := ⟨_, rfl⟩
    apply Cod.draw 3 ([blk wb [.int .i64 V.err, .int .i64 V.unit, .int .i64 V.at_] 28]) (by kernel_rfl) 4 rfl
    refine RunT.takeR_ 0 (h := ?_)
    refine RunT.takeR_ 1 (h := ?_)
    (refine RunT.one_ 2 (h := ?_); (first | refine OpT.val_ (k := ?_) | (refine OpT.alloc_ (k := ?_); intro b) | (refine OpT.box_ (k := ?_); intro b) | refine OpT.store_ (k := ?_) | (refine OpT.buildSlice_ (k := ?_); intro b) | (refine OpT.buildSlice0_ (k := ?_); intro b) | (refine OpT.append1_ (k := ?_); intro ao cap) | (refine OpT.cutA0_ (k := ?_); intro ao cap) | (refine OpT.cutR0_ (k := ?_); intro ao cap) | (refine OpT.cutA1_ (k := ?_); intro ao cap) | (refine OpT.cutA_ (k := ?_); intro ao cap) | (refine OpT.cutR_ (k := ?_); intro ao cap)); refine And.intro gud ?_)
    (refine RunT.one_ 3 (h := ?_); (first | refine OpT.val_ (k := ?_) | (refine OpT.alloc_ (k := ?_); intro b) | (refine OpT.box_ (k := ?_); intro b) | refine OpT.store_ (k := ?_) | (refine OpT.buildSlice_ (k := ?_); intro b) | (refine OpT.buildSlice0_ (k := ?_); intro b) | (refine OpT.append1_ (k := ?_); intro ao cap) | (refine OpT.cutA0_ (k := ?_); intro ao cap) | (refine OpT.cutR0_ (k := ?_); intro ao cap) | (refine OpT.cutA1_ (k := ?_); intro ao cap) | (refine OpT.cutA_ (k := ?_); intro ao cap) | (refine OpT.cutR_ (k := ?_); intro ao cap)); refine And.intro gud ?_)
    (apply RunT.done; kernel_rfl)
    repeat (first | refine go (k := ?_) | (refine goB (k := ?_); intro b) | (refine goA (k := ?_); intro ao cap))
    apply End.imp (fun w hm => ((hm.bagNil).nilArr 38 ucell).nilArr 50 boxC)
    refine End.doneCC (⟨[], none, 0, [], none, 0⟩ : ML) (hr := by exact rfl) (hv := by exact rfl) (ht := by exact rfl) (hm := by (repeat (first | exact Take.head | apply Take.tail))) (hl := by exact rfl) (hu := by exact rfl) (ht2 := by exact rfl) (hm2 := by (repeat (first | exact Take.head | apply Take.tail))) (hl2 := by exact rfl) (he := rfl) (hp := by rw [hM, if_neg (fun h => by rename_i hn; rw [h] at hn; exact hn rfl)]; exact ⟨rfl, rfl⟩) (hx := by simp [arr_excl, bag_excl]) (hF := by exact tks)
  · have hv := hve (by assumption)
    subst hv
    have hR := Ver.verify_iff.1 hV
    have hF := formed hR.form
    have hG : ∀ j, j < m.mdl.units.length → Ver.Good m.mdl (m.mdl.units.getD j default) := fun j hj => by
      rw [ML.unit_at]
      exact hF.good hwf (by simpa using hj)
    refine Run.imp (fun w hm => hm.dup (c := md m) (c' := rd m.bo m.bx.length m.bc boxC m.bx) tk rd_excl (rd_holds.2 ⟨(md_holds.1 (hm.has tk)).boxes, rfl⟩) (fun b hb => md_foot.2 (.inl (rd_foot.1 hb))) md_excl) ?_
    (apply Run.op; exact rfl; refine OpT.call0_ (spec := cloneX_is m.bo m.bx.length m.bc m.bx rfl (by have := hF.boxes; omega)) (k := ?_); intro s hs; (try conv => rhs; simp only [List.cons_append, List.nil_append]))
    obtain ⟨bo, bc⟩ := s
    dsimp only
    repeat (first | refine go (k := ?_) | (refine goB (k := ?_); intro b) | (refine goA (k := ?_); intro ao cap))
    obtain ⟨ob, rfl⟩ : ∃ x, x = b := ⟨_, rfl⟩
    apply Cod.imp (fun w hm => hm.bagNil.nilArr 38 ucell)
    have hu30 := hF.units
    refine Cod.only ((fun z => [old w S, md m, blk ob [.slice bo m.bx.length bc, .slice z.2.2.1 z.1 z.2.2.2] 25, arr bo m.bx.length bc 50 boxC m.bx, arr z.2.2.1 z.1 z.2.2.2 38 ucell z.2.1, bag (innerU z.2.1), blk rm2 [.slice none 0 0, .slice none 0 0] 25, blk rw2 [.int .i64 0, .int .i64 0, .int .i64 0] 28]) (0, [], none, 0)) (by (repeat (first | exact Takes.nil | exact Take.head | apply Take.tail | apply Takes.cons))) ?_
    apply Cod.loop (σ := Nat × List UC × Option Addr × Nat) (fun z => z.1 ≤ m.us.length ∧ z.2.1.length = z.1 ∧ z.2.1.map (·.u) = (m.us.take z.1).map (fun x => Opt.unit x.u)) (fun z => [(2, ptr rm2), (3, ptr rw2), (5, ptr ob), (20, .slice m.uo m.us.length m.uc), (21, .int .i64 (m.us.length : Int)), (22, .int .i64 (z.1 : Int))]) (fun z => [old w S, md m, blk ob [.slice bo m.bx.length bc, .slice z.2.2.1 z.1 z.2.2.2] 25, arr bo m.bx.length bc 50 boxC m.bx, arr z.2.2.1 z.1 z.2.2.2 38 ucell z.2.1, bag (innerU z.2.1), blk rm2 [.slice none 0 0, .slice none 0 0] 25, blk rw2 [.int .i64 0, .int .i64 0, .int .i64 0] 28]) (fun z => m.us.length - z.1) (0, [], none, 0)
    rotate_left
    exact sb
    exact tks
    intro z hz K1 hK1
    (try conv => rhs; simp only [List.cons_append, List.nil_append])
    rotate_left
    · exact ⟨Nat.zero_le _, rfl, rfl⟩
    obtain ⟨q, us, ao, ac⟩ := z
    obtain ⟨hz1, hzl, hz2⟩ := hz
    simp only at hz1 hzl hz2 hK1 ⊢
    by_cases hk : q < m.us.length
    · have hu := Opt.uok hR hG (k := q) (by simpa using hk)
      have e : Ver.uAt m.mdl q = (m.us.getD q default).u := m.unit_at q
      rw [e] at hu
      have h64 := wf_in64s hwf hk
      obtain ⟨q1, q2, q3, q4, q5, q6⟩ := head_ok hu.head
      repeat (first | refine go (k := ?_) | (refine goB (k := ?_); intro b) | (refine goA (k := ?_); intro ao cap))
      (apply Run.op; exact rfl; refine OpT.call0_ (spec := cloneI_is (m.us.getD q default).lo (m.us.getD q default).u.locals.length (m.us.getD q default).lc (m.us.getD q default).u.locals rfl (by omega)) (k := ?_); intro s hs; (try conv => rhs; simp only [List.cons_append, List.nil_append]))
      obtain ⟨l1, l2⟩ := s
      dsimp only
      repeat (first | refine go (k := ?_) | (refine goB (k := ?_); intro b) | (refine goA (k := ?_); intro ao cap))
      (apply Run.op; exact rfl; refine OpT.call0_ (spec := code_is' m.mdl (m.us.getD q default).u hu h64 (m.us.getD q default).co (m.us.getD q default).u.code.length (m.us.getD q default).cc rfl) (k := ?_); intro s hs; (try conv => rhs; simp only [List.cons_append, List.nil_append]))
      obtain ⟨c1, c2⟩ := s
      dsimp only
      repeat (first | refine go (k := ?_) | (refine goB (k := ?_); intro b) | (refine goA (k := ?_); intro ao cap))
      (apply Run.op; exact rfl; refine OpT.append1_ (a := (⟨Opt.unit (m.us.getD q default).u, l1, l2, c1, c2⟩ : UC)) (k := ?_); intro ao1 cap1)
      repeat (first | refine go (k := ?_) | (refine goB (k := ?_); intro b) | (refine goA (k := ?_); intro ao cap))
      apply End.imp (fun w hm => Mem.unitAdd us (⟨Opt.unit (m.us.getD q default).u, l1, l2, c1, c2⟩ : UC) hm (by (repeat (first | exact Take.head | apply Take.tail))) (by (repeat (first | exact Takes.nil | exact Take.head | apply Take.tail | apply Takes.cons))))
      refine End.round0_ hK1 (q + 1, us ++ [(⟨Opt.unit (m.us.getD q default).u, l1, l2, c1, c2⟩ : UC)], ao1, cap1) ?_ ?_
      · refine ⟨by simp only; omega, by simp [hzl], ?_⟩
        simp only
        rw [take_snoc hk, List.map_append, List.map_append, hz2]
        rfl
      · simp only; omega
    · repeat (first | refine go (k := ?_) | (refine goB (k := ?_); intro b) | (refine goA (k := ?_); intro ao cap))
      obtain rfl : q = us.length := hzl.symm
      have hl : us.length = m.us.length := by omega
      have hmd : (⟨m.bx, bo, bc, us, ao, ac⟩ : ML).mdl = Opt.mdl m.mdl := by
        unfold Opt.mdl
        simp only [ML.mdl, ImgM.Mdl.mk.injEq, true_and]
        rw [hz2, List.take_of_length_le (by omega), List.map_map]
        rfl
      refine End.doneCC (⟨m.bx, bo, bc, us, ao, ac⟩ : ML) (hr := by exact rfl) (hv := by exact rfl) (ht := by exact rfl) (hm := by (repeat (first | exact Take.head | apply Take.tail))) (hl := by exact rfl) (hu := by exact rfl) (ht2 := by exact rfl) (hm2 := by (repeat (first | exact Take.head | apply Take.tail))) (hl2 := by exact rfl) (he := rfl) (hp := by rw [hM, if_pos rfl]; exact hmd) (hx := by simp [arr_excl, bag_excl]) (hF := by exact tks)
end Go.Proofs.Ytfeajpghabjaaaa.Vw
