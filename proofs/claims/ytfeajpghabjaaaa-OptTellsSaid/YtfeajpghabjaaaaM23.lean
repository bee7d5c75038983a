/- yieldref14's small functions, walked. -/
import Derived.Test.YtfeajpghabjaaaaM22
namespace Go.Proofs.Ytfeajpghabjaaaa.Vw
open Go.RowKit Go.Proofs.Ytfeajpghabjaaaa.Img
set_option linter.unusedVariables false
set_option linter.unusedSimpArgs false
theorem toArrI {α : Type} [Inhabited α] (f : α → List Value) [Enc f] (l : List α) (n : Nat) (hn : l.length = n) (hx : n ≤ maxLen) {w : World} {L L' : List Chunk} {b : Nat} {e : TypeId} (t : Take (blk b (l.flatMap f) e) L L') (h : Mem w L) : Mem w (arr (some ⟨b, 0, none⟩) n n e f l :: L') := Mem.toArr h t l rfl hn hx
/-- three results -/
theorem End.done3 {P : Program} [Tabbed P] {N : Nat} {E : Env} {L F : List Chunk} {σ : Type} {fn : Func} {post : σ → Prop} {val : σ → Value} {mem : σ → List Chunk} {w0 : World} {S : Nat → Prop} {t u r : Tmp} {v v' v2 : Value} (x : σ) (hr : fn.results = #[.tmp t, .tmp u, .tmp r]) (hv : look E t = some v) (hv' : look E u = some v') (hv2 : look E r = some v2) (he : val x = .tuple #[v, v', v2]) (hp : post x) (hx : ∀ c ∈ mem x, c.excl = true) (hF : Takes (old w0 S :: mem x) L F) : End (bodyPost P fn (Owes post val mem w0 S)) N .ret E L := fun a w hs hM => by
  have h1 := hs.slot t _ hv
  have h2 := hs.slot u _ hv'
  have h3 := hs.slot r _ hv2
  refine bodyPost_ret (v := .tuple #[v, v', v2]) ?_ hs.defs ⟨x, hp, by rw [he], hx, (hM.takes hF).left⟩
  simp [results, hr, h1, h2, h3]
attribute [local irreducible] Run Cod End OpT Still RunQ RunS RunT Fn PutOk
theorem tgt_getD {l : List ImgM.Ins} {j : Nat} (h : j < l.length) (p : Int) : ((l.drop j).any fun i => Opt.isJ i && decide (i.a = p)) = ((Opt.isJ (l.getD j default) && decide ((l.getD j default).a = p)) || ((l.drop (j + 1)).any fun i => Opt.isJ i && decide (i.a = p))) := by
  rw [drop_cons h, List.any_cons]
set_option maxRecDepth 100000 in
set_option maxHeartbeats 1000000 in
theorem jumped_is (ao : Option Addr) (n cap : Nat) (l : List ImgM.Ins) (hn : l.length = n) (hm : n ≤ 1000000) (p : Int) : Fn Try.prog 67 #[.slice ao n cap, .int .i64 p] [rd ao n cap insC l] [] (σ := Unit) (fun _ => True) (fun _ => .bool (Opt.tgt l p)) (fun _ => []) := by
  subst hn
  obtain ⟨W, hW⟩ : ∃ W, W = Opt.tgt l p := ⟨_, rfl⟩
  rw [← hW]
  refine Fn.enter (args := [.slice ao l.length cap, .int .i64 p]) Try.func67 rfl _ Try.ntmps67 rfl (by simp [rd_excl, md_excl]) (fun w S => ?_)
  (try conv => rhs; simp only [List.cons_append, List.nil_append])
  repeat (first | refine go (k := ?_) | (refine goB (k := ?_); intro b) | (refine goA (k := ?_); intro ao cap))
  refine Cod.only ((fun j => [old w S, rd ao l.length cap insC l]) 0) (by (repeat (first | exact Takes.nil | exact Take.head | apply Take.tail | apply Takes.cons))) ?_
  apply Cod.loop (σ := Nat) (fun j => j ≤ l.length ∧ W = ((l.drop j).any fun i => Opt.isJ i && decide (i.a = p))) (fun j => [(1, .int .i64 p), (7, .slice ao l.length cap), (8, .int .i64 (l.length : Int)), (9, .int .i64 (j : Int))]) (fun j => [old w S, rd ao l.length cap insC l]) (fun j => l.length - j) 0
  rotate_left
  exact sb
  exact tks
  intro j hj K1 hK1
  (try conv => rhs; simp only [List.cons_append, List.nil_append])
  rotate_left
  · exact ⟨Nat.zero_le _, hW⟩
  obtain ⟨hj, hWj⟩ := hj
  by_cases hjl : j < l.length
  · rw [tgt_getD hjl] at hWj
    by_cases hJ : (l.getD j default).op = 21 ∨ (l.getD j default).op = 22
    · have hJ' := Opt.isJ_iff.2 hJ
      by_cases ha : (l.getD j default).a = p
      · rw [hJ', decide_eq_true ha] at hWj
        simp only [Bool.true_and, Bool.true_or] at hWj
        subst hWj
        rcases hJ with hJ | hJ
        · repeat (first | refine go (k := ?_) | (refine goB (k := ?_); intro b) | (refine goA (k := ?_); intro ao cap))
          (refine End.done1_ (()) (he := by (first | exact rfl | (refine congrArg (Value.int _) ?_; omega) | (refine congrArg (Value.int _) ?_; dsimp only; omega))) (hp := ?_))
          trivial
        · repeat (first | refine go (k := ?_) | (refine goB (k := ?_); intro b) | (refine goA (k := ?_); intro ao cap))
          (refine End.done1_ (()) (he := by (first | exact rfl | (refine congrArg (Value.int _) ?_; omega) | (refine congrArg (Value.int _) ?_; dsimp only; omega))) (hp := ?_))
          trivial
      · rw [decide_eq_false ha, Bool.and_false, Bool.false_or] at hWj
        rcases hJ with hJ | hJ
        · repeat (first | refine go (k := ?_) | (refine goB (k := ?_); intro b) | (refine goA (k := ?_); intro ao cap))
          refine End.round0_ hK1 (j + 1) ?_ ?_
          · exact ⟨by omega, hWj⟩
          · omega
        · repeat (first | refine go (k := ?_) | (refine goB (k := ?_); intro b) | (refine goA (k := ?_); intro ao cap))
          refine End.round0_ hK1 (j + 1) ?_ ?_
          · exact ⟨by omega, hWj⟩
          · omega
    · have hJ' : Opt.isJ (l.getD j default) = false := by
        cases h : Opt.isJ (l.getD j default) with
        | false => rfl
        | true => exact absurd (Opt.isJ_iff.1 h) hJ
      rw [hJ', Bool.false_and, Bool.false_or] at hWj
      have h1 : ¬ (l.getD j default).op = 21 := fun h => hJ (.inl h)
      have h2 : ¬ (l.getD j default).op = 22 := fun h => hJ (.inr h)
      repeat (first | refine go (k := ?_) | (refine goB (k := ?_); intro b) | (refine goA (k := ?_); intro ao cap))
      refine End.round0_ hK1 (j + 1) ?_ ?_
      · exact ⟨by omega, hWj⟩
      · omega
  · rw [List.drop_of_length_le (by omega), List.any_nil] at hWj
    subst hWj
    repeat (first | refine go (k := ?_) | (refine goB (k := ?_); intro b) | (refine goA (k := ?_); intro ao cap))
    (refine End.done1_ (()) (he := by (first | exact rfl | (refine congrArg (Value.int _) ?_; omega) | (refine congrArg (Value.int _) ?_; dsimp only; omega))) (hp := ?_))
    trivial
set_option maxRecDepth 100000 in
theorem word_is (i : ImgM.Ins) (ha : ImgM.In64 i.a) : Fn Try.prog 68 #[insV i] [] [] (σ := Unit) (fun _ => True) (fun _ => .tuple #[.int .i64 (Opt.cval i), .bool (Opt.isC i), .bool (Opt.tr14 i)]) (fun _ => []) := by
  have hcv : ∀ v, v = Opt.cval i → v = Opt.cval i := fun _ h => h
  obtain ⟨V, hV⟩ : ∃ V, V = Opt.cval i := ⟨_, rfl⟩
  obtain ⟨C, hC⟩ : ∃ C, C = Opt.isC i := ⟨_, rfl⟩
  obtain ⟨T, hT⟩ : ∃ T, T = Opt.tr14 i := ⟨_, rfl⟩
  rw [← hV, ← hC, ← hT]
  refine Fn.enter (args := [insV i]) Try.func68 rfl _ Try.ntmps68 rfl (by simp [rd_excl, md_excl]) (fun w S => ?_)
  (try conv => rhs; simp only [List.cons_append, List.nil_append])
  unfold Opt.cval at hV
  unfold Opt.isC at hC
  unfold Opt.tr14 at hT
  by_cases o1 : i.op = 1
  · rw [if_pos o1] at hV
    rw [decide_eq_true o1, Bool.true_or] at hC
    rw [decide_eq_false (by omega)] at hT
    subst hV hC hT
    repeat (first | refine go (k := ?_) | (refine goB (k := ?_); intro b) | (refine goA (k := ?_); intro ao cap))
    exact End.done3 () rfl rfl rfl rfl rfl trivial (by intro c hc; cases hc) tks
  by_cases o2 : i.op = 2
  · rw [if_neg o1, if_pos o2] at hV
    rw [decide_eq_true o2, Bool.or_true] at hC
    rw [decide_eq_true o2] at hT
    subst hV hC hT
    repeat (first | refine go (k := ?_) | (refine goB (k := ?_); intro b) | (refine goA (k := ?_); intro ao cap))
    exact End.done3 () rfl rfl rfl rfl rfl trivial (by intro c hc; cases hc) tks
  · rw [if_neg o1, if_neg o2] at hV
    rw [decide_eq_false o1, decide_eq_false o2, Bool.or_false] at hC
    rw [decide_eq_false o2] at hT
    subst hV hC hT
    repeat (first | refine go (k := ?_) | (refine goB (k := ?_); intro b) | (refine goA (k := ?_); intro ao cap))
    exact End.done3 () rfl rfl rfl rfl rfl trivial (by intro c hc; cases hc) tks
set_option maxRecDepth 100000 in
theorem num14_is (v : Int) : Fn Try.prog 71 #[.int .i64 v] [] [] (σ := Nat) (fun _ => True) (fun b => .slice (some ⟨b, 0, none⟩) 1 1) (fun b => [arr (some ⟨b, 0, none⟩) 1 1 57 insC (Opt.num14 v)]) := by
  refine Fn.enter (args := [.int .i64 v]) Try.func71 rfl _ Try.ntmps71 rfl (by simp [rd_excl, md_excl]) (fun w S => ?_)
  (try conv => rhs; simp only [List.cons_append, List.nil_append])
  repeat (first | refine go (k := ?_) | (refine goB (k := ?_); intro b) | (refine goA (k := ?_); intro ao cap))
  apply End.imp (fun w hm => toArrI insC (Opt.num14 v) 1 rfl (by unfold maxLen; omega) (b := b) (by (repeat (first | exact Take.head | apply Take.tail))) hm)
  (refine End.done1_ (b) (he := by (first | exact rfl | (refine congrArg (Value.int _) ?_; omega) | (refine congrArg (Value.int _) ?_; dsimp only; omega))) (hp := ?_))
  trivial
set_option maxRecDepth 100000 in
theorem ys14_is (t : Bool) : Fn Try.prog 72 #[.bool t] [] [] (σ := Nat) (fun _ => True) (fun b => .slice (some ⟨b, 0, none⟩) 1 1) (fun b => [arr (some ⟨b, 0, none⟩) 1 1 57 insC (Opt.ys14 t)]) := by
  refine Fn.enter (args := [.bool t]) Try.func72 rfl _ Try.ntmps72 rfl (by simp [rd_excl, md_excl]) (fun w S => ?_)
  (try conv => rhs; simp only [List.cons_append, List.nil_append])
  cases t
  all_goals (repeat (first | refine go (k := ?_) | (refine goB (k := ?_); intro b) | (refine goA (k := ?_); intro ao cap)))
  · apply End.imp (fun w hm => toArrI insC (Opt.ys14 false) 1 rfl (by unfold maxLen; omega) (b := b) (by (repeat (first | exact Take.head | apply Take.tail))) hm)
    (refine End.done1_ (b) (he := by (first | exact rfl | (refine congrArg (Value.int _) ?_; omega) | (refine congrArg (Value.int _) ?_; dsimp only; omega))) (hp := ?_))
    trivial
  · apply End.imp (fun w hm => toArrI insC (Opt.ys14 true) 1 rfl (by unfold maxLen; omega) (b := b) (by (repeat (first | exact Take.head | apply Take.tail))) hm)
    (refine End.done1_ (b) (he := by (first | exact rfl | (refine congrArg (Value.int _) ?_; omega) | (refine congrArg (Value.int _) ?_; dsimp only; omega))) (hp := ?_))
    trivial
set_option maxRecDepth 100000 in
theorem goes14_is (op : Int) (t : Bool) : Fn Try.prog 69 #[.int .i64 op, .bool t] [] [] (σ := Unit) (fun _ => True) (fun _ => .bool (Opt.goes14 op t)) (fun _ => []) := by
  obtain ⟨G, hG⟩ : ∃ G, G = Opt.goes14 op t := ⟨_, rfl⟩
  rw [← hG]
  unfold Opt.goes14 at hG
  refine Fn.enter (args := [.int .i64 op, .bool t]) Try.func69 rfl _ Try.ntmps69 rfl (by simp [rd_excl, md_excl]) (fun w S => ?_)
  (try conv => rhs; simp only [List.cons_append, List.nil_append])
  by_cases h1 : op = 13
  · rw [if_pos (.inl h1)] at hG
    subst hG
    repeat (first | refine go (k := ?_) | (refine goB (k := ?_); intro b) | (refine goA (k := ?_); intro ao cap))
    (refine End.done1_ (()) (he := by (first | exact rfl | (refine congrArg (Value.int _) ?_; omega) | (refine congrArg (Value.int _) ?_; dsimp only; omega))) (hp := ?_))
    trivial
  by_cases h2 : op = 14
  · rw [if_pos (.inr h2)] at hG
    subst hG
    repeat (first | refine go (k := ?_) | (refine goB (k := ?_); intro b) | (refine goA (k := ?_); intro ao cap))
    (refine End.done1_ (()) (he := by (first | exact rfl | (refine congrArg (Value.int _) ?_; omega) | (refine congrArg (Value.int _) ?_; dsimp only; omega))) (hp := ?_))
    trivial
  rw [if_neg (fun h => h.elim h1 h2)] at hG
  by_cases h3 : op = 19
  · rw [if_pos (.inl h3)] at hG
    subst hG
    repeat (first | refine go (k := ?_) | (refine goB (k := ?_); intro b) | (refine goA (k := ?_); intro ao cap))
    (refine End.done1_ (()) (he := by (first | exact rfl | (refine congrArg (Value.int _) ?_; omega) | (refine congrArg (Value.int _) ?_; dsimp only; omega))) (hp := ?_))
    trivial
  by_cases h4 : op = 20
  · rw [if_pos (.inr h4)] at hG
    subst hG
    repeat (first | refine go (k := ?_) | (refine goB (k := ?_); intro b) | (refine goA (k := ?_); intro ao cap))
    (refine End.done1_ (()) (he := by (first | exact rfl | (refine congrArg (Value.int _) ?_; omega) | (refine congrArg (Value.int _) ?_; dsimp only; omega))) (hp := ?_))
    trivial
  · rw [if_neg (fun h => h.elim h3 h4)] at hG
    subst hG
    repeat (first | refine go (k := ?_) | (refine goB (k := ?_); intro b) | (refine goA (k := ?_); intro ao cap))
    (refine End.done1_ (()) (he := by (first | exact rfl | (refine congrArg (Value.int _) ?_; omega) | (refine congrArg (Value.int _) ?_; dsimp only; omega))) (hp := ?_))
    trivial
end Go.Proofs.Ytfeajpghabjaaaa.Vw

/- yieldref14's Reckon, walked. -/
namespace Go.Proofs.Ytfeajpghabjaaaa.Vw
open Go.RowKit Go.Proofs.Ytfeajpghabjaaaa.Img
set_option linter.unusedVariables false
set_option linter.unusedSimpArgs false
attribute [local irreducible] Run Cod End OpT Still RunQ RunS RunT Fn PutOk
abbrev rkF (op a b : Int) : Prop := Fn Try.prog 70 #[.int .i64 op, .int .i64 a, .int .i64 b] [] [] (σ := Option Addr × Nat) (fun _ => True) (fun s => resV (Opt.rk14 op a b) s) (fun s => [arr s.1 (resL (Opt.rk14 op a b)).length s.2 57 insC (resL (Opt.rk14 op a b))])
set_option maxRecDepth 100000 in
set_option maxHeartbeats 1000000 in
theorem reckon_a (op a b : Int) (h : op ≤ 10) : rkF op a b := by
  unfold rkF
  obtain ⟨R, hR⟩ : ∃ R, R = Opt.rk14 op a b := ⟨_, rfl⟩
  rw [← hR]
  unfold Opt.rk14 at hR
  refine Fn.enter (args := [.int .i64 op, .int .i64 a, .int .i64 b]) Try.func70 rfl _ Try.ntmps70 rfl (by simp [rd_excl, md_excl]) (fun w S => ?_)
  (try conv => rhs; simp only [List.cons_append, List.nil_append])
  by_cases o8 : op = 8
  · rw [if_pos o8] at hR
    subst hR
    repeat (first | refine go (k := ?_) | (refine goB (k := ?_); intro b) | (refine goA (k := ?_); intro ao cap))
    (first | (apply Run.op; exact rfl) | refine Run.yes_ (h := ?_)); refine OpT.call0_ (spec := num14_is _) (k := ?_); intro s hs; (try conv => rhs; simp only [List.cons_append, List.nil_append])
    repeat (first | refine go (k := ?_) | (refine goB (k := ?_); intro b) | (refine goA (k := ?_); intro ao cap))
    refine End.done2_ (some ⟨s, 0, none⟩, 1) (he := rfl) (ht := by exact tks) (hp := trivial)
  by_cases o9 : op = 9
  · rw [if_neg (by omega), if_pos o9] at hR
    subst hR
    repeat (first | refine go (k := ?_) | (refine goB (k := ?_); intro b) | (refine goA (k := ?_); intro ao cap))
    (first | (apply Run.op; exact rfl) | refine Run.yes_ (h := ?_)); refine OpT.call0_ (spec := num14_is _) (k := ?_); intro s hs; (try conv => rhs; simp only [List.cons_append, List.nil_append])
    repeat (first | refine go (k := ?_) | (refine goB (k := ?_); intro b) | (refine goA (k := ?_); intro ao cap))
    refine End.done2_ (some ⟨s, 0, none⟩, 1) (he := rfl) (ht := by exact tks) (hp := trivial)
  by_cases o10 : op = 10
  · rw [if_neg (by omega), if_neg (by omega), if_pos o10] at hR
    subst hR
    repeat (first | refine go (k := ?_) | (refine goB (k := ?_); intro b) | (refine goA (k := ?_); intro ao cap))
    (first | (apply Run.op; exact rfl) | refine Run.yes_ (h := ?_)); refine OpT.call0_ (spec := num14_is _) (k := ?_); intro s hs; (try conv => rhs; simp only [List.cons_append, List.nil_append])
    repeat (first | refine go (k := ?_) | (refine goB (k := ?_); intro b) | (refine goA (k := ?_); intro ao cap))
    refine End.done2_ (some ⟨s, 0, none⟩, 1) (he := rfl) (ht := by exact tks) (hp := trivial)
  · rw [if_neg (by omega), if_neg (by omega), if_neg (by omega), if_neg (by omega), if_neg (by omega), if_neg (by omega), if_neg (by omega), if_neg (by omega), if_neg (by omega), if_neg (by omega), if_neg (by omega), if_neg (by omega)] at hR
    subst hR
    repeat (first | refine go (k := ?_) | (refine goB (k := ?_); intro b) | (refine goA (k := ?_); intro ao cap))
    apply End.imp (fun w hm => hm.nilArr 57 insC)
    refine End.done2_ (none, 0) (he := rfl) (ht := by exact tks) (hp := trivial)
set_option maxRecDepth 100000 in
set_option maxHeartbeats 1000000 in
theorem reckon_b (op a b : Int) (h : op = 11 ∨ op = 12) : rkF op a b := by
  unfold rkF
  obtain ⟨R, hR⟩ : ∃ R, R = Opt.rk14 op a b := ⟨_, rfl⟩
  rw [← hR]
  unfold Opt.rk14 at hR
  refine Fn.enter (args := [.int .i64 op, .int .i64 a, .int .i64 b]) Try.func70 rfl _ Try.ntmps70 rfl (by simp [rd_excl, md_excl]) (fun w S => ?_)
  (try conv => rhs; simp only [List.cons_append, List.nil_append])
  rw [if_neg (by omega), if_neg (by omega), if_neg (by omega), if_pos h] at hR
  by_cases b0 : b = 0
  · rw [if_pos b0] at hR
    rcases h with h | h
    all_goals subst hR
    all_goals (repeat (first | refine go (k := ?_) | (refine goB (k := ?_); intro b) | (refine goA (k := ?_); intro ao cap)))
    all_goals (apply End.imp (fun w hm => hm.nilArr 57 insC))
    all_goals (refine End.done2_ (none, 0) (he := rfl) (ht := by exact tks) (hp := trivial))
  rw [if_neg b0] at hR
  by_cases b1 : b = -1
  · have hq : Opt.qu14 a b = IntKind.i64.wrap (0 - a) := by unfold Opt.qu14; rw [if_pos b1]
    rw [hq] at hR
    by_cases o11 : op = 11
    · rw [if_pos o11] at hR
      subst hR
      repeat (first | refine go (k := ?_) | (refine goB (k := ?_); intro b) | (refine goA (k := ?_); intro ao cap))
      (first | (apply Run.op; exact rfl) | refine Run.yes_ (h := ?_)); refine OpT.call0_ (spec := num14_is _) (k := ?_); intro s hs; (try conv => rhs; simp only [List.cons_append, List.nil_append])
      repeat (first | refine go (k := ?_) | (refine goB (k := ?_); intro b) | (refine goA (k := ?_); intro ao cap))
      refine End.done2_ (some ⟨s, 0, none⟩, 1) (he := rfl) (ht := by exact tks) (hp := trivial)
    · rw [if_neg o11] at hR
      have o12 : op = 12 := by omega
      subst hR
      repeat (first | refine go (k := ?_) | (refine goB (k := ?_); intro b) | (refine goA (k := ?_); intro ao cap))
      (first | (apply Run.op; exact rfl) | refine Run.yes_ (h := ?_)); refine OpT.call0_ (spec := num14_is _) (k := ?_); intro s hs; (try conv => rhs; simp only [List.cons_append, List.nil_append])
      repeat (first | refine go (k := ?_) | (refine goB (k := ?_); intro b) | (refine goA (k := ?_); intro ao cap))
      refine End.done2_ (some ⟨s, 0, none⟩, 1) (he := rfl) (ht := by exact tks) (hp := trivial)
  · have hq : Opt.qu14 a b = IntKind.i64.wrap (a.tdiv b) := by unfold Opt.qu14; rw [if_neg b1]
    rw [hq] at hR
    by_cases o11 : op = 11
    · rw [if_pos o11] at hR
      subst hR
      repeat (first | refine go (k := ?_) | (refine goB (k := ?_); intro b) | (refine goA (k := ?_); intro ao cap))
      (apply Run.op; exact rfl; refine OpT.val_ (h := by exact Still.quo rfl rfl b0 rfl) (k := ?_))
      repeat (first | refine go (k := ?_) | (refine goB (k := ?_); intro b) | (refine goA (k := ?_); intro ao cap))
      (first | (apply Run.op; exact rfl) | refine Run.yes_ (h := ?_)); refine OpT.call0_ (spec := num14_is _) (k := ?_); intro s hs; (try conv => rhs; simp only [List.cons_append, List.nil_append])
      repeat (first | refine go (k := ?_) | (refine goB (k := ?_); intro b) | (refine goA (k := ?_); intro ao cap))
      refine End.done2_ (some ⟨s, 0, none⟩, 1) (he := rfl) (ht := by exact tks) (hp := trivial)
    · rw [if_neg o11] at hR
      have o12 : op = 12 := by omega
      subst hR
      repeat (first | refine go (k := ?_) | (refine goB (k := ?_); intro b) | (refine goA (k := ?_); intro ao cap))
      (apply Run.op; exact rfl; refine OpT.val_ (h := by exact Still.quo rfl rfl b0 rfl) (k := ?_))
      repeat (first | refine go (k := ?_) | (refine goB (k := ?_); intro b) | (refine goA (k := ?_); intro ao cap))
      (first | (apply Run.op; exact rfl) | refine Run.yes_ (h := ?_)); refine OpT.call0_ (spec := num14_is _) (k := ?_); intro s hs; (try conv => rhs; simp only [List.cons_append, List.nil_append])
      repeat (first | refine go (k := ?_) | (refine goB (k := ?_); intro b) | (refine goA (k := ?_); intro ao cap))
      refine End.done2_ (some ⟨s, 0, none⟩, 1) (he := rfl) (ht := by exact tks) (hp := trivial)
set_option maxRecDepth 100000 in
set_option maxHeartbeats 1000000 in
theorem reckon_c (op a b : Int) (h : 13 ≤ op) (h2 : op ≤ 18) : rkF op a b := by
  unfold rkF
  obtain ⟨R, hR⟩ : ∃ R, R = Opt.rk14 op a b := ⟨_, rfl⟩
  rw [← hR]
  unfold Opt.rk14 at hR
  refine Fn.enter (args := [.int .i64 op, .int .i64 a, .int .i64 b]) Try.func70 rfl _ Try.ntmps70 rfl (by simp [rd_excl, md_excl]) (fun w S => ?_)
  (try conv => rhs; simp only [List.cons_append, List.nil_append])
  rw [if_neg (by omega), if_neg (by omega), if_neg (by omega), if_neg (by omega)] at hR
  by_cases o13 : op = 13
  · rw [if_pos o13] at hR
    subst hR
    repeat (first | refine go (k := ?_) | (refine goB (k := ?_); intro b) | (refine goA (k := ?_); intro ao cap))
    (first | (apply Run.op; exact rfl) | refine Run.yes_ (h := ?_)); refine OpT.call0_ (spec := ys14_is _) (k := ?_); intro s hs; (try conv => rhs; simp only [List.cons_append, List.nil_append])
    repeat (first | refine go (k := ?_) | (refine goB (k := ?_); intro b) | (refine goA (k := ?_); intro ao cap))
    refine End.done2_ (some ⟨s, 0, none⟩, 1) (he := rfl) (ht := by exact tks) (hp := trivial)
  by_cases o14 : op = 14
  · rw [if_neg (by omega), if_pos o14] at hR
    subst hR
    repeat (first | refine go (k := ?_) | (refine goB (k := ?_); intro b) | (refine goA (k := ?_); intro ao cap))
    (first | (apply Run.op; exact rfl) | refine Run.yes_ (h := ?_)); refine OpT.call0_ (spec := ys14_is _) (k := ?_); intro s hs; (try conv => rhs; simp only [List.cons_append, List.nil_append])
    repeat (first | refine go (k := ?_) | (refine goB (k := ?_); intro b) | (refine goA (k := ?_); intro ao cap))
    refine End.done2_ (some ⟨s, 0, none⟩, 1) (he := rfl) (ht := by exact tks) (hp := trivial)
  by_cases o15 : op = 15
  · rw [if_neg (by omega), if_neg (by omega), if_pos o15] at hR
    subst hR
    repeat (first | refine go (k := ?_) | (refine goB (k := ?_); intro b) | (refine goA (k := ?_); intro ao cap))
    (first | (apply Run.op; exact rfl) | refine Run.yes_ (h := ?_)); refine OpT.call0_ (spec := ys14_is _) (k := ?_); intro s hs; (try conv => rhs; simp only [List.cons_append, List.nil_append])
    repeat (first | refine go (k := ?_) | (refine goB (k := ?_); intro b) | (refine goA (k := ?_); intro ao cap))
    refine End.done2_ (some ⟨s, 0, none⟩, 1) (he := rfl) (ht := by exact tks) (hp := trivial)
  by_cases o16 : op = 16
  · rw [if_neg (by omega), if_neg (by omega), if_neg (by omega), if_pos o16] at hR
    subst hR
    repeat (first | refine go (k := ?_) | (refine goB (k := ?_); intro b) | (refine goA (k := ?_); intro ao cap))
    (first | (apply Run.op; exact rfl) | refine Run.yes_ (h := ?_)); refine OpT.call0_ (spec := ys14_is _) (k := ?_); intro s hs; (try conv => rhs; simp only [List.cons_append, List.nil_append])
    repeat (first | refine go (k := ?_) | (refine goB (k := ?_); intro b) | (refine goA (k := ?_); intro ao cap))
    refine End.done2_ (some ⟨s, 0, none⟩, 1) (he := rfl) (ht := by exact tks) (hp := trivial)
  by_cases o17 : op = 17
  · rw [if_neg (by omega), if_neg (by omega), if_neg (by omega), if_neg (by omega), if_pos o17] at hR
    subst hR
    repeat (first | refine go (k := ?_) | (refine goB (k := ?_); intro b) | (refine goA (k := ?_); intro ao cap))
    (first | (apply Run.op; exact rfl) | refine Run.yes_ (h := ?_)); refine OpT.call0_ (spec := ys14_is _) (k := ?_); intro s hs; (try conv => rhs; simp only [List.cons_append, List.nil_append])
    repeat (first | refine go (k := ?_) | (refine goB (k := ?_); intro b) | (refine goA (k := ?_); intro ao cap))
    refine End.done2_ (some ⟨s, 0, none⟩, 1) (he := rfl) (ht := by exact tks) (hp := trivial)
  by_cases o18 : op = 18
  · rw [if_neg (by omega), if_neg (by omega), if_neg (by omega), if_neg (by omega), if_neg (by omega), if_pos o18] at hR
    subst hR
    repeat (first | refine go (k := ?_) | (refine goB (k := ?_); intro b) | (refine goA (k := ?_); intro ao cap))
    (first | (apply Run.op; exact rfl) | refine Run.yes_ (h := ?_)); refine OpT.call0_ (spec := ys14_is _) (k := ?_); intro s hs; (try conv => rhs; simp only [List.cons_append, List.nil_append])
    repeat (first | refine go (k := ?_) | (refine goB (k := ?_); intro b) | (refine goA (k := ?_); intro ao cap))
    refine End.done2_ (some ⟨s, 0, none⟩, 1) (he := rfl) (ht := by exact tks) (hp := trivial)
  omega
set_option maxRecDepth 100000 in
set_option maxHeartbeats 1000000 in
theorem reckon_d (op a b : Int) (h : 19 ≤ op) : rkF op a b := by
  unfold rkF
  obtain ⟨R, hR⟩ : ∃ R, R = Opt.rk14 op a b := ⟨_, rfl⟩
  rw [← hR]
  unfold Opt.rk14 at hR
  refine Fn.enter (args := [.int .i64 op, .int .i64 a, .int .i64 b]) Try.func70 rfl _ Try.ntmps70 rfl (by simp [rd_excl, md_excl]) (fun w S => ?_)
  (try conv => rhs; simp only [List.cons_append, List.nil_append])
  rw [if_neg (by omega), if_neg (by omega), if_neg (by omega), if_neg (by omega), if_neg (by omega), if_neg (by omega), if_neg (by omega), if_neg (by omega), if_neg (by omega), if_neg (by omega)] at hR
  by_cases o19 : op = 19
  · rw [if_pos o19] at hR
    by_cases a1 : a = 1
    · rw [decide_eq_true a1] at hR
      simp only [Bool.true_and, Bool.true_or] at hR
      subst hR
      repeat (first | refine go (k := ?_) | (refine goB (k := ?_); intro b) | (refine goA (k := ?_); intro ao cap))
      (first | (apply Run.op; exact rfl) | refine Run.yes_ (h := ?_)); refine OpT.call0_ (spec := ys14_is _) (k := ?_); intro s hs; (try conv => rhs; simp only [List.cons_append, List.nil_append])
      repeat (first | refine go (k := ?_) | (refine goB (k := ?_); intro b) | (refine goA (k := ?_); intro ao cap))
      refine End.done2_ (some ⟨s, 0, none⟩, 1) (he := rfl) (ht := by exact tks) (hp := trivial)
    · rw [decide_eq_false a1] at hR
      simp only [Bool.false_and, Bool.false_or] at hR
      subst hR
      repeat (first | refine go (k := ?_) | (refine goB (k := ?_); intro b) | (refine goA (k := ?_); intro ao cap))
      (first | (apply Run.op; exact rfl) | refine Run.yes_ (h := ?_)); refine OpT.call0_ (spec := ys14_is _) (k := ?_); intro s hs; (try conv => rhs; simp only [List.cons_append, List.nil_append])
      repeat (first | refine go (k := ?_) | (refine goB (k := ?_); intro b) | (refine goA (k := ?_); intro ao cap))
      refine End.done2_ (some ⟨s, 0, none⟩, 1) (he := rfl) (ht := by exact tks) (hp := trivial)
  by_cases o20 : op = 20
  · rw [if_neg (by omega), if_pos o20] at hR
    by_cases a1 : a = 1
    · rw [decide_eq_true a1] at hR
      simp only [Bool.true_and, Bool.true_or] at hR
      subst hR
      repeat (first | refine go (k := ?_) | (refine goB (k := ?_); intro b) | (refine goA (k := ?_); intro ao cap))
      (first | (apply Run.op; exact rfl) | refine Run.yes_ (h := ?_)); refine OpT.call0_ (spec := ys14_is _) (k := ?_); intro s hs; (try conv => rhs; simp only [List.cons_append, List.nil_append])
      repeat (first | refine go (k := ?_) | (refine goB (k := ?_); intro b) | (refine goA (k := ?_); intro ao cap))
      refine End.done2_ (some ⟨s, 0, none⟩, 1) (he := rfl) (ht := by exact tks) (hp := trivial)
    · rw [decide_eq_false a1] at hR
      simp only [Bool.false_and, Bool.false_or] at hR
      subst hR
      repeat (first | refine go (k := ?_) | (refine goB (k := ?_); intro b) | (refine goA (k := ?_); intro ao cap))
      (first | (apply Run.op; exact rfl) | refine Run.yes_ (h := ?_)); refine OpT.call0_ (spec := ys14_is _) (k := ?_); intro s hs; (try conv => rhs; simp only [List.cons_append, List.nil_append])
      repeat (first | refine go (k := ?_) | (refine goB (k := ?_); intro b) | (refine goA (k := ?_); intro ao cap))
      refine End.done2_ (some ⟨s, 0, none⟩, 1) (he := rfl) (ht := by exact tks) (hp := trivial)
  · rw [if_neg (by omega), if_neg (by omega)] at hR
    subst hR
    repeat (first | refine go (k := ?_) | (refine goB (k := ?_); intro b) | (refine goA (k := ?_); intro ao cap))
    apply End.imp (fun w hm => hm.nilArr 57 insC)
    refine End.done2_ (none, 0) (he := rfl) (ht := by exact tks) (hp := trivial)
theorem reckon_is (op a b : Int) : rkF op a b := by
  by_cases h1 : op ≤ 10
  · exact reckon_a op a b h1
  by_cases h2 : op = 11 ∨ op = 12
  · exact reckon_b op a b h2
  by_cases h3 : op ≤ 18
  · exact reckon_c op a b (by omega) h3
  · exact reckon_d op a b (by omega)
end Go.Proofs.Ytfeajpghabjaaaa.Vw

/- yieldref14's Rule: what stands alone. -/
namespace Go.Proofs.Ytfeajpghabjaaaa.Vw
open Go.RowKit Go.Proofs.Ytfeajpghabjaaaa.Img
set_option linter.unusedVariables false
set_option linter.unusedSimpArgs false
attribute [local irreducible] Run Cod End OpT Still RunQ RunS RunT Fn PutOk
abbrev loC (pb lb : Nat) (p : Nat) (ao : Option Addr) (n cap : Nat) : List Chunk := [blk pb [.int .i64 (p : Int)] 3, blk lb [.slice ao n cap] 36]
set_option maxRecDepth 100000 in
set_option maxHeartbeats 1000000 in
theorem lone_is (pb lb : Nat) (p : Nat) (ao : Option Addr) (n cap : Nat) (l : List ImgM.Ins) (hn : l.length = n) (hm : n ≤ 1000000) (hp : p ≤ n) (k : Nat) (hk : 1 ≤ k ∧ k ≤ 3) :
    Fn Try.prog 66 #[.int .i64 (k : Int), ptr pb, ptr lb] [rd ao n cap insC l] (loC pb lb p ao n cap) (σ := Unit) (fun _ => True) (fun _ => .bool (Opt.free l p k)) (fun _ => loC pb lb p ao n cap) := by
  refine Fn.enter (args := [.int .i64 (k : Int), ptr pb, ptr lb]) Try.func66 rfl _ Try.ntmps66 rfl (by simp [rd_excl, md_excl]) (fun w S => ?_)
  (try conv => rhs; simp only [List.cons_append, List.nil_append])
  repeat (first | refine go (k := ?_) | (refine goB (k := ?_); intro b) | (refine goA (k := ?_); intro ao cap))
  refine Cod.only ((fun j => [old w S, rd ao n cap insC l, blk pb [.int .i64 (p : Int)] 3, blk lb [.slice ao n cap] 36]) 1) (by (repeat (first | exact Takes.nil | exact Take.head | apply Take.tail | apply Takes.cons))) ?_
  apply Cod.loop (σ := Nat) (fun j => 1 ≤ j ∧ j ≤ k ∧ ∀ i, 0 < i → i < j → Opt.tgt l ((p + i : Nat) : Int) = false) (fun j => [(0, .int .i64 (k : Int)), (1, ptr pb), (2, ptr lb), (5, .int .i64 ((p : Int) + (j : Int)))]) (fun j => [old w S, rd ao n cap insC l, blk pb [.int .i64 (p : Int)] 3, blk lb [.slice ao n cap] 36]) (fun j => k - j) 1
  rotate_left
  exact sb
  exact tks
  intro j hs K1 hK1
  (try conv => rhs; simp only [List.cons_append, List.nil_append])
  rotate_left
  · exact ⟨Nat.le_refl _, hk.1, fun i h1 h2 => by omega⟩
  obtain ⟨h1, h2, h3⟩ := hs
  by_cases hjk : j < k
  · have hcast : ((p : Int) + (j : Int)) = ((p + j : Nat) : Int) := by omega
    cases ht : Opt.tgt l ((p + j : Nat) : Int) with
    | true =>
      have hfr : Opt.free l p k = false := by
        cases hx : Opt.free l p k with
        | false => rfl
        | true => rw [Opt.free_not hx (by omega) hjk] at ht; cases ht
      repeat (first | refine go (k := ?_) | (refine goB (k := ?_); intro b) | (refine goA (k := ?_); intro ao cap))
      rw [hcast]
      (first | (apply Run.op; exact rfl) | refine Run.yes_ (h := ?_)); refine OpT.call0_ (spec := jumped_is ao n cap l hn hm _) (k := ?_); intro s hs; (try conv => rhs; simp only [List.cons_append, List.nil_append])
      repeat (first | refine go (k := ?_) | (refine goB (k := ?_); intro b) | (refine goA (k := ?_); intro ao cap))
      (refine End.done1_ (()) (he := by rw [hfr]) (hp := ?_))
      trivial
    | false =>
      repeat (first | refine go (k := ?_) | (refine goB (k := ?_); intro b) | (refine goA (k := ?_); intro ao cap))
      rw [hcast]
      (first | (apply Run.op; exact rfl) | refine Run.yes_ (h := ?_)); refine OpT.call0_ (spec := jumped_is ao n cap l hn hm _) (k := ?_); intro s hs; (try conv => rhs; simp only [List.cons_append, List.nil_append])
      repeat (first | refine go (k := ?_) | (refine goB (k := ?_); intro b) | (refine goA (k := ?_); intro ao cap))
      refine End.round0_ hK1 (j + 1) ?_ ?_
      · refine ⟨by omega, by omega, fun i g1 g2 => ?_⟩
        by_cases hij : i = j
        · subst hij; exact ht
        · exact h3 i g1 (by omega)
      · omega
  · obtain rfl : j = k := by omega
    have hfr : Opt.free l p j = decide ((p : Int) + (j : Int) < (n : Int)) := by
      rw [free_to]
      have : ((List.range j).all fun k => decide (k = 0) || !Opt.tgt l ((p + k : Nat) : Int)) = true := all_range.2 fun i hi => by
        rw [Bool.or_eq_true, decide_eq_true_eq, Bool.not_eq_true']
        by_cases h0 : i = 0
        · exact .inl h0
        · exact .inr (h3 i (by omega) (by omega))
      rw [this, Bool.and_true, hn]
      exact decide_eq_decide.2 (by omega)
    repeat (first | refine go (k := ?_) | (refine goB (k := ?_); intro b) | (refine goA (k := ?_); intro ao cap))
    (refine End.done1_ (()) (he := by rw [hfr]) (hp := ?_))
    trivial
end Go.Proofs.Ytfeajpghabjaaaa.Vw

/- The document's answer to chapter 14: a pass under way. Plain Lean. -/
namespace Go.Proofs.Ytfeajpghabjaaaa.Vw
set_option linter.unusedVariables false
set_option linter.unusedSimpArgs false
theorem tgt_range {l : List ImgM.Ins} (hj : Jumps l) {p : Int} (h : Opt.tgt l p = true) : 0 ≤ p ∧ p < (l.length : Int) := by
  unfold Opt.tgt at h
  obtain ⟨i, hi, h⟩ := List.any_eq_true.1 h
  rw [Bool.and_eq_true, decide_eq_true_eq] at h
  have := hj i hi h.1
  rw [h.2] at this
  exact this
theorem tgt_mem {l : List ImgM.Ins} {i : ImgM.Ins} (hi : i ∈ l) (hJ : Opt.isJ i = true) : Opt.tgt l i.a = true := by
  unfold Opt.tgt
  exact List.any_eq_true.2 ⟨i, hi, by rw [hJ]; simp⟩
theorem em_tgt {l : List ImgM.Ins} {q : Nat} (hq : q < l.length) {i : ImgM.Ins} (hi : i ∈ Opt.em l q) (hJ : Opt.isJ i = true) : Opt.tgt l i.a = true := by
  by_cases hs : (Opt.shorter l q).2 = 0
  · unfold Opt.em at hi
    rw [if_pos hs] at hi
    simp at hi
    subst hi
    exact tgt_mem (Opt.mem_at hq) hJ
  · unfold Opt.em at hi
    rw [if_neg hs] at hi
    have kn : ∀ v t, i ∈ Opt.known v t → False := fun v t h => by
      unfold Opt.known at h
      split at h <;> (simp at h; subst h; simp [Opt.isJ] at hJ)
    rcases Opt.shorter_cases hs with ⟨r, g1, g2, g3⟩ | ⟨r, g1, g2, g3⟩ | ⟨g1, g2, g3, g4⟩
    · rw [g1] at hi
      simp only at hi
      unfold Opt.three at g3
      split at g3
      · cases g3
      split at g3
      · cases g3
      cases g3
      exact (kn _ _ hi).elim
    · have hlt := Opt.free_lt g2
      rw [g1] at hi
      simp only at hi
      unfold Opt.pair at g3
      split at g3
      · cases g3; cases hi
      split at g3
      · cases g3
      split at g3
      · cases g3; exact (kn _ _ hi).elim
      split at g3
      · cases g3
      split at g3
      · cases g3; exact (kn _ _ hi).elim
      split at g3
      · cases g3; cases hi
      split at g3
      · rename_i hb2
        cases g3
        simp at hi
        subst hi
        exact tgt_mem (i := Opt.at_ l (q + 1)) (Opt.mem_at (l := l) (q := q + 1) (by omega)) (Opt.isJ_iff.2 (.inr hb2))
      · cases g3
    · rw [g1] at hi; cases hi
theorem srcs_cons (l : List ImgM.Ins) (p : Nat) (r : List Nat) : Opt.srcs l (p :: r) = List.replicate (Opt.em l p).length p ++ Opt.srcs l r := by
  unfold Opt.srcs
  rw [List.flatMap_cons]
  congr 1
  have := Opt.em_len l p
  match hm : Opt.em l p with
  | [] => rfl
  | [i] => simp
  | _ :: _ :: _ => rw [hm] at this; simp at this
/-- what holds while a pass of the document's answer goes on -/
structure OInv (l : List ImgM.Ins) (s : Opt.PS) (src : List Nat) : Prop where
  inv : PassInv l s
  tg : ∀ i ∈ s.out, Opt.isJ i = true → Opt.tgt l i.a = true
  len : src.length = s.out.length
  src : ∃ f, l.length ≤ f + s.p ∧ Opt.srcs l (Opt.bs l) = src ++ Opt.srcs l (Opt.pcs l f s.p)
theorem OInv.zero (l : List ImgM.Ins) : OInv l ⟨0, [], List.replicate (l.length + 1) 0, false⟩ [] := ⟨PassInv.zero l, (fun i h => by cases h), rfl, ⟨l.length, by simp, rfl⟩⟩
theorem OInv.step {l : List ImgM.Ins} {s : Opt.PS} {src : List Nat} (hj : Jumps l) (h : OInv l s src) (hp : s.p < l.length) : OInv l (Opt.pstep l s) (src ++ List.replicate (Opt.em l s.p).length s.p) := by
  refine ⟨h.inv.step hj hp, fun i hi hJ => ?_, ?_, ?_⟩
  · rw [Opt.pstep_out, List.mem_append] at hi
    exact hi.elim (fun hi => h.tg i hi hJ) (fun hi => em_tgt hp hi hJ)
  · rw [Opt.pstep_out, List.length_append, List.length_append, h.len, List.length_replicate]
  · obtain ⟨f, hf, he⟩ := h.src
    obtain ⟨f', h1, h2⟩ := Opt.pcs_go hp hf
    refine ⟨f', by rw [Opt.pstep_p]; exact h2, ?_⟩
    rw [he, h1, srcs_cons, Opt.pstep_p, List.append_assoc]
theorem OInv.fin {l : List ImgM.Ins} {s : Opt.PS} {src : List Nat} (h : OInv l s src) (hp : ¬ s.p < l.length) : Opt.srcs l (Opt.bs l) = src := by
  obtain ⟨f, hf, he⟩ := h.src
  rw [he, Opt.pcs_done hp]
  simp [Opt.srcs]
/-- truths are none and one -/
def Bits (l : List ImgM.Ins) : Prop := ∀ i ∈ l, i.op = 2 → i.a = 0 ∨ i.a = 1
theorem UOk_bits {M : ImgM.Mdl} {u : ImgM.Unt} (h : Opt.UOk M u) : Bits u.code := fun i hi ho => by
  have := h.ins i hi
  unfold Ver.instr at this
  rw [if_pos ho] at this
  have := Ver.rng_eq this
  rw [Bool.or_eq_true, decide_eq_true_eq, decide_eq_true_eq] at this
  exact this
theorem Bits.cval {l : List ImgM.Ins} (h : Bits l) {i : ImgM.Ins} (hi : i ∈ l) (ho : i.op = 2) : Opt.cval i = 0 ∨ Opt.cval i = 1 := by
  unfold Opt.cval
  rw [if_neg (by omega), if_pos ho]
  exact h i hi ho
end Go.Proofs.Ytfeajpghabjaaaa.Vw
