/- verify: who comes where, walked. -/
import Derived.Test.YtkhagebjphaboaaM18
namespace Go.Proofs.Ytkhagebjphaboaa.Vw
open Go.RowKit Go.Proofs.Ytkhagebjphaboaa.Img
set_option linter.unusedVariables false
set_option linter.unusedSimpArgs false
attribute [local irreducible] Run Cod End OpT Still RunQ RunS RunT Fn PutOk

theorem Formed.calls {m : ML} (hf : Formed m) : ∀ k, k < m.us.length → ∀ i ∈ (m.mdl.units.getD k default).code, i.op = 23 ∨ i.op = 29 → 0 ≤ i.a ∧ i.a < (m.us.length : Int) := by
  intro k hk i hi ho
  rw [ML.unit_at] at hi
  have h := Ver.instr_ok (hf.instr k hk i hi)
  have hn : m.mdl.units.length = m.us.length := by simp
  rcases ho with ho | ho
  · obtain ⟨h1, h2, -⟩ := Ver.unit_eq (h.call ho)
    rw [hn] at h2; exact ⟨h1, h2⟩
  · obtain ⟨h1, h2, -⟩ := Ver.unit_eq (h.start ho)
    rw [hn] at h2; exact ⟨h1, h2⟩

set_option maxRecDepth 100000 in
theorem reach_is (cb mb : Nat) (m : ML) (hf : Formed m) (q : Nat) (hq : q < m.us.length) : Fn Try.prog 23 #[ptr cb, .int .i64 (q : Int)] [md m] (ck cb mb m) (σ := Option Addr × Nat) (fun _ => True) (fun s => .slice s.1 (Ver.reach m.mdl q).length s.2) (fun s => arr s.1 (Ver.reach m.mdl q).length s.2 3 i64c (Ver.reach m.mdl q) :: ck cb mb m) := by
  have hN := hf.units
  obtain ⟨R, hR⟩ : ∃ R, R = Ver.reach m.mdl q := ⟨_, rfl⟩
  rw [← hR]
  have hR0 : R = Ver.reachRun m.mdl (m.us.length + 1) 0 [(q : Int)] := by rw [hR]; unfold Ver.reach; simp
  clear hR
  refine Fn.enter (args := [ptr cb, .int .i64 (q : Int)]) Try.func23 rfl _ Try.ntmps23 rfl (by simp [rd_excl, md_excl]) (fun w S => ?_)
  (try conv => rhs; simp only [List.cons_append, List.nil_append])
  repeat (first | refine go (k := ?_) | (refine goB (k := ?_); intro b) | (refine goA (k := ?_); intro ao cap))
  apply Cod.imp (fun w hm => hm.toArr (f := i64c) tk [(q : Int)] rfl rfl (by unfold maxLen; simp))
  apply Cod.loop (σ := Nat × List Int × Option Addr × Nat × Nat) (fun s => Ver.Once m.us.length s.2.1 ∧ s.1 ≤ s.2.1.length ∧ s.2.1.length = s.2.2.2.2 ∧ R = Ver.reachRun m.mdl (m.us.length + 1 - s.1) s.1 s.2.1) (fun s => [(0, ptr cb), (5, .slice s.2.2.1 s.2.2.2.2 s.2.2.2.1), (6, .int .i64 (s.1 : Int))]) (fun s => old w S :: md m :: arr s.2.2.1 s.2.2.2.2 s.2.2.2.1 3 i64c s.2.1 :: ck cb mb m) (fun s => m.us.length + 1 - s.1) (0, [(q : Int)], some ⟨b, 0, none⟩, 1, 1)
  rotate_left
  exact sb
  exact tks
  intro s hs K hK
  (try conv => rhs; simp only [List.cons_append, List.nil_append])
  rotate_left
  · exact ⟨Ver.Once.one hq, by simp, rfl, hR0⟩
  clear hR0
  obtain ⟨k, out, ao, cap, n⟩ := s
  obtain ⟨ho, hk, hn, hRk⟩ := hs
  simp only at ho hk hn hRk hK ⊢
  have hol := ho.len
  by_cases hkn : k < n
  · have hx := ho.ok (out.getD k default) (getD_mem (by omega))
    have hxl : (out.getD k default).toNat < m.us.length := by omega
    have hrs := Ver.reachRun_step (M := m.mdl) (n := m.us.length - k) (k := k) (out := out) (by omega)
    rw [show m.us.length + 1 - k = (m.us.length - k) + 1 by omega, hrs, show out.getD k 0 = out.getD k default from rfl, ML.unit_at] at hRk
    have hcx := hf.calls _ hxl
    rw [ML.unit_at] at hcx
    apply Cod.fact m.Small (fun w hm => (md_holds.1 (hm.has tk)).small)
    intro hsm
    have hcl := hsm.co _ hxl
    clear hrs
    repeat (first | refine go (k := ?_) | (refine goB (k := ?_); intro b) | (refine goA (k := ?_); intro ao cap))
    apply Cod.loop (σ := Nat × List Int × Option Addr × Nat × Nat) (fun s => s.1 ≤ (m.us.getD (out.getD k default).toNat default).u.code.length ∧ Ver.Once m.us.length s.2.1 ∧ s.2.1.length = s.2.2.2.2 ∧ out.length ≤ s.2.1.length ∧ Ver.calls (m.us.getD (out.getD k default).toNat default).u.code out = Ver.calls ((m.us.getD (out.getD k default).toNat default).u.code.drop s.1) s.2.1) (fun s => [(0, ptr cb), (5, .slice s.2.2.1 s.2.2.2.2 s.2.2.2.1), (6, .int .i64 (k : Int)), (30, .slice (m.us.getD (out.getD k default).toNat default).co (m.us.getD (out.getD k default).toNat default).u.code.length (m.us.getD (out.getD k default).toNat default).cc), (31, .int .i64 ((m.us.getD (out.getD k default).toNat default).u.code.length : Int)), (32, .int .i64 (s.1 : Int))]) (fun s => old w S :: md m :: arr s.2.2.1 s.2.2.2.2 s.2.2.2.1 3 i64c s.2.1 :: ck cb mb m) (fun s => (m.us.getD (out.getD k default).toNat default).u.code.length - s.1) (0, out, ao, cap, n)
    rotate_left
    exact sb
    exact tks
    intro s hs KI hKI
    (try conv => rhs; simp only [List.cons_append, List.nil_append])
    rotate_left
    · exact ⟨Nat.zero_le _, ho, hn, Nat.le_refl _, rfl⟩
    obtain ⟨j, o, ao1, cap1, n1⟩ := s
    obtain ⟨hj, ho1, hn1, hle1, hcj⟩ := hs
    simp only at hj ho1 hn1 hle1 hcj hKI ⊢
    have hol1 := ho1.len
    by_cases hjl : j < (m.us.getD (out.getD k default).toNat default).u.code.length
    · rw [drop_cons hjl, Ver.calls_cons] at hcj
      have hia := hcx _ (getD_mem hjl)
      have h1once := Ver.call1_once ho1 hia
      unfold Ver.call1 at hcj h1once
      repeat' (first | ((first | (apply Run.op; exact rfl) | refine Run.yes_ (h := ?_)); refine OpT.call0_ (spec := contains_is _ _ _ _ hn1 (by omega) _) (k := ?_); intro s hs; (try conv => rhs; simp only [List.cons_append, List.nil_append])) | refine go (k := ?_) | (refine goB (k := ?_); intro b) | (refine goA (k := ?_); intro ao cap) | refine goQ (k := fun h => ?_) (k' := fun h => ?_) | fail)
      all_goals first
        | (refine End.round0_ hKI (j + 1, o ++ [((m.us.getD (out.getD k default).toNat default).u.code.getD j default).a], ao, cap, n1 + 1) ?_ ?_
           · rw [if_pos ⟨by omega, by assumption⟩] at hcj h1once
             exact ⟨by simp only; omega, h1once, by simp only [List.length_append, List.length_cons, List.length_nil]; omega, by simp only [List.length_append, List.length_cons, List.length_nil]; omega, hcj⟩
           · simp only; omega)
        | (refine End.round0_ hKI (j + 1, o, ao1, cap1, n1) ?_ ?_
           · rw [if_neg (fun h' => by first | exact h'.2 (by assumption) | (have := h'.1; omega))] at hcj h1once
             exact ⟨by simp only; omega, h1once, hn1, hle1, hcj⟩
           · simp only; omega)
    · rw [List.drop_of_length_le (by omega), Ver.calls_nil] at hcj
      rw [hcj] at hRk
      repeat (first | refine go (k := ?_) | (refine goB (k := ?_); intro b) | (refine goA (k := ?_); intro ao cap))
      refine End.round0_ hK (k + 1, o, ao1, cap1, n1) ?_ ?_
      · exact ⟨ho1, by simp only; omega, hn1, by simp only; rw [hRk]; congr 1; omega⟩
      · simp only; omega
  · rw [Ver.reachRun_end (by omega)] at hRk
    subst hRk
    subst hn
    repeat (first | refine go (k := ?_) | (refine goB (k := ?_); intro b) | (refine goA (k := ?_); intro ao cap))
    (refine End.done1_ ((ao, cap)) (he := by (first | exact rfl | (refine congrArg (Value.int _) ?_; omega) | (refine congrArg (Value.int _) ?_; dsimp only; omega))) (hp := ?_))
    trivial

abbrev intB (b : Nat) (v : Int) : Chunk := blk b [.int .i64 v] 3
/-- what a closure of 'owned' sees -/
abbrev oc (pc ob bb cb mb : Nat) (op bx : Int) (m : ML) : List Chunk := blk pc [ptr cb] 43 :: intB ob op :: intB bb bx :: ck cb mb m
set_option maxRecDepth 100000 in
theorem owned11_is (pc ob bb cb mb : Nat) (op bx : Int) (m : ML) (i : ImgM.Ins) : Fn Try.prog 26 #[insV i, ptr ob, ptr bb] [md m] (oc pc ob bb cb mb op bx m) (σ := Unit) (fun _ => True) (fun _ => .bool (decide (i.op = op) && decide (i.a = bx))) (fun _ => oc pc ob bb cb mb op bx m) := by
  refine Fn.enter (args := [insV i, ptr ob, ptr bb]) Try.func26 rfl _ Try.ntmps26 rfl (by simp [rd_excl, md_excl]) (fun w S => ?_)
  (try conv => rhs; simp only [List.cons_append, List.nil_append])
  repeat' (first | refine go (k := ?_) | (refine goB (k := ?_); intro b) | (refine goA (k := ?_); intro ao cap) | refine goQ (k := fun h => ?_) (k' := fun h => ?_) | fail)
  all_goals ((refine End.done1_ (()) (he := by refine bool_eq ?_; (first | (simp [*]; done) | (simp []; omega) | (rw [Bool.eq_iff_iff]; simp []; omega) | (simp [*]; intros; omega))) (hp := ?_)); trivial)
set_option maxRecDepth 100000 in
theorem owned1_is (pc ob bb cb mb : Nat) (op bx : Int) (m : ML) (x : Nat) (hx : x < m.us.length) (hsm : m.Small) : Fn Try.prog 24 #[.int .i64 (x : Int), ptr pc, ptr ob, ptr bb] [md m] (oc pc ob bb cb mb op bx m) (σ := Unit) (fun _ => True) (fun _ => .bool ((m.us.getD x default).u.code.any fun i => decide (i.op = op) && decide (i.a = bx))) (fun _ => oc pc ob bb cb mb op bx m) := by
  refine Fn.enter (args := [.int .i64 (x : Int), ptr pc, ptr ob, ptr bb]) Try.func24 rfl _ Try.ntmps24 rfl (by simp [rd_excl, md_excl]) (fun w S => ?_)
  (try conv => rhs; simp only [List.cons_append, List.nil_append])
  repeat (first | refine go (k := ?_) | (refine goB (k := ?_); intro b) | (refine goA (k := ?_); intro ao cap))
  (apply Run.op; exact rfl; refine OpT.call0_ (spec := containsFuncN_is _ _ _ _ rfl (hsm.co x hx) _ [ptr ob, ptr bb] (md m) md_excl (oc pc ob bb cb mb op bx m) (by simp [blk_excl]) (fun i => decide (i.op = op) && decide (i.a = bx)) (by kernel_rfl) (fun i hi => owned11_is pc ob bb cb mb op bx m i)) (k := ?_); intro s hs; (try conv => rhs; simp only [List.cons_append, List.nil_append]))
  repeat (first | refine go (k := ?_) | (refine goB (k := ?_); intro b) | (refine goA (k := ?_); intro ao cap))
  (refine End.done1_ (()) (he := by rfl) (hp := ?_))
  trivial

set_option maxRecDepth 100000 in
set_option maxHeartbeats 1000000 in
theorem owned_is (cb mb : Nat) (m : ML) (hf : Formed m) : Fn Try.prog 12 #[ptr cb] [md m] (ck cb mb m) (σ := Unit) (fun _ => True) (fun _ => whereV (Ver.owned m.mdl 0 m.bx.length)) (fun _ => ck cb mb m) := by
  have hN := hf.units
  have hB := hf.boxes
  obtain ⟨W, hW⟩ : ∃ W, W = Ver.owned m.mdl 0 m.bx.length := ⟨_, rfl⟩
  rw [← hW]
  have hnu : m.mdl.units.length = m.us.length := by simp
  refine Fn.enter (args := [ptr cb]) Try.func12 rfl _ Try.ntmps12 rfl (by simp [rd_excl, md_excl]) (fun w S => ?_)
  (try conv => rhs; simp only [List.cons_append, List.nil_append])
  apply Cod.fact m.Small (fun w hm => (md_holds.1 (hm.has tk)).small)
  intro hsm
  repeat (first | refine go (k := ?_) | (refine goB (k := ?_); intro b) | (refine goA (k := ?_); intro ao cap))
  obtain ⟨wb, rfl⟩ : ∃ x, x = b := ⟨_, rfl⟩
  obtain ⟨pc, rfl⟩ : ∃ x, x = b := ⟨_, rfl⟩
  apply Cod.loop (σ := Nat) (fun k => k ≤ m.bx.length ∧ W = Ver.owned m.mdl k (m.bx.length - k)) (fun k => [(0, ptr cb), (1, ptr pc), (2, ptr wb), (16, .int .i64 (m.bx.length : Int)), (17, .int .i64 (k : Int))]) (fun _ => old w S :: md m :: blk wb [.int .i64 0, .int .i64 0, .int .i64 0] 28 :: blk pc [ptr cb] 43 :: ck cb mb m) (fun k => m.bx.length - k) 0
  rotate_left
  exact sb
  exact tks
  intro bx hs K1 hK1
  (try conv => rhs; simp only [List.cons_append, List.nil_append])
  rotate_left
  · exact ⟨Nat.zero_le _, hW⟩
  obtain ⟨hb, hWb⟩ := hs
  by_cases hbl : bx < m.bx.length
  · rw [show m.bx.length - bx = (m.bx.length - (bx + 1)) + 1 by omega] at hWb
    repeat (first | refine go (k := ?_) | (refine goB (k := ?_); intro b) | (refine goA (k := ?_); intro ao cap))
    obtain ⟨sl, rfl⟩ : ∃ x, x = b := ⟨_, rfl⟩
    obtain ⟨bb, rfl⟩ : ∃ x, x = b := ⟨_, rfl⟩
    apply Cod.imp (fun w hm => hm.toArr (f := i64c) (n := 2) tk [26, 27] rfl rfl (by unfold maxLen; omega))
    apply Cod.loop (σ := Nat) (fun j => j ≤ 2 ∧ (0 < j → ¬ 1 < Ver.users m.mdl 26 bx) ∧ (1 < j → ¬ 1 < Ver.users m.mdl 27 bx)) (fun j => [(0, ptr cb), (1, ptr pc), (2, ptr wb), (3, ptr bb), (16, .int .i64 (m.bx.length : Int)), (17, .int .i64 (bx : Int)), (20, .slice (some ⟨sl, 0, none⟩) 2 2), (21, .int .i64 ((2 : Nat) : Int)), (22, .int .i64 (j : Int))]) (fun _ => old w S :: md m :: blk wb [.int .i64 0, .int .i64 0, .int .i64 0] 28 :: blk pc [ptr cb] 43 :: arr (some ⟨sl, 0, none⟩) 2 2 3 i64c [26, 27] :: intB bb bx :: ck cb mb m) (fun j => 2 - j) 0
    rotate_left
    exact sb
    exact tks
    intro j hs K2 hK2
    (try conv => rhs; simp only [List.cons_append, List.nil_append])
    rotate_left
    · exact ⟨by omega, by omega, by omega⟩
    obtain ⟨hj, hj0, hj1⟩ := hs
    by_cases hj2 : j < 2
    · have hop : ([26, 27] : List Int).getD j default = 26 ∧ j = 0 ∨ ([26, 27] : List Int).getD j default = 27 ∧ j = 1 := by
        rcases (by omega : j = 0 ∨ j = 1) with rfl | rfl
        · exact .inl ⟨rfl, rfl⟩
        · exact .inr ⟨rfl, rfl⟩
      repeat (first | refine go (k := ?_) | (refine goB (k := ?_); intro b) | (refine goA (k := ?_); intro ao cap))
      obtain ⟨ob, rfl⟩ : ∃ x, x = b := ⟨_, rfl⟩
      generalize ([26, 27] : List Int).getD j default = op at *
      apply Cod.loop (σ := Nat × Nat) (fun s => s.1 ≤ m.us.length ∧ s.2 = Ver.usersTo m.mdl op bx s.1) (fun s => [(0, ptr cb), (1, ptr pc), (2, ptr wb), (3, ptr bb), (5, ptr ob), (6, .int .i64 (s.2 : Int)), (16, .int .i64 (m.bx.length : Int)), (17, .int .i64 (bx : Int)), (20, .slice (some ⟨sl, 0, none⟩) 2 2), (21, .int .i64 ((2 : Nat) : Int)), (22, .int .i64 (j : Int)), (32, .slice m.uo m.us.length m.uc), (33, .int .i64 (m.us.length : Int)), (34, .int .i64 (s.1 : Int))]) (fun _ => old w S :: md m :: blk wb [.int .i64 0, .int .i64 0, .int .i64 0] 28 :: blk pc [ptr cb] 43 :: arr (some ⟨sl, 0, none⟩) 2 2 3 i64c [26, 27] :: intB bb bx :: intB ob op :: ck cb mb m) (fun s => m.us.length - s.1) (0, 0)
      rotate_left
      exact sb
      exact tks
      intro s hs K3 hK3
      (try conv => rhs; simp only [List.cons_append, List.nil_append])
      rotate_left
      · exact ⟨Nat.zero_le _, rfl⟩
      obtain ⟨k, n⟩ := s
      obtain ⟨hk, hn⟩ := hs
      simp only at hk hn hK3 ⊢
      have hnk := Ver.usersTo_le m.mdl op bx k
      by_cases hkl : k < m.us.length
      · have hro : Ver.Once m.us.length (Ver.reach m.mdl k) := Ver.reachRun_once hf.calls _ _ _ (Ver.Once.one hkl)
        have hrl := hro.len
        have hfn : ∀ x ∈ Ver.reach m.mdl k, Fn Try.prog 24 (#[.int .i64 x] ++ [ptr pc, ptr ob, ptr bb].toArray) [md m] (oc pc ob bb cb mb op bx m) (σ := Unit) (fun _ => True) (fun _ => .bool ((m.us.getD x.toNat default).u.code.any fun i => decide (i.op = op) && decide (i.a = bx))) (fun _ => oc pc ob bb cb mb op bx m) := fun x hx => by
          obtain ⟨h1, h2⟩ := hro.ok x hx
          obtain ⟨y, rfl⟩ := Int.eq_ofNat_of_zero_le h1
          exact owned1_is pc ob bb cb mb op bx m y (by omega) hsm
        have hus : Ver.uses m.mdl op bx k = (Ver.reach m.mdl k).any fun x => (m.us.getD x.toNat default).u.code.any fun i => decide (i.op = op) && decide (i.a = bx) := by
          unfold Ver.uses; simp only [getD_u]
        have hsu := Ver.usersTo_succ m.mdl op bx k
        rw [ML.unit_at, hus] at hsu
        repeat' (first | ((first | (apply Run.op; exact rfl) | refine Run.yes_ (h := ?_)); refine OpT.call0_ (spec := reach_is cb mb m hf k hkl) (k := ?_); intro s hs; (try conv => rhs; simp only [List.cons_append, List.nil_append])) | ((first | (apply Run.op; exact rfl) | refine Run.yes_ (h := ?_)); refine OpT.call0_ (spec := containsFuncI_is _ _ _ (Ver.reach m.mdl k) rfl (by omega) _ [ptr pc, ptr ob, ptr bb] (md m) md_excl (oc pc ob bb cb mb op bx m) (by simp [blk_excl]) (fun x => (m.us.getD x.toNat default).u.code.any fun i => decide (i.op = op) && decide (i.a = bx)) (by kernel_rfl) hfn) (k := ?_); intro s hs; (try conv => rhs; simp only [List.cons_append, List.nil_append])) | refine go (k := ?_) | (refine goB (k := ?_); intro b) | (refine goA (k := ?_); intro ao cap) | refine goQ (k := fun h => ?_) (k' := fun h => ?_) | fail)
        · rw [if_pos (by rw [Bool.and_eq_true, decide_eq_true_eq]; exact ⟨by assumption, h⟩)] at hsu
          refine End.round0_ hK3 (k + 1, n + 1) ?_ ?_
          · exact ⟨by simp only; omega, by simp only; omega⟩
          · simp only; omega
        · rw [if_neg (by rw [Bool.and_eq_true]; intro h'; rw [h'.2] at h; cases h)] at hsu
          refine End.round0_ hK3 (k + 1, n) ?_ ?_
          · exact ⟨by simp only; omega, by simp only; omega⟩
          · simp only; omega
        · rw [if_neg (by rw [Bool.and_eq_true, decide_eq_true_eq]; intro h'; exact h h'.1)] at hsu
          refine End.round0_ hK3 (k + 1, n) ?_ ?_
          · exact ⟨by simp only; omega, by simp only; omega⟩
          · simp only; omega
      · have hkN : k = m.us.length := by omega
        subst hkN
        have hnu2 : n = Ver.users m.mdl op bx := by
          rw [hn]; unfold Ver.users Ver.usersTo; rw [hnu]
        repeat' (first | refine go (k := ?_) | (refine goB (k := ?_); intro b) | (refine goA (k := ?_); intro ao cap) | refine goQ (k := fun h => ?_) (k' := fun h => ?_) | fail)
        · have hWx : W = ⟨8, 0, bx⟩ := by
            rw [hWb]
            refine Ver.owned_1 ?_
            rcases hop with ⟨rfl, -⟩ | ⟨rfl, -⟩
            · exact .inl (by omega)
            · exact .inr (by omega)
          (refine End.doneC1_ (()) (he := by exact where_eq hWx) (hp := ?_))
          trivial
        · refine End.round0_ hK2 (j + 1) ?_ ?_
          · rcases hop with ⟨rfl, rfl⟩ | ⟨rfl, rfl⟩
            · exact ⟨by omega, fun _ => by omega, fun h => by omega⟩
            · exact ⟨by omega, fun _ => hj0 (by omega), fun _ => by omega⟩
          · omega
    · have hj2' : j = 2 := by omega
      rw [Ver.owned_2 (fun h => h.elim (hj0 (by omega)) (hj1 (by omega)))] at hWb
      repeat (first | refine go (k := ?_) | (refine goB (k := ?_); intro b) | (refine goA (k := ?_); intro ao cap))
      refine End.round0_ hK1 (bx + 1) ?_ ?_
      · exact ⟨by omega, hWb⟩
      · omega
  · rw [show m.bx.length - bx = 0 by omega] at hWb
    repeat (first | refine go (k := ?_) | (refine goB (k := ?_); intro b) | (refine goA (k := ?_); intro ao cap))
    (refine End.doneC1_ (()) (he := by exact where_eq hWb) (hp := ?_))
    trivial
end Go.Proofs.Ytkhagebjphaboaa.Vw

/- verify.Verify, walked. -/
namespace Go.Proofs.Ytkhagebjphaboaa.Vw
open Go.RowKit Go.Proofs.Ytkhagebjphaboaa.Img
set_option linter.unusedVariables false
set_option linter.unusedSimpArgs false
attribute [local irreducible] Run Cod End OpT Still RunQ RunS RunT Fn PutOk

theorem formed {m : ML} (h : Ver.FormOk m.mdl) : Formed m := by
  have hu : ∀ k, k < m.us.length → (m.us.getD k default).u ∈ m.mdl.units := fun k hk => List.mem_map.2 ⟨_, ML.uat_mem hk, rfl⟩
  exact ⟨h.nboxes, by simpa using h.nunits, fun k hk => (h.units _ (hu k hk)).1, fun k hk => (h.units _ (hu k hk)).2⟩

theorem Cod.only {P : Program} {Q : Exit → Act → World → Prop} {N : Nat} {E : Env} {c : Code} {L F : List Chunk} (cs : List Chunk) (t : Takes cs L F) (h : Cod P Q N c E cs) : Cod P Q N c E L :=
  Cod.imp (fun w hm => (hm.takes t).left) h
set_option maxRecDepth 100000 in
theorem verify_is (m : ML) (hwf : m.Wf) : Fn Try.prog 6 #[m.val] [md m] [] (σ := Unit) (fun _ => True) (fun _ => whereV (Ver.verify m.mdl)) (fun _ => []) := by
  obtain ⟨W, hW⟩ : ∃ W, W = Ver.verify m.mdl := ⟨_, rfl⟩
  rw [← hW]
  have hnu : m.mdl.units.length = m.us.length := by simp
  refine Fn.enter (args := [m.val]) Try.func6 rfl _ Try.ntmps6 rfl (by simp [rd_excl, md_excl]) (fun w S => ?_)
  (try conv => rhs; simp only [List.cons_append, List.nil_append])
  apply Cod.fact m.Small (fun w hm => (md_holds.1 (hm.has tk)).small)
  intro hsm
  have hs2 := hsm.us
  repeat (first | refine go (k := ?_) | (refine goB (k := ?_); intro b) | (refine goA (k := ?_); intro ao cap))
  obtain ⟨cb, rfl⟩ : ∃ x, x = b := ⟨_, rfl⟩
  obtain ⟨wb, rfl⟩ : ∃ x, x = b := ⟨_, rfl⟩
  obtain ⟨mb, rfl⟩ : ∃ x, x = b := ⟨_, rfl⟩
  (apply Run.op; exact rfl; refine OpT.call0_ (spec := form_is cb mb m hwf) (k := ?_); intro s hs; (try conv => rhs; simp only [List.cons_append, List.nil_append]))
  by_cases hf : (Ver.form m.mdl).err = 0
  · have hF := formed (Ver.form_ok.1 hf)
    repeat (first | refine go (k := ?_) | (refine goB (k := ?_); intro b) | (refine goA (k := ?_); intro ao cap))
    refine Cod.only ((fun _ => old w S :: md m :: blk wb [.int .i64 0, .int .i64 0, .int .i64 0] 28 :: ck cb mb m) 0) (by (repeat (first | exact Takes.nil | exact Take.head | apply Take.tail | apply Takes.cons))) ?_
    apply Cod.loop (σ := Nat) (fun k => k ≤ m.us.length ∧ Ver.codes m.mdl 0 m.mdl.units.length = Ver.codes m.mdl k (m.us.length - k)) (fun k => [(1, ptr mb), (2, ptr wb), (3, ptr cb), (17, .int .i64 (m.us.length : Int)), (18, .int .i64 (k : Int))]) (fun _ => old w S :: md m :: blk wb [.int .i64 0, .int .i64 0, .int .i64 0] 28 :: ck cb mb m) (fun k => m.us.length - k) 0
    rotate_left
    exact sb
    exact tks
    intro k hs K1 hK1
    (try conv => rhs; simp only [List.cons_append, List.nil_append])
    rotate_left
    · exact ⟨Nat.zero_le _, by simp⟩
    obtain ⟨hk, hc⟩ := hs
    by_cases hkl : k < m.us.length
    · rw [show m.us.length - k = (m.us.length - (k + 1)) + 1 by omega] at hc
      repeat (first | refine go (k := ?_) | (refine goB (k := ?_); intro b) | (refine goA (k := ?_); intro ao cap))
      (apply Run.op; exact rfl; refine OpT.call0_ (spec := code_is cb mb m k hkl hF hwf) (k := ?_); intro s hs; (try conv => rhs; simp only [List.cons_append, List.nil_append]))
      by_cases he : (Ver.code m.mdl k).err = 0
      · rw [Ver.codes_2 he] at hc
        repeat (first | refine go (k := ?_) | (refine goB (k := ?_); intro b) | (refine goA (k := ?_); intro ao cap))
        refine End.round0_ hK1 (k + 1) ?_ ?_
        · exact ⟨by omega, hc⟩
        · omega
      · rw [Ver.codes_1 he] at hc
        have hWx : W = Ver.code m.mdl k := by
          rw [hW, Ver.verify_2 hf (by rw [hc]; exact he), hc]
        repeat (first | refine go (k := ?_) | (refine goB (k := ?_); intro b) | (refine goA (k := ?_); intro ao cap))
        (refine End.doneC1_ (()) (he := by exact where_eq hWx) (hp := ?_))
        trivial
    · have hWx : W = Ver.owned m.mdl 0 m.bx.length := by
        rw [hW, Ver.verify_3 hf (by rw [hc, show m.us.length - k = 0 by omega]; rfl)]
      repeat (first | refine go (k := ?_) | (refine goB (k := ?_); intro b) | (refine goA (k := ?_); intro ao cap))
      (apply Run.op; exact rfl; refine OpT.call0_ (spec := owned_is cb mb m hF) (k := ?_); intro s hs; (try conv => rhs; simp only [List.cons_append, List.nil_append]))
      repeat (first | refine go (k := ?_) | (refine goB (k := ?_); intro b) | (refine goA (k := ?_); intro ao cap))
      (refine End.doneC1_ (()) (he := by exact where_eq hWx) (hp := ?_))
      trivial
  · have hWx : W = Ver.form m.mdl := by rw [hW, Ver.verify_1 hf]
    repeat (first | refine go (k := ?_) | (refine goB (k := ?_); intro b) | (refine goA (k := ?_); intro ao cap))
    (refine End.doneC1_ (()) (he := by exact where_eq hWx) (hp := ?_))
    trivial
end Go.Proofs.Ytkhagebjphaboaa.Vw

/- yieldref7's small functions, walked: plain, Is, Letter, Head, Instr. -/
namespace Go.Proofs.Ytkhagebjphaboaa.Vw
open Go.RowKit Go.Proofs.Ytkhagebjphaboaa.Img
set_option linter.unusedVariables false
set_option linter.unusedSimpArgs false
attribute [local irreducible] Run Cod End OpT Still RunQ RunS RunT Fn PutOk
set_option maxRecDepth 100000 in
theorem plain7_is (t : Int) : Fn Try.prog 27 #[.int .i64 t] [] [] (σ := Unit) (fun _ => True) (fun _ => .bool (Ver.plain t)) (fun _ => []) := by
  refine Fn.enter (args := [.int .i64 t]) Try.func27 rfl _ Try.ntmps27 rfl (by simp [rd_excl, md_excl]) (fun w S => ?_)
  (try conv => rhs; simp only [List.cons_append, List.nil_append])
  repeat' (first | refine go (k := ?_) | (refine goB (k := ?_); intro b) | (refine goA (k := ?_); intro ao cap) | refine goQ (k := fun h => ?_) (k' := fun h => ?_) | fail)
  all_goals ((refine End.done1_ (()) (he := by refine bool_eq ?_; (first | (simp [Ver.plain, *]; done) | (simp [Ver.plain]; omega) | (rw [Bool.eq_iff_iff]; simp [Ver.plain]; omega) | (simp [Ver.plain, *]; intros; omega))) (hp := ?_)); trivial)
set_option maxRecDepth 100000 in
theorem is7_is (m : ML) (k kd : Int) : Fn Try.prog 48 #[m.val, .int .i64 k, .int .i64 kd] [md m] [] (σ := Unit) (fun _ => True) (fun _ => .bool (Ver.isUnit m.mdl k kd)) (fun _ => []) := by
  refine Fn.enter (args := [m.val, .int .i64 k, .int .i64 kd]) Try.func48 rfl _ Try.ntmps48 rfl (by simp [rd_excl, md_excl]) (fun w S => ?_)
  (try conv => rhs; simp only [List.cons_append, List.nil_append])
  repeat' (first | refine go (k := ?_) | (refine goB (k := ?_); intro b) | (refine goA (k := ?_); intro ao cap) | refine goQ (k := fun h => ?_) (k' := fun h => ?_) | fail)
  all_goals ((refine End.done1_ (()) (he := by refine bool_eq ?_; (first | (simp [Ver.isUnit, getD_u, *]; done) | (simp [Ver.isUnit, getD_u]; omega) | (rw [Bool.eq_iff_iff]; simp [Ver.isUnit, getD_u]; omega) | (simp [Ver.isUnit, getD_u, *]; intros; omega))) (hp := ?_)); trivial)
set_option maxRecDepth 100000 in
theorem letter_is (t : Int) (ht : t = 1 ∨ t = 2 ∨ (10 ≤ t ∧ t < 40)) : Fn Try.prog 32 #[.int .i64 t] [] [] (σ := Unit) (fun _ => True) (fun _ => sv [Rf7.lt1 t]) (fun _ => []) := by
  refine Fn.enter (args := [.int .i64 t]) Try.func32 rfl _ Try.ntmps32 rfl (by simp [rd_excl, md_excl]) (fun w S => ?_)
  (try conv => rhs; simp only [List.cons_append, List.nil_append])
  by_cases h1 : t = 1
  · subst h1
    repeat (first | refine go (k := ?_) | (refine goB (k := ?_); intro b) | (refine goA (k := ?_); intro ao cap))
    (refine End.done1_ (()) (he := by exact rfl) (hp := ?_))
    trivial
  by_cases h2 : t = 2
  · subst h2
    repeat (first | refine go (k := ?_) | (refine goB (k := ?_); intro b) | (refine goA (k := ?_); intro ao cap))
    (refine End.done1_ (()) (he := by exact rfl) (hp := ?_))
    trivial
  have h3 : 10 ≤ t ∧ t < 40 := by omega
  have hv : 65 + t - 10 = ((Rf7.lt1 t).toNat : Int) := by
    have := Rf7.lt1_nat h3
    omega
  repeat (first | refine go (k := ?_) | (refine goB (k := ?_); intro b) | (refine goA (k := ?_); intro ao cap))
  rw [hv]
  apply Run.imp (fun w hm => hm.toArr (iα := inferInstance) (ef := inferInstance) (b := b) (e := 5) (f := byC) (n := 1) (by (repeat (first | exact Take.head | apply Take.tail))) [Rf7.lt1 t] rfl rfl (by unfold maxLen; simp))
  (apply Run.op; exact rfl; refine OpT.val_ (h := by exact Still.sOf (a := [Rf7.lt1 t]) rfl (Rdb.arr (by (repeat (first | exact Take.head | apply Take.tail)))) rfl rfl rfl (by omega)) (k := ?_))
  repeat (first | refine go (k := ?_) | (refine goB (k := ?_); intro b) | (refine goA (k := ?_); intro ao cap))
  (refine End.done1_ (()) (he := by (first | exact rfl | (refine congrArg (Value.int _) ?_; omega) | (refine congrArg (Value.int _) ?_; dsimp only; omega))) (hp := ?_))
  trivial
end Go.Proofs.Ytkhagebjphaboaa.Vw
