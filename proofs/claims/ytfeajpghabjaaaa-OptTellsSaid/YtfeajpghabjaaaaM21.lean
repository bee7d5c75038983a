/- verify: who comes where, walked. -/
import Derived.Test.YtfeajpghabjaaaaM20
namespace Go.Proofs.Ytfeajpghabjaaaa.Vw
open Go.RowKit Go.Proofs.Ytfeajpghabjaaaa.Img
set_option linter.unusedVariables false
set_option linter.unusedSimpArgs false
attribute [local irreducible] Run Cod End OpT Still RunQ RunS RunT Fn PutOk

theorem Formed.calls {m : ML} (hf : Formed m) : ∀ k, k < m.us.length → ∀ i ∈ (m.mdl.units.getD k default).code, i.op = 23 ∨ i.op = 29 → 0 ≤ i.a ∧ i.a < (m.us.length : Int) := by
  intro k hk i hi ho
  rw [ML.unit_at] at hi
  have h := Ver.instr_ok (hf.instr k hk i hi)
  have hn : m.mdl.units.length = m.us.length := by simp
  rcases ho with ho | ho
  · obtain ⟨h1, h2, -⟩ := Ver.unit_eq (h.call ho)
    rw [hn] at h2; exact ⟨h1, h2⟩
  · obtain ⟨h1, h2, -⟩ := Ver.unit_eq (h.start ho)
    rw [hn] at h2; exact ⟨h1, h2⟩

set_option maxRecDepth 100000 in
theorem reach_is (cb mb : Nat) (m : ML) (hf : Formed m) (q : Nat) (hq : q < m.us.length) : Fn Try.prog 44 #[ptr cb, .int .i64 (q : Int)] [md m] (ck cb mb m) (σ := Option Addr × Nat) (fun _ => True) (fun s => .slice s.1 (Ver.reach m.mdl q).length s.2) (fun s => arr s.1 (Ver.reach m.mdl q).length s.2 3 i64c (Ver.reach m.mdl q) :: ck cb mb m) := by
  have hN := hf.units
  obtain ⟨R, hR⟩ : ∃ R, R = Ver.reach m.mdl q := ⟨_, rfl⟩
  rw [← hR]
  have hR0 : R = Ver.reachRun m.mdl (m.us.length + 1) 0 [(q : Int)] := by rw [hR]; unfold Ver.reach; simp
  clear hR
  refine Fn.enter (args := [ptr cb, .int .i64 (q : Int)]) Try.func44 rfl _ Try.ntmps44 rfl (by simp [rd_excl, md_excl]) (fun w S => ?_)
  (try conv => rhs; simp only [List.cons_append, List.nil_append])
  repeat (first | refine go (k := ?_) | (refine goB (k := ?_); intro b) | (refine goA (k := ?_); intro ao cap))
  apply Cod.imp (fun w hm => hm.toArr (f := i64c) tk [(q : Int)] rfl rfl (by unfold maxLen; simp))
  apply Cod.loop (σ := Nat × List Int × Option Addr × Nat × Nat) (fun s => Ver.Once m.us.length s.2.1 ∧ s.1 ≤ s.2.1.length ∧ s.2.1.length = s.2.2.2.2 ∧ R = Ver.reachRun m.mdl (m.us.length + 1 - s.1) s.1 s.2.1) (fun s => [(0, ptr cb), (5, .slice s.2.2.1 s.2.2.2.2 s.2.2.2.1), (6, .int .i64 (s.1 : Int))]) (fun s => old w S :: md m :: arr s.2.2.1 s.2.2.2.2 s.2.2.2.1 3 i64c s.2.1 :: ck cb mb m) (fun s => m.us.length + 1 - s.1) (0, [(q : Int)], some ⟨b, 0, none⟩, 1, 1)
  rotate_left
  exact sb
  exact tks
  intro s hs K hK
  (try conv => rhs; simp only [List.cons_append, List.nil_append])
  rotate_left
  · exact ⟨Ver.Once.one hq, by simp, rfl, hR0⟩
  clear hR0
  obtain ⟨k, out, ao, cap, n⟩ := s
  obtain ⟨ho, hk, hn, hRk⟩ := hs
  simp only at ho hk hn hRk hK ⊢
  have hol := ho.len
  by_cases hkn : k < n
  · have hx := ho.ok (out.getD k default) (getD_mem (by omega))
    have hxl : (out.getD k default).toNat < m.us.length := by omega
    have hrs := Ver.reachRun_step (M := m.mdl) (n := m.us.length - k) (k := k) (out := out) (by omega)
    rw [show m.us.length + 1 - k = (m.us.length - k) + 1 by omega, hrs, show out.getD k 0 = out.getD k default from rfl, ML.unit_at] at hRk
    have hcx := hf.calls _ hxl
    rw [ML.unit_at] at hcx
    apply Cod.fact m.Small (fun w hm => (md_holds.1 (hm.has tk)).small)
    intro hsm
    have hcl := hsm.co _ hxl
    clear hrs
    repeat (first | refine go (k := ?_) | (refine goB (k := ?_); intro b) | (refine goA (k := ?_); intro ao cap))
    apply Cod.loop (σ := Nat × List Int × Option Addr × Nat × Nat) (fun s => s.1 ≤ (m.us.getD (out.getD k default).toNat default).u.code.length ∧ Ver.Once m.us.length s.2.1 ∧ s.2.1.length = s.2.2.2.2 ∧ out.length ≤ s.2.1.length ∧ Ver.calls (m.us.getD (out.getD k default).toNat default).u.code out = Ver.calls ((m.us.getD (out.getD k default).toNat default).u.code.drop s.1) s.2.1) (fun s => [(0, ptr cb), (5, .slice s.2.2.1 s.2.2.2.2 s.2.2.2.1), (6, .int .i64 (k : Int)), (30, .slice (m.us.getD (out.getD k default).toNat default).co (m.us.getD (out.getD k default).toNat default).u.code.length (m.us.getD (out.getD k default).toNat default).cc), (31, .int .i64 ((m.us.getD (out.getD k default).toNat default).u.code.length : Int)), (32, .int .i64 (s.1 : Int))]) (fun s => old w S :: md m :: arr s.2.2.1 s.2.2.2.2 s.2.2.2.1 3 i64c s.2.1 :: ck cb mb m) (fun s => (m.us.getD (out.getD k default).toNat default).u.code.length - s.1) (0, out, ao, cap, n)
    rotate_left
    exact sb
    exact tks
    intro s hs KI hKI
    (try conv => rhs; simp only [List.cons_append, List.nil_append])
    rotate_left
    · exact ⟨Nat.zero_le _, ho, hn, Nat.le_refl _, rfl⟩
    obtain ⟨j, o, ao1, cap1, n1⟩ := s
    obtain ⟨hj, ho1, hn1, hle1, hcj⟩ := hs
    simp only at hj ho1 hn1 hle1 hcj hKI ⊢
    have hol1 := ho1.len
    by_cases hjl : j < (m.us.getD (out.getD k default).toNat default).u.code.length
    · rw [drop_cons hjl, Ver.calls_cons] at hcj
      have hia := hcx _ (getD_mem hjl)
      have h1once := Ver.call1_once ho1 hia
      unfold Ver.call1 at hcj h1once
      repeat' (first | ((first | (apply Run.op; exact rfl) | refine Run.yes_ (h := ?_)); refine OpT.call0_ (spec := contains_is _ _ _ _ hn1 (by omega) _) (k := ?_); intro s hs; (try conv => rhs; simp only [List.cons_append, List.nil_append])) | refine go (k := ?_) | (refine goB (k := ?_); intro b) | (refine goA (k := ?_); intro ao cap) | refine goQ (k := fun h => ?_) (k' := fun h => ?_) | fail)
      all_goals first
        | (refine End.round0_ hKI (j + 1, o ++ [((m.us.getD (out.getD k default).toNat default).u.code.getD j default).a], ao, cap, n1 + 1) ?_ ?_
           · rw [if_pos ⟨by omega, by assumption⟩] at hcj h1once
             exact ⟨by simp only; omega, h1once, by simp only [List.length_append, List.length_cons, List.length_nil]; omega, by simp only [List.length_append, List.length_cons, List.length_nil]; omega, hcj⟩
           · simp only; omega)
        | (refine End.round0_ hKI (j + 1, o, ao1, cap1, n1) ?_ ?_
           · rw [if_neg (fun h' => by first | exact h'.2 (by assumption) | (have := h'.1; omega))] at hcj h1once
             exact ⟨by simp only; omega, h1once, hn1, hle1, hcj⟩
           · simp only; omega)
    · rw [List.drop_of_length_le (by omega), Ver.calls_nil] at hcj
      rw [hcj] at hRk
      repeat (first | refine go (k := ?_) | (refine goB (k := ?_); intro b) | (refine goA (k := ?_); intro ao cap))
      refine End.round0_ hK (k + 1, o, ao1, cap1, n1) ?_ ?_
      · exact ⟨ho1, by simp only; omega, hn1, by simp only; rw [hRk]; congr 1; omega⟩
      · simp only; omega
  · rw [Ver.reachRun_end (by omega)] at hRk
    subst hRk
    subst hn
    repeat (first | refine go (k := ?_) | (refine goB (k := ?_); intro b) | (refine goA (k := ?_); intro ao cap))
    (refine End.done1_ ((ao, cap)) (he := by (first | exact rfl | (refine congrArg (Value.int _) ?_; omega) | (refine congrArg (Value.int _) ?_; dsimp only; omega))) (hp := ?_))
    trivial

abbrev intB (b : Nat) (v : Int) : Chunk := blk b [.int .i64 v] 3
/-- what a closure of 'owned' sees -/
abbrev oc (pc ob bb cb mb : Nat) (op bx : Int) (m : ML) : List Chunk := blk pc [ptr cb] 58 :: intB ob op :: intB bb bx :: ck cb mb m
set_option maxRecDepth 100000 in
theorem owned11_is (pc ob bb cb mb : Nat) (op bx : Int) (m : ML) (i : ImgM.Ins) : Fn Try.prog 47 #[insV i, ptr ob, ptr bb] [md m] (oc pc ob bb cb mb op bx m) (σ := Unit) (fun _ => True) (fun _ => .bool (decide (i.op = op) && decide (i.a = bx))) (fun _ => oc pc ob bb cb mb op bx m) := by
  refine Fn.enter (args := [insV i, ptr ob, ptr bb]) Try.func47 rfl _ Try.ntmps47 rfl (by simp [rd_excl, md_excl]) (fun w S => ?_)
  (try conv => rhs; simp only [List.cons_append, List.nil_append])
  repeat' (first | refine go (k := ?_) | (refine goB (k := ?_); intro b) | (refine goA (k := ?_); intro ao cap) | refine goQ (k := fun h => ?_) (k' := fun h => ?_) | fail)
  all_goals ((refine End.done1_ (()) (he := by refine bool_eq ?_; (first | (simp [*]; done) | (simp []; omega) | (rw [Bool.eq_iff_iff]; simp []; omega) | (simp [*]; intros; omega))) (hp := ?_)); trivial)
set_option maxRecDepth 100000 in
theorem owned1_is (pc ob bb cb mb : Nat) (op bx : Int) (m : ML) (x : Nat) (hx : x < m.us.length) (hsm : m.Small) : Fn Try.prog 45 #[.int .i64 (x : Int), ptr pc, ptr ob, ptr bb] [md m] (oc pc ob bb cb mb op bx m) (σ := Unit) (fun _ => True) (fun _ => .bool ((m.us.getD x default).u.code.any fun i => decide (i.op = op) && decide (i.a = bx))) (fun _ => oc pc ob bb cb mb op bx m) := by
  refine Fn.enter (args := [.int .i64 (x : Int), ptr pc, ptr ob, ptr bb]) Try.func45 rfl _ Try.ntmps45 rfl (by simp [rd_excl, md_excl]) (fun w S => ?_)
  (try conv => rhs; simp only [List.cons_append, List.nil_append])
  repeat (first | refine go (k := ?_) | (refine goB (k := ?_); intro b) | (refine goA (k := ?_); intro ao cap))
  (apply Run.op; exact rfl; refine OpT.call0_ (spec := containsFuncN_is _ _ _ _ rfl (hsm.co x hx) _ [ptr ob, ptr bb] (md m) md_excl (oc pc ob bb cb mb op bx m) (by simp [blk_excl]) (fun i => decide (i.op = op) && decide (i.a = bx)) (by kernel_rfl) (fun i hi => owned11_is pc ob bb cb mb op bx m i)) (k := ?_); intro s hs; (try conv => rhs; simp only [List.cons_append, List.nil_append]))
  repeat (first | refine go (k := ?_) | (refine goB (k := ?_); intro b) | (refine goA (k := ?_); intro ao cap))
  (refine End.done1_ (()) (he := by rfl) (hp := ?_))
  trivial

set_option maxRecDepth 100000 in
set_option maxHeartbeats 1000000 in
theorem owned_is (cb mb : Nat) (m : ML) (hf : Formed m) : Fn Try.prog 24 #[ptr cb] [md m] (ck cb mb m) (σ := Unit) (fun _ => True) (fun _ => whereV (Ver.owned m.mdl 0 m.bx.length)) (fun _ => ck cb mb m) := by
  have hN := hf.units
  have hB := hf.boxes
  obtain ⟨W, hW⟩ : ∃ W, W = Ver.owned m.mdl 0 m.bx.length := ⟨_, rfl⟩
  rw [← hW]
  have hnu : m.mdl.units.length = m.us.length := by simp
  refine Fn.enter (args := [ptr cb]) Try.func24 rfl _ Try.ntmps24 rfl (by simp [rd_excl, md_excl]) (fun w S => ?_)
  (try conv => rhs; simp only [List.cons_append, List.nil_append])
  apply Cod.fact m.Small (fun w hm => (md_holds.1 (hm.has tk)).small)
  intro hsm
  repeat (first | refine go (k := ?_) | (refine goB (k := ?_); intro b) | (refine goA (k := ?_); intro ao cap))
  obtain ⟨wb, rfl⟩ : ∃ x, x = b := ⟨_, rfl⟩
  obtain ⟨pc, rfl⟩ : ∃ x, x = b := ⟨_, rfl⟩
  apply Cod.loop (σ := Nat) (fun k => k ≤ m.bx.length ∧ W = Ver.owned m.mdl k (m.bx.length - k)) (fun k => [(0, ptr cb), (1, ptr pc), (2, ptr wb), (16, .int .i64 (m.bx.length : Int)), (17, .int .i64 (k : Int))]) (fun _ => old w S :: md m :: blk wb [.int .i64 0, .int .i64 0, .int .i64 0] 28 :: blk pc [ptr cb] 58 :: ck cb mb m) (fun k => m.bx.length - k) 0
  rotate_left
  exact sb
  exact tks
  intro bx hs K1 hK1
  (try conv => rhs; simp only [List.cons_append, List.nil_append])
  rotate_left
  · exact ⟨Nat.zero_le _, hW⟩
  obtain ⟨hb, hWb⟩ := hs
  by_cases hbl : bx < m.bx.length
  · rw [show m.bx.length - bx = (m.bx.length - (bx + 1)) + 1 by omega] at hWb
    repeat (first | refine go (k := ?_) | (refine goB (k := ?_); intro b) | (refine goA (k := ?_); intro ao cap))
    obtain ⟨sl, rfl⟩ : ∃ x, x = b := ⟨_, rfl⟩
    obtain ⟨bb, rfl⟩ : ∃ x, x = b := ⟨_, rfl⟩
    apply Cod.imp (fun w hm => hm.toArr (f := i64c) (n := 2) tk [26, 27] rfl rfl (by unfold maxLen; omega))
    apply Cod.loop (σ := Nat) (fun j => j ≤ 2 ∧ (0 < j → ¬ 1 < Ver.users m.mdl 26 bx) ∧ (1 < j → ¬ 1 < Ver.users m.mdl 27 bx)) (fun j => [(0, ptr cb), (1, ptr pc), (2, ptr wb), (3, ptr bb), (16, .int .i64 (m.bx.length : Int)), (17, .int .i64 (bx : Int)), (20, .slice (some ⟨sl, 0, none⟩) 2 2), (21, .int .i64 ((2 : Nat) : Int)), (22, .int .i64 (j : Int))]) (fun _ => old w S :: md m :: blk wb [.int .i64 0, .int .i64 0, .int .i64 0] 28 :: blk pc [ptr cb] 58 :: arr (some ⟨sl, 0, none⟩) 2 2 3 i64c [26, 27] :: intB bb bx :: ck cb mb m) (fun j => 2 - j) 0
    rotate_left
    exact sb
    exact tks
    intro j hs K2 hK2
    (try conv => rhs; simp only [List.cons_append, List.nil_append])
    rotate_left
    · exact ⟨by omega, by omega, by omega⟩
    obtain ⟨hj, hj0, hj1⟩ := hs
    by_cases hj2 : j < 2
    · have hop : ([26, 27] : List Int).getD j default = 26 ∧ j = 0 ∨ ([26, 27] : List Int).getD j default = 27 ∧ j = 1 := by
        rcases (by omega : j = 0 ∨ j = 1) with rfl | rfl
        · exact .inl ⟨rfl, rfl⟩
        · exact .inr ⟨rfl, rfl⟩
      repeat (first | refine go (k := ?_) | (refine goB (k := ?_); intro b) | (refine goA (k := ?_); intro ao cap))
      obtain ⟨ob, rfl⟩ : ∃ x, x = b := ⟨_, rfl⟩
      generalize ([26, 27] : List Int).getD j default = op at *
      apply Cod.loop (σ := Nat × Nat) (fun s => s.1 ≤ m.us.length ∧ s.2 = Ver.usersTo m.mdl op bx s.1) (fun s => [(0, ptr cb), (1, ptr pc), (2, ptr wb), (3, ptr bb), (5, ptr ob), (6, .int .i64 (s.2 : Int)), (16, .int .i64 (m.bx.length : Int)), (17, .int .i64 (bx : Int)), (20, .slice (some ⟨sl, 0, none⟩) 2 2), (21, .int .i64 ((2 : Nat) : Int)), (22, .int .i64 (j : Int)), (32, .slice m.uo m.us.length m.uc), (33, .int .i64 (m.us.length : Int)), (34, .int .i64 (s.1 : Int))]) (fun _ => old w S :: md m :: blk wb [.int .i64 0, .int .i64 0, .int .i64 0] 28 :: blk pc [ptr cb] 58 :: arr (some ⟨sl, 0, none⟩) 2 2 3 i64c [26, 27] :: intB bb bx :: intB ob op :: ck cb mb m) (fun s => m.us.length - s.1) (0, 0)
      rotate_left
      exact sb
      exact tks
      intro s hs K3 hK3
      (try conv => rhs; simp only [List.cons_append, List.nil_append])
      rotate_left
      · exact ⟨Nat.zero_le _, rfl⟩
      obtain ⟨k, n⟩ := s
      obtain ⟨hk, hn⟩ := hs
      simp only at hk hn hK3 ⊢
      have hnk := Ver.usersTo_le m.mdl op bx k
      by_cases hkl : k < m.us.length
      · have hro : Ver.Once m.us.length (Ver.reach m.mdl k) := Ver.reachRun_once hf.calls _ _ _ (Ver.Once.one hkl)
        have hrl := hro.len
        have hfn : ∀ x ∈ Ver.reach m.mdl k, Fn Try.prog 45 (#[.int .i64 x] ++ [ptr pc, ptr ob, ptr bb].toArray) [md m] (oc pc ob bb cb mb op bx m) (σ := Unit) (fun _ => True) (fun _ => .bool ((m.us.getD x.toNat default).u.code.any fun i => decide (i.op = op) && decide (i.a = bx))) (fun _ => oc pc ob bb cb mb op bx m) := fun x hx => by
          obtain ⟨h1, h2⟩ := hro.ok x hx
          obtain ⟨y, rfl⟩ := Int.eq_ofNat_of_zero_le h1
          exact owned1_is pc ob bb cb mb op bx m y (by omega) hsm
        have hus : Ver.uses m.mdl op bx k = (Ver.reach m.mdl k).any fun x => (m.us.getD x.toNat default).u.code.any fun i => decide (i.op = op) && decide (i.a = bx) := by
          unfold Ver.uses; simp only [getD_u]
        have hsu := Ver.usersTo_succ m.mdl op bx k
        rw [ML.unit_at, hus] at hsu
        repeat' (first | ((first | (apply Run.op; exact rfl) | refine Run.yes_ (h := ?_)); refine OpT.call0_ (spec := reach_is cb mb m hf k hkl) (k := ?_); intro s hs; (try conv => rhs; simp only [List.cons_append, List.nil_append])) | ((first | (apply Run.op; exact rfl) | refine Run.yes_ (h := ?_)); refine OpT.call0_ (spec := containsFuncI_is _ _ _ (Ver.reach m.mdl k) rfl (by omega) _ [ptr pc, ptr ob, ptr bb] (md m) md_excl (oc pc ob bb cb mb op bx m) (by simp [blk_excl]) (fun x => (m.us.getD x.toNat default).u.code.any fun i => decide (i.op = op) && decide (i.a = bx)) (by kernel_rfl) hfn) (k := ?_); intro s hs; (try conv => rhs; simp only [List.cons_append, List.nil_append])) | refine go (k := ?_) | (refine goB (k := ?_); intro b) | (refine goA (k := ?_); intro ao cap) | refine goQ (k := fun h => ?_) (k' := fun h => ?_) | fail)
        · rw [if_pos (by rw [Bool.and_eq_true, decide_eq_true_eq]; exact ⟨by assumption, h⟩)] at hsu
          refine End.round0_ hK3 (k + 1, n + 1) ?_ ?_
          · exact ⟨by simp only; omega, by simp only; omega⟩
          · simp only; omega
        · rw [if_neg (by rw [Bool.and_eq_true]; intro h'; rw [h'.2] at h; cases h)] at hsu
          refine End.round0_ hK3 (k + 1, n) ?_ ?_
          · exact ⟨by simp only; omega, by simp only; omega⟩
          · simp only; omega
        · rw [if_neg (by rw [Bool.and_eq_true, decide_eq_true_eq]; intro h'; exact h h'.1)] at hsu
          refine End.round0_ hK3 (k + 1, n) ?_ ?_
          · exact ⟨by simp only; omega, by simp only; omega⟩
          · simp only; omega
      · have hkN : k = m.us.length := by omega
        subst hkN
        have hnu2 : n = Ver.users m.mdl op bx := by
          rw [hn]; unfold Ver.users Ver.usersTo; rw [hnu]
        repeat' (first | refine go (k := ?_) | (refine goB (k := ?_); intro b) | (refine goA (k := ?_); intro ao cap) | refine goQ (k := fun h => ?_) (k' := fun h => ?_) | fail)
        · have hWx : W = ⟨8, 0, bx⟩ := by
            rw [hWb]
            refine Ver.owned_1 ?_
            rcases hop with ⟨rfl, -⟩ | ⟨rfl, -⟩
            · exact .inl (by omega)
            · exact .inr (by omega)
          (refine End.doneC1_ (()) (he := by exact where_eq hWx) (hp := ?_))
          trivial
        · refine End.round0_ hK2 (j + 1) ?_ ?_
          · rcases hop with ⟨rfl, rfl⟩ | ⟨rfl, rfl⟩
            · exact ⟨by omega, fun _ => by omega, fun h => by omega⟩
            · exact ⟨by omega, fun _ => hj0 (by omega), fun _ => by omega⟩
          · omega
    · have hj2' : j = 2 := by omega
      rw [Ver.owned_2 (fun h => h.elim (hj0 (by omega)) (hj1 (by omega)))] at hWb
      repeat (first | refine go (k := ?_) | (refine goB (k := ?_); intro b) | (refine goA (k := ?_); intro ao cap))
      refine End.round0_ hK1 (bx + 1) ?_ ?_
      · exact ⟨by omega, hWb⟩
      · omega
  · rw [show m.bx.length - bx = 0 by omega] at hWb
    repeat (first | refine go (k := ?_) | (refine goB (k := ?_); intro b) | (refine goA (k := ?_); intro ao cap))
    (refine End.doneC1_ (()) (he := by exact where_eq hWb) (hp := ?_))
    trivial
end Go.Proofs.Ytfeajpghabjaaaa.Vw

/- verify.Verify, walked. -/
namespace Go.Proofs.Ytfeajpghabjaaaa.Vw
open Go.RowKit Go.Proofs.Ytfeajpghabjaaaa.Img
set_option linter.unusedVariables false
set_option linter.unusedSimpArgs false
attribute [local irreducible] Run Cod End OpT Still RunQ RunS RunT Fn PutOk

theorem formed {m : ML} (h : Ver.FormOk m.mdl) : Formed m := by
  have hu : ∀ k, k < m.us.length → (m.us.getD k default).u ∈ m.mdl.units := fun k hk => List.mem_map.2 ⟨_, ML.uat_mem hk, rfl⟩
  exact ⟨h.nboxes, by simpa using h.nunits, fun k hk => (h.units _ (hu k hk)).1, fun k hk => (h.units _ (hu k hk)).2⟩

theorem Cod.only {P : Program} {Q : Exit → Act → World → Prop} {N : Nat} {E : Env} {c : Code} {L F : List Chunk} (cs : List Chunk) (t : Takes cs L F) (h : Cod P Q N c E cs) : Cod P Q N c E L :=
  Cod.imp (fun w hm => (hm.takes t).left) h
set_option maxRecDepth 100000 in
theorem verify_is (m : ML) (hwf : m.Wf) : Fn Try.prog 12 #[m.val] [md m] [] (σ := Unit) (fun _ => True) (fun _ => whereV (Ver.verify m.mdl)) (fun _ => []) := by
  obtain ⟨W, hW⟩ : ∃ W, W = Ver.verify m.mdl := ⟨_, rfl⟩
  rw [← hW]
  have hnu : m.mdl.units.length = m.us.length := by simp
  refine Fn.enter (args := [m.val]) Try.func12 rfl _ Try.ntmps12 rfl (by simp [rd_excl, md_excl]) (fun w S => ?_)
  (try conv => rhs; simp only [List.cons_append, List.nil_append])
  apply Cod.fact m.Small (fun w hm => (md_holds.1 (hm.has tk)).small)
  intro hsm
  have hs2 := hsm.us
  repeat (first | refine go (k := ?_) | (refine goB (k := ?_); intro b) | (refine goA (k := ?_); intro ao cap))
  obtain ⟨cb, rfl⟩ : ∃ x, x = b := ⟨_, rfl⟩
  obtain ⟨wb, rfl⟩ : ∃ x, x = b := ⟨_, rfl⟩
  obtain ⟨mb, rfl⟩ : ∃ x, x = b := ⟨_, rfl⟩
  (apply Run.op; exact rfl; refine OpT.call0_ (spec := form_is cb mb m hwf) (k := ?_); intro s hs; (try conv => rhs; simp only [List.cons_append, List.nil_append]))
  by_cases hf : (Ver.form m.mdl).err = 0
  · have hF := formed (Ver.form_ok.1 hf)
    repeat (first | refine go (k := ?_) | (refine goB (k := ?_); intro b) | (refine goA (k := ?_); intro ao cap))
    refine Cod.only ((fun _ => old w S :: md m :: blk wb [.int .i64 0, .int .i64 0, .int .i64 0] 28 :: ck cb mb m) 0) (by (repeat (first | exact Takes.nil | exact Take.head | apply Take.tail | apply Takes.cons))) ?_
    apply Cod.loop (σ := Nat) (fun k => k ≤ m.us.length ∧ Ver.codes m.mdl 0 m.mdl.units.length = Ver.codes m.mdl k (m.us.length - k)) (fun k => [(1, ptr mb), (2, ptr wb), (3, ptr cb), (17, .int .i64 (m.us.length : Int)), (18, .int .i64 (k : Int))]) (fun _ => old w S :: md m :: blk wb [.int .i64 0, .int .i64 0, .int .i64 0] 28 :: ck cb mb m) (fun k => m.us.length - k) 0
    rotate_left
    exact sb
    exact tks
    intro k hs K1 hK1
    (try conv => rhs; simp only [List.cons_append, List.nil_append])
    rotate_left
    · exact ⟨Nat.zero_le _, by simp⟩
    obtain ⟨hk, hc⟩ := hs
    by_cases hkl : k < m.us.length
    · rw [show m.us.length - k = (m.us.length - (k + 1)) + 1 by omega] at hc
      repeat (first | refine go (k := ?_) | (refine goB (k := ?_); intro b) | (refine goA (k := ?_); intro ao cap))
      (apply Run.op; exact rfl; refine OpT.call0_ (spec := code_is cb mb m k hkl hF hwf) (k := ?_); intro s hs; (try conv => rhs; simp only [List.cons_append, List.nil_append]))
      by_cases he : (Ver.code m.mdl k).err = 0
      · rw [Ver.codes_2 he] at hc
        repeat (first | refine go (k := ?_) | (refine goB (k := ?_); intro b) | (refine goA (k := ?_); intro ao cap))
        refine End.round0_ hK1 (k + 1) ?_ ?_
        · exact ⟨by omega, hc⟩
        · omega
      · rw [Ver.codes_1 he] at hc
        have hWx : W = Ver.code m.mdl k := by
          rw [hW, Ver.verify_2 hf (by rw [hc]; exact he), hc]
        repeat (first | refine go (k := ?_) | (refine goB (k := ?_); intro b) | (refine goA (k := ?_); intro ao cap))
        (refine End.doneC1_ (()) (he := by exact where_eq hWx) (hp := ?_))
        trivial
    · have hWx : W = Ver.owned m.mdl 0 m.bx.length := by
        rw [hW, Ver.verify_3 hf (by rw [hc, show m.us.length - k = 0 by omega]; rfl)]
      repeat (first | refine go (k := ?_) | (refine goB (k := ?_); intro b) | (refine goA (k := ?_); intro ao cap))
      (apply Run.op; exact rfl; refine OpT.call0_ (spec := owned_is cb mb m hF) (k := ?_); intro s hs; (try conv => rhs; simp only [List.cons_append, List.nil_append]))
      repeat (first | refine go (k := ?_) | (refine goB (k := ?_); intro b) | (refine goA (k := ?_); intro ao cap))
      (refine End.doneC1_ (()) (he := by exact where_eq hWx) (hp := ?_))
      trivial
  · have hWx : W = Ver.form m.mdl := by rw [hW, Ver.verify_1 hf]
    repeat (first | refine go (k := ?_) | (refine goB (k := ?_); intro b) | (refine goA (k := ?_); intro ao cap))
    (refine End.doneC1_ (()) (he := by exact where_eq hWx) (hp := ?_))
    trivial
end Go.Proofs.Ytfeajpghabjaaaa.Vw

/- Package opt, walked: a pass. -/
namespace Go.Proofs.Ytfeajpghabjaaaa.Vw
open Go.RowKit Go.Proofs.Ytfeajpghabjaaaa.Img
set_option linter.unusedVariables false
set_option linter.unusedSimpArgs false
theorem prun_fuel {l : List ImgM.Ins} : ∀ (f f' : Nat) (s : Opt.PS), l.length ≤ f + s.p → l.length ≤ f' + s.p → Opt.prun l f s = Opt.prun l f' s
  | 0, 0, s, _, _ => rfl
  | 0, f' + 1, s, h, _ => by
    conv => rhs; unfold Opt.prun
    rw [if_neg (by omega)]
    rfl
  | f + 1, 0, s, _, h => by
    conv => lhs; unfold Opt.prun
    rw [if_neg (by omega)]
    rfl
  | f + 1, f' + 1, s, h, h' => by
    unfold Opt.prun
    split
    · have := Opt.nx_gt l s.p
      exact prun_fuel f f' _ (by rw [Opt.pstep_p]; omega) (by rw [Opt.pstep_p]; omega)
    · rfl
theorem prun_step {l : List ImgM.Ins} {s : Opt.PS} (h : s.p < l.length) : Opt.prun l l.length s = Opt.prun l l.length (Opt.pstep l s) := by
  have e : Opt.prun l l.length s = Opt.prun l (l.length - 1 + 1) s := by congr 1; omega
  rw [e]
  conv => lhs; unfold Opt.prun
  rw [if_pos h]
  have := Opt.nx_gt l s.p
  exact prun_fuel _ _ _ (by rw [Opt.pstep_p]; omega) (by rw [Opt.pstep_p]; omega)
theorem prun_end {l : List ImgM.Ins} {s : Opt.PS} (h : ¬ s.p < l.length) : Opt.prun l l.length s = s := by
  cases l with
  | nil => rfl
  | cons i r => 
    show Opt.prun (i :: r) (r.length + 1) s = s
    unfold Opt.prun
    rw [if_neg h]
/-- the first so many instructions, led anew -/
def relTo (wh : List Int) (l : List ImgM.Ins) (k : Nat) : List ImgM.Ins := (l.take k).map (Opt.reloc wh) ++ l.drop k
theorem relTo_len (wh : List Int) (l : List ImgM.Ins) (k : Nat) : (relTo wh l k).length = l.length := by unfold relTo; simp; omega
theorem relTo_at {wh : List Int} {l : List ImgM.Ins} {k : Nat} (h : k < l.length) : (relTo wh l k).getD k default = l.getD k default := by
  unfold relTo
  rw [List.getD_eq_getElem?_getD, List.getElem?_append_right (by simp; omega), List.getElem?_drop, List.getD_eq_getElem?_getD]
  congr 2
  simp; omega
theorem relTo_set {wh : List Int} {l : List ImgM.Ins} {k : Nat} (h : k < l.length) : (relTo wh l k).set k (Opt.reloc wh (l.getD k default)) = relTo wh l (k + 1) := by
  unfold relTo
  rw [List.set_append_right _ _ (by simp; omega), take_snoc h, List.map_append, List.map_cons, List.map_nil, List.append_assoc]
  congr 1
  rw [show k - ((l.take k).map (Opt.reloc wh)).length = 0 by simp; omega, drop_cons h]
  rfl
theorem relTo_skip {wh : List Int} {l : List ImgM.Ins} {k : Nat} (h : k < l.length) (hj : Opt.isJ (l.getD k default) = false) : relTo wh l k = relTo wh l (k + 1) := by
  rw [← relTo_set h, Opt.reloc_no hj]
  rw [← relTo_at (wh := wh) h]
  refine List.ext_getElem (by simp) (fun i h1 h2 => ?_)
  rw [List.getElem_set]
  split
  · rename_i hi; subst hi
    rw [List.getD_eq_getElem?_getD, List.getElem?_eq_getElem h1]; rfl
  · rfl
theorem relTo_all (wh : List Int) (l : List ImgM.Ins) : relTo wh l l.length = l.map (Opt.reloc wh) := by unfold relTo; simp
/-- jumps lead into code, or to its end -/
def Jumps (l : List ImgM.Ins) : Prop := ∀ i ∈ l, Opt.isJ i = true → 0 ≤ i.a ∧ i.a < (l.length : Int)
theorem em_jump {l : List ImgM.Ins} (hj : Jumps l) {q : Nat} (hq : q < l.length) {i : ImgM.Ins} (hi : i ∈ Opt.em l q) (hJ : Opt.isJ i = true) : 0 ≤ i.a ∧ i.a < (l.length : Int) := by
  by_cases hs : (Opt.shorter l q).2 = 0
  · unfold Opt.em at hi
    rw [if_pos hs] at hi
    simp at hi
    subst hi
    exact hj _ (Opt.mem_at hq) hJ
  · unfold Opt.em at hi
    rw [if_neg hs] at hi
    have kn : ∀ v t, i ∈ Opt.known v t → False := fun v t h => by
      unfold Opt.known at h
      split at h <;> (simp at h; subst h; simp [Opt.isJ] at hJ)
    rcases Opt.shorter_cases hs with ⟨r, g1, g2, g3⟩ | ⟨r, g1, g2, g3⟩ | ⟨g1, g2, g3, g4⟩
    · rw [g1] at hi
      simp only at hi
      unfold Opt.three at g3
      split at g3
      · cases g3
      split at g3
      · cases g3
      cases g3
      exact (kn _ _ hi).elim
    · have hlt := Opt.free_lt g2
      rw [g1] at hi
      simp only at hi
      unfold Opt.pair at g3
      split at g3
      · cases g3; cases hi
      split at g3
      · cases g3
      split at g3
      · cases g3; exact (kn _ _ hi).elim
      split at g3
      · cases g3
      split at g3
      · cases g3; exact (kn _ _ hi).elim
      split at g3
      · cases g3; cases hi
      split at g3
      · rename_i hb2
        cases g3
        simp at hi
        subst hi
        exact hj (Opt.at_ l (q + 1)) (Opt.mem_at (l := l) (q := q + 1) (by omega)) (Opt.isJ_iff.2 (.inr hb2))
      · cases g3
    · rw [g1] at hi; cases hi
/-- what holds while a pass goes on -/
structure PassInv (l : List ImgM.Ins) (s : Opt.PS) : Prop where
  p : s.p ≤ l.length
  out : s.out.length ≤ s.p
  wh : s.wh.length = l.length + 1
  jump : ∀ i ∈ s.out, Opt.isJ i = true → 0 ≤ i.a ∧ i.a < (l.length : Int)
  run : Opt.prun l l.length s = Opt.pass0 l
theorem em_le (l : List ImgM.Ins) (q : Nat) : (Opt.em l q).length + q ≤ Opt.nx l q := by
  have := Opt.em_len l q
  have := Opt.nx_gt l q
  omega
theorem PassInv.step {l : List ImgM.Ins} {s : Opt.PS} (hj : Jumps l) (h : PassInv l s) (hp : s.p < l.length) : PassInv l (Opt.pstep l s) := by
  have := em_le l s.p
  refine ⟨by rw [Opt.pstep_p]; exact Opt.nx_le hp, ?_, by rw [Opt.pstep_len]; exact h.wh, fun i hi hJ => ?_, by rw [← prun_step hp]; exact h.run⟩
  · rw [Opt.pstep_p, Opt.pstep_out, List.length_append]; have := h.out; omega
  · rw [Opt.pstep_out, List.mem_append] at hi
    rcases hi with hi | hi
    · exact h.jump i hi hJ
    · exact em_jump hj hp hi hJ
theorem PassInv.zero (l : List ImgM.Ins) : PassInv l ⟨0, [], List.replicate (l.length + 1) 0, false⟩ := ⟨Nat.zero_le _, Nat.le_refl _, by simp, (fun i h => by cases h), rfl⟩
theorem pstep_0 {l : List ImgM.Ins} {s : Opt.PS} (h : (Opt.shorter l s.p).2 = 0) : Opt.pstep l s = ⟨s.p + 1, s.out ++ [l.getD s.p default], s.wh.set s.p (s.out.length : Int), s.did⟩ := by unfold Opt.pstep; rw [if_pos h]; rfl
theorem pstep_1 {l : List ImgM.Ins} {s : Opt.PS} (h : ¬ (Opt.shorter l s.p).2 = 0) : Opt.pstep l s = ⟨s.p + (Opt.shorter l s.p).2, s.out ++ (Opt.shorter l s.p).1, Opt.setAll (s.wh.set s.p (s.out.length : Int)) s.p ((s.out ++ (Opt.shorter l s.p).1).length : Int) ((Opt.shorter l s.p).2 - 1), true⟩ := by unfold Opt.pstep; rw [if_neg h]
attribute [local irreducible] Run Cod End OpT Still RunQ RunS RunT Fn PutOk
set_option maxRecDepth 100000 in
set_option maxHeartbeats 2000000 in
theorem pass_is (lo : Option Addr) (n lc : Nat) (l : List ImgM.Ins) (hn : l.length = n) (hm : n ≤ 100000) (hl : In64s l) (hj : Jumps l) :
    Fn Try.prog 32 #[.slice lo n lc] [rd lo n lc insC l] [] (σ := Option Addr × Nat) (fun _ => True) (fun s => .tuple #[.slice s.1 (Opt.pass l).1.length s.2, .bool (Opt.pass l).2]) (fun s => [arr s.1 (Opt.pass l).1.length s.2 57 insC (Opt.pass l).1]) := by
  refine Fn.enter (args := [.slice lo n lc]) Try.func32 rfl _ Try.ntmps32 rfl (by simp [rd_excl, md_excl]) (fun w S => ?_)
  (try conv => rhs; simp only [List.cons_append, List.nil_append])
  repeat (first | refine go (k := ?_) | (refine goB (k := ?_); intro b) | (refine goA (k := ?_); intro ao cap))
  (apply Run.op; exact rfl; refine OpT.call0_ (spec := targets_is lo n lc l hn (by omega)) (k := ?_); intro s hs; (try conv => rhs; simp only [List.cons_append, List.nil_append]))
  obtain ⟨mb, en⟩ := s
  simp only at hs
  have he : TgtOk l en := hs
  clear hs
  dsimp only
  repeat (first | refine go (k := ?_) | (refine goB (k := ?_); intro b) | (refine goA (k := ?_); intro ao cap))
  apply Run.op (by exact rfl)
  refine OpT.makeSlice_ (f := i64c) (iα := inferInstance) (ef := inferInstance) (z := 0) (n := n + 1) (k := ?_)
  intro wb
  repeat (first | refine go (k := ?_) | (refine goB (k := ?_); intro b) | (refine goA (k := ?_); intro ao cap))
  subst hn
  apply Cod.imp (fun w hm => hm.nilArr 57 insC)
  apply Cod.loop (σ := Opt.PS × Option Addr × Nat) (fun s => PassInv l s.1) (fun s => [(0, .slice lo l.length lc), (4, .map (some mb)), (5, .slice (some ⟨wb, 0, none⟩) (l.length + 1) (l.length + 1)), (6, .slice s.2.1 s.1.out.length s.2.2), (7, .bool s.1.did), (8, .int .i64 (s.1.p : Int))]) (fun s => [old w S, rd lo l.length lc insC l, mp mb Value.bool en, arr (some ⟨wb, 0, none⟩) (l.length + 1) (l.length + 1) 3 i64c s.1.wh, arr s.2.1 s.1.out.length s.2.2 57 insC s.1.out]) (fun s => l.length - s.1.p) (⟨0, [], List.replicate (l.length + 1) 0, false⟩, none, 0)
  rotate_left
  exact sb
  exact tks
  intro z hz K1 hK1
  (try conv => rhs; simp only [List.cons_append, List.nil_append])
  rotate_left
  · exact PassInv.zero l
  obtain ⟨z, oo, oc⟩ := z
  simp only at hz hK1 ⊢
  have hzp := hz.p
  have hzo := hz.out
  have hzw := hz.wh
  by_cases hpn : z.p < l.length
  · have hst := hz.step hj hpn
    have hgt := Opt.nx_gt l z.p
    have hle := Opt.nx_le hpn
    have hel := Opt.em_len l z.p
    repeat (first | refine go (k := ?_) | (refine goB (k := ?_); intro b) | (refine goA (k := ?_); intro ao cap))
    (apply Run.op; exact rfl; refine OpT.call0_ (spec := shorter_is lo l.length lc mb l en rfl (by omega) hl z.p hpn he) (k := ?_); intro s hs; (try conv => rhs; simp only [List.cons_append, List.nil_append]))
    obtain ⟨ro, rc⟩ := s
    dsimp only [shV5]
    repeat (first | refine go (k := ?_) | (refine goB (k := ?_); intro b) | (refine goA (k := ?_); intro ao cap))
    (apply Run.op; exact rfl; refine OpT.storeE_ (f := i64c) (l := z.wh) (i := z.p) (off := 0) (vs := [.int .i64 (z.out.length : Int)]) (a' := (z.out.length : Int)) (k := ?_))
    repeat (first | refine go (k := ?_) | (refine goB (k := ?_); intro b) | (refine goA (k := ?_); intro ao cap))
    by_cases hn0 : (Opt.shorter l z.p).2 = 0
    · have hps := pstep_0 hn0
      repeat (first | refine go (k := ?_) | (refine goB (k := ?_); intro b) | (refine goA (k := ?_); intro ao cap))
      (apply Run.op; exact rfl; refine OpT.appendS_ (f := insC) (l2 := (l.take (z.p + 1)).drop z.p) (k := ?_); intro ao1 cap1)
      have e1 : z.out.length + (z.p + 1 - z.p) = (z.out ++ [l.getD z.p default]).length := by simp
      have e2 : (l.take (z.p + 1)).drop z.p = [l.getD z.p default] := by
        rw [take_snoc hpn, List.drop_append_of_le_length (by simp; omega), List.drop_of_length_le (by simp; omega)]
        rfl
      rw [e1, e2]
      repeat (first | refine go (k := ?_) | (refine goB (k := ?_); intro b) | (refine goA (k := ?_); intro ao cap))
      refine Cod.only ((fun _ => [old w S, rd lo l.length lc insC l, mp mb Value.bool en, arr (some ⟨wb, 0, none⟩) (l.length + 1) (l.length + 1) 3 i64c (z.wh.set z.p (z.out.length : Int)), arr ao1 (z.out ++ [l.getD z.p default]).length cap1 57 insC (z.out ++ [l.getD z.p default])]) ()) (by (repeat (first | exact Takes.nil | exact Take.head | apply Take.tail | apply Takes.cons))) ?_
      apply Cod.loop (σ := Unit) (fun _ => True) (fun _ => [(0, .slice lo l.length lc), (4, .map (some mb)), (5, .slice (some ⟨wb, 0, none⟩) (l.length + 1) (l.length + 1)), (6, .slice ao1 (z.out ++ [l.getD z.p default]).length cap1), (7, .bool z.did), (8, .int .i64 (z.p : Int)), (10, .int .i64 1), (11, .int .i64 1)]) (fun _ => [old w S, rd lo l.length lc insC l, mp mb Value.bool en, arr (some ⟨wb, 0, none⟩) (l.length + 1) (l.length + 1) 3 i64c (z.wh.set z.p (z.out.length : Int)), arr ao1 (z.out ++ [l.getD z.p default]).length cap1 57 insC (z.out ++ [l.getD z.p default])]) (fun _ => 0) ()
      rotate_left
      exact sb
      exact tks
      intro j hj1 K2 hK2
      (try conv => rhs; simp only [List.cons_append, List.nil_append])
      rotate_left
      · trivial
      repeat (first | refine go (k := ?_) | (refine goB (k := ?_); intro b) | (refine goA (k := ?_); intro ao cap))
      rw [hps] at hst
      refine End.round0_ hK1 (⟨z.p + 1, z.out ++ [l.getD z.p default], z.wh.set z.p (z.out.length : Int), z.did⟩, ao1, cap1) ?_ ?_
      · exact hst
      · simp only; omega
    · have hps := pstep_1 hn0
      have hsl := Opt.shorter_len hn0
      generalize hr : (Opt.shorter l z.p).1 = r at *
      generalize hq : (Opt.shorter l z.p).2 = q at *
      repeat (first | refine go (k := ?_) | (refine goB (k := ?_); intro b) | (refine goA (k := ?_); intro ao cap))
      (apply Run.op; exact rfl; refine OpT.appendS_ (f := insC) (l2 := r) (k := ?_); intro ao1 cap1)
      have e1 : z.out.length + r.length = (z.out ++ r).length := by simp
      rw [e1]
      repeat (first | refine go (k := ?_) | (refine goB (k := ?_); intro b) | (refine goA (k := ?_); intro ao cap))
      refine Cod.only ((fun j => [old w S, rd lo l.length lc insC l, mp mb Value.bool en, arr (some ⟨wb, 0, none⟩) (l.length + 1) (l.length + 1) 3 i64c (Opt.setAll (z.wh.set z.p (z.out.length : Int)) z.p ((z.out ++ r).length : Int) (j - 1)), arr ao1 (z.out ++ r).length cap1 57 insC (z.out ++ r)]) 1) (by (repeat (first | exact Takes.nil | exact Take.head | apply Take.tail | apply Takes.cons))) ?_
      apply Cod.loop (σ := Nat) (fun j => 1 ≤ j ∧ j ≤ q) (fun j => [(0, .slice lo l.length lc), (4, .map (some mb)), (5, .slice (some ⟨wb, 0, none⟩) (l.length + 1) (l.length + 1)), (6, .slice ao1 (z.out ++ r).length cap1), (7, .bool true), (8, .int .i64 (z.p : Int)), (10, .int .i64 (q : Int)), (11, .int .i64 (j : Int))]) (fun j => [old w S, rd lo l.length lc insC l, mp mb Value.bool en, arr (some ⟨wb, 0, none⟩) (l.length + 1) (l.length + 1) 3 i64c (Opt.setAll (z.wh.set z.p (z.out.length : Int)) z.p ((z.out ++ r).length : Int) (j - 1)), arr ao1 (z.out ++ r).length cap1 57 insC (z.out ++ r)]) (fun j => q - j) 1
      rotate_left
      exact sb
      exact tks
      intro j hj1 K2 hK2
      (try conv => rhs; simp only [List.cons_append, List.nil_append])
      rotate_left
      · exact ⟨Nat.le_refl _, by omega⟩
      by_cases hjq : j < q
      · repeat (first | refine go (k := ?_) | (refine goB (k := ?_); intro b) | (refine goA (k := ?_); intro ao cap))
        have hix : ((z.p : Int) + (j : Int)) = ((z.p + j : Nat) : Int) := by omega
        rw [hix]
        repeat (first | refine go (k := ?_) | (refine goB (k := ?_); intro b) | (refine goA (k := ?_); intro ao cap))
        (apply Run.op; exact rfl; refine OpT.storeE_ (f := i64c) (i := z.p + j) (off := 0) (vs := [.int .i64 ((z.out ++ r).length : Int)]) (a' := ((z.out ++ r).length : Int)) (k := ?_))
        repeat (first | refine go (k := ?_) | (refine goB (k := ?_); intro b) | (refine goA (k := ?_); intro ao cap))
        have e3 : (Opt.setAll (z.wh.set z.p (z.out.length : Int)) z.p ((z.out ++ r).length : Int) (j - 1)).set (z.p + j) ((z.out ++ r).length : Int) = Opt.setAll (z.wh.set z.p (z.out.length : Int)) z.p ((z.out ++ r).length : Int) (j + 1 - 1) := by
          obtain ⟨j', rfl⟩ : ∃ j', j = j' + 1 := ⟨j - 1, by omega⟩
          rw [show j' + 1 + 1 - 1 = j' + 1 by omega, show j' + 1 - 1 = j' by omega]
          conv => rhs; unfold Opt.setAll
          rfl
        rw [e3]
        refine End.round0_ hK2 (j + 1) ?_ ?_
        · omega
        · omega
      · obtain rfl : j = q := by omega
        repeat (first | refine go (k := ?_) | (refine goB (k := ?_); intro b) | (refine goA (k := ?_); intro ao cap))
        rw [hps] at hst
        have hix : ((z.p : Int) + (j : Int)) = ((z.p + j : Nat) : Int) := by omega
        rw [hix]
        refine End.round0_ hK1 (⟨z.p + j, z.out ++ r, Opt.setAll (z.wh.set z.p (z.out.length : Int)) z.p ((z.out ++ r).length : Int) (j - 1), true⟩, ao1, cap1) ?_ ?_
        · exact hst
        · simp only; omega
  · have hfin := hz.run
    rw [prun_end hpn] at hfin
    have hp1 : (Opt.pass l).1 = relTo z.wh z.out z.out.length := by rw [relTo_all, hfin]; rfl
    have hp2 : (Opt.pass l).2 = z.did := by rw [hfin]; rfl
    have hjm := hz.jump
    clear hfin hK1 hz
    rw [hp1, hp2, relTo_len]
    repeat (first | refine go (k := ?_) | (refine goB (k := ?_); intro b) | (refine goA (k := ?_); intro ao cap))
    refine Cod.only ((fun k => [old w S, arr (some ⟨wb, 0, none⟩) (l.length + 1) (l.length + 1) 3 i64c z.wh, arr oo z.out.length oc 57 insC (relTo z.wh z.out k)]) 0) (by (repeat (first | exact Takes.nil | exact Take.head | apply Take.tail | apply Takes.cons))) ?_
    apply Cod.loop (σ := Nat) (fun k => k ≤ z.out.length) (fun k => [(5, .slice (some ⟨wb, 0, none⟩) (l.length + 1) (l.length + 1)), (6, .slice oo z.out.length oc), (7, .bool z.did), (61, .int .i64 (z.out.length : Int)), (62, .int .i64 (k : Int))]) (fun k => [old w S, arr (some ⟨wb, 0, none⟩) (l.length + 1) (l.length + 1) 3 i64c z.wh, arr oo z.out.length oc 57 insC (relTo z.wh z.out k)]) (fun k => z.out.length - k) 0
    rotate_left
    exact sb
    exact tks
    intro k hk K2 hK2
    (try conv => rhs; simp only [List.cons_append, List.nil_append])
    rotate_left
    · exact Nat.zero_le _
    by_cases hkn : k < z.out.length
    · have hat := relTo_at (wh := z.wh) hkn
      by_cases hJ : Opt.isJ (z.out.getD k default) = true
      · have ha := hjm _ (getD_mem hkn) hJ
        have hrl : Opt.reloc z.wh (z.out.getD k default) = ⟨(z.out.getD k default).op, z.wh.getD (z.out.getD k default).a.toNat 0, (z.out.getD k default).n⟩ := by unfold Opt.reloc; rw [if_pos hJ]
        have hset := relTo_set (wh := z.wh) hkn
        rw [hrl] at hset
        rw [Opt.isJ_iff] at hJ
        rw [← hat] at hJ ha hset
        repeat' (first | (apply Run.op; exact rfl; refine OpT.storeE_ (f := insC) (l := relTo z.wh z.out k) (i := k) (off := 0 + 1) (vs := [.int .i64 (z.wh.getD ((relTo z.wh z.out k).getD k default).a.toNat 0)]) (a' := ⟨((relTo z.wh z.out k).getD k default).op, z.wh.getD ((relTo z.wh z.out k).getD k default).a.toNat 0, ((relTo z.wh z.out k).getD k default).n⟩) (hp := (show Put (insC ((relTo z.wh z.out k).getD k default)) 1 _ _ by (repeat (first | exact Put.done | apply Put.take | apply Put.skip)))) (k := ?_)) | refine go (k := ?_) | (refine goB (k := ?_); intro b) | (refine goA (k := ?_); intro ao cap) | refine goQ (k := fun h => ?_) (k' := fun h => ?_) | fail)
        all_goals try (exfalso; omega)
        all_goals (rw [hset]; refine End.round0_ hK2 (k + 1) ?_ ?_)
        all_goals omega
      · have hJ' : Opt.isJ (z.out.getD k default) = false := by simpa using hJ
        rw [Opt.isJ_iff] at hJ
        have hsk := relTo_skip (wh := z.wh) hkn hJ'
        rw [← hat] at hJ
        repeat' (first | refine go (k := ?_) | (refine goB (k := ?_); intro b) | (refine goA (k := ?_); intro ao cap) | refine goQ (k := fun h => ?_) (k' := fun h => ?_) | fail)
        all_goals try (exfalso; omega)
        rw [hsk]
        refine End.round0_ hK2 (k + 1) ?_ ?_
        · omega
        · omega
    · obtain rfl : k = z.out.length := by omega
      repeat (first | refine go (k := ?_) | (refine goB (k := ?_); intro b) | (refine goA (k := ?_); intro ao cap))
      refine End.done2_ (oo, oc) (he := rfl) (hp := trivial)
end Go.Proofs.Ytfeajpghabjaaaa.Vw
