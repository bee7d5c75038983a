/- verify: who comes where, walked. -/
import Derived.Test.YtjehflelkpacfaaM16
namespace Go.Proofs.Ytjehflelkpacfaa.Vw
open Go.RowKit Go.Proofs.Ytjehflelkpacfaa.Img
set_option linter.unusedVariables false
set_option linter.unusedSimpArgs false
attribute [local irreducible] Run Cod End OpT Still RunQ RunS RunT Fn PutOk

theorem Formed.calls {m : ML} (hf : Formed m) : ∀ k, k < m.us.length → ∀ i ∈ (m.mdl.units.getD k default).code, i.op = 23 ∨ i.op = 29 → 0 ≤ i.a ∧ i.a < (m.us.length : Int) := by
  intro k hk i hi ho
  rw [ML.unit_at] at hi
  have h := Ver.instr_ok (hf.instr k hk i hi)
  have hn : m.mdl.units.length = m.us.length := by simp
  rcases ho with ho | ho
  · obtain ⟨h1, h2, -⟩ := Ver.unit_eq (h.call ho)
    rw [hn] at h2; exact ⟨h1, h2⟩
  · obtain ⟨h1, h2, -⟩ := Ver.unit_eq (h.start ho)
    rw [hn] at h2; exact ⟨h1, h2⟩

set_option maxRecDepth 100000 in
theorem reach_is (cb mb : Nat) (m : ML) (hf : Formed m) (q : Nat) (hq : q < m.us.length) : Fn Try.prog 55 #[ptr cb, .int .i64 (q : Int)] [md m] (ck cb mb m) (σ := Option Addr × Nat) (fun _ => True) (fun s => .slice s.1 (Ver.reach m.mdl q).length s.2) (fun s => arr s.1 (Ver.reach m.mdl q).length s.2 3 i64c (Ver.reach m.mdl q) :: ck cb mb m) := by
  have hN := hf.units
  obtain ⟨R, hR⟩ : ∃ R, R = Ver.reach m.mdl q := ⟨_, rfl⟩
  rw [← hR]
  have hR0 : R = Ver.reachRun m.mdl (m.us.length + 1) 0 [(q : Int)] := by rw [hR]; unfold Ver.reach; simp
  clear hR
  refine Fn.enter (args := [ptr cb, .int .i64 (q : Int)]) Try.func55 rfl _ Try.ntmps55 rfl (by simp [rd_excl, md_excl]) (fun w S => ?_)
  (try conv => rhs; simp only [List.cons_append, List.nil_append])
  repeat (first | refine go (k := ?_) | (refine goB (k := ?_); intro b) | (refine goA (k := ?_); intro ao cap))
  apply Cod.imp (fun w hm => hm.toArr (f := i64c) tk [(q : Int)] rfl rfl (by unfold maxLen; simp))
  apply Cod.loop (σ := Nat × List Int × Option Addr × Nat × Nat) (fun s => Ver.Once m.us.length s.2.1 ∧ s.1 ≤ s.2.1.length ∧ s.2.1.length = s.2.2.2.2 ∧ R = Ver.reachRun m.mdl (m.us.length + 1 - s.1) s.1 s.2.1) (fun s => [(0, ptr cb), (5, .slice s.2.2.1 s.2.2.2.2 s.2.2.2.1), (6, .int .i64 (s.1 : Int))]) (fun s => old w S :: md m :: arr s.2.2.1 s.2.2.2.2 s.2.2.2.1 3 i64c s.2.1 :: ck cb mb m) (fun s => m.us.length + 1 - s.1) (0, [(q : Int)], some ⟨b, 0, none⟩, 1, 1)
  rotate_left
  exact sb
  exact tks
  intro s hs K hK
  (try conv => rhs; simp only [List.cons_append, List.nil_append])
  rotate_left
  · exact ⟨Ver.Once.one hq, by simp, rfl, hR0⟩
  clear hR0
  obtain ⟨k, out, ao, cap, n⟩ := s
  obtain ⟨ho, hk, hn, hRk⟩ := hs
  simp only at ho hk hn hRk hK ⊢
  have hol := ho.len
  by_cases hkn : k < n
  · have hx := ho.ok (out.getD k default) (getD_mem (by omega))
    have hxl : (out.getD k default).toNat < m.us.length := by omega
    have hrs := Ver.reachRun_step (M := m.mdl) (n := m.us.length - k) (k := k) (out := out) (by omega)
    rw [show m.us.length + 1 - k = (m.us.length - k) + 1 by omega, hrs, show out.getD k 0 = out.getD k default from rfl, ML.unit_at] at hRk
    have hcx := hf.calls _ hxl
    rw [ML.unit_at] at hcx
    apply Cod.fact m.Small (fun w hm => (md_holds.1 (hm.has tk)).small)
    intro hsm
    have hcl := hsm.co _ hxl
    clear hrs
    repeat (first | refine go (k := ?_) | (refine goB (k := ?_); intro b) | (refine goA (k := ?_); intro ao cap))
    apply Cod.loop (σ := Nat × List Int × Option Addr × Nat × Nat) (fun s => s.1 ≤ (m.us.getD (out.getD k default).toNat default).u.code.length ∧ Ver.Once m.us.length s.2.1 ∧ s.2.1.length = s.2.2.2.2 ∧ out.length ≤ s.2.1.length ∧ Ver.calls (m.us.getD (out.getD k default).toNat default).u.code out = Ver.calls ((m.us.getD (out.getD k default).toNat default).u.code.drop s.1) s.2.1) (fun s => [(0, ptr cb), (5, .slice s.2.2.1 s.2.2.2.2 s.2.2.2.1), (6, .int .i64 (k : Int)), (30, .slice (m.us.getD (out.getD k default).toNat default).co (m.us.getD (out.getD k default).toNat default).u.code.length (m.us.getD (out.getD k default).toNat default).cc), (31, .int .i64 ((m.us.getD (out.getD k default).toNat default).u.code.length : Int)), (32, .int .i64 (s.1 : Int))]) (fun s => old w S :: md m :: arr s.2.2.1 s.2.2.2.2 s.2.2.2.1 3 i64c s.2.1 :: ck cb mb m) (fun s => (m.us.getD (out.getD k default).toNat default).u.code.length - s.1) (0, out, ao, cap, n)
    rotate_left
    exact sb
    exact tks
    intro s hs KI hKI
    (try conv => rhs; simp only [List.cons_append, List.nil_append])
    rotate_left
    · exact ⟨Nat.zero_le _, ho, hn, Nat.le_refl _, rfl⟩
    obtain ⟨j, o, ao1, cap1, n1⟩ := s
    obtain ⟨hj, ho1, hn1, hle1, hcj⟩ := hs
    simp only at hj ho1 hn1 hle1 hcj hKI ⊢
    have hol1 := ho1.len
    by_cases hjl : j < (m.us.getD (out.getD k default).toNat default).u.code.length
    · rw [drop_cons hjl, Ver.calls_cons] at hcj
      have hia := hcx _ (getD_mem hjl)
      have h1once := Ver.call1_once ho1 hia
      unfold Ver.call1 at hcj h1once
      repeat' (first | ((first | (apply Run.op; exact rfl) | refine Run.yes_ (h := ?_)); refine OpT.call0_ (spec := contains_is _ _ _ _ hn1 (by omega) _) (k := ?_); intro s hs; (try conv => rhs; simp only [List.cons_append, List.nil_append])) | refine go (k := ?_) | (refine goB (k := ?_); intro b) | (refine goA (k := ?_); intro ao cap) | refine goQ (k := fun h => ?_) (k' := fun h => ?_) | fail)
      all_goals first
        | (refine End.round0_ hKI (j + 1, o ++ [((m.us.getD (out.getD k default).toNat default).u.code.getD j default).a], ao, cap, n1 + 1) ?_ ?_
           · rw [if_pos ⟨by omega, by assumption⟩] at hcj h1once
             exact ⟨by simp only; omega, h1once, by simp only [List.length_append, List.length_cons, List.length_nil]; omega, by simp only [List.length_append, List.length_cons, List.length_nil]; omega, hcj⟩
           · simp only; omega)
        | (refine End.round0_ hKI (j + 1, o, ao1, cap1, n1) ?_ ?_
           · rw [if_neg (fun h' => by first | exact h'.2 (by assumption) | (have := h'.1; omega))] at hcj h1once
             exact ⟨by simp only; omega, h1once, hn1, hle1, hcj⟩
           · simp only; omega)
    · rw [List.drop_of_length_le (by omega), Ver.calls_nil] at hcj
      rw [hcj] at hRk
      repeat (first | refine go (k := ?_) | (refine goB (k := ?_); intro b) | (refine goA (k := ?_); intro ao cap))
      refine End.round0_ hK (k + 1, o, ao1, cap1, n1) ?_ ?_
      · exact ⟨ho1, by simp only; omega, hn1, by simp only; rw [hRk]; congr 1; omega⟩
      · simp only; omega
  · rw [Ver.reachRun_end (by omega)] at hRk
    subst hRk
    subst hn
    repeat (first | refine go (k := ?_) | (refine goB (k := ?_); intro b) | (refine goA (k := ?_); intro ao cap))
    (refine End.done1_ ((ao, cap)) (he := by (first | exact rfl | (refine congrArg (Value.int _) ?_; omega) | (refine congrArg (Value.int _) ?_; dsimp only; omega))) (hp := ?_))
    trivial

abbrev intB (b : Nat) (v : Int) : Chunk := blk b [.int .i64 v] 3
/-- what a closure of 'owned' sees -/
abbrev oc (pc ob bb cb mb : Nat) (op bx : Int) (m : ML) : List Chunk := blk pc [ptr cb] 98 :: intB ob op :: intB bb bx :: ck cb mb m
set_option maxRecDepth 100000 in
theorem owned11_is (pc ob bb cb mb : Nat) (op bx : Int) (m : ML) (i : ImgM.Ins) : Fn Try.prog 58 #[insV i, ptr ob, ptr bb] [md m] (oc pc ob bb cb mb op bx m) (σ := Unit) (fun _ => True) (fun _ => .bool (decide (i.op = op) && decide (i.a = bx))) (fun _ => oc pc ob bb cb mb op bx m) := by
  refine Fn.enter (args := [insV i, ptr ob, ptr bb]) Try.func58 rfl _ Try.ntmps58 rfl (by simp [rd_excl, md_excl]) (fun w S => ?_)
  (try conv => rhs; simp only [List.cons_append, List.nil_append])
  repeat' (first | refine go (k := ?_) | (refine goB (k := ?_); intro b) | (refine goA (k := ?_); intro ao cap) | refine goQ (k := fun h => ?_) (k' := fun h => ?_) | fail)
  all_goals ((refine End.done1_ (()) (he := by refine bool_eq ?_; (first | (simp [*]; done) | (simp []; omega) | (rw [Bool.eq_iff_iff]; simp []; omega) | (simp [*]; intros; omega))) (hp := ?_)); trivial)
set_option maxRecDepth 100000 in
theorem owned1_is (pc ob bb cb mb : Nat) (op bx : Int) (m : ML) (x : Nat) (hx : x < m.us.length) (hsm : m.Small) : Fn Try.prog 56 #[.int .i64 (x : Int), ptr pc, ptr ob, ptr bb] [md m] (oc pc ob bb cb mb op bx m) (σ := Unit) (fun _ => True) (fun _ => .bool ((m.us.getD x default).u.code.any fun i => decide (i.op = op) && decide (i.a = bx))) (fun _ => oc pc ob bb cb mb op bx m) := by
  refine Fn.enter (args := [.int .i64 (x : Int), ptr pc, ptr ob, ptr bb]) Try.func56 rfl _ Try.ntmps56 rfl (by simp [rd_excl, md_excl]) (fun w S => ?_)
  (try conv => rhs; simp only [List.cons_append, List.nil_append])
  repeat (first | refine go (k := ?_) | (refine goB (k := ?_); intro b) | (refine goA (k := ?_); intro ao cap))
  (apply Run.op; exact rfl; refine OpT.call0_ (spec := containsFuncN_is _ _ _ _ rfl (hsm.co x hx) _ [ptr ob, ptr bb] (md m) md_excl (oc pc ob bb cb mb op bx m) (by simp [blk_excl]) (fun i => decide (i.op = op) && decide (i.a = bx)) (by kernel_rfl) (fun i hi => owned11_is pc ob bb cb mb op bx m i)) (k := ?_); intro s hs; (try conv => rhs; simp only [List.cons_append, List.nil_append]))
  repeat (first | refine go (k := ?_) | (refine goB (k := ?_); intro b) | (refine goA (k := ?_); intro ao cap))
  (refine End.done1_ (()) (he := by rfl) (hp := ?_))
  trivial

set_option maxRecDepth 100000 in
set_option maxHeartbeats 1000000 in
theorem owned_is (cb mb : Nat) (m : ML) (hf : Formed m) : Fn Try.prog 38 #[ptr cb] [md m] (ck cb mb m) (σ := Unit) (fun _ => True) (fun _ => whereV (Ver.owned m.mdl 0 m.bx.length)) (fun _ => ck cb mb m) := by
  have hN := hf.units
  have hB := hf.boxes
  obtain ⟨W, hW⟩ : ∃ W, W = Ver.owned m.mdl 0 m.bx.length := ⟨_, rfl⟩
  rw [← hW]
  have hnu : m.mdl.units.length = m.us.length := by simp
  refine Fn.enter (args := [ptr cb]) Try.func38 rfl _ Try.ntmps38 rfl (by simp [rd_excl, md_excl]) (fun w S => ?_)
  (try conv => rhs; simp only [List.cons_append, List.nil_append])
  apply Cod.fact m.Small (fun w hm => (md_holds.1 (hm.has tk)).small)
  intro hsm
  repeat (first | refine go (k := ?_) | (refine goB (k := ?_); intro b) | (refine goA (k := ?_); intro ao cap))
  obtain ⟨wb, rfl⟩ : ∃ x, x = b := ⟨_, rfl⟩
  obtain ⟨pc, rfl⟩ : ∃ x, x = b := ⟨_, rfl⟩
  apply Cod.loop (σ := Nat) (fun k => k ≤ m.bx.length ∧ W = Ver.owned m.mdl k (m.bx.length - k)) (fun k => [(0, ptr cb), (1, ptr pc), (2, ptr wb), (16, .int .i64 (m.bx.length : Int)), (17, .int .i64 (k : Int))]) (fun _ => old w S :: md m :: blk wb [.int .i64 0, .int .i64 0, .int .i64 0] 91 :: blk pc [ptr cb] 98 :: ck cb mb m) (fun k => m.bx.length - k) 0
  rotate_left
  exact sb
  exact tks
  intro bx hs K1 hK1
  (try conv => rhs; simp only [List.cons_append, List.nil_append])
  rotate_left
  · exact ⟨Nat.zero_le _, hW⟩
  obtain ⟨hb, hWb⟩ := hs
  by_cases hbl : bx < m.bx.length
  · rw [show m.bx.length - bx = (m.bx.length - (bx + 1)) + 1 by omega] at hWb
    repeat (first | refine go (k := ?_) | (refine goB (k := ?_); intro b) | (refine goA (k := ?_); intro ao cap))
    obtain ⟨sl, rfl⟩ : ∃ x, x = b := ⟨_, rfl⟩
    obtain ⟨bb, rfl⟩ : ∃ x, x = b := ⟨_, rfl⟩
    apply Cod.imp (fun w hm => hm.toArr (f := i64c) (n := 2) tk [26, 27] rfl rfl (by unfold maxLen; omega))
    apply Cod.loop (σ := Nat) (fun j => j ≤ 2 ∧ (0 < j → ¬ 1 < Ver.users m.mdl 26 bx) ∧ (1 < j → ¬ 1 < Ver.users m.mdl 27 bx)) (fun j => [(0, ptr cb), (1, ptr pc), (2, ptr wb), (3, ptr bb), (16, .int .i64 (m.bx.length : Int)), (17, .int .i64 (bx : Int)), (20, .slice (some ⟨sl, 0, none⟩) 2 2), (21, .int .i64 ((2 : Nat) : Int)), (22, .int .i64 (j : Int))]) (fun _ => old w S :: md m :: blk wb [.int .i64 0, .int .i64 0, .int .i64 0] 91 :: blk pc [ptr cb] 98 :: arr (some ⟨sl, 0, none⟩) 2 2 3 i64c [26, 27] :: intB bb bx :: ck cb mb m) (fun j => 2 - j) 0
    rotate_left
    exact sb
    exact tks
    intro j hs K2 hK2
    (try conv => rhs; simp only [List.cons_append, List.nil_append])
    rotate_left
    · exact ⟨by omega, by omega, by omega⟩
    obtain ⟨hj, hj0, hj1⟩ := hs
    by_cases hj2 : j < 2
    · have hop : ([26, 27] : List Int).getD j default = 26 ∧ j = 0 ∨ ([26, 27] : List Int).getD j default = 27 ∧ j = 1 := by
        rcases (by omega : j = 0 ∨ j = 1) with rfl | rfl
        · exact .inl ⟨rfl, rfl⟩
        · exact .inr ⟨rfl, rfl⟩
      repeat (first | refine go (k := ?_) | (refine goB (k := ?_); intro b) | (refine goA (k := ?_); intro ao cap))
      obtain ⟨ob, rfl⟩ : ∃ x, x = b := ⟨_, rfl⟩
      generalize ([26, 27] : List Int).getD j default = op at *
      apply Cod.loop (σ := Nat × Nat) (fun s => s.1 ≤ m.us.length ∧ s.2 = Ver.usersTo m.mdl op bx s.1) (fun s => [(0, ptr cb), (1, ptr pc), (2, ptr wb), (3, ptr bb), (5, ptr ob), (6, .int .i64 (s.2 : Int)), (16, .int .i64 (m.bx.length : Int)), (17, .int .i64 (bx : Int)), (20, .slice (some ⟨sl, 0, none⟩) 2 2), (21, .int .i64 ((2 : Nat) : Int)), (22, .int .i64 (j : Int)), (32, .slice m.uo m.us.length m.uc), (33, .int .i64 (m.us.length : Int)), (34, .int .i64 (s.1 : Int))]) (fun _ => old w S :: md m :: blk wb [.int .i64 0, .int .i64 0, .int .i64 0] 91 :: blk pc [ptr cb] 98 :: arr (some ⟨sl, 0, none⟩) 2 2 3 i64c [26, 27] :: intB bb bx :: intB ob op :: ck cb mb m) (fun s => m.us.length - s.1) (0, 0)
      rotate_left
      exact sb
      exact tks
      intro s hs K3 hK3
      (try conv => rhs; simp only [List.cons_append, List.nil_append])
      rotate_left
      · exact ⟨Nat.zero_le _, rfl⟩
      obtain ⟨k, n⟩ := s
      obtain ⟨hk, hn⟩ := hs
      simp only at hk hn hK3 ⊢
      have hnk := Ver.usersTo_le m.mdl op bx k
      by_cases hkl : k < m.us.length
      · have hro : Ver.Once m.us.length (Ver.reach m.mdl k) := Ver.reachRun_once hf.calls _ _ _ (Ver.Once.one hkl)
        have hrl := hro.len
        have hfn : ∀ x ∈ Ver.reach m.mdl k, Fn Try.prog 56 (#[.int .i64 x] ++ [ptr pc, ptr ob, ptr bb].toArray) [md m] (oc pc ob bb cb mb op bx m) (σ := Unit) (fun _ => True) (fun _ => .bool ((m.us.getD x.toNat default).u.code.any fun i => decide (i.op = op) && decide (i.a = bx))) (fun _ => oc pc ob bb cb mb op bx m) := fun x hx => by
          obtain ⟨h1, h2⟩ := hro.ok x hx
          obtain ⟨y, rfl⟩ := Int.eq_ofNat_of_zero_le h1
          exact owned1_is pc ob bb cb mb op bx m y (by omega) hsm
        have hus : Ver.uses m.mdl op bx k = (Ver.reach m.mdl k).any fun x => (m.us.getD x.toNat default).u.code.any fun i => decide (i.op = op) && decide (i.a = bx) := by
          unfold Ver.uses; simp only [getD_u]
        have hsu := Ver.usersTo_succ m.mdl op bx k
        rw [ML.unit_at, hus] at hsu
        repeat' (first | ((first | (apply Run.op; exact rfl) | refine Run.yes_ (h := ?_)); refine OpT.call0_ (spec := reach_is cb mb m hf k hkl) (k := ?_); intro s hs; (try conv => rhs; simp only [List.cons_append, List.nil_append])) | ((first | (apply Run.op; exact rfl) | refine Run.yes_ (h := ?_)); refine OpT.call0_ (spec := containsFuncI_is _ _ _ (Ver.reach m.mdl k) rfl (by omega) _ [ptr pc, ptr ob, ptr bb] (md m) md_excl (oc pc ob bb cb mb op bx m) (by simp [blk_excl]) (fun x => (m.us.getD x.toNat default).u.code.any fun i => decide (i.op = op) && decide (i.a = bx)) (by kernel_rfl) hfn) (k := ?_); intro s hs; (try conv => rhs; simp only [List.cons_append, List.nil_append])) | refine go (k := ?_) | (refine goB (k := ?_); intro b) | (refine goA (k := ?_); intro ao cap) | refine goQ (k := fun h => ?_) (k' := fun h => ?_) | fail)
        · rw [if_pos (by rw [Bool.and_eq_true, decide_eq_true_eq]; exact ⟨by assumption, h⟩)] at hsu
          refine End.round0_ hK3 (k + 1, n + 1) ?_ ?_
          · exact ⟨by simp only; omega, by simp only; omega⟩
          · simp only; omega
        · rw [if_neg (by rw [Bool.and_eq_true]; intro h'; rw [h'.2] at h; cases h)] at hsu
          refine End.round0_ hK3 (k + 1, n) ?_ ?_
          · exact ⟨by simp only; omega, by simp only; omega⟩
          · simp only; omega
        · rw [if_neg (by rw [Bool.and_eq_true, decide_eq_true_eq]; intro h'; exact h h'.1)] at hsu
          refine End.round0_ hK3 (k + 1, n) ?_ ?_
          · exact ⟨by simp only; omega, by simp only; omega⟩
          · simp only; omega
      · have hkN : k = m.us.length := by omega
        subst hkN
        have hnu2 : n = Ver.users m.mdl op bx := by
          rw [hn]; unfold Ver.users Ver.usersTo; rw [hnu]
        repeat' (first | refine go (k := ?_) | (refine goB (k := ?_); intro b) | (refine goA (k := ?_); intro ao cap) | refine goQ (k := fun h => ?_) (k' := fun h => ?_) | fail)
        · have hWx : W = ⟨8, 0, bx⟩ := by
            rw [hWb]
            refine Ver.owned_1 ?_
            rcases hop with ⟨rfl, -⟩ | ⟨rfl, -⟩
            · exact .inl (by omega)
            · exact .inr (by omega)
          (refine End.doneC1_ (()) (he := by exact where_eq hWx) (hp := ?_))
          trivial
        · refine End.round0_ hK2 (j + 1) ?_ ?_
          · rcases hop with ⟨rfl, rfl⟩ | ⟨rfl, rfl⟩
            · exact ⟨by omega, fun _ => by omega, fun h => by omega⟩
            · exact ⟨by omega, fun _ => hj0 (by omega), fun _ => by omega⟩
          · omega
    · have hj2' : j = 2 := by omega
      rw [Ver.owned_2 (fun h => h.elim (hj0 (by omega)) (hj1 (by omega)))] at hWb
      repeat (first | refine go (k := ?_) | (refine goB (k := ?_); intro b) | (refine goA (k := ?_); intro ao cap))
      refine End.round0_ hK1 (bx + 1) ?_ ?_
      · exact ⟨by omega, hWb⟩
      · omega
  · rw [show m.bx.length - bx = 0 by omega] at hWb
    repeat (first | refine go (k := ?_) | (refine goB (k := ?_); intro b) | (refine goA (k := ?_); intro ao cap))
    (refine End.doneC1_ (()) (he := by exact where_eq hWb) (hp := ?_))
    trivial
end Go.Proofs.Ytjehflelkpacfaa.Vw

/- verify.Verify, walked. -/
namespace Go.Proofs.Ytjehflelkpacfaa.Vw
open Go.RowKit Go.Proofs.Ytjehflelkpacfaa.Img
set_option linter.unusedVariables false
set_option linter.unusedSimpArgs false
attribute [local irreducible] Run Cod End OpT Still RunQ RunS RunT Fn PutOk

theorem formed {m : ML} (h : Ver.FormOk m.mdl) : Formed m := by
  have hu : ∀ k, k < m.us.length → (m.us.getD k default).u ∈ m.mdl.units := fun k hk => List.mem_map.2 ⟨_, ML.uat_mem hk, rfl⟩
  exact ⟨h.nboxes, by simpa using h.nunits, fun k hk => (h.units _ (hu k hk)).1, fun k hk => (h.units _ (hu k hk)).2⟩

theorem Cod.only {P : Program} {Q : Exit → Act → World → Prop} {N : Nat} {E : Env} {c : Code} {L F : List Chunk} (cs : List Chunk) (t : Takes cs L F) (h : Cod P Q N c E cs) : Cod P Q N c E L :=
  Cod.imp (fun w hm => (hm.takes t).left) h
set_option maxRecDepth 100000 in
theorem verify_is (m : ML) (hwf : m.Wf) : Fn Try.prog 29 #[m.val] [md m] [] (σ := Unit) (fun _ => True) (fun _ => whereV (Ver.verify m.mdl)) (fun _ => []) := by
  obtain ⟨W, hW⟩ : ∃ W, W = Ver.verify m.mdl := ⟨_, rfl⟩
  rw [← hW]
  have hnu : m.mdl.units.length = m.us.length := by simp
  refine Fn.enter (args := [m.val]) Try.func29 rfl _ Try.ntmps29 rfl (by simp [rd_excl, md_excl]) (fun w S => ?_)
  (try conv => rhs; simp only [List.cons_append, List.nil_append])
  apply Cod.fact m.Small (fun w hm => (md_holds.1 (hm.has tk)).small)
  intro hsm
  have hs2 := hsm.us
  repeat (first | refine go (k := ?_) | (refine goB (k := ?_); intro b) | (refine goA (k := ?_); intro ao cap))
  obtain ⟨cb, rfl⟩ : ∃ x, x = b := ⟨_, rfl⟩
  obtain ⟨wb, rfl⟩ : ∃ x, x = b := ⟨_, rfl⟩
  obtain ⟨mb, rfl⟩ : ∃ x, x = b := ⟨_, rfl⟩
  (apply Run.op; exact rfl; refine OpT.call0_ (spec := form_is cb mb m hwf) (k := ?_); intro s hs; (try conv => rhs; simp only [List.cons_append, List.nil_append]))
  by_cases hf : (Ver.form m.mdl).err = 0
  · have hF := formed (Ver.form_ok.1 hf)
    repeat (first | refine go (k := ?_) | (refine goB (k := ?_); intro b) | (refine goA (k := ?_); intro ao cap))
    refine Cod.only ((fun _ => old w S :: md m :: blk wb [.int .i64 0, .int .i64 0, .int .i64 0] 91 :: ck cb mb m) 0) (by (repeat (first | exact Takes.nil | exact Take.head | apply Take.tail | apply Takes.cons))) ?_
    apply Cod.loop (σ := Nat) (fun k => k ≤ m.us.length ∧ Ver.codes m.mdl 0 m.mdl.units.length = Ver.codes m.mdl k (m.us.length - k)) (fun k => [(1, ptr mb), (2, ptr wb), (3, ptr cb), (17, .int .i64 (m.us.length : Int)), (18, .int .i64 (k : Int))]) (fun _ => old w S :: md m :: blk wb [.int .i64 0, .int .i64 0, .int .i64 0] 91 :: ck cb mb m) (fun k => m.us.length - k) 0
    rotate_left
    exact sb
    exact tks
    intro k hs K1 hK1
    (try conv => rhs; simp only [List.cons_append, List.nil_append])
    rotate_left
    · exact ⟨Nat.zero_le _, by simp⟩
    obtain ⟨hk, hc⟩ := hs
    by_cases hkl : k < m.us.length
    · rw [show m.us.length - k = (m.us.length - (k + 1)) + 1 by omega] at hc
      repeat (first | refine go (k := ?_) | (refine goB (k := ?_); intro b) | (refine goA (k := ?_); intro ao cap))
      (apply Run.op; exact rfl; refine OpT.call0_ (spec := code_is cb mb m k hkl hF hwf) (k := ?_); intro s hs; (try conv => rhs; simp only [List.cons_append, List.nil_append]))
      by_cases he : (Ver.code m.mdl k).err = 0
      · rw [Ver.codes_2 he] at hc
        repeat (first | refine go (k := ?_) | (refine goB (k := ?_); intro b) | (refine goA (k := ?_); intro ao cap))
        refine End.round0_ hK1 (k + 1) ?_ ?_
        · exact ⟨by omega, hc⟩
        · omega
      · rw [Ver.codes_1 he] at hc
        have hWx : W = Ver.code m.mdl k := by
          rw [hW, Ver.verify_2 hf (by rw [hc]; exact he), hc]
        repeat (first | refine go (k := ?_) | (refine goB (k := ?_); intro b) | (refine goA (k := ?_); intro ao cap))
        (refine End.doneC1_ (()) (he := by exact where_eq hWx) (hp := ?_))
        trivial
    · have hWx : W = Ver.owned m.mdl 0 m.bx.length := by
        rw [hW, Ver.verify_3 hf (by rw [hc, show m.us.length - k = 0 by omega]; rfl)]
      repeat (first | refine go (k := ?_) | (refine goB (k := ?_); intro b) | (refine goA (k := ?_); intro ao cap))
      (apply Run.op; exact rfl; refine OpT.call0_ (spec := owned_is cb mb m hF) (k := ?_); intro s hs; (try conv => rhs; simp only [List.cons_append, List.nil_append]))
      repeat (first | refine go (k := ?_) | (refine goB (k := ?_); intro b) | (refine goA (k := ?_); intro ao cap))
      (refine End.doneC1_ (()) (he := by exact where_eq hWx) (hp := ?_))
      trivial
  · have hWx : W = Ver.form m.mdl := by rw [hW, Ver.verify_1 hf]
    repeat (first | refine go (k := ?_) | (refine goB (k := ?_); intro b) | (refine goA (k := ?_); intro ao cap))
    (refine End.doneC1_ (()) (he := by exact where_eq hWx) (hp := ?_))
    trivial
end Go.Proofs.Ytjehflelkpacfaa.Vw

/- A task's small functions, walked. -/
namespace Go.Proofs.Ytjehflelkpacfaa.Vw
open Go.RowKit Go.Proofs.Ytjehflelkpacfaa.Img
set_option linter.unusedVariables false
set_option linter.unusedSimpArgs false
attribute [local irreducible] Run Cod End OpT Still RunQ RunS RunT Fn PutOk
variable (E : EnvM)
set_option maxRecDepth 100000 in
theorem tell_is (F : TF) (st tr : Int) (e : E.μ) (he : E.okk e) (a b v : Int) : Fn Try.prog 46 #[ptr F.tb, .int .i64 a, .int .i64 b, .int .i64 v] [E.rc] [E.tc F st tr, E.mem e] (σ := E.μ) (fun e' => E.ok e' ∧ E.abs e' = E.V.tell (E.abs e) (a, b, v)) (fun _ => .tuple #[]) (fun e' => [E.tc F st tr, E.mem e']) := by
  have hT := E.tell
  have key : Fn Try.prog 46 #[ptr F.tb, .int .i64 a, .int .i64 b, .int .i64 v] [E.rc] [blk F.tb (tcl F.mb E.mailV F.cos F.cb st F.bx tr F.out (toldV E.told)) 88, E.mem e] (σ := E.μ) (fun e' => E.ok e' ∧ E.abs e' = E.V.tell (E.abs e) (a, b, v)) (fun _ => .tuple #[]) (fun e' => [blk F.tb (tcl F.mb E.mailV F.cos F.cb st F.bx tr F.out (toldV E.told)) 88, E.mem e']) := by
    cases ht : E.told with
    | none =>
      rw [ht] at hT
      refine Fn.enter (args := [ptr F.tb, .int .i64 a, .int .i64 b, .int .i64 v]) Try.func46 rfl _ Try.ntmps46 rfl (by simp [rd_excl, md_excl]) (fun w S => ?_)
      (try conv => rhs; simp only [List.cons_append, List.nil_append])
      repeat (first | refine go (k := ?_) | (refine goB (k := ?_); intro b) | (refine goA (k := ?_); intro ao cap))
      (refine End.done0'_ (e) (hp := ?_))
      exact ⟨he.1, (hT _ _).symm⟩
    | some fc =>
      obtain ⟨f, cap⟩ := fc
      rw [ht] at hT
      obtain ⟨hb, hT⟩ := hT
      have hT := hT e a b v he.1 he.2
      refine Fn.enter (args := [ptr F.tb, .int .i64 a, .int .i64 b, .int .i64 v]) Try.func46 rfl _ Try.ntmps46 rfl (by simp [rd_excl, md_excl]) (fun w S => ?_)
      (try conv => rhs; simp only [List.cons_append, List.nil_append])
      repeat (first | refine go (k := ?_) | (refine goB (k := ?_); intro b) | (refine goA (k := ?_); intro ao cap))
      (apply Run.op; exact rfl; refine OpT.call_ (spec := hT) (hc := hb) (r := fun w => Reads.any (by (repeat (first | exact Take.head | apply Take.tail))) E.rexcl .nil) (k := ?_))
      intro s hs
      (try conv => rhs; simp only [List.cons_append, List.nil_append])
      repeat (first | refine go (k := ?_) | (refine goB (k := ?_); intro b) | (refine goA (k := ?_); intro ao cap))
      (refine End.done0'_ (s) (hp := ?_))
      exact hs
  exact key
set_option maxRecDepth 100000 in
theorem trap_is (F : TF) (st tr : Int) (e : E.μ) (he : E.okk e) (n : Int) : Fn Try.prog 44 #[ptr F.tb, .int .i64 n] [E.rc] [E.tc F st tr, E.mem e] (σ := Int × Int × E.μ) (Trapped E n st tr e) (fun _ => .tuple #[]) (fun q => [E.tc F q.1 q.2.1, E.mem q.2.2]) := by
  refine Fn.enter (args := [ptr F.tb, .int .i64 n]) Try.func44 rfl _ Try.ntmps44 rfl (by simp [rd_excl, md_excl]) (fun w S => ?_)
  (try conv => rhs; simp only [List.cons_append, List.nil_append])
  by_cases h5 : st = 5
  · repeat (first | refine go (k := ?_) | (refine goB (k := ?_); intro b) | (refine goA (k := ?_); intro ao cap))
    (refine End.done0'_ ((st, tr, e)) (hp := ?_))
    exact ⟨fun _ => rfl, fun h => absurd h5 h⟩
  · repeat (first | refine go (k := ?_) | (refine goB (k := ?_); intro b) | (refine goA (k := ?_); intro ao cap))
    ((first | (apply Run.op; exact rfl) | refine Run.yes_ (h := ?_)); refine OpT.call0_ (spec := tell_is E F 5 n e he 5 0 n) (r := fun w => Reads.any (by (repeat (first | exact Take.head | apply Take.tail))) E.rexcl .nil) (k := ?_); intro s hs; (try conv => rhs; simp only [List.cons_append, List.nil_append]))
    repeat (first | refine go (k := ?_) | (refine goB (k := ?_); intro b) | (refine goA (k := ?_); intro ao cap))
    (refine End.done0'_ ((5, n, s)) (hp := ?_))
    exact ⟨fun h => absurd h h5, fun _ => ⟨rfl, rfl, hs⟩⟩
set_option maxRecDepth 100000 in
theorem push_is' (F : TF) (st tr : Int) (e : E.μ) (he : E.okk e) (cst : Int) (up fr : Value) (k : Sk) (hk : k.Ok) (v : Int) : Fn Try.prog 41 #[ptr F.tb, .int .i64 v] [E.rc] (E.tc F st tr :: cc F.cb cst up fr k.sb :: E.mem e :: skM k) (σ := Sk × Int × Int × E.μ) (Pushed E v k st tr e) (fun _ => .tuple #[]) (fun q => E.tc F q.2.1 q.2.2.1 :: cc F.cb cst up fr q.1.sb :: E.mem q.2.2.2 :: skM q.1) := by
  refine Fn.enter (args := [ptr F.tb, .int .i64 v]) Try.func41 rfl _ Try.ntmps41 rfl (by simp [rd_excl, md_excl]) (fun w S => ?_)
  (try conv => rhs; simp only [List.cons_append, List.nil_append])
  repeat (first | refine go (k := ?_) | (refine goB (k := ?_); intro b) | (refine goA (k := ?_); intro ao cap))
  (apply Run.op; exact rfl; refine OpT.call0_ (spec := push_stk k hk v) (k := ?_); intro s hs; (try conv => rhs; simp only [List.cons_append, List.nil_append]))
  by_cases h4 : k.live = 400
  · rw [if_pos h4] at hs
    rw [hs, decide_eq_true h4]
    repeat (first | refine go (k := ?_) | (refine goB (k := ?_); intro b) | (refine goA (k := ?_); intro ao cap))
    ((first | (apply Run.op; exact rfl) | refine Run.yes_ (h := ?_)); refine OpT.call0_ (spec := trap_is E F st tr e he 4) (r := fun w => Reads.any (by (repeat (first | exact Take.head | apply Take.tail))) E.rexcl .nil) (k := ?_); intro s hs; (try conv => rhs; simp only [List.cons_append, List.nil_append]))
    repeat (first | refine go (k := ?_) | (refine goB (k := ?_); intro b) | (refine goA (k := ?_); intro ao cap))
    (refine End.done0'_ ((k, s)) (hp := ?_))
    exact ⟨fun _ => ⟨rfl, hs⟩, fun h => absurd h4 h⟩
  · rw [if_neg h4] at hs
    rw [decide_eq_false h4]
    obtain ⟨sb2, lb2, l2, live2⟩ := s
    obtain rfl : sb2 = k.sb := hs.sb
    repeat (first | refine go (k := ?_) | (refine goB (k := ?_); intro b) | (refine goA (k := ?_); intro ao cap))
    (refine End.done0'_ ((⟨k.sb, lb2, l2, live2⟩, st, tr, e)) (hp := ?_))
    exact ⟨fun h => absurd h h4, fun _ => ⟨hs, rfl⟩⟩
set_option maxRecDepth 100000 in
theorem pop_is' (F : TF) (st tr : Int) (cst : Int) (up fr : Value) (mail told : Value) (k : Sk) (hk : k.Ok) (h0 : 0 < k.live) : Fn Try.prog 43 #[ptr F.tb] [] (blk F.tb (tcl F.mb mail F.cos F.cb st F.bx tr F.out told) 88 :: cc F.cb cst up fr k.sb :: skM k) (σ := Sk) (fun k' => SkTo k k' (k.ws.take (k.live - 1))) (fun _ => .int .i64 (k.ws.getD (k.live - 1) 0)) (fun k' => blk F.tb (tcl F.mb mail F.cos F.cb st F.bx tr F.out told) 88 :: cc F.cb cst up fr k'.sb :: skM k') := by
  obtain ⟨g1, g2, g3⟩ := id hk
  refine Fn.enter (args := [ptr F.tb]) Try.func43 rfl _ Try.ntmps43 rfl (by simp [rd_excl, md_excl]) (fun w S => ?_)
  (try conv => rhs; simp only [List.cons_append, List.nil_append])
  repeat (first | refine go (k := ?_) | (refine goB (k := ?_); intro b) | (refine goA (k := ?_); intro ao cap))
  (apply Run.op; exact rfl; refine OpT.call0_ (spec := live_is k) (k := ?_); intro s hs; (try conv => rhs; simp only [List.cons_append, List.nil_append]))
  have s1 : IntKind.i64.wrap ((k.live : Int) - 1) = ((k.live - 1 : Nat) : Int) := by rw [wrap_i64_in (by omega)]; omega
  repeat (first | refine go (k := ?_) | (refine goB (k := ?_); intro b) | (refine goA (k := ?_); intro ao cap))
  (apply Run.op; exact rfl; refine OpT.call0_ (spec := at_is k (k.live - 1) (by omega) g3) (k := ?_); intro s hs; (try conv => rhs; simp only [List.cons_append, List.nil_append]))
  repeat (first | refine go (k := ?_) | (refine goB (k := ?_); intro b) | (refine goA (k := ?_); intro ao cap))
  (apply Run.op; exact rfl; refine OpT.call0_ (spec := pop_stk k hk 1 h0) (k := ?_); intro s hs; (try conv => rhs; simp only [List.cons_append, List.nil_append]))
  obtain ⟨sb2, lb2, l2, live2⟩ := s
  obtain rfl : sb2 = k.sb := hs.sb
  repeat (first | refine go (k := ?_) | (refine goB (k := ?_); intro b) | (refine goA (k := ?_); intro ao cap))
  refine End.done1_ (⟨k.sb, lb2, l2, live2⟩ : Sk) (he := ?_) (hp := hs)
  show _ = Value.int IntKind.i64 ((k.l.take k.live).getD (k.live - 1) 0)
  rw [List.getD_eq_getElem?_getD, List.getD_eq_getElem?_getD, List.getElem?_take, if_pos (by omega)]
  rfl
set_option maxRecDepth 100000 in
theorem args_is' (F : TF) (st tr : Int) (cst : Int) (up fr : Value) (mail told : Value) (k : Sk) (hk : k.Ok) (n : Nat) (h0 : n ≤ k.live) : Fn Try.prog 66 #[ptr F.tb, .int .i64 (n : Int)] [] (blk F.tb (tcl F.mb mail F.cos F.cb st F.bx tr F.out told) 88 :: cc F.cb cst up fr k.sb :: skM k) (σ := Sk × Option Addr × Nat) (fun s => SkTo k s.1 (k.ws.take (k.live - n))) (fun s => .slice s.2.1 n s.2.2) (fun s => arr s.2.1 n s.2.2 2 i64c (k.ws.drop (k.live - n)) :: blk F.tb (tcl F.mb mail F.cos F.cb st F.bx tr F.out told) 88 :: cc F.cb cst up fr s.1.sb :: skM s.1) := by
  obtain ⟨g1, g2, g3⟩ := id hk
  have hwl := Sk.len hk
  refine Fn.enter (args := [ptr F.tb, .int .i64 (n : Int)]) Try.func66 rfl _ Try.ntmps66 rfl (by simp [rd_excl, md_excl]) (fun w S => ?_)
  (try conv => rhs; simp only [List.cons_append, List.nil_append])
  repeat (first | refine go (k := ?_) | (refine goB (k := ?_); intro b) | (refine goA (k := ?_); intro ao cap))
  (apply Run.op; exact rfl; refine OpT.call0_ (spec := words_stk k hk) (k := ?_); intro s hs; (try conv => rhs; simp only [List.cons_append, List.nil_append]))
  obtain ⟨ao, cap⟩ := s
  repeat (first | refine go (k := ?_) | (refine goB (k := ?_); intro b) | (refine goA (k := ?_); intro ao cap))
  (apply Run.op; exact rfl; refine OpT.call0_ (spec := live_is k) (k := ?_); intro s hs; (try conv => rhs; simp only [List.cons_append, List.nil_append]))
  have s1 : IntKind.i64.wrap ((k.live : Int) - (n : Int)) = ((k.live - n : Nat) : Int) := by rw [wrap_i64_in (by omega)]; omega
  repeat (first | refine go (k := ?_) | (refine goB (k := ?_); intro b) | (refine goA (k := ?_); intro ao cap))
  rw [show k.live - (k.live - n) = n by omega]
  (apply Run.op; exact rfl; refine OpT.call0_ (spec := pop_stk k hk n h0) (k := ?_); intro s hs; (try conv => rhs; simp only [List.cons_append, List.nil_append]))
  obtain ⟨sb2, lb2, l2, live2⟩ := s
  obtain rfl : sb2 = k.sb := hs.sb
  repeat (first | refine go (k := ?_) | (refine goB (k := ?_); intro b) | (refine goA (k := ?_); intro ao cap))
  refine End.done1_ ((⟨k.sb, lb2, l2, live2⟩ : Sk), ao, cap) (he := by rfl) (hp := hs)
end Go.Proofs.Ytjehflelkpacfaa.Vw

/- A task as it lies in memory: one thread at work, the others in a bag. -/
namespace Go.Proofs.Ytjehflelkpacfaa.Vw
open Go.RowKit Go.Proofs.Ytjehflelkpacfaa.Img
set_option linter.unusedVariables false
set_option linter.unusedSimpArgs false
def ptrC (b : Nat) : List Value := [ptr b]
instance : Enc ptrC := ⟨fun _ => rfl, by decide, fun a u hu => by simp [ptrC] at hu; subst hu; rfl⟩
def frC (f : Vm.Fr) : List Value := [.int .i64 (f.unit : Int), .int .i64 (f.pc : Int), .int .i64 (f.base : Int)]
instance : Enc frC := ⟨fun _ => rfl, by decide, fun a u hu => by simp [frC] at hu; rcases hu with rfl | rfl | rfl <;> rfl⟩
/-- a thread, and where it lies -/
structure CoL where
  cb : Nat
  st : Nat
  up : Option Nat
  upb : Option Nat
  fo : Option Addr
  fc : Nat
  fr : List Vm.Fr
  sk : Sk
instance : Inhabited CoL := ⟨⟨0, 0, none, none, none, 0, [], default⟩⟩
def CoL.abs (c : CoL) : Vm.Co := ⟨c.st, c.up, c.fr, c.sk.ws⟩
def ptrO : Option Nat → Value
  | none => .pointer none
  | some b => ptr b
abbrev frM (c : CoL) : Chunk := arr c.fo c.fr.length c.fc 112 frC c.fr
abbrev ccM (c : CoL) : Chunk := cc c.cb (c.st : Int) (ptrO c.upb) (.slice c.fo c.fr.length c.fc) c.sk.sb
abbrev coM (c : CoL) : List Chunk := [ccM c, frM c, blk c.sk.sb (skC c.sk) 141, arr (some ⟨c.sk.lb, 0, none⟩) c.sk.l.length c.sk.l.length 2 i64c c.sk.l]
def bagM (l : List CoL) : Chunk := bag (l.flatMap coM)
@[simp] theorem bagM_excl (l : List CoL) : (bagM l).excl = true := bag_excl
/-- where a task is, and its module's variable -/
structure Pl where
  tb : Nat
  mb : Nat
  m : ML
structure SL (E : EnvM) where
  co : Option Addr
  ccap : Nat
  bs : List Nat
  oth : List CoL
  now : Nat
  cur : CoL
  st : Int
  bx : Int
  tr : Int
  oo : Option Addr
  oc : Nat
  out : List Int
  e : E.μ
abbrev mdV (m : ML) : List Value := [.slice m.bo m.bx.length m.bc, .slice m.uo m.us.length m.uc]
abbrev tkM {E : EnvM} (p : Pl) (s : SL E) : Chunk := blk p.tb (tcl p.mb E.mailV (.slice s.co s.bs.length s.ccap) s.cur.cb s.st s.bx s.tr (.slice s.oo s.out.length s.oc) (toldV E.told)) 88
abbrev moM (p : Pl) : Chunk := blk p.mb (mdV p.m) 25
abbrev csM {E : EnvM} (s : SL E) : Chunk := arr s.co s.bs.length s.ccap 86 ptrC s.bs
abbrev ouM {E : EnvM} (s : SL E) : Chunk := arr s.oo s.out.length s.oc 2 i64c s.out
abbrev TM {E : EnvM} (p : Pl) (s : SL E) : List Chunk := [tkM p s, moM p, csM s, ouM s, bagM (s.oth.eraseIdx s.now), E.mem s.e, ccM s.cur, frM s.cur, blk s.cur.sk.sb (skC s.cur.sk) 141, arr (some ⟨s.cur.sk.lb, 0, none⟩) s.cur.sk.l.length s.cur.sk.l.length 2 i64c s.cur.sk.l]
section
variable {E : EnvM}
def SL.all (s : SL E) : List CoL := s.oth.set s.now s.cur
def SL.tk (s : SL E) : Vm.Tk := ⟨s.all.map CoL.abs, s.now, s.st, s.bx, s.tr, s.out⟩
def SL.two (s : SL E) : Vm.Tk × E.ν := (s.tk, E.abs s.e)
structure SL.Wf (s : SL E) : Prop where
  now : s.now < s.oth.length
  len : s.bs.length = s.oth.length
  few : s.oth.length ≤ 31
  at_ : ∀ i, i < s.oth.length → (s.all.getD i default).cb = s.bs.getD i 0
  up : ∀ c ∈ s.all, c.upb = c.up.map fun j => s.bs.getD j 0
  upl : ∀ c ∈ s.all, ∀ j, c.up = some j → j < s.oth.length
  sk : ∀ c ∈ s.all, c.sk.Ok
  env : E.ok s.e
variable {s : SL E}
theorem SL.Wf.curMem (h : s.Wf) : s.cur ∈ s.all := by
  unfold SL.all
  exact List.mem_set h.now _
theorem SL.Wf.curOk (h : s.Wf) : s.cur.sk.Ok := h.sk _ h.curMem
theorem SL.allLen (s : SL E) : s.all.length = s.oth.length := List.length_set
theorem SL.Wf.curGet (h : s.Wf) : s.all.getD s.now default = s.cur := by
  unfold SL.all
  rw [List.getD_eq_getElem?_getD, List.getElem?_set_self (by exact h.now)]
  rfl
theorem getD_map0 {α β : Type} [Inhabited α] [Inhabited β] (f : α → β) (l : List α) {k : Nat} (hk : k < l.length) : (l.map f).getD k default = f (l.getD k default) := by
  rw [List.getD_eq_getElem?_getD, List.getD_eq_getElem?_getD, List.getElem?_map, List.getElem?_eq_getElem hk]
  rfl
theorem SL.Wf.cur (h : s.Wf) : Vm.cur s.tk = s.cur.abs := by
  show (s.all.map CoL.abs).getD s.now default = _
  rw [getD_map0 _ _ (by rw [s.allLen]; exact h.now), h.curGet]
theorem SL.Wf.curCb (h : s.Wf) : s.cur.cb = s.bs.getD s.now 0 := by
  rw [← h.at_ _ h.now, h.curGet]
/-- with another thread at work in its place -/
theorem SL.tk_cur (s : SL E) (c : CoL) : ({ s with cur := c } : SL E).tk = Vm.setCur s.tk c.abs := by
  unfold SL.tk Vm.setCur Vm.setC SL.all
  simp only [List.map_set, List.set_set]
theorem SL.Wf.setCur (h : s.Wf) {c : CoL} (hcb : c.cb = s.cur.cb) (hup : c.up = s.cur.up) (hupb : c.upb = s.cur.upb) (hk : c.sk.Ok) : ({ s with cur := c } : SL E).Wf := by
  have hset : ∀ d ∈ ({ s with cur := c } : SL E).all, d = c ∨ d ∈ s.all := fun d hd => by
    unfold SL.all at hd ⊢
    simp only at hd
    obtain ⟨i, hi, e⟩ := List.mem_iff_getElem.1 hd
    rw [List.getElem_set] at e
    split at e
    · exact .inl e.symm
    · rename_i hne
      right
      rw [← e]
      refine List.mem_iff_getElem.2 ⟨i, by simpa using hi, ?_⟩
      rw [List.getElem_set_ne hne]
  have hall : ∀ i, i < s.oth.length → (({ s with cur := c } : SL E).all.getD i default).cb = (s.all.getD i default).cb := fun i hi => by
    unfold SL.all
    simp only [List.getD_eq_getElem?_getD, List.getElem?_set]
    by_cases hn : s.now = i
    · subst hn
      simp [h.now, hcb]
    · simp [hn]
  refine ⟨h.now, h.len, h.few, fun i hi => (hall i hi).trans (h.at_ i hi), fun d hd => ?_, fun d hd => ?_, fun d hd => ?_, h.env⟩
  · rcases hset d hd with rfl | hd
    · rw [hup, hupb]; exact h.up _ h.curMem
    · exact h.up _ hd
  · rcases hset d hd with rfl | hd
    · rw [hup]; exact h.upl _ h.curMem
    · exact h.upl _ hd
  · rcases hset d hd with rfl | hd
    · exact hk
    · exact h.sk _ hd
end
end Go.Proofs.Ytjehflelkpacfaa.Vw

/- What two words come to: vm.Two and vm.truth, walked. -/
namespace Go.Proofs.Ytjehflelkpacfaa.Vw
open Go.RowKit Go.Proofs.Ytjehflelkpacfaa.Img
set_option linter.unusedVariables false
set_option linter.unusedSimpArgs false
attribute [local irreducible] Run Cod End OpT Still RunQ RunS RunT Fn PutOk
set_option maxRecDepth 100000 in
theorem truth_is (t : Bool) : Fn Try.prog 63 #[.bool t] [] [] (σ := Unit) (fun _ => True) (fun _ => .int .i64 (Opt.yes t)) (fun _ => []) := by
  refine Fn.enter (args := [.bool t]) Try.func63 rfl _ Try.ntmps63 rfl (by simp [rd_excl, md_excl]) (fun w S => ?_)
  (try conv => rhs; simp only [List.cons_append, List.nil_append])
  cases t with
  | true => 
    repeat (first | refine go (k := ?_) | (refine goB (k := ?_); intro b) | (refine goA (k := ?_); intro ao cap))
    (refine End.done1_ (()) (he := by (first | exact rfl | (refine congrArg (Value.int _) ?_; omega) | (refine congrArg (Value.int _) ?_; dsimp only; omega))) (hp := ?_))
    trivial
  | false => 
    repeat (first | refine go (k := ?_) | (refine goB (k := ?_); intro b) | (refine goA (k := ?_); intro ao cap))
    (refine End.done1_ (()) (he := by (first | exact rfl | (refine congrArg (Value.int _) ?_; omega) | (refine congrArg (Value.int _) ?_; dsimp only; omega))) (hp := ?_))
    trivial
theorem min_div1 {op : Int} (h : op = 11) (a : Int) (ha : a = -9223372036854775808) : IntKind.i64.wrap (Opt.yes (decide (op = 11)) * a) = a := by
  subst ha h; decide
theorem min_div2 {op : Int} (h : op = 12) (a : Int) (ha : a = -9223372036854775808) : IntKind.i64.wrap (Opt.yes (decide (op = 11)) * a) = 0 := by
  subst ha h; decide
set_option maxRecDepth 100000 in
set_option maxHeartbeats 1000000 in
theorem two2_is (op a b : Int) (ha : ImgM.In64 a) (hb : ImgM.In64 b) (h0 : op = 11 ∨ op = 12 → b ≠ 0) : Fn Try.prog 45 #[.int .i64 op, .int .i64 a, .int .i64 b] [] [] (σ := Unit) (fun _ => True) (fun _ => .int .i64 (Opt.two2 op a b)) (fun _ => []) := by
  unfold ImgM.In64 at ha hb
  refine Fn.enter (args := [.int .i64 op, .int .i64 a, .int .i64 b]) Try.func45 rfl _ Try.ntmps45 rfl (by simp [rd_excl, md_excl]) (fun w S => ?_)
  (try conv => rhs; simp only [List.cons_append, List.nil_append])
  repeat' (first | ((first | (apply Run.op; exact rfl) | refine Run.yes_ (h := ?_)); refine OpT.call0_ (spec := truth_is _) (k := ?_); intro s hs; (try conv => rhs; simp only [List.cons_append, List.nil_append])) | (apply Run.op; exact rfl; refine OpT.val_ (h := by (apply Still.quo; exact rfl; exact rfl; (exact h0 (by omega)); exact rfl)) (k := ?_)) | (apply Run.op; exact rfl; refine OpT.val_ (h := by (apply Still.rem; exact rfl; exact rfl; (exact h0 (by omega)); exact rfl)) (k := ?_)) | refine go (k := ?_) | (refine goB (k := ?_); intro b) | (refine goA (k := ?_); intro ao cap) | refine goQ (k := fun h => ?_) (k' := fun h => ?_) | fail)
  all_goals ((refine End.done1_ (()) (he := by (refine int_eq ?_; unfold Opt.two2; (repeat (first | rw [if_neg (by omega)] | rw [if_pos (by omega)])); first | done | (refine min_div1 (op := op) ?_ _ ?_ <;> first | assumption | omega) | (refine min_div2 (op := op) ?_ _ ?_ <;> first | assumption | omega))) (hp := ?_)); trivial)
theorem yes_in64 (b : Bool) : ImgM.In64 (Opt.yes b) := by cases b <;> (unfold ImgM.In64 Opt.yes; omega)
end Go.Proofs.Ytjehflelkpacfaa.Vw
