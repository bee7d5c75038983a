/- yieldref14's Rule, walked. -/
import Derived.Test.YtfeajpghabjaaaaM23
namespace Go.Proofs.Ytfeajpghabjaaaa.Vw
open Go.RowKit Go.Proofs.Ytfeajpghabjaaaa.Img
set_option linter.unusedVariables false
set_option linter.unusedSimpArgs false
attribute [local irreducible] Run Cod End OpT Still RunQ RunS RunT Fn PutOk
abbrev ruF (ao : Option Addr) (n cap : Nat) (l : List ImgM.Ins) (p : Nat) : Prop := Fn Try.prog 36 #[.slice ao n cap, .int .i64 (p : Int)] [rd ao n cap insC l] [] (σ := Option Addr × Nat) (fun _ => True) (fun s => shV5 l p s) (fun s => [arr s.1 (Opt.shorter l p).1.length s.2 57 insC (Opt.shorter l p).1])
theorem three_no {l : List ImgM.Ins} {p : Nat} (h : Opt.isC (Opt.at_ l p) = false) : r3 l p = none := by
  unfold r3
  split
  · unfold Opt.three; rw [if_pos (.inl h)]
  · rfl
set_option maxRecDepth 100000 in
set_option maxHeartbeats 2000000 in
theorem rule_a (ao : Option Addr) (n cap : Nat) (l : List ImgM.Ins) (hn : l.length = n) (hm : n ≤ 1000000) (hl : In64s l) (p : Nat) (hp : p < n) (hc : Opt.isC (l.getD p default) = false) : ruF ao n cap l p := by
  unfold ruF
  have hx := hl.at_ (p := p) (by omega)
  have h3 := three_no (l := l) (p := p) hc
  have ht : Opt.tr14 (l.getD p default) = false := by
    unfold Opt.tr14
    unfold Opt.isC at hc
    rw [Bool.or_eq_false_iff] at hc
    exact hc.2
  refine Fn.enter (args := [.slice ao n cap, .int .i64 (p : Int)]) Try.func36 rfl _ Try.ntmps36 rfl (by simp [rd_excl, md_excl]) (fun w S => ?_)
  (try conv => rhs; simp only [List.cons_append, List.nil_append])
  repeat (first | refine go (k := ?_) | (refine goB (k := ?_); intro b) | (refine goA (k := ?_); intro ao cap))
  obtain ⟨pb, rfl⟩ : ∃ x, x = b := ⟨_, rfl⟩
  obtain ⟨lb, rfl⟩ : ∃ x, x = b := ⟨_, rfl⟩
  (first | (apply Run.op; exact rfl) | refine Run.yes_ (h := ?_)); refine OpT.call0_ (spec := word_is _ hx.1) (k := ?_); intro s hs; (try conv => rhs; simp only [List.cons_append, List.nil_append])
  rw [hc, ht]
  repeat (first | refine go (k := ?_) | (refine goB (k := ?_); intro b) | (refine goA (k := ?_); intro ao cap))
  (first | (apply Run.op; exact rfl) | refine Run.yes_ (h := ?_)); refine OpT.call_ (spec := lone_is pb lb p ao n cap l hn hm (by omega) 2 (by omega)) (k := ?_); intro s hs; (try conv => rhs; simp only [List.cons_append, List.nil_append])
  repeat (first | refine go (k := ?_) | (refine goB (k := ?_); intro b) | (refine goA (k := ?_); intro ao cap))
  refine cutN0 (σ := Unit) (fun _ => r2 l p = none) (fun _ => [(2, ptr lb), (3, ptr pb), (6, .func (.func 66) #[] #[ptr pb, ptr lb])]) (fun _ => old w S :: rd ao n cap insC l :: loC pb lb p ao n cap) ?_ ?_
  · rintro - h2
    repeat (first | refine go (k := ?_) | (refine goB (k := ?_); intro b) | (refine goA (k := ?_); intro ao cap))
    apply Cod.draw 20 ([blk pb [.int .i64 (p : Int)] 3, blk lb [.slice ao n cap] 36, rd ao n cap insC l]) (by kernel_rfl) 20 rfl
    refine RunT.takeN_ 0 (h := ?_)
    (refine RunT.one_ 1 (h := ?_); refine OpT.call_ (spec := lone_is pb lb p ao n cap l hn hm (by omega) 1 (by omega)) (k := ?_); intro s hs; refine And.intro gud ?_; (try conv => rhs; simp only [List.cons_append, List.nil_append]))
    refine RunT.takeN_ 2 (h := ?_)
    cases hf : Opt.free l p 1 with
    | false =>
      have hs3 := shorter_0 h3 h2 (fun h => by rw [hf] at h; cases h.1)
      refine RunT.takeU_ 3 (h := ?_)
      refine RunT.takeU_ 4 (h := ?_)
      refine RunT.takeU_ 5 (h := ?_)
      refine RunT.takeU_ 6 (h := ?_)
      refine RunT.takeU_ 7 (h := ?_)
      refine RunT.takeU_ 8 (h := ?_)
      refine RunT.takeN_ 9 (h := ?_)
      refine RunT.takeN_ 10 (h := ?_)
      refine RunT.takeU_ 11 (h := ?_)
      refine RunT.takeU_ 12 (h := ?_)
      refine RunT.takeU_ 13 (h := ?_)
      refine RunT.takeU_ 14 (h := ?_)
      refine RunT.takeU_ 15 (h := ?_)
      refine RunT.takeU_ 16 (h := ?_)
      refine RunT.takeU_ 17 (h := ?_)
      refine RunT.takeU_ 18 (h := ?_)
      refine RunT.takeN_ 19 (h := ?_)
      (apply RunT.done; kernel_rfl)
      repeat (first | refine go (k := ?_) | (refine goB (k := ?_); intro b) | (refine goA (k := ?_); intro ao cap))
      apply End.imp (fun w hm => hm.nilArr 57 insC)
      refine End.done2_ (none, 0) (he := by unfold shV5; rw [hs3]; rfl) (ht := by (rw [hs3]; exact tks)) (hp := trivial)
    | true =>
      refine RunT.takeG_ 3 (h := ?_)
      refine RunT.takeG_ 4 (h := ?_)
      refine RunT.takeG_ 5 (h := ?_)
      refine RunT.takeG_ 6 (h := ?_)
      refine RunT.takeG_ 7 (h := ?_)
      refine RunT.takeG_ 8 (h := ?_)
      refine RunT.takeN_ 9 (h := ?_)
      refine RunT.takeN_ 10 (h := ?_)
      refine RunT.part (d := 136) (decide ((l.getD p default).op = 21)) rfl (fun hop => ?_) (fun hop => ?_)
      · rw [decide_eq_true_eq] at hop
        refine RunT.takeG_ 11 (h := ?_)
        refine RunT.takeG_ 12 (h := ?_)
        refine RunT.takeG_ 13 (h := ?_)
        refine RunT.takeG_ 14 (h := ?_)
        refine RunT.takeG_ 15 (h := ?_)
        refine RunT.takeG_ 16 (h := ?_)
        refine RunT.takeG_ 17 (h := ?_)
        refine RunT.takeG_ 18 (h := ?_)
        refine RunT.takeN_ 19 (h := ?_)
        (apply RunT.done; kernel_rfl)
        repeat' (first | refine go (k := ?_) | (refine goB (k := ?_); intro b) | (refine goA (k := ?_); intro ao cap) | refine goQ (k := fun h => ?_) (k' := fun h => ?_) | fail)
        · have hs3 := shorter_1 h3 h2 ⟨hf, hop, by assumption⟩
          apply End.imp (fun w hm => hm.nilArr 57 insC)
          refine End.done2_ (none, 0) (he := by unfold shV5; rw [hs3]; rfl) (ht := by (rw [hs3]; exact tks)) (hp := trivial)
        · have hs3 := shorter_0 h3 h2 (fun h' => by have := h'.2.2; contradiction)
          apply End.imp (fun w hm => hm.nilArr 57 insC)
          refine End.done2_ (none, 0) (he := by unfold shV5; rw [hs3]; rfl) (ht := by (rw [hs3]; exact tks)) (hp := trivial)
      · rw [decide_eq_false_iff_not] at hop
        have hs3 := shorter_0 h3 h2 (fun h' => hop h'.2.1)
        refine RunT.takeU_ 11 (h := ?_)
        refine RunT.takeU_ 12 (h := ?_)
        refine RunT.takeU_ 13 (h := ?_)
        refine RunT.takeU_ 14 (h := ?_)
        refine RunT.takeU_ 15 (h := ?_)
        refine RunT.takeU_ 16 (h := ?_)
        refine RunT.takeU_ 17 (h := ?_)
        refine RunT.takeU_ 18 (h := ?_)
        refine RunT.takeN_ 19 (h := ?_)
        (apply RunT.done; kernel_rfl)
        repeat (first | refine go (k := ?_) | (refine goB (k := ?_); intro b) | (refine goA (k := ?_); intro ao cap))
        apply End.imp (fun w hm => hm.nilArr 57 insC)
        refine End.done2_ (none, 0) (he := by unfold shV5; rw [hs3]; rfl) (ht := by (rw [hs3]; exact tks)) (hp := trivial)
  · intro K hK
    cases hf : Opt.free l p 2 with
    | false =>
      repeat (first | refine go (k := ?_) | (refine goB (k := ?_); intro b) | (refine goA (k := ?_); intro ao cap))
      refine End.some_ hK () ?_
      unfold r2; rw [hf]; rfl
    | true =>
      have hlt := Opt.free_lt hf
      have hct := hc
      unfold Opt.isC at hct
      rw [Bool.or_eq_false_iff, decide_eq_false_iff_not, decide_eq_false_iff_not] at hct
      have hpr : ∀ v, Opt.pair (Opt.at_ l p) (Opt.at_ l (p + 1)) = v → r2 l p = v := fun v h => by unfold r2; rw [hf, if_pos rfl]; exact h
      have hpn : ¬ ((Opt.at_ l (p + 1)).op = 5 ∧ (Opt.at_ l p).op = 3) → r2 l p = none := fun h => hpr _ (by
        unfold Opt.pair
        rw [if_neg (fun h' => h ⟨h'.1, h'.2.elim (fun h'' => by rw [show Opt.isC (Opt.at_ l p) = false from hc] at h''; cases h'') id⟩), if_pos (show Opt.isC (Opt.at_ l p) = false from hc)])
      by_cases ho : (l.getD (p + 1) default).op = 5
      · by_cases hx3 : (l.getD p default).op = 3
        · have hr : r2 l p = some [] := hpr _ (by unfold Opt.pair; rw [if_pos ⟨ho, .inr hx3⟩])
          have hs3 := shorter_2 h3 hr
          repeat (first | refine go (k := ?_) | (refine goB (k := ?_); intro b) | (refine goA (k := ?_); intro ao cap))
          apply End.imp (fun w hm => hm.nilArr 57 insC)
          refine End.done2_ (none, 0) (he := by unfold shV5; rw [hs3]; rfl) (ht := by (rw [hs3]; exact tks)) (hp := trivial)
        · repeat (first | refine go (k := ?_) | (refine goB (k := ?_); intro b) | (refine goA (k := ?_); intro ao cap))
          refine End.some_ hK () ?_
          exact hpn (fun h => hx3 h.2)
      · repeat (first | refine go (k := ?_) | (refine goB (k := ?_); intro b) | (refine goA (k := ?_); intro ao cap))
        refine End.some_ hK () ?_
        exact hpn (fun h => ho h.1)
set_option maxRecDepth 100000 in
set_option maxHeartbeats 2000000 in
theorem rule_b (ao : Option Addr) (n cap : Nat) (l : List ImgM.Ins) (hn : l.length = n) (hm : n ≤ 1000000) (hl : In64s l) (hb : Bits l) (p : Nat) (hp : p < n) (hc : Opt.isC (l.getD p default) = true) : ruF ao n cap l p := by
  unfold ruF
  have hx := hl.at_ (p := p) (by omega)
  have hxm : l.getD p default ∈ l := getD_mem (by omega)
  refine Fn.enter (args := [.slice ao n cap, .int .i64 (p : Int)]) Try.func36 rfl _ Try.ntmps36 rfl (by simp [rd_excl, md_excl]) (fun w S => ?_)
  (try conv => rhs; simp only [List.cons_append, List.nil_append])
  repeat (first | refine go (k := ?_) | (refine goB (k := ?_); intro b) | (refine goA (k := ?_); intro ao cap))
  obtain ⟨pb, rfl⟩ : ∃ x, x = b := ⟨_, rfl⟩
  obtain ⟨lb, rfl⟩ : ∃ x, x = b := ⟨_, rfl⟩
  (first | (apply Run.op; exact rfl) | refine Run.yes_ (h := ?_)); refine OpT.call0_ (spec := word_is _ hx.1) (k := ?_); intro s hs; (try conv => rhs; simp only [List.cons_append, List.nil_append])
  rw [hc]
  repeat (first | refine go (k := ?_) | (refine goB (k := ?_); intro b) | (refine goA (k := ?_); intro ao cap))
  (first | (apply Run.op; exact rfl) | refine Run.yes_ (h := ?_)); refine OpT.call_ (spec := lone_is pb lb p ao n cap l hn hm (by omega) 3 (by omega)) (k := ?_); intro s hs; (try conv => rhs; simp only [List.cons_append, List.nil_append])
  repeat (first | refine go (k := ?_) | (refine goB (k := ?_); intro b) | (refine goA (k := ?_); intro ao cap))
  refine cutN0 (σ := Unit) (fun _ => r3 l p = none) (fun _ => [(2, ptr lb), (3, ptr pb), (6, .func (.func 66) #[] #[ptr pb, ptr lb]), (7, .int .i64 (Opt.cval (l.getD p default))), (8, .bool true), (9, .bool (Opt.tr14 (l.getD p default)))]) (fun _ => old w S :: rd ao n cap insC l :: loC pb lb p ao n cap) ?_ ?_
  · rintro - h3
    repeat (first | refine go (k := ?_) | (refine goB (k := ?_); intro b) | (refine goA (k := ?_); intro ao cap))
    (first | (apply Run.op; exact rfl) | refine Run.yes_ (h := ?_)); refine OpT.call_ (spec := lone_is pb lb p ao n cap l hn hm (by omega) 2 (by omega)) (k := ?_); intro s hs; (try conv => rhs; simp only [List.cons_append, List.nil_append])
    repeat (first | refine go (k := ?_) | (refine goB (k := ?_); intro b) | (refine goA (k := ?_); intro ao cap))
    refine cutN0 (σ := Unit) (fun _ => r2 l p = none) (fun _ => [(2, ptr lb), (3, ptr pb), (6, .func (.func 66) #[] #[ptr pb, ptr lb])]) (fun _ => old w S :: rd ao n cap insC l :: loC pb lb p ao n cap) ?_ ?_
    · rintro - h2
      repeat (first | refine go (k := ?_) | (refine goB (k := ?_); intro b) | (refine goA (k := ?_); intro ao cap))
      apply Cod.draw 20 ([blk pb [.int .i64 (p : Int)] 3, blk lb [.slice ao n cap] 36, rd ao n cap insC l]) (by kernel_rfl) 20 rfl
      refine RunT.takeN_ 0 (h := ?_)
      (refine RunT.one_ 1 (h := ?_); refine OpT.call_ (spec := lone_is pb lb p ao n cap l hn hm (by omega) 1 (by omega)) (k := ?_); intro s hs; refine And.intro gud ?_; (try conv => rhs; simp only [List.cons_append, List.nil_append]))
      refine RunT.takeN_ 2 (h := ?_)
      cases hf : Opt.free l p 1 with
      | false =>
        have hs3 := shorter_0 h3 h2 (fun h => by rw [hf] at h; cases h.1)
        refine RunT.takeU_ 3 (h := ?_)
        refine RunT.takeU_ 4 (h := ?_)
        refine RunT.takeU_ 5 (h := ?_)
        refine RunT.takeU_ 6 (h := ?_)
        refine RunT.takeU_ 7 (h := ?_)
        refine RunT.takeU_ 8 (h := ?_)
        refine RunT.takeN_ 9 (h := ?_)
        refine RunT.takeN_ 10 (h := ?_)
        refine RunT.takeU_ 11 (h := ?_)
        refine RunT.takeU_ 12 (h := ?_)
        refine RunT.takeU_ 13 (h := ?_)
        refine RunT.takeU_ 14 (h := ?_)
        refine RunT.takeU_ 15 (h := ?_)
        refine RunT.takeU_ 16 (h := ?_)
        refine RunT.takeU_ 17 (h := ?_)
        refine RunT.takeU_ 18 (h := ?_)
        refine RunT.takeN_ 19 (h := ?_)
        (apply RunT.done; kernel_rfl)
        repeat (first | refine go (k := ?_) | (refine goB (k := ?_); intro b) | (refine goA (k := ?_); intro ao cap))
        apply End.imp (fun w hm => hm.nilArr 57 insC)
        refine End.done2_ (none, 0) (he := by unfold shV5; rw [hs3]; rfl) (ht := by (rw [hs3]; exact tks)) (hp := trivial)
      | true =>
        refine RunT.takeG_ 3 (h := ?_)
        refine RunT.takeG_ 4 (h := ?_)
        refine RunT.takeG_ 5 (h := ?_)
        refine RunT.takeG_ 6 (h := ?_)
        refine RunT.takeG_ 7 (h := ?_)
        refine RunT.takeG_ 8 (h := ?_)
        refine RunT.takeN_ 9 (h := ?_)
        refine RunT.takeN_ 10 (h := ?_)
        refine RunT.part (d := 136) (decide ((l.getD p default).op = 21)) rfl (fun hop => ?_) (fun hop => ?_)
        · rw [decide_eq_true_eq] at hop
          refine RunT.takeG_ 11 (h := ?_)
          refine RunT.takeG_ 12 (h := ?_)
          refine RunT.takeG_ 13 (h := ?_)
          refine RunT.takeG_ 14 (h := ?_)
          refine RunT.takeG_ 15 (h := ?_)
          refine RunT.takeG_ 16 (h := ?_)
          refine RunT.takeG_ 17 (h := ?_)
          refine RunT.takeG_ 18 (h := ?_)
          refine RunT.takeN_ 19 (h := ?_)
          (apply RunT.done; kernel_rfl)
          repeat' (first | refine go (k := ?_) | (refine goB (k := ?_); intro b) | (refine goA (k := ?_); intro ao cap) | refine goQ (k := fun h => ?_) (k' := fun h => ?_) | fail)
          · have hs3 := shorter_1 h3 h2 ⟨hf, hop, by assumption⟩
            apply End.imp (fun w hm => hm.nilArr 57 insC)
            refine End.done2_ (none, 0) (he := by unfold shV5; rw [hs3]; rfl) (ht := by (rw [hs3]; exact tks)) (hp := trivial)
          · have hs3 := shorter_0 h3 h2 (fun h' => by have := h'.2.2; contradiction)
            apply End.imp (fun w hm => hm.nilArr 57 insC)
            refine End.done2_ (none, 0) (he := by unfold shV5; rw [hs3]; rfl) (ht := by (rw [hs3]; exact tks)) (hp := trivial)
        · rw [decide_eq_false_iff_not] at hop
          have hs3 := shorter_0 h3 h2 (fun h' => hop h'.2.1)
          refine RunT.takeU_ 11 (h := ?_)
          refine RunT.takeU_ 12 (h := ?_)
          refine RunT.takeU_ 13 (h := ?_)
          refine RunT.takeU_ 14 (h := ?_)
          refine RunT.takeU_ 15 (h := ?_)
          refine RunT.takeU_ 16 (h := ?_)
          refine RunT.takeU_ 17 (h := ?_)
          refine RunT.takeU_ 18 (h := ?_)
          refine RunT.takeN_ 19 (h := ?_)
          (apply RunT.done; kernel_rfl)
          repeat (first | refine go (k := ?_) | (refine goB (k := ?_); intro b) | (refine goA (k := ?_); intro ao cap))
          apply End.imp (fun w hm => hm.nilArr 57 insC)
          refine End.done2_ (none, 0) (he := by unfold shV5; rw [hs3]; rfl) (ht := by (rw [hs3]; exact tks)) (hp := trivial)
    · intro K hK
      cases hf : Opt.free l p 2 with
      | false =>
        repeat (first | refine go (k := ?_) | (refine goB (k := ?_); intro b) | (refine goA (k := ?_); intro ao cap))
        refine End.some_ hK () ?_
        unfold r2; rw [hf]; rfl
      | true =>
        have hlt := Opt.free_lt hf
        have hpr : ∀ v, Opt.pair (l.getD p default) (l.getD (p + 1) default) = v → r2 l p = v := fun v h => by unfold r2; rw [hf, if_pos rfl]; exact h
        have hcf : ¬ Opt.isC (l.getD p default) = false := by rw [hc]; decide
        have hop := Opt.isC_iff.1 hc
        by_cases o5 : (l.getD (p + 1) default).op = 5
        · have hr : r2 l p = some [] := hpr _ (by unfold Opt.pair; rw [if_pos ⟨o5, .inl hc⟩])
          have hs3 := shorter_2 h3 hr
          repeat (first | refine go (k := ?_) | (refine goB (k := ?_); intro b) | (refine goA (k := ?_); intro ao cap))
          apply End.imp (fun w hm => hm.nilArr 57 insC)
          refine End.done2_ (none, 0) (he := by unfold shV5; rw [hs3]; rfl) (ht := by (rw [hs3]; exact tks)) (hp := trivial)
        by_cases a1 : (l.getD p default).op = 1
        · have ht : Opt.tr14 (l.getD p default) = false := by unfold Opt.tr14; exact decide_eq_false (by omega)
          rw [ht]
          by_cases o6 : (l.getD (p + 1) default).op = 6
          · have hr : r2 l p = some (Opt.num14 (IntKind.i64.wrap (0 - Opt.cval (l.getD p default)))) := hpr _ (by unfold Opt.pair; rw [if_neg (fun h => o5 h.1), if_neg hcf, if_pos ⟨o6, a1⟩, Int.zero_sub]; rfl)
            have hs3 := shorter_2 h3 hr
            repeat (first | refine go (k := ?_) | (refine goB (k := ?_); intro b) | (refine goA (k := ?_); intro ao cap))
            (first | (apply Run.op; exact rfl) | refine Run.yes_ (h := ?_)); refine OpT.call0_ (spec := num14_is _) (k := ?_); intro s hs; (try conv => rhs; simp only [List.cons_append, List.nil_append])
            repeat (first | refine go (k := ?_) | (refine goB (k := ?_); intro b) | (refine goA (k := ?_); intro ao cap))
            refine End.done2_ (some ⟨s, 0, none⟩, 1) (he := by unfold shV5; rw [hs3]; rfl) (ht := by (rw [hs3]; exact tks)) (hp := trivial)
          · have hr : r2 l p = none := hpr _ (by unfold Opt.pair; rw [if_neg (fun h => o5 h.1), if_neg hcf, if_neg (fun h => o6 h.1), if_pos a1])
            repeat (first | refine go (k := ?_) | (refine goB (k := ?_); intro b) | (refine goA (k := ?_); intro ao cap))
            refine End.some_ hK () ?_
            exact hr
        · have a2 : (l.getD p default).op = 2 := by omega
          have ht : Opt.tr14 (l.getD p default) = true := by unfold Opt.tr14; exact decide_eq_true a2
          have hbit := hb.cval hxm a2
          rw [ht]
          by_cases o7 : (l.getD (p + 1) default).op = 7
          · have hr : r2 l p = some (Opt.ys14 (decide (Opt.cval (l.getD p default) = 0))) := hpr _ (by
              unfold Opt.pair
              rw [if_neg (fun h => o5 h.1), if_neg hcf, if_neg (fun h => a1 h.2), if_neg a1, if_pos o7]
              show some [(⟨2, IntKind.i64.wrap (1 - Opt.cval (l.getD p default)), 0⟩ : ImgM.Ins)] = _
              rcases hbit with h | h <;> rw [h] <;> rfl)
            have hs3 := shorter_2 h3 hr
            repeat (first | refine go (k := ?_) | (refine goB (k := ?_); intro b) | (refine goA (k := ?_); intro ao cap))
            (first | (apply Run.op; exact rfl) | refine Run.yes_ (h := ?_)); refine OpT.call0_ (spec := ys14_is _) (k := ?_); intro s hs; (try conv => rhs; simp only [List.cons_append, List.nil_append])
            repeat (first | refine go (k := ?_) | (refine goB (k := ?_); intro b) | (refine goA (k := ?_); intro ao cap))
            refine End.done2_ (some ⟨s, 0, none⟩, 1) (he := by unfold shV5; rw [hs3]; rfl) (ht := by (rw [hs3]; exact tks)) (hp := trivial)
          by_cases o22 : (l.getD (p + 1) default).op = 22
          · by_cases c0 : Opt.cval (l.getD p default) = 0
            · have hr : r2 l p = some [⟨21, (l.getD (p + 1) default).a, 0⟩] := hpr _ (by
                unfold Opt.pair
                rw [if_neg (fun h => o5 h.1), if_neg hcf, if_neg (fun h => a1 h.2), if_neg a1, if_neg o7, if_neg (fun h => h.2 c0), if_pos o22])
              have hs3 := shorter_2 h3 hr
              repeat (first | refine go (k := ?_) | (refine goB (k := ?_); intro b) | (refine goA (k := ?_); intro ao cap))
              obtain ⟨jb, rfl⟩ : ∃ x, x = b := ⟨_, rfl⟩
              apply End.imp (fun w hm => Mem.toArr (b := jb) (f := insC) (n := 1) hm (by (repeat (first | exact Take.head | apply Take.tail))) [⟨21, (l.getD (p + 1) default).a, 0⟩] rfl rfl (by unfold maxLen; simp))
              refine End.done2_ (some ⟨jb, 0, none⟩, 1) (he := by unfold shV5; rw [hs3]; rfl) (ht := by (rw [hs3]; exact tks)) (hp := trivial)
            · have hr : r2 l p = some [] := hpr _ (by
                unfold Opt.pair
                rw [if_neg (fun h => o5 h.1), if_neg hcf, if_neg (fun h => a1 h.2), if_neg a1, if_neg o7, if_pos ⟨o22, c0⟩])
              have hs3 := shorter_2 h3 hr
              repeat (first | refine go (k := ?_) | (refine goB (k := ?_); intro b) | (refine goA (k := ?_); intro ao cap))
              apply End.imp (fun w hm => hm.nilArr 57 insC)
              refine End.done2_ (none, 0) (he := by unfold shV5; rw [hs3]; rfl) (ht := by (rw [hs3]; exact tks)) (hp := trivial)
          · have hr : r2 l p = none := hpr _ (by
              unfold Opt.pair
              rw [if_neg (fun h => o5 h.1), if_neg hcf, if_neg (fun h => a1 h.2), if_neg a1, if_neg o7, if_neg (fun h => o22 h.1), if_neg o22])
            repeat (first | refine go (k := ?_) | (refine goB (k := ?_); intro b) | (refine goA (k := ?_); intro ao cap))
            refine End.some_ hK () ?_
            exact hr
  · intro K hK
    cases hf : Opt.free l p 3 with
    | false =>
      repeat (first | refine go (k := ?_) | (refine goB (k := ?_); intro b) | (refine goA (k := ?_); intro ao cap))
      refine End.some_ hK () ?_
      unfold r3; rw [hf]; rfl
    | true =>
      have hlt := Opt.free_lt hf
      have hy := hl.at_ (p := p + 1) (by omega)
      have hym : l.getD (p + 1) default ∈ l := getD_mem (by omega)
      have h3e : r3 l p = if Opt.isC (l.getD p default) = true ∧ Opt.isC (l.getD (p + 1) default) = true ∧ Opt.tr14 (l.getD p default) = Opt.tr14 (l.getD (p + 1) default) ∧ Opt.goes14 (l.getD (p + 2) default).op (Opt.tr14 (l.getD p default)) = true then Opt.rk14 (l.getD (p + 2) default).op (Opt.cval (l.getD p default)) (Opt.cval (l.getD (p + 1) default)) else none := by
        unfold r3
        rw [hf, if_pos rfl]
        exact Opt.three_14 (cval_in hx.1 hx.2) (cval_in hy.1 hy.2) (hb.cval hxm) (hb.cval hym)
      repeat (first | refine go (k := ?_) | (refine goB (k := ?_); intro b) | (refine goA (k := ?_); intro ao cap))
      (first | (apply Run.op; exact rfl) | refine Run.yes_ (h := ?_)); refine OpT.call0_ (spec := word_is _ hy.1) (k := ?_); intro s hs; (try conv => rhs; simp only [List.cons_append, List.nil_append])
      cases hcy : Opt.isC (l.getD (p + 1) default) with
      | false =>
        repeat (first | refine go (k := ?_) | (refine goB (k := ?_); intro b) | (refine goA (k := ?_); intro ao cap))
        refine End.some_ hK () ?_
        rw [h3e, if_neg (fun h => by rw [hcy] at h; cases h.2.1)]
      | true =>
        by_cases htt : Opt.tr14 (l.getD p default) = Opt.tr14 (l.getD (p + 1) default)
        · repeat (first | refine go (k := ?_) | (refine goB (k := ?_); intro b) | (refine goA (k := ?_); intro ao cap))
          (first | (apply Run.op; exact rfl) | refine Run.yes_ (h := ?_)); refine OpT.call0_ (spec := goes14_is _ _) (k := ?_); intro s hs; (try conv => rhs; simp only [List.cons_append, List.nil_append])
          cases hg : Opt.goes14 (l.getD (p + 1 + 1) default).op (Opt.tr14 (l.getD p default)) with
          | false =>
            repeat (first | refine go (k := ?_) | (refine goB (k := ?_); intro b) | (refine goA (k := ?_); intro ao cap))
            refine End.some_ hK () ?_
            rw [h3e, if_neg (fun h => by have := h.2.2.2; rw [show p + 2 = p + 1 + 1 from rfl, hg] at this; cases this)]
          | true =>
            rw [show p + 2 = p + 1 + 1 from rfl, if_pos ⟨hc, hcy, htt, hg⟩] at h3e
            repeat (first | refine go (k := ?_) | (refine goB (k := ?_); intro b) | (refine goA (k := ?_); intro ao cap))
            (first | (apply Run.op; exact rfl) | refine Run.yes_ (h := ?_)); refine OpT.call0_ (spec := reckon_is _ _ _) (k := ?_); intro s hs; (try conv => rhs; simp only [List.cons_append, List.nil_append])
            generalize hr : Opt.rk14 (l.getD (p + 1 + 1) default).op (Opt.cval (l.getD p default)) (Opt.cval (l.getD (p + 1) default)) = r at *
            cases r with
            | none =>
              repeat (first | refine go (k := ?_) | (refine goB (k := ?_); intro b) | (refine goA (k := ?_); intro ao cap))
              refine End.some_ hK () ?_
              exact h3e
            | some r =>
              have hs3 := shorter_3 h3e
              repeat (first | refine go (k := ?_) | (refine goB (k := ?_); intro b) | (refine goA (k := ?_); intro ao cap))
              refine End.done2_ s (he := by unfold shV5; rw [hs3]; rfl) (ht := by (rw [hs3]; exact tks)) (hp := trivial)
        · repeat (first | refine go (k := ?_) | (refine goB (k := ?_); intro b) | (refine goA (k := ?_); intro ao cap))
          refine End.some_ hK () ?_
          rw [h3e, if_neg (fun h => htt h.2.2.1)]
theorem rule_is (ao : Option Addr) (n cap : Nat) (l : List ImgM.Ins) (hn : l.length = n) (hm : n ≤ 1000000) (hl : In64s l) (hb : Bits l) (p : Nat) (hp : p < n) : ruF ao n cap l p := by
  cases hc : Opt.isC (l.getD p default) with
  | false => exact rule_a ao n cap l hn hm hl p hp hc
  | true => exact rule_b ao n cap l hn hm hl hb p hp hc
end Go.Proofs.Ytfeajpghabjaaaa.Vw

/- Rules for walks: a method called through an interface value; a function value against nil. Of whatever program. -/
namespace Go.Proofs.Ytfeajpghabjaaaa
open Go
set_option linter.unusedVariables false
set_option linter.unusedSimpArgs false
set_option linter.unusedSectionVars false
section
variable {P : Program} {Q : Exit → Act → World → Prop} {N : Nat} {E : Env} {L L' : List Chunk}
variable {dst : Option Tmp} {ty : TypeId} {pos : String} {aft : Array Edge} {g : Option (Nat × Bool)}
end
end Go.Proofs.Ytfeajpghabjaaaa

/- Rows of words: a slice of slices, only read or one's own; a type's method found by its name. Of whatever program. -/
namespace Go.Proofs.Ytfeajpghabjaaaa
open Go
set_option linter.unusedVariables false
set_option linter.unusedSimpArgs false
set_option linter.unusedSectionVars false
/-- a row of words, and where it lies -/
structure Rw where
  o : Option Addr
  c : Nat
  l : List Int
instance : Inhabited Rw := ⟨⟨none, 0, []⟩⟩
def rwC (r : Rw) : List Value := [.slice r.o r.l.length r.c]
instance : Enc rwC := ⟨fun _ => rfl, by decide, fun a u hu => by simp [rwC] at hu; subst hu; rfl⟩
def natC (n : Nat) : List Value := [.int .i64 (n : Int)]
instance : Enc natC := ⟨fun _ => rfl, by decide, fun a u hu => by simp [natC] at hu; subst hu; rfl⟩
/-- rows, and where their heads lie -/
structure FL where
  o : Option Addr
  c : Nat
  l : List Rw
instance : Inhabited FL := ⟨⟨none, 0, []⟩⟩
abbrev FL.val (f : FL) : Value := .slice f.o f.l.length f.c
structure FdAt (w : World) (f : FL) : Prop where
  out : Row w (.slice f.o f.l.length f.c) (sz rwC) f.l.length (f.l.flatMap rwC)
  row : ∀ r ∈ f.l, Row w (.slice r.o r.l.length r.c) (sz i64c) r.l.length (r.l.flatMap i64c)
def FdFoot (f : FL) (k : Nat) : Prop :=
  ((Value.slice f.o f.l.length f.c).ownBlock = some k ∧ 0 < f.l.length) ∨ ∃ r ∈ f.l, (Value.slice r.o r.l.length r.c).ownBlock = some k ∧ 0 < r.l.length
theorem FdAt.keep {w w' : World} {f : FL} (h : FdAt w f) {S : Nat → Prop} (k : Keeps S w w') (hs : ∀ b, FdFoot f b → ¬ S b) : FdAt w' f :=
  ⟨h.out.keep'' Enc.pos k (fun b h1 h2 => hs b (.inl ⟨h1, h2⟩)), fun r hr => (h.row r hr).keep'' Enc.pos k (fun b h1 h2 => hs b (.inr ⟨r, hr, h1, h2⟩))⟩
theorem FdAt.lt {w : World} {f : FL} (h : FdAt w f) : ∀ b, FdFoot f b → b < w.heap.size := by
  rintro b (⟨h1, h2⟩ | ⟨r, hr, h1, h2⟩)
  · exact h.out.lt' Enc.pos h2 b h1
  · exact (h.row r hr).lt' Enc.pos h2 b h1
/-- rows that are only read -/
@[irreducible] def fd (f : FL) : Chunk where
  holds w := FdAt w f
  foot := FdFoot f
  excl := false
  stab k hs h := h.keep k hs
  lt h := h.lt
theorem rw_mem {l : List Rw} {k : Nat} (hk : k < l.length) : l.getD k default ∈ l := by
  rw [List.getD_eq_getElem?_getD, List.getElem?_eq_getElem hk]; exact List.getElem_mem hk
theorem FdAt.small {w : World} {f : FL} (h : FdAt w f) : f.l.length ≤ 9223372036854775807 ∧ ∀ k, k < f.l.length → (f.l.getD k default).l.length ≤ 9223372036854775807 :=
  ⟨h.out.2.1, fun k hk => (h.row _ (rw_mem hk)).2.1⟩
section
variable {f : FL} {L L' : List Chunk} {w : World}
end
section
variable {P : Program} {T : TypeId} {rv : Value} {name : String} {f : FuncId}
end
end Go.Proofs.Ytfeajpghabjaaaa
