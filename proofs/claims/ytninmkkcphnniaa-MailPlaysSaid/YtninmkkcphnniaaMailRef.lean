/- yieldref5.Play: the document's answer to doings with a box. -/
import Derived.Test.YtninmkkcphnniaaMailPlay
namespace Go.Proofs.Ytninmkkcphnniaa.Mail
open Go.RowKit
set_option linter.unusedVariables false

set_option maxRecDepth 100000 in
set_option maxHeartbeats 1000000 in
theorem ref_play (places : Int) (v : Value) (l : List (Bool × Int)) (n : Nat) (hn : l.length = n) (w : World) (hv : Row w v 2 n (opCells l)) (h1 : 1 ≤ places) (h2 : places ≤ 20) (hsz : n * 16 ≤ 140737488351232) :
    Calls Try.prog 15 #[.int .i64 places, v] w fun e w' => ∃ vo vw, e = .returned (.tuple #[vo, vw, .int .i64 0]) ∧ Keeps Nil w w' ∧
      Own w' w.heap.size 30 2 vo n (opCells (MailM.run places.toNat [] l).1) ∧ Own w' w.heap.size 2 1 vw (MailM.run places.toNat [] l).2.length ((MailM.run places.toNat [] l).2.map (Value.int .i64)) := by
  obtain ⟨cap, rfl⟩ := Int.eq_ofNat_of_zero_le (show 0 ≤ places by omega)
  simp only [Int.toNat_natCast]
  have hv0 := hv
  obtain ⟨hl, hm, ao, ca, rfl, hca, hao⟩ := hv
  unfold maxLen at hm
  have Hn := Lib.hid hn
  have hd1 : decide ((cap : Int) < 1) = false := by simpa using h1
  have hd2 : decide ((20 : Int) < (cap : Int)) = false := by simpa using h2
  clear hn hl
  go_enter Try.func15, Try.ntmps15
  go_wp2
  go_loopw [7, 8, 20] (fun vo vb i wr => ∃ k : Nat, k ≤ n ∧ i = .int .i64 k ∧ Keeps Nil w wr ∧
      Own wr w.heap.size 2 1 vb (MailM.run cap [] (l.take k)).2.length ((MailM.run cap [] (l.take k)).2.map (Value.int .i64)) ∧
      Own wr w.heap.size 30 2 vo k (opCells (MailM.run cap [] (l.take k)).1) ∧ (∀ b, vo.ownBlock = some b → vb.ownBlock ≠ some b)) (fun _ _ i _ => n - (intOf i).toNat)
  case atStart => exact ⟨0, Nat.zero_le _, rfl, Keeps.refl _ _, Own.nil _ _ _ _, Own.nil _ _ _ _, fun b h => by cases h⟩
  case round =>
    obtain ⟨k, hk, rfl, hkw, hbox, hown, hsep⟩ := hrel
    by_cases hkn : k < n
    · obtain ⟨b, off, rfl, -⟩ := hao (by omega)
      clear hao
      have hlen : k < l.length := by have := Hn.out; omega
      have hqle : (MailM.run cap [] (l.take k)).2.length ≤ cap := MailM.run_le cap _ [] (by simp)
      have hround := play_round (cap := cap) hlen _ _ rfl rfl
      have hget := opCells_get l k hlen
      have hc1 := hv0.cellsAt (k * 2) (by omega)
      have hc2 := hv0.cellsAt (k * 2 + 1) (by omega)
      rw [← Nat.add_assoc] at hc2
      rw [hget.1] at hc1
      rw [hget.2] at hc2
      have hbl : b < w.heap.size := World.block_lt_of_cell? w _ hc1
      have c1 := (hkw.cell (p := ⟨b, off + k * 2, none⟩) hbl (fun h => h)).trans hc1
      have c2 := (hkw.cell (p := ⟨b, off + k * 2 + 1, none⟩) hbl (fun h => h)).trans hc2
      clear hc1 hc2 hget
      generalize hq : (MailM.run cap [] (l.take k)).2 = q at *
      generalize hg : (MailM.run cap [] (l.take k)).1 = g at *
      generalize ho : l.getD k (false, 0) = o at *
      obtain ⟨pt, x⟩ := o
      simp only at c1 c2
      have Hround := Lib.hid hround
      clear hround hq hg ho
      have hnu : ∀ i, i < w.heap.size → ¬ u7.ownBlock = some i := fun i hi e => by have := (hown.lt i e).1; omega
      have hnb : ∀ i, i < w.heap.size → ¬ u8.ownBlock = some i := fun i hi e => by have := (hbox.lt i e).1; omega
      have hw0 := hkw.size
      generalize hm : q.length = m at *
      have Hm := Lib.hid hm
      clear hm
      obtain ⟨ol, ao, cp, rfl, o1, o2, o3, o4⟩ := id hbox
      have hnx : ∀ i, wr.heap.size ≤ i → ¬ (Value.slice ao m cp).ownBlock = some i := fun i hi e => by have := (hbox.lt i e).2; omega
      have hny : ∀ i, wr.heap.size ≤ i → ¬ u7.ownBlock = some i := fun i hi e => by have := (hown.lt i e).2; omega
      clear ol o4
      cases pt with
      | true =>
        by_cases hful : m = cap
        · have Hst : Hid (MailM.step cap q (true, x) = ((false, 0), q)) := by show _ = _; simp [MailM.step, Hm.out, hful]
          have hd3 : decide (m < cap) = false := by simp; omega
          have Hful := Lib.hid hful
          clear o3 hful
          go_wp2_with ((at_builtin; refine own1 rfl (.tmp 53) (.tmp 55) 23 rfl w.heap.size 30 (.agg #[.bool false, .int .i64 0]) 2 16 Try.underlying23 (by kernel_rfl) rfl (by decide) u7 k (opCells g) rfl (by repeat (first | exact hown | refine Own.alloc ?_ _ | refine Own.drewN ?_ _ | refine Own.drew ?_)) _ _ _ rfl (Blk.new' (by simp)) rfl (by simp [Value.oneCell']) (by unfold maxLen; omega) (by omega) (by simp; omega) ?_; intro v1 w3 hown1 hk3 hat))
          go_roundw
          case rel =>
            have hR := Hround.out
            rw [Hst.out] at hR
            have hz := hk3.size
            simp at hz
            refine ⟨k + 1, by omega, by go_num, Keeps.trans (by repeat (first | exact hkw | refine Keeps.alloc ?_ _ | refine Keeps.drewN ?_ _ | refine Keeps.drew ?_)) hk3 (fun i hi h => hnu i hi h), ?_, by rw [hR.2]; exact hown1, ?_⟩
            · rw [hR.1, Hm.out]
              exact Own.keep (by repeat (first | exact hbox | refine Own.alloc ?_ _ | refine Own.drewN ?_ _ | refine Own.drew ?_)) hk3 (fun i h1 h2 => hsep i h2 h1)
            · intro i h1 h2
              rcases hat with h | h
              · exact hsep i (by rw [← h]; exact h1) h2
              · have h3 := h i h1
                have h4 := (hbox.lt i h2).2
                simp at h3
                omega
          case measure => simp [intOf]; omega
        · have hlt : m < cap := by omega
          have Hst : Hid (MailM.step cap q (true, x) = ((true, 0), q ++ [x])) := by show _ = _; simp [MailM.step, Hm.out, hlt]
          have hd3 : decide (m < cap) = true := by simpa using hlt
          have hm20 : m ≤ 20 := by omega
          have Hful := Lib.hid hful
          clear o3 hful
          go_wp2_with (first | (at_builtin; refine own1 rfl (.tmp 33) (.tmp 36) 24 rfl w.heap.size 2 (.int .i64 0) 1 8 Try.underlying24 (by kernel_rfl) rfl (by decide) (.slice ao m cp) m (q.map (Value.int .i64)) rfl (by repeat (first | exact hbox | refine Own.alloc ?_ _ | refine Own.drewN ?_ _ | refine Own.drew ?_)) _ _ _ rfl (Blk.new' (by simp)) rfl (by simp [Value.oneCell']) (by unfold maxLen; omega) (by omega) (by simp; omega) ?_; intro v2 w2 hbox2 hk2 hat2; have hz2 := hk2.size; have c20 : w2.cell? ⟨wr.heap.size + 1, 0, none⟩ = some (.bool false) := (hk2.cell (by simp <;> omega) (hnx _ (Nat.le_succ _))).trans (by simp [go_sem]); have c21 : w2.cell? ⟨wr.heap.size + 1, 1, none⟩ = some (.int .i64 0) := (hk2.cell (by simp <;> omega) (hnx _ (Nat.le_succ _))).trans (by simp [go_sem]); have f20 : w2.frozen? ⟨wr.heap.size + 1, 0, none⟩ = false := (hk2.frozen (by simp) (hnx _ (Nat.le_succ _))).trans (by simp [go_sem]); have cx : w2.cell? ⟨wr.heap.size, 0, none⟩ = some (.bool true) := (hk2.cell (by simp <;> omega) (hnx _ (Nat.le_refl _))).trans (by simp [go_sem])) | (at_builtin; refine own1 rfl (.tmp 53) (.tmp 55) 23 rfl w.heap.size 30 (.agg #[.bool false, .int .i64 0]) 2 16 Try.underlying23 (by kernel_rfl) rfl (by decide) u7 k (opCells g) rfl (Own.alloc (Own.keep (w := ((((wr.alloc _).alloc _)).alloc _)) (by repeat (first | exact hown | refine Own.alloc ?_ _ | refine Own.drewN ?_ _ | refine Own.drew ?_)) hk2 (fun i h1 h2 => hsep i h1 h2) |>.keep ((Keeps.refl (fun i => i = wr.heap.size + 1) _).setCell (fun _ => rfl) _) (fun i hi e => by have := (hown.lt i hi).2; omega)) _) _ _ _ rfl (Blk.new' (by simp)) rfl (by simp [Value.oneCell']) (by unfold maxLen; omega) (by omega) (by simp at hz2 ⊢; omega) ?_; intro v1 w3 hown1 hk3 hat))
          go_roundw
          case rel =>
            have hR := Hround.out
            rw [Hst.out] at hR
            have hz := hk3.size
            simp at hz hz2
            have hkA : Keeps Nil w w2 := Keeps.trans (by repeat (first | exact hkw | refine Keeps.alloc ?_ _ | refine Keeps.drewN ?_ _ | refine Keeps.drew ?_)) hk2 (fun i hi h => hnb i hi h)
            have hv2 : ∀ i, v2.ownBlock = some i → ¬ u7.ownBlock = some i := by
              intro i h1 h2
              rcases hat2 with h | h
              · exact hsep i h2 (by rw [← h]; exact h1)
              · have h3 := h i h1
                have h4 := (hown.lt i h2).2
                simp at h3
                omega
            have hv3 : ∀ i, v2.ownBlock = some i → ¬ i = wr.heap.size + 1 := by
              intro i h1 h2
              rcases hat2 with h | h
              · exact hnx i (by omega) (by rw [← h]; exact h1)
              · have h3 := h i h1
                simp at h3
                omega
            refine ⟨k + 1, by omega, by go_num, ((hkA.setCell (fun h => by simp at h; omega) _).alloc _).trans hk3 (fun i hi h => hnu i hi h), ?_, by rw [hR.2]; exact hown1, ?_⟩
            · rw [hR.1]
              simp only [List.length_append, List.length_cons, List.length_nil, Hm.out, List.map_append, List.map_cons, List.map_nil]
              exact Own.keep (Own.alloc (Own.keep hbox2 ((Keeps.refl (fun i => i = wr.heap.size + 1) _).setCell (fun _ => rfl) _) hv3) _) hk3 hv2
            · intro i h1 h2
              rcases hat with h | h
              · exact hv2 i h2 (by rw [← h]; exact h1)
              · have h3 := h i h1
                have h4 := (hbox2.lt i h2).2
                simp at h3
                omega
          case measure => simp [intOf]; omega
      | false =>
        cases q with
        | nil =>
          obtain rfl : m = 0 := by have := Hm.out; simpa using this.symm
          have Hst : Hid (MailM.step cap [] (false, x) = ((false, 0), [])) := by show _ = _; simp [MailM.step]
          clear o3
          go_wp2_with ((at_builtin; refine own1 rfl (.tmp 53) (.tmp 55) 23 rfl w.heap.size 30 (.agg #[.bool false, .int .i64 0]) 2 16 Try.underlying23 (by kernel_rfl) rfl (by decide) u7 k (opCells g) rfl (by repeat (first | exact hown | refine Own.alloc ?_ _ | refine Own.drewN ?_ _ | refine Own.drew ?_)) _ _ _ rfl (Blk.new' (by simp)) rfl (by simp [Value.oneCell']) (by unfold maxLen; omega) (by omega) (by simp; omega) ?_; intro v1 w3 hown1 hk3 hat))
          go_roundw
          case rel =>
            have hR := Hround.out
            rw [Hst.out] at hR
            have hz := hk3.size
            simp at hz
            refine ⟨k + 1, by omega, by go_num, Keeps.trans (by repeat (first | exact hkw | refine Keeps.alloc ?_ _ | refine Keeps.drewN ?_ _ | refine Keeps.drew ?_)) hk3 (fun i hi h => hnu i hi h), ?_, by rw [hR.2]; exact hown1, ?_⟩
            · rw [hR.1, Hm.out]
              exact Own.keep (by repeat (first | exact hbox | refine Own.alloc ?_ _ | refine Own.drewN ?_ _ | refine Own.drew ?_)) hk3 (fun i h1 h2 => hsep i h2 h1)
            · intro i h1 h2
              rcases hat with h | h
              · exact hsep i (by rw [← h]; exact h1) h2
              · have h3 := h i h1
                have h4 := (hbox.lt i h2).2
                simp at h3
                omega
          case measure => simp [intOf]; omega
        | cons y qr =>
          have hm1 : m = qr.length + 1 := by have := Hm.out; simpa using this.symm
          obtain ⟨m', rfl⟩ : ∃ m', m = m' + 1 := ⟨_, hm1⟩
          have hm1' : qr.length = m' := by omega
          have Hm' := Lib.hid hm1'
          clear hm1 hm1'
          have Hst : Hid (MailM.step cap (y :: qr) (false, x) = ((true, y), qr)) := by show _ = _; simp [MailM.step]
          cases ao with
          | none => have := o3 rfl; omega
          | some ad =>
            obtain ⟨bb, ob, spot⟩ := ad
            obtain rfl : spot = none := by
              obtain ⟨_, ao', cp', he, _, _, _, h5⟩ := id hbox
              simp only [Value.slice.injEq] at he
              obtain ⟨rfl, -, -⟩ := he
              exact (h5 _ rfl).1
            clear o3
            have hcy := (hbox.row (by omega)).cellsAt 0 (by omega)
            simp at hcy
            have htl := Own.tail (ys := [.int .i64 y]) rfl hbox
            have cy : (((wr.alloc (.cells #[.bool false, .int .i64 x] 34)).alloc (.cells #[.bool false, .int .i64 0] 30))).cell? ⟨bb, ob, none⟩ = some (.int .i64 y) := by
              have hb0 : bb < wr.heap.size := World.block_lt_of_cell? wr _ hcy
              simp [go_sem, hb0, show bb < wr.heap.size + 1 by omega, hcy]
            by_cases hcp : cp = 1
            · subst hcp
              obtain rfl : m' = 0 := by omega
              have htl' := htl.1 rfl
              clear htl
              have hsep' : ∀ i, u7.ownBlock = some i → ¬ bb = i := fun i h1 h2 => hsep i h1 (by rw [← h2]; rfl)
              have hbb : bb < wr.heap.size := World.block_lt_of_cell? wr _ hcy
              go_wp2_with ((at_builtin; refine own1 rfl (.tmp 53) (.tmp 55) 23 rfl w.heap.size 30 (.agg #[.bool false, .int .i64 0]) 2 16 Try.underlying23 (by kernel_rfl) rfl (by decide) u7 k (opCells g) rfl (by repeat (first | exact hown | refine Own.alloc ?_ _ | refine Own.drewN ?_ _ | refine Own.drew ?_)) _ _ _ rfl (Blk.new' (by simp)) rfl (by simp [Value.oneCell']) (by unfold maxLen; omega) (by omega) (by simp; omega) ?_; intro v1 w3 hown1 hk3 hat))
              go_roundw
              case rel =>
                have hR := Hround.out
                rw [Hst.out] at hR
                have hz := hk3.size
                simp at hz
                refine ⟨k + 1, by omega, by go_num, Keeps.trans (by repeat (first | exact hkw | refine Keeps.alloc ?_ _ | refine Keeps.drewN ?_ _ | refine Keeps.drew ?_)) hk3 (fun i hi h => hnu i hi h), ?_, by rw [hR.2]; exact hown1, ?_⟩
                · rw [hR.1, Hm'.out]
                  exact Own.keep (by repeat (first | exact htl' | refine Own.alloc ?_ _ | refine Own.drewN ?_ _ | refine Own.drew ?_)) hk3 (fun i h1 h2 => hsep' i h2 (by simpa [Value.ownBlock] using h1))
                · intro i h1 h2
                  simp [Value.ownBlock] at h2
                  rcases hat with h | h
                  · exact hsep' i (by rw [← h]; exact h1) h2
                  · have h3 := h i h1
                    simp at h3
                    omega
              case measure => simp [intOf]; omega
            · have htl' := htl.2 hcp
              clear htl
              have hcp1 : 1 < cp + 0 := by omega
              have hsep' : ∀ i, u7.ownBlock = some i → ¬ bb = i := fun i h1 h2 => hsep i h1 (by rw [← h2]; rfl)
              have hbb : bb < wr.heap.size := World.block_lt_of_cell? wr _ hcy
              go_wp2_with ((at_builtin; refine own1 rfl (.tmp 53) (.tmp 55) 23 rfl w.heap.size 30 (.agg #[.bool false, .int .i64 0]) 2 16 Try.underlying23 (by kernel_rfl) rfl (by decide) u7 k (opCells g) rfl (by repeat (first | exact hown | refine Own.alloc ?_ _ | refine Own.drewN ?_ _ | refine Own.drew ?_)) _ _ _ rfl (Blk.new' (by simp)) rfl (by simp [Value.oneCell']) (by unfold maxLen; omega) (by omega) (by simp; omega) ?_; intro v1 w3 hown1 hk3 hat))
              go_roundw
              case rel =>
                have hR := Hround.out
                rw [Hst.out] at hR
                have hz := hk3.size
                simp at hz
                refine ⟨k + 1, by omega, by go_num, Keeps.trans (by repeat (first | exact hkw | refine Keeps.alloc ?_ _ | refine Keeps.drewN ?_ _ | refine Keeps.drew ?_)) hk3 (fun i hi h => hnu i hi h), ?_, by rw [hR.2]; exact hown1, ?_⟩
                · rw [hR.1, Hm'.out]
                  exact Own.keep (by repeat (first | exact htl' | refine Own.alloc ?_ _ | refine Own.drewN ?_ _ | refine Own.drew ?_)) hk3 (fun i h1 h2 => hsep' i h2 (by simpa [Value.ownBlock] using h1))
                · intro i h1 h2
                  simp [Value.ownBlock] at h2
                  rcases hat with h | h
                  · exact hsep' i (by rw [← h]; exact h1) h2
                  · have h3 := h i h1
                    simp at h3
                    omega
              case measure => simp [intOf]; omega
    · obtain rfl : k = n := by omega
      have hlk : l.take k = l := List.take_of_length_le (by have := Hn.out; omega)
      rw [hlk] at hbox hown
      have Hlk := Lib.hid hlk
      clear hlk
      generalize hq : (MailM.run cap [] l).2 = q at *
      generalize hg : (MailM.run cap [] l).1 = g at *
      have Hq := Lib.hid hq
      have Hg := Lib.hid hg
      clear hao hq hg
      go_wp2
      go_ret3
      rw [Hq.out, Hg.out]
      exact ⟨u7, u8, rfl, hkw, hown, hbox⟩
end Go.Proofs.Ytninmkkcphnniaa.Mail
