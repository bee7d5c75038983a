/- yieldref4.Play: the document's answer to doings with a stack. -/
import Derived.Test.YtninmkkcphnniaaStackSame
import Derived.Deep.RegionHeld3
namespace Go.Proofs.Ytninmkkcphnniaa.Stk
open Go.RowKit
set_option linter.unusedVariables false
set_option linter.unusedSimpArgs false

/-- fewer of its elements -/
theorem own_cut {w : World} {base : Nat} {e : TypeId} {n m cp : Nat} {ao : Option Addr} {xs : List Value} (h : Own w base e 1 (.slice ao n cp) n xs) (hm : m ≤ n) : Own w base e 1 (.slice ao m cp) m (xs.take m) := by
  obtain ⟨h1, ao', cap, he, h2, h3, h4, h5⟩ := h
  simp only [Value.slice.injEq] at he
  obtain ⟨rfl, -, rfl⟩ := he
  refine ⟨by simp; omega, ao, cp, rfl, by omega, h3, h4, fun ad had => ?_⟩
  obtain ⟨h6, h7, cur, h8, h9, h10⟩ := h5 ad had
  refine ⟨h6, h7, cur, h8, h9, ?_⟩
  rw [← h10]
  simp only [Nat.mul_one, List.take_drop, List.take_take]
  rw [Nat.min_eq_left (by omega)]

/-- one of its elements set -/
theorem own_set {w : World} {base : Nat} {e : TypeId} {n m cp b off : Nat} {xs : List Value} (h : Own w base e 1 (.slice (some ⟨b, off, none⟩) n cp) n xs) (hm : m < n) (u : Value) : Own (w.setCell ⟨b, off + m, none⟩ u) base e 1 (.slice (some ⟨b, off, none⟩) n cp) n (xs.set m u) := by
  obtain ⟨h1, ao', cap, he, h2, h3, h4, h5⟩ := h
  simp only [Value.slice.injEq] at he
  obtain ⟨rfl, -, rfl⟩ := he
  refine ⟨by simpa using h1, _, cp, rfl, h2, h3, h4, fun ad had => ?_⟩
  cases had
  obtain ⟨h6, h7, cur, h8, h9, h10⟩ := h5 _ rfl
  refine ⟨h6, h7, _, Blk.set h8 (off + m) u, by simpa using h9, ?_⟩
  rw [← h10]
  simp only [Array.toList_setIfInBounds, List.drop_set]
  rw [if_neg (by omega), Nat.add_sub_cancel_left, List.take_set]

/-- of at least one element: where it lies, and what can be said of an element -/
theorem own_some {w : World} {base : Nat} {e : TypeId} {n : Nat} {v : Value} {xs : List Value} (h : Own w base e 1 v n xs) (hn : 0 < n) : ∃ b off cp, v = .slice (some ⟨b, off, none⟩) n cp ∧ n ≤ cp ∧ base ≤ b ∧ b < w.heap.size ∧
    ∀ m, m < n → w.cell? ⟨b, off + m, none⟩ = xs[m]? ∧ w.frozen? ⟨b, off + m, none⟩ = false := by
  have hrow := h.row (by omega)
  obtain ⟨ao, cp, rfl, hcp, -⟩ := hrow.shape
  obtain ⟨b, off, rfl⟩ := hrow.form hn
  refine ⟨b, off, cp, rfl, hcp, (h.lt b rfl).1, (h.lt b rfl).2, fun m hm => ⟨hrow.cellsAt m (by omega), ?_⟩⟩
  obtain ⟨-, ao', cap, he, -, -, -, h5⟩ := h
  simp only [Value.slice.injEq] at he
  obtain ⟨rfl, -, rfl⟩ := he
  obtain ⟨-, -, cur, h8, -, -⟩ := h5 _ rfl
  exact Blk.free h8 _

set_option maxRecDepth 100000 in
set_option maxHeartbeats 2000000 in
theorem ref_any (mn mx : Nat) (v : Value) (l : List StackM.Op) (n : Nat) (hn : l.length = n) (w : World) (hv : Row w v 3 n (opCells l)) (h1 : 1 ≤ mn) (h2 : mn ≤ mx) (h3 : mx ≤ 400) (hsz : n * 24 ≤ 140737488355328) :
    Calls Try.prog 19 #[.int .i64 mn, .int .i64 mx, v] w fun e w' => Keeps Nil w w' ∧ Answers w n (StackM.run mn mx [] mn 0 l) e w' := by
  have Hn := Lib.hid hn
  clear hn
  obtain ⟨ai, ci, rfl, hci, hni⟩ := hv.shape
  have d1 : decide ((mn : Int) < 1) = false := by simp; omega
  have d2 : decide (mx < mn) = false := by simp; omega
  have d3 : decide ((400 : Int) < (mx : Int)) = false := by simp; omega
  go_enter Try.func19, Try.ntmps19
  go_wp2
  go_loopw [9, 10, 11, 30] (fun vw vr vm i wr => ∃ (k : Nat) (ws : List Int) (rm : Nat) (rs : List Nat), k ≤ n ∧ i = .int .i64 k ∧ vm = .int .i64 rm ∧ StackM.run mn mx [] mn 0 (l.take k) = .ok (ws, rm, rs) ∧ Keeps Nil w wr ∧ w.heap.size < wr.heap.size ∧
      Own wr (w.heap.size + 1) 2 1 vw ws.length (ws.map (Value.int .i64)) ∧ Own wr (w.heap.size + 1) 3 1 vr k (nats rs) ∧ (∀ b, vr.ownBlock = some b → vw.ownBlock ≠ some b) ∧ Blk wr w.heap.size #[.int .i64 0, .int .i64 0] 39) (fun _ _ _ i _ => n - (intOf i).toNat)
  case atStart => exact ⟨0, [], mn, [], Nat.zero_le _, rfl, rfl, by simp [StackM.run], (Keeps.refl _ _).alloc _, by simp, Own.nil _ _ _ _, Own.nil _ _ _ _, by simp [Value.ownBlock], Blk.new' (by simp)⟩
  case round =>
    obtain ⟨k, ws, rm, rs, hk, rfl, rfl, hrun, hkw, hsw, hbox, hown, hsep, hF⟩ := hrel
    by_cases hkn : k < n
    · obtain ⟨bi, oi, rfl⟩ := hv.form (by omega)
      have hll : k < l.length := by have := Hn.out; omega
      have hgi := opCells_get l k hll
      have hvr := hv.keep hkw (fun _ _ h => h)
      have c1 := hvr.cellsAt (k * 3) (by omega)
      have c2 := hvr.cellsAt (k * 3 + 1) (by omega)
      have c3 := hvr.cellsAt (k * 3 + 2) (by omega)
      rw [← Nat.add_assoc] at c2 c3
      rw [hgi.1] at c1
      rw [hgi.2.1] at c2
      rw [hgi.2.2] at c3
      have hErr := fun er => round_err (er := er) hll hrun
      have hOk := fun ws' rm' => round_ok (ws' := ws') (rm' := rm') hll hrun
      obtain ⟨⟨-, -, hi1, hi2, hi3⟩, -⟩ := StackM.run_inv (l.take k) (show StackM.Inv mn mx [] mn from ⟨h1, h2, by simp, Nat.le_refl _, h2⟩) hrun
      have f0 := hF.free 0
      have f1 := hF.free 1
      have e0 := hF.cell 0
      have e1 := hF.cell 1
      simp at e0 e1
      have hFl := hsw
      clear hgi hvr
      generalize l.getD k (0, 0, 0) = o at *
      obtain ⟨kd, nn, vv⟩ := o
      simp only at c1 c2 c3
      obtain ⟨L, hL⟩ : ∃ L, L = ws.length := ⟨_, rfl⟩
      rw [← hL] at hbox hi1
      obtain ⟨ol, ao, cp, rfl, o1, o2, o3, o4⟩ := id hbox
      have HErr := Lib.hid hErr
      have HOk := Lib.hid hOk
      have Hrun := Lib.hid hrun
      have Hsep := Lib.hid hsep
      have HL := Lib.hid hL
      have O3 := Lib.hid o3
      have hrowW := hbox.row (by omega)
      clear hErr hOk hrun hsep hL ol o4 o3
      by_cases hp1 : kd = 1
      · subst hp1
        by_cases hfull : L = mx
        · have Hf := Lib.hid hfull
          have b0 : ((L : Int) == (mx : Int)) = true := by rw [hfull]; simp
          clear hfull
          go_wp2
          have hA := HErr.out 4 (by simp [StackM.step, Hf.out, ← HL.out])
          refine bodyPost_ret (v := .tuple #[.slice none 0 0, .slice none 0 0, flt 4 k]) (by simp [results, Try.results19, go_sem, flt, e0, e1, f0, f1, hFl]) rfl ⟨?_, ?_⟩
          · (repeat (first | exact hkw | refine Keeps.alloc ?_ _ | refine Keeps.drewN ?_ _ | refine Keeps.drew ?_ | refine Keeps.setCell ?_ (fun h => by simp at h) _))
          · rw [hA]; rfl
        · have b0 : ((L : Int) == (mx : Int)) = false := by rw [beq_eq_false_iff_ne]; omega
          have hs : StackM.step mn mx ws rm (1, nn, vv) = .ok (ws ++ [vv], if L = rm then min (2 * rm) mx else rm) := by simp [StackM.step, ← HL.out, hfull]
          have hO := HOk.out _ _ hs
          have HO := Lib.hid hO
          clear hs hO hfull
          by_cases hr : L = rm
          · rw [if_pos hr] at HO
            have b1 : ((L : Int) == (rm : Int)) = true := by rw [hr]; simp
            by_cases hr2 : mx < 2 * rm
            · have b2 : decide ((mx : Int) < 2 * (rm : Int)) = true := by simp; omega
              rw [Nat.min_eq_right (by omega)] at HO
              clear hr hr2
              go_wp2
              go_region_held3 (fun w' => w'.cell? ⟨wr.heap.size, 2, none⟩ = some (.int .i64 vv)) (first | go_keep | (refine (hkA.cell (p := ⟨wr.heap.size, 2, none⟩) (by simp; try omega) (by simp [Value.ownBlock])).trans ?_; assumption) | (refine (hkB.cell (p := ⟨wr.heap.size, 2, none⟩) (by simp; try omega) nvA).trans ?_; assumption))
                  (first | (refine ownStepS rfl _ _ 24 rfl (w.heap.size + 1) 2 (.int .i64 0) 1 8 Try.underlying24 (by kernel_rfl) rfl (by decide) (.slice (some ⟨wr.heap.size + 1, 0, none⟩) 0 0) 0 [] rfl (Own.empty (by repeat (first | (with_reducible refine Blk.new' ?_; simp; done) | with_reducible refine Blk.alloc ?_ _ | with_reducible refine Blk.drew ?_ | with_reducible refine Blk.drewN ?_ _)) (by simp; omega)) _ L (ws.map (Value.int .i64)) rfl (by exact Row.keep (S := Nil) hrowW (by repeat (first | with_reducible exact Keeps.refl _ _ | with_reducible refine Keeps.alloc ?_ _ | with_reducible refine Keeps.drew ?_ | with_reducible refine Keeps.drewN ?_ _ | exact Keeps.refl _ _)) (fun _ _ h => h)) (by intro u hu; obtain ⟨_, _, rfl⟩ := List.mem_map.1 hu; rfl) (by unfold maxLen; omega) (by omega) (by simp; omega) ?_; intro vA wA hownA hkA hatA; have hzA : wr.heap.size + 2 ≤ wA.heap.size := Nat.le_trans (by simp) hkA.size; have hbA : ∀ b cs t, b ≠ wr.heap.size + 1 → Blk _ b cs t → Blk wA b cs t := (fun b cs t hb h => Blk.keep h hkA (by intro h'; simp [Value.ownBlock] at h'; omega)); have kA : Keeps Nil wr wA := Keeps.trans (by repeat (first | with_reducible exact Keeps.refl _ _ | with_reducible refine Keeps.alloc ?_ _ | with_reducible refine Keeps.drew ?_ | with_reducible refine Keeps.drewN ?_ _ | exact Keeps.refl _ _)) hkA (fun i hi h => by simp [Value.ownBlock] at h; omega); have fA : ∀ b, vA.ownBlock = some b → wr.heap.size < b := (by intro b h; rcases hatA with h' | h'; (rw [h'] at h; simp [Value.ownBlock] at h; omega); (have := h' _ h; simp at this; omega)); have nvA : ¬ vA.ownBlock = some wr.heap.size := (fun h => Nat.lt_irrefl _ (fA _ h))) | (refine ownStepS rfl _ _ 24 rfl (w.heap.size + 1) 2 (.int .i64 0) 1 8 Try.underlying24 (by kernel_rfl) rfl (by decide) (.slice (some ⟨wr.heap.size + 2, 0, none⟩) 0 0) 0 [] rfl (Own.empty (by repeat (first | (with_reducible refine Blk.new' ?_; simp; done) | with_reducible refine Blk.alloc ?_ _ | with_reducible refine Blk.drew ?_ | with_reducible refine Blk.drewN ?_ _)) (by simp; omega)) _ L (ws.map (Value.int .i64)) rfl (by exact Row.keep (S := Nil) hrowW (by repeat (first | with_reducible exact Keeps.refl _ _ | with_reducible refine Keeps.alloc ?_ _ | with_reducible refine Keeps.drew ?_ | with_reducible refine Keeps.drewN ?_ _ | exact Keeps.refl _ _)) (fun _ _ h => h)) (by intro u hu; obtain ⟨_, _, rfl⟩ := List.mem_map.1 hu; rfl) (by unfold maxLen; omega) (by omega) (by simp; omega) ?_; intro vA wA hownA hkA hatA; have hzA : wr.heap.size + 2 ≤ wA.heap.size := Nat.le_trans (by simp) hkA.size; have hbA : ∀ b cs t, b ≠ wr.heap.size + 2 → Blk _ b cs t → Blk wA b cs t := (fun b cs t hb h => Blk.keep h hkA (by intro h'; simp [Value.ownBlock] at h'; omega)); have kA : Keeps Nil wr wA := Keeps.trans (by repeat (first | with_reducible exact Keeps.refl _ _ | with_reducible refine Keeps.alloc ?_ _ | with_reducible refine Keeps.drew ?_ | with_reducible refine Keeps.drewN ?_ _ | exact Keeps.refl _ _)) hkA (fun i hi h => by simp [Value.ownBlock] at h; omega); have fA : ∀ b, vA.ownBlock = some b → wr.heap.size < b := (by intro b h; rcases hatA with h' | h'; (rw [h'] at h; simp [Value.ownBlock] at h; omega); (have := h' _ h; simp at this; omega)); have nvA : ¬ vA.ownBlock = some wr.heap.size := (fun h => Nat.lt_irrefl _ (fA _ h))) | (refine ownStep1 rfl _ _ 24 rfl (w.heap.size + 1) 2 (.int .i64 0) 1 8 Try.underlying24 (by kernel_rfl) rfl (by decide) vA (0 + L) ([] ++ ws.map (Value.int .i64)) rfl (by repeat (first | with_reducible exact hownA | with_reducible refine Own.alloc ?_ _ | with_reducible refine Own.drew ?_ | with_reducible refine Own.drewN ?_ _ | exact hownA)) _ _ [.int .i64 vv] rfl (by first | ((repeat (first | (with_reducible refine Blk.new' ?_; simp; done) | with_reducible refine Blk.alloc ?_ _ | with_reducible refine Blk.drew ?_ | with_reducible refine Blk.drewN ?_ _)); done) | (refine hbA _ _ _ (by omega) ?_; (repeat (first | (with_reducible refine Blk.new' ?_; simp; done) | with_reducible refine Blk.alloc ?_ _ | with_reducible refine Blk.drew ?_ | with_reducible refine Blk.drewN ?_ _)))) rfl (by simp [Value.oneCell']) (by unfold maxLen; omega) (by omega) (by first | omega | (simp; omega)) ?_; intro vB wB hownB hkB hatB))
              all_goals
                have kB : Keeps Nil wr wB := Keeps.trans (by repeat (first | with_reducible exact kA | with_reducible refine Keeps.alloc ?_ _ | with_reducible refine Keeps.drew ?_ | with_reducible refine Keeps.drewN ?_ _ | exact kA)) hkB (fun i hi h => by have := fA _ h; omega)
                have fB : ∀ b, vB.ownBlock = some b → wr.heap.size < b := (by intro b h; rcases hatB with h' | h'; (rw [h'] at h; exact fA _ h); (have := h' _ h; (try simp at this); omega))
                simp only [List.nil_append, Nat.zero_add] at hownB
                rw [HL.out] at hownB
                have hbN : Own wB (w.heap.size + 1) 2 1 vB (ws ++ [vv]).length ((ws ++ [vv]).map (Value.int .i64)) := by simpa using hownB
                have hsN : ∀ b, u10.ownBlock = some b → vB.ownBlock ≠ some b := fun b h h' => by have := fB _ h'; have := (hown.lt _ h).2; omega
                clear hownB hkB hatB fB nvA hbA hzA hatA hkA hownA kA fA
                go_wp2_with (at_builtin; refine own1 rfl _ _ 37 rfl (w.heap.size + 1) 3 (.int .i64 0) 1 8 Try.underlying37 (by kernel_rfl) rfl (by decide) u10 k (nats rs) rfl (by exact Own.keep hown (S := Nil) (by repeat (first | with_reducible exact kB | with_reducible refine Keeps.alloc ?_ _ | with_reducible refine Keeps.drew ?_ | with_reducible refine Keeps.drewN ?_ _ | exact kB)) (fun _ _ h => h)) _ _ _ rfl (by repeat (first | (with_reducible refine Blk.new' ?_; simp; done) | with_reducible refine Blk.alloc ?_ _ | with_reducible refine Blk.drew ?_ | with_reducible refine Blk.drewN ?_ _)) rfl (by simp [Value.oneCell']) (by unfold maxLen; omega) (by omega) (by have := (kB).size; simp; omega) ?_; intro v1 w3 hown1 hk3 hat)
                go_roundw
                case rel =>
                  have hz := hk3.size
                  have hz1 := (kB).size
                  simp at hz
                  have hsz3 : w.heap.size < w3.heap.size := by omega
                  refine ⟨k + 1, _, _, _, by omega, by go_num, ?_, HO.out, Keeps.trans (Keeps.trans hkw (by repeat (first | with_reducible exact kB | with_reducible refine Keeps.alloc ?_ _ | with_reducible refine Keeps.drew ?_ | with_reducible refine Keeps.drewN ?_ _ | exact kB)) (fun _ _ h => h)) hk3 (fun i hi h => by have := (hown.lt i h).1; omega), hsz3, Own.keep (by repeat (first | with_reducible exact hbN | with_reducible refine Own.alloc ?_ _ | with_reducible refine Own.drew ?_ | with_reducible refine Own.drewN ?_ _ | exact hbN)) hk3 (fun i h1 h2 => hsN i h2 h1), ?_, ?_, ?_⟩
                  · first | rfl | go_num | (congr 1; omega)
                  · simpa [nats] using hown1
                  · intro b h1 h2
                    rcases hat with h' | h'
                    · exact hsN b (by rw [← h']; exact h1) h2
                    · have := h' _ h1; have := (hbN.lt _ h2).2; simp at *; omega
                  · refine Blk.keep (Blk.keep (S := Nil) hF (by repeat (first | with_reducible exact kB | with_reducible refine Keeps.alloc ?_ _ | with_reducible refine Keeps.drew ?_ | with_reducible refine Keeps.drewN ?_ _ | exact kB)) (fun h => h)) hk3 (fun h => by have := (hown.lt _ h).1; omega)
                case measure => simp [intOf]; omega
            · have b2 : decide ((mx : Int) < 2 * (rm : Int)) = false := by simp; omega
              rw [Nat.min_eq_left (by omega)] at HO
              clear hr hr2
              go_wp2
              go_region_held3 (fun w' => w'.cell? ⟨wr.heap.size, 2, none⟩ = some (.int .i64 vv)) (first | go_keep | (refine (hkA.cell (p := ⟨wr.heap.size, 2, none⟩) (by simp; try omega) (by simp [Value.ownBlock])).trans ?_; assumption) | (refine (hkB.cell (p := ⟨wr.heap.size, 2, none⟩) (by simp; try omega) nvA).trans ?_; assumption))
                  (first | (refine ownStepS rfl _ _ 24 rfl (w.heap.size + 1) 2 (.int .i64 0) 1 8 Try.underlying24 (by kernel_rfl) rfl (by decide) (.slice (some ⟨wr.heap.size + 1, 0, none⟩) 0 0) 0 [] rfl (Own.empty (by repeat (first | (with_reducible refine Blk.new' ?_; simp; done) | with_reducible refine Blk.alloc ?_ _ | with_reducible refine Blk.drew ?_ | with_reducible refine Blk.drewN ?_ _)) (by simp; omega)) _ L (ws.map (Value.int .i64)) rfl (by exact Row.keep (S := Nil) hrowW (by repeat (first | with_reducible exact Keeps.refl _ _ | with_reducible refine Keeps.alloc ?_ _ | with_reducible refine Keeps.drew ?_ | with_reducible refine Keeps.drewN ?_ _ | exact Keeps.refl _ _)) (fun _ _ h => h)) (by intro u hu; obtain ⟨_, _, rfl⟩ := List.mem_map.1 hu; rfl) (by unfold maxLen; omega) (by omega) (by simp; omega) ?_; intro vA wA hownA hkA hatA; have hzA : wr.heap.size + 2 ≤ wA.heap.size := Nat.le_trans (by simp) hkA.size; have hbA : ∀ b cs t, b ≠ wr.heap.size + 1 → Blk _ b cs t → Blk wA b cs t := (fun b cs t hb h => Blk.keep h hkA (by intro h'; simp [Value.ownBlock] at h'; omega)); have kA : Keeps Nil wr wA := Keeps.trans (by repeat (first | with_reducible exact Keeps.refl _ _ | with_reducible refine Keeps.alloc ?_ _ | with_reducible refine Keeps.drew ?_ | with_reducible refine Keeps.drewN ?_ _ | exact Keeps.refl _ _)) hkA (fun i hi h => by simp [Value.ownBlock] at h; omega); have fA : ∀ b, vA.ownBlock = some b → wr.heap.size < b := (by intro b h; rcases hatA with h' | h'; (rw [h'] at h; simp [Value.ownBlock] at h; omega); (have := h' _ h; simp at this; omega)); have nvA : ¬ vA.ownBlock = some wr.heap.size := (fun h => Nat.lt_irrefl _ (fA _ h))) | (refine ownStepS rfl _ _ 24 rfl (w.heap.size + 1) 2 (.int .i64 0) 1 8 Try.underlying24 (by kernel_rfl) rfl (by decide) (.slice (some ⟨wr.heap.size + 2, 0, none⟩) 0 0) 0 [] rfl (Own.empty (by repeat (first | (with_reducible refine Blk.new' ?_; simp; done) | with_reducible refine Blk.alloc ?_ _ | with_reducible refine Blk.drew ?_ | with_reducible refine Blk.drewN ?_ _)) (by simp; omega)) _ L (ws.map (Value.int .i64)) rfl (by exact Row.keep (S := Nil) hrowW (by repeat (first | with_reducible exact Keeps.refl _ _ | with_reducible refine Keeps.alloc ?_ _ | with_reducible refine Keeps.drew ?_ | with_reducible refine Keeps.drewN ?_ _ | exact Keeps.refl _ _)) (fun _ _ h => h)) (by intro u hu; obtain ⟨_, _, rfl⟩ := List.mem_map.1 hu; rfl) (by unfold maxLen; omega) (by omega) (by simp; omega) ?_; intro vA wA hownA hkA hatA; have hzA : wr.heap.size + 2 ≤ wA.heap.size := Nat.le_trans (by simp) hkA.size; have hbA : ∀ b cs t, b ≠ wr.heap.size + 2 → Blk _ b cs t → Blk wA b cs t := (fun b cs t hb h => Blk.keep h hkA (by intro h'; simp [Value.ownBlock] at h'; omega)); have kA : Keeps Nil wr wA := Keeps.trans (by repeat (first | with_reducible exact Keeps.refl _ _ | with_reducible refine Keeps.alloc ?_ _ | with_reducible refine Keeps.drew ?_ | with_reducible refine Keeps.drewN ?_ _ | exact Keeps.refl _ _)) hkA (fun i hi h => by simp [Value.ownBlock] at h; omega); have fA : ∀ b, vA.ownBlock = some b → wr.heap.size < b := (by intro b h; rcases hatA with h' | h'; (rw [h'] at h; simp [Value.ownBlock] at h; omega); (have := h' _ h; simp at this; omega)); have nvA : ¬ vA.ownBlock = some wr.heap.size := (fun h => Nat.lt_irrefl _ (fA _ h))) | (refine ownStep1 rfl _ _ 24 rfl (w.heap.size + 1) 2 (.int .i64 0) 1 8 Try.underlying24 (by kernel_rfl) rfl (by decide) vA (0 + L) ([] ++ ws.map (Value.int .i64)) rfl (by repeat (first | with_reducible exact hownA | with_reducible refine Own.alloc ?_ _ | with_reducible refine Own.drew ?_ | with_reducible refine Own.drewN ?_ _ | exact hownA)) _ _ [.int .i64 vv] rfl (by first | ((repeat (first | (with_reducible refine Blk.new' ?_; simp; done) | with_reducible refine Blk.alloc ?_ _ | with_reducible refine Blk.drew ?_ | with_reducible refine Blk.drewN ?_ _)); done) | (refine hbA _ _ _ (by omega) ?_; (repeat (first | (with_reducible refine Blk.new' ?_; simp; done) | with_reducible refine Blk.alloc ?_ _ | with_reducible refine Blk.drew ?_ | with_reducible refine Blk.drewN ?_ _)))) rfl (by simp [Value.oneCell']) (by unfold maxLen; omega) (by omega) (by first | omega | (simp; omega)) ?_; intro vB wB hownB hkB hatB))
              all_goals
                have kB : Keeps Nil wr wB := Keeps.trans (by repeat (first | with_reducible exact kA | with_reducible refine Keeps.alloc ?_ _ | with_reducible refine Keeps.drew ?_ | with_reducible refine Keeps.drewN ?_ _ | exact kA)) hkB (fun i hi h => by have := fA _ h; omega)
                have fB : ∀ b, vB.ownBlock = some b → wr.heap.size < b := (by intro b h; rcases hatB with h' | h'; (rw [h'] at h; exact fA _ h); (have := h' _ h; (try simp at this); omega))
                simp only [List.nil_append, Nat.zero_add] at hownB
                rw [HL.out] at hownB
                have hbN : Own wB (w.heap.size + 1) 2 1 vB (ws ++ [vv]).length ((ws ++ [vv]).map (Value.int .i64)) := by simpa using hownB
                have hsN : ∀ b, u10.ownBlock = some b → vB.ownBlock ≠ some b := fun b h h' => by have := fB _ h'; have := (hown.lt _ h).2; omega
                clear hownB hkB hatB fB nvA hbA hzA hatA hkA hownA kA fA
                go_wp2_with (at_builtin; refine own1 rfl _ _ 37 rfl (w.heap.size + 1) 3 (.int .i64 0) 1 8 Try.underlying37 (by kernel_rfl) rfl (by decide) u10 k (nats rs) rfl (by exact Own.keep hown (S := Nil) (by repeat (first | with_reducible exact kB | with_reducible refine Keeps.alloc ?_ _ | with_reducible refine Keeps.drew ?_ | with_reducible refine Keeps.drewN ?_ _ | exact kB)) (fun _ _ h => h)) _ _ _ rfl (by repeat (first | (with_reducible refine Blk.new' ?_; simp; done) | with_reducible refine Blk.alloc ?_ _ | with_reducible refine Blk.drew ?_ | with_reducible refine Blk.drewN ?_ _)) rfl (by simp [Value.oneCell']) (by unfold maxLen; omega) (by omega) (by have := (kB).size; simp; omega) ?_; intro v1 w3 hown1 hk3 hat)
                go_roundw
                case rel =>
                  have hz := hk3.size
                  have hz1 := (kB).size
                  simp at hz
                  have hsz3 : w.heap.size < w3.heap.size := by omega
                  refine ⟨k + 1, _, _, _, by omega, by go_num, ?_, HO.out, Keeps.trans (Keeps.trans hkw (by repeat (first | with_reducible exact kB | with_reducible refine Keeps.alloc ?_ _ | with_reducible refine Keeps.drew ?_ | with_reducible refine Keeps.drewN ?_ _ | exact kB)) (fun _ _ h => h)) hk3 (fun i hi h => by have := (hown.lt i h).1; omega), hsz3, Own.keep (by repeat (first | with_reducible exact hbN | with_reducible refine Own.alloc ?_ _ | with_reducible refine Own.drew ?_ | with_reducible refine Own.drewN ?_ _ | exact hbN)) hk3 (fun i h1 h2 => hsN i h2 h1), ?_, ?_, ?_⟩
                  · first | rfl | go_num | (congr 1; omega)
                  · simpa [nats] using hown1
                  · intro b h1 h2
                    rcases hat with h' | h'
                    · exact hsN b (by rw [← h']; exact h1) h2
                    · have := h' _ h1; have := (hbN.lt _ h2).2; simp at *; omega
                  · refine Blk.keep (Blk.keep (S := Nil) hF (by repeat (first | with_reducible exact kB | with_reducible refine Keeps.alloc ?_ _ | with_reducible refine Keeps.drew ?_ | with_reducible refine Keeps.drewN ?_ _ | exact kB)) (fun h => h)) hk3 (fun h => by have := (hown.lt _ h).1; omega)
                case measure => simp [intOf]; omega
          · rw [if_neg hr] at HO
            have b1 : ((L : Int) == (rm : Int)) = false := by rw [beq_eq_false_iff_ne]; omega
            clear hr
            go_wp2
            go_region_held3 (fun w' => w'.cell? ⟨wr.heap.size, 2, none⟩ = some (.int .i64 vv)) (first | go_keep | (refine (hkA.cell (p := ⟨wr.heap.size, 2, none⟩) (by simp; try omega) (by simp [Value.ownBlock])).trans ?_; assumption) | (refine (hkB.cell (p := ⟨wr.heap.size, 2, none⟩) (by simp; try omega) nvA).trans ?_; assumption))
                (first | (refine ownStepS rfl _ _ 24 rfl (w.heap.size + 1) 2 (.int .i64 0) 1 8 Try.underlying24 (by kernel_rfl) rfl (by decide) (.slice (some ⟨wr.heap.size + 1, 0, none⟩) 0 0) 0 [] rfl (Own.empty (by repeat (first | (with_reducible refine Blk.new' ?_; simp; done) | with_reducible refine Blk.alloc ?_ _ | with_reducible refine Blk.drew ?_ | with_reducible refine Blk.drewN ?_ _)) (by simp; omega)) _ L (ws.map (Value.int .i64)) rfl (by exact Row.keep (S := Nil) hrowW (by repeat (first | with_reducible exact Keeps.refl _ _ | with_reducible refine Keeps.alloc ?_ _ | with_reducible refine Keeps.drew ?_ | with_reducible refine Keeps.drewN ?_ _ | exact Keeps.refl _ _)) (fun _ _ h => h)) (by intro u hu; obtain ⟨_, _, rfl⟩ := List.mem_map.1 hu; rfl) (by unfold maxLen; omega) (by omega) (by simp; omega) ?_; intro vA wA hownA hkA hatA; have hzA : wr.heap.size + 2 ≤ wA.heap.size := Nat.le_trans (by simp) hkA.size; have hbA : ∀ b cs t, b ≠ wr.heap.size + 1 → Blk _ b cs t → Blk wA b cs t := (fun b cs t hb h => Blk.keep h hkA (by intro h'; simp [Value.ownBlock] at h'; omega)); have kA : Keeps Nil wr wA := Keeps.trans (by repeat (first | with_reducible exact Keeps.refl _ _ | with_reducible refine Keeps.alloc ?_ _ | with_reducible refine Keeps.drew ?_ | with_reducible refine Keeps.drewN ?_ _ | exact Keeps.refl _ _)) hkA (fun i hi h => by simp [Value.ownBlock] at h; omega); have fA : ∀ b, vA.ownBlock = some b → wr.heap.size < b := (by intro b h; rcases hatA with h' | h'; (rw [h'] at h; simp [Value.ownBlock] at h; omega); (have := h' _ h; simp at this; omega)); have nvA : ¬ vA.ownBlock = some wr.heap.size := (fun h => Nat.lt_irrefl _ (fA _ h))) | (refine ownStepS rfl _ _ 24 rfl (w.heap.size + 1) 2 (.int .i64 0) 1 8 Try.underlying24 (by kernel_rfl) rfl (by decide) (.slice (some ⟨wr.heap.size + 2, 0, none⟩) 0 0) 0 [] rfl (Own.empty (by repeat (first | (with_reducible refine Blk.new' ?_; simp; done) | with_reducible refine Blk.alloc ?_ _ | with_reducible refine Blk.drew ?_ | with_reducible refine Blk.drewN ?_ _)) (by simp; omega)) _ L (ws.map (Value.int .i64)) rfl (by exact Row.keep (S := Nil) hrowW (by repeat (first | with_reducible exact Keeps.refl _ _ | with_reducible refine Keeps.alloc ?_ _ | with_reducible refine Keeps.drew ?_ | with_reducible refine Keeps.drewN ?_ _ | exact Keeps.refl _ _)) (fun _ _ h => h)) (by intro u hu; obtain ⟨_, _, rfl⟩ := List.mem_map.1 hu; rfl) (by unfold maxLen; omega) (by omega) (by simp; omega) ?_; intro vA wA hownA hkA hatA; have hzA : wr.heap.size + 2 ≤ wA.heap.size := Nat.le_trans (by simp) hkA.size; have hbA : ∀ b cs t, b ≠ wr.heap.size + 2 → Blk _ b cs t → Blk wA b cs t := (fun b cs t hb h => Blk.keep h hkA (by intro h'; simp [Value.ownBlock] at h'; omega)); have kA : Keeps Nil wr wA := Keeps.trans (by repeat (first | with_reducible exact Keeps.refl _ _ | with_reducible refine Keeps.alloc ?_ _ | with_reducible refine Keeps.drew ?_ | with_reducible refine Keeps.drewN ?_ _ | exact Keeps.refl _ _)) hkA (fun i hi h => by simp [Value.ownBlock] at h; omega); have fA : ∀ b, vA.ownBlock = some b → wr.heap.size < b := (by intro b h; rcases hatA with h' | h'; (rw [h'] at h; simp [Value.ownBlock] at h; omega); (have := h' _ h; simp at this; omega)); have nvA : ¬ vA.ownBlock = some wr.heap.size := (fun h => Nat.lt_irrefl _ (fA _ h))) | (refine ownStep1 rfl _ _ 24 rfl (w.heap.size + 1) 2 (.int .i64 0) 1 8 Try.underlying24 (by kernel_rfl) rfl (by decide) vA (0 + L) ([] ++ ws.map (Value.int .i64)) rfl (by repeat (first | with_reducible exact hownA | with_reducible refine Own.alloc ?_ _ | with_reducible refine Own.drew ?_ | with_reducible refine Own.drewN ?_ _ | exact hownA)) _ _ [.int .i64 vv] rfl (by first | ((repeat (first | (with_reducible refine Blk.new' ?_; simp; done) | with_reducible refine Blk.alloc ?_ _ | with_reducible refine Blk.drew ?_ | with_reducible refine Blk.drewN ?_ _)); done) | (refine hbA _ _ _ (by omega) ?_; (repeat (first | (with_reducible refine Blk.new' ?_; simp; done) | with_reducible refine Blk.alloc ?_ _ | with_reducible refine Blk.drew ?_ | with_reducible refine Blk.drewN ?_ _)))) rfl (by simp [Value.oneCell']) (by unfold maxLen; omega) (by omega) (by first | omega | (simp; omega)) ?_; intro vB wB hownB hkB hatB))
            all_goals
              have kB : Keeps Nil wr wB := Keeps.trans (by repeat (first | with_reducible exact kA | with_reducible refine Keeps.alloc ?_ _ | with_reducible refine Keeps.drew ?_ | with_reducible refine Keeps.drewN ?_ _ | exact kA)) hkB (fun i hi h => by have := fA _ h; omega)
              have fB : ∀ b, vB.ownBlock = some b → wr.heap.size < b := (by intro b h; rcases hatB with h' | h'; (rw [h'] at h; exact fA _ h); (have := h' _ h; (try simp at this); omega))
              simp only [List.nil_append, Nat.zero_add] at hownB
              rw [HL.out] at hownB
              have hbN : Own wB (w.heap.size + 1) 2 1 vB (ws ++ [vv]).length ((ws ++ [vv]).map (Value.int .i64)) := by simpa using hownB
              have hsN : ∀ b, u10.ownBlock = some b → vB.ownBlock ≠ some b := fun b h h' => by have := fB _ h'; have := (hown.lt _ h).2; omega
              clear hownB hkB hatB fB nvA hbA hzA hatA hkA hownA kA fA
              go_wp2_with (at_builtin; refine own1 rfl _ _ 37 rfl (w.heap.size + 1) 3 (.int .i64 0) 1 8 Try.underlying37 (by kernel_rfl) rfl (by decide) u10 k (nats rs) rfl (by exact Own.keep hown (S := Nil) (by repeat (first | with_reducible exact kB | with_reducible refine Keeps.alloc ?_ _ | with_reducible refine Keeps.drew ?_ | with_reducible refine Keeps.drewN ?_ _ | exact kB)) (fun _ _ h => h)) _ _ _ rfl (by repeat (first | (with_reducible refine Blk.new' ?_; simp; done) | with_reducible refine Blk.alloc ?_ _ | with_reducible refine Blk.drew ?_ | with_reducible refine Blk.drewN ?_ _)) rfl (by simp [Value.oneCell']) (by unfold maxLen; omega) (by omega) (by have := (kB).size; simp; omega) ?_; intro v1 w3 hown1 hk3 hat)
              go_roundw
              case rel =>
                have hz := hk3.size
                have hz1 := (kB).size
                simp at hz
                have hsz3 : w.heap.size < w3.heap.size := by omega
                refine ⟨k + 1, _, _, _, by omega, by go_num, ?_, HO.out, Keeps.trans (Keeps.trans hkw (by repeat (first | with_reducible exact kB | with_reducible refine Keeps.alloc ?_ _ | with_reducible refine Keeps.drew ?_ | with_reducible refine Keeps.drewN ?_ _ | exact kB)) (fun _ _ h => h)) hk3 (fun i hi h => by have := (hown.lt i h).1; omega), hsz3, Own.keep (by repeat (first | with_reducible exact hbN | with_reducible refine Own.alloc ?_ _ | with_reducible refine Own.drew ?_ | with_reducible refine Own.drewN ?_ _ | exact hbN)) hk3 (fun i h1 h2 => hsN i h2 h1), ?_, ?_, ?_⟩
                · first | rfl | go_num | (congr 1; omega)
                · simpa [nats] using hown1
                · intro b h1 h2
                  rcases hat with h' | h'
                  · exact hsN b (by rw [← h']; exact h1) h2
                  · have := h' _ h1; have := (hbN.lt _ h2).2; simp at *; omega
                · refine Blk.keep (Blk.keep (S := Nil) hF (by repeat (first | with_reducible exact kB | with_reducible refine Keeps.alloc ?_ _ | with_reducible refine Keeps.drew ?_ | with_reducible refine Keeps.drewN ?_ _ | exact kB)) (fun h => h)) hk3 (fun h => by have := (hown.lt _ h).1; omega)
              case measure => simp [intOf]; omega
      have b1 : (kd == 1) = false := by simpa using hp1
      by_cases hp2 : kd = 2
      · subst hp2
        by_cases g1 : nn < 0
        · have x1 : decide (nn < 0) = true := by simpa using g1
          have HA := Lib.hid (HErr.out 3 (by simp only [StackM.step]; rw [if_neg (by omega), if_neg hp1, if_pos (.inl g1)]))
          clear g1
          go_wp2
          refine bodyPost_ret (v := .tuple #[.slice none 0 0, .slice none 0 0, flt 3 k]) (by simp [results, Try.results19, go_sem, flt, e0, e1, f0, f1, hFl]) rfl ⟨?_, ?_⟩
          · (repeat (first | exact hkw | refine Keeps.alloc ?_ _ | refine Keeps.drewN ?_ _ | refine Keeps.drew ?_ | refine Keeps.setCell ?_ (fun h => by simp at h) _))
          · rw [HA.out]; rfl
        have x1 : decide (nn < 0) = false := by simpa using g1
        by_cases g2 : (L : Int) < nn
        · have x2 : decide ((L : Int) < nn) = true := by simpa using g2
          have HA := Lib.hid (HErr.out 3 (by simp only [StackM.step]; rw [if_neg (by omega), if_neg hp1, if_pos (.inr (.inl (by rw [← HL.out]; exact g2)))]))
          clear g1 g2
          go_wp2
          refine bodyPost_ret (v := .tuple #[.slice none 0 0, .slice none 0 0, flt 3 k]) (by simp [results, Try.results19, go_sem, flt, e0, e1, f0, f1, hFl]) rfl ⟨?_, ?_⟩
          · (repeat (first | exact hkw | refine Keeps.alloc ?_ _ | refine Keeps.drewN ?_ _ | refine Keeps.drew ?_ | refine Keeps.setCell ?_ (fun h => by simp at h) _))
          · rw [HA.out]; rfl
        obtain ⟨m, rfl⟩ : ∃ m : Nat, nn = m := ⟨nn.toNat, by omega⟩
        have x2 : decide ((L : Int) < (m : Int)) = false := by simp; omega
        have x3 : decide (L < m) = false := by simp; omega
        have hs : StackM.step mn mx ws rm (2, m, vv) = .ok (ws.take (L - m), if L - m ≤ rm / 4 ∧ mn < rm then max (rm / 2) mn else rm) := by
          simp only [StackM.step, ← HL.out, if_neg hp1]
          rw [if_neg (by omega), if_neg (by omega)]
          simp
        have hO := HOk.out _ _ hs
        have hct := own_cut hbox (show L - m ≤ L by omega)
        obtain ⟨q, hq⟩ : ∃ q, q = L - m := ⟨_, rfl⟩
        rw [← hq] at hO hct
        have em : (L : Int) - (m : Int) = (q : Int) := by omega
        have hqL : q ≤ L := by omega
        have hqc : q ≤ cp := by omega
        have HO := Lib.hid hO
        have hbN : Own wr (w.heap.size + 1) 2 1 (.slice ao q cp) (ws.take q).length ((ws.take q).map (Value.int .i64)) := by
          have e : (ws.take q).length = q := by rw [List.length_take, ← HL.out]; omega
          rw [e, List.map_take]
          exact hct
        have hsN : ∀ b, u10.ownBlock = some b → (Value.slice ao q cp).ownBlock ≠ some b := fun b h h' => Hsep.out b h ((show (Value.slice ao L cp).ownBlock = (Value.slice ao q cp).ownBlock by cases ao <;> rfl).trans h')
        clear hs hO hct hq g1 g2
        by_cases hc : q ≤ rm / 4
        · have y1 : decide (4 * (q : Int) ≤ (rm : Int) - (rm : Int) % 4) = true := by simp; omega
          by_cases hc2 : mn < rm
          · have y2 : decide (mn < rm) = true := by simpa using hc2
            rw [if_pos ⟨hc, hc2⟩] at HO
            by_cases hc3 : rm / 2 < mn
            · have y3 : decide ((rm : Int) / 2 < (mn : Int)) = true := by simp; omega
              rw [Nat.max_eq_right (by omega)] at HO
              clear hc hc2 hc3
              go_wp2_with (at_builtin; refine own1 rfl _ _ 37 rfl (w.heap.size + 1) 3 (.int .i64 0) 1 8 Try.underlying37 (by kernel_rfl) rfl (by decide) u10 k (nats rs) rfl (by exact Own.keep hown (S := Nil) (by repeat (first | with_reducible exact Keeps.refl Nil wr | with_reducible refine Keeps.alloc ?_ _ | with_reducible refine Keeps.drew ?_ | with_reducible refine Keeps.drewN ?_ _ | exact Keeps.refl Nil wr)) (fun _ _ h => h)) _ _ _ rfl (by repeat (first | (with_reducible refine Blk.new' ?_; simp; done) | with_reducible refine Blk.alloc ?_ _ | with_reducible refine Blk.drew ?_ | with_reducible refine Blk.drewN ?_ _)) rfl (by simp [Value.oneCell']) (by unfold maxLen; omega) (by omega) (by have := (Keeps.refl Nil wr).size; simp; omega) ?_; intro v1 w3 hown1 hk3 hat)
              go_roundw
              case rel =>
                have hz := hk3.size
                have hz1 := (Keeps.refl Nil wr).size
                simp at hz
                have hsz3 : w.heap.size < w3.heap.size := by omega
                refine ⟨k + 1, _, _, _, by omega, by go_num, ?_, HO.out, Keeps.trans (Keeps.trans hkw (by repeat (first | with_reducible exact Keeps.refl Nil wr | with_reducible refine Keeps.alloc ?_ _ | with_reducible refine Keeps.drew ?_ | with_reducible refine Keeps.drewN ?_ _ | exact Keeps.refl Nil wr)) (fun _ _ h => h)) hk3 (fun i hi h => by have := (hown.lt i h).1; omega), hsz3, Own.keep (by repeat (first | with_reducible exact hbN | with_reducible refine Own.alloc ?_ _ | with_reducible refine Own.drew ?_ | with_reducible refine Own.drewN ?_ _ | exact hbN)) hk3 (fun i h1 h2 => hsN i h2 h1), ?_, ?_, ?_⟩
                · first | rfl | go_num | (congr 1; omega)
                · simpa [nats] using hown1
                · intro b h1 h2
                  rcases hat with h' | h'
                  · exact hsN b (by rw [← h']; exact h1) h2
                  · have := h' _ h1; have := (hbN.lt _ h2).2; simp at *; omega
                · refine Blk.keep (Blk.keep (S := Nil) hF (by repeat (first | with_reducible exact Keeps.refl Nil wr | with_reducible refine Keeps.alloc ?_ _ | with_reducible refine Keeps.drew ?_ | with_reducible refine Keeps.drewN ?_ _ | exact Keeps.refl Nil wr)) (fun h => h)) hk3 (fun h => by have := (hown.lt _ h).1; omega)
              case measure => simp [intOf]; omega
            · have y3 : decide ((rm : Int) / 2 < (mn : Int)) = false := by simp; omega
              rw [Nat.max_eq_left (by omega)] at HO
              clear hc hc2 hc3
              go_wp2_with (at_builtin; refine own1 rfl _ _ 37 rfl (w.heap.size + 1) 3 (.int .i64 0) 1 8 Try.underlying37 (by kernel_rfl) rfl (by decide) u10 k (nats rs) rfl (by exact Own.keep hown (S := Nil) (by repeat (first | with_reducible exact Keeps.refl Nil wr | with_reducible refine Keeps.alloc ?_ _ | with_reducible refine Keeps.drew ?_ | with_reducible refine Keeps.drewN ?_ _ | exact Keeps.refl Nil wr)) (fun _ _ h => h)) _ _ _ rfl (by repeat (first | (with_reducible refine Blk.new' ?_; simp; done) | with_reducible refine Blk.alloc ?_ _ | with_reducible refine Blk.drew ?_ | with_reducible refine Blk.drewN ?_ _)) rfl (by simp [Value.oneCell']) (by unfold maxLen; omega) (by omega) (by have := (Keeps.refl Nil wr).size; simp; omega) ?_; intro v1 w3 hown1 hk3 hat)
              go_roundw
              case rel =>
                have hz := hk3.size
                have hz1 := (Keeps.refl Nil wr).size
                simp at hz
                have hsz3 : w.heap.size < w3.heap.size := by omega
                refine ⟨k + 1, _, _, _, by omega, by go_num, ?_, HO.out, Keeps.trans (Keeps.trans hkw (by repeat (first | with_reducible exact Keeps.refl Nil wr | with_reducible refine Keeps.alloc ?_ _ | with_reducible refine Keeps.drew ?_ | with_reducible refine Keeps.drewN ?_ _ | exact Keeps.refl Nil wr)) (fun _ _ h => h)) hk3 (fun i hi h => by have := (hown.lt i h).1; omega), hsz3, Own.keep (by repeat (first | with_reducible exact hbN | with_reducible refine Own.alloc ?_ _ | with_reducible refine Own.drew ?_ | with_reducible refine Own.drewN ?_ _ | exact hbN)) hk3 (fun i h1 h2 => hsN i h2 h1), ?_, ?_, ?_⟩
                · first | rfl | go_num | (congr 1; omega)
                · simpa [nats] using hown1
                · intro b h1 h2
                  rcases hat with h' | h'
                  · exact hsN b (by rw [← h']; exact h1) h2
                  · have := h' _ h1; have := (hbN.lt _ h2).2; simp at *; omega
                · refine Blk.keep (Blk.keep (S := Nil) hF (by repeat (first | with_reducible exact Keeps.refl Nil wr | with_reducible refine Keeps.alloc ?_ _ | with_reducible refine Keeps.drew ?_ | with_reducible refine Keeps.drewN ?_ _ | exact Keeps.refl Nil wr)) (fun h => h)) hk3 (fun h => by have := (hown.lt _ h).1; omega)
              case measure => simp [intOf]; omega
          · have y2 : decide (mn < rm) = false := by simpa using hc2
            rw [if_neg (fun h => hc2 h.2)] at HO
            clear hc hc2
            go_wp2_with (at_builtin; refine own1 rfl _ _ 37 rfl (w.heap.size + 1) 3 (.int .i64 0) 1 8 Try.underlying37 (by kernel_rfl) rfl (by decide) u10 k (nats rs) rfl (by exact Own.keep hown (S := Nil) (by repeat (first | with_reducible exact Keeps.refl Nil wr | with_reducible refine Keeps.alloc ?_ _ | with_reducible refine Keeps.drew ?_ | with_reducible refine Keeps.drewN ?_ _ | exact Keeps.refl Nil wr)) (fun _ _ h => h)) _ _ _ rfl (by repeat (first | (with_reducible refine Blk.new' ?_; simp; done) | with_reducible refine Blk.alloc ?_ _ | with_reducible refine Blk.drew ?_ | with_reducible refine Blk.drewN ?_ _)) rfl (by simp [Value.oneCell']) (by unfold maxLen; omega) (by omega) (by have := (Keeps.refl Nil wr).size; simp; omega) ?_; intro v1 w3 hown1 hk3 hat)
            go_roundw
            case rel =>
              have hz := hk3.size
              have hz1 := (Keeps.refl Nil wr).size
              simp at hz
              have hsz3 : w.heap.size < w3.heap.size := by omega
              refine ⟨k + 1, _, _, _, by omega, by go_num, ?_, HO.out, Keeps.trans (Keeps.trans hkw (by repeat (first | with_reducible exact Keeps.refl Nil wr | with_reducible refine Keeps.alloc ?_ _ | with_reducible refine Keeps.drew ?_ | with_reducible refine Keeps.drewN ?_ _ | exact Keeps.refl Nil wr)) (fun _ _ h => h)) hk3 (fun i hi h => by have := (hown.lt i h).1; omega), hsz3, Own.keep (by repeat (first | with_reducible exact hbN | with_reducible refine Own.alloc ?_ _ | with_reducible refine Own.drew ?_ | with_reducible refine Own.drewN ?_ _ | exact hbN)) hk3 (fun i h1 h2 => hsN i h2 h1), ?_, ?_, ?_⟩
              · first | rfl | go_num | (congr 1; omega)
              · simpa [nats] using hown1
              · intro b h1 h2
                rcases hat with h' | h'
                · exact hsN b (by rw [← h']; exact h1) h2
                · have := h' _ h1; have := (hbN.lt _ h2).2; simp at *; omega
              · refine Blk.keep (Blk.keep (S := Nil) hF (by repeat (first | with_reducible exact Keeps.refl Nil wr | with_reducible refine Keeps.alloc ?_ _ | with_reducible refine Keeps.drew ?_ | with_reducible refine Keeps.drewN ?_ _ | exact Keeps.refl Nil wr)) (fun h => h)) hk3 (fun h => by have := (hown.lt _ h).1; omega)
            case measure => simp [intOf]; omega
        · have y1 : decide (4 * (q : Int) ≤ (rm : Int) - (rm : Int) % 4) = false := by simp; omega
          rw [if_neg (fun h => hc h.1)] at HO
          clear hc
          go_wp2_with (at_builtin; refine own1 rfl _ _ 37 rfl (w.heap.size + 1) 3 (.int .i64 0) 1 8 Try.underlying37 (by kernel_rfl) rfl (by decide) u10 k (nats rs) rfl (by exact Own.keep hown (S := Nil) (by repeat (first | with_reducible exact Keeps.refl Nil wr | with_reducible refine Keeps.alloc ?_ _ | with_reducible refine Keeps.drew ?_ | with_reducible refine Keeps.drewN ?_ _ | exact Keeps.refl Nil wr)) (fun _ _ h => h)) _ _ _ rfl (by repeat (first | (with_reducible refine Blk.new' ?_; simp; done) | with_reducible refine Blk.alloc ?_ _ | with_reducible refine Blk.drew ?_ | with_reducible refine Blk.drewN ?_ _)) rfl (by simp [Value.oneCell']) (by unfold maxLen; omega) (by omega) (by have := (Keeps.refl Nil wr).size; simp; omega) ?_; intro v1 w3 hown1 hk3 hat)
          go_roundw
          case rel =>
            have hz := hk3.size
            have hz1 := (Keeps.refl Nil wr).size
            simp at hz
            have hsz3 : w.heap.size < w3.heap.size := by omega
            refine ⟨k + 1, _, _, _, by omega, by go_num, ?_, HO.out, Keeps.trans (Keeps.trans hkw (by repeat (first | with_reducible exact Keeps.refl Nil wr | with_reducible refine Keeps.alloc ?_ _ | with_reducible refine Keeps.drew ?_ | with_reducible refine Keeps.drewN ?_ _ | exact Keeps.refl Nil wr)) (fun _ _ h => h)) hk3 (fun i hi h => by have := (hown.lt i h).1; omega), hsz3, Own.keep (by repeat (first | with_reducible exact hbN | with_reducible refine Own.alloc ?_ _ | with_reducible refine Own.drew ?_ | with_reducible refine Own.drewN ?_ _ | exact hbN)) hk3 (fun i h1 h2 => hsN i h2 h1), ?_, ?_, ?_⟩
            · first | rfl | go_num | (congr 1; omega)
            · simpa [nats] using hown1
            · intro b h1 h2
              rcases hat with h' | h'
              · exact hsN b (by rw [← h']; exact h1) h2
              · have := h' _ h1; have := (hbN.lt _ h2).2; simp at *; omega
            · refine Blk.keep (Blk.keep (S := Nil) hF (by repeat (first | with_reducible exact Keeps.refl Nil wr | with_reducible refine Keeps.alloc ?_ _ | with_reducible refine Keeps.drew ?_ | with_reducible refine Keeps.drewN ?_ _ | exact Keeps.refl Nil wr)) (fun h => h)) hk3 (fun h => by have := (hown.lt _ h).1; omega)
          case measure => simp [intOf]; omega
      have b2 : (kd == 2) = false := by simpa using hp2
      by_cases hp3 : kd = 3
      · subst hp3
        by_cases g1 : nn < 0
        · have x1 : decide (nn < 0) = true := by simpa using g1
          have HA := Lib.hid (HErr.out 3 (by simp only [StackM.step]; rw [if_neg (by omega), if_neg hp1, if_pos (.inl g1)]))
          clear g1
          go_wp2
          refine bodyPost_ret (v := .tuple #[.slice none 0 0, .slice none 0 0, flt 3 k]) (by simp [results, Try.results19, go_sem, flt, e0, e1, f0, f1, hFl]) rfl ⟨?_, ?_⟩
          · (repeat (first | exact hkw | refine Keeps.alloc ?_ _ | refine Keeps.drewN ?_ _ | refine Keeps.drew ?_ | refine Keeps.setCell ?_ (fun h => by simp at h) _))
          · rw [HA.out]; rfl
        have x1 : decide (nn < 0) = false := by simpa using g1
        by_cases g2 : (L : Int) ≤ nn
        · have x2 : decide ((L : Int) ≤ nn) = true := by simpa using g2
          have hbad : nn < 0 ∨ (ws.length : Int) < nn ∨ (True ∧ nn = ws.length) := .inr (by rcases Int.lt_or_eq_of_le g2 with h | h; (exact .inl (by rw [← HL.out]; exact h)); (exact .inr ⟨trivial, by rw [← HL.out]; exact h.symm⟩))
          have HA := Lib.hid (HErr.out 3 (by simp only [StackM.step]; rw [if_neg (by omega), if_neg hp1, if_pos hbad]))
          clear hbad
          clear g1 g2
          go_wp2
          refine bodyPost_ret (v := .tuple #[.slice none 0 0, .slice none 0 0, flt 3 k]) (by simp [results, Try.results19, go_sem, flt, e0, e1, f0, f1, hFl]) rfl ⟨?_, ?_⟩
          · (repeat (first | exact hkw | refine Keeps.alloc ?_ _ | refine Keeps.drewN ?_ _ | refine Keeps.drew ?_ | refine Keeps.setCell ?_ (fun h => by simp at h) _))
          · rw [HA.out]; rfl
        obtain ⟨m, rfl⟩ : ∃ m : Nat, nn = m := ⟨nn.toNat, by omega⟩
        have hmL : m < L := by omega
        have x2 : decide ((L : Int) ≤ (m : Int)) = false := by simp; omega
        have x3 : decide (L ≤ m) = false := by simp; omega
        have hs : StackM.step mn mx ws rm (3, m, vv) = .ok (ws.set m vv, rm) := by
          simp only [StackM.step, ← HL.out, if_neg hp1]
          rw [if_neg (by omega), if_neg (by omega), if_neg hp2]
          simp
        have hO := HOk.out _ _ hs
        have HO := Lib.hid hO
        clear hs hO g1 g2
        go_wp2_with (first | (at_builtin; refine ownS rfl _ _ 24 rfl (w.heap.size + 1) 2 (.int .i64 0) 1 8 Try.underlying24 (by kernel_rfl) rfl (by decide) (.slice (some ⟨wr.heap.size + 1, 0, none⟩) 0 0) 0 [] rfl (Own.empty (by repeat (first | (with_reducible refine Blk.new' ?_; simp; done) | with_reducible refine Blk.alloc ?_ _ | with_reducible refine Blk.drew ?_ | with_reducible refine Blk.drewN ?_ _)) (by simp; omega)) _ L (ws.map (Value.int .i64)) rfl (by exact Row.keep (S := Nil) hrowW (by repeat (first | with_reducible exact Keeps.refl _ _ | with_reducible refine Keeps.alloc ?_ _ | with_reducible refine Keeps.drew ?_ | with_reducible refine Keeps.drewN ?_ _ | exact Keeps.refl _ _)) (fun _ _ h => h)) (by intro u hu; obtain ⟨_, _, rfl⟩ := List.mem_map.1 hu; rfl) (by unfold maxLen; omega) (by omega) (by simp; omega) ?_; intro vA wA hownA hkA hatA; simp only [List.nil_append, Nat.zero_add] at hownA; obtain ⟨b2, o2, cp2, rfl, hcp2, hb2, hb2', hcell⟩ := own_some hownA (Nat.lt_of_le_of_lt (Nat.zero_le m) hmL); have fA : wr.heap.size < b2 := (by rcases hatA with h' | h'; (simp [Value.ownBlock] at h'; omega); (have := h' b2 rfl; (try simp at this); omega)); have kA : Keeps Nil wr wA := Keeps.trans (by repeat (first | with_reducible exact Keeps.refl _ _ | with_reducible refine Keeps.alloc ?_ _ | with_reducible refine Keeps.drew ?_ | with_reducible refine Keeps.drewN ?_ _ | exact Keeps.refl _ _)) hkA (fun i hi h => by simp [Value.ownBlock] at h; omega); have kS : Keeps Nil wr (wA.setCell ⟨b2, o2 + m, none⟩ (.int .i64 vv)) := kA.setCell (fun h => by simp at h; omega) _; have hbN : Own (wA.setCell ⟨b2, o2 + m, none⟩ (.int .i64 vv)) (w.heap.size + 1) 2 1 (.slice (some ⟨b2, o2, none⟩) L cp2) (ws.set m vv).length ((ws.set m vv).map (Value.int .i64)) := (by rw [show (ws.set m vv).length = L by rw [List.length_set, HL.out], List.map_set]; exact own_set hownA hmL _); have hsN : ∀ b, u10.ownBlock = some b → (Value.slice (some ⟨b2, o2, none⟩) L cp2).ownBlock ≠ some b := (fun b h h' => by simp [Value.ownBlock] at h'; have := (hown.lt _ h).2; omega); have cm := (hcell m hmL).1; have fm := (hcell m hmL).2; rw [List.getElem?_map, List.getElem?_eq_getElem (by rw [← HL.out]; exact hmL), Option.map_some] at cm; have p1 : wA.cell? ⟨wr.heap.size, 1, none⟩ = some (.int .i64 m) := (hkA.cell (p := ⟨wr.heap.size, 1, none⟩) (by simp; omega) (by simp [Value.ownBlock])).trans (by simp [go_sem]); have p2 : wA.cell? ⟨wr.heap.size, 2, none⟩ = some (.int .i64 vv) := (hkA.cell (p := ⟨wr.heap.size, 2, none⟩) (by simp; omega) (by simp [Value.ownBlock])).trans (by simp [go_sem]); generalize ws[m]'(by rw [← HL.out]; exact hmL) = ww at cm; clear hcell hkA hatA hownA kA) | (at_builtin; refine own1 rfl _ _ 37 rfl (w.heap.size + 1) 3 (.int .i64 0) 1 8 Try.underlying37 (by kernel_rfl) rfl (by decide) u10 k (nats rs) rfl (by exact Own.keep hown (S := Nil) (by repeat (first | with_reducible exact kS | with_reducible refine Keeps.alloc ?_ _ | with_reducible refine Keeps.drew ?_ | with_reducible refine Keeps.drewN ?_ _ | exact kS)) (fun _ _ h => h)) _ _ _ rfl (by repeat (first | (with_reducible refine Blk.new' ?_; simp; done) | with_reducible refine Blk.alloc ?_ _ | with_reducible refine Blk.drew ?_ | with_reducible refine Blk.drewN ?_ _)) rfl (by simp [Value.oneCell']) (by unfold maxLen; omega) (by omega) (by have := (kS).size; simp; omega) ?_; intro v1 w3 hown1 hk3 hat))
        go_roundw
        case rel =>
          have hz := hk3.size
          have hz1 := (kS).size
          simp at hz
          have hsz3 : w.heap.size < w3.heap.size := by omega
          refine ⟨k + 1, _, _, _, by omega, by go_num, ?_, HO.out, Keeps.trans (Keeps.trans hkw (by repeat (first | with_reducible exact kS | with_reducible refine Keeps.alloc ?_ _ | with_reducible refine Keeps.drew ?_ | with_reducible refine Keeps.drewN ?_ _ | exact kS)) (fun _ _ h => h)) hk3 (fun i hi h => by have := (hown.lt i h).1; omega), hsz3, Own.keep (by repeat (first | with_reducible exact hbN | with_reducible refine Own.alloc ?_ _ | with_reducible refine Own.drew ?_ | with_reducible refine Own.drewN ?_ _ | exact hbN)) hk3 (fun i h1 h2 => hsN i h2 h1), ?_, ?_, ?_⟩
          · first | rfl | go_num | (congr 1; omega)
          · simpa [nats] using hown1
          · intro b h1 h2
            rcases hat with h' | h'
            · exact hsN b (by rw [← h']; exact h1) h2
            · have := h' _ h1; have := (hbN.lt _ h2).2; simp at *; omega
          · refine Blk.keep (Blk.keep (S := Nil) hF (by repeat (first | with_reducible exact kS | with_reducible refine Keeps.alloc ?_ _ | with_reducible refine Keeps.drew ?_ | with_reducible refine Keeps.drewN ?_ _ | exact kS)) (fun h => h)) hk3 (fun h => by have := (hown.lt _ h).1; omega)
        case measure => simp [intOf]; omega
      have b3 : (kd == 3) = false := by simpa using hp3
      go_wp2
      have hA := HErr.out 1 (by simp only [StackM.step]; rw [if_pos (by omega)])
      refine bodyPost_ret (v := .tuple #[.slice none 0 0, .slice none 0 0, flt 1 k]) (by simp [results, Try.results19, go_sem, flt, e0, e1, f0, f1, hFl]) rfl ⟨?_, ?_⟩
      · (repeat (first | exact hkw | refine Keeps.alloc ?_ _ | refine Keeps.drewN ?_ _ | refine Keeps.drew ?_ | refine Keeps.setCell ?_ (fun h => by simp at h) _))
      · rw [hA]; rfl
    · obtain rfl : k = n := by omega
      have hlk : l.take k = l := List.take_of_length_le (by have := Hn.out; omega)
      rw [hlk] at hrun
      have Hrun := Lib.hid hrun
      have f0 := hF.free 0
      have f1 := hF.free 1
      have e0 := hF.cell 0
      have e1 := hF.cell 1
      simp at e0 e1
      clear hlk hrun
      go_wp2
      refine bodyPost_ret (v := .tuple #[u9, u10, flt 0 0]) (by simp [results, Try.results19, go_sem, flt, e0, e1, f0, f1, hsw]) rfl ⟨?_, ?_⟩
      · exact (hkw.setCell (fun h => by simp at h) _).setCell (fun h => by simp at h) _
      · rw [Hrun.out]
        have hkF : Keeps (fun i => i = w.heap.size) wr ((wr.setCell { block := w.heap.size, off := 0 } (Value.int IntKind.i64 0)).setCell { block := w.heap.size, off := 1 } (Value.int IntKind.i64 0)) :=
          Keeps.setCell (S := fun i => i = w.heap.size) (Keeps.setCell (S := fun i => i = w.heap.size) (Keeps.refl _ _) (fun _ => rfl) _) (fun _ => rfl) _
        exact ⟨u9, u10, rfl, (hbox.keep hkF (fun i h1 h2 => by have := (hbox.lt i h1).1; omega)).mono (by omega), (hown.keep hkF (fun i h1 h2 => by have := (hown.lt i h1).1; omega)).mono (by omega)⟩
end Go.Proofs.Ytninmkkcphnniaa.Stk
