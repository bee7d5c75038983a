/- The law MailPlays: its walk. -/
import Derived.Test.YtninmkkcphnniaaMailRef
import Derived.Test.YtninmkkcphnniaaSame
namespace Go.Proofs.Ytninmkkcphnniaa.Mail
open Go.RowKit
set_option linter.unusedVariables false

theorem ref_out (places : Int) (v : Value) (w : World) (h : places < 1 ∨ 20 < places) :
    Calls Try.prog 15 #[.int .i64 places, v] w fun e w' => e = .returned (.tuple #[.slice none 0 0, .slice none 0 0, .int .i64 3]) ∧ w = w' := by
  rcases h with h | h
  · have hd1 : decide (places < 1) = true := by simpa using h
    go_enter Try.func15, Try.ntmps15
    go_wp2
    go_ret3
    exact ⟨rfl, rfl⟩
  · have hd1 : decide (places < 1) = false := by simp; omega
    have hd2 : decide (20 < places) = true := by simpa using h
    go_enter Try.func15, Try.ntmps15
    go_wp2
    go_ret3
    exact ⟨rfl, rfl⟩

set_option maxRecDepth 100000 in
set_option maxHeartbeats 1000000 in
theorem plays_in (places : Int) (v : Value) (l : List (Bool × Int)) (n : Nat) (hn : l.length = n) (w : World) (hv : Row w v 2 n (opCells l)) (hsz : n * 16 ≤ 140737488351232) (hvb : ∀ b, v.ownBlock = some b → 0 < n → b < w.heap.size)
    (h1 : 1 ≤ places) (h2 : places ≤ 20) :
    Calls Try.prog 3 #[.int .i64 places, v] w fun e w' => e = .returned (.bool true) ∧ Below w.heap.size w w' := by
  have Hn := Lib.hid hn
  clear hn
  generalize hg : (MailM.run places.toNat [] l).1 = g
  go_enter Try.func3, Try.ntmps3
  go_wp2_with fail
  refine (play_any places v l n Hn.out w hv h1 h2 hsz).mono ?_
  rintro e w1 ⟨vo, vw, rfl, hk1, ho1, hw1⟩
  have hvo := ho1
  obtain ⟨-, ao, ca, rfl, hca, -, -, -⟩ := hvo
  go_wp2_with fail
  refine (ref_play places v l n Hn.out w1 (hv.keep hk1 (fun _ _ h => h)) h1 h2 hsz).mono ?_
  rintro e w2 ⟨vo', vw', rfl, hk2, ho2, hw2⟩
  have hvo := ho2
  obtain ⟨-, ao', ca', rfl, hca', -, -, -⟩ := hvo
  have hs := same_i64 vw vw' _ _ _ _ w2 ((hw1.keep hk2 (fun _ _ h => h)).row (by omega)) (hw2.row (by omega))
  simp only [decide_true] at hs
  have hr1 := (ho1.keep hk2 (fun _ _ h => h)).row (by omega)
  have hr2 := ho2.row (by omega)
  rw [hg] at hr1 hr2
  have hbel : Below w.heap.size w w2 := (hk1.trans hk2 (fun _ _ h => h)).below (Nat.le_refl _) (fun i h => h.elim)
  have hgl : g.length = n := by rw [← hg, MailM.run_length, Hn.out]
  have hm := hr1.2.1
  unfold maxLen at hm
  have Hs := Lib.hid hs
  have Hgl := Lib.hid hgl
  clear hs hgl hg hw1 hw2 ho1 ho2 hk1 hk2
  go_wp2_with fail
  refine Hs.out.mono ?_
  rintro e w3 ⟨rfl, j, rfl⟩
  clear Hs
  go_wp2
  go_loopw [44] (fun i wr => ∃ k : Nat, k ≤ n ∧ i = .int .i64 k ∧ ∃ q, wr = w2.drewN q) (fun i _ => n - (intOf i).toNat)
  case atStart => exact ⟨0, Nat.zero_le _, rfl, j, rfl⟩
  case round =>
    obtain ⟨k, hk, rfl, q, rfl⟩ := hrel
    by_cases hkn : k < n
    · obtain ⟨-, -, ao1, cp1, he1, -, hq1⟩ := id hr1
      obtain ⟨-, -, ao2, cp2, he2, -, hq2⟩ := id hr2
      obtain ⟨b1, o1, rfl, -⟩ := hq1 (by omega)
      obtain ⟨b2, o2, rfl, -⟩ := hq2 (by omega)
      simp only [Value.slice.injEq, true_and] at he1 he2
      obtain ⟨rfl, rfl⟩ := he1
      obtain ⟨rfl, rfl⟩ := he2
      clear hq1 hq2
      have hget := opCells_get g k (by have := Hgl.out; omega)
      have c11 := hr1.cellsAt (k * 2) (by omega)
      have c12 := hr1.cellsAt (k * 2 + 1) (by omega)
      have c21 := hr2.cellsAt (k * 2) (by omega)
      have c22 := hr2.cellsAt (k * 2 + 1) (by omega)
      rw [← Nat.add_assoc] at c12 c22
      rw [hget.1] at c11 c21
      rw [hget.2] at c12 c22
      have i0 : (0 : Int) ≤ (k : Int) := Int.natCast_nonneg _
      have i1 : (k : Int) < (n : Int) := by omega
      clear hget
      generalize g.getD k (false, 0) = o at *
      obtain ⟨x, y⟩ := o
      simp only at c11 c12 c21 c22
      go_wp2
      go_quiet (fail)
      go_wp2
      go_roundw
      case rel => exact ⟨k + 1, by omega, by go_num, q + nq, by simp⟩
      case measure => simp [intOf]; omega
    · obtain rfl : k = n := by omega
      go_wp2
      go_ret
      exact ⟨rfl, below_drewN hbel q⟩

set_option maxRecDepth 100000 in
theorem plays_out (places : Int) (v : Value) (w : World) (h : places < 1 ∨ 20 < places) :
    Calls Try.prog 3 #[.int .i64 places, v] w fun e w' => e = .returned (.bool true) ∧ Below w.heap.size w w' := by
  go_enter Try.func3, Try.ntmps3
  go_wp2_with fail
  refine (play_out places v w h).mono ?_
  rintro e w1 ⟨rfl, rfl⟩
  go_wp2_with fail
  refine (ref_out places v w h).mono ?_
  rintro e w1 ⟨rfl, rfl⟩
  have hs := same_i64 (.slice none 0 0) (.slice none 0 0) 0 0 [] [] w (Own.nil w 0 0 1 |>.row (by omega)) (Own.nil w 0 0 1 |>.row (by omega))
  simp only [decide_true] at hs
  go_wp2_with fail
  refine hs.mono ?_
  rintro e w3 ⟨rfl, j, rfl⟩
  go_wp2
  go_loopw [44] (fun i wr => i = .int .i64 0 ∧ ∃ q, wr = w.drewN q) (fun i _ => 0)
  case atStart => exact ⟨rfl, j, rfl⟩
  case round =>
    obtain ⟨rfl, q, rfl⟩ := hrel
    go_wp2
    go_ret
    exact ⟨rfl, below_drewN (Below.refl _ _) q⟩

end Go.Proofs.Ytninmkkcphnniaa.Mail
