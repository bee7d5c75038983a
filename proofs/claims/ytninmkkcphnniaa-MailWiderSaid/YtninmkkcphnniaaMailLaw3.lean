/- The law MailWider: its walk. -/
import Derived.Test.YtninmkkcphnniaaMailLaw2
namespace Go.Proofs.Ytninmkkcphnniaa.Mail
open Go.RowKit
set_option linter.unusedVariables false

set_option maxRecDepth 100000 in
set_option maxHeartbeats 2000000 in
theorem wider_out (places more : Int) (v : Value) (w : World) (hb1 : -9223372036854775808 ≤ places ∧ places ≤ 9223372036854775807) (h : places < 1 ∨ more < 0 ∨ 20 < places ∨ 20 - places < more) :
    Calls Try.prog 5 #[.int .i64 places, .int .i64 more, v] w fun e w' => e = .returned (.bool true) ∧ Below w.heap.size w w' := by
  have key : ∀ w1 : World, Keeps Nil w w1 → Below w.heap.size w w1 := fun w1 hk1 => hk1.below (Nat.le_refl _) (fun _ h => h.elim)
  by_cases h1 : places < 1
  · have d1 : decide (places < 1) = true := by simpa using h1
    clear h
    go_enter Try.func5, Try.ntmps5
    go_wp2_with fail
    refine (alive_true w).mono ?_
    rintro e w1 ⟨rfl, hk1⟩
    have hf := key w1 hk1
    go_wp2
    go_ret
    exact ⟨rfl, hf⟩
  have d1 : decide (places < 1) = false := by simpa using h1
  by_cases h2 : more < 0
  · have d2 : decide (more < 0) = true := by simpa using h2
    clear h
    go_enter Try.func5, Try.ntmps5
    go_wp2_with fail
    refine (alive_true w).mono ?_
    rintro e w1 ⟨rfl, hk1⟩
    have hf := key w1 hk1
    go_wp2
    go_ret
    exact ⟨rfl, hf⟩
  have d2 : decide (more < 0) = false := by simpa using h2
  by_cases h3 : 20 < places
  · have d3 : decide (20 < places) = true := by simpa using h3
    clear h
    go_enter Try.func5, Try.ntmps5
    go_wp2_with fail
    refine (alive_true w).mono ?_
    rintro e w1 ⟨rfl, hk1⟩
    have hf := key w1 hk1
    go_wp2
    go_ret
    exact ⟨rfl, hf⟩
  have d3 : decide (20 < places) = false := by simpa using h3
  have h4 : 20 - places < more := by omega
  have d4 : decide (20 - places < more) = true := by simpa using h4
  clear h
  go_enter Try.func5, Try.ntmps5
  go_wp2_with fail
  refine (alive_true w).mono ?_
  rintro e w1 ⟨rfl, hk1⟩
  have hf := key w1 hk1
  go_wp2
  go_ret
  exact ⟨rfl, hf⟩

set_option maxRecDepth 100000 in
set_option maxHeartbeats 2000000 in
theorem wider_in (places more : Int) (v : Value) (l : List (Bool × Int)) (n : Nat) (hn : l.length = n) (w : World) (hv : Row w v 2 n (opCells l)) (hsz : n * 16 ≤ 140737488351232) (hvb : ∀ b, v.ownBlock = some b → 0 < n → b < w.heap.size)
    (h1 : 1 ≤ places) (h2 : places ≤ 20) (h3 : 0 ≤ more) (h4 : more ≤ 20 - places) :
    Calls Try.prog 5 #[.int .i64 places, .int .i64 more, v] w fun e w' => e = .returned (.bool true) ∧ Below w.heap.size w w' := by
  have Hn := Lib.hid hn
  clear hn
  obtain ⟨ai, ci, rfl, hci, hni⟩ := hv.shape
  have d1 : decide (places < 1) = false := by simpa using h1
  have d2 : decide (more < 0) = false := by simpa using h3
  have d3 : decide (20 < places) = false := by simpa using h2
  have d4 : decide (20 - places < more) = false := by simpa using h4
  go_enter Try.func5, Try.ntmps5
  go_wp2_with fail
  refine (alive_true w).mono ?_
  rintro e w1 ⟨rfl, hk1⟩
  have hv1 := hv.keep hk1 (fun _ _ h => h)
  go_wp2_with fail
  refine (play_any places _ l n Hn.out w1 hv1 h1 h2 hsz).mono ?_
  rintro e w2 ⟨va, vp, rfl, hk2, ha2, hp2⟩
  have hv2 := hv1.keep hk2 (fun _ _ h => h)
  have hsh := (ha2.row (by omega)).shape
  obtain ⟨aa, ca, rfl, hca, -⟩ := hsh
  go_wp2_with fail
  refine (play_any (places + more) _ l n Hn.out w2 hv2 (by omega) (by omega) hsz).mono ?_
  rintro e w3 ⟨vb, vq, rfl, hk3, hb3, hq3⟩
  have hi := hv2.keep hk3 (fun _ _ h => h)
  have ha := (ha2.keep hk3 (fun _ _ h => h)).row (by omega)
  have hp := (hp2.keep hk3 (fun _ _ h => h)).row (by omega)
  have hb := hb3.row (by omega)
  have hq := hq3.row (by omega)
  obtain ⟨ab, cb, rfl, hcb, -⟩ := hb.shape
  have hrun := MailM.wider_run places.toNat (places + more).toNat (by omega) l []
  have la : (MailM.run places.toNat [] l).1.length = l.length := MailM.run_length _ _ _
  have lb : (MailM.run (places + more).toNat [] l).1.length = l.length := MailM.run_length _ _ _
  generalize (MailM.run places.toNat [] l).1 = ga at *
  generalize (MailM.run (places + more).toNat [] l).1 = gb at *
  generalize (MailM.run places.toNat [] l).2 = qa at *
  generalize (MailM.run (places + more).toNat [] l).2 = qb at *
  have hbel : Below w.heap.size w w3 := ((hk1.trans hk2 (fun _ _ h => h)).trans hk3 (fun _ _ h => h)).below (Nat.le_refl _) (fun _ h => h.elim)
  have hsome : ∃ r, MailM.wider true l ga gb = some r := by
    rcases hrun with h | ⟨h, -⟩
    · exact ⟨_, h⟩
    · exact ⟨_, h⟩
  obtain ⟨r, hsome⟩ := hsome
  have Hsome := Lib.hid hsome
  clear hsome
  have Hrun := Lib.hid hrun
  have La := Lib.hid la
  have Lb := Lib.hid lb
  clear hrun la lb hk1 hk2 hk3 hv hv1 hv2 ha2 hb3 hp2 hq3
  go_wp2
  go_loopw [13, 72] (fun vs i wr => ∃ (k : Nat) (sb : Bool), k ≤ n ∧ i = .int .i64 k ∧ vs = .bool sb ∧ Keeps Nil w3 wr ∧ MailM.wider true (l.take k) (ga.take k) (gb.take k) = some sb) (fun _ i _ => n - (intOf i).toNat)
  case atStart => exact ⟨0, true, Nat.zero_le _, rfl, rfl, Keeps.refl _ _, by simp [MailM.wider]⟩
  case round =>
    obtain ⟨k, sb, hk, rfl, rfl, hkw, hwid⟩ := hrel
    by_cases hkn : k < n
    · obtain ⟨bi, oi, rfl⟩ := hi.form (by omega)
      obtain ⟨ba, oa, rfl⟩ := ha.form (by omega)
      obtain ⟨bb, ob, rfl⟩ := hb.form (by omega)
      have hll : k < l.length := by have := Hn.out; omega
      have hal : k < ga.length := by have := La.out; omega
      have hbl : k < gb.length := by have := Lb.out; omega
      have hgi := opCells_get l k hll
      have hga := opCells_get ga k hal
      have hgb := opCells_get gb k hbl
      have c1 := (hi.keep hkw (fun _ _ h => h)).cellsAt (k * 2) (by omega)
      have c2 := (hi.keep hkw (fun _ _ h => h)).cellsAt (k * 2 + 1) (by omega)
      have c3 := (ha.keep hkw (fun _ _ h => h)).cellsAt (k * 2) (by omega)
      have c4 := (ha.keep hkw (fun _ _ h => h)).cellsAt (k * 2 + 1) (by omega)
      have c5 := (hb.keep hkw (fun _ _ h => h)).cellsAt (k * 2) (by omega)
      have c6 := (hb.keep hkw (fun _ _ h => h)).cellsAt (k * 2 + 1) (by omega)
      rw [← Nat.add_assoc] at c2 c4 c6
      rw [hgi.1] at c1
      rw [hgi.2] at c2
      rw [hga.1] at c3
      rw [hga.2] at c4
      rw [hgb.1] at c5
      rw [hgb.2] at c6
      have hla := World.block_lt_of_cell? wr _ c3
      have hlb := World.block_lt_of_cell? wr _ c5
      have hround := MailM.wider_round hll La.out Lb.out Hsome.out hwid
      have i0 : (0 : Int) ≤ (k : Int) := Int.natCast_nonneg _
      have i1 : (k : Int) < (n : Int) := by omega
      clear hgi hga hgb hwid
      generalize l.getD k (false, 0) = o at *
      generalize ga.getD k (false, 0) = x at *
      generalize gb.getD k (false, 0) = y at *
      obtain ⟨o1, o2⟩ := o
      obtain ⟨x1, x2⟩ := x
      obtain ⟨y1, y2⟩ := y
      simp only at c1 c2 c3 c4 c5 c6 hround
      have Hround := Lib.hid hround
      clear hround
      cases sb with
      | false =>
        go_wp2
        go_quiet (fail)
        go_wp2
        go_roundw
        case rel => exact ⟨k + 1, false, by omega, by go_num, rfl, (hkw.alloc _).drewN _, by simpa using Hround.out.2⟩
        case measure => simp [intOf]; omega
      | true =>
        by_cases hxy : (x1, x2) = (y1, y2)
        · simp only [Prod.mk.injEq] at hxy
          obtain ⟨rfl, rfl⟩ := hxy
          go_wp2
          go_quiet (fail)
          go_wp2
          go_roundw
          case rel => exact ⟨k + 1, true, by omega, by go_num, rfl, (hkw.alloc _).drewN _, by simpa using Hround.out.2⟩
          case measure => simp [intOf]; omega
        · obtain ⟨rfl, rfl, rfl⟩ := Hround.out.1 rfl hxy
          have Hxy := Lib.hid hxy
          clear hxy
          go_wp2
          go_quiet (fail)
          go_wp2
          go_roundw
          case rel => exact ⟨k + 1, false, by omega, by go_num, rfl, (hkw.alloc _).drewN _, by simpa using Hround.out.2⟩
          case measure => simp [intOf]; omega
    · obtain rfl : k = n := by omega
      rw [List.take_of_length_le (by have := Hn.out; omega), List.take_of_length_le (by have := Hn.out; have := La.out; omega), List.take_of_length_le (by have := Hn.out; have := Lb.out; omega)] at hwid
      have hfin := hbel.trans (hkw.below (Nat.le_refl _) (fun _ h => h.elim) |>.mono hbel.size)
      cases sb with
      | false =>
        clear hwid
        go_wp2
        go_ret
        exact ⟨rfl, hfin⟩
      | true =>
        have hqe : qa = qb := by
          rcases Hrun.out with h | ⟨-, h⟩
          · rw [h] at hwid; cases hwid
          · exact h
        subst hqe
        have hsm := same_i64 vp vq _ _ _ _ wr (hp.keep hkw (fun _ _ h => h)) (hq.keep hkw (fun _ _ h => h))
        simp only [decide_true] at hsm
        have Hsm := Lib.hid hsm
        clear hwid hsm
        go_wp2_with fail
        refine Hsm.out.mono ?_
        rintro e w4 ⟨rfl, j, rfl⟩
        clear Hsm
        go_wp2
        go_ret
        exact ⟨rfl, below_drewN hfin j⟩

end Go.Proofs.Ytninmkkcphnniaa.Mail
