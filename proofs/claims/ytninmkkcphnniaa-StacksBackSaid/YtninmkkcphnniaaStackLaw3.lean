/- The law StacksGauge: its walk. -/
import Derived.Test.YtninmkkcphnniaaStackLaw2
import Derived.BigQuiet
namespace Go.Proofs.Ytninmkkcphnniaa.StackM
set_option linter.unusedVariables false

/-- one doing that goes: how many words then, and that the room is not too much -/
theorem step_gauge {mn mx : Nat} {ws a : List Int} {rm b : Nat} {o : Op} {high : Int} (hi : Inv mn mx ws rm) (hh : (ws.length : Int) ≤ high) (hr : mn < rm → (rm : Int) ≤ 2 * high) (hs : step mn mx ws rm o = .ok (a, b)) :
    (a.length : Int) = (if o.1 = 1 then (ws.length : Int) + 1 else if o.1 = 2 then ws.length - o.2.1 else ws.length) ∧
      (mn < b → (b : Int) ≤ 2 * (if (a.length : Int) > high then (a.length : Int) else high)) := by
  obtain ⟨h1, h2, h3, h4, h5⟩ := hi
  unfold step at hs
  split at hs
  · cases hs
  split at hs
  · rename_i ho
    split at hs
    · cases hs
    · cases hs
      simp only [ho, if_true, List.length_append, List.length_cons, List.length_nil]
      refine ⟨by omega, ?_⟩
      split <;> split <;> omega
  split at hs
  · cases hs
  split at hs
  · rename_i ho1 ho2 ho
    cases hs
    simp only [ho, List.length_take]
    refine ⟨by simp; omega, ?_⟩
    split <;> split <;> omega
  · rename_i ho1 ho2 ho3
    cases hs
    simp only [ho1, ho3, if_false, List.length_set]
    refine ⟨trivial, ?_⟩
    split <;> omega

/-- the run's first doing -/
theorem run_cons_ok {mn mx : Nat} {ws w : List Int} {rm i m : Nat} {o : Op} {r : List Op} {rs : List Nat} (h : run mn mx ws rm i (o :: r) = .ok (w, m, rs)) :
    ∃ a b t, step mn mx ws rm o = .ok (a, b) ∧ rs = b :: t ∧ run mn mx a b (i + 1) r = .ok (w, m, t) := by
  simp only [run] at h
  cases hs : step mn mx ws rm o with
  | error e => rw [hs] at h; cases h
  | ok x =>
    obtain ⟨a, b⟩ := x
    rw [hs] at h
    simp only at h
    cases hq : run mn mx a b (i + 1) r with
    | error e => rw [hq] at h; cases h
    | ok y =>
      obtain ⟨c, d, e⟩ := y
      rw [hq] at h
      cases h
      exact ⟨a, b, e, rfl, rfl, hq⟩
end Go.Proofs.Ytninmkkcphnniaa.StackM
namespace Go.Proofs.Ytninmkkcphnniaa.Stk
open Go.RowKit
set_option linter.unusedVariables false
set_option linter.unusedSimpArgs false

theorem run_err_ne {mn mx : Nat} (l : List StackM.Op) : ∀ {ws : List Int} {rm i : Nat} {e : Int} {j : Nat}, StackM.run mn mx ws rm i l = .error (e, j) → e ≠ 0 := by
  induction l with
  | nil => intro ws rm i e j h; cases h
  | cons o r ih =>
    intro ws rm i e j h
    simp only [StackM.run] at h
    cases hs : StackM.step mn mx ws rm o with
    | error x =>
      rw [hs] at h
      simp only [Except.error.injEq, Prod.mk.injEq] at h
      obtain ⟨rfl, -⟩ := h
      unfold StackM.step at hs
      split at hs
      · cases hs; decide
      split at hs
      · split at hs
        · cases hs; decide
        · cases hs
      split at hs
      · cases hs; decide
      split at hs <;> cases hs
    | ok x =>
      obtain ⟨a, b⟩ := x
      rw [hs] at h
      simp only at h
      cases hq : StackM.run mn mx a b (i + 1) r with
      | error y =>
        rw [hq] at h
        simp only [Except.error.injEq] at h
        subst h
        exact ih hq
      | ok y => rw [hq] at h; obtain ⟨c, d, f⟩ := y; cases h

/-- what Play answers: a fault and nothing, or words and a room for each doing -/
theorem full_cases (mn mx : Int) (l : List StackM.Op) :
    (∃ er i, er ≠ 0 ∧ full mn mx l = (er, i, [], [])) ∨
    (∃ (a b : Nat) (ws : List Int) (m : Nat) (rs : List Nat), mn = a ∧ mx = b ∧ 1 ≤ a ∧ a ≤ b ∧ b ≤ 400 ∧ StackM.run a b [] a 0 l = .ok (ws, m, rs) ∧ full mn mx l = (0, 0, ws, rs.map Int.ofNat)) := by
  unfold full
  split
  · rename_i h
    obtain ⟨a, rfl⟩ := Int.eq_ofNat_of_zero_le (show 0 ≤ mn by omega)
    obtain ⟨b, rfl⟩ := Int.eq_ofNat_of_zero_le (show 0 ≤ mx by omega)
    simp only [Int.toNat_natCast]
    cases hr : StackM.run a b [] a 0 l with
    | error e => obtain ⟨e, j⟩ := e; exact .inl ⟨e, j, run_err_ne l hr, rfl⟩
    | ok x => obtain ⟨ws, m, rs⟩ := x; exact .inr ⟨a, b, ws, m, rs, rfl, rfl, by omega, by omega, by omega, hr, rfl⟩
  · exact .inl ⟨3, 0, by decide, rfl⟩

set_option maxRecDepth 100000 in
set_option maxHeartbeats 1000000 in
theorem gauge_bad (mn mx : Int) (v : Value) (l : List StackM.Op) (n : Nat) (hn : l.length = n) (w : World) (hv : Row w v 3 n (opCells l)) (hsz : n * 24 ≤ 140737488351232) {er i : Int} (he : er ≠ 0) (hf : full mn mx l = (er, i, [], [])) :
    Calls Try.prog 8 #[.int .i64 mn, .int .i64 mx, v] w fun e w' => e = .returned (.bool true) ∧ Below w.heap.size w w' := by
  have Hf := Lib.hid hf
  have Hn := Lib.hid hn
  have d1 : (er != 0) = true := by simpa using he
  clear hf hn he
  go_enter Try.func8, Try.ntmps8
  go_wp2_with fail
  refine (alive_true w).mono ?_
  rintro e w0 ⟨rfl, hk0⟩
  go_wp2_with fail
  refine (play_full mn mx _ l n Hn.out w0 (hv.keep hk0 (fun _ _ h => h)) (by omega) Hf.out).mono ?_
  rintro e w1 ⟨hk1, vw, vr, rfl, hw1, hr1⟩
  obtain ⟨-, ao, ca, rfl, hca, -, -, -⟩ := hr1
  have hkA : Keeps Nil w w1 := hk0.trans hk1 (fun _ _ h => h)
  clear hk0 hk1 hw1 hca
  simp only [flt, List.length_nil]
  go_wp2
  go_ret
  exact ⟨rfl, (hkA.alloc _).below (Nat.le_refl _) (fun i h => h.elim)⟩

set_option maxRecDepth 100000 in
set_option maxHeartbeats 2000000 in
theorem gauge_in (a b : Nat) (v : Value) (l : List StackM.Op) (n : Nat) (hn : l.length = n) (w : World) (hv : Row w v 3 n (opCells l)) (hsz : n * 24 ≤ 140737488351232) (h1 : 1 ≤ a) (h2 : a ≤ b) (h3 : b ≤ 400)
    {ws : List Int} {m : Nat} {rs : List Nat} (hr : StackM.run a b [] a 0 l = .ok (ws, m, rs)) (hf : full a b l = (0, 0, ws, rs.map Int.ofNat)) :
    Calls Try.prog 8 #[.int .i64 a, .int .i64 b, v] w fun e w' => e = .returned (.bool true) ∧ Below w.heap.size w w' := by
  have hrl : rs.length = n := (StackM.run_inv l (show StackM.Inv a b [] a from ⟨h1, h2, by simp, Nat.le_refl _, h2⟩) hr).2.trans hn
  have Hf := Lib.hid hf
  have Hn := Lib.hid hn
  have Hr := Lib.hid hr
  have Hrl := Lib.hid hrl
  clear hf hn hr hrl
  obtain ⟨ai, ci, rfl, hci, hni⟩ := hv.shape
  go_enter Try.func8, Try.ntmps8
  go_wp2_with fail
  refine (alive_true w).mono ?_
  rintro e w0 ⟨rfl, hk0⟩
  go_wp2_with fail
  refine (play_full a b _ l n Hn.out w0 (hv.keep hk0 (fun _ _ h => h)) (by omega) Hf.out).mono ?_
  rintro e w1 ⟨hk1, vw, vr, rfl, hw1, hr1⟩
  have hkA : Keeps Nil w w1 := hk0.trans hk1 (fun _ _ h => h)
  rw [List.length_map, Hrl.out] at hr1
  have hrow := hr1.row (by omega)
  obtain ⟨ar, cr, rfl, hcr, -⟩ := hrow.shape
  clear hk0 hk1 hw1 hr1
  simp only [flt]
  go_wp2
  go_loopw [10, 11, 38] (fun lv hg i wr => ∃ (k rm : Nat) (wk : List Int) (high : Nat), k ≤ n ∧ i = .int .i64 k ∧ lv = .int .i64 wk.length ∧ hg = .int .i64 high ∧ StackM.run a b wk rm k (l.drop k) = .ok (ws, m, rs.drop k) ∧
      StackM.Inv a b wk rm ∧ wk.length ≤ high ∧ (a < rm → rm ≤ 2 * high) ∧ high ≤ b ∧ Keeps Nil w1 wr) (fun _ _ i _ => n - (intOf i).toNat)
  case atStart => exact ⟨0, a, [], 0, Nat.zero_le _, rfl, rfl, rfl, by simpa using Hr.out, ⟨h1, h2, by simp, Nat.le_refl _, h2⟩, by simp, by omega, by omega, (Keeps.refl _ _).alloc _⟩
  case round =>
    obtain ⟨k, rm, wk, high, hk, rfl, rfl, rfl, hrun, hinv, hwh, hrh, hhb, hkw⟩ := hrel
    by_cases hkn : k < n
    · obtain ⟨bi, oi, rfl⟩ := hv.form (by omega)
      obtain ⟨br, oR, rfl⟩ := hrow.form (by omega)
      have hll : k < l.length := by have := Hn.out; omega
      have hlr : k < rs.length := by have := Hrl.out; omega
      have hgi := opCells_get l k hll
      have hvr := (hv.keep hkA (fun _ _ h => h)).keep hkw (fun _ _ h => h)
      have c1 := hvr.cellsAt (k * 3) (by omega)
      have c2 := hvr.cellsAt (k * 3 + 1) (by omega)
      have c3 := hvr.cellsAt (k * 3 + 2) (by omega)
      rw [← Nat.add_assoc] at c2 c3
      rw [hgi.1] at c1
      rw [hgi.2.1] at c2
      rw [hgi.2.2] at c3
      have cr1 := row_ints (hrow.keep hkw (fun _ _ h => h)) k hkn
      have hbr := World.block_lt_of_cell? wr _ cr1
      have edrop : l.drop k = l.getD k (0, 0, 0) :: l.drop (k + 1) := by
        have : l.getD k (0, 0, 0) = l[k] := by simp [List.getD_eq_getElem?_getD, hll]
        rw [this, List.getElem_cons_drop]
      rw [edrop] at hrun
      obtain ⟨wk', rm', t, hs, ht, hrun'⟩ := StackM.run_cons_ok hrun
      have hrk : (rs.map Int.ofNat).getD k 0 = (rm' : Int) := by
        have : rs[k]? = some rm' := by
          have := congrArg (fun x => x[0]?) ht
          simpa using this
        simp [List.getD_eq_getElem?_getD, this]
      have ht' : rs.drop (k + 1) = t := by
        have := congrArg List.tail ht
        simpa using this
      rw [hrk] at cr1
      have hsg := StackM.step_gauge (high := high) hinv (by omega) (by omega) hs
      have hinv' := StackM.step_inv hinv hs
      clear hgi hvr edrop hrun hrk
      generalize l.getD k (0, 0, 0) = o at *
      obtain ⟨kd, nn, vv⟩ := o
      simp only at c1 c2 c3 hsg
      have hi1 := hinv'.2.2.1
      have hi2 := hinv'.2.2.2.1
      have hi3 := hinv'.2.2.2.2
      generalize hP : wk.length = P at *
      generalize hP' : wk'.length = P' at *
      have y1 : decide (rm' < P') = false := by simp; omega
      have y2 : decide (rm' < a) = false := by simp; omega
      have y3 : decide (b < rm') = false := by simp; omega
      have fin : ∀ H' : Nat, P' ≤ H' → (a < rm' → rm' ≤ 2 * H') → H' ≤ b → ∀ w', Keeps Nil w1 w' → ∃ (k' r : Nat) (q : List Int) (h : Nat), k' ≤ n ∧ Value.int .i64 ((k : Int) + 1) = .int .i64 k' ∧ Value.int .i64 (P' : Int) = .int .i64 q.length ∧ Value.int .i64 (H' : Int) = .int .i64 h ∧ StackM.run a b q r k' (l.drop k') = .ok (ws, m, rs.drop k') ∧
          StackM.Inv a b q r ∧ q.length ≤ h ∧ (a < r → r ≤ 2 * h) ∧ h ≤ b ∧ Keeps Nil w1 w' := fun H' g1 g2 g3 w' g4 =>
        ⟨k + 1, rm', wk', H', by omega, by go_num, by rw [hP'], rfl, by rw [ht']; exact hrun', hinv', by rw [hP']; exact g1, g2, g3, g4⟩
      have Fin := Lib.hid fin
      clear fin hP hP' ht ht' hrun' hinv hinv' hs
      obtain ⟨hsg1, hsg2⟩ := hsg
      by_cases hk1 : kd = 1
      · subst hk1
        rw [if_pos rfl] at hsg1
        have em : (P : Int) + 1 = (P' : Int) := hsg1.symm
        by_cases z1 : high < P'
        · have y4 : decide (high < P') = true := by simpa using z1
          rw [if_pos (by omega)] at hsg2
          by_cases z2 : a < rm'
          · have y5 : decide (a < rm') = true := by simpa using z2
            have y6 : decide (2 * (P' : Int) < (rm' : Int)) = false := by simp; omega
            have F := Fin.out P' (by omega) (by omega) (by omega)
            have FF := Lib.hid F
            clear F hsg1 hsg2 z1 z2 hrh
            go_wp2
            go_roundw
            case rel => exact FF.out _ (by repeat (first | with_reducible exact hkw | with_reducible refine Keeps.alloc ?_ _ | with_reducible refine Keeps.drew ?_ | with_reducible refine Keeps.drewN ?_ _))
            case measure => simp [intOf]; omega
          · have y5 : decide (a < rm') = false := by simpa using z2
            have F := Fin.out P' (by omega) (by omega) (by omega)
            have FF := Lib.hid F
            clear F hsg1 hsg2 z1 z2 hrh
            go_wp2
            go_roundw
            case rel => exact FF.out _ (by repeat (first | with_reducible exact hkw | with_reducible refine Keeps.alloc ?_ _ | with_reducible refine Keeps.drew ?_ | with_reducible refine Keeps.drewN ?_ _))
            case measure => simp [intOf]; omega
        · have y4 : decide (high < P') = false := by simpa using z1
          rw [if_neg (by omega)] at hsg2
          by_cases z2 : a < rm'
          · have y5 : decide (a < rm') = true := by simpa using z2
            have y6 : decide (2 * (high : Int) < (rm' : Int)) = false := by simp; omega
            have F := Fin.out high (by omega) (by omega) (by omega)
            have FF := Lib.hid F
            clear F hsg1 hsg2 z1 z2 hrh
            go_wp2
            go_roundw
            case rel => exact FF.out _ (by repeat (first | with_reducible exact hkw | with_reducible refine Keeps.alloc ?_ _ | with_reducible refine Keeps.drew ?_ | with_reducible refine Keeps.drewN ?_ _))
            case measure => simp [intOf]; omega
          · have y5 : decide (a < rm') = false := by simpa using z2
            have F := Fin.out high (by omega) (by omega) (by omega)
            have FF := Lib.hid F
            clear F hsg1 hsg2 z1 z2 hrh
            go_wp2
            go_roundw
            case rel => exact FF.out _ (by repeat (first | with_reducible exact hkw | with_reducible refine Keeps.alloc ?_ _ | with_reducible refine Keeps.drew ?_ | with_reducible refine Keeps.drewN ?_ _))
            case measure => simp [intOf]; omega
      have x1 : (kd == 1) = false := by simpa using hk1
      rw [if_neg hk1] at hsg1
      by_cases hk2 : kd = 2
      · subst hk2
        rw [if_pos rfl] at hsg1
        have em : (P : Int) - nn = (P' : Int) := hsg1.symm
        by_cases z1 : high < P'
        · have y4 : decide (high < P') = true := by simpa using z1
          rw [if_pos (by omega)] at hsg2
          by_cases z2 : a < rm'
          · have y5 : decide (a < rm') = true := by simpa using z2
            have y6 : decide (2 * (P' : Int) < (rm' : Int)) = false := by simp; omega
            have F := Fin.out P' (by omega) (by omega) (by omega)
            have FF := Lib.hid F
            clear F hsg1 hsg2 z1 z2 hrh
            go_wp2
            go_roundw
            case rel => exact FF.out _ (by repeat (first | with_reducible exact hkw | with_reducible refine Keeps.alloc ?_ _ | with_reducible refine Keeps.drew ?_ | with_reducible refine Keeps.drewN ?_ _))
            case measure => simp [intOf]; omega
          · have y5 : decide (a < rm') = false := by simpa using z2
            have F := Fin.out P' (by omega) (by omega) (by omega)
            have FF := Lib.hid F
            clear F hsg1 hsg2 z1 z2 hrh
            go_wp2
            go_roundw
            case rel => exact FF.out _ (by repeat (first | with_reducible exact hkw | with_reducible refine Keeps.alloc ?_ _ | with_reducible refine Keeps.drew ?_ | with_reducible refine Keeps.drewN ?_ _))
            case measure => simp [intOf]; omega
        · have y4 : decide (high < P') = false := by simpa using z1
          rw [if_neg (by omega)] at hsg2
          by_cases z2 : a < rm'
          · have y5 : decide (a < rm') = true := by simpa using z2
            have y6 : decide (2 * (high : Int) < (rm' : Int)) = false := by simp; omega
            have F := Fin.out high (by omega) (by omega) (by omega)
            have FF := Lib.hid F
            clear F hsg1 hsg2 z1 z2 hrh
            go_wp2
            go_roundw
            case rel => exact FF.out _ (by repeat (first | with_reducible exact hkw | with_reducible refine Keeps.alloc ?_ _ | with_reducible refine Keeps.drew ?_ | with_reducible refine Keeps.drewN ?_ _))
            case measure => simp [intOf]; omega
          · have y5 : decide (a < rm') = false := by simpa using z2
            have F := Fin.out high (by omega) (by omega) (by omega)
            have FF := Lib.hid F
            clear F hsg1 hsg2 z1 z2 hrh
            go_wp2
            go_roundw
            case rel => exact FF.out _ (by repeat (first | with_reducible exact hkw | with_reducible refine Keeps.alloc ?_ _ | with_reducible refine Keeps.drew ?_ | with_reducible refine Keeps.drewN ?_ _))
            case measure => simp [intOf]; omega
      have x2 : (kd == 2) = false := by simpa using hk2
      rw [if_neg hk2] at hsg1
      obtain rfl : P' = P := by omega
      by_cases z1 : high < P'
      · have y4 : decide (high < P') = true := by simpa using z1
        rw [if_pos (by omega)] at hsg2
        by_cases z2 : a < rm'
        · have y5 : decide (a < rm') = true := by simpa using z2
          have y6 : decide (2 * (P' : Int) < (rm' : Int)) = false := by simp; omega
          have F := Fin.out P' (by omega) (by omega) (by omega)
          have FF := Lib.hid F
          clear F hsg1 hsg2 z1 z2 hrh
          go_wp2
          go_roundw
          case rel => exact FF.out _ (by repeat (first | with_reducible exact hkw | with_reducible refine Keeps.alloc ?_ _ | with_reducible refine Keeps.drew ?_ | with_reducible refine Keeps.drewN ?_ _))
          case measure => simp [intOf]; omega
        · have y5 : decide (a < rm') = false := by simpa using z2
          have F := Fin.out P' (by omega) (by omega) (by omega)
          have FF := Lib.hid F
          clear F hsg1 hsg2 z1 z2 hrh
          go_wp2
          go_roundw
          case rel => exact FF.out _ (by repeat (first | with_reducible exact hkw | with_reducible refine Keeps.alloc ?_ _ | with_reducible refine Keeps.drew ?_ | with_reducible refine Keeps.drewN ?_ _))
          case measure => simp [intOf]; omega
      · have y4 : decide (high < P') = false := by simpa using z1
        rw [if_neg (by omega)] at hsg2
        by_cases z2 : a < rm'
        · have y5 : decide (a < rm') = true := by simpa using z2
          have y6 : decide (2 * (high : Int) < (rm' : Int)) = false := by simp; omega
          have F := Fin.out high (by omega) (by omega) (by omega)
          have FF := Lib.hid F
          clear F hsg1 hsg2 z1 z2 hrh
          go_wp2
          go_roundw
          case rel => exact FF.out _ (by repeat (first | with_reducible exact hkw | with_reducible refine Keeps.alloc ?_ _ | with_reducible refine Keeps.drew ?_ | with_reducible refine Keeps.drewN ?_ _))
          case measure => simp [intOf]; omega
        · have y5 : decide (a < rm') = false := by simpa using z2
          have F := Fin.out high (by omega) (by omega) (by omega)
          have FF := Lib.hid F
          clear F hsg1 hsg2 z1 z2 hrh
          go_wp2
          go_roundw
          case rel => exact FF.out _ (by repeat (first | with_reducible exact hkw | with_reducible refine Keeps.alloc ?_ _ | with_reducible refine Keeps.drew ?_ | with_reducible refine Keeps.drewN ?_ _))
          case measure => simp [intOf]; omega
    · obtain rfl : k = n := by omega
      go_wp2
      go_ret
      exact ⟨rfl, (hkA.trans hkw (fun _ _ h => h)).below (Nat.le_refl _) (fun i h => h.elim)⟩
end Go.Proofs.Ytninmkkcphnniaa.Stk
