/- The references' comparisons of lists of numbers. -/
import Derived.Test.YtninmkkcphnniaaProg
import Derived.Test.YtninmkkcphnniaaOwn
namespace Go.Proofs.Ytninmkkcphnniaa
open Go.RowKit
set_option linter.unusedVariables false

theorem row_ints {k : IntKind} {w : World} {b off n cap : Nat} {zs : List Int} (h : Row w (.slice (some ⟨b, off, none⟩) n cap) 1 n (zs.map (Value.int k))) (j : Nat) (hj : j < n) : w.cell? ⟨b, off + j, none⟩ = some (.int k (zs.getD j 0)) := by
  have hl := h.1
  simp at hl
  rw [h.cellsAt j (by omega)]
  simp [List.getD_eq_getElem?_getD, show j < zs.length by omega]

theorem take_ext {α : Type} {xs ys : List α} {k : Nat} (d : α) (h : xs.take k = ys.take k) (hx : k < xs.length) (hy : k < ys.length) (e : xs.getD k d = ys.getD k d) : xs.take (k + 1) = ys.take (k + 1) := by
  rw [List.take_succ_eq_append_getElem hx, List.take_succ_eq_append_getElem hy, h]
  simp [List.getD_eq_getElem?_getD, hx, hy] at e
  rw [e]

set_option maxHeartbeats 400000 in
theorem same_i64 (a b : Value) (n m : Nat) (xs ys : List Int) (w : World) (ha : Row w a 1 n (xs.map (Value.int .i64))) (hb : Row w b 1 m (ys.map (Value.int .i64))) :
    Calls Try.prog 16 #[a, b] w fun e w' => e = .returned (.bool (decide (xs = ys))) ∧ ∃ k, w' = w.drewN k := by
  have ha0 := ha
  have hb0 := hb
  obtain ⟨la, ma, ao, ca, rfl, hca, hao⟩ := ha
  obtain ⟨lb, mb, bo, cb, rfl, hcb, hbo⟩ := hb
  simp at la lb
  unfold maxLen at ma mb
  by_cases hnm : n = m
  · subst hnm
    have hb1 : ((n : Int) != (n : Int)) = false := by simp
    go_enter Try.func16, Try.ntmps16
    go_wp2
    go_loopw [13] (fun i wr => ∃ k : Nat, k ≤ n ∧ i = .int .i64 k ∧ xs.take k = ys.take k ∧ ∃ q, wr = w.drewN q) (fun i _ => n - (intOf i).toNat)
    case atStart => exact ⟨0, Nat.zero_le _, rfl, by simp, 0, rfl⟩
    case round =>
      obtain ⟨k, hk, rfl, hpre, q, rfl⟩ := hrel
      by_cases hkn : k < n
      · obtain ⟨ba, oa, rfl, -⟩ := hao (by omega)
        obtain ⟨bb, ob, rfl, -⟩ := hbo (by omega)
        clear hao hbo
        have c1 := row_ints ha0 k hkn
        have c2 := row_ints hb0 k hkn
        have i0 : (0 : Int) ≤ (k : Int) := Int.natCast_nonneg _
        have i1 : (k : Int) < (n : Int) := by omega
        by_cases he : xs.getD k 0 = ys.getD k 0
        · have hx := take_ext 0 hpre (by omega) (by omega) he
          have hne : (xs.getD k 0 != ys.getD k 0) = false := by rw [he]; simp
          generalize xs.getD k 0 = x at *
          generalize ys.getD k 0 = y at *
          have He := Lib.hid he
          have Hx := Lib.hid hx
          clear he hx hpre
          go_wp2
          go_quiet (fail)
          go_wp2
          go_roundw
          case rel => exact ⟨k + 1, by omega, by go_num, Hx.out, q + nq, by simp⟩
          case measure => simp [intOf]; omega
        · have hne : (xs.getD k 0 != ys.getD k 0) = true := by simpa using he
          have hxy : xs ≠ ys := fun e => he (by rw [e])
          generalize xs.getD k 0 = x at *
          generalize ys.getD k 0 = y at *
          have Hxy := Lib.hid hxy
          clear he hpre hxy
          go_wp2
          go_quiet (fail)
          go_wp2
          go_ret
          exact ⟨by simp [Hxy.out], q + nq, by simp⟩
      · obtain rfl : k = n := by omega
        have hxy : xs = ys := by rwa [List.take_of_length_le (by omega), List.take_of_length_le (by omega)] at hpre
        have Hxy := Lib.hid hxy
        clear hpre hxy
        go_wp2
        go_ret
        exact ⟨by simp [Hxy.out], _, rfl⟩
  · have hb1 : ((n : Int) != (m : Int)) = true := by rw [bne_iff_ne]; omega
    have hxy : xs ≠ ys := fun e => hnm (by rw [← la, ← lb, e])
    have Hxy := Lib.hid hxy
    clear hxy
    go_enter Try.func16, Try.ntmps16
    go_wp2
    go_ret
    exact ⟨by simp [Hxy.out], 0, rfl⟩

end Go.Proofs.Ytninmkkcphnniaa
