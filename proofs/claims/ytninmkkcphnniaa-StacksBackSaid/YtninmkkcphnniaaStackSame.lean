/- The references' comparison of lists of ints; stacks.Play and the document's answer where the bounds are wrong; the law's guard 'alive'. -/
import Derived.Test.YtninmkkcphnniaaSame
import Derived.Test.YtninmkkcphnniaaStackPlay
namespace Go.Proofs.Ytninmkkcphnniaa
open Go.RowKit
set_option linter.unusedVariables false
set_option linter.unusedSimpArgs false

set_option maxHeartbeats 400000 in
theorem same_ints (a b : Value) (n m : Nat) (xs ys : List Int) (w : World) (ha : Row w a 1 n (xs.map (Value.int .i64))) (hb : Row w b 1 m (ys.map (Value.int .i64))) :
    Calls Try.prog 20 #[a, b] w fun e w' => e = .returned (.bool (decide (xs = ys))) ∧ ∃ k, w' = w.drewN k := by
  have ha0 := ha
  have hb0 := hb
  obtain ⟨la, ma, ao, ca, rfl, hca, hao⟩ := ha
  obtain ⟨lb, mb, bo, cb, rfl, hcb, hbo⟩ := hb
  simp at la lb
  unfold maxLen at ma mb
  by_cases hnm : n = m
  · subst hnm
    have hb1 : ((n : Int) != (n : Int)) = false := by simp
    go_enter Try.func20, Try.ntmps20
    go_wp2
    go_loopw [13] (fun i wr => ∃ k : Nat, k ≤ n ∧ i = .int .i64 k ∧ xs.take k = ys.take k ∧ ∃ q, wr = w.drewN q) (fun i _ => n - (intOf i).toNat)
    case atStart => exact ⟨0, Nat.zero_le _, rfl, by simp, 0, rfl⟩
    case round =>
      obtain ⟨k, hk, rfl, hpre, q, rfl⟩ := hrel
      by_cases hkn : k < n
      · obtain ⟨ba, oa, rfl, -⟩ := hao (by omega)
        obtain ⟨bb, ob, rfl, -⟩ := hbo (by omega)
        clear hao hbo
        have c1 := row_ints ha0 k hkn
        have c2 := row_ints hb0 k hkn
        have i0 : (0 : Int) ≤ (k : Int) := Int.natCast_nonneg _
        have i1 : (k : Int) < (n : Int) := by omega
        by_cases he : xs.getD k 0 = ys.getD k 0
        · have hx := take_ext 0 hpre (by omega) (by omega) he
          have hne : (xs.getD k 0 != ys.getD k 0) = false := by rw [he]; simp
          generalize xs.getD k 0 = x at *
          generalize ys.getD k 0 = y at *
          have He := Lib.hid he
          have Hx := Lib.hid hx
          clear he hx hpre
          go_wp2
          go_quiet (fail)
          go_wp2
          go_roundw
          case rel => exact ⟨k + 1, by omega, by go_num, Hx.out, q + nq, by simp⟩
          case measure => simp [intOf]; omega
        · have hne : (xs.getD k 0 != ys.getD k 0) = true := by simpa using he
          have hxy : xs ≠ ys := fun e => he (by rw [e])
          generalize xs.getD k 0 = x at *
          generalize ys.getD k 0 = y at *
          have Hxy := Lib.hid hxy
          clear he hpre hxy
          go_wp2
          go_quiet (fail)
          go_wp2
          go_ret
          exact ⟨by simp [Hxy.out], q + nq, by simp⟩
      · obtain rfl : k = n := by omega
        have hxy : xs = ys := by rwa [List.take_of_length_le (by omega), List.take_of_length_le (by omega)] at hpre
        have Hxy := Lib.hid hxy
        clear hpre hxy
        go_wp2
        go_ret
        exact ⟨by simp [Hxy.out], _, rfl⟩
  · have hb1 : ((n : Int) != (m : Int)) = true := by rw [bne_iff_ne]; omega
    have hxy : xs ≠ ys := fun e => hnm (by rw [← la, ← lb, e])
    have Hxy := Lib.hid hxy
    clear hxy
    go_enter Try.func20, Try.ntmps20
    go_wp2
    go_ret
    exact ⟨by simp [Hxy.out], 0, rfl⟩


namespace Stk

set_option maxHeartbeats 400000 in
theorem play_out (mn mx : Int) (v : Value) (w : World) (h : mn < 1 ∨ mx < mn ∨ 400 < mx) :
    Calls Try.prog 18 #[.int .i64 mn, .int .i64 mx, v] w fun e w' => e = .returned (.tuple #[.slice none 0 0, .slice none 0 0, flt 3 0]) ∧ Keeps Nil w w' := by
  by_cases h1 : mn < 1
  · have hd1 : decide (mn < 1) = true := by simpa using h1
    go_enter Try.func18, Try.ntmps18
    go_wp2
    refine bodyPost_ret (v := .tuple #[.slice none 0 0, .slice none 0 0, flt 3 0]) (by simp [results, Try.results18, go_sem, flt]) rfl ⟨rfl, (Keeps.refl _ _).alloc _⟩
  have hd1 : decide (mn < 1) = false := by simp; omega
  by_cases h2 : mx < mn
  · have hd2 : decide (mx < mn) = true := by simpa using h2
    go_enter Try.func18, Try.ntmps18
    go_wp2
    refine bodyPost_ret (v := .tuple #[.slice none 0 0, .slice none 0 0, flt 3 0]) (by simp [results, Try.results18, go_sem, flt]) rfl ⟨rfl, (Keeps.refl _ _).alloc _⟩
  have hd2 : decide (mx < mn) = false := by simp; omega
  have hd3 : decide (400 < mx) = true := by simp; omega
  go_enter Try.func18, Try.ntmps18
  go_wp2
  refine bodyPost_ret (v := .tuple #[.slice none 0 0, .slice none 0 0, flt 3 0]) (by simp [results, Try.results18, go_sem, flt]) rfl ⟨rfl, (Keeps.refl _ _).alloc _⟩

set_option maxHeartbeats 400000 in
theorem ref_out (mn mx : Int) (v : Value) (w : World) (h : mn < 1 ∨ mx < mn ∨ 400 < mx) :
    Calls Try.prog 19 #[.int .i64 mn, .int .i64 mx, v] w fun e w' => e = .returned (.tuple #[.slice none 0 0, .slice none 0 0, flt 3 0]) ∧ Keeps Nil w w' := by
  by_cases h1 : mn < 1
  · have hd1 : decide (mn < 1) = true := by simpa using h1
    go_enter Try.func19, Try.ntmps19
    go_wp2
    refine bodyPost_ret (v := .tuple #[.slice none 0 0, .slice none 0 0, flt 3 0]) (by simp [results, Try.results19, go_sem, flt]) rfl ⟨rfl, (Keeps.refl _ _).alloc _⟩
  have hd1 : decide (mn < 1) = false := by simp; omega
  by_cases h2 : mx < mn
  · have hd2 : decide (mx < mn) = true := by simpa using h2
    go_enter Try.func19, Try.ntmps19
    go_wp2
    refine bodyPost_ret (v := .tuple #[.slice none 0 0, .slice none 0 0, flt 3 0]) (by simp [results, Try.results19, go_sem, flt]) rfl ⟨rfl, (Keeps.refl _ _).alloc _⟩
  have hd2 : decide (mx < mn) = false := by simp; omega
  have hd3 : decide (400 < mx) = true := by simp; omega
  go_enter Try.func19, Try.ntmps19
  go_wp2
  refine bodyPost_ret (v := .tuple #[.slice none 0 0, .slice none 0 0, flt 3 0]) (by simp [results, Try.results19, go_sem, flt]) rfl ⟨rfl, (Keeps.refl _ _).alloc _⟩

set_option maxRecDepth 100000 in
set_option maxHeartbeats 400000 in
theorem alive_true (w : World) : Calls Try.prog 21 #[] w fun e w' => e = .returned (.bool true) ∧ Keeps Nil w w' := by
  go_enter Try.func21, Try.ntmps21
  go_wp2_with fail
  refine (play_any 1 4 _ [(1, 0, 7), (1, 0, 8)] 2 rfl _ (Row.of_blk (size := 3) (n := 2) (cs := #[.int .i64 1, .int .i64 0, .int .i64 7, .int .i64 1, .int .i64 0, .int .i64 8]) (Blk.new' (by simp)) rfl (by decide)) (by decide) (by decide) (by decide) (by decide)).mono ?_
  rintro e w1 ⟨hk, ha⟩
  have hr : StackM.run 1 4 [] 1 0 [(1, 0, 7), (1, 0, 8)] = .ok ([7, 8], 2, [1, 2]) := by rfl
  rw [hr] at ha
  obtain ⟨vw, vr, rfl, hw, ho⟩ := ha
  have hwr : Row w1 vw 1 2 [.int .i64 7, .int .i64 8] := hw.row (by omega)
  have hor : Row w1 vr 1 2 [.int .i64 1, .int .i64 2] := ho.row (by omega)
  clear hw ho
  obtain ⟨aw, cw, rfl, -, -⟩ := hwr.shape
  obtain ⟨ar, cr, rfl, -, -⟩ := hor.shape
  obtain ⟨bw, ow, rfl⟩ := hwr.form (by omega)
  obtain ⟨br, oR, rfl⟩ := hor.form (by omega)
  have c1 := hwr.cellsAt 1 (by omega)
  have c2 := hor.cellsAt 1 (by omega)
  simp [nats] at c1 c2
  have hb1 : bw < w1.heap.size := World.block_lt_of_cell? w1 _ c1
  have hb2 : br < w1.heap.size := World.block_lt_of_cell? w1 _ c2
  clear hwr hor hr
  go_wp2
  go_ret
  exact ⟨rfl, (((Keeps.refl _ _).alloc _).trans hk (fun _ _ h => h)).alloc _⟩
end Stk
end Go.Proofs.Ytninmkkcphnniaa
