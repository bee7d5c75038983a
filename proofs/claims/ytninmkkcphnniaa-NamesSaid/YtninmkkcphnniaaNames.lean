/- yieldtop.Names: its walk. -/
import Derived.Test.YtninmkkcphnniaaProg
import Derived.Test.YtninmkkcphnniaaOwn
import Derived.Test.YtninmkkcphnniaaRead
namespace Go.Proofs.Ytninmkkcphnniaa.Names
open Go.ChangeShapes Go.WideShapes Go.ChangeAt Go.RowKit
set_option linter.unusedVariables false

/-- the values -/
def want : List Nat := [1, 2, 3, 6000, 12, 15, 1, 2, 3, 1, 2, 3, 4, 5, 6, 7, 8, 9, 10, 11, 12, 13, 14, 15, 16, 17, 18, 19, 20, 21, 22, 23, 24, 1, 2, 3, 4, 5, 6, 7, 8, 9, 1, 2, 3, 4, 30, 2000, 40, 200, 6, 50, 20, 1, 2, 3, 1, 2, 3, 4, 5, 6, 7, 8, 9, 10, 11, 12, 13, 14, 15, 16, 17, 18, 19, 20, 21, 22, 23, 24, 25, 26, 27, 28, 29, 30, 31, 32, 30, 200, 4000, 300, 1, 2, 3, 4, 5, 1, 2, 3, 4, 5, 40, 30, 5000, 400, 10000, 20000, 400, 10, 60000, 20000]
theorem want_len : want.length = 112 := by rfl

theorem nats_at {w : World} {b : Nat} {l : List Nat} {t : TypeId} (h : Blk w b (l.map fun n : Nat => Value.int .i64 (n : Int)).toArray t) {k : Nat} (hk : k < l.length) : w.cell? ⟨b, k, none⟩ = some (.int .i64 ((l.getD k 0 : Nat) : Int)) := by
  rw [h.cell]
  simp [List.getD_eq_getElem?_getD, hk]

theorem wpList_value {P : Program} {ops : Array Oper} {rest : List Oper} {o : Oper} {a : Act} {w : World} {Q : Exit → Act → World → Prop} (hg : o.guard = none) (v : Value) (w' : World)
    (hr : (execOp a.eval o).run P w = .ok (.value v) w') (h : wpList P ops Q rest (a.put o.dst v) w') : wpList P ops Q (o :: rest) a w :=
  wpList_plain hg fun K hK => by unfold Oper.wp; rw [hr]; exact hK _ _ h

set_option maxRecDepth 100000 in
set_option maxHeartbeats 400000 in
theorem names_true (w : World) : Calls Try.prog 12 #[] w fun e w' => e = .returned (.bool true) ∧ Below w.heap.size w w' := by
  go_enter Try.func12, Try.ntmps12
  go_wp2
  generalize hw1 : World.alloc w _ = w1 at *
  have hb : Blk w1 w.heap.size ((List.range 13).map fun n : Nat => Value.int .i64 (n : Int)).toArray 25 := by rw [← hw1]; exact (Blk.new w _ _).to rfl (by kernel_rfl)
  have hz : w.heap.size < w1.heap.size := by rw [← hw1]; simp
  have hk1 : Keeps Nil w w1 := by rw [← hw1]; exact (Keeps.refl _ _).alloc _
  clear hw1
  go_loop [10] (fun i => ∃ k : Nat, k ≤ 13 ∧ i = .int .i64 k) (fun i => 13 - (intOf i).toNat)
  case atStart => exact ⟨0, Nat.zero_le _, rfl⟩
  case round =>
    obtain ⟨k, hk, rfl⟩ := hrel
    by_cases hkn : k < 13
    · have c1 := nats_at hb (k := k) (by simpa using hkn)
      rw [show (List.range 13).getD k 0 = k by simp [List.getD_eq_getElem?_getD, hkn]] at c1
      have hne : ((k : Int) != (k : Int)) = false := by simp
      clear hb hk1 hz
      go_wp2
      go_round
      case rel => exact ⟨k + 1, by omega, by go_num⟩
      case measure => simp [intOf]; omega
    · obtain rfl : k = 13 := by omega
      have HB := Lib.hid hb
      clear hb
      go_wp2_with (first | refine wpList_value (o := ⟨some 19, _, _, _, _, _⟩) rfl (.slice (some ⟨w1.heap.size, 0, none⟩) 112 112) (World.alloc w1 (.cells (want.map fun n : Nat => Value.int .i64 (n : Int)).toArray 3)) (by kernel_rfl) ?_ | refine wpList_value (o := ⟨some 20, _, _, _, _, _⟩) rfl (.slice (some ⟨(World.alloc w1 (.cells (want.map fun n : Nat => Value.int .i64 (n : Int)).toArray 3)).heap.size, 0, none⟩) 112 112) (World.alloc (World.alloc w1 (.cells (want.map fun n : Nat => Value.int .i64 (n : Int)).toArray 3)) (.cells (want.map fun n : Nat => Value.int .i64 (n : Int)).toArray 3)) (by kernel_rfl) ?_)
      generalize hw2 : World.alloc (World.alloc w1 _) _ = w2 at *
      have h1 : Blk w2 w1.heap.size (want.map fun n : Nat => Value.int .i64 (n : Int)).toArray 3 := by rw [← hw2]; exact (Blk.new w1 _ _).alloc _
      have h2 : Blk w2 (w1.heap.size + 1) (want.map fun n : Nat => Value.int .i64 (n : Int)).toArray 3 := by rw [← hw2]; exact Blk.new' (by simp)
      have hk2 : Keeps Nil w w2 := by rw [← hw2]; exact (hk1.alloc _).alloc _
      clear hw2
      go_loopw [6, 23] (fun _ i wr => ∃ k : Nat, k ≤ 112 ∧ i = .int .i64 k ∧ ∃ q, wr = w2.drewN q) (fun _ i _ => 112 - (intOf i).toNat)
      case atStart => exact ⟨0, Nat.zero_le _, rfl, 0, rfl⟩
      case round =>
        obtain ⟨k, hk, rfl, q, rfl⟩ := hrel
        by_cases hkn : k < 112
        · have c1 := nats_at h1 (k := k) hkn
          have c2 := nats_at h2 (k := k) hkn
          generalize want.getD k 0 = x at c1 c2
          have hne : ((x : Int) != (x : Int)) = false := by simp
          have i0 : (0 : Int) ≤ (k : Int) := Int.natCast_nonneg _
          have i1 : (k : Int) < 112 := by omega
          clear h1 h2 hk1 hk2 HB hz
          go_wp2
          go_quiet (fail)
          go_wp2
          go_roundw
          case rel => exact ⟨k + 1, by omega, by go_num, q + nq, by simp⟩
          case measure => simp [intOf]; omega
        · obtain rfl : k = 112 := by omega
          have HK := Lib.hid hk2
          clear h1 h2 hk1 hk2 HB hz
          go_wp2
          go_ret
          exact ⟨rfl, ((HK.out).drewN _).below (Nat.le_refl _) (fun i h => h.elim)⟩
end Go.Proofs.Ytninmkkcphnniaa.Names
