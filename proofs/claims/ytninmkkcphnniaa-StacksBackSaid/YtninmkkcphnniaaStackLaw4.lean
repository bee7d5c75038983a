/- The law StacksBack: its walk. -/
import Derived.Test.YtninmkkcphnniaaStackLaw3
import Derived.Test.YtninmkkcphnniaaOwnWide
import Derived.BigQuiet
namespace Go.Proofs.Ytninmkkcphnniaa.Stk
open Go.RowKit
set_option linter.unusedVariables false
set_option linter.unusedSimpArgs false

def pushes (l : List Int) : List StackM.Op := l.map fun v => (1, 0, v)
theorem pushes_len (l : List Int) : (pushes l).length = l.length := by simp [pushes]
theorem opCells_push (l : List StackM.Op) (more : List Int) (k : Nat) (hk : k < more.length) :
    opCells (l ++ pushes (more.take (k + 1))) = opCells (l ++ pushes (more.take k)) ++ [.int .i64 1, .int .i64 0, .int .i64 (more.getD k 0)] := by
  rw [List.take_succ_eq_append_getElem hk]
  unfold pushes
  rw [List.map_append, ← List.append_assoc, opCells_append]
  congr 1
  simp [opCells, List.getD_eq_getElem?_getD, hk]
theorem opCells_pop (l : List StackM.Op) (n : Int) : opCells (l ++ [(2, n, 0)]) = opCells l ++ [.int .i64 2, .int .i64 n, .int .i64 0] := by
  simp [opCells]
theorem opCells_one (l : List StackM.Op) : ∀ u ∈ opCells l, u.oneCell' = true := by
  intro u hu
  simp only [opCells, List.mem_flatMap] at hu
  obtain ⟨o, _, ho⟩ := hu
  simp at ho
  rcases ho with rfl | rfl | rfl <;> rfl

set_option maxRecDepth 100000 in
set_option maxHeartbeats 1000000 in
theorem back_bad (mn mx : Int) (v vm : Value) (l : List StackM.Op) (n : Nat) (hn : l.length = n) (w : World) (hv : Row w v 3 n (opCells l)) (hsz : n * 24 ≤ 140737488351232) {er i : Int} (he : er ≠ 0) (hf : full mn mx l = (er, i, [], [])) :
    Calls Try.prog 9 #[.int .i64 mn, .int .i64 mx, v, vm] w fun e w' => e = .returned (.bool true) ∧ Below w.heap.size w w' := by
  have Hf := Lib.hid hf
  have Hn := Lib.hid hn
  have d1 : (er != 0) = true := by simpa using he
  clear hf hn he
  go_enter Try.func9, Try.ntmps9
  go_wp2_with fail
  refine (alive_true w).mono ?_
  rintro e w0 ⟨rfl, hk0⟩
  go_wp2_with fail
  refine (play_full mn mx _ l n Hn.out w0 (hv.keep hk0 (fun _ _ h => h)) (by omega) Hf.out).mono ?_
  rintro e w1 ⟨hk1, vw, vr, rfl, hw1, hr1⟩
  have hkA : Keeps Nil w w1 := hk0.trans hk1 (fun _ _ h => h)
  clear hk0 hk1 hw1 hr1
  simp only [flt]
  go_wp2
  go_ret
  exact ⟨rfl, (hkA.alloc _).below (Nat.le_refl _) (fun i h => h.elim)⟩

set_option maxRecDepth 100000 in
set_option maxHeartbeats 1000000 in
theorem back_much (a b : Nat) (v vm : Value) (l : List StackM.Op) (n : Nat) (hn : l.length = n) (w : World) (hv : Row w v 3 n (opCells l)) (hsz : n * 24 ≤ 140737488351232)
    (more : List Int) (k : Nat) (hm : Row w vm 1 k (more.map (Value.int .i64))) (hk1 : k * 8 ≤ 140737488351232) {ws rs : List Int} (hb : b ≤ 400) (hl : b < ws.length + k) (hwl : ws.length ≤ 400) (hf : full a b l = (0, 0, ws, rs)) :
    Calls Try.prog 9 #[.int .i64 a, .int .i64 b, v, vm] w fun e w' => e = .returned (.bool true) ∧ Below w.heap.size w w' := by
  have Hf := Lib.hid hf
  have Hn := Lib.hid hn
  clear hf hn
  obtain ⟨am, cm, rfl, hcm, hmi⟩ := hm.shape
  go_enter Try.func9, Try.ntmps9
  go_wp2_with fail
  refine (alive_true w).mono ?_
  rintro e w0 ⟨rfl, hk0⟩
  go_wp2_with fail
  refine (play_full a b _ l n Hn.out w0 (hv.keep hk0 (fun _ _ h => h)) (by omega) Hf.out).mono ?_
  rintro e w1 ⟨hk1, vw, vr, rfl, hw1, hr1⟩
  have hkA : Keeps Nil w w1 := hk0.trans hk1 (fun _ _ h => h)
  obtain ⟨aw, cw, rfl, hcw, -⟩ := (hw1.row (by omega)).shape
  clear hk0 hk1 hw1 hr1
  generalize ws.length = L at *
  have d1 : decide ((b : Int) < (L : Int) + (k : Int)) = true := by simp; omega
  simp only [flt]
  go_wp2
  go_ret
  exact ⟨rfl, (hkA.alloc _).below (Nat.le_refl _) (fun i h => h.elim)⟩

set_option maxRecDepth 100000 in
set_option maxHeartbeats 2000000 in
theorem back_in (a b : Nat) (v vm : Value) (l : List StackM.Op) (n : Nat) (hn : l.length = n) (w : World) (hv : Row w v 3 n (opCells l)) (hsz : n * 24 ≤ 140737488351232)
    (more : List Int) (k : Nat) (hmk : more.length = k) (hm : Row w vm 1 k (more.map (Value.int .i64))) {ws rs rs' : List Int} (hb : b ≤ 400) (hl : ws.length + k ≤ b) (hf : full a b l = (0, 0, ws, rs))
    (hg : full a b (l ++ pushes more ++ [((2, (more.length : Int), 0) : StackM.Op)]) = (0, 0, ws, rs')) :
    Calls Try.prog 9 #[.int .i64 a, .int .i64 b, v, vm] w fun e w' => e = .returned (.bool true) ∧ Below w.heap.size w w' := by
  have Hf := Lib.hid hf
  have Hg := Lib.hid hg
  have Hn := Lib.hid hn
  have Hmk := Lib.hid hmk
  clear hf hn hg hmk
  obtain ⟨am, cm, rfl, hcm, hmi⟩ := hm.shape
  go_enter Try.func9, Try.ntmps9
  go_wp2_with fail
  refine (alive_true w).mono ?_
  rintro e w0 ⟨rfl, hk0⟩
  go_wp2_with fail
  refine (play_full a b _ l n Hn.out w0 (hv.keep hk0 (fun _ _ h => h)) (by omega) Hf.out).mono ?_
  rintro e w1 ⟨hk1, vw, vr, rfl, hw1, hr1⟩
  have hkA : Keeps Nil w w1 := hk0.trans hk1 (fun _ _ h => h)
  obtain ⟨aw, cw, rfl, hcw, -⟩ := (hw1.row (by omega)).shape
  have hll : ws.length ≤ 400 := by omega
  clear hk0 hk1 hr1
  have hw1 := Lib.hid hw1
  generalize hL : ws.length = L at *
  have HL := Lib.hid hL
  clear hL
  have d1 : decide ((b : Int) < (L : Int) + (k : Int)) = false := by simp; omega
  simp only [flt]
  go_wp2_with (at_builtin; refine ownS rfl _ _ 36 rfl (w1.heap.size + 1) 46 (.agg #[.int .i64 0, .int .i64 0, .int .i64 0]) 3 24 Try.underlying36 (by kernel_rfl) rfl (by decide) (.slice (some ⟨w1.heap.size + 1, 0, none⟩) 0 0) 0 [] rfl (Own.empty (by repeat (first | (with_reducible refine Blk.new' ?_; simp; done) | with_reducible refine Blk.alloc ?_ _ | with_reducible refine Blk.drew ?_ | with_reducible refine Blk.drewN ?_ _)) (by simp)) _ n (opCells l) rfl (by exact Row.keep (S := Nil) hv (by repeat (first | with_reducible exact hkA | with_reducible refine Keeps.alloc ?_ _ | with_reducible refine Keeps.drew ?_ | with_reducible refine Keeps.drewN ?_ _ | exact hkA)) (fun _ _ h => h)) (opCells_one l) (by unfold maxLen; omega) (by omega) (by simp) ?_; intro v1 w2 hown1 hk2 hat)
  simp only [Nat.zero_add, List.nil_append] at hown1
  have hkB : Keeps Nil w1 w2 := Keeps.trans (by repeat (first | with_reducible exact Keeps.refl _ _ | with_reducible refine Keeps.alloc ?_ _ | with_reducible refine Keeps.drew ?_ | with_reducible refine Keeps.drewN ?_ _ | exact Keeps.refl _ _)) hk2 (fun i hi h => by simp [Value.ownBlock] at h; omega)
  have hz2 : w1.heap.size + 1 < w2.heap.size := by have := hk2.size; simp at this; omega
  have e0 : w2.cell? ⟨w1.heap.size, 0, none⟩ = some (.int .i64 0) := (hk2.cell (p := ⟨w1.heap.size, 0, none⟩) (by simp; omega) (by simp [Value.ownBlock])).trans (by simp [go_sem])
  have hF : Blk w2 w1.heap.size #[.int .i64 0, .int .i64 0] 39 := Blk.keep (by repeat (first | (with_reducible refine Blk.new' ?_; simp; done) | with_reducible refine Blk.alloc ?_ _ | with_reducible refine Blk.drew ?_ | with_reducible refine Blk.drewN ?_ _)) hk2 (by simp [Value.ownBlock])
  clear hk2 hat e0
  go_loopw [12, 44] (fun mv i wr => ∃ j : Nat, j ≤ k ∧ i = .int .i64 j ∧ Own wr (w1.heap.size + 1) 46 3 mv (n + j) (opCells (l ++ pushes (more.take j))) ∧ Keeps Nil w1 wr ∧ w1.heap.size + 1 < wr.heap.size ∧ Blk wr w1.heap.size #[.int .i64 0, .int .i64 0] 39) (fun _ i _ => k - (intOf i).toNat)
  case atStart => exact ⟨0, Nat.zero_le _, rfl, by simpa [pushes] using hown1, hkB, hz2, hF⟩
  case round =>
    clear hown1 hkB hz2 hF
    obtain ⟨j, hj, rfl, hown, hkw, hzw, hF⟩ := hrel
    by_cases hjk : j < k
    · obtain ⟨bm, om, rfl⟩ := hm.form (by omega)
      have c1 := row_ints ((hm.keep hkA (fun _ _ h => h)).keep hkw (fun _ _ h => h)) j hjk
      have hcl := opCells_push l more j (by have := Hmk.out; omega)
      generalize more.getD j 0 = x at *
      have HCL := Lib.hid hcl
      clear hcl
      go_wp2_with (at_builtin; refine own1w rfl _ _ 36 rfl (w1.heap.size + 1) 46 (.agg #[.int .i64 0, .int .i64 0, .int .i64 0]) 3 24 Try.underlying36 (by kernel_rfl) rfl (by decide) u12 (n + j) (opCells (l ++ pushes (more.take j))) rfl (Own.alloc hown _) _ _ _ rfl (Blk.new' (by simp)) rfl (by simp [Value.oneCell']) (by unfold maxLen; omega) (by omega) (by simp; omega) ?_; intro v3 w3 hown3 hk3 hat3)
      go_roundw
      case rel =>
        have hz := hk3.size
        simp at hz
        refine ⟨j + 1, by omega, by go_num, ?_, Keeps.trans (by repeat (first | with_reducible exact hkw | with_reducible refine Keeps.alloc ?_ _ | with_reducible refine Keeps.drew ?_ | with_reducible refine Keeps.drewN ?_ _ | exact hkw)) hk3 (fun i hi h => by have := (hown.lt i h).1; omega), by omega, Blk.keep (Blk.alloc hF _) hk3 (fun h => by have := (hown.lt _ h).1; omega)⟩
        rw [HCL.out]
        exact hown3
      case measure => simp [intOf]; omega
    · obtain rfl : j = k := by omega
      have hlk : more.take j = more := List.take_of_length_le (by have := Hmk.out; omega)
      rw [hlk] at hown
      have hcl := opCells_pop (l ++ pushes more) j
      have HCL := Lib.hid hcl
      clear hlk hcl
      go_wp2_with (first | (at_builtin; refine own1w rfl _ _ 36 rfl (w1.heap.size + 1) 46 (.agg #[.int .i64 0, .int .i64 0, .int .i64 0]) 3 24 Try.underlying36 (by kernel_rfl) rfl (by decide) u12 (n + j) (opCells (l ++ pushes more)) rfl (Own.alloc hown _) _ _ _ rfl (Blk.new' (by simp)) rfl (by simp [Value.oneCell']) (by unfold maxLen; omega) (by omega) (by simp; omega) ?_; intro v3 w3 hown3 hk3 hat3) | fail)
      have hz := hk3.size
      simp at hz
      have hk13 : Keeps Nil w1 w3 := Keeps.trans (by repeat (first | with_reducible exact hkw | with_reducible refine Keeps.alloc ?_ _ | with_reducible refine Keeps.drew ?_ | with_reducible refine Keeps.drewN ?_ _ | exact hkw)) hk3 (fun i hi h => by have := (hown.lt i h).1; omega)
      have hF3 := Blk.keep (Blk.alloc hF (.cells #[.int .i64 2, .int .i64 j, .int .i64 0] 46)) hk3 (fun h => by have := (hown.lt _ h).1; omega)
      have hrow := hown3.row (by omega)
      rw [← HCL.out] at hrow
      clear hown hown3 hk3 hat3 hF
      have hlen : (l ++ pushes more ++ [((2, (j : Int), 0) : StackM.Op)]).length = n + j + 1 := by have h1 := Hn.out; have h2 := Hmk.out; simp [pushes_len]; omega
      have hg := Hg.out
      rw [show (more.length : Int) = (j : Int) by rw [Hmk.out]] at hg
      refine (play_full a b _ (l ++ pushes more ++ [((2, (j : Int), 0) : StackM.Op)]) _ hlen w3 hrow (by omega) hg).mono ?_
      rintro e w4 ⟨hk4, vw', vr', rfl, hw4, hr4⟩
      have f0 := (hF3.keep hk4 (fun h => h)).free 0
      have f1 := (hF3.keep hk4 (fun h => h)).free 1
      have c0 := (hF3.keep hk4 (fun h => h)).cell 0
      have c1 := (hF3.keep hk4 (fun h => h)).cell 1
      simp at c0 c1
      have hF4 := (hF3.keep hk4 (fun h => h)).lt
      have hk14 : Keeps Nil w1 w4 := hk13.trans hk4 (fun _ _ h => h)
      rw [HL.out] at hw4
      have hr5 : ∀ w5, Keeps (fun i => i = w1.heap.size) w4 w5 → Calls Try.prog 16 #[.slice aw L cw, vw'] w5 fun e w' => e = .returned (.bool true) ∧ ∃ k, w' = w5.drewN k := by
        intro w5 hk5
        have h1 : Row w5 (.slice aw L cw) 1 L (ws.map (Value.int .i64)) := ((hw1.out.keep hk14 (fun _ _ h => h)).keep hk5 (fun i h1 h2 => by have := (hw1.out.lt i h1).2; omega)).row (by omega)
        have h2 : Row w5 vw' 1 L (ws.map (Value.int .i64)) := (hw4.keep hk5 (fun i h1 h2 => by have := (hw4.lt i h1).1; have := hk13.size; omega)).row (by omega)
        have := same_i64 _ _ _ _ ws ws w5 h1 h2
        simpa using this
      have H5 := Lib.hid hr5
      have HK := Lib.hid (hkA.trans hk14 (fun _ _ h => h))
      have Hle := Lib.hid hkA.size
      clear hr5 hw4 hr4 hk4 hF3 hrow hk14 hk13 hkA hkw hlen hg
      simp only [flt]
      go_wp2_with fail
      refine (H5.out _ ?_).mono ?_
      · (repeat (first | exact Keeps.refl _ _ | refine Keeps.setCell (S := fun i => i = w1.heap.size) ?_ (fun _ => rfl) _))
      rintro e w6 ⟨rfl, q, rfl⟩
      go_wp2
      go_ret
      refine ⟨rfl, below_drewN (Keeps.below (S := fun i => i = w1.heap.size) ?_ (Nat.le_refl _) (fun i h => by have := Hle.out; omega)) _⟩
      (repeat (first | refine Keeps.setCell (S := fun i => i = w1.heap.size) ?_ (fun _ => rfl) _ | exact HK.out.mono (fun _ _ h => h.elim)))
end Go.Proofs.Ytninmkkcphnniaa.Stk
