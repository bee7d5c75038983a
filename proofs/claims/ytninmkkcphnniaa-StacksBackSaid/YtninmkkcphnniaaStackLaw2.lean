/- The law StacksRoom: its walk. -/
import Derived.Test.YtninmkkcphnniaaStackLaw1
import Derived.BigQuiet
namespace Go.Proofs.Ytninmkkcphnniaa.Stk
open Go.RowKit
set_option linter.unusedVariables false
set_option linter.unusedSimpArgs false

theorem ans_room {mn mn' mx : Nat} (l : List StackM.Op) {er i : Int} {ws rs : List Int} (h : ans (StackM.run mn mx [] mn 0 l) = (er, i, ws, rs)) :
    ∃ rs', ans (StackM.run mn' mx [] mn' 0 l) = (er, i, ws, rs') := by
  rcases StackM.run_room mn mn' mx l [] mn mn' 0 with ⟨e, h1, h2⟩ | ⟨w, a, b, r, s, h1, h2⟩
  · rw [h1] at h
    rw [h2]
    obtain ⟨e1, e2⟩ := e
    simp only [ans, Prod.mk.injEq] at h
    obtain ⟨rfl, rfl, rfl, rfl⟩ := h
    exact ⟨_, rfl⟩
  · rw [h1] at h
    rw [h2]
    simp only [ans, Prod.mk.injEq] at h
    obtain ⟨rfl, rfl, rfl, rfl⟩ := h
    exact ⟨_, rfl⟩

set_option maxRecDepth 100000 in
set_option maxHeartbeats 1000000 in
theorem room_in (mn ot mx : Int) (v : Value) (l : List StackM.Op) (n : Nat) (hn : l.length = n) (w : World) (hv : Row w v 3 n (opCells l)) (hsz : n * 24 ≤ 140737488351232) (h1 : 1 ≤ mn) (h2 : 1 ≤ ot) (h3 : mn ≤ mx) (h4 : ot ≤ mx) (h5 : mx ≤ 400) :
    Calls Try.prog 7 #[.int .i64 mn, .int .i64 ot, .int .i64 mx, v] w fun e w' => e = .returned (.bool true) ∧ Below w.heap.size w w' := by
  obtain ⟨er, i, ws, rs, ha⟩ : ∃ er i ws rs, full mn mx l = (er, i, ws, rs) := ⟨_, _, _, _, rfl⟩
  obtain ⟨rs', hb⟩ : ∃ rs', full ot mx l = (er, i, ws, rs') := by
    unfold full at ha ⊢
    rw [if_pos ⟨by omega, by omega, by omega⟩] at ha ⊢
    exact ans_room l ha
  have Ha := Lib.hid ha
  have Hb := Lib.hid hb
  have Hn := Lib.hid hn
  clear ha hb hn
  obtain ⟨ai, ci, rfl, hci, hni⟩ := hv.shape
  have d1 : decide (mn < 1) = false := by simp; omega
  have d2 : decide (ot < 1) = false := by simp; omega
  have d3 : decide (mx < mn) = false := by simp; omega
  have d4 : decide (mx < ot) = false := by simp; omega
  have d5 : decide (400 < mx) = false := by simp; omega
  go_enter Try.func7, Try.ntmps7
  go_wp2_with fail
  refine (alive_true w).mono ?_
  rintro e w0 ⟨rfl, hk0⟩
  go_wp2_with fail
  refine (play_full mn mx _ l n Hn.out w0 (hv.keep hk0 (fun _ _ h => h)) (by omega) Ha.out).mono ?_
  rintro e w1 ⟨hk1, vw, vr, rfl, hw1, hr1⟩
  have hk01 := hk0.trans hk1 (fun _ _ h => h)
  simp only [flt]
  go_wp2_with fail
  refine (play_full ot mx _ l n Hn.out _ ((hv.keep hk01 (fun _ _ h => h)).keep ((Keeps.refl Nil _).alloc _) (fun _ _ h => h)) (by omega) Hb.out).mono ?_
  rintro e w2 ⟨hk2, vw', vr', rfl, hw2, hr2⟩
  have e0 : w2.cell? ⟨w1.heap.size, 0, none⟩ = some (.int .i64 er) := (hk2.cell (p := ⟨w1.heap.size, 0, none⟩) (by simp) (fun h => h)).trans (by simp [go_sem])
  have e1 : w2.cell? ⟨w1.heap.size, 1, none⟩ = some (.int .i64 i) := (hk2.cell (p := ⟨w1.heap.size, 1, none⟩) (by simp) (fun h => h)).trans (by simp [go_sem])
  have hlt : w1.heap.size < w2.heap.size := by have := hk2.size; simp at this; omega
  have hkA : Keeps Nil w w2 := (hk01.alloc _).trans hk2 (fun _ _ h => h)
  have s1 := fun k o => same_i64 vw vw' _ _ ws ws ((w2.alloc o).drewN k) (((hw1.alloc _).keep hk2 (fun _ _ h => h)).alloc _ |>.drewN _ |>.row (by omega)) (hw2.alloc _ |>.drewN _ |>.row (by omega))
  simp only [decide_true] at s1
  have S1 := Lib.hid s1
  clear s1 hw1 hr1 hw2 hr2 hk1 hk2 hk0
  simp only [flt]
  go_wp2_with fail
  refine (S1.out 0 _).mono ?_
  rintro e w3 ⟨rfl, j, rfl⟩
  go_wp2
  go_ret
  exact ⟨rfl, below_drewN ((hkA.alloc _).below (Nat.le_refl _) (fun i h => h.elim)) _⟩

set_option maxRecDepth 100000 in
set_option maxHeartbeats 1000000 in
theorem room_out (mn ot mx : Int) (v : Value) (w : World) (h : mn < 1 ∨ ot < 1 ∨ mx < mn ∨ mx < ot ∨ 400 < mx) :
    Calls Try.prog 7 #[.int .i64 mn, .int .i64 ot, .int .i64 mx, v] w fun e w' => e = .returned (.bool true) ∧ Below w.heap.size w w' := by
  have fin : ∀ w0, Keeps Nil w w0 → Below w.heap.size w w0 := fun w0 hk => hk.below (Nat.le_refl _) (fun i h => h.elim)
  have Fin := Lib.hid fin
  clear fin
  by_cases g1 : mn < 1
  · have d1 : decide (mn < 1) = true := by simpa using g1
    clear h g1
    go_enter Try.func7, Try.ntmps7
    go_wp2_with fail
    refine (alive_true w).mono ?_
    rintro e w0 ⟨rfl, hk0⟩
    go_wp2
    go_ret
    exact ⟨rfl, Fin.out _ hk0⟩
  have d1 : decide (mn < 1) = false := by simpa using g1
  by_cases g2 : ot < 1
  · have d2 : decide (ot < 1) = true := by simpa using g2
    clear h g1 g2
    go_enter Try.func7, Try.ntmps7
    go_wp2_with fail
    refine (alive_true w).mono ?_
    rintro e w0 ⟨rfl, hk0⟩
    go_wp2
    go_ret
    exact ⟨rfl, Fin.out _ hk0⟩
  have d2 : decide (ot < 1) = false := by simpa using g2
  by_cases g3 : mx < mn
  · have d3 : decide (mx < mn) = true := by simpa using g3
    clear h g1 g2 g3
    go_enter Try.func7, Try.ntmps7
    go_wp2_with fail
    refine (alive_true w).mono ?_
    rintro e w0 ⟨rfl, hk0⟩
    go_wp2
    go_ret
    exact ⟨rfl, Fin.out _ hk0⟩
  have d3 : decide (mx < mn) = false := by simpa using g3
  by_cases g4 : mx < ot
  · have d4 : decide (mx < ot) = true := by simpa using g4
    clear h g1 g2 g3 g4
    go_enter Try.func7, Try.ntmps7
    go_wp2_with fail
    refine (alive_true w).mono ?_
    rintro e w0 ⟨rfl, hk0⟩
    go_wp2
    go_ret
    exact ⟨rfl, Fin.out _ hk0⟩
  have d4 : decide (mx < ot) = false := by simpa using g4
  have d5 : decide (400 < mx) = true := by simp; omega
  clear h g1 g2 g3 g4
  go_enter Try.func7, Try.ntmps7
  go_wp2_with fail
  refine (alive_true w).mono ?_
  rintro e w0 ⟨rfl, hk0⟩
  go_wp2
  go_ret
  exact ⟨rfl, Fin.out _ hk0⟩
end Go.Proofs.Ytninmkkcphnniaa.Stk
