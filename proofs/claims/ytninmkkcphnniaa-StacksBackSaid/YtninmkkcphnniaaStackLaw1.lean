/- The law StacksPlay: its walk. -/
import Derived.Test.YtninmkkcphnniaaStackRef
namespace Go.Proofs.Ytninmkkcphnniaa.Stk
open Go.RowKit
set_option linter.unusedVariables false
set_option linter.unusedSimpArgs false

/-- Play's answer, in one form: the fault, the words, the rooms -/
def ans (r : Except (Int × Nat) (List Int × Nat × List Nat)) : Int × Int × List Int × List Int := match r with
  | .error (er, i) => (er, i, [], [])
  | .ok (ws, _, rs) => (0, 0, ws, rs.map Int.ofNat)

theorem Answers.out {w w' : World} {n : Nat} {r : Except (Int × Nat) (List Int × Nat × List Nat)} {e : Ending} (h : Answers w n r e w') {er i : Int} {ws rs : List Int} (ha : ans r = (er, i, ws, rs)) :
    ∃ vw vr, e = .returned (.tuple #[vw, vr, flt er i]) ∧ Own w' w.heap.size 2 1 vw ws.length (ws.map (Value.int .i64)) ∧ Own w' w.heap.size 3 1 vr rs.length (rs.map (Value.int .i64)) := by
  match r, h, ha with
  | .error (er', i'), h, ha =>
    simp only [ans, Prod.mk.injEq] at ha
    obtain ⟨rfl, rfl, rfl, rfl⟩ := ha
    exact ⟨_, _, h, Own.nil _ _ _ _, Own.nil _ _ _ _⟩
  | .ok (a, b, c), h, ha =>
    simp only [ans, Prod.mk.injEq] at ha
    obtain ⟨rfl, rfl, rfl, rfl⟩ := ha
    obtain ⟨vw, vr, he, h1, h2⟩ := h
    have hl := h2.len
    simp [nats] at hl
    refine ⟨vw, vr, he, h1, ?_⟩
    rw [List.length_map, hl, List.map_map]
    exact h2

/-- what both answer, whatever the bounds: the fault, the words, the rooms, by 'full' -/
def full (mn mx : Int) (l : List StackM.Op) : Int × Int × List Int × List Int :=
  if 1 ≤ mn ∧ mn ≤ mx ∧ mx ≤ 400 then ans (StackM.run mn.toNat mx.toNat [] mn.toNat 0 l) else (3, 0, [], [])

theorem play_full (mn mx : Int) (v : Value) (l : List StackM.Op) (n : Nat) (hn : l.length = n) (w : World) (hv : Row w v 3 n (opCells l)) (hsz : n * 24 ≤ 140737488455328) {er i : Int} {ws rs : List Int} (ha : full mn mx l = (er, i, ws, rs)) :
    Calls Try.prog 18 #[.int .i64 mn, .int .i64 mx, v] w fun e w' => Keeps Nil w w' ∧ ∃ vw vr, e = .returned (.tuple #[vw, vr, flt er i]) ∧ Own w' w.heap.size 2 1 vw ws.length (ws.map (Value.int .i64)) ∧ Own w' w.heap.size 3 1 vr rs.length (rs.map (Value.int .i64)) := by
  unfold full at ha
  split at ha
  · rename_i h
    obtain ⟨a, rfl⟩ := Int.eq_ofNat_of_zero_le (show 0 ≤ mn by omega)
    obtain ⟨b, rfl⟩ := Int.eq_ofNat_of_zero_le (show 0 ≤ mx by omega)
    exact (play_any a b v l n hn w hv (by omega) (by omega) (by omega) hsz).mono fun e w' ⟨hk, h⟩ => ⟨hk, h.out ha⟩
  · simp only [Prod.mk.injEq] at ha
    obtain ⟨rfl, rfl, rfl, rfl⟩ := ha
    exact (play_out mn mx v w (by omega)).mono fun e w' ⟨he, hk⟩ => ⟨hk, _, _, he, Own.nil _ _ _ _, Own.nil _ _ _ _⟩

theorem ref_full (mn mx : Int) (v : Value) (l : List StackM.Op) (n : Nat) (hn : l.length = n) (w : World) (hv : Row w v 3 n (opCells l)) (hsz : n * 24 ≤ 140737488355328) {er i : Int} {ws rs : List Int} (ha : full mn mx l = (er, i, ws, rs)) :
    Calls Try.prog 19 #[.int .i64 mn, .int .i64 mx, v] w fun e w' => Keeps Nil w w' ∧ ∃ vw vr, e = .returned (.tuple #[vw, vr, flt er i]) ∧ Own w' w.heap.size 2 1 vw ws.length (ws.map (Value.int .i64)) ∧ Own w' w.heap.size 3 1 vr rs.length (rs.map (Value.int .i64)) := by
  unfold full at ha
  split at ha
  · rename_i h
    obtain ⟨a, rfl⟩ := Int.eq_ofNat_of_zero_le (show 0 ≤ mn by omega)
    obtain ⟨b, rfl⟩ := Int.eq_ofNat_of_zero_le (show 0 ≤ mx by omega)
    exact (ref_any a b v l n hn w hv (by omega) (by omega) (by omega) hsz).mono fun e w' ⟨hk, h⟩ => ⟨hk, h.out ha⟩
  · simp only [Prod.mk.injEq] at ha
    obtain ⟨rfl, rfl, rfl, rfl⟩ := ha
    exact (ref_out mn mx v w (by omega)).mono fun e w' ⟨he, hk⟩ => ⟨hk, _, _, he, Own.nil _ _ _ _, Own.nil _ _ _ _⟩

set_option maxRecDepth 100000 in
set_option maxHeartbeats 1000000 in
theorem plays_law (mn mx : Int) (v : Value) (l : List StackM.Op) (n : Nat) (hn : l.length = n) (w : World) (hv : Row w v 3 n (opCells l)) (hsz : n * 24 ≤ 140737488351232) :
    Calls Try.prog 6 #[.int .i64 mn, .int .i64 mx, v] w fun e w' => e = .returned (.bool true) ∧ Below w.heap.size w w' := by
  obtain ⟨er, i, ws, rs, ha⟩ : ∃ er i ws rs, full mn mx l = (er, i, ws, rs) := ⟨_, _, _, _, rfl⟩
  have Ha := Lib.hid ha
  have Hn := Lib.hid hn
  clear ha hn
  obtain ⟨ai, ci, rfl, hci, hni⟩ := hv.shape
  go_enter Try.func6, Try.ntmps6
  go_wp2_with fail
  refine (play_full mn mx _ l n Hn.out w hv (by omega) Ha.out).mono ?_
  rintro e w1 ⟨hk1, vw, vr, rfl, hw1, hr1⟩
  simp only [flt]
  go_wp2_with fail
  refine (ref_full mn mx _ l n Hn.out _ ((hv.keep hk1 (fun _ _ h => h)).keep ((Keeps.refl Nil _).alloc _) (fun _ _ h => h)) (by omega) Ha.out).mono ?_
  rintro e w2 ⟨hk2, vw', vr', rfl, hw2, hr2⟩
  have e0 : w2.cell? ⟨w1.heap.size, 0, none⟩ = some (.int .i64 er) := (hk2.cell (p := ⟨w1.heap.size, 0, none⟩) (by simp) (fun h => h)).trans (by simp [go_sem])
  have e1 : w2.cell? ⟨w1.heap.size, 1, none⟩ = some (.int .i64 i) := (hk2.cell (p := ⟨w1.heap.size, 1, none⟩) (by simp) (fun h => h)).trans (by simp [go_sem])
  have hlt : w1.heap.size < w2.heap.size := by have := hk2.size; simp at this; omega
  have hkA : Keeps Nil w w2 := (hk1.alloc _).trans hk2 (fun _ _ h => h)
  have s1 := fun k o => same_i64 vw vw' _ _ ws ws ((w2.alloc o).drewN k) (((hw1.alloc _).keep hk2 (fun _ _ h => h)).alloc _ |>.drewN _ |>.row (by omega)) (hw2.alloc _ |>.drewN _ |>.row (by omega))
  have s2 := fun k o => same_ints vr vr' _ _ rs rs ((w2.alloc o).drewN k) (((hr1.alloc _).keep hk2 (fun _ _ h => h)).alloc _ |>.drewN _ |>.row (by omega)) (hr2.alloc _ |>.drewN _ |>.row (by omega))
  simp only [decide_true] at s1 s2
  have S1 := Lib.hid s1
  have S2 := Lib.hid s2
  clear s1 s2 hw1 hr1 hw2 hr2 hk1 hk2
  simp only [flt]
  go_wp2_with fail
  refine (S1.out 0 _).mono ?_
  rintro e w3 ⟨rfl, j, rfl⟩
  go_wp2_with fail
  refine (S2.out j _).mono ?_
  rintro e w3 ⟨rfl, j2, rfl⟩
  go_wp2
  go_ret
  exact ⟨rfl, below_drewN ((hkA.alloc _).below (Nat.le_refl _) (fun i h => h.elim)) _⟩
end Go.Proofs.Ytninmkkcphnniaa.Stk
