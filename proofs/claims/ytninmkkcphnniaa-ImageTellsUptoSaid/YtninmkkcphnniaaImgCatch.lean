/- image.Parse: its deferred closure. -/
import Derived.Test.YtninmkkcphnniaaImgUnit
import Derived.Recover
import Derived.Laws.Pointers
namespace Go.Proofs.Ytninmkkcphnniaa.Img
open Go.RowKit
set_option linter.unusedVariables false
set_option linter.unusedSimpArgs false

set_option maxRecDepth 100000 in
theorem catch_bad (B : Nat) (bv uv : Value) (ev : Value) (w : World) (hm : Blk w B #[bv, uv] 51) (he : Blk w (B + 1) #[ev] 25) :
    CallsD Try.prog 48 #[.pointer (some ⟨B, 0, none⟩), .pointer (some ⟨B + 1, 0, none⟩)] (.panicking [{ v := .iface 95 (.agg #[]), recovered := false }]) w fun e u' w' =>
      e = .returned (.tuple #[]) ∧ u' = .panicking [{ v := .iface 95 (.agg #[]), recovered := true }] ∧ Keeps (fun i => i = B ∨ i = B + 1) w w' ∧
        Blk w' B #[.slice none 0 0, .slice none 0 0] 51 ∧ Blk w' (B + 1) #[.int .i64 2] 25 := by
  refine callsD_of_wpS Try.func48 rfl fun c₀ cs hu => ?_
  apply wpS_seq
  apply wpS_region
  simp [wpOpsS, go_sem, recoverD, hu, Try.ntmps48, Exit.thenS]
  have d0 := hm.cell 0
  have d1 := hm.cell 1
  have e0 := he.cell 0
  have f0 := hm.free 0
  have f1 := hm.free 1
  have g0 := he.free 0
  have lB := hm.lt
  have lE := he.lt
  simp at d0 d1 e0
  have hta : ∀ w : World, Sem.run Try.prog (Instr.typeAssert (.iface 95 (.agg #[])) 20 95 true) w = .ok (.tuple #[.agg #[], .bool true]) w := fun _ => by kernel_rfl
  refine wpS_of_wp ?_
  have HU := Lib.hid hu
  clear hu
  go_wp2
  refine ⟨rfl, _, rfl, .tuple #[], results_none rfl _ _ _, rfl, rfl, ?_, ?_, ?_⟩
  · exact (Keeps.setCell (S := fun i => i = B ∨ i = B + 1) (Keeps.setCell (S := fun i => i = B ∨ i = B + 1) (Keeps.setCell (S := fun i => i = B ∨ i = B + 1) (Keeps.refl _ _) (fun _ => .inl rfl) _) (fun _ => .inl rfl) _) (fun _ => .inr rfl) _).alloc _
  · exact ((((hm.set 0 (.slice none 0 0)).set 1 (.slice none 0 0)).other ⟨B + 1, 0, none⟩ (by simp) (.int .i64 2)).alloc _).to rfl (by simp)
  · exact (((((he.other ⟨B, 0, none⟩ (by simp) (.slice none 0 0)).other ⟨B, 1, none⟩ (by simp) (.slice none 0 0)).set 0 (.int .i64 2)).alloc _).to rfl (by simp))

set_option maxRecDepth 100000 in
theorem catch_idle (B : Nat) (w : World) :
    CallsD Try.prog 48 #[.pointer (some ⟨B, 0, none⟩), .pointer (some ⟨B + 1, 0, none⟩)] .returning w fun e u' w' =>
      e = .returned (.tuple #[]) ∧ u' = .returning ∧ w' = w := by
  refine callsD_of_wpS Try.func48 rfl fun c₀ cs hu => ?_
  apply wpS_seq
  apply wpS_region
  simp [wpOpsS, go_sem, recoverD, hu, Try.ntmps48, Exit.thenS]
  refine wpS_of_wp ?_
  have HU := Lib.hid hu
  clear hu
  go_wp2
  have hu := HU.out
  cases c₀
  simp_all [bodyPostS, results, Try.results48]

end Go.Proofs.Ytninmkkcphnniaa.Img
