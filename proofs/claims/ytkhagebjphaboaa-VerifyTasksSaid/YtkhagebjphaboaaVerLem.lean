/- Steps of what package verify computes, one by one: plain Lean. -/
import Derived.Test.YtkhagebjphaboaaVerMath
namespace Go.Proofs.Ytkhagebjphaboaa.Ver
set_option linter.unusedVariables false
open ImgM

theorem boxes_1 {i : Nat} {b : Int × Int} {r} (h : plain b.1 = false) : boxes i (b :: r) = ⟨9, 0, i⟩ := by unfold boxes; rw [if_pos h]
theorem boxes_2 {i : Nat} {b : Int × Int} {r} (h : plain b.1 = true) (h2 : b.2 < 1 ∨ 20 < b.2) : boxes i (b :: r) = ⟨3, 0, i⟩ := by unfold boxes; rw [if_neg (by rw [h]; decide), if_pos h2]
theorem boxes_3 {i : Nat} {b : Int × Int} {r} (h : plain b.1 = true) (h2 : ¬(b.2 < 1 ∨ 20 < b.2)) : boxes i (b :: r) = boxes (i + 1) r := by
  conv => lhs; unfold boxes
  rw [if_neg (by rw [h]; decide), if_neg h2]
theorem instrs_1 {M : Mdl} {u : Unt} {k j : Nat} {i : Ins} {r} (h : ¬ instr M u i = 0) : instrs M u k j (i :: r) = ⟨instr M u i, k, j⟩ := by unfold instrs; rw [if_pos h]
theorem instrs_2 {M : Mdl} {u : Unt} {k j : Nat} {i : Ins} {r} (h : instr M u i = 0) : instrs M u k j (i :: r) = instrs M u k (j + 1) r := by
  conv => lhs; unfold instrs
  rw [if_neg (fun h' => h' h)]
theorem unit_1 {M : Mdl} {k : Nat} {u : Unt} (h : ¬ head M u = 0) : unit M k u = ⟨head M u, k, 0⟩ := by unfold unit; rw [if_pos h]
theorem unit_2 {M : Mdl} {k : Nat} {u : Unt} (h : head M u = 0) : unit M k u = instrs M u k 0 u.code := by unfold unit; rw [if_neg (fun h' => h' h)]
theorem units_1 {M : Mdl} {k : Nat} {u : Unt} {r} (h : ¬ (unit M k u).err = 0) : units M k (u :: r) = unit M k u := by unfold units; rw [if_pos h]
theorem units_2 {M : Mdl} {k : Nat} {u : Unt} {r} (h : (unit M k u).err = 0) : units M k (u :: r) = units M (k + 1) r := by
  conv => lhs; unfold units
  rw [if_neg (fun h' => h' h)]
theorem form_1 {M : Mdl} (h : 30 < M.boxes.length ∨ 30 < M.units.length) : form M = ⟨5, 0, 0⟩ := by unfold form; rw [if_pos h]
theorem form_2 {M : Mdl} {w : Where} (h : ¬(30 < M.boxes.length ∨ 30 < M.units.length)) (hb : boxes 0 M.boxes = w) (he : ¬ w.err = 0) : form M = w := by unfold form; rw [if_neg h, hb, if_pos he]
theorem form_3 {M : Mdl} {w : Where} (h : ¬(30 < M.boxes.length ∨ 30 < M.units.length)) (hb : (boxes 0 M.boxes).err = 0) (hu : units M 0 M.units = w) (he : ¬ w.err = 0) : form M = w := by
  unfold form; rw [if_neg h, if_neg (fun h' => h' hb), hu, if_pos he]
theorem form_4 {M : Mdl} (h : ¬(30 < M.boxes.length ∨ 30 < M.units.length)) (hb : (boxes 0 M.boxes).err = 0) (hu : (units M 0 M.units).err = 0) (ht : (M.units.filter (fun u => decide (u.kind = 4))).length = 0) : form M = ⟨6, 0, 0⟩ := by
  unfold form; rw [if_neg h, if_neg (fun h' => h' hb), if_neg (fun h' => h' hu), if_pos ht]
theorem form_5 {M : Mdl} (h : ¬(30 < M.boxes.length ∨ 30 < M.units.length)) (hb : (boxes 0 M.boxes).err = 0) (hu : (units M 0 M.units).err = 0) (ht : ¬ (M.units.filter (fun u => decide (u.kind = 4))).length = 0) : form M = ⟨0, 0, 0⟩ := by
  unfold form; rw [if_neg h, if_neg (fun h' => h' hb), if_neg (fun h' => h' hu), if_neg ht]; rfl
theorem tasks_snoc {l : List Unt} {u : Unt} {t : Nat} (ht : t = (l.filter (fun u => decide (u.kind = 4))).length) : ((l ++ [u]).filter (fun u => decide (u.kind = 4))).length = if u.kind = 4 then t + 1 else t := by
  rw [List.filter_append, List.length_append, ← ht]
  by_cases h : u.kind = 4 <;> simp [h]
end Go.Proofs.Ytkhagebjphaboaa.Ver
