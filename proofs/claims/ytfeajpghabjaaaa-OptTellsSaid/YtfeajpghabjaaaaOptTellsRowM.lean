/- OptTells: for every module the law answers true, and the arguments read as before. No condition of my own. -/
import Derived.Test.YtfeajpghabjaaaaM41
import Derived.Test.YtfeajpghabjaaaaRows
namespace Go.Proofs.Ytfeajpghabjaaaa.OptTells
open Go.ChangeShapes Go.WideShapes Go.ChangeAt Go.RowKit
set_option linter.unusedVariables false

theorem own : ownKnob Try.prog.godebug = none := by kernel_rfl

set_option maxRecDepth 100000 in
set_option maxHeartbeats 1000000 in
theorem lifted (os : Os) (started : os.Started) (H : Type) (enc : TypeId × Value → H) :
    ReturnsInHanded {} Try.checked os 3 .any (Rows.optTellsSpec.pre6 enc Try.prog Try.f3 Rows.optTellsRow.domain false) (Rows.optTellsSpec.post enc Try.prog Try.f3 false true false false) := by
  refine returnsInHanded_of_change_sized (C := Try.checked) own started (by kernel_rfl) Try.func3
    (ChangeSpec.witness6 (enc := enc) (C := Try.checked) false ⟨#[], #[.agg #[.slice none 0 0, .slice none 0 0]], []⟩ 8 (by kernel_rfl) (by kernel_rfl) (by kernel_rfl) (by kernel_rfl)) ?_
  intro W base args ds gs before hval0 hW _ hsz0 _
  have hsz1 : (DataW.weightsEach Try.prog (Try.f3.params.toList ++ []) (ds ++ gs)).all (· ≤ reachBytes) = true := hsz0
  have hval : ∀ (j : Nat) t v, Try.f3.params[j]? = some t → args[j]? = some v → Value.okWide Try.prog W .any base t v := hval0
  have hW' := hW
  obtain ⟨p, q, hA0, hV, rfl, hfz, hnd⟩ := hW
  have hA : DataW.TrodAll enc Try.prog W 0 (fun _ => true) true Try.f3.params.toList args.toList ds p := hA0
  obtain ⟨rfl, rfl⟩ := trodVars_none hV
  rw [Try.params3] at hA hval hsz1
  obtain ⟨v0, d0, rfl, rfl, h0⟩ := trodAll_one hA
  have hok0 := hval 0 25 v0 rfl rfl
  have hfit0 : Fits Try.prog 25 d0 := fits_each (ts := [25]) (ds := [d0]) (j := 0) (fun n hn => by
    have := List.all_eq_true.1 hsz1 n (by simpa using hn)
    simpa using this) rfl rfl
  suffices key : Calls Try.prog 3 #[v0] W fun e w' => e = .returned (.bool true) ∧ Below W.heap.size W w' by
    refine key.mono fun e W' ⟨he, hb⟩ => ?_
    subst he
    exact ⟨_, rfl, law_post (f := Try.f3) (tb := 4) (by kernel_rfl) (by rw [Try.params3]; decide +kernel) (by kernel_rfl) Try.underlying4 rfl hW' rfl hb⟩
  obtain ⟨m, rfl, hm, hwf⟩ := read_md hok0 h0
  refine (Vw.tells14_is m hwf W ⟨fun c hc => by simp at hc; subst hc; exact md_holds.2 hm, by simp⟩).mono ?_
  intro e w' h
  obtain ⟨x, _, he, _, hM⟩ := h
  have hk := old_holds.1 (hM.all _ (.head _))
  exact ⟨he, hk.below (Nat.le_refl _) (fun i hi => by obtain ⟨c, hc, _⟩ := hi; cases hc)⟩

theorem proved : Rows.OptTellsSaid :=
  OpenClaim.holds_of_wide 3 Try.f3 rfl rfl rfl rfl rfl rfl rfl ⟨rfl, rfl, rfl, rfl, rfl⟩ rfl rfl rfl rfl rfl (by kernel_rfl) Try.func3 (by kernel_rfl)
    (of_decide_eq_true (by kernel_rfl)) (by unfold Func.isWrapper; rw [if_neg (of_decide_eq_false (by kernel_rfl))]; exact ⟨rfl, rfl⟩)
    (fun os started H enc _ => lifted os started H enc)

#print axioms proved
end Go.Proofs.Ytfeajpghabjaaaa.OptTells
