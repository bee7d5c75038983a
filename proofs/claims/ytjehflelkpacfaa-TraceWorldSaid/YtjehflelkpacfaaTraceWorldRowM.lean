/- TraceWorld: for every module and every picks the law answers true, and the arguments read as before. No condition of my own. -/
import Derived.Test.YtjehflelkpacfaaM37
import Derived.Test.YtjehflelkpacfaaRows
namespace Go.Proofs.Ytjehflelkpacfaa.TraceWorld
open Go.ChangeShapes Go.WideShapes Go.ChangeAt Go.RowKit
set_option linter.unusedVariables false

theorem own : ownKnob Try.prog.godebug = none := by kernel_rfl

set_option maxRecDepth 100000 in
set_option maxHeartbeats 1000000 in
theorem lifted (os : Os) (started : os.Started) (H : Type) (enc : TypeId × Value → H) :
    ReturnsInHanded {} Try.checked os 8 .any (Rows.traceWorldSpec.pre6 enc Try.prog Try.f8 Rows.traceWorldRow.domain false) (Rows.traceWorldSpec.post enc Try.prog Try.f8 false true false false) := by
  refine returnsInHanded_of_change_sized (C := Try.checked) own started (by kernel_rfl) Try.func8
    (ChangeSpec.witness6 (enc := enc) (C := Try.checked) false ⟨#[], #[.agg #[.slice none 0 0, .slice none 0 0], .slice none 0 0], []⟩ 8 (by kernel_rfl) (by kernel_rfl) (by kernel_rfl) (by kernel_rfl)) ?_
  intro W base args ds gs before hval0 hW _ hsz0 _
  have hsz1 : (DataW.weightsEach Try.prog (Try.f8.params.toList ++ []) (ds ++ gs)).all (· ≤ reachBytes) = true := hsz0
  have hval : ∀ (j : Nat) t v, Try.f8.params[j]? = some t → args[j]? = some v → Value.okWide Try.prog W .any base t v := hval0
  have hW' := hW
  obtain ⟨p, q, hA0, hV, rfl, hfz, hnd⟩ := hW
  have hA : DataW.TrodAll enc Try.prog W 0 (fun _ => true) true Try.f8.params.toList args.toList ds p := hA0
  obtain ⟨rfl, rfl⟩ := trodVars_none hV
  rw [Try.params8] at hA hval hsz1
  obtain ⟨v0, v1, d0, d1, p0, p1, rfl, rfl, rfl, h0, h1⟩ := trodAll_two hA
  have hok0 := hval 0 25 v0 rfl rfl
  have hok1 := hval 1 26 v1 rfl rfl
  have hfit0 : Fits Try.prog 25 d0 := fits_each (ts := [25, 26]) (ds := [d0, d1]) (j := 0) (fun n hn => by
    have := List.all_eq_true.1 hsz1 n (by simpa using hn)
    simpa using this) rfl rfl
  have hfit1 : Fits Try.prog 26 d1 := fits_each (ts := [25, 26]) (ds := [d0, d1]) (j := 1) (fun n hn => by
    have := List.all_eq_true.1 hsz1 n (by simpa using hn)
    simpa using this) rfl rfl
  suffices key : Calls Try.prog 8 #[v0, v1] W fun e w' => e = .returned (.bool true) ∧ Below W.heap.size W w' by
    refine key.mono fun e W' ⟨he, hb⟩ => ?_
    subst he
    exact ⟨_, rfl, law_post (f := Try.f8) (tb := 4) (by kernel_rfl) (by rw [Try.params8]; decide +kernel) (by kernel_rfl) Try.underlying4 rfl hW' rfl hb⟩
  obtain ⟨m, rfl, hm, hwf⟩ := read_md hok0 h0
  obtain ⟨ps, rfl, hp, -⟩ := read_pk hok1 h1 hfit1
  refine (Vw.traceWorld_is m hwf ps W ⟨fun c hc => by simp at hc; rcases hc with rfl | rfl; exact md_holds.2 hm; exact rd_holds.2 ⟨hp, rfl⟩, by simp [md_excl, rd_excl]⟩).mono ?_
  intro e w' h
  obtain ⟨x, _, he, _, hM⟩ := h
  have hk := old_holds.1 (hM.all _ (.head _))
  exact ⟨he, hk.below (Nat.le_refl _) (fun i hi => by obtain ⟨c, hc, _⟩ := hi; cases hc)⟩

theorem proved : Rows.TraceWorldSaid :=
  OpenClaim.holds_of_wide 8 Try.f8 rfl rfl rfl rfl rfl rfl rfl ⟨rfl, rfl, rfl, rfl, rfl⟩ rfl rfl rfl rfl rfl (by kernel_rfl) Try.func8 (by kernel_rfl)
    (of_decide_eq_true (by kernel_rfl)) (by unfold Func.isWrapper; rw [if_neg (of_decide_eq_false (by kernel_rfl))]; exact ⟨rfl, rfl⟩)
    (fun os started H enc _ => lifted os started H enc)

#print axioms proved
end Go.Proofs.Ytjehflelkpacfaa.TraceWorld
