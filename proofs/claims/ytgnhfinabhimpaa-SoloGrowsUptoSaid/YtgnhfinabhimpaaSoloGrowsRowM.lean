/- SoloGrows: for every module, task, feeds, more feeds and number of steps of at most 2^20 in bulk each the law answers true, and the arguments read as before. No condition of my own. -/
import Derived.Test.YtgnhfinabhimpaaM37
import Derived.Test.YtgnhfinabhimpaaRows
namespace Go.Proofs.Ytgnhfinabhimpaa.SoloGrows
open Go.ChangeShapes Go.WideShapes Go.ChangeAt Go.RowKit
set_option linter.unusedVariables false

theorem own : ownKnob Try.prog.godebug = none := by kernel_rfl

set_option maxRecDepth 100000 in
set_option maxHeartbeats 1000000 in
theorem lifted (os : Os) (started : os.Started) (H : Type) (enc : TypeId × Value → H) (F : Stop.Interp) :
    ReturnsInHanded {} Try.checked os 4 .any ((Rows.OpenSpec.upto Rows.soloGrowsSpec).pre6 enc Try.prog Try.f4 Rows.soloGrowsUptoRow.domain false) (((Rows.OpenSpec.upto Rows.soloGrowsSpec).at F).post enc Try.prog Try.f4 false true false false) := by
  refine returnsInHanded_of_cond (C := Try.checked) (s := Rows.OpenSpec.upto Rows.soloGrowsSpec) (k := Rows.uptoSmall) rfl own started (by kernel_rfl) Try.func4
    (OpenSpec.witness (enc := enc) (C := Try.checked) (s := Rows.OpenSpec.upto Rows.soloGrowsSpec) (k := Rows.uptoSmall) rfl false ⟨#[], #[.agg #[.slice none 0 0, .slice none 0 0], .int .i64 0, .slice none 0 0, .slice none 0 0, .int .i64 0], []⟩ 8 (by kernel_rfl) (by kernel_rfl) (by kernel_rfl)
      (x := ([.agg [.nil, .nil], .lit (.int .i64 0), .nil, .nil, .lit (.int .i64 0)], [], [])) (by kernel_rfl) rfl (by kernel_rfl)) ?_
  intro W base args ds gs before hval0 hW _ hk0 _
  have hval : ∀ (j : Nat) t v, Try.f4.params[j]? = some t → args[j]? = some v → Value.okWide Try.prog W .any base t v := hval0
  have hW' := hW
  obtain ⟨p, q, hA0, hV, rfl, hfz, hnd⟩ := hW
  have hA : DataW.TrodAll enc Try.prog W 0 (fun _ => true) true Try.f4.params.toList args.toList ds p := hA0
  obtain ⟨rfl, rfl⟩ := trodVars_none hV
  rw [Try.params4] at hA hval
  obtain ⟨v0, v1, v2, v3, v4, d0, d1, d2, d3, d4, p0, p1, p2, p3, p4, rfl, rfl, rfl, h0, h1, h2, h3, h4⟩ := trodAll_five hA
  have hk := (show Rows.uptoBulkAll _ ≤ 1048576 from of_decide_eq_true hk0)
  simp only [List.append_nil, Rows.uptoBulkAll] at hk
  have hok0 := hval 0 25 v0 rfl rfl
  have hu0 : Rows.uptoBulk d0 ≤ 1048576 := by omega
  obtain ⟨x1, rfl, rfl, rfl, w1⟩ := open_int Try.underlying3 (hval 1 3 v1 rfl rfl) h1
  have hok2 := hval 2 26 v2 rfl rfl
  have hu2 : Rows.uptoBulk d2 ≤ 1048576 := by omega
  have hok3 := hval 3 26 v3 rfl rfl
  have hu3 : Rows.uptoBulk d3 ≤ 1048576 := by omega
  obtain ⟨x4, rfl, rfl, rfl, w4⟩ := open_int Try.underlying3 (hval 4 3 v4 rfl rfl) h4
  suffices key : Calls Try.prog 4 #[v0, .int .i64 x1, v2, v3, .int .i64 x4] W fun e w' => e = .returned (.bool true) ∧ Below W.heap.size W w' by
    refine key.mono fun e W' ⟨he, hb⟩ => ?_
    subst he
    exact ⟨_, rfl, law_post (f := Try.f4) (tb := 4) (by kernel_rfl) (by rw [Try.params4]; decide +kernel) (by kernel_rfl) Try.underlying4 rfl hW' rfl hb⟩
  obtain ⟨m, rfl, hm, hwf⟩ := read_md hok0 h0
  obtain ⟨f, rfl, hf, h64, hf1, hf2⟩ := read_fdU hok2 h2 hu2
  obtain ⟨g, rfl, hg, g64, hg1, hg2⟩ := read_fdU hok3 h3 hu3
  refine (Vw.grows_is m hwf f g h64 g64 ⟨hf1, hf2⟩ hg2 x1 x4 W ⟨fun c hc => by simp at hc; rcases hc with rfl | rfl | rfl; exact md_holds.2 hm; exact fd_holds.2 hf; exact fd_holds.2 hg, by simp [md_excl, fd_excl]⟩).mono ?_
  intro e w' h
  obtain ⟨x, _, he, _, hM⟩ := h
  have hk := old_holds.1 (hM.all _ (.head _))
  exact ⟨he, hk.below (Nat.le_refl _) (fun i hi => by obtain ⟨c, hc, _⟩ := hi; cases hc)⟩

theorem proved : Rows.SoloGrowsUptoSaid :=
  OpenClaim.holds_of_cond 4 Try.f4 rfl rfl rfl rfl rfl rfl rfl ⟨rfl, rfl, rfl, rfl, rfl⟩ rfl rfl rfl rfl rfl (by kernel_rfl) Try.func4 (by kernel_rfl)
    (of_decide_eq_true (by kernel_rfl)) (by unfold Func.isWrapper; rw [if_neg (of_decide_eq_false (by kernel_rfl))]; exact ⟨rfl, rfl⟩)
    (fun os started H enc _ F => lifted os started H enc F)

#print axioms proved
end Go.Proofs.Ytgnhfinabhimpaa.SoloGrows
