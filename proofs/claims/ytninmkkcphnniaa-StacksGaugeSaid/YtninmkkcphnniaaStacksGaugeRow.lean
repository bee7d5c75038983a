/- StacksGauge: for all bounds and every list of doings the law answers true (room is never too little, nor much too much), and the arguments read as before. No condition of my own. -/
import Derived.Test.YtninmkkcphnniaaRows
import Derived.Test.YtninmkkcphnniaaStackLaw3
import Derived.Test.YtninmkkcphnniaaStackRead
namespace Go.Proofs.Ytninmkkcphnniaa.StacksGauge
open Go.ChangeShapes Go.WideShapes Go.ChangeAt Go.RowKit
set_option linter.unusedVariables false

theorem own : ownKnob Try.prog.godebug = none := by kernel_rfl

set_option maxRecDepth 100000 in
set_option maxHeartbeats 1000000 in
theorem lifted (os : Os) (started : os.Started) (H : Type) (enc : TypeId × Value → H) :
    ReturnsInHanded {} Try.checked os 8 .any (Rows.stacksGaugeSpec.pre6 enc Try.prog Try.f8 Rows.stacksGaugeRow.domain false) (Rows.stacksGaugeSpec.post enc Try.prog Try.f8 false true false false) := by
  refine returnsInHanded_of_change_sized (C := Try.checked) own started (by kernel_rfl) Try.func8
    (ChangeSpec.witness6 (enc := enc) (C := Try.checked) false ⟨#[], #[.int .i64 0, .int .i64 0, .slice none 0 0], []⟩ 8 (by kernel_rfl) (by kernel_rfl) (by kernel_rfl) (by kernel_rfl)) ?_
  intro W base args ds gs before hval0 hW _ hsz0 _
  have hsz1 : (DataW.weightsEach Try.prog (Try.f8.params.toList ++ []) (ds ++ gs)).all (· ≤ reachBytes) = true := hsz0
  have hval : ∀ (j : Nat) t v, Try.f8.params[j]? = some t → args[j]? = some v → Value.okWide Try.prog W .any base t v := hval0
  have hW' := hW
  obtain ⟨p, q, hA0, hV, rfl, hfz, hnd⟩ := hW
  have hA : DataW.TrodAll enc Try.prog W 0 (fun _ => true) true Try.f8.params.toList args.toList ds p := hA0
  obtain ⟨rfl, rfl⟩ := trodVars_none hV
  rw [Try.params8] at hA hval hsz1
  obtain ⟨v0, v1, v2, d0, d1, d2, p0, p1, p2, rfl, rfl, rfl, h0, h1, h2⟩ := trodAll_three hA
  obtain ⟨x0, rfl, rfl, rfl, w0⟩ := open_int Try.underlying3 (hval 0 3 v0 rfl rfl) h0
  obtain ⟨x1, rfl, rfl, rfl, w1⟩ := open_int Try.underlying3 (hval 1 3 v1 rfl rfl) h1
  have hok2 := hval 2 36 v2 rfl rfl
  have hfit2 : Fits Try.prog 36 d2 := fits_each (ts := [3, 3, 36]) (ds := [_, _, d2]) (j := 2) (fun n hn => by
    have := List.all_eq_true.1 hsz1 n (by simpa using hn)
    simpa using this) rfl rfl
  suffices key : Calls Try.prog 8 #[.int .i64 x0, .int .i64 x1, v2] W fun e w' => e = .returned (.bool true) ∧ Below W.heap.size W w' by
    refine key.mono fun e W' ⟨he, hb⟩ => ?_
    subst he
    exact ⟨_, rfl, law_post (f := Try.f8) (tb := 4) (by kernel_rfl) (by rw [Try.params8]; decide +kernel) (by kernel_rfl) Try.underlying4 rfl hW' rfl hb⟩
  obtain ⟨l, hl1, hl2⟩ := Stk.read_ops hok2 h2 hfit2
  rcases Stk.full_cases x0 x1 l with ⟨er, i, he, hf⟩ | ⟨a, b, ws, m, rs, rfl, rfl, g1, g2, g3, hr, hf⟩
  · exact Stk.gauge_bad x0 x1 v2 l _ rfl W hl1 hl2 he hf
  · exact Stk.gauge_in a b v2 l _ rfl W hl1 hl2 g1 g2 g3 hr hf

theorem proved : Rows.StacksGaugeSaid :=
  OpenClaim.holds_of_wide 8 Try.f8 rfl rfl rfl rfl rfl rfl rfl ⟨rfl, rfl, rfl, rfl, rfl⟩ rfl rfl rfl rfl rfl (by kernel_rfl) Try.func8 (by kernel_rfl)
    (of_decide_eq_true (by kernel_rfl)) (by unfold Func.isWrapper; rw [if_neg (of_decide_eq_false (by kernel_rfl))]; exact ⟨rfl, rfl⟩)
    (fun os started H enc _ => lifted os started H enc)

#print axioms proved
end Go.Proofs.Ytninmkkcphnniaa.StacksGauge
