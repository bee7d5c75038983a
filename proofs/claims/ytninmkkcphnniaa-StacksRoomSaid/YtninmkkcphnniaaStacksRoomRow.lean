/- StacksRoom: for all bounds and every list of doings the law answers true (the words and the fault do not hang on the first room), and the arguments read as before. No condition of my own. -/
import Derived.Test.YtninmkkcphnniaaRows
import Derived.Test.YtninmkkcphnniaaStackLaw2
import Derived.Test.YtninmkkcphnniaaStackRead
namespace Go.Proofs.Ytninmkkcphnniaa.StacksRoom
open Go.ChangeShapes Go.WideShapes Go.ChangeAt Go.RowKit
set_option linter.unusedVariables false

theorem own : ownKnob Try.prog.godebug = none := by kernel_rfl

set_option maxRecDepth 100000 in
set_option maxHeartbeats 1000000 in
theorem lifted (os : Os) (started : os.Started) (H : Type) (enc : TypeId × Value → H) :
    ReturnsInHanded {} Try.checked os 7 .any (Rows.stacksRoomSpec.pre6 enc Try.prog Try.f7 Rows.stacksRoomRow.domain false) (Rows.stacksRoomSpec.post enc Try.prog Try.f7 false true false false) := by
  refine returnsInHanded_of_change_sized (C := Try.checked) own started (by kernel_rfl) Try.func7
    (ChangeSpec.witness6 (enc := enc) (C := Try.checked) false ⟨#[], #[.int .i64 0, .int .i64 0, .int .i64 0, .slice none 0 0], []⟩ 8 (by kernel_rfl) (by kernel_rfl) (by kernel_rfl) (by kernel_rfl)) ?_
  intro W base args ds gs before hval0 hW _ hsz0 _
  have hsz1 : (DataW.weightsEach Try.prog (Try.f7.params.toList ++ []) (ds ++ gs)).all (· ≤ reachBytes) = true := hsz0
  have hval : ∀ (j : Nat) t v, Try.f7.params[j]? = some t → args[j]? = some v → Value.okWide Try.prog W .any base t v := hval0
  have hW' := hW
  obtain ⟨p, q, hA0, hV, rfl, hfz, hnd⟩ := hW
  have hA : DataW.TrodAll enc Try.prog W 0 (fun _ => true) true Try.f7.params.toList args.toList ds p := hA0
  obtain ⟨rfl, rfl⟩ := trodVars_none hV
  rw [Try.params7] at hA hval hsz1
  obtain ⟨v0, v1, v2, v3, d0, d1, d2, d3, p0, p1, p2, p3, rfl, rfl, rfl, h0, h1, h2, h3⟩ := trodAll_four hA
  obtain ⟨x0, rfl, rfl, rfl, w0⟩ := open_int Try.underlying3 (hval 0 3 v0 rfl rfl) h0
  obtain ⟨x1, rfl, rfl, rfl, w1⟩ := open_int Try.underlying3 (hval 1 3 v1 rfl rfl) h1
  obtain ⟨x2, rfl, rfl, rfl, w2⟩ := open_int Try.underlying3 (hval 2 3 v2 rfl rfl) h2
  have hok3 := hval 3 36 v3 rfl rfl
  have hfit3 : Fits Try.prog 36 d3 := fits_each (ts := [3, 3, 3, 36]) (ds := [_, _, _, d3]) (j := 3) (fun n hn => by
    have := List.all_eq_true.1 hsz1 n (by simpa using hn)
    simpa using this) rfl rfl
  suffices key : Calls Try.prog 7 #[.int .i64 x0, .int .i64 x1, .int .i64 x2, v3] W fun e w' => e = .returned (.bool true) ∧ Below W.heap.size W w' by
    refine key.mono fun e W' ⟨he, hb⟩ => ?_
    subst he
    exact ⟨_, rfl, law_post (f := Try.f7) (tb := 4) (by kernel_rfl) (by rw [Try.params7]; decide +kernel) (by kernel_rfl) Try.underlying4 rfl hW' rfl hb⟩
  obtain ⟨l, hl1, hl2⟩ := Stk.read_ops hok3 h3 hfit3
  by_cases hx : 1 ≤ x0 ∧ 1 ≤ x1 ∧ x0 ≤ x2 ∧ x1 ≤ x2 ∧ x2 ≤ 400
  · exact Stk.room_in x0 x1 x2 v3 l _ rfl W hl1 hl2 hx.1 hx.2.1 hx.2.2.1 hx.2.2.2.1 hx.2.2.2.2
  · exact Stk.room_out x0 x1 x2 v3 W (by omega)

theorem proved : Rows.StacksRoomSaid :=
  OpenClaim.holds_of_wide 7 Try.f7 rfl rfl rfl rfl rfl rfl rfl ⟨rfl, rfl, rfl, rfl, rfl⟩ rfl rfl rfl rfl rfl (by kernel_rfl) Try.func7 (by kernel_rfl)
    (of_decide_eq_true (by kernel_rfl)) (by unfold Func.isWrapper; rw [if_neg (of_decide_eq_false (by kernel_rfl))]; exact ⟨rfl, rfl⟩)
    (fun os started H enc _ => lifted os started H enc)

#print axioms proved
end Go.Proofs.Ytninmkkcphnniaa.StacksRoom
