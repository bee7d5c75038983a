/- MailOrder: for every number of places and every list of doings the law answers true (what was taken, and what is left, is what was put, in order), and the arguments read as before. No condition of my own. -/
import Derived.Test.YtninmkkcphnniaaRows
import Derived.Test.YtninmkkcphnniaaMailLaw2
import Derived.Test.YtninmkkcphnniaaMailRead
namespace Go.Proofs.Ytninmkkcphnniaa.MailOrder
open Go.ChangeShapes Go.WideShapes Go.ChangeAt Go.RowKit
set_option linter.unusedVariables false

theorem own : ownKnob Try.prog.godebug = none := by kernel_rfl

set_option maxRecDepth 100000 in
set_option maxHeartbeats 1000000 in
theorem lifted (os : Os) (started : os.Started) (H : Type) (enc : TypeId × Value → H) :
    ReturnsInHanded {} Try.checked os 4 .any (Rows.mailOrderSpec.pre6 enc Try.prog Try.f4 Rows.mailOrderRow.domain false) (Rows.mailOrderSpec.post enc Try.prog Try.f4 false true false false) := by
  refine returnsInHanded_of_change_sized (C := Try.checked) own started (by kernel_rfl) Try.func4
    (ChangeSpec.witness6 (enc := enc) (C := Try.checked) false ⟨#[], #[.int .i64 0, .slice none 0 0], []⟩ 8 (by kernel_rfl) (by kernel_rfl) (by kernel_rfl) (by kernel_rfl)) ?_
  intro W base args ds gs before hval0 hW _ hsz0 _
  have hsz1 : (DataW.weightsEach Try.prog (Try.f4.params.toList ++ []) (ds ++ gs)).all (· ≤ reachBytes) = true := hsz0
  have hval : ∀ (j : Nat) t v, Try.f4.params[j]? = some t → args[j]? = some v → Value.okWide Try.prog W .any base t v := hval0
  have hW' := hW
  obtain ⟨p, q, hA0, hV, rfl, hfz, hnd⟩ := hW
  have hA : DataW.TrodAll enc Try.prog W 0 (fun _ => true) true Try.f4.params.toList args.toList ds p := hA0
  obtain ⟨rfl, rfl⟩ := trodVars_none hV
  rw [Try.params4] at hA hval hsz1
  obtain ⟨v0, v1, d0, d1, p0, p1, rfl, rfl, rfl, h0, h1⟩ := trodAll_two hA
  obtain ⟨x0, rfl, rfl, rfl, w0⟩ := open_int Try.underlying3 (hval 0 3 v0 rfl rfl) h0
  have hok1 := hval 1 22 v1 rfl rfl
  have hfit1 : Fits Try.prog 22 d1 := fits_each (ts := [3, 22]) (ds := [_, d1]) (j := 1) (fun n hn => by
    have := List.all_eq_true.1 hsz1 n (by simpa using hn)
    simpa using this) rfl rfl
  suffices key : Calls Try.prog 4 #[.int .i64 x0, v1] W fun e w' => e = .returned (.bool true) ∧ Below W.heap.size W w' by
    refine key.mono fun e W' ⟨he, hb⟩ => ?_
    subst he
    exact ⟨_, rfl, law_post (f := Try.f4) (tb := 4) (by kernel_rfl) (by rw [Try.params4]; decide +kernel) (by kernel_rfl) Try.underlying4 rfl hW' rfl hb⟩
  obtain ⟨l, hl1, hl2, hl3⟩ := Mail.read_ops hok1 h1 hfit1
  by_cases hx : 1 ≤ x0 ∧ x0 ≤ 20
  · exact Mail.order_in x0 v1 l _ rfl W hl1 hl2 hl3 hx.1 hx.2
  · exact Mail.order_out x0 v1 W (by omega)

theorem proved : Rows.MailOrderSaid :=
  OpenClaim.holds_of_wide 4 Try.f4 rfl rfl rfl rfl rfl rfl rfl ⟨rfl, rfl, rfl, rfl, rfl⟩ rfl rfl rfl rfl rfl (by kernel_rfl) Try.func4 (by kernel_rfl)
    (of_decide_eq_true (by kernel_rfl)) (by unfold Func.isWrapper; rw [if_neg (of_decide_eq_false (by kernel_rfl))]; exact ⟨rfl, rfl⟩)
    (fun os started H enc _ => lifted os started H enc)

#print axioms proved
end Go.Proofs.Ytninmkkcphnniaa.MailOrder
