/- ImageTells, for arguments of bulk at most 1048576: for every module and bytes the law answers true (Bytes, Parse and Sum tell what the document's answer tells), and the arguments read as before. -/
import Derived.Test.YtninmkkcphnniaaRows
import Derived.Test.YtninmkkcphnniaaTellLaw
import Derived.Test.YtninmkkcphnniaaModRead
namespace Go.Proofs.Ytninmkkcphnniaa.ImageTells
open Go.ChangeShapes Go.WideShapes Go.ChangeAt Go.RowKit
set_option linter.unusedVariables false

theorem own : ownKnob Try.prog.godebug = none := by kernel_rfl

set_option maxRecDepth 100000 in
set_option maxHeartbeats 1000000 in
theorem lifted (os : Os) (started : os.Started) (H : Type) (enc : TypeId × Value → H) (F : Stop.Interp) :
    ReturnsInHanded {} Try.checked os 10 .any ((Rows.OpenSpec.upto Rows.imageTellsSpec).pre6 enc Try.prog Try.f10 Rows.imageTellsUptoRow.domain false) (((Rows.OpenSpec.upto Rows.imageTellsSpec).at F).post enc Try.prog Try.f10 false true false false) := by
  refine returnsInHanded_of_cond (C := Try.checked) (s := Rows.OpenSpec.upto Rows.imageTellsSpec) (k := Rows.uptoSmall) rfl own started (by kernel_rfl) Try.func10
    (OpenSpec.witness (enc := enc) (C := Try.checked) (s := Rows.OpenSpec.upto Rows.imageTellsSpec) (k := Rows.uptoSmall) rfl false ⟨#[], #[.agg #[.slice none 0 0, .slice none 0 0], .slice none 0 0], []⟩ 8 (by kernel_rfl) (by kernel_rfl) (by kernel_rfl)
      (x := ([.agg [.nil, .nil], .nil], [], [])) (by kernel_rfl) rfl (by kernel_rfl)) ?_
  intro W base args ds gs before hval0 hW _ hk0 _
  have hval : ∀ (j : Nat) t v, Try.f10.params[j]? = some t → args[j]? = some v → Value.okWide Try.prog W .any base t v := hval0
  have hW' := hW
  obtain ⟨p, q, hA0, hV, rfl, hfz, hnd⟩ := hW
  have hA : DataW.TrodAll enc Try.prog W 0 (fun _ => true) true Try.f10.params.toList args.toList ds p := hA0
  obtain ⟨rfl, rfl⟩ := trodVars_none hV
  rw [Try.params10] at hA hval
  obtain ⟨v0, v1, d0, d1, p0, p1, rfl, rfl, rfl, h0, h1⟩ := trodAll_two hA
  have hk := (show Rows.uptoBulkAll _ ≤ 1048576 from of_decide_eq_true hk0)
  simp only [List.append_nil, Rows.uptoBulkAll] at hk
  have hok0 := hval 0 51 v0 rfl rfl
  have hu0 : Rows.uptoBulk d0 ≤ 1048576 := by omega
  have hok1 := hval 1 52 v1 rfl rfl
  have hu1 : Rows.uptoBulk d1 ≤ 1048576 := by omega
  suffices key : Calls Try.prog 10 #[v0, v1] W fun e w' => e = .returned (.bool true) ∧ Below W.heap.size W w' by
    refine key.mono fun e W' ⟨he, hb⟩ => ?_
    subst he
    exact ⟨_, rfl, law_post (f := Try.f10) (tb := 4) (by kernel_rfl) (by rw [Try.params10]; decide +kernel) (by kernel_rfl) Try.underlying4 rfl hW' rfl hb⟩
  obtain ⟨M, hM, hwf, hsz⟩ := read_mod hok0 h0 hu0
  obtain ⟨bs, hb, hbs, -⟩ := read_u8s hok1 h1 hu1
  exact Img.tells v0 v1 M bs W hM hwf (by omega) hb hbs

theorem proved : Rows.ImageTellsUptoSaid :=
  OpenClaim.holds_of_cond 10 Try.f10 rfl rfl rfl rfl rfl rfl rfl ⟨rfl, rfl, rfl, rfl, rfl⟩ rfl rfl rfl rfl rfl (by kernel_rfl) Try.func10 (by kernel_rfl)
    (of_decide_eq_true (by kernel_rfl)) (by unfold Func.isWrapper; rw [if_neg (of_decide_eq_false (by kernel_rfl))]; exact ⟨rfl, rfl⟩)
    (fun os started H enc _ F => lifted os started H enc F)

#print axioms proved
end Go.Proofs.Ytninmkkcphnniaa.ImageTells
