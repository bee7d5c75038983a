/- ImageGuards, for arguments of bulk at most 1048576: for every module, place and two numbers the law answers true (bytes of which one, or two neighbours, are changed are refused), and the arguments read as before. -/
import Derived.Test.YtninmkkcphnniaaRows
import Derived.Test.YtninmkkcphnniaaImgLaw3
import Derived.Test.YtninmkkcphnniaaModRead
namespace Go.Proofs.Ytninmkkcphnniaa.ImageGuards
open Go.ChangeShapes Go.WideShapes Go.ChangeAt Go.RowKit
set_option linter.unusedVariables false

theorem bytes_lt (M : ImgM.Mdl) : ∀ c ∈ ImgM.bytes M, c < 256 := by
  intro c hc
  simp only [ImgM.bytes, List.mem_append, List.mem_cons, List.not_mem_nil, or_false] at hc
  have := ImgM.crc_lt (ImgM.body M)
  rcases hc with hc | rfl | rfl
  · exact ImgM.nums_byte _ c hc
  · omega
  · omega

theorem own : ownKnob Try.prog.godebug = none := by kernel_rfl

set_option maxRecDepth 100000 in
set_option maxHeartbeats 1000000 in
theorem lifted (os : Os) (started : os.Started) (H : Type) (enc : TypeId × Value → H) (F : Stop.Interp) :
    ReturnsInHanded {} Try.checked os 13 .any ((Rows.OpenSpec.upto Rows.imageGuardsSpec).pre6 enc Try.prog Try.f13 Rows.imageGuardsUptoRow.domain false) (((Rows.OpenSpec.upto Rows.imageGuardsSpec).at F).post enc Try.prog Try.f13 false true false false) := by
  refine returnsInHanded_of_cond (C := Try.checked) (s := Rows.OpenSpec.upto Rows.imageGuardsSpec) (k := Rows.uptoSmall) rfl own started (by kernel_rfl) Try.func13
    (OpenSpec.witness (enc := enc) (C := Try.checked) (s := Rows.OpenSpec.upto Rows.imageGuardsSpec) (k := Rows.uptoSmall) rfl false ⟨#[], #[.agg #[.slice none 0 0, .slice none 0 0], .int .i64 0, .int .i64 0, .int .i64 0], []⟩ 8 (by kernel_rfl) (by kernel_rfl) (by kernel_rfl)
      (x := ([.agg [.nil, .nil], .lit (.int .i64 0), .lit (.int .i64 0), .lit (.int .i64 0)], [], [])) (by kernel_rfl) rfl (by kernel_rfl)) ?_
  intro W base args ds gs before hval0 hW _ hk0 _
  have hval : ∀ (j : Nat) t v, Try.f13.params[j]? = some t → args[j]? = some v → Value.okWide Try.prog W .any base t v := hval0
  have hW' := hW
  obtain ⟨p, q, hA0, hV, rfl, hfz, hnd⟩ := hW
  have hA : DataW.TrodAll enc Try.prog W 0 (fun _ => true) true Try.f13.params.toList args.toList ds p := hA0
  obtain ⟨rfl, rfl⟩ := trodVars_none hV
  rw [Try.params13] at hA hval
  obtain ⟨v0, v1, v2, v3, d0, d1, d2, d3, p0, p1, p2, p3, rfl, rfl, rfl, h0, h1, h2, h3⟩ := trodAll_four hA
  have hk := (show Rows.uptoBulkAll _ ≤ 1048576 from of_decide_eq_true hk0)
  simp only [List.append_nil, Rows.uptoBulkAll] at hk
  have hok0 := hval 0 51 v0 rfl rfl
  have hu0 : Rows.uptoBulk d0 ≤ 1048576 := by omega
  obtain ⟨x1, rfl, rfl, rfl, w1⟩ := open_int Try.underlying3 (hval 1 3 v1 rfl rfl) h1
  obtain ⟨x2, rfl, rfl, rfl, w2⟩ := open_int Try.underlying3 (hval 2 3 v2 rfl rfl) h2
  obtain ⟨x3, rfl, rfl, rfl, w3⟩ := open_int Try.underlying3 (hval 3 3 v3 rfl rfl) h3
  suffices key : Calls Try.prog 13 #[v0, .int .i64 x1, .int .i64 x2, .int .i64 x3] W fun e w' => e = .returned (.bool true) ∧ Below W.heap.size W w' by
    refine key.mono fun e W' ⟨he, hb⟩ => ?_
    subst he
    exact ⟨_, rfl, law_post (f := Try.f13) (tb := 4) (by kernel_rfl) (by rw [Try.params13]; decide +kernel) (by kernel_rfl) Try.underlying4 rfl hW' rfl hb⟩
  obtain ⟨M, hM, hwf, hsz⟩ := read_mod hok0 h0 hu0
  have hlen : (ImgM.bytes M).length = (ImgM.body M).length + 2 := by simp [ImgM.bytes]
  by_cases hl : 60000 < (ImgM.bytes M).length
  · exact Img.guards_much v0 M x1 x2 x3 W hM hwf (by omega) hl
  have HBY : Hid (∀ w0, Keeps Nil W w0 → Calls Try.prog 22 #[v0] w0 (Img.Gives w0 (ImgM.bytes M) ((ImgM.body M).length + 2))) := Lib.hid fun w0 hk => by
    refine (Img.bytes_any v0 M w0 (hM.keep hk) hwf (by omega)).mono ?_
    rintro e w' ⟨h1, ⟨-, v', rfl, ho⟩ | ⟨h, -⟩⟩
    · rw [hlen] at ho
      have hr := ho.row (by omega)
      obtain ⟨ao, cap, rfl, hc, -⟩ := hr.shape
      obtain ⟨b, o, rfl⟩ := hr.form (by omega)
      exact ⟨h1, b, o, cap, rfl, hc, hr⟩
    · omega
  obtain ⟨bv, uv, ucs, rfl, -⟩ := hM
  by_cases hg : x1 < 0 ∨ (((ImgM.body M).length + 2 : Nat) : Int) - 2 < x1 ∨ x2 < 0 ∨ 255 < x2 ∨ x3 < 0 ∨ 255 < x3 ∨ (x2 = 0 ∧ x3 = 0)
  · exact Img.guards_out bv uv (ImgM.bytes M) _ x1 x2 x3 W HBY (by omega) (by omega) hg
  · obtain ⟨a, rfl⟩ := Int.eq_ofNat_of_zero_le (show 0 ≤ x1 by omega)
    obtain ⟨o1, rfl⟩ := Int.eq_ofNat_of_zero_le (show 0 ≤ x2 by omega)
    obtain ⟨o2, rfl⟩ := Int.eq_ofNat_of_zero_le (show 0 ≤ x3 by omega)
    refine Img.guards_in bv uv (ImgM.bytes M) (ImgM.body M).length a o1 o2 W HBY (by omega) (bytes_lt M) hlen (by omega) (by omega) (by omega) (by omega) ?_
    exact ImgM.guard (ImgM.body M) o1 o2 a (by omega) (by omega) (by omega) (by omega)

theorem proved : Rows.ImageGuardsUptoSaid :=
  OpenClaim.holds_of_cond 13 Try.f13 rfl rfl rfl rfl rfl rfl rfl ⟨rfl, rfl, rfl, rfl, rfl⟩ rfl rfl rfl rfl rfl (by kernel_rfl) Try.func13 (by kernel_rfl)
    (of_decide_eq_true (by kernel_rfl)) (by unfold Func.isWrapper; rw [if_neg (of_decide_eq_false (by kernel_rfl))]; exact ⟨rfl, rfl⟩)
    (fun os started H enc _ F => lifted os started H enc F)

#print axioms proved
end Go.Proofs.Ytninmkkcphnniaa.ImageGuards
