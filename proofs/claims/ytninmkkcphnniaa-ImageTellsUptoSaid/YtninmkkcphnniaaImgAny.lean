/- image.Parse, of whatever bytes. -/
import Derived.Test.YtninmkkcphnniaaImgParse
namespace Go.Proofs.Ytninmkkcphnniaa.Img
open Go.RowKit
set_option linter.unusedVariables false
set_option linter.unusedSimpArgs false

theorem parse_any (v : Value) (bs : List Nat) (w : World) (hv : Row w v 1 bs.length (u8s bs)) (hb : ∀ c ∈ bs, c < 256) :
    Calls Try.prog 27 #[v] w (ParseSaid bs w) := by
  by_cases h1 : 60000 < bs.length
  · exact parse_long v _ bs w hv h1
  by_cases h2 : bs.length < 2
  · exact parse_short v _ bs w hv h2
  obtain ⟨k, hk⟩ : ∃ k, bs.length = k + 2 := ⟨bs.length - 2, by omega⟩
  have hx : bs.getD k 0 < 256 := hb _ (by simp [List.getD_eq_getElem?_getD, show k < bs.length by omega])
  have hy : bs.getD (k + 1) 0 < 256 := hb _ (by simp [List.getD_eq_getElem?_getD, show k + 1 < bs.length by omega])
  have hw := word_nat _ _ hx hy
  rw [hk] at hv
  by_cases h3 : ImgM.crc (bs.take k) = bs.getD k 0 * 256 + bs.getD (k + 1) 0
  · exact parse_in v k bs w hv hb (by omega) h3
  · refine (parse_fit v k bs w hv hb (by omega) (fun h => h3 (by rw [← hw, ← h]; rfl))).mono ?_
    rintro e w' ⟨rfl, hk'⟩
    refine ⟨hk', ?_⟩
    have hp : ImgM.parse bs = .inl 8 := by
      unfold ImgM.parse
      rw [if_neg h1, if_neg h2, hk, show k + 2 - 2 = k by omega, show k + 2 - 1 = k + 1 by omega, if_pos h3]
    rw [hp]
end Go.Proofs.Ytninmkkcphnniaa.Img
