/- yieldlaw7.VerifyTasks: units whose rows are only read, one by one set anew. -/
import Derived.Test.YtkhagebjphaboaaLaw7b
namespace Go.Proofs.Ytkhagebjphaboaa.Vw
open Go.RowKit Go.Proofs.Ytkhagebjphaboaa.Img
set_option linter.unusedVariables false
set_option linter.unusedSimpArgs false

/-- what lies behind one unit's two slices -/
structure UcAt (w : World) (x : UC) : Prop where
  locals : Row w (.slice x.lo x.u.locals.length x.lc) (sz i64c) x.u.locals.length (x.u.locals.flatMap i64c)
  code : Row w (.slice x.co x.u.code.length x.cc) (sz insC) x.u.code.length (x.u.code.flatMap insC)
def UcFoot (us : List UC) (k : Nat) : Prop := ∃ x ∈ us, ((Value.slice x.lo x.u.locals.length x.lc).ownBlock = some k ∧ 0 < x.u.locals.length) ∨ ((Value.slice x.co x.u.code.length x.cc).ownBlock = some k ∧ 0 < x.u.code.length)
/-- what lies behind units' slices, only read -/
@[irreducible] def ucs (us : List UC) : Chunk where
  holds w := ∀ x ∈ us, UcAt w x
  foot := UcFoot us
  excl := false
  stab k hs h := fun x hx => ⟨(h x hx).locals.keep'' Enc.pos k (fun b h1 h2 => hs b ⟨x, hx, .inl ⟨h1, h2⟩⟩), (h x hx).code.keep'' Enc.pos k (fun b h1 h2 => hs b ⟨x, hx, .inr ⟨h1, h2⟩⟩)⟩
  lt h := by
    rintro b ⟨x, hx, ⟨h1, h2⟩ | ⟨h1, h2⟩⟩
    · exact (h x hx).locals.lt' Enc.pos h2 b h1
    · exact (h x hx).code.lt' Enc.pos h2 b h1
theorem ucs_holds {w : World} {us : List UC} : (ucs us).holds w ↔ ∀ x ∈ us, UcAt w x := by unfold ucs; exact Iff.rfl
theorem ucs_foot {us : List UC} {k : Nat} : (ucs us).foot k ↔ UcFoot us k := by unfold ucs; exact Iff.rfl
theorem ucs_excl {us : List UC} : (ucs us).excl = false := by unfold ucs; rfl
/-- at first: a module's own -/
theorem ucs_first {w : World} {L L' : List Chunk} {m : ML} (t : Take (md m) L L') (h : Mem w L) : Mem w (ucs m.us :: L) :=
  h.dup t ucs_excl (ucs_holds.2 fun x hx => ⟨(md_holds.1 (h.has t)).locals x hx, (md_holds.1 (h.has t)).code x hx⟩) (fun b hb => md_foot.2 (.inr (.inr (ucs_foot.1 hb)))) md_excl
/-- one is set anew -/
theorem ucs_set {w : World} {L F : List Chunk} {us : List UC} {j : Nat} (s : Nat × Nat)
    (t : Takes [ucs us, arr (some ⟨s.1, 0, none⟩) 3 3 41 insC Ver.sm.code] L F) (h : Mem w L) : Mem w (ucs (us.set j (smU s.1 Ver.sm.code)) :: F) := by
  have ht := h.takes t
  have a1 := ucs_holds.1 (ht.all _ (.head _))
  have a2 := arr_holds.1 (ht.all _ (.tail _ (.head _)))
  refine Mem.toRead t h (ucs_holds.2 fun x hx => ?_) ucs_excl (fun b hb => ?_)
  · rcases List.mem_or_eq_of_mem_set hx with hx | hx
    · exact a1 x hx
    · subst hx
      exact ⟨⟨by simp [smU, Ver.sm], by simp [smU, Ver.sm], none, 0, rfl, Nat.le_refl _, fun h => by simp [smU, Ver.sm] at h⟩, a2.1.row Enc.pos⟩
  · obtain ⟨x, hx, hh⟩ := ucs_foot.1 hb
    rcases List.mem_or_eq_of_mem_set hx with hx | hx
    · exact ⟨_, .head _, ucs_foot.2 ⟨x, hx, hh⟩⟩
    · subst hx
      rcases hh with ⟨h, h0⟩ | ⟨h, h0⟩
      · simp [smU, Ver.sm] at h0
      · exact ⟨_, .tail _ (.head _), arr_foot.2 ⟨h, by decide⟩⟩
/-- at last: a module's -/
theorem ucs_last {w : World} {L F : List Chunk} {m : ML} {us : List UC} {ao : Option Addr} {n c : Nat} (hn : n = us.length)
    (t : Takes [arr ao n c 35 ucell us, ucs us, md m] L F) (h : Mem w L) : Mem w (md ⟨m.bx, m.bo, m.bc, us, ao, c⟩ :: F) := by
  have ht := h.takes t
  have a1 := arr_holds.1 (ht.all _ (.head _))
  have a2 := ucs_holds.1 (ht.all _ (.tail _ (.head _)))
  have a3 := md_holds.1 (ht.all _ (.tail _ (.tail _ (.head _))))
  have r1 := a1.1.row Enc.pos
  have l1 := a1.1.le
  rw [hn] at r1
  refine Mem.toRead t h (md_holds.2 ⟨a3.boxes, r1, fun x hx => (a2 x hx).locals, fun x hx => (a2 x hx).code⟩) md_excl (fun b hb => ?_)
  rw [md_foot] at hb
  rcases hb with h | ⟨h, h0⟩ | h
  · exact ⟨_, .tail _ (.tail _ (.head _)), md_foot.2 (.inl h)⟩
  · exact ⟨_, .head _, arr_foot.2 ⟨by rw [hn]; exact h, by simp only at h0; omega⟩⟩
  · exact ⟨_, .tail _ (.head _), ucs_foot.2 h⟩
end Go.Proofs.Ytkhagebjphaboaa.Vw
