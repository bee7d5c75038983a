/- verify's flow, walked: copies, generators. -/
import Derived.Test.YtgnhfinabhimpaaM20
namespace Go.Proofs.Ytgnhfinabhimpaa.Vw
open Go.RowKit Go.Proofs.Ytgnhfinabhimpaa.Img
set_option linter.unusedVariables false
set_option linter.unusedSimpArgs false
attribute [local irreducible] Run Cod End OpT Still RunQ RunS RunT Fn PutOk

set_option maxRecDepth 100000 in
theorem copied_is (x : SH) (h1 : x.st.length ≤ 1000000) (h2 : x.hs.length ≤ 1000000) : Fn Try.prog 31 #[shV x] [rd x.so x.st.length x.sc i64c x.st, rd x.ho x.hs.length x.hc boolc x.hs] [] (fun y : SH => y.st = x.st ∧ y.hs = x.hs) shV (fun y => [arr y.so y.st.length y.sc 3 i64c y.st, arr y.ho y.hs.length y.hc 4 boolc y.hs]) := by
  refine Fn.enter (args := [shV x]) Try.func31 rfl _ Try.ntmps31 rfl (by simp [rd_excl, md_excl]) (fun w S => ?_)
  (try conv => rhs; simp only [List.cons_append, List.nil_append])
  repeat (first | refine go (k := ?_) | (refine goB (k := ?_); intro b) | (refine goA (k := ?_); intro ao cap))
  rename_i b1
  apply Cod.draw 7 ([blk b1 [.slice x.so x.st.length x.sc, .slice x.ho x.hs.length x.hc] 90]) (by kernel_rfl) 8 rfl
  refine RunT.takeR_ 0 (h := ?_)
  refine RunT.takeR_ 1 (h := ?_)
  refine RunT.takeR_ 3 (h := ?_)
  refine RunT.takeR_ 4 (h := ?_)
  (refine RunT.one_ 2 (h := ?_); refine OpT.call0_ (spec := cloneI_is x.so x.st.length x.sc x.st rfl (by omega)) (k := ?_); intro s hs; refine And.intro gud ?_; (try conv => rhs; simp only [List.cons_append, List.nil_append]))
  obtain ⟨ao, ac⟩ := s
  (refine RunT.one_ 5 (h := ?_); refine OpT.call0_ (spec := cloneB_is x.ho x.hs.length x.hc x.hs rfl (by omega)) (k := ?_); intro s hs; refine And.intro gud ?_; (try conv => rhs; simp only [List.cons_append, List.nil_append]))
  obtain ⟨bo, bc⟩ := s
  refine RunT.takeR_ 6 (h := ?_)
  (refine RunT.one_ 7 (h := ?_); (first | refine OpT.val_ (k := ?_) | (refine OpT.alloc_ (k := ?_); intro b) | (refine OpT.box_ (k := ?_); intro b) | refine OpT.store_ (k := ?_) | (refine OpT.buildSlice_ (k := ?_); intro b) | (refine OpT.buildSlice0_ (k := ?_); intro b) | (refine OpT.append1_ (k := ?_); intro ao cap) | (refine OpT.cutA0_ (k := ?_); intro ao cap) | (refine OpT.cutR0_ (k := ?_); intro ao cap) | (refine OpT.cutA1_ (k := ?_); intro ao cap) | (refine OpT.cutA_ (k := ?_); intro ao cap) | (refine OpT.cutR_ (k := ?_); intro ao cap)); refine And.intro gud ?_)
  (apply RunT.done; kernel_rfl)
  repeat (first | refine go (k := ?_) | (refine goB (k := ?_); intro b) | (refine goA (k := ?_); intro ao cap))
  (refine End.doneC1_ ((⟨x.st, ao, ac, x.hs, bo, bc⟩ : SH)) (he := by rfl) (hp := ?_))
  exact ⟨rfl, rfl⟩

theorem pop_mem (f : Ver.Flow) (h : ∀ t ∈ f.stack, ImgM.In64 t) : ImgM.In64 (Ver.pop f).1 := by
  unfold Ver.pop
  split
  · unfold ImgM.In64; simp only; omega
  · refine h _ ?_
    rw [List.getD_eq_getElem?_getD, List.getElem?_eq_getElem (by omega)]
    exact List.getElem_mem _
def genV (m : ML) : Option Int → Value
  | none => .pointer none
  | some k => up m k.toNat
set_option maxRecDepth 100000 in
theorem gen_is (fb cb ab mb : Nat) (u : Value) (m : ML) (r : FR) (z : FS) (hl : z.st.length ≤ 1000) (ht : ∀ t ∈ z.st, ImgM.In64 t) :
    Fn Try.prog 90 #[ptr fb] [md m] (fm fb cb ab u r z ++ ck cb mb m) (fun z' => flow r z' = (Ver.gen m.mdl (flow r z)).2) (fun _ => genV m (Ver.gen m.mdl (flow r z)).1) (fun z' => fm fb cb ab u r z' ++ ck cb mb m) := by
  refine Fn.enter (args := [ptr fb]) Try.func90 rfl _ Try.ntmps90 rfl (by simp [rd_excl, md_excl]) (fun w S => ?_)
  (try conv => rhs; simp only [List.cons_append, List.nil_append])
  (try conv => rhs; simp only [List.cons_append, List.nil_append])
  repeat (first | refine go (k := ?_) | (refine goB (k := ?_); intro b) | (refine goA (k := ?_); intro ao cap))
  (apply Run.op; exact rfl; refine OpT.call0_ (spec := pop_is fb cb ab u r z hl) (k := ?_); intro s hs; (try conv => rhs; simp only [List.cons_append, List.nil_append]))
  have ht' := pop_mem (flow r z) ht
  generalize hp : (Ver.pop (flow r z)).1 = t at *
  have hg : Ver.gen m.mdl (flow r z) = if s.err ≠ 0 then (none, flow r s) else if Ver.handle m.mdl t = false then (none, Ver.fail 9 (flow r s)) else (some (t - 10), flow r s) := by
    unfold Ver.gen
    rw [← hs, hp]
    rfl
  obtain ⟨y, rfl⟩ : ∃ y, y = s := ⟨_, rfl⟩
  clear hs
  by_cases he : y.err = 0
  · rw [if_neg (fun h => h he)] at hg
    repeat (first | refine go (k := ?_) | (refine goB (k := ?_); intro b) | (refine goA (k := ?_); intro ao cap))
    (apply Run.op; exact rfl; refine OpT.call0_ (spec := handle_is cb mb m t ht') (k := ?_); intro s hs; (try conv => rhs; simp only [List.cons_append, List.nil_append]))
    cases hh : Ver.handle m.mdl t with
    | false =>
      rw [hh, if_pos rfl] at hg
      rw [hg]
      repeat (first | refine go (k := ?_) | (refine goB (k := ?_); intro b) | (refine goA (k := ?_); intro ao cap))
      (apply Run.op; exact rfl; refine OpT.call0_ (spec := fail_is fb cb ab u r y 9) (k := ?_); intro s hs; (try conv => rhs; simp only [List.cons_append, List.nil_append]))
      repeat (first | refine go (k := ?_) | (refine goB (k := ?_); intro b) | (refine goA (k := ?_); intro ao cap))
      (refine End.done1_ (failE 9 y) (he := by (first | exact rfl | (refine congrArg (Value.int _) ?_; omega) | (refine congrArg (Value.int _) ?_; dsimp only; omega))) (hp := ?_))
      exact flow_fail r y 9
    | true =>
      rw [hh, if_neg (by decide)] at hg
      rw [hg]
      unfold ImgM.In64 at ht'
      have hh' := hh
      simp only [Ver.handle, Ver.isUnit, Bool.and_eq_true, decide_eq_true_eq, List.length_map] at hh'
      obtain ⟨g1, ⟨g2, g3⟩, g4⟩ := hh'
      clear g4
      repeat (first | refine go (k := ?_) | (refine goB (k := ?_); intro b) | (refine goA (k := ?_); intro ao cap))
      (refine End.done1_ (y) (he := by rfl) (hp := ?_))
      rfl
  · rw [if_pos he] at hg
    rw [hg]
    repeat (first | refine go (k := ?_) | (refine goB (k := ?_); intro b) | (refine goA (k := ?_); intro ao cap))
    (refine End.done1_ (y) (he := by (first | exact rfl | (refine congrArg (Value.int _) ?_; omega) | (refine congrArg (Value.int _) ?_; dsimp only; omega))) (hp := ?_))
    rfl
end Go.Proofs.Ytgnhfinabhimpaa.Vw
