/- StacksBack: for all bounds, every list of doings and all words more the law answers true (what was pushed is popped), and the arguments read as before. No condition of my own. -/
import Derived.Test.YtninmkkcphnniaaRows
import Derived.Test.YtninmkkcphnniaaStackLaw4
import Derived.Test.YtninmkkcphnniaaStackRead
namespace Go.Proofs.Ytninmkkcphnniaa.StacksBack
open Go.ChangeShapes Go.WideShapes Go.ChangeAt Go.RowKit
set_option linter.unusedVariables false

theorem map_of_flat (l : List Int) : (l.flatMap fun n : Int => [Value.int .i64 n]) = l.map (Value.int .i64) := by
  induction l with
  | nil => rfl
  | cons a r ih => simp only [List.flatMap_cons, List.map_cons, ih]; rfl

set_option maxRecDepth 100000 in
theorem read_i64s {H : Type} {enc : TypeId × Value → H} {w : World} {base : Nat} {v : Value} (hok : Value.okWide Try.prog w .any base 24 v) {d : DataW H} {p : List MemPlace} (h : DataW.Trod enc Try.prog w 0 (fun _ => true) true 24 v d p) (hf : Fits Try.prog 24 d) :
    ∃ l : List Int, Row w v 1 l.length (l.map (Value.int .i64)) ∧ l.length * 8 ≤ 140737488351232 := by
  obtain ⟨fuel, h⟩ := h
  obtain ⟨v', l, hv, h1, -, h2, -⟩ := read_slice (fun n : Int => [Value.int .i64 n]) _ Try.underlying24 (show Try.prog.cellsOf 2 = 1 by kernel_rfl) (by decide) (el_i64 Try.underlying2) h hf
  obtain ⟨a, n, c, rfl⟩ := okWide_slice Try.underlying24 hok
  have e : Value.slice a n c = v' := by simpa [Value.cells] using hv
  subst e
  rw [show Try.prog.bytesOf 2 = 8 by kernel_rfl] at h2
  rw [map_of_flat] at h1
  exact ⟨l, h1, h2⟩

theorem own : ownKnob Try.prog.godebug = none := by kernel_rfl

set_option maxRecDepth 100000 in
set_option maxHeartbeats 1000000 in
theorem lifted (os : Os) (started : os.Started) (H : Type) (enc : TypeId × Value → H) :
    ReturnsInHanded {} Try.checked os 9 .any (Rows.stacksBackSpec.pre6 enc Try.prog Try.f9 Rows.stacksBackRow.domain false) (Rows.stacksBackSpec.post enc Try.prog Try.f9 false true false false) := by
  refine returnsInHanded_of_change_sized (C := Try.checked) own started (by kernel_rfl) Try.func9
    (ChangeSpec.witness6 (enc := enc) (C := Try.checked) false ⟨#[], #[.int .i64 0, .int .i64 0, .slice none 0 0, .slice none 0 0], []⟩ 8 (by kernel_rfl) (by kernel_rfl) (by kernel_rfl) (by kernel_rfl)) ?_
  intro W base args ds gs before hval0 hW _ hsz0 _
  have hsz1 : (DataW.weightsEach Try.prog (Try.f9.params.toList ++ []) (ds ++ gs)).all (· ≤ reachBytes) = true := hsz0
  have hval : ∀ (j : Nat) t v, Try.f9.params[j]? = some t → args[j]? = some v → Value.okWide Try.prog W .any base t v := hval0
  have hW' := hW
  obtain ⟨p, q, hA0, hV, rfl, hfz, hnd⟩ := hW
  have hA : DataW.TrodAll enc Try.prog W 0 (fun _ => true) true Try.f9.params.toList args.toList ds p := hA0
  obtain ⟨rfl, rfl⟩ := trodVars_none hV
  rw [Try.params9] at hA hval hsz1
  obtain ⟨v0, v1, v2, v3, d0, d1, d2, d3, p0, p1, p2, p3, rfl, rfl, rfl, h0, h1, h2, h3⟩ := trodAll_four hA
  obtain ⟨x0, rfl, rfl, rfl, w0⟩ := open_int Try.underlying3 (hval 0 3 v0 rfl rfl) h0
  obtain ⟨x1, rfl, rfl, rfl, w1⟩ := open_int Try.underlying3 (hval 1 3 v1 rfl rfl) h1
  have hok2 := hval 2 36 v2 rfl rfl
  have hok3 := hval 3 24 v3 rfl rfl
  have hfit2 : Fits Try.prog 36 d2 := fits_each (ts := [3, 3, 36, 24]) (ds := [_, _, d2, d3]) (j := 2) (fun n hn => by
    have := List.all_eq_true.1 hsz1 n (by simpa using hn)
    simpa using this) rfl rfl
  have hfit3 : Fits Try.prog 24 d3 := fits_each (ts := [3, 3, 36, 24]) (ds := [_, _, d2, d3]) (j := 3) (fun n hn => by
    have := List.all_eq_true.1 hsz1 n (by simpa using hn)
    simpa using this) rfl rfl
  suffices key : Calls Try.prog 9 #[.int .i64 x0, .int .i64 x1, v2, v3] W fun e w' => e = .returned (.bool true) ∧ Below W.heap.size W w' by
    refine key.mono fun e W' ⟨he, hb⟩ => ?_
    subst he
    exact ⟨_, rfl, law_post (f := Try.f9) (tb := 4) (by kernel_rfl) (by rw [Try.params9]; decide +kernel) (by kernel_rfl) Try.underlying4 rfl hW' rfl hb⟩
  obtain ⟨l, hl1, hl2⟩ := Stk.read_ops hok2 h2 hfit2
  obtain ⟨more, hm1, hm2⟩ := read_i64s hok3 h3 hfit3
  rcases Stk.full_cases x0 x1 l with ⟨er, i, he, hf⟩ | ⟨a, b, ws, m, rs, rfl, rfl, g1, g2, g3, hr, hf⟩
  · exact Stk.back_bad x0 x1 v2 v3 l _ rfl W hl1 hl2 he hf
  · have hi : StackM.Inv a b [] a := ⟨g1, g2, by simp, Nat.le_refl _, g2⟩
    have hinv := (StackM.run_inv l hi hr).1
    have hwl := hinv.2.2.1
    have hwm := hinv.2.2.2.2
    by_cases hl : ws.length + more.length ≤ b
    · obtain ⟨m', rs', hb⟩ := StackM.run_back a b l more ws m a rs hi hr hl
      have hg : Stk.full a b (l ++ Stk.pushes more ++ [((2, (more.length : Int), 0) : StackM.Op)]) = (0, 0, ws, rs'.map Int.ofNat) := by
        unfold Stk.full
        rw [if_pos ⟨by omega, by omega, by omega⟩]
        simp only [Int.toNat_natCast, Stk.pushes]
        rw [hb]
        rfl
      exact Stk.back_in a b v2 v3 l _ rfl W hl1 hl2 more _ rfl hm1 g3 hl hf hg
    · exact Stk.back_much a b v2 v3 l _ rfl W hl1 hl2 more _ hm1 hm2 g3 (by omega) (by omega) hf

theorem proved : Rows.StacksBackSaid :=
  OpenClaim.holds_of_wide 9 Try.f9 rfl rfl rfl rfl rfl rfl rfl ⟨rfl, rfl, rfl, rfl, rfl⟩ rfl rfl rfl rfl rfl (by kernel_rfl) Try.func9 (by kernel_rfl)
    (of_decide_eq_true (by kernel_rfl)) (by unfold Func.isWrapper; rw [if_neg (of_decide_eq_false (by kernel_rfl))]; exact ⟨rfl, rfl⟩)
    (fun os started H enc _ => lifted os started H enc)

#print axioms proved
end Go.Proofs.Ytninmkkcphnniaa.StacksBack
