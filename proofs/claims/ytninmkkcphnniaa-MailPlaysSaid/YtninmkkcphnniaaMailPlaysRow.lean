/- MailPlays: for every number of places and every list of doings, the call answers true (both Plays answer the same), and the arguments read as before. No condition of my own. -/
import Derived.Test.YtninmkkcphnniaaRows
import Derived.Test.YtninmkkcphnniaaMailLaw1
import Derived.Test.YtninmkkcphnniaaRead
namespace Go.Proofs.Ytninmkkcphnniaa.MailPlays
open Go.ChangeShapes Go.WideShapes Go.ChangeAt Go.RowKit
set_option linter.unusedVariables false

theorem own : ownKnob Try.prog.godebug = none := by kernel_rfl

set_option maxRecDepth 100000 in
/-- an element of []api.MailOp -/
theorem el_op {H : Type} {enc : TypeId × Value → H} {w : World} : ∀ fuel cs (x : DataW H × List MemPlace), Trd enc Try.prog w fuel 34 cs x → Fits Try.prog 34 x.1 → cs.length = 2 → ∃ o : Bool × Int, cs = [.bool o.1, .int .i64 o.2] ∧ True := by
  intro fuel cs x h _ hlen
  obtain ⟨y0, y1, n, _, _, hy0, hy1⟩ := trod_struct2 Try.underlying34 h
  match cs, hlen with
  | [c0, c1], _ =>
    have e0 : ([c0, c1].drop 0).take (Try.prog.cellsOf 4) = [c0] := by rw [show Try.prog.cellsOf 4 = 1 by kernel_rfl]; rfl
    have e1 : ([c0, c1].drop 1).take (Try.prog.cellsOf 2) = [c1] := by rw [show Try.prog.cellsOf 2 = 1 by kernel_rfl]; rfl
    have hy0' := hy0
    have hy1' := hy1
    simp only [e0, e1] at hy0' hy1'
    obtain ⟨b, hb, _⟩ := DataW.trod_bool Try.underlying4 hy0'
    obtain ⟨z, hz, _, _⟩ := DataW.trod_int Try.underlying2 hy1'
    simp at hb hz
    exact ⟨(b, z), by rw [hb, hz], trivial⟩

theorem read_ops {H : Type} {enc : TypeId × Value → H} {w : World} {v : Value} (hv0 : ∃ a n c, v = .slice a n c) {d : DataW H} {p : List MemPlace} (h : DataW.Trod enc Try.prog w 0 (fun _ => true) true 22 v d p) (hf : Fits Try.prog 22 d) :
    ∃ l : List (Bool × Int), Row w v 2 l.length (Mail.opCells l) ∧ l.length * 16 ≤ 140737488351232 ∧ (∀ b, v.ownBlock = some b → 0 < l.length → b < w.heap.size) := by
  obtain ⟨fuel, h⟩ := h
  obtain ⟨v', l, hv, h1, -, h2, h3⟩ := read_slice (fun o : Bool × Int => [.bool o.1, .int .i64 o.2]) (fun _ => True) Try.underlying22 (show Try.prog.cellsOf 34 = 2 by kernel_rfl) (by decide) el_op h hf
  obtain ⟨a, n, c, rfl⟩ := hv0
  have e : Value.slice a n c = v' := by simpa [Value.cells] using hv
  subst e
  rw [show Try.prog.bytesOf 34 = 16 by kernel_rfl] at h2
  exact ⟨l, h1, h2, h3⟩

set_option maxRecDepth 100000 in
set_option maxHeartbeats 1000000 in
theorem lifted (os : Os) (started : os.Started) (H : Type) (enc : TypeId × Value → H) :
    ReturnsInHanded {} Try.checked os 3 .any (Rows.mailPlaysSpec.pre6 enc Try.prog Try.f3 Rows.mailPlaysRow.domain false) (Rows.mailPlaysSpec.post enc Try.prog Try.f3 false true false false) := by
  refine returnsInHanded_of_change_sized (C := Try.checked) own started (by kernel_rfl) Try.func3
    (ChangeSpec.witness6 (enc := enc) (C := Try.checked) false ⟨#[], #[.int .i64 0, .slice none 0 0], []⟩ 8 (by kernel_rfl) (by kernel_rfl) (by kernel_rfl) (by kernel_rfl)) ?_
  intro W base args ds gs before hval0 hW _ hsz0 _
  have hsz1 : (DataW.weightsEach Try.prog (Try.f3.params.toList ++ []) (ds ++ gs)).all (· ≤ reachBytes) = true := hsz0
  have hval : ∀ (j : Nat) t v, Try.f3.params[j]? = some t → args[j]? = some v → Value.okWide Try.prog W .any base t v := hval0
  have hW' := hW
  obtain ⟨p, q, hA0, hV, rfl, hfz, hnd⟩ := hW
  have hA : DataW.TrodAll enc Try.prog W 0 (fun _ => true) true Try.f3.params.toList args.toList ds p := hA0
  obtain ⟨rfl, rfl⟩ := trodVars_none hV
  rw [Try.params3] at hA hval hsz1
  obtain ⟨v0, v1, d0, d1, p0, p1, rfl, rfl, rfl, h0, h1⟩ := trodAll_two hA
  obtain ⟨x, rfl, rfl, rfl, wx⟩ := open_int Try.underlying3 (hval 0 3 v0 rfl rfl) h0
  have hfit : Fits Try.prog 22 d1 := fits_each (ts := [3, 22]) (ds := [_, d1]) (j := 1) (fun n hn => by
    have := List.all_eq_true.1 hsz1 n (by simpa using hn)
    simpa using this) rfl rfl
  obtain ⟨l, hl1, hl2, hl3⟩ := read_ops (okWide_slice Try.underlying22 (hval 1 22 v1 rfl rfl)) h1 hfit
  have key : Calls Try.prog 3 #[.int .i64 x, v1] W fun e w' => e = .returned (.bool true) ∧ Below W.heap.size W w' := by
    by_cases hx : 1 ≤ x ∧ x ≤ 20
    · exact Mail.plays_in x v1 l _ rfl W hl1 hl2 hl3 hx.1 hx.2
    · exact Mail.plays_out x v1 W (by omega)
  refine key.mono fun e W' ⟨he, hb⟩ => ?_
  subst he
  exact ⟨_, rfl, law_post (f := Try.f3) (tb := 4) (by kernel_rfl) (by rw [Try.params3]; decide +kernel) (by kernel_rfl) Try.underlying4 rfl hW' rfl hb⟩

theorem proved : Rows.MailPlaysSaid :=
  OpenClaim.holds_of_wide 3 Try.f3 rfl rfl rfl rfl rfl rfl rfl ⟨rfl, rfl, rfl, rfl, rfl⟩ rfl rfl rfl rfl rfl (by kernel_rfl) Try.func3 (by kernel_rfl)
    (of_decide_eq_true (by kernel_rfl)) (by unfold Func.isWrapper; rw [if_neg (of_decide_eq_false (by kernel_rfl))]; exact ⟨rfl, rfl⟩)
    (fun os started H enc _ => lifted os started H enc)

#print axioms proved
end Go.Proofs.Ytninmkkcphnniaa.MailPlays
