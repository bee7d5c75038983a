/- How []api.StackOp is read. -/
import Derived.Test.YtninmkkcphnniaaProg
import Derived.Test.YtninmkkcphnniaaStackPlay
import Derived.Test.YtninmkkcphnniaaRead
import Derived.Deep.Strs
namespace Go.Proofs.Ytninmkkcphnniaa.Stk
open Go.ChangeShapes Go.WideShapes Go.ChangeAt Go.RowKit
set_option linter.unusedVariables false

set_option maxRecDepth 100000 in
/-- an element of []api.StackOp -/
theorem el_op {H : Type} {enc : TypeId × Value → H} {w : World} : ∀ fuel cs (x : DataW H × List MemPlace), Trd enc Try.prog w fuel 46 cs x → Fits Try.prog 46 x.1 → cs.length = 3 → ∃ o : StackM.Op, cs = [.int .i64 o.1, .int .i64 o.2.1, .int .i64 o.2.2] ∧ True := by
  intro fuel cs x h _ hlen
  obtain ⟨y0, y1, y2, n, _, _, hy0, hy1, hy2⟩ := Go.Deep.trod_struct3 Try.underlying46 h
  match cs, hlen with
  | [c0, c1, c2], _ =>
    have e0 : ([c0, c1, c2].drop 0).take (Try.prog.cellsOf 3) = [c0] := by rw [show Try.prog.cellsOf 3 = 1 by kernel_rfl]; rfl
    have e1 : ([c0, c1, c2].drop 1).take (Try.prog.cellsOf 3) = [c1] := by rw [show Try.prog.cellsOf 3 = 1 by kernel_rfl]; rfl
    have e2 : ([c0, c1, c2].drop 2).take (Try.prog.cellsOf 2) = [c2] := by rw [show Try.prog.cellsOf 2 = 1 by kernel_rfl]; rfl
    simp only [e0, e1, e2] at hy0 hy1 hy2
    obtain ⟨a, ha, _, _⟩ := DataW.trod_int Try.underlying3 hy0
    obtain ⟨b, hb, _, _⟩ := DataW.trod_int Try.underlying3 hy1
    obtain ⟨c, hc, _, _⟩ := DataW.trod_int Try.underlying2 hy2
    simp at ha hb hc
    exact ⟨(a, b, c), by rw [ha, hb, hc], trivial⟩

set_option maxRecDepth 100000 in
theorem read_ops {H : Type} {enc : TypeId × Value → H} {w : World} {base : Nat} {v : Value} (hok : Value.okWide Try.prog w .any base 36 v) {d : DataW H} {p : List MemPlace} (h : DataW.Trod enc Try.prog w 0 (fun _ => true) true 36 v d p) (hf : Fits Try.prog 36 d) :
    ∃ l : List StackM.Op, Row w v 3 l.length (opCells l) ∧ l.length * 24 ≤ 140737488351232 := by
  obtain ⟨fuel, h⟩ := h
  obtain ⟨v', l, hv, h1, -, h2, h3⟩ := read_slice (fun o : StackM.Op => [.int .i64 o.1, .int .i64 o.2.1, .int .i64 o.2.2]) (fun _ => True) Try.underlying36 (show Try.prog.cellsOf 46 = 3 by kernel_rfl) (by decide) el_op h hf
  obtain ⟨a, n, c, rfl⟩ := okWide_slice Try.underlying36 hok
  have e : Value.slice a n c = v' := by simpa [Value.cells] using hv
  subst e
  rw [show Try.prog.bytesOf 46 = 24 by kernel_rfl] at h2
  exact ⟨l, h1, h2⟩

end Go.Proofs.Ytninmkkcphnniaa.Stk
