/- How []api.MailOp is read. -/
import Derived.Test.YtninmkkcphnniaaProg
import Derived.Test.YtninmkkcphnniaaMailPlay
import Derived.Test.YtninmkkcphnniaaRead
namespace Go.Proofs.Ytninmkkcphnniaa.Mail
open Go.ChangeShapes Go.WideShapes Go.ChangeAt Go.RowKit
set_option linter.unusedVariables false

set_option maxRecDepth 100000 in
/-- an element of []api.MailOp -/
theorem el_op {H : Type} {enc : TypeId × Value → H} {w : World} : ∀ fuel cs (x : DataW H × List MemPlace), Trd enc Try.prog w fuel 34 cs x → Fits Try.prog 34 x.1 → cs.length = 2 → ∃ o : Bool × Int, cs = [.bool o.1, .int .i64 o.2] ∧ True := by
  intro fuel cs x h _ hlen
  obtain ⟨y0, y1, n, _, _, hy0, hy1⟩ := trod_struct2 Try.underlying34 h
  match cs, hlen with
  | [c0, c1], _ =>
    have e0 : ([c0, c1].drop 0).take (Try.prog.cellsOf 4) = [c0] := by rw [show Try.prog.cellsOf 4 = 1 by kernel_rfl]; rfl
    have e1 : ([c0, c1].drop 1).take (Try.prog.cellsOf 2) = [c1] := by rw [show Try.prog.cellsOf 2 = 1 by kernel_rfl]; rfl
    have hy0' := hy0
    have hy1' := hy1
    simp only [e0, e1] at hy0' hy1'
    obtain ⟨b, hb, _⟩ := DataW.trod_bool Try.underlying4 hy0'
    obtain ⟨z, hz, _, _⟩ := DataW.trod_int Try.underlying2 hy1'
    simp at hb hz
    exact ⟨(b, z), by rw [hb, hz], trivial⟩

set_option maxRecDepth 100000 in
theorem read_ops {H : Type} {enc : TypeId × Value → H} {w : World} {base : Nat} {v : Value} (hok : Value.okWide Try.prog w .any base 22 v) {d : DataW H} {p : List MemPlace} (h : DataW.Trod enc Try.prog w 0 (fun _ => true) true 22 v d p) (hf : Fits Try.prog 22 d) :
    ∃ l : List (Bool × Int), Row w v 2 l.length (Mail.opCells l) ∧ l.length * 16 ≤ 140737488351232 ∧ (∀ b, v.ownBlock = some b → 0 < l.length → b < w.heap.size) := by
  obtain ⟨fuel, h⟩ := h
  obtain ⟨v', l, hv, h1, -, h2, h3⟩ := read_slice (fun o : Bool × Int => [.bool o.1, .int .i64 o.2]) (fun _ => True) Try.underlying22 (show Try.prog.cellsOf 34 = 2 by kernel_rfl) (by decide) el_op h hf
  obtain ⟨a, n, c, rfl⟩ := okWide_slice Try.underlying22 hok
  have e : Value.slice a n c = v' := by simpa [Value.cells] using hv
  subst e
  rw [show Try.prog.bytesOf 34 = 16 by kernel_rfl] at h2
  exact ⟨l, h1, h2, h3⟩

end Go.Proofs.Ytninmkkcphnniaa.Mail
