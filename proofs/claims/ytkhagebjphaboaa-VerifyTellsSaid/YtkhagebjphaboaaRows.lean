/-
  No cell of these rows narrows 'for every input' (looked for: loops, veiled, ifaces, maps, wideKeys, modest, calm, conditions, laid).
  DERIVED. THE GIVEN ROWS OF THIS SEAT. 3 by the template 'for every input the law returns true; each argument reads behind the call as it read before'; 0 by the template 'total and deterministic' (their statements: YtkhagebjphaboaaTotals.lean).
  GIVEN WITH THE SEED: the statements are not yours to turn. If you find one false, say at which input.
  Laid BY PROGRAM, IN A SANDBOX (cutbox-rows.mjs): the forced cells as the released guide's own fill.sh prints them over the translation 923e211627494996… (all of the seat's roots in one cut). By AI agents, Wed Nov 11 2026. No macro, syntax, notation, axiom, sorry.
-/
import Derived.Test.YtkhagebjphaboaaChecked
import GoSem.Claim
import GoSem.ClaimJoined
import GoSem.ClaimMapViews
import Derived.JoinedTies
import Derived.KernelRfl
namespace Go.Proofs.Ytkhagebjphaboaa
/- THE CELL 'sum', in the pinned program and in every row, IS THE sha256 OF THE DUMP (.gsa) THAT YtkhagebjphaboaaProg.lean LOADS. Nothing in Lean hashes anything: it is a label: what it is worth is what the hold of that sum in a sandbox is worth. -/
noncomputable def Try.pinned : Pinned := { name := "ytkhagebjphaboaa", sum := "923e211627494996c5b95bc9dc2ee51003bbb4d115f18695e2e4daf24f3dc6c8", checked := Try.checked }
namespace Rows
def none {H : Type} : Left H := { results := [], args := [] }

/-- 'yieldlaw7.VerifyTells': WHATEVER THE INPUT: true; the input reads as it did. -/
def verifyTellsSpec : ChangeSpec := { name := "verifyTells", fn := fun _ => fun
  | [d] => { results := [.lit (.bool true)], args := [d] }
  | _ => none }
def verifyTellsRow : OpenClaim := { program := "ytkhagebjphaboaa", sum := "923e211627494996c5b95bc9dc2ee51003bbb4d115f18695e2e4daf24f3dc6c8", func := "yieldshape/yieldlaw7.VerifyTells", spec := "verifyTells", unfollowed := true, recurses := true, apart := false }
def VerifyTellsSaid : Prop := verifyTellsRow.holds Try.pinned (OpenSpec.ofChange verifyTellsSpec)

/-- ITS FALSE NEIGHBOUR: 'it returns false'. Refute it at one input. -/
def verifyTellsWrong : ChangeSpec := { name := "verifyTells", fn := fun _ => fun
  | [d] => { results := [.lit (.bool false)], args := [d] }
  | _ => none }
def VerifyTellsWrongFalsely : Prop := verifyTellsRow.holds Try.pinned (OpenSpec.ofChange verifyTellsWrong)

/-- 'yieldlaw7.VerifyMore': WHATEVER THE INPUT: true; the input reads as it did. -/
def verifyMoreSpec : ChangeSpec := { name := "verifyMore", fn := fun _ => fun
  | [d1, d2] => { results := [.lit (.bool true)], args := [d1, d2] }
  | _ => none }
def verifyMoreRow : OpenClaim := { program := "ytkhagebjphaboaa", sum := "923e211627494996c5b95bc9dc2ee51003bbb4d115f18695e2e4daf24f3dc6c8", func := "yieldshape/yieldlaw7.VerifyMore", spec := "verifyMore", unfollowed := true, recurses := true, apart := false }
def VerifyMoreSaid : Prop := verifyMoreRow.holds Try.pinned (OpenSpec.ofChange verifyMoreSpec)

/-- ITS FALSE NEIGHBOUR: 'it returns false'. Refute it at one input. -/
def verifyMoreWrong : ChangeSpec := { name := "verifyMore", fn := fun _ => fun
  | [d1, d2] => { results := [.lit (.bool false)], args := [d1, d2] }
  | _ => none }
def VerifyMoreWrongFalsely : Prop := verifyMoreRow.holds Try.pinned (OpenSpec.ofChange verifyMoreWrong)

/-- 'yieldlaw7.VerifyTasks': WHATEVER THE INPUT: true; the input reads as it did. -/
def verifyTasksSpec : ChangeSpec := { name := "verifyTasks", fn := fun _ => fun
  | [d1, d2] => { results := [.lit (.bool true)], args := [d1, d2] }
  | _ => none }
def verifyTasksRow : OpenClaim := { program := "ytkhagebjphaboaa", sum := "923e211627494996c5b95bc9dc2ee51003bbb4d115f18695e2e4daf24f3dc6c8", func := "yieldshape/yieldlaw7.VerifyTasks", spec := "verifyTasks", unfollowed := true, recurses := true, apart := false }
def VerifyTasksSaid : Prop := verifyTasksRow.holds Try.pinned (OpenSpec.ofChange verifyTasksSpec)

/-- ITS FALSE NEIGHBOUR: 'it returns false'. Refute it at one input. -/
def verifyTasksWrong : ChangeSpec := { name := "verifyTasks", fn := fun _ => fun
  | [d1, d2] => { results := [.lit (.bool false)], args := [d1, d2] }
  | _ => none }
def VerifyTasksWrongFalsely : Prop := verifyTasksRow.holds Try.pinned (OpenSpec.ofChange verifyTasksWrong)

/- THE SECOND FORM. 'bulk': how many values and letters a reading holds, each counted each time it is reached (what is shared counts as often as it is met; a slice's spare places count too). A statement '..UptoSaid' is the law's where the arguments, and the package variables that the reading takes, are together of bulk at most 1048576: NARROWER than '..Said'. Prove '..Said' where nothing that the law and all that it calls make is longer than what came in: it says more and counts as full. Else prove '..UptoSaid'. A law counts once. -/
mutual
def uptoBulk {H : Type} : DataW H → Nat
  | .lit (.string bytes) => bytes.length + 1
  | .lit _ => 1
  | .nil => 1
  | .ptr d => uptoBulk d + 1
  | .slice elems spare => uptoBulkAll elems + uptoBulkAll spare + 1
  | .agg parts => uptoBulkAll parts + 1
  | .iface _ d => uptoBulk d + 1
  | .map entries => uptoBulkEntries entries + 1
  | .held _ => 1
def uptoBulkAll {H : Type} : List (DataW H) → Nat
  | [] => 0
  | d :: r => uptoBulk d + uptoBulkAll r
def uptoBulkEntries {H : Type} : List (Lit × DataW H) → Nat
  | [] => 0
  | x :: r => uptoBulkEntry x + uptoBulkEntries r
def uptoBulkEntry {H : Type} : Lit × DataW H → Nat
  | (.string bytes, d) => bytes.length + uptoBulk d + 1
  | (_, d) => uptoBulk d + 1
 end
def uptoSmall : (H : Type) → List (DataW H) → Bool := fun _ ds => decide (uptoBulkAll ds ≤ 1048576)
def OpenSpec.upto (s : _root_.Go.ChangeSpec) : _root_.Go.OpenSpec := { _root_.Go.OpenSpec.ofChange s with cond := some uptoSmall }

/-- 'yieldlaw7.VerifyTells', WHERE WHAT IT READS IS OF BULK AT MOST 1048576: true; the input reads as it did. -/
def verifyTellsUptoRow : OpenClaim := { program := "ytkhagebjphaboaa", sum := "923e211627494996c5b95bc9dc2ee51003bbb4d115f18695e2e4daf24f3dc6c8", func := "yieldshape/yieldlaw7.VerifyTells", spec := "verifyTells", unfollowed := true, recurses := true, apart := false, narrowed := true }
def VerifyTellsUptoSaid : Prop := verifyTellsUptoRow.holds Try.pinned (OpenSpec.upto verifyTellsSpec)

/-- 'yieldlaw7.VerifyMore', WHERE WHAT IT READS IS OF BULK AT MOST 1048576: true; the input reads as it did. -/
def verifyMoreUptoRow : OpenClaim := { program := "ytkhagebjphaboaa", sum := "923e211627494996c5b95bc9dc2ee51003bbb4d115f18695e2e4daf24f3dc6c8", func := "yieldshape/yieldlaw7.VerifyMore", spec := "verifyMore", unfollowed := true, recurses := true, apart := false, narrowed := true }
def VerifyMoreUptoSaid : Prop := verifyMoreUptoRow.holds Try.pinned (OpenSpec.upto verifyMoreSpec)

/-- 'yieldlaw7.VerifyTasks', WHERE WHAT IT READS IS OF BULK AT MOST 1048576: true; the input reads as it did. -/
def verifyTasksUptoRow : OpenClaim := { program := "ytkhagebjphaboaa", sum := "923e211627494996c5b95bc9dc2ee51003bbb4d115f18695e2e4daf24f3dc6c8", func := "yieldshape/yieldlaw7.VerifyTasks", spec := "verifyTasks", unfollowed := true, recurses := true, apart := false, narrowed := true }
def VerifyTasksUptoSaid : Prop := verifyTasksUptoRow.holds Try.pinned (OpenSpec.upto verifyTasksSpec)

end Rows
end Go.Proofs.Ytkhagebjphaboaa
