/-
  No cell of these rows narrows 'for every input' (looked for: loops, veiled, ifaces, maps, wideKeys, modest, calm, conditions, laid).
  DERIVED. THE GIVEN ROWS OF THIS SEAT. 4 by the template 'for every input the law returns true; each argument reads behind the call as it read before'; 0 by the template 'total and deterministic' (their statements: YtgnhfinabhimpaaTotals.lean).
  GIVEN WITH THE SEED: the statements are not yours to turn. If you find one false, say at which input.
  Laid BY PROGRAM, IN A SANDBOX (cutbox-rows.mjs): the forced cells as the released guide's own fill.sh prints them over the translation 046baa03c4ff8e21… (all of the seat's roots in one cut). By AI agents, Wed Nov 11 2026. No macro, syntax, notation, axiom, sorry.
-/
import Derived.Test.YtgnhfinabhimpaaChecked
import GoSem.Claim
import GoSem.ClaimJoined
import GoSem.ClaimMapViews
import Derived.JoinedTies
import Derived.KernelRfl
namespace Go.Proofs.Ytgnhfinabhimpaa
/- THE CELL 'sum', in the pinned program and in every row, IS THE sha256 OF THE DUMP (.gsa) THAT YtgnhfinabhimpaaProg.lean LOADS. Nothing in Lean hashes anything: it is a label: what it is worth is what the hold of that sum in a sandbox is worth. -/
noncomputable def Try.pinned : Pinned := { name := "ytgnhfinabhimpaa", sum := "046baa03c4ff8e21f013cb8b004192f925e3bff71b0114e38d4b7c548a64bee1", checked := Try.checked }
namespace Rows
def none {H : Type} : Left H := { results := [], args := [] }

/-- 'yieldlaw9.SoloGoes': WHATEVER THE INPUT: true; the input reads as it did. -/
def soloGoesSpec : ChangeSpec := { name := "soloGoes", fn := fun _ => fun
  | [d1, d2, d3, d4] => { results := [.lit (.bool true)], args := [d1, d2, d3, d4] }
  | _ => none }
def soloGoesRow : OpenClaim := { program := "ytgnhfinabhimpaa", sum := "046baa03c4ff8e21f013cb8b004192f925e3bff71b0114e38d4b7c548a64bee1", func := "yieldshape/yieldlaw9.SoloGoes", spec := "soloGoes", unfollowed := true, recurses := true, apart := false }
def SoloGoesSaid : Prop := soloGoesRow.holds Try.pinned (OpenSpec.ofChange soloGoesSpec)

/-- ITS FALSE NEIGHBOUR: 'it returns false'. Refute it at one input. -/
def soloGoesWrong : ChangeSpec := { name := "soloGoes", fn := fun _ => fun
  | [d1, d2, d3, d4] => { results := [.lit (.bool false)], args := [d1, d2, d3, d4] }
  | _ => none }
def SoloGoesWrongFalsely : Prop := soloGoesRow.holds Try.pinned (OpenSpec.ofChange soloGoesWrong)

/-- 'yieldlaw9.SoloGrows': WHATEVER THE INPUT: true; the input reads as it did. -/
def soloGrowsSpec : ChangeSpec := { name := "soloGrows", fn := fun _ => fun
  | [d1, d2, d3, d4, d5] => { results := [.lit (.bool true)], args := [d1, d2, d3, d4, d5] }
  | _ => none }
def soloGrowsRow : OpenClaim := { program := "ytgnhfinabhimpaa", sum := "046baa03c4ff8e21f013cb8b004192f925e3bff71b0114e38d4b7c548a64bee1", func := "yieldshape/yieldlaw9.SoloGrows", spec := "soloGrows", unfollowed := true, recurses := true, apart := false }
def SoloGrowsSaid : Prop := soloGrowsRow.holds Try.pinned (OpenSpec.ofChange soloGrowsSpec)

/-- ITS FALSE NEIGHBOUR: 'it returns false'. Refute it at one input. -/
def soloGrowsWrong : ChangeSpec := { name := "soloGrows", fn := fun _ => fun
  | [d1, d2, d3, d4, d5] => { results := [.lit (.bool false)], args := [d1, d2, d3, d4, d5] }
  | _ => none }
def SoloGrowsWrongFalsely : Prop := soloGrowsRow.holds Try.pinned (OpenSpec.ofChange soloGrowsWrong)

/-- 'yieldlaw9.SoloFurther': WHATEVER THE INPUT: true; the input reads as it did. -/
def soloFurtherSpec : ChangeSpec := { name := "soloFurther", fn := fun _ => fun
  | [d1, d2, d3, d4, d5] => { results := [.lit (.bool true)], args := [d1, d2, d3, d4, d5] }
  | _ => none }
def soloFurtherRow : OpenClaim := { program := "ytgnhfinabhimpaa", sum := "046baa03c4ff8e21f013cb8b004192f925e3bff71b0114e38d4b7c548a64bee1", func := "yieldshape/yieldlaw9.SoloFurther", spec := "soloFurther", unfollowed := true, recurses := true, apart := false }
def SoloFurtherSaid : Prop := soloFurtherRow.holds Try.pinned (OpenSpec.ofChange soloFurtherSpec)

/-- ITS FALSE NEIGHBOUR: 'it returns false'. Refute it at one input. -/
def soloFurtherWrong : ChangeSpec := { name := "soloFurther", fn := fun _ => fun
  | [d1, d2, d3, d4, d5] => { results := [.lit (.bool false)], args := [d1, d2, d3, d4, d5] }
  | _ => none }
def SoloFurtherWrongFalsely : Prop := soloFurtherRow.holds Try.pinned (OpenSpec.ofChange soloFurtherWrong)

/-- 'yieldlaw9.SoloTells': WHATEVER THE INPUT: true; the input reads as it did. -/
def soloTellsSpec : ChangeSpec := { name := "soloTells", fn := fun _ => fun
  | [d1, d2, d3, d4] => { results := [.lit (.bool true)], args := [d1, d2, d3, d4] }
  | _ => none }
def soloTellsRow : OpenClaim := { program := "ytgnhfinabhimpaa", sum := "046baa03c4ff8e21f013cb8b004192f925e3bff71b0114e38d4b7c548a64bee1", func := "yieldshape/yieldlaw9.SoloTells", spec := "soloTells", unfollowed := true, recurses := true, apart := false }
def SoloTellsSaid : Prop := soloTellsRow.holds Try.pinned (OpenSpec.ofChange soloTellsSpec)

/-- ITS FALSE NEIGHBOUR: 'it returns false'. Refute it at one input. -/
def soloTellsWrong : ChangeSpec := { name := "soloTells", fn := fun _ => fun
  | [d1, d2, d3, d4] => { results := [.lit (.bool false)], args := [d1, d2, d3, d4] }
  | _ => none }
def SoloTellsWrongFalsely : Prop := soloTellsRow.holds Try.pinned (OpenSpec.ofChange soloTellsWrong)

/- THE SECOND FORM. 'bulk': how many values and letters a reading holds, each counted each time it is reached (what is shared counts as often as it is met; a slice's spare places count too). A statement '..UptoSaid' is the law's where the arguments, and the package variables that the reading takes, are together of bulk at most 1048576: NARROWER than '..Said'. Prove '..Said' where nothing that the law and all that it calls make is longer than what came in: it says more and counts as full. Else prove '..UptoSaid'. A law counts once. -/
mutual
def uptoBulk {H : Type} : DataW H → Nat
  | .lit (.string bytes) => bytes.length + 1
  | .lit _ => 1
  | .nil => 1
  | .ptr d => uptoBulk d + 1
  | .slice elems spare => uptoBulkAll elems + uptoBulkAll spare + 1
  | .agg parts => uptoBulkAll parts + 1
  | .iface _ d => uptoBulk d + 1
  | .map entries => uptoBulkEntries entries + 1
  | .held _ => 1
def uptoBulkAll {H : Type} : List (DataW H) → Nat
  | [] => 0
  | d :: r => uptoBulk d + uptoBulkAll r
def uptoBulkEntries {H : Type} : List (Lit × DataW H) → Nat
  | [] => 0
  | x :: r => uptoBulkEntry x + uptoBulkEntries r
def uptoBulkEntry {H : Type} : Lit × DataW H → Nat
  | (.string bytes, d) => bytes.length + uptoBulk d + 1
  | (_, d) => uptoBulk d + 1
 end
def uptoSmall : (H : Type) → List (DataW H) → Bool := fun _ ds => decide (uptoBulkAll ds ≤ 1048576)
def OpenSpec.upto (s : _root_.Go.ChangeSpec) : _root_.Go.OpenSpec := { _root_.Go.OpenSpec.ofChange s with cond := some uptoSmall }

/-- 'yieldlaw9.SoloGoes', WHERE WHAT IT READS IS OF BULK AT MOST 1048576: true; the input reads as it did. -/
def soloGoesUptoRow : OpenClaim := { program := "ytgnhfinabhimpaa", sum := "046baa03c4ff8e21f013cb8b004192f925e3bff71b0114e38d4b7c548a64bee1", func := "yieldshape/yieldlaw9.SoloGoes", spec := "soloGoes", unfollowed := true, recurses := true, apart := false, narrowed := true }
def SoloGoesUptoSaid : Prop := soloGoesUptoRow.holds Try.pinned (OpenSpec.upto soloGoesSpec)

/-- 'yieldlaw9.SoloGrows', WHERE WHAT IT READS IS OF BULK AT MOST 1048576: true; the input reads as it did. -/
def soloGrowsUptoRow : OpenClaim := { program := "ytgnhfinabhimpaa", sum := "046baa03c4ff8e21f013cb8b004192f925e3bff71b0114e38d4b7c548a64bee1", func := "yieldshape/yieldlaw9.SoloGrows", spec := "soloGrows", unfollowed := true, recurses := true, apart := false, narrowed := true }
def SoloGrowsUptoSaid : Prop := soloGrowsUptoRow.holds Try.pinned (OpenSpec.upto soloGrowsSpec)

/-- 'yieldlaw9.SoloFurther', WHERE WHAT IT READS IS OF BULK AT MOST 1048576: true; the input reads as it did. -/
def soloFurtherUptoRow : OpenClaim := { program := "ytgnhfinabhimpaa", sum := "046baa03c4ff8e21f013cb8b004192f925e3bff71b0114e38d4b7c548a64bee1", func := "yieldshape/yieldlaw9.SoloFurther", spec := "soloFurther", unfollowed := true, recurses := true, apart := false, narrowed := true }
def SoloFurtherUptoSaid : Prop := soloFurtherUptoRow.holds Try.pinned (OpenSpec.upto soloFurtherSpec)

/-- 'yieldlaw9.SoloTells', WHERE WHAT IT READS IS OF BULK AT MOST 1048576: true; the input reads as it did. -/
def soloTellsUptoRow : OpenClaim := { program := "ytgnhfinabhimpaa", sum := "046baa03c4ff8e21f013cb8b004192f925e3bff71b0114e38d4b7c548a64bee1", func := "yieldshape/yieldlaw9.SoloTells", spec := "soloTells", unfollowed := true, recurses := true, apart := false, narrowed := true }
def SoloTellsUptoSaid : Prop := soloTellsUptoRow.holds Try.pinned (OpenSpec.upto soloTellsSpec)

end Rows
end Go.Proofs.Ytgnhfinabhimpaa
