/-
  No cell of these rows narrows 'for every input' (looked for: loops, veiled, ifaces, maps, wideKeys, modest, calm, conditions, laid).
  DERIVED. THE GIVEN ROWS OF THIS SEAT. 9 by the template 'for every input the law returns true; each argument reads behind the call as it read before'; 0 by the template 'total and deterministic' (their statements: YtjehflelkpacfaaTotals.lean).
  GIVEN WITH THE SEED: the statements are not yours to turn. If you find one false, say at which input.
  Laid BY PROGRAM, IN A SANDBOX (cutbox-rows.mjs): the forced cells as the released guide's own fill.sh prints them over the translation 766ed546c8ba0556… (all of the seat's roots in one cut). By AI agents, Wed Nov 11 2026. No macro, syntax, notation, axiom, sorry.
-/
import Derived.Test.YtjehflelkpacfaaChecked
import GoSem.Claim
import GoSem.ClaimJoined
import GoSem.ClaimMapViews
import Derived.JoinedTies
import Derived.KernelRfl
namespace Go.Proofs.Ytjehflelkpacfaa
/- THE CELL 'sum', in the pinned program and in every row, IS THE sha256 OF THE DUMP (.gsa) THAT YtjehflelkpacfaaProg.lean LOADS. Nothing in Lean hashes anything: it is a label: what it is worth is what the hold of that sum in a sandbox is worth. -/
noncomputable def Try.pinned : Pinned := { name := "ytjehflelkpacfaa", sum := "766ed546c8ba0556fdb24f2b84481cc0b0ad6ba77b7974b85bc980f58bbe344a", checked := Try.checked }
namespace Rows
def none {H : Type} : Left H := { results := [], args := [] }

/-- 'yieldlaw10.SchedQuantum': WHATEVER THE INPUT: true; the input reads as it did. -/
def schedQuantumSpec : ChangeSpec := { name := "schedQuantum", fn := fun _ => fun
  | [d1, d2, d3, d4, d5] => { results := [.lit (.bool true)], args := [d1, d2, d3, d4, d5] }
  | _ => none }
def schedQuantumRow : OpenClaim := { program := "ytjehflelkpacfaa", sum := "766ed546c8ba0556fdb24f2b84481cc0b0ad6ba77b7974b85bc980f58bbe344a", func := "yieldshape/yieldlaw10.SchedQuantum", spec := "schedQuantum", unfollowed := true, recurses := true, apart := false }
def SchedQuantumSaid : Prop := schedQuantumRow.holds Try.pinned (OpenSpec.ofChange schedQuantumSpec)

/-- ITS FALSE NEIGHBOUR: 'it returns false'. Refute it at one input. -/
def schedQuantumWrong : ChangeSpec := { name := "schedQuantum", fn := fun _ => fun
  | [d1, d2, d3, d4, d5] => { results := [.lit (.bool false)], args := [d1, d2, d3, d4, d5] }
  | _ => none }
def SchedQuantumWrongFalsely : Prop := schedQuantumRow.holds Try.pinned (OpenSpec.ofChange schedQuantumWrong)

/-- 'yieldlaw10.SchedCounts': WHATEVER THE INPUT: true; the input reads as it did. -/
def schedCountsSpec : ChangeSpec := { name := "schedCounts", fn := fun _ => fun
  | [d1, d2] => { results := [.lit (.bool true)], args := [d1, d2] }
  | _ => none }
def schedCountsRow : OpenClaim := { program := "ytjehflelkpacfaa", sum := "766ed546c8ba0556fdb24f2b84481cc0b0ad6ba77b7974b85bc980f58bbe344a", func := "yieldshape/yieldlaw10.SchedCounts", spec := "schedCounts", unfollowed := true, recurses := true, apart := false }
def SchedCountsSaid : Prop := schedCountsRow.holds Try.pinned (OpenSpec.ofChange schedCountsSpec)

/-- ITS FALSE NEIGHBOUR: 'it returns false'. Refute it at one input. -/
def schedCountsWrong : ChangeSpec := { name := "schedCounts", fn := fun _ => fun
  | [d1, d2] => { results := [.lit (.bool false)], args := [d1, d2] }
  | _ => none }
def SchedCountsWrongFalsely : Prop := schedCountsRow.holds Try.pinned (OpenSpec.ofChange schedCountsWrong)

/-- 'yieldlaw10.SchedRefused': WHATEVER THE INPUT: true; the input reads as it did. -/
def schedRefusedSpec : ChangeSpec := { name := "schedRefused", fn := fun _ => fun
  | [d1, d2] => { results := [.lit (.bool true)], args := [d1, d2] }
  | _ => none }
def schedRefusedRow : OpenClaim := { program := "ytjehflelkpacfaa", sum := "766ed546c8ba0556fdb24f2b84481cc0b0ad6ba77b7974b85bc980f58bbe344a", func := "yieldshape/yieldlaw10.SchedRefused", spec := "schedRefused", unfollowed := true, recurses := true, apart := false }
def SchedRefusedSaid : Prop := schedRefusedRow.holds Try.pinned (OpenSpec.ofChange schedRefusedSpec)

/-- ITS FALSE NEIGHBOUR: 'it returns false'. Refute it at one input. -/
def schedRefusedWrong : ChangeSpec := { name := "schedRefused", fn := fun _ => fun
  | [d1, d2] => { results := [.lit (.bool false)], args := [d1, d2] }
  | _ => none }
def SchedRefusedWrongFalsely : Prop := schedRefusedRow.holds Try.pinned (OpenSpec.ofChange schedRefusedWrong)

/-- 'yieldlaw10.TraceKahn': WHATEVER THE INPUT: true; the input reads as it did. -/
def traceKahnSpec : ChangeSpec := { name := "traceKahn", fn := fun _ => fun
  | [d1, d2, d3, d4] => { results := [.lit (.bool true)], args := [d1, d2, d3, d4] }
  | _ => none }
def traceKahnRow : OpenClaim := { program := "ytjehflelkpacfaa", sum := "766ed546c8ba0556fdb24f2b84481cc0b0ad6ba77b7974b85bc980f58bbe344a", func := "yieldshape/yieldlaw10.TraceKahn", spec := "traceKahn", unfollowed := true, recurses := true, apart := false }
def TraceKahnSaid : Prop := traceKahnRow.holds Try.pinned (OpenSpec.ofChange traceKahnSpec)

/-- ITS FALSE NEIGHBOUR: 'it returns false'. Refute it at one input. -/
def traceKahnWrong : ChangeSpec := { name := "traceKahn", fn := fun _ => fun
  | [d1, d2, d3, d4] => { results := [.lit (.bool false)], args := [d1, d2, d3, d4] }
  | _ => none }
def TraceKahnWrongFalsely : Prop := traceKahnRow.holds Try.pinned (OpenSpec.ofChange traceKahnWrong)

/-- 'yieldlaw10.TraceBoxes': WHATEVER THE INPUT: true; the input reads as it did. -/
def traceBoxesSpec : ChangeSpec := { name := "traceBoxes", fn := fun _ => fun
  | [d1, d2] => { results := [.lit (.bool true)], args := [d1, d2] }
  | _ => none }
def traceBoxesRow : OpenClaim := { program := "ytjehflelkpacfaa", sum := "766ed546c8ba0556fdb24f2b84481cc0b0ad6ba77b7974b85bc980f58bbe344a", func := "yieldshape/yieldlaw10.TraceBoxes", spec := "traceBoxes", unfollowed := true, recurses := true, apart := false }
def TraceBoxesSaid : Prop := traceBoxesRow.holds Try.pinned (OpenSpec.ofChange traceBoxesSpec)

/-- ITS FALSE NEIGHBOUR: 'it returns false'. Refute it at one input. -/
def traceBoxesWrong : ChangeSpec := { name := "traceBoxes", fn := fun _ => fun
  | [d1, d2] => { results := [.lit (.bool false)], args := [d1, d2] }
  | _ => none }
def TraceBoxesWrongFalsely : Prop := traceBoxesRow.holds Try.pinned (OpenSpec.ofChange traceBoxesWrong)

/-- 'yieldlaw10.TraceWorld': WHATEVER THE INPUT: true; the input reads as it did. -/
def traceWorldSpec : ChangeSpec := { name := "traceWorld", fn := fun _ => fun
  | [d1, d2] => { results := [.lit (.bool true)], args := [d1, d2] }
  | _ => none }
def traceWorldRow : OpenClaim := { program := "ytjehflelkpacfaa", sum := "766ed546c8ba0556fdb24f2b84481cc0b0ad6ba77b7974b85bc980f58bbe344a", func := "yieldshape/yieldlaw10.TraceWorld", spec := "traceWorld", unfollowed := true, recurses := true, apart := false }
def TraceWorldSaid : Prop := traceWorldRow.holds Try.pinned (OpenSpec.ofChange traceWorldSpec)

/-- ITS FALSE NEIGHBOUR: 'it returns false'. Refute it at one input. -/
def traceWorldWrong : ChangeSpec := { name := "traceWorld", fn := fun _ => fun
  | [d1, d2] => { results := [.lit (.bool false)], args := [d1, d2] }
  | _ => none }
def TraceWorldWrongFalsely : Prop := traceWorldRow.holds Try.pinned (OpenSpec.ofChange traceWorldWrong)

/-- 'yieldlaw10.SchedKahn': WHATEVER THE INPUT: true; the input reads as it did. -/
def schedKahnSpec : ChangeSpec := { name := "schedKahn", fn := fun _ => fun
  | [d1, d2, d3, d4, d5] => { results := [.lit (.bool true)], args := [d1, d2, d3, d4, d5] }
  | _ => none }
def schedKahnRow : OpenClaim := { program := "ytjehflelkpacfaa", sum := "766ed546c8ba0556fdb24f2b84481cc0b0ad6ba77b7974b85bc980f58bbe344a", func := "yieldshape/yieldlaw10.SchedKahn", spec := "schedKahn", unfollowed := true, recurses := true, apart := false }
def SchedKahnSaid : Prop := schedKahnRow.holds Try.pinned (OpenSpec.ofChange schedKahnSpec)

/-- ITS FALSE NEIGHBOUR: 'it returns false'. Refute it at one input. -/
def schedKahnWrong : ChangeSpec := { name := "schedKahn", fn := fun _ => fun
  | [d1, d2, d3, d4, d5] => { results := [.lit (.bool false)], args := [d1, d2, d3, d4, d5] }
  | _ => none }
def SchedKahnWrongFalsely : Prop := schedKahnRow.holds Try.pinned (OpenSpec.ofChange schedKahnWrong)

/-- 'yieldlaw10.SchedRest': WHATEVER THE INPUT: true; the input reads as it did. -/
def schedRestSpec : ChangeSpec := { name := "schedRest", fn := fun _ => fun
  | [d1, d2, d3] => { results := [.lit (.bool true)], args := [d1, d2, d3] }
  | _ => none }
def schedRestRow : OpenClaim := { program := "ytjehflelkpacfaa", sum := "766ed546c8ba0556fdb24f2b84481cc0b0ad6ba77b7974b85bc980f58bbe344a", func := "yieldshape/yieldlaw10.SchedRest", spec := "schedRest", unfollowed := true, recurses := true, apart := false }
def SchedRestSaid : Prop := schedRestRow.holds Try.pinned (OpenSpec.ofChange schedRestSpec)

/-- ITS FALSE NEIGHBOUR: 'it returns false'. Refute it at one input. -/
def schedRestWrong : ChangeSpec := { name := "schedRest", fn := fun _ => fun
  | [d1, d2, d3] => { results := [.lit (.bool false)], args := [d1, d2, d3] }
  | _ => none }
def SchedRestWrongFalsely : Prop := schedRestRow.holds Try.pinned (OpenSpec.ofChange schedRestWrong)

/-- 'yieldlaw10.SchedWider': WHATEVER THE INPUT: true; the input reads as it did. -/
def schedWiderSpec : ChangeSpec := { name := "schedWider", fn := fun _ => fun
  | [d1, d2] => { results := [.lit (.bool true)], args := [d1, d2] }
  | _ => none }
def schedWiderRow : OpenClaim := { program := "ytjehflelkpacfaa", sum := "766ed546c8ba0556fdb24f2b84481cc0b0ad6ba77b7974b85bc980f58bbe344a", func := "yieldshape/yieldlaw10.SchedWider", spec := "schedWider", unfollowed := true, recurses := true, apart := false }
def SchedWiderSaid : Prop := schedWiderRow.holds Try.pinned (OpenSpec.ofChange schedWiderSpec)

/-- ITS FALSE NEIGHBOUR: 'it returns false'. Refute it at one input. -/
def schedWiderWrong : ChangeSpec := { name := "schedWider", fn := fun _ => fun
  | [d1, d2] => { results := [.lit (.bool false)], args := [d1, d2] }
  | _ => none }
def SchedWiderWrongFalsely : Prop := schedWiderRow.holds Try.pinned (OpenSpec.ofChange schedWiderWrong)

/- THE SECOND FORM. 'bulk': how many values and letters a reading holds, each counted each time it is reached (what is shared counts as often as it is met; a slice's spare places count too). A statement '..UptoSaid' is the law's where the arguments, and the package variables that the reading takes, are together of bulk at most 1048576: NARROWER than '..Said'. Prove '..Said' where nothing that the law and all that it calls make is longer than what came in: it says more and counts as full. Else prove '..UptoSaid'. A law counts once. -/
mutual
def uptoBulk {H : Type} : DataW H → Nat
  | .lit (.string bytes) => bytes.length + 1
  | .lit _ => 1
  | .nil => 1
  | .ptr d => uptoBulk d + 1
  | .slice elems spare => uptoBulkAll elems + uptoBulkAll spare + 1
  | .agg parts => uptoBulkAll parts + 1
  | .iface _ d => uptoBulk d + 1
  | .map entries => uptoBulkEntries entries + 1
  | .held _ => 1
def uptoBulkAll {H : Type} : List (DataW H) → Nat
  | [] => 0
  | d :: r => uptoBulk d + uptoBulkAll r
def uptoBulkEntries {H : Type} : List (Lit × DataW H) → Nat
  | [] => 0
  | x :: r => uptoBulkEntry x + uptoBulkEntries r
def uptoBulkEntry {H : Type} : Lit × DataW H → Nat
  | (.string bytes, d) => bytes.length + uptoBulk d + 1
  | (_, d) => uptoBulk d + 1
 end
def uptoSmall : (H : Type) → List (DataW H) → Bool := fun _ ds => decide (uptoBulkAll ds ≤ 1048576)
def OpenSpec.upto (s : _root_.Go.ChangeSpec) : _root_.Go.OpenSpec := { _root_.Go.OpenSpec.ofChange s with cond := some uptoSmall }

/-- 'yieldlaw10.SchedQuantum', WHERE WHAT IT READS IS OF BULK AT MOST 1048576: true; the input reads as it did. -/
def schedQuantumUptoRow : OpenClaim := { program := "ytjehflelkpacfaa", sum := "766ed546c8ba0556fdb24f2b84481cc0b0ad6ba77b7974b85bc980f58bbe344a", func := "yieldshape/yieldlaw10.SchedQuantum", spec := "schedQuantum", unfollowed := true, recurses := true, apart := false, narrowed := true }
def SchedQuantumUptoSaid : Prop := schedQuantumUptoRow.holds Try.pinned (OpenSpec.upto schedQuantumSpec)

/-- 'yieldlaw10.SchedCounts', WHERE WHAT IT READS IS OF BULK AT MOST 1048576: true; the input reads as it did. -/
def schedCountsUptoRow : OpenClaim := { program := "ytjehflelkpacfaa", sum := "766ed546c8ba0556fdb24f2b84481cc0b0ad6ba77b7974b85bc980f58bbe344a", func := "yieldshape/yieldlaw10.SchedCounts", spec := "schedCounts", unfollowed := true, recurses := true, apart := false, narrowed := true }
def SchedCountsUptoSaid : Prop := schedCountsUptoRow.holds Try.pinned (OpenSpec.upto schedCountsSpec)

/-- 'yieldlaw10.SchedRefused', WHERE WHAT IT READS IS OF BULK AT MOST 1048576: true; the input reads as it did. -/
def schedRefusedUptoRow : OpenClaim := { program := "ytjehflelkpacfaa", sum := "766ed546c8ba0556fdb24f2b84481cc0b0ad6ba77b7974b85bc980f58bbe344a", func := "yieldshape/yieldlaw10.SchedRefused", spec := "schedRefused", unfollowed := true, recurses := true, apart := false, narrowed := true }
def SchedRefusedUptoSaid : Prop := schedRefusedUptoRow.holds Try.pinned (OpenSpec.upto schedRefusedSpec)

/-- 'yieldlaw10.TraceKahn', WHERE WHAT IT READS IS OF BULK AT MOST 1048576: true; the input reads as it did. -/
def traceKahnUptoRow : OpenClaim := { program := "ytjehflelkpacfaa", sum := "766ed546c8ba0556fdb24f2b84481cc0b0ad6ba77b7974b85bc980f58bbe344a", func := "yieldshape/yieldlaw10.TraceKahn", spec := "traceKahn", unfollowed := true, recurses := true, apart := false, narrowed := true }
def TraceKahnUptoSaid : Prop := traceKahnUptoRow.holds Try.pinned (OpenSpec.upto traceKahnSpec)

/-- 'yieldlaw10.TraceBoxes', WHERE WHAT IT READS IS OF BULK AT MOST 1048576: true; the input reads as it did. -/
def traceBoxesUptoRow : OpenClaim := { program := "ytjehflelkpacfaa", sum := "766ed546c8ba0556fdb24f2b84481cc0b0ad6ba77b7974b85bc980f58bbe344a", func := "yieldshape/yieldlaw10.TraceBoxes", spec := "traceBoxes", unfollowed := true, recurses := true, apart := false, narrowed := true }
def TraceBoxesUptoSaid : Prop := traceBoxesUptoRow.holds Try.pinned (OpenSpec.upto traceBoxesSpec)

/-- 'yieldlaw10.TraceWorld', WHERE WHAT IT READS IS OF BULK AT MOST 1048576: true; the input reads as it did. -/
def traceWorldUptoRow : OpenClaim := { program := "ytjehflelkpacfaa", sum := "766ed546c8ba0556fdb24f2b84481cc0b0ad6ba77b7974b85bc980f58bbe344a", func := "yieldshape/yieldlaw10.TraceWorld", spec := "traceWorld", unfollowed := true, recurses := true, apart := false, narrowed := true }
def TraceWorldUptoSaid : Prop := traceWorldUptoRow.holds Try.pinned (OpenSpec.upto traceWorldSpec)

/-- 'yieldlaw10.SchedKahn', WHERE WHAT IT READS IS OF BULK AT MOST 1048576: true; the input reads as it did. -/
def schedKahnUptoRow : OpenClaim := { program := "ytjehflelkpacfaa", sum := "766ed546c8ba0556fdb24f2b84481cc0b0ad6ba77b7974b85bc980f58bbe344a", func := "yieldshape/yieldlaw10.SchedKahn", spec := "schedKahn", unfollowed := true, recurses := true, apart := false, narrowed := true }
def SchedKahnUptoSaid : Prop := schedKahnUptoRow.holds Try.pinned (OpenSpec.upto schedKahnSpec)

/-- 'yieldlaw10.SchedRest', WHERE WHAT IT READS IS OF BULK AT MOST 1048576: true; the input reads as it did. -/
def schedRestUptoRow : OpenClaim := { program := "ytjehflelkpacfaa", sum := "766ed546c8ba0556fdb24f2b84481cc0b0ad6ba77b7974b85bc980f58bbe344a", func := "yieldshape/yieldlaw10.SchedRest", spec := "schedRest", unfollowed := true, recurses := true, apart := false, narrowed := true }
def SchedRestUptoSaid : Prop := schedRestUptoRow.holds Try.pinned (OpenSpec.upto schedRestSpec)

/-- 'yieldlaw10.SchedWider', WHERE WHAT IT READS IS OF BULK AT MOST 1048576: true; the input reads as it did. -/
def schedWiderUptoRow : OpenClaim := { program := "ytjehflelkpacfaa", sum := "766ed546c8ba0556fdb24f2b84481cc0b0ad6ba77b7974b85bc980f58bbe344a", func := "yieldshape/yieldlaw10.SchedWider", spec := "schedWider", unfollowed := true, recurses := true, apart := false, narrowed := true }
def SchedWiderUptoSaid : Prop := schedWiderUptoRow.holds Try.pinned (OpenSpec.upto schedWiderSpec)

end Rows
end Go.Proofs.Ytjehflelkpacfaa
