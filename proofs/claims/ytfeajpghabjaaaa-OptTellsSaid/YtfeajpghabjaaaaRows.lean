/-
  No cell of these rows narrows 'for every input' (looked for: loops, veiled, ifaces, maps, wideKeys, modest, calm, conditions, laid).
  DERIVED. THE GIVEN ROWS OF THIS SEAT. 5 by the template 'for every input the law returns true; each argument reads behind the call as it read before'; 0 by the template 'total and deterministic' (their statements: YtfeajpghabjaaaaTotals.lean).
  GIVEN WITH THE SEED: the statements are not yours to turn. If you find one false, say at which input.
  Laid BY PROGRAM, IN A SANDBOX (cutbox-rows.mjs): the forced cells as the released guide's own fill.sh prints them over the translation b19e3563a3923f97… (all of the seat's roots in one cut). By AI agents, Wed Nov 11 2026. No macro, syntax, notation, axiom, sorry.
-/
import Derived.Test.YtfeajpghabjaaaaChecked
import GoSem.Claim
import GoSem.ClaimJoined
import GoSem.ClaimMapViews
import Derived.JoinedTies
import Derived.KernelRfl
namespace Go.Proofs.Ytfeajpghabjaaaa
/- THE CELL 'sum', in the pinned program and in every row, IS THE sha256 OF THE DUMP (.gsa) THAT YtfeajpghabjaaaaProg.lean LOADS. Nothing in Lean hashes anything: it is a label: what it is worth is what the hold of that sum in a sandbox is worth. -/
noncomputable def Try.pinned : Pinned := { name := "ytfeajpghabjaaaa", sum := "b19e3563a3923f97802e299f8b058d61cdedab5aaf142ec782b91ac67447fd38", checked := Try.checked }
namespace Rows
def none {H : Type} : Left H := { results := [], args := [] }

/-- 'yieldlaw14.OptTells': WHATEVER THE INPUT: true; the input reads as it did. -/
def optTellsSpec : ChangeSpec := { name := "optTells", fn := fun _ => fun
  | [d] => { results := [.lit (.bool true)], args := [d] }
  | _ => none }
def optTellsRow : OpenClaim := { program := "ytfeajpghabjaaaa", sum := "b19e3563a3923f97802e299f8b058d61cdedab5aaf142ec782b91ac67447fd38", func := "yieldshape/yieldlaw14.OptTells", spec := "optTells", unfollowed := true, recurses := true, apart := false }
def OptTellsSaid : Prop := optTellsRow.holds Try.pinned (OpenSpec.ofChange optTellsSpec)

/-- ITS FALSE NEIGHBOUR: 'it returns false'. Refute it at one input. -/
def optTellsWrong : ChangeSpec := { name := "optTells", fn := fun _ => fun
  | [d] => { results := [.lit (.bool false)], args := [d] }
  | _ => none }
def OptTellsWrongFalsely : Prop := optTellsRow.holds Try.pinned (OpenSpec.ofChange optTellsWrong)

/-- 'yieldlaw14.OptVerified': WHATEVER THE INPUT: true; the input reads as it did. -/
def optVerifiedSpec : ChangeSpec := { name := "optVerified", fn := fun _ => fun
  | [d] => { results := [.lit (.bool true)], args := [d] }
  | _ => none }
def optVerifiedRow : OpenClaim := { program := "ytfeajpghabjaaaa", sum := "b19e3563a3923f97802e299f8b058d61cdedab5aaf142ec782b91ac67447fd38", func := "yieldshape/yieldlaw14.OptVerified", spec := "optVerified", unfollowed := true, recurses := true, apart := false }
def OptVerifiedSaid : Prop := optVerifiedRow.holds Try.pinned (OpenSpec.ofChange optVerifiedSpec)

/-- ITS FALSE NEIGHBOUR: 'it returns false'. Refute it at one input. -/
def optVerifiedWrong : ChangeSpec := { name := "optVerified", fn := fun _ => fun
  | [d] => { results := [.lit (.bool false)], args := [d] }
  | _ => none }
def OptVerifiedWrongFalsely : Prop := optVerifiedRow.holds Try.pinned (OpenSpec.ofChange optVerifiedWrong)

/-- 'yieldlaw14.OptOnce': WHATEVER THE INPUT: true; the input reads as it did. -/
def optOnceSpec : ChangeSpec := { name := "optOnce", fn := fun _ => fun
  | [d] => { results := [.lit (.bool true)], args := [d] }
  | _ => none }
def optOnceRow : OpenClaim := { program := "ytfeajpghabjaaaa", sum := "b19e3563a3923f97802e299f8b058d61cdedab5aaf142ec782b91ac67447fd38", func := "yieldshape/yieldlaw14.OptOnce", spec := "optOnce", unfollowed := true, recurses := true, apart := false }
def OptOnceSaid : Prop := optOnceRow.holds Try.pinned (OpenSpec.ofChange optOnceSpec)

/-- ITS FALSE NEIGHBOUR: 'it returns false'. Refute it at one input. -/
def optOnceWrong : ChangeSpec := { name := "optOnce", fn := fun _ => fun
  | [d] => { results := [.lit (.bool false)], args := [d] }
  | _ => none }
def OptOnceWrongFalsely : Prop := optOnceRow.holds Try.pinned (OpenSpec.ofChange optOnceWrong)

/-- 'yieldlaw14.OptKeeps': WHATEVER THE INPUT: true; the input reads as it did. -/
def optKeepsSpec : ChangeSpec := { name := "optKeeps", fn := fun _ => fun
  | [d] => { results := [.lit (.bool true)], args := [d] }
  | _ => none }
def optKeepsRow : OpenClaim := { program := "ytfeajpghabjaaaa", sum := "b19e3563a3923f97802e299f8b058d61cdedab5aaf142ec782b91ac67447fd38", func := "yieldshape/yieldlaw14.OptKeeps", spec := "optKeeps", unfollowed := true, recurses := true, apart := false }
def OptKeepsSaid : Prop := optKeepsRow.holds Try.pinned (OpenSpec.ofChange optKeepsSpec)

/-- ITS FALSE NEIGHBOUR: 'it returns false'. Refute it at one input. -/
def optKeepsWrong : ChangeSpec := { name := "optKeeps", fn := fun _ => fun
  | [d] => { results := [.lit (.bool false)], args := [d] }
  | _ => none }
def OptKeepsWrongFalsely : Prop := optKeepsRow.holds Try.pinned (OpenSpec.ofChange optKeepsWrong)

/-- 'yieldlaw14.OptSame': WHATEVER THE INPUT: true; the input reads as it did. -/
def optSameSpec : ChangeSpec := { name := "optSame", fn := fun _ => fun
  | [d1, d2, d3, d4] => { results := [.lit (.bool true)], args := [d1, d2, d3, d4] }
  | _ => none }
def optSameRow : OpenClaim := { program := "ytfeajpghabjaaaa", sum := "b19e3563a3923f97802e299f8b058d61cdedab5aaf142ec782b91ac67447fd38", func := "yieldshape/yieldlaw14.OptSame", spec := "optSame", unfollowed := true, recurses := true, apart := false }
def OptSameSaid : Prop := optSameRow.holds Try.pinned (OpenSpec.ofChange optSameSpec)

/-- ITS FALSE NEIGHBOUR: 'it returns false'. Refute it at one input. -/
def optSameWrong : ChangeSpec := { name := "optSame", fn := fun _ => fun
  | [d1, d2, d3, d4] => { results := [.lit (.bool false)], args := [d1, d2, d3, d4] }
  | _ => none }
def OptSameWrongFalsely : Prop := optSameRow.holds Try.pinned (OpenSpec.ofChange optSameWrong)

/- THE SECOND FORM. 'bulk': how many values and letters a reading holds, each counted each time it is reached (what is shared counts as often as it is met; a slice's spare places count too). A statement '..UptoSaid' is the law's where the arguments, and the package variables that the reading takes, are together of bulk at most 1048576: NARROWER than '..Said'. Prove '..Said' where nothing that the law and all that it calls make is longer than what came in: it says more and counts as full. Else prove '..UptoSaid'. A law counts once. -/
mutual
def uptoBulk {H : Type} : DataW H → Nat
  | .lit (.string bytes) => bytes.length + 1
  | .lit _ => 1
  | .nil => 1
  | .ptr d => uptoBulk d + 1
  | .slice elems spare => uptoBulkAll elems + uptoBulkAll spare + 1
  | .agg parts => uptoBulkAll parts + 1
  | .iface _ d => uptoBulk d + 1
  | .map entries => uptoBulkEntries entries + 1
  | .held _ => 1
def uptoBulkAll {H : Type} : List (DataW H) → Nat
  | [] => 0
  | d :: r => uptoBulk d + uptoBulkAll r
def uptoBulkEntries {H : Type} : List (Lit × DataW H) → Nat
  | [] => 0
  | x :: r => uptoBulkEntry x + uptoBulkEntries r
def uptoBulkEntry {H : Type} : Lit × DataW H → Nat
  | (.string bytes, d) => bytes.length + uptoBulk d + 1
  | (_, d) => uptoBulk d + 1
 end
def uptoSmall : (H : Type) → List (DataW H) → Bool := fun _ ds => decide (uptoBulkAll ds ≤ 1048576)
def OpenSpec.upto (s : _root_.Go.ChangeSpec) : _root_.Go.OpenSpec := { _root_.Go.OpenSpec.ofChange s with cond := some uptoSmall }

/-- 'yieldlaw14.OptTells', WHERE WHAT IT READS IS OF BULK AT MOST 1048576: true; the input reads as it did. -/
def optTellsUptoRow : OpenClaim := { program := "ytfeajpghabjaaaa", sum := "b19e3563a3923f97802e299f8b058d61cdedab5aaf142ec782b91ac67447fd38", func := "yieldshape/yieldlaw14.OptTells", spec := "optTells", unfollowed := true, recurses := true, apart := false, narrowed := true }
def OptTellsUptoSaid : Prop := optTellsUptoRow.holds Try.pinned (OpenSpec.upto optTellsSpec)

/-- 'yieldlaw14.OptVerified', WHERE WHAT IT READS IS OF BULK AT MOST 1048576: true; the input reads as it did. -/
def optVerifiedUptoRow : OpenClaim := { program := "ytfeajpghabjaaaa", sum := "b19e3563a3923f97802e299f8b058d61cdedab5aaf142ec782b91ac67447fd38", func := "yieldshape/yieldlaw14.OptVerified", spec := "optVerified", unfollowed := true, recurses := true, apart := false, narrowed := true }
def OptVerifiedUptoSaid : Prop := optVerifiedUptoRow.holds Try.pinned (OpenSpec.upto optVerifiedSpec)

/-- 'yieldlaw14.OptOnce', WHERE WHAT IT READS IS OF BULK AT MOST 1048576: true; the input reads as it did. -/
def optOnceUptoRow : OpenClaim := { program := "ytfeajpghabjaaaa", sum := "b19e3563a3923f97802e299f8b058d61cdedab5aaf142ec782b91ac67447fd38", func := "yieldshape/yieldlaw14.OptOnce", spec := "optOnce", unfollowed := true, recurses := true, apart := false, narrowed := true }
def OptOnceUptoSaid : Prop := optOnceUptoRow.holds Try.pinned (OpenSpec.upto optOnceSpec)

/-- 'yieldlaw14.OptKeeps', WHERE WHAT IT READS IS OF BULK AT MOST 1048576: true; the input reads as it did. -/
def optKeepsUptoRow : OpenClaim := { program := "ytfeajpghabjaaaa", sum := "b19e3563a3923f97802e299f8b058d61cdedab5aaf142ec782b91ac67447fd38", func := "yieldshape/yieldlaw14.OptKeeps", spec := "optKeeps", unfollowed := true, recurses := true, apart := false, narrowed := true }
def OptKeepsUptoSaid : Prop := optKeepsUptoRow.holds Try.pinned (OpenSpec.upto optKeepsSpec)

/-- 'yieldlaw14.OptSame', WHERE WHAT IT READS IS OF BULK AT MOST 1048576: true; the input reads as it did. -/
def optSameUptoRow : OpenClaim := { program := "ytfeajpghabjaaaa", sum := "b19e3563a3923f97802e299f8b058d61cdedab5aaf142ec782b91ac67447fd38", func := "yieldshape/yieldlaw14.OptSame", spec := "optSame", unfollowed := true, recurses := true, apart := false, narrowed := true }
def OptSameUptoSaid : Prop := optSameUptoRow.holds Try.pinned (OpenSpec.upto optSameSpec)

end Rows
end Go.Proofs.Ytfeajpghabjaaaa
