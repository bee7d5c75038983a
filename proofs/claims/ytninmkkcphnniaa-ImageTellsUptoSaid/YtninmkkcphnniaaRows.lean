/-
  No cell of these rows narrows 'for every input' (looked for: loops, veiled, ifaces, maps, wideKeys, modest, calm, conditions, laid).
  DERIVED. THE GIVEN ROWS OF THIS SEAT. 11 by the template 'for every input the law returns true; each argument reads behind the call as it read before'; 0 by the template 'total and deterministic' (their statements: YtninmkkcphnniaaTotals.lean).
  GIVEN WITH THE SEED: the statements are not yours to turn. If you find one false, say at which input.
  Laid BY PROGRAM, IN A SANDBOX (cutbox-rows.mjs): the forced cells as the released guide's own fill.sh prints them over the translation f45d5e0b20efdacf… (all of the seat's roots in one cut). By AI agents, Wed Nov 11 2026. No macro, syntax, notation, axiom, sorry.
-/
import Derived.Test.YtninmkkcphnniaaChecked
import GoSem.Claim
import GoSem.ClaimJoined
import GoSem.ClaimMapViews
import Derived.JoinedTies
import Derived.KernelRfl
namespace Go.Proofs.Ytninmkkcphnniaa
/- THE CELL 'sum', in the pinned program and in every row, IS THE sha256 OF THE DUMP (.gsa) THAT YtninmkkcphnniaaProg.lean LOADS. Nothing in Lean hashes anything: it is a label: what it is worth is what the hold of that sum in a sandbox is worth. -/
noncomputable def Try.pinned : Pinned := { name := "ytninmkkcphnniaa", sum := "f45d5e0b20efdacfa8b4df06f37d6bd301113734462b729a89fc3dec2bd0da8c", checked := Try.checked }
namespace Rows
def none {H : Type} : Left H := { results := [], args := [] }

/-- 'yieldlaw5.MailPlays': WHATEVER THE INPUT: true; the input reads as it did. -/
def mailPlaysSpec : ChangeSpec := { name := "mailPlays", fn := fun _ => fun
  | [d1, d2] => { results := [.lit (.bool true)], args := [d1, d2] }
  | _ => none }
def mailPlaysRow : OpenClaim := { program := "ytninmkkcphnniaa", sum := "f45d5e0b20efdacfa8b4df06f37d6bd301113734462b729a89fc3dec2bd0da8c", func := "yieldshape/yieldlaw5.MailPlays", spec := "mailPlays", apart := false }
def MailPlaysSaid : Prop := mailPlaysRow.holds Try.pinned (OpenSpec.ofChange mailPlaysSpec)

/-- ITS FALSE NEIGHBOUR: 'it returns false'. Refute it at one input. -/
def mailPlaysWrong : ChangeSpec := { name := "mailPlays", fn := fun _ => fun
  | [d1, d2] => { results := [.lit (.bool false)], args := [d1, d2] }
  | _ => none }
def MailPlaysWrongFalsely : Prop := mailPlaysRow.holds Try.pinned (OpenSpec.ofChange mailPlaysWrong)

/-- 'yieldlaw5.MailOrder': WHATEVER THE INPUT: true; the input reads as it did. -/
def mailOrderSpec : ChangeSpec := { name := "mailOrder", fn := fun _ => fun
  | [d1, d2] => { results := [.lit (.bool true)], args := [d1, d2] }
  | _ => none }
def mailOrderRow : OpenClaim := { program := "ytninmkkcphnniaa", sum := "f45d5e0b20efdacfa8b4df06f37d6bd301113734462b729a89fc3dec2bd0da8c", func := "yieldshape/yieldlaw5.MailOrder", spec := "mailOrder", apart := false }
def MailOrderSaid : Prop := mailOrderRow.holds Try.pinned (OpenSpec.ofChange mailOrderSpec)

/-- ITS FALSE NEIGHBOUR: 'it returns false'. Refute it at one input. -/
def mailOrderWrong : ChangeSpec := { name := "mailOrder", fn := fun _ => fun
  | [d1, d2] => { results := [.lit (.bool false)], args := [d1, d2] }
  | _ => none }
def MailOrderWrongFalsely : Prop := mailOrderRow.holds Try.pinned (OpenSpec.ofChange mailOrderWrong)

/-- 'yieldlaw5.MailWider': WHATEVER THE INPUT: true; the input reads as it did. -/
def mailWiderSpec : ChangeSpec := { name := "mailWider", fn := fun _ => fun
  | [d1, d2, d3] => { results := [.lit (.bool true)], args := [d1, d2, d3] }
  | _ => none }
def mailWiderRow : OpenClaim := { program := "ytninmkkcphnniaa", sum := "f45d5e0b20efdacfa8b4df06f37d6bd301113734462b729a89fc3dec2bd0da8c", func := "yieldshape/yieldlaw5.MailWider", spec := "mailWider", apart := false }
def MailWiderSaid : Prop := mailWiderRow.holds Try.pinned (OpenSpec.ofChange mailWiderSpec)

/-- ITS FALSE NEIGHBOUR: 'it returns false'. Refute it at one input. -/
def mailWiderWrong : ChangeSpec := { name := "mailWider", fn := fun _ => fun
  | [d1, d2, d3] => { results := [.lit (.bool false)], args := [d1, d2, d3] }
  | _ => none }
def MailWiderWrongFalsely : Prop := mailWiderRow.holds Try.pinned (OpenSpec.ofChange mailWiderWrong)

/-- 'yieldlaw4.StacksPlay': WHATEVER THE INPUT: true; the input reads as it did. -/
def stacksPlaySpec : ChangeSpec := { name := "stacksPlay", fn := fun _ => fun
  | [d1, d2, d3] => { results := [.lit (.bool true)], args := [d1, d2, d3] }
  | _ => none }
def stacksPlayRow : OpenClaim := { program := "ytninmkkcphnniaa", sum := "f45d5e0b20efdacfa8b4df06f37d6bd301113734462b729a89fc3dec2bd0da8c", func := "yieldshape/yieldlaw4.StacksPlay", spec := "stacksPlay", apart := false }
def StacksPlaySaid : Prop := stacksPlayRow.holds Try.pinned (OpenSpec.ofChange stacksPlaySpec)

/-- ITS FALSE NEIGHBOUR: 'it returns false'. Refute it at one input. -/
def stacksPlayWrong : ChangeSpec := { name := "stacksPlay", fn := fun _ => fun
  | [d1, d2, d3] => { results := [.lit (.bool false)], args := [d1, d2, d3] }
  | _ => none }
def StacksPlayWrongFalsely : Prop := stacksPlayRow.holds Try.pinned (OpenSpec.ofChange stacksPlayWrong)

/-- 'yieldlaw4.StacksRoom': WHATEVER THE INPUT: true; the input reads as it did. -/
def stacksRoomSpec : ChangeSpec := { name := "stacksRoom", fn := fun _ => fun
  | [d1, d2, d3, d4] => { results := [.lit (.bool true)], args := [d1, d2, d3, d4] }
  | _ => none }
def stacksRoomRow : OpenClaim := { program := "ytninmkkcphnniaa", sum := "f45d5e0b20efdacfa8b4df06f37d6bd301113734462b729a89fc3dec2bd0da8c", func := "yieldshape/yieldlaw4.StacksRoom", spec := "stacksRoom", apart := false }
def StacksRoomSaid : Prop := stacksRoomRow.holds Try.pinned (OpenSpec.ofChange stacksRoomSpec)

/-- ITS FALSE NEIGHBOUR: 'it returns false'. Refute it at one input. -/
def stacksRoomWrong : ChangeSpec := { name := "stacksRoom", fn := fun _ => fun
  | [d1, d2, d3, d4] => { results := [.lit (.bool false)], args := [d1, d2, d3, d4] }
  | _ => none }
def StacksRoomWrongFalsely : Prop := stacksRoomRow.holds Try.pinned (OpenSpec.ofChange stacksRoomWrong)

/-- 'yieldlaw4.StacksGauge': WHATEVER THE INPUT: true; the input reads as it did. -/
def stacksGaugeSpec : ChangeSpec := { name := "stacksGauge", fn := fun _ => fun
  | [d1, d2, d3] => { results := [.lit (.bool true)], args := [d1, d2, d3] }
  | _ => none }
def stacksGaugeRow : OpenClaim := { program := "ytninmkkcphnniaa", sum := "f45d5e0b20efdacfa8b4df06f37d6bd301113734462b729a89fc3dec2bd0da8c", func := "yieldshape/yieldlaw4.StacksGauge", spec := "stacksGauge", apart := false }
def StacksGaugeSaid : Prop := stacksGaugeRow.holds Try.pinned (OpenSpec.ofChange stacksGaugeSpec)

/-- ITS FALSE NEIGHBOUR: 'it returns false'. Refute it at one input. -/
def stacksGaugeWrong : ChangeSpec := { name := "stacksGauge", fn := fun _ => fun
  | [d1, d2, d3] => { results := [.lit (.bool false)], args := [d1, d2, d3] }
  | _ => none }
def StacksGaugeWrongFalsely : Prop := stacksGaugeRow.holds Try.pinned (OpenSpec.ofChange stacksGaugeWrong)

/-- 'yieldlaw4.StacksBack': WHATEVER THE INPUT: true; the input reads as it did. -/
def stacksBackSpec : ChangeSpec := { name := "stacksBack", fn := fun _ => fun
  | [d1, d2, d3, d4] => { results := [.lit (.bool true)], args := [d1, d2, d3, d4] }
  | _ => none }
def stacksBackRow : OpenClaim := { program := "ytninmkkcphnniaa", sum := "f45d5e0b20efdacfa8b4df06f37d6bd301113734462b729a89fc3dec2bd0da8c", func := "yieldshape/yieldlaw4.StacksBack", spec := "stacksBack", apart := false }
def StacksBackSaid : Prop := stacksBackRow.holds Try.pinned (OpenSpec.ofChange stacksBackSpec)

/-- ITS FALSE NEIGHBOUR: 'it returns false'. Refute it at one input. -/
def stacksBackWrong : ChangeSpec := { name := "stacksBack", fn := fun _ => fun
  | [d1, d2, d3, d4] => { results := [.lit (.bool false)], args := [d1, d2, d3, d4] }
  | _ => none }
def StacksBackWrongFalsely : Prop := stacksBackRow.holds Try.pinned (OpenSpec.ofChange stacksBackWrong)

/-- 'yieldlaw6.ImageTells': WHATEVER THE INPUT: true; the input reads as it did. -/
def imageTellsSpec : ChangeSpec := { name := "imageTells", fn := fun _ => fun
  | [d1, d2] => { results := [.lit (.bool true)], args := [d1, d2] }
  | _ => none }
def imageTellsRow : OpenClaim := { program := "ytninmkkcphnniaa", sum := "f45d5e0b20efdacfa8b4df06f37d6bd301113734462b729a89fc3dec2bd0da8c", func := "yieldshape/yieldlaw6.ImageTells", spec := "imageTells", unfollowed := true, recurses := true, apart := false }
def ImageTellsSaid : Prop := imageTellsRow.holds Try.pinned (OpenSpec.ofChange imageTellsSpec)

/-- ITS FALSE NEIGHBOUR: 'it returns false'. Refute it at one input. -/
def imageTellsWrong : ChangeSpec := { name := "imageTells", fn := fun _ => fun
  | [d1, d2] => { results := [.lit (.bool false)], args := [d1, d2] }
  | _ => none }
def ImageTellsWrongFalsely : Prop := imageTellsRow.holds Try.pinned (OpenSpec.ofChange imageTellsWrong)

/-- 'yieldlaw6.ImageTurns': WHATEVER THE INPUT: true; the input reads as it did. -/
def imageTurnsSpec : ChangeSpec := { name := "imageTurns", fn := fun _ => fun
  | [d1, d2] => { results := [.lit (.bool true)], args := [d1, d2] }
  | _ => none }
def imageTurnsRow : OpenClaim := { program := "ytninmkkcphnniaa", sum := "f45d5e0b20efdacfa8b4df06f37d6bd301113734462b729a89fc3dec2bd0da8c", func := "yieldshape/yieldlaw6.ImageTurns", spec := "imageTurns", unfollowed := true, recurses := true, apart := false }
def ImageTurnsSaid : Prop := imageTurnsRow.holds Try.pinned (OpenSpec.ofChange imageTurnsSpec)

/-- ITS FALSE NEIGHBOUR: 'it returns false'. Refute it at one input. -/
def imageTurnsWrong : ChangeSpec := { name := "imageTurns", fn := fun _ => fun
  | [d1, d2] => { results := [.lit (.bool false)], args := [d1, d2] }
  | _ => none }
def ImageTurnsWrongFalsely : Prop := imageTurnsRow.holds Try.pinned (OpenSpec.ofChange imageTurnsWrong)

/-- 'yieldtop.Names': WHATEVER THE INPUT: true; the input reads as it did. -/
def namesSpec : ChangeSpec := { name := "names", fn := fun _ => fun
  | [] => { results := [.lit (.bool true)], args := [] }
  | _ => none }
def namesRow : OpenClaim := { program := "ytninmkkcphnniaa", sum := "f45d5e0b20efdacfa8b4df06f37d6bd301113734462b729a89fc3dec2bd0da8c", func := "yieldshape/yieldtop.Names", spec := "names", apart := false }
def NamesSaid : Prop := namesRow.holds Try.pinned (OpenSpec.ofChange namesSpec)

/-- ITS FALSE NEIGHBOUR: 'it returns false'. Refute it at one input. -/
def namesWrong : ChangeSpec := { name := "names", fn := fun _ => fun
  | [] => { results := [.lit (.bool false)], args := [] }
  | _ => none }
def NamesWrongFalsely : Prop := namesRow.holds Try.pinned (OpenSpec.ofChange namesWrong)

/-- 'yieldlaw6.ImageGuards': WHATEVER THE INPUT: true; the input reads as it did. -/
def imageGuardsSpec : ChangeSpec := { name := "imageGuards", fn := fun _ => fun
  | [d1, d2, d3, d4] => { results := [.lit (.bool true)], args := [d1, d2, d3, d4] }
  | _ => none }
def imageGuardsRow : OpenClaim := { program := "ytninmkkcphnniaa", sum := "f45d5e0b20efdacfa8b4df06f37d6bd301113734462b729a89fc3dec2bd0da8c", func := "yieldshape/yieldlaw6.ImageGuards", spec := "imageGuards", unfollowed := true, recurses := true, apart := false }
def ImageGuardsSaid : Prop := imageGuardsRow.holds Try.pinned (OpenSpec.ofChange imageGuardsSpec)

/-- ITS FALSE NEIGHBOUR: 'it returns false'. Refute it at one input. -/
def imageGuardsWrong : ChangeSpec := { name := "imageGuards", fn := fun _ => fun
  | [d1, d2, d3, d4] => { results := [.lit (.bool false)], args := [d1, d2, d3, d4] }
  | _ => none }
def ImageGuardsWrongFalsely : Prop := imageGuardsRow.holds Try.pinned (OpenSpec.ofChange imageGuardsWrong)

/- THE SECOND FORM. 'bulk': how many values and letters a reading holds, each counted each time it is reached (what is shared counts as often as it is met; a slice's spare places count too). A statement '..UptoSaid' is the law's where the arguments, and the package variables that the reading takes, are together of bulk at most 1048576: NARROWER than '..Said'. Prove '..Said' where nothing that the law and all that it calls make is longer than what came in: it says more and counts as full. Else prove '..UptoSaid'. A law counts once. -/
mutual
def uptoBulk {H : Type} : DataW H → Nat
  | .lit (.string bytes) => bytes.length + 1
  | .lit _ => 1
  | .nil => 1
  | .ptr d => uptoBulk d + 1
  | .slice elems spare => uptoBulkAll elems + uptoBulkAll spare + 1
  | .agg parts => uptoBulkAll parts + 1
  | .iface _ d => uptoBulk d + 1
  | .map entries => uptoBulkEntries entries + 1
  | .held _ => 1
def uptoBulkAll {H : Type} : List (DataW H) → Nat
  | [] => 0
  | d :: r => uptoBulk d + uptoBulkAll r
def uptoBulkEntries {H : Type} : List (Lit × DataW H) → Nat
  | [] => 0
  | x :: r => uptoBulkEntry x + uptoBulkEntries r
def uptoBulkEntry {H : Type} : Lit × DataW H → Nat
  | (.string bytes, d) => bytes.length + uptoBulk d + 1
  | (_, d) => uptoBulk d + 1
 end
def uptoSmall : (H : Type) → List (DataW H) → Bool := fun _ ds => decide (uptoBulkAll ds ≤ 1048576)
def OpenSpec.upto (s : _root_.Go.ChangeSpec) : _root_.Go.OpenSpec := { _root_.Go.OpenSpec.ofChange s with cond := some uptoSmall }

/-- 'yieldlaw5.MailPlays', WHERE WHAT IT READS IS OF BULK AT MOST 1048576: true; the input reads as it did. -/
def mailPlaysUptoRow : OpenClaim := { program := "ytninmkkcphnniaa", sum := "f45d5e0b20efdacfa8b4df06f37d6bd301113734462b729a89fc3dec2bd0da8c", func := "yieldshape/yieldlaw5.MailPlays", spec := "mailPlays", apart := false, narrowed := true }
def MailPlaysUptoSaid : Prop := mailPlaysUptoRow.holds Try.pinned (OpenSpec.upto mailPlaysSpec)

/-- 'yieldlaw5.MailOrder', WHERE WHAT IT READS IS OF BULK AT MOST 1048576: true; the input reads as it did. -/
def mailOrderUptoRow : OpenClaim := { program := "ytninmkkcphnniaa", sum := "f45d5e0b20efdacfa8b4df06f37d6bd301113734462b729a89fc3dec2bd0da8c", func := "yieldshape/yieldlaw5.MailOrder", spec := "mailOrder", apart := false, narrowed := true }
def MailOrderUptoSaid : Prop := mailOrderUptoRow.holds Try.pinned (OpenSpec.upto mailOrderSpec)

/-- 'yieldlaw5.MailWider', WHERE WHAT IT READS IS OF BULK AT MOST 1048576: true; the input reads as it did. -/
def mailWiderUptoRow : OpenClaim := { program := "ytninmkkcphnniaa", sum := "f45d5e0b20efdacfa8b4df06f37d6bd301113734462b729a89fc3dec2bd0da8c", func := "yieldshape/yieldlaw5.MailWider", spec := "mailWider", apart := false, narrowed := true }
def MailWiderUptoSaid : Prop := mailWiderUptoRow.holds Try.pinned (OpenSpec.upto mailWiderSpec)

/-- 'yieldlaw4.StacksPlay', WHERE WHAT IT READS IS OF BULK AT MOST 1048576: true; the input reads as it did. -/
def stacksPlayUptoRow : OpenClaim := { program := "ytninmkkcphnniaa", sum := "f45d5e0b20efdacfa8b4df06f37d6bd301113734462b729a89fc3dec2bd0da8c", func := "yieldshape/yieldlaw4.StacksPlay", spec := "stacksPlay", apart := false, narrowed := true }
def StacksPlayUptoSaid : Prop := stacksPlayUptoRow.holds Try.pinned (OpenSpec.upto stacksPlaySpec)

/-- 'yieldlaw4.StacksRoom', WHERE WHAT IT READS IS OF BULK AT MOST 1048576: true; the input reads as it did. -/
def stacksRoomUptoRow : OpenClaim := { program := "ytninmkkcphnniaa", sum := "f45d5e0b20efdacfa8b4df06f37d6bd301113734462b729a89fc3dec2bd0da8c", func := "yieldshape/yieldlaw4.StacksRoom", spec := "stacksRoom", apart := false, narrowed := true }
def StacksRoomUptoSaid : Prop := stacksRoomUptoRow.holds Try.pinned (OpenSpec.upto stacksRoomSpec)

/-- 'yieldlaw4.StacksGauge', WHERE WHAT IT READS IS OF BULK AT MOST 1048576: true; the input reads as it did. -/
def stacksGaugeUptoRow : OpenClaim := { program := "ytninmkkcphnniaa", sum := "f45d5e0b20efdacfa8b4df06f37d6bd301113734462b729a89fc3dec2bd0da8c", func := "yieldshape/yieldlaw4.StacksGauge", spec := "stacksGauge", apart := false, narrowed := true }
def StacksGaugeUptoSaid : Prop := stacksGaugeUptoRow.holds Try.pinned (OpenSpec.upto stacksGaugeSpec)

/-- 'yieldlaw4.StacksBack', WHERE WHAT IT READS IS OF BULK AT MOST 1048576: true; the input reads as it did. -/
def stacksBackUptoRow : OpenClaim := { program := "ytninmkkcphnniaa", sum := "f45d5e0b20efdacfa8b4df06f37d6bd301113734462b729a89fc3dec2bd0da8c", func := "yieldshape/yieldlaw4.StacksBack", spec := "stacksBack", apart := false, narrowed := true }
def StacksBackUptoSaid : Prop := stacksBackUptoRow.holds Try.pinned (OpenSpec.upto stacksBackSpec)

/-- 'yieldlaw6.ImageTells', WHERE WHAT IT READS IS OF BULK AT MOST 1048576: true; the input reads as it did. -/
def imageTellsUptoRow : OpenClaim := { program := "ytninmkkcphnniaa", sum := "f45d5e0b20efdacfa8b4df06f37d6bd301113734462b729a89fc3dec2bd0da8c", func := "yieldshape/yieldlaw6.ImageTells", spec := "imageTells", unfollowed := true, recurses := true, apart := false, narrowed := true }
def ImageTellsUptoSaid : Prop := imageTellsUptoRow.holds Try.pinned (OpenSpec.upto imageTellsSpec)

/-- 'yieldlaw6.ImageTurns', WHERE WHAT IT READS IS OF BULK AT MOST 1048576: true; the input reads as it did. -/
def imageTurnsUptoRow : OpenClaim := { program := "ytninmkkcphnniaa", sum := "f45d5e0b20efdacfa8b4df06f37d6bd301113734462b729a89fc3dec2bd0da8c", func := "yieldshape/yieldlaw6.ImageTurns", spec := "imageTurns", unfollowed := true, recurses := true, apart := false, narrowed := true }
def ImageTurnsUptoSaid : Prop := imageTurnsUptoRow.holds Try.pinned (OpenSpec.upto imageTurnsSpec)

/-- 'yieldtop.Names', WHERE WHAT IT READS IS OF BULK AT MOST 1048576: true; the input reads as it did. -/
def namesUptoRow : OpenClaim := { program := "ytninmkkcphnniaa", sum := "f45d5e0b20efdacfa8b4df06f37d6bd301113734462b729a89fc3dec2bd0da8c", func := "yieldshape/yieldtop.Names", spec := "names", apart := false, narrowed := true }
def NamesUptoSaid : Prop := namesUptoRow.holds Try.pinned (OpenSpec.upto namesSpec)

/-- 'yieldlaw6.ImageGuards', WHERE WHAT IT READS IS OF BULK AT MOST 1048576: true; the input reads as it did. -/
def imageGuardsUptoRow : OpenClaim := { program := "ytninmkkcphnniaa", sum := "f45d5e0b20efdacfa8b4df06f37d6bd301113734462b729a89fc3dec2bd0da8c", func := "yieldshape/yieldlaw6.ImageGuards", spec := "imageGuards", unfollowed := true, recurses := true, apart := false, narrowed := true }
def ImageGuardsUptoSaid : Prop := imageGuardsUptoRow.holds Try.pinned (OpenSpec.upto imageGuardsSpec)

end Rows
end Go.Proofs.Ytninmkkcphnniaa
