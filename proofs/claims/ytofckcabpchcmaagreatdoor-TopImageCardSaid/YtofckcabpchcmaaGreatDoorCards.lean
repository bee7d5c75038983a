/-
  DERIVED. GIVEN WITH THE SEED: THE CARDS: each row of YtofckcabpchcmaaGreatDoorRows.lean that lists a variable, with what it lists TIED to the program's text (the seventh form; the later family's looks); each row that meets fmt, with fmt's text TOLD by the authors' own Lean function (tested against real Go, not proved from fmt's source: count such statements apart). THE CARD IS WHAT COUNTS. Prove the row's statement (the work); the ties are given (YtofckcabpchcmaaGreatDoorTie.lean); close each card by the builder's one call (the guide's Derived/Test/ToyasCard.lean, 'card_holds'). Laid BY PROGRAM, IN A SANDBOX (cutbox-door.mjs). By AI agents, Wed Nov 11 2026. No macro, syntax, notation, axiom, sorry.
-/
import Derived.Test.YtofckcabpchcmaaGreatDoorRows
import GoSem.ClaimSeven
namespace Go.Proofs.YtofckcabpchcmaaGreatDoor
namespace Rows

/-- THE TIED CARD OF 'yieldtop.TopFixed'. -/
def topFixedCard : Claim7 := { stood := { row := topFixedRow, standIns := [], harness := (true, "09e48a93bd93582cd95ebd9ef79f7c727c424ed97c270f0c3a2d7fad050a37ca"), looks := true }, kinds := [], alts := [], laidByText := true, laidKinds := [.data, .data, .data, .sentinel, .sentinel], laidTests := true, laidLooks := .later }
def TopFixedCardSaid : Prop := Claim7.holds Tryz.pinned (.plain (OpenSpec.ofChange topFixedSpec)) topFixedCard

/-- THE TIED CARD OF 'yieldtop.TopShort'. -/
def topShortCard : Claim7 := { stood := { row := topShortRow, standIns := [], harness := (true, "09e48a93bd93582cd95ebd9ef79f7c727c424ed97c270f0c3a2d7fad050a37ca"), looks := true }, kinds := [], alts := [], laidByText := true, laidKinds := [.data, .data, .data, .sentinel, .sentinel], laidTests := true, laidLooks := .later }
def TopShortCardSaid : Prop := Claim7.holds Tryz.pinned (.plain (OpenSpec.ofChange topShortSpec)) topShortCard

/-- THE TIED CARD OF 'yieldtop.TopImage'. -/
def topImageCard : Claim7 := { stood := { row := topImageRow, standIns := [], harness := (true, "09e48a93bd93582cd95ebd9ef79f7c727c424ed97c270f0c3a2d7fad050a37ca"), looks := true }, kinds := [], alts := [], laidByText := true, laidKinds := [.data, .data, .data, .sentinel, .sentinel], laidTests := true, laidLooks := .later }
def TopImageCardSaid : Prop := Claim7.holds Tryz.pinned (.plain (OpenSpec.ofChange topImageSpec)) topImageCard

/-- THE SECOND FORM's CARD OF 'yieldtop.TopFixed'. -/
def topFixedUptoCard : Claim7 := { stood := { row := topFixedUptoRow, standIns := [], harness := (true, "09e48a93bd93582cd95ebd9ef79f7c727c424ed97c270f0c3a2d7fad050a37ca"), looks := true }, kinds := [], alts := [], laidByText := true, laidKinds := [.data, .data, .data, .sentinel, .sentinel], laidTests := true, laidLooks := .later }
def TopFixedUptoCardSaid : Prop := Claim7.holds Tryz.pinned (.plain (OpenSpec.upto topFixedSpec)) topFixedUptoCard

/-- THE SECOND FORM's CARD OF 'yieldtop.TopShort'. -/
def topShortUptoCard : Claim7 := { stood := { row := topShortUptoRow, standIns := [], harness := (true, "09e48a93bd93582cd95ebd9ef79f7c727c424ed97c270f0c3a2d7fad050a37ca"), looks := true }, kinds := [], alts := [], laidByText := true, laidKinds := [.data, .data, .data, .sentinel, .sentinel], laidTests := true, laidLooks := .later }
def TopShortUptoCardSaid : Prop := Claim7.holds Tryz.pinned (.plain (OpenSpec.upto topShortSpec)) topShortUptoCard

/-- THE SECOND FORM's CARD OF 'yieldtop.TopImage'. -/
def topImageUptoCard : Claim7 := { stood := { row := topImageUptoRow, standIns := [], harness := (true, "09e48a93bd93582cd95ebd9ef79f7c727c424ed97c270f0c3a2d7fad050a37ca"), looks := true }, kinds := [], alts := [], laidByText := true, laidKinds := [.data, .data, .data, .sentinel, .sentinel], laidTests := true, laidLooks := .later }
def TopImageUptoCardSaid : Prop := Claim7.holds Tryz.pinned (.plain (OpenSpec.upto topImageSpec)) topImageUptoCard
end Rows
end Go.Proofs.YtofckcabpchcmaaGreatDoor
