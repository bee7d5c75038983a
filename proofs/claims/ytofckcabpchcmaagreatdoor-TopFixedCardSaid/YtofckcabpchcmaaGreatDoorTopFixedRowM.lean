/- TopFixed: for every text the law answers true, and the text reads as before: the tied card. No condition of my own. -/
import Derived.Test.YtofckcabpchcmaaGreatDoorM36
set_option linter.unusedVariables false
set_option linter.unusedSimpArgs false
set_option linter.unusedSectionVars false
set_option maxRecDepth 100000
namespace Go.Proofs.YtofckcabpchcmaaGreatDoor
namespace TopFixed
theorem proved:Rows.TopFixedCardSaid:=Z3 Vw.aBR
#print axioms proved
end TopFixed
end Go.Proofs.YtofckcabpchcmaaGreatDoor
