/- TopImage: for every text and all picks the law answers true, and text and picks read as before: the tied card. No condition of my own. -/
import Derived.Test.YtofckcabpchcmaaGreatDoorM48
set_option linter.unusedVariables false
set_option linter.unusedSimpArgs false
set_option linter.unusedSectionVars false
set_option maxRecDepth 100000
namespace Go.Proofs.YtofckcabpchcmaaGreatDoor
namespace TopImage
theorem proved:Rows.TopImageCardSaid:=aA5 fun t ps hn=>Vw.aCT t hn ps
#print axioms proved
end TopImage
end Go.Proofs.YtofckcabpchcmaaGreatDoor
