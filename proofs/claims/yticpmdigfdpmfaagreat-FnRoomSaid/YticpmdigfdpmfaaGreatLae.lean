/- Part of the proofs of this seat's laws: Lae. No condition. -/
import Derived.Test.YticpmdigfdpmfaaGreatTy
import Derived.Test.YticpmdigfdpmfaaGreatTIRall
import Derived.Test.YticpmdigfdpmfaaGreatLab
import Derived.Test.YticpmdigfdpmfaaGreatLac
import Derived.Test.YticpmdigfdpmfaaGreatLaa
import Derived.Test.YticpmdigfdpmfaaGreatLad
set_option linter.unusedVariables false
set_option linter.unusedSimpArgs false
set_option linter.unusedSectionVars false
namespace Go.Vs
set_option maxRecDepth 100000
open Go.Proofs Go.IntWalk
set_option linter.unusedVariables false
set_option maxHeartbeats 4000000
end Go.Vs
