/- Part of the proofs of this seat's laws: Lad. No condition. -/
import Derived.Test.YtilplaaijbpilaaTy
import Derived.Test.YtilplaaijbpilaaTIRall
import Derived.Test.YtilplaaijbpilaaLaa
import Derived.Test.YtilplaaijbpilaaLac
import Derived.Test.YtilplaaijbpilaaLab
import Derived.Test.YtilplaaijbpilaaVg
import Derived.Test.YtilplaaijbpilaaProg
import Derived.Lib.Strings
import Derived.Lib.Slices
import Derived.Lib.Walk
import Derived.Lib.Bytealg
set_option linter.unusedVariables false
set_option linter.unusedSimpArgs false
set_option linter.unusedSectionVars false
namespace Go.Vs
set_option maxRecDepth 100000
open Go.Proofs Go.IntWalk
set_option linter.unusedVariables false
set_option maxHeartbeats 4000000
open Go.Proofs Go.RowKit
set_option maxHeartbeats 1000000
end Go.Vs
