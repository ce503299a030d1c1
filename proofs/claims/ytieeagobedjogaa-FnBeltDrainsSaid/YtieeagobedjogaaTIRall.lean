/- Part of the proofs of this seat's laws: TIRall. No condition. -/
import Derived.Test.YtieeagobedjogaaVf
import Derived.Test.YtieeagobedjogaaProg
set_option linter.unusedVariables false
set_option linter.unusedSimpArgs false
set_option linter.unusedSectionVars false
namespace Go.Vs
open Go.Proofs (Try.prog)
theorem prog_mixed : Try.prog.follows .mixedOrders = true := by kernel_rfl
end Go.Vs
