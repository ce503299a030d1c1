/- Part of the proofs of this seat's laws: TIRall. No condition. -/
import Derived.Test.YtkchjifooaonjaaVf
import Derived.Test.YtkchjifooaonjaaProg
set_option linter.unusedVariables false
set_option linter.unusedSimpArgs false
set_option linter.unusedSectionVars false
namespace Go.Vs
open Go.Proofs (Try.prog)
theorem prog_mixed : Try.prog.follows .mixedOrders = true := by kernel_rfl
def str_k0 : ByteArray := ⟨#[]⟩
end Go.Vs
