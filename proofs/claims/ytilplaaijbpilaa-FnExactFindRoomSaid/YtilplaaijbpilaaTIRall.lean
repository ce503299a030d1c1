/- Part of the proofs of this seat's laws: TIRall. No condition. -/
import Derived.Test.YtilplaaijbpilaaVf
import Derived.Test.YtilplaaijbpilaaProg
set_option linter.unusedVariables false
set_option linter.unusedSimpArgs false
set_option linter.unusedSectionVars false
namespace Go.Vs
open Go.Proofs (Try.prog)
theorem prog_mixed : Try.prog.follows .mixedOrders = true := by kernel_rfl
def str_k0 : ByteArray := ⟨#[]⟩
def str_k1 : ByteArray := ⟨#[109, 48]⟩
def str_k2 : ByteArray := ⟨#[109]⟩
end Go.Vs
