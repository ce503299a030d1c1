/- Part of the proofs of this seat's laws: TIRall. No condition. -/
import Derived.Test.YtilplaaijbpilaaGreatVf
import Derived.Test.YtilplaaijbpilaaGreatProg
set_option linter.unusedVariables false
set_option linter.unusedSimpArgs false
set_option linter.unusedSectionVars false
namespace Go.Vs
open Go.Proofs (Tryz.prog)
theorem ae:Tryz.prog.follows .mixedOrders=true:=by kernel_rfl
def str_k0:ByteArray:=⟨#[]⟩
def yf:ByteArray:=⟨#[109,48]⟩
def sX:ByteArray:=⟨#[109]⟩
end Go.Vs
