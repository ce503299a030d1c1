/- Part of the proofs of this seat's laws: TIRall. No condition. -/
import Derived.Test.YticpmdigfdpmfaaGreatVf
import Derived.Test.YticpmdigfdpmfaaGreatProg
set_option linter.unusedVariables false
set_option linter.unusedSimpArgs false
set_option linter.unusedSectionVars false
namespace Go.Vs
open Go.Proofs (Tryz.prog)
theorem ac:Tryz.prog.follows .mixedOrders=true:=by kernel_rfl
def str_k0:ByteArray:=⟨#[]⟩
def kQ:ByteArray:=⟨#[65,77,83]⟩
def kn:ByteArray:=⟨#[66,82,85]⟩
def kO:ByteArray:=⟨#[67,68,71]⟩
def km:ByteArray:=⟨#[68,85,66]⟩
def wz:ByteArray:=⟨#[69,68,73]⟩
def wn:ByteArray:=⟨#[70,82,65]⟩
def vM:ByteArray:=⟨#[71,79,84]⟩
end Go.Vs
