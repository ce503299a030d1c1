/- Part of the proofs of this seat's laws: TIRall. No condition. -/
import Derived.Test.YticpmdigfdpmfaaVf
import Derived.Test.YticpmdigfdpmfaaProg
set_option linter.unusedVariables false
set_option linter.unusedSimpArgs false
set_option linter.unusedSectionVars false
namespace Go.Vs
open Go.Proofs (Try.prog)
theorem ac:Try.prog.follows .mixedOrders=true:=by kernel_rfl
def i5:ByteArray:=⟨#[]⟩
def jy:ByteArray:=⟨#[65,77,83]⟩
def jE:ByteArray:=⟨#[66,82,85]⟩
def i4:ByteArray:=⟨#[67,68,71]⟩
def jz:ByteArray:=⟨#[68,85,66]⟩
def tT:ByteArray:=⟨#[69,68,73]⟩
def tM:ByteArray:=⟨#[70,82,65]⟩
def ua:ByteArray:=⟨#[71,79,84]⟩
end Go.Vs
