/- Part of the proofs of this seat's laws: TIRall. No condition. -/
import Derived.Test.YticpmdigfdpmfaaDoorVf
import Derived.Test.YticpmdigfdpmfaaDoorProg
set_option linter.unusedVariables false
set_option linter.unusedSimpArgs false
set_option linter.unusedSectionVars false
namespace Go.Vs
open Go.Proofs (Tryd.prog)
theorem aq:Tryd.prog.follows .mixedOrders=true:=by kernel_rfl
def bI:ByteArray:=⟨#[]⟩
def l6:ByteArray:=⟨#[48]⟩
def gY:ByteArray:=⟨#[45]⟩
def bE:ByteArray:=⟨#[32]⟩
def cF:ByteArray:=⟨#[47]⟩
def eM:ByteArray:=⟨#[117,110,107,110,111,119,110]⟩
end Go.Vs
