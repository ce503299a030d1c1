/- Part of the proofs of this seat's laws: TIRall. No condition. -/
import Derived.Test.YtdgkokanccedkaaGreatDoorVf
import Derived.Test.YtdgkokanccedkaaGreatDoorProg
set_option linter.unusedVariables false
set_option linter.unusedSimpArgs false
set_option linter.unusedSectionVars false
namespace Go.Vs
open Go.Proofs (Tryz.prog)
theorem ac:Tryz.prog.follows .mixedOrders=true:=by kernel_rfl
def str_k0:ByteArray:=⟨#[]⟩
def fZ:ByteArray:=⟨#[65,77,83]⟩
def iK:ByteArray:=⟨#[66,82,85]⟩
def iF:ByteArray:=⟨#[67,68,71]⟩
def iX:ByteArray:=⟨#[68,85,66]⟩
def s6:ByteArray:=⟨#[69,68,73]⟩
def tH:ByteArray:=⟨#[70,82,65]⟩
def tE:ByteArray:=⟨#[71,79,84]⟩
def th:ByteArray:=⟨#[90,90,90]⟩
def eL:ByteArray:=⟨#[48]⟩
def dT:ByteArray:=⟨#[58]⟩
def ah:ByteArray:=⟨#[32]⟩
def ji:ByteArray:=⟨#[104,101,114,101]⟩
def jt:ByteArray:=⟨#[100,114,111,112]⟩
def jy:ByteArray:=⟨#[108,111,97,100]⟩
def jr:ByteArray:=⟨#[100,111,110,101]⟩
def bo:ByteArray:=⟨#[47]⟩
def kz:ByteArray:=⟨#[45]⟩
end Go.Vs
