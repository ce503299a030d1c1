/- Part of the proofs of this seat's laws: TIRall. No condition. -/
import Derived.Test.YtdgkokanccedkaaGreatDoorVf
import Derived.Test.YtdgkokanccedkaaGreatDoorProg
set_option linter.unusedVariables false
set_option linter.unusedSimpArgs false
set_option linter.unusedSectionVars false
namespace Go.Vs
open Go.Proofs (Tryz.prog)
theorem ac:Tryz.prog.follows .mixedOrders=true:=by kernel_rfl
def str_k0:ByteArray:=⟨#[]⟩
def gg:ByteArray:=⟨#[65,77,83]⟩
def iJ:ByteArray:=⟨#[66,82,85]⟩
def iA:ByteArray:=⟨#[67,68,71]⟩
def i8:ByteArray:=⟨#[68,85,66]⟩
def sV:ByteArray:=⟨#[69,68,73]⟩
def tH:ByteArray:=⟨#[70,82,65]⟩
def s9:ByteArray:=⟨#[71,79,84]⟩
def sZ:ByteArray:=⟨#[90,90,90]⟩
def eO:ByteArray:=⟨#[48]⟩
def dV:ByteArray:=⟨#[58]⟩
def ag:ByteArray:=⟨#[32]⟩
def jt:ByteArray:=⟨#[104,101,114,101]⟩
def jx:ByteArray:=⟨#[100,114,111,112]⟩
def jh:ByteArray:=⟨#[108,111,97,100]⟩
def jz:ByteArray:=⟨#[100,111,110,101]⟩
def bk:ByteArray:=⟨#[47]⟩
def kW:ByteArray:=⟨#[45]⟩
end Go.Vs
