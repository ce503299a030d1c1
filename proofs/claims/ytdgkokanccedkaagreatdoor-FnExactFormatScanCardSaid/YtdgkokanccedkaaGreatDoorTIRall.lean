/- Part of the proofs of this seat's laws: TIRall. No condition. -/
import Derived.Test.YtdgkokanccedkaaGreatDoorVf
import Derived.Test.YtdgkokanccedkaaGreatDoorProg
set_option linter.unusedVariables false
set_option linter.unusedSimpArgs false
set_option linter.unusedSectionVars false
namespace Go.Vs
open Go.Proofs (Tryz.prog)
theorem ae:Tryz.prog.follows .mixedOrders=true:=by kernel_rfl
def str_k0:ByteArray:=⟨#[]⟩
def dv:ByteArray:=⟨#[48]⟩
def cI:ByteArray:=⟨#[58]⟩
def ac:ByteArray:=⟨#[32]⟩
def gc:ByteArray:=⟨#[104,101,114,101]⟩
def ge:ByteArray:=⟨#[100,114,111,112]⟩
def gl:ByteArray:=⟨#[108,111,97,100]⟩
def gi:ByteArray:=⟨#[100,111,110,101]⟩
def bv:ByteArray:=⟨#[47]⟩
def hO:ByteArray:=⟨#[45]⟩
end Go.Vs
