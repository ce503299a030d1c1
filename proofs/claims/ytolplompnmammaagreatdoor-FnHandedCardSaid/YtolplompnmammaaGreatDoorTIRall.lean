/- Part of the proofs of this seat's laws: TIRall. No condition. -/
import Derived.Test.YtolplompnmammaaGreatDoorVf
import Derived.Test.YtolplompnmammaaGreatDoorProg
set_option linter.unusedVariables false
set_option linter.unusedSimpArgs false
set_option linter.unusedSectionVars false
namespace Go.Vs
open Go.Proofs (Tryz.prog)
theorem af:Tryz.prog.follows .mixedOrders=true:=by kernel_rfl
def str_k0:ByteArray:=⟨#[]⟩
def iG:ByteArray:=⟨#[65,77,83]⟩
def k9:ByteArray:=⟨#[66,82,85]⟩
def lp:ByteArray:=⟨#[67,68,71]⟩
def kY:ByteArray:=⟨#[68,85,66]⟩
def wN:ByteArray:=⟨#[69,68,73]⟩
def w6:ByteArray:=⟨#[70,82,65]⟩
def wT:ByteArray:=⟨#[71,79,84]⟩
def wX:ByteArray:=⟨#[90,90,90]⟩
def qw:ByteArray:=⟨#[47]⟩
def ib:ByteArray:=⟨#[117,110,107,110,111,119,110]⟩
def uo:ByteArray:=⟨#[32]⟩
end Go.Vs
