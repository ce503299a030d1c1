/- The program's order of initialisation as a list of signs, taken once: three of the closed facts of every row go by it. -/
import Derived.Test.YtdgkokanccedkaaGreatDoorRows
import Derived.JoinedOf
import Derived.KernelRfl
set_option linter.unusedVariables false
set_option linter.unusedSimpArgs false
set_option linter.unusedSectionVars false
namespace Go.Proofs.YtdgkokanccedkaaGreatDoor
open Go
set_option maxRecDepth 100000
def ioL:List Char:=[Char.ofNat 104,Char.ofNat 97,Char.ofNat 114,Char.ofNat 110,Char.ofNat 101,Char.ofNat 115,Char.ofNat 115,Char.ofNat 32,Char.ofNat 50,Char.ofNat 53,Char.ofNat 102,Char.ofNat 57,Char.ofNat 51,Char.ofNat 56,Char.ofNat 49,Char.ofNat 52,Char.ofNat 98,Char.ofNat 101,Char.ofNat 53,Char.ofNat 101,Char.ofNat 52,Char.ofNat 51,Char.ofNat 98,Char.ofNat 98,Char.ofNat 49,Char.ofNat 101,Char.ofNat 50,Char.ofNat 98,Char.ofNat 57,Char.ofNat 49,Char.ofNat 55,Char.ofNat 99,Char.ofNat 57,Char.ofNat 102,Char.ofNat 51,Char.ofNat 54,Char.ofNat 54,Char.ofNat 100,Char.ofNat 49,Char.ofNat 101,Char.ofNat 57,Char.ofNat 99,Char.ofNat 102,Char.ofNat 50,Char.ofNat 55,Char.ofNat 54,Char.ofNat 57,Char.ofNat 55,Char.ofNat 50,Char.ofNat 54,Char.ofNat 48,Char.ofNat 99,Char.ofNat 54,Char.ofNat 50,Char.ofNat 55,Char.ofNat 48,Char.ofNat 98,Char.ofNat 57,Char.ofNat 48,Char.ofNat 56,Char.ofNat 97,Char.ofNat 48,Char.ofNat 55,Char.ofNat 100,Char.ofNat 97,Char.ofNat 98,Char.ofNat 99,Char.ofNat 57,Char.ofNat 57,Char.ofNat 51,Char.ofNat 50,Char.ofNat 101,Char.ofNat 32,Char.ofNat 99,Char.ofNat 117,Char.ofNat 116,Char.ofNat 32,Char.ofNat 97,Char.ofNat 116,Char.ofNat 32,Char.ofNat 108,Char.ofNat 111,Char.ofNat 111,Char.ofNat 112,Char.ofNat 46,Char.ofNat 101,Char.ofNat 120,Char.ofNat 97,Char.ofNat 109,Char.ofNat 112,Char.ofNat 108,Char.ofNat 101,Char.ofNat 47,Char.ofNat 103,Char.ofNat 48,Char.ofNat 51,Char.ofNat 48,Char.ofNat 49,Char.ofNat 52,Char.ofNat 47,Char.ofNat 108,Char.ofNat 97,Char.ofNat 119,Char.ofNat 115,Char.ofNat 46,Char.ofNat 70,Char.ofNat 110,Char.ofNat 83,Char.ofNat 99,Char.ofNat 97,Char.ofNat 110,Char.ofNat 82,Char.ofNat 101,Char.ofNat 97,Char.ofNat 100,Char.ofNat 32,Char.ofNat 108,Char.ofNat 111,Char.ofNat 111,Char.ofNat 112,Char.ofNat 46,Char.ofNat 101,Char.ofNat 120,Char.ofNat 97,Char.ofNat 109,Char.ofNat 112,Char.ofNat 108,Char.ofNat 101,Char.ofNat 47,Char.ofNat 103,Char.ofNat 48,Char.ofNat 51,Char.ofNat 48,Char.ofNat 49,Char.ofNat 52,Char.ofNat 47,Char.ofNat 108,Char.ofNat 97,Char.ofNat 119,Char.ofNat 115,Char.ofNat 46,Char.ofNat 70,Char.ofNat 110,Char.ofNat 69,Char.ofNat 120,Char.ofNat 97,Char.ofNat 99,Char.ofNat 116,Char.ofNat 80,Char.ofNat 97,Char.ofNat 114,Char.ofNat 115,Char.ofNat 101,Char.ofNat 83,Char.ofNat 99,Char.ofNat 97,Char.ofNat 110,Char.ofNat 32,Char.ofNat 108,Char.ofNat 111,Char.ofNat 111,Char.ofNat 112,Char.ofNat 46,Char.ofNat 101,Char.ofNat 120,Char.ofNat 97,Char.ofNat 109,Char.ofNat 112,Char.ofNat 108,Char.ofNat 101,Char.ofNat 47,Char.ofNat 103,Char.ofNat 48,Char.ofNat 51,Char.ofNat 48,Char.ofNat 49,Char.ofNat 52,Char.ofNat 47,Char.ofNat 108,Char.ofNat 97,Char.ofNat 119,Char.ofNat 115,Char.ofNat 46,Char.ofNat 70,Char.ofNat 110,Char.ofNat 69,Char.ofNat 120,Char.ofNat 97,Char.ofNat 99,Char.ofNat 116,Char.ofNat 70,Char.ofNat 111,Char.ofNat 114,Char.ofNat 109,Char.ofNat 97,Char.ofNat 116,Char.ofNat 83,Char.ofNat 99,Char.ofNat 97,Char.ofNat 110]
def ioW:List (List Char):=[[Char.ofNat 99,Char.ofNat 117,Char.ofNat 116],[Char.ofNat 97,Char.ofNat 116],[Char.ofNat 108,Char.ofNat 111,Char.ofNat 111,Char.ofNat 112,Char.ofNat 46,Char.ofNat 101,Char.ofNat 120,Char.ofNat 97,Char.ofNat 109,Char.ofNat 112,Char.ofNat 108,Char.ofNat 101,Char.ofNat 47,Char.ofNat 103,Char.ofNat 48,Char.ofNat 51,Char.ofNat 48,Char.ofNat 49,Char.ofNat 52,Char.ofNat 47,Char.ofNat 108,Char.ofNat 97,Char.ofNat 119,Char.ofNat 115,Char.ofNat 46,Char.ofNat 70,Char.ofNat 110,Char.ofNat 83,Char.ofNat 99,Char.ofNat 97,Char.ofNat 110,Char.ofNat 82,Char.ofNat 101,Char.ofNat 97,Char.ofNat 100],[Char.ofNat 108,Char.ofNat 111,Char.ofNat 111,Char.ofNat 112,Char.ofNat 46,Char.ofNat 101,Char.ofNat 120,Char.ofNat 97,Char.ofNat 109,Char.ofNat 112,Char.ofNat 108,Char.ofNat 101,Char.ofNat 47,Char.ofNat 103,Char.ofNat 48,Char.ofNat 51,Char.ofNat 48,Char.ofNat 49,Char.ofNat 52,Char.ofNat 47,Char.ofNat 108,Char.ofNat 97,Char.ofNat 119,Char.ofNat 115,Char.ofNat 46,Char.ofNat 70,Char.ofNat 110,Char.ofNat 69,Char.ofNat 120,Char.ofNat 97,Char.ofNat 99,Char.ofNat 116,Char.ofNat 80,Char.ofNat 97,Char.ofNat 114,Char.ofNat 115,Char.ofNat 101,Char.ofNat 83,Char.ofNat 99,Char.ofNat 97,Char.ofNat 110],[Char.ofNat 108,Char.ofNat 111,Char.ofNat 111,Char.ofNat 112,Char.ofNat 46,Char.ofNat 101,Char.ofNat 120,Char.ofNat 97,Char.ofNat 109,Char.ofNat 112,Char.ofNat 108,Char.ofNat 101,Char.ofNat 47,Char.ofNat 103,Char.ofNat 48,Char.ofNat 51,Char.ofNat 48,Char.ofNat 49,Char.ofNat 52,Char.ofNat 47,Char.ofNat 108,Char.ofNat 97,Char.ofNat 119,Char.ofNat 115,Char.ofNat 46,Char.ofNat 70,Char.ofNat 110,Char.ofNat 69,Char.ofNat 120,Char.ofNat 97,Char.ofNat 99,Char.ofNat 116,Char.ofNat 70,Char.ofNat 111,Char.ofNat 114,Char.ofNat 109,Char.ofNat 97,Char.ofNat 116,Char.ofNat 83,Char.ofNat 99,Char.ofNat 97,Char.ofNat 110]]
theorem z8:Tryz.prog.initOrder=String.ofList ioL:=by kernel_rfl
theorem io:Tryz.prog.initOrder.toList=ioL:=by rw[z8,String.toList_ofList]
theorem lc:behindMainWord (wordsSigns ioL)=ioW:=by decide+kernel
theorem xX (P:Program) (l:List Char) (ws:List (List Char)) (h:P.initOrder.toList=l) (e:behindMainWord (wordsSigns l)=ws):
 P.headLifts=(if(stripLifts liftWords ws).2.head? ==some "cut".toList then(stripLifts liftWords ws).1 else[]):=by
 unfold Program.headLifts;rw[h,e]
theorem zx (P:Program) (l c:List Char) (ws:List (List Char)) (f:List String) (h:P.initOrder.toList=l) (e:behindMainWord (wordsSigns l)=c::ws) (g:P.headLifts=f):
 P.make=(if c== "gc".toList||c== "spec".toList then some .whole else if c== "cut".toList||(c== "finals".toList&&ws.head? ==some "cut".toList) then some .cut else if c== "carried".toList then some .carried else if f.isEmpty then none else some (.lifted f)):=by
 unfold Program.make;rw[h,e,g]
theorem wK (P:Program) (l:List Char) (ws:List (List Char)) (f:List String) (h:P.initOrder.toList=l) (e:behindMainWord (wordsSigns l)=ws) (g:P.headLifts=f):
 P.liftsFinal=((ws.head? ==some "carried".toList&&ws.take 3 != ["carried".toList,"gc".toList,"cut".toList])||f.contains "finals"):=by
 unfold Program.liftsFinal;rw[h,e,g]
theorem ya (P:Program) (l c:List Char) (ws:List (List Char)) (f:List String) (h:P.initOrder.toList=l) (e:behindMainWord (wordsSigns l)=c::ws)
 (g:(stripLifts liftWords (c::ws)).1=f) (hc:(stripLifts liftWords (c::ws)).2.head? ==some "cut".toList)
 (a:(f.contains "finals" || !P.laysLater)=true) (b:(f.contains "reflectrows" || !P.bearsReflect)=true) (d:(f.contains "reflectrows" || !f.contains "leanrows")=true)
 (k:P.doorFits f=true):P.mayEnter=true:=by
 unfold Program.mayEnter;rw[h,e];dsimp only;rw[g,hc,a,b,d,k];simp
theorem rm:Tryz.prog.headLifts=[]:=
 (xX Tryz.prog ioL ioW io lc).trans (by decide+kernel)
theorem uJ:Tryz.prog.make=some .cut:=
 (zx Tryz.prog ioL _ _ _ io lc rm).trans (by decide+kernel)
theorem rU:Tryz.prog.liftsFinal=false:=
 (wK Tryz.prog ioL _ _ io lc rm).trans (by decide+kernel)
theorem sB:Tryz.prog.mayEnter=true:=
 ya Tryz.prog ioL _ _ [] io lc (by decide+kernel) (by decide+kernel) (by kernel_rfl) (by kernel_rfl) (by kernel_rfl) (by kernel_rfl)
theorem uz:laidOutB Tryz.prog=true:=by kernel_rfl
theorem uq:mapsRowed Tryz.prog=true:=by kernel_rfl
theorem sP:Tryz.prog.stopsHeard=true:=by kernel_rfl
theorem aE {a b:Bool} (h:a=true) (k:b=true):(a&&b)=true:=by rw[h,k];rfl
end Go.Proofs.YtdgkokanccedkaaGreatDoor
