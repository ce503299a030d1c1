/- The law FnExactFormatBelief holds: whatever its arguments, the call returns true and leaves them as they were. No condition. -/
import Derived.Test.YticpmdigfdpmfaaDoorPla
import Derived.Test.YticpmdigfdpmfaaDoorHb
import Derived.Test.YticpmdigfdpmfaaDoorLaa
import Derived.Test.YticpmdigfdpmfaaDoorIs
import Derived.LaidLaws
import Derived.LaidHandle
import Derived.Test.YticpmdigfdpmfaaDoorOrder
import Derived.Test.YticpmdigfdpmfaaDoorRows
import Derived.Test.YticpmdigfdpmfaaDoorCards
import Derived.Test.YticpmdigfdpmfaaDoorTie
import Derived.ProofKit
import Derived.LaidMore
import Derived.OpenShut
import Derived.SevenTiedAt
import Derived.Stop.Joined
set_option linter.unusedVariables false
set_option linter.unusedSimpArgs false
set_option linter.unusedSectionVars false
namespace Go.Vs
open Go.IntWalk
def prt (x:Belief):List (List UInt8):=x.Places.map (·.data.toList)++x.Rides.map tT
def pK (x:Belief):ByteArray:=match prt x with
 |[]=>eM
 |b::r=>st (b++bl r)
theorem ry {a b:List UInt8} (h:st a=st b):a=b:=by
 have:=congrArg (fun z:ByteArray=>z.data.toList) h
 simpa [st] using this
theorem pN (c:UInt8) (l:List UInt8):G.real.sub3 (st (c::l)) 1 ((st (c::l)).size:Int)=st l:=by
 show(st (c::l)).extract 1 (st (c::l)).size=_
 rw[aO]
 apply ByteArray.ext
 rw[ByteArray.data_extract]
 simp[st]
theorem oF {x:Belief} (hr:∀t∈x.Rides,TrR t):(bl (prt x)).length≤x.Places.length+cO (fun y=>y.size) x.Places+50*x.Rides.length:=by
 unfold prt
 rw[pi,List.length_append]
 have h1:(bl (x.Places.map (·.data.toList))).length=x.Places.length+cO (fun y=>y.size) x.Places:=by
  rw[mp,List.length_map,List.map_map]
  rfl
 have h2:∀l:List Trip,(∀t∈l,TrR t)→(bl (l.map tT)).length≤50*l.length:=by
  intro l
  induction l with
  |nil=>intro _;exact Nat.le_refl _
  |cons t l ih=>
   intro h
   have a:=qB (h t (by simp))
   have b:=ih fun y hy=>h y (by simp[hy])
   rw[List.map_cons,eo]
   simp only[List.length_cons,List.length_append]
   omega
 have:=h2 x.Rides hr
 omega
theorem fb_s {x:Belief} (hx:x.tot≤1048576) (hr:∀t∈x.Rides,TrR t):bt G.real TE.real x=some (pK x):=by
 unfold Belief.tot at hx
 have hs:=oF hr
 unfold bt
 rw[show bI=st [] from rfl,qt x.Places [] (by simp;omega),bn,List.nil_append]
 have hl:(bl (x.Places.map (·.data.toList))).length=x.Places.length+cO (fun y=>y.size) x.Places:=by
  rw[mp,List.length_map,List.map_map]
  rfl
 rw[qp x.Rides _ hr (by omega),bn,←pi,show x.Places.map (·.data.toList)++x.Rides.map tT=prt x from rfl,oN,dh]
 unfold pK
 cases hp:prt x with
 |nil=>rw[if_pos (show st (bl [])=st [] from rfl)]
 |cons b r=>
  rw[eo,if_neg (fun h=>by have:=ry h;cases this),oe,o8]
  rw[aT (by rw[aO];simp only[List.length_cons,List.length_append,List.cons_append];omega)]
  show some (G.real.sub3 (st (32::(b++bl r))) 1 ((st (32::(b++bl r))).size:Int))=_
  rw[pN]
theorem fb_i {x:Belief} (hx:x.tot≤1048576) (hr:∀t∈x.Rides,TrR t):bx G.real TE.real x=some (pK x):=by
 unfold Belief.tot at hx
 have hs:=oF hr
 unfold bx
 rw[cJ,aT (by simp;omega),cJ,List.nil_append,qk x.Rides _ hr (by omega),bn,o8,mq rfl rfl,lf,dh]
 have e:(x.Places++x.Rides.map fun t=>st (tT t)).map (·.data.toList)=prt x:=by
  unfold prt
  rw[List.map_append,List.map_map]
  rfl
 have el:(x.Places++x.Rides.map fun t=>st (tT t)).length=(prt x).length:=by rw[←e,List.length_map]
 generalize (x.Places++x.Rides.map fun t=>st (tT t))=y at e el
 rw[el]
 unfold pK
 cases hp:prt x with
 |nil=>rw[if_pos (by simp)]
 |cons b r=>
  rw[if_neg (by simp;omega)]
  have hb:(bl (prt x)).length=1+(b++bl r).length:=by rw[hp,eo];simp;omega
  have hlen:=mp (prt x)
  unfold cV
  rw[e,hp,show(bE:ByteArray).data.toList=[32] from rfl,Lib.join_cons,show Lib.joinTail [32] r=bl r from rfl,aT ⟨by omega,by omega⟩,bn]
  rfl
theorem gz (a:Belief) (hw:a.wd) (hr:∀t∈a.Rides,TrR t):aK G.real TE.real a=some true:=by
 unfold aK
 rw[cJ,lW a 1048576 (by omega) (by omega) hw]
 unfold cu
 rw[kH,dh]
 by_cases h:(1048576:Int)-(a.tot:Int)<0
 ·rw[if_pos h];rfl
 ·have ht:a.tot≤1048576:=by omega
  rw[if_neg h,if_neg (by omega),ml a ht]
  simp only[bn]
  rw[fb_s ht hr,fb_i ht hr]
  simp only[bn]
  rw[oN,decide_eq_true rfl,lK,l5 a ht]
  rfl
end Go.Vs
namespace Go.Vs
open Go.RowKit
theorem o9 (r:List R) (h:Rs.is [.int .i64,.int .i64] r):∃x:Trip,r=Trip.rs TE.real x∧TrR x:=by
 obtain⟨c0,r0,rfl,h0,h⟩:=fC h
 obtain⟨c1,r1,rfl,h1,h⟩:=fC h
 obtain rfl:=lY h
 obtain⟨x0,rfl,a0⟩:=pu h0
 obtain⟨x1,rfl,a1⟩:=pu h1
 exact⟨⟨x0,x1⟩,rfl,a0,a1⟩
theorem mf (r:List R) (h:Rs.is [.sl [.str],.sl [.int .i64,.int .i64]] r):∃x:Belief,r=Belief.rs TE.real x∧Belief.wd x∧∀t∈x.Rides,TrR t:=by
 obtain⟨c0,r0,rfl,h0,h⟩:=fC h
 obtain⟨c1,r1,rfl,h1,h⟩:=fC h
 obtain rfl:=lY h
 obtain⟨w0,rfl,l0,q0⟩:=qq h0
 obtain⟨x0,rfl,p0⟩:=ko is_S w0 q0
 rw[List.length_map] at l0
 obtain⟨w1,rfl,l1,q1⟩:=qq h1
 obtain⟨x1,rfl,p1⟩:=ko o9 w1 q1
 rw[List.length_map] at l1
 exact⟨⟨x0,x1⟩,rfl,⟨⟨l0,p0⟩,l1⟩,p1⟩
theorem law3 (a:Belief) (hw:a.wd) (hr:∀t∈a.Rides,TrR t):aK G.real TE.real a=some true:=gz a hw hr
end Go.Vs
namespace Go.Vs
open Go.Lib
theorem fU {P:Program} {W:World} {name:String} {k:IntKind} {zs:List Int} {g:Nat} {t e:TypeId} {n:Nat}
 (hg:P.globalNamed name=some g) (hty:(P.globals[g]?).map (·.type)=some t) (ht:P.underlying t=some (.array n e)) (he:P.underlying e=some (.int k)) (hce:P.cellsOf e=1) (hct:P.cellsOf t=n):
 ∀(l:List (String×DataW Unit)) (ps:List MemPlace),DataW.LaidVars P W l ps→(name,tabData k zs)∈l→TabIs P W name k zs
 |[],_,_,h=>by cases h
 |(m,d)::l,ps,h,hm=>by
  obtain⟨g',t',cs,fuel,p,q,hg',ht',hvar,hd,hr,_⟩:=h
  rcases List.mem_cons.1 hm with e1|hm
  ·cases e1
   obtain rfl:=Option.some.inj (hg.symm.trans hg')
   obtain rfl:=Option.some.inj (hty.symm.trans ht')
   unfold TabIs
   rw[hvar,←cells_of_tab ht he hce hct hd]
  ·exact fU hg hty ht he hce hct l q hr hm
end Go.Vs
namespace Go.Proofs.YticpmdigfdpmfaaDoor.fnExactFormatBelief
open Go.Vs Go.RowKit Go.WideShapes Go.ChangeShapes
set_option linter.unusedVariables false
set_option maxRecDepth 100000
theorem rH (as0:List A) (h:jU Tryd.prog 8 Tryd.f3.params.toList as0):Go.Vs.Fn Tryd.prog 3 as0 (.c (.r (.v (.bool true)))):=by
 rw[Tryd.params3] at h
 obtain⟨x0,xs0,rfl,⟨ts0,t0,q0⟩,h⟩:=h
 rw[show eK Tryd.prog 8 25=some [.sl [.str],.sl [.int .i64,.int .i64]] from by kernel_rfl] at t0
 cases t0
 rw[show nY Tryd.prog 25=true from by kernel_rfl] at q0
 obtain⟨r0,rfl,q0⟩:=q0
 obtain⟨a0,rfl,w0,w1⟩:=mf r0 q0
 have h:=h
 subst h
 exact dF rfl rfl (law3 _ w0 w1)
abbrev ig:List (String×DataW Unit):=[("math/bits.deBruijn32tab",Rows.laid_math_bits_deBruijn32tab),("math/bits.deBruijn64tab",Rows.laid_math_bits_deBruijn64tab),("internal/strconv.uint64pow10",Rows.laid_internal_strconv_uint64pow10)]
theorem gPow:Tryd.prog.globalNamed "internal/strconv.uint64pow10" =some 1:=by kernel_rfl
theorem dPow:(Rows.laid_internal_strconv_uint64pow10:DataW Unit)=Go.Lib.tabData .u64 Go.Lib.pow10Tab:=by kernel_rfl
theorem qc {W:World} (h:laidMetH Tryd.prog ig W):Laid Tryd.prog W:=by
 rw[MakeChecks.laidMetH_plain _ _ _ (by kernel_rfl)] at h
 obtain⟨ps,h,_⟩:=h
 intro t ht _
 simp only[qS,List.mem_singleton] at ht
 subst ht
 exact fU (g:=1) (t:=71) (e:=64) (n:=20) gPow (by kernel_rfl) (by kernel_rfl) (by kernel_rfl) (by kernel_rfl) (by kernel_rfl) ig ps h (by rw[←dPow];simp[ig])
theorem own:ownKnob Tryd.prog.godebug=none:=by kernel_rfl
theorem oY (os:Os) (args:Array Value):laidMetH Tryd.prog ig ((World.doorLaid Tryd.prog 400 os).forCall (fun _ _=>0) ⟨#[],args,[]⟩).memory:=
 laidMetH_of_parts3 (fuel:=8) (laidMet_of_run' 8 (by kernel_rfl) (by kernel_rfl)) (by kernel_rfl) (by kernel_rfl)
theorem lifted (os:Os) (started:os.Started) (H:Type) (enc:TypeId×Value→H):
 ReturnsInHanded {} Tryd.checked os 3 .any (fun w args=>(Rows.fnExactFormatBeliefSpec.pre enc Tryd.prog Tryd.f3 [] false w args∧laidMetH Tryd.prog ig w)∧sizedMet enc Tryd.prog Tryd.f3 (OpenSpec.ofChange Rows.fnExactFormatBeliefSpec) false w args)
  (Rows.fnExactFormatBeliefSpec.post enc Tryd.prog Tryd.f3 false true false false):=by
 refine returnsInHanded_of_change_and (C:=Tryd.checked) (X:=fun w _=>laidMetH Tryd.prog ig w) (fun _ _ _ hh h=>h.of_heap hh) own started (by kernel_rfl) Tryd.func3
  (ChangeSpec.witness_shaped (enc:=enc) (C:=Tryd.checked) (os:=os) (X:=fun w _=>laidMetH Tryd.prog ig w) false (World.doorLaid Tryd.prog 400 os) #[.agg #[.slice none 0 0,.slice none 0 0]] 8 rfl (World.shaped_of_RefB (by kernel_rfl) (by kernel_rfl)) (by kernel_rfl) (by kernel_rfl) (by kernel_rfl) (oY os _)) ?_
 intro W base args ds gs before hval hW _ _ hL _
 refine j6 (n:=8) (tb:=4) rfl rfl Tryd.underlying4 (by kernel_rfl) (by kernel_rfl) (fun ds hl=>?_) rH W (qc hL) base args ds gs before hval hW
 rw[Tryd.params3] at hl
 match ds,hl with
 |[d0],_=>exact⟨rfl,rfl,rfl⟩
theorem rR:joinedFacts Tryd.prog 3 Tryd.f3 Rows.fnExactFormatBeliefSpec Rows.fnExactFormatBeliefRow=true:=by
 unfold joinedFacts
 exact(aU (aU (aU (aU (aU (aU (aU (aU (aU (aU (aU (aU (aU (aU (aU (aU (aU (aU (aU (aU (aU (aU (aU (aU (aU (aU (aU (aU (aU (aU (aU (by kernel_rfl) qd) pU) (by kernel_rfl)) (by kernel_rfl)) (by kernel_rfl)) (by kernel_rfl)) (by kernel_rfl)) (by kernel_rfl)) (by kernel_rfl)) (by kernel_rfl)) (by kernel_rfl)) (by kernel_rfl)) (by kernel_rfl)) (by kernel_rfl)) (by kernel_rfl)) (by kernel_rfl)) (by kernel_rfl)) (by kernel_rfl)) (by kernel_rfl)) (by kernel_rfl)) (by kernel_rfl)) (by kernel_rfl)) (by kernel_rfl)) og) ph) (by rw[pf];rfl)) (by rw[p7];rfl)) (by kernel_rfl)) (by kernel_rfl)) (by kernel_rfl)) (by kernel_rfl))
theorem oV:Rows.FnExactFormatBeliefSaid:=
 OpenClaim.holds_of_wide 3 Tryd.f3 rfl rfl rfl rfl rfl rfl rfl ⟨rfl,rfl,rfl,rfl,rfl⟩ rfl rfl rfl rfl rfl (by kernel_rfl) Tryd.func3 rR
  (of_decide_eq_true (by kernel_rfl)) (by unfold Func.isWrapper;first|(rw[if_pos (by decide+kernel)];kernel_rfl)|(rw[if_neg (by decide+kernel)];exact⟨rfl,rfl⟩))
  (fun os started H enc _=>lifted os started H enc)
theorem holds:Rows.FnExactFormatBeliefCardSaid:=
 Claim7.holds_tied_plain_at .later [] [.data,.data,.data] true (true,"16fd0ac6d2c8d81162b56d9c7815db9250a392d9a37cd8e5c9c77dab82c55301") false
  oV (fun _ h=>by cases h) (by kernel_rfl) (fun _ h=>by cases h) fnExactFormatBelief_row_tie rfl ⟨rfl,rfl⟩ (by kernel_rfl) rfl
  (fun f fn hf hfn=>by
   obtain rfl:f=3:=Option.some.inj ((show Tryd.prog.funcNamed "loop.example/g03014/laws.FnExactFormatBelief" =some 3 by kernel_rfl).symm.trans hf) |>.symm
   obtain rfl:fn=Tryd.f3:=(Option.some.inj (Tryd.func3.symm.trans hfn)).symm
   exact⟨by kernel_rfl,fun j t ht=>by
    rw[Tryd.params3] at ht
    have hm:t∈[25]:=by simpa using Array.mem_of_getElem? ht
    have hall:([25].all fun u=> !Tryd.prog.wantsStandIn u)=true:=by kernel_rfl
    exact(show Tryd.prog.wantsStandIn t=false by simpa using List.all_eq_true.1 hall t hm)⟩)
  (by kernel_rfl)
end Go.Proofs.YticpmdigfdpmfaaDoor.fnExactFormatBelief
