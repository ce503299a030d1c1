/- The law FnExactFormatScan holds: whatever its arguments, the call returns true and leaves them as they were. No condition. -/
import Derived.Test.YtdgkokanccedkaaGreatDoorHb
import Derived.Test.YtdgkokanccedkaaGreatDoorLab
import Derived.Test.YtdgkokanccedkaaGreatDoorSca
import Derived.Test.YtdgkokanccedkaaGreatDoorLaa
import Derived.LaidLaws
import Derived.LaidHandle
import Derived.Test.YtdgkokanccedkaaGreatDoorIs
import Derived.Test.YtdgkokanccedkaaGreatDoorOrder
import Derived.Test.YtdgkokanccedkaaGreatDoorRows
import Derived.Test.YtdgkokanccedkaaGreatDoorCards
import Derived.Test.YtdgkokanccedkaaGreatDoorTie
import Derived.ProofKit
import Derived.LaidMore
import Derived.OpenShut
import Derived.SevenTiedAt
import Derived.Stop.Joined
set_option linter.unusedVariables false
set_option linter.unusedSimpArgs false
set_option linter.unusedSectionVars false
namespace Go.Vs
open Go.IntWalk
theorem law5 (n:Network) (a:Scan) (hn:n.wd) (ha:a.wd):bJ G.real TE.real n a=some true:=by
 unfold bJ
 rw[nC n _ (by omega) (by omega) hn]
 simp only[bp,fq,aE]
 by_cases h:bY 1048576 n.tot<0
 ·rw[if_pos h]
 ·have hs:=eN h
  rw[if_neg h,hs.1,sz a _ (by omega) (by omega) ha]
  by_cases h2:bY (1048576-(n.tot:Int)) a.tot<0
  ·rw[if_pos h2]
  ·have hs2:=eN h2
   have ht:n.tot≤1048576:=by omega
   rw[if_neg h2,oF n ht,sD a (by omega),al]
   rw[show(Scan.mk a.Thing a.At a.Kind a.Place (Trip.mk a.Trip.Leg a.Trip.Day))=a from rfl,fs_s ht,al,al,fs_i ht,al,al,nZ n ht]
   rw[gB,decide_eq_true rfl];rfl
end Go.Vs
namespace Go.Vs
open Go.Lib
theorem i6 {P:Program} {W:World} {name:String} {k:IntKind} {zs:List Int} {g:Nat} {t e:TypeId} {n:Nat}
 (hg:P.globalNamed name=some g) (hty:(P.globals[g]?).map (·.type)=some t) (ht:P.underlying t=some (.array n e)) (he:P.underlying e=some (.int k)) (hce:P.cellsOf e=1) (hct:P.cellsOf t=n):
 ∀(l:List (String×DataW Unit)) (ps:List MemPlace),DataW.LaidVars P W l ps→(name,tabData k zs)∈l→TabIs P W name k zs
 |[],_,_,h=>by cases h
 |(m,d)::l,ps,h,hm=>by
  obtain⟨g',t',cs,fuel,p,q,hg',ht',hvar,hd,hr,_⟩:=h
  rcases List.mem_cons.1 hm with e1|hm
  ·cases e1
   obtain rfl:=Option.some.inj (hg.symm.trans hg')
   obtain rfl:=Option.some.inj (hty.symm.trans ht')
   unfold TabIs
   rw[hvar,←cells_of_tab ht he hce hct hd]
  ·exact i6 hg hty ht he hce hct l q hr hm
end Go.Vs
namespace Go.Proofs.YtdgkokanccedkaaGreatDoor.fnExactFormatScan
open Go.Vs Go.RowKit Go.WideShapes Go.ChangeShapes
set_option linter.unusedVariables false
set_option maxRecDepth 100000
theorem v8 (as0:List A) (h:ng Tryz.prog 8 Tryz.f5.params.toList as0):Go.Vs.Fn Tryz.prog 5 as0 (.c (.r (.v (.bool true)))):=by
 rw[Tryz.params5] at h
 obtain⟨x0,xs0,rfl,⟨ts0,t0,q0⟩,h⟩:=h
 rw[show gn Tryz.prog 8 46=some [.sl [.str,.str,.int .i64,.int .i64,.int .i64,.int .i64],.sl [.int .i64],.int .i64] from by kernel_rfl] at t0
 cases t0
 rw[show o8 Tryz.prog 46=true from by kernel_rfl] at q0
 obtain⟨r0,rfl,q0⟩:=q0
 obtain⟨a0,rfl,w0⟩:=pu r0 q0
 obtain⟨x1,xs1,rfl,⟨ts1,t1,q1⟩,h⟩:=h
 rw[show gn Tryz.prog 8 54=some [.int .i64,.int .i64,.int .i64,.str,.int .i64,.int .i64] from by kernel_rfl] at t1
 cases t1
 rw[show o8 Tryz.prog 54=true from by kernel_rfl] at q1
 obtain⟨r1,rfl,q1⟩:=q1
 obtain⟨a1,rfl,w1⟩:=ua r1 q1
 have h:=h
 subst h
 exact fo rfl rfl (law5 _ _ w0 w1)
abbrev kQ:List (String×DataW Unit):=[("math/bits.deBruijn32tab",Rows.laid_math_bits_deBruijn32tab),("math/bits.deBruijn64tab",Rows.laid_math_bits_deBruijn64tab),("internal/strconv.uint64pow10",Rows.laid_internal_strconv_uint64pow10)]
theorem gPow:Tryz.prog.globalNamed "internal/strconv.uint64pow10" =some 3:=by kernel_rfl
theorem dPow:(Rows.laid_internal_strconv_uint64pow10:DataW Unit)=Go.Lib.tabData .u64 Go.Lib.pow10Tab:=by kernel_rfl
theorem tS {W:World} (h:laidMetH Tryz.prog kQ W):Laid Tryz.prog W:=by
 rw[MakeChecks.laidMetH_plain _ _ _ (by kernel_rfl)] at h
 obtain⟨ps,h,_⟩:=h
 refine⟨fun t ht _=>?_,fun t ht=>by cases ht⟩
 simp only[tabs,List.mem_singleton] at ht
 subst ht
 exact i6 (g:=3) (t:=165) (e:=133) (n:=20) gPow (by kernel_rfl) (by kernel_rfl) (by kernel_rfl) (by kernel_rfl) (by kernel_rfl) kQ ps h (by rw[←dPow];simp[kQ])
theorem own:ownKnob Tryz.prog.godebug=none:=by kernel_rfl
theorem sA (os:Os) (args:Array Value):laidMetH Tryz.prog kQ ((World.doorLaid Tryz.prog 400 os).forCall (fun _ _=>0) ⟨#[],args,[]⟩).memory:=
 laidMetH_of_parts3 (fuel:=8) (laidMet_of_run' 8 (by kernel_rfl) (by kernel_rfl)) (by kernel_rfl) (by kernel_rfl)
theorem lifted (os:Os) (started:os.Started) (H:Type) (enc:TypeId×Value→H):
 ReturnsInHanded {} Tryz.checked os 5 .any (fun w args=>(Rows.fnExactFormatScanSpec.pre enc Tryz.prog Tryz.f5 [] false w args∧laidMetH Tryz.prog kQ w)∧sizedMet enc Tryz.prog Tryz.f5 (OpenSpec.ofChange Rows.fnExactFormatScanSpec) false w args)
  (Rows.fnExactFormatScanSpec.post enc Tryz.prog Tryz.f5 false true false false):=by
 refine returnsInHanded_of_change_and (C:=Tryz.checked) (X:=fun w _=>laidMetH Tryz.prog kQ w) (fun _ _ _ hh h=>h.of_heap hh) own started (by kernel_rfl) Tryz.func5
  (ChangeSpec.witness_shaped (enc:=enc) (C:=Tryz.checked) (os:=os) (X:=fun w _=>laidMetH Tryz.prog kQ w) false (World.doorLaid Tryz.prog 400 os) #[.agg #[.slice none 0 0,.slice none 0 0,.int .i64 0],.agg #[.int .i64 0,.int .i64 0,.int .i64 0,.string ⟨#[]⟩,.int .i64 0,.int .i64 0]] 8 rfl (World.shaped_of_RefB (by kernel_rfl) (by kernel_rfl)) (by kernel_rfl) (by kernel_rfl) (by kernel_rfl) (sA os _)) ?_
 intro W base args ds gs before hval hW _ _ hL _
 refine na (n:=8) (tb:=4) rfl rfl Tryz.underlying4 (by kernel_rfl) (by kernel_rfl) (fun ds hl=>?_) v8 W (tS hL) base args ds gs before hval hW
 rw[Tryz.params5] at hl
 match ds,hl with
 |[d0,d1],_=>exact⟨rfl,rfl,rfl⟩
theorem v7:joinedFacts Tryz.prog 5 Tryz.f5 Rows.fnExactFormatScanSpec Rows.fnExactFormatScanRow=true:=by
 unfold joinedFacts
 exact(bo (bo (bo (bo (bo (bo (bo (bo (bo (bo (bo (bo (bo (bo (bo (bo (bo (bo (bo (bo (bo (bo (bo (bo (bo (bo (bo (bo (bo (bo (bo (by kernel_rfl) uu) uh) (by kernel_rfl)) (by kernel_rfl)) (by kernel_rfl)) (by kernel_rfl)) (by kernel_rfl)) (by kernel_rfl)) (by kernel_rfl)) (by kernel_rfl)) (by kernel_rfl)) (by kernel_rfl)) (by kernel_rfl)) (by kernel_rfl)) (by kernel_rfl)) (by kernel_rfl)) (by kernel_rfl)) (by kernel_rfl)) (by kernel_rfl)) (by kernel_rfl)) (by kernel_rfl)) (by kernel_rfl)) (by kernel_rfl)) sm) sH) (by rw[tB];rfl)) (by rw[tJ];rfl)) (by kernel_rfl)) (by kernel_rfl)) (by kernel_rfl)) (by kernel_rfl))
theorem sX:Rows.FnExactFormatScanSaid:=
 OpenClaim.holds_of_wide 5 Tryz.f5 rfl rfl rfl rfl rfl rfl rfl ⟨rfl,rfl,rfl,rfl,rfl⟩ rfl rfl rfl rfl rfl (by kernel_rfl) Tryz.func5 v7
  (of_decide_eq_true (by kernel_rfl)) (by unfold Func.isWrapper;first|(rw[if_pos (by decide+kernel)];kernel_rfl)|(rw[if_neg (by decide+kernel)];exact⟨rfl,rfl⟩))
  (fun os started H enc _=>lifted os started H enc)
theorem holds:Rows.FnExactFormatScanCardSaid:=
 Claim7.holds_tied_plain_at .later [] [.data,.data,.data] true (true,"25f93814be5e43bb1e2b917c9f366d1e9cf27697260c6270b908a07dabc9932e") true
  sX (fun _ h=>by cases h) (by kernel_rfl) (fun _ h=>by cases h) fnExactFormatScan_row_tie rfl ⟨rfl,rfl⟩ (by kernel_rfl) rfl
  (fun f fn hf hfn=>by
   obtain rfl:f=5:=Option.some.inj ((show Tryz.prog.funcNamed "loop.example/g03014/laws.FnExactFormatScan" =some 5 by kernel_rfl).symm.trans hf) |>.symm
   obtain rfl:fn=Tryz.f5:=(Option.some.inj (Tryz.func5.symm.trans hfn)).symm
   exact⟨by kernel_rfl,fun j t ht=>by
    rw[Tryz.params5] at ht
    have hm:t∈[46,54]:=by simpa using Array.mem_of_getElem? ht
    have hall:([46,54].all fun u=> !Tryz.prog.wantsStandIn u)=true:=by kernel_rfl
    exact(show Tryz.prog.wantsStandIn t=false by simpa using List.all_eq_true.1 hall t hm)⟩)
  (by kernel_rfl)
end Go.Proofs.YtdgkokanccedkaaGreatDoor.fnExactFormatScan
