/- The law FnExactBeliefOf holds: whatever its arguments, the call returns true and leaves them as they were. No condition. -/
import Derived.Test.YtilplaaijbpilaaGreatHb
import Derived.Test.YtilplaaijbpilaaGreatMark
import Derived.Test.YtilplaaijbpilaaGreatLaf
import Derived.Test.YtilplaaijbpilaaGreatGbA
import Derived.Test.YtilplaaijbpilaaGreatGeA
import Derived.Test.YtilplaaijbpilaaGreatIs
import Derived.Test.YtilplaaijbpilaaGreatOrder
import Derived.Test.YtilplaaijbpilaaGreatRows
set_option linter.unusedVariables false
set_option linter.unusedSimpArgs false
set_option linter.unusedSectionVars false
namespace Go.Vs
open Go.IntWalk
theorem Hm (n:Network) (l:List Scan) (x:Int) (a:Int) (hn:n.wd) (hl:l.length≤9223372036854775807∧∀y∈l,Scan.wd y) (_: -9223372036854775808≤x∧x≤9223372036854775807) (_: -9223372036854775808≤a∧a≤9223372036854775807):fq G.real TE.real n l x a=some true:=by
 unfold fq
 rw[qz n _ (by omega) (by omega) hn]
 simp only[az,bB,am]
 by_cases h:dG 1048576 n.tot<0
 ·rw[if_pos h]
 ·have hs:=gH h
  rw[if_neg h,hs.1,tG l _ (by omega) (by omega) hl]
  by_cases h2:dG (1048576-(n.tot:Int)) (l.length+dL (fun y=>Scan.tot y) l)<0
  ·rw[if_pos h2]
  ·have hs2:=gH h2
   have ht:n.tot≤1048576:=by omega
   have hl1:l.length≤1048576:=by omega
   have hl2:l.length+dL (fun y=>Scan.tot y) l≤1048576:=by omega
   have hl3:HW l≤1048576:=hl2
   have hr:(beB n l x a).tot≤1048576:=zh ht l x a
   have c1:=nh n
   have c2:=rB l
   have c4:=vA (beB n l x a)
   obtain⟨x',e1,e2,e3⟩:=qa n 1 (by omega) (by omega)
   obtain⟨l',f1,f2,f3⟩:=xl l (1+(fD n:Nat)) (by omega) (by omega) (by omega)
   obtain⟨r',k1,k2,k2',k3⟩:=xY (beB n l x a) 1 (by omega) (by omega)
   rw[if_neg h2,qg n ht,ug l hl2]
   simp only[af,be_s ht l hl1,Gr ht l hl1,yd (beB n l x a) hr,qy n ht,uk l hl2,bd,e1,f1,k1]
   have ke:G.real.eq (1+(fj (beB n l x a):Nat)) (1+(fj (beB n l x a):Nat))=true:=by rw[cB];simp
   rw[ag e2,ag e3,ag f2,if_neg (by omega),ag k2,ag k2']
   simp only[k3,af]
   rw[if_neg (by omega),ke]
   simp only[bd]
   rw[if_neg (by omega)]
end Go.Vs
namespace Go.Proofs.YtilplaaijbpilaaGreat.fnExactBeliefOf
open Go.Vs Go.RowKit Go.WideShapes Go.ChangeShapes
set_option linter.unusedVariables false
set_option maxRecDepth 100000
theorem Cv (as0:List A) (h:rk Tryz.prog 8 Tryz.f12.params.toList as0):Go.Vs.Fn Tryz.prog 12 as0 (.c (.r (.v (.bool true)))):=by
 rw[Tryz.params12] at h
 obtain⟨x0,xs0,rfl,⟨ts0,t0,q0⟩,h⟩:=h
 rw[show jL Tryz.prog 8 25=some [.sl [.str,.str,.int .i64,.int .i64,.int .i64,.int .i64],.sl [.int .i64],.int .i64] from by kernel_rfl] at t0
 cases t0
 rw[show oM Tryz.prog 25=true from by kernel_rfl] at q0
 obtain⟨r0,rfl,q0⟩:=q0
 obtain⟨a0,rfl,w0⟩:=rH r0 q0
 obtain⟨x1,xs1,rfl,⟨ts1,t1,q1⟩,h⟩:=h
 rw[show jL Tryz.prog 8 26=some [.sl [.int .i64,.int .i64,.int .i64,.str,.int .i64,.int .i64]] from by kernel_rfl] at t1
 cases t1
 rw[show oM Tryz.prog 26=false from by kernel_rfl] at q1
 obtain⟨r1,rfl,q1⟩:=q1
 obtain⟨_,_,e1,q1,e1_⟩:=cu q1
 cases e1
 obtain⟨b1,rfl,l1,q1⟩:=zN q1
 obtain⟨a1,rfl,p1⟩:=oB zB b1 q1
 rw[List.length_map] at l1
 obtain⟨x2,xs2,rfl,⟨ts2,t2,q2⟩,h⟩:=h
 rw[show jL Tryz.prog 8 3=some [.int .i64] from by kernel_rfl] at t2
 cases t2
 rw[show oM Tryz.prog 3=false from by kernel_rfl] at q2
 obtain⟨r2,rfl,q2⟩:=q2
 obtain⟨_,_,e2,q2,e2_⟩:=cu q2
 cases e2
 obtain⟨a2,rfl,w2⟩:=sy q2
 obtain⟨x3,xs3,rfl,⟨ts3,t3,q3⟩,h⟩:=h
 rw[show jL Tryz.prog 8 3=some [.int .i64] from by kernel_rfl] at t3
 cases t3
 rw[show oM Tryz.prog 3=false from by kernel_rfl] at q3
 obtain⟨r3,rfl,q3⟩:=q3
 obtain⟨_,_,e3,q3,e3_⟩:=cu q3
 cases e3
 obtain⟨a3,rfl,w3⟩:=sy q3
 have h:=h
 subst h
 exact m9 rfl rfl (Hm _ _ _ _ w0 ⟨l1,p1⟩ w2 w3)
theorem lifted (os:Os) (started:os.Started) (H:Type) (enc:TypeId×Value→H):
 ReturnsInHanded {} Tryz.checked os 12 .any (Rows.fnExactBeliefOfSpec.pre6 enc Tryz.prog Tryz.f12 Rows.fnExactBeliefOfRow.domain false) (Rows.fnExactBeliefOfSpec.post enc Tryz.prog Tryz.f12 false true false false):=by
 refine returnsInHanded_of_change (C:=Tryz.checked) (s:=Rows.fnExactBeliefOfSpec) (by kernel_rfl) started (by kernel_rfl) Tryz.func12
  (ChangeSpec.witness6 (enc:=enc) (C:=Tryz.checked) false ⟨#[],#[.agg #[.slice none 0 0,.slice none 0 0,.int .i64 0],.slice none 0 0,.int .i64 0,.int .i64 0],[]⟩ 8 (by kernel_rfl) (by kernel_rfl) (by kernel_rfl) (by kernel_rfl)) ?_
 intro W base args ds gs before hval hW _ _
 refine pd (n:=8) (tb:=4) rfl rfl Tryz.underlying4 (by kernel_rfl) (by kernel_rfl) (fun ds hl=>?_) Cv W base args ds gs before hval hW
 rw[Tryz.params12] at hl
 match ds,hl with
 |[d0,d1,d2,d3],_=>exact⟨rfl,rfl,rfl⟩
theorem CN:joinedFacts Tryz.prog 12 Tryz.f12 Rows.fnExactBeliefOfSpec Rows.fnExactBeliefOfRow=true:=by
 unfold joinedFacts
 exact(aX (aX (aX (aX (aX (aX (aX (aX (aX (aX (aX (aX (aX (aX (aX (aX (aX (aX (aX (aX (aX (aX (aX (aX (aX (aX (aX (aX (aX (aX (aX (by kernel_rfl) zE) Al) (by kernel_rfl)) (by kernel_rfl)) (by kernel_rfl)) (by kernel_rfl)) (by kernel_rfl)) (by kernel_rfl)) (by kernel_rfl)) (by kernel_rfl)) (by kernel_rfl)) (by kernel_rfl)) (by kernel_rfl)) (by kernel_rfl)) (by kernel_rfl)) (by kernel_rfl)) (by kernel_rfl)) (by kernel_rfl)) (by kernel_rfl)) (by kernel_rfl)) (by kernel_rfl)) (by kernel_rfl)) (by kernel_rfl)) wV) wC) (by rw[vH];rfl)) (by rw[Am];rfl)) (by kernel_rfl)) (by kernel_rfl)) (by kernel_rfl)) (by kernel_rfl))
theorem holds:Rows.FnExactBeliefOfSaid:=
 OpenClaim.holds_of_wide 12 Tryz.f12 rfl rfl rfl rfl rfl rfl rfl ⟨rfl,rfl,rfl,rfl,rfl⟩ rfl rfl rfl rfl rfl (by kernel_rfl) Tryz.func12 CN
  (of_decide_eq_true (by kernel_rfl)) (by unfold Func.isWrapper;first|(rw[if_pos (by decide+kernel)];kernel_rfl)|(rw[if_neg (by decide+kernel)];exact⟨rfl,rfl⟩))
  (fun os started H enc _=>lifted os started H enc)
end Go.Proofs.YtilplaaijbpilaaGreat.fnExactBeliefOf
