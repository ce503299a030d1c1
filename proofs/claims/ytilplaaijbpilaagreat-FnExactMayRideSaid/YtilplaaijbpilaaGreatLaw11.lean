/- The law FnExactMayRide holds: whatever its arguments, the call returns true and leaves them as they were. No condition. -/
import Derived.Test.YtilplaaijbpilaaGreatHb
import Derived.Test.YtilplaaijbpilaaGreatLak
import Derived.Test.YtilplaaijbpilaaGreatGbA
import Derived.Test.YtilplaaijbpilaaGreatGdA
import Derived.Test.YtilplaaijbpilaaGreatIs
import Derived.Test.YtilplaaijbpilaaGreatOrder
import Derived.Test.YtilplaaijbpilaaGreatRows
set_option linter.unusedVariables false
set_option linter.unusedSimpArgs false
set_option linter.unusedSectionVars false
namespace Go.Vs
open Go.IntWalk
theorem Is (n:Network) (l:List Scan) (x:Int) (a:Int) (t:Trip) (hn:n.wd) (hl:l.length≤9223372036854775807∧∀y∈l,Scan.wd y) (_: -9223372036854775808≤x∧x≤9223372036854775807) (_: -9223372036854775808≤a∧a≤9223372036854775807):hR G.real TE.real n l x a t=some true:=by
 unfold hR
 rw[da n _ (by omega) (by omega) hn]
 simp only[aA,bv,ao]
 by_cases h:bA 1048576 n.tot<0
 ·rw[if_pos h]
 ·have hs:=a9 h
  rw[if_neg h,hs.1,eS l _ (by omega) (by omega) hl]
  by_cases h2:bA (1048576-(n.tot:Int)) (l.length+bL (fun y=>Scan.tot y) l)<0
  ·rw[if_pos h2]
  ·have hs2:=a9 h2
   have ht:n.tot≤1048576:=by omega
   have hl1:l.length≤1048576:=by omega
   have hl2:l.length+bL (fun y=>Scan.tot y) l≤1048576:=by omega
   have hl3:iu l≤1048576:=hl2
   rw[if_neg h2,dc n ht,eR l hl2]
   simp only[ag,Im ht l hl1,mr_i ht l hl1,dd n ht,dk l hl2,aA,yV]
   cases (mrB n l x a t)<;>rfl
end Go.Vs
namespace Go.Proofs.YtilplaaijbpilaaGreat.fnExactMayRide
open Go.Vs Go.RowKit Go.WideShapes Go.ChangeShapes
set_option linter.unusedVariables false
set_option maxRecDepth 100000
theorem gQ (as0:List A) (h:iT Tryz.prog 8 Tryz.f11.params.toList as0):Go.Vs.Fn Tryz.prog 11 as0 (.c (.r (.v (.bool true)))):=by
 rw[Tryz.params11] at h
 obtain⟨x0,xs0,rfl,⟨ts0,t0,q0⟩,h⟩:=h
 rw[show cQ Tryz.prog 8 25=some [.sl [.str,.str,.int .i64,.int .i64,.int .i64,.int .i64],.sl [.int .i64],.int .i64] from by kernel_rfl] at t0
 cases t0
 rw[show dO Tryz.prog 25=true from by kernel_rfl] at q0
 obtain⟨r0,rfl,q0⟩:=q0
 obtain⟨a0,rfl,w0⟩:=dP r0 q0
 obtain⟨x1,xs1,rfl,⟨ts1,t1,q1⟩,h⟩:=h
 rw[show cQ Tryz.prog 8 26=some [.sl [.int .i64,.int .i64,.int .i64,.str,.int .i64,.int .i64]] from by kernel_rfl] at t1
 cases t1
 rw[show dO Tryz.prog 26=false from by kernel_rfl] at q1
 obtain⟨r1,rfl,q1⟩:=q1
 obtain⟨_,_,e1,q1,e1_⟩:=aK q1
 cases e1
 obtain⟨b1,rfl,l1,q1⟩:=lR q1
 obtain⟨a1,rfl,p1⟩:=fY iK b1 q1
 rw[List.length_map] at l1
 obtain⟨x2,xs2,rfl,⟨ts2,t2,q2⟩,h⟩:=h
 rw[show cQ Tryz.prog 8 3=some [.int .i64] from by kernel_rfl] at t2
 cases t2
 rw[show dO Tryz.prog 3=false from by kernel_rfl] at q2
 obtain⟨r2,rfl,q2⟩:=q2
 obtain⟨_,_,e2,q2,e2_⟩:=aK q2
 cases e2
 obtain⟨a2,rfl,w2⟩:=fW q2
 obtain⟨x3,xs3,rfl,⟨ts3,t3,q3⟩,h⟩:=h
 rw[show cQ Tryz.prog 8 3=some [.int .i64] from by kernel_rfl] at t3
 cases t3
 rw[show dO Tryz.prog 3=false from by kernel_rfl] at q3
 obtain⟨r3,rfl,q3⟩:=q3
 obtain⟨_,_,e3,q3,e3_⟩:=aK q3
 cases e3
 obtain⟨a3,rfl,w3⟩:=fW q3
 obtain⟨x4,xs4,rfl,⟨ts4,t4,q4⟩,h⟩:=h
 rw[show cQ Tryz.prog 8 58=some [.int .i64,.int .i64] from by kernel_rfl] at t4
 cases t4
 rw[show dO Tryz.prog 58=true from by kernel_rfl] at q4
 obtain⟨r4,rfl,q4⟩:=q4
 obtain⟨a4,rfl,w4⟩:=Fp r4 q4
 have h:=h
 subst h
 exact pu rfl rfl (Is _ _ _ _ _ w0 ⟨l1,p1⟩ w2 w3)
theorem lifted (os:Os) (started:os.Started) (H:Type) (enc:TypeId×Value→H):
 ReturnsInHanded {} Tryz.checked os 11 .any (Rows.fnExactMayRideSpec.pre6 enc Tryz.prog Tryz.f11 Rows.fnExactMayRideRow.domain false) (Rows.fnExactMayRideSpec.post enc Tryz.prog Tryz.f11 false true false false):=by
 refine returnsInHanded_of_change (C:=Tryz.checked) (s:=Rows.fnExactMayRideSpec) (by kernel_rfl) started (by kernel_rfl) Tryz.func11
  (ChangeSpec.witness6 (enc:=enc) (C:=Tryz.checked) false ⟨#[],#[.agg #[.slice none 0 0,.slice none 0 0,.int .i64 0],.slice none 0 0,.int .i64 0,.int .i64 0,.agg #[.int .i64 0,.int .i64 0]],[]⟩ 8 (by kernel_rfl) (by kernel_rfl) (by kernel_rfl) (by kernel_rfl)) ?_
 intro W base args ds gs before hval hW _ _
 refine cD (n:=8) (tb:=4) rfl rfl Tryz.underlying4 (by kernel_rfl) (by kernel_rfl) (fun ds hl=>?_) gQ W base args ds gs before hval hW
 rw[Tryz.params11] at hl
 match ds,hl with
 |[d0,d1,d2,d3,d4],_=>exact⟨rfl,rfl,rfl⟩
theorem gL:joinedFacts Tryz.prog 11 Tryz.f11 Rows.fnExactMayRideSpec Rows.fnExactMayRideRow=true:=by
 unfold joinedFacts
 exact(ae (ae (ae (ae (ae (ae (ae (ae (ae (ae (ae (ae (ae (ae (ae (ae (ae (ae (ae (ae (ae (ae (ae (ae (ae (ae (ae (ae (ae (ae (ae (by kernel_rfl) iE) iD) (by kernel_rfl)) (by kernel_rfl)) (by kernel_rfl)) (by kernel_rfl)) (by kernel_rfl)) (by kernel_rfl)) (by kernel_rfl)) (by kernel_rfl)) (by kernel_rfl)) (by kernel_rfl)) (by kernel_rfl)) (by kernel_rfl)) (by kernel_rfl)) (by kernel_rfl)) (by kernel_rfl)) (by kernel_rfl)) (by kernel_rfl)) (by kernel_rfl)) (by kernel_rfl)) (by kernel_rfl)) (by kernel_rfl)) gq) gn) (by rw[gl];rfl)) (by rw[iM];rfl)) (by kernel_rfl)) (by kernel_rfl)) (by kernel_rfl)) (by kernel_rfl))
theorem holds:Rows.FnExactMayRideSaid:=
 OpenClaim.holds_of_wide 11 Tryz.f11 rfl rfl rfl rfl rfl rfl rfl ⟨rfl,rfl,rfl,rfl,rfl⟩ rfl rfl rfl rfl rfl (by kernel_rfl) Tryz.func11 gL
  (of_decide_eq_true (by kernel_rfl)) (by unfold Func.isWrapper;first|(rw[if_pos (by decide+kernel)];kernel_rfl)|(rw[if_neg (by decide+kernel)];exact⟨rfl,rfl⟩))
  (fun os started H enc _=>lifted os started H enc)
end Go.Proofs.YtilplaaijbpilaaGreat.fnExactMayRide
