/- Part of the proofs of this seat's laws: Lae. No condition. -/
import Derived.Test.YtilplaaijbpilaaGreatTy
import Derived.Test.YtilplaaijbpilaaGreatTIRall
import Derived.Test.YtilplaaijbpilaaGreatLad
set_option linter.unusedVariables false
set_option linter.unusedSimpArgs false
set_option linter.unusedSectionVars false
namespace Go.Vs
set_option maxRecDepth 100000
def ir38:J:=js [jq 4 (.box 0),jq 8 (.alloc [.r (.v (.int .i64 0)),.r (.v (.int .i64 0)),.r (.v (.int .i64 0)),.r (.v (.string .empty)),.r (.v (.int .i64 0)),.r (.v (.int .i64 0))]),jm 9 kf] [1,2,3,4,8] (js [jl 12 3 4,jm 13 1,jm 14 2,jc 15 33 [12,13,14],jm 10 15] [3,8,10] (.seq (js [jm 11 (ki 0)] [3,8,10,11] (.bl 0 (.seq (js [jm 16 11,jm 17 10,jq 18 (.len false 17),jb 19 .lss .i 16 18] [3,8,10,11,19] (.cond 19 .skip (.exit 0))) (.seq (.block 1 (js [jm 22 10,jm 23 11,ja 24 6 22 23,jf 25 1 24,jk 26 25,jm 27 3,jb 28 .gtr .i 26 27] [3,8,10,11,28] (.cond 28 (js [jm 29 10,jm 30 11,ja 31 6 29 30,jl 32 6 31,jp (.st 6 8 32),jm 9 kt] [8,9] .ret) .skip))) (.reg none [jm 20 11,jb 21 .add .i 20 (ki 1),jm 11 21] [3,8,10,11]))))) (js [jq 33 (.bld [.r (.v (.int .i64 0)),.r (.v (.int .i64 0)),.r (.v (.int .i64 0)),.r (.v (.string .empty)),.r (.v (.int .i64 0)),.r (.v (.int .i64 0))] []),jp (.st 6 8 33),jm 9 kf] [8,9] .ret)))
def rv38:List RV:=[.c 8 true 6,.t 9]
open Go.Proofs Go.IntWalk
set_option linter.unusedVariables false
set_option maxHeartbeats 4000000
def en (g:G) (t:TE) (a3:Int) (x1:List Scan):Nat→Int→Option (LR (Scan×Bool) Unit)
 |0,v1=>
  some (LR.out ())
 |n1+1,v1=>
  gt x1 (g.nat v1) fun x2=>
  br (g.lt a3 x2.At)
  (
   some (LR.ret (((Scan.mk x2.Thing x2.At x2.Kind x2.Place (Trip.mk x2.Trip.Leg x2.Trip.Day)),true))))
  (
   en g t a3 x1 n1 (g.wrap .i64 (g.add v1 1)))
def iV (g:G) (t:TE) (a0:Network) (a1:List Scan) (a2:Int) (a3:Int):Option (Scan×Bool):=
 cl (jd g t a0 a1 a2) fun x1=>
 gd (((g.int (g.dlen (t.d_Scan x1)))≤9223372036854775807))<|
 cl (en g t a3 x1 (ay 0 (g.int (g.dlen (t.d_Scan x1)))) 0) fun o1=>lr o1 fun y1=>
 some (((Scan.mk 0 0 0 ByteArray.empty (Trip.mk 0 0)),false))
theorem nr {g:G} {t:TE} {a0:Network} {a1:List Scan} {a2:Int} {a3:Int} {r:Scan×Bool} (hg:g=G.real) (ht:t=TE.real) (h:iV g t a0 a1 a2 a3=some r):Fn Tryz.prog 38 [.g (Network.rs t a0),.c (.s 6 (t.r_Scan a1)),.c (.v (.int .i64 a2)),.c (.v (.int .i64 a3))] (.u [.g (Scan.ds t r.1),.c (.r (.v (.bool r.2)))]):=by
 obtain⟨X,hX⟩:=aH (.u [.g (Scan.ds t r.1),.c (.r (.v (.bool r.2)))]:X);rw[←hX];refine aw (rvs:=rv38) (j:=ir38) Tryz.func38 rfl (by kernel_rfl) (nb rfl) (by kernel_rfl) af ?_;intro g2 F hg2 hF;obtain rfl:g2=g:=hg2.unique.trans hg.symm;clear hg2;obtain⟨wrap,lt,_,_,_,_,_,_,_,_,_,_,int,add,_,_,_,_,_,_,_,_,_,_,dlen⟩:=g2;obtain⟨_,_,_,_,_,d_Scan⟩:=t
 obtain⟨a0_Legs,a0_Off,a0_Change⟩:=a0;unfold iV at h;try dsimp only at h
 cbv;obtain⟨x1,hx1,h⟩:=ac h;try dsimp only at h
 refine ACall.mk _ _ rfl (hF _ _ _ (mb hg ht hx1)) (.inl rfl) (nb rfl) ?_;cbv;obtain⟨hB1,h⟩:=al h;obtain⟨o1,ho1,h⟩:=ac h;try dsimp only at h
 try rw[hg] at ho1
 try rw[ht] at ho1
 refine ABL.mk {p:Nat×Int//p.1=ay p.2 (int (dlen (d_Scan x1)))∧0≤p.2∧en G.real TE.real a3 x1 p.1 p.2=some o1} (fun⟨⟨n1,v1⟩,_⟩=>({sl:=[(3,.c (.r (.v (.int .i64 a3)))),(8,.c (.p 0 6 0 0)),(10,.c (.f 1 6 0 (dlen (d_Scan x1)))),(11,.c (.r (.v (.int .i64 v1))))],tab:=[(0,some (.foc 6 [] [.r (.v (.int .i64 0)),.r (.v (.int .i64 0)),.r (.v (.int .i64 0)),.r (.v (.string ByteArray.empty)),.r (.v (.int .i64 0)),.r (.v (.int .i64 0))] [])),(1,some (.arr 6 (d_Scan x1)))]}:St)) 2 (fun p=>p.1.1) ⟨(ay 0 (int (dlen (d_Scan x1))),0),rfl,Int.le_refl _,ho1⟩ (Unit) (fun _=>({sl:=[(8,.c (.p 0 6 0 0))],tab:=[(0,some (.foc 6 [] [.r (.v (.int .i64 0)),.r (.v (.int .i64 0)),.r (.v (.int .i64 0)),.r (.v (.string ByteArray.empty)),.r (.v (.int .i64 0)),.r (.v (.int .i64 0))] []))]}:St)) 1 (fun y=>o1=LR.out y) ?_ ?_ ?_
 ·refine Wk.of [(0,some 16),(1,some 96)] rfl rfl ?_ ?_
  ·cbv;all_goals exact⟨⟨_,rfl,rfl⟩,⟨_,rfl,rfl⟩,⟨_,rfl,rfl⟩,⟨_,rfl,rfl⟩,trivial⟩
  cbv;all_goals exact⟨⟨_,rfl,_,rfl,rfl,rfl,rfl,rfl,rfl,rfl,trivial⟩,⟨_,rfl,rfl⟩,trivial⟩
 ·rintro⟨⟨n1,v1⟩,hn1,hi1,h_1⟩ hq1;try dsimp only at hn1 hi1 h_1
  clear hq1;cbv;rcases n1 with _|n1
  ·have hb1:lt v1 (int (dlen (d_Scan x1)))=false:=bu hg hn1;rw[en] at h_1;try rw[←hg] at h_1
   try rw[←ht] at h_1
   try dsimp only at h_1
   rw[hb1];cbv;refine⟨(),Wk.of [(0,some 0)] rfl rfl ?_ ?_,(Option.some.inj h_1).symm⟩
   ·cbv;all_goals exact⟨⟨_,rfl,rfl⟩,trivial⟩
   cbv;all_goals exact⟨⟨_,rfl,_,rfl,rfl,rfl,rfl,rfl,rfl,rfl,trivial⟩,trivial⟩
  have hb1:lt v1 (int (dlen (d_Scan x1)))=true:=bF hg hn1;have hl1:=d8 hn1;have hs1:=cM hg hn1 hi1 hB1 (by decide);rw[en] at h_1;try rw[←hg] at h_1
  try rw[←ht] at h_1
  try dsimp only at h_1
  rw[hb1];cbv;refine AStep.mk (dR hg hi1 hl1) ?_;cbv;obtain⟨x2,hx2,h_1⟩:=aE h_1;obtain⟨x2_Thing,x2_At,x2_Kind,x2_Place,⟨x2_Trip_Leg,x2_Trip_Day⟩⟩:=x2;try dsimp only at h_1
  refine AGet.mk _ (aG hg ht hx2) ?_;cbv
  cases hb2:(lt a3 x2_At)
  rotate_left
  ·rw[ab hb2] at h_1;cbv;refine AStep.mk (dR hg hi1 hl1) ?_;cbv;refine AGet.mk _ (aG hg ht hx2) ?_;cbv;obtain rfl:=Option.some.inj h_1;try dsimp only[lr,lrL,lrp,aR] at h
   obtain rfl:=Option.some.inj h;exact ARet.mk trivial hX.symm
  rw[aa hb2] at h_1;cbv;try rw[hg] at h_1
  try rw[ht] at h_1
  refine⟨⟨(n1,(wrap .i64 (add v1 1))),hs1.1,hs1.2,h_1⟩,Wk.of [(0,some 0),(1,some 1)] rfl rfl ?_ ?_,Nat.lt_succ_self _⟩
  ·cbv;all_goals exact⟨⟨_,rfl,rfl⟩,⟨_,rfl,rfl⟩,⟨_,rfl,rfl⟩,⟨_,rfl,rfl⟩,trivial⟩
  cbv;all_goals exact⟨⟨_,rfl,_,rfl,rfl,rfl,rfl,rfl,rfl,rfl,trivial⟩,⟨_,rfl,rfl⟩,trivial⟩
 rintro _ hy1;replace hy1:=hy1.symm;subst hy1;try dsimp only[lr,lrL,lrp,aR] at h
 cbv;obtain rfl:=Option.some.inj h;exact ARet.mk trivial hX.symm
end Go.Vs
