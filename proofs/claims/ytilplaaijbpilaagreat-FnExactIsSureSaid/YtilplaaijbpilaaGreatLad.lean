/- Part of the proofs of this seat's laws: Lad. No condition. -/
import Derived.Test.YtilplaaijbpilaaGreatTy
import Derived.Test.YtilplaaijbpilaaGreatTIRall
import Derived.Test.YtilplaaijbpilaaGreatLaa
import Derived.Test.YtilplaaijbpilaaGreatLac
import Derived.Test.YtilplaaijbpilaaGreatLab
set_option linter.unusedVariables false
set_option linter.unusedSimpArgs false
set_option linter.unusedSectionVars false
namespace Go.Vs
set_option maxRecDepth 100000
def IN:J:=js [jm 4 (ki 0)] [0,1] (.seq (js [jm 5 1,jm 6 0,jb 7 .gtr .i 5 6] [0,1,7] (.cond 7 (js [jm 8 1,jm 4 8] [4] .ret) .skip)) (js [jm 9 0,jm 4 9] [4] .ret))
def H7:List RV:=[.t 4]
open Go.Proofs Go.IntWalk
set_option linter.unusedVariables false
set_option maxHeartbeats 4000000
def yd (g:G) (t:TE) (a0:Int) (a1:Int):Int:=
 br (g.lt a0 a1)
 (
  a1)
 (
  a0)
theorem FO {g:G} {t:TE} {a0:Int} {a1:Int} {r:Int} (hg:g=G.real) (ht:t=TE.real) (h:yd g t a0 a1=r):Fn Tryz.prog 156 [.c (.v (.int .i64 a0)),.c (.v (.int .i64 a1))] (.c (.r (.v (.int .i64 r)))):=by
 obtain⟨X,hX⟩:=aH (.c (.r (.v (.int .i64 r))):X);rw[←hX];refine aw (rvs:=H7) (j:=IN) Tryz.func156 rfl (by kernel_rfl) (nb rfl) (by kernel_rfl) af ?_;intro g2 F hg2 hF;obtain rfl:g2=g:=hg2.unique.trans hg.symm;clear hg2;obtain⟨_,lt⟩:=g2;obtain⟨_⟩:=t
 unfold yd at h;try dsimp only at h
 cbv
 cases hb1:(lt a0 a1)
 rotate_left
 ·rw[ab hb1] at h;cbv;subst h;exact ARet.mk trivial hX.symm
 rw[aa hb1] at h;cbv;subst h;exact ARet.mk trivial hX.symm
def IA:J:=js [jq 6 (.mv (.k (.c (.n 1))))] [0,1,2] (js [jq 9 (.bsl 1 []),jm 7 9] [0,1,2,7] (.seq (js [jm 8 (ki 0)] [0,1,2,7,8] (.bl 0 (.seq (js [jm 10 8,jm 11 0,jq 12 (.len false 11),jb 13 .lss .i 10 12] [0,1,2,7,8,13] (.cond 13 .skip (.exit 0))) (.seq (.block 1 (js [jm 16 8,jm 17 1,jb 18 .eql .i 16 17] [0,1,2,7,8,18] (.cond 18 (.reg none [jm 19 7,jm 20 2,jc 21 156 [20,(ki 0)],jq 22 (.bsl 1 [21]),jq 23 (.app 1 8 true 19 22),jm 7 23] [0,1,2,7,8]) (.reg none [jm 24 7,jq 25 (.bsl 1 [(.k (V.i (-1)))]),jq 26 (.app 1 8 true 24 25),jm 7 26] [0,1,2,7,8])))) (.reg none [jm 14 8,jb 15 .add .i 14 (ki 1),jm 8 15] [0,1,2,7,8]))))) (js [jm 27 7,jm 6 27] [6] .ret)))
def Ie:List RV:=[.t 6]
def d9 (g:G) (t:TE) (a1:Int) (a2:Int):List ByteArray→Int→List Int→Option (List Int)
 |[],v1,w1=>
  some w1
 |z1::ls1,v1,w1=>
  br (g.eq v1 a1)
  (
   lP (yd g t a2 0) fun x1=>
   lP ([x1]) fun(l2:List Int)=>
   gd (((w1.length+l2.length)*8≤70368744177664))<|
   lP (w1++l2) fun(l3:List Int)=>
   d9 g t a1 a2 ls1 (g.wrap .i64 (g.add v1 1)) l3)
  (
   lP ([(-1)]) fun(l4:List Int)=>
   gd (((w1.length+l4.length)*8≤70368744177664))<|
   lP (w1++l4) fun(l5:List Int)=>
   d9 g t a1 a2 ls1 (g.wrap .i64 (g.add v1 1)) l5)
def mP (g:G) (t:TE) (a0:List ByteArray) (a1:Int) (a2:Int):Option (List Int):=
 lP ([]) fun(l1:List Int)=>
 cl (d9 g t a1 a2 a0 0 l1) fun y1=>
 some y1
theorem yP {g:G} {t:TE} {a0:List ByteArray} {a1:Int} {a2:Int} {r:List Int} (hg:g=G.real) (ht:t=TE.real) (h:mP g t a0 a1 a2=some r):Fn Tryz.prog 148 [.c (.s 1 (t.r_S a0)),.c (.v (.int .i64 a1)),.c (.v (.int .i64 a2))] (.c (.o 1 (t.d_I64 r))):=by
 obtain⟨X,hX⟩:=aH (.c (.o 1 (t.d_I64 r)):X);rw[←hX];refine aw (rvs:=Ie) (j:=IA) Tryz.func148 rfl (by kernel_rfl) (nb rfl) (by kernel_rfl) af ?_;intro g2 F hg2 hF;obtain rfl:g2=g:=hg2.unique.trans hg.symm;clear hg2;obtain⟨wrap,lt,_,eq,_,_,_,_,_,_,_,_,_,add,_,_,_,_,_,_,_,llen,_,_,dlen⟩:=g2;obtain⟨_,_,_,d_I64,_,_,r_S⟩:=t
 unfold mP at h;try dsimp only at h
 cbv;obtain⟨l1,hl1,h⟩:=ak h;try dsimp only at h
 refine ANew.mk (d_I64 l1) (dlen (d_I64 l1)) (by rw[←hl1];exact eM hg ht []) (by rw[←hl1];exact dg hg ht []) ?_;cbv;obtain⟨o1,ho1,h⟩:=ac h;try dsimp only at h
 try rw[hg] at ho1
 try rw[ht] at ho1
 refine ABL.mk {p:Nat×Int×List Int//p.1≤a0.length∧p.2.1=((p.1:Nat):Int)∧d9 G.real TE.real a1 a2 (List.drop p.1 a0) p.2.1 p.2.2=some o1} (fun⟨⟨k1,v1,w1⟩,_⟩=>({sl:=[(0,.c (.r (.s 1 (r_S a0)))),(1,.c (.r (.v (.int .i64 a1)))),(2,.c (.r (.v (.int .i64 a2)))),(7,.c (.f 0 1 0 (dlen (d_I64 w1)))),(8,.c (.r (.v (.int .i64 v1))))],tab:=[(0,some (.arr 1 (d_I64 w1)))]}:St)) 1 (fun p=>a0.length-p.1.1) ⟨(0,0,l1),Nat.zero_le _,rfl,ho1⟩ (List Int) (fun y1=>({sl:=[(7,.c (.f 0 1 0 (dlen (d_I64 y1))))],tab:=[(0,some (.arr 1 (d_I64 y1)))]}:St)) 1 (fun y=>o1=y) ?_ ?_ ?_
 ·refine Wk.of [(0,some 16)] rfl rfl ?_ ?_
  ·cbv;all_goals exact⟨⟨_,rfl,rfl⟩,⟨_,rfl,rfl⟩,⟨_,rfl,rfl⟩,⟨_,rfl,rfl⟩,⟨_,rfl,rfl⟩,trivial⟩
  cbv;all_goals exact⟨⟨_,rfl,rfl⟩,trivial⟩
 ·rintro⟨⟨k1,v1,w1⟩,hk1,hi1,h_1⟩ hq1;have hm1:=(hq1.1 0 _ _ rfl);try dsimp only at hk1 hi1 h_1
  clear hq1;cbv
  by_cases hc1_:k1<a0.length
  ·have hb1:lt v1 (llen (r_S a0))=true:=lK hg ht hi1 hc1_;have hs1:=qe hg ht hi1 hc1_ hm1;obtain⟨z1,hz1⟩:=aL hc1_;rw[aD hz1] at h_1;rw[d9] at h_1;try rw[←hg] at h_1
   try rw[←ht] at h_1
   try dsimp only at h_1
   rw[hb1];cbv
   cases hb2:(eq v1 a1)
   ·rw[aa hb2] at h_1;cbv;obtain⟨l4,hl4,h_1⟩:=ak h_1;try dsimp only at h_1
    refine ANew.mk (d_I64 l4) (dlen (d_I64 l4)) (by rw[←hl4];exact eM hg ht [(-1)]) (by rw[←hl4];exact dg hg ht [(-1)]) ?_;cbv;obtain⟨hc2,h_1⟩:=al h_1;refine AStep.mk ⟨⟨rfl,(am hg ht _)⟩,(iP hg ht (am hg ht _) rfl hc2)⟩ ?_;cbv;obtain⟨l5,hl5,h_1⟩:=ak h_1;try dsimp only at h_1
    refine ANew.mk (d_I64 l5) (dlen (d_I64 l5)) (by rw[←hl5];exact nv hg ht (am hg ht _) rfl) (by rw[←hl5];exact ly hg ht (am hg ht _) rfl) ?_;cbv;try rw[hg] at h_1
    try rw[ht] at h_1
    refine⟨⟨(k1+1,(wrap .i64 (add v1 1)),l5),hc1_,hs1,h_1⟩,Wk.of [(0,some 145)] rfl rfl ?_ ?_,a8 hc1_⟩
    ·cbv;all_goals exact⟨⟨_,rfl,rfl⟩,⟨_,rfl,rfl⟩,⟨_,rfl,rfl⟩,⟨_,rfl,rfl⟩,⟨_,rfl,rfl⟩,trivial⟩
    cbv;all_goals exact⟨⟨_,rfl,rfl⟩,trivial⟩
   rw[ab hb2] at h_1;cbv;obtain⟨x1,hx1,h_1⟩:=ak h_1;try dsimp only at h_1
   refine ACall.mk _ _ rfl (hF _ _ _ (FO hg ht hx1)) (.inl rfl) (nb rfl) ?_;cbv;obtain⟨l2,hl2,h_1⟩:=ak h_1;try dsimp only at h_1
   refine ANew.mk (d_I64 l2) (dlen (d_I64 l2)) (by rw[←hl2];exact eM hg ht [x1]) (by rw[←hl2];exact dg hg ht [x1]) ?_;cbv;obtain⟨hc1,h_1⟩:=al h_1;refine AStep.mk ⟨⟨rfl,(am hg ht _)⟩,(iP hg ht (am hg ht _) rfl hc1)⟩ ?_;cbv;obtain⟨l3,hl3,h_1⟩:=ak h_1;try dsimp only at h_1
   refine ANew.mk (d_I64 l3) (dlen (d_I64 l3)) (by rw[←hl3];exact nv hg ht (am hg ht _) rfl) (by rw[←hl3];exact ly hg ht (am hg ht _) rfl) ?_;cbv;try rw[hg] at h_1
   try rw[ht] at h_1
   refine⟨⟨(k1+1,(wrap .i64 (add v1 1)),l3),hc1_,hs1,h_1⟩,Wk.of [(0,some 177)] rfl rfl ?_ ?_,a8 hc1_⟩
   ·cbv;all_goals exact⟨⟨_,rfl,rfl⟩,⟨_,rfl,rfl⟩,⟨_,rfl,rfl⟩,⟨_,rfl,rfl⟩,⟨_,rfl,rfl⟩,trivial⟩
   cbv;all_goals exact⟨⟨_,rfl,rfl⟩,trivial⟩
  have hb1:lt v1 (llen (r_S a0))=false:=kG hg ht hi1 hc1_;rw[List.drop_of_length_le (Nat.le_of_not_lt hc1_)] at h_1;rw[d9] at h_1;try rw[←hg] at h_1
  try rw[←ht] at h_1
  try dsimp only at h_1
  rw[hb1];cbv;refine⟨w1,Wk.of [(0,some 0)] rfl rfl ?_ ?_,(Option.some.inj h_1).symm⟩
  ·cbv;all_goals exact⟨⟨_,rfl,rfl⟩,trivial⟩
  cbv;all_goals exact⟨⟨_,rfl,rfl⟩,trivial⟩
 rintro y1 hy1;replace hy1:=hy1.symm;subst hy1;try dsimp only[lr,lrL,lrp,aR] at h
 cbv;obtain rfl:=Option.some.inj h;exact ARet.mk ⟨rfl,(am hg ht _)⟩ hX.symm
def II:J:=js [jq 2 (.mv (.k (.c (.n 1))))] [0] (js [jq 3 (.bsl 1 []),jm 4 0,jq 5 (.app 1 8 false 3 4),jm 2 5] [2] .ret)
def IJ:List RV:=[.t 2]
def qW (g:G) (t:TE) (a0:List Int):Option (List Int):=
 lP ([]) fun(l1:List Int)=>
 gd (((l1.length+a0.length)*8≤70368744177664))<|
 lP (l1++a0) fun(l2:List Int)=>
 some l2
theorem z7 {g:G} {t:TE} {a0:List Int} {r:List Int} (hg:g=G.real) (ht:t=TE.real) (h:qW g t a0=some r):Fn Tryz.prog 157 [.c (.s 1 (t.r_I64 a0))] (.c (.o 1 (t.d_I64 r))):=by
 obtain⟨X,hX⟩:=aH (.c (.o 1 (t.d_I64 r)):X);rw[←hX];refine aw (rvs:=IJ) (j:=II) Tryz.func157 rfl (by kernel_rfl) (nb rfl) (by kernel_rfl) af ?_;intro g2 F hg2 hF;obtain rfl:g2=g:=hg2.unique.trans hg.symm;clear hg2;obtain⟨_,_,_,_,_,_,_,_,_,_,_,_,_,_,_,_,_,_,_,_,_,_,_,_,dlen⟩:=g2;obtain⟨_,_,_,d_I64⟩:=t
 unfold qW at h;try dsimp only at h
 cbv;obtain⟨l1,hl1,h⟩:=ak h;try dsimp only at h
 refine ANew.mk (d_I64 l1) (dlen (d_I64 l1)) (by rw[←hl1];exact eM hg ht []) (by rw[←hl1];exact dg hg ht []) ?_;cbv;obtain⟨hc1,h⟩:=al h;refine AStep.mk (iP hg ht (am hg ht _) (z8 hg ht _) hc1) ?_;cbv;obtain⟨l2,hl2,h⟩:=ak h;try dsimp only at h
 refine ANew.mk (d_I64 l2) (dlen (d_I64 l2)) (by rw[←hl2];exact nv hg ht (am hg ht _) (z8 hg ht _)) (by rw[←hl2];exact ly hg ht (am hg ht _) (z8 hg ht _)) ?_;cbv;obtain rfl:=Option.some.inj h;exact ARet.mk ⟨rfl,(am hg ht _)⟩ hX.symm
def IF:J:=js [jq 3 (.box 0),jm 6 (ki 0)] [1,2,3] (.seq (js [jm 7 (ki 0)] [1,2,3,7] (.bl 0 (.seq (js [jm 8 7,jb 9 .leq .i 8 (ki 60)] [1,2,3,7,9] (.cond 9 .skip (.exit 0))) (.seq (.block 1 (js [jl 12 3 3,jm 13 1,jm 14 7,jc 15 144 [12,13,14],jm 16 15,ju 17 16 (.ld true 3 3),ju 18 16 (.mv 1),ju 19 16 (.mv 7),ju 20 16 (.bld [.r (.v (.int .i64 0)),.r (.v (.int .i64 0))] [(0,1,18),(1,1,19)]),ju 21 16 (.call 85 true [17,20]),ju 22 16 (.mv 2),ju 23 16 (.bin .geq .i 21 22),jq 24 (.pick 16 23 kf)] [1,2,3,7,24] (.cond 24 (js [jm 25 7,jm 6 25] [6] .ret) .skip))) (.reg none [jm 10 7,jb 11 .add .i 10 (ki 1),jm 7 11] [1,2,3,7]))))) (js [jq 6 (.mv (.k (V.i (-1))))] [6] .ret))
def HL:List RV:=[.t 6]
def fj (g:G) (t:TE) (a0:Network) (a1:Int) (a2:Int):Nat→Int→Option (LR Int Unit)
 |0,v1=>
  some (LR.out ())
 |n1+1,v1=>
  cl (kq g t a0 a1 v1) fun x1=>
  br x1
  (
   cl (bg g t a0 (Trip.mk a1 v1)) fun x2=>
   br (g.le a2 x2)
   (
    some (LR.ret v1))
   (
    fj g t a0 a1 a2 n1 (g.wrap .i64 (g.add v1 1))))
  (
   fj g t a0 a1 a2 n1 (g.wrap .i64 (g.add v1 1)))
def oa (g:G) (t:TE) (a0:Network) (a1:Int) (a2:Int):Option Int:=
 cl (fj g t a0 a1 a2 (gp 0 60) 0) fun o1=>lr o1 fun y1=>
 some (-1)
theorem zC {g:G} {t:TE} {a0:Network} {a1:Int} {a2:Int} {r:Int} (hg:g=G.real) (ht:t=TE.real) (h:oa g t a0 a1 a2=some r):Fn Tryz.prog 158 [.g (Network.rs t a0),.c (.v (.int .i64 a1)),.c (.v (.int .i64 a2))] (.c (.r (.v (.int .i64 r)))):=by
 obtain⟨X,hX⟩:=aH (.c (.r (.v (.int .i64 r))):X);rw[←hX];refine aw (rvs:=HL) (j:=IF) Tryz.func158 rfl (by kernel_rfl) (nb rfl) (by kernel_rfl) af ?_;intro g2 F hg2 hF;obtain rfl:g2=g:=hg2.unique.trans hg.symm;clear hg2;obtain⟨wrap,_,le,_,_,_,_,_,_,_,_,_,_,add⟩:=g2;obtain⟨r_Leg,_,r_I64⟩:=t
 obtain⟨a0_Legs,a0_Off,a0_Change⟩:=a0;unfold oa at h;try dsimp only at h
 cbv;obtain⟨o1,ho1,h⟩:=ac h;try dsimp only at h
 try rw[hg] at ho1
 try rw[ht] at ho1
 refine ABL.mk {p:Nat×Int//p.1=gp p.2 60∧0≤p.2∧fj G.real TE.real (Network.mk a0_Legs a0_Off a0_Change) a1 a2 p.1 p.2=some o1} (fun⟨⟨n1,v1⟩,_⟩=>({sl:=[(1,.c (.r (.v (.int .i64 a1)))),(2,.c (.r (.v (.int .i64 a2)))),(3,.c (.p 0 3 0 0)),(7,.c (.r (.v (.int .i64 v1))))],tab:=[(0,some (.foc 3 [] [.r (.s 6 (r_Leg a0_Legs)),.r (.s 1 (r_I64 a0_Off)),.r (.v (.int .i64 a0_Change))] []))]}:St)) 1 (fun p=>p.1.1) ⟨(gp 0 60,0),rfl,Int.le_refl _,ho1⟩ (Unit) (fun _=>({sl:=[],tab:=[]}:St)) 0 (fun y=>o1=LR.out y) ?_ ?_ ?_
 ·refine Wk.of [(0,some 0)] rfl rfl ?_ ?_
  ·cbv;all_goals exact⟨⟨_,rfl,rfl⟩,⟨_,rfl,rfl⟩,⟨_,rfl,rfl⟩,⟨_,rfl,rfl⟩,trivial⟩
  cbv;all_goals exact⟨⟨_,rfl,_,rfl,rfl,rfl,rfl,trivial⟩,trivial⟩
 ·rintro⟨⟨n1,v1⟩,hn1,hi1,h_1⟩ hq1;try dsimp only at hn1 hi1 h_1
  clear hq1;cbv;rcases n1 with _|n1
  ·have hb1:le v1 60=false:=oK hg hn1;rw[fj] at h_1;try rw[←hg] at h_1
   try rw[←ht] at h_1
   try dsimp only at h_1
   rw[hb1];cbv;refine⟨(),Wk.of [] rfl rfl ?_ ?_,(Option.some.inj h_1).symm⟩
   ·cbv;all_goals exact trivial
   cbv;all_goals exact trivial
  have hb1:le v1 60=true:=qj hg hn1;have hl1:=wz hn1;have hs1:=sM hg hn1 hi1 (by decide) (by decide);rw[fj] at h_1;try rw[←hg] at h_1
  try rw[←ht] at h_1
  try dsimp only at h_1
  rw[hb1];cbv;obtain⟨x1,hx1,h_1⟩:=ac h_1;try dsimp only at h_1
  refine ACall.mk _ _ rfl (hF _ _ _ (tn hg ht hx1)) (.inl rfl) (nb rfl) ?_;cbv
  cases hb2:x1
  ·rw[aa hb2] at h_1;cbv;iterate 7 try(rw[hb2];cbv)
   try rw[hg] at h_1
   try rw[ht] at h_1
   refine⟨⟨(n1,(wrap .i64 (add v1 1))),hs1.1,hs1.2,h_1⟩,Wk.of [(0,some 0)] rfl rfl ?_ ?_,Nat.lt_succ_self _⟩
   ·cbv;all_goals exact⟨⟨_,rfl,rfl⟩,⟨_,rfl,rfl⟩,⟨_,rfl,rfl⟩,⟨_,rfl,rfl⟩,trivial⟩
   cbv;all_goals exact⟨⟨_,rfl,_,rfl,rfl,rfl,rfl,trivial⟩,trivial⟩
  rw[ab hb2] at h_1;cbv;iterate 4 try(rw[hb2];cbv)
  obtain⟨x2,hx2,h_1⟩:=ac h_1;try dsimp only at h_1
  refine ACall.mk _ _ rfl (hF _ _ _ (bq hg ht hx2)) (.inl rfl) (nb rfl) ?_;cbv;iterate 3 try(rw[hb2];cbv)
  cases hb3:(le a2 x2)
  rotate_left
  ·rw[ab hb3] at h_1;cbv;obtain rfl:=Option.some.inj h_1;try dsimp only[lr,lrL,lrp,aR] at h
   obtain rfl:=Option.some.inj h;exact ARet.mk trivial hX.symm
  rw[aa hb3] at h_1;cbv;try rw[hg] at h_1
  try rw[ht] at h_1
  refine⟨⟨(n1,(wrap .i64 (add v1 1))),hs1.1,hs1.2,h_1⟩,Wk.of [(0,some 0)] rfl rfl ?_ ?_,Nat.lt_succ_self _⟩
  ·cbv;all_goals exact⟨⟨_,rfl,rfl⟩,⟨_,rfl,rfl⟩,⟨_,rfl,rfl⟩,⟨_,rfl,rfl⟩,trivial⟩
  cbv;all_goals exact⟨⟨_,rfl,_,rfl,rfl,rfl,rfl,trivial⟩,trivial⟩
 rintro _ hy1;replace hy1:=hy1.symm;subst hy1;try dsimp only[lr,lrL,lrp,aR] at h
 cbv;obtain rfl:=Option.some.inj h;exact ARet.mk trivial hX.symm
def JD:J:=js [jq 3 (.box 0),jm 6 (ki 0)] [1,2,3] (.seq (js [jm 7 2] [1,3,7] (.cond 7 (js [jm 8 1,jm 6 8] [6] .ret) .skip)) (js [jm 9 1,jf 10 2 3,jk 11 10,jb 12 .add .i 9 11,jm 6 12] [6] .ret))
def I3:List RV:=[.t 6]
def mT (g:G) (t:TE) (a0:Network) (a1:Int) (a2:Bool):Int:=
 br a2
 (
  a1)
 (
  (g.wrap .i64 (g.add a1 a0.Change)))
theorem y9 {g:G} {t:TE} {a0:Network} {a1:Int} {a2:Bool} {r:Int} (hg:g=G.real) (ht:t=TE.real) (h:mT g t a0 a1 a2=r):Fn Tryz.prog 159 [.g (Network.rs t a0),.c (.v (.int .i64 a1)),.c (.v (.bool a2))] (.c (.r (.v (.int .i64 r)))):=by
 obtain⟨X,hX⟩:=aH (.c (.r (.v (.int .i64 r))):X);rw[←hX];refine aw (rvs:=I3) (j:=JD) Tryz.func159 rfl (by kernel_rfl) (nb rfl) (by kernel_rfl) af ?_;intro g2 F hg2 hF;obtain rfl:g2=g:=hg2.unique.trans hg.symm;clear hg2;obtain⟨_⟩:=g2;obtain⟨_⟩:=t
 obtain⟨a0_Legs,a0_Off,a0_Change⟩:=a0;unfold mT at h;try dsimp only at h
 cbv
 cases hb1:a2
 rotate_left
 ·rw[ab hb1] at h;cbv;subst h;exact ARet.mk trivial hX.symm
 rw[aa hb1] at h;cbv;subst h;exact ARet.mk trivial hX.symm
def Ik:J:=js [jq 4 (.box 0),jq 8 (.mv (.k (.c (.n 1))))] [1,2,3,4] (js [jm 15 2,jc 16 157 [15],jm 9 16] [1,2,3,4,9] (.seq (js [jm 10 (ki 0)] [1,2,3,4,9,10] (.bl 0 (.seq (js [jm 17 10,jf 18 0 4,jk 19 18,jq 20 (.len false 19),jb 21 .lss .i 17 20] [1,2,3,4,9,10,21] (.cond 21 .skip (.exit 0))) (.seq (.block 1 (js [jm 24 1,jf 25 0 4,jk 26 25,jm 27 10,ja 28 6 26 27,jf 29 0 28,jk 30 29,jc 31 77 [24,30],jm 11 31] [1,2,3,4,9,10,11] (js [jm 32 1,jf 33 0 4,jk 34 33,jm 35 10,ja 36 6 34 35,jf 37 1 36,jk 38 37,jc 39 77 [32,38],jm 12 39] [1,2,3,4,9,10,11,12] (.seq (js [jm 40 2,jm 41 11,ja 42 1 40 41,jk 43 42,jb 44 .lss .i 43 (ki 0)] [1,2,3,4,9,10,11,12,44] (.cond 44 (.exit 1) .skip)) (.seq (.reg (some [[],[],[],[],[],[3,4],[3,4,5],[],[],[7,8],[2,3,4,5,6,7,8,9],[0,1,2,3,4,5,6,7,8,9,10],[0,1,2,3,4,5,6,7,8,9,10,11]]) [jl 45 3 4,jm 46 10,jl 47 3 4,jm 48 2,jm 49 11,ja 50 1 48 49,jk 51 50,jm 52 11,jm 53 3,jb 54 .eql .i 52 53,jc 55 159 [47,51,54],jc 56 158 [45,46,55],jm 13 56] [1,2,3,4,9,10,12,13]) (.seq (js [jm 57 13,jb 58 .lss .i 57 (ki 0)] [1,2,3,4,9,10,12,13,58] (.cond 58 (.exit 1) .skip)) (js [jl 59 3 4,jm 60 10,jm 61 13,jq 62 (.bld [.r (.v (.int .i64 0)),.r (.v (.int .i64 0))] [(0,1,60),(1,1,61)]),jc 63 86 [59,62],jm 14 63] [1,2,3,4,9,10,12,14] (js [jm 64 9,jm 65 12,ja 66 1 64 65,jk 67 66,jb 68 .lss .i 67 (ki 0),jm 69 68,jv 70 69 (.mv 14),jv 71 69 (.mv 9),jv 72 69 (.mv 12),jv 73 69 (.ia 1 71 72),jv 74 69 (.ld false 1 73),jv 75 69 (.bin .lss .i 70 74),jq 76 (.pick 69 kt 75)] [1,2,3,4,9,10,12,14,76] (.cond 76 (.reg none [jm 77 9,jm 78 12,jm 79 14,ja 80 1 77 78,jp (.st 1 80 79)] [1,2,3,4,9,10]) .skip))))))))) (.reg none [jm 22 10,jb 23 .add .i 22 (ki 1),jm 10 23] [1,2,3,4,9,10]))))) (js [jm 81 9,jm 8 81] [8] .ret)))
def IU:List RV:=[.t 8]
def cA (g:G) (t:TE) (a0:Network) (a1:List ByteArray) (a2:List Int) (a3:Int):List Leg→Int→List Int→Option (List Int)
 |[],v1,w1=>
  some w1
 |z1::ls1,v1,w1=>
  lP (eQ g t a1 z1.From) fun x2=>
  lP (eQ g t a1 z1.To) fun x3=>
  gd (((0:Int)≤x2))<|
  gt a2 (g.nat x2) fun x4=>
  br (g.lt x4 0)
  (
   cA g t a0 a1 a2 a3 ls1 (g.wrap .i64 (g.add v1 1)) w1)
  (
   gd (((0:Int)≤x2))<|
   lP (mT g t a0 x4 (g.eq x2 a3)) fun x5=>
   cl (oa g t a0 v1 x5) fun x6=>
   br (g.lt x6 0)
   (
    cA g t a0 a1 a2 a3 ls1 (g.wrap .i64 (g.add v1 1)) w1)
   (
    cl (bP g t a0 (Trip.mk v1 x6)) fun x7=>
    gd (((0:Int)≤x3∧x3<(((g.dlen (t.d_I64 w1)):Nat):Int)))<|
    gt w1 (g.nat x3) fun x8=>
    br (g.lt x8 0)
    (
     gd (((0:Int)≤x3∧x3<(((g.dlen (t.d_I64 w1)):Nat):Int)))<|
     lP (List.set w1 (g.nat x3) x7) fun(l1:List Int)=>
     cA g t a0 a1 a2 a3 ls1 (g.wrap .i64 (g.add v1 1)) l1)
    (
     gd (((0:Int)≤x3∧x3<(((g.dlen (t.d_I64 w1)):Nat):Int)))<|
     br (g.lt x7 x8)
     (
      gd (((0:Int)≤x3∧x3<(((g.dlen (t.d_I64 w1)):Nat):Int)))<|
      lP (List.set w1 (g.nat x3) x7) fun(l2:List Int)=>
      cA g t a0 a1 a2 a3 ls1 (g.wrap .i64 (g.add v1 1)) l2)
     (
      cA g t a0 a1 a2 a3 ls1 (g.wrap .i64 (g.add v1 1)) w1))))
def oL (g:G) (t:TE) (a0:Network) (a1:List ByteArray) (a2:List Int) (a3:Int):Option (List Int):=
 cl (qW g t a2) fun x1=>
 cl (cA g t a0 a1 a2 a3 a0.Legs 0 x1) fun y1=>
 some y1
theorem yG {g:G} {t:TE} {a0:Network} {a1:List ByteArray} {a2:List Int} {a3:Int} {r:List Int} (hg:g=G.real) (ht:t=TE.real) (h:oL g t a0 a1 a2 a3=some r):Fn Tryz.prog 149 [.g (Network.rs t a0),.c (.s 1 (t.r_S a1)),.c (.s 1 (t.r_I64 a2)),.c (.v (.int .i64 a3))] (.c (.o 1 (t.d_I64 r))):=by
 obtain⟨X,hX⟩:=aH (.c (.o 1 (t.d_I64 r)):X);rw[←hX];refine aw (rvs:=IU) (j:=Ik) Tryz.func149 rfl (by kernel_rfl) (nb rfl) (by kernel_rfl) af ?_;intro g2 F hg2 hF;obtain rfl:g2=g:=hg2.unique.trans hg.symm;clear hg2;obtain⟨wrap,lt,_,_,_,_,_,_,_,_,_,_,_,add,_,_,_,_,_,_,_,llen,_,_,dlen⟩:=g2;obtain⟨r_Leg,_,r_I64,d_I64,_,_,r_S⟩:=t
 obtain⟨a0_Legs,a0_Off,a0_Change⟩:=a0;unfold oL at h;try dsimp only at h
 cbv;obtain⟨x1,hx1,h⟩:=ac h;try dsimp only at h
 refine ACall.mk _ _ rfl (hF _ _ _ (z7 hg ht hx1)) (.inl rfl) (nb rfl) ?_;cbv;obtain⟨o1,ho1,h⟩:=ac h;try dsimp only at h
 try rw[hg] at ho1
 try rw[ht] at ho1
 refine ABL.mk {p:Nat×Int×List Int//p.1≤a0_Legs.length∧p.2.1=((p.1:Nat):Int)∧cA G.real TE.real (Network.mk a0_Legs a0_Off a0_Change) a1 a2 a3 (List.drop p.1 a0_Legs) p.2.1 p.2.2=some o1} (fun⟨⟨k1,v1,w1⟩,_⟩=>({sl:=[(1,.c (.r (.s 1 (r_S a1)))),(2,.c (.r (.s 1 (r_I64 a2)))),(3,.c (.r (.v (.int .i64 a3)))),(4,.c (.p 0 3 0 0)),(9,.c (.f 1 1 0 (dlen (d_I64 w1)))),(10,.c (.r (.v (.int .i64 v1))))],tab:=[(0,some (.foc 3 [] [.r (.s 6 (r_Leg a0_Legs)),.r (.s 1 (r_I64 a0_Off)),.r (.v (.int .i64 a0_Change))] [])),(1,some (.arr 1 (d_I64 w1)))]}:St)) 2 (fun p=>a0_Legs.length-p.1.1) ⟨(0,0,x1),Nat.zero_le _,rfl,ho1⟩ (List Int) (fun y1=>({sl:=[(9,.c (.f 0 1 0 (dlen (d_I64 y1))))],tab:=[(0,some (.arr 1 (d_I64 y1)))]}:St)) 1 (fun y=>o1=y) ?_ ?_ ?_
 ·refine Wk.of [(0,some 0),(1,some 48)] rfl rfl ?_ ?_
  ·cbv;all_goals exact⟨⟨_,rfl,rfl⟩,⟨_,rfl,rfl⟩,⟨_,rfl,rfl⟩,⟨_,rfl,rfl⟩,⟨_,rfl,rfl⟩,⟨_,rfl,rfl⟩,trivial⟩
  cbv;all_goals exact⟨⟨_,rfl,_,rfl,rfl,rfl,rfl,trivial⟩,⟨_,rfl,rfl⟩,trivial⟩
 ·rintro⟨⟨k1,v1,w1⟩,hk1,hi1,h_1⟩ hq1;have hm1:=(hq1.2.2.1 0 _ _ _ _ 0 _ _ rfl rfl);try dsimp only at hk1 hi1 h_1
  clear hq1;cbv
  by_cases hc1_:k1<a0_Legs.length
  ·have hb1:lt v1 (llen (r_Leg a0_Legs))=true:=dw hg ht hi1 hc1_;have hs1:=gw hg ht hi1 hc1_ hm1;obtain⟨z1,hz1⟩:=aL hc1_;rw[aD hz1] at h_1;rw[cA] at h_1;obtain⟨z1_From,z1_To,z1_Start,z1_Takes,z1_Days,z1_Room⟩:=z1;try rw[←hg] at h_1
   try rw[←ht] at h_1
   try dsimp only at h_1
   rw[hb1];cbv;refine AStep.mk (eO hi1) ?_;cbv;refine AGet.mk _ (fS hg ht hi1 hz1) ?_;cbv;obtain⟨x2,hx2,h_1⟩:=ak h_1;try dsimp only at h_1
   refine ACall.mk _ _ rfl (hF _ _ _ (fR hg ht hx2)) (.inl rfl) (nb rfl) ?_;cbv;refine AStep.mk (eO hi1) ?_;cbv;refine AGet.mk _ (fS hg ht hi1 hz1) ?_;cbv;obtain⟨x3,hx3,h_1⟩:=ak h_1;try dsimp only at h_1
   refine ACall.mk _ _ rfl (hF _ _ _ (fR hg ht hx3)) (.inl rfl) (nb rfl) ?_;cbv;obtain⟨hc1,h_1⟩:=al h_1;refine AStep.mk hc1 ?_;cbv;obtain⟨x4,hx4,h_1⟩:=aE h_1;try dsimp only at h_1
   refine AGet.mk _ (lf hg ht hx4) ?_;cbv
   cases hb2:(lt x4 0)
   rotate_left
   ·rw[ab hb2] at h_1;cbv;try rw[hg] at h_1
    try rw[ht] at h_1
    refine⟨⟨(k1+1,(wrap .i64 (add v1 1)),w1),hc1_,hs1,h_1⟩,Wk.of [(0,some 0),(1,some 1)] rfl rfl ?_ ?_,a8 hc1_⟩
    ·cbv;all_goals exact⟨⟨_,rfl,rfl⟩,⟨_,rfl,rfl⟩,⟨_,rfl,rfl⟩,⟨_,rfl,rfl⟩,⟨_,rfl,rfl⟩,⟨_,rfl,rfl⟩,trivial⟩
    cbv;all_goals exact⟨⟨_,rfl,_,rfl,rfl,rfl,rfl,trivial⟩,⟨_,rfl,rfl⟩,trivial⟩
   rw[aa hb2] at h_1;cbv;obtain⟨hc2,h_1⟩:=al h_1;refine AStep.mk hc2 ?_;cbv;refine AGet.mk _ (lf hg ht hx4) ?_;cbv;obtain⟨x5,hx5,h_1⟩:=ak h_1;try dsimp only at h_1
   refine ACall.mk _ _ rfl (hF _ _ _ (y9 hg ht hx5)) (.inl rfl) (nb rfl) ?_;cbv;obtain⟨x6,hx6,h_1⟩:=ac h_1;try dsimp only at h_1
   refine ACall.mk _ _ rfl (hF _ _ _ (zC hg ht hx6)) (.inl rfl) (nb rfl) ?_;cbv
   cases hb3:(lt x6 0)
   rotate_left
   ·rw[ab hb3] at h_1;cbv;try rw[hg] at h_1
    try rw[ht] at h_1
    refine⟨⟨(k1+1,(wrap .i64 (add v1 1)),w1),hc1_,hs1,h_1⟩,Wk.of [(0,some 0),(1,some 1)] rfl rfl ?_ ?_,a8 hc1_⟩
    ·cbv;all_goals exact⟨⟨_,rfl,rfl⟩,⟨_,rfl,rfl⟩,⟨_,rfl,rfl⟩,⟨_,rfl,rfl⟩,⟨_,rfl,rfl⟩,⟨_,rfl,rfl⟩,trivial⟩
    cbv;all_goals exact⟨⟨_,rfl,_,rfl,rfl,rfl,rfl,trivial⟩,⟨_,rfl,rfl⟩,trivial⟩
   rw[aa hb3] at h_1;cbv;obtain⟨x7,hx7,h_1⟩:=ac h_1;try dsimp only at h_1
   refine ACall.mk _ _ rfl (hF _ _ _ (bR hg ht hx7)) (.inl rfl) (nb rfl) ?_;cbv;obtain⟨hc3,h_1⟩:=al h_1;refine AStep.mk hc3 ?_;cbv;obtain⟨x8,hx8,h_1⟩:=aE h_1;try dsimp only at h_1
   refine AGet.mk _ (bY hg ht hx8) ?_;cbv
   cases hb4:(lt x8 0)
   rotate_left
   ·rw[ab hb4] at h_1;cbv;iterate 6 try(rw[hb4];cbv)
    obtain⟨hc4,h_1⟩:=al h_1;refine AStep.mk hc4 ?_;cbv;refine AGet.mk _ (bY hg ht hx8) ?_;cbv;obtain⟨l1,hl1,h_1⟩:=ak h_1;try dsimp only at h_1
    refine ANew.mk (d_I64 l1) _ (by rw[←hl1];exact lB hg ht _ _ x7) rfl ?_;have hnl1:(dlen (d_I64 w1))=(d_I64 l1).length:=(by rw[←hl1,jL ht];exact(am hg ht _));cbv;try rw[hg] at h_1
    try rw[ht] at h_1
    refine⟨⟨(k1+1,(wrap .i64 (add v1 1)),l1),hc1_,hs1,h_1⟩,Wk.of [(0,some 0),(1,some 1)] rfl rfl ?_ ?_,a8 hc1_⟩
    ·cbv;all_goals try rw[show(dlen (d_I64 w1))=(dlen (d_I64 l1)) from(hnl1).trans (am hg ht _).symm]
     all_goals exact⟨⟨_,rfl,rfl⟩,⟨_,rfl,rfl⟩,⟨_,rfl,rfl⟩,⟨_,rfl,rfl⟩,⟨_,rfl,rfl⟩,⟨_,rfl,rfl⟩,trivial⟩
    cbv;all_goals try rw[show(dlen (d_I64 w1))=(dlen (d_I64 l1)) from(hnl1).trans (am hg ht _).symm]
    all_goals exact⟨⟨_,rfl,_,rfl,rfl,rfl,rfl,trivial⟩,⟨_,rfl,rfl⟩,trivial⟩
   rw[aa hb4] at h_1;cbv;iterate 3 try(rw[hb4];cbv)
   obtain⟨hc5,h_1⟩:=al h_1;refine AStep.mk hc5 ?_;cbv;try(rw[hb4];cbv)
   refine AGet.mk _ (bY hg ht hx8) ?_;cbv;iterate 2 try(rw[hb4];cbv)
   cases hb5:(lt x7 x8)
   ·rw[aa hb5] at h_1;cbv;try rw[hg] at h_1
    try rw[ht] at h_1
    refine⟨⟨(k1+1,(wrap .i64 (add v1 1)),w1),hc1_,hs1,h_1⟩,Wk.of [(0,some 0),(1,some 1)] rfl rfl ?_ ?_,a8 hc1_⟩
    ·cbv;all_goals exact⟨⟨_,rfl,rfl⟩,⟨_,rfl,rfl⟩,⟨_,rfl,rfl⟩,⟨_,rfl,rfl⟩,⟨_,rfl,rfl⟩,⟨_,rfl,rfl⟩,trivial⟩
    cbv;all_goals exact⟨⟨_,rfl,_,rfl,rfl,rfl,rfl,trivial⟩,⟨_,rfl,rfl⟩,trivial⟩
   rw[ab hb5] at h_1;cbv;obtain⟨hc6,h_1⟩:=al h_1;refine AStep.mk hc6 ?_;cbv;refine AGet.mk _ (bY hg ht hx8) ?_;cbv;obtain⟨l2,hl2,h_1⟩:=ak h_1;try dsimp only at h_1
   refine ANew.mk (d_I64 l2) _ (by rw[←hl2];exact lB hg ht _ _ x7) rfl ?_;have hnl2:(dlen (d_I64 w1))=(d_I64 l2).length:=(by rw[←hl2,jL ht];exact(am hg ht _));cbv;try rw[hg] at h_1
   try rw[ht] at h_1
   refine⟨⟨(k1+1,(wrap .i64 (add v1 1)),l2),hc1_,hs1,h_1⟩,Wk.of [(0,some 0),(1,some 1)] rfl rfl ?_ ?_,a8 hc1_⟩
   ·cbv;all_goals try rw[show(dlen (d_I64 w1))=(dlen (d_I64 l2)) from(hnl2).trans (am hg ht _).symm]
    all_goals exact⟨⟨_,rfl,rfl⟩,⟨_,rfl,rfl⟩,⟨_,rfl,rfl⟩,⟨_,rfl,rfl⟩,⟨_,rfl,rfl⟩,⟨_,rfl,rfl⟩,trivial⟩
   cbv;all_goals try rw[show(dlen (d_I64 w1))=(dlen (d_I64 l2)) from(hnl2).trans (am hg ht _).symm]
   all_goals exact⟨⟨_,rfl,_,rfl,rfl,rfl,rfl,trivial⟩,⟨_,rfl,rfl⟩,trivial⟩
  have hb1:lt v1 (llen (r_Leg a0_Legs))=false:=cR hg ht hi1 hc1_;rw[List.drop_of_length_le (Nat.le_of_not_lt hc1_)] at h_1;rw[cA] at h_1;try rw[←hg] at h_1
  try rw[←ht] at h_1
  try dsimp only at h_1
  rw[hb1];cbv;refine⟨w1,Wk.of [(0,some 1)] rfl rfl ?_ ?_,(Option.some.inj h_1).symm⟩
  ·cbv;all_goals exact⟨⟨_,rfl,rfl⟩,trivial⟩
  cbv;all_goals exact⟨⟨_,rfl,rfl⟩,trivial⟩
 rintro y1 hy1;replace hy1:=hy1.symm;subst hy1;try dsimp only[lr,lrL,lrp,aR] at h
 cbv;obtain rfl:=Option.some.inj h;exact ARet.mk ⟨rfl,(am hg ht _)⟩ hX.symm
def Jg:J:=js [jq 4 (.box 0),jq 8 (.mv (.k (.c (.n 1))))] [1,2,3,4] (js [jl 13 3 4,jc 14 78 [13],jm 9 14] [1,2,3,4,9] (js [jm 15 9,jm 16 1,jc 17 77 [15,16],jm 10 17] [2,3,4,9,10] (.seq (js [jl 18 3 4,jc 19 101 [18],jq 20 (.not 19),jm 21 20,jv 22 21 (.mv 10),jv 23 21 (.bin .lss .i 22 (ki 0)),jq 24 (.pick 21 kt 23),jm 25 24,jv 26 25 (.mv 2),jv 27 25 (.bin .gtr .i 26 (ki 100000)),jq 28 (.pick 25 kt 27),jm 29 28,jv 30 29 (.mv 3),jv 31 29 (.bin .lss .i 30 (ki 0)),jq 32 (.pick 29 kt 31)] [2,3,4,9,10,32] (.cond 32 (js [jq 33 (.bsl 1 []),jm 8 33] [8] .ret) .skip)) (js [jm 34 9,jm 35 10,jm 36 2,jc 37 148 [34,35,36],jm 11 37] [3,4,9,10,11] (.seq (js [jm 12 (ki 0)] [3,4,9,10,11,12] (.bl 0 (.seq (js [jm 38 12,jm 39 3,jb 40 .lss .i 38 39,jm 41 40,ju 42 41 (.mv 12),ju 43 41 (.mv 9),ju 44 41 (.len false 43),ju 45 41 (.bin .lss .i 42 44),jq 46 (.pick 41 45 kf)] [3,4,9,10,11,12,46] (.cond 46 .skip (.exit 0))) (.seq (.block 1 (.reg none [jl 49 3 4,jm 50 9,jm 51 11,jm 52 10,jc 53 149 [49,50,51,52],jm 11 53] [3,4,9,10,11,12])) (.reg none [jm 47 12,jb 48 .add .i 47 (ki 1),jm 12 48] [3,4,9,10,11,12]))))) (js [jm 54 11,jm 8 54] [8] .ret))))))
def IR:List RV:=[.t 8]
def cj (g:G) (t:TE) (a0:Network) (x1:List ByteArray) (x2:Int):Nat→Int→List Int→Option (List Int)
 |0,v1,w1=>
  some w1
 |n1+1,v1,w1=>
  br (g.lt v1 (g.int (g.dlen (t.d_S x1))))
  (
   cl (oL g t a0 x1 w1 x2) fun x5=>
   cj g t a0 x1 x2 n1 (g.wrap .i64 (g.add v1 1)) x5)
  (
   some w1)
def eI (g:G) (t:TE) (a0:Network) (a1:ByteArray) (a2:Int) (a3:Int):Option (List Int):=
 cl (dU g t a0) fun x1=>
 lP (eQ g t x1 a1) fun x2=>
 cl (fm g t a0) fun x3=>
 br x3
 (
  br (g.lt x2 0)
  (
   lP ([]) fun(l1:List Int)=>
   some l1)
  (
   br (g.lt 100000 a2)
   (
    lP ([]) fun(l2:List Int)=>
    some l2)
   (
    br (g.lt a3 0)
    (
     lP ([]) fun(l3:List Int)=>
     some l3)
    (
     cl (mP g t x1 x2 a2) fun x4=>
     gd ((a3≤9223372036854775807))<|
     cl (cj g t a0 x1 x2 (ay 0 a3) 0 x4) fun y1=>
     some y1))))
 (
  lP ([]) fun(l4:List Int)=>
  some l4)
theorem ry {g:G} {t:TE} {a0:Network} {a1:ByteArray} {a2:Int} {a3:Int} {r:List Int} (hg:g=G.real) (ht:t=TE.real) (h:eI g t a0 a1 a2 a3=some r):Fn Tryz.prog 140 [.g (Network.rs t a0),.c (.v (.string a1)),.c (.v (.int .i64 a2)),.c (.v (.int .i64 a3))] (.c (.o 1 (t.d_I64 r))):=by
 obtain⟨X,hX⟩:=aH (.c (.o 1 (t.d_I64 r)):X);rw[←hX];refine aw (rvs:=IR) (j:=Jg) Tryz.func140 rfl (by kernel_rfl) (nb rfl) (by kernel_rfl) af ?_;intro g2 F hg2 hF;obtain rfl:g2=g:=hg2.unique.trans hg.symm;clear hg2;obtain⟨wrap,lt,_,_,_,_,_,_,_,_,_,_,int,add,_,_,_,_,_,_,_,_,_,_,dlen,_,_,_,rd⟩:=g2;obtain⟨r_Leg,_,r_I64,d_I64,_,_,r_S,d_S⟩:=t
 obtain⟨a0_Legs,a0_Off,a0_Change⟩:=a0;have hfr_I64:∀l,cd (d_I64 l)=true:=vP ht;unfold eI at h;try dsimp only at h
 cbv;obtain⟨x1,hx1,h⟩:=ac h;try dsimp only at h
 refine ACall.mk _ _ rfl (hF _ _ _ (fg hg ht hx1)) (.inl rfl) (nb rfl) ?_;cbv;refine AStep.mk (dN ht (aq hg ht _)) ?_;cbv;obtain⟨x2,hx2,h⟩:=ak h;try dsimp only at h
 refine ACall.mk _ _ (by rw[show rd (d_S x1) 0 (dlen (d_S x1))=r_S x1 from fK hg ht (aq hg ht _)];try rfl) (hF _ _ _ (fR hg ht hx2)) (.inr rfl) (nb rfl) ?_
 cbv;obtain⟨x3,hx3,h⟩:=ac h;try dsimp only at h
 refine ACall.mk _ _ rfl (hF _ _ _ (mg hg ht hx3)) (.inl rfl) (nb rfl) ?_;cbv
 cases hb1:x3
 ·rw[aa hb1] at h;cbv;iterate 2 try(rw[hb1];cbv)
  obtain⟨l4,hl4,h⟩:=ak h;try dsimp only at h
  refine ANew.mk (d_I64 l4) (dlen (d_I64 l4)) (by rw[←hl4];exact eM hg ht []) (by rw[←hl4];exact dg hg ht []) ?_;cbv;obtain rfl:=Option.some.inj h;exact ARet.mk ⟨rfl,(am hg ht _)⟩ hX.symm
 rw[ab hb1] at h;cbv;iterate 2 try(rw[hb1];cbv)
 cases hb2:(lt x2 0)
 rotate_left
 ·rw[ab hb2] at h;cbv;iterate 2 try(rw[hb2];cbv)
  obtain⟨l1,hl1,h⟩:=ak h;try dsimp only at h
  refine ANew.mk (d_I64 l1) (dlen (d_I64 l1)) (by rw[←hl1];exact eM hg ht []) (by rw[←hl1];exact dg hg ht []) ?_;cbv;obtain rfl:=Option.some.inj h;exact ARet.mk ⟨rfl,(am hg ht _)⟩ hX.symm
 rw[aa hb2] at h;cbv;iterate 2 try(rw[hb2];cbv)
 cases hb3:(lt 100000 a2)
 rotate_left
 ·rw[ab hb3] at h;cbv;iterate 2 try(rw[hb3];cbv)
  obtain⟨l2,hl2,h⟩:=ak h;try dsimp only at h
  refine ANew.mk (d_I64 l2) (dlen (d_I64 l2)) (by rw[←hl2];exact eM hg ht []) (by rw[←hl2];exact dg hg ht []) ?_;cbv;obtain rfl:=Option.some.inj h;exact ARet.mk ⟨rfl,(am hg ht _)⟩ hX.symm
 rw[aa hb3] at h;cbv;iterate 2 try(rw[hb3];cbv)
 cases hb4:(lt a3 0)
 rotate_left
 ·rw[ab hb4] at h;cbv;obtain⟨l3,hl3,h⟩:=ak h;try dsimp only at h
  refine ANew.mk (d_I64 l3) (dlen (d_I64 l3)) (by rw[←hl3];exact eM hg ht []) (by rw[←hl3];exact dg hg ht []) ?_;cbv;obtain rfl:=Option.some.inj h;exact ARet.mk ⟨rfl,(am hg ht _)⟩ hX.symm
 rw[aa hb4] at h;cbv;refine AStep.mk (dN ht (aq hg ht _)) ?_;cbv;obtain⟨x4,hx4,h⟩:=ac h;try dsimp only at h
 refine ACall.mk _ _ (by rw[show rd (d_S x1) 0 (dlen (d_S x1))=r_S x1 from fK hg ht (aq hg ht _)];try rfl) (hF _ _ _ (yP hg ht hx4)) (.inr (by simp only[Go.Vs.X.fresh,Go.Vs.X.freshs,gX,cT,Bool.and_self,hfr_I64])) (nb rfl) ?_
 cbv;obtain⟨hB1,h⟩:=al h;obtain⟨o1,ho1,h⟩:=ac h;try dsimp only at h
 try rw[hg] at ho1
 try rw[ht] at ho1
 refine ABL.mk {p:Nat×Int×List Int//p.1=ay p.2.1 a3∧0≤p.2.1∧cj G.real TE.real (Network.mk a0_Legs a0_Off a0_Change) x1 x2 p.1 p.2.1 p.2.2=some o1} (fun⟨⟨n1,v1,w1⟩,_⟩=>({sl:=[(3,.c (.r (.v (.int .i64 a3)))),(4,.c (.p 0 3 0 0)),(9,.c (.f 1 1 0 (dlen (d_S x1)))),(10,.c (.r (.v (.int .i64 x2)))),(11,.c (.f 2 1 0 (dlen (d_I64 w1)))),(12,.c (.r (.v (.int .i64 v1))))],tab:=[(0,some (.foc 3 [] [.r (.s 6 (r_Leg a0_Legs)),.r (.s 1 (r_I64 a0_Off)),.r (.v (.int .i64 a0_Change))] [])),(1,some (.arr 1 (d_S x1))),(2,some (.arr 1 (d_I64 w1)))]}:St)) 3 (fun p=>p.1.1) ⟨(ay 0 a3,0,x4),rfl,Int.le_refl _,ho1⟩ (List Int) (fun y1=>({sl:=[(11,.c (.f 0 1 0 (dlen (d_I64 y1))))],tab:=[(0,some (.arr 1 (d_I64 y1)))]}:St)) 1 (fun y=>o1=y) ?_ ?_ ?_
 ·refine Wk.of [(0,some 0),(1,some 48),(2,some 432)] rfl rfl ?_ ?_
  ·cbv;all_goals exact⟨⟨_,rfl,rfl⟩,⟨_,rfl,rfl⟩,⟨_,rfl,rfl⟩,⟨_,rfl,rfl⟩,⟨_,rfl,rfl⟩,⟨_,rfl,rfl⟩,trivial⟩
  cbv;all_goals exact⟨⟨_,rfl,_,rfl,rfl,rfl,rfl,trivial⟩,⟨_,rfl,rfl⟩,⟨_,rfl,rfl⟩,trivial⟩
 ·rintro⟨⟨n1,v1,w1⟩,hn1,hi1,h_1⟩ hq1;try dsimp only at hn1 hi1 h_1
  clear hq1;cbv;rcases n1 with _|n1
  ·have hb5:lt v1 a3=false:=bu hg hn1;rw[cj] at h_1;try rw[←hg] at h_1
   try rw[←ht] at h_1
   try dsimp only at h_1
   rw[hb5];cbv;iterate 4 try(rw[hb5];cbv)
   refine⟨w1,Wk.of [(0,some 2)] rfl rfl ?_ ?_,(Option.some.inj h_1).symm⟩
   ·cbv;all_goals exact⟨⟨_,rfl,rfl⟩,trivial⟩
   cbv;all_goals exact⟨⟨_,rfl,rfl⟩,trivial⟩
  have hb5:lt v1 a3=true:=bF hg hn1;have hl1:=d8 hn1;have hs1:=cM hg hn1 hi1 hB1 (by decide);rw[cj] at h_1;try rw[←hg] at h_1
  try rw[←ht] at h_1
  try dsimp only at h_1
  rw[hb5];cbv;iterate 4 try(rw[hb5];cbv)
  cases hb6:(lt v1 (int (dlen (d_S x1))))
  ·rw[aa hb6] at h_1;cbv;refine⟨w1,Wk.of [(0,some 2)] rfl rfl ?_ ?_,(Option.some.inj h_1).symm⟩
   ·cbv;all_goals exact⟨⟨_,rfl,rfl⟩,trivial⟩
   cbv;all_goals exact⟨⟨_,rfl,rfl⟩,trivial⟩
  rw[ab hb6] at h_1;cbv;refine AStep.mk ⟨(dN ht (aq hg ht _)),(df ht (am hg ht _))⟩ ?_;cbv;obtain⟨x5,hx5,h_1⟩:=ac h_1;try dsimp only at h_1
  refine ACall.mk _ _ (by rw[show rd (d_S x1) 0 (dlen (d_S x1))=r_S x1 from fK hg ht (aq hg ht _),show rd (d_I64 w1) 0 (dlen (d_I64 w1))=r_I64 w1 from eN hg ht (am hg ht _)];try rfl) (hF _ _ _ (yG hg ht hx5)) (.inr (by simp only[Go.Vs.X.fresh,Go.Vs.X.freshs,gX,cT,Bool.and_self,hfr_I64])) (nb rfl) ?_
  cbv;try rw[hg] at h_1
  try rw[ht] at h_1
  refine⟨⟨(n1,(wrap .i64 (add v1 1)),x5),hs1.1,hs1.2,h_1⟩,Wk.of [(0,some 0),(1,some 1),(2,some 211)] rfl rfl ?_ ?_,Nat.lt_succ_self _⟩
  ·cbv;all_goals exact⟨⟨_,rfl,rfl⟩,⟨_,rfl,rfl⟩,⟨_,rfl,rfl⟩,⟨_,rfl,rfl⟩,⟨_,rfl,rfl⟩,⟨_,rfl,rfl⟩,trivial⟩
  cbv;all_goals exact⟨⟨_,rfl,_,rfl,rfl,rfl,rfl,trivial⟩,⟨_,rfl,rfl⟩,⟨_,rfl,rfl⟩,trivial⟩
 rintro y1 hy1;replace hy1:=hy1.symm;subst hy1;try dsimp only[lr,lrL,lrp,aR] at h
 cbv;obtain rfl:=Option.some.inj h;exact ARet.mk ⟨rfl,(am hg ht _)⟩ hX.symm
def HK:J:=js [jq 4 (.box 0),jm 8 (ki 0)] [1,2,3,4] (js [jl 12 3 4,jc 13 78 [12],jm 9 13] [1,2,3,4,9] (js [jm 14 9,jm 15 2,jc 16 77 [14,15],jm 10 16] [1,3,4,9,10] (js [jl 17 3 4,jm 18 1,jm 19 3,jm 20 9,jq 21 (.len false 20),jc 22 140 [17,18,19,21],jm 11 22] [10,11] (.seq (js [jm 23 10,jb 24 .lss .i 23 (ki 0),jm 25 24,jv 26 25 (.mv 11),jv 27 25 (.len false 26),jv 28 25 (.bin .eql .i 27 (ki 0)),jq 29 (.pick 25 kt 28)] [10,11,29] (.cond 29 (js [jq 8 (.mv (.k (V.i (-1))))] [8] .ret) .skip)) (js [jm 30 11,jm 31 10,ja 32 1 30 31,jk 33 32,jm 8 33] [8] .ret)))))
def IB:List RV:=[.t 8]
def jt (g:G) (t:TE) (a0:Network) (a1:ByteArray) (a2:ByteArray) (a3:Int):Option Int:=
 cl (dU g t a0) fun x1=>
 lP (eQ g t x1 a2) fun x2=>
 cl (eI g t a0 a1 a3 (g.int (g.dlen (t.d_S x1)))) fun x3=>
 br (g.lt x2 0)
 (
  some (-1))
 (
  br (g.eq (g.int (g.dlen (t.d_I64 x3))) 0)
  (
   some (-1))
  (
   gd (((0:Int)≤x2∧x2<(((g.dlen (t.d_I64 x3)):Nat):Int)))<|
   gt x3 (g.nat x2) fun x4=>
   some x4))
theorem uk {g:G} {t:TE} {a0:Network} {a1:ByteArray} {a2:ByteArray} {a3:Int} {r:Int} (hg:g=G.real) (ht:t=TE.real) (h:jt g t a0 a1 a2 a3=some r):Fn Tryz.prog 118 [.g (Network.rs t a0),.c (.v (.string a1)),.c (.v (.string a2)),.c (.v (.int .i64 a3))] (.c (.r (.v (.int .i64 r)))):=by
 obtain⟨X,hX⟩:=aH (.c (.r (.v (.int .i64 r))):X);rw[←hX];refine aw (rvs:=IB) (j:=HK) Tryz.func118 rfl (by kernel_rfl) (nb rfl) (by kernel_rfl) af ?_;intro g2 F hg2 hF;obtain rfl:g2=g:=hg2.unique.trans hg.symm;clear hg2;obtain⟨_,lt,_,eq,_,_,_,_,_,_,_,_,int,_,_,_,_,_,_,_,_,_,_,_,dlen,_,_,_,rd⟩:=g2;obtain⟨_,_,_,d_I64,_,_,r_S,d_S⟩:=t
 obtain⟨a0_Legs,a0_Off,a0_Change⟩:=a0;unfold jt at h;try dsimp only at h
 cbv;obtain⟨x1,hx1,h⟩:=ac h;try dsimp only at h
 refine ACall.mk _ _ rfl (hF _ _ _ (fg hg ht hx1)) (.inl rfl) (nb rfl) ?_;cbv;refine AStep.mk (dN ht (aq hg ht _)) ?_;cbv;obtain⟨x2,hx2,h⟩:=ak h;try dsimp only at h
 refine ACall.mk _ _ (by rw[show rd (d_S x1) 0 (dlen (d_S x1))=r_S x1 from fK hg ht (aq hg ht _)];try rfl) (hF _ _ _ (fR hg ht hx2)) (.inr rfl) (nb rfl) ?_
 cbv;obtain⟨x3,hx3,h⟩:=ac h;try dsimp only at h
 refine ACall.mk _ _ rfl (hF _ _ _ (ry hg ht hx3)) (.inl rfl) (nb rfl) ?_;cbv
 cases hb1:(lt x2 0)
 rotate_left
 ·rw[ab hb1] at h;cbv;iterate 3 try(rw[hb1];cbv)
  obtain rfl:=Option.some.inj h;exact ARet.mk trivial hX.symm
 rw[aa hb1] at h;cbv;iterate 3 try(rw[hb1];cbv)
 cases hb2:(eq (int (dlen (d_I64 x3))) 0)
 rotate_left
 ·rw[ab hb2] at h;cbv;obtain rfl:=Option.some.inj h;exact ARet.mk trivial hX.symm
 rw[aa hb2] at h;cbv;obtain⟨hc1,h⟩:=al h;refine AStep.mk hc1 ?_;cbv;obtain⟨x4,hx4,h⟩:=aE h;try dsimp only at h
 refine AGet.mk _ (bY hg ht hx4) ?_;cbv;obtain rfl:=Option.some.inj h;exact ARet.mk trivial hX.symm
def ir79:J:=js [jq 3 (.box 0),jq 4 (.box 1),jm 6 (ki 0)] [2,3,4] (.seq (js [jf 7 0 4,jk 8 7,jm 9 2,jb 10 .eql .s 8 9] [2,3,4,10] (.cond 10 (js [jf 11 1 4,jk 12 11,jm 6 12] [6] .ret) .skip)) (js [jl 13 3 3,jf 14 0 4,jk 15 14,jm 16 2,jf 17 1 4,jk 18 17,jc 19 118 [13,15,16,18],jm 6 19] [6] .ret))
def rv79:List RV:=[.t 6]
def bC (g:G) (t:TE) (a0:Network) (a1:Spot) (a2:ByteArray):Option Int:=
 br (g.seq a1.Place a2)
 (
  some a1.At)
 (
  cl (jt g t a0 a1.Place a2 a1.At) fun x1=>
  some x1)
theorem bw {g:G} {t:TE} {a0:Network} {a1:Spot} {a2:ByteArray} {r:Int} (hg:g=G.real) (ht:t=TE.real) (h:bC g t a0 a1 a2=some r):Fn Tryz.prog 79 [.g (Network.rs t a0),.g (Spot.rs t a1),.c (.v (.string a2))] (.c (.r (.v (.int .i64 r)))):=by
 obtain⟨X,hX⟩:=aH (.c (.r (.v (.int .i64 r))):X);rw[←hX];refine aw (rvs:=rv79) (j:=ir79) Tryz.func79 rfl (by kernel_rfl) (nb rfl) (by kernel_rfl) af ?_;intro g2 F hg2 hF;obtain rfl:g2=g:=hg2.unique.trans hg.symm;clear hg2;obtain⟨_,_,_,_,_,_,_,_,_,_,_,_,_,_,_,_,_,seq⟩:=g2;obtain⟨_⟩:=t
 obtain⟨a0_Legs,a0_Off,a0_Change⟩:=a0;obtain⟨a1_Place,a1_At⟩:=a1;unfold bC at h;try dsimp only at h
 cbv
 cases hb1:(seq a1_Place a2)
 rotate_left
 ·rw[ab hb1] at h;cbv;obtain rfl:=Option.some.inj h;exact ARet.mk trivial hX.symm
 rw[aa hb1] at h;cbv;obtain⟨x1,hx1,h⟩:=ac h;try dsimp only at h
 refine ACall.mk _ _ rfl (hF _ _ _ (uk hg ht hx1)) (.inl rfl) (nb rfl) ?_;cbv;obtain rfl:=Option.some.inj h;exact ARet.mk trivial hX.symm
def ir74:J:=js [jq 3 (.box 0),jq 4 (.box 1),jq 5 (.box 2),jm 6 kf] [3,4,5] (.seq (js [jl 9 3 3,jl 10 6 4,jc 11 62 [9,10],jq 12 (.not 11),jm 13 12,jv 14 13 (.ld true 3 3),jv 15 13 (.ld true 6 5),jv 16 13 (.call 62 true [14,15]),jv 17 13 (.not 16),jq 18 (.pick 13 kt 17),jm 19 18,jv 20 19 (.fa 0 4),jv 21 19 (.ld false 1 20),jv 22 19 (.fa 0 5),jv 23 19 (.ld false 1 22),jv 24 19 (.bin .neq .i 21 23),jq 25 (.pick 19 kt 24),jm 26 25,jv 27 26 (.fa 2 4),jv 28 26 (.ld false 1 27),jv 29 26 (.bin .eql .i 28 (ki 4)),jq 30 (.pick 26 kt 29),jm 31 30,jv 32 31 (.ld true 6 4),jv 33 31 (.ld true 6 5),jv 34 31 (.call 63 true [32,33]),jv 35 31 (.bin .geq .i 34 (ki 0)),jq 36 (.pick 31 kt 35)] [3,4,5,36] (.cond 36 (js [jm 6 kf] [6] .ret) .skip)) (.seq (js [jf 37 2 4,jk 38 37,jb 39 .eql .i 38 (ki 3),jm 40 39,ju 41 40 (.fa 2 5),ju 42 40 (.ld false 1 41),ju 43 40 (.bin .eql .i 42 (ki 2)),jq 44 (.pick 40 43 kf),jm 45 44,ju 46 45 (.fa 4 4),ju 47 45 (.ld true 2 46),ju 48 45 (.fa 4 5),ju 49 45 (.ld true 2 48),ju 50 45 (.eqs false [.i,.i] 47 49),jq 51 (.pick 45 50 kf)] [3,4,5,51] (.cond 51 (js [jm 6 kt] [6] .ret) .skip)) (js [jl 52 3 3,jl 53 6 5,jc 54 115 [52,53],jq 7 (.alloc [.r (.v (.string .empty)),.r (.v (.int .i64 0))]),jp (.st 2 7 54)] [3,4,7] (.seq (.reg (some [[],[],[],[1,2],[],[4],[0,1,2,3,4,5],[0,1,2,3,4,5,6]]) [jl 55 3 3,jl 56 3 3,jl 57 6 4,jc 58 80 [56,57],jf 59 0 7,jk 60 59,jc 61 79 [55,58,60],jm 8 61] [7,8]) (js [jm 62 8,jb 63 .geq .i 62 (ki 0),jm 64 63,ju 65 64 (.mv 8),ju 66 64 (.fa 1 7),ju 67 64 (.ld false 1 66),ju 68 64 (.bin .leq .i 65 67),jq 69 (.pick 64 68 kf),jm 6 69] [6] .ret)))))
def rv74:List RV:=[.t 6]
def i4 (g:G) (t:TE) (a0:Network) (a1:Scan) (a2:Scan):Option Bool:=
 cl (iy g t a0 (Scan.mk a1.Thing a1.At a1.Kind a1.Place (Trip.mk a1.Trip.Leg a1.Trip.Day))) fun x1=>
 br x1
 (
  cl (iy g t a0 (Scan.mk a2.Thing a2.At a2.Kind a2.Place (Trip.mk a2.Trip.Leg a2.Trip.Day))) fun x2=>
  br x2
  (
   br (g.eq a1.Thing a2.Thing)
   (
    br (g.eq a1.Kind 4)
    (
     some false)
    (
     cl (eG g t (Scan.mk a1.Thing a1.At a1.Kind a1.Place (Trip.mk a1.Trip.Leg a1.Trip.Day)) (Scan.mk a2.Thing a2.At a2.Kind a2.Place (Trip.mk a2.Trip.Leg a2.Trip.Day))) fun x3=>
     br (g.le 0 x3)
     (
      some false)
     (
      br (g.eq a1.Kind 3)
      (
       br (g.eq a2.Kind 2)
       (
        br (g.all [(g.eq a1.Trip.Leg a2.Trip.Leg),(g.eq a1.Trip.Day a2.Trip.Day)])
        (
         some true)
        (
         cl (fk g t a0 (Scan.mk a2.Thing a2.At a2.Kind a2.Place (Trip.mk a2.Trip.Leg a2.Trip.Day))) fun x4=>
         cl (aV g t a0 (Scan.mk a1.Thing a1.At a1.Kind a1.Place (Trip.mk a1.Trip.Leg a1.Trip.Day))) fun x5=>
         cl (bC g t a0 x5 x4.Place) fun x6=>
         br (g.le 0 x6)
         (
          some (g.le x6 x4.At))
         (
          some false)))
       (
        cl (fk g t a0 (Scan.mk a2.Thing a2.At a2.Kind a2.Place (Trip.mk a2.Trip.Leg a2.Trip.Day))) fun x7=>
        cl (aV g t a0 (Scan.mk a1.Thing a1.At a1.Kind a1.Place (Trip.mk a1.Trip.Leg a1.Trip.Day))) fun x8=>
        cl (bC g t a0 x8 x7.Place) fun x9=>
        br (g.le 0 x9)
        (
         some (g.le x9 x7.At))
        (
         some false)))
      (
       cl (fk g t a0 (Scan.mk a2.Thing a2.At a2.Kind a2.Place (Trip.mk a2.Trip.Leg a2.Trip.Day))) fun x10=>
       cl (aV g t a0 (Scan.mk a1.Thing a1.At a1.Kind a1.Place (Trip.mk a1.Trip.Leg a1.Trip.Day))) fun x11=>
       cl (bC g t a0 x11 x10.Place) fun x12=>
       br (g.le 0 x12)
       (
        some (g.le x12 x10.At))
       (
        some false)))))
   (
    some false))
  (
   some false))
 (
  some false)
theorem o8 {g:G} {t:TE} {a0:Network} {a1:Scan} {a2:Scan} {r:Bool} (hg:g=G.real) (ht:t=TE.real) (h:i4 g t a0 a1 a2=some r):Fn Tryz.prog 74 [.g (Network.rs t a0),.g (Scan.rs t a1),.g (Scan.rs t a2)] (.c (.r (.v (.bool r)))):=by
 obtain⟨X,hX⟩:=aH (.c (.r (.v (.bool r))):X);rw[←hX];refine aw (rvs:=rv74) (j:=ir74) Tryz.func74 rfl (by kernel_rfl) (nb rfl) (by kernel_rfl) af ?_;intro g2 F hg2 hF;obtain rfl:g2=g:=hg2.unique.trans hg.symm;clear hg2;obtain⟨_,_,le,eq,_,_,_,_,_,_,_,_,_,_,_,_,_,_,_,_,_,_,_,_,_,_,_,_,_,_,_,_,_,all⟩:=g2;obtain⟨_⟩:=t
 obtain⟨a0_Legs,a0_Off,a0_Change⟩:=a0;obtain⟨a1_Thing,a1_At,a1_Kind,a1_Place,⟨a1_Trip_Leg,a1_Trip_Day⟩⟩:=a1;obtain⟨a2_Thing,a2_At,a2_Kind,a2_Place,⟨a2_Trip_Leg,a2_Trip_Day⟩⟩:=a2;unfold i4 at h;try dsimp only at h
 cbv;obtain⟨x1,hx1,h⟩:=ac h;try dsimp only at h
 refine ACall.mk _ _ rfl (hF _ _ _ (ka hg ht hx1)) (.inl rfl) (nb rfl) ?_;cbv
 cases hb1:x1
 ·rw[aa hb1] at h;cbv;iterate 4 try(rw[hb1];cbv)
  obtain rfl:=Option.some.inj h;exact ARet.mk trivial hX.symm
 rw[ab hb1] at h;cbv;iterate 2 try(rw[hb1];cbv)
 obtain⟨x2,hx2,h⟩:=ac h;try dsimp only at h
 refine ACall.mk _ _ rfl (hF _ _ _ (ka hg ht hx2)) (.inl rfl) (nb rfl) ?_;cbv;iterate 2 try(rw[hb1];cbv)
 cases hb2:x2
 ·rw[aa hb2] at h;cbv;iterate 5 try(rw[hb2];cbv)
  obtain rfl:=Option.some.inj h;exact ARet.mk trivial hX.symm
 rw[ab hb2] at h;cbv;iterate 5 try(rw[hb2];cbv)
 cases hb3:(eq a1_Thing a2_Thing)
 ·rw[aa hb3] at h;cbv;iterate 3 try(rw[hb3];cbv)
  obtain rfl:=Option.some.inj h;exact ARet.mk trivial hX.symm
 rw[ab hb3] at h;cbv;iterate 3 try(rw[hb3];cbv)
 cases hb4:(eq a1_Kind 4)
 rotate_left
 ·rw[ab hb4] at h;cbv;iterate 4 try(rw[hb4];cbv)
  obtain rfl:=Option.some.inj h;exact ARet.mk trivial hX.symm
 rw[aa hb4] at h;cbv;iterate 2 try(rw[hb4];cbv)
 obtain⟨x3,hx3,h⟩:=ac h;try dsimp only at h
 refine ACall.mk _ _ rfl (hF _ _ _ (mK hg ht hx3)) (.inl rfl) (nb rfl) ?_;cbv;iterate 2 try(rw[hb4];cbv)
 cases hb5:(le 0 x3)
 rotate_left
 ·rw[ab hb5] at h;cbv;obtain rfl:=Option.some.inj h;exact ARet.mk trivial hX.symm
 rw[aa hb5] at h;cbv
 cases hb6:(eq a1_Kind 3)
 ·rw[aa hb6] at h;cbv;iterate 3 try(rw[hb6];cbv)
  obtain⟨x10,hx10,h⟩:=ac h;obtain⟨x10_Place,x10_At⟩:=x10;try dsimp only at h
  refine ACall.mk _ _ rfl (hF _ _ _ (jy hg ht hx10)) (.inl rfl) (nb rfl) ?_;cbv;obtain⟨x11,hx11,h⟩:=ac h;obtain⟨x11_Place,x11_At⟩:=x11;try dsimp only at h
  refine ACall.mk _ _ rfl (hF _ _ _ (a7 hg ht hx11)) (.inl rfl) (nb rfl) ?_;cbv;obtain⟨x12,hx12,h⟩:=ac h;try dsimp only at h
  refine ACall.mk _ _ rfl (hF _ _ _ (bw hg ht hx12)) (.inl rfl) (nb rfl) ?_;cbv
  cases hb11:(le 0 x12)
  rotate_left
  ·rw[ab hb11] at h;cbv;iterate 4 try(rw[hb11];cbv)
   obtain rfl:=Option.some.inj h;exact ARet.mk trivial hX.symm
  rw[aa hb11] at h;cbv;iterate 4 try(rw[hb11];cbv)
  obtain rfl:=Option.some.inj h;exact ARet.mk trivial hX.symm
 rw[ab hb6] at h;cbv;iterate 3 try(rw[hb6];cbv)
 cases hb7:(eq a2_Kind 2)
 ·rw[aa hb7] at h;cbv;iterate 5 try(rw[hb7];cbv)
  obtain⟨x7,hx7,h⟩:=ac h;obtain⟨x7_Place,x7_At⟩:=x7;try dsimp only at h
  refine ACall.mk _ _ rfl (hF _ _ _ (jy hg ht hx7)) (.inl rfl) (nb rfl) ?_;cbv;obtain⟨x8,hx8,h⟩:=ac h;obtain⟨x8_Place,x8_At⟩:=x8;try dsimp only at h
  refine ACall.mk _ _ rfl (hF _ _ _ (a7 hg ht hx8)) (.inl rfl) (nb rfl) ?_;cbv;obtain⟨x9,hx9,h⟩:=ac h;try dsimp only at h
  refine ACall.mk _ _ rfl (hF _ _ _ (bw hg ht hx9)) (.inl rfl) (nb rfl) ?_;cbv
  cases hb10:(le 0 x9)
  rotate_left
  ·rw[ab hb10] at h;cbv;iterate 4 try(rw[hb10];cbv)
   obtain rfl:=Option.some.inj h;exact ARet.mk trivial hX.symm
  rw[aa hb10] at h;cbv;iterate 4 try(rw[hb10];cbv)
  obtain rfl:=Option.some.inj h;exact ARet.mk trivial hX.symm
 rw[ab hb7] at h;cbv;iterate 5 try(rw[hb7];cbv)
 cases hb8:(all [(eq a1_Trip_Leg a2_Trip_Leg),(eq a1_Trip_Day a2_Trip_Day)])
 rotate_left
 ·rw[ab hb8] at h;cbv;obtain rfl:=Option.some.inj h;exact ARet.mk trivial hX.symm
 rw[aa hb8] at h;cbv;obtain⟨x4,hx4,h⟩:=ac h;obtain⟨x4_Place,x4_At⟩:=x4;try dsimp only at h
 refine ACall.mk _ _ rfl (hF _ _ _ (jy hg ht hx4)) (.inl rfl) (nb rfl) ?_;cbv;obtain⟨x5,hx5,h⟩:=ac h;obtain⟨x5_Place,x5_At⟩:=x5;try dsimp only at h
 refine ACall.mk _ _ rfl (hF _ _ _ (a7 hg ht hx5)) (.inl rfl) (nb rfl) ?_;cbv;obtain⟨x6,hx6,h⟩:=ac h;try dsimp only at h
 refine ACall.mk _ _ rfl (hF _ _ _ (bw hg ht hx6)) (.inl rfl) (nb rfl) ?_;cbv
 cases hb9:(le 0 x6)
 rotate_left
 ·rw[ab hb9] at h;cbv;iterate 4 try(rw[hb9];cbv)
  obtain rfl:=Option.some.inj h;exact ARet.mk trivial hX.symm
 rw[aa hb9] at h;cbv;iterate 4 try(rw[hb9];cbv)
 obtain rfl:=Option.some.inj h;exact ARet.mk trivial hX.symm
def ir28:J:=js [jq 3 (.box 0),jq 6 (.mv (.k (.c (.n 1))))] [1,2,3] (js [jq 10 (.bsl 1 []),jm 7 10] [1,2,3,7] (js [jl 11 3 3,jm 12 1,jm 13 2,jc 14 26 [11,12,13],jm 8 14] [3,7,8] (.seq (js [jm 9 (ki 1)] [3,7,8,9] (.bl 0 (.seq (js [jm 15 9,jm 16 8,jq 17 (.len false 16),jb 18 .lss .i 15 17] [3,7,8,9,18] (.cond 18 .skip (.exit 0))) (.seq (.block 1 (.seq (.reg (some [[],[],[],[2],[1,2,3],[1,2,3,4],[],[],[6,7],[6,7,8],[0,1,2,3,4,5,6,7,8,9],[0,1,2,3,4,5,6,7,8,9,10]]) [jl 21 3 3,jm 22 8,jm 23 9,jb 24 .sub .i 23 (ki 1),ja 25 6 22 24,jl 26 6 25,jm 27 8,jm 28 9,ja 29 6 27 28,jl 30 6 29,jc 31 74 [21,26,30],jq 32 (.not 31)] [3,7,8,9,32]) (.cond 32 (.reg none [jm 33 7,jm 34 9,jq 35 (.bsl 1 [34]),jq 36 (.app 1 8 true 33 35),jm 7 36] [3,7,8,9]) .skip))) (.reg none [jm 19 9,jb 20 .add .i 19 (ki 1),jm 9 20] [3,7,8,9]))))) (js [jm 37 7,jm 6 37] [6] .ret))))
def rv28:List RV:=[.t 6]
def dZ (g:G) (t:TE) (a0:Network) (x1:List Scan):Nat→Int→List Int→Option (List Int)
 |0,v1,w1=>
  some w1
 |n1+1,v1,w1=>
  gd (((0:Int)≤(g.wrap .i64 (g.sub v1 1))∧(g.wrap .i64 (g.sub v1 1))<(((g.dlen (t.d_Scan x1)):Nat):Int)))<|
  gt x1 (g.nat (g.wrap .i64 (g.sub v1 1))) fun x2=>
  gt x1 (g.nat v1) fun x3=>
  cl (i4 g t a0 (Scan.mk x2.Thing x2.At x2.Kind x2.Place (Trip.mk x2.Trip.Leg x2.Trip.Day)) (Scan.mk x3.Thing x3.At x3.Kind x3.Place (Trip.mk x3.Trip.Leg x3.Trip.Day))) fun x4=>
  br x4
  (
   dZ g t a0 x1 n1 (g.wrap .i64 (g.add v1 1)) w1)
  (
   lP ([v1]) fun(l2:List Int)=>
   gd (((w1.length+l2.length)*8≤70368744177664))<|
   lP (w1++l2) fun(l3:List Int)=>
   dZ g t a0 x1 n1 (g.wrap .i64 (g.add v1 1)) l3)
def mN (g:G) (t:TE) (a0:Network) (a1:List Scan) (a2:Int):Option (List Int):=
 lP ([]) fun(l1:List Int)=>
 cl (jY g t a0 a1 a2) fun x1=>
 gd (((g.int (g.dlen (t.d_Scan x1)))≤9223372036854775807))<|
 cl (dZ g t a0 x1 (ay 1 (g.int (g.dlen (t.d_Scan x1)))) 1 l1) fun y1=>
 some y1
theorem xI {g:G} {t:TE} {a0:Network} {a1:List Scan} {a2:Int} {r:List Int} (hg:g=G.real) (ht:t=TE.real) (h:mN g t a0 a1 a2=some r):Fn Tryz.prog 28 [.g (Network.rs t a0),.c (.s 6 (t.r_Scan a1)),.c (.v (.int .i64 a2))] (.c (.o 1 (t.d_I64 r))):=by
 obtain⟨X,hX⟩:=aH (.c (.o 1 (t.d_I64 r)):X);rw[←hX];refine aw (rvs:=rv28) (j:=ir28) Tryz.func28 rfl (by kernel_rfl) (nb rfl) (by kernel_rfl) af ?_;intro g2 F hg2 hF;obtain rfl:g2=g:=hg2.unique.trans hg.symm;clear hg2;obtain⟨wrap,lt,_,_,_,_,_,_,_,_,_,_,int,add,_,_,_,_,_,_,_,_,_,_,dlen⟩:=g2;obtain⟨r_Leg,_,r_I64,d_I64,_,d_Scan⟩:=t
 obtain⟨a0_Legs,a0_Off,a0_Change⟩:=a0;unfold mN at h;try dsimp only at h
 cbv;obtain⟨l1,hl1,h⟩:=ak h;try dsimp only at h
 refine ANew.mk (d_I64 l1) (dlen (d_I64 l1)) (by rw[←hl1];exact eM hg ht []) (by rw[←hl1];exact dg hg ht []) ?_;cbv;obtain⟨x1,hx1,h⟩:=ac h;try dsimp only at h
 refine ACall.mk _ _ rfl (hF _ _ _ (ov hg ht hx1)) (.inl rfl) (nb rfl) ?_;cbv;obtain⟨hB1,h⟩:=al h;obtain⟨o1,ho1,h⟩:=ac h;try dsimp only at h
 try rw[hg] at ho1
 try rw[ht] at ho1
 refine ABL.mk {p:Nat×Int×List Int//p.1=ay p.2.1 (int (dlen (d_Scan x1)))∧1≤p.2.1∧dZ G.real TE.real (Network.mk a0_Legs a0_Off a0_Change) x1 p.1 p.2.1 p.2.2=some o1} (fun⟨⟨n1,v1,w1⟩,_⟩=>({sl:=[(3,.c (.p 0 3 0 0)),(7,.c (.f 1 1 0 (dlen (d_I64 w1)))),(8,.c (.f 2 6 0 (dlen (d_Scan x1)))),(9,.c (.r (.v (.int .i64 v1))))],tab:=[(0,some (.foc 3 [] [.r (.s 6 (r_Leg a0_Legs)),.r (.s 1 (r_I64 a0_Off)),.r (.v (.int .i64 a0_Change))] [])),(1,some (.arr 1 (d_I64 w1))),(2,some (.arr 6 (d_Scan x1)))]}:St)) 3 (fun p=>p.1.1) ⟨(ay 1 (int (dlen (d_Scan x1))),1,l1),rfl,Int.le_refl _,ho1⟩ (List Int) (fun y1=>({sl:=[(7,.c (.f 0 1 0 (dlen (d_I64 y1))))],tab:=[(0,some (.arr 1 (d_I64 y1)))]}:St)) 1 (fun y=>o1=y) ?_ ?_ ?_
 ·refine Wk.of [(0,some 0),(1,some 32),(2,some 112)] rfl rfl ?_ ?_
  ·cbv;all_goals exact⟨⟨_,rfl,rfl⟩,⟨_,rfl,rfl⟩,⟨_,rfl,rfl⟩,⟨_,rfl,rfl⟩,trivial⟩
  cbv;all_goals exact⟨⟨_,rfl,_,rfl,rfl,rfl,rfl,trivial⟩,⟨_,rfl,rfl⟩,⟨_,rfl,rfl⟩,trivial⟩
 ·rintro⟨⟨n1,v1,w1⟩,hn1,hi1,h_1⟩ hq1;try dsimp only at hn1 hi1 h_1
  clear hq1;cbv;rcases n1 with _|n1
  ·have hb1:lt v1 (int (dlen (d_Scan x1)))=false:=bu hg hn1;rw[dZ] at h_1;try rw[←hg] at h_1
   try rw[←ht] at h_1
   try dsimp only at h_1
   rw[hb1];cbv;refine⟨w1,Wk.of [(0,some 1)] rfl rfl ?_ ?_,(Option.some.inj h_1).symm⟩
   ·cbv;all_goals exact⟨⟨_,rfl,rfl⟩,trivial⟩
   cbv;all_goals exact⟨⟨_,rfl,rfl⟩,trivial⟩
  have hb1:lt v1 (int (dlen (d_Scan x1)))=true:=bF hg hn1;have hl1:=d8 hn1;have hs1:=cM hg hn1 hi1 hB1 (by decide);rw[dZ] at h_1;try rw[←hg] at h_1
  try rw[←ht] at h_1
  try dsimp only at h_1
  rw[hb1];cbv;obtain⟨hc1,h_1⟩:=al h_1;refine AStep.mk hc1 ?_;cbv;obtain⟨x2,hx2,h_1⟩:=aE h_1;obtain⟨x2_Thing,x2_At,x2_Kind,x2_Place,⟨x2_Trip_Leg,x2_Trip_Day⟩⟩:=x2;try dsimp only at h_1
  refine AGet.mk _ (aG hg ht hx2) ?_;cbv;refine AStep.mk (dR hg hi1 hl1) ?_;cbv;obtain⟨x3,hx3,h_1⟩:=aE h_1;obtain⟨x3_Thing,x3_At,x3_Kind,x3_Place,⟨x3_Trip_Leg,x3_Trip_Day⟩⟩:=x3;try dsimp only at h_1
  refine AGet.mk _ (aG hg ht hx3) ?_;cbv;obtain⟨x4,hx4,h_1⟩:=ac h_1;try dsimp only at h_1
  refine ACall.mk _ _ rfl (hF _ _ _ (o8 hg ht hx4)) (.inl rfl) (nb rfl) ?_;cbv
  cases hb2:x4
  rotate_left
  ·rw[ab hb2] at h_1;cbv;try rw[hg] at h_1
   try rw[ht] at h_1
   refine⟨⟨(n1,(wrap .i64 (add v1 1)),w1),hs1.1,hs1.2,h_1⟩,Wk.of [(0,some 0),(1,some 1),(2,some 2)] rfl rfl ?_ ?_,Nat.lt_succ_self _⟩
   ·cbv;all_goals exact⟨⟨_,rfl,rfl⟩,⟨_,rfl,rfl⟩,⟨_,rfl,rfl⟩,⟨_,rfl,rfl⟩,trivial⟩
   cbv;all_goals exact⟨⟨_,rfl,_,rfl,rfl,rfl,rfl,trivial⟩,⟨_,rfl,rfl⟩,⟨_,rfl,rfl⟩,trivial⟩
  rw[aa hb2] at h_1;cbv;obtain⟨l2,hl2,h_1⟩:=ak h_1;try dsimp only at h_1
  refine ANew.mk (d_I64 l2) (dlen (d_I64 l2)) (by rw[←hl2];exact eM hg ht [v1]) (by rw[←hl2];exact dg hg ht [v1]) ?_;cbv;obtain⟨hc2,h_1⟩:=al h_1;refine AStep.mk ⟨⟨rfl,(am hg ht _)⟩,(iP hg ht (am hg ht _) rfl hc2)⟩ ?_;cbv;obtain⟨l3,hl3,h_1⟩:=ak h_1;try dsimp only at h_1
  refine ANew.mk (d_I64 l3) (dlen (d_I64 l3)) (by rw[←hl3];exact nv hg ht (am hg ht _) rfl) (by rw[←hl3];exact ly hg ht (am hg ht _) rfl) ?_;cbv;try rw[hg] at h_1
  try rw[ht] at h_1
  refine⟨⟨(n1,(wrap .i64 (add v1 1)),l3),hs1.1,hs1.2,h_1⟩,Wk.of [(0,some 0),(1,some 307),(2,some 2)] rfl rfl ?_ ?_,Nat.lt_succ_self _⟩
  ·cbv;all_goals exact⟨⟨_,rfl,rfl⟩,⟨_,rfl,rfl⟩,⟨_,rfl,rfl⟩,⟨_,rfl,rfl⟩,trivial⟩
  cbv;all_goals exact⟨⟨_,rfl,_,rfl,rfl,rfl,rfl,trivial⟩,⟨_,rfl,rfl⟩,⟨_,rfl,rfl⟩,trivial⟩
 rintro y1 hy1;replace hy1:=hy1.symm;subst hy1;try dsimp only[lr,lrL,lrp,aR] at h
 cbv;obtain rfl:=Option.some.inj h;exact ARet.mk ⟨rfl,(am hg ht _)⟩ hX.symm
def Ip:J:=js [jq 3 (.box 0),jm 6 (ki 0)] [1,2,3] (.seq (js [jm 7 2] [1,3,7] (.cond 7 (js [jm 8 1,jm 6 8] [6] .ret) .skip)) (js [jm 9 1,jf 10 2 3,jk 11 10,jb 12 .add .i 9 11,jm 6 12] [6] .ret))
def Js:List RV:=[.t 6]
def mX (g:G) (t:TE) (a0:Network) (a1:Int) (a2:Bool):Int:=
 br a2
 (
  a1)
 (
  (g.wrap .i64 (g.add a1 a0.Change)))
theorem xg {g:G} {t:TE} {a0:Network} {a1:Int} {a2:Bool} {r:Int} (hg:g=G.real) (ht:t=TE.real) (h:mX g t a0 a1 a2=r):Fn Tryz.prog 171 [.g (Network.rs t a0),.c (.v (.int .i64 a1)),.c (.v (.bool a2))] (.c (.r (.v (.int .i64 r)))):=by
 obtain⟨X,hX⟩:=aH (.c (.r (.v (.int .i64 r))):X);rw[←hX];refine aw (rvs:=Js) (j:=Ip) Tryz.func171 rfl (by kernel_rfl) (nb rfl) (by kernel_rfl) af ?_;intro g2 F hg2 hF;obtain rfl:g2=g:=hg2.unique.trans hg.symm;clear hg2;obtain⟨_⟩:=g2;obtain⟨_⟩:=t
 obtain⟨a0_Legs,a0_Off,a0_Change⟩:=a0;unfold mX at h;try dsimp only at h
 cbv
 cases hb1:a2
 rotate_left
 ·rw[ab hb1] at h;cbv;subst h;exact ARet.mk trivial hX.symm
 rw[aa hb1] at h;cbv;subst h;exact ARet.mk trivial hX.symm
def Ig:J:=js [jq 3 (.box 0),jq 6 (.alloc [.r (.v (.int .i64 0)),.r (.v (.int .i64 0))]),jm 7 kf] [1,2,3,6] (.seq (js [jm 8 (ki 0)] [1,2,3,6,8] (.bl 0 (.seq (js [jm 10 8,jb 11 .leq .i 10 (ki 60)] [1,2,3,6,8,11] (.cond 11 .skip (.exit 0))) (.seq (.block 1 (js [jm 14 1,jm 15 8,jq 16 (.bld [.r (.v (.int .i64 0)),.r (.v (.int .i64 0))] [(0,1,14),(1,1,15)]),jq 9 (.alloc [.r (.v (.int .i64 0)),.r (.v (.int .i64 0))]),jp (.st 2 9 16)] [1,2,3,6,8,9] (js [jl 17 3 3,jm 18 1,jm 19 8,jc 20 94 [17,18,19],jm 21 20,ju 22 21 (.ld true 3 3),ju 23 21 (.ld true 2 9),ju 24 21 (.call 105 true [22,23]),ju 25 21 (.mv 2),ju 26 21 (.bin .geq .i 24 25),jq 27 (.pick 21 26 kf)] [1,2,3,6,8,9,27] (.cond 27 (js [jl 28 2 9,jp (.st 2 6 28),jm 7 kt] [6,7] .ret) .skip)))) (.reg none [jm 12 8,jb 13 .add .i 12 (ki 1),jm 8 13] [1,2,3,6,8]))))) (js [jq 29 (.bld [.r (.v (.int .i64 0)),.r (.v (.int .i64 0))] []),jp (.st 2 6 29),jm 7 kf] [6,7] .ret))
def Jd:List RV:=[.c 6 true 2,.t 7]
def il (g:G) (t:TE) (a0:Network) (a1:Int) (a2:Int):Nat→Int→Option (LR (Trip×Bool) Unit)
 |0,v1=>
  some (LR.out ())
 |n1+1,v1=>
  cl (od g t a0 a1 v1) fun x1=>
  br x1
  (
   cl (dX g t a0 (Trip.mk a1 v1)) fun x2=>
   br (g.le a2 x2)
   (
    some (LR.ret (((Trip.mk a1 v1),true))))
   (
    il g t a0 a1 a2 n1 (g.wrap .i64 (g.add v1 1))))
  (
   il g t a0 a1 a2 n1 (g.wrap .i64 (g.add v1 1)))
def ux (g:G) (t:TE) (a0:Network) (a1:Int) (a2:Int):Option (Trip×Bool):=
 cl (il g t a0 a1 a2 (gp 0 60) 0) fun o1=>lr o1 fun y1=>
 some (((Trip.mk 0 0),false))
theorem D1 {g:G} {t:TE} {a0:Network} {a1:Int} {a2:Int} {r:Trip×Bool} (hg:g=G.real) (ht:t=TE.real) (h:ux g t a0 a1 a2=some r):Fn Tryz.prog 173 [.g (Network.rs t a0),.c (.v (.int .i64 a1)),.c (.v (.int .i64 a2))] (.u [.g (Trip.ds t r.1),.c (.r (.v (.bool r.2)))]):=by
 obtain⟨X,hX⟩:=aH (.u [.g (Trip.ds t r.1),.c (.r (.v (.bool r.2)))]:X);rw[←hX];refine aw (rvs:=Jd) (j:=Ig) Tryz.func173 rfl (by kernel_rfl) (nb rfl) (by kernel_rfl) af ?_;intro g2 F hg2 hF;obtain rfl:g2=g:=hg2.unique.trans hg.symm;clear hg2;obtain⟨wrap,_,le,_,_,_,_,_,_,_,_,_,_,add⟩:=g2;obtain⟨r_Leg,_,r_I64⟩:=t
 obtain⟨a0_Legs,a0_Off,a0_Change⟩:=a0;unfold ux at h;try dsimp only at h
 cbv;obtain⟨o1,ho1,h⟩:=ac h;try dsimp only at h
 try rw[hg] at ho1
 try rw[ht] at ho1
 refine ABL.mk {p:Nat×Int//p.1=gp p.2 60∧0≤p.2∧il G.real TE.real (Network.mk a0_Legs a0_Off a0_Change) a1 a2 p.1 p.2=some o1} (fun⟨⟨n1,v1⟩,_⟩=>({sl:=[(1,.c (.r (.v (.int .i64 a1)))),(2,.c (.r (.v (.int .i64 a2)))),(3,.c (.p 0 3 0 0)),(6,.c (.p 1 2 0 0)),(8,.c (.r (.v (.int .i64 v1))))],tab:=[(0,some (.foc 3 [] [.r (.s 6 (r_Leg a0_Legs)),.r (.s 1 (r_I64 a0_Off)),.r (.v (.int .i64 a0_Change))] [])),(1,some (.foc 2 [] [.r (.v (.int .i64 0)),.r (.v (.int .i64 0))] []))]}:St)) 2 (fun p=>p.1.1) ⟨(gp 0 60,0),rfl,Int.le_refl _,ho1⟩ (Unit) (fun _=>({sl:=[(6,.c (.p 0 2 0 0))],tab:=[(0,some (.foc 2 [] [.r (.v (.int .i64 0)),.r (.v (.int .i64 0))] []))]}:St)) 1 (fun y=>o1=LR.out y) ?_ ?_ ?_
 ·refine Wk.of [(0,some 0),(1,some 16)] rfl rfl ?_ ?_
  ·cbv;all_goals exact⟨⟨_,rfl,rfl⟩,⟨_,rfl,rfl⟩,⟨_,rfl,rfl⟩,⟨_,rfl,rfl⟩,⟨_,rfl,rfl⟩,trivial⟩
  cbv;all_goals exact⟨⟨_,rfl,_,rfl,rfl,rfl,rfl,trivial⟩,⟨_,rfl,_,rfl,rfl,rfl,trivial⟩,trivial⟩
 ·rintro⟨⟨n1,v1⟩,hn1,hi1,h_1⟩ hq1;try dsimp only at hn1 hi1 h_1
  clear hq1;cbv;rcases n1 with _|n1
  ·have hb1:le v1 60=false:=oK hg hn1;rw[il] at h_1;try rw[←hg] at h_1
   try rw[←ht] at h_1
   try dsimp only at h_1
   rw[hb1];cbv;refine⟨(),Wk.of [(0,some 1)] rfl rfl ?_ ?_,(Option.some.inj h_1).symm⟩
   ·cbv;all_goals exact⟨⟨_,rfl,rfl⟩,trivial⟩
   cbv;all_goals exact⟨⟨_,rfl,_,rfl,rfl,rfl,trivial⟩,trivial⟩
  have hb1:le v1 60=true:=qj hg hn1;have hl1:=wz hn1;have hs1:=sM hg hn1 hi1 (by decide) (by decide);rw[il] at h_1;try rw[←hg] at h_1
  try rw[←ht] at h_1
  try dsimp only at h_1
  rw[hb1];cbv;obtain⟨x1,hx1,h_1⟩:=ac h_1;try dsimp only at h_1
  refine ACall.mk _ _ rfl (hF _ _ _ (tV hg ht hx1)) (.inl rfl) (nb rfl) ?_;cbv
  cases hb2:x1
  ·rw[aa hb2] at h_1;cbv;iterate 5 try(rw[hb2];cbv)
   try rw[hg] at h_1
   try rw[ht] at h_1
   refine⟨⟨(n1,(wrap .i64 (add v1 1))),hs1.1,hs1.2,h_1⟩,Wk.of [(0,some 0),(1,some 1)] rfl rfl ?_ ?_,Nat.lt_succ_self _⟩
   ·cbv;all_goals exact⟨⟨_,rfl,rfl⟩,⟨_,rfl,rfl⟩,⟨_,rfl,rfl⟩,⟨_,rfl,rfl⟩,⟨_,rfl,rfl⟩,trivial⟩
   cbv;all_goals exact⟨⟨_,rfl,_,rfl,rfl,rfl,rfl,trivial⟩,⟨_,rfl,_,rfl,rfl,rfl,trivial⟩,trivial⟩
  rw[ab hb2] at h_1;cbv;iterate 2 try(rw[hb2];cbv)
  obtain⟨x2,hx2,h_1⟩:=ac h_1;try dsimp only at h_1
  refine ACall.mk _ _ rfl (hF _ _ _ (eL hg ht hx2)) (.inl rfl) (nb rfl) ?_;cbv;iterate 3 try(rw[hb2];cbv)
  cases hb3:(le a2 x2)
  rotate_left
  ·rw[ab hb3] at h_1;cbv;obtain rfl:=Option.some.inj h_1;try dsimp only[lr,lrL,lrp,aR] at h
   obtain rfl:=Option.some.inj h;exact ARet.mk trivial hX.symm
  rw[aa hb3] at h_1;cbv;try rw[hg] at h_1
  try rw[ht] at h_1
  refine⟨⟨(n1,(wrap .i64 (add v1 1))),hs1.1,hs1.2,h_1⟩,Wk.of [(0,some 0),(1,some 1)] rfl rfl ?_ ?_,Nat.lt_succ_self _⟩
  ·cbv;all_goals exact⟨⟨_,rfl,rfl⟩,⟨_,rfl,rfl⟩,⟨_,rfl,rfl⟩,⟨_,rfl,rfl⟩,⟨_,rfl,rfl⟩,trivial⟩
  cbv;all_goals exact⟨⟨_,rfl,_,rfl,rfl,rfl,rfl,trivial⟩,⟨_,rfl,_,rfl,rfl,rfl,trivial⟩,trivial⟩
 rintro _ hy1;replace hy1:=hy1.symm;subst hy1;try dsimp only[lr,lrL,lrp,aR] at h
 cbv;obtain rfl:=Option.some.inj h;exact ARet.mk trivial hX.symm
def H1:J:=js [jq 5 (.alloc [.r (.v (.int .i64 0)),.r (.v (.int .i64 0))]),jm 6 kf] [0,1,2,5] (js [jl 10 3 2,jm 11 0,jm 12 1,jc 13 173 [10,11,12],jm 9 13,jq 14 (.ext 0 9),jq 15 (.ext 1 9),jq 7 (.alloc [.r (.v (.int .i64 0)),.r (.v (.int .i64 0))]),jp (.st 2 7 14),jm 8 15] [5,7,8] (js [jl 16 2 7,jm 17 8,jp (.st 2 5 16),jm 6 17] [5,6] .ret))
def IY:List RV:=[.c 5 true 2,.t 6]
def I_nextOf_1 (g:G) (t:TE) (a0:Int) (a1:Int) (a2:Network):Option (Trip×Bool):=
 cl (ux g t a2 a0 a1) fun x1=>
 some (((Trip.mk x1.1.Leg x1.1.Day),x1.2))
theorem wK {g:G} {t:TE} {a0:Int} {a1:Int} {a2:Network} {r:Trip×Bool} (hg:g=G.real) (ht:t=TE.real) (h:I_nextOf_1 g t a0 a1 a2=some r):Fn Tryz.prog 172 [.c (.v (.int .i64 a0)),.c (.v (.int .i64 a1)),.q (Network.rs t a2)] (.u [.g (Trip.ds t r.1),.c (.r (.v (.bool r.2)))]):=by
 obtain⟨X,hX⟩:=aH (.u [.g (Trip.ds t r.1),.c (.r (.v (.bool r.2)))]:X);rw[←hX];refine aw (rvs:=IY) (j:=H1) Tryz.func172 rfl (by kernel_rfl) (nb rfl) (by kernel_rfl) af ?_;intro g2 F hg2 hF;obtain rfl:g2=g:=hg2.unique.trans hg.symm;clear hg2;obtain⟨_⟩:=g2;obtain⟨_⟩:=t
 obtain⟨a2_Legs,a2_Off,a2_Change⟩:=a2;unfold I_nextOf_1 at h;try dsimp only at h
 cbv;obtain⟨x1,hx1,h⟩:=ac h;obtain⟨⟨x1_1_Leg,x1_1_Day⟩,x1_2⟩:=x1;try dsimp only at h
 refine ACall.mk _ _ rfl (hF _ _ _ (D1 hg ht hx1)) (.inl rfl) (nb rfl) ?_;cbv;obtain rfl:=Option.some.inj h;exact ARet.mk trivial hX.symm
def callFd (g:G) (t:TE) (f:Fd) (x0:Int) (x1:Int):Option (Trip×Bool):=match f with
 |.I_nextOf_1 a0=>I_nextOf_1 g t x0 x1 a0
theorem DT {g:G} {t:TE} {f:Fd} {x0:Int} {x1:Int} {r:Trip×Bool} (hg:g=G.real) (ht:t=TE.real) (h:callFd g t f x0 x1=some r):∃(q:Nat) (bs:List (List R)),t.r_Fd f=.fn q bs∧(kL Tryz.prog q=true∧Fn Tryz.prog q ([.c (.v (.int .i64 x0)),.c (.v (.int .i64 x1))]++bs.map A.q) (.u [.g (Trip.ds t r.1),.c (.r (.v (.bool r.2)))])):=by
 cases f with
 |I_nextOf_1 a0=>
  exact⟨_,_,(oq ht a0).symm,by kernel_rfl,wK hg ht h⟩
def Id:J:=js [jq 5 (.box 0),jq 10 (.mv (.k (.c (.n 1))))] [1,2,3,4,5] (js [jl 23 3 5,jc 24 82 [23],jm 11 24] [1,2,3,4,5,11] (js [jm 25 11,jm 26 2,jc 27 81 [25,26],jm 12 27] [1,3,4,5,11,12] (.seq (js [jm 28 12,jb 29 .lss .i 28 (ki 0),jm 30 29,jv 31 30 (.mv 3),jv 32 30 (.bin .gtr .i 31 (ki 100000)),jq 33 (.pick 30 kt 32),jm 34 33,jv 35 34 (.mv 4),jv 36 34 (.bin .lss .i 35 (ki 0)),jq 37 (.pick 34 kt 36)] [1,3,4,5,11,12,37] (.cond 37 (js [jq 10 (.mv (.k (.c (.n 1))))] [10] .ret) .skip)) (js [jq 38 (.bsl 1 []),jm 13 38] [1,3,4,5,11,12,13] (.seq (js [jm 39 11,jq 40 (.len false 39),jm 41 (ki 0)] [1,3,4,5,11,12,13,40,41] (.bl 0 (js [jb 42 .lss .i 41 40] [1,3,4,5,11,12,13,40,41,42] (.seq (.cond 42 .skip (.exit 0)) (.seq (.block 1 (.reg none [jm 43 13,jq 44 (.bsl 1 [(.k (V.i (-1)))]),jq 45 (.app 1 8 true 43 44),jm 13 45] [1,3,4,5,11,12,13,40,41])) (.reg none [jb 46 .add .i 41 (ki 1),jm 41 46] [1,3,4,5,11,12,13,40,41])))))) (js [jm 47 13,jm 48 12,jm 49 3,jq 50 (.mnx true 49 (ki 0)),ja 51 1 47 48,jp (.st 1 51 50)] [1,4,5,11,12,13] (.seq (js [jm 14 (ki 0)] [1,4,5,11,12,13,14] (.bl 2 (.seq (js [jm 52 14,jm 53 4,jb 54 .lss .i 52 53] [1,4,5,11,12,13,14,54] (.cond 54 .skip (.exit 2))) (.seq (.block 3 (js [jq 57 (.bsl 1 []),jm 58 13,jq 59 (.app 1 8 false 57 58),jm 15 59] [1,4,5,11,12,13,14,15] (js [jm 16 kf] [1,4,5,11,12,13,14,15,16] (.seq (js [jf 60 0 5,jk 61 60,jq 62 (.len false 61),jm 63 (ki 0)] [1,4,5,11,12,13,14,15,16,61,62,63] (.bl 4 (js [jb 64 .lss .i 63 62] [1,4,5,11,12,13,14,15,16,61,62,63,64] (.seq (.cond 64 .skip (.exit 4)) (.seq (.block 5 (js [jm 65 63,ja 66 6 61 63,jl 67 6 66,jq 18 (.alloc [.r (.v (.string .empty)),.r (.v (.string .empty)),.r (.v (.int .i64 0)),.r (.v (.int .i64 0)),.r (.v (.int .i64 0)),.r (.v (.int .i64 0))]),jm 17 65,jp (.st 6 18 67)] [1,4,5,11,12,13,14,15,16,17,18,61,62,63] (js [jm 68 11,jf 69 0 18,jk 70 69,jc 71 81 [68,70],jm 19 71] [1,4,5,11,12,13,14,15,16,17,18,19,61,62,63] (js [jm 72 11,jf 73 1 18,jk 74 73,jc 75 81 [72,74],jm 20 75] [1,4,5,11,12,13,14,15,16,17,19,20,61,62,63] (.seq (js [jm 76 13,jm 77 19,ja 78 1 76 77,jk 79 78,jb 80 .lss .i 79 (ki 0)] [1,4,5,11,12,13,14,15,16,17,19,20,61,62,63,80] (.cond 80 (.exit 5) .skip)) (.seq (.reg (some [[],[],[],[],[],[3,4],[3,4,5],[],[],[7,8],[2,3,4,5,6,7,8,9],[0,1,2,3,4,5,6,7,8,9,10],[0,1,2,3,4,5,6,7,8,9,10,11],[0,1,2,3,4,5,6,7,8,9,10,11,12],[0,1,2,3,4,5,6,7,8,9,10,11,12],[],[0,1,2,3,4,5,6,7,8,9,10,11,12,13,15],[0,1,2,3,4,5,6,7,8,9,10,11,12,13,14,15,16]]) [jm 82 1,jm 83 17,jl 84 3 5,jm 85 13,jm 86 19,ja 87 1 85 86,jk 88 87,jm 89 19,jm 90 12,jb 91 .eql .i 89 90,jc 92 171 [84,88,91],jq 93 (.callv true 82 [83,92]),jm 81 93,jq 94 (.ext 0 81),
 jq 95 (.ext 1 81),jq 21 (.alloc [.r (.v (.int .i64 0)),.r (.v (.int .i64 0))]),jp (.st 2 21 94),jm 22 95] [1,4,5,11,12,13,14,15,16,20,21,22,61,62,63]) (.seq (.reg (some [[],[0],[0,1],[0,1],[0,1,2,3],[0,1,2,3,4],[0,1,2,3,4,5],[0,1,2,3,4,5,6],[0,1,2,3,4,5,6,7],[0,1,2,3,4,5,6,7],[0,1,2,3,4,5,6,7,8,9],[0,1,2,3,4,5,6,7],[0,1,2,3,4,5,6,7],[0,1,2,3,4,5,6,7,11,12],[0,1,2,3,4,5,6,7,11,12,13],[0,1,2,3,4,5,6,7,8,9,10,11,12,13,14],[0,1,2,3,4,5,6,7,8,9,10,11,12,13,14,15],[0,1,2,3,4,5,6,7,8,9,10,11,12,13,14,15,16]]) [jm 96 22,jm 97 96,ju 98 97 (.mv 15),ju 99 97 (.mv 20),ju 100 97 (.ia 1 98 99),ju 101 97 (.ld false 1 100),ju 102 97 (.bin .lss .i 101 (ki 0)),ju 103 97 (.mv 102),jv 104 103 (.ld true 3 5),jv 105 103 (.ld true 2 21),jv 106 103 (.call 106 true [104,105]),jv 107 103 (.mv 15),jv 108 103 (.mv 20),jv 109 103 (.ia 1 107 108),jv 110 103 (.ld false 1 109),jv 111 103 (.bin .lss .i 106 110),ju 112 97 (.pick 103 kt 111),jq 113 (.pick 97 112 kf)] [1,4,5,11,12,13,14,15,16,20,21,61,62,63,113]) (.cond 113 (js [jm 114 15,jm 115 20,jl 116 3 5,jl 117 2 21,jc 118 106 [116,117],ja 119 1 114 115,jp (.st 1 119 118)] [1,4,5,11,12,13,14,15,61,62,63] (.reg none [jm 16 kt] [1,4,5,11,12,13,14,15,16,61,62,63])) .skip)))))))) (.reg none [jb 120 .add .i 63 (ki 1),jm 63 120] [1,4,5,11,12,13,14,15,16,61,62,63])))))) (js [jm 121 15,jm 13 121] [1,4,5,11,12,13,14,16] (js [jm 122 16,jq 123 (.not 122)] [1,4,5,11,12,13,14,123] (.cond 123 (.exit 2) .skip))))))) (.reg none [jm 55 14,jb 56 .add .i 55 (ki 1),jm 14 56] [1,4,5,11,12,13,14]))))) (js [jm 124 13,jm 10 124] [10] .ret))))))))
def HX:List RV:=[.t 10]
def bU (g:G) (t:TE) (a0:Network) (a1:Fd) (w2:List Int) (x1:List ByteArray) (x2:Int):List Leg→Int→List Int→Bool→Option ((List Int)×Bool)
 |[],v4,w3,v3=>
  some (w3,v3)
 |z3::ls3,v4,w3,v3=>
  lP (eE g t x1 z3.From) fun x4=>
  lP (eE g t x1 z3.To) fun x5=>
  gd (((0:Int)≤x4∧x4<(((g.dlen (t.d_I64 w2)):Nat):Int)))<|
  gt w2 (g.nat x4) fun x6=>
  br (g.lt x6 0)
  (
   bU g t a0 a1 w2 x1 x2 ls3 (g.wrap .i64 (g.add v4 1)) w3 v3)
  (
   gd (((0:Int)≤x4∧x4<(((g.dlen (t.d_I64 w2)):Nat):Int)))<|
   lP (mX g t a0 x6 (g.eq x4 x2)) fun x7=>
   cl (callFd g t a1 v4 x7) fun x8=>
   br x8.2
   (
    gd (((0:Int)≤x5∧x5<(((g.dlen (t.d_I64 w3)):Nat):Int)))<|
    gt w3 (g.nat x5) fun x9=>
    br (g.lt x9 0)
    (
     cl (iv g t a0 (Trip.mk x8.1.Leg x8.1.Day)) fun x10=>
     gd (((0:Int)≤x5∧x5<(((g.dlen (t.d_I64 w3)):Nat):Int)))<|
     lP (List.set w3 (g.nat x5) x10) fun(l7:List Int)=>
     bU g t a0 a1 w2 x1 x2 ls3 (g.wrap .i64 (g.add v4 1)) l7 true)
    (
     cl (iv g t a0 (Trip.mk x8.1.Leg x8.1.Day)) fun x11=>
     gd (((0:Int)≤x5∧x5<(((g.dlen (t.d_I64 w3)):Nat):Int)))<|
     br (g.lt x11 x9)
     (
      cl (iv g t a0 (Trip.mk x8.1.Leg x8.1.Day)) fun x12=>
      gd (((0:Int)≤x5∧x5<(((g.dlen (t.d_I64 w3)):Nat):Int)))<|
      lP (List.set w3 (g.nat x5) x12) fun(l8:List Int)=>
      bU g t a0 a1 w2 x1 x2 ls3 (g.wrap .i64 (g.add v4 1)) l8 true)
     (
      bU g t a0 a1 w2 x1 x2 ls3 (g.wrap .i64 (g.add v4 1)) w3 v3)))
   (
    bU g t a0 a1 w2 x1 x2 ls3 (g.wrap .i64 (g.add v4 1)) w3 v3))
def eo (g:G) (t:TE) (a0:Network) (a1:Fd) (x1:List ByteArray) (x2:Int):Nat→List Int→Option (List Int)
 |0,w2=>
  some w2
 |n2+1,w2=>
  lP ([]) fun(l5:List Int)=>
  gd (((l5.length+w2.length)*8≤70368744177664))<|
  lP (l5++w2) fun(l6:List Int)=>
  cl (bU g t a0 a1 w2 x1 x2 a0.Legs 0 l6 false) fun y2=>
  br y2.2
  (
   eo g t a0 a1 x1 x2 n2 y2.1)
  (
   some y2.1)
def ej (g:G) (t:TE):Nat→List Int→Option (List Int)
 |0,w1=>
  some w1
 |n1+1,w1=>
  lP ([(-1)]) fun(l2:List Int)=>
  gd (((w1.length+l2.length)*8≤70368744177664))<|
  lP (w1++l2) fun(l3:List Int)=>
  ej g t n1 l3
def lz (g:G) (t:TE) (a0:Network) (a1:Fd) (a2:ByteArray) (a3:Int) (a4:Int):Option (List Int):=
 cl (eK g t a0) fun x1=>
 lP (eE g t x1 a2) fun x2=>
 br (g.lt x2 0)
 (
  some [])
 (
  br (g.lt 100000 a3)
  (
   some [])
  (
   br (g.lt a4 0)
   (
    some [])
   (
    lP ([]) fun(l1:List Int)=>
    gd (((g.int (g.dlen (t.d_S x1)))≤9223372036854775807))<|
    cl (ej g t (ay 0 (g.int (g.dlen (t.d_S x1)))) l1) fun y1=>
    gd (((0:Int)≤x2∧x2<(((g.dlen (t.d_I64 y1)):Nat):Int)))<|
    gt y1 (g.nat x2) fun x3=>
    lP (List.set y1 (g.nat x2) (g.imax a3 0)) fun(l4:List Int)=>
    gd ((a4≤9223372036854775807))<|
    cl (eo g t a0 a1 x1 x2 (ay 0 a4) l4) fun y3=>
    some y3)))
theorem wA {g:G} {t:TE} {a0:Network} {a1:Fd} {a2:ByteArray} {a3:Int} {a4:Int} {r:List Int} (hg:g=G.real) (ht:t=TE.real) (h:lz g t a0 a1 a2 a3 a4=some r):Fn Tryz.prog 152 [.g (Network.rs t a0),.c (t.r_Fd a1),.c (.v (.string a2)),.c (.v (.int .i64 a3)),.c (.v (.int .i64 a4))] (.c (.o 1 (t.d_I64 r))):=by
 obtain⟨X,hX⟩:=aH (.c (.o 1 (t.d_I64 r)):X);rw[←hX];refine aw (rvs:=HX) (j:=Id) Tryz.func152 rfl (by kernel_rfl) (nb rfl) (by kernel_rfl) af ?_;intro g2 F hg2 hF;obtain rfl:g2=g:=hg2.unique.trans hg.symm;clear hg2;obtain⟨wrap,lt,_,_,_,_,_,_,_,_,_,_,int,add,_,_,_,_,_,_,_,llen,_,_,dlen,_,_,_,rd,_,_,_,_,_,_,_,_,_,_,_,_,imax⟩:=g2;obtain⟨r_Leg,_,r_I64,d_I64,_,_,r_S,d_S,_,_,_,_,r_Fd⟩:=t
 obtain⟨a0_Legs,a0_Off,a0_Change⟩:=a0;have hnil_I64:d_I64 []=[]:=uP ht;unfold lz at h;try dsimp only at h
 cbv;obtain⟨x1,hx1,h⟩:=ac h;try dsimp only at h
 refine ACall.mk _ _ rfl (hF _ _ _ (gg hg ht hx1)) (.inl rfl) (nb rfl) ?_;cbv;refine AStep.mk (dN ht (aq hg ht _)) ?_;cbv;obtain⟨x2,hx2,h⟩:=ak h;try dsimp only at h
 refine ACall.mk _ _ (by rw[show rd (d_S x1) 0 (dlen (d_S x1))=r_S x1 from fK hg ht (aq hg ht _)];try rfl) (hF _ _ _ (fQ hg ht hx2)) (.inr rfl) (nb rfl) ?_
 cbv
 cases hb1:(lt x2 0)
 rotate_left
 ·rw[ab hb1] at h;cbv;iterate 2 try(rw[hb1];cbv)
  obtain rfl:=Option.some.inj h;exact ARet.mk trivial (by rw[hX];first|rfl|(simp only[Leg.ds,Network.ds,Trip.ds,Scan.ds,Belief.ds,Spot.ds,Know.ds,hnil_I64];try rfl))
 rw[aa hb1] at h;cbv;iterate 2 try(rw[hb1];cbv)
 cases hb2:(lt 100000 a3)
 rotate_left
 ·rw[ab hb2] at h;cbv;iterate 2 try(rw[hb2];cbv)
  obtain rfl:=Option.some.inj h;exact ARet.mk trivial (by rw[hX];first|rfl|(simp only[Leg.ds,Network.ds,Trip.ds,Scan.ds,Belief.ds,Spot.ds,Know.ds,hnil_I64];try rfl))
 rw[aa hb2] at h;cbv;iterate 2 try(rw[hb2];cbv)
 cases hb3:(lt a4 0)
 rotate_left
 ·rw[ab hb3] at h;cbv;obtain rfl:=Option.some.inj h;exact ARet.mk trivial (by rw[hX];first|rfl|(simp only[Leg.ds,Network.ds,Trip.ds,Scan.ds,Belief.ds,Spot.ds,Know.ds,hnil_I64];try rfl))
 rw[aa hb3] at h;cbv;obtain⟨l1,hl1,h⟩:=ak h;try dsimp only at h
 refine ANew.mk (d_I64 l1) (dlen (d_I64 l1)) (by rw[←hl1];exact eM hg ht []) (by rw[←hl1];exact dg hg ht []) ?_;cbv;obtain⟨hB1,h⟩:=al h;obtain⟨o1,ho1,h⟩:=ac h;try dsimp only at h
 try rw[hg] at ho1
 try rw[ht] at ho1
 refine ABL.mk {p:Nat×Int×List Int//p.1=ay p.2.1 (int (dlen (d_S x1)))∧0≤p.2.1∧ej G.real TE.real p.1 p.2.2=some o1} (fun⟨⟨n1,v1,w1⟩,_⟩=>({sl:=[(1,.c (.r (r_Fd a1))),(3,.c (.r (.v (.int .i64 a3)))),(4,.c (.r (.v (.int .i64 a4)))),(5,.c (.p 0 3 0 0)),(11,.c (.f 1 1 0 (dlen (d_S x1)))),(12,.c (.r (.v (.int .i64 x2)))),(13,.c (.f 2 1 0 (dlen (d_I64 w1)))),(40,.c (.r (.v (.int .i64 (int (dlen (d_S x1))))))),(41,.c (.r (.v (.int .i64 v1))))],tab:=[(0,some (.foc 3 [] [.r (.s 6 (r_Leg a0_Legs)),.r (.s 1 (r_I64 a0_Off)),.r (.v (.int .i64 a0_Change))] [])),(1,some (.arr 1 (d_S x1))),(2,some (.arr 1 (d_I64 w1)))]}:St)) 3 (fun p=>p.1.1) ⟨(ay 0 (int (dlen (d_S x1))),0,l1),rfl,Int.le_refl _,ho1⟩ (List Int) (fun y1=>({sl:=[(1,.c (.r (r_Fd a1))),(3,.c (.r (.v (.int .i64 a3)))),(4,.c (.r (.v (.int .i64 a4)))),(5,.c (.p 0 3 0 0)),(11,.c (.f 1 1 0 (dlen (d_S x1)))),(12,.c (.r (.v (.int .i64 x2)))),(13,.c (.f 2 1 0 (dlen (d_I64 y1))))],tab:=[(0,some (.foc 3 [] [.r (.s 6 (r_Leg a0_Legs)),.r (.s 1 (r_I64 a0_Off)),.r (.v (.int .i64 a0_Change))] [])),(1,some (.arr 1 (d_S x1))),(2,some (.arr 1 (d_I64 y1)))]}:St)) 3 (fun y=>o1=y) ?_ ?_ ?_
 ·refine Wk.of [(0,some 0),(1,some 48),(2,some 304)] rfl rfl ?_ ?_
  ·cbv;all_goals exact⟨⟨_,rfl,rfl⟩,⟨_,rfl,rfl⟩,⟨_,rfl,rfl⟩,⟨_,rfl,rfl⟩,⟨_,rfl,rfl⟩,⟨_,rfl,rfl⟩,⟨_,rfl,rfl⟩,⟨_,rfl,rfl⟩,⟨_,rfl,rfl⟩,trivial⟩
  cbv;all_goals exact⟨⟨_,rfl,_,rfl,rfl,rfl,rfl,trivial⟩,⟨_,rfl,rfl⟩,⟨_,rfl,rfl⟩,trivial⟩
 ·rintro⟨⟨n1,v1,w1⟩,hn1,hi1,h_1⟩ hq1;try dsimp only at hn1 hi1 h_1
  clear hq1;cbv;rcases n1 with _|n1
  ·have hb4:lt v1 (int (dlen (d_S x1)))=false:=bu hg hn1;rw[ej] at h_1;try rw[←hg] at h_1
   try rw[←ht] at h_1
   try dsimp only at h_1
   rw[hb4];cbv;refine⟨w1,Wk.of [(0,some 0),(1,some 1),(2,some 2)] rfl rfl ?_ ?_,(Option.some.inj h_1).symm⟩
   ·cbv;all_goals exact⟨⟨_,rfl,rfl⟩,⟨_,rfl,rfl⟩,⟨_,rfl,rfl⟩,⟨_,rfl,rfl⟩,⟨_,rfl,rfl⟩,⟨_,rfl,rfl⟩,⟨_,rfl,rfl⟩,trivial⟩
   cbv;all_goals exact⟨⟨_,rfl,_,rfl,rfl,rfl,rfl,trivial⟩,⟨_,rfl,rfl⟩,⟨_,rfl,rfl⟩,trivial⟩
  have hb4:lt v1 (int (dlen (d_S x1)))=true:=bF hg hn1;have hl1:=d8 hn1;have hs1:=cM hg hn1 hi1 hB1 (by decide);rw[ej] at h_1;try rw[←hg] at h_1
  try rw[←ht] at h_1
  try dsimp only at h_1
  rw[hb4];cbv;obtain⟨l2,hl2,h_1⟩:=ak h_1;try dsimp only at h_1
  refine ANew.mk (d_I64 l2) (dlen (d_I64 l2)) (by rw[←hl2];exact eM hg ht [(-1)]) (by rw[←hl2];exact dg hg ht [(-1)]) ?_;cbv;obtain⟨hc1,h_1⟩:=al h_1;refine AStep.mk ⟨⟨rfl,(am hg ht _)⟩,(iP hg ht (am hg ht _) rfl hc1)⟩ ?_;cbv;obtain⟨l3,hl3,h_1⟩:=ak h_1;try dsimp only at h_1
  refine ANew.mk (d_I64 l3) (dlen (d_I64 l3)) (by rw[←hl3];exact nv hg ht (am hg ht _) rfl) (by rw[←hl3];exact ly hg ht (am hg ht _) rfl) ?_;cbv;try rw[hg] at h_1
  try rw[ht] at h_1
  refine⟨⟨(n1,(wrap .i64 (add v1 1)),l3),hs1.1,hs1.2,h_1⟩,Wk.of [(0,some 0),(1,some 1),(2,some 51)] rfl rfl ?_ ?_,Nat.lt_succ_self _⟩
  ·cbv;all_goals exact⟨⟨_,rfl,rfl⟩,⟨_,rfl,rfl⟩,⟨_,rfl,rfl⟩,⟨_,rfl,rfl⟩,⟨_,rfl,rfl⟩,⟨_,rfl,rfl⟩,⟨_,rfl,rfl⟩,⟨_,rfl,rfl⟩,⟨_,rfl,rfl⟩,trivial⟩
  cbv;all_goals exact⟨⟨_,rfl,_,rfl,rfl,rfl,rfl,trivial⟩,⟨_,rfl,rfl⟩,⟨_,rfl,rfl⟩,trivial⟩
 rintro y1 hy1;replace hy1:=hy1.symm;subst hy1;try dsimp only[lr,lrL,lrp,aR] at h
 cbv;obtain⟨hc2,h⟩:=al h;refine AStep.mk hc2 ?_;cbv;obtain⟨x3,hx3,h⟩:=aE h;try dsimp only at h
 refine AGet.mk _ (bY hg ht hx3) ?_;cbv;obtain⟨l4,hl4,h⟩:=ak h;try dsimp only at h
 refine ANew.mk (d_I64 l4) _ (by rw[←hl4];exact lB hg ht _ _ (imax a3 0)) rfl ?_;have hnl4:(dlen (d_I64 y1))=(d_I64 l4).length:=(by rw[←hl4,jL ht];exact(am hg ht _));cbv;obtain⟨hB2,h⟩:=al h;obtain⟨o2,ho2,h⟩:=ac h;try dsimp only at h
 try rw[hg] at ho2
 try rw[ht] at ho2
 refine ABL.mk {p:Nat×Int×List Int//p.1=ay p.2.1 a4∧0≤p.2.1∧eo G.real TE.real (Network.mk a0_Legs a0_Off a0_Change) a1 x1 x2 p.1 p.2.2=some o2} (fun⟨⟨n2,v2,w2⟩,_⟩=>({sl:=[(1,.c (.r (r_Fd a1))),(4,.c (.r (.v (.int .i64 a4)))),(5,.c (.p 0 3 0 0)),(11,.c (.f 1 1 0 (dlen (d_S x1)))),(12,.c (.r (.v (.int .i64 x2)))),(13,.c (.f 2 1 0 (dlen (d_I64 w2)))),(14,.c (.r (.v (.int .i64 v2))))],tab:=[(0,some (.foc 3 [] [.r (.s 6 (r_Leg a0_Legs)),.r (.s 1 (r_I64 a0_Off)),.r (.v (.int .i64 a0_Change))] [])),(1,some (.arr 1 (d_S x1))),(2,some (.arr 1 (d_I64 w2)))]}:St)) 3 (fun p=>p.1.1) ⟨(ay 0 a4,0,l4),rfl,Int.le_refl _,ho2⟩ (List Int) (fun y3=>({sl:=[(13,.c (.f 0 1 0 (dlen (d_I64 y3))))],tab:=[(0,some (.arr 1 (d_I64 y3)))]}:St)) 1 (fun y=>o2=y) ?_ ?_ ?_
 ·refine Wk.of [(0,some 0),(1,some 1),(2,some 2)] rfl rfl ?_ ?_
  ·cbv;all_goals try rw[show(dlen (d_I64 y1))=(dlen (d_I64 l4)) from(hnl4).trans (am hg ht _).symm]
   all_goals exact⟨⟨_,rfl,rfl⟩,⟨_,rfl,rfl⟩,⟨_,rfl,rfl⟩,⟨_,rfl,rfl⟩,⟨_,rfl,rfl⟩,⟨_,rfl,rfl⟩,⟨_,rfl,rfl⟩,trivial⟩
  cbv;all_goals try rw[show(dlen (d_I64 y1))=(dlen (d_I64 l4)) from(hnl4).trans (am hg ht _).symm]
  all_goals exact⟨⟨_,rfl,_,rfl,rfl,rfl,rfl,trivial⟩,⟨_,rfl,rfl⟩,⟨_,rfl,rfl⟩,trivial⟩
 ·rintro⟨⟨n2,v2,w2⟩,hn2,hi2,h_2⟩ hq2;try dsimp only at hn2 hi2 h_2
  clear hq2;cbv;rcases n2 with _|n2
  ·have hb5:lt v2 a4=false:=bu hg hn2;rw[eo] at h_2;try rw[←hg] at h_2
   try rw[←ht] at h_2
   try dsimp only at h_2
   rw[hb5];cbv;refine⟨w2,Wk.of [(0,some 2)] rfl rfl ?_ ?_,(Option.some.inj h_2).symm⟩
   ·cbv;all_goals exact⟨⟨_,rfl,rfl⟩,trivial⟩
   cbv;all_goals exact⟨⟨_,rfl,rfl⟩,trivial⟩
  have hb5:lt v2 a4=true:=bF hg hn2;have hl2:=d8 hn2;have hs2:=cM hg hn2 hi2 hB2 (by decide);rw[eo] at h_2;try rw[←hg] at h_2
  try rw[←ht] at h_2
  try dsimp only at h_2
  rw[hb5];cbv;obtain⟨l5,hl5,h_2⟩:=ak h_2;try dsimp only at h_2
  refine ANew.mk (d_I64 l5) (dlen (d_I64 l5)) (by rw[←hl5];exact eM hg ht []) (by rw[←hl5];exact dg hg ht []) ?_;cbv;obtain⟨hc9,h_2⟩:=al h_2;refine AStep.mk ⟨(xU hg ht (am hg ht _)),(iP hg ht (am hg ht _) (rr hg ht (am hg ht _)) hc9)⟩ ?_;cbv;obtain⟨l6,hl6,h_2⟩:=ak h_2;try dsimp only at h_2
  refine ANew.mk (d_I64 l6) (dlen (d_I64 l6)) (by rw[←hl6];exact nv hg ht (am hg ht _) (rr hg ht (am hg ht _))) (by rw[←hl6];exact ly hg ht (am hg ht _) (rr hg ht (am hg ht _))) ?_;cbv;obtain⟨o3,ho3,h_2⟩:=ac h_2;try dsimp only at h_2
  try rw[hg] at ho3
  try rw[ht] at ho3
  refine ABL.mk {p:Nat×Int×(List Int)×Bool//p.1≤a0_Legs.length∧p.2.1=((p.1:Nat):Int)∧bU G.real TE.real (Network.mk a0_Legs a0_Off a0_Change) a1 w2 x1 x2 (List.drop p.1 a0_Legs) p.2.1 p.2.2.1 p.2.2.2=some o3} (fun⟨⟨k3,v4,w3,v3⟩,_⟩=>({sl:=[(1,.c (.r (r_Fd a1))),(4,.c (.r (.v (.int .i64 a4)))),(5,.c (.p 0 3 0 0)),(11,.c (.f 1 1 0 (dlen (d_S x1)))),(12,.c (.r (.v (.int .i64 x2)))),(13,.c (.f 2 1 0 (dlen (d_I64 w2)))),(14,.c (.r (.v (.int .i64 v2)))),(15,.c (.f 3 1 0 (dlen (d_I64 w3)))),(16,.c (.r (.v (.bool v3)))),(61,.c (.r (.s 6 (r_Leg a0_Legs)))),(62,.c (.r (.v (.int .i64 (llen (r_Leg a0_Legs)))))),(63,.c (.r (.v (.int .i64 v4))))],tab:=[(0,some (.foc 3 [] [.r (.s 6 (r_Leg a0_Legs)),.r (.s 1 (r_I64 a0_Off)),.r (.v (.int .i64 a0_Change))] [])),(1,some (.arr 1 (d_S x1))),(2,some (.arr 1 (d_I64 w2))),(3,some (.arr 1 (d_I64 w3)))]}:St)) 4 (fun p=>a0_Legs.length-p.1.1) ⟨(0,0,l6,false),Nat.zero_le _,rfl,ho3⟩ ((List Int)×Bool) (fun⟨y2_1,y2_2⟩=>({sl:=[(1,.c (.r (r_Fd a1))),(4,.c (.r (.v (.int .i64 a4)))),(5,.c (.p 0 3 0 0)),(11,.c (.f 1 1 0 (dlen (d_S x1)))),(12,.c (.r (.v (.int .i64 x2)))),(14,.c (.r (.v (.int .i64 v2)))),(15,.c (.f 2 1 0 (dlen (d_I64 y2_1)))),(16,.c (.r (.v (.bool y2_2))))],tab:=[(0,some (.foc 3 [] [.r (.s 6 (r_Leg a0_Legs)),.r (.s 1 (r_I64 a0_Off)),.r (.v (.int .i64 a0_Change))] [])),(1,some (.arr 1 (d_S x1))),(2,some (.arr 1 (d_I64 y2_1)))]}:St)) 3 (fun y=>o3=y) ?_ ?_ ?_
  ·refine Wk.of [(0,some 0),(1,some 1),(2,some 2),(3,some 83)] rfl rfl ?_ ?_
   ·cbv;all_goals exact⟨⟨_,rfl,rfl⟩,⟨_,rfl,rfl⟩,⟨_,rfl,rfl⟩,⟨_,rfl,rfl⟩,⟨_,rfl,rfl⟩,⟨_,rfl,rfl⟩,⟨_,rfl,rfl⟩,⟨_,rfl,rfl⟩,⟨_,rfl,rfl⟩,⟨_,rfl,rfl⟩,⟨_,rfl,rfl⟩,⟨_,rfl,rfl⟩,trivial⟩
   cbv;all_goals exact⟨⟨_,rfl,_,rfl,rfl,rfl,rfl,trivial⟩,⟨_,rfl,rfl⟩,⟨_,rfl,rfl⟩,⟨_,rfl,rfl⟩,trivial⟩
  ·rintro⟨⟨k3,v4,w3,v3⟩,hk3,hi3,h_3⟩ hq3;have hm3:=(hq3.1 61 _ _ rfl);try dsimp only at hk3 hi3 h_3
   clear hq3;cbv
   by_cases hc3_:k3<a0_Legs.length
   ·have hb6:lt v4 (llen (r_Leg a0_Legs))=true:=dw hg ht hi3 hc3_;have hs3:=gw hg ht hi3 hc3_ hm3;obtain⟨z3,hz3⟩:=aL hc3_;rw[aD hz3] at h_3;rw[bU] at h_3;obtain⟨z3_From,z3_To,z3_Start,z3_Takes,z3_Days,z3_Room⟩:=z3;try rw[←hg] at h_3
    try rw[←ht] at h_3
    try dsimp only at h_3
    rw[hb6];cbv;refine AStep.mk (eO hi3) ?_;cbv;refine AGet.mk _ (fS hg ht hi3 hz3) ?_;cbv;refine AStep.mk (dN ht (aq hg ht _)) ?_;cbv;obtain⟨x4,hx4,h_3⟩:=ak h_3;try dsimp only at h_3
    refine ACall.mk _ _ (by rw[show rd (d_S x1) 0 (dlen (d_S x1))=r_S x1 from fK hg ht (aq hg ht _)];try rfl) (hF _ _ _ (fQ hg ht hx4)) (.inr rfl) (nb rfl) ?_
    cbv;refine AStep.mk (dN ht (aq hg ht _)) ?_;cbv;obtain⟨x5,hx5,h_3⟩:=ak h_3;try dsimp only at h_3
    refine ACall.mk _ _ (by rw[show rd (d_S x1) 0 (dlen (d_S x1))=r_S x1 from fK hg ht (aq hg ht _)];try rfl) (hF _ _ _ (fQ hg ht hx5)) (.inr rfl) (nb rfl) ?_
    cbv;obtain⟨hc3,h_3⟩:=al h_3;refine AStep.mk hc3 ?_;cbv;obtain⟨x6,hx6,h_3⟩:=aE h_3;try dsimp only at h_3
    refine AGet.mk _ (bY hg ht hx6) ?_;cbv
    cases hb7:(lt x6 0)
    rotate_left
    ·rw[ab hb7] at h_3;cbv;try rw[hg] at h_3
     try rw[ht] at h_3
     refine⟨⟨(k3+1,(wrap .i64 (add v4 1)),w3,v3),hc3_,hs3,h_3⟩,Wk.of [(0,some 0),(1,some 1),(2,some 2),(3,some 3)] rfl rfl ?_ ?_,a8 hc3_⟩
     ·cbv;all_goals exact⟨⟨_,rfl,rfl⟩,⟨_,rfl,rfl⟩,⟨_,rfl,rfl⟩,⟨_,rfl,rfl⟩,⟨_,rfl,rfl⟩,⟨_,rfl,rfl⟩,⟨_,rfl,rfl⟩,⟨_,rfl,rfl⟩,⟨_,rfl,rfl⟩,⟨_,rfl,rfl⟩,⟨_,rfl,rfl⟩,⟨_,rfl,rfl⟩,trivial⟩
     cbv;all_goals exact⟨⟨_,rfl,_,rfl,rfl,rfl,rfl,trivial⟩,⟨_,rfl,rfl⟩,⟨_,rfl,rfl⟩,⟨_,rfl,rfl⟩,trivial⟩
    rw[aa hb7] at h_3;cbv;obtain⟨hc4,h_3⟩:=al h_3;refine AStep.mk hc4 ?_;cbv;refine AGet.mk _ (bY hg ht hx6) ?_;cbv;obtain⟨x7,hx7,h_3⟩:=ak h_3;try dsimp only at h_3
    refine ACall.mk _ _ rfl (hF _ _ _ (xg hg ht hx7)) (.inl rfl) (nb rfl) ?_;cbv;obtain⟨x8,hx8,h_3⟩:=ac h_3;obtain⟨⟨x8_1_Leg,x8_1_Day⟩,x8_2⟩:=x8;try dsimp only at h_3
    obtain⟨f_,bs_,hr_,hc_⟩:=DT hg ht hx8;refine ACallV.mk f_ bs_ _ _ hr_ rfl (hF _ _ _ hc_) (.inl rfl) (nb rfl) ?_;clear hr_ hc_;cbv;have hb8:x8_2=true∨x8_2=false:=by cases x8_2<;>simp
    rcases hb8 with hb8|hb8
    ·rw[ab hb8] at h_3;have hK_:=h_3;subst hb8;have h_3:=hK_;clear hK_;cbv;iterate 2 try(rw[hb8];cbv)
     obtain⟨hc5,h_3⟩:=al h_3;refine AStep.mk hc5 ?_;cbv;try(rw[hb8];cbv)
     obtain⟨x9,hx9,h_3⟩:=aE h_3;try dsimp only at h_3
     refine AGet.mk _ (bY hg ht hx9) ?_;cbv;iterate 2 try(rw[hb8];cbv)
     cases hb9:(lt x9 0)
     rotate_left
     ·rw[ab hb9] at h_3;cbv;iterate 7 try(rw[hb9];cbv)
      try(rw[hb8];cbv)
      try(rw[hb9];cbv)
      try(rw[hb8];cbv)
      obtain⟨x10,hx10,h_3⟩:=ac h_3;try dsimp only at h_3
      refine ACall.mk _ _ rfl (hF _ _ _ (gM hg ht hx10)) (.inl rfl) (nb rfl) ?_;cbv;obtain⟨hc6,h_3⟩:=al h_3;refine AStep.mk hc6 ?_;cbv;refine AGet.mk _ (bY hg ht hx9) ?_;cbv;obtain⟨l7,hl7,h_3⟩:=ak h_3;try dsimp only at h_3
      refine ANew.mk (d_I64 l7) _ (by rw[←hl7];exact lB hg ht _ _ x10) rfl ?_;have hnl7:(dlen (d_I64 w3))=(d_I64 l7).length:=(by rw[←hl7,jL ht];exact(am hg ht _));cbv;try rw[hg] at h_3
      try rw[ht] at h_3
      refine⟨⟨(k3+1,(wrap .i64 (add v4 1)),l7,true),hc3_,hs3,h_3⟩,Wk.of [(0,some 0),(1,some 1),(2,some 2),(3,some 3)] rfl rfl ?_ ?_,a8 hc3_⟩
      ·cbv;all_goals try rw[show(dlen (d_I64 w3))=(dlen (d_I64 l7)) from(hnl7).trans (am hg ht _).symm]
       all_goals exact⟨⟨_,rfl,rfl⟩,⟨_,rfl,rfl⟩,⟨_,rfl,rfl⟩,⟨_,rfl,rfl⟩,⟨_,rfl,rfl⟩,⟨_,rfl,rfl⟩,⟨_,rfl,rfl⟩,⟨_,rfl,rfl⟩,⟨_,rfl,rfl⟩,⟨_,rfl,rfl⟩,⟨_,rfl,rfl⟩,⟨_,rfl,rfl⟩,trivial⟩
      cbv;all_goals try rw[show(dlen (d_I64 w3))=(dlen (d_I64 l7)) from(hnl7).trans (am hg ht _).symm]
      all_goals exact⟨⟨_,rfl,_,rfl,rfl,rfl,rfl,trivial⟩,⟨_,rfl,rfl⟩,⟨_,rfl,rfl⟩,⟨_,rfl,rfl⟩,trivial⟩
     rw[aa hb9] at h_3;cbv;iterate 2 try(rw[hb9];cbv)
     obtain⟨x11,hx11,h_3⟩:=ac h_3;try dsimp only at h_3
     refine ACall.mk _ _ rfl (hF _ _ _ (gM hg ht hx11)) (.inl rfl) (nb rfl) ?_;cbv;iterate 3 try(rw[hb9];cbv)
     obtain⟨hc7,h_3⟩:=al h_3;refine AStep.mk hc7 ?_;cbv;try(rw[hb9];cbv)
     refine AGet.mk _ (bY hg ht hx9) ?_;cbv;try(rw[hb9];cbv)
     try(rw[hb8];cbv)
     try(rw[hb9];cbv)
     try(rw[hb8];cbv)
     cases hb10:(lt x11 x9)
     ·rw[aa hb10] at h_3;cbv;try rw[hg] at h_3
      try rw[ht] at h_3
      refine⟨⟨(k3+1,(wrap .i64 (add v4 1)),w3,v3),hc3_,hs3,h_3⟩,Wk.of [(0,some 0),(1,some 1),(2,some 2),(3,some 3)] rfl rfl ?_ ?_,a8 hc3_⟩
      ·cbv;all_goals exact⟨⟨_,rfl,rfl⟩,⟨_,rfl,rfl⟩,⟨_,rfl,rfl⟩,⟨_,rfl,rfl⟩,⟨_,rfl,rfl⟩,⟨_,rfl,rfl⟩,⟨_,rfl,rfl⟩,⟨_,rfl,rfl⟩,⟨_,rfl,rfl⟩,⟨_,rfl,rfl⟩,⟨_,rfl,rfl⟩,⟨_,rfl,rfl⟩,trivial⟩
      cbv;all_goals exact⟨⟨_,rfl,_,rfl,rfl,rfl,rfl,trivial⟩,⟨_,rfl,rfl⟩,⟨_,rfl,rfl⟩,⟨_,rfl,rfl⟩,trivial⟩
     rw[ab hb10] at h_3;cbv;obtain⟨x12,hx12,h_3⟩:=ac h_3;try dsimp only at h_3
     refine ACall.mk _ _ rfl (hF _ _ _ (gM hg ht hx12)) (.inl rfl) (nb rfl) ?_;cbv;obtain⟨hc8,h_3⟩:=al h_3;refine AStep.mk hc8 ?_;cbv;refine AGet.mk _ (bY hg ht hx9) ?_;cbv;obtain⟨l8,hl8,h_3⟩:=ak h_3;try dsimp only at h_3
     refine ANew.mk (d_I64 l8) _ (by rw[←hl8];exact lB hg ht _ _ x12) rfl ?_;have hnl8:(dlen (d_I64 w3))=(d_I64 l8).length:=(by rw[←hl8,jL ht];exact(am hg ht _));cbv;try rw[hg] at h_3
     try rw[ht] at h_3
     refine⟨⟨(k3+1,(wrap .i64 (add v4 1)),l8,true),hc3_,hs3,h_3⟩,Wk.of [(0,some 0),(1,some 1),(2,some 2),(3,some 3)] rfl rfl ?_ ?_,a8 hc3_⟩
     ·cbv;all_goals try rw[show(dlen (d_I64 w3))=(dlen (d_I64 l8)) from(hnl8).trans (am hg ht _).symm]
      all_goals exact⟨⟨_,rfl,rfl⟩,⟨_,rfl,rfl⟩,⟨_,rfl,rfl⟩,⟨_,rfl,rfl⟩,⟨_,rfl,rfl⟩,⟨_,rfl,rfl⟩,⟨_,rfl,rfl⟩,⟨_,rfl,rfl⟩,⟨_,rfl,rfl⟩,⟨_,rfl,rfl⟩,⟨_,rfl,rfl⟩,⟨_,rfl,rfl⟩,trivial⟩
     cbv;all_goals try rw[show(dlen (d_I64 w3))=(dlen (d_I64 l8)) from(hnl8).trans (am hg ht _).symm]
     all_goals exact⟨⟨_,rfl,_,rfl,rfl,rfl,rfl,trivial⟩,⟨_,rfl,rfl⟩,⟨_,rfl,rfl⟩,⟨_,rfl,rfl⟩,trivial⟩
    rw[aa hb8] at h_3;have hK_:=h_3;subst hb8;have h_3:=hK_;clear hK_;cbv;iterate 7 try(rw[hb8];cbv)
    try rw[hg] at h_3
    try rw[ht] at h_3
    refine⟨⟨(k3+1,(wrap .i64 (add v4 1)),w3,v3),hc3_,hs3,h_3⟩,Wk.of [(0,some 0),(1,some 1),(2,some 2),(3,some 3)] rfl rfl ?_ ?_,a8 hc3_⟩
    ·cbv;all_goals exact⟨⟨_,rfl,rfl⟩,⟨_,rfl,rfl⟩,⟨_,rfl,rfl⟩,⟨_,rfl,rfl⟩,⟨_,rfl,rfl⟩,⟨_,rfl,rfl⟩,⟨_,rfl,rfl⟩,⟨_,rfl,rfl⟩,⟨_,rfl,rfl⟩,⟨_,rfl,rfl⟩,⟨_,rfl,rfl⟩,⟨_,rfl,rfl⟩,trivial⟩
    cbv;all_goals exact⟨⟨_,rfl,_,rfl,rfl,rfl,rfl,trivial⟩,⟨_,rfl,rfl⟩,⟨_,rfl,rfl⟩,⟨_,rfl,rfl⟩,trivial⟩
   have hb6:lt v4 (llen (r_Leg a0_Legs))=false:=cR hg ht hi3 hc3_;rw[List.drop_of_length_le (Nat.le_of_not_lt hc3_)] at h_3;rw[bU] at h_3;try rw[←hg] at h_3
   try rw[←ht] at h_3
   try dsimp only at h_3
   rw[hb6];cbv;refine⟨(w3,v3),Wk.of [(0,some 0),(1,some 1),(2,some 3)] rfl rfl ?_ ?_,(Option.some.inj h_3).symm⟩
   ·cbv;all_goals exact⟨⟨_,rfl,rfl⟩,⟨_,rfl,rfl⟩,⟨_,rfl,rfl⟩,⟨_,rfl,rfl⟩,⟨_,rfl,rfl⟩,⟨_,rfl,rfl⟩,⟨_,rfl,rfl⟩,⟨_,rfl,rfl⟩,trivial⟩
   cbv;all_goals exact⟨⟨_,rfl,_,rfl,rfl,rfl,rfl,trivial⟩,⟨_,rfl,rfl⟩,⟨_,rfl,rfl⟩,trivial⟩
  rintro⟨y2_1,y2_2⟩ hy3;replace hy3:=hy3.symm;subst hy3;try dsimp only[lr,lrL,lrp,aR] at h_2
  cbv
  cases hb11:y2_2
  ·rw[aa hb11] at h_2;cbv;refine⟨y2_1,Wk.of [(0,some 2)] rfl rfl ?_ ?_,(Option.some.inj h_2).symm⟩
   ·cbv;all_goals exact⟨⟨_,rfl,rfl⟩,trivial⟩
   cbv;all_goals exact⟨⟨_,rfl,rfl⟩,trivial⟩
  rw[ab hb11] at h_2;cbv;try rw[hg] at h_2
  try rw[ht] at h_2
  refine⟨⟨(n2,(wrap .i64 (add v2 1)),y2_1),hs2.1,hs2.2,h_2⟩,Wk.of [(0,some 0),(1,some 1),(2,some 2)] rfl rfl ?_ ?_,Nat.lt_succ_self _⟩
  ·cbv;all_goals exact⟨⟨_,rfl,rfl⟩,⟨_,rfl,rfl⟩,⟨_,rfl,rfl⟩,⟨_,rfl,rfl⟩,⟨_,rfl,rfl⟩,⟨_,rfl,rfl⟩,⟨_,rfl,rfl⟩,trivial⟩
  cbv;all_goals exact⟨⟨_,rfl,_,rfl,rfl,rfl,rfl,trivial⟩,⟨_,rfl,rfl⟩,⟨_,rfl,rfl⟩,trivial⟩
 rintro y3 hy2;replace hy2:=hy2.symm;subst hy2;try dsimp only[lr,lrL,lrp,aR] at h
 cbv;obtain rfl:=Option.some.inj h;exact ARet.mk ⟨rfl,(am hg ht _)⟩ hX.symm
def HW:J:=js [jq 1 (.box 0),jq 2 (.mv (.k (.c .un)))] [1] (js [jq 3 (.clo false 172 [1]),jm 2 3] [2] .ret)
def Il:List RV:=[.t 2]
def qc (g:G) (t:TE) (a0:Network):Fd:=
 (Fd.I_nextOf_1 a0)
theorem zP {g:G} {t:TE} {a0:Network} {r:Fd} (hg:g=G.real) (ht:t=TE.real) (h:qc g t a0=r):Fn Tryz.prog 153 [.g (Network.rs t a0)] (.c (.r (t.r_Fd r))):=by
 obtain⟨X,hX⟩:=aH (.c (.r (t.r_Fd r)):X);rw[←hX];refine aw (rvs:=Il) (j:=HW) Tryz.func153 rfl (by kernel_rfl) (nb rfl) (by kernel_rfl) af ?_;intro g2 F hg2 hF;obtain rfl:g2=g:=hg2.unique.trans hg.symm;clear hg2;obtain⟨_⟩:=g2;obtain⟨_,_,_,_,_,_,_,_,_,_,_,_,r_Fd⟩:=t
 obtain⟨a0_Legs,a0_Off,a0_Change⟩:=a0;unfold qc at h;try dsimp only at h
 cbv;refine AClo.mk (r_Fd (Fd.I_nextOf_1 (Network.mk a0_Legs a0_Off a0_Change))) (oq ht (Network.mk a0_Legs a0_Off a0_Change)) ?_;cbv;subst h;exact ARet.mk trivial hX.symm
def Jn:J:=js [jq 4 (.box 0),jq 8 (.mv (.k (.c (.n 1))))] [1,2,3,4] (.seq (js [jl 9 3 4,jc 10 88 [9],jq 11 (.not 10)] [1,2,3,4,11] (.cond 11 (js [jq 8 (.mv (.k (.c (.n 1))))] [8] .ret) .skip)) (.seq (.reg (some [[],[],[1],[],[],[],[0,1,2,3,4,5],[0,1,2,3,4,5,6]]) [jl 12 3 4,jl 13 3 4,jc 14 153 [13],jm 15 1,jm 16 2,jm 17 3,jc 18 152 [12,14,15,16,17],jm 8 18] [8]) .ret))
def I2:List RV:=[.t 8]
def eF (g:G) (t:TE) (a0:Network) (a1:ByteArray) (a2:Int) (a3:Int):Option (List Int):=
 cl (eA g t a0) fun x1=>
 br x1
 (
  lP (qc g t a0) fun x2=>
  cl (lz g t a0 x2 a1 a2 a3) fun x3=>
  some x3)
 (
  some [])
theorem rt {g:G} {t:TE} {a0:Network} {a1:ByteArray} {a2:Int} {a3:Int} {r:List Int} (hg:g=G.real) (ht:t=TE.real) (h:eF g t a0 a1 a2 a3=some r):Fn Tryz.prog 142 [.g (Network.rs t a0),.c (.v (.string a1)),.c (.v (.int .i64 a2)),.c (.v (.int .i64 a3))] (.c (.o 1 (t.d_I64 r))):=by
 obtain⟨X,hX⟩:=aH (.c (.o 1 (t.d_I64 r)):X);rw[←hX];refine aw (rvs:=I2) (j:=Jn) Tryz.func142 rfl (by kernel_rfl) (nb rfl) (by kernel_rfl) af ?_;intro g2 F hg2 hF;obtain rfl:g2=g:=hg2.unique.trans hg.symm;clear hg2;obtain⟨_⟩:=g2;obtain⟨_,_,_,d_I64⟩:=t
 obtain⟨a0_Legs,a0_Off,a0_Change⟩:=a0;have hnil_I64:d_I64 []=[]:=uP ht;unfold eF at h;try dsimp only at h
 cbv;obtain⟨x1,hx1,h⟩:=ac h;try dsimp only at h
 refine ACall.mk _ _ rfl (hF _ _ _ (iB hg ht hx1)) (.inl rfl) (nb rfl) ?_;cbv
 cases hb1:x1
 ·rw[aa hb1] at h;cbv;obtain rfl:=Option.some.inj h;exact ARet.mk trivial (by rw[hX];first|rfl|(simp only[Leg.ds,Network.ds,Trip.ds,Scan.ds,Belief.ds,Spot.ds,Know.ds,hnil_I64];try rfl))
 rw[ab hb1] at h;cbv;obtain⟨x2,hx2,h⟩:=ak h;try dsimp only at h
 refine ACall.mk _ _ rfl (hF _ _ _ (zP hg ht hx2)) (.inl rfl) (nb rfl) ?_;cbv;obtain⟨x3,hx3,h⟩:=ac h;try dsimp only at h
 refine ACall.mk _ _ rfl (hF _ _ _ (wA hg ht hx3)) (.inl rfl) (nb rfl) ?_;cbv;obtain rfl:=Option.some.inj h;exact ARet.mk ⟨rfl,(am hg ht _)⟩ hX.symm
def HQ:J:=js [jq 4 (.box 0),jm 8 (ki 0)] [1,2,3,4] (js [jl 12 3 4,jc 13 82 [12],jm 9 13] [1,2,3,4,9] (js [jl 14 3 4,jm 15 1,jm 16 3,jm 17 9,jq 18 (.len false 17),jc 19 142 [14,15,16,18],jm 10 19] [2,9,10] (js [jm 20 9,jm 21 2,jc 22 81 [20,21],jm 11 22] [10,11] (.seq (js [jm 23 11,jb 24 .lss .i 23 (ki 0),jm 25 24,jv 26 25 (.mv 10),jv 27 25 (.len false 26),jv 28 25 (.bin .eql .i 27 (ki 0)),jq 29 (.pick 25 kt 28)] [10,11,29] (.cond 29 (js [jq 8 (.mv (.k (V.i (-1))))] [8] .ret) .skip)) (js [jm 30 10,jm 31 11,ja 32 1 30 31,jk 33 32,jm 8 33] [8] .ret)))))
def Jh:List RV:=[.t 8]
def fV (g:G) (t:TE) (a0:Network) (a1:ByteArray) (a2:ByteArray) (a3:Int):Option Int:=
 cl (eK g t a0) fun x1=>
 cl (eF g t a0 a1 a3 (g.int (g.dlen (t.d_S x1)))) fun x2=>
 lP (eE g t x1 a2) fun x3=>
 br (g.lt x3 0)
 (
  some (-1))
 (
  br (g.eq (g.int (g.dlen (t.d_I64 x2))) 0)
  (
   some (-1))
  (
   gd (((0:Int)≤x3∧x3<(((g.dlen (t.d_I64 x2)):Nat):Int)))<|
   gt x2 (g.nat x3) fun x4=>
   some x4))
theorem lw {g:G} {t:TE} {a0:Network} {a1:ByteArray} {a2:ByteArray} {a3:Int} {r:Int} (hg:g=G.real) (ht:t=TE.real) (h:fV g t a0 a1 a2 a3=some r):Fn Tryz.prog 122 [.g (Network.rs t a0),.c (.v (.string a1)),.c (.v (.string a2)),.c (.v (.int .i64 a3))] (.c (.r (.v (.int .i64 r)))):=by
 obtain⟨X,hX⟩:=aH (.c (.r (.v (.int .i64 r))):X);rw[←hX];refine aw (rvs:=Jh) (j:=HQ) Tryz.func122 rfl (by kernel_rfl) (nb rfl) (by kernel_rfl) af ?_;intro g2 F hg2 hF;obtain rfl:g2=g:=hg2.unique.trans hg.symm;clear hg2;obtain⟨_,lt,_,eq,_,_,_,_,_,_,_,_,int,_,_,_,_,_,_,_,_,_,_,_,dlen,_,_,_,rd⟩:=g2;obtain⟨_,_,_,d_I64,_,_,r_S,d_S⟩:=t
 obtain⟨a0_Legs,a0_Off,a0_Change⟩:=a0;unfold fV at h;try dsimp only at h
 cbv;obtain⟨x1,hx1,h⟩:=ac h;try dsimp only at h
 refine ACall.mk _ _ rfl (hF _ _ _ (gg hg ht hx1)) (.inl rfl) (nb rfl) ?_;cbv;obtain⟨x2,hx2,h⟩:=ac h;try dsimp only at h
 refine ACall.mk _ _ rfl (hF _ _ _ (rt hg ht hx2)) (.inl rfl) (nb rfl) ?_;cbv;refine AStep.mk (dN ht (aq hg ht _)) ?_;cbv;obtain⟨x3,hx3,h⟩:=ak h;try dsimp only at h
 refine ACall.mk _ _ (by rw[show rd (d_S x1) 0 (dlen (d_S x1))=r_S x1 from fK hg ht (aq hg ht _)];try rfl) (hF _ _ _ (fQ hg ht hx3)) (.inr rfl) (nb rfl) ?_
 cbv
 cases hb1:(lt x3 0)
 rotate_left
 ·rw[ab hb1] at h;cbv;iterate 3 try(rw[hb1];cbv)
  obtain rfl:=Option.some.inj h;exact ARet.mk trivial hX.symm
 rw[aa hb1] at h;cbv;iterate 3 try(rw[hb1];cbv)
 cases hb2:(eq (int (dlen (d_I64 x2))) 0)
 rotate_left
 ·rw[ab hb2] at h;cbv;obtain rfl:=Option.some.inj h;exact ARet.mk trivial hX.symm
 rw[aa hb2] at h;cbv;obtain⟨hc1,h⟩:=al h;refine AStep.mk hc1 ?_;cbv;obtain⟨x4,hx4,h⟩:=aE h;try dsimp only at h
 refine AGet.mk _ (bY hg ht hx4) ?_;cbv;obtain rfl:=Option.some.inj h;exact ARet.mk trivial hX.symm
def HU:J:=js [jq 3 (.box 0),jq 4 (.box 1),jq 5 (.box 2),jm 6 kf] [3,4,5] (.seq (js [jf 8 0 4,jk 9 8,jf 10 0 5,jk 11 10,jb 12 .eql .s 9 11] [3,4,5,12] (.cond 12 (js [jf 13 1 4,jk 14 13,jf 15 1 5,jk 16 15,jb 17 .leq .i 14 16,jm 6 17] [6] .ret) .skip)) (js [jl 18 3 3,jf 19 0 4,jk 20 19,jf 21 0 5,jk 22 21,jf 23 1 4,jk 24 23,jc 25 122 [18,20,22,24],jm 7 25] [5,7] (js [jm 26 7,jq 27 (.bin .neq .i 26 (.k (V.i (-1)))),jm 28 27,ju 29 28 (.mv 7),ju 30 28 (.fa 1 5),ju 31 28 (.ld false 1 30),ju 32 28 (.bin .leq .i 29 31),jq 33 (.pick 28 32 kf),jm 6 33] [6] .ret)))
def HY:List RV:=[.t 6]
def gZ (g:G) (t:TE) (a0:Network) (a1:Spot) (a2:Spot):Option Bool:=
 br (g.seq a1.Place a2.Place)
 (
  some (g.le a1.At a2.At))
 (
  cl (fV g t a0 a1.Place a2.Place a1.At) fun x1=>
  br (g.eq x1 (-1))
  (
   some false)
  (
   some (g.le x1 a2.At)))
theorem md {g:G} {t:TE} {a0:Network} {a1:Spot} {a2:Spot} {r:Bool} (hg:g=G.real) (ht:t=TE.real) (h:gZ g t a0 a1 a2=some r):Fn Tryz.prog 116 [.g (Network.rs t a0),.g (Spot.rs t a1),.g (Spot.rs t a2)] (.c (.r (.v (.bool r)))):=by
 obtain⟨X,hX⟩:=aH (.c (.r (.v (.bool r))):X);rw[←hX];refine aw (rvs:=HY) (j:=HU) Tryz.func116 rfl (by kernel_rfl) (nb rfl) (by kernel_rfl) af ?_;intro g2 F hg2 hF;obtain rfl:g2=g:=hg2.unique.trans hg.symm;clear hg2;obtain⟨_,_,_,eq,_,_,_,_,_,_,_,_,_,_,_,_,_,seq⟩:=g2;obtain⟨_⟩:=t
 obtain⟨a0_Legs,a0_Off,a0_Change⟩:=a0;obtain⟨a1_Place,a1_At⟩:=a1;obtain⟨a2_Place,a2_At⟩:=a2;unfold gZ at h;try dsimp only at h
 cbv
 cases hb1:(seq a1_Place a2_Place)
 rotate_left
 ·rw[ab hb1] at h;cbv;obtain rfl:=Option.some.inj h;exact ARet.mk trivial hX.symm
 rw[aa hb1] at h;cbv;obtain⟨x1,hx1,h⟩:=ac h;try dsimp only at h
 refine ACall.mk _ _ rfl (hF _ _ _ (lw hg ht hx1)) (.inl rfl) (nb rfl) ?_;cbv
 cases hb2:(eq x1 (-1))
 rotate_left
 ·rw[ab hb2] at h;cbv;iterate 4 try(rw[hb2];cbv)
  obtain rfl:=Option.some.inj h;exact ARet.mk trivial hX.symm
 rw[aa hb2] at h;cbv;iterate 4 try(rw[hb2];cbv)
 obtain rfl:=Option.some.inj h;exact ARet.mk trivial hX.symm
def ir75:J:=js [jq 3 (.box 0),jq 4 (.box 1),jq 5 (.box 2),jm 6 kf] [3,4,5] (.seq (js [jl 7 3 3,jl 8 6 4,jc 9 67 [7,8],jq 10 (.not 9),jm 11 10,jv 12 11 (.ld true 3 3),jv 13 11 (.ld true 6 5),jv 14 11 (.call 67 true [12,13]),jv 15 11 (.not 14),jq 16 (.pick 11 kt 15),jm 17 16,jv 18 17 (.fa 0 4),jv 19 17 (.ld false 1 18),jv 20 17 (.fa 0 5),jv 21 17 (.ld false 1 20),jv 22 17 (.bin .neq .i 19 21),jq 23 (.pick 17 kt 22),jm 24 23,jv 25 24 (.ld true 6 4),jv 26 24 (.ld true 6 5),jv 27 24 (.call 70 true [25,26]),jv 28 24 (.bin .geq .i 27 (ki 0)),jq 29 (.pick 24 kt 28),jm 30 29,jv 31 30 (.fa 2 4),jv 32 30 (.ld false 1 31),jv 33 30 (.bin .eql .i 32 (ki 4)),jq 34 (.pick 30 kt 33)] [3,4,5,34] (.cond 34 (js [jm 6 kf] [6] .ret) .skip)) (.seq (js [jf 35 2 5,jk 36 35,jb 37 .eql .i 36 (ki 2),jm 38 37,ju 39 38 (.fa 2 4),ju 40 38 (.ld false 1 39),ju 41 38 (.bin .eql .i 40 (ki 3)),jq 42 (.pick 38 41 kf),jm 43 42,ju 44 43 (.fa 4 4),ju 45 43 (.ld true 2 44),ju 46 43 (.fa 4 5),ju 47 43 (.ld true 2 46),ju 48 43 (.eqs false [.i,.i] 45 47),jq 49 (.pick 43 48 kf)] [3,4,5,49] (.cond 49 (js [jm 6 kt] [6] .ret) .skip)) (.seq (.reg (some [[],[],[],[1,2],[],[],[1,2,3,4,5],[0,1,2,3,4,5,6],[0,1,2,3,4,5,6,7]]) [jl 50 3 3,jl 51 3 3,jl 52 6 4,jc 53 83 [51,52],jl 54 3 3,jl 55 6 5,jc 56 117 [54,55],jc 57 116 [50,53,56],jm 6 57] [6]) .ret)))
def rv75:List RV:=[.t 6]
def je (g:G) (t:TE) (a0:Network) (a1:Scan) (a2:Scan):Option Bool:=
 cl (iA g t a0 (Scan.mk a1.Thing a1.At a1.Kind a1.Place (Trip.mk a1.Trip.Leg a1.Trip.Day))) fun x1=>
 br x1
 (
  cl (iA g t a0 (Scan.mk a2.Thing a2.At a2.Kind a2.Place (Trip.mk a2.Trip.Leg a2.Trip.Day))) fun x2=>
  br x2
  (
   br (g.eq a1.Thing a2.Thing)
   (
    lP (bT g t (Scan.mk a1.Thing a1.At a1.Kind a1.Place (Trip.mk a1.Trip.Leg a1.Trip.Day)) (Scan.mk a2.Thing a2.At a2.Kind a2.Place (Trip.mk a2.Trip.Leg a2.Trip.Day))) fun x3=>
    br (g.le 0 x3)
    (
     some false)
    (
     br (g.eq a1.Kind 4)
     (
      some false)
     (
      br (g.eq a2.Kind 2)
      (
       br (g.eq a1.Kind 3)
       (
        br (g.all [(g.eq a1.Trip.Leg a2.Trip.Leg),(g.eq a1.Trip.Day a2.Trip.Day)])
        (
         some true)
        (
         cl (bJ g t a0 (Scan.mk a1.Thing a1.At a1.Kind a1.Place (Trip.mk a1.Trip.Leg a1.Trip.Day))) fun x4=>
         cl (bX g t a0 (Scan.mk a2.Thing a2.At a2.Kind a2.Place (Trip.mk a2.Trip.Leg a2.Trip.Day))) fun x5=>
         cl (gZ g t a0 x4 x5) fun x6=>
         some x6))
       (
        cl (bJ g t a0 (Scan.mk a1.Thing a1.At a1.Kind a1.Place (Trip.mk a1.Trip.Leg a1.Trip.Day))) fun x7=>
        cl (bX g t a0 (Scan.mk a2.Thing a2.At a2.Kind a2.Place (Trip.mk a2.Trip.Leg a2.Trip.Day))) fun x8=>
        cl (gZ g t a0 x7 x8) fun x9=>
        some x9))
      (
       cl (bJ g t a0 (Scan.mk a1.Thing a1.At a1.Kind a1.Place (Trip.mk a1.Trip.Leg a1.Trip.Day))) fun x10=>
       cl (bX g t a0 (Scan.mk a2.Thing a2.At a2.Kind a2.Place (Trip.mk a2.Trip.Leg a2.Trip.Day))) fun x11=>
       cl (gZ g t a0 x10 x11) fun x12=>
       some x12))))
   (
    some false))
  (
   some false))
 (
  some false)
theorem pf {g:G} {t:TE} {a0:Network} {a1:Scan} {a2:Scan} {r:Bool} (hg:g=G.real) (ht:t=TE.real) (h:je g t a0 a1 a2=some r):Fn Tryz.prog 75 [.g (Network.rs t a0),.g (Scan.rs t a1),.g (Scan.rs t a2)] (.c (.r (.v (.bool r)))):=by
 obtain⟨X,hX⟩:=aH (.c (.r (.v (.bool r))):X);rw[←hX];refine aw (rvs:=rv75) (j:=ir75) Tryz.func75 rfl (by kernel_rfl) (nb rfl) (by kernel_rfl) af ?_;intro g2 F hg2 hF;obtain rfl:g2=g:=hg2.unique.trans hg.symm;clear hg2;obtain⟨_,_,le,eq,_,_,_,_,_,_,_,_,_,_,_,_,_,_,_,_,_,_,_,_,_,_,_,_,_,_,_,_,_,all⟩:=g2;obtain⟨_⟩:=t
 obtain⟨a0_Legs,a0_Off,a0_Change⟩:=a0;obtain⟨a1_Thing,a1_At,a1_Kind,a1_Place,⟨a1_Trip_Leg,a1_Trip_Day⟩⟩:=a1;obtain⟨a2_Thing,a2_At,a2_Kind,a2_Place,⟨a2_Trip_Leg,a2_Trip_Day⟩⟩:=a2;unfold je at h;try dsimp only at h
 cbv;obtain⟨x1,hx1,h⟩:=ac h;try dsimp only at h
 refine ACall.mk _ _ rfl (hF _ _ _ (jJ hg ht hx1)) (.inl rfl) (nb rfl) ?_;cbv
 cases hb1:x1
 ·rw[aa hb1] at h;cbv;iterate 4 try(rw[hb1];cbv)
  obtain rfl:=Option.some.inj h;exact ARet.mk trivial hX.symm
 rw[ab hb1] at h;cbv;iterate 2 try(rw[hb1];cbv)
 obtain⟨x2,hx2,h⟩:=ac h;try dsimp only at h
 refine ACall.mk _ _ rfl (hF _ _ _ (jJ hg ht hx2)) (.inl rfl) (nb rfl) ?_;cbv;iterate 2 try(rw[hb1];cbv)
 cases hb2:x2
 ·rw[aa hb2] at h;cbv;iterate 5 try(rw[hb2];cbv)
  obtain rfl:=Option.some.inj h;exact ARet.mk trivial hX.symm
 rw[ab hb2] at h;cbv;iterate 5 try(rw[hb2];cbv)
 cases hb3:(eq a1_Thing a2_Thing)
 ·rw[aa hb3] at h;cbv;iterate 4 try(rw[hb3];cbv)
  obtain rfl:=Option.some.inj h;exact ARet.mk trivial hX.symm
 rw[ab hb3] at h;cbv;iterate 2 try(rw[hb3];cbv)
 obtain⟨x3,hx3,h⟩:=ak h;try dsimp only at h
 refine ACall.mk _ _ rfl (hF _ _ _ (mR hg ht hx3)) (.inl rfl) (nb rfl) ?_;cbv;iterate 2 try(rw[hb3];cbv)
 cases hb4:(le 0 x3)
 rotate_left
 ·rw[ab hb4] at h;cbv;iterate 3 try(rw[hb4];cbv)
  obtain rfl:=Option.some.inj h;exact ARet.mk trivial hX.symm
 rw[aa hb4] at h;cbv;iterate 3 try(rw[hb4];cbv)
 cases hb5:(eq a1_Kind 4)
 rotate_left
 ·rw[ab hb5] at h;cbv;obtain rfl:=Option.some.inj h;exact ARet.mk trivial hX.symm
 rw[aa hb5] at h;cbv
 cases hb6:(eq a2_Kind 2)
 ·rw[aa hb6] at h;cbv;iterate 3 try(rw[hb6];cbv)
  obtain⟨x10,hx10,h⟩:=ac h;obtain⟨x10_Place,x10_At⟩:=x10;try dsimp only at h
  refine ACall.mk _ _ rfl (hF _ _ _ (cr hg ht hx10)) (.inl rfl) (nb rfl) ?_;cbv;obtain⟨x11,hx11,h⟩:=ac h;obtain⟨x11_Place,x11_At⟩:=x11;try dsimp only at h
  refine ACall.mk _ _ rfl (hF _ _ _ (c6 hg ht hx11)) (.inl rfl) (nb rfl) ?_;cbv;obtain⟨x12,hx12,h⟩:=ac h;try dsimp only at h
  refine ACall.mk _ _ rfl (hF _ _ _ (md hg ht hx12)) (.inl rfl) (nb rfl) ?_;cbv;obtain rfl:=Option.some.inj h;exact ARet.mk trivial hX.symm
 rw[ab hb6] at h;cbv;iterate 3 try(rw[hb6];cbv)
 cases hb7:(eq a1_Kind 3)
 ·rw[aa hb7] at h;cbv;iterate 5 try(rw[hb7];cbv)
  obtain⟨x7,hx7,h⟩:=ac h;obtain⟨x7_Place,x7_At⟩:=x7;try dsimp only at h
  refine ACall.mk _ _ rfl (hF _ _ _ (cr hg ht hx7)) (.inl rfl) (nb rfl) ?_;cbv;obtain⟨x8,hx8,h⟩:=ac h;obtain⟨x8_Place,x8_At⟩:=x8;try dsimp only at h
  refine ACall.mk _ _ rfl (hF _ _ _ (c6 hg ht hx8)) (.inl rfl) (nb rfl) ?_;cbv;obtain⟨x9,hx9,h⟩:=ac h;try dsimp only at h
  refine ACall.mk _ _ rfl (hF _ _ _ (md hg ht hx9)) (.inl rfl) (nb rfl) ?_;cbv;obtain rfl:=Option.some.inj h;exact ARet.mk trivial hX.symm
 rw[ab hb7] at h;cbv;iterate 5 try(rw[hb7];cbv)
 cases hb8:(all [(eq a1_Trip_Leg a2_Trip_Leg),(eq a1_Trip_Day a2_Trip_Day)])
 rotate_left
 ·rw[ab hb8] at h;cbv;obtain rfl:=Option.some.inj h;exact ARet.mk trivial hX.symm
 rw[aa hb8] at h;cbv;obtain⟨x4,hx4,h⟩:=ac h;obtain⟨x4_Place,x4_At⟩:=x4;try dsimp only at h
 refine ACall.mk _ _ rfl (hF _ _ _ (cr hg ht hx4)) (.inl rfl) (nb rfl) ?_;cbv;obtain⟨x5,hx5,h⟩:=ac h;obtain⟨x5_Place,x5_At⟩:=x5;try dsimp only at h
 refine ACall.mk _ _ rfl (hF _ _ _ (c6 hg ht hx5)) (.inl rfl) (nb rfl) ?_;cbv;obtain⟨x6,hx6,h⟩:=ac h;try dsimp only at h
 refine ACall.mk _ _ rfl (hF _ _ _ (md hg ht hx6)) (.inl rfl) (nb rfl) ?_;cbv;obtain rfl:=Option.some.inj h;exact ARet.mk trivial hX.symm
def ir29:J:=js [jq 3 (.box 0),jq 6 (.mv (.k (.c (.n 1))))] [1,2,3] (js [jq 10 (.bsl 1 []),jm 7 10] [1,2,3,7] (js [jl 11 3 3,jm 12 1,jm 13 2,jc 14 27 [11,12,13],jm 8 14] [3,7,8] (.seq (js [jm 9 (ki 1)] [3,7,8,9] (.bl 0 (.seq (js [jm 15 9,jm 16 8,jq 17 (.len false 16),jb 18 .lss .i 15 17] [3,7,8,9,18] (.cond 18 .skip (.exit 0))) (.seq (.block 1 (.seq (.reg (some [[],[],[],[2],[1,2,3],[1,2,3,4],[],[],[6,7],[6,7,8],[0,1,2,3,4,5,6,7,8,9],[0,1,2,3,4,5,6,7,8,9,10]]) [jl 21 3 3,jm 22 8,jm 23 9,jb 24 .sub .i 23 (ki 1),ja 25 6 22 24,jl 26 6 25,jm 27 8,jm 28 9,ja 29 6 27 28,jl 30 6 29,jc 31 75 [21,26,30],jq 32 (.not 31)] [3,7,8,9,32]) (.cond 32 (.reg none [jm 33 7,jm 34 9,jq 35 (.bsl 1 [34]),jq 36 (.app 1 8 true 33 35),jm 7 36] [3,7,8,9]) .skip))) (.reg none [jm 19 9,jb 20 .add .i 19 (ki 1),jm 9 20] [3,7,8,9]))))) (js [jm 37 7,jm 6 37] [6] .ret))))
def rv29:List RV:=[.t 6]
def bZ (g:G) (t:TE) (a0:Network) (x1:List Scan):Nat→Int→List Int→Option (List Int)
 |0,v1,w1=>
  some w1
 |n1+1,v1,w1=>
  gd (((0:Int)≤(g.wrap .i64 (g.sub v1 1))∧(g.wrap .i64 (g.sub v1 1))<(((g.dlen (t.d_Scan x1)):Nat):Int)))<|
  gt x1 (g.nat (g.wrap .i64 (g.sub v1 1))) fun x2=>
  gt x1 (g.nat v1) fun x3=>
  cl (je g t a0 (Scan.mk x2.Thing x2.At x2.Kind x2.Place (Trip.mk x2.Trip.Leg x2.Trip.Day)) (Scan.mk x3.Thing x3.At x3.Kind x3.Place (Trip.mk x3.Trip.Leg x3.Trip.Day))) fun x4=>
  br x4
  (
   bZ g t a0 x1 n1 (g.wrap .i64 (g.add v1 1)) w1)
  (
   lP ([v1]) fun(l2:List Int)=>
   gd (((w1.length+l2.length)*8≤70368744177664))<|
   lP (w1++l2) fun(l3:List Int)=>
   bZ g t a0 x1 n1 (g.wrap .i64 (g.add v1 1)) l3)
def j9 (g:G) (t:TE) (a0:Network) (a1:List Scan) (a2:Int):Option (List Int):=
 lP ([]) fun(l1:List Int)=>
 cl (ib g t a0 a1 a2) fun x1=>
 gd (((g.int (g.dlen (t.d_Scan x1)))≤9223372036854775807))<|
 cl (bZ g t a0 x1 (ay 1 (g.int (g.dlen (t.d_Scan x1)))) 1 l1) fun y1=>
 some y1
theorem rP {g:G} {t:TE} {a0:Network} {a1:List Scan} {a2:Int} {r:List Int} (hg:g=G.real) (ht:t=TE.real) (h:j9 g t a0 a1 a2=some r):Fn Tryz.prog 29 [.g (Network.rs t a0),.c (.s 6 (t.r_Scan a1)),.c (.v (.int .i64 a2))] (.c (.o 1 (t.d_I64 r))):=by
 obtain⟨X,hX⟩:=aH (.c (.o 1 (t.d_I64 r)):X);rw[←hX];refine aw (rvs:=rv29) (j:=ir29) Tryz.func29 rfl (by kernel_rfl) (nb rfl) (by kernel_rfl) af ?_;intro g2 F hg2 hF;obtain rfl:g2=g:=hg2.unique.trans hg.symm;clear hg2;obtain⟨wrap,lt,_,_,_,_,_,_,_,_,_,_,int,add,_,_,_,_,_,_,_,_,_,_,dlen⟩:=g2;obtain⟨r_Leg,_,r_I64,d_I64,_,d_Scan⟩:=t
 obtain⟨a0_Legs,a0_Off,a0_Change⟩:=a0;unfold j9 at h;try dsimp only at h
 cbv;obtain⟨l1,hl1,h⟩:=ak h;try dsimp only at h
 refine ANew.mk (d_I64 l1) (dlen (d_I64 l1)) (by rw[←hl1];exact eM hg ht []) (by rw[←hl1];exact dg hg ht []) ?_;cbv;obtain⟨x1,hx1,h⟩:=ac h;try dsimp only at h
 refine ACall.mk _ _ rfl (hF _ _ _ (ma hg ht hx1)) (.inl rfl) (nb rfl) ?_;cbv;obtain⟨hB1,h⟩:=al h;obtain⟨o1,ho1,h⟩:=ac h;try dsimp only at h
 try rw[hg] at ho1
 try rw[ht] at ho1
 refine ABL.mk {p:Nat×Int×List Int//p.1=ay p.2.1 (int (dlen (d_Scan x1)))∧1≤p.2.1∧bZ G.real TE.real (Network.mk a0_Legs a0_Off a0_Change) x1 p.1 p.2.1 p.2.2=some o1} (fun⟨⟨n1,v1,w1⟩,_⟩=>({sl:=[(3,.c (.p 0 3 0 0)),(7,.c (.f 1 1 0 (dlen (d_I64 w1)))),(8,.c (.f 2 6 0 (dlen (d_Scan x1)))),(9,.c (.r (.v (.int .i64 v1))))],tab:=[(0,some (.foc 3 [] [.r (.s 6 (r_Leg a0_Legs)),.r (.s 1 (r_I64 a0_Off)),.r (.v (.int .i64 a0_Change))] [])),(1,some (.arr 1 (d_I64 w1))),(2,some (.arr 6 (d_Scan x1)))]}:St)) 3 (fun p=>p.1.1) ⟨(ay 1 (int (dlen (d_Scan x1))),1,l1),rfl,Int.le_refl _,ho1⟩ (List Int) (fun y1=>({sl:=[(7,.c (.f 0 1 0 (dlen (d_I64 y1))))],tab:=[(0,some (.arr 1 (d_I64 y1)))]}:St)) 1 (fun y=>o1=y) ?_ ?_ ?_
 ·refine Wk.of [(0,some 0),(1,some 32),(2,some 112)] rfl rfl ?_ ?_
  ·cbv;all_goals exact⟨⟨_,rfl,rfl⟩,⟨_,rfl,rfl⟩,⟨_,rfl,rfl⟩,⟨_,rfl,rfl⟩,trivial⟩
  cbv;all_goals exact⟨⟨_,rfl,_,rfl,rfl,rfl,rfl,trivial⟩,⟨_,rfl,rfl⟩,⟨_,rfl,rfl⟩,trivial⟩
 ·rintro⟨⟨n1,v1,w1⟩,hn1,hi1,h_1⟩ hq1;try dsimp only at hn1 hi1 h_1
  clear hq1;cbv;rcases n1 with _|n1
  ·have hb1:lt v1 (int (dlen (d_Scan x1)))=false:=bu hg hn1;rw[bZ] at h_1;try rw[←hg] at h_1
   try rw[←ht] at h_1
   try dsimp only at h_1
   rw[hb1];cbv;refine⟨w1,Wk.of [(0,some 1)] rfl rfl ?_ ?_,(Option.some.inj h_1).symm⟩
   ·cbv;all_goals exact⟨⟨_,rfl,rfl⟩,trivial⟩
   cbv;all_goals exact⟨⟨_,rfl,rfl⟩,trivial⟩
  have hb1:lt v1 (int (dlen (d_Scan x1)))=true:=bF hg hn1;have hl1:=d8 hn1;have hs1:=cM hg hn1 hi1 hB1 (by decide);rw[bZ] at h_1;try rw[←hg] at h_1
  try rw[←ht] at h_1
  try dsimp only at h_1
  rw[hb1];cbv;obtain⟨hc1,h_1⟩:=al h_1;refine AStep.mk hc1 ?_;cbv;obtain⟨x2,hx2,h_1⟩:=aE h_1;obtain⟨x2_Thing,x2_At,x2_Kind,x2_Place,⟨x2_Trip_Leg,x2_Trip_Day⟩⟩:=x2;try dsimp only at h_1
  refine AGet.mk _ (aG hg ht hx2) ?_;cbv;refine AStep.mk (dR hg hi1 hl1) ?_;cbv;obtain⟨x3,hx3,h_1⟩:=aE h_1;obtain⟨x3_Thing,x3_At,x3_Kind,x3_Place,⟨x3_Trip_Leg,x3_Trip_Day⟩⟩:=x3;try dsimp only at h_1
  refine AGet.mk _ (aG hg ht hx3) ?_;cbv;obtain⟨x4,hx4,h_1⟩:=ac h_1;try dsimp only at h_1
  refine ACall.mk _ _ rfl (hF _ _ _ (pf hg ht hx4)) (.inl rfl) (nb rfl) ?_;cbv
  cases hb2:x4
  rotate_left
  ·rw[ab hb2] at h_1;cbv;try rw[hg] at h_1
   try rw[ht] at h_1
   refine⟨⟨(n1,(wrap .i64 (add v1 1)),w1),hs1.1,hs1.2,h_1⟩,Wk.of [(0,some 0),(1,some 1),(2,some 2)] rfl rfl ?_ ?_,Nat.lt_succ_self _⟩
   ·cbv;all_goals exact⟨⟨_,rfl,rfl⟩,⟨_,rfl,rfl⟩,⟨_,rfl,rfl⟩,⟨_,rfl,rfl⟩,trivial⟩
   cbv;all_goals exact⟨⟨_,rfl,_,rfl,rfl,rfl,rfl,trivial⟩,⟨_,rfl,rfl⟩,⟨_,rfl,rfl⟩,trivial⟩
  rw[aa hb2] at h_1;cbv;obtain⟨l2,hl2,h_1⟩:=ak h_1;try dsimp only at h_1
  refine ANew.mk (d_I64 l2) (dlen (d_I64 l2)) (by rw[←hl2];exact eM hg ht [v1]) (by rw[←hl2];exact dg hg ht [v1]) ?_;cbv;obtain⟨hc2,h_1⟩:=al h_1;refine AStep.mk ⟨⟨rfl,(am hg ht _)⟩,(iP hg ht (am hg ht _) rfl hc2)⟩ ?_;cbv;obtain⟨l3,hl3,h_1⟩:=ak h_1;try dsimp only at h_1
  refine ANew.mk (d_I64 l3) (dlen (d_I64 l3)) (by rw[←hl3];exact nv hg ht (am hg ht _) rfl) (by rw[←hl3];exact ly hg ht (am hg ht _) rfl) ?_;cbv;try rw[hg] at h_1
  try rw[ht] at h_1
  refine⟨⟨(n1,(wrap .i64 (add v1 1)),l3),hs1.1,hs1.2,h_1⟩,Wk.of [(0,some 0),(1,some 307),(2,some 2)] rfl rfl ?_ ?_,Nat.lt_succ_self _⟩
  ·cbv;all_goals exact⟨⟨_,rfl,rfl⟩,⟨_,rfl,rfl⟩,⟨_,rfl,rfl⟩,⟨_,rfl,rfl⟩,trivial⟩
  cbv;all_goals exact⟨⟨_,rfl,_,rfl,rfl,rfl,rfl,trivial⟩,⟨_,rfl,rfl⟩,⟨_,rfl,rfl⟩,trivial⟩
 rintro y1 hy1;replace hy1:=hy1.symm;subst hy1;try dsimp only[lr,lrL,lrp,aR] at h
 cbv;obtain rfl:=Option.some.inj h;exact ARet.mk ⟨rfl,(am hg ht _)⟩ hX.symm
def ir34:J:=js [jq 3 (.box 0),jq 6 (.mv (.k (.c (.n 6))))] [1,2,3] (js [jq 10 (.bsl 6 []),jm 7 10] [1,2,3,7] (.seq (js [jl 11 3 3,jm 12 1,jm 13 2,jc 14 27 [11,12,13],jq 15 (.len false 14),jm 16 (ki 0)] [3,7,14,15,16] (.bl 0 (js [jb 17 .lss .i 16 15] [3,7,14,15,16,17] (.seq (.cond 17 .skip (.exit 0)) (.seq (.block 1 (js [ja 18 6 14 16,jl 19 6 18,jq 9 (.alloc [.r (.v (.int .i64 0)),.r (.v (.int .i64 0)),.r (.v (.int .i64 0)),.r (.v (.string .empty)),.r (.v (.int .i64 0)),.r (.v (.int .i64 0))]),jp (.st 6 9 19)] [3,7,9,14,15,16] (.seq (.reg (some [[],[0],[0,1],[0,1,2],[0,1,2,3],[0,1,2,3],[0,1,2,3],[0,1,2,3,6],[0,1,2,3,6,7],[0,1,2,3,5,6,7,8],[0,1,2,3,5,6,7,8,9],[0,1,2,3],[0,1,2,3,4,5,6,7,8,9,10,11],[0,1,2,3,4,5,6,7,8,9,10,11,12]]) [jm 20 7,jq 21 (.len false 20),jb 22 .eql .i 21 (ki 0),jm 23 22,jv 24 23 (.ld true 3 3),jv 25 23 (.mv 7),jv 26 23 (.mv 7),jv 27 23 (.len false 26),jv 28 23 (.bin .sub .i 27 (ki 1)),jv 29 23 (.ia 6 25 28),jv 30 23 (.ld true 6 29),jv 31 23 (.ld true 6 9),jv 32 23 (.call 75 true [24,30,31]),jq 33 (.pick 23 kt 32)] [3,7,9,14,15,16,33]) (.cond 33 (.reg none [jm 34 7,jl 35 6 9,jq 36 (.bsl 6 [35]),jq 37 (.app 6 56 true 34 36),jm 7 37] [3,7,14,15,16]) .skip)))) (.reg none [jb 38 .add .i 16 (ki 1),jm 16 38] [3,7,14,15,16])))))) (js [jm 39 7,jm 6 39] [6] .ret)))
def rv34:List RV:=[.t 6]
def dn (g:G) (t:TE) (a0:Network) (x1:List Scan):Nat→Int→List Scan→Option (List Scan)
 |0,v1,w1=>
  some w1
 |n1+1,v1,w1=>
  gt x1 (g.nat v1) fun x2=>
  br (g.eq (g.int (g.dlen (t.d_Scan w1))) 0)
  (
   lP ([(Scan.mk x2.Thing x2.At x2.Kind x2.Place (Trip.mk x2.Trip.Leg x2.Trip.Day))]) fun(l2:List Scan)=>
   gd (((w1.length+l2.length)*56≤70368744177664))<|
   lP (w1++l2) fun(l3:List Scan)=>
   dn g t a0 x1 n1 (g.wrap .i64 (g.add v1 1)) l3)
  (
   gd (((0:Int)≤(g.wrap .i64 (g.sub (g.int (g.dlen (t.d_Scan w1))) 1))∧(g.wrap .i64 (g.sub (g.int (g.dlen (t.d_Scan w1))) 1))<(((g.dlen (t.d_Scan w1)):Nat):Int)))<|
   gt w1 (g.nat (g.wrap .i64 (g.sub (g.int (g.dlen (t.d_Scan w1))) 1))) fun x3=>
   cl (je g t a0 (Scan.mk x3.Thing x3.At x3.Kind x3.Place (Trip.mk x3.Trip.Leg x3.Trip.Day)) (Scan.mk x2.Thing x2.At x2.Kind x2.Place (Trip.mk x2.Trip.Leg x2.Trip.Day))) fun x4=>
   br x4
   (
    lP ([(Scan.mk x2.Thing x2.At x2.Kind x2.Place (Trip.mk x2.Trip.Leg x2.Trip.Day))]) fun(l4:List Scan)=>
    gd (((w1.length+l4.length)*56≤70368744177664))<|
    lP (w1++l4) fun(l5:List Scan)=>
    dn g t a0 x1 n1 (g.wrap .i64 (g.add v1 1)) l5)
   (
    dn g t a0 x1 n1 (g.wrap .i64 (g.add v1 1)) w1))
def hP (g:G) (t:TE) (a0:Network) (a1:List Scan) (a2:Int):Option (List Scan):=
 lP ([]) fun(l1:List Scan)=>
 cl (ib g t a0 a1 a2) fun x1=>
 gd (((g.int (g.dlen (t.d_Scan x1)))≤9223372036854775807))<|
 cl (dn g t a0 x1 (ay 0 (g.int (g.dlen (t.d_Scan x1)))) 0 l1) fun y1=>
 some y1
theorem kC {g:G} {t:TE} {a0:Network} {a1:List Scan} {a2:Int} {r:List Scan} (hg:g=G.real) (ht:t=TE.real) (h:hP g t a0 a1 a2=some r):Fn Tryz.prog 34 [.g (Network.rs t a0),.c (.s 6 (t.r_Scan a1)),.c (.v (.int .i64 a2))] (.c (.o 6 (t.d_Scan r))):=by
 obtain⟨X,hX⟩:=aH (.c (.o 6 (t.d_Scan r)):X);rw[←hX];refine aw (rvs:=rv34) (j:=ir34) Tryz.func34 rfl (by kernel_rfl) (nb rfl) (by kernel_rfl) af ?_;intro g2 F hg2 hF;obtain rfl:g2=g:=hg2.unique.trans hg.symm;clear hg2;obtain⟨wrap,lt,_,eq,_,_,_,_,_,_,_,_,int,add,_,_,_,_,_,_,_,_,_,_,dlen⟩:=g2;obtain⟨r_Leg,_,r_I64,_,_,d_Scan⟩:=t
 obtain⟨a0_Legs,a0_Off,a0_Change⟩:=a0;unfold hP at h;try dsimp only at h
 cbv;obtain⟨l1,hl1,h⟩:=ak h;try dsimp only at h
 refine ANew.mk (d_Scan l1) (dlen (d_Scan l1)) (by rw[←hl1];exact cL hg ht []) (by rw[←hl1];exact bM hg ht []) ?_;cbv;obtain⟨x1,hx1,h⟩:=ac h;try dsimp only at h
 refine ACall.mk _ _ rfl (hF _ _ _ (ma hg ht hx1)) (.inl rfl) (nb rfl) ?_;cbv;obtain⟨hB1,h⟩:=al h;obtain⟨o1,ho1,h⟩:=ac h;try dsimp only at h
 try rw[hg] at ho1
 try rw[ht] at ho1
 refine ABL.mk {p:Nat×Int×List Scan//p.1=ay p.2.1 (int (dlen (d_Scan x1)))∧0≤p.2.1∧dn G.real TE.real (Network.mk a0_Legs a0_Off a0_Change) x1 p.1 p.2.1 p.2.2=some o1} (fun⟨⟨n1,v1,w1⟩,_⟩=>({sl:=[(3,.c (.p 0 3 0 0)),(7,.c (.f 1 6 0 (dlen (d_Scan w1)))),(14,.c (.f 2 6 0 (dlen (d_Scan x1)))),(15,.c (.r (.v (.int .i64 (int (dlen (d_Scan x1))))))),(16,.c (.r (.v (.int .i64 v1))))],tab:=[(0,some (.foc 3 [] [.r (.s 6 (r_Leg a0_Legs)),.r (.s 1 (r_I64 a0_Off)),.r (.v (.int .i64 a0_Change))] [])),(1,some (.arr 6 (d_Scan w1))),(2,some (.arr 6 (d_Scan x1)))]}:St)) 3 (fun p=>p.1.1) ⟨(ay 0 (int (dlen (d_Scan x1))),0,l1),rfl,Int.le_refl _,ho1⟩ (List Scan) (fun y1=>({sl:=[(7,.c (.f 0 6 0 (dlen (d_Scan y1))))],tab:=[(0,some (.arr 6 (d_Scan y1)))]}:St)) 1 (fun y=>o1=y) ?_ ?_ ?_
 ·refine Wk.of [(0,some 0),(1,some 32),(2,some 112)] rfl rfl ?_ ?_
  ·cbv;all_goals exact⟨⟨_,rfl,rfl⟩,⟨_,rfl,rfl⟩,⟨_,rfl,rfl⟩,⟨_,rfl,rfl⟩,⟨_,rfl,rfl⟩,trivial⟩
  cbv;all_goals exact⟨⟨_,rfl,_,rfl,rfl,rfl,rfl,trivial⟩,⟨_,rfl,rfl⟩,⟨_,rfl,rfl⟩,trivial⟩
 ·rintro⟨⟨n1,v1,w1⟩,hn1,hi1,h_1⟩ hq1;try dsimp only at hn1 hi1 h_1
  clear hq1;cbv;rcases n1 with _|n1
  ·have hb1:lt v1 (int (dlen (d_Scan x1)))=false:=bu hg hn1;rw[dn] at h_1;try rw[←hg] at h_1
   try rw[←ht] at h_1
   try dsimp only at h_1
   rw[hb1];cbv;refine⟨w1,Wk.of [(0,some 1)] rfl rfl ?_ ?_,(Option.some.inj h_1).symm⟩
   ·cbv;all_goals exact⟨⟨_,rfl,rfl⟩,trivial⟩
   cbv;all_goals exact⟨⟨_,rfl,rfl⟩,trivial⟩
  have hb1:lt v1 (int (dlen (d_Scan x1)))=true:=bF hg hn1;have hl1:=d8 hn1;have hs1:=cM hg hn1 hi1 hB1 (by decide);rw[dn] at h_1;try rw[←hg] at h_1
  try rw[←ht] at h_1
  try dsimp only at h_1
  rw[hb1];cbv;refine AStep.mk (dR hg hi1 hl1) ?_;cbv;obtain⟨x2,hx2,h_1⟩:=aE h_1;obtain⟨x2_Thing,x2_At,x2_Kind,x2_Place,⟨x2_Trip_Leg,x2_Trip_Day⟩⟩:=x2;try dsimp only at h_1
  refine AGet.mk _ (aG hg ht hx2) ?_;cbv
  cases hb2:(eq (int (dlen (d_Scan w1))) 0)
  rotate_left
  ·rw[ab hb2] at h_1;cbv;iterate 9 try(rw[hb2];cbv)
   obtain⟨l2,hl2,h_1⟩:=ak h_1;try dsimp only at h_1
   refine ANew.mk (d_Scan l2) (dlen (d_Scan l2)) (by rw[←hl2];exact cL hg ht [(Scan.mk x2_Thing x2_At x2_Kind x2_Place (Trip.mk x2_Trip_Leg x2_Trip_Day))]) (by rw[←hl2];exact bM hg ht [(Scan.mk x2_Thing x2_At x2_Kind x2_Place (Trip.mk x2_Trip_Leg x2_Trip_Day))]) ?_;cbv;obtain⟨hc1,h_1⟩:=al h_1;refine AStep.mk ⟨⟨rfl,(ah hg ht _)⟩,(bO hg ht (ah hg ht _) rfl hc1)⟩ ?_;cbv;obtain⟨l3,hl3,h_1⟩:=ak h_1;try dsimp only at h_1
   refine ANew.mk (d_Scan l3) (dlen (d_Scan l3)) (by rw[←hl3];exact eJ hg ht (ah hg ht _) rfl) (by rw[←hl3];exact di hg ht (ah hg ht _) rfl) ?_;cbv;try rw[hg] at h_1
   try rw[ht] at h_1
   refine⟨⟨(n1,(wrap .i64 (add v1 1)),l3),hs1.1,hs1.2,h_1⟩,Wk.of [(0,some 0),(1,some 355),(2,some 2)] rfl rfl ?_ ?_,Nat.lt_succ_self _⟩
   ·cbv;all_goals exact⟨⟨_,rfl,rfl⟩,⟨_,rfl,rfl⟩,⟨_,rfl,rfl⟩,⟨_,rfl,rfl⟩,⟨_,rfl,rfl⟩,trivial⟩
   cbv;all_goals exact⟨⟨_,rfl,_,rfl,rfl,rfl,rfl,trivial⟩,⟨_,rfl,rfl⟩,⟨_,rfl,rfl⟩,trivial⟩
  rw[aa hb2] at h_1;cbv;iterate 5 try(rw[hb2];cbv)
  obtain⟨hc2,h_1⟩:=al h_1;refine AStep.mk hc2 ?_;cbv;try(rw[hb2];cbv)
  obtain⟨x3,hx3,h_1⟩:=aE h_1;obtain⟨x3_Thing,x3_At,x3_Kind,x3_Place,⟨x3_Trip_Leg,x3_Trip_Day⟩⟩:=x3;try dsimp only at h_1
  refine AGet.mk _ (aG hg ht hx3) ?_;cbv;iterate 2 try(rw[hb2];cbv)
  obtain⟨x4,hx4,h_1⟩:=ac h_1;try dsimp only at h_1
  refine ACall.mk _ _ rfl (hF _ _ _ (pf hg ht hx4)) (.inl rfl) (nb rfl) ?_;cbv;try(rw[hb2];cbv)
  cases hb3:x4
  ·rw[aa hb3] at h_1;cbv;try rw[hg] at h_1
   try rw[ht] at h_1
   refine⟨⟨(n1,(wrap .i64 (add v1 1)),w1),hs1.1,hs1.2,h_1⟩,Wk.of [(0,some 0),(1,some 1),(2,some 2)] rfl rfl ?_ ?_,Nat.lt_succ_self _⟩
   ·cbv;all_goals exact⟨⟨_,rfl,rfl⟩,⟨_,rfl,rfl⟩,⟨_,rfl,rfl⟩,⟨_,rfl,rfl⟩,⟨_,rfl,rfl⟩,trivial⟩
   cbv;all_goals exact⟨⟨_,rfl,_,rfl,rfl,rfl,rfl,trivial⟩,⟨_,rfl,rfl⟩,⟨_,rfl,rfl⟩,trivial⟩
  rw[ab hb3] at h_1;cbv;obtain⟨l4,hl4,h_1⟩:=ak h_1;try dsimp only at h_1
  refine ANew.mk (d_Scan l4) (dlen (d_Scan l4)) (by rw[←hl4];exact cL hg ht [(Scan.mk x2_Thing x2_At x2_Kind x2_Place (Trip.mk x2_Trip_Leg x2_Trip_Day))]) (by rw[←hl4];exact bM hg ht [(Scan.mk x2_Thing x2_At x2_Kind x2_Place (Trip.mk x2_Trip_Leg x2_Trip_Day))]) ?_;cbv;obtain⟨hc3,h_1⟩:=al h_1;refine AStep.mk ⟨⟨rfl,(ah hg ht _)⟩,(bO hg ht (ah hg ht _) rfl hc3)⟩ ?_;cbv;obtain⟨l5,hl5,h_1⟩:=ak h_1;try dsimp only at h_1
  refine ANew.mk (d_Scan l5) (dlen (d_Scan l5)) (by rw[←hl5];exact eJ hg ht (ah hg ht _) rfl) (by rw[←hl5];exact di hg ht (ah hg ht _) rfl) ?_;cbv;try rw[hg] at h_1
  try rw[ht] at h_1
  refine⟨⟨(n1,(wrap .i64 (add v1 1)),l5),hs1.1,hs1.2,h_1⟩,Wk.of [(0,some 0),(1,some 355),(2,some 2)] rfl rfl ?_ ?_,Nat.lt_succ_self _⟩
  ·cbv;all_goals exact⟨⟨_,rfl,rfl⟩,⟨_,rfl,rfl⟩,⟨_,rfl,rfl⟩,⟨_,rfl,rfl⟩,⟨_,rfl,rfl⟩,trivial⟩
  cbv;all_goals exact⟨⟨_,rfl,_,rfl,rfl,rfl,rfl,trivial⟩,⟨_,rfl,rfl⟩,⟨_,rfl,rfl⟩,trivial⟩
 rintro y1 hy1;replace hy1:=hy1.symm;subst hy1;try dsimp only[lr,lrL,lrp,aR] at h
 cbv;obtain rfl:=Option.some.inj h;exact ARet.mk ⟨rfl,(ah hg ht _)⟩ hX.symm
def ir33:J:=js [jq 3 (.box 0),jq 6 (.mv (.k (.c (.n 6))))] [1,2,3] (js [jq 10 (.bsl 6 []),jm 7 10] [1,2,3,7] (js [jl 11 3 3,jm 12 1,jm 13 2,jc 14 26 [11,12,13],jm 8 14] [3,7,8] (.seq (js [jm 9 (ki 0)] [3,7,8,9] (.bl 0 (.seq (js [jm 15 9,jm 16 8,jq 17 (.len false 16),jb 18 .lss .i 15 17] [3,7,8,9,18] (.cond 18 .skip (.exit 0))) (.seq (.block 1 (.seq (.reg (some [[],[0],[0,1],[0,1,2],[0,1,2,3],[0,1,2,3],[0,1,2,3],[0,1,2,3,6],[0,1,2,3,6,7],[0,1,2,3,5,6,7,8],[0,1,2,3,5,6,7,8,9],[0,1,2,3],[0,1,2,3],[0,1,2,3,11,12],[0,1,2,3,11,12,13],[0,1,2,3,4,5,6,7,8,9,10,11,12,13,14],[0,1,2,3,4,5,6,7,8,9,10,11,12,13,14,15]]) [jm 21 7,jq 22 (.len false 21),jb 23 .eql .i 22 (ki 0),jm 24 23,jv 25 24 (.ld true 3 3),jv 26 24 (.mv 7),jv 27 24 (.mv 7),jv 28 24 (.len false 27),jv 29 24 (.bin .sub .i 28 (ki 1)),jv 30 24 (.ia 6 26 29),jv 31 24 (.ld true 6 30),jv 32 24 (.mv 8),jv 33 24 (.mv 9),jv 34 24 (.ia 6 32 33),jv 35 24 (.ld true 6 34),jv 36 24 (.call 74 true [25,31,35]),jq 37 (.pick 24 kt 36)] [3,7,8,9,37]) (.cond 37 (.reg none [jm 38 7,jm 39 8,jm 40 9,ja 41 6 39 40,jl 42 6 41,jq 43 (.bsl 6 [42]),jq 44 (.app 6 56 true 38 43),jm 7 44] [3,7,8,9]) .skip))) (.reg none [jm 19 9,jb 20 .add .i 19 (ki 1),jm 9 20] [3,7,8,9]))))) (js [jm 45 7,jm 6 45] [6] .ret))))
def rv33:List RV:=[.t 6]
def du (g:G) (t:TE) (a0:Network) (x1:List Scan):Nat→Int→List Scan→Option (List Scan)
 |0,v1,w1=>
  some w1
 |n1+1,v1,w1=>
  br (g.eq (g.int (g.dlen (t.d_Scan w1))) 0)
  (
   gt x1 (g.nat v1) fun x2=>
   lP ([(Scan.mk x2.Thing x2.At x2.Kind x2.Place (Trip.mk x2.Trip.Leg x2.Trip.Day))]) fun(l2:List Scan)=>
   gd (((w1.length+l2.length)*56≤70368744177664))<|
   lP (w1++l2) fun(l3:List Scan)=>
   du g t a0 x1 n1 (g.wrap .i64 (g.add v1 1)) l3)
  (
   gd (((0:Int)≤(g.wrap .i64 (g.sub (g.int (g.dlen (t.d_Scan w1))) 1))∧(g.wrap .i64 (g.sub (g.int (g.dlen (t.d_Scan w1))) 1))<(((g.dlen (t.d_Scan w1)):Nat):Int)))<|
   gt w1 (g.nat (g.wrap .i64 (g.sub (g.int (g.dlen (t.d_Scan w1))) 1))) fun x3=>
   gt x1 (g.nat v1) fun x4=>
   cl (i4 g t a0 (Scan.mk x3.Thing x3.At x3.Kind x3.Place (Trip.mk x3.Trip.Leg x3.Trip.Day)) (Scan.mk x4.Thing x4.At x4.Kind x4.Place (Trip.mk x4.Trip.Leg x4.Trip.Day))) fun x5=>
   br x5
   (
    lP ([(Scan.mk x4.Thing x4.At x4.Kind x4.Place (Trip.mk x4.Trip.Leg x4.Trip.Day))]) fun(l4:List Scan)=>
    gd (((w1.length+l4.length)*56≤70368744177664))<|
    lP (w1++l4) fun(l5:List Scan)=>
    du g t a0 x1 n1 (g.wrap .i64 (g.add v1 1)) l5)
   (
    du g t a0 x1 n1 (g.wrap .i64 (g.add v1 1)) w1))
def jd (g:G) (t:TE) (a0:Network) (a1:List Scan) (a2:Int):Option (List Scan):=
 lP ([]) fun(l1:List Scan)=>
 cl (jY g t a0 a1 a2) fun x1=>
 gd (((g.int (g.dlen (t.d_Scan x1)))≤9223372036854775807))<|
 cl (du g t a0 x1 (ay 0 (g.int (g.dlen (t.d_Scan x1)))) 0 l1) fun y1=>
 some y1
theorem mb {g:G} {t:TE} {a0:Network} {a1:List Scan} {a2:Int} {r:List Scan} (hg:g=G.real) (ht:t=TE.real) (h:jd g t a0 a1 a2=some r):Fn Tryz.prog 33 [.g (Network.rs t a0),.c (.s 6 (t.r_Scan a1)),.c (.v (.int .i64 a2))] (.c (.o 6 (t.d_Scan r))):=by
 obtain⟨X,hX⟩:=aH (.c (.o 6 (t.d_Scan r)):X);rw[←hX];refine aw (rvs:=rv33) (j:=ir33) Tryz.func33 rfl (by kernel_rfl) (nb rfl) (by kernel_rfl) af ?_;intro g2 F hg2 hF;obtain rfl:g2=g:=hg2.unique.trans hg.symm;clear hg2;obtain⟨wrap,lt,_,eq,_,_,_,_,_,_,_,_,int,add,_,_,_,_,_,_,_,_,_,_,dlen⟩:=g2;obtain⟨r_Leg,_,r_I64,_,_,d_Scan⟩:=t
 obtain⟨a0_Legs,a0_Off,a0_Change⟩:=a0;unfold jd at h;try dsimp only at h
 cbv;obtain⟨l1,hl1,h⟩:=ak h;try dsimp only at h
 refine ANew.mk (d_Scan l1) (dlen (d_Scan l1)) (by rw[←hl1];exact cL hg ht []) (by rw[←hl1];exact bM hg ht []) ?_;cbv;obtain⟨x1,hx1,h⟩:=ac h;try dsimp only at h
 refine ACall.mk _ _ rfl (hF _ _ _ (ov hg ht hx1)) (.inl rfl) (nb rfl) ?_;cbv;obtain⟨hB1,h⟩:=al h;obtain⟨o1,ho1,h⟩:=ac h;try dsimp only at h
 try rw[hg] at ho1
 try rw[ht] at ho1
 refine ABL.mk {p:Nat×Int×List Scan//p.1=ay p.2.1 (int (dlen (d_Scan x1)))∧0≤p.2.1∧du G.real TE.real (Network.mk a0_Legs a0_Off a0_Change) x1 p.1 p.2.1 p.2.2=some o1} (fun⟨⟨n1,v1,w1⟩,_⟩=>({sl:=[(3,.c (.p 0 3 0 0)),(7,.c (.f 1 6 0 (dlen (d_Scan w1)))),(8,.c (.f 2 6 0 (dlen (d_Scan x1)))),(9,.c (.r (.v (.int .i64 v1))))],tab:=[(0,some (.foc 3 [] [.r (.s 6 (r_Leg a0_Legs)),.r (.s 1 (r_I64 a0_Off)),.r (.v (.int .i64 a0_Change))] [])),(1,some (.arr 6 (d_Scan w1))),(2,some (.arr 6 (d_Scan x1)))]}:St)) 3 (fun p=>p.1.1) ⟨(ay 0 (int (dlen (d_Scan x1))),0,l1),rfl,Int.le_refl _,ho1⟩ (List Scan) (fun y1=>({sl:=[(7,.c (.f 0 6 0 (dlen (d_Scan y1))))],tab:=[(0,some (.arr 6 (d_Scan y1)))]}:St)) 1 (fun y=>o1=y) ?_ ?_ ?_
 ·refine Wk.of [(0,some 0),(1,some 32),(2,some 112)] rfl rfl ?_ ?_
  ·cbv;all_goals exact⟨⟨_,rfl,rfl⟩,⟨_,rfl,rfl⟩,⟨_,rfl,rfl⟩,⟨_,rfl,rfl⟩,trivial⟩
  cbv;all_goals exact⟨⟨_,rfl,_,rfl,rfl,rfl,rfl,trivial⟩,⟨_,rfl,rfl⟩,⟨_,rfl,rfl⟩,trivial⟩
 ·rintro⟨⟨n1,v1,w1⟩,hn1,hi1,h_1⟩ hq1;try dsimp only at hn1 hi1 h_1
  clear hq1;cbv;rcases n1 with _|n1
  ·have hb1:lt v1 (int (dlen (d_Scan x1)))=false:=bu hg hn1;rw[du] at h_1;try rw[←hg] at h_1
   try rw[←ht] at h_1
   try dsimp only at h_1
   rw[hb1];cbv;refine⟨w1,Wk.of [(0,some 1)] rfl rfl ?_ ?_,(Option.some.inj h_1).symm⟩
   ·cbv;all_goals exact⟨⟨_,rfl,rfl⟩,trivial⟩
   cbv;all_goals exact⟨⟨_,rfl,rfl⟩,trivial⟩
  have hb1:lt v1 (int (dlen (d_Scan x1)))=true:=bF hg hn1;have hl1:=d8 hn1;have hs1:=cM hg hn1 hi1 hB1 (by decide);rw[du] at h_1;try rw[←hg] at h_1
  try rw[←ht] at h_1
  try dsimp only at h_1
  rw[hb1];cbv
  cases hb2:(eq (int (dlen (d_Scan w1))) 0)
  rotate_left
  ·rw[ab hb2] at h_1;cbv;iterate 12 try(rw[hb2];cbv)
   refine AStep.mk (dR hg hi1 hl1) ?_;cbv;obtain⟨x2,hx2,h_1⟩:=aE h_1;obtain⟨x2_Thing,x2_At,x2_Kind,x2_Place,⟨x2_Trip_Leg,x2_Trip_Day⟩⟩:=x2;try dsimp only at h_1
   refine AGet.mk _ (aG hg ht hx2) ?_;cbv;obtain⟨l2,hl2,h_1⟩:=ak h_1;try dsimp only at h_1
   refine ANew.mk (d_Scan l2) (dlen (d_Scan l2)) (by rw[←hl2];exact cL hg ht [(Scan.mk x2_Thing x2_At x2_Kind x2_Place (Trip.mk x2_Trip_Leg x2_Trip_Day))]) (by rw[←hl2];exact bM hg ht [(Scan.mk x2_Thing x2_At x2_Kind x2_Place (Trip.mk x2_Trip_Leg x2_Trip_Day))]) ?_;cbv;obtain⟨hc1,h_1⟩:=al h_1;refine AStep.mk ⟨⟨rfl,(ah hg ht _)⟩,(bO hg ht (ah hg ht _) rfl hc1)⟩ ?_;cbv;obtain⟨l3,hl3,h_1⟩:=ak h_1;try dsimp only at h_1
   refine ANew.mk (d_Scan l3) (dlen (d_Scan l3)) (by rw[←hl3];exact eJ hg ht (ah hg ht _) rfl) (by rw[←hl3];exact di hg ht (ah hg ht _) rfl) ?_;cbv;try rw[hg] at h_1
   try rw[ht] at h_1
   refine⟨⟨(n1,(wrap .i64 (add v1 1)),l3),hs1.1,hs1.2,h_1⟩,Wk.of [(0,some 0),(1,some 435),(2,some 2)] rfl rfl ?_ ?_,Nat.lt_succ_self _⟩
   ·cbv;all_goals exact⟨⟨_,rfl,rfl⟩,⟨_,rfl,rfl⟩,⟨_,rfl,rfl⟩,⟨_,rfl,rfl⟩,trivial⟩
   cbv;all_goals exact⟨⟨_,rfl,_,rfl,rfl,rfl,rfl,trivial⟩,⟨_,rfl,rfl⟩,⟨_,rfl,rfl⟩,trivial⟩
  rw[aa hb2] at h_1;cbv;iterate 5 try(rw[hb2];cbv)
  obtain⟨hc2,h_1⟩:=al h_1;refine AStep.mk hc2 ?_;cbv;try(rw[hb2];cbv)
  obtain⟨x3,hx3,h_1⟩:=aE h_1;obtain⟨x3_Thing,x3_At,x3_Kind,x3_Place,⟨x3_Trip_Leg,x3_Trip_Day⟩⟩:=x3;try dsimp only at h_1
  refine AGet.mk _ (aG hg ht hx3) ?_;cbv;iterate 3 try(rw[hb2];cbv)
  refine AStep.mk (dR hg hi1 hl1) ?_;cbv;try(rw[hb2];cbv)
  obtain⟨x4,hx4,h_1⟩:=aE h_1;obtain⟨x4_Thing,x4_At,x4_Kind,x4_Place,⟨x4_Trip_Leg,x4_Trip_Day⟩⟩:=x4;try dsimp only at h_1
  refine AGet.mk _ (aG hg ht hx4) ?_;cbv;try(rw[hb2];cbv)
  obtain⟨x5,hx5,h_1⟩:=ac h_1;try dsimp only at h_1
  refine ACall.mk _ _ rfl (hF _ _ _ (o8 hg ht hx5)) (.inl rfl) (nb rfl) ?_;cbv;try(rw[hb2];cbv)
  cases hb3:x5
  ·rw[aa hb3] at h_1;cbv;try rw[hg] at h_1
   try rw[ht] at h_1
   refine⟨⟨(n1,(wrap .i64 (add v1 1)),w1),hs1.1,hs1.2,h_1⟩,Wk.of [(0,some 0),(1,some 1),(2,some 2)] rfl rfl ?_ ?_,Nat.lt_succ_self _⟩
   ·cbv;all_goals exact⟨⟨_,rfl,rfl⟩,⟨_,rfl,rfl⟩,⟨_,rfl,rfl⟩,⟨_,rfl,rfl⟩,trivial⟩
   cbv;all_goals exact⟨⟨_,rfl,_,rfl,rfl,rfl,rfl,trivial⟩,⟨_,rfl,rfl⟩,⟨_,rfl,rfl⟩,trivial⟩
  rw[ab hb3] at h_1;cbv;refine AStep.mk (dR hg hi1 hl1) ?_;cbv;refine AGet.mk _ (aG hg ht hx4) ?_;cbv;obtain⟨l4,hl4,h_1⟩:=ak h_1;try dsimp only at h_1
  refine ANew.mk (d_Scan l4) (dlen (d_Scan l4)) (by rw[←hl4];exact cL hg ht [(Scan.mk x4_Thing x4_At x4_Kind x4_Place (Trip.mk x4_Trip_Leg x4_Trip_Day))]) (by rw[←hl4];exact bM hg ht [(Scan.mk x4_Thing x4_At x4_Kind x4_Place (Trip.mk x4_Trip_Leg x4_Trip_Day))]) ?_;cbv;obtain⟨hc3,h_1⟩:=al h_1;refine AStep.mk ⟨⟨rfl,(ah hg ht _)⟩,(bO hg ht (ah hg ht _) rfl hc3)⟩ ?_;cbv;obtain⟨l5,hl5,h_1⟩:=ak h_1;try dsimp only at h_1
  refine ANew.mk (d_Scan l5) (dlen (d_Scan l5)) (by rw[←hl5];exact eJ hg ht (ah hg ht _) rfl) (by rw[←hl5];exact di hg ht (ah hg ht _) rfl) ?_;cbv;try rw[hg] at h_1
  try rw[ht] at h_1
  refine⟨⟨(n1,(wrap .i64 (add v1 1)),l5),hs1.1,hs1.2,h_1⟩,Wk.of [(0,some 0),(1,some 435),(2,some 2)] rfl rfl ?_ ?_,Nat.lt_succ_self _⟩
  ·cbv;all_goals exact⟨⟨_,rfl,rfl⟩,⟨_,rfl,rfl⟩,⟨_,rfl,rfl⟩,⟨_,rfl,rfl⟩,trivial⟩
  cbv;all_goals exact⟨⟨_,rfl,_,rfl,rfl,rfl,rfl,trivial⟩,⟨_,rfl,rfl⟩,⟨_,rfl,rfl⟩,trivial⟩
 rintro y1 hy1;replace hy1:=hy1.symm;subst hy1;try dsimp only[lr,lrL,lrp,aR] at h
 cbv;obtain rfl:=Option.some.inj h;exact ARet.mk ⟨rfl,(ah hg ht _)⟩ hX.symm
def ir36:J:=js [jq 4 (.box 0),jq 8 (.alloc [.r (.v (.int .i64 0)),.r (.v (.int .i64 0)),.r (.v (.int .i64 0)),.r (.v (.string .empty)),.r (.v (.int .i64 0)),.r (.v (.int .i64 0))]),jm 9 kf] [1,2,3,4,8] (js [jl 12 3 4,jm 13 1,jm 14 2,jc 15 34 [12,13,14],jm 10 15] [3,8,10] (.seq (js [jm 16 10,jq 17 (.len false 16),jb 18 .sub .i 17 (ki 1),jm 11 18] [3,8,10,11] (.bl 0 (.seq (js [jm 19 11,jb 20 .geq .i 19 (ki 0)] [3,8,10,11,20] (.cond 20 .skip (.exit 0))) (.seq (.block 1 (js [jm 23 10,jm 24 11,ja 25 6 23 24,jf 26 1 25,jk 27 26,jm 28 3,jb 29 .leq .i 27 28] [3,8,10,11,29] (.cond 29 (js [jm 30 10,jm 31 11,ja 32 6 30 31,jl 33 6 32,jp (.st 6 8 33),jm 9 kt] [8,9] .ret) .skip))) (.reg none [jm 21 11,jb 22 .sub .i 21 (ki 1),jm 11 22] [3,8,10,11]))))) (js [jq 34 (.bld [.r (.v (.int .i64 0)),.r (.v (.int .i64 0)),.r (.v (.int .i64 0)),.r (.v (.string .empty)),.r (.v (.int .i64 0)),.r (.v (.int .i64 0))] []),jp (.st 6 8 34),jm 9 kf] [8,9] .ret)))
def rv36:List RV:=[.c 8 true 6,.t 9]
def ct (g:G) (t:TE) (a3:Int) (x1:List Scan):Nat→Int→Option (LR (Scan×Bool) Unit)
 |0,_=>none
 |n1+1,v1=>
  br (g.le 0 v1)
  (
   gd (((0:Int)≤v1∧v1<(((g.dlen (t.d_Scan x1)):Nat):Int)))<|
   gt x1 (g.nat v1) fun x2=>
   br (g.le x2.At a3)
   (
    gd (((0:Int)≤v1∧v1<(((g.dlen (t.d_Scan x1)):Nat):Int)))<|
    some (LR.ret (((Scan.mk x2.Thing x2.At x2.Kind x2.Place (Trip.mk x2.Trip.Leg x2.Trip.Day)),true))))
   (
    ct g t a3 x1 n1 (g.wrap .i64 (g.sub v1 1))))
  (
   some (LR.out ()))
def iU (g:G) (t:TE) (a0:Network) (a1:List Scan) (a2:Int) (a3:Int):Option (Scan×Bool):=
 cl (hP g t a0 a1 a2) fun x1=>
 cl (ct g t a3 x1 1000000000 (g.wrap .i64 (g.sub (g.int (g.dlen (t.d_Scan x1))) 1))) fun o1=>lr o1 fun y1=>
 some (((Scan.mk 0 0 0 ByteArray.empty (Trip.mk 0 0)),false))
theorem qq {g:G} {t:TE} {a0:Network} {a1:List Scan} {a2:Int} {a3:Int} {r:Scan×Bool} (hg:g=G.real) (ht:t=TE.real) (h:iU g t a0 a1 a2 a3=some r):Fn Tryz.prog 36 [.g (Network.rs t a0),.c (.s 6 (t.r_Scan a1)),.c (.v (.int .i64 a2)),.c (.v (.int .i64 a3))] (.u [.g (Scan.ds t r.1),.c (.r (.v (.bool r.2)))]):=by
 obtain⟨X,hX⟩:=aH (.u [.g (Scan.ds t r.1),.c (.r (.v (.bool r.2)))]:X);rw[←hX];refine aw (rvs:=rv36) (j:=ir36) Tryz.func36 rfl (by kernel_rfl) (nb rfl) (by kernel_rfl) af ?_;intro g2 F hg2 hF;obtain rfl:g2=g:=hg2.unique.trans hg.symm;clear hg2;obtain⟨wrap,_,le,_,_,_,_,_,_,_,_,_,int,_,sub,_,_,_,_,_,_,_,_,_,dlen⟩:=g2;obtain⟨_,_,_,_,_,d_Scan⟩:=t
 obtain⟨a0_Legs,a0_Off,a0_Change⟩:=a0;unfold iU at h;try dsimp only at h
 cbv;obtain⟨x1,hx1,h⟩:=ac h;try dsimp only at h
 refine ACall.mk _ _ rfl (hF _ _ _ (kC hg ht hx1)) (.inl rfl) (nb rfl) ?_;cbv;obtain⟨o1,ho1,h⟩:=ac h;try dsimp only at h
 try rw[hg] at ho1
 try rw[ht] at ho1
 refine ABL.mk {p:Nat×Int//ct G.real TE.real a3 x1 p.1 p.2=some o1} (fun⟨⟨n1,v1⟩,_⟩=>({sl:=[(3,.c (.r (.v (.int .i64 a3)))),(8,.c (.p 0 6 0 0)),(10,.c (.f 1 6 0 (dlen (d_Scan x1)))),(11,.c (.r (.v (.int .i64 v1))))],tab:=[(0,some (.foc 6 [] [.r (.v (.int .i64 0)),.r (.v (.int .i64 0)),.r (.v (.int .i64 0)),.r (.v (.string ByteArray.empty)),.r (.v (.int .i64 0)),.r (.v (.int .i64 0))] [])),(1,some (.arr 6 (d_Scan x1)))]}:St)) 2 (fun p=>p.1.1) ⟨(1000000000,(wrap .i64 (sub (int (dlen (d_Scan x1))) 1))),ho1⟩ (Unit) (fun _=>({sl:=[(8,.c (.p 0 6 0 0))],tab:=[(0,some (.foc 6 [] [.r (.v (.int .i64 0)),.r (.v (.int .i64 0)),.r (.v (.int .i64 0)),.r (.v (.string ByteArray.empty)),.r (.v (.int .i64 0)),.r (.v (.int .i64 0))] []))]}:St)) 1 (fun y=>o1=LR.out y) ?_ ?_ ?_
 ·refine Wk.of [(0,some 16),(1,some 96)] rfl rfl ?_ ?_
  ·cbv;all_goals exact⟨⟨_,rfl,rfl⟩,⟨_,rfl,rfl⟩,⟨_,rfl,rfl⟩,⟨_,rfl,rfl⟩,trivial⟩
  cbv;all_goals exact⟨⟨_,rfl,_,rfl,rfl,rfl,rfl,rfl,rfl,rfl,trivial⟩,⟨_,rfl,rfl⟩,trivial⟩
 ·rintro⟨⟨n1,v1⟩,h_1⟩ hq1;try dsimp only at h_1
  clear hq1;rcases n1 with _|n1
  ·rw[ct] at h_1;cases h_1
  rw[ct] at h_1;try rw[←hg] at h_1
  try rw[←ht] at h_1
  try dsimp only at h_1
  cbv
  cases hb1:(le 0 v1)
  ·rw[aa hb1] at h_1;cbv;refine⟨(),Wk.of [(0,some 0)] rfl rfl ?_ ?_,(Option.some.inj h_1).symm⟩
   ·cbv;all_goals exact⟨⟨_,rfl,rfl⟩,trivial⟩
   cbv;all_goals exact⟨⟨_,rfl,_,rfl,rfl,rfl,rfl,rfl,rfl,rfl,trivial⟩,trivial⟩
  rw[ab hb1] at h_1;cbv;obtain⟨hc1,h_1⟩:=al h_1;refine AStep.mk hc1 ?_;cbv;obtain⟨x2,hx2,h_1⟩:=aE h_1;obtain⟨x2_Thing,x2_At,x2_Kind,x2_Place,⟨x2_Trip_Leg,x2_Trip_Day⟩⟩:=x2;try dsimp only at h_1
  refine AGet.mk _ (aG hg ht hx2) ?_;cbv
  cases hb2:(le x2_At a3)
  rotate_left
  ·rw[ab hb2] at h_1;cbv;obtain⟨hc2,h_1⟩:=al h_1;refine AStep.mk hc2 ?_;cbv;refine AGet.mk _ (aG hg ht hx2) ?_;cbv;obtain rfl:=Option.some.inj h_1;try dsimp only[lr,lrL,lrp,aR] at h
   obtain rfl:=Option.some.inj h;exact ARet.mk trivial hX.symm
  rw[aa hb2] at h_1;cbv;try rw[hg] at h_1
  try rw[ht] at h_1
  refine⟨⟨(n1,(wrap .i64 (sub v1 1))),h_1⟩,Wk.of [(0,some 0),(1,some 1)] rfl rfl ?_ ?_,Nat.lt_succ_self _⟩
  ·cbv;all_goals exact⟨⟨_,rfl,rfl⟩,⟨_,rfl,rfl⟩,⟨_,rfl,rfl⟩,⟨_,rfl,rfl⟩,trivial⟩
  cbv;all_goals exact⟨⟨_,rfl,_,rfl,rfl,rfl,rfl,rfl,rfl,rfl,trivial⟩,⟨_,rfl,rfl⟩,trivial⟩
 rintro _ hy1;replace hy1:=hy1.symm;subst hy1;try dsimp only[lr,lrL,lrp,aR] at h
 cbv;obtain rfl:=Option.some.inj h;exact ARet.mk trivial hX.symm
def ir35:J:=js [jq 4 (.box 0),jq 8 (.alloc [.r (.v (.int .i64 0)),.r (.v (.int .i64 0)),.r (.v (.int .i64 0)),.r (.v (.string .empty)),.r (.v (.int .i64 0)),.r (.v (.int .i64 0))]),jm 9 kf] [1,2,3,4,8] (js [jl 12 3 4,jm 13 1,jm 14 2,jc 15 33 [12,13,14],jm 10 15] [3,8,10] (.seq (js [jm 16 10,jq 17 (.len false 16),jb 18 .sub .i 17 (ki 1),jm 11 18] [3,8,10,11] (.bl 0 (.seq (js [jm 19 11,jb 20 .geq .i 19 (ki 0)] [3,8,10,11,20] (.cond 20 .skip (.exit 0))) (.seq (.block 1 (js [jm 23 10,jm 24 11,ja 25 6 23 24,jf 26 1 25,jk 27 26,jm 28 3,jb 29 .leq .i 27 28] [3,8,10,11,29] (.cond 29 (js [jm 30 10,jm 31 11,ja 32 6 30 31,jl 33 6 32,jp (.st 6 8 33),jm 9 kt] [8,9] .ret) .skip))) (.reg none [jm 21 11,jb 22 .sub .i 21 (ki 1),jm 11 22] [3,8,10,11]))))) (js [jq 34 (.bld [.r (.v (.int .i64 0)),.r (.v (.int .i64 0)),.r (.v (.int .i64 0)),.r (.v (.string .empty)),.r (.v (.int .i64 0)),.r (.v (.int .i64 0))] []),jp (.st 6 8 34),jm 9 kf] [8,9] .ret)))
def rv35:List RV:=[.c 8 true 6,.t 9]
def eu (g:G) (t:TE) (a3:Int) (x1:List Scan):Nat→Int→Option (LR (Scan×Bool) Unit)
 |0,_=>none
 |n1+1,v1=>
  br (g.le 0 v1)
  (
   gd (((0:Int)≤v1∧v1<(((g.dlen (t.d_Scan x1)):Nat):Int)))<|
   gt x1 (g.nat v1) fun x2=>
   br (g.le x2.At a3)
   (
    gd (((0:Int)≤v1∧v1<(((g.dlen (t.d_Scan x1)):Nat):Int)))<|
    some (LR.ret (((Scan.mk x2.Thing x2.At x2.Kind x2.Place (Trip.mk x2.Trip.Leg x2.Trip.Day)),true))))
   (
    eu g t a3 x1 n1 (g.wrap .i64 (g.sub v1 1))))
  (
   some (LR.out ()))
def iO (g:G) (t:TE) (a0:Network) (a1:List Scan) (a2:Int) (a3:Int):Option (Scan×Bool):=
 cl (jd g t a0 a1 a2) fun x1=>
 cl (eu g t a3 x1 1000000000 (g.wrap .i64 (g.sub (g.int (g.dlen (t.d_Scan x1))) 1))) fun o1=>lr o1 fun y1=>
 some (((Scan.mk 0 0 0 ByteArray.empty (Trip.mk 0 0)),false))
theorem nu {g:G} {t:TE} {a0:Network} {a1:List Scan} {a2:Int} {a3:Int} {r:Scan×Bool} (hg:g=G.real) (ht:t=TE.real) (h:iO g t a0 a1 a2 a3=some r):Fn Tryz.prog 35 [.g (Network.rs t a0),.c (.s 6 (t.r_Scan a1)),.c (.v (.int .i64 a2)),.c (.v (.int .i64 a3))] (.u [.g (Scan.ds t r.1),.c (.r (.v (.bool r.2)))]):=by
 obtain⟨X,hX⟩:=aH (.u [.g (Scan.ds t r.1),.c (.r (.v (.bool r.2)))]:X);rw[←hX];refine aw (rvs:=rv35) (j:=ir35) Tryz.func35 rfl (by kernel_rfl) (nb rfl) (by kernel_rfl) af ?_;intro g2 F hg2 hF;obtain rfl:g2=g:=hg2.unique.trans hg.symm;clear hg2;obtain⟨wrap,_,le,_,_,_,_,_,_,_,_,_,int,_,sub,_,_,_,_,_,_,_,_,_,dlen⟩:=g2;obtain⟨_,_,_,_,_,d_Scan⟩:=t
 obtain⟨a0_Legs,a0_Off,a0_Change⟩:=a0;unfold iO at h;try dsimp only at h
 cbv;obtain⟨x1,hx1,h⟩:=ac h;try dsimp only at h
 refine ACall.mk _ _ rfl (hF _ _ _ (mb hg ht hx1)) (.inl rfl) (nb rfl) ?_;cbv;obtain⟨o1,ho1,h⟩:=ac h;try dsimp only at h
 try rw[hg] at ho1
 try rw[ht] at ho1
 refine ABL.mk {p:Nat×Int//eu G.real TE.real a3 x1 p.1 p.2=some o1} (fun⟨⟨n1,v1⟩,_⟩=>({sl:=[(3,.c (.r (.v (.int .i64 a3)))),(8,.c (.p 0 6 0 0)),(10,.c (.f 1 6 0 (dlen (d_Scan x1)))),(11,.c (.r (.v (.int .i64 v1))))],tab:=[(0,some (.foc 6 [] [.r (.v (.int .i64 0)),.r (.v (.int .i64 0)),.r (.v (.int .i64 0)),.r (.v (.string ByteArray.empty)),.r (.v (.int .i64 0)),.r (.v (.int .i64 0))] [])),(1,some (.arr 6 (d_Scan x1)))]}:St)) 2 (fun p=>p.1.1) ⟨(1000000000,(wrap .i64 (sub (int (dlen (d_Scan x1))) 1))),ho1⟩ (Unit) (fun _=>({sl:=[(8,.c (.p 0 6 0 0))],tab:=[(0,some (.foc 6 [] [.r (.v (.int .i64 0)),.r (.v (.int .i64 0)),.r (.v (.int .i64 0)),.r (.v (.string ByteArray.empty)),.r (.v (.int .i64 0)),.r (.v (.int .i64 0))] []))]}:St)) 1 (fun y=>o1=LR.out y) ?_ ?_ ?_
 ·refine Wk.of [(0,some 16),(1,some 96)] rfl rfl ?_ ?_
  ·cbv;all_goals exact⟨⟨_,rfl,rfl⟩,⟨_,rfl,rfl⟩,⟨_,rfl,rfl⟩,⟨_,rfl,rfl⟩,trivial⟩
  cbv;all_goals exact⟨⟨_,rfl,_,rfl,rfl,rfl,rfl,rfl,rfl,rfl,trivial⟩,⟨_,rfl,rfl⟩,trivial⟩
 ·rintro⟨⟨n1,v1⟩,h_1⟩ hq1;try dsimp only at h_1
  clear hq1;rcases n1 with _|n1
  ·rw[eu] at h_1;cases h_1
  rw[eu] at h_1;try rw[←hg] at h_1
  try rw[←ht] at h_1
  try dsimp only at h_1
  cbv
  cases hb1:(le 0 v1)
  ·rw[aa hb1] at h_1;cbv;refine⟨(),Wk.of [(0,some 0)] rfl rfl ?_ ?_,(Option.some.inj h_1).symm⟩
   ·cbv;all_goals exact⟨⟨_,rfl,rfl⟩,trivial⟩
   cbv;all_goals exact⟨⟨_,rfl,_,rfl,rfl,rfl,rfl,rfl,rfl,rfl,trivial⟩,trivial⟩
  rw[ab hb1] at h_1;cbv;obtain⟨hc1,h_1⟩:=al h_1;refine AStep.mk hc1 ?_;cbv;obtain⟨x2,hx2,h_1⟩:=aE h_1;obtain⟨x2_Thing,x2_At,x2_Kind,x2_Place,⟨x2_Trip_Leg,x2_Trip_Day⟩⟩:=x2;try dsimp only at h_1
  refine AGet.mk _ (aG hg ht hx2) ?_;cbv
  cases hb2:(le x2_At a3)
  rotate_left
  ·rw[ab hb2] at h_1;cbv;obtain⟨hc2,h_1⟩:=al h_1;refine AStep.mk hc2 ?_;cbv;refine AGet.mk _ (aG hg ht hx2) ?_;cbv;obtain rfl:=Option.some.inj h_1;try dsimp only[lr,lrL,lrp,aR] at h
   obtain rfl:=Option.some.inj h;exact ARet.mk trivial hX.symm
  rw[aa hb2] at h_1;cbv;try rw[hg] at h_1
  try rw[ht] at h_1
  refine⟨⟨(n1,(wrap .i64 (sub v1 1))),h_1⟩,Wk.of [(0,some 0),(1,some 1)] rfl rfl ?_ ?_,Nat.lt_succ_self _⟩
  ·cbv;all_goals exact⟨⟨_,rfl,rfl⟩,⟨_,rfl,rfl⟩,⟨_,rfl,rfl⟩,⟨_,rfl,rfl⟩,trivial⟩
  cbv;all_goals exact⟨⟨_,rfl,_,rfl,rfl,rfl,rfl,rfl,rfl,rfl,trivial⟩,⟨_,rfl,rfl⟩,trivial⟩
 rintro _ hy1;replace hy1:=hy1.symm;subst hy1;try dsimp only[lr,lrL,lrp,aR] at h
 cbv;obtain rfl:=Option.some.inj h;exact ARet.mk trivial hX.symm
def ir39:J:=js [jq 4 (.box 0),jq 8 (.alloc [.r (.v (.int .i64 0)),.r (.v (.int .i64 0)),.r (.v (.int .i64 0)),.r (.v (.string .empty)),.r (.v (.int .i64 0)),.r (.v (.int .i64 0))]),jm 9 kf] [1,2,3,4,8] (.seq (js [jl 12 3 4,jm 13 1,jm 14 2,jc 15 34 [12,13,14],jq 16 (.len false 15),jm 17 (ki 0)] [3,8,15,16,17] (.bl 0 (js [jb 18 .lss .i 17 16] [3,8,15,16,17,18] (.seq (.cond 18 .skip (.exit 0)) (.seq (.block 1 (js [ja 19 6 15 17,jl 20 6 19,jq 11 (.alloc [.r (.v (.int .i64 0)),.r (.v (.int .i64 0)),.r (.v (.int .i64 0)),.r (.v (.string .empty)),.r (.v (.int .i64 0)),.r (.v (.int .i64 0))]),jp (.st 6 11 20)] [3,8,11,15,16,17] (js [jf 21 1 11,jk 22 21,jm 23 3,jb 24 .gtr .i 22 23] [3,8,11,15,16,17,24] (.cond 24 (js [jl 25 6 11,jp (.st 6 8 25),jm 9 kt] [8,9] .ret) .skip)))) (.reg none [jb 26 .add .i 17 (ki 1),jm 17 26] [3,8,15,16,17])))))) (js [jq 27 (.bld [.r (.v (.int .i64 0)),.r (.v (.int .i64 0)),.r (.v (.int .i64 0)),.r (.v (.string .empty)),.r (.v (.int .i64 0)),.r (.v (.int .i64 0))] []),jp (.st 6 8 27),jm 9 kf] [8,9] .ret))
def rv39:List RV:=[.c 8 true 6,.t 9]
def cv (g:G) (t:TE) (a3:Int) (x1:List Scan):Nat→Int→Option (LR (Scan×Bool) Unit)
 |0,v1=>
  some (LR.out ())
 |n1+1,v1=>
  gt x1 (g.nat v1) fun x2=>
  br (g.lt a3 x2.At)
  (
   some (LR.ret (((Scan.mk x2.Thing x2.At x2.Kind x2.Place (Trip.mk x2.Trip.Leg x2.Trip.Day)),true))))
  (
   cv g t a3 x1 n1 (g.wrap .i64 (g.add v1 1)))
def iW (g:G) (t:TE) (a0:Network) (a1:List Scan) (a2:Int) (a3:Int):Option (Scan×Bool):=
 cl (hP g t a0 a1 a2) fun x1=>
 gd (((g.int (g.dlen (t.d_Scan x1)))≤9223372036854775807))<|
 cl (cv g t a3 x1 (ay 0 (g.int (g.dlen (t.d_Scan x1)))) 0) fun o1=>lr o1 fun y1=>
 some (((Scan.mk 0 0 0 ByteArray.empty (Trip.mk 0 0)),false))
theorem p8 {g:G} {t:TE} {a0:Network} {a1:List Scan} {a2:Int} {a3:Int} {r:Scan×Bool} (hg:g=G.real) (ht:t=TE.real) (h:iW g t a0 a1 a2 a3=some r):Fn Tryz.prog 39 [.g (Network.rs t a0),.c (.s 6 (t.r_Scan a1)),.c (.v (.int .i64 a2)),.c (.v (.int .i64 a3))] (.u [.g (Scan.ds t r.1),.c (.r (.v (.bool r.2)))]):=by
 obtain⟨X,hX⟩:=aH (.u [.g (Scan.ds t r.1),.c (.r (.v (.bool r.2)))]:X);rw[←hX];refine aw (rvs:=rv39) (j:=ir39) Tryz.func39 rfl (by kernel_rfl) (nb rfl) (by kernel_rfl) af ?_;intro g2 F hg2 hF;obtain rfl:g2=g:=hg2.unique.trans hg.symm;clear hg2;obtain⟨wrap,lt,_,_,_,_,_,_,_,_,_,_,int,add,_,_,_,_,_,_,_,_,_,_,dlen⟩:=g2;obtain⟨_,_,_,_,_,d_Scan⟩:=t
 obtain⟨a0_Legs,a0_Off,a0_Change⟩:=a0;unfold iW at h;try dsimp only at h
 cbv;obtain⟨x1,hx1,h⟩:=ac h;try dsimp only at h
 refine ACall.mk _ _ rfl (hF _ _ _ (kC hg ht hx1)) (.inl rfl) (nb rfl) ?_;cbv;obtain⟨hB1,h⟩:=al h;obtain⟨o1,ho1,h⟩:=ac h;try dsimp only at h
 try rw[hg] at ho1
 try rw[ht] at ho1
 refine ABL.mk {p:Nat×Int//p.1=ay p.2 (int (dlen (d_Scan x1)))∧0≤p.2∧cv G.real TE.real a3 x1 p.1 p.2=some o1} (fun⟨⟨n1,v1⟩,_⟩=>({sl:=[(3,.c (.r (.v (.int .i64 a3)))),(8,.c (.p 0 6 0 0)),(15,.c (.f 1 6 0 (dlen (d_Scan x1)))),(16,.c (.r (.v (.int .i64 (int (dlen (d_Scan x1))))))),(17,.c (.r (.v (.int .i64 v1))))],tab:=[(0,some (.foc 6 [] [.r (.v (.int .i64 0)),.r (.v (.int .i64 0)),.r (.v (.int .i64 0)),.r (.v (.string ByteArray.empty)),.r (.v (.int .i64 0)),.r (.v (.int .i64 0))] [])),(1,some (.arr 6 (d_Scan x1)))]}:St)) 2 (fun p=>p.1.1) ⟨(ay 0 (int (dlen (d_Scan x1))),0),rfl,Int.le_refl _,ho1⟩ (Unit) (fun _=>({sl:=[(8,.c (.p 0 6 0 0))],tab:=[(0,some (.foc 6 [] [.r (.v (.int .i64 0)),.r (.v (.int .i64 0)),.r (.v (.int .i64 0)),.r (.v (.string ByteArray.empty)),.r (.v (.int .i64 0)),.r (.v (.int .i64 0))] []))]}:St)) 1 (fun y=>o1=LR.out y) ?_ ?_ ?_
 ·refine Wk.of [(0,some 16),(1,some 96)] rfl rfl ?_ ?_
  ·cbv;all_goals exact⟨⟨_,rfl,rfl⟩,⟨_,rfl,rfl⟩,⟨_,rfl,rfl⟩,⟨_,rfl,rfl⟩,⟨_,rfl,rfl⟩,trivial⟩
  cbv;all_goals exact⟨⟨_,rfl,_,rfl,rfl,rfl,rfl,rfl,rfl,rfl,trivial⟩,⟨_,rfl,rfl⟩,trivial⟩
 ·rintro⟨⟨n1,v1⟩,hn1,hi1,h_1⟩ hq1;try dsimp only at hn1 hi1 h_1
  clear hq1;cbv;rcases n1 with _|n1
  ·have hb1:lt v1 (int (dlen (d_Scan x1)))=false:=bu hg hn1;rw[cv] at h_1;try rw[←hg] at h_1
   try rw[←ht] at h_1
   try dsimp only at h_1
   rw[hb1];cbv;refine⟨(),Wk.of [(0,some 0)] rfl rfl ?_ ?_,(Option.some.inj h_1).symm⟩
   ·cbv;all_goals exact⟨⟨_,rfl,rfl⟩,trivial⟩
   cbv;all_goals exact⟨⟨_,rfl,_,rfl,rfl,rfl,rfl,rfl,rfl,rfl,trivial⟩,trivial⟩
  have hb1:lt v1 (int (dlen (d_Scan x1)))=true:=bF hg hn1;have hl1:=d8 hn1;have hs1:=cM hg hn1 hi1 hB1 (by decide);rw[cv] at h_1;try rw[←hg] at h_1
  try rw[←ht] at h_1
  try dsimp only at h_1
  rw[hb1];cbv;refine AStep.mk (dR hg hi1 hl1) ?_;cbv;obtain⟨x2,hx2,h_1⟩:=aE h_1;obtain⟨x2_Thing,x2_At,x2_Kind,x2_Place,⟨x2_Trip_Leg,x2_Trip_Day⟩⟩:=x2;try dsimp only at h_1
  refine AGet.mk _ (aG hg ht hx2) ?_;cbv
  cases hb2:(lt a3 x2_At)
  rotate_left
  ·rw[ab hb2] at h_1;cbv;obtain rfl:=Option.some.inj h_1;try dsimp only[lr,lrL,lrp,aR] at h
   obtain rfl:=Option.some.inj h;exact ARet.mk trivial hX.symm
  rw[aa hb2] at h_1;cbv;try rw[hg] at h_1
  try rw[ht] at h_1
  refine⟨⟨(n1,(wrap .i64 (add v1 1))),hs1.1,hs1.2,h_1⟩,Wk.of [(0,some 0),(1,some 1)] rfl rfl ?_ ?_,Nat.lt_succ_self _⟩
  ·cbv;all_goals exact⟨⟨_,rfl,rfl⟩,⟨_,rfl,rfl⟩,⟨_,rfl,rfl⟩,⟨_,rfl,rfl⟩,⟨_,rfl,rfl⟩,trivial⟩
  cbv;all_goals exact⟨⟨_,rfl,_,rfl,rfl,rfl,rfl,rfl,rfl,rfl,trivial⟩,⟨_,rfl,rfl⟩,trivial⟩
 rintro _ hy1;replace hy1:=hy1.symm;subst hy1;try dsimp only[lr,lrL,lrp,aR] at h
 cbv;obtain rfl:=Option.some.inj h;exact ARet.mk trivial hX.symm
end Go.Vs
